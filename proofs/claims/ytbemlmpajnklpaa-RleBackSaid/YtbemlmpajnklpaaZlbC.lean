/- zlib.Unpack of stored blocks. -/
import Derived.Test.YtbemlmpajnklpaaZlbB
namespace Go.Proofs.Ytbemlmpajnklpaa
set_option linter.unusedSimpArgs false
set_option linter.unusedVariables false
open Go.RowKit
theorem own_slice4 {w : World} {base n : Nat} {e : TypeId} {v : Value} {xs : List Value} (h : w.ownsRow base e 1 v n xs) : ∃ (K : Option Addr) (c : Nat), v = .slice K n c ∧ Cells w K xs ∧ (K = none → n = 0 ∧ c = 0) ∧ n ≤ c ∧ c ≤ 9223372036854775807 := by
  rcases h.2 with ⟨rfl, rfl⟩ | ⟨g, c, cur, rfl, _, _, h2, h3, _⟩
  · have hx : xs = [] := List.eq_nil_of_length_eq_zero (by simpa using h.1)
    subst hx
    exact ⟨none, 0, rfl, fun i v hi => by simp at hi, fun _ => ⟨rfl, rfl⟩, Nat.le_refl _, by omega⟩
  · exact ⟨_, c, rfl, fun i v hi => ⟨_, rfl, h.cells (g := g) rfl i v hi⟩, (fun e => by simp at e), h2, by unfold maxLen at h3; omega⟩
def UnpE (k : Int) (w : World) (e : Ending) (w' : World) : Prop := e = .returned (.tuple #[.slice none 0 0, .int .i64 0, .int .i64 k]) ∧ Below w.heap.size w w'
def UnpO (out : List Int) (m : Nat) (w : World) (e : Ending) (w' : World) : Prop := ∃ K c, e = .returned (.tuple #[.slice K out.length c, .int .i64 m, .int .i64 0]) ∧ out.length ≤ c ∧ Ints w' K .u8 out ∧ Below w.heap.size w w'
set_option maxRecDepth 100000 in
set_option maxHeartbeats 4000000 in
theorem unpack_head (A : Option Addr) (n c : Nat) (lim k : Int) (w : World) (hl0 : 0 ≤ lim) (hl : lim ≤ 1048576) (hk : k ≠ 0) (H : Calls Try.prog 24 #[.slice A n c] w fun e w' => e = .returned (.int .i64 k) ∧ Drew w w') :
    Calls Try.prog 16 #[.slice A n c, .int .i64 lim] w (UnpE k w) := by
  have HH := Lib.hid H
  have hl1 : ¬ (lim < 0) := by omega
  have hk1 : ((k : Int) != 0) = true := by simpa using hk
  clear H hk
  go_enter Try.func16, Try.ntmps16
  go_wp2_with (first
    | (go_at_call 24; refine HH.out.mono ?_; rintro e w1 ⟨rfl, q1, rfl⟩))
  go_ret3
  exact ⟨rfl, Below_drewN (Below.refl _ w) q1⟩
set_option maxRecDepth 100000 in
set_option maxHeartbeats 4000000 in
theorem unpack_err (ad : Addr) (n c : Nat) (bs : List Int) (f : Nat) (lim k : Int) (w : World) (h : Ints w (some ad) .u8 bs) (hr : ∀ x ∈ bs, 0 ≤ x ∧ x ≤ 255) (hn : bs.length = n) (h2 : 2 ≤ n) (h2c : 2 < c) (hc : n ≤ c) (hm : n ≤ 1000000) (had : ad.block < w.heap.size) (hl0 : 0 ≤ lim) (hl : lim ≤ 1048576)
    (H : Calls Try.prog 24 #[.slice (some ad) n c] w fun e w' => e = .returned (.int .i64 0) ∧ Drew w w') (hi : Hf.inf f (bs.drop 2) 0 [] lim = .err k) :
    Calls Try.prog 16 #[.slice (some ad) n c, .int .i64 lim] w (UnpE k w) := by
  have HH := Lib.hid H
  have HI := Lib.hid (fun q => inflate_any (some (ad.add 2)) (n - 2) (c - 2) (bs.drop 2) lim f (w.drewN q) ((ints_drop h 2).drewN q) (fun x hx => hr x (List.mem_of_mem_drop hx)) (by rw [List.length_drop, hn]) (by omega) (by omega) (fun a e => by injection e with e; rw [← e, block_of_add]; exact had) hl0 hl (by rw [hi]; intro e; cases e))
  rw [hi] at HI
  have hl1 : ¬ (lim < 0) := by omega
  have hc2 : ¬ (c = 2) := by omega
  have hn2 : (2 : Int) ≤ n := by omega
  clear H h hr hn hi had
  go_enter Try.func16, Try.ntmps16
  go_wp2_with (first
    | (go_at_call 25; refine (HI.out q1).mono ?_; rintro e w2 ⟨hb2, rfl, hk2⟩; have HB2 := Lib.hid hb2; have HK2 := Lib.hid hk2; have hk1 : ((k : Int) != 0) = true := by simpa using HK2.out
       clear hb2 hk2)
    | (go_at_call 24; refine HH.out.mono ?_; rintro e w1 ⟨rfl, q1, rfl⟩))
  go_ret3
  exact ⟨rfl, (Below_drewN (Below.refl _ w) q1).trans HB2.out⟩
set_option maxRecDepth 100000 in
set_option maxHeartbeats 4000000 in
theorem unpack_short (ad : Addr) (n c : Nat) (bs : List Int) (f : Nat) (lim : Int) (out : List Int) (m : Nat) (w : World) (h : Ints w (some ad) .u8 bs) (hr : ∀ x ∈ bs, 0 ≤ x ∧ x ≤ 255) (hn : bs.length = n) (h2 : 2 ≤ n) (h2c : 2 < c) (hc : n ≤ c) (hm : n ≤ 1000000) (had : ad.block < w.heap.size) (hl0 : 0 ≤ lim) (hl : lim ≤ 1048576)
    (H : Calls Try.prog 24 #[.slice (some ad) n c] w fun e w' => e = .returned (.int .i64 0) ∧ Drew w w') (hi : Hf.inf f (bs.drop 2) 0 [] lim = .ok out m) (hmn : 2 + m ≤ n) (hs : n < 6 + m) :
    Calls Try.prog 16 #[.slice (some ad) n c, .int .i64 lim] w (UnpE 2 w) := by
  have HH := Lib.hid H
  have HI := Lib.hid (fun q => inflate_any (some (ad.add 2)) (n - 2) (c - 2) (bs.drop 2) lim f (w.drewN q) ((ints_drop h 2).drewN q) (fun x hx => hr x (List.mem_of_mem_drop hx)) (by rw [List.length_drop, hn]) (by omega) (by omega) (fun a e => by injection e with e; rw [← e, block_of_add]; exact had) hl0 hl (by rw [hi]; intro e; cases e))
  rw [hi] at HI
  have hl1 : ¬ (lim < 0) := by omega
  have hc2 : ¬ (c = 2) := by omega
  have hn2 : (2 : Int) ≤ n := by omega
  have hs2 : ((n - (2 + m) : Nat) : Int) < 4 := by omega
  clear H h hr hn hi had
  go_enter Try.func16, Try.ntmps16
  go_wp2_with (first
    | (go_at_call 25; refine (HI.out q1).mono ?_; rintro e w2 ⟨hb2, v2, rfl, ho2⟩; have HB2 := Lib.hid hb2; have HO2 := Lib.hid ho2; clear hb2 ho2)
    | (go_at_call 24; refine HH.out.mono ?_; rintro e w1 ⟨rfl, q1, rfl⟩))
  all_goals
    go_ret3
    exact ⟨rfl, (Below_drewN (Below.refl _ w) q1).trans HB2.out⟩
set_option maxRecDepth 100000 in
set_option maxHeartbeats 4000000 in
theorem unpack_sum (ad : Addr) (n c : Nat) (bs : List Int) (f : Nat) (lim : Int) (out : List Int) (m : Nat) (w : World) (h : Ints w (some ad) .u8 bs) (hr : ∀ x ∈ bs, 0 ≤ x ∧ x ≤ 255) (hn : bs.length = n) (h2 : 2 ≤ n) (h2c : 2 < c) (hc : n ≤ c) (hm : n ≤ 1000000) (had : ad.block < w.heap.size) (hl0 : 0 ≤ lim) (hl : lim ≤ 1048576)
    (H : Calls Try.prog 24 #[.slice (some ad) n c] w fun e w' => e = .returned (.int .i64 0) ∧ Drew w w') (hi : Hf.inf f (bs.drop 2) 0 [] lim = .ok out m) (hs : 6 + m ≤ n) (hor : ∀ x ∈ out, 0 ≤ x ∧ x ≤ 255) (hol : out.length ≤ 1000000) (hq : Zl.be (bs.drop (2 + m)) 4 ≠ Ad.of out) :
    Calls Try.prog 16 #[.slice (some ad) n c, .int .i64 lim] w (UnpE 7 w) := by
  have HH := Lib.hid H
  have HI := Lib.hid (fun q => inflate_any (some (ad.add 2)) (n - 2) (c - 2) (bs.drop 2) lim f (w.drewN q) ((ints_drop h 2).drewN q) (fun x hx => hr x (List.mem_of_mem_drop hx)) (by rw [List.length_drop, hn]) (by omega) (by omega) (fun a e => by injection e with e; rw [← e, block_of_add]; exact had) hl0 hl (by rw [hi]; intro e; cases e))
  rw [hi] at HI
  have HNB := Lib.hid (fun q u (hu : Below w.heap.size w u) => number_any (ad.add (2 + m)) (n - (2 + m)) (c - (2 + m)) (bs.drop (2 + m)) (u.drewN q) ((ints_drop (Cells.below h hu) (2 + m)).drewN q) (fun x hx => hr x (List.mem_of_mem_drop hx)) (by rw [List.length_drop, hn]) (by omega) (by omega) (by omega))
  have HOF := Lib.hid (fun u gp K cv (hp : World.cell? u ⟨gp, 0, none⟩ = some (.slice K out.length cv)) (hi : Ints u K .u8 out) (hcv : out.length ≤ cv) (hcv2 : cv ≤ 9223372036854775807) (hK : K = none → out.length = 0 ∧ cv = 0) => of_any gp K out.length cv out u hp hi hor rfl hcv hcv2 hol hK)
  obtain ⟨S, hS⟩ : ∃ S, S = Ad.of out := ⟨_, rfl⟩
  obtain ⟨T, hT⟩ : ∃ T, T = Zl.be (bs.drop (2 + m)) 4 := ⟨_, rfl⟩
  rw [← hS] at HOF hq
  rw [← hT] at HNB hq
  obtain ⟨ol, hoo⟩ : ∃ ol, ol = out.length := ⟨_, rfl⟩
  rw [← hoo] at HOF hol
  have HOO := Lib.hid hoo
  have hl1 : ¬ (lim < 0) := by omega
  have hc2 : ¬ (c = 2) := by omega
  have hcm : ¬ (c = 2 + m) := by omega
  have hn2 : (2 : Int) ≤ n := by omega
  have hs2 : ¬ (((n - (2 + m) : Nat) : Int) < 4) := by omega
  have hq1 : ((T : Int) != S) = true := by simpa using hq
  clear H h hr hn hi had hor hS hT hoo hq
  go_enter Try.func16, Try.ntmps16
  go_wp2_with (first
    | (go_at_call 18; refine (HOF.out _ w2.heap.size K2 c2 ((Blk.new w2 _ [_]).cell 0) (Cells.below HC2.out ((Below.refl _ w2).alloc (Nat.le_refl _) _)) HX2.out.1 HX2.out.2 HN2.out).mono ?_; rintro e w4 ⟨rfl, hb4⟩; have HB4 : Hid (Below w2.heap.size w2 w4) := ((Below.refl _ w2).alloc (Nat.le_refl _) _).trans (hb4.mono (by simp)); clear hb4)
    | (go_at_call 26; refine (HNB.out 0 w2 HB2.out).mono ?_; rintro e w3 ⟨rfl, rfl⟩)
    | (go_at_call 25; refine (HI.out q1).mono ?_; rintro e w2 ⟨hb2, v2, rfl, ho2⟩; obtain ⟨K2, c2, rfl, hcc, hnn, hx1, hx2⟩ := own_slice4 ho2; have HB2 := Lib.hid ((Below_drewN (Below.refl _ w) q1).trans hb2); have HC2 : Hid (Ints w2 K2 .u8 out) := hcc; rw [← HOO.out] at hnn hx1; have HN2 := Lib.hid hnn; have HX2 := Lib.hid (And.intro hx1 hx2); rw [← HOO.out]; clear hb2 ho2 hcc hnn hx1 hx2)
    | (go_at_call 24; refine HH.out.mono ?_; rintro e w1 ⟨rfl, q1, rfl⟩))
  go_ret3
  exact ⟨rfl, HB2.out.trans (HB4.out.mono HB2.out.size)⟩
set_option maxRecDepth 100000 in
set_option maxHeartbeats 4000000 in
theorem unpack_ok (ad : Addr) (n c : Nat) (bs : List Int) (f : Nat) (lim : Int) (out : List Int) (m : Nat) (w : World) (h : Ints w (some ad) .u8 bs) (hr : ∀ x ∈ bs, 0 ≤ x ∧ x ≤ 255) (hn : bs.length = n) (h2 : 2 ≤ n) (h2c : 2 < c) (hc : n ≤ c) (hm : n ≤ 1000000) (had : ad.block < w.heap.size) (hl0 : 0 ≤ lim) (hl : lim ≤ 1048576)
    (H : Calls Try.prog 24 #[.slice (some ad) n c] w fun e w' => e = .returned (.int .i64 0) ∧ Drew w w') (hi : Hf.inf f (bs.drop 2) 0 [] lim = .ok out m) (hs : 6 + m ≤ n) (hor : ∀ x ∈ out, 0 ≤ x ∧ x ≤ 255) (hol : out.length ≤ 1000000) (hq : Zl.be (bs.drop (2 + m)) 4 = Ad.of out) :
    Calls Try.prog 16 #[.slice (some ad) n c, .int .i64 lim] w (UnpO out (6 + m) w) := by
  have HH := Lib.hid H
  have HI := Lib.hid (fun q => inflate_any (some (ad.add 2)) (n - 2) (c - 2) (bs.drop 2) lim f (w.drewN q) ((ints_drop h 2).drewN q) (fun x hx => hr x (List.mem_of_mem_drop hx)) (by rw [List.length_drop, hn]) (by omega) (by omega) (fun a e => by injection e with e; rw [← e, block_of_add]; exact had) hl0 hl (by rw [hi]; intro e; cases e))
  rw [hi] at HI
  have HNB := Lib.hid (fun q u (hu : Below w.heap.size w u) => number_any (ad.add (2 + m)) (n - (2 + m)) (c - (2 + m)) (bs.drop (2 + m)) (u.drewN q) ((ints_drop (Cells.below h hu) (2 + m)).drewN q) (fun x hx => hr x (List.mem_of_mem_drop hx)) (by rw [List.length_drop, hn]) (by omega) (by omega) (by omega))
  have HOF := Lib.hid (fun u gp K cv (hp : World.cell? u ⟨gp, 0, none⟩ = some (.slice K out.length cv)) (hi : Ints u K .u8 out) (hcv : out.length ≤ cv) (hcv2 : cv ≤ 9223372036854775807) (hK : K = none → out.length = 0 ∧ cv = 0) => of_any gp K out.length cv out u hp hi hor rfl hcv hcv2 hol hK)
  obtain ⟨S, hS⟩ : ∃ S, S = Ad.of out := ⟨_, rfl⟩
  obtain ⟨T, hT⟩ : ∃ T, T = Zl.be (bs.drop (2 + m)) 4 := ⟨_, rfl⟩
  rw [← hS] at HOF hq
  rw [← hT] at HNB hq
  obtain ⟨ol, hoo⟩ : ∃ ol, ol = out.length := ⟨_, rfl⟩
  rw [← hoo] at HOF hol
  have HOO := Lib.hid hoo
  have hl1 : ¬ (lim < 0) := by omega
  have hc2 : ¬ (c = 2) := by omega
  have hcm : ¬ (c = 2 + m) := by omega
  have hn2 : (2 : Int) ≤ n := by omega
  have hs2 : ¬ (((n - (2 + m) : Nat) : Int) < 4) := by omega
  have hq1 : ((T : Int) != S) = false := by simpa using hq
  clear H h hr hn hi had hor hS hT hoo hq
  go_enter Try.func16, Try.ntmps16
  go_wp2_with (first
    | (go_at_call 18; refine (HOF.out _ w2.heap.size K2 c2 ((Blk.new w2 _ [_]).cell 0) (Cells.below HC2.out ((Below.refl _ w2).alloc (Nat.le_refl _) _)) HX2.out.1 HX2.out.2 HN2.out).mono ?_; rintro e w4 ⟨rfl, hb4⟩; have HB4 : Hid (Below w2.heap.size w2 w4) := ((Below.refl _ w2).alloc (Nat.le_refl _) _).trans (hb4.mono (by simp)); clear hb4)
    | (go_at_call 26; refine (HNB.out 0 w2 HB2.out).mono ?_; rintro e w3 ⟨rfl, rfl⟩)
    | (go_at_call 25; refine (HI.out q1).mono ?_; rintro e w2 ⟨hb2, v2, rfl, ho2⟩; obtain ⟨K2, c2, rfl, hcc, hnn, hx1, hx2⟩ := own_slice4 ho2; have HB2 := Lib.hid ((Below_drewN (Below.refl _ w) q1).trans hb2); have HC2 : Hid (Ints w2 K2 .u8 out) := hcc; rw [← HOO.out] at hnn hx1; have HN2 := Lib.hid hnn; have HX2 := Lib.hid (And.intro hx1 hx2); rw [← HOO.out]; clear hb2 ho2 hcc hnn hx1 hx2)
    | (go_at_call 24; refine HH.out.mono ?_; rintro e w1 ⟨rfl, q1, rfl⟩))
  go_ret3
  have e6 : ((6 + m : Nat) : Int) = 2 + (m : Int) + 4 := by omega
  refine ⟨K2, c2, ?_, by rw [← HOO.out]; exact HX2.out.1, Cells.below HC2.out HB4.out, HB2.out.trans (HB4.out.mono HB2.out.size)⟩
  rw [← HOO.out, e6]
  rfl
end Go.Proofs.Ytbemlmpajnklpaa
