/- huff.Bits.Bytes. -/
import Derived.Test.YtcjdeinmmokdgaaInfA
import Derived.Test.YtcjdeinmmokdgaaMemE
import Derived.BigRegion
namespace Go.Proofs.Ytcjdeinmmokdgaa
set_option linter.unusedSimpArgs false
set_option linter.unusedVariables false
open Go.RowKit
theorem infoByte : (Try.prog.info? 5).map (fun i => (i.zero, i.size, i.bytes)) = some (some (.int .u8 0), 1, 1) := by kernel_rfl
/-- bytes were taken: they lie in a new block -/
def BytesP (r : Nat) (A : Option Addr) (c : Nat) (bs : List Int) (j n : Nat) (w : World) (e : Ending) (w' : World) : Prop :=
  ∃ v, e = .returned (.tuple #[v, .bool true]) ∧ w'.ownsRow w.heap.size 5 1 v n (((bs.drop j).take n).map (.int .u8)) ∧ BitsAt w' r A c bs (8 * (j + n)) ∧ w.grownBy w' (some r)
theorem own_base {w : World} {b b' n size : Nat} {e : TypeId} {v : Value} {xs : List Value} (h : w.ownsRow b e size v n xs) (hb : b' ≤ b) : w.ownsRow b' e size v n xs := by
  refine ⟨h.1, ?_⟩
  rcases h.2 with h0 | ⟨g, c, cur, h1, h2, h3⟩
  · exact .inl h0
  · exact .inr ⟨g, c, cur, h1, by omega, h3⟩
theorem ints_cut {w : World} {A : Option Addr} {kd : IntKind} {l : List Int} (h : Ints w A kd l) (j n : Nat) (a : Addr) (ha : A = some a) : Ints w (some (a.add j)) kd ((l.drop j).take n) := fun i v hi => by
  rw [List.getElem?_map, List.getElem?_take] at hi
  split at hi
  · rw [List.getElem?_drop] at hi
    obtain ⟨ad, e, hc⟩ := h (j + i) v (by rw [List.getElem?_map]; exact hi)
    rw [ha] at e
    injection e with e
    subst e
    refine ⟨_, rfl, ?_⟩
    rw [← hc]
    congr 1
    unfold Addr.add
    split <;> split <;> simp_all <;> omega
  · cases hi
set_option maxRecDepth 100000 in
set_option maxHeartbeats 4000000 in
theorem bytes_any (r : Nat) (A : Option Addr) (c : Nat) (bs : List Int) (j n : Nat) (w : World) (h : BitsAt w r A c bs (8 * j)) (h0 : 0 < bs.length) (hjc0 : j < c) (hn : n ≤ 1000000) (hin : j + n ≤ bs.length) :
    Calls Try.prog 31 #[.pointer (some ⟨r, 0, none⟩), .int .i64 n] w (BytesP r A c bs j n w) := by
  obtain ⟨ad, rfl⟩ : ∃ ad, A = some ad := by
    obtain ⟨_, hi, _⟩ := h
    obtain ⟨x0, hx0⟩ : ∃ x, bs[0]? = some x := ⟨_, List.getElem?_eq_getElem (by omega)⟩
    obtain ⟨ad, e, -⟩ := hi 0 (.int .u8 x0) (by rw [List.getElem?_map, hx0]; rfl)
    exact ⟨ad, e⟩
  have HAL := Lib.hid (align_any r (some ad) c bs (8 * j) w h)
  have e8 : (8 * j + 7) / 8 * 8 = 8 * j := by omega
  rw [e8] at HAL
  have HLE := Lib.hid (fun u (hu : BitsAt u r (some ad) c bs (8 * j)) => left_any r (some ad) c bs (8 * j) u hu)
  have HIN := Lib.hid hin; have H0 := Lib.hid h0; have HJC := Lib.hid hjc0
  have hl47 : bs.length ≤ 140737488355328 := by obtain ⟨_, _, _, _, h5, _⟩ := h; exact h5
  have HL47 := Lib.hid hl47
  obtain ⟨lf, hlf⟩ : ∃ lf, lf = 8 * bs.length - 8 * j := ⟨_, rfl⟩
  rw [← hlf] at HLE
  have hlf2 : ¬ ((lf : Int) / 8 < (n : Int)) := by omega
  have hlf0 : (0 : Int) ≤ (lf : Int) := by omega
  have hlf1 : (lf : Int) ≤ 1125899906842624 := by omega
  have hn0 : ¬ ((n : Int) < 0) := by omega
  have hj47 : j ≤ 140737488355328 := by omega
  clear h h0 hjc0 hin hlf hl47 e8
  go_enter Try.func31, Try.ntmps31
  go_wp2_with (first
    | (at_builtin; rw [← HWS.out]; refine wpList_appAny _ rfl (.tmp 36) (.tmp 45) 22 rfl w1.heap.size 5 (.int .u8 0) 1 Try.underlying22 infoByte rfl _ 0 [] rfl HOS.out (some (ad.add j)) (j + n - j) (c - j) (((bs.drop j).take n).map (.int .u8 ·)) rfl (by rw [List.length_map, HLN.out]; omega) HIS.out (fun h => by cases h) (fun u hu => by obtain ⟨x, -, rfl⟩ := List.mem_map.1 hu; rfl) (by unfold maxLen; omega) (by omega) HSZ.out ?_; intro v3 w3 hown3 hg3; have HO3 := Lib.hid hown3; have HG3 := Lib.hid hg3; clear hown3 hg3)
    | (go_at_call 30; refine HAL.out.mono ?_; rintro e w1 ⟨rfl, hb1, hg1⟩; have HB1 := Lib.hid hb1; have HG1 := Lib.hid hg1; clear hb1 hg1)
    | (go_at_call 28
       refine (HLE.out w1 HB1.out).mono ?_
       rintro e w2 ⟨rfl, q2, rfl⟩
       obtain ⟨hk, hi, hrg, hp, h47, hcap⟩ := (HB1.out.drewN q2)
       obtain ⟨x0, hx0⟩ : ∃ x, bs[0]? = some x := ⟨_, List.getElem?_eq_getElem (by have := H0.out; omega)⟩
       obtain ⟨ad', hae, hcl⟩ := hi 0 (.int .u8 x0) (by rw [List.getElem?_map, hx0]; rfl)
       injection hae with hae
       subst hae
       have hadl : ad.block < w1.heap.size := by have := block_lt_of_cell hcl; rw [block_of_add] at this; exact this
       have HI := Lib.hid hi
       obtain ⟨m, hm⟩ : ∃ m, m = bs.length := ⟨_, rfl⟩
       rw [← hm] at hk hcap
       have c0 : (w1.drewN q2).cell? ⟨r, 0, none⟩ = some (.slice (some ad) m c) := hk.cell 0
       have c1 : (w1.drewN q2).cell? ⟨r, 1, none⟩ = some (.int .i64 ((8 * j : Nat) : Int)) := hk.cell 1
       have f1 := hk.frozen 1
       rw [show ((8 * j : Nat) : Int) = 8 * (j : Int) by simp] at c1
       have hb3 := (HB1.out.drewN q2).set (8 * (j + n)) (by have := HIN.out; omega)
       rw [show ((8 * (j + n) : Nat) : Int) = 8 * (j : Int) + 8 * (n : Int) by simp; omega] at hb3
       obtain ⟨wT, hwT⟩ : ∃ wT, wT = (w1.drewN q2).setCell ⟨r, 1, none⟩ (.int .i64 (8 * (j : Int) + 8 * (n : Int))) := ⟨_, rfl⟩
       rw [← hwT] at hb3
       obtain ⟨wS, hwS⟩ : ∃ wS, wS = wT.alloc (.cells #[] 5) := ⟨_, rfl⟩
       have hbs : Below wT.heap.size wT wS := by rw [hwS]; exact (Below.refl _ wT).alloc (Nat.le_refl _) _
       have hts : wT.heap.size = w1.heap.size := by rw [hwT]; simp
       have HBS := Lib.hid (hb3.below hbs)
       have HOS : Hid (wS.ownsRow w1.heap.size 5 1 (.slice (some ⟨w1.heap.size, 0, none⟩) 0 0) 0 []) := by
         show World.ownsRow _ _ _ _ _ _ _
         rw [hwS, ← hts]
         exact own_of_blk (Blk.new wT 5 []) (Nat.le_refl _) rfl (by unfold maxLen; omega)
       have hrl := hk.lt
       have HGT : Hid (w.grownBy wS (some r)) := by
         show World.grownBy _ _ _
         have h1 : w.grownBy wT (some r) := by rw [hwT]; exact grownBy_setCell (grownBy_drewN HG1.out q2) 1 _
         exact grownBy_trans h1 (grownBy_below hbs)
       obtain ⟨hk', hi', hrest⟩ := HBS.out
       have HBN : Hid (∀ u, wS.grownBy u (some w1.heap.size) → BitsAt u r (some ad) c bs (8 * (j + n))) := fun u hg => by
         have hrw := HG1.out.size
         have hr1 : r < w1.heap.size := hrl
         exact ⟨hk'.grown hg (by intro e; injection e with e; omega), Cells.grown hi' hg (fun ad' e => by injection e with e; right; rw [← e]; omega), hrest⟩
       have HIS := Lib.hid (ints_cut hi' j n ad rfl)
       have HLN : Hid (((bs.drop j).take n).length = n) := by show _ = _; have := HIN.out; simp; omega
       have hjn : (j : Int) + n ≤ c := by have := HIN.out; omega
       have hjc : j ≤ c := by omega
       have hcj : ¬ (c = j) := by have := HJC.out; omega
       have cS0 : wS.cell? ⟨r, 0, none⟩ = some (.slice (some ad) m c) := by
         have e2 : wT.cell? ⟨r, 0, none⟩ = some (.slice (some ad) m c) := by rw [hwT]; exact (hk.set_ 1 _).cell 0
         rw [(hbs.cell (block_lt_of_cell e2)), e2]
       have HSZ : Hid (w1.heap.size ≤ wS.heap.size) := by show _ ≤ _; have := hbs.size; omega
       have HWS := Lib.hid (show wS = ((w1.drewN q2).setCell ⟨r, 1, none⟩ (.int .i64 (8 * (j : Int) + 8 * (n : Int)))).alloc (.cells #[] 5) by rw [hwS, hwT])
       rw [hwS, hwT] at cS0
       clear hcl hrest
       clear hk hi hrg hp h47 hcap hx0 hm hb3 hwT hwS hbs hts hk' hi' hrl))
  go_ret2
  have hgr : wS.grownBy w3 (some w1.heap.size) := HG3.out
  have hrw := HG1.out.size
  refine ⟨v3, rfl, ?_, HBN.out w3 hgr, ?_⟩
  · simpa using own_base HO3.out HG1.out.size
  · have h1 := HGT.out
    exact ⟨hgr.os.trans h1.os, hgr.tape.trans h1.tape, hgr.output.trans h1.output, Nat.le_trans h1.size hgr.size, fun k hk hr => (hgr.block k (Nat.lt_of_lt_of_le hk h1.size) (by simp; omega)).trans (h1.block k hk hr)⟩
set_option maxRecDepth 100000 in
set_option maxHeartbeats 4000000 in
theorem bytes_zero (r : Nat) (A : Option Addr) (bs : List Int) (j : Nat) (w : World) (h : BitsAt w r A j bs (8 * j)) (h0 : 0 < j) (hl : bs.length = j) :
    Calls Try.prog 31 #[.pointer (some ⟨r, 0, none⟩), .int .i64 0] w (BytesP r A j bs j 0 w) := by
  obtain ⟨ad, rfl⟩ : ∃ ad, A = some ad := by
    obtain ⟨_, hi, _⟩ := h
    obtain ⟨x0, hx0⟩ : ∃ x, bs[0]? = some x := ⟨_, List.getElem?_eq_getElem (by omega)⟩
    obtain ⟨ad, e, -⟩ := hi 0 (.int .u8 x0) (by rw [List.getElem?_map, hx0]; rfl)
    exact ⟨ad, e⟩
  have HAL := Lib.hid (align_any r (some ad) j bs (8 * j) w h)
  have e8 : (8 * j + 7) / 8 * 8 = 8 * j := by omega
  rw [e8] at HAL
  have HLE := Lib.hid (fun u (hu : BitsAt u r (some ad) j bs (8 * j)) => left_any r (some ad) j bs (8 * j) u hu)
  have hl47 : j ≤ 140737488355328 := by obtain ⟨_, _, _, _, h5, _⟩ := h; omega
  have HL := Lib.hid hl
  have e0 : 8 * bs.length - 8 * j = 0 := by omega
  rw [e0] at HLE
  clear h hl e8 e0
  go_enter Try.func31, Try.ntmps31
  go_wp2_with (first
    | (at_builtin; rw [← HWS.out]; refine wpList_appAny _ rfl (.tmp 36) (.tmp 45) 22 rfl w1.heap.size 5 (.int .u8 0) 1 Try.underlying22 infoByte rfl _ 0 [] rfl HOS.out (some ad) 0 0 [] rfl rfl (fun i v hi => by simp at hi) (fun h => by cases h) (fun u hu => by cases hu) (by unfold maxLen; omega) (by omega) HSZ.out ?_; intro v3 w3 hown3 hg3; have HO3 := Lib.hid hown3; have HG3 := Lib.hid hg3; clear hown3 hg3)
    | (go_at_call 30; refine HAL.out.mono ?_; rintro e w1 ⟨rfl, hb1, hg1⟩; have HB1 := Lib.hid hb1; have HG1 := Lib.hid hg1; clear hb1 hg1)
    | (go_at_call 28
       refine (HLE.out w1 HB1.out).mono ?_
       rintro e w2 ⟨rfl, q2, rfl⟩
       obtain ⟨hk, hi, hrest⟩ := (HB1.out.drewN q2)
       rw [HL.out] at hk
       have c0 : (w1.drewN q2).cell? ⟨r, 0, none⟩ = some (.slice (some ad) j j) := hk.cell 0
       have c1 : (w1.drewN q2).cell? ⟨r, 1, none⟩ = some (.int .i64 ((8 * j : Nat) : Int)) := hk.cell 1
       have f1 := hk.frozen 1
       rw [show ((8 * j : Nat) : Int) = 8 * (j : Int) by simp] at c1
       have hb3 := (HB1.out.drewN q2).set (8 * j) (by have := HL.out; omega)
       rw [show ((8 * j : Nat) : Int) = 8 * (j : Int) by simp] at hb3
       obtain ⟨wT, hwT⟩ : ∃ wT, wT = (w1.drewN q2).setCell ⟨r, 1, none⟩ (.int .i64 (8 * (j : Int))) := ⟨_, rfl⟩
       rw [← hwT] at hb3
       obtain ⟨wS, hwS⟩ : ∃ wS, wS = wT.alloc (.cells #[] 5) := ⟨_, rfl⟩
       have hbs : Below wT.heap.size wT wS := by rw [hwS]; exact (Below.refl _ wT).alloc (Nat.le_refl _) _
       have hts : wT.heap.size = w1.heap.size := by rw [hwT]; simp
       have HBS := Lib.hid (hb3.below hbs)
       have HOS : Hid (wS.ownsRow w1.heap.size 5 1 (.slice (some ⟨w1.heap.size, 0, none⟩) 0 0) 0 []) := by
         show World.ownsRow _ _ _ _ _ _ _
         rw [hwS, ← hts]
         exact own_of_blk (Blk.new wT 5 []) (Nat.le_refl _) rfl (by unfold maxLen; omega)
       have hrl := hk.lt
       have HGT : Hid (w.grownBy wS (some r)) := by
         show World.grownBy _ _ _
         have h1 : w.grownBy wT (some r) := by rw [hwT]; exact grownBy_setCell (grownBy_drewN HG1.out q2) 1 _
         exact grownBy_trans h1 (grownBy_below hbs)
       obtain ⟨x0, hx0⟩ : ∃ x, bs[0]? = some x := ⟨_, List.getElem?_eq_getElem (by have := HL.out; omega)⟩
       obtain ⟨ad', hae, hcl⟩ := hi 0 (.int .u8 x0) (by rw [List.getElem?_map, hx0]; rfl)
       injection hae with hae
       subst hae
       have hadl : ad.block < w1.heap.size := by have := block_lt_of_cell hcl; rw [block_of_add] at this; exact this
       have HAD := Lib.hid hadl
       obtain ⟨hk', hi', hrest'⟩ := HBS.out
       have HBN : Hid (∀ u, wS.grownBy u (some w1.heap.size) → BitsAt u r (some ad) j bs (8 * j)) := fun u hg => by
         have hrw := HG1.out.size
         have hr1 : r < w1.heap.size := hrl
         exact ⟨hk'.grown hg (by intro e; injection e with e; omega), Cells.grown hi' hg (fun ad' e => by injection e with e; right; rw [← e]; have := HAD.out; omega), hrest'⟩
       have cS0 : wS.cell? ⟨r, 0, none⟩ = some (.slice (some ad) j j) := by
         have e2 : wT.cell? ⟨r, 0, none⟩ = some (.slice (some ad) j j) := by rw [hwT]; exact (hk.set_ 1 _).cell 0
         rw [(hbs.cell (block_lt_of_cell e2)), e2]
       have HSZ : Hid (w1.heap.size ≤ wS.heap.size) := by show _ ≤ _; have := hbs.size; omega
       have HWS := Lib.hid (show wS = ((w1.drewN q2).setCell ⟨r, 1, none⟩ (.int .i64 (8 * (j : Int)))).alloc (.cells #[] 5) by rw [hwS, hwT])
       rw [hwS, hwT] at cS0
       clear hcl hadl hx0 hrest hk hi hb3 hwT hwS hbs hts hk' hi' hrest' hrl))
  go_ret2
  have hgr : wS.grownBy w3 (some w1.heap.size) := HG3.out
  have hrw := HG1.out.size
  refine ⟨v3, rfl, ?_, HBN.out w3 hgr, ?_⟩
  · simpa using own_base HO3.out HG1.out.size
  · have h1 := HGT.out
    exact ⟨hgr.os.trans h1.os, hgr.tape.trans h1.tape, hgr.output.trans h1.output, Nat.le_trans h1.size hgr.size, fun k hk hr => (hgr.block k (Nat.lt_of_lt_of_le hk h1.size) (by simp; omega)).trans (h1.block k hk hr)⟩
theorem bytes_all (r : Nat) (A : Option Addr) (c : Nat) (bs : List Int) (j n : Nat) (w : World) (h : BitsAt w r A c bs (8 * j)) (h0 : 0 < bs.length) (hn : n ≤ 1000000) (hin : j + n ≤ bs.length) :
    Calls Try.prog 31 #[.pointer (some ⟨r, 0, none⟩), .int .i64 n] w (BytesP r A c bs j n w) := by
  have hc : bs.length ≤ c := by obtain ⟨_, _, _, _, _, h6⟩ := h; exact h6
  rcases Nat.lt_or_ge j c with hj | hj
  · exact bytes_any r A c bs j n w h h0 hj hn hin
  · obtain rfl : j = c := by omega
    obtain rfl : n = 0 := by omega
    exact bytes_zero r A bs j w h (by omega) (by omega)
set_option maxRecDepth 100000 in
set_option maxHeartbeats 4000000 in
theorem bytes_fail (r : Nat) (A : Option Addr) (c : Nat) (bs : List Int) (j n : Nat) (w : World) (h : BitsAt w r A c bs (8 * j)) (hn : n ≤ 1000000) (hin : bs.length < j + n) :
    Calls Try.prog 31 #[.pointer (some ⟨r, 0, none⟩), .int .i64 n] w fun e w' => e = .returned (.tuple #[.slice none 0 0, .bool false]) ∧ w.grownBy w' (some r) := by
  have HAL := Lib.hid (align_any r A c bs (8 * j) w h)
  have e8 : (8 * j + 7) / 8 * 8 = 8 * j := by omega
  rw [e8] at HAL
  have HLE := Lib.hid (fun u (hu : BitsAt u r A c bs (8 * j)) => left_any r A c bs (8 * j) u hu)
  have hl47 : bs.length ≤ 140737488355328 ∧ 8 * j ≤ 8 * bs.length := by obtain ⟨_, _, _, h4, h5, _⟩ := h; exact ⟨h5, h4⟩
  obtain ⟨lf, hlf⟩ : ∃ lf, lf = 8 * bs.length - 8 * j := ⟨_, rfl⟩
  rw [← hlf] at HLE
  have hlf2 : (lf : Int) / 8 < (n : Int) := by omega
  have hlf0 : (0 : Int) ≤ (lf : Int) := by omega
  have hlf1 : (lf : Int) ≤ 1125899906842624 := by omega
  have hn0 : ¬ ((n : Int) < 0) := by omega
  clear h hin hlf hl47 e8
  go_enter Try.func31, Try.ntmps31
  go_wp2_with (first
    | (go_at_call 30; refine HAL.out.mono ?_; rintro e w1 ⟨rfl, hb1, hg1⟩; have HB1 := Lib.hid hb1; have HG1 := Lib.hid hg1; clear hb1 hg1)
    | (go_at_call 28; refine (HLE.out w1 HB1.out).mono ?_; rintro e w2 ⟨rfl, q2, rfl⟩))
  go_ret2
  exact ⟨rfl, grownBy_drewN HG1.out q2⟩
end Go.Proofs.Ytcjdeinmmokdgaa
