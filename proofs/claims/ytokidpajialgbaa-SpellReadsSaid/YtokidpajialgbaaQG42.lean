/- Texts that are laid together: G42. -/
import Derived.Test.YtokidpajialgbaaQRdU
import Derived.Test.YtokidpajialgbaaQG41
import Derived.Test.YtokidpajialgbaaQG35
namespace Go.Proofs.Ytokidpajialgbaa
set_option linter.unusedSimpArgs false
set_option linter.unusedVariables false
open Go.RowKit
namespace Tz
/-- does a block lead to where none is? -/
def farB (B : TB) (i many : Int) : Bool := farS B.id (if B.id = 40 then B.items.map (·.1) else B.times) i many
/-- why a block doesn't fit the others -/
def wrongB (l : List TB) (i : Nat) : Int :=
  if badAt (l.map (·.id)) 36 37 i || badAt (l.map (·.id)) 33 34 i then 6 else if farB (l.getD i {}) i l.length then 5 else 0
end Tz
/-- the first that isn't nought, as the call's two results -/
def FirstP (f : Nat → Int) (n : Nat) (w : World) (e : Ending) (w' : World) : Prop := e = .returned (.tuple #[.int .i64 (Tz.firstW f n).1, .int .i64 (Tz.firstW f n).2]) ∧ Below w.heap.size w w'
theorem firstP_hit {f : Nat → Int} {n k : Nat} {w w' : World} {e : Ending} {x : Int} (h : ∀ j, j < k → f j = 0) (hx : f k = x) (h0 : x ≠ 0) (hk : k < n) (he : e = .returned (.tuple #[.int .i64 k, .int .i64 x])) (hb : Below w.heap.size w w') : FirstP f n w e w' := by
  refine ⟨?_, hb⟩
  rw [Tz.firstW_hit _ n k h (by rw [hx]; exact h0) hk, hx]
  exact he
/-- blocks that lie in a row -/
def BlksO (w : World) (g o : Nat) (l : List TB) : Prop := ∀ i B, l[i]? = some B → ∃ (R : List Value) (ta ia : Value), w.rangeAt g (o + i * 18) R ∧ RowIs R B.id ta ia ∧ TimesO w ta B.times ∧ ItemsO w ia (B.items.map (·.1)) ∧ B.times.length ≤ 100000 ∧ B.items.length ≤ 100000
theorem BlksO.below {w w' : World} {g o : Nat} {l : List TB} (h : BlksO w g o l) (hb : Below w.heap.size w w') : BlksO w' g o l := fun i B hi => by
  obtain ⟨R, ta, ia, h1, h2, h3, h4, h5⟩ := h i B hi
  exact ⟨R, ta, ia, rangeAt_below h1 hb, h2, h3.below hb, h4.below hb, h5⟩
theorem BlksO.rows {w : World} {g o : Nat} {l : List TB} (h : BlksO w g o l) : RowsO w g o (l.map (·.id)) := fun i id hi => by
  rw [List.getElem?_map] at hi
  cases hB : l[i]? with
  | none => rw [hB] at hi; cases hi
  | some B =>
    rw [hB] at hi
    obtain ⟨R, ta, ia, h1, h2, _⟩ := h i B hB
    have : B.id = id := by simpa using hi
    exact ⟨R, h2.len, this ▸ h2.c0, h2.one, h1⟩
theorem farO_any (R : List Value) (B : TB) (ta ia : Value) (i many : Int) (w : World) (ht : TimesO w ta B.times) (hi : ItemsO w ia (B.items.map (·.1))) (hR : RowIs R B.id ta ia) (hn1 : B.times.length ≤ 100000) (hn2 : B.items.length ≤ 100000) (i0 : 0 ≤ i) (i1 : i ≤ 5000) (m0 : 0 ≤ many) (m1 : many ≤ 5000) :
    Calls Try.prog 52 #[.agg R.toArray, .int .i64 i, .int .i64 many] w fun e w' => e = .returned (.bool (Tz.farB B i many)) ∧ Below w.heap.size w w' := by
  unfold Tz.farB
  by_cases h40 : B.id = 40
  · rw [if_pos h40]; exact farO_40 R B.id ta ia _ _ i many w h40 trivial hi hR rfl (by simpa using hn2) i0 i1 m0 m1
  rw [if_neg h40]
  by_cases h35 : B.id = 35
  · exact farO_35 R B.id ta ia _ _ i many w h35 ht trivial hR rfl hn1 i0 i1 m0 m1
  by_cases h38 : B.id = 38
  · exact farO_38 R B.id ta ia _ _ i many w h38 ht trivial hR rfl hn1 i0 i1 m0 m1
  exact farO_no R B.id ta ia _ _ i many w ⟨h40, h35, h38⟩ trivial trivial hR rfl hn1 i0 i1 m0 m1
set_option maxRecDepth 100000 in
set_option maxHeartbeats 2000000 in
theorem soundO (g o : Nat) (A : Option Addr) (n c : Nat) (l : List TB) (w : World) (hA : n = 0 ∨ A = some ⟨g, o, none⟩) (hL : BlksO w g o l) (hnl : l.length = n) (hn1 : n ≤ 5000) :
    Calls Try.prog 24 #[.slice A n c] w (FirstP (Tz.wrongB l) n w) := by
  obtain ⟨ids, hids⟩ : ∃ ids, ids = l.map (·.id) := ⟨_, rfl⟩
  have HIDS := Lib.hid hids
  have hn : ids.length = n := by rw [hids]; simpa using hnl
  have hLR := hL.rows
  rw [← hids] at hLR
  have HP1 := Lib.hid (pairsO g o A n c ids 36 37 w hA hLR hn hn1)
  have HP2 := Lib.hid (fun u (hu : Below w.heap.size w u) => pairsO g o A n c ids 33 34 u hA (hLR.below hu) hn hn1)
  have HL := Lib.hid hL; have HN := Lib.hid hn; have HNL := Lib.hid hnl
  clear hL hn hnl hLR hids
  go_enter Try.func24, Try.ntmps24
  go_wp2_with (first
    | (go_at_call 51; refine (HP2.out _ hb2).mono ?_; rintro e w3 ⟨rfl, hk3, hb3⟩)
    | (go_at_call 51; refine HP1.out.mono ?_; rintro e w2 ⟨rfl, hk2, hb2⟩))
  have HB2 := Lib.hid hb2; have HB3 := Lib.hid hb3; have HB23 := Lib.hid (hb2.trans (hb3.mono hb2.size))
  have HK2 := Lib.hid (hk2.below_ hb3); have HK3 := Lib.hid hk3
  clear hb2 hb3 hk2 hk3
  go_loopw [6, 7, 14] (fun _ _ idx wr => ∃ k : Nat, k ≤ n ∧ idx = .int .i64 k ∧ Hid (∀ j, j < k → Tz.wrongB l j = 0) ∧ Hid (Below w3.heap.size w3 wr)) (fun _ _ idx _ => n - (intOf idx).toNat)
  case atStart => exact ⟨0, by omega, rfl, fun j hj => by omega, Below.refl _ _⟩
  case round =>
    obtain ⟨k, hk, rfl, HZ, HB⟩ := hrel
    by_cases hlt : k < n
    · obtain ⟨B, hB⟩ : ∃ x, l[k]? = some x := ⟨_, List.getElem?_eq_getElem (by rw [HNL.out]; exact hlt)⟩
      obtain ⟨R, ta, ia, hr, hri, hta, hia, ht5, hi5⟩ := (HL.out.below HB23.out).below HB.out k B hB
      obtain ⟨id, hidB⟩ : ∃ id, id = B.id := ⟨_, rfl⟩
      have hid : ids[k]? = some id := by rw [HIDS.out, List.getElem?_map, hB, hidB]; rfl
      have HR := Lib.hid hr
      have hA2 : A = some ⟨g, o, none⟩ := by rcases hA with h | h; omega; exact h
      subst hA2
      have hgd : ids.getD k 0 = id := by simp [List.getD, hid]
      have HRL : Hid (some 18 = some R.toArray.size) := by show _ = _; simp [hri.len]
      have HSZ : Hid (R.toArray.size = 18) := by show _ = _; simp [hri.len]
      have HR1 : Hid (R.toArray.all (·.oneCell') = true) := hri.one
      obtain ⟨u, hu⟩ : ∃ u, u = wr.alloc (.cells R.toArray 28) := ⟨_, rfl⟩
      have HU := Lib.hid hu
      have HBU := Lib.hid (show Below w3.heap.size w3 u by rw [hu]; exact HB.out.alloc HB.out.size _)
      have hbu0 : Below wr.heap.size wr u := by rw [hu]; exact (Below.refl _ wr).alloc (Nat.le_refl _) _
      have HKR : Hid (u.heap[wr.heap.size]? = some (.cells R.toArray 28 (0, 0))) := by show _ = _; rw [hu]; exact heap_alloc_new wr _
      have HF : Hid (Calls Try.prog 52 #[.agg R.toArray, .int .i64 k, .int .i64 n] u fun e w' => e = .returned (.bool (Tz.farB B k n)) ∧ Below u.heap.size u w') := by
        exact farO_any R B ta ia k n u (hta.below hbu0) (hia.below hbu0) hri ht5 hi5 (by omega) (by omega) (by omega) (by omega)
      have hkl : k < ids.length := by rw [HN.out]; exact hlt
      obtain ⟨b1, hb1⟩ : ∃ b, b = Tz.badAt ids 36 37 k := ⟨_, rfl⟩
      obtain ⟨b2, hb2⟩ : ∃ b, b = Tz.badAt ids 33 34 k := ⟨_, rfl⟩
      have c1 : u.cell? ⟨w.heap.size, k, none⟩ = some (.bool b1) := by rw [((HK2.out.below_ HB.out).below_ hbu0).cell k, ← HN.out, Tz.bads_get _ _ _ _ hkl, hb1]
      have c2 : u.cell? ⟨w2.heap.size, k, none⟩ = some (.bool b2) := by rw [((HK3.out.below_ HB.out).below_ hbu0).cell k, ← HN.out, Tz.bads_get _ _ _ _ hkl, hb2]
      have HWR : Hid (Tz.wrongB l k = if b1 || b2 then 6 else if Tz.farB B k n then 5 else 0) := by show _ = _; unfold Tz.wrongB; rw [← HIDS.out, HNL.out, ← hb1, ← hb2, show l.getD k {} = B by simp [List.getD, hB]]
      obtain ⟨ff, hff⟩ : ∃ b, b = Tz.farB B k n := ⟨_, rfl⟩
      rw [← hff] at HF HWR
      clear hr hri hgd hid hidB hB ht5 hi5 hu hbu0 hta hia hb1 hb2 hff hkl
      cases b1 with
      | true =>
        go_wp2_with (first
          | (refine wpList_load_mid rfl 28 (.tmp 17) rfl g (o + k * 18) rfl R _ HR.out Try.underlying28 rfl (infoBlk.trans HRL.out) ?_)
          | (refine wpList_store_rowTo rfl 28 (.tmp 7) (.tmp 18) rfl rfl wr.heap.size _ rfl rfl 28 _ (heap_alloc_new wr _) (infoBlk.trans HRL.out) (by rw [HSZ.out]; rfl) HR1.out ?_; rw [World.setRow_alloc_new, ← HU.out]))
        go_ret2
        exact firstP_hit (x := 6) HZ.out (by rw [HWR.out]; rfl) (by decide) hlt rfl (HB23.out.trans (HBU.out.mono HB23.out.size))
      | false =>
        cases b2 with
        | true =>
          go_wp2_with (first
                    | (refine wpList_load_mid rfl 28 (.tmp 17) rfl g (o + k * 18) rfl R _ HR.out Try.underlying28 rfl (infoBlk.trans HRL.out) ?_)
                    | (refine wpList_store_rowTo rfl 28 (.tmp 7) (.tmp 18) rfl rfl wr.heap.size _ rfl rfl 28 _ (heap_alloc_new wr _) (infoBlk.trans HRL.out) (by rw [HSZ.out]; rfl) HR1.out ?_; rw [World.setRow_alloc_new, ← HU.out])
                    | (refine wpList_load_row rfl 28 (.tmp 7) rfl wr.heap.size rfl 28 R.toArray (0, 0) _ HKR.out Try.underlying28 rfl (infoBlk.trans HRL.out) ?_)
                    | (go_at_call 52; refine HF.out.mono ?_; rintro e w5 ⟨rfl, hb5⟩))
          go_ret2
          exact firstP_hit (x := 6) HZ.out (by rw [HWR.out]; rfl) (by decide) hlt rfl (HB23.out.trans (HBU.out.mono HB23.out.size))
        | false =>
          cases ff with
          | true =>
            go_wp2_with (first
                      | (refine wpList_load_mid rfl 28 (.tmp 17) rfl g (o + k * 18) rfl R _ HR.out Try.underlying28 rfl (infoBlk.trans HRL.out) ?_)
                      | (refine wpList_store_rowTo rfl 28 (.tmp 7) (.tmp 18) rfl rfl wr.heap.size _ rfl rfl 28 _ (heap_alloc_new wr _) (infoBlk.trans HRL.out) (by rw [HSZ.out]; rfl) HR1.out ?_; rw [World.setRow_alloc_new, ← HU.out])
                      | (refine wpList_load_row rfl 28 (.tmp 7) rfl wr.heap.size rfl 28 R.toArray (0, 0) _ HKR.out Try.underlying28 rfl (infoBlk.trans HRL.out) ?_)
                      | (go_at_call 52; refine HF.out.mono ?_; rintro e w5 ⟨rfl, hb5⟩))
            go_ret2
            exact firstP_hit (x := 5) HZ.out (by rw [HWR.out]; rfl) (by decide) hlt rfl (HB23.out.trans ((HBU.out.trans (hb5.mono HBU.out.size)).mono HB23.out.size))
          | false =>
            have HZ2 : Hid (∀ j, j < k + 1 → Tz.wrongB l j = 0) := fun j hj => by
              by_cases e : j = k
              · subst e; rw [HWR.out]; rfl
              · exact HZ.out j (by omega)
            go_wp2_with (first
                      | (refine wpList_load_mid rfl 28 (.tmp 17) rfl g (o + k * 18) rfl R _ HR.out Try.underlying28 rfl (infoBlk.trans HRL.out) ?_)
                      | (refine wpList_store_rowTo rfl 28 (.tmp 7) (.tmp 18) rfl rfl wr.heap.size _ rfl rfl 28 _ (heap_alloc_new wr _) (infoBlk.trans HRL.out) (by rw [HSZ.out]; rfl) HR1.out ?_; rw [World.setRow_alloc_new, ← HU.out])
                      | (refine wpList_load_row rfl 28 (.tmp 7) rfl wr.heap.size rfl 28 R.toArray (0, 0) _ HKR.out Try.underlying28 rfl (infoBlk.trans HRL.out) ?_)
                      | (go_at_call 52; refine HF.out.mono ?_; rintro e w5 ⟨rfl, hb5⟩))
            go_roundw
            case rel => exact ⟨k + 1, by omega, by go_num, HZ2, HBU.out.trans (hb5.mono HBU.out.size)⟩
            case measure => simp [intOf]; omega
    · obtain rfl : k = n := by omega
      go_wp2_with fail
      go_ret2
      refine ⟨?_, HB23.out.trans (HB.out.mono HB23.out.size)⟩
      rw [Tz.firstW_none _ _ HZ.out]
      rfl
/-- numbers as a block's Items, of whatever texts -/
def ItemsG (w : World) (ia : Value) (T : List Int) : Prop := ∃ h c, (T = [] ∧ ∃ A, ia = .slice A 0 c) ∨ (ia = .slice (some ⟨h, 0, none⟩) T.length c ∧ ∀ k x, T[k]? = some x → ∃ rB rn rd, w.rangeAt h (k * 2) [.int .i64 x, .slice rB rn rd])
theorem ItemsG.below {w w' : World} {ia : Value} {T : List Int} (h : ItemsG w ia T) (hb : Below w.heap.size w w') : ItemsG w' ia T := by
  obtain ⟨g, c, h1 | ⟨h1, h2⟩⟩ := h
  · exact ⟨g, c, .inl h1⟩
  · refine ⟨g, c, .inr ⟨h1, fun k x hk => ?_⟩⟩
    obtain ⟨a, b, d, h3⟩ := h2 k x hk
    exact ⟨a, b, d, rangeAt_below h3 hb⟩
def BlksT (w : World) (g : Nat) (l : List TB) : Prop := ∀ i B, l[i]? = some B → ∃ (R : List Value) (ta ia : Value), w.rangeAt g (i * 18) R ∧ RowIs R B.id ta ia ∧ TimesAt w ta B.times ∧ ItemsG w ia (B.items.map (·.1)) ∧ B.times.length ≤ 100000 ∧ B.items.length ≤ 100000
theorem BlksT.below {w w' : World} {g : Nat} {l : List TB} (h : BlksT w g l) (hb : Below w.heap.size w w') : BlksT w' g l := fun i B hi => by
  obtain ⟨R, ta, ia, h1, h2, h3, h4, h5⟩ := h i B hi
  exact ⟨R, ta, ia, rangeAt_below h1 hb, h2, h3.below hb, h4.below hb, h5⟩
theorem blksO_T {w : World} {g : Nat} {l : List TB} (h : BlksT w g l) : BlksO w g 0 l := fun i B hi => by
  obtain ⟨R, ta, ia, h1, h2, ⟨A, c, h3, h4, -⟩, ⟨q, c', h5⟩, h6, h7⟩ := h i B hi
  refine ⟨R, ta, ia, by rw [Nat.zero_add]; exact h1, h2, ⟨A, c, h3, h4, trivial⟩, ⟨q, 0, c', ?_⟩, h6, h7⟩
  rcases h5 with h5 | ⟨h5, h8⟩
  · exact .inl h5
  · refine .inr ⟨h5, fun k x hk => ?_⟩
    rw [Nat.zero_add]
    exact h8 k x hk
theorem soundG (g : Nat) (A : Option Addr) (n c : Nat) (l : List TB) (w : World) (hA : n = 0 ∨ A = some ⟨g, 0, none⟩) (hL : BlksT w g l) (hnl : l.length = n) (hn1 : n ≤ 5000) :
    Calls Try.prog 24 #[.slice A n c] w (FirstP (Tz.wrongB l) n w) := soundO g 0 A n c l w hA (blksO_T hL) hnl hn1
end Go.Proofs.Ytokidpajialgbaa
namespace Go.Proofs.Ytokidpajialgbaa
set_option linter.unusedSimpArgs false
set_option linter.unusedVariables false
namespace Rd
def sign8 : List Int := [90, 88, 84, 97, 112, 101, 33, 26]
/-- blocks, as long as bytes are left; where each begins -/
def blocksM : Nat → Nat → RM (List TB × List Int)
  | 0, _ => ret ([], [])
  | f + 1, cnt => fun L s => if left L.length s = 0 then (([], []), s) else if cnt = 4096 then (([], []), fail s 8 s.k) else
    (((blockM L s).1 :: (blocksM f (cnt + 1) L (blockM L s).2).1.1, (s.k : Int) :: (blocksM f (cnt + 1) L (blockM L s).2).1.2), (blocksM f (cnt + 1) L (blockM L s).2).2)
/-- what comes of bytes -/
inductive PR where
  | fault (E p : Int)
  | tape (maj min : Int) (l : List TB)
/-- of blocks that were read without a fault -/
def soundD (maj min : Int) (l : List TB) (starts : List Int) : PR :=
  if (Tz.firstW (Tz.wrongB l) l.length).2 = 0 then .tape maj min l else .fault (Tz.firstW (Tz.wrongB l) l.length).2 (starts.getD (Tz.firstW (Tz.wrongB l) l.length).1.toNat 0)
def restD (L : List Int) (maj min : Int) (r : (List TB × List Int) × St) : PR := match r.2.bad with
  | some (E, p) => .fault E p
  | none => soundD maj min r.1.1 r.1.2
def s8 : St := ⟨8, none⟩
def parseD (L : List Int) : PR :=
  if 1048576 < L.length then .fault 8 0 else if L.length < 8 ∨ L.take 8 ≠ sign8 then .fault 3 0 else
  restD L (num 1 L s8).1 (num 1 L (num 1 L s8).2).1 (blocksM (L.length + 1) 0 L (num 1 L (num 1 L s8).2).2)
/-- a block takes a byte at least -/
theorem block_less (L : List Int) (s : St) (h : left L.length s ≠ 0) : s.k + 1 ≤ (blockM L s).2.k := by
  have hb : s.bad = none := by
    cases hb : s.bad with
    | none => rfl
    | some q => unfold left at h; rw [hb] at h; exact absurd rfl h
  have hk : s.k < L.length := by unfold left at h; rw [hb] at h; simp only at h; omega
  have h1 : (num 1 L s).2 = ⟨s.k + 1, none⟩ := by
    show (nextM 1 L s).2 = _
    unfold nextM
    rw [hb]
    simp only
    rw [if_neg (by omega)]
  have h2 : Good 0 (bodyM (num 1 L s).1 s.k) ∨ True := .inr trivial
  have hg : Good s.k (bodyM (num 1 L s).1 (s.k : Int)) := by
    unfold bodyM
    exact good_if (good_sound _ _ (by omega)) (good_if (good_leads _ _ (by omega)) (good_tells _ _ (by omega)))
  have h3 := hg.mono L (num 1 L s).2
  rw [h1] at h3
  show s.k + 1 ≤ (bodyM (num 1 L s).1 (s.k : Int) L (num 1 L s).2).2.k
  rw [h1]
  exact h3
theorem left_le (L : List Int) (s : St) (h : left L.length s ≠ 0) : left L.length (blockM L s).2 < left L.length s := by
  have h1 := block_less L s h
  have hb : s.bad = none := by
    cases hb : s.bad with
    | none => rfl
    | some q => unfold left at h; rw [hb] at h; exact absurd rfl h
  unfold left at h ⊢
  rw [hb] at h ⊢
  simp only at h ⊢
  split <;> omega
theorem blocks_keep (f cnt : Nat) (L : List Int) (s : St) (q : Int × Int) (h : s.bad = some q) : (blocksM f cnt L s).2 = s := by
  cases f with
  | zero => rfl
  | succ f =>
    have : left L.length s = 0 := by unfold left; rw [h]
    simp only [blocksM, if_pos this]
theorem blocks_count (f cnt : Nat) (L : List Int) (s : St) : (blocksM f cnt L s).1.1.length + s.k ≤ (blocksM f cnt L s).2.k := by
  induction f generalizing cnt s with
  | zero => simp [blocksM, ret]
  | succ f ih =>
    unfold blocksM
    split
    · simp
    · rename_i h
      split
      · simp [fail_k]
      · have h1 := block_less L s h
        have h2 := ih (cnt + 1) (blockM L s).2
        simp only [List.length_cons]
        omega
theorem blocks_le (f cnt : Nat) (L : List Int) (s : St) (h : s.k ≤ L.length) : (blocksM f cnt L s).2.k ≤ L.length := by
  induction f generalizing cnt s with
  | zero => exact h
  | succ f ih =>
    unfold blocksM
    split
    · exact h
    · split
      · rw [fail_k]; exact h
      · exact ih _ _ ((good_block (a := 0)).le L s h)
theorem blocks_starts (f cnt : Nat) (L : List Int) (s : St) (h : s.k ≤ L.length) : ∀ x ∈ (blocksM f cnt L s).1.2, 0 ≤ x ∧ x ≤ L.length := by
  induction f generalizing cnt s with
  | zero => intro x hx; simp [blocksM, ret] at hx
  | succ f ih =>
    unfold blocksM
    split
    · intro x hx; simp at hx
    · split
      · intro x hx; simp at hx
      · intro x hx
        simp only [List.mem_cons] at hx
        rcases hx with rfl | hx
        · omega
        · exact ih _ _ ((good_block (a := 0)).le L s h) x hx
theorem blocks_placed (f cnt : Nat) (L : List Int) (s : St) (hb : s.bad = none) (h : s.k ≤ L.length) (E p : Int) (hq : (blocksM f cnt L s).2.bad = some (E, p)) : 0 ≤ p ∧ p ≤ L.length := by
  induction f generalizing cnt s with
  | zero => simp only [blocksM, ret] at hq; rw [hb] at hq; cases hq
  | succ f ih =>
    unfold blocksM at hq
    split at hq
    · rw [hb] at hq; cases hq
    · split at hq
      · simp only [fail, hb] at hq; simp at hq; omega
      · cases h1 : (blockM L s).2.bad with
        | none => exact ih _ _ h1 ((good_block (a := 0)).le L s h) hq
        | some q =>
          simp only at hq
          rw [blocks_keep f _ L _ q h1, h1] at hq
          rw [hq] at h1
          exact (good_block (a := 0)).placed L s E p hb (Nat.zero_le _) h h1
theorem left_more (L M : List Int) (s : St) (h : left L.length s ≠ 0) : left (L ++ M).length s ≠ 0 := by
  unfold left at h ⊢
  split
  · simp only [List.length_append]; rename_i hb; rw [hb] at h; simp only at h; omega
  · rename_i q hq; rw [hq] at h; exact absurd rfl h
theorem blocks_ahead (f f' cnt : Nat) (L M : List Int) (s : St) (hf : f ≤ f') (hb : s.bad = none) (h : s.k ≤ L.length) (E p : Int) (hq : (blocksM f cnt L s).2.bad = some (E, p)) (hE : E ≠ 2) : (blocksM f' cnt (L ++ M) s).2.bad = some (E, p) := by
  induction f generalizing f' cnt s with
  | zero => simp only [blocksM, ret] at hq; rw [hb] at hq; cases hq
  | succ f ih =>
    obtain ⟨g, rfl⟩ : ∃ g, f' = g + 1 := ⟨f' - 1, by omega⟩
    unfold blocksM at hq ⊢
    split at hq
    · rw [hb] at hq; cases hq
    · rename_i hl
      rw [if_neg (left_more L M s hl)]
      split at hq
      · rename_i hc
        rw [if_pos hc]; exact hq
      · rename_i hc
        rw [if_neg hc]
        simp only at hq ⊢
        have hg := (good_block (a := 0)).ahead L M s hb h
        cases h1 : (blockM L s).2.bad with
        | none =>
          rw [hg.1 h1]
          exact ih _ _ _ (by omega) h1 ((good_block (a := 0)).le L s h) hq
        | some q =>
          rw [blocks_keep f _ L _ q h1, h1] at hq
          rw [hq] at h1
          have h2 := hg.2 E p h1 hE
          rw [blocks_keep g _ (L ++ M) _ _ h2]
          exact h2
/-- the fault of a tape: where, and that it stays -/
theorem sound_codes (l : List TB) (n : Nat) : (Tz.firstW (Tz.wrongB l) n).2 = 0 ∨ (Tz.firstW (Tz.wrongB l) n).2 = 5 ∨ (Tz.firstW (Tz.wrongB l) n).2 = 6 := by
  have hw : ∀ i, Tz.wrongB l i = 0 ∨ Tz.wrongB l i = 5 ∨ Tz.wrongB l i = 6 := fun i => by
    unfold Tz.wrongB
    split
    · exact .inr (.inr rfl)
    · split
      · exact .inr (.inl rfl)
      · exact .inl rfl
  induction n with
  | zero => exact .inl rfl
  | succ n ih =>
    simp only [Tz.firstW]
    split
    · exact ih
    · split
      · exact hw n
      · exact .inl rfl
theorem two_heads (L : List Int) (h : 8 ≤ L.length) : (num 1 L (num 1 L s8).2).2.k ≤ L.length ∧ ((num 1 L (num 1 L s8).2).2.bad = none → (num 1 L (num 1 L s8).2).2.k = 10) := by
  have h1 : ∀ s : St, s.bad = none → (num 1 L s).2.bad = none → (num 1 L s).2.k = s.k + 1 := fun s hb h2 => by
    have e : (num 1 L s).2 = (nextM 1 L s).2 := rfl
    rw [e] at h2 ⊢
    unfold nextM at h2 ⊢
    rw [hb] at h2 ⊢
    simp only at h2 ⊢
    split at h2
    · cases h2
    · rename_i hc; rw [if_neg hc]
  refine ⟨(good_num (a := 0) 1).le L _ ((good_num (a := 0) 1).le L _ h), fun hb => ?_⟩
  have hb1 : (num 1 L s8).2.bad = none := by
    cases hq : (num 1 L s8).2.bad with
    | none => rfl
    | some q => rw [(good_num (a := 0) 1).keep L _ q hq, hq] at hb; cases hb
  rw [h1 _ hb1 hb, h1 _ rfl hb1]
  rfl
theorem parse_tape (L : List Int) (maj min : Int) (l : List TB) (h : parseD L = .tape maj min l) : l.length + 10 ≤ L.length := by
  unfold parseD at h
  split at h
  · cases h
  · split at h
    · cases h
    · rename_i h1 h2
      have h8 : 8 ≤ L.length := by
        rcases Nat.lt_or_ge L.length 8 with h3 | h3
        · exact absurd (.inl h3) h2
        · exact h3
      have hh := two_heads L h8
      have hc := blocks_count (L.length + 1) 0 L (num 1 L (num 1 L s8).2).2
      have hl := blocks_le (L.length + 1) 0 L (num 1 L (num 1 L s8).2).2 hh.1
      have hbn : (num 1 L (num 1 L s8).2).2.bad = none := by
        cases hq : (num 1 L (num 1 L s8).2).2.bad with
        | none => rfl
        | some q =>
          unfold restD at h
          rw [blocks_keep _ _ L _ q hq, hq] at h
          cases h
      have hk := hh.2 hbn
      unfold restD at h
      split at h
      · cases h
      · unfold soundD at h
        split at h
        · injection h with _ _ h
          rw [← h]
          omega
        · cases h
theorem parse_placed (L : List Int) (E p : Int) (h : parseD L = .fault E p) : 0 ≤ p ∧ p ≤ L.length := by
  unfold parseD at h
  split at h
  · injection h with _ h; omega
  · split at h
    · injection h with _ h; omega
    · rename_i h1 h2
      have h8 : 8 ≤ L.length := by
        rcases Nat.lt_or_ge L.length 8 with h3 | h3
        · exact absurd (.inl h3) h2
        · exact h3
      have hh := two_heads L h8
      unfold restD at h
      split at h
      · rename_i E' p' hq
        injection h with e1 e2
        subst e1 e2
        cases hb : (num 1 L (num 1 L s8).2).2.bad with
        | none => exact blocks_placed _ _ L _ hb hh.1 _ _ hq
        | some q =>
          rw [blocks_keep _ _ L _ q hb] at hq
          have g2 : Good 0 (bind (num 1) fun _ => num 1) := good_bind (good_num 1) fun _ => good_num 1
          exact g2.placed L s8 _ _ rfl (Nat.zero_le _) h8 hq
      · unfold soundD at h
        split at h
        · cases h
        · injection h with _ h
          rw [← h]
          have hs := blocks_starts (L.length + 1) 0 L (num 1 L (num 1 L s8).2).2 hh.1
          rw [List.getD_eq_getElem?_getD]
          cases hx : (blocksM (L.length + 1) 0 L (num 1 L (num 1 L s8).2).2).1.2[(Tz.firstW (Tz.wrongB (blocksM (L.length + 1) 0 L (num 1 L (num 1 L s8).2).2).1.1) (blocksM (L.length + 1) 0 L (num 1 L (num 1 L s8).2).2).1.1.length).1.toNat]? with
          | none => simp
          | some x => exact hs x (List.mem_of_getElem? hx)
theorem parse_ahead (L M : List Int) (E p : Int) (h : parseD L = .fault E p) (hE : E ≠ 2 ∧ E ≠ 8 ∧ E ≠ 6 ∧ E ≠ 5) (h3 : ¬ (E = 3 ∧ L.length < 8)) (hM : (L ++ M).length ≤ 1048576) : parseD (L ++ M) = .fault E p := by
  unfold parseD at h ⊢
  split at h
  · injection h with e1 _; omega
  · rw [if_neg (by omega)]
    split at h
    · rename_i h1 h2
      injection h with e1 e2
      have h8 : 8 ≤ L.length := by
        rcases Nat.lt_or_ge L.length 8 with h4 | h4
        · exact absurd ⟨e1.symm, h4⟩ h3
        · exact h4
      have ht : (L ++ M).take 8 = L.take 8 := List.take_append_of_le_length h8
      rw [if_pos, e1, e2]
      refine .inr ?_
      rw [ht]
      rcases h2 with h2 | h2
      · omega
      · exact h2
    · rename_i h1 h2
      have h8 : 8 ≤ L.length := by
        rcases Nat.lt_or_ge L.length 8 with h3 | h3
        · exact absurd (.inl h3) h2
        · exact h3
      have ht : (L ++ M).take 8 = L.take 8 := List.take_append_of_le_length h8
      have h4 : L.take 8 = sign8 := by
        by_cases h5 : L.take 8 = sign8
        · exact h5
        · exact absurd (.inr h5) h2
      rw [if_neg (by rw [ht, h4]; simp; omega)]
      have hh := two_heads L h8
      have g2 : Good 0 (bind (num 1) fun _ => num 1) := good_bind (good_num 1) fun _ => good_num 1
      have g1 : Good 0 (num 1) := good_num 1
      unfold restD at h
      split at h
      · rename_i E' p' hq
        injection h with e1 e2
        subst e1 e2
        have key : (blocksM ((L ++ M).length + 1) 0 (L ++ M) (num 1 (L ++ M) (num 1 (L ++ M) s8).2).2).2.bad = some (E', p') := by
          cases hb : (num 1 L (num 1 L s8).2).2.bad with
          | none =>
            have e3 : (num 1 (L ++ M) (num 1 (L ++ M) s8).2).2 = (num 1 L (num 1 L s8).2).2 := by
              have := (g2.ahead L M s8 rfl h8).1 hb
              exact congrArg Prod.snd this
            rw [e3]
            exact blocks_ahead _ _ 0 L M _ (by simp) hb hh.1 _ _ hq hE.1
          | some q =>
            rw [blocks_keep _ _ L _ q hb] at hq
            have h5 := (g2.ahead L M s8 rfl h8).2 E' p' hq hE.1
            have h6 : (num 1 (L ++ M) (num 1 (L ++ M) s8).2).2.bad = some (E', p') := h5
            rw [blocks_keep _ _ (L ++ M) _ _ h6]
            exact h6
        unfold restD
        rw [key]
      · unfold soundD at h
        split at h
        · cases h
        · injection h with e1 _
          rcases sound_codes (blocksM (L.length + 1) 0 L (num 1 L (num 1 L s8).2).2).1.1 (blocksM (L.length + 1) 0 L (num 1 L (num 1 L s8).2).2).1.1.length with h5 | h5 | h5
          · contradiction
          · rw [h5] at e1; omega
          · rw [h5] at e1; omega
end Rd
end Go.Proofs.Ytokidpajialgbaa
