/- tzx.Sound. -/
import Derived.Test.YtaipkoeiahjghaaTzxE
namespace Go.Proofs.Ytaipkoeiahjghaa
set_option linter.unusedSimpArgs false
set_option linter.unusedVariables false
open Go.RowKit
theorem far_any (id : Int) (ta ia : Value) (n : Nat) (T : List Int) (i many : Int) (w : World) (ht : TimesAt w ta T) (hi : ItemsAt w ia T) (h1 : (ta.oneCell' && ia.oneCell') = true) (hn : T.length = n) (hn1 : n ≤ 300) (i0 : 0 ≤ i) (i1 : i ≤ 1000) (m0 : 0 ≤ many) (m1 : many ≤ 1000) :
    Calls Try.prog 19 #[.agg (blkRow id ta ia).toArray, .int .i64 i, .int .i64 many] w fun e w' => e = .returned (.bool (Tz.farS id T i many)) ∧ Below w.heap.size w w' := by
  by_cases h40 : id = 40
  · subst h40; exact far_t40 40 ta ia n T i many w rfl ht hi h1 hn hn1 i0 i1 m0 m1
  by_cases h35 : id = 35
  · subst h35; exact far_t35 35 ta ia n T i many w rfl ht hi h1 hn hn1 i0 i1 m0 m1
  by_cases h38 : id = 38
  · subst h38; exact far_t38 38 ta ia n T i many w rfl ht hi h1 hn hn1 i0 i1 m0 m1
  exact far_no id ta ia n T i many w ⟨h40, h35, h38⟩ ht hi h1 hn hn1 i0 i1 m0 m1
namespace Tz
/-- why a block doesn't fit the others -/
def wrongAt (ids T : List Int) (i : Nat) : Int :=
  if badAt ids 36 37 i || badAt ids 33 34 i then 6 else if farS (ids.getD i 0) T i ids.length then 5 else 0
/-- the first of so many that isn't nought -/
def firstW (f : Nat → Int) : Nat → Int × Int
  | 0 => (0, 0)
  | n + 1 => if (firstW f n).2 ≠ 0 then firstW f n else if f n ≠ 0 then ((n : Int), f n) else (0, 0)
theorem firstW_none (f : Nat → Int) (n : Nat) (h : ∀ j, j < n → f j = 0) : firstW f n = (0, 0) := by
  induction n with
  | zero => rfl
  | succ n ih =>
    simp only [firstW]
    rw [ih (fun j hj => h j (by omega)), h n (by omega)]
    simp
theorem firstW_hit (f : Nat → Int) (n k : Nat) (h : ∀ j, j < k → f j = 0) (hk : f k ≠ 0) (hlt : k < n) : firstW f n = ((k : Int), f k) := by
  induction n with
  | zero => omega
  | succ n ih =>
    simp only [firstW]
    by_cases e : k = n
    · subst e
      rw [firstW_none f k h]
      simp [hk]
    · rw [ih (by omega)]
      simp [hk]
theorem bads_get (ids : List Int) (b e : Int) (k : Nat) (hk : k < ids.length) : (bads ids b e ids.length)[k]? = some (.bool (badAt ids b e k)) := by
  unfold bads
  rw [List.getElem?_append_left (by simpa using hk)]
  simp [hk]
end Tz
/-- the first block that doesn't fit, and why -/
def SoundP (ids T : List Int) (n : Nat) (w : World) (e : Ending) (w' : World) : Prop := e = .returned (.tuple #[.int .i64 (Tz.firstW (Tz.wrongAt ids T) n).1, .int .i64 (Tz.firstW (Tz.wrongAt ids T) n).2]) ∧ Below w.heap.size w w'
theorem soundP_hit {ids T : List Int} {n k : Nat} {w w' : World} {e : Ending} {x : Int} (h : ∀ j, j < k → Tz.wrongAt ids T j = 0) (hx : Tz.wrongAt ids T k = x) (h0 : x ≠ 0) (hk : k < n) (he : e = .returned (.tuple #[.int .i64 k, .int .i64 x])) (hb : Below w.heap.size w w') : SoundP ids T n w e w' := by
  refine ⟨?_, hb⟩
  rw [Tz.firstW_hit _ n k h (by rw [hx]; exact h0) hk, hx]
  exact he
set_option maxRecDepth 100000 in
set_option maxHeartbeats 2000000 in
theorem sound_any (g : Nat) (A : Option Addr) (n c m : Nat) (ids T : List Int) (w : World) (hA : n = 0 ∨ A = some ⟨g, 0, none⟩) (hL : Blks w g ids T) (hn : ids.length = n) (hn1 : n ≤ 200) (hm : T.length = m) (hm1 : m ≤ 300) :
    Calls Try.prog 7 #[.slice A n c] w (SoundP ids T n w) := by
  have HP1 := Lib.hid (pairs_any g A n c ids T 36 37 w hA hL hn hn1)
  have HP2 := Lib.hid (fun u (hu : Below w.heap.size w u) => pairs_any g A n c ids T 33 34 u hA (hL.below hu) hn hn1)
  have HL := Lib.hid hL; have HN := Lib.hid hn; have HM := Lib.hid hm
  clear hL hn hm
  go_enter Try.func7, Try.ntmps7
  go_wp2_with (first
    | (go_at_call 18; refine (HP2.out _ hb2).mono ?_; rintro e w3 ⟨rfl, hk3, hb3⟩)
    | (go_at_call 18; refine HP1.out.mono ?_; rintro e w2 ⟨rfl, hk2, hb2⟩))
  have HB2 := Lib.hid hb2; have HB3 := Lib.hid hb3; have HB23 := Lib.hid (hb2.trans (hb3.mono hb2.size))
  have HK2 := Lib.hid (hk2.below_ hb3); have HK3 := Lib.hid hk3
  clear hb2 hb3 hk2 hk3
  go_loopw [6, 7, 14] (fun _ _ idx wr => ∃ k : Nat, k ≤ n ∧ idx = .int .i64 k ∧ Hid (∀ j, j < k → Tz.wrongAt ids T j = 0) ∧ Hid (Below w3.heap.size w3 wr)) (fun _ _ idx _ => n - (intOf idx).toNat)
  case atStart => exact ⟨0, by omega, rfl, fun j hj => by omega, Below.refl _ _⟩
  case round =>
    obtain ⟨k, hk, rfl, HZ, HB⟩ := hrel
    by_cases hlt : k < n
    · obtain ⟨id, hid⟩ : ∃ x, ids[k]? = some x := ⟨_, List.getElem?_eq_getElem (by rw [HN.out]; exact hlt)⟩
      obtain ⟨ta, ia, hr, hta, hia, ta1, ia1⟩ := (HL.out.below HB23.out).below HB.out k id hid
      have HR := Lib.hid hr
      have hA2 : A = some ⟨g, 0, none⟩ := by rcases hA with h | h; omega; exact h
      subst hA2
      have hgd : ids.getD k 0 = id := by simp [List.getD, hid]
      obtain ⟨R, hRR⟩ : ∃ R, R = blkRow id ta ia := ⟨_, rfl⟩
      have HRR := Lib.hid hRR
      rw [← hRR] at HR
      have HRL : Hid (some 18 = some R.toArray.size) := by show _ = _; rw [hRR]; rfl
      have HSZ : Hid (R.toArray.size = 18) := by show _ = _; rw [hRR]; rfl
      have HR1 : Hid (R.toArray.all (·.oneCell') = true) := by show _ = _; rw [hRR]; simp [blkRow, ta1, ia1, show ∀ x, (Value.int .i64 x).oneCell' = true from fun _ => rfl, show (Value.slice none 0 0).oneCell' = true from rfl]
      obtain ⟨u, hu⟩ : ∃ u, u = wr.alloc (.cells R.toArray 30) := ⟨_, rfl⟩
      have HU := Lib.hid hu
      have HBU := Lib.hid (show Below w3.heap.size w3 u by rw [hu]; exact HB.out.alloc HB.out.size _)
      have hbu0 : Below wr.heap.size wr u := by rw [hu]; exact (Below.refl _ wr).alloc (Nat.le_refl _) _
      have HKR : Hid (u.heap[wr.heap.size]? = some (.cells R.toArray 30 (0, 0))) := by show _ = _; rw [hu]; exact heap_alloc_new wr _
      have HF : Hid (Calls Try.prog 19 #[.agg R.toArray, .int .i64 k, .int .i64 n] u fun e w' => e = .returned (.bool (Tz.farS id T k n)) ∧ Below u.heap.size u w') := by
        rw [hRR]
        exact far_any id ta ia m T k n u (hta.below hbu0) (hia.below hbu0) (by rw [ta1, ia1]; rfl) HM.out hm1 (by omega) (by omega) (by omega) (by omega)
      have hkl : k < ids.length := by rw [HN.out]; exact hlt
      obtain ⟨b1, hb1⟩ : ∃ b, b = Tz.badAt ids 36 37 k := ⟨_, rfl⟩
      obtain ⟨b2, hb2⟩ : ∃ b, b = Tz.badAt ids 33 34 k := ⟨_, rfl⟩
      have c1 : u.cell? ⟨w.heap.size, k, none⟩ = some (.bool b1) := by rw [((HK2.out.below_ HB.out).below_ hbu0).cell k, ← HN.out, Tz.bads_get _ _ _ _ hkl, hb1]
      have c2 : u.cell? ⟨w2.heap.size, k, none⟩ = some (.bool b2) := by rw [((HK3.out.below_ HB.out).below_ hbu0).cell k, ← HN.out, Tz.bads_get _ _ _ _ hkl, hb2]
      have HWR : Hid (Tz.wrongAt ids T k = if b1 || b2 then 6 else if Tz.farS id T k n then 5 else 0) := by show _ = _; unfold Tz.wrongAt; rw [hgd, HN.out, ← hb1, ← hb2]
      obtain ⟨ff, hff⟩ : ∃ b, b = Tz.farS id T k n := ⟨_, rfl⟩
      rw [← hff] at HF HWR
      clear hr ta1 ia1 hRR hgd hid hu hbu0 hta hia hb1 hb2 hff hkl
      cases b1 with
      | true =>
        go_wp2_with (first
          | (refine wpList_load_mid rfl 30 (.tmp 17) rfl g (k * 18) rfl R _ HR.out Try.underlying30 rfl (infoBlk.trans HRL.out) ?_)
          | (refine wpList_store_rowTo rfl 30 (.tmp 7) (.tmp 18) rfl rfl wr.heap.size _ rfl rfl 30 _ (heap_alloc_new wr _) (infoBlk.trans HRL.out) (by rw [HSZ.out]; rfl) HR1.out ?_; rw [World.setRow_alloc_new, ← HU.out]))
        go_ret2
        exact soundP_hit (x := 6) HZ.out (by rw [HWR.out]; rfl) (by decide) hlt rfl (HB23.out.trans (HBU.out.mono HB23.out.size))
      | false =>
        cases b2 with
        | true =>
          go_wp2_with (first
                    | (refine wpList_load_mid rfl 30 (.tmp 17) rfl g (k * 18) rfl R _ HR.out Try.underlying30 rfl (infoBlk.trans HRL.out) ?_)
                    | (refine wpList_store_rowTo rfl 30 (.tmp 7) (.tmp 18) rfl rfl wr.heap.size _ rfl rfl 30 _ (heap_alloc_new wr _) (infoBlk.trans HRL.out) (by rw [HSZ.out]; rfl) HR1.out ?_; rw [World.setRow_alloc_new, ← HU.out])
                    | (refine wpList_load_row rfl 30 (.tmp 7) rfl wr.heap.size rfl 30 R.toArray (0, 0) _ HKR.out Try.underlying30 rfl (infoBlk.trans HRL.out) ?_)
                    | (go_at_call 19; refine HF.out.mono ?_; rintro e w5 ⟨rfl, hb5⟩))
          go_ret2
          exact soundP_hit (x := 6) HZ.out (by rw [HWR.out]; rfl) (by decide) hlt rfl (HB23.out.trans (HBU.out.mono HB23.out.size))
        | false =>
          cases ff with
          | true =>
            go_wp2_with (first
                      | (refine wpList_load_mid rfl 30 (.tmp 17) rfl g (k * 18) rfl R _ HR.out Try.underlying30 rfl (infoBlk.trans HRL.out) ?_)
                      | (refine wpList_store_rowTo rfl 30 (.tmp 7) (.tmp 18) rfl rfl wr.heap.size _ rfl rfl 30 _ (heap_alloc_new wr _) (infoBlk.trans HRL.out) (by rw [HSZ.out]; rfl) HR1.out ?_; rw [World.setRow_alloc_new, ← HU.out])
                      | (refine wpList_load_row rfl 30 (.tmp 7) rfl wr.heap.size rfl 30 R.toArray (0, 0) _ HKR.out Try.underlying30 rfl (infoBlk.trans HRL.out) ?_)
                      | (go_at_call 19; refine HF.out.mono ?_; rintro e w5 ⟨rfl, hb5⟩))
            go_ret2
            exact soundP_hit (x := 5) HZ.out (by rw [HWR.out]; rfl) (by decide) hlt rfl (HB23.out.trans ((HBU.out.trans (hb5.mono HBU.out.size)).mono HB23.out.size))
          | false =>
            have HZ2 : Hid (∀ j, j < k + 1 → Tz.wrongAt ids T j = 0) := fun j hj => by
              by_cases e : j = k
              · subst e; rw [HWR.out]; rfl
              · exact HZ.out j (by omega)
            go_wp2_with (first
                      | (refine wpList_load_mid rfl 30 (.tmp 17) rfl g (k * 18) rfl R _ HR.out Try.underlying30 rfl (infoBlk.trans HRL.out) ?_)
                      | (refine wpList_store_rowTo rfl 30 (.tmp 7) (.tmp 18) rfl rfl wr.heap.size _ rfl rfl 30 _ (heap_alloc_new wr _) (infoBlk.trans HRL.out) (by rw [HSZ.out]; rfl) HR1.out ?_; rw [World.setRow_alloc_new, ← HU.out])
                      | (refine wpList_load_row rfl 30 (.tmp 7) rfl wr.heap.size rfl 30 R.toArray (0, 0) _ HKR.out Try.underlying30 rfl (infoBlk.trans HRL.out) ?_)
                      | (go_at_call 19; refine HF.out.mono ?_; rintro e w5 ⟨rfl, hb5⟩))
            go_roundw
            case rel => exact ⟨k + 1, by omega, by go_num, HZ2, HBU.out.trans (hb5.mono HBU.out.size)⟩
            case measure => simp [intOf]; omega
    · obtain rfl : k = n := by omega
      go_wp2_with fail
      go_ret2
      refine ⟨?_, HB23.out.trans (HB.out.mono HB23.out.size)⟩
      rw [Tz.firstW_none _ _ HZ.out]
      rfl
end Go.Proofs.Ytaipkoeiahjghaa
