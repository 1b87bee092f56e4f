/- tzx.Sound over blocks of whatever content. Written by gen_rdu.py. -/
import Derived.Test.YtaipkoeiahjghaaRdU
import Derived.Test.YtaipkoeiahjghaaRdS
namespace Go.Proofs.Ytaipkoeiahjghaa
set_option linter.unusedSimpArgs false
set_option linter.unusedVariables false
open Go.RowKit
namespace Tz
/-- does a block lead to where none is? -/
def farB (B : TB) (i many : Int) : Bool := farS B.id (if B.id = 40 then B.items.map (·.1) else B.times) i many
/-- why a block doesn't fit the others -/
def wrongB (l : List TB) (i : Nat) : Int :=
  if badAt (l.map (·.id)) 36 37 i || badAt (l.map (·.id)) 33 34 i then 6 else if farB (l.getD i {}) i l.length then 5 else 0
end Tz
/-- blocks that lie in a row -/
def BlksT (w : World) (g : Nat) (l : List TB) : Prop := ∀ i B, l[i]? = some B → ∃ (R : List Value) (ta ia : Value), w.rangeAt g (i * 18) R ∧ RowIs R B.id ta ia ∧ TimesAt w ta B.times ∧ ItemsG w ia (B.items.map (·.1)) ∧ B.times.length ≤ 100000 ∧ B.items.length ≤ 100000
theorem BlksT.below {w w' : World} {g : Nat} {l : List TB} (h : BlksT w g l) (hb : Below w.heap.size w w') : BlksT w' g l := fun i B hi => by
  obtain ⟨R, ta, ia, h1, h2, h3, h4, h5⟩ := h i B hi
  exact ⟨R, ta, ia, rangeAt_below h1 hb, h2, h3.below hb, h4.below hb, h5⟩
theorem BlksT.rows {w : World} {g : Nat} {l : List TB} (h : BlksT w g l) : RowsG w g (l.map (·.id)) := fun i id hi => by
  rw [List.getElem?_map] at hi
  cases hB : l[i]? with
  | none => rw [hB] at hi; cases hi
  | some B =>
    rw [hB] at hi
    obtain ⟨R, ta, ia, h1, h2, _⟩ := h i B hB
    have : B.id = id := by simpa using hi
    exact ⟨R, h2.len, this ▸ h2.c0, h2.one, h1⟩
theorem farG_any (R : List Value) (B : TB) (ta ia : Value) (i many : Int) (w : World) (ht : TimesAt w ta B.times) (hi : ItemsG w ia (B.items.map (·.1))) (hR : RowIs R B.id ta ia) (hn1 : B.times.length ≤ 100000) (hn2 : B.items.length ≤ 100000) (i0 : 0 ≤ i) (i1 : i ≤ 5000) (m0 : 0 ≤ many) (m1 : many ≤ 5000) :
    Calls Try.prog 19 #[.agg R.toArray, .int .i64 i, .int .i64 many] w fun e w' => e = .returned (.bool (Tz.farB B i many)) ∧ Below w.heap.size w w' := by
  unfold Tz.farB
  by_cases h40 : B.id = 40
  · rw [if_pos h40]; exact farG_40 R B.id ta ia _ _ i many w h40 trivial hi hR rfl (by simpa using hn2) i0 i1 m0 m1
  rw [if_neg h40]
  by_cases h35 : B.id = 35
  · exact farG_35 R B.id ta ia _ _ i many w h35 ht trivial hR rfl hn1 i0 i1 m0 m1
  by_cases h38 : B.id = 38
  · exact farG_38 R B.id ta ia _ _ i many w h38 ht trivial hR rfl hn1 i0 i1 m0 m1
  exact farG_no R B.id ta ia _ _ i many w ⟨h40, h35, h38⟩ trivial trivial hR rfl hn1 i0 i1 m0 m1
/-- the first that isn't nought, as the call's two results -/
def FirstP (f : Nat → Int) (n : Nat) (w : World) (e : Ending) (w' : World) : Prop := e = .returned (.tuple #[.int .i64 (Tz.firstW f n).1, .int .i64 (Tz.firstW f n).2]) ∧ Below w.heap.size w w'
theorem firstP_hit {f : Nat → Int} {n k : Nat} {w w' : World} {e : Ending} {x : Int} (h : ∀ j, j < k → f j = 0) (hx : f k = x) (h0 : x ≠ 0) (hk : k < n) (he : e = .returned (.tuple #[.int .i64 k, .int .i64 x])) (hb : Below w.heap.size w w') : FirstP f n w e w' := by
  refine ⟨?_, hb⟩
  rw [Tz.firstW_hit _ n k h (by rw [hx]; exact h0) hk, hx]
  exact he
set_option maxRecDepth 100000 in
set_option maxHeartbeats 2000000 in
theorem soundG (g : Nat) (A : Option Addr) (n c : Nat) (l : List TB) (w : World) (hA : n = 0 ∨ A = some ⟨g, 0, none⟩) (hL : BlksT w g l) (hnl : l.length = n) (hn1 : n ≤ 5000) :
    Calls Try.prog 7 #[.slice A n c] w (FirstP (Tz.wrongB l) n w) := by
  obtain ⟨ids, hids⟩ : ∃ ids, ids = l.map (·.id) := ⟨_, rfl⟩
  have HIDS := Lib.hid hids
  have hn : ids.length = n := by rw [hids]; simpa using hnl
  have hLR := hL.rows
  rw [← hids] at hLR
  have HP1 := Lib.hid (pairsG g A n c ids 36 37 w hA hLR hn hn1)
  have HP2 := Lib.hid (fun u (hu : Below w.heap.size w u) => pairsG g A n c ids 33 34 u hA (hLR.below hu) hn hn1)
  have HL := Lib.hid hL; have HN := Lib.hid hn; have HNL := Lib.hid hnl
  clear hL hn hnl hLR hids
  go_enter Try.func7, Try.ntmps7
  go_wp2_with (first
    | (go_at_call 18; refine (HP2.out _ hb2).mono ?_; rintro e w3 ⟨rfl, hk3, hb3⟩)
    | (go_at_call 18; refine HP1.out.mono ?_; rintro e w2 ⟨rfl, hk2, hb2⟩))
  have HB2 := Lib.hid hb2; have HB3 := Lib.hid hb3; have HB23 := Lib.hid (hb2.trans (hb3.mono hb2.size))
  have HK2 := Lib.hid (hk2.below_ hb3); have HK3 := Lib.hid hk3
  clear hb2 hb3 hk2 hk3
  go_loopw [6, 7, 14] (fun _ _ idx wr => ∃ k : Nat, k ≤ n ∧ idx = .int .i64 k ∧ Hid (∀ j, j < k → Tz.wrongB l j = 0) ∧ Hid (Below w3.heap.size w3 wr)) (fun _ _ idx _ => n - (intOf idx).toNat)
  case atStart => exact ⟨0, by omega, rfl, fun j hj => by omega, Below.refl _ _⟩
  case round =>
    obtain ⟨k, hk, rfl, HZ, HB⟩ := hrel
    by_cases hlt : k < n
    · obtain ⟨B, hB⟩ : ∃ x, l[k]? = some x := ⟨_, List.getElem?_eq_getElem (by rw [HNL.out]; exact hlt)⟩
      obtain ⟨R, ta, ia, hr, hri, hta, hia, ht5, hi5⟩ := (HL.out.below HB23.out).below HB.out k B hB
      obtain ⟨id, hidB⟩ : ∃ id, id = B.id := ⟨_, rfl⟩
      have hid : ids[k]? = some id := by rw [HIDS.out, List.getElem?_map, hB, hidB]; rfl
      have HR := Lib.hid hr
      have hA2 : A = some ⟨g, 0, none⟩ := by rcases hA with h | h; omega; exact h
      subst hA2
      have hgd : ids.getD k 0 = id := by simp [List.getD, hid]
      have HRL : Hid (some 18 = some R.toArray.size) := by show _ = _; simp [hri.len]
      have HSZ : Hid (R.toArray.size = 18) := by show _ = _; simp [hri.len]
      have HR1 : Hid (R.toArray.all (·.oneCell') = true) := hri.one
      obtain ⟨u, hu⟩ : ∃ u, u = wr.alloc (.cells R.toArray 30) := ⟨_, rfl⟩
      have HU := Lib.hid hu
      have HBU := Lib.hid (show Below w3.heap.size w3 u by rw [hu]; exact HB.out.alloc HB.out.size _)
      have hbu0 : Below wr.heap.size wr u := by rw [hu]; exact (Below.refl _ wr).alloc (Nat.le_refl _) _
      have HKR : Hid (u.heap[wr.heap.size]? = some (.cells R.toArray 30 (0, 0))) := by show _ = _; rw [hu]; exact heap_alloc_new wr _
      have HF : Hid (Calls Try.prog 19 #[.agg R.toArray, .int .i64 k, .int .i64 n] u fun e w' => e = .returned (.bool (Tz.farB B k n)) ∧ Below u.heap.size u w') := by
        exact farG_any R B ta ia k n u (hta.below hbu0) (hia.below hbu0) hri ht5 hi5 (by omega) (by omega) (by omega) (by omega)
      have hkl : k < ids.length := by rw [HN.out]; exact hlt
      obtain ⟨b1, hb1⟩ : ∃ b, b = Tz.badAt ids 36 37 k := ⟨_, rfl⟩
      obtain ⟨b2, hb2⟩ : ∃ b, b = Tz.badAt ids 33 34 k := ⟨_, rfl⟩
      have c1 : u.cell? ⟨w.heap.size, k, none⟩ = some (.bool b1) := by rw [((HK2.out.below_ HB.out).below_ hbu0).cell k, ← HN.out, Tz.bads_get _ _ _ _ hkl, hb1]
      have c2 : u.cell? ⟨w2.heap.size, k, none⟩ = some (.bool b2) := by rw [((HK3.out.below_ HB.out).below_ hbu0).cell k, ← HN.out, Tz.bads_get _ _ _ _ hkl, hb2]
      have HWR : Hid (Tz.wrongB l k = if b1 || b2 then 6 else if Tz.farB B k n then 5 else 0) := by show _ = _; unfold Tz.wrongB; rw [← HIDS.out, HNL.out, ← hb1, ← hb2, show l.getD k {} = B by simp [List.getD, hB]]
      obtain ⟨ff, hff⟩ : ∃ b, b = Tz.farB B k n := ⟨_, rfl⟩
      rw [← hff] at HF HWR
      clear hr hri hgd hid hidB hB ht5 hi5 hu hbu0 hta hia hb1 hb2 hff hkl
      cases b1 with
      | true =>
        go_wp2_with (first
          | (refine wpList_load_mid rfl 30 (.tmp 17) rfl g (k * 18) rfl R _ HR.out Try.underlying30 rfl (infoBlk.trans HRL.out) ?_)
          | (refine wpList_store_rowTo rfl 30 (.tmp 7) (.tmp 18) rfl rfl wr.heap.size _ rfl rfl 30 _ (heap_alloc_new wr _) (infoBlk.trans HRL.out) (by rw [HSZ.out]; rfl) HR1.out ?_; rw [World.setRow_alloc_new, ← HU.out]))
        go_ret2
        exact firstP_hit (x := 6) HZ.out (by rw [HWR.out]; rfl) (by decide) hlt rfl (HB23.out.trans (HBU.out.mono HB23.out.size))
      | false =>
        cases b2 with
        | true =>
          go_wp2_with (first
                    | (refine wpList_load_mid rfl 30 (.tmp 17) rfl g (k * 18) rfl R _ HR.out Try.underlying30 rfl (infoBlk.trans HRL.out) ?_)
                    | (refine wpList_store_rowTo rfl 30 (.tmp 7) (.tmp 18) rfl rfl wr.heap.size _ rfl rfl 30 _ (heap_alloc_new wr _) (infoBlk.trans HRL.out) (by rw [HSZ.out]; rfl) HR1.out ?_; rw [World.setRow_alloc_new, ← HU.out])
                    | (refine wpList_load_row rfl 30 (.tmp 7) rfl wr.heap.size rfl 30 R.toArray (0, 0) _ HKR.out Try.underlying30 rfl (infoBlk.trans HRL.out) ?_)
                    | (go_at_call 19; refine HF.out.mono ?_; rintro e w5 ⟨rfl, hb5⟩))
          go_ret2
          exact firstP_hit (x := 6) HZ.out (by rw [HWR.out]; rfl) (by decide) hlt rfl (HB23.out.trans (HBU.out.mono HB23.out.size))
        | false =>
          cases ff with
          | true =>
            go_wp2_with (first
                      | (refine wpList_load_mid rfl 30 (.tmp 17) rfl g (k * 18) rfl R _ HR.out Try.underlying30 rfl (infoBlk.trans HRL.out) ?_)
                      | (refine wpList_store_rowTo rfl 30 (.tmp 7) (.tmp 18) rfl rfl wr.heap.size _ rfl rfl 30 _ (heap_alloc_new wr _) (infoBlk.trans HRL.out) (by rw [HSZ.out]; rfl) HR1.out ?_; rw [World.setRow_alloc_new, ← HU.out])
                      | (refine wpList_load_row rfl 30 (.tmp 7) rfl wr.heap.size rfl 30 R.toArray (0, 0) _ HKR.out Try.underlying30 rfl (infoBlk.trans HRL.out) ?_)
                      | (go_at_call 19; refine HF.out.mono ?_; rintro e w5 ⟨rfl, hb5⟩))
            go_ret2
            exact firstP_hit (x := 5) HZ.out (by rw [HWR.out]; rfl) (by decide) hlt rfl (HB23.out.trans ((HBU.out.trans (hb5.mono HBU.out.size)).mono HB23.out.size))
          | false =>
            have HZ2 : Hid (∀ j, j < k + 1 → Tz.wrongB l j = 0) := fun j hj => by
              by_cases e : j = k
              · subst e; rw [HWR.out]; rfl
              · exact HZ.out j (by omega)
            go_wp2_with (first
                      | (refine wpList_load_mid rfl 30 (.tmp 17) rfl g (k * 18) rfl R _ HR.out Try.underlying30 rfl (infoBlk.trans HRL.out) ?_)
                      | (refine wpList_store_rowTo rfl 30 (.tmp 7) (.tmp 18) rfl rfl wr.heap.size _ rfl rfl 30 _ (heap_alloc_new wr _) (infoBlk.trans HRL.out) (by rw [HSZ.out]; rfl) HR1.out ?_; rw [World.setRow_alloc_new, ← HU.out])
                      | (refine wpList_load_row rfl 30 (.tmp 7) rfl wr.heap.size rfl 30 R.toArray (0, 0) _ HKR.out Try.underlying30 rfl (infoBlk.trans HRL.out) ?_)
                      | (go_at_call 19; refine HF.out.mono ?_; rintro e w5 ⟨rfl, hb5⟩))
            go_roundw
            case rel => exact ⟨k + 1, by omega, by go_num, HZ2, HBU.out.trans (hb5.mono HBU.out.size)⟩
            case measure => simp [intOf]; omega
    · obtain rfl : k = n := by omega
      go_wp2_with fail
      go_ret2
      refine ⟨?_, HB23.out.trans (HB.out.mono HB23.out.size)⟩
      rw [Tz.firstW_none _ _ HZ.out]
      rfl
end Go.Proofs.Ytaipkoeiahjghaa
