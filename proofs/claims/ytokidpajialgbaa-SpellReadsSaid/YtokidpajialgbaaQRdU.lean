/- tzx.pairs, tzx.far over blocks that begin anywhere. Written by gen_rdo.py. -/
import Derived.Test.YtokidpajialgbaaQTzyD
namespace Go.Proofs.Ytokidpajialgbaa
set_option linter.unusedSimpArgs false
set_option linter.unusedVariables false
open Go.RowKit
/-- a row of 18 cells, its ID, its Times, its Items -/
structure RowIs (R : List Value) (id : Int) (ta ia : Value) : Prop where
  len : R.length = 18
  c0 : R[0]? = some (.int .i64 id)
  c13 : R[13]? = some ta
  c14 : R[14]? = some ia
  one : R.toArray.all (·.oneCell') = true
/-- numbers as a block's Times -/
def TimesO (w : World) (ta : Value) (T : List Int) : Prop := ∃ A c, ta = .slice A T.length c ∧ Ints w A .i64 T ∧ True
theorem TimesO.below {w w' : World} {ta : Value} {T : List Int} (h : TimesO w ta T) (hb : Below w.heap.size w w') : TimesO w' ta T := by
  obtain ⟨A, c, h1, h2, h3⟩ := h
  exact ⟨A, c, h1, Cells.below h2 hb, h3⟩
/-- rows of 18 cells, the first one an ID -/
def RowsO (w : World) (g o : Nat) (ids : List Int) : Prop := ∀ i id, ids[i]? = some id → ∃ R : List Value, R.length = 18 ∧ R[0]? = some (.int .i64 id) ∧ R.toArray.all (·.oneCell') = true ∧ w.rangeAt g (o + i * 18) R
theorem RowsO.below {w w' : World} {g o : Nat} {ids : List Int} (h : RowsO w g o ids) (hb : Below w.heap.size w w') : RowsO w' g o ids := fun i id hi => by
  obtain ⟨R, h1, h2, h3, h4⟩ := h i id hi
  exact ⟨R, h1, h2, h3, rangeAt_below h4 hb⟩
/-- numbers as a block's Items, of whatever texts -/
def ItemsO (w : World) (ia : Value) (T : List Int) : Prop := ∃ h oi c, (T = [] ∧ ∃ A, ia = .slice A 0 c) ∨ (ia = .slice (some ⟨h, oi, none⟩) T.length c ∧ ∀ k x, T[k]? = some x → ∃ rB rn rd, w.rangeAt h (oi + k * 2) [.int .i64 x, .slice rB rn rd])
theorem ItemsO.below {w w' : World} {ia : Value} {T : List Int} (h : ItemsO w ia T) (hb : Below w.heap.size w w') : ItemsO w' ia T := by
  obtain ⟨g, oi, c, h1 | ⟨h1, h2⟩⟩ := h
  · exact ⟨g, oi, c, .inl h1⟩
  · refine ⟨g, oi, c, .inr ⟨h1, fun k x hk => ?_⟩⟩
    obtain ⟨a, b, d, h3⟩ := h2 k x hk
    exact ⟨a, b, d, rangeAt_below h3 hb⟩
set_option maxRecDepth 100000 in
set_option maxHeartbeats 2000000 in
theorem pairsO (g o : Nat) (A : Option Addr) (n c : Nat) (ids : List Int) (b e : Int) (w : World) (hA : n = 0 ∨ A = some ⟨g, o, none⟩) (hL : RowsO w g o ids) (hn : ids.length = n) (hn1 : n ≤ 5000) :
    Calls Try.prog 51 #[.slice A n c, .int .i64 b, .int .i64 e] w fun x w' => x = .returned (.slice (some ⟨w.heap.size, 0, none⟩) n n) ∧ Blk w' w.heap.size 4 (Tz.bads ids b e n) ∧ Below w.heap.size w w' := by
  have HMK := Lib.hid (mkBools n (by omega))
  have HL := Lib.hid hL; have HN := Lib.hid hn
  have hmk := mkBools n (by omega) w
  clear hL hn
  obtain ⟨w1, hw1⟩ : ∃ w1, w1 = w.alloc (.cells (List.replicate n (Value.bool false)).toArray 4) := ⟨_, rfl⟩
  rw [← hw1] at hmk
  have HB1 := Lib.hid (show Below w.heap.size w w1 by rw [hw1]; exact (Below.refl _ w).alloc (Nat.le_refl _) _)
  have HK1 := Lib.hid (show Blk w1 w.heap.size 4 (List.replicate n (Value.bool false)) by rw [hw1]; exact Blk.new w _ _)
  clear hw1
  go_enter Try.func51, Try.ntmps51
  go_wp2_with fail
  clear hmk
  go_loopw [8, 9, 10, 19] (fun last _ _ idx wr => ∃ k : Nat, k ≤ n ∧ idx = .int .i64 k ∧ last = .int .i64 (Tz.lastAt ids e k) ∧ Hid (Below w1.heap.size w1 wr)) (fun _ _ _ idx _ => n - (intOf idx).toNat)
  case atStart => exact ⟨0, by omega, rfl, rfl, Below.refl _ _⟩
  case round =>
    obtain ⟨k, hk, rfl, rfl, HB⟩ := hrel
    by_cases hlt : k < n
    · obtain ⟨id, hid⟩ : ∃ x, ids[k]? = some x := ⟨_, List.getElem?_eq_getElem (by rw [HN.out]; exact hlt)⟩
      obtain ⟨R, hR18, hRz, hRo, hr⟩ := (HL.out.below HB1.out).below HB.out k id hid
      have HR := Lib.hid hr
      have hA2 : A = some ⟨g, o, none⟩ := by rcases hA with h | h; omega; exact h
      subst hA2
      have HRL : Hid (some 18 = some R.toArray.size) := by show _ = _; simp [hR18]
      have HSZ : Hid (R.toArray.size = 18) := by show _ = _; simp [hR18]
      have hc0 : (wr.alloc (.cells R.toArray 28)).cell? ⟨wr.heap.size, 0, none⟩ = some (.int .i64 id) := by rw [(Blk.new wr _ R).cell 0, hRz]
      have hgd : ids.getD k 0 = id := by simp [List.getD, hid]
      have HGD := Lib.hid hgd
      have HB2 := Lib.hid (HB.out.alloc HB.out.size (.cells R.toArray 28))
      have HR0 : Hid (R[0]? = some (.int .i64 id)) := by exact hRz
      have HR1 : Hid (R.toArray.all (·.oneCell') = true) := by exact hRo
      clear hr hgd hid hR18 hRz hRo
      by_cases hie : id = e
      · have HLA : Hid (Tz.lastAt ids e (k + 1) = k) := by show (if ids.getD k 0 = e then (k : Int) else _) = _; rw [HGD.out, if_pos hie]
        have hbe : (id == e) = true := by simpa using hie
        go_wp2_with (first
          | (refine wpList_load_mid rfl 28 (.tmp 22) rfl g (o + k * 18) rfl R _ HR.out Try.underlying28 rfl (infoBlk.trans HRL.out) ?_)
          | (refine wpList_store_rowTo rfl 28 (.tmp 10) (.tmp 23) rfl rfl wr.heap.size _ rfl rfl 28 _ (heap_alloc_new wr _) (infoBlk.trans HRL.out) (by rw [HSZ.out]; rfl) HR1.out ?_; rw [World.setRow_alloc_new]))
        go_roundw
        case rel => exact ⟨k + 1, by omega, by go_num, by rw [HLA.out], HB2.out⟩
        case measure => simp [intOf]; omega
      · have HLA : Hid (Tz.lastAt ids e (k + 1) = Tz.lastAt ids e k) := by show (if ids.getD k 0 = e then (k : Int) else _) = _; rw [HGD.out, if_neg hie]
        have hbe : (id == e) = false := by simpa using hie
        go_wp2_with (first
          | (refine wpList_load_mid rfl 28 (.tmp 22) rfl g (o + k * 18) rfl R _ HR.out Try.underlying28 rfl (infoBlk.trans HRL.out) ?_)
          | (refine wpList_store_rowTo rfl 28 (.tmp 10) (.tmp 23) rfl rfl wr.heap.size _ rfl rfl 28 _ (heap_alloc_new wr _) (infoBlk.trans HRL.out) (by rw [HSZ.out]; rfl) HR1.out ?_; rw [World.setRow_alloc_new]))
        go_roundw
        case rel => exact ⟨k + 1, by omega, by go_num, by rw [HLA.out], HB2.out⟩
        case measure => simp [intOf]; omega
    · obtain rfl : k = n := by omega
      go_wp2_with fail
      have HBB := Lib.hid (HB1.out.trans (HB.out.mono HB1.out.size))
      have HK2 := Lib.hid (HK1.out.below_ HB.out)
      have HLST := Lib.hid (Tz.lastAt_range ids e k)
      obtain ⟨L, hL⟩ : ∃ L, L = Tz.lastAt ids e k := ⟨_, rfl⟩
      rw [← hL] at HLST ⊢
      have HLL := Lib.hid hL
      have hsz2 := HBB.out.size
      clear hL
      obtain ⟨w2, rfl⟩ : ∃ w2, w2 = wr := ⟨_, rfl⟩
      go_loopw [11, 12, 13, 32] (fun opn _ _ idx wq => ∃ j : Nat, j ≤ k ∧ idx = .int .i64 j ∧ opn = .bool (Tz.openAt ids b e j) ∧ Hid (Below w.heap.size w wq) ∧ Hid (Blk wq w.heap.size 4 (Tz.bads ids b e j))) (fun _ _ _ idx _ => k - (intOf idx).toNat)
      case atStart => exact ⟨0, by omega, rfl, rfl, HBB.out, by rw [Tz.bads_zero, HN.out]; exact HK2.out⟩
      case round =>
        obtain ⟨j, hj, rfl, rfl, HB, HK⟩ := hrel
        by_cases hlt : j < k
        · obtain ⟨id, hid⟩ : ∃ x, ids[j]? = some x := ⟨_, List.getElem?_eq_getElem (by rw [HN.out]; exact hlt)⟩
          obtain ⟨R, hR18, hRz, hRo, hr⟩ := HL.out.below HB.out j id hid
          have HR := Lib.hid hr
          have hA2 : A = some ⟨g, o, none⟩ := by rcases hA with h | h; omega; exact h
          subst hA2
          have HRL : Hid (some 18 = some R.toArray.size) := by show _ = _; simp [hR18]
          have HSZ : Hid (R.toArray.size = 18) := by show _ = _; simp [hR18]
          have hc0 : (wr.alloc (.cells R.toArray 28)).cell? ⟨wr.heap.size, 0, none⟩ = some (.int .i64 id) := by rw [(Blk.new wr _ R).cell 0, hRz]
          have hgd : ids.getD j 0 = id := by simp [List.getD, hid]
          have HGD := Lib.hid hgd
          have HR0 : Hid (R[0]? = some (.int .i64 id)) := by exact hRz
          have HR1 : Hid (R.toArray.all (·.oneCell') = true) := by exact hRo
          clear hr hgd hid hR18 hRz hRo
          obtain ⟨u, hu⟩ : ∃ u, u = wr.alloc (.cells R.toArray 28) := ⟨_, rfl⟩
          have HKU : Hid (Blk u w.heap.size 4 (Tz.bads ids b e j)) := by rw [hu]; exact HK.out.alloc _
          have HBU : Hid (Below w.heap.size w u) := by rw [hu]; exact HB.out.alloc HB.out.size _
          have hbl : (Tz.bads ids b e j)[j]? = some (.bool false) := by
            unfold Tz.bads
            rw [List.getElem?_append_right (by simp), List.length_map, List.length_range, Nat.sub_self, List.getElem?_replicate, if_pos (by rw [HN.out]; omega)]
          have cj : u.cell? ⟨w.heap.size, j, none⟩ = some (.bool false) := by rw [HKU.out.cell j, hbl]
          have fj : u.frozen? ⟨w.heap.size, j, none⟩ = false := HKU.out.frozen j
          have hJ : j < ids.length := by rw [HN.out]; exact hlt
          have HSET := Lib.hid (Tz.bads_set ids b e j hJ)
          have HSKIP := Lib.hid (Tz.bads_skip ids b e j hJ)
          have HSTO := Lib.hid (fun v => (HKU.out.set_ j v))
          have HBA : Hid (Tz.badAt ids b e j = if id = b then Tz.openAt ids b e j || decide (L < j) else if id = e then !Tz.openAt ids b e j else false) := by show _ = _; unfold Tz.badAt; rw [HGD.out, HN.out, ← HLL.out]
          have HOA : Hid (Tz.openAt ids b e (j + 1) = if id = b then true else if id = e then false else Tz.openAt ids b e j) := by show (if ids.getD j 0 = b then _ else _) = _; rw [HGD.out]
          obtain ⟨O, hO⟩ : ∃ O, O = Tz.openAt ids b e j := ⟨_, rfl⟩
          rw [← hO] at HBA HOA ⊢
          clear hO hbl hJ
          rw [← hu] at hc0
          have HU := Lib.hid hu
          clear hu
          by_cases hib : id = b
          · have e1 : (id == b) = true := by simpa using hib
            rw [if_pos hib] at HBA HOA
            cases O with
            | true =>
              go_wp2_with (first
                          | (refine wpList_load_mid rfl 28 (.tmp 35) rfl g (o + j * 18) rfl R _ HR.out Try.underlying28 rfl (infoBlk.trans HRL.out) ?_)
                          | (refine wpList_store_rowTo rfl 28 (.tmp 13) (.tmp 36) rfl rfl wr.heap.size _ rfl rfl 28 _ (heap_alloc_new wr _) (infoBlk.trans HRL.out) (by rw [HSZ.out]; rfl) HR1.out ?_; rw [World.setRow_alloc_new, ← HU.out]))
              go_roundw
              case rel => exact ⟨j + 1, by omega, by go_num, by rw [HOA.out], HBU.out.setCell (Nat.le_refl _) _, by show Blk _ _ _ _; have h := HSTO.out (.bool true); rw [← HSET.out, HBA.out]; simpa using h⟩
              case measure => simp [intOf]; omega
            | false =>
              by_cases hLj : L < j
              · skip
                go_wp2_with (first
                            | (refine wpList_load_mid rfl 28 (.tmp 35) rfl g (o + j * 18) rfl R _ HR.out Try.underlying28 rfl (infoBlk.trans HRL.out) ?_)
                            | (refine wpList_store_rowTo rfl 28 (.tmp 13) (.tmp 36) rfl rfl wr.heap.size _ rfl rfl 28 _ (heap_alloc_new wr _) (infoBlk.trans HRL.out) (by rw [HSZ.out]; rfl) HR1.out ?_; rw [World.setRow_alloc_new, ← HU.out]))
                go_roundw
                case rel => exact ⟨j + 1, by omega, by go_num, by rw [HOA.out], HBU.out.setCell (Nat.le_refl _) _, by show Blk _ _ _ _; have h := HSTO.out (.bool true); rw [← HSET.out, HBA.out]; simpa [hLj] using h⟩
                case measure => simp [intOf]; omega
              · skip
                go_wp2_with (first
                            | (refine wpList_load_mid rfl 28 (.tmp 35) rfl g (o + j * 18) rfl R _ HR.out Try.underlying28 rfl (infoBlk.trans HRL.out) ?_)
                            | (refine wpList_store_rowTo rfl 28 (.tmp 13) (.tmp 36) rfl rfl wr.heap.size _ rfl rfl 28 _ (heap_alloc_new wr _) (infoBlk.trans HRL.out) (by rw [HSZ.out]; rfl) HR1.out ?_; rw [World.setRow_alloc_new, ← HU.out]))
                go_roundw
                case rel => exact ⟨j + 1, by omega, by go_num, by rw [HOA.out], HBU.out.setCell (Nat.le_refl _) _, by show Blk _ _ _ _; have h := HSTO.out (.bool false); rw [← HSET.out, HBA.out]; simpa [hLj] using h⟩
                case measure => simp [intOf]; omega
          · have e1 : (id == b) = false := by simpa using hib
            by_cases hie : id = e
            · have e2 : (id == e) = true := by simpa using hie
              rw [if_neg hib, if_pos hie] at HBA HOA
              cases O with
              | true =>
                go_wp2_with (first
                            | (refine wpList_load_mid rfl 28 (.tmp 35) rfl g (o + j * 18) rfl R _ HR.out Try.underlying28 rfl (infoBlk.trans HRL.out) ?_)
                            | (refine wpList_store_rowTo rfl 28 (.tmp 13) (.tmp 36) rfl rfl wr.heap.size _ rfl rfl 28 _ (heap_alloc_new wr _) (infoBlk.trans HRL.out) (by rw [HSZ.out]; rfl) HR1.out ?_; rw [World.setRow_alloc_new, ← HU.out]))
                go_roundw
                case rel => exact ⟨j + 1, by omega, by go_num, by rw [HOA.out], HBU.out.setCell (Nat.le_refl _) _, by show Blk _ _ _ _; have h := HSTO.out (.bool false); rw [← HSET.out, HBA.out]; simpa using h⟩
                case measure => simp [intOf]; omega
              | false =>
                go_wp2_with (first
                            | (refine wpList_load_mid rfl 28 (.tmp 35) rfl g (o + j * 18) rfl R _ HR.out Try.underlying28 rfl (infoBlk.trans HRL.out) ?_)
                            | (refine wpList_store_rowTo rfl 28 (.tmp 13) (.tmp 36) rfl rfl wr.heap.size _ rfl rfl 28 _ (heap_alloc_new wr _) (infoBlk.trans HRL.out) (by rw [HSZ.out]; rfl) HR1.out ?_; rw [World.setRow_alloc_new, ← HU.out]))
                go_roundw
                case rel => exact ⟨j + 1, by omega, by go_num, by rw [HOA.out], HBU.out.setCell (Nat.le_refl _) _, by show Blk _ _ _ _; have h := HSTO.out (.bool true); rw [← HSET.out, HBA.out]; simpa using h⟩
                case measure => simp [intOf]; omega
            · have e2 : (id == e) = false := by simpa using hie
              rw [if_neg hib, if_neg hie] at HBA HOA
              go_wp2_with (first
                          | (refine wpList_load_mid rfl 28 (.tmp 35) rfl g (o + j * 18) rfl R _ HR.out Try.underlying28 rfl (infoBlk.trans HRL.out) ?_)
                          | (refine wpList_store_rowTo rfl 28 (.tmp 13) (.tmp 36) rfl rfl wr.heap.size _ rfl rfl 28 _ (heap_alloc_new wr _) (infoBlk.trans HRL.out) (by rw [HSZ.out]; rfl) HR1.out ?_; rw [World.setRow_alloc_new, ← HU.out]))
              go_roundw
              case rel => exact ⟨j + 1, by omega, by go_num, by rw [HOA.out], HBU.out, by rw [← HSKIP.out HBA.out]; exact HKU.out⟩
              case measure => simp [intOf]; omega
        · obtain rfl : j = k := by omega
          go_wp2_with fail
          go_ret
          exact ⟨rfl, HK.out, HB.out⟩
set_option maxRecDepth 100000 in
set_option maxHeartbeats 2000000 in
theorem farO_35 (R : List Value) (id : Int) (ta ia : Value) (n : Nat) (T : List Int) (i many : Int) (w : World) (hid : id = 35) (ht : TimesO w ta T) (hi : True) (hR : RowIs R id ta ia) (hn : T.length = n) (hn1 : n ≤ 100000) (i0 : 0 ≤ i) (i1 : i ≤ 5000) (m0 : 0 ≤ many) (m1 : many ≤ 5000) :
    Calls Try.prog 52 #[.agg R.toArray, .int .i64 i, .int .i64 many] w fun e w' => e = .returned (.bool (Tz.farS id T i many)) ∧ Below w.heap.size w w' := by
  have HN := Lib.hid hn
  obtain ⟨w1, hw1⟩ : ∃ w1, w1 = w.alloc (.cells R.toArray 28) := ⟨_, rfl⟩
  have HW1 := Lib.hid hw1
  have hK := Blk.new w 28 R
  rw [← hw1] at hK
  have c0 : w1.cell? ⟨w.heap.size, 0, none⟩ = some (.int .i64 id) := by rw [hK.cell 0]; exact hR.c0
  have c13 : w1.cell? ⟨w.heap.size, 13, none⟩ = some ta := by rw [hK.cell 13]; exact hR.c13
  have c14 : w1.cell? ⟨w.heap.size, 14, none⟩ = some ia := by rw [hK.cell 14]; exact hR.c14
  have HB := Lib.hid (show Below w.heap.size w w1 by rw [hw1]; exact (Below.refl _ w).alloc (Nat.le_refl _) _)
  have ht1 := ht.below HB.out
  have hs1 : w1.heap.size = w.heap.size + 1 := by rw [hw1]; simp
  have HR1 : Hid (R.toArray.all (·.oneCell') = true) := hR.one
  clear hw1 hK hR ht hi hn
  subst hid
  have HID := Lib.hid (show ((35 : Int) == 40 || (35 : Int) == 35 || (35 : Int) == 38) = true by decide)
  obtain ⟨A, c, rfl, hcs, -⟩ := ht1
  rw [HN.out] at c13
  have HC := Lib.hid hcs
  have HBF := HB
  clear hcs
  go_enter Try.func52, Try.ntmps52
  go_wp2_with (first | (rw [← HW1.out]))
  go_loopw [11, 36] (fun _ idx wr => ∃ k : Nat, k ≤ n ∧ idx = .int .i64 k ∧ Hid ((T.take k).any (Tz.farOne i many) = false) ∧ w1 = wr) (fun _ idx _ => n - (intOf idx).toNat)
  case atStart => exact ⟨0, by omega, rfl, by show _ = _; simp, rfl⟩
  case round =>
    obtain ⟨k, hk, rfl, HT, rfl⟩ := hrel
    by_cases hlt : k < n
    · obtain ⟨x, hx⟩ : ∃ x, T[k]? = some x := ⟨_, List.getElem?_eq_getElem (by rw [HN.out]; exact hlt)⟩
      obtain ⟨ad, rfl, hc⟩ := HC.out k (.int .i64 x) (by simp [hx])
      have ht := Tz.any_take T (Tz.farOne i many) k x hx HT.out
      have HT2 := Lib.hid ht
      have HAT := Lib.hid (Tz.any_of_take T (Tz.farOne i many) (k + 1))
      clear hx ht
      by_cases h1 : x < -i
      · have HF : Hid (Tz.farS 35 T i many = true) := by
          show (_ && _) = _
          rw [HAT.out (by rw [HT2.out]; simp [Tz.farOne, h1])]
          simp [HID.out]
        go_wp2_with fail
        go_ret
        exact ⟨by rw [HF.out]; rfl, HBF.out⟩
      · by_cases h2 : many - i ≤ x
        · have HF : Hid (Tz.farS 35 T i many = true) := by
            show (_ && _) = _
            rw [HAT.out (by rw [HT2.out]; simp [Tz.farOne, h2])]
            simp [HID.out]
          go_wp2_with fail
          go_ret
          exact ⟨by rw [HF.out]; rfl, HBF.out⟩
        · have HT3 : Hid ((T.take (k + 1)).any (Tz.farOne i many) = false) := by show _ = _; rw [HT2.out]; simp [Tz.farOne, h1]; omega
          go_wp2_with fail
          go_roundw
          case rel => exact ⟨k + 1, by omega, by go_num, HT3, trivial⟩
          case measure => simp [intOf]; omega
    · obtain rfl : k = n := by omega
      have HF : Hid (Tz.farS 35 T i many = false) := by
        show (_ && _) = _
        have h := HT.out
        rw [List.take_of_length_le (by rw [HN.out]; exact Nat.le_refl _)] at h
        rw [h]
        simp
      go_wp2_with fail
      go_ret
      exact ⟨by rw [HF.out]; rfl, HBF.out⟩
set_option maxRecDepth 100000 in
set_option maxHeartbeats 2000000 in
theorem farO_38 (R : List Value) (id : Int) (ta ia : Value) (n : Nat) (T : List Int) (i many : Int) (w : World) (hid : id = 38) (ht : TimesO w ta T) (hi : True) (hR : RowIs R id ta ia) (hn : T.length = n) (hn1 : n ≤ 100000) (i0 : 0 ≤ i) (i1 : i ≤ 5000) (m0 : 0 ≤ many) (m1 : many ≤ 5000) :
    Calls Try.prog 52 #[.agg R.toArray, .int .i64 i, .int .i64 many] w fun e w' => e = .returned (.bool (Tz.farS id T i many)) ∧ Below w.heap.size w w' := by
  have HN := Lib.hid hn
  obtain ⟨w1, hw1⟩ : ∃ w1, w1 = w.alloc (.cells R.toArray 28) := ⟨_, rfl⟩
  have HW1 := Lib.hid hw1
  have hK := Blk.new w 28 R
  rw [← hw1] at hK
  have c0 : w1.cell? ⟨w.heap.size, 0, none⟩ = some (.int .i64 id) := by rw [hK.cell 0]; exact hR.c0
  have c13 : w1.cell? ⟨w.heap.size, 13, none⟩ = some ta := by rw [hK.cell 13]; exact hR.c13
  have c14 : w1.cell? ⟨w.heap.size, 14, none⟩ = some ia := by rw [hK.cell 14]; exact hR.c14
  have HB := Lib.hid (show Below w.heap.size w w1 by rw [hw1]; exact (Below.refl _ w).alloc (Nat.le_refl _) _)
  have ht1 := ht.below HB.out
  have hs1 : w1.heap.size = w.heap.size + 1 := by rw [hw1]; simp
  have HR1 : Hid (R.toArray.all (·.oneCell') = true) := hR.one
  clear hw1 hK hR ht hi hn
  subst hid
  have HID := Lib.hid (show ((38 : Int) == 40 || (38 : Int) == 35 || (38 : Int) == 38) = true by decide)
  obtain ⟨A, c, rfl, hcs, -⟩ := ht1
  rw [HN.out] at c13
  have HC := Lib.hid hcs
  have HBF := HB
  clear hcs
  go_enter Try.func52, Try.ntmps52
  go_wp2_with (first | (rw [← HW1.out]))
  go_loopw [11, 36] (fun _ idx wr => ∃ k : Nat, k ≤ n ∧ idx = .int .i64 k ∧ Hid ((T.take k).any (Tz.farOne i many) = false) ∧ w1 = wr) (fun _ idx _ => n - (intOf idx).toNat)
  case atStart => exact ⟨0, by omega, rfl, by show _ = _; simp, rfl⟩
  case round =>
    obtain ⟨k, hk, rfl, HT, rfl⟩ := hrel
    by_cases hlt : k < n
    · obtain ⟨x, hx⟩ : ∃ x, T[k]? = some x := ⟨_, List.getElem?_eq_getElem (by rw [HN.out]; exact hlt)⟩
      obtain ⟨ad, rfl, hc⟩ := HC.out k (.int .i64 x) (by simp [hx])
      have ht := Tz.any_take T (Tz.farOne i many) k x hx HT.out
      have HT2 := Lib.hid ht
      have HAT := Lib.hid (Tz.any_of_take T (Tz.farOne i many) (k + 1))
      clear hx ht
      by_cases h1 : x < -i
      · have HF : Hid (Tz.farS 38 T i many = true) := by
          show (_ && _) = _
          rw [HAT.out (by rw [HT2.out]; simp [Tz.farOne, h1])]
          simp [HID.out]
        go_wp2_with fail
        go_ret
        exact ⟨by rw [HF.out]; rfl, HBF.out⟩
      · by_cases h2 : many - i ≤ x
        · have HF : Hid (Tz.farS 38 T i many = true) := by
            show (_ && _) = _
            rw [HAT.out (by rw [HT2.out]; simp [Tz.farOne, h2])]
            simp [HID.out]
          go_wp2_with fail
          go_ret
          exact ⟨by rw [HF.out]; rfl, HBF.out⟩
        · have HT3 : Hid ((T.take (k + 1)).any (Tz.farOne i many) = false) := by show _ = _; rw [HT2.out]; simp [Tz.farOne, h1]; omega
          go_wp2_with fail
          go_roundw
          case rel => exact ⟨k + 1, by omega, by go_num, HT3, trivial⟩
          case measure => simp [intOf]; omega
    · obtain rfl : k = n := by omega
      have HF : Hid (Tz.farS 38 T i many = false) := by
        show (_ && _) = _
        have h := HT.out
        rw [List.take_of_length_le (by rw [HN.out]; exact Nat.le_refl _)] at h
        rw [h]
        simp
      go_wp2_with fail
      go_ret
      exact ⟨by rw [HF.out]; rfl, HBF.out⟩
set_option maxRecDepth 100000 in
set_option maxHeartbeats 2000000 in
theorem farO_40 (R : List Value) (id : Int) (ta ia : Value) (n : Nat) (T : List Int) (i many : Int) (w : World) (hid : id = 40) (ht : True) (hi : ItemsO w ia T) (hR : RowIs R id ta ia) (hn : T.length = n) (hn1 : n ≤ 100000) (i0 : 0 ≤ i) (i1 : i ≤ 5000) (m0 : 0 ≤ many) (m1 : many ≤ 5000) :
    Calls Try.prog 52 #[.agg R.toArray, .int .i64 i, .int .i64 many] w fun e w' => e = .returned (.bool (Tz.farS id T i many)) ∧ Below w.heap.size w w' := by
  have HN := Lib.hid hn
  obtain ⟨w1, hw1⟩ : ∃ w1, w1 = w.alloc (.cells R.toArray 28) := ⟨_, rfl⟩
  have HW1 := Lib.hid hw1
  have hK := Blk.new w 28 R
  rw [← hw1] at hK
  have c0 : w1.cell? ⟨w.heap.size, 0, none⟩ = some (.int .i64 id) := by rw [hK.cell 0]; exact hR.c0
  have c13 : w1.cell? ⟨w.heap.size, 13, none⟩ = some ta := by rw [hK.cell 13]; exact hR.c13
  have c14 : w1.cell? ⟨w.heap.size, 14, none⟩ = some ia := by rw [hK.cell 14]; exact hR.c14
  have HB := Lib.hid (show Below w.heap.size w w1 by rw [hw1]; exact (Below.refl _ w).alloc (Nat.le_refl _) _)
  have hi1 := hi.below HB.out
  have hs1 : w1.heap.size = w.heap.size + 1 := by rw [hw1]; simp
  have HR1 : Hid (R.toArray.all (·.oneCell') = true) := hR.one
  clear hw1 hK hR ht hi hn
  subst hid
  have HID := Lib.hid (show ((40 : Int) == 40 || (40 : Int) == 35 || (40 : Int) == 38) = true by decide)
  obtain ⟨IA, c', h, oi, rfl, hit⟩ : ∃ IA c' h oi, ia = .slice IA n c' ∧ ∀ k x, T[k]? = some x → IA = some ⟨h, oi, none⟩ ∧ ∃ rB rn rd, w1.rangeAt h (oi + k * 2) [.int .i64 x, .slice rB rn rd] := by
    obtain ⟨h, oi, c', ⟨e1, A', e2⟩ | ⟨e1, e2⟩⟩ := hi1
    · subst e1
      exact ⟨A', c', 0, 0, by rw [e2, ← HN.out]; rfl, fun k x hk => by simp at hk⟩
    · exact ⟨_, c', h, oi, by rw [e1, HN.out], fun k x hk => ⟨rfl, e2 k x hk⟩⟩
  have HIT := Lib.hid hit
  clear hit
  go_enter Try.func52, Try.ntmps52
  go_wp2_with (first | (rw [← HW1.out]))
  go_loopw [7, 9, 21] (fun v _ idx wr => ∃ (k : Nat) (v' : Value), k ≤ n ∧ idx = .int .i64 k ∧ v' = v ∧ Hid (wr.ownsRow w1.heap.size 3 1 v' k ((T.take k).map (.int .i64 ·))) ∧ Hid (Below w1.heap.size w1 wr)) (fun _ _ idx _ => n - (intOf idx).toNat)
  case atStart => exact ⟨0, _, by omega, rfl, rfl, World.ownsRow_nil _ _ _ _, Below.refl _ _⟩
  case round =>
    obtain ⟨k, v, hk, rfl, rfl, HO, HB2⟩ := hrel
    have hsz := HB2.out.size
    by_cases hlt : k < n
    · obtain ⟨x, hx⟩ : ∃ x, T[k]? = some x := ⟨_, List.getElem?_eq_getElem (by rw [HN.out]; exact hlt)⟩
      obtain ⟨rfl, rB, rn, rd, hrg⟩ := HIT.out k x hx
      have HRG := Lib.hid (rangeAt_below hrg HB2.out)
      have hc0 : (wr.alloc (.cells #[.int .i64 x, .slice rB rn rd] 46)).cell? ⟨wr.heap.size, 0, none⟩ = some (.int .i64 x) := (Blk.new wr _ [.int .i64 x, .slice rB rn rd]).cell 0
      have HT2 : Hid (T.take (k + 1) = T.take k ++ [x]) := by show _ = _; rw [List.take_add_one, hx]; rfl
      have HO2 := Lib.hid (HO.out.alloc (.cells #[.int .i64 x, .slice rB rn rd] 46))
      have HB3 := Lib.hid (HB2.out.alloc hsz (.cells #[.int .i64 x, .slice rB rn rd] 46))
      have hsz2 := HB3.out.size
      clear hx hrg
      go_wp2_with (first
        | (refine wpList_load_mid rfl 46 (.tmp 23) rfl h (oi + k * 2) rfl [.int .i64 x, .slice rB rn rd] _ HRG.out Try.underlying46 rfl infoItem ?_)
        | (refine wpList_store_rowTo rfl 46 (.tmp 9) (.tmp 24) rfl rfl wr.heap.size _ rfl rfl 46 _ (heap_alloc_new wr _) infoItem rfl rfl ?_; rw [World.setRow_alloc_new])
        | (at_builtin; refine wpList_appL _ rfl (.tmp 25) (.tmp 28) 23 rfl w1.heap.size 3 (.int .i64 0) 1 8 Try.underlying23 infoIntT rfl (by decide) v k _ rfl HO2.out #[.int .i64 x] 1 (by rw [World.size_alloc]; rfl) rfl (by simp [Value.oneCell']) (by decide) (by omega) (by decide) hsz2 ?_; intro g2 c2 w4 hown2 hg2 _; have HB4 := Lib.hid (Below_own HB3.out HO2.out hg2 (Nat.le_refl _) hsz2); have HO4 := Lib.hid hown2; clear hown2 hg2))
      go_roundw
      case rel => exact ⟨k + 1, _, by omega, by go_num, rfl, by rw [HT2.out, List.map_append]; exact HO4.out, HB4.out⟩
      case measure => simp [intOf]; omega
    · obtain rfl : k = n := by omega
      have hcs : ∃ B c, v = .slice B k c ∧ Cells wr B (T.map (.int .i64 ·)) := by
        have ho := HO.out
        rw [List.take_of_length_le (by rw [HN.out]; exact Nat.le_refl _)] at ho
        obtain ⟨B, c, e1, e2, _⟩ := own_slice2 ho
        exact ⟨B, c, e1, e2⟩
      obtain ⟨B, cB, rfl, hcs⟩ := hcs
      have HC := Lib.hid hcs
      have HBF := Lib.hid (HB.out.trans (HB2.out.mono (by omega)))
      clear hcs
      go_wp2_with fail
      obtain ⟨wo, rfl⟩ : ∃ wo, wo = wr := ⟨_, rfl⟩
      go_loopw [11, 36] (fun _ idx wr => ∃ j : Nat, j ≤ k ∧ idx = .int .i64 j ∧ Hid ((T.take j).any (Tz.farOne i many) = false) ∧ wo = wr) (fun _ idx _ => k - (intOf idx).toNat)
      case atStart => exact ⟨0, by omega, rfl, by show _ = _; simp, rfl⟩
      case round =>
        obtain ⟨j, hj, rfl, HT, rfl⟩ := hrel
        by_cases hlt2 : j < k
        · obtain ⟨x, hx⟩ : ∃ x, T[j]? = some x := ⟨_, List.getElem?_eq_getElem (by rw [HN.out]; exact hlt2)⟩
          obtain ⟨ad, rfl, hc⟩ := HC.out j (.int .i64 x) (by simp [hx])
          have ht := Tz.any_take T (Tz.farOne i many) j x hx HT.out
          have HT2 := Lib.hid ht
          have HAT := Lib.hid (Tz.any_of_take T (Tz.farOne i many) (j + 1))
          clear hx ht
          by_cases h1 : x < -i
          · have HF : Hid (Tz.farS 40 T i many = true) := by
              show (_ && _) = _
              rw [HAT.out (by rw [HT2.out]; simp [Tz.farOne, h1])]
              simp [HID.out]
            go_wp2_with fail
            go_ret
            exact ⟨by rw [HF.out]; rfl, HBF.out⟩
          · by_cases h2 : many - i ≤ x
            · have HF : Hid (Tz.farS 40 T i many = true) := by
                show (_ && _) = _
                rw [HAT.out (by rw [HT2.out]; simp [Tz.farOne, h2])]
                simp [HID.out]
              go_wp2_with fail
              go_ret
              exact ⟨by rw [HF.out]; rfl, HBF.out⟩
            · have HT3 : Hid ((T.take (j + 1)).any (Tz.farOne i many) = false) := by show _ = _; rw [HT2.out]; simp [Tz.farOne, h1]; omega
              go_wp2_with fail
              go_roundw
              case rel => exact ⟨j + 1, by omega, by go_num, HT3, trivial⟩
              case measure => simp [intOf]; omega
        · obtain rfl : j = k := by omega
          have HF : Hid (Tz.farS 40 T i many = false) := by
            show (_ && _) = _
            have h := HT.out
            rw [List.take_of_length_le (by rw [HN.out]; exact Nat.le_refl _)] at h
            rw [h]
            simp
          go_wp2_with fail
          go_ret
          exact ⟨by rw [HF.out]; rfl, HBF.out⟩
set_option maxRecDepth 100000 in
set_option maxHeartbeats 2000000 in
theorem farO_no (R : List Value) (id : Int) (ta ia : Value) (n : Nat) (T : List Int) (i many : Int) (w : World) (hid : ¬ id = 40 ∧ ¬ id = 35 ∧ ¬ id = 38) (ht : True) (hi : True) (hR : RowIs R id ta ia) (hn : T.length = n) (hn1 : n ≤ 100000) (i0 : 0 ≤ i) (i1 : i ≤ 5000) (m0 : 0 ≤ many) (m1 : many ≤ 5000) :
    Calls Try.prog 52 #[.agg R.toArray, .int .i64 i, .int .i64 many] w fun e w' => e = .returned (.bool (Tz.farS id T i many)) ∧ Below w.heap.size w w' := by
  have HN := Lib.hid hn
  obtain ⟨w1, hw1⟩ : ∃ w1, w1 = w.alloc (.cells R.toArray 28) := ⟨_, rfl⟩
  have HW1 := Lib.hid hw1
  have hK := Blk.new w 28 R
  rw [← hw1] at hK
  have c0 : w1.cell? ⟨w.heap.size, 0, none⟩ = some (.int .i64 id) := by rw [hK.cell 0]; exact hR.c0
  have c13 : w1.cell? ⟨w.heap.size, 13, none⟩ = some ta := by rw [hK.cell 13]; exact hR.c13
  have c14 : w1.cell? ⟨w.heap.size, 14, none⟩ = some ia := by rw [hK.cell 14]; exact hR.c14
  have HB := Lib.hid (show Below w.heap.size w w1 by rw [hw1]; exact (Below.refl _ w).alloc (Nat.le_refl _) _)
  have hs1 : w1.heap.size = w.heap.size + 1 := by rw [hw1]; simp
  have HR1 : Hid (R.toArray.all (·.oneCell') = true) := hR.one
  clear hw1 hK hR ht hi hn
  obtain ⟨x1, x2, x3⟩ := hid
  have HF := Lib.hid (show Tz.farS id T i many = false by unfold Tz.farS; simp [x1, x2, x3])
  have e1 : (id == 40) = false := by simpa using x1
  have e2 : (id == 35) = false := by simpa using x2
  have e3 : (id == 38) = false := by simpa using x3
  go_enter Try.func52, Try.ntmps52
  go_wp2_with (first | (rw [← HW1.out]))
  go_ret
  exact ⟨by rw [HF.out]; rfl, HB.out⟩
end Go.Proofs.Ytokidpajialgbaa
