/- tzx.far. Written by gen_tzxe.py. -/
import Derived.Test.YtaipkoeiahjghaaTzxD
namespace Go.Proofs.Ytaipkoeiahjghaa
set_option linter.unusedSimpArgs false
set_option linter.unusedVariables false
open Go.RowKit
theorem own_slice2 {w : World} {base n : Nat} {e : TypeId} {v : Value} {xs : List Value} (h : w.ownsRow base e 1 v n xs) : ∃ (B : Option Addr) (c : Nat), v = .slice B n c ∧ Cells w B xs ∧ n ≤ c := by
  rcases h.2 with ⟨rfl, rfl⟩ | ⟨g, c, cur, rfl, _, _, h2, _⟩
  · have hx : xs = [] := List.eq_nil_of_length_eq_zero (by simpa using h.1)
    subst hx
    exact ⟨none, 0, rfl, fun i v hi => by simp at hi, by have := h.1; simp at this; omega⟩
  · exact ⟨_, c, rfl, fun i v hi => ⟨_, rfl, h.cells (g := g) rfl i v hi⟩, h2⟩
namespace Tz
def farOne (i many d : Int) : Bool := decide (d < -i) || decide (many - i ≤ d)
/-- does a block lead to where none is? -/
def farS (id : Int) (T : List Int) (i many : Int) : Bool := (id == 40 || id == 35 || id == 38) && T.any (farOne i many)
theorem any_take (T : List Int) (p : Int → Bool) (k : Nat) (x : Int) (h : T[k]? = some x) (hp : (T.take k).any p = false) : (T.take (k + 1)).any p = p x := by
  rw [List.take_add_one, h, List.any_append, hp]
  simp
theorem any_of_take (T : List Int) (p : Int → Bool) (k : Nat) (h : (T.take k).any p = true) : T.any p = true := by
  rw [List.any_eq_true] at h ⊢
  obtain ⟨x, hx, hp⟩ := h
  exact ⟨x, List.mem_of_mem_take hx, hp⟩
end Tz
theorem infoItem : (Try.prog.info? 32).map (·.size) = some 2 := by kernel_rfl
theorem infoIntT : (Try.prog.info? 3).map (fun i => (i.zero, i.size, i.bytes)) = some (some (.int .i64 0), 1, 8) := by kernel_rfl
set_option maxRecDepth 100000 in
set_option maxHeartbeats 2000000 in
theorem far_t35 (id : Int) (ta ia : Value) (n : Nat) (T : List Int) (i many : Int) (w : World) (hid : id = 35) (ht : TimesAt w ta T) (hi : ItemsAt w ia T) (h1 : (ta.oneCell' && ia.oneCell') = true) (hn : T.length = n) (hn1 : n ≤ 300) (i0 : 0 ≤ i) (i1 : i ≤ 1000) (m0 : 0 ≤ many) (m1 : many ≤ 1000) :
    Calls Try.prog 19 #[.agg (blkRow id ta ia).toArray, .int .i64 i, .int .i64 many] w fun e w' => e = .returned (.bool (Tz.farS id T i many)) ∧ Below w.heap.size w w' := by
  have HN := Lib.hid hn
  obtain ⟨R, hR⟩ : ∃ R, R = blkRow id ta ia := ⟨_, rfl⟩
  rw [← hR]
  obtain ⟨w1, hw1⟩ : ∃ w1, w1 = w.alloc (.cells R.toArray 30) := ⟨_, rfl⟩
  have HW1 := Lib.hid hw1
  have hK := Blk.new w 30 R
  rw [← hw1] at hK
  have c0 : w1.cell? ⟨w.heap.size, 0, none⟩ = some (.int .i64 id) := by rw [hK.cell 0, hR]; rfl
  have c13 : w1.cell? ⟨w.heap.size, 13, none⟩ = some ta := by rw [hK.cell 13, hR]; rfl
  have c14 : w1.cell? ⟨w.heap.size, 14, none⟩ = some ia := by rw [hK.cell 14, hR]; rfl
  have HB := Lib.hid (show Below w.heap.size w w1 by rw [hw1]; exact (Below.refl _ w).alloc (Nat.le_refl _) _)
  have ht1 := ht.below HB.out
  have hi1 := hi.below HB.out
  have hs1 : w1.heap.size = w.heap.size + 1 := by rw [hw1]; simp
  have HR1 : Hid (R.toArray.all (·.oneCell') = true) := by
    show _ = _
    rw [Bool.and_eq_true] at h1
    rw [hR]; simp [blkRow, h1.1, h1.2, show ∀ x, (Value.int .i64 x).oneCell' = true from fun _ => rfl, show (Value.slice none 0 0).oneCell' = true from rfl]
  clear hw1 hK hR ht hi hn h1
  subst hid
  have HID := Lib.hid (show ((35 : Int) == 40 || (35 : Int) == 35 || (35 : Int) == 38) = true by decide)
  obtain ⟨A, c, rfl, hcs, -⟩ := ht1
  rw [HN.out] at c13
  have HC := Lib.hid hcs
  have HBF := HB
  clear hcs
  go_enter Try.func19, Try.ntmps19
  go_wp2_with (first | (rw [← HW1.out]))
  go_loopw [11, 36] (fun _ idx wr => ∃ k : Nat, k ≤ n ∧ idx = .int .i64 k ∧ Hid ((T.take k).any (Tz.farOne i many) = false) ∧ w1 = wr) (fun _ idx _ => n - (intOf idx).toNat)
  case atStart => exact ⟨0, by omega, rfl, by show _ = _; simp, rfl⟩
  case round =>
    obtain ⟨k, hk, rfl, HT, rfl⟩ := hrel
    by_cases hlt : k < n
    · obtain ⟨x, hx⟩ : ∃ x, T[k]? = some x := ⟨_, List.getElem?_eq_getElem (by rw [HN.out]; exact hlt)⟩
      obtain ⟨ad, rfl, hc⟩ := HC.out k (.int .i64 x) (by simp [hx])
      have ht := Tz.any_take T (Tz.farOne i many) k x hx HT.out
      have HT2 := Lib.hid ht
      have HAT := Lib.hid (Tz.any_of_take T (Tz.farOne i many) (k + 1))
      clear hx ht
      by_cases h1 : x < -i
      · have HF : Hid (Tz.farS 35 T i many = true) := by
          show (_ && _) = _
          rw [HAT.out (by rw [HT2.out]; simp [Tz.farOne, h1])]
          simp [HID.out]
        go_wp2_with fail
        go_ret
        exact ⟨by rw [HF.out]; rfl, HBF.out⟩
      · by_cases h2 : many - i ≤ x
        · have HF : Hid (Tz.farS 35 T i many = true) := by
            show (_ && _) = _
            rw [HAT.out (by rw [HT2.out]; simp [Tz.farOne, h2])]
            simp [HID.out]
          go_wp2_with fail
          go_ret
          exact ⟨by rw [HF.out]; rfl, HBF.out⟩
        · have HT3 : Hid ((T.take (k + 1)).any (Tz.farOne i many) = false) := by show _ = _; rw [HT2.out]; simp [Tz.farOne, h1]; omega
          go_wp2_with fail
          go_roundw
          case rel => exact ⟨k + 1, by omega, by go_num, HT3, trivial⟩
          case measure => simp [intOf]; omega
    · obtain rfl : k = n := by omega
      have HF : Hid (Tz.farS 35 T i many = false) := by
        show (_ && _) = _
        have h := HT.out
        rw [List.take_of_length_le (by rw [HN.out]; exact Nat.le_refl _)] at h
        rw [h]
        simp
      go_wp2_with fail
      go_ret
      exact ⟨by rw [HF.out]; rfl, HBF.out⟩
set_option maxRecDepth 100000 in
set_option maxHeartbeats 2000000 in
theorem far_t38 (id : Int) (ta ia : Value) (n : Nat) (T : List Int) (i many : Int) (w : World) (hid : id = 38) (ht : TimesAt w ta T) (hi : ItemsAt w ia T) (h1 : (ta.oneCell' && ia.oneCell') = true) (hn : T.length = n) (hn1 : n ≤ 300) (i0 : 0 ≤ i) (i1 : i ≤ 1000) (m0 : 0 ≤ many) (m1 : many ≤ 1000) :
    Calls Try.prog 19 #[.agg (blkRow id ta ia).toArray, .int .i64 i, .int .i64 many] w fun e w' => e = .returned (.bool (Tz.farS id T i many)) ∧ Below w.heap.size w w' := by
  have HN := Lib.hid hn
  obtain ⟨R, hR⟩ : ∃ R, R = blkRow id ta ia := ⟨_, rfl⟩
  rw [← hR]
  obtain ⟨w1, hw1⟩ : ∃ w1, w1 = w.alloc (.cells R.toArray 30) := ⟨_, rfl⟩
  have HW1 := Lib.hid hw1
  have hK := Blk.new w 30 R
  rw [← hw1] at hK
  have c0 : w1.cell? ⟨w.heap.size, 0, none⟩ = some (.int .i64 id) := by rw [hK.cell 0, hR]; rfl
  have c13 : w1.cell? ⟨w.heap.size, 13, none⟩ = some ta := by rw [hK.cell 13, hR]; rfl
  have c14 : w1.cell? ⟨w.heap.size, 14, none⟩ = some ia := by rw [hK.cell 14, hR]; rfl
  have HB := Lib.hid (show Below w.heap.size w w1 by rw [hw1]; exact (Below.refl _ w).alloc (Nat.le_refl _) _)
  have ht1 := ht.below HB.out
  have hi1 := hi.below HB.out
  have hs1 : w1.heap.size = w.heap.size + 1 := by rw [hw1]; simp
  have HR1 : Hid (R.toArray.all (·.oneCell') = true) := by
    show _ = _
    rw [Bool.and_eq_true] at h1
    rw [hR]; simp [blkRow, h1.1, h1.2, show ∀ x, (Value.int .i64 x).oneCell' = true from fun _ => rfl, show (Value.slice none 0 0).oneCell' = true from rfl]
  clear hw1 hK hR ht hi hn h1
  subst hid
  have HID := Lib.hid (show ((38 : Int) == 40 || (38 : Int) == 35 || (38 : Int) == 38) = true by decide)
  obtain ⟨A, c, rfl, hcs, -⟩ := ht1
  rw [HN.out] at c13
  have HC := Lib.hid hcs
  have HBF := HB
  clear hcs
  go_enter Try.func19, Try.ntmps19
  go_wp2_with (first | (rw [← HW1.out]))
  go_loopw [11, 36] (fun _ idx wr => ∃ k : Nat, k ≤ n ∧ idx = .int .i64 k ∧ Hid ((T.take k).any (Tz.farOne i many) = false) ∧ w1 = wr) (fun _ idx _ => n - (intOf idx).toNat)
  case atStart => exact ⟨0, by omega, rfl, by show _ = _; simp, rfl⟩
  case round =>
    obtain ⟨k, hk, rfl, HT, rfl⟩ := hrel
    by_cases hlt : k < n
    · obtain ⟨x, hx⟩ : ∃ x, T[k]? = some x := ⟨_, List.getElem?_eq_getElem (by rw [HN.out]; exact hlt)⟩
      obtain ⟨ad, rfl, hc⟩ := HC.out k (.int .i64 x) (by simp [hx])
      have ht := Tz.any_take T (Tz.farOne i many) k x hx HT.out
      have HT2 := Lib.hid ht
      have HAT := Lib.hid (Tz.any_of_take T (Tz.farOne i many) (k + 1))
      clear hx ht
      by_cases h1 : x < -i
      · have HF : Hid (Tz.farS 38 T i many = true) := by
          show (_ && _) = _
          rw [HAT.out (by rw [HT2.out]; simp [Tz.farOne, h1])]
          simp [HID.out]
        go_wp2_with fail
        go_ret
        exact ⟨by rw [HF.out]; rfl, HBF.out⟩
      · by_cases h2 : many - i ≤ x
        · have HF : Hid (Tz.farS 38 T i many = true) := by
            show (_ && _) = _
            rw [HAT.out (by rw [HT2.out]; simp [Tz.farOne, h2])]
            simp [HID.out]
          go_wp2_with fail
          go_ret
          exact ⟨by rw [HF.out]; rfl, HBF.out⟩
        · have HT3 : Hid ((T.take (k + 1)).any (Tz.farOne i many) = false) := by show _ = _; rw [HT2.out]; simp [Tz.farOne, h1]; omega
          go_wp2_with fail
          go_roundw
          case rel => exact ⟨k + 1, by omega, by go_num, HT3, trivial⟩
          case measure => simp [intOf]; omega
    · obtain rfl : k = n := by omega
      have HF : Hid (Tz.farS 38 T i many = false) := by
        show (_ && _) = _
        have h := HT.out
        rw [List.take_of_length_le (by rw [HN.out]; exact Nat.le_refl _)] at h
        rw [h]
        simp
      go_wp2_with fail
      go_ret
      exact ⟨by rw [HF.out]; rfl, HBF.out⟩
set_option maxRecDepth 100000 in
set_option maxHeartbeats 2000000 in
theorem far_t40 (id : Int) (ta ia : Value) (n : Nat) (T : List Int) (i many : Int) (w : World) (hid : id = 40) (ht : TimesAt w ta T) (hi : ItemsAt w ia T) (h1 : (ta.oneCell' && ia.oneCell') = true) (hn : T.length = n) (hn1 : n ≤ 300) (i0 : 0 ≤ i) (i1 : i ≤ 1000) (m0 : 0 ≤ many) (m1 : many ≤ 1000) :
    Calls Try.prog 19 #[.agg (blkRow id ta ia).toArray, .int .i64 i, .int .i64 many] w fun e w' => e = .returned (.bool (Tz.farS id T i many)) ∧ Below w.heap.size w w' := by
  have HN := Lib.hid hn
  obtain ⟨R, hR⟩ : ∃ R, R = blkRow id ta ia := ⟨_, rfl⟩
  rw [← hR]
  obtain ⟨w1, hw1⟩ : ∃ w1, w1 = w.alloc (.cells R.toArray 30) := ⟨_, rfl⟩
  have HW1 := Lib.hid hw1
  have hK := Blk.new w 30 R
  rw [← hw1] at hK
  have c0 : w1.cell? ⟨w.heap.size, 0, none⟩ = some (.int .i64 id) := by rw [hK.cell 0, hR]; rfl
  have c13 : w1.cell? ⟨w.heap.size, 13, none⟩ = some ta := by rw [hK.cell 13, hR]; rfl
  have c14 : w1.cell? ⟨w.heap.size, 14, none⟩ = some ia := by rw [hK.cell 14, hR]; rfl
  have HB := Lib.hid (show Below w.heap.size w w1 by rw [hw1]; exact (Below.refl _ w).alloc (Nat.le_refl _) _)
  have ht1 := ht.below HB.out
  have hi1 := hi.below HB.out
  have hs1 : w1.heap.size = w.heap.size + 1 := by rw [hw1]; simp
  have HR1 : Hid (R.toArray.all (·.oneCell') = true) := by
    show _ = _
    rw [Bool.and_eq_true] at h1
    rw [hR]; simp [blkRow, h1.1, h1.2, show ∀ x, (Value.int .i64 x).oneCell' = true from fun _ => rfl, show (Value.slice none 0 0).oneCell' = true from rfl]
  clear hw1 hK hR ht hi hn h1
  subst hid
  have HID := Lib.hid (show ((40 : Int) == 40 || (40 : Int) == 35 || (40 : Int) == 38) = true by decide)
  obtain ⟨A, c, rfl, -⟩ := ht1
  obtain ⟨IA, c', h, rfl, hit⟩ : ∃ IA c' h, ia = .slice IA n c' ∧ ∀ k x, T[k]? = some x → IA = some ⟨h, 0, none⟩ ∧ w1.rangeAt h (k * 2) [.int .i64 x, .slice none 0 0] := by
    obtain ⟨h, c', ⟨e1, A', e2⟩ | ⟨e1, e2⟩⟩ := hi1
    · subst e1
      exact ⟨A', c', 0, by rw [e2, ← HN.out]; rfl, fun k x hk => by simp at hk⟩
    · exact ⟨_, c', h, by rw [e1, HN.out], fun k x hk => ⟨rfl, e2 k x hk⟩⟩
  have HIT := Lib.hid hit
  clear hit
  go_enter Try.func19, Try.ntmps19
  go_wp2_with (first | (rw [← HW1.out]))
  go_loopw [7, 9, 21] (fun v _ idx wr => ∃ (k : Nat) (v' : Value), k ≤ n ∧ idx = .int .i64 k ∧ v' = v ∧ Hid (wr.ownsRow w1.heap.size 3 1 v' k ((T.take k).map (.int .i64 ·))) ∧ Hid (Below w1.heap.size w1 wr)) (fun _ _ idx _ => n - (intOf idx).toNat)
  case atStart => exact ⟨0, _, by omega, rfl, rfl, World.ownsRow_nil _ _ _ _, Below.refl _ _⟩
  case round =>
    obtain ⟨k, v, hk, rfl, rfl, HO, HB2⟩ := hrel
    have hsz := HB2.out.size
    by_cases hlt : k < n
    · obtain ⟨x, hx⟩ : ∃ x, T[k]? = some x := ⟨_, List.getElem?_eq_getElem (by rw [HN.out]; exact hlt)⟩
      obtain ⟨rfl, hrg⟩ := HIT.out k x hx
      have HRG := Lib.hid (rangeAt_below hrg HB2.out)
      have hc0 : (wr.alloc (.cells #[.int .i64 x, .slice none 0 0] 32)).cell? ⟨wr.heap.size, 0, none⟩ = some (.int .i64 x) := (Blk.new wr _ [.int .i64 x, .slice none 0 0]).cell 0
      have HT2 : Hid (T.take (k + 1) = T.take k ++ [x]) := by show _ = _; rw [List.take_add_one, hx]; rfl
      have HO2 := Lib.hid (HO.out.alloc (.cells #[.int .i64 x, .slice none 0 0] 32))
      have HB3 := Lib.hid (HB2.out.alloc hsz (.cells #[.int .i64 x, .slice none 0 0] 32))
      have hsz2 := HB3.out.size
      clear hx hrg
      go_wp2_with (first
        | (refine wpList_load_mid rfl 32 (.tmp 23) rfl h (k * 2) rfl [.int .i64 x, .slice none 0 0] _ HRG.out Try.underlying32 rfl infoItem ?_)
        | (refine wpList_store_rowTo rfl 32 (.tmp 9) (.tmp 24) rfl rfl wr.heap.size _ rfl rfl 32 _ (heap_alloc_new wr _) infoItem rfl rfl ?_; rw [World.setRow_alloc_new])
        | (at_builtin; refine wpList_appL _ rfl (.tmp 25) (.tmp 28) 22 rfl w1.heap.size 3 (.int .i64 0) 1 8 Try.underlying22 infoIntT rfl (by decide) v k _ rfl HO2.out #[.int .i64 x] 1 (by rw [World.size_alloc]; rfl) rfl (by simp [Value.oneCell']) (by decide) (by omega) (by decide) hsz2 ?_; intro g2 c2 w4 hown2 hg2 _; have HB4 := Lib.hid (Below_own HB3.out HO2.out hg2 (Nat.le_refl _) hsz2); have HO4 := Lib.hid hown2; clear hown2 hg2))
      go_roundw
      case rel => exact ⟨k + 1, _, by omega, by go_num, rfl, by rw [HT2.out, List.map_append]; exact HO4.out, HB4.out⟩
      case measure => simp [intOf]; omega
    · obtain rfl : k = n := by omega
      have hcs : ∃ B c, v = .slice B k c ∧ Cells wr B (T.map (.int .i64 ·)) := by
        have ho := HO.out
        rw [List.take_of_length_le (by rw [HN.out]; exact Nat.le_refl _)] at ho
        obtain ⟨B, c, e1, e2, _⟩ := own_slice2 ho
        exact ⟨B, c, e1, e2⟩
      obtain ⟨B, cB, rfl, hcs⟩ := hcs
      have HC := Lib.hid hcs
      have HBF := Lib.hid (HB.out.trans (HB2.out.mono (by omega)))
      clear hcs
      go_wp2_with fail
      obtain ⟨wo, rfl⟩ : ∃ wo, wo = wr := ⟨_, rfl⟩
      go_loopw [11, 36] (fun _ idx wr => ∃ j : Nat, j ≤ k ∧ idx = .int .i64 j ∧ Hid ((T.take j).any (Tz.farOne i many) = false) ∧ wo = wr) (fun _ idx _ => k - (intOf idx).toNat)
      case atStart => exact ⟨0, by omega, rfl, by show _ = _; simp, rfl⟩
      case round =>
        obtain ⟨j, hj, rfl, HT, rfl⟩ := hrel
        by_cases hlt2 : j < k
        · obtain ⟨x, hx⟩ : ∃ x, T[j]? = some x := ⟨_, List.getElem?_eq_getElem (by rw [HN.out]; exact hlt2)⟩
          obtain ⟨ad, rfl, hc⟩ := HC.out j (.int .i64 x) (by simp [hx])
          have ht := Tz.any_take T (Tz.farOne i many) j x hx HT.out
          have HT2 := Lib.hid ht
          have HAT := Lib.hid (Tz.any_of_take T (Tz.farOne i many) (j + 1))
          clear hx ht
          by_cases h1 : x < -i
          · have HF : Hid (Tz.farS 40 T i many = true) := by
              show (_ && _) = _
              rw [HAT.out (by rw [HT2.out]; simp [Tz.farOne, h1])]
              simp [HID.out]
            go_wp2_with fail
            go_ret
            exact ⟨by rw [HF.out]; rfl, HBF.out⟩
          · by_cases h2 : many - i ≤ x
            · have HF : Hid (Tz.farS 40 T i many = true) := by
                show (_ && _) = _
                rw [HAT.out (by rw [HT2.out]; simp [Tz.farOne, h2])]
                simp [HID.out]
              go_wp2_with fail
              go_ret
              exact ⟨by rw [HF.out]; rfl, HBF.out⟩
            · have HT3 : Hid ((T.take (j + 1)).any (Tz.farOne i many) = false) := by show _ = _; rw [HT2.out]; simp [Tz.farOne, h1]; omega
              go_wp2_with fail
              go_roundw
              case rel => exact ⟨j + 1, by omega, by go_num, HT3, trivial⟩
              case measure => simp [intOf]; omega
        · obtain rfl : j = k := by omega
          have HF : Hid (Tz.farS 40 T i many = false) := by
            show (_ && _) = _
            have h := HT.out
            rw [List.take_of_length_le (by rw [HN.out]; exact Nat.le_refl _)] at h
            rw [h]
            simp
          go_wp2_with fail
          go_ret
          exact ⟨by rw [HF.out]; rfl, HBF.out⟩
set_option maxRecDepth 100000 in
set_option maxHeartbeats 2000000 in
theorem far_no (id : Int) (ta ia : Value) (n : Nat) (T : List Int) (i many : Int) (w : World) (hid : ¬ id = 40 ∧ ¬ id = 35 ∧ ¬ id = 38) (ht : TimesAt w ta T) (hi : ItemsAt w ia T) (h1 : (ta.oneCell' && ia.oneCell') = true) (hn : T.length = n) (hn1 : n ≤ 300) (i0 : 0 ≤ i) (i1 : i ≤ 1000) (m0 : 0 ≤ many) (m1 : many ≤ 1000) :
    Calls Try.prog 19 #[.agg (blkRow id ta ia).toArray, .int .i64 i, .int .i64 many] w fun e w' => e = .returned (.bool (Tz.farS id T i many)) ∧ Below w.heap.size w w' := by
  have HN := Lib.hid hn
  obtain ⟨R, hR⟩ : ∃ R, R = blkRow id ta ia := ⟨_, rfl⟩
  rw [← hR]
  obtain ⟨w1, hw1⟩ : ∃ w1, w1 = w.alloc (.cells R.toArray 30) := ⟨_, rfl⟩
  have HW1 := Lib.hid hw1
  have hK := Blk.new w 30 R
  rw [← hw1] at hK
  have c0 : w1.cell? ⟨w.heap.size, 0, none⟩ = some (.int .i64 id) := by rw [hK.cell 0, hR]; rfl
  have c13 : w1.cell? ⟨w.heap.size, 13, none⟩ = some ta := by rw [hK.cell 13, hR]; rfl
  have c14 : w1.cell? ⟨w.heap.size, 14, none⟩ = some ia := by rw [hK.cell 14, hR]; rfl
  have HB := Lib.hid (show Below w.heap.size w w1 by rw [hw1]; exact (Below.refl _ w).alloc (Nat.le_refl _) _)
  have ht1 := ht.below HB.out
  have hi1 := hi.below HB.out
  have hs1 : w1.heap.size = w.heap.size + 1 := by rw [hw1]; simp
  have HR1 : Hid (R.toArray.all (·.oneCell') = true) := by
    show _ = _
    rw [Bool.and_eq_true] at h1
    rw [hR]; simp [blkRow, h1.1, h1.2, show ∀ x, (Value.int .i64 x).oneCell' = true from fun _ => rfl, show (Value.slice none 0 0).oneCell' = true from rfl]
  clear hw1 hK hR ht hi hn h1
  obtain ⟨x1, x2, x3⟩ := hid
  have HF := Lib.hid (show Tz.farS id T i many = false by unfold Tz.farS; simp [x1, x2, x3])
  have e1 : (id == 40) = false := by simpa using x1
  have e2 : (id == 35) = false := by simpa using x2
  have e3 : (id == 38) = false := by simpa using x3
  obtain ⟨A, c, rfl, hcs, -⟩ := ht1
  clear hcs
  go_enter Try.func19, Try.ntmps19
  go_wp2_with (first | (rw [← HW1.out]))
  go_ret
  exact ⟨by rw [HF.out]; rfl, HB.out⟩
end Go.Proofs.Ytaipkoeiahjghaa
