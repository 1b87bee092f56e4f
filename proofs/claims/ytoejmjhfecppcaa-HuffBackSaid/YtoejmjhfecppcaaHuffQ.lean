/- The contract of the reference's Next. -/
import Derived.Test.YtoejmjhfecppcaaHuffP
namespace Go.Proofs.Ytoejmjhfecppcaa
open Go.RowKit
theorem ext_take (l : List UInt8) (k : Nat) : (({ data := l.toArray } : ByteArray).extract 0 k).toList = l.take k := by
  rw [ByteArray.toList_eq]
  simp [ByteArray.data_extract]
def RefNextPost (r : Int × Nat × Int) (w : World) (e : Ending) (w' : World) : Prop :=
  e = .returned (.tuple #[.int .i64 r.1, .int .i64 (r.2.1 : Int), .int .i64 r.2.2]) ∧ Drew w w'

set_option maxHeartbeats 2000000 in
theorem refNext_any (A : Option Addr) (n c : Nat) (T : List (List UInt8)) (B : List UInt8) (w : World) (hT : Strs w A T) (hn : T.length = n) (hm : n ≤ 320) (hB : B.length ≤ 480) :
    Calls Try.prog 25 #[.slice A n c, str B] w (RefNextPost (Hf.refNext T B) w) := by
  have HT := Lib.hid hT; have HN := Lib.hid hn; clear hT hn
  obtain ⟨R, hR⟩ : ∃ R, R = Hf.refNext T B := ⟨_, rfl⟩
  rw [← hR]
  have HR := Lib.hid hR; clear hR
  go_enter Try.func25, Try.ntmps25
  go_wp2_with fail
  go_loopw [7] (fun i wr => ∃ k q : Nat, k ≤ B.length + 1 ∧ i = .int .i64 k ∧ wr = w.drewN q ∧ Hid (Hf.refGo T B (B.length + 1 - k) k = R)) (fun i _ => B.length + 1 - (intOf i).toNat)
  case atStart => exact ⟨0, 0, by omega, rfl, rfl, HR.out.symm⟩
  case round =>
    obtain ⟨k, q, hk, rfl, rfl, HG⟩ := hrel
    by_cases hlt : k ≤ B.length
    · go_wp2_with fail
      go_loopw [8, 9] (fun s i wr => ∃ (j q : Nat) (S : Bool), j ≤ n ∧ i = .int .i64 j ∧ s = .bool S ∧ wr = w.drewN q ∧ Hid (S = (T.take j).any (fun t => decide (k < t.length) && t.take k == B.take k)) ∧ Hid ((T.take j).findIdx? (fun t => t != [] && t == B.take k) = none)) (fun _ i _ => n - (intOf i).toNat)
      case atStart => exact ⟨0, q, false, by omega, rfl, rfl, rfl, by show _ = _; simp, by show _ = _; simp⟩
      case round =>
        obtain ⟨j, q, S, hj, rfl, rfl, rfl, HS, HF⟩ := hrel
        have hsl : (k : Int) ≤ B.length := by omega
        by_cases hlt2 : j < n
        · obtain ⟨t, ht⟩ : ∃ t, T[j]? = some t := ⟨_, List.getElem?_eq_getElem (by rw [HN.out]; exact hlt2)⟩
          obtain ⟨ad, rfl, hc⟩ := HT.out j (str t) (by simp [ht])
          have hts : T.take (j + 1) = T.take j ++ [t] := by rw [List.take_add_one, ht]; rfl
          have HTJ := Lib.hid ht; have HTS := Lib.hid hts; clear ht hts
          by_cases hM : (t != [] && t == B.take k) = true
          · have h0 : t.isEmpty = false := by cases t <;> simp at hM ⊢
            have h1 : (t == B.take k) = true := by simp at hM ⊢; exact hM.2
            have hres : R = ((j : Int), k, 0) := by
              rw [← HG.out, show B.length + 1 - k = (B.length - k) + 1 from by omega]
              simp only [Hf.refGo]
              have hf : T.findIdx? (fun t => t != [] && t == B.take k) = some j := by
                have hj2 : j < T.length := by rw [HN.out]; exact hlt2
                have e := List.getElem?_eq_getElem hj2
                rw [HTJ.out] at e
                injection e with e
                rw [List.findIdx?_eq_some_iff_getElem]
                refine ⟨hj2, by rw [← e]; exact hM, fun i hi => ?_⟩
                have hno := HF.out
                rw [List.findIdx?_eq_none_iff] at hno
                have := hno T[i] (by rw [List.mem_take_iff_getElem]; exact ⟨i, by omega, rfl⟩)
                simp only [this]
                simp
              rw [hf]
            have HRES := Lib.hid hres; clear hres hM
            rw [← ext_take] at h1
            go_wp2_with fail
            go_quiet (fail)
            go_wp2_with fail
            go_ret3
            unfold RefNextPost
            rw [HRES.out]
            exact ⟨rfl, _, World.drewN_drewN _ _ _⟩
          · have HF2 : Hid ((T.take (j + 1)).findIdx? (fun t => t != [] && t == B.take k) = none) := by
              show _ = _
              rw [HTS.out, List.findIdx?_append, HF.out]
              simp only [List.findIdx?_cons, List.findIdx?_nil]
              rw [if_neg hM]; rfl
            have HS2 : Hid ((S || (decide (k < t.length) && t.take k == B.take k)) = (T.take (j + 1)).any (fun t => decide (k < t.length) && t.take k == B.take k)) := by
              show _ = _
              rw [HTS.out, List.any_append, ← HS.out]; simp
            have key : (t.isEmpty = true ∨ t.isEmpty = false ∧ (t == B.take k) = false) := by
              cases h1 : t.isEmpty with
              | true => exact .inl rfl
              | false =>
                refine .inr ⟨rfl, ?_⟩
                cases h2 : (t == B.take k) with
                | false => rfl
                | true => exact absurd (by cases t <;> simp at h1 ⊢; simpa using h2) hM
            have key2 : S = true ∨ (S = false ∧ decide (k < t.length) = false) ∨ (S = false ∧ decide (k < t.length) = true ∧ (t.take k == B.take k) = true) ∨ (S = false ∧ decide (k < t.length) = true ∧ (t.take k == B.take k) = false) := by
              cases S <;> cases decide (k < t.length) <;> cases (t.take k == B.take k) <;> simp
            clear hM
            rw [← ext_take B, ← ext_take t] at key2
            rw [← ext_take] at key
            rcases key with h0 | ⟨h0, h1⟩
            all_goals
              go_wp2_with fail
              go_quiet (fail)
              rcases key2 with rfl | ⟨rfl, k2⟩ | ⟨rfl, k2, k3⟩ | ⟨rfl, k2, k3⟩
              · go_wp2_with fail
                go_quiet (fail)
                go_wp2_with fail
                go_roundw
                case rel => exact ⟨j + 1, _, _, by omega, by go_num, rfl, rfl, by show _ = _; rw [← HS2.out]; rfl, HF2⟩
                case measure => simp [intOf]; omega
              · have K2 := Lib.hid k2
                go_wp2_with fail
                go_quiet (fail)
                go_wp2_with fail
                go_roundw
                case rel => exact ⟨j + 1, _, _, by omega, by go_num, rfl, rfl, by show _ = _; rw [← HS2.out, K2.out]; rfl, HF2⟩
                case measure => simp [intOf]; omega
              · have K2 := Lib.hid k2; have K3 := Lib.hid k3
                have hkt : (k : Int) ≤ t.length := by have := of_decide_eq_true k2; omega
                go_wp2_with fail
                go_quiet (fail)
                go_wp2_with fail
                go_roundw
                case rel => exact ⟨j + 1, _, _, by omega, by go_num, rfl, rfl, by show _ = _; have h := K3.out; rw [ext_take, ext_take] at h; rw [← HS2.out, K2.out, h]; rfl, HF2⟩
                case measure => simp [intOf]; omega
              · have K2 := Lib.hid k2; have K3 := Lib.hid k3
                have hkt : (k : Int) ≤ t.length := by have := of_decide_eq_true k2; omega
                go_wp2_with fail
                go_quiet (fail)
                go_wp2_with fail
                go_roundw
                case rel => exact ⟨j + 1, _, _, by omega, by go_num, rfl, rfl, by show _ = _; have h := K3.out; rw [ext_take, ext_take] at h; rw [← HS2.out, K2.out, h]; rfl, HF2⟩
                case measure => simp [intOf]; omega
        · obtain rfl : j = n := by omega
          have hS := HS.out
          have hF := HF.out
          have hall : T.take j = T := List.take_of_length_le (by rw [HN.out]; exact Nat.le_refl _)
          rw [hall] at hS hF
          clear hall
          have hgo := HG.out
          rw [show B.length + 1 - k = (B.length + 1 - (k + 1)) + 1 from by omega] at hgo
          simp only [Hf.refGo] at hgo
          rw [hF] at hgo
          simp only [] at hgo
          rw [← hS] at hgo
          have HGO := Lib.hid hgo; clear hS hF hgo
          cases S with
          | true =>
            go_wp2_with fail
            go_roundw
            case rel => exact ⟨k + 1, _, by omega, by go_num, rfl, HGO.out⟩
            case measure => simp [intOf]; omega
          | false =>
            have hres : R = (0, k, 4) := HGO.out.symm
            have HRES := Lib.hid hres; clear hres
            go_wp2_with fail
            go_ret3
            unfold RefNextPost
            rw [HRES.out]
            exact ⟨rfl, _, rfl⟩
    · obtain rfl : k = B.length + 1 := by omega
      have hres : R = (0, B.length, 2) := by rw [← HG.out, Nat.sub_self]; rfl
      have HRES := Lib.hid hres; clear hres
      go_wp2_with fail
      go_ret3
      unfold RefNextPost
      rw [HRES.out]
      exact ⟨rfl, _, rfl⟩
end Go.Proofs.Ytoejmjhfecppcaa
