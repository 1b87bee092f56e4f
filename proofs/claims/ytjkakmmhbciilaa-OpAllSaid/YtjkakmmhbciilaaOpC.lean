/- squealref07.has: does a text have another one in it? -/
import Derived.Test.YtjkakmmhbciilaaOpA
namespace Go.Proofs.Ytjkakmmhbciilaa
set_option linter.unusedSimpArgs false
set_option linter.unusedVariables false
open Go.RowKit
namespace Mi
/-- has s p: p stands somewhere in s -/
def hasS : List UInt8 → List UInt8 → Bool
  | [], p => p.isEmpty
  | c :: s, p => ((c :: s).take p.length == p) || hasS s p
theorem has_short : ∀ (s p : List UInt8), s.length < p.length → hasS s p = false
  | [], p, h => by cases p <;> simp [hasS] at h ⊢
  | c :: s, p, h => by
    simp only [hasS]
    rw [has_short s p (by simp at h; omega)]
    simp
    intro e
    have := congrArg List.length e
    simp at this h
    omega
theorem has_step (s p : List UInt8) (k : Nat) (h : k + p.length ≤ s.length) : hasS (s.drop k) p = (((s.drop k).take p.length == p) || hasS (s.drop (k + 1)) p) := by
  rw [← List.drop_drop]
  cases e : s.drop k with
  | nil =>
    have := congrArg List.length e
    simp at this
    have hp : p = [] := by cases p with | nil => rfl | cons _ _ => simp at h; omega
    subst hp
    simp [hasS]
  | cons c t => simp [hasS]
end Mi
theorem ext_mid (l : List UInt8) (i j : Nat) : (({ data := l.toArray } : ByteArray).extract i (i + j)).toList = (l.drop i).take j := by
  rw [ByteArray.toList_eq]
  simp [ByteArray.data_extract, List.take_drop]
set_option maxHeartbeats 2000000 in
theorem has_any (s p : List UInt8) (w : World) (hs : s.length ≤ 1000) (hp : p.length ≤ 1000) (hp1 : 1 ≤ p.length) : Calls Try.prog 38 #[.string ⟨s.toArray⟩, .string ⟨p.toArray⟩] w fun e w' => e = .returned (.bool (Mi.hasS s p)) ∧ w = w' := by
  obtain ⟨R, hR⟩ : ∃ R, R = Mi.hasS s p := ⟨_, rfl⟩
  rw [← hR]
  have HR := Lib.hid hR; clear hR
  go_enter Try.func38, Try.ntmps38
  go_wp2_with fail
  go_loopw [5] (fun i wr => ∃ k : Nat, k ≤ s.length ∧ i = .int .i64 k ∧ wr = w ∧ Hid (Mi.hasS (s.drop k) p = R)) (fun i _ => s.length + 1 - (intOf i).toNat)
  case atStart => exact ⟨0, by omega, rfl, rfl, HR.out.symm⟩
  case round =>
    obtain ⟨k, hk, rfl, rfl, HG⟩ := hrel
    by_cases hlt : (k : Int) + p.length ≤ s.length
    · have hst := Mi.has_step s p k (by omega)
      rw [HG.out, ← ext_mid] at hst
      cases hc : ((({ data := s.toArray } : ByteArray).extract k (k + p.length)).toList == p)
      · have hn : Hid (Mi.hasS (s.drop (k + 1)) p = R) := by
          show _ = _
          rw [hst, hc]; rfl
        clear hst
        go_wp2_with fail
        go_roundw
        case rel => exact ⟨k + 1, by omega, by go_num, trivial, hn⟩
        case measure => simp [intOf]; omega
      · have hn := Lib.hid (show R = true from by rw [hst, hc]; rfl)
        clear hst
        go_wp2_with fail
        go_ret
        exact ⟨by rw [hn.out]; rfl, rfl⟩
    · go_wp2_with fail
      go_ret
      have h := HG.out
      rw [Mi.has_short _ _ (by simp; omega)] at h
      exact ⟨by rw [h]; rfl, rfl⟩
end Go.Proofs.Ytjkakmmhbciilaa
