/- squealref19.Sound. -/
import Derived.Test.YtaipkoeiahjghaaTzxO
namespace Go.Proofs.Ytaipkoeiahjghaa
set_option linter.unusedSimpArgs false
set_option linter.unusedVariables false
open Go.RowKit
theorem refSound_any (g : Nat) (A : Option Addr) (n c m : Nat) (ids T : List Int) (w : World) (hA : n = 0 ∨ A = some ⟨g, 0, none⟩) (hL : Blks w g ids T) (hn : ids.length = n) (hn1 : n ≤ 200) (hm : T.length = m) (hm1 : m ≤ 300) :
    Calls Try.prog 8 #[.slice A n c] w (SoundP ids T n w) := by
  have HL := Lib.hid hL; have HN := Lib.hid hn; have HM := Lib.hid hm
  clear hL hn hm
  go_enter Try.func8, Try.ntmps8
  go_wp2_with fail
  go_loopw [4, 5] (fun idx _ wr => ∃ k : Nat, k ≤ n ∧ idx = .int .i64 k ∧ Hid (∀ j, j < k → Tz.wrongAt ids T j = 0) ∧ Hid (Below w.heap.size w wr)) (fun idx _ _ => n - (intOf idx).toNat)
  case atStart => exact ⟨0, by omega, rfl, fun j hj => by omega, Below.refl _ _⟩
  case round =>
    obtain ⟨k, hk, rfl, HZ, HB⟩ := hrel
    by_cases hlt : k < n
    · have hA2 : A = some ⟨g, 0, none⟩ := by rcases hA with h | h; omega; exact h
      subst hA2
      have HW := Lib.hid (wrong_any g n c m k ids T wr (HL.out.below HB.out) HN.out hn1 HM.out hm1 hlt)
      unfold WrongP at HW
      obtain ⟨V, hV⟩ : ∃ V, V = Tz.wrongAt ids T k := ⟨_, rfl⟩
      rw [← hV] at HW
      have HV := Lib.hid hV
      clear hV
      by_cases h0 : V = 0
      · subst h0
        have HZ2 : Hid (∀ j, j < k + 1 → Tz.wrongAt ids T j = 0) := fun j hj => by
          by_cases e : j = k
          · subst e; exact HV.out.symm
          · exact HZ.out j (by omega)
        go_wp2_with (first
          | (go_at_call 20; refine HW.out.mono ?_; rintro e w3 ⟨rfl, hb3⟩))
        go_roundw
        case rel => exact ⟨k + 1, by omega, by go_num, HZ2, HB.out.trans (hb3.mono HB.out.size)⟩
        case measure => simp [intOf]; omega
      · have q0 : (V == 0) = false := by simpa using h0
        go_wp2_with (first
          | (go_at_call 20; refine HW.out.mono ?_; rintro e w3 ⟨rfl, hb3⟩))
        go_ret2
        exact soundP_hit (x := V) HZ.out HV.out.symm h0 hlt rfl (HB.out.trans (hb3.mono HB.out.size))
    · obtain rfl : k = n := by omega
      go_wp2_with fail
      go_ret2
      refine ⟨?_, HB.out⟩
      rw [Tz.firstW_none _ _ HZ.out]
      rfl
end Go.Proofs.Ytaipkoeiahjghaa
