/- The laws of stage 19: head. -/
import Derived.Test.YtaipkoeiahjghaaTzxI
import Derived.Lib.SlBytesConst
namespace Go.Proofs.Ytaipkoeiahjghaa
set_option linter.unusedSimpArgs false
set_option linter.unusedVariables false
open Go.RowKit
theorem head_any (w : World) : Calls Try.prog 17 #[] w fun e w' => e = .returned (.slice (some ⟨w.heap.size, 0, none⟩) 10 10) ∧ w' = w.alloc (.cells #[.int .u8 90, .int .u8 88, .int .u8 84, .int .u8 97, .int .u8 112, .int .u8 101, .int .u8 33, .int .u8 26, .int .u8 1, .int .u8 20] 5 (10, 11)) := by
  have kc := fun (w : World) (C : Array Value) (n c : Nat) => Lib.run_convert_bytes_const (P := Try.prog) w 25 5 C n c Try.underlying25 Try.underlying5
  go_enter Try.func17, Try.ntmps17
  go_wp2_with fail
  go_ret
  exact ⟨rfl, rfl⟩
theorem head_ints (w : World) : Ints (w.alloc (.cells #[.int .u8 90, .int .u8 88, .int .u8 84, .int .u8 97, .int .u8 112, .int .u8 101, .int .u8 33, .int .u8 26, .int .u8 1, .int .u8 20] 5 (10, 11))) (some ⟨w.heap.size, 0, none⟩) .u8 head10 := by
  intro i v hi
  have hr : (w.alloc (.cells #[.int .u8 90, .int .u8 88, .int .u8 84, .int .u8 97, .int .u8 112, .int .u8 101, .int .u8 33, .int .u8 26, .int .u8 1, .int .u8 20] 5 (10, 11))).heap[w.heap.size]? = some (.cells (head10.map (Value.int .u8)).toArray 5 (10, 11)) := by
    show (w.heap.push _)[w.heap.size]? = _
    simp [head10]
  refine ⟨_, rfl, ?_⟩
  rw [Addr.add_mid, cell_of_row _ _ _ _ _ _ hr]
  simpa using hi
end Go.Proofs.Ytaipkoeiahjghaa
