/- The laws of stage 7: lives. -/
import Derived.Test.YtjkakmmhbciilaaOpS
namespace Go.Proofs.Ytjkakmmhbciilaa
set_option linter.unusedSimpArgs false
set_option linter.unusedVariables false
open Go.RowKit
theorem six {w : World} {g : Nat} {T : TypeId} {a b c d n l : Value} (h : Blk w g T [a, b, c, d, n, l]) : w.cell? ⟨g, 0, none⟩ = some a ∧ w.cell? ⟨g, 1, none⟩ = some b ∧ w.cell? ⟨g, 2, none⟩ = some c ∧ w.cell? ⟨g, 3, none⟩ = some d ∧ w.cell? ⟨g, 4, none⟩ = some n ∧ w.cell? ⟨g, 5, none⟩ = some l :=
  ⟨h.cell 0, h.cell 1, h.cell 2, h.cell 3, h.cell 4, h.cell 5⟩
def Yes (w : World) (e : Ending) (w' : World) : Prop := e = .returned (.bool true) ∧ Below w.heap.size w w'
theorem cells_new (w : World) (cs : Array Value) (t : TypeId) : Cells (w.alloc (.cells cs t)) (some ⟨w.heap.size, 0, none⟩) cs.toList := fun i v hi => by
  refine ⟨_, rfl, ?_⟩
  rw [Addr.add_mid, cell_of_row _ _ _ _ _ _ (heap_alloc_new w _)]
  simpa using hi
theorem r1 : readS [33, 0, 92] = (⟨0, 0, 33, 0, 23552, 3⟩, true) := by kernel_rfl
theorem r2 : readS [221, 126, 251] = (⟨0, 1, 126, 251, 0, 3⟩, true) := by kernel_rfl
theorem r3 : readS [24, 254] = (⟨0, 0, 24, 0, 254, 2⟩, true) := by kernel_rfl
theorem read1 (w : World) : Calls Try.prog 9 #[.slice (some ⟨w.heap.size, 0, none⟩) 3 3] (w.alloc (.cells #[.int .u8 33, .int .u8 0, .int .u8 92] 5)) (ReadsL 0 0 33 0 23552 3 true (w.alloc (.cells #[.int .u8 33, .int .u8 0, .int .u8 92] 5))) := by
  have h := read_any ⟨w.heap.size, 0, none⟩ 3 3 [33, 0, 92] (w.alloc (.cells #[.int .u8 33, .int .u8 0, .int .u8 92] 5)) ⟨cells_new w _ _, rfl, by intro x hx; simp at hx; rcases hx with rfl | rfl | rfl <;> exact ⟨by omega, by omega⟩, by omega, by omega⟩
  rw [r1] at h
  exact h
theorem read2 (w : World) : Calls Try.prog 9 #[.slice (some ⟨w.heap.size, 0, none⟩) 3 3] (w.alloc (.cells #[.int .u8 221, .int .u8 126, .int .u8 251] 5)) (ReadsL 0 1 126 251 0 3 true (w.alloc (.cells #[.int .u8 221, .int .u8 126, .int .u8 251] 5))) := by
  have h := read_any ⟨w.heap.size, 0, none⟩ 3 3 [221, 126, 251] (w.alloc (.cells #[.int .u8 221, .int .u8 126, .int .u8 251] 5)) ⟨cells_new w _ _, rfl, by intro x hx; simp at hx; rcases hx with rfl | rfl | rfl <;> exact ⟨by omega, by omega⟩, by omega, by omega⟩
  rw [r2] at h
  exact h
theorem read3 (w : World) : Calls Try.prog 9 #[.slice (some ⟨w.heap.size, 0, none⟩) 2 2] (w.alloc (.cells #[.int .u8 24, .int .u8 254] 5)) (ReadsL 0 0 24 0 254 2 true (w.alloc (.cells #[.int .u8 24, .int .u8 254] 5))) := by
  have h := read_any ⟨w.heap.size, 0, none⟩ 2 2 [24, 254] (w.alloc (.cells #[.int .u8 24, .int .u8 254] 5)) ⟨cells_new w _ _, rfl, by intro x hx; simp at hx; rcases hx with rfl | rfl <;> exact ⟨by omega, by omega⟩, by omega, by omega⟩
  rw [r3] at h
  exact h
theorem show1 (w : World) : Calls Try.prog 12 #[.agg #[.int .i64 0, .int .i64 0, .int .u8 33, .int .u8 0, .int .u16 23552, .int .i64 3], .int .u16 0] w (Text [108, 100, 32, 104, 108, 44, 36, 53, 99, 48, 48] w) :=
  show_plain 0 33 0 23552 3 0 _ (fun w => plain_low 33 (.bool true) 0 0 23552 3 0 _ (by omega) (by omega) (fun w => by
    have h := first_ld 0 23552 3 0 w ⟨by omega, by omega⟩
    have e : [108, 100, 32, 104, 108, 44] ++ hxS 4 23552 = [108, 100, 32, 104, 108, 44, 36, 53, 99, 48, 48] := by decide +kernel
    rw [e] at h
    exact h) w) w
theorem show2 (w : World) : Calls Try.prog 12 #[.agg #[.int .i64 0, .int .i64 1, .int .u8 126, .int .u8 251, .int .u16 0, .int .i64 3], .int .u16 0] w (Text [108, 100, 32, 97, 44, 40, 105, 120, 45, 53, 41] w) :=
  show_plain 1 126 251 0 3 0 _ plain_ld w
theorem show3 (w : World) : Calls Try.prog 12 #[.agg #[.int .i64 0, .int .i64 0, .int .u8 24, .int .u8 0, .int .u16 254, .int .i64 2], .int .u16 16] w (Text [106, 114, 32, 36, 48, 48, 49, 48] w) :=
  show_plain 0 24 0 254 2 16 _ (fun w => plain_low 24 (.bool true) 0 0 254 2 16 _ (by omega) (by omega) (fun w => by
    have h := first_jr 0 0 254 2 16 w ⟨by omega, by omega⟩ ⟨by omega, by omega⟩ ⟨by omega, by omega⟩
    have e : [106, 114, 32] ++ targetS 254 2 16 = [106, 114, 32, 36, 48, 48, 49, 48] := by decide +kernel
    rw [e] at h
    exact h) w) w
theorem new_struct (w : World) (cs : List Value) (T : TypeId) : ∃ w1, w1 = w.alloc (.cells cs.toArray T) ∧ Blk w1 w.heap.size T cs ∧ Below w.heap.size w w1 ∧ w1.heap.size = w.heap.size + 1 :=
  ⟨_, rfl, Blk.new w _ _, (Below.refl _ _).alloc (Nat.le_refl _) _, by simp⟩
set_option maxHeartbeats 4000000 in
theorem lives07 (w : World) : Calls Try.prog 8 #[] w (Yes w) := by
  have H1 := Lib.hid read1; have H2 := Lib.hid read2; have H3 := Lib.hid read3
  have S1 := Lib.hid show1; have S2 := Lib.hid show2; have S3 := Lib.hid show3
  go_enter Try.func8, Try.ntmps8
  go_wp2_with fail
  refine (H1.out _).mono ?_
  rintro e w1 ⟨rfl, hb1⟩
  go_wp2_with fail
  obtain ⟨W1, hW1, b1, B1, z1⟩ := new_struct w1 [.int .i64 0, .int .i64 0, .int .u8 33, .int .u8 0, .int .u16 23552, .int .i64 3] 26
  rw [show w1.heap.size + 1 = W1.heap.size from z1.symm, ← hW1]
  have K1 := Lib.hid ((((Below.refl _ w).alloc (Nat.le_refl _) _).trans (hb1.mono (by simp))).trans (B1.mono (by have := hb1.size; simp at this; omega)))
  have Q1 := Lib.hid b1
  have Z1 := Lib.hid (show w.heap.size ≤ w1.heap.size by have := hb1.size; simp at this; omega)
  clear hW1 b1 B1 hb1 z1
  refine (H2.out _).mono ?_
  rintro e w2 ⟨rfl, hb2⟩
  have E2 : Below W1.heap.size W1 w2 := ((Below.refl _ W1).alloc (Nat.le_refl _) _).trans (hb2.mono (by simp))
  have Q2 := Lib.hid (Q1.out.below_ E2)
  have K2 := Lib.hid (K1.out.trans (E2.mono K1.out.size))
  clear hb2 E2 Q1
  go_wp2_with fail
  obtain ⟨W2, hW2, b2, B2, z2⟩ := new_struct w2 [.int .i64 0, .int .i64 1, .int .u8 126, .int .u8 251, .int .u16 0, .int .i64 3] 26
  rw [show w2.heap.size + 1 = W2.heap.size from z2.symm, ← hW2]
  have K3 := Lib.hid (K2.out.trans (B2.mono K2.out.size))
  have Q3 := Lib.hid (Q2.out.below_ B2)
  have R3 := Lib.hid b2
  clear hW2 b2 B2 z2 Q2
  refine (H3.out _).mono ?_
  rintro e w3 ⟨rfl, hb3⟩
  have E3 : Below W2.heap.size W2 w3 := ((Below.refl _ W2).alloc (Nat.le_refl _) _).trans (hb3.mono (by simp))
  have Q4 := Q3.out.below_ E3
  have R4 := R3.out.below_ E3
  have K4 := K3.out.trans (E3.mono K3.out.size)
  clear hb3 E3 Q3 R3
  have B3 : Below w3.heap.size w3 (w3.alloc (.cells #[.int .i64 0, .int .i64 0, .int .u8 24, .int .u8 0, .int .u16 254, .int .i64 2] 26)) := (Below.refl _ _).alloc (Nat.le_refl _) _
  have b3 : Blk (w3.alloc (.cells #[.int .i64 0, .int .i64 0, .int .u8 24, .int .u8 0, .int .u16 254, .int .i64 2] 26)) w3.heap.size 26 [.int .i64 0, .int .i64 0, .int .u8 24, .int .u8 0, .int .u16 254, .int .i64 2] := Blk.new w3 _ _
  have K5 := Lib.hid (K4.trans (B3.mono K4.size))
  have Q5 := Lib.hid (Q4.below_ B3)
  have R5 := Lib.hid (R4.below_ B3)
  have S5 := Lib.hid b3
  clear b3 B3 Q4 R4 K4
  obtain ⟨q0, q1, q2, q3, q4, q5⟩ := six Q5.out
  go_wp2_with (first
    | (go_at_call 12; (with_reducible refine (S1.out _).mono ?_); rintro e w4 ⟨rfl, hb⟩; have K6 := Lib.hid (K5.out.trans (hb.mono K5.out.size)); have R6 := Lib.hid (R5.out.below_ hb); have S6 := Lib.hid (S5.out.below_ hb); clear hb q0 q1 q2 q3 q4 q5; obtain ⟨q0, q1, q2, q3, q4, q5⟩ := six R6.out)
    | (go_at_call 12; (with_reducible refine (S2.out _).mono ?_); rintro e w5 ⟨rfl, hb⟩; have K7 := Lib.hid (K6.out.trans (hb.mono K6.out.size)); have S7 := Lib.hid (S6.out.below_ hb); clear hb q0 q1 q2 q3 q4 q5; obtain ⟨q0, q1, q2, q3, q4, q5⟩ := six S7.out)
    | (go_at_call 12; (with_reducible refine (S3.out _).mono ?_); rintro e w6 ⟨rfl, hb⟩; have K8 := Lib.hid (K7.out.trans (hb.mono K7.out.size)); clear hb))
  go_ret
  exact ⟨rfl, K8.out⟩
end Go.Proofs.Ytjkakmmhbciilaa
