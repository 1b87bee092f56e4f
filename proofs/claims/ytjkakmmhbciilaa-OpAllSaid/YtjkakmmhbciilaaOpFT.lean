/- squealref07.More. (printed by wip/gen/gen_opsi.py) -/
import Derived.Test.YtjkakmmhbciilaaOpFS
namespace Go.Proofs.Ytjkakmmhbciilaa
set_option linter.unusedSimpArgs false
set_option linter.unusedVariables false
open Go.RowKit Go.Sort
/-- the text of a code behind 237 -/
def more7S (c : Int) : List UInt8 := moreT id [87] [] false [] c (c / 64) (c / 8 % 8) (c % 8) (c / 16 % 4) (c / 8 % 2)
theorem regs_one (i : Nat) (t : List UInt8) (hi : (Mi.regsL.map (fun s => Value.string ⟨s.toArray⟩))[i]? = some (.string ⟨t.toArray⟩)) (w : World) : Calls Try.prog 32 #[] w fun e w' => ∃ g c, e = .returned (.slice (some ⟨g, 0, none⟩) 8 c) ∧ w'.cell? ⟨g, i, none⟩ = some (.string ⟨t.toArray⟩) ∧ Below w.heap.size w w' :=
  (regs_table w).mono fun e w' h => by
    obtain ⟨c, rfl, hc, hb⟩ := h
    obtain ⟨ad, e, h⟩ := hc i _ hi
    injection e with e
    subst e
    refine ⟨_, c, rfl, ?_, hb⟩
    rw [← h]
    have hadd : (⟨w.heap.size, 0, none⟩ : Addr).add i = ⟨w.heap.size, i, none⟩ := by unfold Addr.add; split <;> simp_all
    rw [hadd]
set_option maxRecDepth 100000 in
set_option maxHeartbeats 16000000 in
theorem more7_0 (c : Int) (h : 64 ≤ c ∧ c < 72) : Gives 33 #[.int .u8 c] (.string ⟨(more7S c).toArray⟩) := by
  intro w
  have HRG := Lib.hid (fun w => regs_one 0 [98] rfl w)
  have hc : c = 64 ∨ c = 65 ∨ c = 66 ∨ c = 67 ∨ c = 68 ∨ c = 69 ∨ c = 70 ∨ c = 71 := by omega
  rcases hc with rfl | rfl | rfl | rfl | rfl | rfl | rfl | rfl
  all_goals
    clear h
    go_enter Try.func33, Try.ntmps33
    go_wp2_with (first
      | (go_at_call 32; refine (HRG.out _).mono ?_; rintro e w1 ⟨g, cc, rfl, hcell, hb⟩; have hgl := block_lt_of_cell hcell))
    go_ret
    refine ⟨str_of' (by show _ = _; kernel_rfl), ?_⟩
    first
      | exact hb.trans ((below_box _ _).mono hb.size)
      | exact (hb.trans ((below_box _ _).mono hb.size)).alloc (by have := hb.size; simp; omega) _
set_option maxRecDepth 100000 in
set_option maxHeartbeats 16000000 in
theorem more7_1 (c : Int) (h : 72 ≤ c ∧ c < 80) : Gives 33 #[.int .u8 c] (.string ⟨(more7S c).toArray⟩) := by
  intro w
  have HRG := Lib.hid (fun w => regs_one 1 [99] rfl w)
  have hc : c = 72 ∨ c = 73 ∨ c = 74 ∨ c = 75 ∨ c = 76 ∨ c = 77 ∨ c = 78 ∨ c = 79 := by omega
  rcases hc with rfl | rfl | rfl | rfl | rfl | rfl | rfl | rfl
  all_goals
    clear h
    go_enter Try.func33, Try.ntmps33
    go_wp2_with (first
      | (go_at_call 32; refine (HRG.out _).mono ?_; rintro e w1 ⟨g, cc, rfl, hcell, hb⟩; have hgl := block_lt_of_cell hcell))
    go_ret
    refine ⟨str_of' (by show _ = _; kernel_rfl), ?_⟩
    first
      | exact hb.trans ((below_box _ _).mono hb.size)
      | exact (hb.trans ((below_box _ _).mono hb.size)).alloc (by have := hb.size; simp; omega) _
set_option maxRecDepth 100000 in
set_option maxHeartbeats 16000000 in
theorem more7_2 (c : Int) (h : 80 ≤ c ∧ c < 88) : Gives 33 #[.int .u8 c] (.string ⟨(more7S c).toArray⟩) := by
  intro w
  have HRG := Lib.hid (fun w => regs_one 2 [100] rfl w)
  have hc : c = 80 ∨ c = 81 ∨ c = 82 ∨ c = 83 ∨ c = 84 ∨ c = 85 ∨ c = 86 ∨ c = 87 := by omega
  rcases hc with rfl | rfl | rfl | rfl | rfl | rfl | rfl | rfl
  all_goals
    clear h
    go_enter Try.func33, Try.ntmps33
    go_wp2_with (first
      | (go_at_call 32; refine (HRG.out _).mono ?_; rintro e w1 ⟨g, cc, rfl, hcell, hb⟩; have hgl := block_lt_of_cell hcell))
    go_ret
    refine ⟨str_of' (by show _ = _; kernel_rfl), ?_⟩
    first
      | exact hb.trans ((below_box _ _).mono hb.size)
      | exact (hb.trans ((below_box _ _).mono hb.size)).alloc (by have := hb.size; simp; omega) _
set_option maxRecDepth 100000 in
set_option maxHeartbeats 16000000 in
theorem more7_3 (c : Int) (h : 88 ≤ c ∧ c < 96) : Gives 33 #[.int .u8 c] (.string ⟨(more7S c).toArray⟩) := by
  intro w
  have HRG := Lib.hid (fun w => regs_one 3 [101] rfl w)
  have hc : c = 88 ∨ c = 89 ∨ c = 90 ∨ c = 91 ∨ c = 92 ∨ c = 93 ∨ c = 94 ∨ c = 95 := by omega
  rcases hc with rfl | rfl | rfl | rfl | rfl | rfl | rfl | rfl
  all_goals
    clear h
    go_enter Try.func33, Try.ntmps33
    go_wp2_with (first
      | (go_at_call 32; refine (HRG.out _).mono ?_; rintro e w1 ⟨g, cc, rfl, hcell, hb⟩; have hgl := block_lt_of_cell hcell))
    go_ret
    refine ⟨str_of' (by show _ = _; kernel_rfl), ?_⟩
    first
      | exact hb.trans ((below_box _ _).mono hb.size)
      | exact (hb.trans ((below_box _ _).mono hb.size)).alloc (by have := hb.size; simp; omega) _
set_option maxRecDepth 100000 in
set_option maxHeartbeats 16000000 in
theorem more7_4 (c : Int) (h : 96 ≤ c ∧ c < 104) : Gives 33 #[.int .u8 c] (.string ⟨(more7S c).toArray⟩) := by
  intro w
  have HRG := Lib.hid (fun w => regs_one 4 [104] rfl w)
  have hc : c = 96 ∨ c = 97 ∨ c = 98 ∨ c = 99 ∨ c = 100 ∨ c = 101 ∨ c = 102 ∨ c = 103 := by omega
  rcases hc with rfl | rfl | rfl | rfl | rfl | rfl | rfl | rfl
  all_goals
    clear h
    go_enter Try.func33, Try.ntmps33
    go_wp2_with (first
      | (go_at_call 32; refine (HRG.out _).mono ?_; rintro e w1 ⟨g, cc, rfl, hcell, hb⟩; have hgl := block_lt_of_cell hcell))
    go_ret
    refine ⟨str_of' (by show _ = _; kernel_rfl), ?_⟩
    first
      | exact hb.trans ((below_box _ _).mono hb.size)
      | exact (hb.trans ((below_box _ _).mono hb.size)).alloc (by have := hb.size; simp; omega) _
set_option maxRecDepth 100000 in
set_option maxHeartbeats 16000000 in
theorem more7_5 (c : Int) (h : 104 ≤ c ∧ c < 112) : Gives 33 #[.int .u8 c] (.string ⟨(more7S c).toArray⟩) := by
  intro w
  have HRG := Lib.hid (fun w => regs_one 5 [108] rfl w)
  have hc : c = 104 ∨ c = 105 ∨ c = 106 ∨ c = 107 ∨ c = 108 ∨ c = 109 ∨ c = 110 ∨ c = 111 := by omega
  rcases hc with rfl | rfl | rfl | rfl | rfl | rfl | rfl | rfl
  all_goals
    clear h
    go_enter Try.func33, Try.ntmps33
    go_wp2_with (first
      | (go_at_call 32; refine (HRG.out _).mono ?_; rintro e w1 ⟨g, cc, rfl, hcell, hb⟩; have hgl := block_lt_of_cell hcell))
    go_ret
    refine ⟨str_of' (by show _ = _; kernel_rfl), ?_⟩
    first
      | exact hb.trans ((below_box _ _).mono hb.size)
      | exact (hb.trans ((below_box _ _).mono hb.size)).alloc (by have := hb.size; simp; omega) _
set_option maxRecDepth 100000 in
set_option maxHeartbeats 16000000 in
theorem more7_6 (c : Int) (h : 112 ≤ c ∧ c < 120) : Gives 33 #[.int .u8 c] (.string ⟨(more7S c).toArray⟩) := by
  intro w
  have HRG := Lib.hid (fun w => regs_one 6 [40, 104, 108, 41] rfl w)
  have hc : c = 112 ∨ c = 113 ∨ c = 114 ∨ c = 115 ∨ c = 116 ∨ c = 117 ∨ c = 118 ∨ c = 119 := by omega
  rcases hc with rfl | rfl | rfl | rfl | rfl | rfl | rfl | rfl
  all_goals
    clear h
    go_enter Try.func33, Try.ntmps33
    go_wp2_with (first
      | (go_at_call 32; refine (HRG.out _).mono ?_; rintro e w1 ⟨g, cc, rfl, hcell, hb⟩; have hgl := block_lt_of_cell hcell))
    go_ret
    refine ⟨str_of' (by show _ = _; kernel_rfl), ?_⟩
    first
      | exact hb.trans ((below_box _ _).mono hb.size)
      | exact (hb.trans ((below_box _ _).mono hb.size)).alloc (by have := hb.size; simp; omega) _
set_option maxRecDepth 100000 in
set_option maxHeartbeats 16000000 in
theorem more7_7 (c : Int) (h : 120 ≤ c ∧ c < 128) : Gives 33 #[.int .u8 c] (.string ⟨(more7S c).toArray⟩) := by
  intro w
  have HRG := Lib.hid (fun w => regs_one 7 [97] rfl w)
  have hc : c = 120 ∨ c = 121 ∨ c = 122 ∨ c = 123 ∨ c = 124 ∨ c = 125 ∨ c = 126 ∨ c = 127 := by omega
  rcases hc with rfl | rfl | rfl | rfl | rfl | rfl | rfl | rfl
  all_goals
    clear h
    go_enter Try.func33, Try.ntmps33
    go_wp2_with (first
      | (go_at_call 32; refine (HRG.out _).mono ?_; rintro e w1 ⟨g, cc, rfl, hcell, hb⟩; have hgl := block_lt_of_cell hcell))
    go_ret
    refine ⟨str_of' (by show _ = _; kernel_rfl), ?_⟩
    first
      | exact hb.trans ((below_box _ _).mono hb.size)
      | exact (hb.trans ((below_box _ _).mono hb.size)).alloc (by have := hb.size; simp; omega) _
set_option maxRecDepth 100000 in
set_option maxHeartbeats 16000000 in
theorem more7_b0 (c : Int) (h : 160 ≤ c ∧ c < 164) : Gives 33 #[.int .u8 c] (.string ⟨(more7S c).toArray⟩) := by
  intro w
  have hc : c = 160 ∨ c = 161 ∨ c = 162 ∨ c = 163 := by omega
  rcases hc with rfl | rfl | rfl | rfl
  all_goals
    clear h
    go_enter Try.func33, Try.ntmps33
    go_wp2_with fail
    go_ret
    exact ⟨str_of' (by show _ = _; kernel_rfl), below_box _ _⟩
set_option maxRecDepth 100000 in
set_option maxHeartbeats 16000000 in
theorem more7_b1 (c : Int) (h : 168 ≤ c ∧ c < 172) : Gives 33 #[.int .u8 c] (.string ⟨(more7S c).toArray⟩) := by
  intro w
  have hc : c = 168 ∨ c = 169 ∨ c = 170 ∨ c = 171 := by omega
  rcases hc with rfl | rfl | rfl | rfl
  all_goals
    clear h
    go_enter Try.func33, Try.ntmps33
    go_wp2_with fail
    go_ret
    exact ⟨str_of' (by show _ = _; kernel_rfl), below_box _ _⟩
set_option maxRecDepth 100000 in
set_option maxHeartbeats 16000000 in
theorem more7_b2 (c : Int) (h : 176 ≤ c ∧ c < 180) : Gives 33 #[.int .u8 c] (.string ⟨(more7S c).toArray⟩) := by
  intro w
  have hc : c = 176 ∨ c = 177 ∨ c = 178 ∨ c = 179 := by omega
  rcases hc with rfl | rfl | rfl | rfl
  all_goals
    clear h
    go_enter Try.func33, Try.ntmps33
    go_wp2_with fail
    go_ret
    exact ⟨str_of' (by show _ = _; kernel_rfl), below_box _ _⟩
set_option maxRecDepth 100000 in
set_option maxHeartbeats 16000000 in
theorem more7_b3 (c : Int) (h : 184 ≤ c ∧ c < 188) : Gives 33 #[.int .u8 c] (.string ⟨(more7S c).toArray⟩) := by
  intro w
  have hc : c = 184 ∨ c = 185 ∨ c = 186 ∨ c = 187 := by omega
  rcases hc with rfl | rfl | rfl | rfl
  all_goals
    clear h
    go_enter Try.func33, Try.ntmps33
    go_wp2_with fail
    go_ret
    exact ⟨str_of' (by show _ = _; kernel_rfl), below_box _ _⟩
theorem more7_n1 (c : Int) (h0 : 0 ≤ c) (h1 : c < 64) : Gives 33 #[.int .u8 c] (.string ⟨[110, 111, 112].toArray⟩) := by
  intro w
  have k1 : ¬ (160 ≤ c) := by omega
  go_enter Try.func33, Try.ntmps33
  go_wp2_with fail
  go_ret
  exact ⟨rfl, Below.refl _ _⟩
theorem more7_n2 (c : Int) (h0 : 128 ≤ c) (h1 : c < 160) : Gives 33 #[.int .u8 c] (.string ⟨[110, 111, 112].toArray⟩) := by
  intro w
  have k1 : ¬ (160 ≤ c) := by omega
  have k2 : ¬ (c < 64) := by omega
  go_enter Try.func33, Try.ntmps33
  go_wp2_with fail
  go_ret
  exact ⟨rfl, Below.refl _ _⟩
theorem more7_n3 (c : Int) (h0 : 192 ≤ c) (h1 : c ≤ 255) : Gives 33 #[.int .u8 c] (.string ⟨[110, 111, 112].toArray⟩) := by
  intro w
  have k1 : 160 ≤ c := by omega
  have k3 : ¬ (c < 192) := by omega
  have k2 : ¬ (c < 64) := by omega
  have k4 : 128 ≤ c := by omega
  go_enter Try.func33, Try.ntmps33
  go_wp2_with fail
  go_ret
  exact ⟨rfl, Below.refl _ _⟩
theorem more7_n4 (c : Int) (h0 : 160 ≤ c) (h1 : c < 192) (h4 : 4 ≤ c % 8) : Gives 33 #[.int .u8 c] (.string ⟨[110, 111, 112].toArray⟩) := by
  intro w
  have t1 : Int.tmod c 8 = c % 8 := Int.tmod_eq_emod_of_nonneg (by omega)
  have k5 : ¬ (c % 8 < 4) := by omega
  have k2 : ¬ (c < 64) := by omega
  have k4 : 128 ≤ c := by omega
  go_enter Try.func33, Try.ntmps33
  go_wp2_with fail
  go_ret
  exact ⟨rfl, Below.refl _ _⟩
theorem more7S_nop (c : Int) (h : c < 64 ∧ 0 ≤ c ∨ 128 ≤ c ∧ c < 160 ∨ 192 ≤ c ∧ c ≤ 255 ∨ 160 ≤ c ∧ c < 192 ∧ 4 ≤ c % 8) : more7S c = [110, 111, 112] := by
  unfold more7S moreT
  by_cases h2 : c / 64 = 2
  · rw [if_pos h2]
    split
    · rw [if_neg (by omega)]; rfl
    · rfl
  · rw [if_neg h2, if_neg (by omega)]; rfl
theorem more7_any (c : Int) (h0 : 0 ≤ c) (h1 : c ≤ 255) : Gives 33 #[.int .u8 c] (.string ⟨(more7S c).toArray⟩) := by
  by_cases k1 : c < 64
  · rw [more7S_nop c (.inl ⟨k1, h0⟩)]; exact more7_n1 c h0 k1
  by_cases a0 : c < 72
  · exact more7_0 c ⟨by omega, a0⟩
  by_cases a1 : c < 80
  · exact more7_1 c ⟨by omega, a1⟩
  by_cases a2 : c < 88
  · exact more7_2 c ⟨by omega, a2⟩
  by_cases a3 : c < 96
  · exact more7_3 c ⟨by omega, a3⟩
  by_cases a4 : c < 104
  · exact more7_4 c ⟨by omega, a4⟩
  by_cases a5 : c < 112
  · exact more7_5 c ⟨by omega, a5⟩
  by_cases a6 : c < 120
  · exact more7_6 c ⟨by omega, a6⟩
  by_cases a7 : c < 128
  · exact more7_7 c ⟨by omega, a7⟩
  by_cases k2 : c < 160
  · rw [more7S_nop c (.inr (.inl ⟨by omega, k2⟩))]; exact more7_n2 c (by omega) k2
  by_cases k3 : 192 ≤ c
  · rw [more7S_nop c (.inr (.inr (.inl ⟨k3, h1⟩)))]; exact more7_n3 c k3 h1
  by_cases k4 : 4 ≤ c % 8
  · rw [more7S_nop c (.inr (.inr (.inr ⟨by omega, by omega, k4⟩)))]; exact more7_n4 c (by omega) (by omega) k4
  by_cases b0 : c < 168
  · exact more7_b0 c ⟨by omega, by omega⟩
  by_cases b1 : c < 176
  · exact more7_b1 c ⟨by omega, by omega⟩
  by_cases b2 : c < 184
  · exact more7_b2 c ⟨by omega, by omega⟩
  by_cases b3 : c < 192
  · exact more7_b3 c ⟨by omega, by omega⟩
  omega
end Go.Proofs.Ytjkakmmhbciilaa
