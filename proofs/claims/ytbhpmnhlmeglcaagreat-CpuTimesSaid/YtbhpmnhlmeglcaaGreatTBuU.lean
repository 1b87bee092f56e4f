/- cpu: lives12. -/
import Derived.Test.YtbhpmnhlmeglcaaGreatTBuT
import Derived.Great.Ranges
namespace Go.Proofs.YtbhpmnhlmeglcaaGreat
set_option linter.unusedSimpArgs false
set_option linter.unusedVariables false
open Go.RowKit
theorem Ch.below' {p : Nat → Prop} {w w' : World} {n : Nat} (h : Ch p w w') (hn : n ≤ w.heap.size) (hp : ∀ k, k < w.heap.size → p k → n ≤ k) : Below n w w' :=
  ⟨h.os, h.tape, h.output, h.size, fun k hk => h.block k (Nat.lt_of_lt_of_le hk hn) fun hc => absurd (hp k (Nat.lt_of_lt_of_le hk hn) hc) (Nat.not_le_of_lt hk)⟩
/-- an empty bus in new memory -/
theorem fl_new (Z : Array Value) (hZ : Z.toList = fl0.m.map (.int .u8) ++ [.slice none 0 0, .slice none 0 0, .int .u64 0, .bool false]) (w : World) : FlAt (w.alloc (.cells Z 37)) w.heap.size (.slice none 0 0) fl0 := by
  refine ⟨?_, List.length_replicate .., ⟨rfl, .inl ⟨rfl, rfl⟩⟩, Nat.zero_le _⟩
  have := Blk.new w 37 Z.toList
  rw [Array.toArray_toList, hZ] at this
  exact this
theorem fl0_len : fl0.m.length = 65536 := List.length_replicate ..
theorem ex_0 : ((fl0.put 0 62).put 1 5).m.getD 0 0 = 62 := by
  show ((fl0.m.set 0 62).set 1 5).getD 0 0 = 62
  have h : 0 < fl0.m.length := by rw [fl0_len]; decide
  simp [List.getD, List.getElem?_set, h]
theorem ex_1 : ((fl0.put 0 62).put 1 5).m.getD 1 0 = 5 := by
  show ((fl0.m.set 0 62).set 1 5).getD 1 0 = 5
  have h : 1 < fl0.m.length := by rw [fl0_len]; decide
  simp [List.getD, List.getElem?_set, h]
theorem life_step (g h : Nat) (sv av : Value) (w : World) (hc : CpAt w g sv rz.newC) (hf : FlAt w h av ((fl0.put 0 62).put 1 5)) :
    Calls Tryz.prog 11 #[.pointer (some ⟨h, 0, none⟩), .pointer (some ⟨g, 0, none⟩)] w fun e w' => e = .returned (.int .i64 7) ∧ ∃ sv', CpAt w' g sv' L6 ∧ Ch (SysP g h sv av) w w' := by
  obtain ⟨f2, hr⟩ : ∃ f2, Run 7 rz.newC ((fl0.put 0 62).put 1 5) L6 f2 := ⟨_, lives_run _ rfl ex_0 ex_1⟩
  refine (fl_step g h sv av rz.newC L6 ((fl0.put 0 62).put 1 5) f2 7 w hc hf hr (by decide)).mono ?_
  rintro e w' ⟨h1, sv', av', h2, -, -, -, h3⟩
  exact ⟨h1, sv', h2, h3⟩
set_option maxRecDepth 100000 in
set_option maxHeartbeats 4000000 in
theorem lives12 (w : World) : Calls Tryz.prog 8 #[] w fun e w' => e = .returned (.bool true) ∧ Below w.heap.size w w' := by
  obtain ⟨Z, hZ, hZl⟩ := flat_zero
  have HBu := Lib.hid hZ
  have HF0 := Lib.hid (fl_new Z hZl w)
  obtain ⟨h, hh⟩ : ∃ h, h = w.heap.size := ⟨_, rfl⟩
  have HH := Lib.hid hh
  rw [← hh] at HF0 ⊢
  obtain ⟨w1, hw1⟩ : ∃ w1, w1 = w.alloc (.cells Z 37) := ⟨_, rfl⟩
  rw [← hw1] at HF0
  have HW1 := Lib.hid hw1
  have HB1 : Hid (Below h w w1) := by show Below _ _ _; rw [hw1]; exact (Below.refl _ w).alloc (by rw [hh]; exact Nat.le_refl _) _
  have HS1 : Hid (h < w1.heap.size) := by show _ < _; rw [hw1, hh]; simp
  clear hZ hZl hw1
  have c0 := HF0.out.byte 0 (by decide)
  have c1 := HF0.out.byte 1 (by decide)
  have z0 := HF0.out.blk.frozen 0
  have z1 := HF0.out.blk.frozen 1
  generalize fl0.m.getD 0 0 = x0 at c0
  generalize fl0.m.getD 1 0 = x1 at c1
  go_enter Tryz.func8, Tryz.ntmps8
  go_upto_region 1 with fail
  refine wp_region_list ?_
  refine wpList_buildTo rfl 37 #[] rfl (some 4) rfl Z (Eq.trans (congrArg _ (by simp)) HBu.out) ?_
  refine Great.wpList_boxTo rfl 37 (.tmp 4) rfl (some 5) rfl h HH.out.symm Z rfl ?_
  rw [← HW1.out]
  clear hh
  go_upto_region 4 with fail
  generalize hw3 : World.setCell (World.setCell w1 _ _) _ _ = w3
  have HF3 : Hid (FlAt w3 h (.slice none 0 0) ((fl0.put 0 62).put 1 5)) := by show FlAt _ _ _ _; rw [← hw3]; exact (HF0.out.put 0 (by decide) 62).put 1 (by decide) 5
  have HO3 : Hid (Only h w1 w3) := by show Only _ _ _; rw [← hw3]; exact (Only.set h 0 w1 _).trans (Only.set h 1 _ _)
  clear hw3 c0 c1 z0 z1
  go_wp2_with (first
    | (go_at_call 10
       refine (cp_new rz _).mono ?_
       rintro e w4 ⟨g, sv, rfl, h4, h5, h6, h7⟩
       have H4 := Lib.hid h4; have H5 := Lib.hid h5; have H6 := Lib.hid h6; have H7 := Lib.hid h7
       clear h4 h5 h6 h7)
    | (go_at_call 11
       refine (life_step g h sv (.slice none 0 0) _ H4.out ⟨HF3.out.blk.below_ H7.out, HF3.out.len, ⟨rfl, .inl ⟨rfl, rfl⟩⟩, Nat.zero_le _⟩).mono ?_
       rintro e w5 ⟨rfl, sv5, h8, h9⟩
       have H8 := Lib.hid h8; have H9 := Lib.hid h9
       have d0 : w5.cell? ⟨g, 0, none⟩ = some (.int .u8 5) := h8.blk.cell 0
       have d22 : w5.cell? ⟨g, 22, none⟩ = some (.int .u16 2) := h8.blk.cell 22
       clear h8 h9))
  go_ret
  have hs3 : w3.heap.size = w1.heap.size := HO3.out.size
  have hs1 := HS1.out
  have h3 : Below h w1 w3 := (Only.ch HO3.out).below' (Nat.le_of_lt HS1.out) (fun k _ hk => by rw [hk]; exact Nat.le_refl _)
  have h4 : Below h w3 w4 := H7.out.mono (by omega)
  have h5 : Below h w4 w5 := H9.out.below' (by have := H7.out.size; omega) (fun k _ hk => by
    have hg := H5.out
    rcases hk with (hk | hk) | hk | hk
    · omega
    · have := H6.out k hk; omega
    · omega
    · cases hk)
  exact ⟨rfl, ((HB1.out.trans h3).trans h4).trans h5⟩
end Go.Proofs.YtbhpmnhlmeglcaaGreat
