/- cpu: a copy of a processor that has begun nothing. -/
import Derived.Test.YtbhpmnhlmeglcaaGreatBuCB
namespace Go.Proofs.YtbhpmnhlmeglcaaGreat
set_option linter.unusedSimpArgs false
set_option linter.unusedVariables false
open Go.RowKit
theorem infoCpu : (Tryz.prog.info? 46).map (·.size) = some 50 := by kernel_rfl
/-- a processor was made -/
def MadeP (w : World) (c : Cp) (e : Ending) (w' : World) : Prop := ∃ g' sv', e = .returned (.pointer (some ⟨g', 0, none⟩)) ∧ CpAt w' g' sv' c ∧ w.heap.size ≤ g' ∧ (∀ b, sv'.ownBlock = some b → w.heap.size ≤ b) ∧ Below w.heap.size w w'
set_option maxRecDepth 100000 in
set_option maxHeartbeats 4000000 in
theorem cp_copy (g : Nat) (sv : Value) (c : Cp) (w : World) (h : CpAt w g sv c) (hs : c.steps = []) :
    Calls Tryz.prog 14 #[.pointer (some ⟨g, 0, none⟩)] w (MadeP w c) := by
  obtain ⟨A, cap, hsv, hA, hle, hm⟩ := own_form h.own
  replace hsv : sv = .slice A 0 cap := by rw [hsv, hs]; rfl
  obtain ⟨cs, hcs⟩ : ∃ cs, cs = c.cells sv := ⟨_, rfl⟩
  have HX : Hid (w.rangeAt g 0 cs) := by show World.rangeAt _ _ _ _; rw [hcs]; exact blk_range h.blk
  have HI : Hid ((Tryz.prog.info? 46).map (·.size) = some cs.length) := by show _ = _; rw [hcs]; exact infoCpu
  have HSZ : Hid (cs.toArray.size = 50) := by show _ = _; rw [hcs]; rfl
  have HONE : Hid (cs.toArray.all (·.oneCell') = true) := by show _ = _; rw [hcs, hsv]; simp [Cp.cells, Rg.cells, Cp.tail, Value.oneCell']
  obtain ⟨b, hb⟩ : ∃ b, b = w.heap.size := ⟨_, rfl⟩
  have HB := Lib.hid hb
  obtain ⟨w1, hw1⟩ : ∃ w1, w1 = w.alloc (.cells cs.toArray 46) := ⟨_, rfl⟩
  have HW1 := Lib.hid hw1
  have HK : Hid (Blk w1 b 46 (c.cells sv)) := by show Blk _ _ _ _; rw [hw1, hb, hcs]; exact Blk.new w _ _
  have HKG : Hid (Blk w1 g 46 (c.cells sv)) := by show Blk _ _ _ _; rw [hw1]; exact h.blk.alloc _
  have HBE : Hid (Below w.heap.size w w1) := by show Below _ _ _; rw [hw1]; exact (Below.refl _ w).alloc (Nat.le_refl _) _
  have HS1 : Hid (w1.heap.size = b + 1) := by show _ = _; rw [hw1, hb]; simp
  have HSV := Lib.hid hsv; have HST := Lib.hid hs; have HC := Lib.hid hcs; have HAN := Lib.hid hA
  have hmk := fun u => mk_steps u
  clear h hs hcs hb hw1 hsv hA hle
  go_enter Tryz.func14, Tryz.ntmps14
  go_upto_region 4 with (first
    | (refine wpList_load_mid rfl 46 (.tmp 7) rfl g 0 rfl cs _ HX.out Tryz.underlying46 rfl HI.out ?_)
    | (refine wpList_store_rowTo rfl 46 (.tmp 3) (.tmp 8) rfl rfl w.heap.size _ rfl rfl 46 _ (heap_alloc_new w _) HI.out (by rw [HSZ.out]; rfl) HONE.out ?_; rw [World.setRow_alloc_new, ← HW1.out]))
  rw [← HB.out]
  clear HW1
  have c30 : w1.cell? ⟨g, 30, none⟩ = some (.slice A 0 cap) := by rw [← HSV.out]; exact HKG.out.cell 30
  have e30 : ∀ o, (w1.alloc o).cell? ⟨g, 30, none⟩ = some (.slice A 0 cap) := fun o => by rw [← HSV.out]; exact (HKG.out.alloc o).cell 30
  have d30 : w1.cell? ⟨b, 30, none⟩ = some (.slice A 0 cap) := by rw [← HSV.out]; exact HK.out.cell 30
  have f30 : ∀ o, (w1.alloc o).cell? ⟨b, 30, none⟩ = some (.slice A 0 cap) := fun o => by rw [← HSV.out]; exact (HK.out.alloc o).cell 30
  have y30 : w1.frozen? ⟨b, 30, none⟩ = false := HK.out.frozen 30
  have z30 : ∀ o, (w1.alloc o).frozen? ⟨b, 30, none⟩ = false := fun o => (HK.out.alloc o).frozen 30
  have HF : Hid (∃ g' : Nat, ∃ sv' : Value, CpAt ((w1.alloc (.cells room16.toArray 65)).setCell ⟨b, 30, none⟩ (.slice (some ⟨w1.heap.size, 0, none⟩) 0 16)) b (.slice (some ⟨w1.heap.size, 0, none⟩) 0 16) c ∧ Below w.heap.size w ((w1.alloc (.cells room16.toArray 65)).setCell ⟨b, 30, none⟩ (.slice (some ⟨w1.heap.size, 0, none⟩) 0 16)) ∧ g' = b ∧ sv' = Value.slice (some ⟨w1.heap.size, 0, none⟩) 0 16) := Lib.hid (by
    have hr := Blk.new w1 65 room16
    have hne : b ≠ w1.heap.size := by have := HS1.out; omega
    refine ⟨_, _, ⟨?_, ?_⟩, ?_, rfl, rfl⟩
    · have := (HK.out.alloc (.cells room16.toArray 65)).set_ 30 (.slice (some ⟨w1.heap.size, 0, none⟩) 0 16)
      exact this
    · rw [HST.out]
      have hr2 : Blk ((w1.alloc (.cells room16.toArray 65)).setCell ⟨b, 30, none⟩ (.slice (some ⟨w1.heap.size, 0, none⟩) 0 16)) w1.heap.size 65 room16 := hr.far (by show w1.heap.size ≠ b; omega) _
      exact ⟨rfl, .inr ⟨w1.heap.size, 16, room16.toArray, rfl, Nat.zero_le _, hr2, Nat.zero_le _, by decide, rfl, rfl⟩⟩
    · refine Below.setCell (HBE.out.alloc HBE.out.size _) ?_ _
      show w.heap.size ≤ b
      rw [HB.out]; exact Nat.le_refl _)
  have HBS : Hid (w.heap.size ≤ b ∧ w.heap.size ≤ w1.heap.size) := Lib.hid ⟨by rw [HB.out]; exact Nat.le_refl _, HBE.out.size⟩
  cases A with
  | none =>
    have := HAN.out rfl
    obtain ⟨-, rfl⟩ := this
    go_region_law (fail)
    all_goals
      go_wp2
      go_ret
      obtain ⟨g', sv', hat, hbel, -, -⟩ := HF.out
      exact ⟨b, .slice (some ⟨w1.heap.size, 0, none⟩) 0 16, rfl, ⟨hat.blk, hat.own⟩, HBS.out.1, fun k hk => (by injection hk with hk; rw [← hk]; exact HBS.out.2), by first | exact hbel | exact hbel.drew⟩
  | some ad =>
    go_region_law (fail)
    all_goals
      go_wp2
      go_ret
      obtain ⟨g', sv', hat, hbel, -, -⟩ := HF.out
      exact ⟨b, .slice (some ⟨w1.heap.size, 0, none⟩) 0 16, rfl, ⟨hat.blk, hat.own⟩, HBS.out.1, fun k hk => (by injection hk with hk; rw [← hk]; exact HBS.out.2), by first | exact hbel | exact hbel.drew⟩
end Go.Proofs.YtbhpmnhlmeglcaaGreat
