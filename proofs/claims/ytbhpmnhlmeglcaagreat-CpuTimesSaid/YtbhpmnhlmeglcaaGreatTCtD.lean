/- CpuTimes: filled, right. -/
import Derived.Test.YtbhpmnhlmeglcaaGreatTCtC
import Derived.Test.YtbhpmnhlmeglcaaGreatTBuU
import Derived.Test.YtbhpmnhlmeglcaaGreatTBuQ2
import Derived.Deep.DeepCutAuto
namespace Go.Proofs.YtbhpmnhlmeglcaaGreat
set_option linter.unusedSimpArgs false
set_option linter.unusedVariables false
open Go.RowKit
/-- a case's cells -/
structure CaseIs (w : World) (C : List Value) (r : Rg) (n : Nat) : Prop where
  (len : C.length = 37) (ok : r.Ok) (regs : ∀ (j : Nat) (v : Value), r.cells[j]? = some v → C[j]? = some v)
  code : ∃ A c l, C[30]? = some (.slice A n c) ∧ List.length l = n ∧ Ints w A .u8 l ∧ ∀ x ∈ l, B8 x
  fill : ∀ k : Nat, k < 5 → ∃ x, C[31 + k]? = some (.int .u8 x)
def FillP (w : World) (e : Ending) (w' : World) : Prop := ∃ m : List Int, m.length = 65536 ∧ AllM m ∧ e = .returned (.agg (m.map (Value.int .u8)).toArray) ∧ Below w.heap.size w w'
def MemR (b : Nat) (w3 : World) (m : List Int) (wr : World) : Prop := Blk wr b 32 (m.map (.int .u8)) ∧ m.length = 65536 ∧ AllM m ∧ Only b w3 wr
theorem MemR.cell {b : Nat} {w3 wr : World} {m : List Int} (h : MemR b w3 m wr) (i : Nat) (hi : i < 65536) : ∃ x, wr.cell? ⟨b, i, none⟩ = some (.int .u8 x) := by
  have := h.1.cell i
  rw [List.getElem?_map, List.getElem?_eq_getElem (by rw [h.2.1]; exact hi)] at this
  exact ⟨_, this⟩
theorem MemR.set_ {b : Nat} {w3 wr : World} {m : List Int} (h : MemR b w3 m wr) (i : Nat) (v : Int) (hv : B8 v) : MemR b w3 (m.set i v) (wr.setCell ⟨b, i, none⟩ (.int .u8 v)) := by
  refine ⟨?_, by rw [List.length_set]; exact h.2.1, h.2.2.1.set_ _ _ hv, h.2.2.2.trans (Only.set b i wr _)⟩
  have := h.1.set_ i (.int .u8 v)
  rw [← List.map_set] at this
  exact this
theorem MemR.drew {b : Nat} {w3 wr : World} {m : List Int} (h : MemR b w3 m wr) : MemR b w3 m wr.drew := ⟨h.1.drew, h.2.1, h.2.2.1, h.2.2.2.drew⟩
set_option maxRecDepth 100000 in
set_option maxHeartbeats 8000000 in
theorem filled_any (C : List Value) (r : Rg) (n : Nat) (w : World) (h : CaseIs w C r n) (hn : n ≤ 100) : Calls Tryz.prog 9 #[.agg C.toArray] w (FillP w) := by
  obtain ⟨Z, hZ, hZc⟩ := zero_bytesM
  have HZ := Lib.hid hZ
  obtain ⟨b, hb⟩ : ∃ b, b = w.heap.size := ⟨_, rfl⟩
  obtain ⟨A, c, l, hc30, hln, hints, hl8⟩ := h.code
  obtain ⟨w1, hw1⟩ : ∃ w1, w1 = w.alloc (.cells C.toArray 28) := ⟨_, rfl⟩
  have hs1 : w1.heap.size = b + 1 := by rw [hw1, hb]; simp
  have hB1 : Blk w1 b 28 C := by rw [hw1, hb]; exact Blk.new w _ _
  obtain ⟨w2, hw2⟩ : ∃ w2, w2 = w1.alloc (.cells Z.cells 32) := ⟨_, rfl⟩
  have hs2 : w2.heap.size = b + 2 := by rw [hw2]; simp; omega
  obtain ⟨w3, hw3⟩ : ∃ w3, w3 = w2.alloc (.cells Z.cells 32) := ⟨_, rfl⟩
  have hs3 : w3.heap.size = b + 3 := by rw [hw3]; simp; omega
  have hbel : Below w.heap.size w w3 := by
    rw [hw3, hw2, hw1]
    exact (((Below.refl _ w).alloc (Nat.le_refl _) _).alloc (by simp) _).alloc (by simp; omega) _
  have hC3 : Blk w3 b 28 C := by rw [hw3, hw2]; exact (hB1.alloc _).alloc _
  have hR3 : Blk w3 (b + 1) 32 (m0.map (Value.int .u8)) := by
    rw [hw3, hw2, hZc, ← hs1]
    exact (Blk.new w1 _ _).alloc _
  have hM3 : MemR (b + 2) w3 m0 w3 := ⟨by rw [hw3, hZc, ← hs2]; exact Blk.new w2 _ _, List.length_replicate, m0_all, Only.refl _ _⟩
  have HC3 := Lib.hid hC3; have HR3 := Lib.hid hR3; have HM3 := Lib.hid hM3; have HB3 := Lib.hid hbel
  have HW1 := Lib.hid hw1; have HW2 := Lib.hid hw2; have HW3 := Lib.hid hw3
  have HS1 := Lib.hid hs1; have HS2 := Lib.hid hs2; have HS3 := Lib.hid hs3
  have HH := Lib.hid h; have HBB := Lib.hid hb
  have HL := Lib.hid hln
  have HIW : Hid (∀ u, Below w.heap.size w u → Ints u A .u8 l) := Lib.hid (fun u hu => hints.below hu)
  have BEQ : Hid (b = w.heap.size) := Lib.hid hb
  have HL8 := Lib.hid hl8
  have HC30 := Lib.hid hc30
  clear hZ hZc hw1 hw2 hw3 hs1 hs2 hs3 hB1 hbel hC3 hR3 hM3 h hb hln hints hl8 hc30
  go_enter Tryz.func9, Tryz.ntmps9
  go_upto_region 2 with (first
    | (refine Great.wpList_boxTo rfl 28 (.tmp 0) rfl (some 1) rfl b HBB.out.symm C.toArray rfl ?_; rw [← HW1.out])
    | (refine wpList_allocTo rfl 32 rfl (some 2) rfl (b + 1) HS1.out Z HZ.out ?_; rw [← HW2.out])
    | (refine wpList_allocTo rfl 32 rfl (some 3) rfl (b + 2) HS2.out Z HZ.out ?_; rw [← HW3.out]))
  clear HW1 HW2 HW3 HZ
  go_wp2_with fail
  go_loopw [4] (fun v wr => ∃ (i : Nat) (m : List Int), v = .int .i64 i ∧ i ≤ 65536 ∧ MemR (b + 2) w3 m wr) (fun v _ => 65536 - (intOf v).toNat)
  case atStart => exact ⟨0, m0, rfl, Nat.zero_le _, HM3.out⟩
  case round =>
    obtain ⟨i, m, rfl, hi, hm⟩ := hrel
    have HM := Lib.hid hm
    have HCr : Hid (Blk wr b 28 C) := Lib.hid ((Only.ch hm.2.2.2).blk HC3.out (by omega))
    by_cases hlt : i < 65536
    · obtain ⟨x, hx⟩ := hm.cell i hlt
      have hz := hm.1.frozen i
      obtain ⟨q, hq⟩ : ∃ q : Nat, q = i % 5 := ⟨_, rfl⟩
      have hq5 : q < 5 := by omega
      obtain ⟨y, hy⟩ := HH.out.fill q hq5
      have hcy : wr.cell? ⟨b, 31 + q, none⟩ = some (.int .u8 y) := (HCr.out.cell (31 + q)).trans hy
      have hi2 : (i : Int) < 65536 := by omega
      have hq2 : (q : Int) < 5 := by omega
      have ht : Int.tmod (i : Int) 5 = (q : Int) := by rw [Int.tmod_eq_emod_of_nonneg (by omega)]; omega
      clear hm hy hq
      go_wp2_with fail
      go_roundw
      case rel => exact ⟨i + 1, m.set i _, by go_num, by omega, HM.out.set_ i _ ⟨by omega, by omega⟩⟩
      case measure => simp [intOf]; omega
    · have hge : ¬ (i : Int) < 65536 := by omega
      clear hlt hi hm
      obtain ⟨wo, hwo⟩ : ∃ wo : World, wo = wr := ⟨_, rfl⟩
      rw [← hwo] at HM ⊢
      clear HCr hwo
      go_wp2_with fail
      go_loopw [5] (fun v wq => ∃ (j : Nat) (m : List Int), v = .int .i64 j ∧ j ≤ n ∧ MemR (b + 2) w3 m wq) (fun v _ => n - (intOf v).toNat)
      case atStart => exact ⟨0, m, rfl, Nat.zero_le _, HM.out⟩
      case round =>
        obtain ⟨j, m1, rfl, hj, hm⟩ := hrel
        have HM1 := Lib.hid hm
        have hC : Blk wr b 28 C := (Only.ch hm.2.2.2).blk HC3.out (by omega)
        have HCr := Lib.hid hC
        have c30 : wr.cell? ⟨b, 30, none⟩ = some (.slice A n c) := (hC.cell 30).trans HC30.out
        have c22 : wr.cell? ⟨b, 22, none⟩ = some (.int .u16 r.pc) := (hC.cell 22).trans (HH.out.regs 22 _ rfl)
        clear hC
        by_cases hlt : j < n
        · obtain ⟨z, hz⟩ : ∃ x, l[j]? = some x := ⟨_, List.getElem?_eq_getElem (by rw [HL.out]; exact hlt)⟩
          have hbz : B8 z := HL8.out z (List.mem_of_getElem? hz)
          have HBZ := Lib.hid hbz
          have hbw : Below w.heap.size w3 wr := (Only.ch hm.2.2.2).below' (by have := HB3.out.size; omega) (fun k _ hk => by rw [hk, BEQ.out]; omega)
          obtain ⟨ad, rfl, hcz⟩ := HIW.out wr (HB3.out.trans hbw) j (.int .u8 z) (by simp [hz])
          obtain ⟨p0, p1⟩ := HH.out.ok.pc
          obtain ⟨q, hq⟩ : ∃ q : Nat, (r.pc + j) % 65536 = q := ⟨((r.pc + j) % 65536).toNat, by omega⟩
          have hq6 : q < 65536 := by omega
          have v1 : IntKind.i64.wrap (r.pc + j) = r.pc + j := by rw [IntKind.wrap_i64]; omega
          have v0 : IntKind.i64.wrap r.pc = r.pc := by rw [IntKind.wrap_i64]; omega
          have ht : Int.tmod (r.pc + j) 65536 = (q : Int) := by rw [Int.tmod_eq_emod_of_nonneg (by omega)]; exact hq
          have hq7 : (q : Int) < 65536 := by omega
          obtain ⟨y, hy⟩ := hm.cell q hq6
          have hzf := hm.1.frozen q
          have hlt2 : (j : Int) < n := by omega
          clear hm hz hbz hbw hq
          go_upto_region 9 with fail
          go_region
          go_wp2_with fail
          go_roundw
          case rel => exact ⟨j + 1, m1.set q _, by go_num, by omega, (HM1.out.set_ q _ HBZ.out).drew⟩
          case measure => simp [intOf]; omega
        · have hlt2 : ¬ (j : Int) < n := by omega
          have hbw : Below w.heap.size w3 wr := (Only.ch hm.2.2.2).below' (by have := HB3.out.size; omega) (fun k _ hk => by rw [hk, BEQ.out]; omega)
          have HBW : Hid (Below w.heap.size w wr) := Lib.hid (HB3.out.trans hbw)
          have hml : (m1.map (Value.int .u8)).length = 65536 := by rw [List.length_map]; exact hm.2.1
          obtain ⟨ms, hms⟩ : ∃ ms, ms = m1.map (Value.int .u8) := ⟨_, rfl⟩
          have HMS := Lib.hid hms
          have hrow : wr.heap[b + 2]? = some (.cells ms.toArray 32 (0, 0)) := by rw [hms]; exact hm.1
          have hres : wr.heap[b + 1]? = some (.cells (m0.map (Value.int .u8)).toArray 32 (0, 0)) := (Only.ch hm.2.2.2).blk HR3.out (by omega)
          have hsz : (Tryz.prog.info? 32).map (·.size) = some ms.toArray.size := by rw [info_bytes]; simp; rw [hms]; exact hml.symm
          have hold : (m0.map (Value.int .u8)).toArray.size = ms.toArray.size := by
            have : m0.length = 65536 := List.length_replicate
            rw [List.size_toArray, List.size_toArray, List.length_map, this, hms]; exact hml.symm
          have hone : ms.toArray.all (·.oneCell') = true := by rw [hms]; simp [Value.oneCell']
          have HROW := Lib.hid hrow; have HRES := Lib.hid hres; have HSZ := Lib.hid hsz; have HOLD := Lib.hid hold; have HONE := Lib.hid hone
          generalize m0.map (Value.int .u8) = mz at HRES HOLD
          clear hlt hm hbw hml hms hrow hres hsz hold hone
          go_wp2_with (first
            | (refine wpList_load_row rfl 32 (.tmp 3) rfl (b + 2) rfl 32 ms.toArray (0, 0) _ HROW.out Tryz.underlying32 rfl HSZ.out ?_)
            | (refine wpList_store_rowTo rfl 32 (.tmp 2) (.tmp 41) rfl rfl (b + 1) ms.toArray rfl rfl 32 mz.toArray HRES.out HSZ.out HOLD.out HONE.out ?_))
          have hfin : (wr.setRow (b + 1) ms.toArray).heap[b + 1]? = some (.cells ms.toArray 32 (0, 0)) := setRow_heap wr (b + 1) _ _ _ _ HRES.out
          refine bodyPost_ret (results_cell_row rfl _ _ (b + 1) 32 ms.toArray (0, 0) _ rfl hfin Tryz.underlying32 rfl HSZ.out) rfl ?_
          exact ⟨m1, HM1.out.2.1, HM1.out.2.2.1, by rw [HMS.out], below_setRow HBW.out (by have := BEQ.out; omega) _⟩
end Go.Proofs.YtbhpmnhlmeglcaaGreat
