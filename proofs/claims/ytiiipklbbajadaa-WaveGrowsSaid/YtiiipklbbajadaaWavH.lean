/- wave: a block 16 as one 17. -/
import Derived.Test.YtiiipklbbajadaaWavJ
namespace Go.Proofs.Ytiiipklbbajadaa
set_option linter.unusedSimpArgs false
set_option linter.unusedVariables false
open Go.RowKit
/-- the usual numbers -/
def stdCells (cs : List Value) (co : Int) : List Value := ((((((cs.set 2 (.int .i64 2168)).set 3 (.int .i64 667)).set 4 (.int .i64 735)).set 5 (.int .i64 855)).set 6 (.int .i64 1710)).set 9 (.int .i64 8)).set 8 (.int .i64 co)
theorem stdCells_len (cs : List Value) (co : Int) : (stdCells cs co).length = cs.length := by simp [stdCells]
theorem stdCells_set (cs : List Value) (co co2 : Int) : (stdCells cs co).set 8 (.int .i64 co2) = stdCells cs co2 := by simp [stdCells]
structure StdIn (cs : List Value) (A : Option Addr) (n c : Nat) : Prop where
  len : cs.length = 18
  one : ∀ v ∈ cs, v.oneCell' = true
  data : cs[12]? = some (.slice A n c)
theorem StdIn.get {cs : List Value} {A : Option Addr} {n c : Nat} (h : StdIn cs A n c) {w : World} {g : Nat} {t : TypeId} (hb : Blk w g t cs) (i : Nat) (hi : i < 18) : ∃ v, w.cell? ⟨g, i, none⟩ = some v :=
  ⟨_, (hb.cell i).trans (List.getElem?_eq_getElem (by rw [h.len]; exact hi))⟩
theorem one_set {cs : List Value} (h : ∀ v ∈ cs, v.oneCell' = true) (i : Nat) (x : Value) (hx : x.oneCell' = true) : ∀ v ∈ cs.set i x, v.oneCell' = true := fun v hv => by
  rcases List.mem_or_eq_of_mem_set hv with h1 | h1
  · exact h v h1
  · rw [h1]; exact hx
theorem StdIn.one_std {cs : List Value} {A : Option Addr} {n c : Nat} (h : StdIn cs A n c) (co : Int) : ∀ v ∈ stdCells cs co, v.oneCell' = true :=
  one_set (one_set (one_set (one_set (one_set (one_set (one_set h.one _ _ rfl) _ _ rfl) _ _ rfl) _ _ rfl) _ _ rfl) _ _ rfl) _ _ rfl
def StdP (cs : List Value) (co : Int) (u : World) (e : Ending) (u' : World) : Prop := e = .returned (.agg (stdCells cs co).toArray) ∧ Below u.heap.size u u'
set_option maxRecDepth 100000 in
set_option maxHeartbeats 2000000 in
theorem wv_std (cs : List Value) (A : Option Addr) (n c : Nat) (D : List Int) (h : StdIn cs A n c) (u : World) (hi : Ints u A .u8 D) (hn : D.length = n) :
    Calls Try.prog 13 #[.agg cs.toArray] u (StdP cs (if 128 ≤ D.getD 0 0 then 3223 else 8063) u) := by
  have H := Lib.hid h; have HI := Lib.hid hi; have HN := Lib.hid hn
  obtain ⟨CS, hCS⟩ : ∃ CS, CS = cs.toArray := ⟨_, rfl⟩
  have HCS := Lib.hid hCS
  rw [← hCS]
  clear hCS hi hn h
  go_enter Try.func13, Try.ntmps13
  go_upto_region 1 with fail
  generalize hw1 : World.alloc (World.alloc u _) _ = w1
  have HB1 : Hid (Blk w1 u.heap.size 30 cs) := by show Blk _ _ _ _; rw [← hw1, HCS.out]; exact blk_alloc2_old u _ _ _
  obtain ⟨Z, HZ, HZ2⟩ : ∃ Z : List Value, Hid (Blk w1 (u.heap.size + 1) 30 Z) ∧ Hid (Z.length = 18) := ⟨_, by show Blk _ _ _ _; rw [← hw1]; exact blk_alloc2_new u _ _ _, by show _ = _; kernel_rfl⟩
  have HBW : Hid (Below u.heap.size u w1) := by show Below _ _ _; rw [← hw1]; exact ((Below.refl _ u).alloc (Nat.le_refl _) _).alloc (by simp) _
  clear hw1
  obtain ⟨v2, c2⟩ := H.out.get HB1.out 2 (by decide)
  obtain ⟨v3, c3⟩ := H.out.get HB1.out 3 (by decide)
  obtain ⟨v4, c4⟩ := H.out.get HB1.out 4 (by decide)
  obtain ⟨v5, c5⟩ := H.out.get HB1.out 5 (by decide)
  obtain ⟨v6, c6⟩ := H.out.get HB1.out 6 (by decide)
  obtain ⟨v9, c9⟩ := H.out.get HB1.out 9 (by decide)
  obtain ⟨v8, c8⟩ := H.out.get HB1.out 8 (by decide)
  have c12 : w1.cell? ⟨u.heap.size, 12, none⟩ = some (.slice A n c) := (HB1.out.cell 12).trans H.out.data
  have f2 := HB1.out.frozen 2
  have f3 := HB1.out.frozen 3
  have f4 := HB1.out.frozen 4
  have f5 := HB1.out.frozen 5
  have f6 := HB1.out.frozen 6
  have f8 := HB1.out.frozen 8
  have f9 := HB1.out.frozen 9
  go_upto_region 2 with fail
  generalize hw2 : World.setCell (World.setCell (World.setCell (World.setCell (World.setCell (World.setCell (World.setCell w1 _ _) _ _) _ _) _ _) _ _) _ _) _ _ = w2
  have HB2 : Hid (Blk w2 u.heap.size 30 (stdCells cs 8063)) := by
    show Blk _ _ _ _
    rw [← hw2]
    unfold stdCells
    refine Blk.set_ ?_ 8 _
    refine Blk.set_ ?_ 9 _
    refine Blk.set_ ?_ 6 _
    refine Blk.set_ ?_ 5 _
    refine Blk.set_ ?_ 4 _
    refine Blk.set_ ?_ 3 _
    exact Blk.set_ HB1.out 2 _
  have hne : u.heap.size + 1 ≠ u.heap.size := Nat.succ_ne_self _
  have HZ' : Hid (Blk w2 (u.heap.size + 1) 30 Z) := by
    show Blk _ _ _ _
    rw [← hw2]
    refine Blk.far ?_ hne _
    refine Blk.far ?_ hne _
    refine Blk.far ?_ hne _
    refine Blk.far ?_ hne _
    refine Blk.far ?_ hne _
    refine Blk.far ?_ hne _
    exact Blk.far HZ.out hne _
  have HBW' : Hid (Below u.heap.size u w2) := by
    show Below _ _ _
    rw [← hw2]
    repeat (with_reducible refine Below.setCell ?_ (by simp) _)
    exact HBW.out
  clear hw2 c2 c3 c4 c5 c6 c9 c8 c12 f2 f3 f4 f5 f6 f8 f9
  have c12 : w2.cell? ⟨u.heap.size, 12, none⟩ = some (.slice A n c) := (HB2.out.cell 12).trans (by rw [← H.out.data]; simp [stdCells])
  obtain ⟨v8, c8⟩ : ∃ v, w2.cell? ⟨u.heap.size, 8, none⟩ = some v := ⟨_, (HB2.out.cell 8).trans (List.getElem?_eq_getElem (by rw [stdCells_len, H.out.len]; decide))⟩
  have f8 := HB2.out.frozen 8
  have HSZ : Hid (∀ co, (Try.prog.info? 30).map (·.size) = some (stdCells cs co).toArray.size) := fun co => by rw [infoBlkN]; simp [stdCells_len, H.out.len]
  have HZS : Hid (∀ co, Z.toArray.size = (stdCells cs co).toArray.size) := fun co => by simp [stdCells_len, H.out.len, HZ2.out]
  have HONE : Hid (∀ co, (stdCells cs co).toArray.all (·.oneCell') = true) := fun co => all_oneCell_toArray (H.out.one_std co)
  clear HB1 HBW HZ H
  cases D with
  | nil =>
    obtain rfl : n = 0 := by have := HN.out; simp at this; exact this.symm
    go_upto_region 4 with fail
    rw [show (if (128 : Int) ≤ [].getD 0 0 then (3223 : Int) else 8063) = 8063 from rfl]
    clear c12 c8 f8 hne
    go_wp2_with (first
      | (refine wpList_load_row rfl 30 (.tmp 1) rfl u.heap.size rfl 30 _ (0, 0) _ HB2.out Try.underlying30 rfl (HSZ.out 8063) ?_)
      | (refine wpList_store_rowTo rfl 30 (.tmp 2) (.tmp 22) rfl rfl (u.heap.size + 1) (stdCells cs 8063).toArray rfl rfl 30 _ HZ'.out (HSZ.out 8063) (HZS.out 8063) (HONE.out 8063) ?_))
    exact bodyPost_ret (results_cell_row rfl _ _ (u.heap.size + 1) 30 _ (0, 0) _ rfl (HZ'.out.setRow _) Try.underlying30 rfl (HSZ.out 8063)) rfl ⟨rfl, below_setRow HBW'.out (Nat.le_succ _) _⟩
  | cons x D =>
    obtain ⟨ad, rfl, hc⟩ := HI.out 0 (.int .u8 x) (by simp)
    have hc0 : u.cell? ad = some (.int .u8 x) := by simpa [Addr.add] using hc
    have hc' : w2.cell? ad = some (.int .u8 x) := (HBW'.out.cell (block_lt_of_cell hc0)).trans hc0
    have hgn : 0 < n := by rw [← HN.out]; simp
    have hgt : (0 : Int) < n := by omega
    clear hc hc0
    by_cases hx : 128 ≤ x
    · go_upto_region 4 with fail
      rw [show (if (128 : Int) ≤ (x :: D).getD 0 0 then (3223 : Int) else 8063) = 3223 by simp [hx]]
      generalize hw3 : World.setCell w2 _ _ = w3
      have HB3 : Hid (Blk w3 u.heap.size 30 (stdCells cs 3223)) := by
        show Blk _ _ _ _
        rw [← hw3, ← stdCells_set cs 8063 3223]
        exact Blk.set_ HB2.out 8 _
      have HZ3 : Hid (Blk w3 (u.heap.size + 1) 30 Z) := by
        show Blk _ _ _ _
        rw [← hw3]
        exact Blk.far HZ'.out hne _
      have HBW3 : Hid (Below u.heap.size u w3) := by
        show Below _ _ _
        rw [← hw3]
        exact Below.setCell HBW'.out (by simp) _
      clear hw3 c12 c8 f8 hc' hne
      go_wp2_with (first
        | (refine wpList_load_row rfl 30 (.tmp 1) rfl u.heap.size rfl 30 _ (0, 0) _ HB3.out Try.underlying30 rfl (HSZ.out 3223) ?_)
        | (refine wpList_store_rowTo rfl 30 (.tmp 2) (.tmp 22) rfl rfl (u.heap.size + 1) (stdCells cs 3223).toArray rfl rfl 30 _ HZ3.out (HSZ.out 3223) (HZS.out 3223) (HONE.out 3223) ?_))
      exact bodyPost_ret (results_cell_row rfl _ _ (u.heap.size + 1) 30 _ (0, 0) _ rfl (HZ3.out.setRow _) Try.underlying30 rfl (HSZ.out 3223)) rfl ⟨rfl, below_setRow HBW3.out (Nat.le_succ _) _⟩
    · go_upto_region 4 with fail
      rw [show (if (128 : Int) ≤ (x :: D).getD 0 0 then (3223 : Int) else 8063) = 8063 by simp [hx]]
      clear c12 c8 f8 hc' hne
      go_wp2_with (first
        | (refine wpList_load_row rfl 30 (.tmp 1) rfl u.heap.size rfl 30 _ (0, 0) _ HB2.out Try.underlying30 rfl (HSZ.out 8063) ?_)
        | (refine wpList_store_rowTo rfl 30 (.tmp 2) (.tmp 22) rfl rfl (u.heap.size + 1) (stdCells cs 8063).toArray rfl rfl 30 _ HZ'.out (HSZ.out 8063) (HZS.out 8063) (HONE.out 8063) ?_))
      exact bodyPost_ret (results_cell_row rfl _ _ (u.heap.size + 1) 30 _ (0, 0) _ rfl (HZ'.out.setRow _) Try.underlying30 rfl (HSZ.out 8063)) rfl ⟨rfl, below_setRow HBW'.out (Nat.le_succ _) _⟩
end Go.Proofs.Ytiiipklbbajadaa
