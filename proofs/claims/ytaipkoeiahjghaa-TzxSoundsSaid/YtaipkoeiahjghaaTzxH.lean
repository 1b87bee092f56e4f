/- The parser at the chapter's example: one block. -/
import Derived.Test.YtaipkoeiahjghaaTzxG
import Derived.Test.YtaipkoeiahjghaaMemG
import Derived.Deep.DrawnRows
import Derived.Test.YtaipkoeiahjghaaUnt
namespace Go.Proofs.Ytaipkoeiahjghaa
set_option linter.unusedSimpArgs false
set_option linter.unusedVariables false
open Go.RowKit
attribute [local go_sem ↓] Go.wp_at_zero Go.wp_at_succ
set_option maxRecDepth 100000 in
set_option maxHeartbeats 1000000 in
theorem sound37 (P R b : Nat) (at_ : Int) (x y : Value) (w : World) (hp : Blk w P 65 [.pointer (some ⟨R, 0, none⟩), x, y]) (hb : w.cell? ⟨b, 0, none⟩ = some (.int .i64 37)) :
    Calls Try.prog 31 #[.pointer (some ⟨P, 0, none⟩), .pointer (some ⟨b, 0, none⟩), .int .i64 at_] w fun e w' => e = .returned (.bool false) ∧ w = w' := by
  have h0 : w.cell? ⟨P, 0, none⟩ = some (.pointer (some ⟨R, 0, none⟩)) := hp.cell 0
  clear hp
  go_enter Try.func31, Try.ntmps31
  go_wp2_with fail
  go_ret
  exact ⟨rfl, rfl⟩
set_option maxRecDepth 100000 in
set_option maxHeartbeats 1000000 in
theorem leads37 (P R b : Nat) (at_ : Int) (x y : Value) (w : World) (hp : Blk w P 65 [.pointer (some ⟨R, 0, none⟩), x, y]) (hb : w.cell? ⟨b, 0, none⟩ = some (.int .i64 37)) :
    Calls Try.prog 32 #[.pointer (some ⟨P, 0, none⟩), .pointer (some ⟨b, 0, none⟩), .int .i64 at_] w fun e w' => e = .returned (.bool true) ∧ w' = w.alloc (.cells #[.pointer (some ⟨R, 0, none⟩)] 62) := by
  have h0 : w.cell? ⟨P, 0, none⟩ = some (.pointer (some ⟨R, 0, none⟩)) := hp.cell 0
  have hb2 : (w.alloc (.cells #[.pointer (some ⟨R, 0, none⟩)] 62)).cell? ⟨b, 0, none⟩ = some (.int .i64 37) := (((Below.refl _ w).alloc (Nat.le_refl _) _).cell (block_lt_of_cell hb)).trans hb
  clear hp
  go_enter Try.func32, Try.ntmps32
  go_wp2_with fail
  go_ret
  exact ⟨rfl, rfl⟩
/-- all but two blocks is as it was -/
structure Kept2 (P R : Nat) (w w' : World) : Prop where
  os : w'.os = w.os
  tape : w'.tape = w.tape
  output : w'.output = w.output
  size : w.heap.size ≤ w'.heap.size
  block : ∀ k, k < w.heap.size → k ≠ P → k ≠ R → w'.heap[k]? = w.heap[k]?
/-- a block's load, under one name -/
def IsLDB (LD : Nat → World → Result Value) : Prop := ∀ (g : Nat) (u : World), (loadVar 30 ⟨g, 0, none⟩).run Try.prog u = LD g u
theorem some_LDB : ∃ LD, IsLDB LD := ⟨fun g u => (loadVar 30 ⟨g, 0, none⟩).run Try.prog u, fun _ _ => rfl⟩
theorem LDB_of {LD : Nat → World → Result Value} (hl : IsLDB LD) {w : World} {g : Nat} {C : Array Value} (hs : some 18 = some C.size) (h : w.heap[g]? = some (.cells C 30 (0, 0))) : LD g w = .ok (.agg C) w :=
  (hl g w).symm.trans (run_loadVar_row (P := Try.prog) w g 30 30 C (0, 0) _ h Try.underlying30 rfl (infoBlk.trans hs))
theorem infoBlock : (Try.prog.info? 30).map (fun i => (i.zero, i.size, i.bytes)) = some (some (.agg #[.int .i64 0, .int .i64 0, .int .i64 0, .int .i64 0, .int .i64 0, .int .i64 0, .int .i64 0, .int .i64 0, .int .i64 0, .int .i64 0, .int .i64 0, .int .i64 0, .slice none 0 0, .slice none 0 0, .slice none 0 0, .slice none 0 0, .slice none 0 0, .slice none 0 0]), 18, 240) := by kernel_rfl
def blk37 : List Value := blkRow 37 (.slice none 0 0) (.slice none 0 0)
set_option maxRecDepth 100000 in
set_option maxHeartbeats 2000000 in
theorem build37 (u : World) : (Instr.buildSlice 24 1 #[(0, .agg #[.int .i64 37, .int .i64 0, .int .i64 0, .int .i64 0, .int .i64 0, .int .i64 0, .int .i64 0, .int .i64 0, .int .i64 0, .int .i64 0, .int .i64 0, .int .i64 0, .slice none 0 0, .slice none 0 0, .slice none 0 0, .slice none 0 0, .slice none 0 0, .slice none 0 0])]).run Try.prog u = .ok (.slice (some ⟨u.heap.size, 0, none⟩) 1 1) (u.alloc (.cells #[.int .i64 37, .int .i64 0, .int .i64 0, .int .i64 0, .int .i64 0, .int .i64 0, .int .i64 0, .int .i64 0, .int .i64 0, .int .i64 0, .int .i64 0, .int .i64 0, .slice none 0 0, .slice none 0 0, .slice none 0 0, .slice none 0 0, .slice none 0 0, .slice none 0 0] 30)) := by
  obtain ⟨i0, hi, hz0, hz1, hz2⟩ := info_parts infoBlock
  refine run_buildSlice u 24 30 1 _ #[.int .i64 37, .int .i64 0, .int .i64 0, .int .i64 0, .int .i64 0, .int .i64 0, .int .i64 0, .int .i64 0, .int .i64 0, .int .i64 0, .int .i64 0, .int .i64 0, .slice none 0 0, .slice none 0 0, .slice none 0 0, .slice none 0 0, .slice none 0 0, .slice none 0 0] i0 _ Try.underlying24 hi hz0 (by rw [hz1]; decide) (by rw [hz1]; decide) ?_
  rw [hz1]
  kernel_rfl
/-- one block was read -/
def Block37P (P R : Nat) (A : Addr) (n c k : Nat) (w : World) (e : Ending) (w' : World) : Prop := ∃ gb cb gs cs : Nat, e = .returned (.tuple #[]) ∧ Blk w' P 65 [.pointer (some ⟨R, 0, none⟩), .slice (some ⟨gb, 0, none⟩) 1 cb, .slice (some ⟨gs, 0, none⟩) 1 cs] ∧ Rdr w' R (some A) n c (k + 1) ∧ w'.rangeAt gb 0 blk37 ∧ w'.cell? ⟨gs, 0, none⟩ = some (.int .i64 k) ∧ Kept2 P R w w'
theorem own_range {w : World} {base g n c : Nat} {e : TypeId} {size : Nat} {xs : List Value} (h : w.ownsRow base e size (.slice (some ⟨g, 0, none⟩) n c) n xs) : w.rangeAt g 0 xs ∧ base ≤ g ∧ g < w.heap.size := by
  refine ⟨fun j v hj => ?_, (h.lt g rfl).1, (h.lt g rfl).2⟩
  have := h.cells (g := g) rfl j v hj
  rw [Addr.add_mid] at this
  exact this
theorem rangeAt_far {w : World} {g o : Nat} {cs : List Value} {p : Addr} {u : Value} (h : w.rangeAt g o cs) (hp : g ≠ p.block) : (w.setCell p u).rangeAt g o cs := fun j v hj => by
  rw [← h j v hj]
  exact World.cell?_of_block (Below.heap_setCell w p u g hp)
theorem close37 {P R : Nat} {A : Addr} {n c k gb cb gs cs X Y : Nat} {w w2 w3 wA wB : World}
    (HG2 : w.grownBy w2 (some R)) (HR2 : Rdr w2 R (some A) n c (k + 1)) (HB23 : Below w2.heap.size w2 w3) (HBB : Below w3.heap.size w3 wB) (HAB : Below wA.heap.size wA wB) (HBA : Below w3.heap.size w3 wA)
    (HPB : Blk wB P 65 [.pointer (some ⟨R, 0, none⟩), .slice none 0 0, .slice none 0 0])
    (HOA : wA.ownsRow X 30 18 (.slice (some ⟨gb, 0, none⟩) 1 cb) 1 blk37) (HOB : wB.ownsRow Y 3 1 (.slice (some ⟨gs, 0, none⟩) 1 cs) 1 [.int .i64 k]) (hX : w3.heap.size ≤ X) (hY : w3.heap.size ≤ Y) (hP : P < w.heap.size) (hPR : P ≠ R) :
    Block37P P R A n c k w (.returned (.tuple #[])) ((wB.setCell ⟨P, 1, none⟩ (.slice (some ⟨gb, 0, none⟩) 1 cb)).setCell ⟨P, 2, none⟩ (.slice (some ⟨gs, 0, none⟩) 1 cs)) := by
  have s1 := HG2.size
  have s2 := HB23.size
  have s3 := HBB.size
  obtain ⟨ra, ga, la⟩ := own_range HOA
  obtain ⟨rb, gb', lb⟩ := own_range HOB
  refine ⟨gb, cb, gs, cs, rfl, (HPB.set_ 1 _).set_ 2 _, ?_, ?_, ?_, ?_⟩
  · exact (((HR2.below_ HB23).below_ HBB).far (Ne.symm hPR) _).far (Ne.symm hPR) _
  · exact rangeAt_far (rangeAt_far (rangeAt_below ra HAB) (by show gb ≠ P; omega)) (by show gb ≠ P; omega)
  · exact (rangeAt_far (rangeAt_far rb (p := ⟨P, 1, none⟩) (u := (.slice (some ⟨gb, 0, none⟩) 1 cb)) (by show gs ≠ P; omega)) (p := ⟨P, 2, none⟩) (by show gs ≠ P; omega)) 0 _ rfl
  · refine ⟨?_, ?_, ?_, ?_, ?_⟩
    · exact HBB.os.trans (HB23.os.trans HG2.os)
    · exact HBB.tape.trans (HB23.tape.trans HG2.tape)
    · exact HBB.output.trans (HB23.output.trans HG2.output)
    · simp; omega
    · intro j hj j1 j2
      rw [Below.heap_setCell _ ⟨P, 2, none⟩ _ j j1, Below.heap_setCell _ ⟨P, 1, none⟩ _ j j1, HBB.block j (by omega), HB23.block j (by omega)]
      exact HG2.block j hj (by intro e; exact j2 (by simpa using e))
set_option maxRecDepth 100000 in
set_option maxHeartbeats 16000000 in
theorem block37 (P R : Nat) (A : Addr) (n c k : Nat) (w : World) (hp : Blk w P 65 [.pointer (some ⟨R, 0, none⟩), .slice none 0 0, .slice none 0 0]) (hr : Rdr w R (some A) n c k) (hl : Ints w (some (A.add k)) .u8 [37]) (hk : k + 1 ≤ n) (hn : n ≤ 1000) (hc : n ≤ c) (hne : A.block ≠ R) (hPR : P ≠ R) :
    Calls Try.prog 27 #[.pointer (some ⟨P, 0, none⟩)] w (Block37P P R A n c k w) := by
  have h0 : w.cell? ⟨P, 0, none⟩ = some (.pointer (some ⟨R, 0, none⟩)) := hp.cell 0
  have HAT := Lib.hid (wireAt_ok R (some A) n c k w hr)
  have HNM := Lib.hid (wireNum_ok R A n c k 1 [37] w hr hl rfl (by intro x hx; simp at hx; omega) hne (by omega) (by omega) hk (by omega) hc)
  have hx : leVal [37] = 37 := by simp [leVal]
  rw [hx] at HNM
  have hPlt := hp.lt
  have HP := Lib.hid hp; have HR := Lib.hid hr
  clear hp hr hl hx
  go_enter Try.func27, Try.ntmps27
  go_wp2_with (first
    | (refine wpList_store_rowTo rfl 30 (.tmp 3) (.tmp 14) rfl rfl w2.heap.size _ rfl rfl 30 _ (heap_alloc_new w2 _) infoBlk (by rfl) (by simp [Value.oneCell']) ?_; rw [World.setRow_alloc_new])
    | (go_at_call 26; refine HAT.out.mono ?_; rintro e w1 ⟨rfl, rfl⟩)
    | (go_at_call 23; refine HNM.out.mono ?_; rintro e w2 ⟨rfl, ht⟩; have HP2 := Lib.hid (HP.out.grown (took_grown ht) (by intro e; exact hPR (by simpa using e))); have HR2 := Lib.hid (took_rdr ht HR.out); have HG2 := Lib.hid (took_grown ht); have b0 : (w2.alloc (.cells blk37.toArray 30)).cell? ⟨w2.heap.size, 0, none⟩ = some (.int .i64 37) := (Blk.new w2 _ blk37).cell 0; have HP3 := Lib.hid (HP2.out.alloc (.cells blk37.toArray 30)); clear ht)
    | (go_at_call 31; refine (sound37 P R w2.heap.size k _ _ _ HP3.out b0).mono ?_; rintro e w3 ⟨rfl, rfl⟩)
    | (go_at_call 32; refine (leads37 P R w2.heap.size k _ _ _ HP3.out b0).mono ?_; rintro e w3 ⟨rfl, hw3⟩; have HW3 := Lib.hid hw3; clear hw3))
  have hb3 : Below (w2.alloc (.cells blk37.toArray 30)).heap.size (w2.alloc (.cells blk37.toArray 30)) w3 := by rw [HW3.out]; exact (Below.refl _ _).alloc (Nat.le_refl _) _
  have HP4 := Lib.hid (HP3.out.below_ hb3)
  have HB23 : Hid (Below w2.heap.size w2 w3) := ((Below.refl _ w2).alloc (Nat.le_refl _) _).trans (hb3.mono (by simp))
  have HB4 := Lib.hid ((Blk.new w2 30 blk37).below_ hb3)
  have p1 : w3.cell? ⟨P, 1, none⟩ = some (.slice none 0 0) := HP4.out.cell 1
  have p2 : w3.cell? ⟨P, 2, none⟩ = some (.slice none 0 0) := HP4.out.cell 2
  have f1 := HP4.out.frozen 1
  have f2 := HP4.out.frozen 2
  obtain ⟨C, hC⟩ : ∃ C : Array Value, C = #[.int .i64 37, .int .i64 0, .int .i64 0, .int .i64 0, .int .i64 0, .int .i64 0, .int .i64 0, .int .i64 0, .int .i64 0, .int .i64 0, .int .i64 0, .int .i64 0, .slice none 0 0, .slice none 0 0, .slice none 0 0, .slice none 0 0, .slice none 0 0, .slice none 0 0] := ⟨_, rfl⟩
  have HB5 : Hid (w3.drew.heap[w2.heap.size]? = some (.cells C 30 (0, 0))) := by show _ = _; rw [hC]; exact HB4.out
  have hsz : some 18 = some C.size := by rw [hC]; rfl
  have HS := Lib.hid hsz
  have HCL : Hid (C.toList = blk37) := by show _ = _; rw [hC]; rfl
  have HC1 : Hid (C.all (·.oneCell') = true) := by show _ = _; rw [hC]; simp [Value.oneCell']
  have hBS : ∀ u : World, (Instr.buildSlice 24 1 #[(0, .agg C)]).run Try.prog u = .ok (.slice (some ⟨u.heap.size, 0, none⟩) 1 1) (u.alloc (.cells C 30)) := by
    intro u
    rw [hC]
    exact build37 u
  simp [go_sem] at hBS
  clear hC hsz hb3 p1 p2 f1 f2
  obtain ⟨LD, hl⟩ := some_LDB
  have HLD := Lib.hid hl
  have hN : ∀ u : World, (loadVar 30 ⟨w2.heap.size, 0, none⟩).run Try.prog u = LD w2.heap.size u := fun u => HLD.out _ u
  simp [go_sem, loadVar] at hN
  clear hl
  refine until_start 18 (fun u => u.cell? ⟨P, 1, none⟩ = some (.slice none 0 0) ∧ u.cell? ⟨P, 2, none⟩ = some (.slice none 0 0) ∧ LD w2.heap.size u = .ok (.agg C) u) (by kernel_rfl) ?_
  have hS : Hid ((fun u : World => u.cell? ⟨P, 1, none⟩ = some (.slice none 0 0) ∧ u.cell? ⟨P, 2, none⟩ = some (.slice none 0 0) ∧ LD w2.heap.size u = .ok (.agg C) u) w3.drew) := ⟨HP4.out.cell 1, HP4.out.cell 2, LDB_of HLD.out HS.out HB5.out⟩
  have HKEEP : Hid (∀ u, Below w3.heap.size w3 u → (fun u : World => u.cell? ⟨P, 1, none⟩ = some (.slice none 0 0) ∧ u.cell? ⟨P, 2, none⟩ = some (.slice none 0 0) ∧ LD w2.heap.size u = .ok (.agg C) u) u) := fun u hu => ⟨(HP4.out.below_ hu).cell 1, (HP4.out.below_ hu).cell 2, LDB_of HLD.out HS.out ((hu.block _ HB4.out.lt).trans HB5.out)⟩
  refine until_take (i := 0) (v := ?_) rfl (by kernel_rfl) (by kernel_rfl) (by kernel_rfl) rfl (fun _ _ _ h => h) (fun _ => hS.out) (Or.inl ⟨by rfl, ?_⟩) ?_
  rotate_left
  · (intro u _; go_simp; try with_reducible rfl)
  try simp only [Act.put, List.setIfInBounds_toArray, List.set_cons_zero, List.set_cons_succ]
  refine until_take (i := 1) (v := ?_) rfl (by kernel_rfl) (by kernel_rfl) (by kernel_rfl) rfl (fun _ _ _ h => h) (fun _ => hS.out) (Or.inl ⟨by rfl, ?_⟩) ?_
  rotate_left
  · (intro u _; go_simp; try with_reducible rfl)
  try simp only [Act.put, List.setIfInBounds_toArray, List.set_cons_zero, List.set_cons_succ]
  refine until_take (i := 2) (v := ?_) rfl (by kernel_rfl) (by kernel_rfl) (by kernel_rfl) rfl (fun _ _ _ h => h) (fun _ => hS.out) (Or.inl ⟨by rfl, ?_⟩) ?_
  rotate_left
  · (intro u _; go_simp; try with_reducible rfl)
  try simp only [Act.put, List.setIfInBounds_toArray, List.set_cons_zero, List.set_cons_succ]
  refine until_take (i := 3) (v := ?_) rfl (by kernel_rfl) (by kernel_rfl) (by kernel_rfl) rfl (fun _ _ _ h => h) (fun _ => hS.out) (Or.inl ⟨by rfl, ?_⟩) ?_
  rotate_left
  · (intro u _; go_simp; try with_reducible rfl)
  try simp only [Act.put, List.setIfInBounds_toArray, List.set_cons_zero, List.set_cons_succ]
  refine until_take (i := 4) (v := ?_) rfl (by kernel_rfl) (by kernel_rfl) (by kernel_rfl) rfl (fun _ _ _ h => h) (fun _ => hS.out) (Or.inl ⟨by rfl, ?_⟩) ?_
  rotate_left
  · (intro u _; go_simp; try with_reducible rfl)
  try simp only [Act.put, List.setIfInBounds_toArray, List.set_cons_zero, List.set_cons_succ]
  refine until_take (i := 9) (v := ?_) rfl (by kernel_rfl) (by kernel_rfl) (by kernel_rfl) rfl (fun _ _ _ h => h) (fun _ => hS.out) (Or.inl ⟨by rfl, ?_⟩) ?_
  rotate_left
  · (intro u _; go_simp; try with_reducible rfl)
  try simp only [Act.put, List.setIfInBounds_toArray, List.set_cons_zero, List.set_cons_succ]
  refine until_take (i := 10) (v := ?_) rfl (by kernel_rfl) (by kernel_rfl) (by kernel_rfl) rfl (fun _ _ _ h => h) (fun _ => hS.out) (Or.inl ⟨by rfl, ?_⟩) ?_
  rotate_left
  · (intro u _; go_simp; try with_reducible rfl)
  try simp only [Act.put, List.setIfInBounds_toArray, List.set_cons_zero, List.set_cons_succ]
  refine until_take (i := 11) (v := ?_) rfl (by kernel_rfl) (by kernel_rfl) (by kernel_rfl) rfl (fun _ _ _ h => h) (fun _ => hS.out) (Or.inl ⟨by rfl, ?_⟩) ?_
  rotate_left
  · (intro u _; go_simp; try with_reducible rfl)
  try simp only [Act.put, List.setIfInBounds_toArray, List.set_cons_zero, List.set_cons_succ]
  refine until_take (i := 13) (v := ?_) rfl (by kernel_rfl) (by kernel_rfl) (by kernel_rfl) rfl (fun _ _ _ h => h) (fun _ => hS.out) (Or.inl ⟨by rfl, ?_⟩) ?_
  rotate_left
  · (intro u _; go_simp; try with_reducible rfl)
  try simp only [Act.put, List.setIfInBounds_toArray, List.set_cons_zero, List.set_cons_succ]
  refine until_load (i := 5) (v := ?_) [8, 18] rfl (by kernel_rfl) (by kernel_rfl) (by kernel_rfl) (by kernel_rfl) (fun _ _ _ h => h) hS.out (Or.inl ⟨by rfl, ?_⟩) ?_
  rotate_left
  · (rintro u ⟨s1, s2, s3⟩; go_simp; try with_reducible rfl)
  try simp only [Act.put, List.setIfInBounds_toArray, List.set_cons_zero, List.set_cons_succ]
  refine until_load (i := 6) (v := ?_) [7, 8, 18] rfl (by kernel_rfl) (by kernel_rfl) (by kernel_rfl) (by kernel_rfl) (fun _ _ _ h => h) hS.out (Or.inl ⟨by rfl, ?_⟩) ?_
  rotate_left
  · (rintro u ⟨s1, s2, s3⟩; go_simp; try with_reducible rfl)
  try simp only [Act.put, List.setIfInBounds_toArray, List.set_cons_zero, List.set_cons_succ]
  refine until_load (i := 12) (v := ?_) [15, 18] rfl (by kernel_rfl) (by kernel_rfl) (by kernel_rfl) (by kernel_rfl) (fun _ _ _ h => h) hS.out (Or.inl ⟨by rfl, ?_⟩) ?_
  rotate_left
  · (rintro u ⟨s1, s2, s3⟩; go_simp; try with_reducible rfl)
  try simp only [Act.put, List.setIfInBounds_toArray, List.set_cons_zero, List.set_cons_succ]

  have HBW : Hid (Below w3.heap.size w3 w3) := Below.refl _ _
  refine until_ready (rs := [7, 14]) (by kernel_rfl) (by simp) ?_
  refine AllUntil.cons rfl (fun K hK => ?_) (AllUntil.cons rfl (fun K hK => ?_) AllUntil.nil)
  · go_simp
    refine hK.out _ _ (fun _ => HKEEP.out _ (by repeat (first | exact HBW.out | exact Below.refl _ _ | refine Below.drew ?_ | refine Below.alloc ?_ (by first | (simp; done) | (simp; omega) | (have := HBW.out.size; simp; omega)) _))) ?_
    clear hK K
    try simp only [Act.put, List.setIfInBounds_toArray, List.set_cons_zero, List.set_cons_succ]
    refine until_ready (rs := [8, 14]) (by kernel_rfl) (by simp) ?_
    refine AllUntil.cons rfl (fun K hK => ?_) (AllUntil.cons rfl (fun K hK => ?_) AllUntil.nil)
    · refine step_app_nil _ rfl (.tmp 33) (.tmp 35) 24 rfl 30 _ 18 240 Try.underlying24 infoBlock rfl (by decide) rfl _ _ (0, 0) rfl (by first | exact heap_alloc_new _ _ | exact heap_alloc2_old _ _ _ | exact heap_alloc2_new _ _ _) (by have := HS.out; simp at this; exact this.symm) HC1.out (by decide) ?_
      intro gb cb wA hownA hbA
      have hbW : Below w3.heap.size w3 wA := Below.trans (by repeat (first | exact Below.refl _ _ | refine Below.drew ?_ | refine Below.alloc ?_ (by simp <;> omega) _)) (hbA.mono (by simp <;> omega))
      have HBW := Lib.hid hbW
      rw [HCL.out] at hownA
      have HOA := Lib.hid hownA
      clear hownA
      refine hK.out _ _ (fun _ => HKEEP.out _ HBW.out) ?_
      clear hK K
      try simp only [Act.put, List.setIfInBounds_toArray, List.set_cons_zero, List.set_cons_succ]
      refine until_ready (rs := [14]) (by kernel_rfl) (by simp) ?_
      refine AllUntil.cons rfl (fun K hK => ?_) AllUntil.nil
      go_simp
      refine hK.out _ _ (fun _ => HKEEP.out _ (by repeat (first | exact HBW.out | exact Below.refl _ _ | refine Below.drew ?_ | refine Below.alloc ?_ (by first | (simp; done) | (simp; omega) | (have := HBW.out.size; simp; omega)) _))) ?_
      clear hK K
      try simp only [Act.put, List.setIfInBounds_toArray, List.set_cons_zero, List.set_cons_succ]
      refine until_ready (rs := [15]) (by kernel_rfl) (by simp) ?_
      refine AllUntil.cons rfl (fun K hK => ?_) AllUntil.nil
      refine step_app_nil _ rfl (.tmp 40) (.tmp 42) 22 rfl 3 _ 1 8 Try.underlying22 infoIntT rfl (by decide) rfl _ #[.int .i64 (k : Int)] (0, 0) rfl (by first | exact heap_alloc_new _ _ | exact (hbA.block _ (by simp <;> omega)).trans (heap_alloc_new _ _) | exact (hbA.block _ (by simp <;> omega)).trans (heap_alloc2_old _ _ _) | exact (hbA.block _ (by simp <;> omega)).trans (heap_alloc2_new _ _ _)) rfl (by simp [Value.oneCell']) (by decide) ?_
      intro gs cs wB hownB hbB
      have hbAB : Below wA.heap.size wA wB := Below.trans (by repeat (first | exact Below.refl _ _ | refine Below.drew ?_ | refine Below.alloc ?_ (by simp <;> omega) _)) (hbB.mono (by simp <;> omega))
      have HBB := Lib.hid (HBW.out.trans (hbAB.mono HBW.out.size))
      have HOB := Lib.hid hownB
      have HAB := Lib.hid hbAB
      have HPB := Lib.hid (HP4.out.below_ HBB.out)
      have p1b : wB.cell? ⟨P, 1, none⟩ = some (.slice none 0 0) := HPB.out.cell 1
      have p2b : wB.cell? ⟨P, 2, none⟩ = some (.slice none 0 0) := HPB.out.cell 2
      have f1b := HPB.out.frozen 1
      have f2b := HPB.out.frozen 2
      clear hownB
      refine hK.out _ _ (fun _ => HKEEP.out _ HBB.out) ?_
      clear hK K
      try simp only [Act.put, List.setIfInBounds_toArray, List.set_cons_zero, List.set_cons_succ]
      refine until_take (i := 16) (v := ?_) rfl (by kernel_rfl) (by kernel_rfl) (by kernel_rfl) rfl (fun _ _ _ h => h) (fun _ => HKEEP.out _ HBB.out) (Or.inl ⟨by rfl, ?_⟩) ?_
      rotate_left
      · (intro u _; go_simp; try with_reducible rfl)
      try simp only [Act.put, List.setIfInBounds_toArray, List.set_cons_zero, List.set_cons_succ]
      refine until_take (i := 17) (v := ?_) rfl (by kernel_rfl) (by kernel_rfl) (by kernel_rfl) rfl (fun _ _ _ h => h) (fun _ => HKEEP.out _ HBB.out) (Or.inl ⟨by rfl, ?_⟩) ?_
      rotate_left
      · (intro u _; go_simp; try with_reducible rfl)
      try simp only [Act.put, List.setIfInBounds_toArray, List.set_cons_zero, List.set_cons_succ]
      refine until_ready (rs := [18]) (by kernel_rfl) (by simp) ?_
      refine AllUntil.cons rfl (fun K hK => ?_) AllUntil.nil
      go_simp
      refine hK.out _ _ (fun h => by simp at h) ?_
      clear hK K
      try simp only [Act.put, List.setIfInBounds_toArray, List.set_cons_zero, List.set_cons_succ]
      refine until_take (i := 19) (v := ?_) rfl (by kernel_rfl) (by kernel_rfl) (by kernel_rfl) rfl (fun _ _ _ h => h) (fun h => by simp at h) (Or.inl ⟨by rfl, ?_⟩) ?_
      rotate_left
      · (intro u _; go_simp; try with_reducible rfl)
      try simp only [Act.put, List.setIfInBounds_toArray, List.set_cons_zero, List.set_cons_succ]
      refine until_take (i := 20) (v := ?_) rfl (by kernel_rfl) (by kernel_rfl) (by kernel_rfl) rfl (fun _ _ _ h => h) (fun h => by simp at h) (Or.inl ⟨by rfl, ?_⟩) ?_
      rotate_left
      · (intro u _; go_simp; try with_reducible rfl)
      try simp only [Act.put, List.setIfInBounds_toArray, List.set_cons_zero, List.set_cons_succ]
      refine until_ready (rs := [21]) (by kernel_rfl) (by simp) ?_
      refine AllUntil.cons rfl (fun K hK => ?_) AllUntil.nil
      go_simp
      refine hK.out _ _ (fun h => by simp at h) ?_
      clear hK K
      try simp only [Act.put, List.setIfInBounds_toArray, List.set_cons_zero, List.set_cons_succ]
      refine until_done (by kernel_rfl) ?_ _
      go_wp2_with fail
      go_end0
      exact close37 HG2.out HR2.out HB23.out HBB.out HAB.out HBW.out HPB.out HOA.out HOB.out (by first | exact Nat.le_refl _ | omega | (simp; done) | (simp; omega)) (by have := HBW.out.size; first | omega | (simp; done) | (simp; omega)) hPlt hPR
    · go_simp
      refine hK.out _ _ (fun _ => HKEEP.out _ (by repeat (first | exact HBW.out | exact Below.refl _ _ | refine Below.drew ?_ | refine Below.alloc ?_ (by first | (simp; done) | (simp; omega) | (have := HBW.out.size; simp; omega)) _))) ?_
      clear hK K
      try simp only [Act.put, List.setIfInBounds_toArray, List.set_cons_zero, List.set_cons_succ]
      refine until_ready (rs := [8]) (by kernel_rfl) (by simp) ?_
      refine AllUntil.cons rfl (fun K hK => ?_) AllUntil.nil
      refine step_app_nil _ rfl (.tmp 33) (.tmp 35) 24 rfl 30 _ 18 240 Try.underlying24 infoBlock rfl (by decide) rfl _ _ (0, 0) rfl (by first | exact heap_alloc_new _ _ | exact heap_alloc2_old _ _ _ | exact heap_alloc2_new _ _ _) (by have := HS.out; simp at this; exact this.symm) HC1.out (by decide) ?_
      intro gb cb wA hownA hbA
      have hbW : Below w3.heap.size w3 wA := Below.trans (by repeat (first | exact Below.refl _ _ | refine Below.drew ?_ | refine Below.alloc ?_ (by simp <;> omega) _)) (hbA.mono (by simp <;> omega))
      have HBW := Lib.hid hbW
      rw [HCL.out] at hownA
      have HOA := Lib.hid hownA
      clear hownA
      refine hK.out _ _ (fun _ => HKEEP.out _ HBW.out) ?_
      clear hK K
      try simp only [Act.put, List.setIfInBounds_toArray, List.set_cons_zero, List.set_cons_succ]
      refine until_ready (rs := [15]) (by kernel_rfl) (by simp) ?_
      refine AllUntil.cons rfl (fun K hK => ?_) AllUntil.nil
      refine step_app_nil _ rfl (.tmp 40) (.tmp 42) 22 rfl 3 _ 1 8 Try.underlying22 infoIntT rfl (by decide) rfl _ #[.int .i64 (k : Int)] (0, 0) rfl (by first | exact heap_alloc_new _ _ | exact (hbA.block _ (by simp <;> omega)).trans (heap_alloc_new _ _) | exact (hbA.block _ (by simp <;> omega)).trans (heap_alloc2_old _ _ _) | exact (hbA.block _ (by simp <;> omega)).trans (heap_alloc2_new _ _ _)) rfl (by simp [Value.oneCell']) (by decide) ?_
      intro gs cs wB hownB hbB
      have hbAB : Below wA.heap.size wA wB := Below.trans (by repeat (first | exact Below.refl _ _ | refine Below.drew ?_ | refine Below.alloc ?_ (by simp <;> omega) _)) (hbB.mono (by simp <;> omega))
      have HBB := Lib.hid (HBW.out.trans (hbAB.mono HBW.out.size))
      have HOB := Lib.hid hownB
      have HAB := Lib.hid hbAB
      have HPB := Lib.hid (HP4.out.below_ HBB.out)
      have p1b : wB.cell? ⟨P, 1, none⟩ = some (.slice none 0 0) := HPB.out.cell 1
      have p2b : wB.cell? ⟨P, 2, none⟩ = some (.slice none 0 0) := HPB.out.cell 2
      have f1b := HPB.out.frozen 1
      have f2b := HPB.out.frozen 2
      clear hownB
      refine hK.out _ _ (fun _ => HKEEP.out _ HBB.out) ?_
      clear hK K
      try simp only [Act.put, List.setIfInBounds_toArray, List.set_cons_zero, List.set_cons_succ]
      refine until_take (i := 16) (v := ?_) rfl (by kernel_rfl) (by kernel_rfl) (by kernel_rfl) rfl (fun _ _ _ h => h) (fun _ => HKEEP.out _ HBB.out) (Or.inl ⟨by rfl, ?_⟩) ?_
      rotate_left
      · (intro u _; go_simp; try with_reducible rfl)
      try simp only [Act.put, List.setIfInBounds_toArray, List.set_cons_zero, List.set_cons_succ]
      refine until_take (i := 17) (v := ?_) rfl (by kernel_rfl) (by kernel_rfl) (by kernel_rfl) rfl (fun _ _ _ h => h) (fun _ => HKEEP.out _ HBB.out) (Or.inl ⟨by rfl, ?_⟩) ?_
      rotate_left
      · (intro u _; go_simp; try with_reducible rfl)
      try simp only [Act.put, List.setIfInBounds_toArray, List.set_cons_zero, List.set_cons_succ]
      refine until_ready (rs := [18]) (by kernel_rfl) (by simp) ?_
      refine AllUntil.cons rfl (fun K hK => ?_) AllUntil.nil
      go_simp
      refine hK.out _ _ (fun h => by simp at h) ?_
      clear hK K
      try simp only [Act.put, List.setIfInBounds_toArray, List.set_cons_zero, List.set_cons_succ]
      refine until_take (i := 19) (v := ?_) rfl (by kernel_rfl) (by kernel_rfl) (by kernel_rfl) rfl (fun _ _ _ h => h) (fun h => by simp at h) (Or.inl ⟨by rfl, ?_⟩) ?_
      rotate_left
      · (intro u _; go_simp; try with_reducible rfl)
      try simp only [Act.put, List.setIfInBounds_toArray, List.set_cons_zero, List.set_cons_succ]
      refine until_take (i := 20) (v := ?_) rfl (by kernel_rfl) (by kernel_rfl) (by kernel_rfl) rfl (fun _ _ _ h => h) (fun h => by simp at h) (Or.inl ⟨by rfl, ?_⟩) ?_
      rotate_left
      · (intro u _; go_simp; try with_reducible rfl)
      try simp only [Act.put, List.setIfInBounds_toArray, List.set_cons_zero, List.set_cons_succ]
      refine until_ready (rs := [21]) (by kernel_rfl) (by simp) ?_
      refine AllUntil.cons rfl (fun K hK => ?_) AllUntil.nil
      go_simp
      refine hK.out _ _ (fun h => by simp at h) ?_
      clear hK K
      try simp only [Act.put, List.setIfInBounds_toArray, List.set_cons_zero, List.set_cons_succ]
      refine until_done (by kernel_rfl) ?_ _
      go_wp2_with fail
      go_end0
      exact close37 HG2.out HR2.out HB23.out HBB.out HAB.out HBW.out HPB.out HOA.out HOB.out (by first | exact Nat.le_refl _ | omega | (simp; done) | (simp; omega)) (by have := HBW.out.size; first | omega | (simp; done) | (simp; omega)) hPlt hPR
  · go_simp
    refine hK.out _ _ (fun _ => HKEEP.out _ (by repeat (first | exact HBW.out | exact Below.refl _ _ | refine Below.drew ?_ | refine Below.alloc ?_ (by first | (simp; done) | (simp; omega) | (have := HBW.out.size; simp; omega)) _))) ?_
    clear hK K
    try simp only [Act.put, List.setIfInBounds_toArray, List.set_cons_zero, List.set_cons_succ]
    refine until_ready (rs := [7]) (by kernel_rfl) (by simp) ?_
    refine AllUntil.cons rfl (fun K hK => ?_) AllUntil.nil
    go_simp
    refine hK.out _ _ (fun _ => HKEEP.out _ (by repeat (first | exact HBW.out | exact Below.refl _ _ | refine Below.drew ?_ | refine Below.alloc ?_ (by first | (simp; done) | (simp; omega) | (have := HBW.out.size; simp; omega)) _))) ?_
    clear hK K
    try simp only [Act.put, List.setIfInBounds_toArray, List.set_cons_zero, List.set_cons_succ]
    refine until_ready (rs := [8]) (by kernel_rfl) (by simp) ?_
    refine AllUntil.cons rfl (fun K hK => ?_) AllUntil.nil
    refine step_app_nil _ rfl (.tmp 33) (.tmp 35) 24 rfl 30 _ 18 240 Try.underlying24 infoBlock rfl (by decide) rfl _ _ (0, 0) rfl (by first | exact heap_alloc_new _ _ | exact heap_alloc2_old _ _ _ | exact heap_alloc2_new _ _ _) (by have := HS.out; simp at this; exact this.symm) HC1.out (by decide) ?_
    intro gb cb wA hownA hbA
    have hbW : Below w3.heap.size w3 wA := Below.trans (by repeat (first | exact Below.refl _ _ | refine Below.drew ?_ | refine Below.alloc ?_ (by simp <;> omega) _)) (hbA.mono (by simp <;> omega))
    have HBW := Lib.hid hbW
    rw [HCL.out] at hownA
    have HOA := Lib.hid hownA
    clear hownA
    refine hK.out _ _ (fun _ => HKEEP.out _ HBW.out) ?_
    clear hK K
    try simp only [Act.put, List.setIfInBounds_toArray, List.set_cons_zero, List.set_cons_succ]
    refine until_ready (rs := [15]) (by kernel_rfl) (by simp) ?_
    refine AllUntil.cons rfl (fun K hK => ?_) AllUntil.nil
    refine step_app_nil _ rfl (.tmp 40) (.tmp 42) 22 rfl 3 _ 1 8 Try.underlying22 infoIntT rfl (by decide) rfl _ #[.int .i64 (k : Int)] (0, 0) rfl (by first | exact heap_alloc_new _ _ | exact (hbA.block _ (by simp <;> omega)).trans (heap_alloc_new _ _) | exact (hbA.block _ (by simp <;> omega)).trans (heap_alloc2_old _ _ _) | exact (hbA.block _ (by simp <;> omega)).trans (heap_alloc2_new _ _ _)) rfl (by simp [Value.oneCell']) (by decide) ?_
    intro gs cs wB hownB hbB
    have hbAB : Below wA.heap.size wA wB := Below.trans (by repeat (first | exact Below.refl _ _ | refine Below.drew ?_ | refine Below.alloc ?_ (by simp <;> omega) _)) (hbB.mono (by simp <;> omega))
    have HBB := Lib.hid (HBW.out.trans (hbAB.mono HBW.out.size))
    have HOB := Lib.hid hownB
    have HAB := Lib.hid hbAB
    have HPB := Lib.hid (HP4.out.below_ HBB.out)
    have p1b : wB.cell? ⟨P, 1, none⟩ = some (.slice none 0 0) := HPB.out.cell 1
    have p2b : wB.cell? ⟨P, 2, none⟩ = some (.slice none 0 0) := HPB.out.cell 2
    have f1b := HPB.out.frozen 1
    have f2b := HPB.out.frozen 2
    clear hownB
    refine hK.out _ _ (fun _ => HKEEP.out _ HBB.out) ?_
    clear hK K
    try simp only [Act.put, List.setIfInBounds_toArray, List.set_cons_zero, List.set_cons_succ]
    refine until_take (i := 16) (v := ?_) rfl (by kernel_rfl) (by kernel_rfl) (by kernel_rfl) rfl (fun _ _ _ h => h) (fun _ => HKEEP.out _ HBB.out) (Or.inl ⟨by rfl, ?_⟩) ?_
    rotate_left
    · (intro u _; go_simp; try with_reducible rfl)
    try simp only [Act.put, List.setIfInBounds_toArray, List.set_cons_zero, List.set_cons_succ]
    refine until_take (i := 17) (v := ?_) rfl (by kernel_rfl) (by kernel_rfl) (by kernel_rfl) rfl (fun _ _ _ h => h) (fun _ => HKEEP.out _ HBB.out) (Or.inl ⟨by rfl, ?_⟩) ?_
    rotate_left
    · (intro u _; go_simp; try with_reducible rfl)
    try simp only [Act.put, List.setIfInBounds_toArray, List.set_cons_zero, List.set_cons_succ]
    refine until_ready (rs := [18]) (by kernel_rfl) (by simp) ?_
    refine AllUntil.cons rfl (fun K hK => ?_) AllUntil.nil
    go_simp
    refine hK.out _ _ (fun h => by simp at h) ?_
    clear hK K
    try simp only [Act.put, List.setIfInBounds_toArray, List.set_cons_zero, List.set_cons_succ]
    refine until_take (i := 19) (v := ?_) rfl (by kernel_rfl) (by kernel_rfl) (by kernel_rfl) rfl (fun _ _ _ h => h) (fun h => by simp at h) (Or.inl ⟨by rfl, ?_⟩) ?_
    rotate_left
    · (intro u _; go_simp; try with_reducible rfl)
    try simp only [Act.put, List.setIfInBounds_toArray, List.set_cons_zero, List.set_cons_succ]
    refine until_take (i := 20) (v := ?_) rfl (by kernel_rfl) (by kernel_rfl) (by kernel_rfl) rfl (fun _ _ _ h => h) (fun h => by simp at h) (Or.inl ⟨by rfl, ?_⟩) ?_
    rotate_left
    · (intro u _; go_simp; try with_reducible rfl)
    try simp only [Act.put, List.setIfInBounds_toArray, List.set_cons_zero, List.set_cons_succ]
    refine until_ready (rs := [21]) (by kernel_rfl) (by simp) ?_
    refine AllUntil.cons rfl (fun K hK => ?_) AllUntil.nil
    go_simp
    refine hK.out _ _ (fun h => by simp at h) ?_
    clear hK K
    try simp only [Act.put, List.setIfInBounds_toArray, List.set_cons_zero, List.set_cons_succ]
    refine until_done (by kernel_rfl) ?_ _
    go_wp2_with fail
    go_end0
    exact close37 HG2.out HR2.out HB23.out HBB.out HAB.out HBW.out HPB.out HOA.out HOB.out (by first | exact Nat.le_refl _ | omega | (simp; done) | (simp; omega)) (by have := HBW.out.size; first | omega | (simp; done) | (simp; omega)) hPlt hPR

end Go.Proofs.Ytaipkoeiahjghaa
