/- tzx.parser: pure, level, glued: what fills a block. -/
import Derived.Test.YtaipkoeiahjghaaRdI
namespace Go.Proofs.Ytaipkoeiahjghaa
set_option linter.unusedSimpArgs false
set_option linter.unusedVariables false
open Go.RowKit
/-- all but two blocks is as it was -/
structure Grew2 (R b : Nat) (w w' : World) : Prop where
  os : w'.os = w.os
  tape : w'.tape = w.tape
  output : w'.output = w.output
  size : w.heap.size ≤ w'.heap.size
  block : ∀ k, k < w.heap.size → k ≠ R → k ≠ b → w'.heap[k]? = w.heap[k]?
section
variable {w w' w'' : World} {R b : Nat}
theorem grew2_of (h : w.grownBy w' (some R)) : Grew2 R b w w' := ⟨h.os, h.tape, h.output, h.size, fun k hk h1 _ => h.block k hk (fun e => h1 (Option.some.inj e))⟩
theorem grew2_b (h : w.grownBy w' (some b)) : Grew2 R b w w' := ⟨h.os, h.tape, h.output, h.size, fun k hk _ h1 => h.block k hk (fun e => h1 (Option.some.inj e))⟩
theorem Grew2.trans (h : Grew2 R b w w') (h' : Grew2 R b w' w'') : Grew2 R b w w'' :=
  ⟨h'.os.trans h.os, h'.tape.trans h.tape, h'.output.trans h.output, Nat.le_trans h.size h'.size, fun k hk h1 h2 => (h'.block k (Nat.lt_of_lt_of_le hk h.size) h1 h2).trans (h.block k hk h1 h2)⟩
theorem Grew2.set_ (h : Grew2 R b w w') (i : Nat) (v : Value) : Grew2 R b w (w'.setCell ⟨b, i, none⟩ v) := h.trans (grew2_b (grownBy_setCell (grownBy_refl _ _) i v))
theorem Grew2.cell {P i : Nat} {v : Value} (h : Grew2 R b w w') (hc : w.cell? ⟨P, i, none⟩ = some v) (h1 : P ≠ R) (h2 : P ≠ b) : w'.cell? ⟨P, i, none⟩ = some v := by
  rw [← hc]
  exact World.cell?_of_block (h.block P (block_lt_of_cell hc) h1 h2)
theorem set_far {P b i j : Nat} {u v : Value} (hc : w.cell? ⟨P, i, none⟩ = some v) (h : P ≠ b) : (w.setCell ⟨b, j, none⟩ u).cell? ⟨P, i, none⟩ = some v :=
  (World.cell?_of_block (Below.heap_setCell w ⟨b, j, none⟩ u P h)).trans hc
end
/-- a block that is being filled: which cells, and the reader -/
structure Fill (w : World) (R P b : Nat) (A : Addr) (n c : Nat) (L : List Int) (s : Rd.St) (cs : List Value) : Prop where
  blk : Blk w b 30 cs
  rd : RdIs w R A n c L s
  par : w.cell? ⟨P, 0, none⟩ = some (.pointer (some ⟨R, 0, none⟩))
  lt : R < b
  pr : P ≠ R
  pb : P ≠ b
section
variable {w w' : World} {R P b : Nat} {A : Addr} {n c : Nat} {L : List Int} {s s' : Rd.St} {cs : List Value}
theorem Fill.step (h : Fill w R P b A n c L s cs) (hr : RdIs w' R A n c L s') (hg : w.grownBy w' (some R)) : Fill w' R P b A n c L s' cs :=
  ⟨h.blk.grown hg (fun e => by have := Option.some.inj e; have := h.lt; omega), hr, par_grown h.par h.pr hg, h.lt, h.pr, h.pb⟩
theorem Fill.set_ (h : Fill w R P b A n c L s cs) (i : Nat) (u : Value) : Fill (w.setCell ⟨b, i, none⟩ u) R P b A n c L s (cs.set i u) :=
  ⟨h.blk.set_ i u, h.rd.setCell h.blk (by decide) h.lt, set_far h.par h.pb, h.lt, h.pr, h.pb⟩
theorem Fill.below (h : Fill w R P b A n c L s cs) (hb : Below w.heap.size w w') : Fill w' R P b A n c L s cs :=
  ⟨h.blk.below_ hb, h.rd.below hb, cell_below h.par hb, h.lt, h.pr, h.pb⟩
theorem Fill.cell (h : Fill w R P b A n c L s cs) (i : Nat) (hi : i < cs.length) : ∃ v, w.cell? ⟨b, i, none⟩ = some v := ⟨cs[i], by rw [h.blk.cell i]; simp [hi]⟩
end
namespace Rd
def pureM : RM (Int × Int × List Int) := bind (num 1) fun u => bind (num 2) fun p => bind (dataM 3) fun d => ret (u, p, d)
end Rd
def PureP (R P b : Nat) (A : Addr) (n c : Nat) (L : List Int) (cs : List Value) (w : World) (t : Int × Int × List Int) (s : Rd.St) (e : Ending) (w' : World) : Prop :=
  e = .returned (.tuple #[]) ∧ ∃ d, Fill w' R P b A n c L s (((cs.set 9 (.int .i64 t.1)).set 1 (.int .i64 t.2.1)).set 12 d) ∧ RowOf w' w.heap.size d .u8 t.2.2 ∧ Grew2 R b w w'
set_option maxRecDepth 100000 in
set_option maxHeartbeats 4000000 in
theorem tzPure (P R b : Nat) (A : Addr) (n c : Nat) (L : List Int) (s : Rd.St) (cs : List Value) (w : World) (h : Fill w R P b A n c L s cs) (hcs : cs.length = 18) :
    Calls Try.prog 35 #[.pointer (some ⟨P, 0, none⟩), .pointer (some ⟨b, 0, none⟩)] w (PureP R P b A n c L cs w (Rd.pureM L s).1 (Rd.pureM L s).2) := by
  have HN1 := Lib.hid (fun u (hu : RdIs u R A n c L s) => rdNumber R A n c L s 1 u hu (by omega) (by omega))
  obtain ⟨x, s1, hM1⟩ : ∃ x s1, Rd.num 1 L s = (x, s1) := ⟨_, _, rfl⟩
  rw [hM1] at HN1
  have HN2 := Lib.hid (fun u (hu : RdIs u R A n c L s1) => rdNumber R A n c L s1 2 u hu (by omega) (by omega))
  obtain ⟨y, s2, hM2⟩ : ∃ y s2, Rd.num 2 L s1 = (y, s2) := ⟨_, _, rfl⟩
  rw [hM2] at HN2
  have HN3 := Lib.hid (fun u (hu : RdIs u R A n c L s2) (hp : u.cell? ⟨P, 0, none⟩ = some (.pointer (some ⟨R, 0, none⟩))) => tzData P R A n c L s2 3 u hu hp h.pr (by omega) (by omega))
  obtain ⟨l, s3, hM3⟩ : ∃ l s3, Rd.dataM 3 L s2 = (l, s3) := ⟨_, _, rfl⟩
  rw [hM3] at HN3
  have hT : Rd.pureM L s = ((x, y, l), s3) := by
    unfold Rd.pureM
    simp only [Rd.bind, Rd.ret, hM1, hM2, hM3]
  rw [hT]
  have H := Lib.hid h
  have p0 := h.par
  have hpb := h.pb
  have hlt := h.lt
  have hbl := h.blk.lt
  have HCS := Lib.hid hcs
  clear h hM1 hM2 hM3 hT hcs
  go_enter Try.func35, Try.ntmps35
  go_wp2_with fail
  go_region_held3 (fun w' => w'.cell? ⟨P, 0, none⟩ = some (.pointer (some ⟨R, 0, none⟩))) (first | exact p0 | exact p1 | exact p2 | exact set_far p2 hpb | exact set_far (set_far p2 hpb) hpb)
    (first
      | (go_at_call_of 23 (Value.int .i64 1); refine (HN1.out _ (H.out.rd.below ((Below.refl _ w).drew))).mono ?_; rintro e w1 ⟨rfl, hr1, hg0⟩; have hg1 := grownBy_of_drew hg0; have HF1 := Lib.hid (H.out.step hr1 hg1); have HG1 := Lib.hid hg1; have p1 := HF1.out.par; clear hr1 hg1 hg0)
      | (go_at_call_of 23 (Value.int .i64 2); refine (HN2.out w1 HF1.out.rd).mono ?_; rintro e w2 ⟨rfl, hr2, hg2⟩; have HF2 := Lib.hid (HF1.out.step hr2 hg2); have HG2 := Lib.hid (grownBy_trans HG1.out hg2); have p2 := HF2.out.par; obtain ⟨v9, b9⟩ := HF2.out.cell 9 (by rw [HCS.out]; decide); have f9 := HF2.out.blk.frozen 9; obtain ⟨v1, b1⟩ := HF2.out.cell 1 (by rw [HCS.out]; decide); have f1 := HF2.out.blk.frozen 1; clear hr2 hg2))
  all_goals
    obtain ⟨w3, hw3⟩ : ∃ w3, w3 = (w2.setCell ⟨b, 9, none⟩ (.int .i64 x)).setCell ⟨b, 1, none⟩ (.int .i64 y) := ⟨_, rfl⟩
    rw [← hw3]
    have HF3 : Hid (Fill w3 R P b A n c L s2 ((cs.set 9 (.int .i64 x)).set 1 (.int .i64 y))) := by show Fill _ _ _ _ _ _ _ _ _ _; rw [hw3]; exact (HF2.out.set_ 9 _).set_ 1 _
    have HG3 : Hid (Grew2 R b w w3) := by show Grew2 _ _ _ _; rw [hw3]; exact ((grew2_of HG2.out).set_ 9 _).set_ 1 _
    clear hw3
    have p3 := HF3.out.par
    go_wp2_with (first
      | (go_at_call 34; refine (HN3.out w3 HF3.out.rd p3).mono ?_; rintro e w4 ⟨d, rfl, hv4, hr4, hg4⟩; obtain ⟨B, dd, rfl⟩ := own_form hv4; have HF4 := Lib.hid (HF3.out.step hr4 hg4); have HG4 := Lib.hid (HG3.out.trans (grew2_of hg4)); have HV4 := Lib.hid (hv4.mono HG3.out.size); obtain ⟨v12, b12⟩ := HF4.out.cell 12 (by simp only [List.length_set]; rw [HCS.out]; decide); have f12 := HF4.out.blk.frozen 12; clear hr4 hg4 hv4))
    go_end0
    exact ⟨rfl, _, HF4.out.set_ 12 _, HV4.out.setCell (by omega), HG4.out.set_ 12 _⟩
end Go.Proofs.Ytaipkoeiahjghaa
