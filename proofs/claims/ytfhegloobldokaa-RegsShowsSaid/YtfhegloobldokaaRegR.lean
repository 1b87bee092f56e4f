/- The law RegsBytes: its own body. -/
import Derived.Test.YtfhegloobldokaaRegQ
import Derived.Deep.RegionHeld3
import Derived.Deep.RegionWith
namespace Go.Proofs.Ytfhegloobldokaa
set_option linter.unusedSimpArgs false
set_option linter.unusedVariables false
open Go.RowKit
/-- a struct's load, under one name -/
def IsLD (LD : Nat → World → Result Value) : Prop := ∀ (g : Nat) (u : World), (loadVar 24 ⟨g, 0, none⟩).run Try.prog u = LD g u
theorem some_LD : ∃ LD, IsLD LD := ⟨fun g u => (loadVar 24 ⟨g, 0, none⟩).run Try.prog u, fun _ _ => rfl⟩
theorem LD_of {LD : Nat → World → Result Value} (hl : IsLD LD) {w : World} {g : Nat} {C : Array Value} (hs : C.size = 30) (h : w.heap[g]? = some (.cells C 24 (0, 0))) : LD g w = .ok (.agg C) w :=
  (hl g w).symm.trans (run_loadVar_row (P := Try.prog) w g 24 24 C (0, 0) _ h Try.underlying24 rfl (info_of hs))
/-- the two numbers, and the registers, in a world that has grown -/
def Held2 (LD : Nat → World → Result Value) (W : World) (gn gr gx : Nat) (C CX : Array Value) (k ix : Int) (w' : World) : Prop := Below W.heap.size W w' ∧ (w'.cell? ⟨gn, 0, none⟩ = some (.int .i64 k) ∧ w'.cell? ⟨gn, 1, none⟩ = some (.int .i64 ix)) ∧ (w'.heap[gr]? = some (.cells C 24 (0, 0)) ∧ w'.heap[gx]? = some (.cells CX 24 (0, 0))) ∧ LD gr w' = .ok (.agg C) w' ∧ LD gx w' = .ok (.agg CX) w'
theorem row_keep {w w' : World} {g : Nat} {o : Obj} (hb : Below w.heap.size w w') (h : w.heap[g]? = some o) : w'.heap[g]? = some o := by
  have hlt : g < w.heap.size := by
    rcases Nat.lt_or_ge g w.heap.size with hlt | hge
    · exact hlt
    · rw [Array.getElem?_eq_none hge] at h; cases h
  exact (hb.block g hlt).trans h
theorem Held2.below {LD : Nat → World → Result Value} (hl : IsLD LD) {W w w' : World} {gn gr gx : Nat} {C CX : Array Value} {k ix : Int} (hs : C.size = 30) (hx : CX.size = 30) (hb : Below w.heap.size w w') (x : Held2 LD W gn gr gx C CX k ix w) : Held2 LD W gn gr gx C CX k ix w' := by
  have k' : ∀ (a : Addr) (v : Value), w.cell? a = some v → w'.cell? a = some v := fun a v hc => (hb.cell (block_lt_of_cell hc)).trans hc
  obtain ⟨hB, ⟨n0, n1⟩, ⟨h1, h2⟩, _, _⟩ := x
  exact ⟨hB.trans (hb.mono hB.size), ⟨k' _ _ n0, k' _ _ n1⟩, ⟨row_keep hb h1, row_keep hb h2⟩, LD_of hl hs (row_keep hb h1), LD_of hl hx (row_keep hb h2)⟩
theorem Held2.drew {LD : Nat → World → Result Value} (hl : IsLD LD) {W w : World} {gn gr gx : Nat} {C CX : Array Value} {k ix : Int} (hs : C.size = 30) (hx : CX.size = 30) (x : Held2 LD W gn gr gx C CX k ix w) : Held2 LD W gn gr gx C CX k ix w.drew := Held2.below hl hs hx (Below.refl _ w).drew x
theorem step_load_row {P : Program} {ops : Array Oper} {o : Oper} {a : Act} {w : World} {K : Act → World → Prop} {Q : Exit → Act → World → Prop} {E : Prop} (hgd : o.guard = none) (ty : TypeId) (x : Operand) (ho : o.op = .load ty x)
    (g : Nat) (hx : a.eval x = .pointer (some ⟨g, 0, none⟩)) (t : TypeId) (cs : Array Value) (fr : Nat × Nat) (d : TypeDesc) (hg : w.heap[g]? = some (.cells cs t fr))
    (hu : P.underlying ty = some d) (hd : (match d with | .struct _ | .array _ _ => true | _ => false) = true) (hi : (P.info? ty).map (·.size) = some cs.size)
    (h : K (a.put o.dst (.agg cs)) w) : if Region.wanted o (yielded ops a.tmps) = true then Oper.wp P o a w K Q else E := by
  have hw : Region.wanted o (yielded ops a.tmps) = true := by simp [Region.wanted, hgd]
  rw [if_pos hw]
  exact wp_load_row ty x ho g hx t cs fr d hg hu hd hi h
theorem put_all (r : Rg) (hr : r.Ok) (C : Array Value) (hC : C = r.cells.toArray) (k ix v : Int) (w : World) (hv : B8 v) (X : Rg) (hX : X = r.putByte k ix v) (CX : Array Value) (hCX : CX = X.cells.toArray) :
    Calls Try.prog 28 #[.agg C, .int .i64 k, .int .i64 ix, .int .u8 v] w (RegsBackP CX w) := by
  by_cases h : 0 ≤ k ∧ k ≤ 7 ∧ k ≠ 6
  · obtain ⟨κ, rfl⟩ := Int.eq_ofNat_of_zero_le h.1
    rcases ix_cases ix with rfl | rfl | ⟨n1, n2⟩
    · exact put_one r hr C hC κ v w hv h X hX CX hCX
    · exact put_two r hr C hC κ v w hv h X hX CX hCX
    · exact put_plain r hr C hC κ ix v w hv h n1 n2 X hX CX hCX
  · rw [put_none r k ix v h] at hX
    subst hX
    rw [hCX, ← hC]
    exact put_no X hr C hC k ix v w h
theorem list_at (r : Rg) (ix : Int) (κ : Nat) (h : κ < 8) : (r.list ix)[κ]? = some (.int .u8 (r.byte κ ix)) := by
  have kk : κ = 0 ∨ κ = 1 ∨ κ = 2 ∨ κ = 3 ∨ κ = 4 ∨ κ = 5 ∨ κ = 6 ∨ κ = 7 := by omega
  rcases kk with rfl | rfl | rfl | rfl | rfl | rfl | rfl | rfl
  all_goals simp [Rg.list, Rg.byte]
theorem byte_out (r : Rg) (k ix : Int) (h : k < 0 ∨ 8 ≤ k) : r.byte k ix = 0 := by
  have n : k ≠ 0 ∧ k ≠ 1 ∧ k ≠ 2 ∧ k ≠ 3 ∧ k ≠ 4 ∧ k ≠ 5 ∧ k ≠ 7 := by omega
  simp [Rg.byte, n]
/-- the cells of a block of registers -/
theorem Blk.regs {w : World} {g : Nat} {T : TypeId} {r : Rg} (h : Blk w g T r.cells) : w.cell? ⟨g, 0, none⟩ = some (.int .u8 r.a) ∧ w.cell? ⟨g, 1, none⟩ = some (.int .u8 r.f) ∧ w.cell? ⟨g, 2, none⟩ = some (.int .u8 r.b) ∧ w.cell? ⟨g, 3, none⟩ = some (.int .u8 r.c) ∧ w.cell? ⟨g, 4, none⟩ = some (.int .u8 r.d) ∧ w.cell? ⟨g, 5, none⟩ = some (.int .u8 r.e) ∧ w.cell? ⟨g, 6, none⟩ = some (.int .u8 r.h) ∧ w.cell? ⟨g, 7, none⟩ = some (.int .u8 r.l) ∧ w.cell? ⟨g, 8, none⟩ = some (.int .u8 r.a2) ∧ w.cell? ⟨g, 9, none⟩ = some (.int .u8 r.f2) ∧ w.cell? ⟨g, 10, none⟩ = some (.int .u8 r.b2) ∧ w.cell? ⟨g, 11, none⟩ = some (.int .u8 r.c2) ∧ w.cell? ⟨g, 12, none⟩ = some (.int .u8 r.d2) ∧ w.cell? ⟨g, 13, none⟩ = some (.int .u8 r.e2) ∧ w.cell? ⟨g, 14, none⟩ = some (.int .u8 r.h2) ∧ w.cell? ⟨g, 15, none⟩ = some (.int .u8 r.l2) ∧ w.cell? ⟨g, 16, none⟩ = some (.int .u8 r.i) ∧ w.cell? ⟨g, 17, none⟩ = some (.int .u8 r.r) ∧ w.cell? ⟨g, 18, none⟩ = some (.int .u8 r.q) ∧ w.cell? ⟨g, 19, none⟩ = some (.int .u16 r.ix) ∧ w.cell? ⟨g, 20, none⟩ = some (.int .u16 r.iy) ∧ w.cell? ⟨g, 21, none⟩ = some (.int .u16 r.sp) ∧ w.cell? ⟨g, 22, none⟩ = some (.int .u16 r.pc) ∧ w.cell? ⟨g, 23, none⟩ = some (.int .u16 r.wz) ∧ w.cell? ⟨g, 24, none⟩ = some (.bool r.iff1) ∧ w.cell? ⟨g, 25, none⟩ = some (.bool r.iff2) ∧ w.cell? ⟨g, 26, none⟩ = some (.bool r.halt) ∧ w.cell? ⟨g, 27, none⟩ = some (.bool r.hold) ∧ w.cell? ⟨g, 28, none⟩ = some (.int .u8 r.im) ∧ w.cell? ⟨g, 29, none⟩ = some (.int .u8 r.pre) :=
  ⟨h.cell 0, h.cell 1, h.cell 2, h.cell 3, h.cell 4, h.cell 5, h.cell 6, h.cell 7, h.cell 8, h.cell 9, h.cell 10, h.cell 11, h.cell 12, h.cell 13, h.cell 14, h.cell 15, h.cell 16, h.cell 17, h.cell 18, h.cell 19, h.cell 20, h.cell 21, h.cell 22, h.cell 23, h.cell 24, h.cell 25, h.cell 26, h.cell 27, h.cell 28, h.cell 29⟩
/-- registers, twice, and the two numbers, in a world that has grown -/
def Held6 (W : World) (g gn gx : Nat) (r X : Rg) (k ix : Int) (w' : World) : Prop := Below W.heap.size W w' ∧ (w'.cell? ⟨g, 0, none⟩ = some (.int .u8 r.a) ∧ w'.cell? ⟨g, 1, none⟩ = some (.int .u8 r.f) ∧ w'.cell? ⟨g, 2, none⟩ = some (.int .u8 r.b) ∧ w'.cell? ⟨g, 3, none⟩ = some (.int .u8 r.c) ∧ w'.cell? ⟨g, 4, none⟩ = some (.int .u8 r.d) ∧ w'.cell? ⟨g, 5, none⟩ = some (.int .u8 r.e) ∧ w'.cell? ⟨g, 6, none⟩ = some (.int .u8 r.h) ∧ w'.cell? ⟨g, 7, none⟩ = some (.int .u8 r.l) ∧ w'.cell? ⟨g, 8, none⟩ = some (.int .u8 r.a2) ∧ w'.cell? ⟨g, 9, none⟩ = some (.int .u8 r.f2) ∧ w'.cell? ⟨g, 10, none⟩ = some (.int .u8 r.b2) ∧ w'.cell? ⟨g, 11, none⟩ = some (.int .u8 r.c2) ∧ w'.cell? ⟨g, 12, none⟩ = some (.int .u8 r.d2) ∧ w'.cell? ⟨g, 13, none⟩ = some (.int .u8 r.e2) ∧ w'.cell? ⟨g, 14, none⟩ = some (.int .u8 r.h2) ∧ w'.cell? ⟨g, 15, none⟩ = some (.int .u8 r.l2) ∧ w'.cell? ⟨g, 16, none⟩ = some (.int .u8 r.i) ∧ w'.cell? ⟨g, 17, none⟩ = some (.int .u8 r.r) ∧ w'.cell? ⟨g, 18, none⟩ = some (.int .u8 r.q) ∧ w'.cell? ⟨g, 19, none⟩ = some (.int .u16 r.ix) ∧ w'.cell? ⟨g, 20, none⟩ = some (.int .u16 r.iy) ∧ w'.cell? ⟨g, 21, none⟩ = some (.int .u16 r.sp) ∧ w'.cell? ⟨g, 22, none⟩ = some (.int .u16 r.pc) ∧ w'.cell? ⟨g, 23, none⟩ = some (.int .u16 r.wz) ∧ w'.cell? ⟨g, 24, none⟩ = some (.bool r.iff1) ∧ w'.cell? ⟨g, 25, none⟩ = some (.bool r.iff2) ∧ w'.cell? ⟨g, 26, none⟩ = some (.bool r.halt) ∧ w'.cell? ⟨g, 27, none⟩ = some (.bool r.hold) ∧ w'.cell? ⟨g, 28, none⟩ = some (.int .u8 r.im) ∧ w'.cell? ⟨g, 29, none⟩ = some (.int .u8 r.pre)) ∧ (w'.cell? ⟨gn, 0, none⟩ = some (.int .i64 k) ∧ w'.cell? ⟨gn, 1, none⟩ = some (.int .i64 ix)) ∧ (w'.cell? ⟨gx, 0, none⟩ = some (.int .u8 X.a) ∧ w'.cell? ⟨gx, 1, none⟩ = some (.int .u8 X.f) ∧ w'.cell? ⟨gx, 2, none⟩ = some (.int .u8 X.b) ∧ w'.cell? ⟨gx, 3, none⟩ = some (.int .u8 X.c) ∧ w'.cell? ⟨gx, 4, none⟩ = some (.int .u8 X.d) ∧ w'.cell? ⟨gx, 5, none⟩ = some (.int .u8 X.e) ∧ w'.cell? ⟨gx, 6, none⟩ = some (.int .u8 X.h) ∧ w'.cell? ⟨gx, 7, none⟩ = some (.int .u8 X.l) ∧ w'.cell? ⟨gx, 8, none⟩ = some (.int .u8 X.a2) ∧ w'.cell? ⟨gx, 9, none⟩ = some (.int .u8 X.f2) ∧ w'.cell? ⟨gx, 10, none⟩ = some (.int .u8 X.b2) ∧ w'.cell? ⟨gx, 11, none⟩ = some (.int .u8 X.c2) ∧ w'.cell? ⟨gx, 12, none⟩ = some (.int .u8 X.d2) ∧ w'.cell? ⟨gx, 13, none⟩ = some (.int .u8 X.e2) ∧ w'.cell? ⟨gx, 14, none⟩ = some (.int .u8 X.h2) ∧ w'.cell? ⟨gx, 15, none⟩ = some (.int .u8 X.l2) ∧ w'.cell? ⟨gx, 16, none⟩ = some (.int .u8 X.i) ∧ w'.cell? ⟨gx, 17, none⟩ = some (.int .u8 X.r) ∧ w'.cell? ⟨gx, 18, none⟩ = some (.int .u8 X.q) ∧ w'.cell? ⟨gx, 19, none⟩ = some (.int .u16 X.ix) ∧ w'.cell? ⟨gx, 20, none⟩ = some (.int .u16 X.iy) ∧ w'.cell? ⟨gx, 21, none⟩ = some (.int .u16 X.sp) ∧ w'.cell? ⟨gx, 22, none⟩ = some (.int .u16 X.pc) ∧ w'.cell? ⟨gx, 23, none⟩ = some (.int .u16 X.wz) ∧ w'.cell? ⟨gx, 24, none⟩ = some (.bool X.iff1) ∧ w'.cell? ⟨gx, 25, none⟩ = some (.bool X.iff2) ∧ w'.cell? ⟨gx, 26, none⟩ = some (.bool X.halt) ∧ w'.cell? ⟨gx, 27, none⟩ = some (.bool X.hold) ∧ w'.cell? ⟨gx, 28, none⟩ = some (.int .u8 X.im) ∧ w'.cell? ⟨gx, 29, none⟩ = some (.int .u8 X.pre))
theorem Held6.below {W w w' : World} {g gn gx : Nat} {r X : Rg} {k ix : Int} (hb : Below w.heap.size w w') (x : Held6 W g gn gx r X k ix w) : Held6 W g gn gx r X k ix w' := by
  have k' : ∀ (a : Addr) (v : Value), w.cell? a = some v → w'.cell? a = some v := fun a v hc => (hb.cell (block_lt_of_cell hc)).trans hc
  obtain ⟨hB, ⟨r0, r1, r2, r3, r4, r5, r6, r7, r8, r9, r10, r11, r12, r13, r14, r15, r16, r17, r18, r19, r20, r21, r22, r23, r24, r25, r26, r27, r28, r29⟩, ⟨n0, n1⟩, x0, x1, x2, x3, x4, x5, x6, x7, x8, x9, x10, x11, x12, x13, x14, x15, x16, x17, x18, x19, x20, x21, x22, x23, x24, x25, x26, x27, x28, x29⟩ := x
  exact ⟨hB.trans (hb.mono hB.size), ⟨k' _ _ r0, k' _ _ r1, k' _ _ r2, k' _ _ r3, k' _ _ r4, k' _ _ r5, k' _ _ r6, k' _ _ r7, k' _ _ r8, k' _ _ r9, k' _ _ r10, k' _ _ r11, k' _ _ r12, k' _ _ r13, k' _ _ r14, k' _ _ r15, k' _ _ r16, k' _ _ r17, k' _ _ r18, k' _ _ r19, k' _ _ r20, k' _ _ r21, k' _ _ r22, k' _ _ r23, k' _ _ r24, k' _ _ r25, k' _ _ r26, k' _ _ r27, k' _ _ r28, k' _ _ r29⟩, ⟨k' _ _ n0, k' _ _ n1⟩, k' _ _ x0, k' _ _ x1, k' _ _ x2, k' _ _ x3, k' _ _ x4, k' _ _ x5, k' _ _ x6, k' _ _ x7, k' _ _ x8, k' _ _ x9, k' _ _ x10, k' _ _ x11, k' _ _ x12, k' _ _ x13, k' _ _ x14, k' _ _ x15, k' _ _ x16, k' _ _ x17, k' _ _ x18, k' _ _ x19, k' _ _ x20, k' _ _ x21, k' _ _ x22, k' _ _ x23, k' _ _ x24, k' _ _ x25, k' _ _ x26, k' _ _ x27, k' _ _ x28, k' _ _ x29⟩
theorem Held6.drew {W w : World} {g gn gx : Nat} {r X : Rg} {k ix : Int} (x : Held6 W g gn gx r X k ix w) : Held6 W g gn gx r X k ix w.drew := Held6.below (Below.refl _ w).drew x
end Go.Proofs.Ytfhegloobldokaa
