/- Operations as arguments of a law: what they are. -/
import Derived.Test.YtoejmjhfecppcaaRows
import Derived.Test.YtoejmjhfecppcaaAsmJ
import Derived.WalkKit
import Derived.Below
import Derived.ChangeOld
import Derived.ProofKit
import Derived.OpenShut
import Derived.ShutString
import Derived.WideKeyArgs
import Derived.Deep.Slices
import Derived.Deep.Fields
import Derived.ChangeSame
import Derived.Lib.SmallJoins
namespace Go.Proofs.Ytoejmjhfecppcaa
set_option linter.unusedSimpArgs false
set_option linter.unusedVariables false
open Go.ChangeShapes Go.WideShapes Go.ChangeAt Go.RowKit Go.Deep Go.Joins
theorem list_of {α : Type} (Q : Nat → α → Prop) : ∀ n : Nat, (∀ i, i < n → ∃ o, Q i o) → ∃ L : List α, L.length = n ∧ ∀ i o, L[i]? = some o → Q i o
  | 0, _ => ⟨[], rfl, fun i o h => by simp at h⟩
  | n + 1, h => by
    obtain ⟨L, hl, hL⟩ := list_of Q n (fun i hi => h i (by omega))
    obtain ⟨o, ho⟩ := h n (by omega)
    refine ⟨L ++ [o], by simp [hl], fun i x hx => ?_⟩
    rcases Nat.lt_or_ge i n with hi | hi
    · rw [List.getElem?_append_left (by omega)] at hx
      exact hL i x hx
    · rw [List.getElem?_append_right (by omega)] at hx
      have hin : i - L.length = 0 := by
        have := (List.getElem?_eq_some_iff.1 hx).1
        simp at this
        omega
      rw [hin] at hx
      simp at hx
      subst hx
      have : i = n := by omega
      rw [this]
      exact ho
theorem cells47 : Try.prog.cellsOf 5 = 1 := by kernel_rfl
theorem cells72 : Try.prog.cellsOf 72 = 4 := by kernel_rfl
section
variable {H : Type} {enc : TypeId × Value → H} {W : World} {base : Nat} {held : Bool}
theorem open_bytesV {n : Nat} {v : Value} {y : DataW H × List MemPlace} (h : DataW.trod enc Try.prog W base (fun _ => true) held n 47 [v] = some y) :
    ∃ (A : Option Addr) (c : Nat) (l : List Int), v = .slice A l.length c ∧ Ints W A .u8 l ∧ (A = none → l.length = 0 ∧ c = 0) ∧ ∀ x ∈ l, 0 ≤ x ∧ x ≤ 255 := by
  rcases open_ints Try.underlying47 Try.underlying5 cells47 h with ⟨hcs, _⟩ | ⟨x, l, c, zs, hcs, _, hl, hm, hz, _, hcell, hwz⟩
  · injection hcs with hcs
    exact ⟨none, 0, [], hcs, fun i v hi => by simp at hi, fun _ => ⟨rfl, rfl⟩, fun x hx => by simp at hx⟩
  · injection hcs with hcs
    simp only [if_true] at hz
    have hln : (zs.take l).length = l := by simp; omega
    refine ⟨some x, c, zs.take l, by rw [hln]; exact hcs, fun i v hi => ?_, fun e => (by cases e), fun n hn => ?_⟩
    · have hi2 : i < l := by
        have := (List.getElem?_eq_some_iff.1 hi).1
        simp at this; omega
      refine ⟨x, rfl, ?_⟩
      rw [hcell i (by omega), ← hi]
      simp only [List.getElem?_map, List.getElem?_take, if_pos hi2]
      rw [List.getElem?_eq_getElem (by omega)]
      simp [List.getD, List.getElem?_eq_getElem (show i < zs.length by omega)]
    · have := hwz n (List.mem_of_mem_take hn)
      simp [Lit.wf, IntKind.min, IntKind.max, IntKind.bits, IntKind.signed] at this
      omega
theorem open_fields {n : Nat} {v0 v1 v2 v3 : Value} {y0 y1 y2 y3 : DataW H × List MemPlace} (h0 : DataW.trod enc Try.prog W base (fun _ => true) held n 3 [v0] = some y0) (h1 : DataW.trod enc Try.prog W base (fun _ => true) held n 3 [v1] = some y1)
    (h2 : DataW.trod enc Try.prog W base (fun _ => true) held n 9 [v2] = some y2) (h3 : DataW.trod enc Try.prog W base (fun _ => true) held n 47 [v3] = some y3) :
    ∃ (o : OpL) (A : Option Addr) (c : Nat), OpOk o ∧ v0 = .int .i64 o.kind ∧ v1 = .int .i64 o.num ∧ v2 = .string o.name ∧ v3 = .slice A o.b.length c ∧ Ints W A .u8 o.b ∧ (A = none → o.b.length = 0 ∧ c = 0) := by
  obtain ⟨k, e0, _, w0⟩ := DataW.trod_int Try.underlying3 h0
  obtain ⟨m, e1, _, w1⟩ := DataW.trod_int Try.underlying3 h1
  obtain ⟨s, e2, _, hs⟩ := DataW.trod_string Try.underlying9 h2
  obtain ⟨A, c, l, e3, hi, hn, hb⟩ := open_bytesV h3
  injection e0 with e0
  injection e1 with e1
  injection e2 with e2
  simp [Lit.wf, IntKind.min, IntKind.max, IntKind.bits, IntKind.signed] at w1
  exact ⟨⟨k, m, s, l⟩, A, c, ⟨by simp only []; omega, by simp only []; omega, hs, hb⟩, e0, e1, e2, e3, hi, hn⟩
theorem c1int : Try.prog.cellsOf 3 = 1 := by kernel_rfl
theorem c1str : Try.prog.cellsOf 9 = 1 := by kernel_rfl
theorem c1sl : Try.prog.cellsOf 47 = 1 := by kernel_rfl
set_option maxRecDepth 100000 in
theorem fields_of {n : Nat} {z0 z1 z2 z3 : Value} {y : DataW H × List MemPlace} (h : DataW.trod enc Try.prog W base (fun _ => true) held n 72 [z0, z1, z2, z3] = some y) :
    ∃ m, (∃ y, DataW.trod enc Try.prog W base (fun _ => true) held m 3 [z0] = some y) ∧ (∃ y, DataW.trod enc Try.prog W base (fun _ => true) held m 3 [z1] = some y) ∧
      (∃ y, DataW.trod enc Try.prog W base (fun _ => true) held m 9 [z2] = some y) ∧ (∃ y, DataW.trod enc Try.prog W base (fun _ => true) held m 47 [z3] = some y) := by
  obtain ⟨y0, y1, y2, y3, m, _, _, h0, h1, h2, h3⟩ := trod_struct4 Try.underlying72 h
  simp only [c1int, c1str, c1sl, List.drop, List.take] at h0 h1 h2 h3
  exact ⟨m, ⟨_, h0⟩, ⟨_, h1⟩, ⟨_, h2⟩, ⟨_, h3⟩⟩
set_option maxRecDepth 100000 in
theorem open_op {reach : Reach} {b0 : Nat} {v : Value} {d : DataW H} {p : List MemPlace} (hv : Value.okWide Try.prog W reach b0 72 v) (h : DataW.Trod enc Try.prog W base (fun _ => true) held 72 v d p) :
    ∃ (o : OpL) (A : Option Addr) (c : Nat), OpOk o ∧ v = opV o A c ∧ Ints W A .u8 o.b ∧ (A = none → o.b.length = 0 ∧ c = 0) := by
  obtain ⟨v0, v1, v2, v3, y0, y1, y2, y3, n, rfl, _, _, h0, h1, h2, h3⟩ := open_agg4 Try.underlying72 (by kernel_rfl) cells72 hv h
  obtain ⟨o, A, c, ho, rfl, rfl, rfl, rfl, hi, hn⟩ := open_fields h0 h1 h2 h3
  exact ⟨o, A, c, ho, rfl, hi, hn⟩
theorem open_ops {a : Option Addr} {len cap : Nat} {d : DataW H} {p : List MemPlace} (h : DataW.Trod enc Try.prog W base (fun _ => true) held 66 (.slice a len cap) d p) :
    ∃ L : List OpL, L.length = len ∧ OpsAt W a L ∧ ∀ x ∈ L, OpOk x := by
  obtain ⟨fuel, hf⟩ := h
  rcases open_slice Try.underlying66 hf with ⟨hcs, _⟩ | ⟨x, l, c, m, n, D, Pl, hcs, _, hl, hm, hmm, _, hall⟩
  · simp [Value.cells] at hcs
    obtain ⟨rfl, rfl, rfl⟩ := hcs
    exact ⟨[], rfl, fun i o h => by simp at h, fun x hx => by simp at hx⟩
  · simp [Value.cells] at hcs
    obtain ⟨rfl, rfl, rfl⟩ := hcs
    simp only [if_true] at hmm
    subst hmm
    obtain ⟨L, hL, hQ⟩ := list_of (fun i (o : OpL) => OpOk o ∧ ∃ Ab cb, W.cell? (x.add (i * 4)) = some (.int .i64 o.kind) ∧ W.cell? ⟨(x.add (i * 4)).block, (x.add (i * 4)).off + 1, none⟩ = some (.int .i64 o.num) ∧ W.cell? ⟨(x.add (i * 4)).block, (x.add (i * 4)).off + 2, none⟩ = some (.string o.name) ∧ W.cell? ⟨(x.add (i * 4)).block, (x.add (i * 4)).off + 3, none⟩ = some (.slice Ab o.b.length cb) ∧ Ints W Ab .u8 o.b ∧ (Ab = none → o.b.length = 0 ∧ cb = 0)) len (fun i hi => by
      obtain ⟨cs', hc, ht⟩ := hall i (by omega)
      rw [cells72] at hc
      obtain ⟨_, hcl, hat⟩ := World.cells?_some hc
      match cs', hcl with
      | [z0, z1, z2, z3], _ =>
        have a0 := hat 0 (by omega)
        have a1 := hat 1 (by omega)
        have a2 := hat 2 (by omega)
        have a3 := hat 3 (by omega)
        obtain ⟨b, hb⟩ : ∃ b, b = x.add (i * 4) := ⟨_, rfl⟩
        rw [← hb] at a0 a1 a2 a3 ⊢
        have a00 : W.cell? b = some z0 := by simpa [Addr.add] using a0
        obtain ⟨bb, bo, bs⟩ := b
        have hsp : bs = none := World.cell?_spot a00
        subst hsp
        obtain ⟨m, ⟨_, f0⟩, ⟨_, f1⟩, ⟨_, f2⟩, ⟨_, f3⟩⟩ := fields_of ht
        obtain ⟨o, A, cc, ho, rfl, rfl, rfl, rfl, hi4, hn4⟩ := open_fields f0 f1 f2 f3
        exact ⟨o, ho, A, cc, a00, by simpa [Addr.add] using a1, by simpa [Addr.add] using a2, by simpa [Addr.add] using a3, hi4, hn4⟩)
    refine ⟨L, hL, fun i o hi => ?_, fun o ho => ?_⟩
    · obtain ⟨_, Ab, cb, h0, h1, h2, h3, h4, h5⟩ := hQ i o hi
      exact ⟨x, Ab, cb, rfl, h0, h1, h2, h3, h4, h5⟩
    · obtain ⟨j, hj, rfl⟩ := List.getElem_of_mem ho
      exact (hQ j _ (List.getElem?_eq_getElem hj)).1
end
end Go.Proofs.Ytoejmjhfecppcaa
