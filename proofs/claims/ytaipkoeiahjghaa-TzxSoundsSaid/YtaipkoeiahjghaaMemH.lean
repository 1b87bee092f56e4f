/- A step law: append of one element onto a row of the call's own, in a region that draws. -/
import Derived.Test.YtaipkoeiahjghaaMemG
namespace Go.Proofs.Ytaipkoeiahjghaa
set_option linter.unusedSimpArgs false
set_option linter.unusedVariables false
open Go.RowKit
/-- append of the element in block gs onto a row of the call's own -/
theorem step_appO {P : Program} (w : World) {ops : Array Oper} {o : Oper} {a : Act} {K : Act → World → Prop} {Q : Exit → Act → World → Prop} {E : Prop} (hgd : o.guard = none) (s x : Operand) (t : TypeId)
    (ho : o.op = .call { callee := .builtin .append, args := #[s, x], argTypes := #[t, t] })
    (e : TypeId) (z : Value) (size bytes : Nat) (ht : P.underlying t = some (.slice e)) (hi : (P.info? e).map (fun i => (i.zero, i.size, i.bytes)) = some (some z, size, bytes)) (hzs : z.cells.size = size) (hsz : 0 < size)
    (base : Nat) (v : Value) (n : Nat) (xs : List Value) (hs : a.eval s = v) (gs : Nat) (cs : Array Value) (fr : Nat × Nat) (hx : a.eval x = .slice (some ⟨gs, 0, none⟩) 1 1) (hsrc : w.heap[gs]? = some (.cells cs e fr)) (hown : w.ownsRow base e size v n xs) (hcs : cs.size = size) (hu : cs.all (·.oneCell') = true)
    (hn : n ≤ 1000000) (hbytes : bytes ≤ 1000) (hbase : base ≤ w.heap.size)
    (h : ∀ g c w', w'.ownsRow base e size (.slice (some ⟨g, 0, none⟩) (n + 1) c) (n + 1) (xs ++ cs.toList) → w.grownBy w' v.ownBlock → K (a.put o.dst (.slice (some ⟨g, 0, none⟩) (n + 1) c)) w') :
    if Region.wanted o (yielded ops a.tmps) = true then Oper.wp P o a w K Q else E := by
  obtain ⟨i0, hi0, hz0, hz1, hz2⟩ := info_parts hi
  have hb : (n + 1) * bytes ≤ 140737488355328 := by
    have h1 : (n + 1) * bytes ≤ (1000000 + 1) * 1000 := Nat.mul_le_mul (by omega) hbytes
    omega
  refine step_append_lies w hgd s x t ho base e i0 z size bytes ht hi0 hz0 hz1 hz2 hzs hsz v n xs hs hown ⟨gs, 0, none⟩ 1 1 cs.toList hx (by simpa using hcs) ?_ ?_ (by omega) (by unfold maxLen; omega) hb hbase _ rfl ?_
  · intro j u hj
    rw [Addr.add_mid, cell_of_row _ _ _ _ _ _ hsrc]
    simpa using hj
  · intro u hu'
    obtain ⟨j, hj, rfl⟩ := List.getElem_of_mem hu'
    rw [Array.all_eq_true] at hu
    exact hu j (by simpa using hj)
  · intro g c w' h1 h2 _ _
    exact h g c w' h1 h2
end Go.Proofs.Ytaipkoeiahjghaa
