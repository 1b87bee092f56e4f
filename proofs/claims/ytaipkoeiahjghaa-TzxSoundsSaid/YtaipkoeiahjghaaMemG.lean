/- A step law: append of one element onto nil, in a region that draws. -/
import Derived.Test.YtaipkoeiahjghaaMemE
import Derived.Deep.RegionHeld3
import Derived.Deep.RegionLaw
namespace Go.Proofs.Ytaipkoeiahjghaa
set_option linter.unusedSimpArgs false
set_option linter.unusedVariables false
open Go.RowKit
/-- append of the element in block gs onto nil: it lies in a new block -/
theorem step_app_nil {P : Program} (w : World) {ops : Array Oper} {o : Oper} {a : Act} {K : Act → World → Prop} {Q : Exit → Act → World → Prop} {E : Prop} (hgd : o.guard = none) (s x : Operand) (t : TypeId)
    (ho : o.op = .call { callee := .builtin .append, args := #[s, x], argTypes := #[t, t] })
    (e : TypeId) (z : Value) (size bytes : Nat) (ht : P.underlying t = some (.slice e)) (hi : (P.info? e).map (fun i => (i.zero, i.size, i.bytes)) = some (some z, size, bytes)) (hzs : z.cells.size = size) (hsz : 0 < size)
    (hs : a.eval s = .slice none 0 0) (gs : Nat) (cs : Array Value) (fr : Nat × Nat) (hx : a.eval x = .slice (some ⟨gs, 0, none⟩) 1 1) (hsrc : w.heap[gs]? = some (.cells cs e fr)) (hcs : cs.size = size) (hu : cs.all (·.oneCell') = true)
    (hbytes : bytes ≤ 140737488355328)
    (h : ∀ g c w', w'.ownsRow w.heap.size e size (.slice (some ⟨g, 0, none⟩) 1 c) 1 cs.toList → Below w.heap.size w w' → K (a.put o.dst (.slice (some ⟨g, 0, none⟩) 1 c)) w') :
    if Region.wanted o (yielded ops a.tmps) = true then Oper.wp P o a w K Q else E := by
  obtain ⟨i0, hi0, hz0, hz1, hz2⟩ := info_parts hi
  refine step_append_lies w hgd s x t ho w.heap.size e i0 z size bytes ht hi0 hz0 hz1 hz2 hzs hsz (.slice none 0 0) 0 [] hs (World.ownsRow_nil _ _ _ _) ⟨gs, 0, none⟩ 1 1 cs.toList hx (by simpa using hcs) ?_ ?_ (by omega) (by unfold maxLen; omega) (by omega) (Nat.le_refl _) _ rfl ?_
  · intro j u hj
    rw [Addr.add_mid, cell_of_row _ _ _ _ _ _ hsrc]
    simpa using hj
  · intro u hu'
    obtain ⟨j, hj, rfl⟩ := List.getElem_of_mem hu'
    rw [Array.all_eq_true] at hu
    exact hu j (by simpa using hj)
  · intro g c w' h1 h2 _ _
    exact h g c w' (by simpa using h1) ⟨h2.os, h2.tape, h2.output, h2.size, fun k hk => h2.block k hk (by simp [Value.ownBlock])⟩
end Go.Proofs.Ytaipkoeiahjghaa
