/- More words for memory: elements appended, the place told; two rows apart. -/
import Derived.Test.YtokidpajialgbaaMemB
import Derived.Maps.AppendAt
namespace Go.Proofs.Ytokidpajialgbaa
open Go.RowKit
/-- append of elements that lie in the block laid last, onto a row of the call's own; where the new row lies is told -/
theorem wpList_appL {P : Program} (w : World) {ops : Array Oper} {rest : List Oper} {o : Oper} {a : Act} {Q : Exit → Act → World → Prop} (hgd : o.guard = none) (s x : Operand) (t : TypeId)
    (ho : o.op = .call { callee := .builtin .append, args := #[s, x], argTypes := #[t, t] })
    (base : Nat) (e : TypeId) (z : Value) (size bytes : Nat) (ht : P.underlying t = some (.slice e)) (hi : (P.info? e).map (fun i => (i.zero, i.size, i.bytes)) = some (some z, size, bytes)) (hzs : z.cells.size = size) (hsz : 0 < size)
    (v : Value) (n : Nat) (xs : List Value) (hs : a.eval s = v) (hown : w.ownsRow base e size v n xs) (cs : Array Value) (m : Nat) (hx : a.eval x = .slice (some ⟨w.heap.size, 0, none⟩) m m) (hcs : cs.size = m * size) (hu : cs.all (·.oneCell') = true)
    (hm : 0 < m) (hbytes : (n + m) * bytes ≤ 140737488355328) (hb1 : 1 ≤ bytes) (hbase : base ≤ w.heap.size)
    (h : ∀ g c w', w'.ownsRow base e size (.slice (some ⟨g, 0, none⟩) (n + m) c) (n + m) (xs ++ cs.toList) → w.grownBy w' v.ownBlock → (v.ownBlock = some g ∨ w.heap.size ≤ g) → wpList P ops Q rest (a.put o.dst (.slice (some ⟨g, 0, none⟩) (n + m) c)) w') :
    wpList P ops Q (o :: rest) a (w.alloc (.cells cs e)) := by
  obtain ⟨i0, hi0, hz0, hz1, hz2⟩ := info_parts hi
  refine wpList_append_own_at _ hgd s x t ho base e i0 z size bytes ht hi0 hz0 hz1 hz2 hzs hsz v n xs hs (hown.alloc _) ⟨w.heap.size, 0, none⟩ m m cs.toList hx (by simpa using hcs) ?_ ?_ ?_ hbytes (by simp; omega) ?_
  · intro j u hj
    rw [Addr.add_mid, cell_of_row _ _ _ _ _ _ (heap_alloc_new w _)]
    simpa using hj
  · intro u hu'
    obtain ⟨j, hj, rfl⟩ := List.getElem_of_mem hu'
    rw [Array.all_eq_true] at hu
    exact hu j (by simpa using hj)
  · have : n + m ≤ (n + m) * bytes := Nat.le_mul_of_pos_right _ hb1
    unfold maxLen; omega
  · intro v' w' h1 h2 _ h4
    obtain ⟨g, c, rfl, _⟩ := h1.form (by omega)
    refine h g c w' h1 (grownBy_of_alloc h2) ?_
    rcases h4 with h4 | h4
    · exact .inl h4.symm
    · right
      have : g = w.heap.size + 1 := by simpa [Value.ownBlock] using h4
      omega
/-- two rows lie apart -/
def Apart (v v' : Value) : Prop := ∀ g, v.ownBlock = some g → v'.ownBlock ≠ some g
theorem Apart.symm {v v' : Value} (h : Apart v v') : Apart v' v := fun g h1 h2 => h g h2 h1
theorem Apart.nil (v : Value) : Apart (.slice none 0 0) v := fun g h => by simp [Value.ownBlock] at h
theorem Apart.kept {w w' : World} {v v' : Value} {base : Nat} {e : TypeId} {size n : Nat} {xs : List Value} (h : Apart v v') (ho : w.ownsRow base e size v' n xs) (hg : w.grownBy w' v.ownBlock) : w'.ownsRow base e size v' n xs := by
  refine ho.kept hg ?_
  cases hv : v'.ownBlock with
  | none => exact .inl rfl
  | some g => exact .inr fun e => h g e.symm hv
theorem Apart.step {w : World} {v v' : Value} {base : Nat} {e : TypeId} {size n g : Nat} {xs : List Value} {m c : Nat} (h : Apart v v') (ho : w.ownsRow base e size v' n xs) (hg : v.ownBlock = some g ∨ w.heap.size ≤ g) :
    Apart (.slice (some ⟨g, 0, none⟩) m c) v' := fun g' h1 h2 => by
  have : g = g' := by simpa [Value.ownBlock] using h1
  subst this
  rcases hg with hg | hg
  · exact h g hg h2
  · have := (ho.lt g h2).2; omega
end Go.Proofs.Ytokidpajialgbaa
