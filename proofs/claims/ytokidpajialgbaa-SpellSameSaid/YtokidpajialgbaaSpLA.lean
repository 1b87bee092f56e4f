/- A row of bytes that a writer holds: its own, or a full one whatever its mark. -/
import Derived.Test.YtokidpajialgbaaSpC
import Derived.Test.YtokidpajialgbaaMemC
import Derived.Test.YtokidpajialgbaaFrm
namespace Go.Proofs.Ytokidpajialgbaa
set_option linter.unusedSimpArgs false
set_option linter.unusedVariables false
open Go.RowKit
/-- a row of bytes, own, or full (then the next append moves it) -/
def RowM (w : World) (base : Nat) (v : Value) (n : Nat) (xs : List Value) : Prop :=
  w.ownsRow base 5 1 v n xs ∨ ∃ g fz, v = .slice (some ⟨g, 0, none⟩) n n ∧ base ≤ g ∧ w.heap[g]? = some (.cells xs.toArray 5 fz) ∧ xs.length = n ∧ n ≤ maxLen
theorem RowM.own {w : World} {base n : Nat} {v : Value} {xs : List Value} (h : w.ownsRow base 5 1 v n xs) : RowM w base v n xs := .inl h
theorem RowM.len {w : World} {base n : Nat} {v : Value} {xs : List Value} (h : RowM w base v n xs) : xs.length = n := by
  rcases h with h | ⟨g, fz, _, _, _, h, _⟩
  · have := h.1; omega
  · exact h
theorem RowM.lt {w : World} {base n : Nat} {v : Value} {xs : List Value} (h : RowM w base v n xs) : ∀ k, v.ownBlock = some k → base ≤ k ∧ k < w.heap.size := by
  rcases h with h | ⟨g, fz, rfl, h1, h2, _⟩
  · exact h.lt
  · intro k hk
    have : g = k := by simpa [Value.ownBlock] using hk
    subst this
    exact ⟨h1, (Array.getElem?_eq_some_iff.1 h2).1⟩
theorem RowM.keep {w w' : World} {base n : Nat} {v : Value} {xs : List Value} (h : RowM w base v n xs) (hk : ∀ g, v.ownBlock = some g → w'.heap[g]? = w.heap[g]?) : RowM w' base v n xs := by
  rcases h with h | ⟨g, fz, rfl, h1, h2, h3⟩
  · refine .inl ⟨h.1, ?_⟩
    rcases h.2 with h1 | ⟨g, c, cur, rfl, h2, h3, h4⟩
    · exact .inl h1
    · exact .inr ⟨g, c, cur, rfl, h2, (hk g rfl).trans h3, h4⟩
  · exact .inr ⟨g, fz, rfl, h1, (hk g rfl).trans h2, h3⟩
theorem RowM.form {w : World} {base n : Nat} {v : Value} {xs : List Value} (h : RowM w base v n xs) : ∃ A m c, v = .slice A m c := by
  rcases h with h | ⟨g, fz, rfl, _⟩
  · rcases h.2 with ⟨h1, _⟩ | ⟨g, c, cur, rfl, _⟩
    · exact ⟨_, _, _, h1⟩
    · exact ⟨_, _, _, rfl⟩
  · exact ⟨_, _, _, rfl⟩
theorem RowM.weak {w : World} {base base' n : Nat} {v : Value} {xs : List Value} (h : RowM w base v n xs) (hb : base' ≤ base) : RowM w base' v n xs := by
  rcases h with h | ⟨g, fz, rfl, h1, h2⟩
  · refine .inl ⟨h.1, ?_⟩
    rcases h.2 with h1 | ⟨g, c, cur, rfl, h2, h3⟩
    · exact .inl h1
    · exact .inr ⟨g, c, cur, rfl, Nat.le_trans hb h2, h3⟩
  · exact .inr ⟨g, fz, rfl, Nat.le_trans hb h1, h2⟩
theorem RowM.alloc {w : World} {base n : Nat} {v : Value} {xs : List Value} (h : RowM w base v n xs) (o : Obj) : RowM (w.alloc o) base v n xs :=
  h.keep (fun g hg => heap_alloc_old w o (h.lt g hg).2)
/-- what the row reads as -/
theorem RowM.ints {w : World} {base n : Nat} {v : Value} {l : List Int} (h : RowM w base v n (l.map (.int .u8))) : ∃ A c, v = .slice A n c ∧ n ≤ maxLen ∧ l.length = n ∧ Ints w A .u8 l := by
  rcases h with h | ⟨g, fz, rfl, h1, h2, h3, h4⟩
  · rcases h.2 with ⟨rfl, rfl⟩ | ⟨g, c, cur, rfl, h2, h3, h4, h5, h6⟩
    · have h0 : l = [] := by have := h.1; simp at this; exact this
      subst h0
      exact ⟨none, 0, rfl, by unfold maxLen; omega, rfl, fun i v hi => absurd hi (by simp)⟩
    · refine ⟨some ⟨g, 0, none⟩, c, rfl, Nat.le_trans h4 h5, by have := h.1; simpa using this, fun i v hi => ⟨_, rfl, h.cells rfl i v hi⟩⟩
  · refine ⟨_, n, rfl, h4, by simpa using h3, fun i v hi => ⟨_, rfl, ?_⟩⟩
    rw [Addr.add_mid, cell_of_row _ _ _ _ _ _ h2]
    simpa using hi
theorem wpList_appM {w : World} {ops : Array Oper} {rest : List Oper} {o : Oper} {a : Act} {Q : Exit → Act → World → Prop} (hgd : o.guard = none) (s x : Operand)
    (ho : o.op = .call { callee := .builtin .append, args := #[s, x], argTypes := #[22, 22] })
    (base : Nat) (hi : (Try.prog.info? 5).map (fun i => (i.zero, i.size, i.bytes)) = some (some (.int .u8 0), 1, 1))
    (v : Value) (n : Nat) (xs : List Value) (hs : a.eval s = v) (hown : RowM w base v n xs) (cs : Array Value) (m : Nat) (hx : a.eval x = .slice (some ⟨w.heap.size, 0, none⟩) m m) (hcs : cs.size = m) (hu : cs.all (·.oneCell') = true)
    (hm : 0 < m) (hbytes : n + m ≤ 140737488355328) (hbase : base ≤ w.heap.size)
    (h : ∀ g c w', w'.ownsRow base 5 1 (.slice (some ⟨g, 0, none⟩) (n + m) c) (n + m) (xs ++ cs.toList) → w.grownBy w' v.ownBlock → (v.ownBlock = some g ∨ w.heap.size ≤ g) → wpList Try.prog ops Q rest (a.put o.dst (.slice (some ⟨g, 0, none⟩) (n + m) c)) w') :
    wpList Try.prog ops Q (o :: rest) a (w.alloc (.cells cs 5)) := by
  rcases hown with hown | ⟨g, fz, rfl, h1, h2, h3, h4⟩
  · exact wpList_appL w hgd s x 22 ho base 5 (.int .u8 0) 1 1 Try.underlying22 hi rfl (by decide) v n xs hs hown cs m hx (by omega) hu hm (by omega) (by decide) hbase h
  · obtain ⟨i0, hi0, hz0, hz1, hz2⟩ := info_parts hi
    have h2' := (heap_alloc_old w (.cells cs 5) (Array.getElem?_eq_some_iff.1 h2).1).trans h2
    have hr := run_append_grow (P := Try.prog) (w.alloc (.cells cs 5)) 22 o.type 5 i0 (.int .u8 0) Try.underlying22 hi0 hz0 ⟨g, 0, none⟩ n n xs (by rw [hz1, h3, Nat.mul_one])
      (fun j u hj => by rw [Addr.add_mid, cell_of_row _ _ _ _ _ _ h2']; simpa using hj) ⟨w.heap.size, 0, none⟩ m m cs.toList (by rw [hz1]; simpa using hcs)
      (fun j u hj => by rw [Addr.add_mid, cell_of_row _ _ _ _ _ _ (heap_alloc_new w _)]; simpa using hj) (by omega) (by omega) (by rw [hz2]; exact growslice_fits (by omega) (by omega))
    refine wpList_plain hgd fun K hK => ?_
    unfold Oper.wp execOp
    simp only [ho, resolve, invoke, builtin, Sem.run_bind, Sem.run_pure, Result.andThen_ok, List.map_toArray, List.map_cons, List.map_nil, hs, hx, hr]
    have hge := grownCap_ge (w.alloc (.cells cs 5)) (n + m) n 5
    have hcm := grownCap_le_maxLen (w.alloc (.cells cs 5)) (n + m) n 5 (by unfold maxLen; omega)
    have hz3 : (Value.int IntKind.u8 0).cells.size = 1 := rfl
    refine hK _ _ (h _ _ _ ⟨by simp [h3, hcs], .inr ⟨_, _, _, rfl, ?_, heap_alloc_new _ _, hge, hcm, ?_, ?_⟩⟩ ⟨rfl, rfl, rfl, ?_, fun k hk _ => ?_⟩ (.inr (by simp)))
    · simp; omega
    · simp only [Array.size_append, List.size_toArray, size_zeroCells, hz3, h3, Array.length_toList, hcs]
      omega
    · simp only [Array.toList_append, List.append_assoc]
      rw [← List.append_assoc]
      have hl : (xs ++ cs.toList).length = (n + m) * 1 := by simp [h3, hcs]
      rw [← hl]
      exact List.take_left
    · simp; omega
    · exact (heap_alloc_old (w.alloc (.cells cs 5)).drew _ (by simp; omega)).trans (heap_alloc_old w _ hk)
end Go.Proofs.Ytokidpajialgbaa
