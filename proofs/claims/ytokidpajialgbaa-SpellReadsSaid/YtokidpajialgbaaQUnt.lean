/- A region that draws its order and stores into a cell that it has loaded: a condition on the world that holds UNTIL one operation has come up. -/
import Derived.Deep.RegionHeld
namespace Go.Proofs.Ytokidpajialgbaa
set_option linter.unusedSimpArgs false
set_option linter.unusedVariables false
section
variable {P : Program} {ops : Array Oper} {Q : Exit → Act → World → Prop} {md : Region.Mode} {S : World → Prop} {k : Nat}
/-- whatever order is picked from here on; until operation k has come up, S holds -/
def wpUntil (P : Program) (md : Region.Mode) (ops : Array Oper) (Q : Exit → Act → World → Prop) (S : World → Prop) (k : Nat) : Nat → Array Bool → Act → World → Prop
  | 0, listed, a, w => Region.ready md ops listed = [] ∧ Q .normal a w
  | n + 1, listed, a, w => (Region.ready md ops listed = [] → Q .normal a w) ∧
      ∀ i ∈ Region.ready md ops listed, wpOp P ops Q i (fun b u => ((listed.setIfInBounds i true).getD k true = false → S u) ∧ wpUntil P md ops Q S k n (listed.setIfInBounds i true) b u) a w
theorem wpAny_of_until : ∀ (n : Nat) (listed : Array Bool) (a : Act) (w : World), wpUntil P md ops Q S k n listed a w → wpAny P md ops Q n listed a w := by
  intro n
  induction n with
  | zero => intro listed a w h; exact h
  | succ n ih => intro listed a w h; exact ⟨h.1, fun i hi => wpOp_mono (fun b u hh => ih _ b u hh.2) (h.2 i hi)⟩
/-- each of these waits for one of these, or for i -/
def waitsFor (md : Region.Mode) (ops : Array Oper) (i : Nat) (us : List Nat) : Bool :=
  us.all fun u => match ops[u]? with
    | some o => o.after.any fun e => Region.binds md e && (e.on == i || us.contains e.on)
    | none => false
theorem not_ready_of_waits {i : Nat} {us : List Nat} {listed : Array Bool} (hw : waitsFor md ops i us = true) (hi : listed.getD i true = false) (hu : ∀ u ∈ us, listed.getD u true = false) : ∀ u ∈ us, u ∉ Region.ready md ops listed := fun u h hr => by
  obtain ⟨_, o, ho, hall⟩ := mem_ready.1 hr
  have h1 := List.all_eq_true.1 hw u h
  simp only [ho] at h1
  obtain ⟨e, he, hb⟩ := Array.any_eq_true'.1 h1
  simp only [Bool.and_eq_true, Bool.or_eq_true, beq_iff_eq] at hb
  have h2 := hall e he hb.1
  have h3 : listed.getD e.on true = false := by
    rcases hb.2 with h4 | h4
    · rw [h4]; exact hi
    · exact hu _ (by simpa using h4)
  rcases Nat.lt_or_ge e.on listed.size with h' | h'
  · simp [h'] at h2 h3
    rw [h2] at h3; cases h3
  · simp [Array.getElem?_eq_none h'] at h2
/-- an operation that yields its value in every world that meets S may be taken first, while k waits for it -/
theorem wpUntil_first {i : Nat} {oi : Oper} {v : Value} {us : List Nat} (hi : ops[i]? = some oi) (hsel : ∀ (j : Nat) (o : Oper) cs b, ops[j]? = some o → o.op ≠ .select cs b)
    (hQ : ∀ c a w, Q (.panic c) (a.put oi.dst v) w → Q (.panic c) a w) (hwt : waitsFor md ops i us = true) (hk : k ∈ us) (hiu : i ∉ us) :
    ∀ (n : Nat) (listed : Array Bool) (a : Act) (w : World),
      (∀ j oj, ops[j]? = some oj → j ≠ i → listed.getD j true = false → (∀ e ∈ oj.after, Region.binds md e = true → e.on ≠ i) → oi.apart ops oj = true) →
      (∀ u ∈ us, listed.getD u true = false) → i ∈ Region.ready md ops listed → YieldsIf P ops S oi v a → S w →
      wpUntil P md ops Q S k n (listed.setIfInBounds i true) (a.put oi.dst v) w → wpUntil P md ops Q S k (n + 1) listed a w := by
  have hik : i ≠ k := fun e => hiu (e ▸ hk)
  intro n
  induction n with
  | zero =>
    intro listed a w _ hu hr hy hS H
    refine ⟨fun h => (by rw [h] at hr; cases hr), fun j hj => ?_⟩
    by_cases hji : j = i
    · subst hji; exact hy.wpOp hi hS ⟨fun _ => hS, H⟩
    · have h0 := ready_mono hj hji
      rw [H.1] at h0
      cases h0
  | succ n ih =>
    intro listed a w hfree hu hr hy hS H
    refine ⟨fun h => (by rw [h] at hr; cases hr), fun j hj => ?_⟩
    by_cases hji : j = i
    · subst hji; exact hy.wpOp hi hS ⟨fun _ => hS, H⟩
    have hi0 := (mem_ready.1 hr).1
    have hju : j ∉ us := fun h => not_ready_of_waits hwt hi0 hu j h hj
    have h1 := H.2 j (ready_mono hj hji)
    obtain ⟨hjun, oj, hoj, hall⟩ := mem_ready.1 hj
    have hnot : ∀ e ∈ oj.after, Region.binds md e = true → e.on ≠ i := fun e he hb heq => by
      have h2 := hall e he hb
      rw [heq] at h2
      rcases Nat.lt_or_ge i listed.size with h' | h'
      · simp [h'] at hi0 h2
        rw [hi0] at h2; cases h2
      · simp [Array.getElem?_eq_none h'] at h2
    have h2 := wpOp_putIf hoj (hfree j oj hoj hji hjun hnot) (fun cs b => hsel i oi cs b hi) (fun cs b => hsel j oj cs b hoj) hQ hy h1
    have hfree' : ∀ m om, ops[m]? = some om → m ≠ i → (listed.setIfInBounds j true).getD m true = false → (∀ e ∈ om.after, Region.binds md e = true → e.on ≠ i) → oi.apart ops om = true := fun m om hm hmi hun hno => by
      refine hfree m om hm hmi ?_ hno
      by_cases hjm : j = m
      · subst hjm; exact hjun
      · rw [getD_set_ne true hjm] at hun; exact hun
    have hu' : ∀ u ∈ us, (listed.setIfInBounds j true).getD u true = false := fun u h => by
      rw [getD_set_ne true (show j ≠ u from fun e => hju (e ▸ h))]; exact hu u h
    have hkk : (listed.setIfInBounds j true).getD k true = false := hu' k hk
    have hkk2 : ((listed.setIfInBounds i true).setIfInBounds j true).getD k true = false := by
      rw [Array.setIfInBounds_comm _ _ (Ne.symm hji), getD_set_ne true hik]; exact hkk
    refine wpOp_mono (fun b u h3 => ⟨fun _ => h3.2.1 hkk2, ih (listed.setIfInBounds j true) b u hfree' hu' (ready_mono hr (Ne.symm hji)) h3.1 (h3.2.1 hkk2) ?_⟩) h2
    rw [Array.setIfInBounds_comm _ _ hji]
    exact h3.2.2
/-- the same of an operation that yields its value in whatever world: k may have come up -/
theorem wpUntil_first' {i : Nat} {oi : Oper} {v : Value} (hi : ops[i]? = some oi) (hsel : ∀ (j : Nat) (o : Oper) cs b, ops[j]? = some o → o.op ≠ .select cs b)
    (hQ : ∀ c a w, Q (.panic c) (a.put oi.dst v) w → Q (.panic c) a w) (hik : i ≠ k) :
    ∀ (n : Nat) (listed : Array Bool) (a : Act) (w : World),
      (∀ j oj, ops[j]? = some oj → j ≠ i → listed.getD j true = false → (∀ e ∈ oj.after, Region.binds md e = true → e.on ≠ i) → oi.apart ops oj = true) →
      i ∈ Region.ready md ops listed → YieldsIf P ops (fun _ => True) oi v a → (listed.getD k true = false → S w) →
      wpUntil P md ops Q S k n (listed.setIfInBounds i true) (a.put oi.dst v) w → wpUntil P md ops Q S k (n + 1) listed a w := by
  have sw : ∀ (l : Array Bool), (l.setIfInBounds i true).getD k true = l.getD k true := fun l => getD_set_ne true hik
  intro n
  induction n with
  | zero =>
    intro listed a w _ hr hy hS H
    refine ⟨fun h => (by rw [h] at hr; cases hr), fun j hj => ?_⟩
    by_cases hji : j = i
    · subst hji; exact hy.wpOp hi trivial ⟨fun h => hS (by rw [← sw]; exact h), H⟩
    · have h0 := ready_mono hj hji
      rw [H.1] at h0
      cases h0
  | succ n ih =>
    intro listed a w hfree hr hy hS H
    refine ⟨fun h => (by rw [h] at hr; cases hr), fun j hj => ?_⟩
    by_cases hji : j = i
    · subst hji; exact hy.wpOp hi trivial ⟨fun h => hS (by rw [← sw]; exact h), H⟩
    have hi0 := (mem_ready.1 hr).1
    have h1 := H.2 j (ready_mono hj hji)
    obtain ⟨hjun, oj, hoj, hall⟩ := mem_ready.1 hj
    have hnot : ∀ e ∈ oj.after, Region.binds md e = true → e.on ≠ i := fun e he hb heq => by
      have h2 := hall e he hb
      rw [heq] at h2
      rcases Nat.lt_or_ge i listed.size with h' | h'
      · simp [h'] at hi0 h2
        rw [hi0] at h2; cases h2
      · simp [Array.getElem?_eq_none h'] at h2
    have h2 := wpOp_putIf hoj (hfree j oj hoj hji hjun hnot) (fun cs b => hsel i oi cs b hi) (fun cs b => hsel j oj cs b hoj) hQ hy h1
    have hfree' : ∀ m om, ops[m]? = some om → m ≠ i → (listed.setIfInBounds j true).getD m true = false → (∀ e ∈ om.after, Region.binds md e = true → e.on ≠ i) → oi.apart ops om = true := fun m om hm hmi hun hno => by
      refine hfree m om hm hmi ?_ hno
      by_cases hjm : j = m
      · subst hjm; exact hjun
      · rw [getD_set_ne true hjm] at hun; exact hun
    have hkk : ((listed.setIfInBounds i true).setIfInBounds j true).getD k true = (listed.setIfInBounds j true).getD k true := by
      rw [Array.setIfInBounds_comm _ _ (Ne.symm hji), sw]
    refine wpOp_mono (fun b u h3 => ⟨fun h => h3.2.1 (by rw [hkk]; exact h), ih (listed.setIfInBounds j true) b u hfree' (ready_mono hr (Ne.symm hji)) h3.1 (fun h => h3.2.1 (by rw [hkk]; exact h)) ?_⟩) h2
    rw [Array.setIfInBounds_comm _ _ hji]
    exact h3.2.2
/-- take number i first: a load of a cell that k stores into, or that a later one does -/
theorem until_load {i : Nat} {oi : Oper} {v : Value} (us : List Nat) {n : Nat} {listed : Array Bool} {a : Act} {w : World} (hi : ops[i]? = some oi)
    (hs : Region.noSelect ops = true) (hf : Region.free md ops listed i = true) (hr : (Region.ready md ops listed).contains i = true)
    (hc : (waitsFor md ops i us && us.contains k && !us.contains i && us.all fun u => !listed.getD u true) = true)
    (hQ : ∀ c a w, Q (.panic c) (a.put oi.dst v) w → Q (.panic c) a w) (hS : S w) (hy : YieldsIf P ops S oi v a)
    (h : wpUntil P md ops Q S k n (listed.setIfInBounds i true) (a.put oi.dst v) w) : wpUntil P md ops Q S k (n + 1) listed a w := by
  simp only [Bool.and_eq_true] at hc
  obtain ⟨⟨⟨h1, h2⟩, h3⟩, h4⟩ := hc
  exact wpUntil_first hi (Region.noSelect_spec hs) hQ h1 (by simpa using h2) (by simpa using h3) n listed a w (Region.free_spec hi hf) (fun u hu => by simpa using List.all_eq_true.1 h4 u hu) (by simpa using hr) hy hS h
/-- take number i first: whatever the world -/
theorem until_take {i : Nat} {oi : Oper} {v : Value} {n : Nat} {listed : Array Bool} {a : Act} {w : World} (hi : ops[i]? = some oi)
    (hs : Region.noSelect ops = true) (hf : Region.free md ops listed i = true) (hr : (Region.ready md ops listed).contains i = true) (hik : (i == k) = false)
    (hQ : ∀ c a w, Q (.panic c) (a.put oi.dst v) w → Q (.panic c) a w) (hS : listed.getD k true = false → S w) (hy : YieldsIf P ops (fun _ => True) oi v a)
    (h : wpUntil P md ops Q S k n (listed.setIfInBounds i true) (a.put oi.dst v) w) : wpUntil P md ops Q S k (n + 1) listed a w :=
  wpUntil_first' hi (Region.noSelect_spec hs) hQ (by simpa using hik) n listed a w (Region.free_spec hi hf) (by simpa using hr) hy hS h
/-- each of these comes up next -/
def AllUntil (P : Program) (md : Region.Mode) (ops : Array Oper) (Q : Exit → Act → World → Prop) (S : World → Prop) (k : Nat) (n : Nat) (listed : Array Bool) (a : Act) (w : World) (rs : List Nat) : Prop :=
  ∀ i ∈ rs, wpOp P ops Q i (fun b u => ((listed.setIfInBounds i true).getD k true = false → S u) ∧ wpUntil P md ops Q S k n (listed.setIfInBounds i true) b u) a w
theorem AllUntil.nil {n : Nat} {listed : Array Bool} {a : Act} {w : World} : AllUntil P md ops Q S k n listed a w [] := fun _ h => by cases h
theorem AllUntil.cons {n : Nat} {listed : Array Bool} {a : Act} {w : World} {i : Nat} {o : Oper} {rs : List Nat} (ho : ops[i]? = some o)
    (h : ∀ K : Act → World → Prop, Shut (∀ b u, ((listed.setIfInBounds i true).getD k true = false → S u) → wpUntil P md ops Q S k n (listed.setIfInBounds i true) b u → K b u) → if Region.wanted o (yielded ops a.tmps) = true then Oper.wp P o a w K Q else K (a.put o.dst undef) w)
    (hs : AllUntil P md ops Q S k n listed a w rs) : AllUntil P md ops Q S k n listed a w (i :: rs) := fun j hj => by
  rcases List.mem_cons.1 hj with rfl | hj
  · exact wpOp_step ho (fun K hK => h K (fun b u hS hW => hK b u ⟨hS, hW⟩))
  · exact hs j hj
theorem until_ready {rs : List Nat} {n : Nat} {listed : Array Bool} {a : Act} {w : World} (hr : Region.ready md ops listed = rs) (hne : rs ≠ [])
    (h : AllUntil P md ops Q S k n listed a w rs) : wpUntil P md ops Q S k (n + 1) listed a w := ⟨fun h0 => absurd (hr ▸ h0) hne, hr ▸ h⟩
theorem until_done {listed : Array Bool} {a : Act} {w : World} (hr : Region.ready md ops listed = []) (h : Q .normal a w) : ∀ n, wpUntil P md ops Q S k n listed a w
  | 0 => ⟨hr, h⟩
  | _ + 1 => ⟨fun _ => h, by rw [hr]; simp⟩
/-- the beginning -/
theorem until_start (k : Nat) (S : World → Prop) {id : Nat} {a : Act} {w : World} (hm : P.follows .mixedOrders = true)
    (h : wpUntil P .any ops Q S k ops.size (Array.replicate ops.size false) a w.drew) : (Code.region id ops true).wp P Q a w := wp_region_any hm (wpAny_of_until _ _ _ _ h)
end
end Go.Proofs.Ytokidpajialgbaa
