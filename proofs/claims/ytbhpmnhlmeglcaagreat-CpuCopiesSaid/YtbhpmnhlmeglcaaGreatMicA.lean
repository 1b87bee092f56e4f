/- Package micro: steps put behind: the words for it, and the smallest functions. -/
import Derived.Test.YtbhpmnhlmeglcaaGreatRows
import Derived.Test.YtbhpmnhlmeglcaaGreatMemC
import Derived.ArgAppend
import Derived.Test.YtbhpmnhlmeglcaaGreatFrm
namespace Go.Proofs.YtbhpmnhlmeglcaaGreat
set_option linter.unusedSimpArgs false
set_option linter.unusedVariables false
open Go.RowKit
/-- append onto a row of the call's own: in place, or all in new memory -/
theorem run_append_all {P : Program} (w : World) (base : Nat) (t ty e : TypeId) (i : TypeInfo) (z : Value) (size bytes : Nat) (ht : P.underlying t = some (.slice e)) (hi : P.info? e = some i) (hz : i.zero = some z)
    (hsize : i.size = size) (hby : i.bytes = bytes) (hzs : z.cells.size = size) (hsz : 0 < size)
    (v : Value) (n : Nat) (xs : List Value) (hown : w.ownsRow base e size v n xs)
    (a : Addr) (m c : Nat) (news : List Value) (hl : news.length = m * size) (hnews : ∀ j u, news[j]? = some u → w.cell? (a.add j) = some u) (h1 : ∀ u ∈ news, u.oneCell' = true)
    (hm : 0 < m) (h63 : n + m ≤ maxLen) (hbytes : (n + m) * bytes ≤ 140737488355328) (hbase : base ≤ w.heap.size) :
    ∃ g c' w', (Builtin.append_ #[t, t] ty #[v, .slice (some a) m c]).run P w = .ok (.slice (some ⟨g, 0, none⟩) (n + m) c') w' ∧ w'.ownsRow base e size (.slice (some ⟨g, 0, none⟩) (n + m) c') (n + m) (xs ++ news) ∧ w.grownBy w' v.ownBlock ∧
      (v.ownBlock = some g ∨ (w.heap.size ≤ g ∧ w.grownBy w' none)) := by
  obtain ⟨v', w', hr, h2, h3, _, h5⟩ := run_append_own_at (P := P) w base t ty e i z size bytes ht hi hz hsize hby hzs hsz v n xs hown a m c news hl hnews h1 h63 hbytes hbase
  obtain ⟨g, c', rfl, _⟩ := h2.form (by omega)
  refine ⟨g, c', w', hr, h2, h3, ?_⟩
  have hg : v.ownBlock = some g ∨ g = w.heap.size := by
    rcases h5 with h | h
    · exact .inl (by rw [← h]; rfl)
    · exact .inr (by simpa [Value.ownBlock] using h)
  rcases hown.2 with ⟨rfl, rfl⟩ | ⟨g0, cap, cur, rfl, hbg, hh, hnc, hcm, hcs, htake⟩
  · rcases hg with h | h
    · exact .inl h
    · exact .inr ⟨by omega, h3⟩
  · by_cases hroom : n + m ≤ cap
    · subst hsize
      have hfit : n * i.size + news.length ≤ cur.size := by rw [hl, hcs, ← Nat.add_mul]; exact Nat.mul_le_mul_right _ hroom
      have hr2 := run_append_room (P := P) w t ty e i ht hi g0 n cap cur hh a m c news hl hnews h1 hroom hfit
      rw [hr] at hr2
      injection hr2 with hv _
      injection hv with hv _ _
      injection hv with hv
      injection hv with hv _
      exact .inl (by rw [hv]; rfl)
    · obtain ⟨v2, w2, hr2, _, hg2⟩ := run_append_arg_grows (P := P) w t ty e i z size bytes ht hi hz hsize hby hzs hsz ⟨g0, 0, none⟩ n cap xs hown.1 (hown.cells (g := g0) rfl) a m c news hl hnews (by omega) h63 hbytes
      rw [hr] at hr2
      injection hr2 with _ hw
      subst hw
      rcases hg with h | h
      · exact .inl h
      · exact .inr ⟨by omega, hg2⟩

/-- from the world w0 and the list v0 of the cells xs on: in w the list v bears xs and ys, and the old list's cells are as they were -/
structure St (T base : Nat) (w0 : World) (v0 : Value) (xs : List Value) (w : World) (v : Value) (ys : List Value) : Prop where
  own : ∃ n, w.ownsRow base T 4 v n (xs ++ ys)
  base_le : base ≤ w0.heap.size
  grown : w0.grownBy w v0.ownBlock
  place : v.ownBlock = v0.ownBlock ∨ ∀ g, v.ownBlock = some g → w0.heap.size ≤ g
  lt : ∀ g, v0.ownBlock = some g → g < w0.heap.size
  keep : ∀ g, v0.ownBlock = some g → ∀ j, j < xs.length → w.cell? ⟨g, j, none⟩ = w0.cell? ⟨g, j, none⟩

section
variable {T base : Nat} {w0 w w' : World} {v0 v : Value} {xs ys : List Value}
theorem St.refl {n : Nat} (h : w0.ownsRow base T 4 v0 n xs) (hb : base ≤ w0.heap.size) : St T base w0 v0 xs w0 v0 [] :=
  ⟨⟨n, by simpa using h⟩, hb, grownBy_refl _ _, .inl rfl, fun g hg => (h.lt g hg).2, fun _ _ _ _ => rfl⟩
theorem own_below {e size n : Nat} (h : w.ownsRow base e size v n xs) (hb : Below w.heap.size w w') : w'.ownsRow base e size v n xs :=
  h.kept (row := none) ⟨hb.os, hb.tape, hb.output, hb.size, fun k hk _ => hb.block k hk⟩ (by cases v.ownBlock <;> simp)
theorem St.below (h : St T base w0 v0 xs w v ys) (hb : Below w.heap.size w w') : St T base w0 v0 xs w' v ys := by
  obtain ⟨n, ho⟩ := h.own
  refine ⟨⟨n, own_below ho hb⟩, h.base_le, ?_, h.place, h.lt, fun g hg j hj => ?_⟩
  · exact grownBy_trans h.grown (grownBy_below hb)
  · have hlt : g < w.heap.size := Nat.lt_of_lt_of_le (h.lt g hg) h.grown.size
    have e : w'.cell? ⟨g, j, none⟩ = w.cell? ⟨g, j, none⟩ := hb.cell (p := ⟨g, j, none⟩) hlt
    rw [e]; exact h.keep g hg j hj
theorem St.trans {w1 : World} {v1 : Value} {zs : List Value} (h : St T base w0 v0 xs w v ys) (h' : St T base w v (xs ++ ys) w1 v1 zs) (hz : True) : St T base w0 v0 xs w1 v1 (ys ++ zs) := by
  have hsz := h.grown.size
  refine ⟨?_, h.base_le, ?_, ?_, h.lt, fun g hg j hj => ?_⟩
  · obtain ⟨n, ho⟩ := h'.own
    exact ⟨n, by rw [← List.append_assoc]; exact ho⟩
  · refine ⟨h'.grown.os.trans h.grown.os, h'.grown.tape.trans h.grown.tape, h'.grown.output.trans h.grown.output, Nat.le_trans hsz h'.grown.size, fun k hk hr => ?_⟩
    refine (h'.grown.block k (by omega) ?_).trans (h.grown.block k hk hr)
    intro e
    rcases h.place with hp | hp
    · exact hr (by rw [e, hp])
    · have := hp k e.symm; omega
  · rcases h'.place with hp | hp
    · rw [hp]; exact h.place
    · exact .inr fun g hg => Nat.le_trans hsz (hp g hg)
  · rw [← h.keep g hg j hj]
    have hlt := h.lt g hg
    by_cases e : v.ownBlock = some g
    · exact h'.keep g e j (by rw [List.length_append]; omega)
    · unfold World.cell?
      rw [h'.grown.block g (by omega) (fun x => e x.symm)]
end
end Go.Proofs.YtbhpmnhlmeglcaaGreat
