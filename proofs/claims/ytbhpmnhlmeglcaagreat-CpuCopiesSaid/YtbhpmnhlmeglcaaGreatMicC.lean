/- Package micro: more, as a step of a chain; word, place. -/
import Derived.Test.YtbhpmnhlmeglcaaGreatMicB
namespace Go.Proofs.YtbhpmnhlmeglcaaGreat
set_option linter.unusedSimpArgs false
set_option linter.unusedVariables false
open Go.RowKit

/-- what a chain's next call leaves -/
def Next_ (base : Nat) (w0 : World) (v0 : Value) (xs ys : List Value) (e : Ending) (w' : World) : Prop := ∃ v, e = .returned v ∧ St 65 base w0 v0 xs w' v ys

theorem more_st {base : Nat} {w0 w : World} {v0 v : Value} {xs ys : List Value} (h : St 65 base w0 v0 xs w v ys) (m : Nat) (cs : Array Value) (hx : xs.length ≤ 4400) (hy : ys.length ≤ 400) (hm0 : 0 < m) (hm : m ≤ 100) (hcs : cs.size = m * 4) (hu : cs.all (·.oneCell') = true) :
    Calls Tryz.prog 92 #[v, .slice (some ⟨w.heap.size, 0, none⟩) m m] (w.alloc (.cells cs 65)) (Next_ base w0 v0 xs (ys ++ cs.toList)) := by
  obtain ⟨n, ho⟩ := h.own
  have hlen0 := ho.1
  rw [List.length_append] at hlen0
  have hsz := h.grown.size
  refine (more_any base n m v (xs ++ ys) cs w ho (Nat.le_trans h.base_le hsz) (by omega) hm0 hm hcs hu).mono ?_
  rintro e w' ⟨g, c, rfl, ho', hg, hpl⟩
  refine ⟨_, rfl, ?_⟩
  have hlen : cs.toList.length = m * 4 := by simpa using hcs
  have key : St 65 base w v (xs ++ ys) w' (.slice (some ⟨g, 0, none⟩) (n + m) c) cs.toList := by
    refine ⟨⟨n + m, ho'⟩, Nat.le_trans h.base_le hsz, hg, ?_, fun g hg' => (ho.lt g hg').2, fun g' hg' j hj => ?_⟩
    · rcases hpl with hp | ⟨hp, _⟩
      · exact .inl (by rw [hp]; rfl)
      · exact .inr fun g' hg' => by
          have : g = g' := by simpa [Value.ownBlock] using hg'
          omega
    · have hlx : j < (xs ++ ys).length := by omega
      rcases hpl with hp | ⟨_, hp⟩
      · have hgg : g = g' := by rw [hp] at hg'; injection hg'
        subst hgg
        have h1 := ho'.cellAt j (by have := ho'.1; rw [List.length_append] at this; omega)
        rw [h1, List.getElem?_append_left hlx]
        obtain ⟨g2, c2, hv, _⟩ := ho.form (by
          have := ho.1
          omega)
        have hg2 : g2 = g := by rw [hv] at hp; injection hp
        subst hg2
        have ho3 := ho
        rw [hv] at ho3
        have h2 := ho3.cellAt j (by have := ho.1; omega)
        rw [h2]
      · unfold World.cell?
        rw [hp.block g' (ho.lt g' hg').2 (by simp)]
  exact h.trans key trivial

theorem St.cast {T base : Nat} {w0 w : World} {v0 v : Value} {xs ys ys' : List Value} (h : St T base w0 v0 xs w v ys) (e : ys = ys') : St T base w0 v0 xs w v ys' := e ▸ h
namespace Mi
def wordS : List Stp := [readS 0 0, readS 0 1]
def placeS (ix : Int) : List Stp := if ix = 0 then [] else [readS 0 0, waitS 5 9, workS 18]
end Mi
set_option maxHeartbeats 1000000 in
theorem word_any (base n : Nat) (v : Value) (xs : List Value) (w : World) (ho : w.ownsRow base 65 4 v n xs) (hb : base ≤ w.heap.size) (hx : xs.length ≤ 4400) :
    Calls Tryz.prog 93 #[v] w (Next_ base w v xs (flat Mi.wordS)) := by
  have HS := Lib.hid (St.refl ho hb)
  clear ho hb
  go_enter Tryz.func93, Tryz.ntmps93
  go_wp2_with (first
    | (go_at_call 99; refine (read_step _ _ _).mono ?_; rintro e w' ⟨rfl, hb⟩; have HS := Lib.hid (HS.out.below hb); clear hb)
    | (go_at_call 92; refine (more_st HS.out _ _ hx (by simp) (by omega) (by omega) rfl (by simp [Value.oneCell'])).mono ?_; rintro e w' ⟨v1, rfl, hs⟩; have HS := Lib.hid hs; clear hs))
  go_ret
  exact ⟨_, rfl, HS.out.cast rfl⟩
set_option maxHeartbeats 1000000 in
theorem place_any (ix : Int) (base n : Nat) (v : Value) (xs : List Value) (w : World) (ho : w.ownsRow base 65 4 v n xs) (hb : base ≤ w.heap.size) (hx : xs.length ≤ 4400) :
    Calls Tryz.prog 98 #[v, .int .i64 ix] w (Next_ base w v xs (flat (Mi.placeS ix))) := by
  have HS := Lib.hid (St.refl ho hb)
  clear ho hb
  by_cases h : ix = 0
  · have hb : (ix == 0) = true := by simpa using h
    have H := Lib.hid h; clear h
    go_enter Tryz.func98, Tryz.ntmps98
    go_wp2_with fail
    go_ret
    exact ⟨_, rfl, HS.out.cast (by unfold Mi.placeS; rw [if_pos H.out]; rfl)⟩
  · have hb : (ix == 0) = false := by simpa using h
    have H := Lib.hid h; clear h
    go_enter Tryz.func98, Tryz.ntmps98
    go_wp2_with (first
      | (go_at_call 99; refine (read_step _ _ _).mono ?_; rintro e w' ⟨rfl, hb⟩; have HS := Lib.hid (HS.out.below hb); clear hb)
      | (go_at_call 95; refine (wait_any _ _ _).mono ?_; rintro e w' ⟨rfl, hb⟩; have HS := Lib.hid (HS.out.below hb); clear hb)
      | (go_at_call 94; refine (work_any _ _).mono ?_; rintro e w' ⟨rfl, hb⟩; have HS := Lib.hid (HS.out.below hb); clear hb)
      | (go_at_call 92; refine (more_st HS.out _ _ hx (by simp) (by omega) (by omega) rfl (by simp [Value.oneCell'])).mono ?_; rintro e w' ⟨v1, rfl, hs⟩; have HS := Lib.hid hs; clear hs))
    go_ret
    exact ⟨_, rfl, HS.out.cast (by unfold Mi.placeS; rw [if_neg H.out]; rfl)⟩
end Go.Proofs.YtbhpmnhlmeglcaaGreat
