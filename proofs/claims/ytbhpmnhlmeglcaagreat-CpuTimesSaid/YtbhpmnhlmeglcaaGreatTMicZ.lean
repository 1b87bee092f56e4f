/- Texts that are laid together: MicZ. -/
import Derived.Test.YtbhpmnhlmeglcaaGreatRows
import Derived.Test.YtbhpmnhlmeglcaaGreatTMem
import Derived.ArgAppend
import Derived.Test.YtbhpmnhlmeglcaaGreatTReg
namespace Go.Proofs.YtbhpmnhlmeglcaaGreat
set_option linter.unusedSimpArgs false
set_option linter.unusedVariables false
open Go.RowKit
/-- append onto a row of the call's own: in place, or all in new memory -/
theorem run_append_all {P : Program} (w : World) (base : Nat) (t ty e : TypeId) (i : TypeInfo) (z : Value) (size bytes : Nat) (ht : P.underlying t = some (.slice e)) (hi : P.info? e = some i) (hz : i.zero = some z)
    (hsize : i.size = size) (hby : i.bytes = bytes) (hzs : z.cells.size = size) (hsz : 0 < size)
    (v : Value) (n : Nat) (xs : List Value) (hown : w.ownsRow base e size v n xs)
    (a : Addr) (m c : Nat) (news : List Value) (hl : news.length = m * size) (hnews : ∀ j u, news[j]? = some u → w.cell? (a.add j) = some u) (h1 : ∀ u ∈ news, u.oneCell' = true)
    (hm : 0 < m) (h63 : n + m ≤ maxLen) (hbytes : (n + m) * bytes ≤ 140737488355328) (hbase : base ≤ w.heap.size) :
    ∃ g c' w', (Builtin.append_ #[t, t] ty #[v, .slice (some a) m c]).run P w = .ok (.slice (some ⟨g, 0, none⟩) (n + m) c') w' ∧ w'.ownsRow base e size (.slice (some ⟨g, 0, none⟩) (n + m) c') (n + m) (xs ++ news) ∧ w.grownBy w' v.ownBlock ∧
      (v.ownBlock = some g ∨ (w.heap.size ≤ g ∧ w.grownBy w' none)) := by
  obtain ⟨v', w', hr, h2, h3, _, h5⟩ := run_append_own_at (P := P) w base t ty e i z size bytes ht hi hz hsize hby hzs hsz v n xs hown a m c news hl hnews h1 h63 hbytes hbase
  obtain ⟨g, c', rfl, _⟩ := h2.form (by omega)
  refine ⟨g, c', w', hr, h2, h3, ?_⟩
  have hg : v.ownBlock = some g ∨ g = w.heap.size := by
    rcases h5 with h | h
    · exact .inl (by rw [← h]; rfl)
    · exact .inr (by simpa [Value.ownBlock] using h)
  rcases hown.2 with ⟨rfl, rfl⟩ | ⟨g0, cap, cur, rfl, hbg, hh, hnc, hcm, hcs, htake⟩
  · rcases hg with h | h
    · exact .inl h
    · exact .inr ⟨by omega, h3⟩
  · by_cases hroom : n + m ≤ cap
    · subst hsize
      have hfit : n * i.size + news.length ≤ cur.size := by rw [hl, hcs, ← Nat.add_mul]; exact Nat.mul_le_mul_right _ hroom
      have hr2 := run_append_room (P := P) w t ty e i ht hi g0 n cap cur hh a m c news hl hnews h1 hroom hfit
      rw [hr] at hr2
      injection hr2 with hv _
      injection hv with hv _ _
      injection hv with hv
      injection hv with hv _
      exact .inl (by rw [hv]; rfl)
    · obtain ⟨v2, w2, hr2, _, hg2⟩ := run_append_arg_grows (P := P) w t ty e i z size bytes ht hi hz hsize hby hzs hsz ⟨g0, 0, none⟩ n cap xs hown.1 (hown.cells (g := g0) rfl) a m c news hl hnews (by omega) h63 hbytes
      rw [hr] at hr2
      injection hr2 with _ hw
      subst hw
      rcases hg with h | h
      · exact .inl h
      · exact .inr ⟨by omega, hg2⟩

/-- from the world w0 and the list v0 of the cells xs on: in w the list v bears xs and ys, and the old list's cells are as they were -/
structure St (T base : Nat) (w0 : World) (v0 : Value) (xs : List Value) (w : World) (v : Value) (ys : List Value) : Prop where
  own : ∃ n, w.ownsRow base T 4 v n (xs ++ ys)
  base_le : base ≤ w0.heap.size
  grown : w0.grownBy w v0.ownBlock
  place : v.ownBlock = v0.ownBlock ∨ ∀ g, v.ownBlock = some g → w0.heap.size ≤ g
  lt : ∀ g, v0.ownBlock = some g → g < w0.heap.size
  keep : ∀ g, v0.ownBlock = some g → ∀ j, j < xs.length → w.cell? ⟨g, j, none⟩ = w0.cell? ⟨g, j, none⟩

section
variable {T base : Nat} {w0 w w' : World} {v0 v : Value} {xs ys : List Value}
theorem St.refl {n : Nat} (h : w0.ownsRow base T 4 v0 n xs) (hb : base ≤ w0.heap.size) : St T base w0 v0 xs w0 v0 [] :=
  ⟨⟨n, by simpa using h⟩, hb, grownBy_refl _ _, .inl rfl, fun g hg => (h.lt g hg).2, fun _ _ _ _ => rfl⟩
theorem own_below {e size n : Nat} (h : w.ownsRow base e size v n xs) (hb : Below w.heap.size w w') : w'.ownsRow base e size v n xs :=
  h.kept (row := none) ⟨hb.os, hb.tape, hb.output, hb.size, fun k hk _ => hb.block k hk⟩ (by cases v.ownBlock <;> simp)
theorem St.below (h : St T base w0 v0 xs w v ys) (hb : Below w.heap.size w w') : St T base w0 v0 xs w' v ys := by
  obtain ⟨n, ho⟩ := h.own
  refine ⟨⟨n, own_below ho hb⟩, h.base_le, ?_, h.place, h.lt, fun g hg j hj => ?_⟩
  · exact grownBy_trans h.grown (grownBy_below hb)
  · have hlt : g < w.heap.size := Nat.lt_of_lt_of_le (h.lt g hg) h.grown.size
    have e : w'.cell? ⟨g, j, none⟩ = w.cell? ⟨g, j, none⟩ := hb.cell (p := ⟨g, j, none⟩) hlt
    rw [e]; exact h.keep g hg j hj
theorem St.trans {w1 : World} {v1 : Value} {zs : List Value} (h : St T base w0 v0 xs w v ys) (h' : St T base w v (xs ++ ys) w1 v1 zs) (hz : True) : St T base w0 v0 xs w1 v1 (ys ++ zs) := by
  have hsz := h.grown.size
  refine ⟨?_, h.base_le, ?_, ?_, h.lt, fun g hg j hj => ?_⟩
  · obtain ⟨n, ho⟩ := h'.own
    exact ⟨n, by rw [← List.append_assoc]; exact ho⟩
  · refine ⟨h'.grown.os.trans h.grown.os, h'.grown.tape.trans h.grown.tape, h'.grown.output.trans h.grown.output, Nat.le_trans hsz h'.grown.size, fun k hk hr => ?_⟩
    refine (h'.grown.block k (by omega) ?_).trans (h.grown.block k hk hr)
    intro e
    rcases h.place with hp | hp
    · exact hr (by rw [e, hp])
    · have := hp k e.symm; omega
  · rcases h'.place with hp | hp
    · rw [hp]; exact h.place
    · exact .inr fun g hg => Nat.le_trans hsz (hp g hg)
  · rw [← h.keep g hg j hj]
    have hlt := h.lt g hg
    by_cases e : v.ownBlock = some g
    · exact h'.keep g e j (by rw [List.length_append]; omega)
    · unfold World.cell?
      rw [h'.grown.block g (by omega) (fun x => e x.symm)]
end
end Go.Proofs.YtbhpmnhlmeglcaaGreat
namespace Go.Proofs.YtbhpmnhlmeglcaaGreat
set_option linter.unusedSimpArgs false
set_option linter.unusedVariables false
open Go.RowKit

/-- a step, and steps as cells -/
abbrev Stp := Int × Int × Int × Int
def stp (s : Stp) : List Value := [.int .i64 s.1, .int .i64 s.2.1, .int .i64 s.2.2.1, .int .i64 s.2.2.2]
def flat (l : List Stp) : List Value := l.flatMap stp
theorem flat_append (a b : List Stp) : flat (a ++ b) = flat a ++ flat b := by simp [flat]
theorem flat_len (l : List Stp) : (flat l).length = 4 * l.length := by
  induction l with
  | nil => rfl
  | cons s l ih =>
    have e : flat (s :: l) = stp s ++ flat l := rfl
    rw [e, List.length_append, ih, List.length_cons]
    simp [stp]; omega
namespace Mi
def waitS (n at_ : Int) : Stp := (0, at_, 0, n)
def readS (at_ w : Int) : Stp := (1, at_, w, 3)
def writeS (at_ w : Int) : Stp := (2, at_, w, 3)
def workS (w : Int) : Stp := (5, 0, w, 0)
def unlessS (w : Int) : Stp := (6, 0, w, 0)
end Mi
/-- a step is handed back -/
def OneStep (s : Stp) (w : World) (e : Ending) (w' : World) : Prop := e = .returned (.agg #[.int .i64 s.1, .int .i64 s.2.1, .int .i64 s.2.2.1, .int .i64 s.2.2.2]) ∧ Below w.heap.size w w'
theorem infoStep : (Tryz.prog.info? 65).map (fun i => (i.zero, i.size, i.bytes)) = some (some (.agg #[.int .i64 0, .int .i64 0, .int .i64 0, .int .i64 0]), 4, 32) := by kernel_rfl

set_option maxHeartbeats 400000 in
theorem wait_any (n a : Int) (w : World) : Calls Tryz.prog 95 #[.int .i64 n, .int .i64 a] w (OneStep (Mi.waitS n a) w) := by
  go_enter Tryz.func95, Tryz.ntmps95
  go_wp2
  exact bodyPost_ret (v := .agg #[.int .i64 0, .int .i64 a, .int .i64 0, .int .i64 n]) (by simp [results, Tryz.results95, go_sem]) rfl ⟨rfl, (Below.refl _ _).alloc (Nat.le_refl _) _⟩
set_option maxHeartbeats 400000 in
theorem read_step (a v : Int) (w : World) : Calls Tryz.prog 99 #[.int .i64 a, .int .i64 v] w (OneStep (Mi.readS a v) w) := by
  go_enter Tryz.func99, Tryz.ntmps99
  go_wp2
  exact bodyPost_ret (v := .agg #[.int .i64 1, .int .i64 a, .int .i64 v, .int .i64 3]) (by simp [results, Tryz.results99, go_sem]) rfl ⟨rfl, (Below.refl _ _).alloc (Nat.le_refl _) _⟩
set_option maxHeartbeats 400000 in
theorem write_step (a v : Int) (w : World) : Calls Tryz.prog 100 #[.int .i64 a, .int .i64 v] w (OneStep (Mi.writeS a v) w) := by
  go_enter Tryz.func100, Tryz.ntmps100
  go_wp2
  exact bodyPost_ret (v := .agg #[.int .i64 2, .int .i64 a, .int .i64 v, .int .i64 3]) (by simp [results, Tryz.results100, go_sem]) rfl ⟨rfl, (Below.refl _ _).alloc (Nat.le_refl _) _⟩
set_option maxHeartbeats 400000 in
theorem work_any (v : Int) (w : World) : Calls Tryz.prog 94 #[.int .i64 v] w (OneStep (Mi.workS v) w) := by
  go_enter Tryz.func94, Tryz.ntmps94
  go_wp2
  exact bodyPost_ret (v := .agg #[.int .i64 5, .int .i64 0, .int .i64 v, .int .i64 0]) (by simp [results, Tryz.results94, go_sem]) rfl ⟨rfl, (Below.refl _ _).alloc (Nat.le_refl _) _⟩
set_option maxHeartbeats 400000 in
theorem unless_any (v : Int) (w : World) : Calls Tryz.prog 101 #[.int .i64 v] w (OneStep (Mi.unlessS v) w) := by
  go_enter Tryz.func101, Tryz.ntmps101
  go_wp2
  exact bodyPost_ret (v := .agg #[.int .i64 6, .int .i64 0, .int .i64 v, .int .i64 0]) (by simp [results, Tryz.results101, go_sem]) rfl ⟨rfl, (Below.refl _ _).alloc (Nat.le_refl _) _⟩

theorem u8_and_mask (x : Int) (h0 : 0 ≤ x) (h1 : x ≤ 255) (k : Nat) (hk : k ≤ 8) : bits .and .u8 x ((2 ^ k - 1 : Nat) : Int) = x % ((2 ^ k : Nat) : Int) := by
  obtain ⟨n, rfl⟩ := Int.eq_ofNat_of_zero_le h0
  have hp : 2 ^ k ≤ 2 ^ 8 := Nat.pow_le_pow_right (by omega) hk
  rw [u8_and_nat n (2 ^ k - 1) (by omega) (by omega), Nat.and_two_pow_sub_one_eq_mod]
  omega
theorem u8_and_7 (x : Int) (h0 : 0 ≤ x) (h1 : x ≤ 255) : bits .and .u8 x 7 = x % 8 := u8_and_mask x h0 h1 3 (by omega)
theorem u8_and_3 (x : Int) (h0 : 0 ≤ x) (h1 : x ≤ 255) : bits .and .u8 x 3 = x % 4 := u8_and_mask x h0 h1 2 (by omega)
theorem u8_and_1 (x : Int) (h0 : 0 ≤ x) (h1 : x ≤ 255) : bits .and .u8 x 1 = x % 2 := u8_and_mask x h0 h1 1 (by omega)
set_option maxHeartbeats 400000 in
theorem x_any (c : Int) (w : World) (h0 : 0 ≤ c) (h1 : c ≤ 255) : Calls Tryz.prog 54 #[.int .u8 c] w fun e w' => e = .returned (.int .i64 (c / 64)) ∧ w = w' := by
  go_enter Tryz.func54, Tryz.ntmps54
  go_wp2
  go_ret
  exact ⟨rfl, rfl⟩
set_option maxHeartbeats 400000 in
theorem y_any (c : Int) (w : World) (h0 : 0 ≤ c) (h1 : c ≤ 255) : Calls Tryz.prog 97 #[.int .u8 c] w fun e w' => e = .returned (.int .i64 (c / 8 % 8)) ∧ w = w' := by
  have e := u8_and_7 (c / 8) (by omega) (by omega)
  go_enter Tryz.func97, Tryz.ntmps97
  go_wp2
  go_ret
  exact ⟨rfl, rfl⟩
set_option maxHeartbeats 400000 in
theorem z_any (c : Int) (w : World) (h0 : 0 ≤ c) (h1 : c ≤ 255) : Calls Tryz.prog 89 #[.int .u8 c] w fun e w' => e = .returned (.int .i64 (c % 8)) ∧ w = w' := by
  have e := u8_and_7 c (by omega) (by omega)
  go_enter Tryz.func89, Tryz.ntmps89
  go_wp2
  go_ret
  exact ⟨rfl, rfl⟩
set_option maxHeartbeats 400000 in
theorem p_any (c : Int) (w : World) (h0 : 0 ≤ c) (h1 : c ≤ 255) : Calls Tryz.prog 105 #[.int .u8 c] w fun e w' => e = .returned (.int .i64 (c / 16 % 4)) ∧ w = w' := by
  have e := u8_and_3 (c / 16) (by omega) (by omega)
  go_enter Tryz.func105, Tryz.ntmps105
  go_wp2
  go_ret
  exact ⟨rfl, rfl⟩
set_option maxHeartbeats 400000 in
theorem q_any (c : Int) (w : World) (h0 : 0 ≤ c) (h1 : c ≤ 255) : Calls Tryz.prog 91 #[.int .u8 c] w fun e w' => e = .returned (.int .i64 (c / 8 % 2)) ∧ w = w' := by
  have e := u8_and_1 (c / 8) (by omega) (by omega)
  go_enter Tryz.func91, Tryz.ntmps91
  go_wp2
  go_ret
  exact ⟨rfl, rfl⟩

/-- what a function of package micro does that puts steps behind a list -/
def Adds (base : Nat) (v0 : Value) (xs ys : List Value) (w : World) (e : Ending) (w' : World) : Prop := ∃ v, e = .returned v ∧ St 65 base w v0 xs w' v ys
theorem wpList_appAll {P : Program} (w : World) {ops : Array Oper} {rest : List Oper} {o : Oper} {a : Act} {Q : Exit → Act → World → Prop} (hgd : o.guard = none) (s x : Operand) (t : TypeId)
    (ho : o.op = .call { callee := .builtin .append, args := #[s, x], argTypes := #[t, t] })
    (base : Nat) (e : TypeId) (z : Value) (size bytes : Nat) (ht : P.underlying t = some (.slice e)) (hi : (P.info? e).map (fun i => (i.zero, i.size, i.bytes)) = some (some z, size, bytes)) (hzs : z.cells.size = size) (hsz : 0 < size)
    (v : Value) (n : Nat) (xs : List Value) (hs : a.eval s = v) (hown : w.ownsRow base e size v n xs) (ad : Addr) (m c : Nat) (news : List Value) (hx : a.eval x = .slice (some ad) m c) (hl : news.length = m * size) (hnews : ∀ j u, news[j]? = some u → w.cell? (ad.add j) = some u) (h1 : ∀ u ∈ news, u.oneCell' = true)
    (hm : 0 < m) (hbytes : (n + m) * bytes ≤ 140737488355328) (hb1 : 1 ≤ bytes) (hbase : base ≤ w.heap.size)
    (h : ∀ g c w', w'.ownsRow base e size (.slice (some ⟨g, 0, none⟩) (n + m) c) (n + m) (xs ++ news) → w.grownBy w' v.ownBlock → (v.ownBlock = some g ∨ (w.heap.size ≤ g ∧ w.grownBy w' none)) → wpList P ops Q rest (a.put o.dst (.slice (some ⟨g, 0, none⟩) (n + m) c)) w') :
    wpList P ops Q (o :: rest) a w := by
  obtain ⟨i0, hi0, hz0, hz1, hz2⟩ := info_parts hi
  refine wpList_plain hgd fun K hK => ?_
  have h63 : n + m ≤ maxLen := by
    have : n + m ≤ (n + m) * bytes := Nat.le_mul_of_pos_right _ hb1
    unfold maxLen; omega
  obtain ⟨g, c', w', hr, h2, h3, h4⟩ := run_append_all (P := P) w base t o.type e i0 z size bytes ht hi0 hz0 hz1 hz2 hzs hsz v n xs hown ad m c news hl hnews h1 hm h63 hbytes hbase
  unfold Oper.wp execOp
  simp only [ho, resolve, invoke, builtin, Sem.run_bind, Sem.run_pure, Result.andThen_ok, List.map_toArray, List.map_cons, List.map_nil, hs, hx, hr]
  exact hK _ _ (h g c' w' h2 h3 h4)

set_option maxHeartbeats 400000 in
/-- more: the steps lie in the block laid last -/
theorem more_any (base n m : Nat) (v : Value) (xs : List Value) (cs : Array Value) (w : World) (hown : w.ownsRow base 65 4 v n xs) (hb : base ≤ w.heap.size) (hn : n ≤ 2000) (hm0 : 0 < m) (hm : m ≤ 100) (hcs : cs.size = m * 4) (hu : cs.all (·.oneCell') = true) :
    Calls Tryz.prog 92 #[v, .slice (some ⟨w.heap.size, 0, none⟩) m m] (w.alloc (.cells cs 65)) fun e w' => ∃ g c, e = .returned (.slice (some ⟨g, 0, none⟩) (n + m) c) ∧
      w'.ownsRow base 65 4 (.slice (some ⟨g, 0, none⟩) (n + m) c) (n + m) (xs ++ cs.toList) ∧ w.grownBy w' v.ownBlock ∧ (v.ownBlock = some g ∨ (w.heap.size ≤ g ∧ w.grownBy w' none)) := by
  have HO := Lib.hid (hown.alloc (.cells cs 65))
  have hl : cs.toList.length = m * 4 := by simpa using hcs
  have hnews : ∀ j u, cs.toList[j]? = some u → (w.alloc (.cells cs 65)).cell? ((⟨w.heap.size, 0, none⟩ : Addr).add j) = some u := fun j u hj => by
    rw [Addr.add_mid, cell_of_row _ _ _ _ _ _ (heap_alloc_new w _)]
    simpa using hj
  have h1 : ∀ u ∈ cs.toList, u.oneCell' = true := fun u hu' => by
    obtain ⟨j, hj, rfl⟩ := List.getElem_of_mem hu'
    rw [Array.all_eq_true] at hu
    exact hu j (by simpa using hj)
  have HL := Lib.hid hl; have HNEWS := Lib.hid hnews; have H1 := Lib.hid h1
  obtain ⟨ad, had⟩ : ∃ ad : Addr, ad = ⟨w.heap.size, 0, none⟩ := ⟨_, rfl⟩
  rw [← had] at HNEWS ⊢
  have hG : ∀ w' : World, ∀ r, (w.alloc (.cells cs 65)).grownBy w' r → w.grownBy w' r := fun w' r h => grownBy_of_alloc h
  have HG := Lib.hid hG
  have hbase : base ≤ (w.alloc (.cells cs 65)).heap.size := by simp; omega
  have hsz : w.heap.size ≤ (w.alloc (.cells cs 65)).heap.size := by simp
  obtain ⟨w1, hw1⟩ : ∃ w1, w1 = w.alloc (.cells cs 65) := ⟨_, rfl⟩
  rw [← hw1] at HO HNEWS HG hbase hsz ⊢
  clear hw1 hl hnews h1 hG had hown hcs hu
  go_enter Tryz.func92, Tryz.ntmps92
  go_wp2_with (first | (at_builtin; refine wpList_appAll w1 rfl (.tmp 5) (.tmp 6) 43 rfl base 65 (.agg #[.int .i64 0, .int .i64 0, .int .i64 0, .int .i64 0]) 4 32 Tryz.underlying43 infoStep rfl (by decide) v n xs rfl HO.out ad m m cs.toList rfl HL.out HNEWS.out H1.out hm0 (by omega) (by omega) hbase ?_; intro g c w2 hown2 hg2 hpl; have HO2 := Lib.hid hown2; have HG2 := Lib.hid hg2; have HPL := Lib.hid hpl; clear hown2 hg2 hpl))
  go_ret
  refine ⟨g, c, rfl, HO2.out, HG.out _ _ HG2.out, ?_⟩
  rcases HPL.out with h | ⟨h, h'⟩
  · exact .inl h
  · exact .inr ⟨by omega, HG.out _ _ h'⟩
end Go.Proofs.YtbhpmnhlmeglcaaGreat
namespace Go.Proofs.YtbhpmnhlmeglcaaGreat
set_option linter.unusedSimpArgs false
set_option linter.unusedVariables false
open Go.RowKit

/-- what a chain's next call leaves -/
def Next_ (base : Nat) (w0 : World) (v0 : Value) (xs ys : List Value) (e : Ending) (w' : World) : Prop := ∃ v, e = .returned v ∧ St 65 base w0 v0 xs w' v ys

theorem more_st {base : Nat} {w0 w : World} {v0 v : Value} {xs ys : List Value} (h : St 65 base w0 v0 xs w v ys) (m : Nat) (cs : Array Value) (hx : xs.length ≤ 4400) (hy : ys.length ≤ 400) (hm0 : 0 < m) (hm : m ≤ 100) (hcs : cs.size = m * 4) (hu : cs.all (·.oneCell') = true) :
    Calls Tryz.prog 92 #[v, .slice (some ⟨w.heap.size, 0, none⟩) m m] (w.alloc (.cells cs 65)) (Next_ base w0 v0 xs (ys ++ cs.toList)) := by
  obtain ⟨n, ho⟩ := h.own
  have hlen0 := ho.1
  rw [List.length_append] at hlen0
  have hsz := h.grown.size
  refine (more_any base n m v (xs ++ ys) cs w ho (Nat.le_trans h.base_le hsz) (by omega) hm0 hm hcs hu).mono ?_
  rintro e w' ⟨g, c, rfl, ho', hg, hpl⟩
  refine ⟨_, rfl, ?_⟩
  have hlen : cs.toList.length = m * 4 := by simpa using hcs
  have key : St 65 base w v (xs ++ ys) w' (.slice (some ⟨g, 0, none⟩) (n + m) c) cs.toList := by
    refine ⟨⟨n + m, ho'⟩, Nat.le_trans h.base_le hsz, hg, ?_, fun g hg' => (ho.lt g hg').2, fun g' hg' j hj => ?_⟩
    · rcases hpl with hp | ⟨hp, _⟩
      · exact .inl (by rw [hp]; rfl)
      · exact .inr fun g' hg' => by
          have : g = g' := by simpa [Value.ownBlock] using hg'
          omega
    · have hlx : j < (xs ++ ys).length := by omega
      rcases hpl with hp | ⟨_, hp⟩
      · have hgg : g = g' := by rw [hp] at hg'; injection hg'
        subst hgg
        have h1 := ho'.cellAt j (by have := ho'.1; rw [List.length_append] at this; omega)
        rw [h1, List.getElem?_append_left hlx]
        obtain ⟨g2, c2, hv, _⟩ := ho.form (by
          have := ho.1
          omega)
        have hg2 : g2 = g := by rw [hv] at hp; injection hp
        subst hg2
        have ho3 := ho
        rw [hv] at ho3
        have h2 := ho3.cellAt j (by have := ho.1; omega)
        rw [h2]
      · unfold World.cell?
        rw [hp.block g' (ho.lt g' hg').2 (by simp)]
  exact h.trans key trivial

theorem St.cast {T base : Nat} {w0 w : World} {v0 v : Value} {xs ys ys' : List Value} (h : St T base w0 v0 xs w v ys) (e : ys = ys') : St T base w0 v0 xs w v ys' := e ▸ h
namespace Mi
def wordS : List Stp := [readS 0 0, readS 0 1]
def placeS (ix : Int) : List Stp := if ix = 0 then [] else [readS 0 0, waitS 5 9, workS 18]
end Mi
set_option maxHeartbeats 1000000 in
theorem word_any (base n : Nat) (v : Value) (xs : List Value) (w : World) (ho : w.ownsRow base 65 4 v n xs) (hb : base ≤ w.heap.size) (hx : xs.length ≤ 4400) :
    Calls Tryz.prog 93 #[v] w (Next_ base w v xs (flat Mi.wordS)) := by
  have HS := Lib.hid (St.refl ho hb)
  clear ho hb
  go_enter Tryz.func93, Tryz.ntmps93
  go_wp2_with (first
    | (go_at_call 99; refine (read_step _ _ _).mono ?_; rintro e w' ⟨rfl, hb⟩; have HS := Lib.hid (HS.out.below hb); clear hb)
    | (go_at_call 92; refine (more_st HS.out _ _ hx (by simp) (by omega) (by omega) rfl (by simp [Value.oneCell'])).mono ?_; rintro e w' ⟨v1, rfl, hs⟩; have HS := Lib.hid hs; clear hs))
  go_ret
  exact ⟨_, rfl, HS.out.cast rfl⟩
set_option maxHeartbeats 1000000 in
theorem place_any (ix : Int) (base n : Nat) (v : Value) (xs : List Value) (w : World) (ho : w.ownsRow base 65 4 v n xs) (hb : base ≤ w.heap.size) (hx : xs.length ≤ 4400) :
    Calls Tryz.prog 98 #[v, .int .i64 ix] w (Next_ base w v xs (flat (Mi.placeS ix))) := by
  have HS := Lib.hid (St.refl ho hb)
  clear ho hb
  by_cases h : ix = 0
  · have hb : (ix == 0) = true := by simpa using h
    have H := Lib.hid h; clear h
    go_enter Tryz.func98, Tryz.ntmps98
    go_wp2_with fail
    go_ret
    exact ⟨_, rfl, HS.out.cast (by unfold Mi.placeS; rw [if_pos H.out]; rfl)⟩
  · have hb : (ix == 0) = false := by simpa using h
    have H := Lib.hid h; clear h
    go_enter Tryz.func98, Tryz.ntmps98
    go_wp2_with (first
      | (go_at_call 99; refine (read_step _ _ _).mono ?_; rintro e w' ⟨rfl, hb⟩; have HS := Lib.hid (HS.out.below hb); clear hb)
      | (go_at_call 95; refine (wait_any _ _ _).mono ?_; rintro e w' ⟨rfl, hb⟩; have HS := Lib.hid (HS.out.below hb); clear hb)
      | (go_at_call 94; refine (work_any _ _).mono ?_; rintro e w' ⟨rfl, hb⟩; have HS := Lib.hid (HS.out.below hb); clear hb)
      | (go_at_call 92; refine (more_st HS.out _ _ hx (by simp) (by omega) (by omega) rfl (by simp [Value.oneCell'])).mono ?_; rintro e w' ⟨v1, rfl, hs⟩; have HS := Lib.hid hs; clear hs))
    go_ret
    exact ⟨_, rfl, HS.out.cast (by unfold Mi.placeS; rw [if_neg H.out]; rfl)⟩
end Go.Proofs.YtbhpmnhlmeglcaaGreat
