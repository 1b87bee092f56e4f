/- Package micro: contracts of the smallest functions. -/
import Derived.Test.YtbhpmnhlmeglcaaGreatMicA
import Derived.Test.YtbhpmnhlmeglcaaGreatBits
namespace Go.Proofs.YtbhpmnhlmeglcaaGreat
set_option linter.unusedSimpArgs false
set_option linter.unusedVariables false
open Go.RowKit

/-- a step, and steps as cells -/
abbrev Stp := Int × Int × Int × Int
def stp (s : Stp) : List Value := [.int .i64 s.1, .int .i64 s.2.1, .int .i64 s.2.2.1, .int .i64 s.2.2.2]
def flat (l : List Stp) : List Value := l.flatMap stp
theorem flat_append (a b : List Stp) : flat (a ++ b) = flat a ++ flat b := by simp [flat]
theorem flat_len (l : List Stp) : (flat l).length = 4 * l.length := by
  induction l with
  | nil => rfl
  | cons s l ih =>
    have e : flat (s :: l) = stp s ++ flat l := rfl
    rw [e, List.length_append, ih, List.length_cons]
    simp [stp]; omega
namespace Mi
def waitS (n at_ : Int) : Stp := (0, at_, 0, n)
def readS (at_ w : Int) : Stp := (1, at_, w, 3)
def writeS (at_ w : Int) : Stp := (2, at_, w, 3)
def workS (w : Int) : Stp := (5, 0, w, 0)
def unlessS (w : Int) : Stp := (6, 0, w, 0)
end Mi
/-- a step is handed back -/
def OneStep (s : Stp) (w : World) (e : Ending) (w' : World) : Prop := e = .returned (.agg #[.int .i64 s.1, .int .i64 s.2.1, .int .i64 s.2.2.1, .int .i64 s.2.2.2]) ∧ Below w.heap.size w w'
theorem infoStep : (Tryz.prog.info? 65).map (fun i => (i.zero, i.size, i.bytes)) = some (some (.agg #[.int .i64 0, .int .i64 0, .int .i64 0, .int .i64 0]), 4, 32) := by kernel_rfl

set_option maxHeartbeats 400000 in
theorem wait_any (n a : Int) (w : World) : Calls Tryz.prog 95 #[.int .i64 n, .int .i64 a] w (OneStep (Mi.waitS n a) w) := by
  go_enter Tryz.func95, Tryz.ntmps95
  go_wp2
  exact bodyPost_ret (v := .agg #[.int .i64 0, .int .i64 a, .int .i64 0, .int .i64 n]) (by simp [results, Tryz.results95, go_sem]) rfl ⟨rfl, (Below.refl _ _).alloc (Nat.le_refl _) _⟩
set_option maxHeartbeats 400000 in
theorem read_step (a v : Int) (w : World) : Calls Tryz.prog 99 #[.int .i64 a, .int .i64 v] w (OneStep (Mi.readS a v) w) := by
  go_enter Tryz.func99, Tryz.ntmps99
  go_wp2
  exact bodyPost_ret (v := .agg #[.int .i64 1, .int .i64 a, .int .i64 v, .int .i64 3]) (by simp [results, Tryz.results99, go_sem]) rfl ⟨rfl, (Below.refl _ _).alloc (Nat.le_refl _) _⟩
set_option maxHeartbeats 400000 in
theorem write_step (a v : Int) (w : World) : Calls Tryz.prog 100 #[.int .i64 a, .int .i64 v] w (OneStep (Mi.writeS a v) w) := by
  go_enter Tryz.func100, Tryz.ntmps100
  go_wp2
  exact bodyPost_ret (v := .agg #[.int .i64 2, .int .i64 a, .int .i64 v, .int .i64 3]) (by simp [results, Tryz.results100, go_sem]) rfl ⟨rfl, (Below.refl _ _).alloc (Nat.le_refl _) _⟩
set_option maxHeartbeats 400000 in
theorem work_any (v : Int) (w : World) : Calls Tryz.prog 94 #[.int .i64 v] w (OneStep (Mi.workS v) w) := by
  go_enter Tryz.func94, Tryz.ntmps94
  go_wp2
  exact bodyPost_ret (v := .agg #[.int .i64 5, .int .i64 0, .int .i64 v, .int .i64 0]) (by simp [results, Tryz.results94, go_sem]) rfl ⟨rfl, (Below.refl _ _).alloc (Nat.le_refl _) _⟩
set_option maxHeartbeats 400000 in
theorem unless_any (v : Int) (w : World) : Calls Tryz.prog 101 #[.int .i64 v] w (OneStep (Mi.unlessS v) w) := by
  go_enter Tryz.func101, Tryz.ntmps101
  go_wp2
  exact bodyPost_ret (v := .agg #[.int .i64 6, .int .i64 0, .int .i64 v, .int .i64 0]) (by simp [results, Tryz.results101, go_sem]) rfl ⟨rfl, (Below.refl _ _).alloc (Nat.le_refl _) _⟩

theorem u8_and_mask (x : Int) (h0 : 0 ≤ x) (h1 : x ≤ 255) (k : Nat) (hk : k ≤ 8) : bits .and .u8 x ((2 ^ k - 1 : Nat) : Int) = x % ((2 ^ k : Nat) : Int) := by
  obtain ⟨n, rfl⟩ := Int.eq_ofNat_of_zero_le h0
  have hp : 2 ^ k ≤ 2 ^ 8 := Nat.pow_le_pow_right (by omega) hk
  rw [u8_and_nat n (2 ^ k - 1) (by omega) (by omega), Nat.and_two_pow_sub_one_eq_mod]
  omega
theorem u8_and_7 (x : Int) (h0 : 0 ≤ x) (h1 : x ≤ 255) : bits .and .u8 x 7 = x % 8 := u8_and_mask x h0 h1 3 (by omega)
theorem u8_and_3 (x : Int) (h0 : 0 ≤ x) (h1 : x ≤ 255) : bits .and .u8 x 3 = x % 4 := u8_and_mask x h0 h1 2 (by omega)
theorem u8_and_1 (x : Int) (h0 : 0 ≤ x) (h1 : x ≤ 255) : bits .and .u8 x 1 = x % 2 := u8_and_mask x h0 h1 1 (by omega)
set_option maxHeartbeats 400000 in
theorem x_any (c : Int) (w : World) (h0 : 0 ≤ c) (h1 : c ≤ 255) : Calls Tryz.prog 54 #[.int .u8 c] w fun e w' => e = .returned (.int .i64 (c / 64)) ∧ w = w' := by
  go_enter Tryz.func54, Tryz.ntmps54
  go_wp2
  go_ret
  exact ⟨rfl, rfl⟩
set_option maxHeartbeats 400000 in
theorem y_any (c : Int) (w : World) (h0 : 0 ≤ c) (h1 : c ≤ 255) : Calls Tryz.prog 97 #[.int .u8 c] w fun e w' => e = .returned (.int .i64 (c / 8 % 8)) ∧ w = w' := by
  have e := u8_and_7 (c / 8) (by omega) (by omega)
  go_enter Tryz.func97, Tryz.ntmps97
  go_wp2
  go_ret
  exact ⟨rfl, rfl⟩
set_option maxHeartbeats 400000 in
theorem z_any (c : Int) (w : World) (h0 : 0 ≤ c) (h1 : c ≤ 255) : Calls Tryz.prog 89 #[.int .u8 c] w fun e w' => e = .returned (.int .i64 (c % 8)) ∧ w = w' := by
  have e := u8_and_7 c (by omega) (by omega)
  go_enter Tryz.func89, Tryz.ntmps89
  go_wp2
  go_ret
  exact ⟨rfl, rfl⟩
set_option maxHeartbeats 400000 in
theorem p_any (c : Int) (w : World) (h0 : 0 ≤ c) (h1 : c ≤ 255) : Calls Tryz.prog 105 #[.int .u8 c] w fun e w' => e = .returned (.int .i64 (c / 16 % 4)) ∧ w = w' := by
  have e := u8_and_3 (c / 16) (by omega) (by omega)
  go_enter Tryz.func105, Tryz.ntmps105
  go_wp2
  go_ret
  exact ⟨rfl, rfl⟩
set_option maxHeartbeats 400000 in
theorem q_any (c : Int) (w : World) (h0 : 0 ≤ c) (h1 : c ≤ 255) : Calls Tryz.prog 91 #[.int .u8 c] w fun e w' => e = .returned (.int .i64 (c / 8 % 2)) ∧ w = w' := by
  have e := u8_and_1 (c / 8) (by omega) (by omega)
  go_enter Tryz.func91, Tryz.ntmps91
  go_wp2
  go_ret
  exact ⟨rfl, rfl⟩

/-- what a function of package micro does that puts steps behind a list -/
def Adds (base : Nat) (v0 : Value) (xs ys : List Value) (w : World) (e : Ending) (w' : World) : Prop := ∃ v, e = .returned v ∧ St 65 base w v0 xs w' v ys
theorem wpList_appAll {P : Program} (w : World) {ops : Array Oper} {rest : List Oper} {o : Oper} {a : Act} {Q : Exit → Act → World → Prop} (hgd : o.guard = none) (s x : Operand) (t : TypeId)
    (ho : o.op = .call { callee := .builtin .append, args := #[s, x], argTypes := #[t, t] })
    (base : Nat) (e : TypeId) (z : Value) (size bytes : Nat) (ht : P.underlying t = some (.slice e)) (hi : (P.info? e).map (fun i => (i.zero, i.size, i.bytes)) = some (some z, size, bytes)) (hzs : z.cells.size = size) (hsz : 0 < size)
    (v : Value) (n : Nat) (xs : List Value) (hs : a.eval s = v) (hown : w.ownsRow base e size v n xs) (ad : Addr) (m c : Nat) (news : List Value) (hx : a.eval x = .slice (some ad) m c) (hl : news.length = m * size) (hnews : ∀ j u, news[j]? = some u → w.cell? (ad.add j) = some u) (h1 : ∀ u ∈ news, u.oneCell' = true)
    (hm : 0 < m) (hbytes : (n + m) * bytes ≤ 140737488355328) (hb1 : 1 ≤ bytes) (hbase : base ≤ w.heap.size)
    (h : ∀ g c w', w'.ownsRow base e size (.slice (some ⟨g, 0, none⟩) (n + m) c) (n + m) (xs ++ news) → w.grownBy w' v.ownBlock → (v.ownBlock = some g ∨ (w.heap.size ≤ g ∧ w.grownBy w' none)) → wpList P ops Q rest (a.put o.dst (.slice (some ⟨g, 0, none⟩) (n + m) c)) w') :
    wpList P ops Q (o :: rest) a w := by
  obtain ⟨i0, hi0, hz0, hz1, hz2⟩ := info_parts hi
  refine wpList_plain hgd fun K hK => ?_
  have h63 : n + m ≤ maxLen := by
    have : n + m ≤ (n + m) * bytes := Nat.le_mul_of_pos_right _ hb1
    unfold maxLen; omega
  obtain ⟨g, c', w', hr, h2, h3, h4⟩ := run_append_all (P := P) w base t o.type e i0 z size bytes ht hi0 hz0 hz1 hz2 hzs hsz v n xs hown ad m c news hl hnews h1 hm h63 hbytes hbase
  unfold Oper.wp execOp
  simp only [ho, resolve, invoke, builtin, Sem.run_bind, Sem.run_pure, Result.andThen_ok, List.map_toArray, List.map_cons, List.map_nil, hs, hx, hr]
  exact hK _ _ (h g c' w' h2 h3 h4)

set_option maxHeartbeats 400000 in
/-- more: the steps lie in the block laid last -/
theorem more_any (base n m : Nat) (v : Value) (xs : List Value) (cs : Array Value) (w : World) (hown : w.ownsRow base 65 4 v n xs) (hb : base ≤ w.heap.size) (hn : n ≤ 2000) (hm0 : 0 < m) (hm : m ≤ 100) (hcs : cs.size = m * 4) (hu : cs.all (·.oneCell') = true) :
    Calls Tryz.prog 92 #[v, .slice (some ⟨w.heap.size, 0, none⟩) m m] (w.alloc (.cells cs 65)) fun e w' => ∃ g c, e = .returned (.slice (some ⟨g, 0, none⟩) (n + m) c) ∧
      w'.ownsRow base 65 4 (.slice (some ⟨g, 0, none⟩) (n + m) c) (n + m) (xs ++ cs.toList) ∧ w.grownBy w' v.ownBlock ∧ (v.ownBlock = some g ∨ (w.heap.size ≤ g ∧ w.grownBy w' none)) := by
  have HO := Lib.hid (hown.alloc (.cells cs 65))
  have hl : cs.toList.length = m * 4 := by simpa using hcs
  have hnews : ∀ j u, cs.toList[j]? = some u → (w.alloc (.cells cs 65)).cell? ((⟨w.heap.size, 0, none⟩ : Addr).add j) = some u := fun j u hj => by
    rw [Addr.add_mid, cell_of_row _ _ _ _ _ _ (heap_alloc_new w _)]
    simpa using hj
  have h1 : ∀ u ∈ cs.toList, u.oneCell' = true := fun u hu' => by
    obtain ⟨j, hj, rfl⟩ := List.getElem_of_mem hu'
    rw [Array.all_eq_true] at hu
    exact hu j (by simpa using hj)
  have HL := Lib.hid hl; have HNEWS := Lib.hid hnews; have H1 := Lib.hid h1
  obtain ⟨ad, had⟩ : ∃ ad : Addr, ad = ⟨w.heap.size, 0, none⟩ := ⟨_, rfl⟩
  rw [← had] at HNEWS ⊢
  have hG : ∀ w' : World, ∀ r, (w.alloc (.cells cs 65)).grownBy w' r → w.grownBy w' r := fun w' r h => grownBy_of_alloc h
  have HG := Lib.hid hG
  have hbase : base ≤ (w.alloc (.cells cs 65)).heap.size := by simp; omega
  have hsz : w.heap.size ≤ (w.alloc (.cells cs 65)).heap.size := by simp
  obtain ⟨w1, hw1⟩ : ∃ w1, w1 = w.alloc (.cells cs 65) := ⟨_, rfl⟩
  rw [← hw1] at HO HNEWS HG hbase hsz ⊢
  clear hw1 hl hnews h1 hG had hown hcs hu
  go_enter Tryz.func92, Tryz.ntmps92
  go_wp2_with (first | (at_builtin; refine wpList_appAll w1 rfl (.tmp 5) (.tmp 6) 43 rfl base 65 (.agg #[.int .i64 0, .int .i64 0, .int .i64 0, .int .i64 0]) 4 32 Tryz.underlying43 infoStep rfl (by decide) v n xs rfl HO.out ad m m cs.toList rfl HL.out HNEWS.out H1.out hm0 (by omega) (by omega) hbase ?_; intro g c w2 hown2 hg2 hpl; have HO2 := Lib.hid hown2; have HG2 := Lib.hid hg2; have HPL := Lib.hid hpl; clear hown2 hg2 hpl))
  go_ret
  refine ⟨g, c, rfl, HO2.out, HG.out _ _ HG2.out, ?_⟩
  rcases HPL.out with h | ⟨h, h'⟩
  · exact .inl h
  · exact .inr ⟨by omega, HG.out _ _ h'⟩
end Go.Proofs.YtbhpmnhlmeglcaaGreat
