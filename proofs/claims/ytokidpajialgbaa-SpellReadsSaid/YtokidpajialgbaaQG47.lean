/- Texts that are laid together: G47. -/
import Derived.Test.YtokidpajialgbaaQG42
import Derived.Test.YtokidpajialgbaaQRdT
namespace Go.Proofs.Ytokidpajialgbaa
set_option linter.unusedSimpArgs false
set_option linter.unusedVariables false
open Go.RowKit
theorem infoTapeR : (Try.prog.info? 33).map (·.size) = some 3 := by kernel_rfl
/-- what a tape's bytes come to, in memory -/
def ParsP (L : List Int) (w : World) (e : Ending) (w' : World) : Prop := Below w.heap.size w w' ∧ match Rd.parseD L with
  | .fault E p => ∃ f, e = .returned (.tuple #[.agg #[.int .i64 0, .int .i64 0, .slice none 0 0], .iface 64 (.pointer (some ⟨f, 0, none⟩))]) ∧ Blk w' f 66 [.int .i64 E, .int .i64 p]
  | .tape maj min l => ∃ bl X cs, e = .returned (.tuple #[.agg #[.int .i64 maj, .int .i64 min, bl], Value.nilIface]) ∧ w'.ownsRow w.heap.size 28 18 bl l.length cs ∧ TBs w' X cs l
/-- a fault at once: how a call ends -/
theorem fault_end {L : List Int} {w : World} {E : Int} (h : Rd.parseD L = .fault E 0) : ParsP L w (.returned (.tuple #[.agg #[.int .i64 0, .int .i64 0, .slice none 0 0], .iface 64 (.pointer (some ⟨w.heap.size + 1, 0, none⟩))])) ((w.alloc (.cells #[.int .i64 0, .int .i64 0, .slice none 0 0] 33)).alloc (.cells #[.int .i64 E, .int .i64 0] 66)) := by
  refine ⟨((Below.refl _ w).alloc (Nat.le_refl _) _).alloc (by simp) _, ?_⟩
  rw [h]
  exact ⟨_, rfl, blk_alloc2_new w _ _ [.int .i64 E, .int .i64 0]⟩
set_option maxRecDepth 100000 in
set_option maxHeartbeats 2000000 in
theorem parse_long (A : Option Addr) (n c : Nat) (L : List Int) (w : World) (hn : L.length = n) (h : 1048576 < n) :
    Calls Try.prog 17 #[.slice A n c] w (ParsP L w) := by
  have hP : Rd.parseD L = .fault 8 0 := by unfold Rd.parseD; rw [if_pos (by omega)]
  have HP := Lib.hid hP
  have h2 : (1048576 : Int) < n := by omega
  clear hP hn h
  go_enter Try.func17, Try.ntmps17
  go_wp2_with fail
  exact bodyPost_ret (results_row_tmp rfl rfl (blk_alloc2_old w _ 33 [.int .i64 0, .int .i64 0, .slice none 0 0]) Try.underlying33 rfl infoTapeR rfl) rfl (fault_end HP.out)
set_option maxRecDepth 100000 in
set_option maxHeartbeats 2000000 in
theorem parse_short (A : Option Addr) (n c : Nat) (L : List Int) (w : World) (hn : L.length = n) (h : n < 8) :
    Calls Try.prog 17 #[.slice A n c] w (ParsP L w) := by
  have hP : Rd.parseD L = .fault 3 0 := by unfold Rd.parseD; rw [if_neg (by omega), if_pos (.inl (by omega))]
  have HP := Lib.hid hP
  have h2 : (n : Int) < 8 := by omega
  have h3 : ¬ (1048576 : Int) < n := by omega
  clear hP hn h
  go_enter Try.func17, Try.ntmps17
  go_wp2_with fail
  exact bodyPost_ret (results_row_tmp rfl rfl (blk_alloc2_old w _ 33 [.int .i64 0, .int .i64 0, .slice none 0 0]) Try.underlying33 rfl infoTapeR rfl) rfl (fault_end HP.out)
set_option maxRecDepth 100000 in
set_option maxHeartbeats 2000000 in
theorem parse_unsigned (A : Option Addr) (n c : Nat) (L : List Int) (w : World) (hi : Ints w A .u8 L) (hb : Byts L) (hn : L.length = n) (h8 : 8 ≤ n) (h20 : n ≤ 1048576) (hc : n ≤ c) (h : L.take 8 ≠ Rd.sign8) :
    Calls Try.prog 17 #[.slice A n c] w (ParsP L w) := by
  have hP : Rd.parseD L = .fault 3 0 := by unfold Rd.parseD; rw [if_neg (by omega), if_pos (.inr h)]
  have HP := Lib.hid hP
  have h2 : ¬ (n : Int) < 8 := by omega
  have h3 : ¬ (1048576 : Int) < n := by omega
  have hl8 : (L.take 8).length = 8 := by rw [List.length_take]; omega
  obtain ⟨X, hX⟩ : ∃ X, X = txt8 (L.take 8) := ⟨_, rfl⟩
  have hcmp := txt8_cmp (L.take 8) [90, 88, 84, 97, 112, 101, 33, 26] (fun x hx => hb x (List.mem_of_mem_take hx))
  rw [decide_eq_false (show ¬ L.take 8 = ([90, 88, 84, 97, 112, 101, 33, 26] : List UInt8).map fun u => (u.toNat : Int) from fun e => h (e.trans rfl)), ← hX] at hcmp
  have hcv := conv_ints (w.alloc (.cells #[.int .i64 0, .int .i64 0, .slice none 0 0] 33)) A 8 c (L.take 8) (ints_take (hi.below ((Below.refl _ w).alloc (Nat.le_refl _) _)) 8) hl8
  rw [← hX] at hcv
  have h88 : (8 : Nat) ≤ c := by omega
  clear hP hn h hX hl8 hb hi
  go_enter Try.func17, Try.ntmps17
  go_wp2_with fail
  exact bodyPost_ret (results_row_tmp rfl rfl (blk_alloc2_old w _ 33 [.int .i64 0, .int .i64 0, .slice none 0 0]) Try.underlying33 rfl infoTapeR rfl) rfl (fault_end HP.out)
end Go.Proofs.Ytokidpajialgbaa
namespace Go.Proofs.Ytokidpajialgbaa
set_option linter.unusedSimpArgs false
set_option linter.unusedVariables false
open Go.RowKit
/-- few times, few items -/
def Bnd (B : TB) : Prop := B.times.length ≤ 100000 ∧ B.items.length ≤ 100000
theorem Rd.loop_len {α : Type} (f : Rd.RM α) (m : Nat) (L : List Int) (s : Rd.St) : (Rd.loop f m L s).1.length ≤ m := by
  induction m generalizing s with
  | zero => simp [Rd.loop, Rd.ret]
  | succ m ih =>
    unfold Rd.loop
    split
    · simp
    · simp only [Rd.bind, Rd.ret, List.length_cons]
      have := ih (f L s).2
      omega
theorem numbers_len (many : Int) (j : Nat) (L : List Int) (s : Rd.St) : (Rd.numbers many j L s).1.length ≤ many.toNat := by
  unfold Rd.numbers
  split
  · simp
  · split
    · simp
    · rw [Rd.rep_len]; exact Nat.le_refl _
theorem body_bnd (id at_ : Int) (L : List Int) (s : Rd.St) (hb : Byts L) : Bnd (Rd.bodyM id at_ L s).1 := by
  have h1 : ∀ s, (Rd.num 1 L s).1 < 256 := fun s => (num_range hb 1 s (by omega)).2
  have h2 : ∀ s, (Rd.num 2 L s).1 < 65536 := fun s => (num_range hb 2 s (by omega)).2
  have hi : ∀ f a s, (Rd.itemsM f a L s).1.length ≤ 100000 := fun f a s => by
    unfold Rd.itemsM
    simp only [Rd.bind]
    have h3 := h1 (Rd.num 2 L s).2
    have h4 := Rd.loop_len (Rd.itemM f) (Rd.num 1 L (Rd.num 2 L s).2).1.toNat L (Rd.num 1 L (Rd.num 2 L s).2).2
    split <;> (simp only; omega)
  have hn : ∀ (m : Int) j s, m < 1000 → (Rd.numbers m j L s).1.length ≤ 100000 := fun m j s hm => Nat.le_trans (numbers_len m j L s) (by omega)
  have hs : ∀ m s, m < 65536 → (Rd.signedM m L s).1.length ≤ 100000 := fun m s hm => Nat.le_trans (Rd.loop_len Rd.signed m L s) (by omega)
  have hq2 := h2 s
  have hq1 := h1 s
  unfold Rd.bodyM
  split
  · unfold Rd.soundM
    repeat' split
    all_goals (refine ⟨?_, ?_⟩ <;> simp only [Rd.bind, Rd.ret, List.length_nil, List.length_cons])
    all_goals first
      | omega
      | exact hn _ _ _ (by omega)
  · split
    · unfold Rd.leadsM
      repeat' split
      all_goals (refine ⟨?_, ?_⟩ <;> simp only [Rd.bind, Rd.ret, List.length_nil, List.length_cons])
      all_goals first
        | omega
        | exact hi _ _ _
        | exact hs _ _ (by omega)
    · unfold Rd.tellsM
      repeat' split
      all_goals (refine ⟨?_, ?_⟩ <;> simp only [Rd.bind, Rd.ret, List.length_nil, List.length_cons])
      all_goals first
        | omega
        | exact hi _ _ _
        | exact hn _ _ _ (by omega)
theorem block_bnd (L : List Int) (s : Rd.St) (hb : Byts L) : Bnd (Rd.blockM L s).1 := body_bnd _ _ L _ hb
theorem TBs.get {w : World} {X : Option Nat} {cs : List Value} {l : List TB} (h : TBs w X cs l) (i : Nat) (B : TB) (hi : l[i]? = some B) : ∃ d t i' p s r, (∀ j, j < 18 → cs[i * 18 + j]? = (B.cells d t i' p s r)[j]?) ∧ TB.Held w X B d t i' p s r := by
  induction l generalizing cs i with
  | nil => simp at hi
  | cons B' l ih =>
    obtain ⟨d, t, i', p, s, r, cs', rfl, h1, h2⟩ := h
    cases i with
    | zero =>
      have : B' = B := by simpa using hi
      subst this
      exact ⟨d, t, i', p, s, r, fun j hj => by rw [List.getElem?_append_left (by simp [TB.cells]; omega)]; congr 1; omega, h1⟩
    | succ i =>
      obtain ⟨d2, t2, i2, p2, s2, r2, g1, g2⟩ := ih h2 i (by simpa using hi)
      refine ⟨d2, t2, i2, p2, s2, r2, fun j hj => ?_, g2⟩
      rw [List.getElem?_append_right (by simp [TB.cells]; omega), ← g1 j hj]
      congr 1
      simp [TB.cells]
      omega
theorem times_of_ownH {w : World} {X : Option Nat} {t : Value} {T : List Int} (h : OwnH w X 3 1 t T.length (T.map (.int .i64 ·))) : TimesAt w t T := by
  rcases h.1.2 with ⟨rfl, h2⟩ | ⟨g, c, cur, rfl, _⟩
  · have : T = [] := List.eq_nil_of_length_eq_zero h2
    subst this
    exact ⟨none, 0, rfl, fun i v hi => by simp at hi, fun _ => ⟨rfl, rfl⟩⟩
  · exact ⟨_, c, rfl, fun i v hi => ⟨_, rfl, h.1.cells (g := g) rfl i v hi⟩, fun e => by cases e⟩
theorem symRowsH_get {w : World} {X : Option Nat} {k : IntKind} {cs : List Value} {l : List (Int × List Int)} (h : SymRowsH w X k cs l) (i : Nat) (x : Int) (hi : (l.map (·.1))[i]? = some x) : ∃ rB rn rd, cs[i * 2]? = some (.int .i64 x) ∧ cs[i * 2 + 1]? = some (.slice rB rn rd) := by
  induction l generalizing cs i with
  | nil => simp at hi
  | cons y l ih =>
    obtain ⟨y, q⟩ := y
    obtain ⟨r', cs', rfl, h1, h2⟩ := h
    cases i with
    | zero =>
      obtain ⟨B, d, rfl⟩ := own_form h1.1
      have : y = x := by simpa using hi
      subst this
      exact ⟨B, _, d, rfl, rfl⟩
    | succ i =>
      obtain ⟨rB, rn, rd, g1, g2⟩ := ih h2 i (by simpa using hi)
      exact ⟨rB, rn, rd, by rw [← g1]; rw [show (i + 1) * 2 = i * 2 + 1 + 1 by omega]; simp, by rw [← g2]; rw [show (i + 1) * 2 + 1 = i * 2 + 1 + 1 + 1 by omega]; simp⟩
theorem items_of_symH {w : World} {X : Option Nat} {ia : Value} {l : List (Int × List Int)} (h : SymH w X 46 .u8 ia l) : ItemsG w ia (l.map (·.1)) := by
  obtain ⟨cs, h1, h2⟩ := h
  rcases h1.1.2 with ⟨rfl, h3⟩ | ⟨g, c, cur, rfl, _⟩
  · have : l = [] := List.eq_nil_of_length_eq_zero h3
    subst this
    exact ⟨0, 0, .inl ⟨rfl, none, rfl⟩⟩
  · refine ⟨g, c, .inr ⟨by simp, fun k x hk => ?_⟩⟩
    obtain ⟨rB, rn, rd, g1, g2⟩ := symRowsH_get h2 k x hk
    refine ⟨rB, rn, rd, fun j v hj => ?_⟩
    match j, hj with
    | 0, hj =>
      have := h1.1.cells (g := g) rfl (k * 2) _ g1
      rw [Addr.add_mid] at this
      simp at hj
      subst hj
      simpa using this
    | 1, hj =>
      have := h1.1.cells (g := g) rfl (k * 2 + 1) _ g2
      rw [Addr.add_mid] at this
      simp at hj
      subst hj
      simpa using this
    | j + 2, hj => simp at hj
theorem blksT_of {w : World} {X : Option Nat} {base : Nat} {bl : Value} {cs : List Value} {l : List TB} (ho : w.ownsRow base 28 18 bl l.length cs) (ht : TBs w X cs l) (hb : ∀ B ∈ l, Bnd B) : ∃ (g : Nat) (A : Option Addr) (c : Nat), bl = .slice A l.length c ∧ (l.length = 0 ∨ A = some ⟨g, 0, none⟩) ∧ BlksT w g l := by
  rcases ho.2 with ⟨rfl, h2⟩ | ⟨g, c, cur, rfl, _⟩
  · have : l = [] := List.eq_nil_of_length_eq_zero h2
    subst this
    exact ⟨0, none, 0, rfl, .inl rfl, fun i B hi => by simp at hi⟩
  · refine ⟨g, _, c, rfl, .inr rfl, fun i B hi => ?_⟩
    obtain ⟨d, t, i', p, s, r, g1, g2⟩ := ht.get i B hi
    have hB := hb B (List.mem_of_getElem? hi)
    refine ⟨B.cells d t i' p s r, t, i', fun j v hj => ?_, ⟨rfl, rfl, rfl, rfl, ?_⟩, times_of_ownH g2.t, items_of_symH g2.i, hB.1, hB.2⟩
    · have hj18 : j < 18 := by have := (List.getElem?_eq_some_iff.1 hj).1; simpa [TB.cells] using this
      have := ho.cells (g := g) rfl (i * 18 + j) v (by rw [g1 j hj18]; exact hj)
      rw [Addr.add_mid] at this
      simpa using this
    · obtain ⟨c1, k1, _⟩ := g2.i
      obtain ⟨c2, k2, _⟩ := g2.p
      obtain ⟨c3, k3, _⟩ := g2.s
      simp [TB.cells, own_one g2.d.1, own_one g2.t.1, own_one k1.1, own_one k2.1, own_one k3.1, own_one g2.r.1, show ∀ x, (Value.int .i64 x).oneCell' = true from fun _ => rfl]
end Go.Proofs.Ytokidpajialgbaa
