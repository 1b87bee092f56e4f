/- op.Show of any instruction: the contracts joined. (printed by wip/gen/gen_opsh.py) -/
import Derived.Test.YtjkakmmhbciilaaOpFF
namespace Go.Proofs.Ytjkakmmhbciilaa
set_option linter.unusedSimpArgs false
set_option linter.unusedVariables false
open Go.RowKit Go.Sort
theorem len_if {c : Prop} [Decidable c] {a b : List UInt8} {n : Nat} (ha : a.length ≤ n) (hb : b.length ≤ n) : (if c then a else b).length ≤ n := by split <;> assumption
theorem and56_at : ∀ k : Nat, k < 256 → bits .and .u8 (k : Nat) 56 = 8 * ((k : Int) / 8 % 8) := by decide +kernel
theorem and56 (c : Int) (h0 : 0 ≤ c) (h1 : c ≤ 255) : bits .and .u8 c 56 = 8 * (c / 8 % 8) := by
  obtain ⟨k, rfl⟩ := Int.eq_ofNat_of_zero_le h0
  exact and56_at k (by omega)
theorem and3_at : ∀ k : Nat, k < 8 → bits .and .i64 (k : Nat) 3 = (k : Int) % 4 := by decide +kernel
theorem and3 (y : Int) (h0 : 0 ≤ y) (h1 : y < 8) : bits .and .i64 y 3 = y % 4 := by
  obtain ⟨k, rfl⟩ := Int.eq_ofNat_of_zero_le h0
  exact and3_at k (by omega)
theorem last_any (s ix c d n ln pc x y z p q : Int) (hp : OpParts c x y z p q) (hr : Rng c d n ln pc) (hq : Prt y z p q) (hy : c / 8 % 8 = y) :
    Gives 50 #[.agg #[.int .i64 s, .int .i64 ix, .int .u8 c, .int .u8 d, .int .u16 n, .int .i64 ln]] (.string ⟨(lastT id (hxS 4 n) (hxS 2 n) (hasI s ix) (ixn ix) y z p q).toArray⟩) := by
  have H4 := Lib.hid (h4_any n hr.n)
  have l4 : (hxS 4 n).length ≤ 8 := by rw [hxS_len]; omega
  have H2 := Lib.hid (h2_any n hr.n)
  have l2 : (hxS 2 n).length ≤ 8 := by rw [hxS_len]; omega
  have HL : Hid (Gives 59 #[.agg #[.int .i64 s, .int .i64 ix, .int .u8 c, .int .u8 d, .int .u16 n, .int .i64 ln]] (.string ⟨(hlS s ix).toArray⟩)) := Lib.hid (fun w => opHl_any s ix c d n ln w)
  have ll : (hlS s ix).length ≤ 8 := Nat.le_trans (hlS_len s ix) (by omega)
  have HPR := Lib.hid (pairI_any s ix c d n ln p hq.p0 hq.p1)
  have HPU := Lib.hid (pushed_any s ix c d n ln p hq.p0 hq.p1)
  have HRY := Lib.hid (regI_any s ix c d n ln y hr.c0 hr.c1 hr.d hq.y0 hq.y1)
  have ryl := regT_len s ix c d y hq.y0 hq.y1
  have HP := Lib.hid hp
  have HG := Lib.hid hp.gives
  have hzz : z = 0 ∨ z = 1 ∨ z = 2 ∨ z = 3 ∨ z = 4 ∨ z = 5 ∨ z = 6 ∨ z = 7 := by have := hq.z0; have := hq.z1; omega
  have hqq : q = 0 ∨ q = 1 := by have := hq.q0; have := hq.q1; omega
  have hyy : y = 0 ∨ y = 1 ∨ y = 2 ∨ y = 3 ∨ y = 4 ∨ y = 5 ∨ y = 6 ∨ y = 7 := by have := hq.y0; have := hq.y1; omega
  have hpp : p = 0 ∨ p = 1 ∨ p = 2 ∨ p = 3 := by have := hq.p0; have := hq.p1; omega
  have HC := Lib.hid (cond_any y hq.y0 hq.y1)
  have HO := Lib.hid (oper_any y hq.y0 hq.y1)
  rcases hzz with rfl | rfl | rfl | rfl | rfl | rfl | rfl | rfl
  · exact (last_0 s ix c d n ln pc 0 x y p q _ HP HG HC (condL_len _)).at_ rfl
  · rcases hqq with rfl | rfl
    · exact (last_10 s ix c d n ln pc 0 x y p _ HP HG HPU (pushedS_len _ _ _)).at_ rfl
    · rcases hpp with rfl | rfl | rfl | rfl
      · exact (last_110 s ix c d n ln pc 0 x y _ HP HG HL ll).at_ rfl
      · exact (last_111 s ix c d n ln pc 0 x y _ HP HG HL ll).at_ rfl
      · exact (last_112 s ix c d n ln pc 0 x y _ HP HG HL ll).at_ rfl
      · exact (last_113 s ix c d n ln pc 0 x y _ HP HG HL ll).at_ rfl
  · exact (last_2 s ix c d n ln pc 0 x y p q _ _ HP HG HC (condL_len _) H4 l4).at_ rfl
  · clear hy
    rcases hyy with rfl | rfl | rfl | rfl | rfl | rfl | rfl | rfl
    · exact (last_30 s ix c d n ln pc 0 x p q _ _ _ HP HG H4 l4 H2 l2 HL ll).at_ rfl
    · exact (last_31 s ix c d n ln pc 0 x p q _ _ _ HP HG H4 l4 H2 l2 HL ll).at_ rfl
    · exact (last_32 s ix c d n ln pc 0 x p q _ _ _ HP HG H4 l4 H2 l2 HL ll).at_ rfl
    · exact (last_33 s ix c d n ln pc 0 x p q _ _ _ HP HG H4 l4 H2 l2 HL ll).at_ rfl
    · exact (last_34 s ix c d n ln pc 0 x p q _ _ _ HP HG H4 l4 H2 l2 HL ll).at_ rfl
    · exact (last_35 s ix c d n ln pc 0 x p q _ _ _ HP HG H4 l4 H2 l2 HL ll).at_ rfl
    · exact (last_36 s ix c d n ln pc 0 x p q _ _ _ HP HG H4 l4 H2 l2 HL ll).at_ rfl
    · exact (last_37 s ix c d n ln pc 0 x p q _ _ _ HP HG H4 l4 H2 l2 HL ll).at_ rfl
  · exact (last_4 s ix c d n ln pc 0 x y p q _ _ HP HG HC (condL_len _) H4 l4).at_ rfl
  · rcases hqq with rfl | rfl
    · exact (last_50 s ix c d n ln pc 0 x y p _ HP HG HPU (pushedS_len _ _ _)).at_ rfl
    · exact (last_51 s ix c d n ln pc 0 x y p _ HP HG H4 l4).at_ rfl
  · exact (last_6 s ix c d n ln pc 0 x y p q _ _ HP HG HO (operL_len _) H2 l2).at_ rfl
  · have e := and56 c hr.c0 hr.c1
    rw [hy] at e
    have y0 := hq.y0
    have y1 := hq.y1
    exact (last_7 s ix c d n ln pc 0 x y p q (hxS 2 (8 * y)) HP HG (8 * y) e (by omega) (by omega) (Lib.hid (h2_any (8 * y) ⟨by omega, by omega⟩)) (by rw [hxS_len]; omega)).at_ rfl
theorem firstT_len (s ix c d n ln pc y z p q : Int) (hq : Prt y z p q) : (firstT id (hxS 4 n) (hxS 2 n) (targetS n ln pc) (awayS ix d) (hasI s ix) (ixn ix) c y z p q).length ≤ 40 := by
  have h1 := hxS_len 4 n
  have h2 := hxS_len 2 n
  have h3 : (pairT id (hasI s ix) (ixn ix) p).length ≤ 8 := pairS_len s ix p
  have h4 : (hlT id (hasI s ix) (ixn ix)).length ≤ 2 := hlS_len s ix
  have h5 := regT_len s ix c d y hq.y0 hq.y1
  have h6 := movedT_len s ix n p q
  have h7 : (targetS n ln pc).length = 5 := hxS_len 4 _
  have h8 := condL_len (y - 4).toNat
  have h9 := incdL_len q.toNat
  have h10 := rotL_len y.toNat
  unfold firstT
  repeat' refine len_if ?_ ?_
  all_goals first | omega | (simp only [List.length_append, id, List.length_cons, List.length_nil]; omega)
theorem lastT_len (s ix n y z p q : Int) : (lastT id (hxS 4 n) (hxS 2 n) (hasI s ix) (ixn ix) y z p q).length ≤ 40 := by
  have h1 := hxS_len 4 n
  have h2 := hxS_len 2 n
  have h3 : (pushedT id (hasI s ix) (ixn ix) p).length ≤ 8 := pushedS_len s ix p
  have h4 : (hlT id (hasI s ix) (ixn ix)).length ≤ 2 := hlS_len s ix
  have h7 := hxS_len 2 (8 * y)
  have h8 := condL_len y.toNat
  have h9 := operL_len y.toNat
  unfold lastT
  repeat' refine len_if ?_ ?_
  all_goals first | omega | (simp only [List.length_append, id, List.length_cons, List.length_nil]; omega)
theorem plain_any (s ix c d n ln pc x y z p q : Int) (hp : OpParts c x y z p q) (hr : Rng c d n ln pc) (hq : Prt y z p q) (hy : c / 8 % 8 = y) (hx : 0 ≤ x ∧ x < 4) :
    Gives 27 #[.agg #[.int .i64 s, .int .i64 ix, .int .u8 c, .int .u8 d, .int .u16 n, .int .i64 ln], .int .u16 pc] (.string ⟨(plainT id (hxS 4 n) (hxS 2 n) (targetS n ln pc) (awayS ix d) (hasI s ix) (ixn ix) c x y z p q).toArray⟩) := by
  have HRY := Lib.hid (regI_any s ix c d n ln y hr.c0 hr.c1 hr.d hq.y0 hq.y1)
  have ryl := regT_len s ix c d y hq.y0 hq.y1
  have HRZ := Lib.hid (regI_any s ix c d n ln z hr.c0 hr.c1 hr.d hq.z0 hq.z1)
  have rzl := regT_len s ix c d z hq.z0 hq.z1
  have HP := Lib.hid hp
  have HG := Lib.hid hp.gives
  have HO := Lib.hid (oper_any y hq.y0 hq.y1)
  have hxx : x = 0 ∨ x = 1 ∨ x = 2 ∨ x = 3 := by omega
  rcases hxx with rfl | rfl | rfl | rfl
  · exact (plain_0 s ix c d n ln pc 0 y z p q _ HP HG (Lib.hid (first_any s ix c d n ln pc 0 y z p q hp hr hq)) (firstT_len s ix c d n ln pc y z p q hq)).at_ rfl
  · by_cases h : c = 118
    · subst h
      exact (plain_1h s ix 118 d n ln pc 0 y z p q HP HG).at_ rfl
    · refine (plain_1 s ix c d n ln pc 0 y z p q _ _ HP HG (by simpa using h) HRY ryl HRZ rzl).at_ ?_
      unfold plainT
      rw [if_neg (by decide), if_pos rfl, if_neg h]
      rfl
  · exact (plain_2 s ix c d n ln pc 0 y z p q _ _ HP HG HO (operL_len _) HRZ rzl).at_ rfl
  · exact (plain_3 s ix c d n ln pc 0 y z p q _ HP HG (Lib.hid (last_any s ix c d n ln pc 3 y z p q hp hr hq hy)) (lastT_len s ix n y z p q)).at_ rfl
theorem bits_any (s ix c d n ln x y z p q : Int) (m : List UInt8) (ml : m.length ≤ 16) (hp : OpParts c x y z p q) (hx : 0 ≤ x ∧ x < 4) (y0 : 0 ≤ y) (y1 : y < 8) :
    Gives 20 #[.agg #[.int .i64 s, .int .i64 ix, .int .u8 c, .int .u8 d, .int .u16 n, .int .i64 ln], .string ⟨m.toArray⟩] (.string ⟨(bitsT id m x y).toArray⟩) := by
  have HP := Lib.hid hp
  have HG := Lib.hid hp.gives
  have hxx : x = 0 ∨ x = 1 ∨ x = 2 ∨ x = 3 := by omega
  rcases hxx with rfl | rfl | rfl | rfl
  · exact (bits_0 s ix c d n ln y z p q y0 y1 _ m ml HP HG (Lib.hid (turn_any y y0 y1)) (turnL_len _)).at_ rfl
  · exact (bits_1 s ix c d n ln y z p q y0 y1 m ml HP HG).at_ rfl
  · exact (bits_2 s ix c d n ln y z p q y0 y1 m ml HP HG).at_ rfl
  · exact (bits_3 s ix c d n ln y z p q y0 y1 m ml HP HG).at_ rfl
theorem bitsT_len (m : List UInt8) (x y : Int) (ml : m.length ≤ 16) : (bitsT id m x y).length ≤ 40 := by
  have h := turnL_len y.toNat
  unfold bitsT
  repeat' refine len_if ?_ ?_
  all_goals (simp only [List.length_append, id, List.length_cons, List.length_nil]; omega)
theorem more_any (s ix c d n ln pc x y z p q : Int) (hp : OpParts c x y z p q) (hr : Rng c d n ln pc) (hq : Prt y z p q) (hx : 0 ≤ x ∧ x < 4) :
    Gives 23 #[.agg #[.int .i64 s, .int .i64 ix, .int .u8 c, .int .u8 d, .int .u16 n, .int .i64 ln]] (.string ⟨(moreT id (hxS 4 n) (awayS ix d) (hasI s ix) (ixn ix) c x y z p q).toArray⟩) := by
  have H4 := Lib.hid (h4_any n hr.n)
  have l4 : (hxS 4 n).length ≤ 8 := by rw [hxS_len]; omega
  have H2 := Lib.hid (h2_any n hr.n)
  have l2 : (hxS 2 n).length ≤ 8 := by rw [hxS_len]; omega
  have HL : Hid (Gives 59 #[.agg #[.int .i64 s, .int .i64 ix, .int .u8 c, .int .u8 d, .int .u16 n, .int .i64 ln]] (.string ⟨(hlS s ix).toArray⟩)) := Lib.hid (fun w => opHl_any s ix c d n ln w)
  have ll : (hlS s ix).length ≤ 8 := Nat.le_trans (hlS_len s ix) (by omega)
  have HPR := Lib.hid (pairI_any s ix c d n ln p hq.p0 hq.p1)
  have HPU := Lib.hid (pushed_any s ix c d n ln p hq.p0 hq.p1)
  have HRY := Lib.hid (regI_any s ix c d n ln y hr.c0 hr.c1 hr.d hq.y0 hq.y1)
  have ryl := regT_len s ix c d y hq.y0 hq.y1
  have HP := Lib.hid hp
  have HG := Lib.hid hp.gives
  have hzz : z = 0 ∨ z = 1 ∨ z = 2 ∨ z = 3 ∨ z = 4 ∨ z = 5 ∨ z = 6 ∨ z = 7 := by have := hq.z0; have := hq.z1; omega
  have hqq : q = 0 ∨ q = 1 := by have := hq.q0; have := hq.q1; omega
  have hyy : y = 0 ∨ y = 1 ∨ y = 2 ∨ y = 3 ∨ y = 4 ∨ y = 5 ∨ y = 6 ∨ y = 7 := by have := hq.y0; have := hq.y1; omega
  have hpp : p = 0 ∨ p = 1 ∨ p = 2 ∨ p = 3 := by have := hq.p0; have := hq.p1; omega
  have hxx : x = 0 ∨ x = 1 ∨ x = 2 ∨ x = 3 := by omega
  have y0 := hq.y0
  have y1 := hq.y1
  have z0 := hq.z0
  have z1 := hq.z1
  rcases hxx with rfl | rfl | rfl | rfl
  · exact (more_c0 s ix c d n ln pc y z p q HP HG).at_ rfl
  · rcases hzz with rfl | rfl | rfl | rfl | rfl | rfl | rfl | rfl
    · by_cases h : y = 6
      · subst h; exact (more_06 s ix c d n ln pc p q _ HP HG HRY ryl).at_ rfl
      · refine (more_0 s ix c d n ln pc y p q _ HP HG (by simpa using h) HRY ryl).at_ ?_
        unfold moreT; rw [if_neg (by decide), if_pos rfl, if_pos rfl, if_neg h]; rfl
    · by_cases h : y = 6
      · subst h; exact (more_16 s ix c d n ln pc p q _ HP HG HRY ryl).at_ rfl
      · refine (more_1 s ix c d n ln pc y p q _ HP HG (by simpa using h) HRY ryl).at_ ?_
        unfold moreT; rw [if_neg (by decide), if_pos rfl, if_neg (by decide), if_pos rfl, if_neg h]; rfl
    · exact (more_2 s ix c d n ln pc y p q _ _ HP HG _ (sbadL_len _) (fun u => sbadL_at q hq.q0 hq.q1 u) HRY ryl HPR (pairS_len _ _ _)).at_ rfl
    · rcases hqq with rfl | rfl
      · exact (more_30 s ix c d n ln pc y p _ _ _ HP HG HRY ryl H4 l4 HPR (pairS_len _ _ _)).at_ rfl
      · exact (more_31 s ix c d n ln pc y p _ _ _ HP HG HRY ryl H4 l4 HPR (pairS_len _ _ _)).at_ rfl
    · exact (more_4 s ix c d n ln pc y p q _ HP HG HRY ryl).at_ rfl
    · by_cases h : y = 1
      · subst h; exact (more_51 s ix c d n ln pc p q _ HP HG HRY ryl).at_ rfl
      · refine (more_5 s ix c d n ln pc y p q _ HP HG (by simpa using h) HRY ryl).at_ ?_
        unfold moreT; rw [if_neg (by decide), if_pos rfl, if_neg (by decide), if_neg (by decide), if_neg (by decide), if_neg (by decide), if_neg (by decide), if_pos rfl, if_neg h]; rfl
    · exact (more_6 s ix c d n ln pc y p q _ HP HG (y % 4) (and3 y y0 y1) _ (im4L_len _) (fun u => im4L_at (y % 4) (by omega) (by omega) u) HRY ryl).at_ rfl
    · exact (more_7 s ix c d n ln pc y p q _ HP HG _ (ldi8L_len _) (fun u => ldi8L_at y y0 y1 u) HRY ryl).at_ rfl
  · by_cases h4 : 4 ≤ y
    · by_cases h3 : z ≤ 3
      · refine (more_a s ix c d n ln pc y z p q HP HG h4 y1 z0 h3 _ (fun u => blk16L_at (4 * (y - 4) + z) (by omega) (by omega) u)).at_ ?_
        unfold moreT; rw [if_pos rfl, if_pos h4, if_pos h3]; rfl
      · refine (more_b2 s ix c d n ln pc y z p q HP HG h4 h3).at_ ?_
        unfold moreT; rw [if_pos rfl, if_pos h4, if_neg h3]; rfl
    · refine (more_b1 s ix c d n ln pc y z p q HP HG h4).at_ ?_
      unfold moreT; rw [if_pos rfl, if_neg h4]; rfl
  · exact (more_c3 s ix c d n ln pc y z p q HP HG).at_ rfl
theorem moreT_len (s ix c d n x y z p q : Int) (hq : Prt y z p q) : (moreT id (hxS 4 n) (awayS ix d) (hasI s ix) (ixn ix) c x y z p q).length ≤ 40 := by
  have h1 := hxS_len 4 n
  have h3 : (pairT id (hasI s ix) (ixn ix) p).length ≤ 8 := pairS_len s ix p
  have h5 := regT_len s ix c d y hq.y0 hq.y1
  have h8 := blk16L_len (4 * (y - 4) + z).toNat
  have h9 := sbadL_len q.toNat
  have h10 := im4L_len (y % 4).toNat
  have h11 := ldi8L_len y.toNat
  unfold moreT
  repeat' refine len_if ?_ ?_
  all_goals (simp only [List.length_append, id, List.length_cons, List.length_nil]; omega)
theorem plainT_len (s ix c d n ln pc x y z p q : Int) (hq : Prt y z p q) : (plainT id (hxS 4 n) (hxS 2 n) (targetS n ln pc) (awayS ix d) (hasI s ix) (ixn ix) c x y z p q).length ≤ 40 := by
  have h1 := firstT_len s ix c d n ln pc y z p q hq
  have h2 := lastT_len s ix n y z p q
  have h5 := regT_len s ix c d y hq.y0 hq.y1
  have h6 := regT_len s ix c d z hq.z0 hq.z1
  have h9 := operL_len y.toNat
  unfold plainT
  repeat' (first | exact h1 | exact h2 | refine len_if ?_ ?_)
  all_goals first | omega | (simp only [List.length_append, id, List.length_cons, List.length_nil]; omega)
/-- an instruction's text, of its parts -/
def showT (s ix c d n ln pc x y z p q : Int) : List UInt8 :=
  if s = 1 then bitsT id (regT id (awayS ix d) (hasI s ix) (ixn ix) c z) x y
  else if s = 2 then moreT id (hxS 4 n) (awayS ix d) (hasI s ix) (ixn ix) c x y z p q
  else if s = 3 then (if x = 1 then bitsT id (awayS ix d) x y else if z = 6 then bitsT id (awayS ix d) x y else bitsT id (awayS ix d) x y ++ [44] ++ regT id (awayS ix d) (hasI s ix) (ixn ix) c z)
  else if s = 4 then [112, 114, 101, 102, 105, 120, 32] ++ ixn ix
  else if s = 0 then plainT id (hxS 4 n) (hxS 2 n) (targetS n ln pc) (awayS ix d) (hasI s ix) (ixn ix) c x y z p q
  else []
theorem show_parts (s ix c d n ln pc x y z p q : Int) (hp : OpParts c x y z p q) (hr : Rng c d n ln pc) (hq : Prt y z p q) (hy : c / 8 % 8 = y) (hx : 0 ≤ x ∧ x < 4) :
    Gives 12 #[.agg #[.int .i64 s, .int .i64 ix, .int .u8 c, .int .u8 d, .int .u16 n, .int .i64 ln], .int .u16 pc] (.string ⟨(showT s ix c d n ln pc x y z p q).toArray⟩) := by
  have HP := Lib.hid hp
  have HG := Lib.hid hp.gives
  have HRZ := Lib.hid (regI_any s ix c d n ln z hr.c0 hr.c1 hr.d hq.z0 hq.z1)
  have rzl := regT_len s ix c d z hq.z0 hq.z1
  have HAW : Hid (Gives 24 #[.agg #[.int .i64 s, .int .i64 ix, .int .u8 c, .int .u8 d, .int .u16 n, .int .i64 ln]] (.string ⟨(awayS ix d).toArray⟩)) := Lib.hid (fun w => away_any s ix c d n ln w hr.d)
  have awl : (awayS ix d).length ≤ 16 := Nat.le_trans (awayS_len ix d) (by omega)
  by_cases h1 : s = 1
  · subst h1
    exact (show_1 1 ix c d n ln pc x y z p q _ _ HP HG HRZ rzl (Lib.hid (bits_any 1 ix c d n ln x y z p q _ rzl hp hx hq.y0 hq.y1)) (bitsT_len _ _ _ rzl)).at_ rfl
  by_cases h2 : s = 2
  · subst h2
    exact (show_2 2 ix c d n ln pc x y z p q _ HP HG (Lib.hid (more_any 2 ix c d n ln pc x y z p q hp hr hq hx)) (moreT_len 2 ix c d n x y z p q hq)).at_ rfl
  by_cases h3 : s = 3
  · subst h3
    have HBT := Lib.hid (bits_any 3 ix c d n ln x y z p q _ awl hp hx hq.y0 hq.y1)
    have btl := bitsT_len (awayS ix d) x y awl
    by_cases hx1 : x = 1
    · subst hx1
      exact (show_31 3 ix c d n ln pc y z p q _ _ HP HG HAW awl HBT btl).at_ rfl
    · by_cases hz : z = 6
      · subst hz
        refine (show_36 3 ix c d n ln pc x y p q _ _ HP HG (by simpa using hx1) HAW awl HBT btl).at_ ?_
        unfold showT; rw [if_neg (by decide), if_neg (by decide), if_pos rfl, if_neg hx1, if_pos rfl]
      · refine (show_3 3 ix c d n ln pc x y z p q _ _ _ HP HG (by simpa using hx1) (by simpa using hz) HAW awl HBT btl HRZ rzl).at_ ?_
        unfold showT; rw [if_neg (by decide), if_neg (by decide), if_pos rfl, if_neg hx1, if_neg hz]
  by_cases h4 : s = 4
  · subst h4
    exact (show_4 4 ix c d n ln pc x y z p q _ HP HG (Lib.hid (gives_same fun w => opIndex_any ix w)) (by rw [ixn_len]; omega)).at_ rfl
  by_cases h0 : s = 0
  · subst h0
    exact (show_0 0 ix c d n ln pc x y z p q _ HP HG (Lib.hid (plain_any 0 ix c d n ln pc x y z p q hp hr hq hy hx)) (plainT_len 0 ix c d n ln pc x y z p q hq)).at_ rfl
  refine (show_n s ix c d n ln pc x y z p q HP HG (by simpa using h1) (by simpa using h2) (by simpa using h3) (by simpa using h4) (by simpa using h0)).at_ ?_
  unfold showT; rw [if_neg h1, if_neg h2, if_neg h3, if_neg h4, if_neg h0]
/-- an instruction's text -/
def showS (s ix c d n ln pc : Int) : List UInt8 := showT s ix c d n ln pc (c / 64) (c / 8 % 8) (c % 8) (c / 16 % 4) (c / 8 % 2)
theorem show_any (s ix c d n ln pc : Int) (hr : Rng c d n ln pc) : Gives 12 #[.agg #[.int .i64 s, .int .i64 ix, .int .u8 c, .int .u8 d, .int .u16 n, .int .i64 ln], .int .u16 pc] (.string ⟨(showS s ix c d n ln pc).toArray⟩) :=
  show_parts s ix c d n ln pc _ _ _ _ _ (op_parts c hr.c0 hr.c1) hr ⟨by omega, by omega, by omega, by omega, by omega, by omega, by omega, by omega⟩ rfl (by have := hr.c0; have := hr.c1; omega)
end Go.Proofs.Ytjkakmmhbciilaa
