/- squealref07.Show. -/
import Derived.Test.YtjkakmmhbciilaaOpFV
import Derived.Test.YtjkakmmhbciilaaOpFT
namespace Go.Proofs.Ytjkakmmhbciilaa
set_option linter.unusedSimpArgs false
set_option linter.unusedVariables false
open Go.RowKit Go.Sort
/-- the document's text, of its parts -/
def show7T (s ix c d n ln pc : Int) : List UInt8 :=
  if s = 0 then fillS (if ix = 1 ∨ ix = 2 then indexedS (Mi.plain7 c) ix c d else Mi.plain7 c) (hxS 2 (n % 256)) (hxS 4 n) (targetS n ln pc)
  else if s = 1 then bitsT id (Mi.regsL.getD (c % 8).toNat []) (c / 64) (c / 8 % 8)
  else if s = 2 then fillS (more7S c) (hxS 2 (n % 256)) (hxS 4 n) (targetS n ln pc)
  else if s = 3 then (if c / 64 = 1 then bitsT id (awayS ix d) (c / 64) (c / 8 % 8) else if c % 8 = 6 then bitsT id (awayS ix d) (c / 64) (c / 8 % 8) else bitsT id (awayS ix d) (c / 64) (c / 8 % 8) ++ [44] ++ Mi.regsL.getD (c % 8).toNat [])
  else if s = 4 then [112, 114, 101, 102, 105, 120, 32] ++ ixn ix
  else []
theorem joinGo_len (nm : List UInt8) (hn : nm.length ≤ 2) : ∀ (l : List (List UInt8)) (k : Nat) (out : List UInt8), (∀ x ∈ l, x.length ≤ 20) → (joinGo nm l k out).length ≤ out.length + 23 * l.length
  | [], k, out, _ => by simp [joinGo]
  | x :: r, k, out, h => by
    rw [joinGo]
    have h1 := wordX_len nm x
    have h2 := h x (by simp)
    refine Nat.le_trans (joinGo_len nm hn r (k + 1) _ (fun y hy => h y (by simp [hy]))) ?_
    split <;> (simp only [List.length_append, List.length_cons, List.length_nil]; omega)
theorem more7S_len (c : Int) (h0 : 0 ≤ c) (h1 : c ≤ 255) : (more7S c).length ≤ 40 := by
  have : ∀ k < 256, (more7S (k : Nat)).length ≤ 40 := by decide +kernel
  obtain ⟨k, rfl⟩ := Int.eq_ofNat_of_zero_le h0
  exact this k (by omega)
/-- the texts of codes with an index are short -/
theorem indexedS_short : ∀ k < 256, Mi.hasS (Mi.plain7 (k : Nat)) [40, 104, 108, 41] = true ∨ (k : Int) = 235 ∨ (joinGo [105, 120] ((wordsS (Mi.plain7 (k : Nat))).drop 1) 1 ((wordsS (Mi.plain7 (k : Nat))).getD 0 [])).length ≤ 40 ∧ (joinGo [105, 121] ((wordsS (Mi.plain7 (k : Nat))).drop 1) 1 ((wordsS (Mi.plain7 (k : Nat))).getD 0 [])).length ≤ 40 := by decide +kernel
theorem indexedS_len (c ix d : Int) (h0 : 0 ≤ c) (h1 : c ≤ 255) : (indexedS (Mi.plain7 c) ix c d).length ≤ 60 := by
  have hp := Mi.plain7_le c h0 h1
  obtain ⟨k, rfl⟩ := Int.eq_ofNat_of_zero_le h0
  unfold indexedS
  split
  · have := swapS_len (Mi.plain7 (k : Nat)) [40, 104, 108, 41] (awayS ix d)
    have := awayS_len ix d
    omega
  · split
    · omega
    · rcases indexedS_short k (by omega) with h | h | h
      · contradiction
      · contradiction
      · unfold ixn
        split
        · omega
        · omega
def Ins7 (s ix c d n ln : Int) : Value := .agg #[.int .i64 s, .int .i64 ix, .int .u8 c, .int .u8 d, .int .u16 n, .int .i64 ln]
set_option maxRecDepth 100000 in
set_option maxHeartbeats 8000000 in
theorem show7_0 (ix c d n ln pc : Int) (t : List UInt8) (ht : Mi.plain7 c = t) (hr : Rng c d n ln pc) (hix : (ix == 1) = false) (hix2 : (ix == 2) = false) :
    Gives 13 #[.agg #[.int .i64 0, .int .i64 ix, .int .u8 c, .int .u8 d, .int .u16 n, .int .i64 ln], .int .u16 pc] (.string ⟨(fillS t (hxS 2 (n % 256)) (hxS 4 n) (targetS n ln pc)).toArray⟩) := by
  intro w
  have HP := Lib.hid (fun w => plain7_any c w hr.c0 hr.c1)
  have tl := Mi.plain7_le c hr.c0 hr.c1
  rw [ht] at HP tl
  have HF := Lib.hid (filled_any t 0 ix c d n ln pc hr (by omega))
  obtain ⟨R, hR⟩ : ∃ R, R = fillS t (hxS 2 (n % 256)) (hxS 4 n) (targetS n ln pc) := ⟨_, rfl⟩
  rw [← hR] at HF ⊢
  have HB0 := Lib.hid (Blk.new w 29 [.int .i64 0, .int .i64 ix, .int .u8 c, .int .u8 d, .int .u16 n, .int .i64 ln])
  clear hR ht
  go_enter Try.func13, Try.ntmps13
  go_wp2_with (first
    | (go_at_call 28; refine (HP.out _).mono ?_; rintro e w1 ⟨rfl, hb1⟩; have HB1 := Lib.hid (HB0.out.below_ hb1); have c0 := HB1.out.cell 0; have c1 := HB1.out.cell 1; have c2 := HB1.out.cell 2; have c3 := HB1.out.cell 3; have c4 := HB1.out.cell 4; have c5 := HB1.out.cell 5; have BB1 := Lib.hid ((below_box _ _).trans (hb1.mono (by simp))); clear hb1)
    | (go_at_call 30; refine (HF.out _).mono ?_; rintro e w2 ⟨rfl, hb2⟩; have BB2 := Lib.hid (BB1.out.trans (hb2.mono BB1.out.size)); clear hb2))
  go_ret
  exact ⟨rfl, BB2.out⟩
set_option maxRecDepth 100000 in
set_option maxHeartbeats 8000000 in
theorem show7_0x (ix c d n ln pc : Int) (hx : ix = 1 ∨ ix = 2) (hr : Rng c d n ln pc) :
    Gives 13 #[.agg #[.int .i64 0, .int .i64 ix, .int .u8 c, .int .u8 d, .int .u16 n, .int .i64 ln], .int .u16 pc] (.string ⟨(fillS (indexedS (Mi.plain7 c) ix c d) (hxS 2 (n % 256)) (hxS 4 n) (targetS n ln pc)).toArray⟩) := by
  intro w
  have HP := Lib.hid (fun w => plain7_any c w hr.c0 hr.c1)
  have tl := Mi.plain7_le c hr.c0 hr.c1
  have HI := Lib.hid (indexed_any (Mi.plain7 c) 0 ix c d n ln hr.d tl)
  have HF := Lib.hid (filled_any (indexedS (Mi.plain7 c) ix c d) 0 ix c d n ln pc hr (by have := indexedS_len c ix d hr.c0 hr.c1; omega))
  obtain ⟨R, hR⟩ : ∃ R, R = fillS (indexedS (Mi.plain7 c) ix c d) (hxS 2 (n % 256)) (hxS 4 n) (targetS n ln pc) := ⟨_, rfl⟩
  rw [← hR] at HF ⊢
  obtain ⟨t2, ht2⟩ : ∃ t, t = indexedS (Mi.plain7 c) ix c d := ⟨_, rfl⟩
  rw [← ht2] at HF HI
  obtain ⟨t, ht⟩ : ∃ t, t = Mi.plain7 c := ⟨_, rfl⟩
  rw [← ht] at HP HI
  have HB0 := Lib.hid (Blk.new w 29 [.int .i64 0, .int .i64 ix, .int .u8 c, .int .u8 d, .int .u16 n, .int .i64 ln])
  clear hR ht ht2 tl
  rcases hx with rfl | rfl
  all_goals
    go_enter Try.func13, Try.ntmps13
    go_wp2_with (first
      | (go_at_call 28; refine (HP.out _).mono ?_; rintro e w1 ⟨rfl, hb1⟩; have HB1 := Lib.hid (HB0.out.below_ hb1); have c0 := HB1.out.cell 0; have c1 := HB1.out.cell 1; have c2 := HB1.out.cell 2; have c3 := HB1.out.cell 3; have c4 := HB1.out.cell 4; have c5 := HB1.out.cell 5; have BB1 := Lib.hid ((below_box _ _).trans (hb1.mono (by simp))); clear hb1)
      | (go_at_call 29; refine (HI.out _).mono ?_; rintro e w2 ⟨rfl, hb2⟩; have HB2 := Lib.hid (HB1.out.below_ hb2); clear c0 c1 c2 c3 c4 c5; have f0 := HB2.out.cell 0; have f1 := HB2.out.cell 1; have f2 := HB2.out.cell 2; have f3 := HB2.out.cell 3; have f4 := HB2.out.cell 4; have f5 := HB2.out.cell 5; have BB2 := Lib.hid (BB1.out.trans (hb2.mono BB1.out.size)); clear hb2)
      | (go_at_call 30; refine (HF.out _).mono ?_; rintro e w3 ⟨rfl, hb3⟩; have BB3 := Lib.hid (BB2.out.trans (hb3.mono BB2.out.size)); clear hb3))
    go_ret
    exact ⟨rfl, BB3.out⟩
set_option maxRecDepth 100000 in
set_option maxHeartbeats 8000000 in
theorem show7_2 (ix c d n ln pc : Int) (hr : Rng c d n ln pc) :
    Gives 13 #[.agg #[.int .i64 2, .int .i64 ix, .int .u8 c, .int .u8 d, .int .u16 n, .int .i64 ln], .int .u16 pc] (.string ⟨(fillS (more7S c) (hxS 2 (n % 256)) (hxS 4 n) (targetS n ln pc)).toArray⟩) := by
  intro w
  have HM := Lib.hid (more7_any c hr.c0 hr.c1)
  have HF := Lib.hid (filled_any (more7S c) 2 ix c d n ln pc hr (by have := more7S_len c hr.c0 hr.c1; omega))
  obtain ⟨R, hR⟩ : ∃ R, R = fillS (more7S c) (hxS 2 (n % 256)) (hxS 4 n) (targetS n ln pc) := ⟨_, rfl⟩
  rw [← hR] at HF ⊢
  obtain ⟨t, ht⟩ : ∃ t, t = more7S c := ⟨_, rfl⟩
  rw [← ht] at HF HM
  clear hR ht
  obtain ⟨k0, k1, k2, k3, k4, k5⟩ := cells6 (Blk.new w 29 [.int .i64 2, .int .i64 ix, .int .u8 c, .int .u8 d, .int .u16 n, .int .i64 ln])
  go_enter Try.func13, Try.ntmps13
  go_wp2_with fail
  refine wp_region_quiet_below (by kernel_rfl) (by kernel_rfl) ?_
  repeat (quiet_step (first | (go_at_call 33; exact HM.out.q) | (go_at_call 30; exact HF.out.q)))
  refine wpQuiet_nil ?_
  intro _ hwq
  obtain ⟨⟨dq, osq⟩, hwr⟩ := hwq
  subst hwr
  go_wp2
  go_ret
  exact ⟨rfl, below_quiet _ _ _ _ (below_box _ _)⟩
theorem show7_4 (ix c d n ln pc : Int) :
    Gives 13 #[.agg #[.int .i64 4, .int .i64 ix, .int .u8 c, .int .u8 d, .int .u16 n, .int .i64 ln], .int .u16 pc] (.string ⟨([112, 114, 101, 102, 105, 120, 32] ++ ixn ix).toArray⟩) := by
  intro w
  have HI := Lib.hid (fun w => name7_any ix w)
  have il := ixn_len ix
  obtain ⟨t, ht⟩ : ∃ t, t = ixn ix := ⟨_, rfl⟩
  rw [← ht] at HI il ⊢
  clear ht
  go_enter Try.func13, Try.ntmps13
  go_wp2_with (first
    | (go_at_call 35; refine (HI.out _).mono ?_; rintro e w' ⟨rfl, rfl⟩))
  go_ret
  refine ⟨str_of' ?_, below_box _ _⟩
  first | rfl | (simp only [← app_data]; done) | (simp only [← app_data]; rfl)
theorem show7_n (s ix c d n ln pc : Int) (n0 : (s == 0) = false) (n1 : (s == 1) = false) (n2 : (s == 2) = false) (n3 : (s == 3) = false) (n4 : (s == 4) = false) :
    Gives 13 #[.agg #[.int .i64 s, .int .i64 ix, .int .u8 c, .int .u8 d, .int .u16 n, .int .i64 ln], .int .u16 pc] (.string ⟨([] : List UInt8).toArray⟩) := by
  intro w
  go_enter Try.func13, Try.ntmps13
  go_wp2_with fail
  go_ret
  exact ⟨rfl, below_box _ _⟩
end Go.Proofs.Ytjkakmmhbciilaa
