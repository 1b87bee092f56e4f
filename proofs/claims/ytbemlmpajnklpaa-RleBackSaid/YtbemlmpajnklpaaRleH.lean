/- wire.Put; rle.Spell. -/
import Derived.Test.YtbemlmpajnklpaaRleG
import Derived.Test.YtbemlmpajnklpaaZlbC
namespace Go.Proofs.Ytbemlmpajnklpaa
set_option linter.unusedSimpArgs false
set_option linter.unusedVariables false
open Go.RowKit
namespace Rl
/-- what is left of a number behind so many bytes -/
def sh (x : Int) : Nat → Int
  | 0 => x
  | k + 1 => sh x k / 256
theorem sh_range (x : Int) (h0 : 0 ≤ x) (h1 : x ≤ 4294967295) (k : Nat) : 0 ≤ sh x k ∧ sh x k ≤ 4294967295 := by
  induction k with
  | zero => exact ⟨h0, h1⟩
  | succ k ih => simp only [sh]; omega
/-- its first bytes -/
def lst (x : Int) : Nat → List Int
  | 0 => []
  | k + 1 => lst x k ++ [sh x k % 256]
theorem lst_len (x : Int) (k : Nat) : (lst x k).length = k := by
  induction k with
  | zero => rfl
  | succ k ih => simp [lst, ih]
theorem spell1_long (x : Int) (h : 255 < x) (h1 : x ≤ 4294967295) : spell1 x = 0 :: lst x 4 := by
  unfold spell1
  rw [if_neg (by omega)]
  simp only [lst, sh, List.nil_append, List.cons_append]
  congr 4
  · omega
  · congr 1
    omega
theorem spell1_short (x : Int) (h : x ≤ 255) : spell1 x = [x] := by unfold spell1; rw [if_pos h]
theorem spell1_len (x : Int) : (spell1 x).length ≤ 5 := by unfold spell1; split <;> simp
theorem spell_len (l : List Int) : (spell l).length ≤ 5 * l.length := by
  induction l with
  | nil => simp [spell]
  | cons x t ih => have := spell1_len x; simp only [spell, List.length_append, List.length_cons]; omega
theorem spell_snoc (l : List Int) (x : Int) : spell (l ++ [x]) = spell l ++ spell1 x := by rw [spell_app]; simp [spell]
end Rl
def PutP4 (base : Nat) (n : Nat) (xs : List Value) (x : Int) (B : Nat) (a : World) (e : Ending) (w' : World) : Prop :=
  ∃ v', e = .returned v' ∧ w'.ownsRow base 5 1 v' (n + 4) (xs ++ (Rl.lst x 4).map (.int .u8)) ∧ Below B a w'
set_option maxRecDepth 100000 in
set_option maxHeartbeats 4000000 in
theorem put4_any (base n : Nat) (v : Value) (xs : List Value) (x : Int) (B : Nat) (a w : World) (ho : w.ownsRow base 5 1 v n xs) (hb : Below B a w) (hB : B ≤ base) (hs : base ≤ w.heap.size) (hn : n ≤ 100000) (hx0 : 0 ≤ x) (hx1 : x ≤ 4294967295) :
    Calls Try.prog 14 #[v, .int .i64 4, .int .i64 x] w (PutP4 base n xs x B a) := by
  have HO := Lib.hid ho
  have HB := Lib.hid hb
  have HS := Lib.hid hs
  clear ho hb hs
  go_enter Try.func14, Try.ntmps14
  go_wp2_with fail
  go_loopw [0, 2, 15] (fun o y i wr => ∃ k : Nat, k ≤ 4 ∧ i = .int .i64 (k : Nat) ∧ y = .int .i64 (Rl.sh x k) ∧ wr.ownsRow base 5 1 o (n + k) (xs ++ (Rl.lst x k).map (.int .u8)) ∧ Below B a wr ∧ base ≤ wr.heap.size) (fun _ _ i _ => 4 - (intOf i).toNat)
  case atStart => exact ⟨0, by omega, rfl, rfl, by simpa [Rl.lst] using HO.out, HB.out, HS.out⟩
  case round =>
    obtain ⟨k, hk, rfl, rfl, hown, hbel, hsz⟩ := hrel
    have HOW := Lib.hid hown
    have HBW := Lib.hid hbel
    have HSZ := Lib.hid hsz
    clear hown hbel hsz
    obtain ⟨y0, y1⟩ := Rl.sh_range x hx0 hx1 k
    by_cases hlt : k < 4
    · obtain ⟨y, hy⟩ : ∃ y, y = Rl.sh x k := ⟨_, rfl⟩
      have HY := Lib.hid hy
      rw [← hy] at y0 y1 ⊢
      clear hy
      go_wp2_with (first
        | (at_builtin
           refine wpList_appL wr (by rfl) (.tmp 17) (.tmp 20) 29 (by rfl) base 5 (.int .u8 0) 1 1 Try.underlying29 infoByte rfl (by decide) u0 _ _ (by rfl) HOW.out _ 1 (by rfl) (by rfl) (by simp [Value.oneCell']) (by decide) (by omega) (by decide) HSZ.out ?_
           intro g1 c1 w1 ho1 hg1 hx1
           have HO1 := Lib.hid ho1
           have HB1 : Hid (Below B a w1) := Below_own HBW.out HOW.out hg1 hB HSZ.out
           have HS1 : Hid (base ≤ w1.heap.size) := Nat.le_trans HSZ.out hg1.size
           clear ho1 hg1 hx1))
      go_roundw
      case rel =>
        refine ⟨k + 1, by omega, by go_num, by rw [HY.out]; rfl, ?_, HB1.out, HS1.out⟩
        have ho := HO1.out
        rw [HY.out] at ho
        simp only [Rl.lst, List.map_append, ← List.append_assoc]
        exact ho
      case measure => simp [intOf]; omega
    · obtain rfl : k = 4 := by omega
      go_wp2
      go_ret
      exact ⟨_, rfl, HOW.out, HBW.out⟩
def SpellP (l : List Int) (w : World) (e : Ending) (w' : World) : Prop :=
  (Rl.May l ∧ ∃ v, e = .returned (.tuple #[v, .int .i64 0]) ∧ w'.ownsRow w.heap.size 5 1 v (Rl.spell l).length ((Rl.spell l).map (.int .u8)) ∧ Below w.heap.size w w') ∨ (¬ Rl.May l ∧ NoListP 5 w e w')
set_option maxRecDepth 100000 in
set_option maxHeartbeats 8000000 in
theorem spell_any (A : Option Addr) (n c : Nat) (l : List Int) (w : World) (hl : Ints w A .i64 l) (hn : l.length = n) (hn1 : n ≤ 1000) :
    Calls Try.prog 9 #[.slice A n c] w (SpellP l w) := by
  have HL := Lib.hid hl
  have HN := Lib.hid hn
  clear hl hn
  go_enter Try.func9, Try.ntmps9
  go_wp2_with fail
  go_loopw [4, 9] (fun o i wr => ∃ k : Nat, k ≤ n ∧ i = .int .i64 (k : Nat) ∧ wr.ownsRow w.heap.size 5 1 o (Rl.spell (l.take k)).length ((Rl.spell (l.take k)).map (.int .u8)) ∧ Rl.May (l.take k) ∧ Below w.heap.size w wr) (fun _ i _ => n - (intOf i).toNat)
  case atStart => exact ⟨0, Nat.zero_le _, rfl, by simpa [Rl.spell] using World.ownsRow_nil _ _ _ _, by simp [Rl.May], Below.refl _ _⟩
  case round =>
    obtain ⟨k, hk, rfl, hown, hmay, hbel⟩ := hrel
    have HOW := Lib.hid hown
    have HMY := Lib.hid hmay
    have HBW := Lib.hid hbel
    clear hown hmay hbel
    have hln : (Rl.spell (l.take k)).length ≤ 5000 := by
      have := Rl.spell_len (l.take k)
      rw [List.length_take] at this
      omega
    by_cases hlt : k < n
    · have hkl : k < l.length := by rw [HN.out]; exact hlt
      obtain ⟨x, hx⟩ : ∃ x, x = l[k] := ⟨_, rfl⟩
      obtain ⟨ad, rfl, hc⟩ := HL.out k (.int .i64 x) (by rw [List.getElem?_map, List.getElem?_eq_getElem hkl, hx]; rfl)
      have hcx : wr.cell? (ad.add k) = some (.int .i64 x) := (HBW.out.cell (block_lt_of_cell hc)).trans hc
      have HTK : Hid (l.take (k + 1) = l.take k ++ [x]) := by show _ = _; rw [List.take_succ_eq_append_getElem hkl, hx]
      have HXM : Hid (x ∈ l) := by show _ ∈ _; rw [hx]; exact List.getElem_mem hkl
      have hkn : (k : Int) < n := by omega
      clear hc hx hkl
      obtain ⟨m, hm⟩ : ∃ m, m = (Rl.spell (l.take k)).length := ⟨_, rfl⟩
      rw [← hm] at HOW hln
      have HM := Lib.hid hm
      clear hm
      by_cases x1 : x < 1
      · go_wp2
        go_ret2
        exact .inr ⟨fun h => by have := h x HXM.out; omega, rfl, HBW.out⟩
      · by_cases x2 : 4294967295 < x
        · have d1 : decide (x < 1) = false := by simpa using x1
          go_wp2
          go_ret2
          exact .inr ⟨fun h => by have := h x HXM.out; omega, rfl, HBW.out⟩
        · have hxm : Hid (Rl.May (l.take (k + 1))) := fun y hy => by
            rw [HTK.out] at hy
            rcases List.mem_append.1 hy with h | h
            · exact HMY.out y h
            · rw [List.mem_singleton.1 h]; omega
          by_cases x3 : x ≤ 255
          · go_wp2_with (first
              | (at_builtin
                 refine wpList_appL wr (by rfl) (.tmp 28) (.tmp 31) 29 (by rfl) w.heap.size 5 (.int .u8 0) 1 1 Try.underlying29 infoByte rfl (by decide) u4 _ _ (by rfl) HOW.out _ 1 (by rfl) (by rfl) (by simp [Value.oneCell']) (by decide) (by omega) (by decide) HBW.out.size ?_
                 intro g1 c1 w1 ho1 hg1 hx1
                 have HO1 := Lib.hid ho1
                 have HB1 : Hid (Below w.heap.size w w1) := Below_own HBW.out HOW.out hg1 (Nat.le_refl _) HBW.out.size
                 clear ho1 hg1 hx1))
            go_roundw
            case rel =>
              refine ⟨k + 1, by omega, by go_num, ?_, hxm.out, HB1.out⟩
              have ho := HO1.out
              rw [HTK.out, Rl.spell_snoc, Rl.spell1_short x x3, List.length_append, ← HM.out, List.map_append]
              exact ho
            case measure => simp [intOf]; omega
          · go_wp2_with (first
              | (go_at_call 14
                 refine (put4_any w.heap.size (m + 1) _ _ x w.heap.size w w1 HO1.out HB1.out (Nat.le_refl _) HB1.out.size (by omega) (by omega) (by omega)).mono ?_
                 rintro e w2 ⟨v2, rfl, ho2, hb2⟩
                 have HO2 := Lib.hid ho2
                 have HB2 := Lib.hid hb2
                 clear ho2 hb2)
              | (at_builtin
                 refine wpList_appL wr (by rfl) (.tmp 13) (.tmp 14) 29 (by rfl) w.heap.size 5 (.int .u8 0) 1 1 Try.underlying29 infoByte rfl (by decide) u4 _ _ (by rfl) HOW.out _ 1 (by rfl) (by rfl) (by simp [Value.oneCell']) (by decide) (by omega) (by decide) HBW.out.size ?_
                 intro g1 c1 w1 ho1 hg1 hx1
                 have HO1 := Lib.hid ho1
                 have HB1 : Hid (Below w.heap.size w w1) := Below_own HBW.out HOW.out hg1 (Nat.le_refl _) HBW.out.size
                 clear ho1 hg1 hx1))
            go_roundw
            case rel =>
              refine ⟨k + 1, by omega, by go_num, ?_, hxm.out, HB2.out⟩
              have ho := HO2.out
              rw [HTK.out, Rl.spell_snoc, Rl.spell1_long x (by omega) (by omega), List.length_append, ← HM.out, List.map_append]
              have e5 : (0 :: Rl.lst x 4).length = 5 := by simp [Rl.lst_len]
              rw [e5]
              simpa [List.append_assoc] using ho
            case measure => simp [intOf]; omega
    · obtain rfl : k = n := by omega
      have htk : l.take k = l := List.take_of_length_le (by rw [HN.out]; exact Nat.le_refl _)
      rw [htk] at HOW HMY
      clear htk
      go_wp2
      go_ret2
      exact .inl ⟨HMY.out, _, rfl, HOW.out, HBW.out⟩
end Go.Proofs.Ytbemlmpajnklpaa
