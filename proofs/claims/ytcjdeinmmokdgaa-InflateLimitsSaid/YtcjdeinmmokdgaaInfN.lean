/- The contract of huff.Table's Next; its reader's place is told. -/
import Derived.Test.YtcjdeinmmokdgaaInfM
import Derived.Test.YtcjdeinmmokdgaaInfH
namespace Go.Proofs.Ytcjdeinmmokdgaa
set_option linter.unusedSimpArgs false
set_option linter.unusedVariables false
open Go.RowKit
namespace Hf
/-- the number of k bits from place p on, the first one the highest -/
def val (bs : List Int) (p : Nat) : Nat → Int
  | 0 => 0
  | k + 1 => 2 * val bs p k + bitAt bs (p + k)
theorem val_range (bs : List Int) (p k : Nat) : 0 ≤ val bs p k ∧ val bs p k < 2 ^ k := by
  induction k with
  | zero => simp [val]
  | succ k ih => have := bitAt_range bs (p + k); simp only [val]; rw [Int.pow_succ]; omega
theorem symsAt_len (l : List Int) (k : Nat) : ((symsAt l k l.length).length : Int) = cnt l k := by
  unfold symsAt cnt
  rw [List.length_map]
  have h : ∀ n, n ≤ l.length → ((List.range n).filter fun s => l.getD s 0 == (k : Int)).length = ((l.take n).filter fun x => x == (k : Int)).length := by
    intro n hn
    induction n with
    | zero => simp
    | succ n ih =>
      rw [List.range_succ, List.filter_append, List.length_append, ih (by omega), List.take_add_one, List.filter_append, List.length_append]
      congr 1
      rw [List.getElem?_eq_getElem (by omega)]
      simp only [List.getD, List.getElem?_eq_getElem (show n < l.length by omega), Option.getD_some, Option.toList_some, List.filter_cons, List.filter_nil]
      split <;> rfl
  rw [h l.length (Nat.le_refl _), List.take_length]
theorem symsTo_succ_len (l : List Int) (k : Nat) : ((symsTo l (k + 1)).length : Int) = (symsTo l k).length + cnt l (k + 1) := by
  simp only [symsTo, List.length_append]; rw [Int.natCast_add, symsAt_len]
theorem symsTo_mono (l : List Int) (j k : Nat) : (symsTo l j).length ≤ (symsTo l (j + k)).length := by
  induction k with
  | zero => exact Nat.le_refl _
  | succ k ih => rw [← Nat.add_assoc]; have h := symsTo_succ_len l (j + k); have h2 := cnt_nonneg l (j + k + 1); omega
/-- a symbol's search: so many lengths left, k bits taken: the symbol, the error, how many bits are taken in all -/
def nextGo (l bs : List Int) (p : Nat) : Nat → Nat → Int × Int × Nat
  | 0, k => (0, 4, k)
  | f + 1, k =>
    if (symsTo l 15).length ≤ (symsTo l k).length then (0, 4, k)
    else if 8 * bs.length ≤ p + k then (0, 2, k)
    else if val bs p (k + 1) - start l (k + 1) < cnt l (k + 1) then ((symsTo l 15).getD ((symsTo l k).length + (val bs p (k + 1) - start l (k + 1)).toNat) 0, 0, k + 1)
    else nextGo l bs p f (k + 1)
def next (l bs : List Int) (p : Nat) : Int × Int × Nat := nextGo l bs p 15 0
end Hf
theorem own_cells {w : World} {B : Nat} {t : TypeId} {v : Value} {n : Nat} {xs : List Value} (h : w.ownsRow B t 1 v n xs) :
    ∃ A c, v = .slice A n c ∧ Cells w A xs ∧ ∀ ad, A = some ad → ∃ cur, w.heap[ad.block]? = some (.cells cur t (0, 0)) := by
  rcases h.2 with ⟨rfl, rfl⟩ | ⟨g, cap, cur, rfl, _, hh, _⟩
  · refine ⟨none, 0, rfl, fun i v hi => ?_, fun ad e => by cases e⟩
    have : xs = [] := List.eq_nil_of_length_eq_zero (by simpa using h.1)
    subst this; simp at hi
  · refine ⟨some ⟨g, 0, none⟩, cap, rfl, fun i v hi => ⟨_, rfl, h.cells (g := g) rfl i v hi⟩, fun ad e => ?_⟩
    injection e with e
    subst e
    exact ⟨cur, hh⟩
/-- block g is the table of lengths l, as it is read -/
def TabR (w : World) (g : Nat) (l : List Int) : Prop :=
  ∃ A c, Blk w g 71 (Hf.counts l ++ [.slice A (Hf.symsTo l 15).length c]) ∧ Ints w A .i64 (Hf.symsTo l 15) ∧ ∀ ad, A = some ad → ∃ cur, w.heap[ad.block]? = some (.cells cur 3 (0, 0))
theorem Tab.read {w : World} {B g : Nat} {l : List Int} (h : Tab w B g l) : TabR w g l := by
  obtain ⟨v, h1, h2, _⟩ := h
  obtain ⟨A, c, rfl, h3, h4⟩ := own_cells h2
  exact ⟨A, c, h1, h3, h4⟩
theorem TabR.below {w w' : World} {g : Nat} {l : List Int} (h : TabR w g l) (hb : Below w.heap.size w w') : TabR w' g l := by
  obtain ⟨A, c, h1, h2, h3⟩ := h
  refine ⟨A, c, h1.below_ hb, Cells.below h2 hb, fun ad e => ?_⟩
  obtain ⟨cur, hc⟩ := h3 ad e
  refine ⟨cur, (hb.block _ ?_).trans hc⟩
  exact (Array.getElem?_eq_some_iff.1 hc).1
theorem TabR.grown {w w' : World} {g r : Nat} {l : List Int} {cs : List Value} (h : TabR w g l) (hr : Blk w r 47 cs) (hg : w.grownBy w' (some r)) : TabR w' g l := by
  obtain ⟨A, c, h1, h2, h3⟩ := h
  have hne : ∀ ad, A = some ad → ad.block ≠ r := fun ad e he => by
    obtain ⟨cur, hc⟩ := h3 ad e
    rw [he] at hc
    unfold Blk at hr
    rw [hr] at hc
    injection hc with hc
    injection hc with _ ht
    exact absurd ht (by decide)
  have hg1 : g ≠ r := fun he => by
    subst he
    unfold Blk at hr h1
    rw [hr] at h1
    injection h1 with h1
    injection h1 with _ ht
    exact absurd ht (by decide)
  refine ⟨A, c, h1.grown hg (by simpa using hg1), Cells.grown h2 hg (fun ad e => .inr (hne ad e)), fun ad e => ?_⟩
  obtain ⟨cur, hc⟩ := h3 ad e
  exact ⟨cur, (hg.block _ (Array.getElem?_eq_some_iff.1 hc).1 (by simpa using hne ad e)).trans hc⟩
theorem BitsAt.blk {w : World} {r : Nat} {RA : Option Addr} {rc : Nat} {bs : List Int} {pos : Nat} (h : BitsAt w r RA rc bs pos) : ∃ cs, Blk w r 47 cs := ⟨_, h.1⟩
theorem or_bit (x b : Int) (h0 : 0 ≤ x) (h1 : x ≤ 1073741824) (h2 : 0 ≤ b) (h3 : b ≤ 1) : bits .or .i64 (2 * x) b = 2 * x + b := by
  obtain ⟨n, rfl⟩ := Int.eq_ofNat_of_zero_le h0
  obtain ⟨m, rfl⟩ := Int.eq_ofNat_of_zero_le h2
  have e := i64_or_nat (2 * n) m (by omega) (by omega)
  rw [nat_join 1 (2 * n) m (by omega) (by omega)] at e
  have e1 : ((2 * n : Nat) : Int) = 2 * (n : Int) := by omega
  rw [e1] at e
  rw [e]; omega

/-- what Next hands back -/
def NextPost (r : Nat) (RA : Option Addr) (rc : Nat) (bs : List Int) (p : Nat) (R : Int × Int × Nat) (w : World) (e : Ending) (w' : World) : Prop :=
  e = .returned (.tuple #[.int .i64 R.1, .int .i64 R.2.1]) ∧ BitsAt w' r RA rc bs (p + R.2.2) ∧ w.grownBy w' (some r)

set_option maxHeartbeats 400000 in
theorem next_any (g r : Nat) (RA : Option Addr) (rc : Nat) (l bs : List Int) (p : Nat) (w : World) (hT : TabR w g l) (hb : BitsAt w r RA rc bs p) (he : Hf.err l = 0) :
    Calls Try.prog 33 #[.pointer (some ⟨g, 0, none⟩), .pointer (some ⟨r, 0, none⟩)] w (NextPost r RA rc bs p (Hf.next l bs p) w) := by
  obtain ⟨R, hR⟩ : ∃ R, R = Hf.next l bs p := ⟨_, rfl⟩
  rw [← hR]
  have HRR := Lib.hid hR; clear hR
  obtain ⟨hr0, hn3, hin⟩ := Hf.err_room he
  have HT := Lib.hid hT; have HB := Lib.hid hb; have HIN := Lib.hid hin; have HST := Lib.hid (Hf.start_le l hr0); clear hT hb hin hr0 he
  obtain ⟨sy, HSYS⟩ : ∃ sy : Nat → List Int, Hid (sy = Hf.symsTo l) := ⟨_, Lib.hid rfl⟩
  obtain ⟨S, HS⟩ : ∃ S : List Int, Hid (S = Hf.symsTo l 15) := ⟨_, Lib.hid rfl⟩
  go_enter Try.func33, Try.ntmps33
  go_wp2_with fail
  go_loopw [6, 7, 8, 9] (fun c f a i wr => ∃ k : Nat, k ≤ 15 ∧ i = .int .i64 (k + 1) ∧ c = .int .i64 (2 * Hf.val bs p k) ∧ f = .int .i64 (Hf.start l (k + 1)) ∧ (∃ M : Nat, a = .int .i64 (M : Int) ∧ Hid (M = (Hf.symsTo l k).length)) ∧ Hf.start l (k + 1) ≤ 2 * Hf.val bs p k ∧ BitsAt wr r RA rc bs (p + k) ∧ w.grownBy wr (some r) ∧ Hid (Hf.nextGo l bs p (15 - k) k = R)) (fun _ _ _ i _ => 17 - (intOf i).toNat)
  case atStart => exact ⟨0, by omega, rfl, rfl, rfl, ⟨0, rfl, rfl⟩, by simp [Hf.start, Hf.val], HB.out, grownBy_refl _ _, HRR.out.symm⟩
  case round =>
    obtain ⟨k, hk, rfl, rfl, rfl, ⟨M, rfl, HM⟩, hle, hb, hg, HN⟩ := hrel
    have HB2 := Lib.hid hb; have HG := Lib.hid hg; clear hb hg
    obtain ⟨A, c, hbt, hsy, _⟩ := HT.out.grown (r := r) (HB.out.blk.choose_spec) HG.out
    rw [← HS.out] at hbt hsy
    have HBT := Lib.hid hbt; have HSY := Lib.hid hsy; clear hbt hsy
    have hc16 : wr.cell? ⟨g, 16, none⟩ = some (.slice A S.length c) := by
      rw [HBT.out.cell, List.getElem?_append_right (by rw [Hf.counts_len]; omega), Hf.counts_len]; rfl
    have hq1 := Hf.val_range bs p k
    have hpw : (2 : Int) ^ k ≤ 32768 := by
      have h1 : (2 : Nat) ^ k ≤ 2 ^ 15 := Nat.pow_le_pow_right (by omega) (by omega)
      have h2 : ((2 ^ k : Nat) : Int) ≤ ((2 ^ 15 : Nat) : Int) := by exact_mod_cast h1
      simpa using h2
    have hv0 : 0 ≤ Hf.val bs p k := hq1.1
    have hv1 : Hf.val bs p k ≤ 32768 := by omega
    clear hq1 hpw
    have hs0 := Hf.start_nonneg l (k + 1)
    have hlen : S.length ≤ 4800 := by
      rw [HS.out]
      have := Hf.symsTo_le l 15
      have h3 : 15 * l.length ≤ 15 * 320 := Nat.mul_le_mul (Nat.le_refl _) hn3
      omega
    have hmono : M ≤ S.length := by
      rw [HM.out, HS.out]
      have := Hf.symsTo_mono l k (15 - k)
      rwa [show k + (15 - k) = 15 from by omega] at this
    by_cases hk15 : k < 15
    · by_cases hat : S.length ≤ M
      · have hres : R = (0, 4, k) := by
          rw [← HN.out, show 15 - k = (14 - k) + 1 from by omega]; simp only [Hf.nextGo]; rw [← HS.out, ← HM.out, if_pos hat]
        have HR := Lib.hid hres; clear hres
        go_wp2_with fail
        go_ret2
        unfold NextPost
        rw [HR.out]
        exact ⟨rfl, HB2.out, HG.out⟩
      · by_cases hend : 8 * bs.length ≤ p + k
        · have hres : R = (0, 2, k) := by
            rw [← HN.out, show 15 - k = (14 - k) + 1 from by omega]; simp only [Hf.nextGo]; rw [← HS.out, ← HM.out, if_neg hat, if_pos hend]
          have HR := Lib.hid hres; clear hres
          have hz : ((8 * bs.length - (p + k) : Nat) : Int) = 0 := by omega
          have HL := left_any r RA rc bs (p + k) wr HB2.out
          rw [hz] at HL
          have HL2 := Lib.hid HL; clear HL hz
          go_wp2_with fail
          refine HL2.out.mono ?_
          rintro e w2 ⟨rfl, nq, rfl⟩
          go_wp2_with fail
          go_ret2
          unfold NextPost
          rw [HR.out]
          exact ⟨rfl, HB2.out.drewN _, grownBy_drewN HG.out _⟩
        · have HL := left_any r RA rc bs (p + k) wr HB2.out
          obtain ⟨left, hleft⟩ : ∃ left : Nat, left = 8 * bs.length - (p + k) := ⟨_, rfl⟩
          rw [← hleft] at HL
          have hl0 : ((left : Int) == 0) = false := by simp; omega
          have HL2 := Lib.hid HL; clear HL hleft
          go_wp2_with fail
          refine HL2.out.mono ?_
          rintro e w2 ⟨rfl, nq, rfl⟩
          go_wp2_with fail
          refine (one_any r RA rc bs (p + k) _ (HB2.out.drewN _) (by omega)).mono ?_
          obtain ⟨b, hbit⟩ : ∃ b, b = Hf.bitAt bs (p + k) := ⟨_, rfl⟩
          have hb01 := Hf.bitAt_range bs (p + k)
          rw [← hbit] at hb01 ⊢
          rintro e w2 ⟨rfl, hb2, hg2⟩
          have hvs : Hf.val bs p (k + 1) = 2 * Hf.val bs p k + b := by simp only [Hf.val]; rw [hbit]
          have HVS := Lib.hid hvs; clear hbit hvs
          have hgg := grownBy_trans (grownBy_drewN HG.out nq) hg2
          obtain ⟨A2, c2, hbt2, hsy2, _⟩ := HT.out.grown (r := r) (HB.out.blk.choose_spec) hgg
          rw [← HS.out] at hbt2 hsy2
          have HBT2 := Lib.hid hbt2; have HSY2 := Lib.hid hsy2; have HG2 := Lib.hid hgg; have HB3 := Lib.hid hb2; clear hbt2 hsy2 hgg hg2 hb2
          have hd16 : w2.cell? ⟨g, 16, none⟩ = some (.slice A2 S.length c2) := by
            rw [HBT2.out.cell, List.getElem?_append_right (by rw [Hf.counts_len]; omega), Hf.counts_len]; rfl
          have hdk : w2.cell? ⟨g, k + 1, none⟩ = some (.int .i64 (Hf.cnt l (k + 1))) := by
            rw [HBT2.out.cell, List.getElem?_append_left (by rw [Hf.counts_len]; omega), Hf.counts_get _ _ (by omega)]
          have hor := or_bit (Hf.val bs p k) b hv0 (by omega) hb01.1 hb01.2
          have hcn0 := Hf.cnt_nonneg l (k + 1)
          have hcn1 : Hf.cnt l (k + 1) ≤ 320 := by have := Hf.cnt_le l (k + 1); omega
          have hM2 : (M : Int) + Hf.cnt l (k + 1) ≤ S.length := by
            have h1 := Hf.symsTo_mono l (k + 1) (14 - k)
            rw [show k + 1 + (14 - k) = 15 from by omega] at h1
            have h2 := Hf.symsTo_succ_len l k
            rw [HS.out, HM.out]; omega
          by_cases hfd : 2 * Hf.val bs p k + b - Hf.start l (k + 1) < Hf.cnt l (k + 1)
          · obtain ⟨j, hj⟩ : ∃ j : Nat, (j : Int) = 2 * Hf.val bs p k + b - Hf.start l (k + 1) := ⟨(2 * Hf.val bs p k + b - Hf.start l (k + 1)).toNat, by omega⟩
            obtain ⟨x, hx⟩ : ∃ x, S[M + j]? = some x := ⟨_, List.getElem?_eq_getElem (by omega)⟩
            obtain ⟨ad, rfl, hcx⟩ := HSY2.out (M + j) (.int .i64 x) (by simp [hx])
            have hres : R = (x, 0, k + 1) := by
              rw [← HN.out, show 15 - k = (14 - k) + 1 from by omega]; simp only [Hf.nextGo]
              rw [← HS.out, ← HM.out, if_neg hat, if_neg hend, HVS.out, if_pos hfd, show (2 * Hf.val bs p k + b - Hf.start l (k + 1)).toNat = j from by omega]
              simp [List.getD, hx]
            have HR := Lib.hid hres
            have hidx : (M : Int) + (2 * Hf.val bs p k + b) - Hf.start l (k + 1) = ((M + j : Nat) : Int) := by omega
            have hjlt : M + j < S.length := by omega
            have HJ := Lib.hid hj
            clear hres hx hj
            go_wp2_with fail
            go_ret2
            unfold NextPost
            rw [HR.out]
            exact ⟨rfl, HB3.out, HG2.out⟩
          · go_wp2_with fail
            go_roundw
            case rel =>
              have e1 : (2 * Hf.val bs p k + b) * 2 = 2 * Hf.val bs p (k + 1) := by rw [HVS.out]; omega
              have e2 : (Hf.start l (k + 1) + Hf.cnt l (k + 1)) * 2 = Hf.start l (k + 1 + 1) := by rw [Hf.start_succ l (k + 1) (by omega)]; omega
              rw [e1, e2]
              refine ⟨k + 1, by omega, by go_num, rfl, rfl, ⟨(Hf.symsTo l (k + 1)).length, ?_, rfl⟩, ?_, HB3.out, HG2.out, ?_⟩
              · have := Hf.symsTo_succ_len l k
                have h2 := HM.out
                congr 1; omega
              · rw [← e1, ← e2]; omega
              · show _ = _
                rw [← HN.out, show 15 - k = (15 - (k + 1)) + 1 from by omega]; simp only [Hf.nextGo]
                rw [← HS.out, ← HM.out, if_neg hat, if_neg hend, HVS.out, if_neg (by omega)]
            case measure => simp [intOf]; omega
    · obtain rfl : k = 15 := by omega
      have hres : R = (0, 4, 15) := by
        rw [← HN.out]; simp only [Nat.sub_self, Hf.nextGo]
      have HR := Lib.hid hres; clear hres
      go_wp2_with fail
      go_ret2
      unfold NextPost
      rw [HR.out]
      exact ⟨rfl, HB2.out, HG.out⟩
end Go.Proofs.Ytcjdeinmmokdgaa
