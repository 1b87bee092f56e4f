/- tzx.parser: stream. -/
import Derived.Test.YtokidpajialgbaaQG20
import Derived.Test.YtokidpajialgbaaQTzxB
namespace Go.Proofs.Ytokidpajialgbaa
set_option linter.unusedSimpArgs false
set_option linter.unusedVariables false
open Go.RowKit
namespace Tz
def fewFrom (n : Int) : Nat → Nat → Nat
  | 0, b => b
  | f + 1, b => if 1 < n ∧ (2 : Int) ^ b < n then fewFrom n f (b + 1) else b
/-- the fewest bits that tell one of so many -/
def few (n : Int) : Nat := fewFrom n 21 0
theorem fewFrom_spec (n : Int) (f b : Nat) (h : ∀ j, j < b → 1 < n ∧ (2 : Int) ^ j < n) (he : ∃ j, j ≤ b + f ∧ ¬ (1 < n ∧ (2 : Int) ^ j < n)) : Fewest n (fewFrom n f b) := by
  induction f generalizing b with
  | zero =>
    obtain ⟨j, hj, hn⟩ := he
    rcases Nat.lt_or_ge j b with h1 | h1
    · exact absurd (h j h1) hn
    · obtain rfl : j = b := by omega
      exact ⟨h, hn⟩
  | succ f ih =>
    unfold fewFrom
    split
    · rename_i hc
      refine ih (b + 1) (fun j hj => ?_) ?_
      · rcases Nat.lt_or_ge j b with h1 | h1
        · exact h j h1
        · obtain rfl : j = b := by omega
          exact hc
      · obtain ⟨j, hj, hn⟩ := he
        exact ⟨j, by omega, hn⟩
    · rename_i hc
      exact ⟨h, hc⟩
theorem few_spec (n : Int) (hn : n ≤ 1000000) : Fewest n (few n) :=
  fewFrom_spec n 21 0 (fun j hj => by omega) ⟨20, by omega, fun h => absurd h.2 (by rw [show (2 : Int) ^ 20 = 1048576 from by decide]; omega)⟩
theorem few_is {n : Int} {b : Nat} (hn : n ≤ 1000000) (h : Fewest n b) : b = few n := fewest_one h (few_spec n hn)
theorem few_8 {n : Int} (hn : n ≤ 256) : few n ≤ 8 := by
  rcases Nat.lt_or_ge 8 (few n) with h | h
  · have := ((few_spec n (by omega)).1 8 h).2
    have e : (2 : Int) ^ 8 = 256 := by decide
    omega
  · exact h
/-- the symbol of data at a place; 0 if there is none -/
def symv (D : List Int) (b i : Nat) : Int := if may D.length b i then sym D ((b : Int) * i).toNat (b : Int).toNat else 0
end Tz
theorem bits_few (n : Int) (w : World) (hn : n ≤ 1000000) : Calls Try.prog 70 #[.int .i64 n] w fun e w' => e = .returned (.int .i64 (Tz.few n : Nat)) ∧ w = w' := by
  refine (bits_any n w hn).mono ?_
  rintro e w' ⟨b, rfl, hf, rfl⟩
  rw [Tz.few_is hn hf]
  exact ⟨rfl, rfl⟩
namespace Rd
def streamM (m : Nat) (below : Int) : RM (List Int) := fun L s =>
  bind (take ((((Tz.few below * m : Nat) : Int) + 8 - 1) / 8)) (fun D L s' => match s'.bad with
    | some _ => (D, s')
    | none => if Tz.few below = 0 then (D, s') else if (List.range m).any (fun i => decide (below ≤ Tz.symv D (Tz.few below) i)) then (D, fail s' 5 s.k) else (D, s')) L s
end Rd
theorem cell_below {w w' : World} {a : Addr} {v : Value} (h : w.cell? a = some v) (hb : Below w.heap.size w w') : w'.cell? a = some v := (hb.cell (block_lt_of_cell h)).trans h
theorem RowOf.ints {w : World} {base d : Nat} {B : Option Addr} {k : IntKind} {l : List Int} (h : RowOf w base (.slice B l.length d) k l) : Ints w B k l := by
  rcases h.2 with ⟨e1, e2⟩ | ⟨g, c, cur, e1, _⟩
  · have : l = [] := by simpa using e2
    subst this
    exact fun i v hi => by simp at hi
  · injection e1 with e1
    exact fun i v hi => ⟨_, e1, h.cells (g := g) (by rw [e1]; rfl) i v hi⟩
theorem take_len {L : List Int} (j : Int) (s : Rd.St) : (Rd.take j L s).1.length ≤ L.length := by
  unfold Rd.take Rd.nextM
  split
  · simp
  · split
    · simp
    · split
      · simp
      · simp [List.length_take]; omega
theorem take_byts {L : List Int} (hb : Byts L) (j : Int) (s : Rd.St) : Byts (Rd.take j L s).1 := by
  unfold Rd.take
  split
  · intro x hx; simp at hx
  · exact byts_next hb _ _
set_option maxRecDepth 100000 in
set_option maxHeartbeats 1000000 in
theorem tzStream (P R : Nat) (A : Addr) (n c : Nat) (L : List Int) (s : Rd.St) (m : Nat) (below : Int) (w : World) (h : RdIs w R A n c L s) (hP : w.cell? ⟨P, 0, none⟩ = some (.pointer (some ⟨R, 0, none⟩))) (hPR : P ≠ R) (hm : m ≤ 4294967295) (hbl : below ≤ 256) :
    Calls Try.prog 113 #[.pointer (some ⟨P, 0, none⟩), .int .i64 m, .int .i64 below] w (TakP R A n c L w .u8 (Rd.streamM m below L s).1 (Rd.streamM m below L s).2) := by
  have HPG := Lib.hid (fun (u u' : World) (h1 : u.cell? ⟨P, 0, none⟩ = some (.pointer (some ⟨R, 0, none⟩))) (hg : u.grownBy u' (some R)) => par_grown h1 hPR hg)
  have HB := Lib.hid (bits_few below w (by omega))
  have hb8 := Tz.few_8 hbl
  have HA := Lib.hid (rdAt R A n c L s w h)
  obtain ⟨T, hT⟩ : ∃ T, T = Rd.streamM m below L s := ⟨_, rfl⟩
  have hT2 := hT
  unfold Rd.streamM at hT2
  rw [← hT]
  obtain ⟨b, hb⟩ : ∃ b, b = Tz.few below := ⟨_, rfl⟩
  rw [← hb] at HB hb8 hT2
  obtain ⟨X, hX⟩ : ∃ X : Nat, X = b * m := ⟨_, rfl⟩
  have hXi : (b : Int) * (m : Int) = (X : Int) := by rw [hX]; simp
  have hXl : X ≤ 8 * 4294967295 := by rw [hX]; exact Nat.mul_le_mul hb8 hm
  rw [← hX] at hT2
  obtain ⟨Y, hY⟩ : ∃ Y : Nat, ((X : Int) + 8 - 1) / 8 = Y := ⟨(X + 7) / 8, by omega⟩
  rw [hY] at hT2
  have hYl : (Y : Int) ≤ 1099511627776 := by omega
  have HTK := Lib.hid (rdTake R A n c L s Y w h hYl)
  have hDl := take_len (L := L) Y s
  have hDb := take_byts h.byt Y s
  have hlen := h.len
  have hbig := h.big
  have hRl := h.lt_
  obtain ⟨D, s', hM⟩ : ∃ D s', Rd.take Y L s = (D, s') := ⟨_, _, rfl⟩
  rw [hM] at HTK hDl hDb
  have HDB : Hid (Byts D) := hDb
  have hDl2 : D.length ≤ 1048576 := by have : D.length ≤ L.length := hDl; omega
  simp only [Rd.bind] at hT2
  rw [hM] at hT2
  simp only at hT2
  have p0 := hP
  clear h hT hP hb hX hM hDl hDb hlen hbig
  obtain ⟨kk, bad⟩ := s'
  cases bad with
  | some q =>
    have hT3 : T = (D, ⟨kk, some q⟩) := hT2
    have HT3 := Lib.hid hT3
    clear hT2 hT3
    go_enter Try.func113, Try.ntmps113
    go_wp2_with (first
      | (go_at_call 70; refine HB.out.mono ?_; rintro e w1 ⟨rfl, rfl⟩)
      | (go_at_call 36; refine HA.out.mono ?_; rintro e w1 ⟨rfl, rfl⟩)
      | (go_at_call 32; refine HTK.out.mono ?_; rintro e w2 ⟨v, rfl, hv2, hr2, hg2⟩; have p2 := HPG.out _ _ p0 hg2; have HV2 := Lib.hid hv2; have HR2 := Lib.hid hr2; have HG2 := Lib.hid hg2; have HBD := Lib.hid (rdBad R A n c L ⟨kk, some q⟩ w2 hr2); clear hv2 hr2 hg2)
      | (go_at_call 114; refine HBD.out.mono ?_; rintro e w3 ⟨rfl, rfl⟩))
    go_ret
    rw [HT3.out]
    exact ⟨_, rfl, HV2.out, HR2.out, HG2.out⟩
  | none =>
    by_cases hb0 : b = 0
    · have hT3 : T = (D, ⟨kk, none⟩) := by rw [hT2, if_pos hb0]
      have HT3 := Lib.hid hT3
      have hb0' : ((b : Int) == 0) = true := by simp; omega
      clear hT2 hT3 hb0
      go_enter Try.func113, Try.ntmps113
      go_wp2_with (first
        | (go_at_call 70; refine HB.out.mono ?_; rintro e w1 ⟨rfl, rfl⟩)
        | (go_at_call 36; refine HA.out.mono ?_; rintro e w1 ⟨rfl, rfl⟩)
        | (go_at_call 32; refine HTK.out.mono ?_; rintro e w2 ⟨v, rfl, hv2, hr2, hg2⟩; have p2 := HPG.out _ _ p0 hg2; have HV2 := Lib.hid hv2; have HR2 := Lib.hid hr2; have HG2 := Lib.hid hg2; have HBD := Lib.hid (rdBad R A n c L ⟨kk, none⟩ w2 hr2); clear hv2 hr2 hg2)
        | (go_at_call 114; refine HBD.out.mono ?_; rintro e w3 ⟨rfl, rfl⟩))
      go_ret
      rw [HT3.out]
      exact ⟨_, rfl, HV2.out, HR2.out, HG2.out⟩
    · have hT3 : T = if (List.range m).any (fun i => decide (below ≤ Tz.symv D b i)) then (D, Rd.fail ⟨kk, none⟩ 5 s.k) else (D, ⟨kk, none⟩) := by
        rw [hT2, if_neg hb0]
      have HT3 := Lib.hid hT3
      have hb0' : ((b : Int) == 0) = false := by simp; omega
      clear hT2 hT3
      go_enter Try.func113, Try.ntmps113
      go_wp2_with (first
        | (go_at_call 70; refine HB.out.mono ?_; rintro e w1 ⟨rfl, rfl⟩)
        | (go_at_call 36; refine HA.out.mono ?_; rintro e w1 ⟨rfl, rfl⟩)
        | (go_at_call 32; refine HTK.out.mono ?_; rintro e w2 ⟨v, rfl, hv2, hr2, hg2⟩; obtain ⟨B, d, rfl⟩ := own_form hv2; have p2 := HPG.out _ _ p0 hg2; have HV2 := Lib.hid hv2; have HR2 := Lib.hid hr2; have HG2 := Lib.hid hg2; have HBD := Lib.hid (rdBad R A n c L ⟨kk, none⟩ w2 hr2); have HSY := Lib.hid (fun i : Nat => symbol_any B D.length d D b i w2 hv2.ints rfl hDl2 HDB.out); clear hv2 hr2 hg2)
        | (go_at_call 114; refine HBD.out.mono ?_; rintro e w3 ⟨rfl, rfl⟩))
      go_loopw [42] (fun i wr => ∃ k : Nat, k ≤ m ∧ i = .int .i64 k ∧ Hid ((List.range k).any (fun i => decide (below ≤ Tz.symv D b i)) = false) ∧ w2 = wr) (fun i _ => m - (intOf i).toNat)
      case atStart => exact ⟨0, by omega, rfl, rfl, rfl⟩
      case round =>
        obtain ⟨k, hk, rfl, HK, rfl⟩ := hrel
        by_cases hlt : k < m
        · obtain ⟨x, hx⟩ : ∃ x, x = Tz.symv D b k := ⟨_, rfl⟩
          have HX := Lib.hid hx
          have HSK : Hid (Calls Try.prog 71 #[.slice B D.length d, .int .i64 b, .int .i64 k] w2 fun e w' => (∃ ok, e = .returned (.tuple #[.int .i64 x, .bool ok])) ∧ w2 = w') :=
            (HSY.out k).mono fun e w' ⟨h1, h2⟩ => ⟨⟨Tz.may D.length b k, h1.trans (by rw [hx]; rfl)⟩, h2⟩
          clear hx
          by_cases hbx : below ≤ x
          · have HT4 : Hid (T = (D, Rd.fail ⟨kk, none⟩ 5 s.k)) := by
              show _ = _
              rw [HT3.out, if_pos]
              rw [List.any_eq_true]
              exact ⟨k, List.mem_range.2 hlt, by rw [← HX.out]; simpa using hbx⟩
            have HF := Lib.hid (rdFail R A n c L ⟨kk, none⟩ 5 s.k w2 HR2.out (by decide))
            go_wp2_with (first
              | (go_at_call 71; refine HSK.out.mono ?_; rintro e w3 ⟨⟨ok, rfl⟩, rfl⟩)
              | (go_at_call 35; refine HF.out.mono ?_; rintro e w4 ⟨rfl, hr4, hg4⟩; have HR4 := Lib.hid hr4; have HV4 := Lib.hid (HV2.out.grown hg4 hRl); have HG4 := Lib.hid (grownBy_trans HG2.out hg4); clear hr4 hg4))
            go_ret
            rw [HT4.out]
            exact ⟨_, rfl, HV4.out, HR4.out, HG4.out⟩
          · have HK2 : Hid ((List.range (k + 1)).any (fun i => decide (below ≤ Tz.symv D b i)) = false) := by
              show _ = _
              rw [List.range_succ, List.any_append, HK.out]
              simp only [List.any_cons, List.any_nil, Bool.or_false, Bool.false_or]
              rw [← HX.out]
              simpa using hbx
            go_wp2_with (first
              | (go_at_call 71; refine HSK.out.mono ?_; rintro e w3 ⟨⟨ok, rfl⟩, rfl⟩))
            go_roundw
            case rel => exact ⟨k + 1, by omega, by go_num, HK2, by trivial⟩
            case measure => simp [intOf]; omega
        · obtain rfl : m = k := by omega
          have HT4 : Hid (T = (D, ⟨kk, none⟩)) := by
            show _ = _
            rw [HT3.out, HK.out]
            rfl
          go_wp2_with fail
          go_ret
          rw [HT4.out]
          exact ⟨_, rfl, HV2.out, HR2.out, HG2.out⟩
end Go.Proofs.Ytokidpajialgbaa
