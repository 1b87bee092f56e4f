/- A program that is put together: Delay. -/
import Derived.Test.YtnkjmmbhjhmgdaaAsmE
namespace Go.Proofs.Ytnkjmmbhjhmgdaa
set_option linter.unusedSimpArgs false
set_option linter.unusedVariables false
open Go.RowKit Go.Maps
def roundK (n : Int) : Int := min 255 ((n - 16) / 13)
def roundB (n : Int) : List Int := [6, roundK n, 16, 254]
/-- the rounds of waiting, and what is left -/
def rounds : Nat → Int → List (List Int) × Int
  | 0, n => ([], n)
  | f + 1, n => if n < 29 then ([], n) else
    let r := rounds f (n - (13 * roundK n + 2))
    (roundB n :: r.1, r.2)
theorem rounds_end {f : Nat} {n : Int} (h : n < 29) : rounds f n = ([], n) := by
  cases f with
  | zero => rfl
  | succ f => simp only [rounds]; rw [if_pos h]
theorem rounds_step {f : Nat} {n : Int} (h : ¬ n < 29) : rounds (f + 1) n = (roundB n :: (rounds f (n - (13 * roundK n + 2))).1, (rounds f (n - (13 * roundK n + 2))).2) := by
  simp only [rounds]; rw [if_neg h]
def zerosL (k : Int) : List Int := List.replicate k.toNat 0
def restF (d : AsmD) (m : Int) : AsmD :=
  if m % 4 = 1 then bytesF (bytesF (nextF d) [6, 0]) (zerosL ((m - 17) / 4))
  else if m % 4 = 2 then bytesF (nextF d) (zerosL ((m - 10) / 4))
  else if m % 4 = 3 then bytesF (bytesF d [6, 0]) (zerosL ((m - 7) / 4))
  else bytesF d (zerosL (m / 4))
def delayF (d : AsmD) (n : Int) : AsmD := if d.e ≠ 0 then d else if mayB n = false then { d with e := 5 } else
  restF ((rounds (n.toNat + 1) n).1.foldl bytesF d) (rounds (n.toNat + 1) n).2
/-- what may be left -/
def MayN (n : Int) : Prop := n = 0 ∨ n = 4 ∨ n = 7 ∨ n = 8 ∨ n = 10 ∨ n = 11 ∨ n = 12 ∨ (14 ≤ n ∧ n ≤ 1000000)
theorem mayN_of {n : Int} (h : mayB n = true) : MayN n := by unfold mayB at h; simpa [MayN] using h
theorem mk_zeros (n : Nat) (hn : n ≤ 1000) : ∃ Z : Array Value, Z = ((List.replicate n (0 : Int)).map (.int .u8 ·)).toArray ∧ ∀ u, (Instr.makeSlice 25 (.int .i64 n) (.int .i64 n)).run Try.prog u = .ok (.slice (some ⟨u.heap.size, 0, none⟩) n n) (u.alloc (.cells Z 5)) := by
  refine ⟨_, rfl, fun u => ?_⟩
  obtain ⟨i0, hi, hz0, hz1, hz2⟩ := info_parts infoU8
  have h := run_make (P := Try.prog) u 25 5 i0 (.int .u8 0) Try.underlying25 hi hz0 .i64 .i64 n n (by omega) (Int.le_refl _) (by rw [hz2]; omega) (by omega)
  rw [hz1] at h
  have e : madeCells #[Value.int .u8 0] n = ((List.replicate n (0 : Int)).map (.int .u8 ·)).toArray := by
    apply Array.ext
    · simp [madeCells]
    · intro k h1 h2
      simp [madeCells, Nat.mod_one]
  simpa [e, show (Value.int .u8 0).cells = #[Value.int .u8 0] from rfl] using h
theorem asm_bytes_zero (B P M nm T : Nat) (d : AsmD) (z : Nat) (Z : Array Value) (w : World) (h : AsmS B P M nm w d) (ok : AsmOk d T) (hZ : Z = ((List.replicate z (0 : Int)).map (.int .u8 ·)).toArray) (hm : z ≤ 1000000000) :
    Calls Try.prog 11 #[.pointer (some ⟨P, 0, none⟩), .slice (some ⟨w.heap.size, 0, none⟩) z z] (w.alloc (.cells Z 5)) (AsmR B P M nm (bytesF d (List.replicate z 0)) w) := by
  subst hZ
  exact asm_bytes_new B P M nm T d z (List.replicate z 0) w h ok (by simp) hm
set_option maxRecDepth 100000 in
set_option maxHeartbeats 8000000 in
theorem asm_delay (B P M nm T : Nat) (d : AsmD) (n : Int) (w : World) (h : AsmS B P M nm w d) (ok : AsmOk d T) (n0 : -9223372036854775808 ≤ n) (n1 : n ≤ 9223372036854775807) :
    Calls Try.prog 35 #[.pointer (some ⟨P, 0, none⟩), .int .i64 n] w (AsmR B P M nm (delayF d n) w) := by
  obtain ⟨vo, vt, h1, h2, h3⟩ := h.ex
  have c4 : w.cell? ⟨P, 4, none⟩ = some (.int .i64 d.e) := h1.cell 4
  have f4 := h1.frozen 4
  have hPB := h.leP
  have HBAD := Lib.hid (asm_bad P d.org d.e _ _ _ w h1)
  have HMAY := Lib.hid (asm_may n w)
  have HS := Lib.hid h
  have HOK := Lib.hid ok
  clear h h1 h2 h3 ok
  by_cases he : d.e = 0
  · have hbd : (decide (d.e ≠ 0)) = false := by simp [he]
    rw [hbd] at HBAD
    go_enter Try.func35, Try.ntmps35
    cases hmb : mayB n with
    | false =>
      rw [hmb] at HMAY
      go_wp2_with (first
        | (go_at_call 21; refine HBAD.out.mono ?_; rintro e w1 ⟨rfl, rfl⟩)
        | (go_at_call 37; refine HMAY.out.mono ?_; rintro e w1 ⟨rfl, rfl⟩))
      go_end0
      have e : delayF d n = { d with e := 5 } := by unfold delayF; rw [if_neg (by omega), if_pos hmb]
      rw [e]
      exact ⟨rfl, HS.out.setE 5, (Frm.refl _ _).setP HS.out.blkP hPB _⟩
    | true =>
      rw [hmb] at HMAY
      have HM0 := Lib.hid (mayN_of hmb)
      go_wp2_with (first
        | (go_at_call 21; refine HBAD.out.mono ?_; rintro e w1 ⟨rfl, rfl⟩)
        | (go_at_call 37; refine HMAY.out.mono ?_; rintro e w1 ⟨rfl, rfl⟩))
      go_loopw [1] (fun v u => ∃ (m : Int) (f : Nat) (d' : AsmD), v = .int .i64 m ∧ Hid (MayN m) ∧ m.toNat < f ∧ Hid (AsmS B P M nm u d') ∧ Hid (AsmOk d' T) ∧ Hid (Frm B w u) ∧ Hid ((rounds f m).1.foldl bytesF d' = (rounds (n.toNat + 1) n).1.foldl bytesF d ∧ (rounds f m).2 = (rounds (n.toNat + 1) n).2)) (fun v _ => (intOf v).toNat)
      case atStart => exact ⟨n, n.toNat + 1, d, rfl, HM0, by omega, HS, HOK, Lib.hid (Frm.refl _ _), Lib.hid ⟨rfl, rfl⟩⟩
      case round =>
        obtain ⟨m, f, d', rfl, HM, hf, HS', HOK', HB', HE⟩ := hrel
        have hmb2 : 0 ≤ m ∧ m ≤ 1000000 := by have := HM.out; unfold MayN at this; omega
        obtain ⟨m0, m1⟩ := hmb2
        have HBB := Lib.hid HB'.out
        clear HS c4 f4
        by_cases h29 : 29 ≤ m
        · obtain ⟨f', rfl⟩ : ∃ f', f = f' + 1 := ⟨f - 1, by omega⟩
          obtain ⟨q, hq⟩ : ∃ q, (m - 16) / 13 = q := ⟨_, rfl⟩
          have hq1 : 1 ≤ q ∧ 13 * q ≤ m - 16 := by omega
          obtain ⟨q0, q2⟩ := hq1
          have dq : Int.tdiv (m - 14 - 2) 13 = q := by rw [Int.tdiv_eq_ediv_of_nonneg (by omega), ← hq]; congr 1; omega
          by_cases hq5 : q < 255
          · have HQ : Hid (roundK m = q) := Lib.hid (by unfold roundK; rw [hq]; omega)
            have e8 : IntKind.u8.wrap q = q := by rw [IntKind.wrap_u8]; omega
            clear hq
            go_wp2_with (first
              | (go_at_call 11; refine (asm_bytes_new B P M nm T d' 4 [6, q, 16, 254] wr HS'.out HOK'.out rfl (by omega)).mono ?_; rintro e w3 ⟨rfl, k1, k2⟩; have K1 := Lib.hid k1; have K2 := Lib.hid k2; clear k1 k2))
            go_roundw
            case rel => exact ⟨m - (13 * q + 2), f', bytesF d' [6, q, 16, 254], by go_num, Lib.hid (by have := HM.out; unfold MayN; omega), by omega, K1.out, HOK'.out.bytesF (fun x hx => by simp at hx; omega), HB'.out.trans K2.out, Lib.hid (by
              have := HE.out
              rw [rounds_step (by omega), HQ.out] at this
              have hr : roundB m = [6, q, 16, 254] := by unfold roundB; rw [HQ.out]
              rw [hr] at this
              exact this)⟩
            case measure => simp [intOf]; omega
          · have HQ : Hid (roundK m = 255) := Lib.hid (by unfold roundK; rw [hq]; omega)
            clear hq
            go_wp2_with (first
              | (go_at_call 11; refine (asm_bytes_new B P M nm T d' 4 [6, 255, 16, 254] wr HS'.out HOK'.out rfl (by omega)).mono ?_; rintro e w3 ⟨rfl, k1, k2⟩; have K1 := Lib.hid k1; have K2 := Lib.hid k2; clear k1 k2))
            go_roundw
            case rel => exact ⟨m - (13 * 255 + 2), f', bytesF d' [6, 255, 16, 254], by go_num, Lib.hid (by have := HM.out; unfold MayN; omega), by omega, K1.out, HOK'.out.bytesF (fun x hx => by simp at hx; omega), HB'.out.trans K2.out, Lib.hid (by
              have := HE.out
              rw [rounds_step (by omega), HQ.out] at this
              have hr : roundB m = [6, 255, 16, 254] := by unfold roundB; rw [HQ.out]
              rw [hr] at this
              exact this)⟩
            case measure => simp [intOf]; omega
        · have HEE : Hid (d' = (rounds (n.toNat + 1) n).1.foldl bytesF d ∧ m = (rounds (n.toNat + 1) n).2) := Lib.hid (by
            have := HE.out
            rw [rounds_end (by omega)] at this
            exact this)
          have hm4 : m % 4 = 0 ∨ m % 4 = 1 ∨ m % 4 = 2 ∨ m % 4 = 3 := by omega
          rcases hm4 with hr | hr | hr | hr
          · have hge : 0 ≤ m ∧ m ≤ 28 := by have := HM.out; unfold MayN at this; omega
            obtain ⟨g0, g1⟩ := hge
            obtain ⟨z, hz⟩ : ∃ z : Nat, (z : Int) = (m) / 4 := ⟨((m) / 4).toNat, by omega⟩
            have hz7 : z ≤ 7 := by omega
            have rm : Int.tmod m 4 = 0 := by rw [Int.tmod_eq_emod_of_nonneg (by omega)]; exact hr
            have dz : Int.tdiv (m) 4 = z := by rw [Int.tdiv_eq_ediv_of_nonneg (by omega)]; exact hz.symm
            have HR : Hid (m % 4 = 0) := Lib.hid hr
            have HZ := Lib.hid hz
            obtain ⟨Z, hZZ, hmk⟩ := mk_zeros z (by omega)
            have HZZ := Lib.hid hZZ
            clear hr hz hZZ
            go_wp2_with (first
              | (go_at_call 11; refine (asm_bytes_zero B P M nm T (d') z Z wr HS'.out HOK'.out HZZ.out (by omega)).mono ?_; rintro e y1 ⟨rfl, k1, k2⟩; have S1 := Lib.hid k1; have D1 := Lib.hid (HB'.out.trans k2); clear k1 k2))
            go_end0
            have e : delayF d n = bytesF (d') (List.replicate z 0) := by
              unfold delayF
              rw [if_neg (by omega), if_neg (by rw [hmb]; decide), ← HEE.out.1, ← HEE.out.2]
              unfold restF
              rw [if_neg (by rw [HR.out]; decide), if_neg (by rw [HR.out]; decide), if_neg (by rw [HR.out]; decide)]
              unfold zerosL
              rw [← HZ.out]
              rfl
            rw [e]
            exact ⟨rfl, S1.out, D1.out⟩
          · have hge : 17 ≤ m ∧ m ≤ 28 := by have := HM.out; unfold MayN at this; omega
            obtain ⟨g0, g1⟩ := hge
            obtain ⟨z, hz⟩ : ∃ z : Nat, (z : Int) = (m - 17) / 4 := ⟨((m - 17) / 4).toNat, by omega⟩
            have hz7 : z ≤ 7 := by omega
            have rm : Int.tmod m 4 = 1 := by rw [Int.tmod_eq_emod_of_nonneg (by omega)]; exact hr
            have dz : Int.tdiv (m - 17) 4 = z := by rw [Int.tdiv_eq_ediv_of_nonneg (by omega)]; exact hz.symm
            have HR : Hid (m % 4 = 1) := Lib.hid hr
            have HZ := Lib.hid hz
            obtain ⟨Z, hZZ, hmk⟩ := mk_zeros z (by omega)
            have HZZ := Lib.hid hZZ
            clear hr hz hZZ
            go_upto_region 11 with (first
              | (go_at_call 38; refine (asm_next B P M nm T (d') wr HS'.out HOK'.out).mono ?_; rintro e y1 ⟨rfl, k1, k2⟩; have S1 := Lib.hid k1; have O1 : Hid (AsmOk (nextF (d')) T) := Lib.hid (HOK'.out.nextF); have D1 := Lib.hid (HB'.out.trans k2); clear k1 k2)
              | (go_at_call 11; refine (asm_bytes_new B P M nm T (nextF (d')) 2 [6, 0] y1 S1.out O1.out rfl (by omega)).mono ?_; rintro e y2 ⟨rfl, k1, k2⟩; have S2 := Lib.hid k1; have O2 : Hid (AsmOk (bytesF (nextF (d')) [6, 0]) T) := Lib.hid (O1.out.bytesF (fun x hx => by simp at hx; omega)); have D2 := Lib.hid (D1.out.trans k2); clear k1 k2))
            go_wp2_with (first
              | (go_at_call 11; refine (asm_bytes_zero B P M nm T (bytesF (nextF (d')) [6, 0]) z Z y2 S2.out O2.out HZZ.out (by omega)).mono ?_; rintro e y3 ⟨rfl, k1, k2⟩; have S3 := Lib.hid k1; have D3 := Lib.hid (D2.out.trans k2); clear k1 k2))
            go_end0
            have e : delayF d n = bytesF (bytesF (nextF (d')) [6, 0]) (List.replicate z 0) := by
              unfold delayF
              rw [if_neg (by omega), if_neg (by rw [hmb]; decide), ← HEE.out.1, ← HEE.out.2]
              unfold restF
              rw [if_pos HR.out]
              unfold zerosL
              rw [← HZ.out]
              rfl
            rw [e]
            exact ⟨rfl, S3.out, D3.out⟩
          · have hge : 10 ≤ m ∧ m ≤ 28 := by have := HM.out; unfold MayN at this; omega
            obtain ⟨g0, g1⟩ := hge
            obtain ⟨z, hz⟩ : ∃ z : Nat, (z : Int) = (m - 10) / 4 := ⟨((m - 10) / 4).toNat, by omega⟩
            have hz7 : z ≤ 7 := by omega
            have rm : Int.tmod m 4 = 2 := by rw [Int.tmod_eq_emod_of_nonneg (by omega)]; exact hr
            have dz : Int.tdiv (m - 10) 4 = z := by rw [Int.tdiv_eq_ediv_of_nonneg (by omega)]; exact hz.symm
            have HR : Hid (m % 4 = 2) := Lib.hid hr
            have HZ := Lib.hid hz
            obtain ⟨Z, hZZ, hmk⟩ := mk_zeros z (by omega)
            have HZZ := Lib.hid hZZ
            clear hr hz hZZ
            go_wp2_with (first
              | (go_at_call 38; refine (asm_next B P M nm T (d') wr HS'.out HOK'.out).mono ?_; rintro e y1 ⟨rfl, k1, k2⟩; have S1 := Lib.hid k1; have O1 : Hid (AsmOk (nextF (d')) T) := Lib.hid (HOK'.out.nextF); have D1 := Lib.hid (HB'.out.trans k2); clear k1 k2)
              | (go_at_call 11; refine (asm_bytes_zero B P M nm T (nextF (d')) z Z y1 S1.out O1.out HZZ.out (by omega)).mono ?_; rintro e y2 ⟨rfl, k1, k2⟩; have S2 := Lib.hid k1; have D2 := Lib.hid (D1.out.trans k2); clear k1 k2))
            go_end0
            have e : delayF d n = bytesF (nextF (d')) (List.replicate z 0) := by
              unfold delayF
              rw [if_neg (by omega), if_neg (by rw [hmb]; decide), ← HEE.out.1, ← HEE.out.2]
              unfold restF
              rw [if_neg (by rw [HR.out]; decide), if_pos HR.out]
              unfold zerosL
              rw [← HZ.out]
              rfl
            rw [e]
            exact ⟨rfl, S2.out, D2.out⟩
          · have hge : 7 ≤ m ∧ m ≤ 28 := by have := HM.out; unfold MayN at this; omega
            obtain ⟨g0, g1⟩ := hge
            obtain ⟨z, hz⟩ : ∃ z : Nat, (z : Int) = (m - 7) / 4 := ⟨((m - 7) / 4).toNat, by omega⟩
            have hz7 : z ≤ 7 := by omega
            have rm : Int.tmod m 4 = 3 := by rw [Int.tmod_eq_emod_of_nonneg (by omega)]; exact hr
            have dz : Int.tdiv (m - 7) 4 = z := by rw [Int.tdiv_eq_ediv_of_nonneg (by omega)]; exact hz.symm
            have HR : Hid (m % 4 = 3) := Lib.hid hr
            have HZ := Lib.hid hz
            obtain ⟨Z, hZZ, hmk⟩ := mk_zeros z (by omega)
            have HZZ := Lib.hid hZZ
            clear hr hz hZZ
            go_upto_region 17 with (first
              | (go_at_call 11; refine (asm_bytes_new B P M nm T (d') 2 [6, 0] wr HS'.out HOK'.out rfl (by omega)).mono ?_; rintro e y1 ⟨rfl, k1, k2⟩; have S1 := Lib.hid k1; have O1 : Hid (AsmOk (bytesF (d') [6, 0]) T) := Lib.hid (HOK'.out.bytesF (fun x hx => by simp at hx; omega)); have D1 := Lib.hid (HB'.out.trans k2); clear k1 k2))
            go_wp2_with (first
              | (go_at_call 11; refine (asm_bytes_zero B P M nm T (bytesF (d') [6, 0]) z Z y1 S1.out O1.out HZZ.out (by omega)).mono ?_; rintro e y2 ⟨rfl, k1, k2⟩; have S2 := Lib.hid k1; have D2 := Lib.hid (D1.out.trans k2); clear k1 k2))
            go_end0
            have e : delayF d n = bytesF (bytesF (d') [6, 0]) (List.replicate z 0) := by
              unfold delayF
              rw [if_neg (by omega), if_neg (by rw [hmb]; decide), ← HEE.out.1, ← HEE.out.2]
              unfold restF
              rw [if_neg (by rw [HR.out]; decide), if_neg (by rw [HR.out]; decide), if_pos HR.out]
              unfold zerosL
              rw [← HZ.out]
              rfl
            rw [e]
            exact ⟨rfl, S2.out, D2.out⟩
  · have hbd : (decide (d.e ≠ 0)) = true := by simp [he]
    rw [hbd] at HBAD
    go_enter Try.func35, Try.ntmps35
    go_wp2_with (first
      | (go_at_call 21; refine HBAD.out.mono ?_; rintro e w1 ⟨rfl, rfl⟩))
    go_end0
    have e : delayF d n = d := by unfold delayF; rw [if_pos he]
    rw [e]
    exact ⟨rfl, HS.out, Frm.refl _ _⟩
end Go.Proofs.Ytnkjmmbhjhmgdaa
