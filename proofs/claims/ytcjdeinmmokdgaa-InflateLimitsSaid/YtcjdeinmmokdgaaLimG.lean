/- inflate's unpacker: copied. -/
import Derived.Test.YtcjdeinmmokdgaaLimF
import Derived.StillTailTactics
namespace Go.Proofs.Ytcjdeinmmokdgaa
set_option linter.unusedSimpArgs false
set_option linter.unusedVariables false
open Go.RowKit
namespace Uf
/-- so many bytes are to be copied -/
def copyR (lim : Int) (back n : Nat) (out : List Int) (q : Nat) : Except Int (List Int × Nat) := if lim < (out.length : Int) + n then .error 8 else .ok (copyL back n out, q)
theorem copyR_full {lim : Int} {back n : Nat} {out : List Int} {q : Nat} (h : lim ≤ out.length) : copyR lim back (n + 1) out q = .error 8 := by
  unfold copyR; rw [if_pos (by omega)]
theorem copyR_step {lim : Int} {back n : Nat} {out : List Int} {q : Nat} : copyR lim back (n + 1) out q = copyR lim back n (out ++ [out.getD (out.length - back) 0]) q := by
  unfold copyR
  rw [List.length_append, List.length_singleton, copyL]
  have e : ((out.length : Int) + ((n + 1 : Nat) : Int)) = ((out.length + 1 : Nat) : Int) + n := by omega
  rw [e]
theorem copyR_end {lim : Int} {back : Nat} {out : List Int} {q : Nat} (h : (out.length : Int) ≤ lim) : copyR lim back 0 out q = .ok (out, q) := by
  unfold copyR; rw [if_neg (by omega)]; rfl
theorem post_long (s : Int) (h0 : 256 < s) : Post (longM s) (fun n => 0 ≤ n ∧ n ≤ 1000) := by
  refine post_if (fun c1 => post_pure (by omega)) fun c1 => post_if (fun _ => post_pure (by omega)) fun c2 => post_if (fun _ => post_fail) fun c3 => ?_
  have hj : (s - 261).toNat / 4 = 1 ∨ (s - 261).toNat / 4 = 2 ∨ (s - 261).toNat / 4 = 3 ∨ (s - 261).toNat / 4 = 4 ∨ (s - 261).toNat / 4 = 5 := by omega
  refine post_bind (post_take _) fun v hv => post_pure ?_
  rcases hj with h | h | h | h | h <;> rw [h] at hv ⊢ <;> simp at hv ⊢ <;> omega
theorem post_far (d : List Int) : Post (farM d) (fun n => 1 ≤ n) := by
  refine post_bind (post_next d) fun s hs => post_if (fun _ => post_pure (by omega)) fun c1 => post_if (fun _ => post_fail) fun c2 => post_bind (post_take _) fun v hv => post_pure ?_
  have h1 : 0 ≤ (2 + (s - 2) % 2) * 2 ^ ((s - 2).toNat / 2) := Int.mul_nonneg (by omega) (Int.pow_nonneg (by decide))
  omega
end Uf
/-- what holds ahead of a byte's copy -/
def CpR (R : Except Int (List Int × Nat)) (n back q : Nat) (U r : Nat) (A : Option Addr) (c : Nat) (bs : List Int) (lim : Int) (B : Nat) (w : World) (k : Nat) (wr : World) : Prop :=
  ∃ out v, R = Uf.copyR lim back (n - k) out q ∧ back ≤ out.length ∧ (out.length : Int) ≤ lim ∧ Un wr U r A c bs q v out lim B ∧ KeptU B U r w wr ∧ ∀ g l, TabR w g l → TabR wr g l
theorem BlkP.err {k : Int} {U r : Nat} {A : Option Addr} {c : Nat} {bs : List Int} {lim : Int} {B : Nat} {w w' : World} (hk : KeptU B U r w w') (ht : ∀ g l, TabR w g l → TabR w' g l) (h : k ≠ 0) : BlkP (.error k) U r A c bs lim B w (.returned (.int .i64 k)) w' := ⟨hk, ht, rfl, h⟩
set_option maxRecDepth 100000 in
set_option maxHeartbeats 16000000 in
theorem ucopied_any (s : Int) (h0 : 256 < s) (hs : s ≤ 1000) (d : List Int) (gd U r : Nat) (A : Option Addr) (c : Nat) (bs : List Int) (p : Nat) (v : Value) (out : List Int) (lim : Int) (B : Nat) (w : World) (h : Un w U r A c bs p v out lim B)
    (hfit : (out.length : Int) ≤ lim) (hl2 : lim ≤ 2000000) (hT : TabR w gd d) (he : Hf.err d = 0) :
    Calls Try.prog 35 #[.pointer (some ⟨U, 0, none⟩), .int .i64 s, .pointer (some ⟨gd, 0, none⟩)] w (BlkP (Uf.copiedM lim s d out bs p) U r A c bs lim B w) := by
  have HL := ulong_any s h0 hs U r A c bs p v out lim B w h
  cases hlm : Uf.longM s bs p with
  | error k =>
    have hR : Uf.copiedM lim s d out bs p = .error k := by unfold Uf.copiedM; rw [Uf.bindM, hlm]
    rw [hR]
    rw [hlm] at HL
    have HL := Lib.hid HL
    have HH := Lib.hid h
    clear hR hlm h hT he
    go_enter Try.func35, Try.ntmps35
    go_wp2_with (first
      | (go_at_call 38; refine HL.out.mono ?_; rintro e w1 ⟨hg1, y, rfl, hk⟩; have HG1 := Lib.hid hg1; clear hg1))
    go_ret
    exact .err (KeptU.of_grown HG1.out) (fun g l hT => hT.bits HH.out.bits.1 HG1.out) hk
  | ok x1 =>
    obtain ⟨n, q1⟩ := x1
    rw [hlm] at HL
    have hn := Uf.post_long s h0 bs p n q1 hlm
    obtain ⟨n, rfl⟩ : ∃ m : Nat, n = m := ⟨n.toNat, by omega⟩
    have HF : ∀ w1, Un w1 U r A c bs q1 v out lim B → w.grownBy w1 (some r) → Calls Try.prog 39 #[.pointer (some ⟨U, 0, none⟩), .pointer (some ⟨gd, 0, none⟩)] w1 (RdP (Uf.farM d bs q1) U r A c bs v out lim B w1) := fun w1 h1 hg => ufar_any d gd U r A c bs q1 v out lim B w1 h1 (hT.bits h.bits.1 hg) he
    cases hfm : Uf.farM d bs q1 with
    | error k =>
      have hR : Uf.copiedM lim s d out bs p = .error k := by
        unfold Uf.copiedM; rw [Uf.bindM, hlm]; simp only; rw [Uf.bindM, hfm]
      rw [hR]
      rw [hfm] at HF
      have HL := Lib.hid HL
      have HF := Lib.hid HF
      have HH := Lib.hid h
      clear hR hlm hfm h hT he
      go_enter Try.func35, Try.ntmps35
      go_wp2_with (first
        | (go_at_call 39; refine (HF.out w1 HU1.out HG1.out).mono ?_; rintro e w2 ⟨hg2, y, rfl, hk⟩; have HG2 := Lib.hid hg2; clear hg2)
        | (go_at_call 38; refine HL.out.mono ?_; rintro e w1 ⟨hg1, rfl, hu1⟩; have HG1 := Lib.hid hg1; have HU1 := Lib.hid hu1; clear hg1 hu1))
      go_ret
      exact .err (KeptU.of_grown (HG1.out.trans HG2.out)) (fun g l hT => hT.bits HH.out.bits.1 (HG1.out.trans HG2.out)) hk
    | ok x2 =>
      obtain ⟨back, q⟩ := x2
      rw [hfm] at HF
      have hb := Uf.post_far d bs q1 back q hfm
      obtain ⟨back, rfl⟩ : ∃ m : Nat, back = m := ⟨back.toNat, by omega⟩
      obtain ⟨K, cv, rfl, -, hKn⟩ := own_slice3 h.own
      obtain ⟨m, hm⟩ : ∃ m, m = out.length := ⟨_, rfl⟩
      have HM := Lib.hid hm
      have hmL : (m : Int) ≤ 2000000 := by omega
      have hU1 : ∀ w2, Un w2 U r A c bs q (.slice K out.length cv) out lim B → w2.cell? ⟨U, 1, none⟩ = some (.slice K m cv) := fun w2 h2 => by rw [hm]; exact h2.blk.cell 1
      have HUC := Lib.hid hU1
      have HL := Lib.hid HL
      have HF := Lib.hid HF
      have HH := Lib.hid h
      by_cases hbl : m < back
      · have hR : Uf.copiedM lim s d out bs p = .error 4 := by
          unfold Uf.copiedM; rw [Uf.bindM, hlm]; simp only; rw [Uf.bindM, hfm]; simp only; rw [if_pos (by omega)]; rfl
        rw [hR]
        clear hR hlm hfm h hT he hU1 hm hfit
        go_enter Try.func35, Try.ntmps35
        go_wp2_with (first
          | (go_at_call 39; refine (HF.out w1 HU1.out HG1.out).mono ?_; rintro e w2 ⟨hg2, rfl, hu2⟩; have HG2 := Lib.hid hg2; have u1 := HUC.out w2 hu2; clear hg2 hu2)
          | (go_at_call 38; refine HL.out.mono ?_; rintro e w1 ⟨hg1, rfl, hu1⟩; have HG1 := Lib.hid hg1; have HU1 := Lib.hid hu1; clear hg1 hu1))
        go_ret
        exact .err (KeptU.of_grown (HG1.out.trans HG2.out)) (fun g l hT => hT.bits HH.out.bits.1 (HG1.out.trans HG2.out)) (by decide)
      · have hR : Uf.copiedM lim s d out bs p = Uf.copyR lim back n out q := by
          unfold Uf.copiedM; rw [Uf.bindM, hlm]; simp only; rw [Uf.bindM, hfm]; simp only; rw [if_neg (by omega)]
          unfold Uf.copyR
          simp only [Int.toNat_natCast]
          split <;> rfl
        rw [hR]
        obtain ⟨R, HR⟩ : ∃ R, R = Uf.copyR lim back n out q := ⟨_, rfl⟩
        rw [← HR]
        have HRR := Lib.hid HR
        have HFIT := Lib.hid hfit
        clear hR hlm hfm h hT he hU1 HR hm hfit
        go_enter Try.func35, Try.ntmps35
        go_wp2_with (first
          | (go_at_call 39; refine (HF.out w1 HU1.out HG1.out).mono ?_; rintro e w2 ⟨hg2, rfl, hu2⟩; have HG2 := Lib.hid hg2; have u1 := HUC.out w2 hu2; have HU2 := Lib.hid hu2; clear hg2 hu2)
          | (go_at_call 38; refine HL.out.mono ?_; rintro e w1 ⟨hg1, rfl, hu1⟩; have HG1 := Lib.hid hg1; have HU1 := Lib.hid hu1; clear hg1 hu1))
        go_loopw [37] (fun i wr => ∃ k : Nat, i = .int .i64 k ∧ k ≤ n ∧ CpR R n back q U r A c bs lim B w k wr) (fun i _ => n - (intOf i).toNat)
        case atStart =>
          refine ⟨0, rfl, by omega, out, _, HRR.out, ?_, HFIT.out, HU2.out, KeptU.of_grown (HG1.out.trans HG2.out), fun g l hT => hT.bits HH.out.bits.1 (HG1.out.trans HG2.out)⟩
          have := HM.out; omega
        case round =>
          obtain ⟨k, rfl, hkn, o, v1, hR, hbo, hol, hu, hk, ht⟩ := hrel
          have HRK := Lib.hid hR
          have HU := Lib.hid hu
          have HK := Lib.hid hk
          have HTR := Lib.hid ht
          by_cases hkk : k < n
          · obtain ⟨K2, c2, rfl, hcl, hK2⟩ := own_slice3 hu.own
            obtain ⟨j, hj⟩ : ∃ j, j = o.length - back := ⟨_, rfl⟩
            obtain ⟨m2, hm2⟩ : ∃ m, m = o.length := ⟨_, rfl⟩
            obtain ⟨x, hx⟩ : ∃ x, x = o.getD j 0 := ⟨_, rfl⟩
            have hjl : j < o.length := by omega
            obtain ⟨ad, rfl, hcj⟩ := hcl j (.int .u8 x) (by rw [List.getElem?_map, List.getElem?_eq_getElem hjl, hx, List.getD_eq_getElem?_getD, List.getElem?_eq_getElem hjl]; rfl)
            have hjj : (m2 : Int) - back = j := by omega
            have hlt : j < m2 := by omega
            have uu : wr.cell? ⟨U, 1, none⟩ = some (.slice (some ad) m2 c2) := by rw [hm2]; exact hu.blk.cell 1
            have HM2 := Lib.hid hm2
            have HX := Lib.hid hx
            have HJ := Lib.hid hj
            have hm9 : (m2 : Int) ≤ 2000000 := by omega
            have hwj : IntKind.i64.wrap (j : Int) = j := by rw [IntKind.wrap_i64]; omega
            have HOL := Lib.hid hol
            have HBO := Lib.hid hbo
            clear hu hk ht hR hcl hx hj hm2 hol hbo
            go_wp2
            go_still_tail 14, (by kernel_rfl)
            change wpList _ _ _ _ _ wr.drew
            obtain ⟨wq, hwq⟩ : ∃ wq, wq = wr.drew := ⟨_, rfl⟩
            rw [← hwq]
            have HUQ : Hid (Un wq U r A c bs q (.slice (some ad) o.length c2) o lim B) := by rw [hwq]; exact Lib.hid (HU.out.drewN 1)
            have HKQ : Hid (KeptU B U r w wq) := by rw [hwq]; exact Lib.hid (HK.out.drewN 1)
            have HTQ : Hid (∀ g l, TabR w g l → TabR wq g l) := by rw [hwq]; exact Lib.hid (fun g l h => (HTR.out g l h).drewN 1)
            clear hwq
            by_cases hfull : lim ≤ (m2 : Int)
            · have HP := Lib.hid (uput_full U r A c bs q _ o lim B x wq HUQ.out (by rw [← HM2.out]; exact hfull))
              go_wp2_with (first
                | (go_at_call 34; refine HP.out.mono ?_; rintro e w4 ⟨hk4, ht4, rfl, -⟩; have HK4 := Lib.hid hk4; have HT4 := Lib.hid ht4; clear hk4 ht4))
              go_ret
              have hR : R = .error 8 := by
                rw [HRK.out, show n - k = (n - k - 1) + 1 from by omega, Uf.copyR_full (by rw [← HM2.out]; exact hfull)]
              rw [hR]
              exact .err (HKQ.out.trans HK4.out) (fun g l h => HT4.out _ _ (HTQ.out _ _ h)) (by decide)
            · have HP := Lib.hid (put_ok U r A c bs q _ o lim B x wq HUQ.out (by rw [← HM2.out]; omega) hl2)
              go_wp2_with (first
                | (go_at_call 34; refine HP.out.mono ?_; rintro e w4 ⟨rfl, ⟨v4, hu4⟩, hk4, ht4⟩; have HU4 := Lib.hid hu4; have HK4 := Lib.hid hk4; have HT4 := Lib.hid ht4; clear hu4 hk4 ht4))
              go_roundw
              case rel =>
                refine ⟨k + 1, by first | rfl | (congr 1; omega), by omega, o ++ [x], v4, ?_, ?_, ?_, HU4.out, HKQ.out.trans HK4.out, fun g l h => HT4.out _ _ (HTQ.out _ _ h)⟩
                · rw [HRK.out, show n - k = (n - (k + 1)) + 1 from by omega, Uf.copyR_step, HX.out, HJ.out]
                · have := HBO.out; simp; omega
                · have := HM2.out; simp; omega
              case measure => simp [intOf]; omega
          · have hke : k = n := by omega
            subst hke
            have hR : R = .ok (o, q) := by rw [HRK.out, Nat.sub_self, Uf.copyR_end hol]
            have HR2 := Lib.hid hR
            clear hu hk ht hR hol hbo
            go_wp2
            go_ret
            rw [HR2.out]
            exact ⟨HK.out, HTR.out, rfl, _, HU.out⟩
end Go.Proofs.Ytcjdeinmmokdgaa
