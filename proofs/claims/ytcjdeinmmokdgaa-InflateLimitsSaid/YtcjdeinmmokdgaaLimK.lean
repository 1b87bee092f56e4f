/- inflate's unpacker: tables, from what ahead's contract says. -/
import Derived.Test.YtcjdeinmmokdgaaLimJ
namespace Go.Proofs.Ytcjdeinmmokdgaa
set_option linter.unusedSimpArgs false
set_option linter.unusedVariables false
open Go.RowKit
/-- what stands ahead of the lengths was read, or not -/
def AhdP (R : Except Int ((Nat × Nat × List Int) × Nat)) (r : Nat) (A : Option Addr) (c : Nat) (bs : List Int) (w : World) (e : Ending) (w' : World) : Prop :=
  w.grownBy w' (some r) ∧ match R with
    | .ok ((sy, d, l), q) => BitsAt w' r A c bs q ∧ ∃ gt, e = .returned (.tuple #[.int .i64 sy, .int .i64 d, .pointer (some ⟨gt, 0, none⟩), .int .i64 0]) ∧ TabR w' gt l ∧ Hf.err l = 0
    | .error k => ∃ x y z, e = .returned (.tuple #[x, y, z, .int .i64 k]) ∧ k ≠ 0
/-- both tables were read, or not -/
def TabsP (R : Except Int ((List Int × List Int) × Nat)) (r : Nat) (A : Option Addr) (c : Nat) (bs : List Int) (w : World) (e : Ending) (w' : World) : Prop :=
  w.grownBy w' (some r) ∧ match R with
    | .ok ((la, ld), q) => BitsAt w' r A c bs q ∧ ∃ ga gd, e = .returned (.tuple #[.pointer (some ⟨ga, 0, none⟩), .pointer (some ⟨gd, 0, none⟩), .int .i64 0]) ∧ TabR w' ga la ∧ TabR w' gd ld ∧ Hf.err la = 0 ∧ Hf.err ld = 0
    | .error k => ∃ x y, e = .returned (.tuple #[x, y, .int .i64 k]) ∧ k ≠ 0
/-- ahead's contract -/
def AhdC (U r : Nat) (A : Option Addr) (c : Nat) (bs : List Int) (p : Nat) (v : Value) (out : List Int) (lim : Int) (B : Nat) (w : World) : Prop :=
  Calls Try.prog 36 #[.pointer (some ⟨U, 0, none⟩)] w (AhdP (Uf.aheadM bs p) r A c bs w)
theorem Uf.post_lengths_len (t : List Int) (many : Nat) : ∀ f a, a.length ≤ many → Uf.Post (Uf.lengthsM t many f a) (fun l => l.length = many) := by
  intro f
  induction f with
  | zero => intro a _; exact Uf.post_fail
  | succ f ih =>
    intro a ha
    refine Uf.post_if (fun h => Uf.post_pure (by omega)) fun h => Uf.post_bind (Uf.post_next t) fun s hs => ?_
    refine Uf.post_if (fun _ => ih _ (by simp; omega)) fun _ => Uf.post_if (fun _ => Uf.post_if (fun _ => Uf.post_fail) fun _ => Uf.post_bind (Uf.post_take 2) fun n hn => Uf.post_if (fun _ => Uf.post_fail) fun _ => ih _ (by simp; omega)) fun _ => Uf.post_if (fun _ => Uf.post_bind (Uf.post_take 3) fun n hn => Uf.post_if (fun _ => Uf.post_fail) fun _ => ih _ (by simp; omega)) fun _ => Uf.post_bind (Uf.post_take 7) fun n hn => Uf.post_if (fun _ => Uf.post_fail) fun _ => ih _ (by simp; omega)
theorem own_slice5 {w : World} {base n : Nat} {e : TypeId} {v : Value} {xs : List Value} (h : w.ownsRow base e 1 v n xs) (h0 : 0 < n) : ∃ (g c : Nat), v = .slice (some ⟨g, 0, none⟩) n c ∧ n ≤ c ∧ c ≤ 9223372036854775807 ∧ Cells w (some ⟨g, 0, none⟩) xs := by
  rcases h.2 with ⟨rfl, rfl⟩ | ⟨g, c, cur, rfl, _, _, h2, h3, _⟩
  · omega
  · exact ⟨g, c, rfl, h2, Nat.le_trans h3 (by decide), fun i v hi => ⟨_, rfl, h.cells (g := g) rfl i v hi⟩⟩
theorem ints_from {w : World} {g : Nat} {k : IntKind} {a : List Int} (h : Ints w (some ⟨g, 0, none⟩) k a) (n : Nat) : Ints w (some ⟨g, n, none⟩) k (a.drop n) := by
  have := ints_cut h n (a.drop n).length ⟨g, 0, none⟩ rfl
  rw [List.take_of_length_le (Nat.le_refl _)] at this
  have e : Addr.add ⟨g, 0, none⟩ n = ⟨g, n, none⟩ := by simp [Addr.add, eq_comm]
  rw [e] at this
  exact this
theorem Uf.post_ahead : Uf.Post Uf.aheadM (fun x => 257 ≤ x.1 ∧ 1 ≤ x.2.1 ∧ x.1 + x.2.1 ≤ 320) :=
  Uf.post_bind (Uf.post_take 5) fun a ha => Uf.post_bind (Uf.post_take 5) fun b hb => Uf.post_bind (Uf.post_take 4) fun c hc => Uf.post_if (fun _ => Uf.post_fail) fun hn => Uf.post_bind (Uf.post_any _) fun l _ => Uf.post_bind (Uf.post_any _) fun _ _ => Uf.post_pure (by
    show 257 ≤ (a + 257).toNat ∧ 1 ≤ (b + 1).toNat ∧ (a + 257).toNat + (b + 1).toNat ≤ 320
    omega)
set_option maxRecDepth 100000 in
set_option maxHeartbeats 16000000 in
theorem utables_any (U r : Nat) (A : Option Addr) (c : Nat) (bs : List Int) (p : Nat) (v : Value) (out : List Int) (lim : Int) (B : Nat) (w : World) (h : Un w U r A c bs p v out lim B)
    (hlen : 8 * bs.length < Uf.fuel) (HA : AhdC U r A c bs p v out lim B w) :
    Calls Try.prog 25 #[.pointer (some ⟨U, 0, none⟩)] w (TabsP (Uf.tablesM bs p) r A c bs w) := by
  unfold AhdC at HA
  rw [Uf.tablesM, Uf.bindM]
  cases ham : Uf.aheadM bs p with
  | error k =>
    rw [ham] at HA
    have HA := Lib.hid HA
    clear h ham
    simp only
    go_enter Try.func25, Try.ntmps25
    go_wp2_with (first
      | (go_at_call 36; refine HA.out.mono ?_; rintro e w1 ⟨hg1, x, y, z, rfl, hk⟩; have HG1 := Lib.hid hg1; clear hg1))
    go_ret3
    exact ⟨HG1.out, _, _, rfl, hk⟩
  | ok x1 =>
    obtain ⟨⟨sy, d, l⟩, q⟩ := x1
    obtain ⟨hsy, hd, hsd⟩ := Uf.post_ahead bs p _ _ ham
    replace hsd : sy + d ≤ 320 := hsd
    replace hsy : 257 ≤ sy := hsy
    replace hd : 1 ≤ d := hd
    rw [ham] at HA
    simp only
    rw [Uf.bindM]
    have HLE : ∀ w1 gt, BitsAt w1 r A c bs q → w.grownBy w1 (some r) → TabR w1 gt l → Hf.err l = 0 → Calls Try.prog 37 #[.pointer (some ⟨U, 0, none⟩), .pointer (some ⟨gt, 0, none⟩), .int .i64 (sy + d : Nat)] w1 (LenP (Uf.lengthsM l (sy + d) Uf.fuel [] bs q) U r A c bs w1) := fun w1 gt hb hg ht he =>
      ulengths_any l (sy + d) gt U r A c bs q v out lim B w1 (h.step hg hb) ht he hsd hlen
    obtain ⟨mn, hmn⟩ : ∃ mn : Nat, mn = sy + d := ⟨_, rfl⟩
    have hmi : (sy : Int) + d = mn := by omega
    rw [← hmn] at HLE ⊢
    cases hlm : Uf.lengthsM l mn Uf.fuel [] bs q with
    | error k =>
      rw [hlm] at HLE
      have HA := Lib.hid HA
      have HLE := Lib.hid HLE
      clear h ham hlm hmn
      simp only
      go_enter Try.func25, Try.ntmps25
      go_wp2_with (first
        | (go_at_call 37; refine (HLE.out w1 gt HB1.out HG1.out HT1.out he1.out).mono ?_; rintro e w2 ⟨hg2, y, rfl, hk⟩; have HG2 := Lib.hid hg2; clear hg2)
        | (go_at_call 36; refine HA.out.mono ?_; rintro e w1 ⟨hg1, hb1, gt, rfl, ht1, he1⟩; have HG1 := Lib.hid hg1; have HB1 := Lib.hid hb1; have HT1 := Lib.hid ht1; have he1 := Lib.hid he1; clear hg1 hb1 ht1))
      go_ret3
      exact ⟨HG1.out.trans HG2.out, _, _, rfl, hk⟩
    | ok x2 =>
      obtain ⟨a, q2⟩ := x2
      have hal := Uf.post_lengths_len l mn Uf.fuel [] (by simp) bs q a q2 hlm
      replace hal : a.length = mn := hal
      rw [hlm] at HLE
      simp only
      obtain ⟨z, hz0⟩ : ∃ z, z = a.getD 256 0 := ⟨_, rfl⟩
      have HZ : Hid ((a.map (Value.int .i64))[256]? = some (.int .i64 z)) := by
        show _ = _
        rw [List.getElem?_map, List.getElem?_eq_getElem (by omega), hz0, List.getD_eq_getElem?_getD, List.getElem?_eq_getElem (by omega)]; rfl
      rw [← hz0]
      have HA := Lib.hid HA
      have HLE := Lib.hid HLE
      have HAL := Lib.hid hal
      have HLA := Lib.hid (show (a.take sy).length = sy by simp; omega)
      have HLD := Lib.hid (show (a.drop sy).length = d by simp; omega)
      by_cases hzz : z = 0
      · rw [if_pos hzz]
        subst hzz
        clear h ham hlm hal hz0 hmn
        go_enter Try.func25, Try.ntmps25
        go_wp2_with (first
          | (go_at_call 37; refine (HLE.out w1 gt HB1.out HG1.out HT1.out he1.out).mono ?_; rintro e w2 ⟨hg2, sl, rfl, hw2⟩; obtain ⟨g, cv, rfl, hcv, hcv2, hcl⟩ := own_slice5 hw2.own (by have := HAL.out; omega); have HG2 := Lib.hid (HG1.out.trans hg2); have HB2 := Lib.hid hw2.bits; have HI2 : Hid (Ints w2 (some ⟨g, 0, none⟩) .i64 a) := Lib.hid hcl; have hz : w2.cell? ⟨g, 256, none⟩ = some (.int .i64 0) := (by obtain ⟨ad, e, hc⟩ := hcl 256 (.int .i64 0) (HZ.out); injection e with e; subst e; exact hc); rw [HAL.out] at hcv ⊢; clear hg2 hw2 hcl)
          | (go_at_call 36; refine HA.out.mono ?_; rintro e w1 ⟨hg1, hb1, gt, rfl, ht1, he1⟩; have HG1 := Lib.hid hg1; have HB1 := Lib.hid hb1; have HT1 := Lib.hid ht1; have he1 := Lib.hid he1; clear hg1 hb1 ht1))
        go_ret3
        exact ⟨HG2.out, _, _, rfl, by decide⟩
      · rw [if_neg hzz]
        by_cases e1 : Hf.err (a.take sy) = 0
        · by_cases e2 : Hf.err (a.drop sy) = 0
          · have hR : Uf.bindM (Uf.newM (a.take sy)) (fun _ => Uf.bindM (Uf.newM (a.drop sy)) fun _ => Uf.pureM (a.take sy, a.drop sy)) bs q2 = .ok ((a.take sy, a.drop sy), q2) := by
              rw [Uf.bindM, Uf.newM, if_pos e1]; simp only [Uf.pureM]; rw [Uf.bindM, Uf.newM, if_pos e2]; rfl
            rw [hR]
            have E1 := Lib.hid e1
            have E2 := Lib.hid e2
            clear h ham hlm hal hz0 hmn hR e1 e2
            go_enter Try.func25, Try.ntmps25
            go_wp2_with (first
              | (go_at_call 23; have HJ := HJ3; rw [HMD.out]; refine (new_ok _ d _ (a.drop sy) w3 HJ3.out HLD.out E2.out).mono ?_; rintro e w4 ⟨gd, rfl, ht4, -, hb4⟩; have HG4 := Lib.hid (HG3.out.trans (grownBy_below hb4)); have HT4 := Lib.hid ht4.read; have HT34 := Lib.hid (HT3.out.below hb4); have HB4 := Lib.hid (HB3.out.below hb4); clear hb4 ht4)
              | (go_at_call 23; refine (new_ok _ sy _ (a.take sy) w2 (by have := ints_cut HI2.out 0 sy ⟨g, 0, none⟩ rfl; rw [List.drop_zero] at this; exact this) HLA.out E1.out).mono ?_; rintro e w3 ⟨ga, rfl, ht3, -, hb3⟩; have HG3 := Lib.hid (HG2.out.trans (grownBy_below hb3)); have HT3 := Lib.hid ht3.read; have HB3 := Lib.hid (HB2.out.below hb3); have HJ3 : Hid (Ints w3 (some ⟨g, sy, none⟩) .i64 (a.drop sy)) := Lib.hid (ints_from (Cells.below HI2.out hb3) sy); have HMD : Hid (mn - sy = d) := Lib.hid (by omega); clear hb3 ht3)
              | (go_at_call 37; refine (HLE.out w1 gt HB1.out HG1.out HT1.out he1.out).mono ?_; rintro e w2 ⟨hg2, sl, rfl, hw2⟩; obtain ⟨g, cv, rfl, hcv, hcv2, hcl⟩ := own_slice5 hw2.own (by have := HAL.out; omega); have HG2 := Lib.hid (HG1.out.trans hg2); have HB2 := Lib.hid hw2.bits; have HI2 : Hid (Ints w2 (some ⟨g, 0, none⟩) .i64 a) := Lib.hid hcl; have hz : w2.cell? ⟨g, 256, none⟩ = some (.int .i64 z) := (by obtain ⟨ad, e, hc⟩ := hcl 256 (.int .i64 z) (HZ.out); injection e with e; subst e; exact hc); rw [HAL.out] at hcv ⊢; clear hg2 hw2 hcl)
              | (go_at_call 36; refine HA.out.mono ?_; rintro e w1 ⟨hg1, hb1, gt, rfl, ht1, he1⟩; have HG1 := Lib.hid hg1; have HB1 := Lib.hid hb1; have HT1 := Lib.hid ht1; have he1 := Lib.hid he1; clear hg1 hb1 ht1))
            go_ret3
            exact ⟨HG4.out, HB4.out, ga, gd, rfl, HT34.out, HT4.out, E1.out, E2.out⟩
          · have hR : Uf.bindM (Uf.newM (a.take sy)) (fun _ => Uf.bindM (Uf.newM (a.drop sy)) fun _ => Uf.pureM (a.take sy, a.drop sy)) bs q2 = .error (Hf.err (a.drop sy)) := by
              rw [Uf.bindM, Uf.newM, if_pos e1]; simp only [Uf.pureM]; rw [Uf.bindM, Uf.newM, if_neg e2]; rfl
            rw [hR]
            have E1 := Lib.hid e1
            have E2 := Lib.hid e2
            clear h ham hlm hal hz0 hmn hR e1 e2
            go_enter Try.func25, Try.ntmps25
            go_wp2_with (first
              | (go_at_call 23; have HJ := HJ3; rw [HMD.out]; refine (new_bad _ d _ (a.drop sy) w3 HJ3.out HLD.out (by omega) E2.out).mono ?_; rintro e w4 ⟨rfl, hb4⟩; have HG4 := Lib.hid (HG3.out.trans (grownBy_below hb4)); clear hb4)
              | (go_at_call 23; refine (new_ok _ sy _ (a.take sy) w2 (by have := ints_cut HI2.out 0 sy ⟨g, 0, none⟩ rfl; rw [List.drop_zero] at this; exact this) HLA.out E1.out).mono ?_; rintro e w3 ⟨ga, rfl, ht3, -, hb3⟩; have HG3 := Lib.hid (HG2.out.trans (grownBy_below hb3)); have HT3 := Lib.hid ht3.read; have HB3 := Lib.hid (HB2.out.below hb3); have HJ3 : Hid (Ints w3 (some ⟨g, sy, none⟩) .i64 (a.drop sy)) := Lib.hid (ints_from (Cells.below HI2.out hb3) sy); have HMD : Hid (mn - sy = d) := Lib.hid (by omega); clear hb3 ht3)
              | (go_at_call 37; refine (HLE.out w1 gt HB1.out HG1.out HT1.out he1.out).mono ?_; rintro e w2 ⟨hg2, sl, rfl, hw2⟩; obtain ⟨g, cv, rfl, hcv, hcv2, hcl⟩ := own_slice5 hw2.own (by have := HAL.out; omega); have HG2 := Lib.hid (HG1.out.trans hg2); have HB2 := Lib.hid hw2.bits; have HI2 : Hid (Ints w2 (some ⟨g, 0, none⟩) .i64 a) := Lib.hid hcl; have hz : w2.cell? ⟨g, 256, none⟩ = some (.int .i64 z) := (by obtain ⟨ad, e, hc⟩ := hcl 256 (.int .i64 z) (HZ.out); injection e with e; subst e; exact hc); rw [HAL.out] at hcv ⊢; clear hg2 hw2 hcl)
              | (go_at_call 36; refine HA.out.mono ?_; rintro e w1 ⟨hg1, hb1, gt, rfl, ht1, he1⟩; have HG1 := Lib.hid hg1; have HB1 := Lib.hid hb1; have HT1 := Lib.hid ht1; have he1 := Lib.hid he1; clear hg1 hb1 ht1))
            go_ret3
            exact ⟨HG4.out, _, _, rfl, E2.out⟩
        · have hR : Uf.bindM (Uf.newM (a.take sy)) (fun _ => Uf.bindM (Uf.newM (a.drop sy)) fun _ => Uf.pureM (a.take sy, a.drop sy)) bs q2 = .error (Hf.err (a.take sy)) := by
            rw [Uf.bindM, Uf.newM, if_neg e1]; rfl
          rw [hR]
          clear h ham hlm hal hz0 hmn hR
          go_enter Try.func25, Try.ntmps25
          go_wp2_with (first
            | (go_at_call 23; refine (new_bad _ sy _ (a.take sy) w2 (by have := ints_cut HI2.out 0 sy ⟨g, 0, none⟩ rfl; rw [List.drop_zero] at this; exact this) HLA.out (by omega) e1).mono ?_; rintro e w3 ⟨rfl, hb3⟩; have HG3 := Lib.hid (HG2.out.trans (grownBy_below hb3)); clear hb3)
            | (go_at_call 37; refine (HLE.out w1 gt HB1.out HG1.out HT1.out he1.out).mono ?_; rintro e w2 ⟨hg2, sl, rfl, hw2⟩; obtain ⟨g, cv, rfl, hcv, hcv2, hcl⟩ := own_slice5 hw2.own (by have := HAL.out; omega); have HG2 := Lib.hid (HG1.out.trans hg2); have HB2 := Lib.hid hw2.bits; have HI2 : Hid (Ints w2 (some ⟨g, 0, none⟩) .i64 a) := Lib.hid hcl; have hz : w2.cell? ⟨g, 256, none⟩ = some (.int .i64 z) := (by obtain ⟨ad, e, hc⟩ := hcl 256 (.int .i64 z) (HZ.out); injection e with e; subst e; exact hc); rw [HAL.out] at hcv ⊢; clear hg2 hw2 hcl)
            | (go_at_call 36; refine HA.out.mono ?_; rintro e w1 ⟨hg1, hb1, gt, rfl, ht1, he1⟩; have HG1 := Lib.hid hg1; have HB1 := Lib.hid hb1; have HT1 := Lib.hid ht1; have he1 := Lib.hid he1; clear hg1 hb1 ht1))
          go_ret3
          exact ⟨HG3.out, _, _, rfl, e1⟩
end Go.Proofs.Ytcjdeinmmokdgaa
