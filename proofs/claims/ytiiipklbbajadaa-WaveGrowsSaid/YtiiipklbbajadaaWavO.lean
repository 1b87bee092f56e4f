/- WaveUsual: the law's body, where there is a pause. -/
import Derived.Test.YtiiipklbbajadaaWavN
namespace Go.Proofs.Ytiiipklbbajadaa
set_option linter.unusedSimpArgs false
set_option linter.unusedVariables false
open Go.RowKit
def NewR (ps : List Part) (u : World) (e : Ending) (u' : World) : Prop := e = .returned (.tuple #[.pointer (some ⟨u.heap.size + 1, 0, none⟩), .int .i64 0]) ∧ WvR u' (u.heap.size + 1) ps ∧ Below u.heap.size u u'
theorem usual16r (A : Option Addr) (n c : Nat) (D : List Int) (pa : Int) (w u : World) (hi : Ints w A .u8 D) (hn : D.length = n) (hb : Byts D) (hn1 : n ≤ 300) (hp : 0 ≤ pa ∧ pa ≤ 70000) (hu : Below w.heap.size w u) :
    Calls Try.prog 7 #[.agg #[.int .i64 16, .int .i64 pa, .int .i64 0, .int .i64 0, .int .i64 0, .int .i64 0, .int .i64 0, .int .i64 0, .int .i64 0, .int .i64 0, .int .i64 0, .int .i64 0, .slice A n c, .slice none 0 0, .slice none 0 0, .slice none 0 0, .slice none 0 0, .slice none 0 0]] u (NewR (ps17 (B17 pa (if 128 ≤ D.getD 0 0 then 3223 else 8063)) n D) u) := by
  refine (usual16 A n c D pa w u hi hn hb hn1 hu).mono ?_
  rintro e u' ⟨rfl, h1, h2⟩
  have hv : newV (u.heap.size + 1) 0 0 pa = .tuple #[.pointer (some ⟨u.heap.size + 1, 0, none⟩), .int .i64 0] := by simp [newV]; omega
  refine ⟨by rw [hv], ?_, h2⟩
  have h3 : WvR u' (u.heap.size + 1) (ps17 ((B16 pa).usual D) n D) := WvS.ready17 h1 (by omega) hp (by show 0 ≤ (if 128 ≤ D.getD 0 0 then (3223 : Int) else 8063) ∧ (if 128 ≤ D.getD 0 0 then (3223 : Int) else 8063) ≤ 70000; split <;> omega)
  exact h3
theorem usual17r (A : Option Addr) (n c : Nat) (D : List Int) (pa cn : Int) (w u : World) (hi : Ints w A .u8 D) (hn : D.length = n) (hb : Byts D) (hn1 : n ≤ 300) (hp : 0 ≤ pa ∧ pa ≤ 70000) (hc : 0 ≤ cn ∧ cn ≤ 70000) (hu : Below w.heap.size w u) :
    Calls Try.prog 7 #[.agg #[.int .i64 17, .int .i64 pa, .int .i64 2168, .int .i64 667, .int .i64 735, .int .i64 855, .int .i64 1710, .int .i64 0, .int .i64 cn, .int .i64 8, .int .i64 0, .int .i64 0, .slice A n c, .slice none 0 0, .slice none 0 0, .slice none 0 0, .slice none 0 0, .slice none 0 0]] u (NewR (ps17 (B17 pa cn) n D) u) := by
  refine (usual17 A n c D pa cn w u hi hn hb hn1 hu).mono ?_
  rintro e u' ⟨rfl, h1, h2⟩
  have hv : newV (u.heap.size + 1) 0 cn pa = .tuple #[.pointer (some ⟨u.heap.size + 1, 0, none⟩), .int .i64 0] := by simp [newV]; omega
  exact ⟨by rw [hv], WvS.ready17 h1 (by omega) hp hc, h2⟩
theorem usual_len (pa cn : Int) (n : Nat) (D : List Int) : Wv.len (ps17 (B17 pa cn) n D) = cn + 2 + 16 * n + if pa < 2 then pa else 2 := by
  have : Wv.many n 8 = 8 * n := by
    unfold Wv.many
    by_cases h : n = 0
    · subst h; rfl
    · rw [if_neg h, if_neg (by decide)]; omega
  simp only [ps17, Wv.len, Part.lead, Part.sync, Part.pulse, Part.rest, B17, this]
  omega
set_option maxRecDepth 100000 in
set_option maxHeartbeats 20000000 in
theorem usual_any (A : Option Addr) (n c : Nat) (D : List Int) (pa k : Int) (w : World) (hi : Ints w A .u8 D) (hn : D.length = n) (hb : Byts D) (hn1 : n ≤ 300) (hp : 0 ≤ pa ∧ pa ≤ 70000) (hk : k ≤ 9223372036854775807) :
    Calls Try.prog 4 #[.slice A n c, .int .i64 pa, .int .i64 k] w (Yes w) := by
  obtain ⟨cn, hcn⟩ : ∃ cn : Int, cn = if 128 ≤ D.getD 0 0 then 3223 else 8063 := ⟨_, rfl⟩
  have HN16 := Lib.hid (fun u hu => usual16r A n c D pa w u hi hn hb hn1 hp hu)
  have hcr : 0 ≤ cn ∧ cn ≤ 70000 := by rw [hcn]; split <;> omega
  have HN17 := Lib.hid (fun u hu => usual17r A n c D pa cn w u hi hn hb hn1 hp hcr hu)
  have hs := starts_any w A n D hi hn
  have HL := Lib.hid (usual_len pa cn n D)
  rw [← hcn] at hs HN16
  obtain ⟨ps, hps⟩ : ∃ ps, ps = ps17 (B17 pa cn) n D := ⟨_, rfl⟩
  rw [← hps] at HL HN16 HN17
  obtain ⟨a, b, d, hat⟩ := wv_at_any ps k hk
  have HAT := Lib.hid hat
  have hn300 : ¬ (300 : Int) < n := by omega
  have hp7 : ¬ 70000 < pa := by omega
  have hp0 : ¬ pa < 0 := by omega
  have HP := Lib.hid hp
  have HN1 := Lib.hid hn1
  clear hi hn hb hn1 hcn hat hps hcr hp
  rcases hs with ⟨hg, rfl⟩ | ⟨ad, x, rfl, hc, hg1, hg2, hx, rfl⟩ | ⟨ad, x, rfl, hc, hg1, hg2, hx, rfl⟩
  all_goals
    go_enter Try.func4, Try.ntmps4
    go_upto_region 12 with (first
      | (go_at_call 9; refine (HAT.out _ _ HR23.out).mono ?_; rintro e w4 ⟨rfl, hb4⟩; have HB4 : Hid (Below w3.heap.size w3 w4) := Lib.hid ((below_al1 w3 _).trans (hb4.mono (by simp))); have HE1 : Hid (Blk w4 w3.heap.size 37 [.int .i64 a, .int .i64 b]) := Lib.hid ((Blk.new w3 37 [.int .i64 a, .int .i64 b]).below_ hb4); clear hb4)
      | (go_at_call 9; refine (HAT.out _ _ HR21.out).mono ?_; rintro e w3 ⟨rfl, hb3⟩; have HB3 : Hid (Below w2.heap.size w2 w3) := Lib.hid hb3; have HR23 : Hid (WvR (w3.alloc (.cells #[.int .i64 a, .int .i64 b] 37)) (w1.heap.size + 1) ps) := Lib.hid ((HR2.out.below hb3).below (below_al1 w3 _)); clear hb3)
      | (go_at_call 7; refine (HN17.out _ HB1.out).mono ?_; rintro e w2 ⟨rfl, hr2, hb2⟩; have HR2 : Hid (WvR w2 (w1.heap.size + 1) ps) := Lib.hid hr2; have HR21 : Hid (WvR w2 (w.heap.size + 1) ps) := Lib.hid (HR1.out.below hb2); have HB2 : Hid (Below w.heap.size w w2) := Lib.hid (HB1.out.trans (hb2.mono HB1.out.size)); clear hb2 hr2)
      | (go_at_call 7; refine (HN16.out w (Below.refl _ _)).mono ?_; rintro e w1 ⟨rfl, hr1, hb1⟩; have HR1 : Hid (WvR w1 (w.heap.size + 1) ps) := Lib.hid hr1; have HB1 : Hid (Below w.heap.size w w1) := Lib.hid hb1; clear hb1 hr1))
  all_goals
    generalize hw5 : World.alloc w4 _ = w5
    have HB5 : Hid (Below w4.heap.size w4 w5) := by show Below _ _ _; rw [← hw5]; exact below_al1 w4 _
    have HE2 : Hid (Blk w5 w4.heap.size 37 [.int .i64 a, .int .i64 b]) := by show Blk _ _ _ _; rw [← hw5]; exact Blk.new w4 37 [.int .i64 a, .int .i64 b]
    have HE15 := Lib.hid (HE1.out.below_ HB5.out)
    have HB25 : Hid (Below w2.heap.size w2 w5) := Lib.hid (HB3.out.trans ((HB4.out.trans (HB5.out.mono HB4.out.size)).mono HB3.out.size))
    have HR15 := Lib.hid (HR21.out.below HB25.out)
    have HR25 := Lib.hid (HR2.out.below HB25.out)
    have HBW5 : Hid (Below w.heap.size w w5) := Lib.hid (HB2.out.trans (HB25.out.mono HB2.out.size))
    have hn3 := HN1.out
    have hpp := HP.out
    clear hw5
    obtain ⟨L, hL⟩ : ∃ L, L = Wv.len ps := ⟨_, rfl⟩
    have HLEN : Hid (∀ (u : World) (g : Nat), WvR u g ps → Calls Try.prog 8 #[.pointer (some ⟨g, 0, none⟩)] u fun e w' => e = .returned (.int .i64 L) ∧ Below u.heap.size u w') := Lib.hid (fun u g h => by rw [hL]; exact wv_len_any ps u g h)
    rw [← hL] at HL
    have hLL := HL.out
    clear hL
  all_goals
    have W1 : IntKind.i64.wrap (16 * (n : Int)) = 16 * n := by rw [IntKind.wrap_i64]; omega
    have W2a : IntKind.i64.wrap (8065 + 16 * (n : Int)) = 8065 + 16 * n := by rw [IntKind.wrap_i64]; omega
    have W2b : IntKind.i64.wrap (3225 + 16 * (n : Int)) = 3225 + 16 * n := by rw [IntKind.wrap_i64]; omega
    have W3a : IntKind.i64.wrap (8065 + 16 * (n : Int) + pa) = 8065 + 16 * n + pa := by rw [IntKind.wrap_i64]; omega
    have W3b : IntKind.i64.wrap (3225 + 16 * (n : Int) + pa) = 3225 + 16 * n + pa := by rw [IntKind.wrap_i64]; omega
    have W4a : IntKind.i64.wrap (8065 + 16 * (n : Int) + 2) = 8065 + 16 * n + 2 := by rw [IntKind.wrap_i64]; omega
    have W4b : IntKind.i64.wrap (3225 + 16 * (n : Int) + 2) = 3225 + 16 * n + 2 := by rw [IntKind.wrap_i64]; omega
    have hpc : (pa < 2 ∧ pa ≤ 2 ∧ ¬ 2 < pa) ∨ pa = 2 ∨ (2 < pa ∧ ¬ pa ≤ 2 ∧ ¬ pa < 2 ∧ 2 ≤ pa) := by omega
  all_goals rcases hpc with ⟨p1, p2, p3⟩ | rfl | ⟨p1, p2, p3, p4⟩
  all_goals first
    | (have hq : (L == 8065 + 16 * (n : Int) + pa) = true := by rw [beq_iff_eq, hLL, if_pos p1]; omega)
    | (have hq : (L == 3225 + 16 * (n : Int) + pa) = true := by rw [beq_iff_eq, hLL, if_pos p1]; omega)
    | (have hq : (L == 8065 + 16 * (n : Int) + 2) = true := by rw [beq_iff_eq, hLL, if_neg p3]; omega)
    | (have hq : (L == 3225 + 16 * (n : Int) + 2) = true := by rw [beq_iff_eq, hLL, if_neg p3]; omega)
    | (have hq : (L == 8065 + 16 * (n : Int) + 2) = true := by rw [beq_iff_eq, hLL, if_neg (by decide)]; omega)
    | (have hq : (L == 3225 + 16 * (n : Int) + 2) = true := by rw [beq_iff_eq, hLL, if_neg (by decide)]; omega)
  all_goals clear hLL
  all_goals
    go_wp2_with (first
      | (go_at_call 6; refine (lives23 _).mono ?_; rintro e w9 ⟨rfl, hb9⟩; have HB9 : Hid (Below w.heap.size w w9) := Lib.hid (HB8.out.trans (hb9.mono HB8.out.size)); clear hb9)
      | (go_at_call 8; refine (HLEN.out _ _ HR17.out).mono ?_; rintro e w8 ⟨rfl, hb8⟩; have HE18 := Lib.hid (HE17.out.below_ hb8); have HE28 := Lib.hid (HE27.out.below_ hb8); have x0 := HE18.out.cell 0; have x1 := HE18.out.cell 1; have y0 := HE28.out.cell 0; have y1 := HE28.out.cell 1; have HB8 : Hid (Below w.heap.size w w8) := Lib.hid (HB7.out.trans (hb8.mono HB7.out.size)); clear hb8)
      | (go_at_call 8; refine (HLEN.out _ _ HR26.out).mono ?_; rintro e w7 ⟨rfl, hb7⟩; have HE17 := Lib.hid (HE16.out.below_ hb7); have HE27 := Lib.hid (HE26.out.below_ hb7); have HR17 := Lib.hid (HR16.out.below hb7); have HB7 : Hid (Below w.heap.size w w7) := Lib.hid (HB6.out.trans (hb7.mono HB6.out.size)); clear hb7)
      | (go_at_call 8; refine (HLEN.out _ _ HR15.out).mono ?_; rintro e w6 ⟨rfl, hb6⟩; have HE16 := Lib.hid (HE15.out.below_ hb6); have HE26 := Lib.hid (HE2.out.below_ hb6); have HR16 := Lib.hid (HR15.out.below hb6); have HR26 := Lib.hid (HR25.out.below hb6); have HB6 : Hid (Below w.heap.size w w6) := Lib.hid (HBW5.out.trans (hb6.mono HBW5.out.size)); clear hb6))
  all_goals first
    | (exfalso; rw [beq_iff_eq] at hq; omega)
    | (refine bodyPost_ret (results_tmp rfl _ _ _) rfl ?_; exact ⟨rfl, HB9.out⟩)
end Go.Proofs.Ytiiipklbbajadaa
