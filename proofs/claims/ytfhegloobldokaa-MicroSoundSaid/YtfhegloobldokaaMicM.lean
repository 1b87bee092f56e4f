/- The law MicroSound: its own body. -/
import Derived.Test.YtfhegloobldokaaMicL
import Derived.Laws.StructEq
import Derived.Deep.RegionHeld3
import Derived.Deep.QuietTactic
namespace Go.Proofs.Ytfhegloobldokaa
set_option linter.unusedSimpArgs false
set_option linter.unusedVariables false
open Go.RowKit
theorem ahead_owned {T : TypeId} (w1 : World) (s : Stp) : (w1.alloc (.cells (stp s).toArray T)).ownsRow w1.heap.size T 4 (.slice (some ⟨w1.heap.size, 0, none⟩) 1 1) 1 (stp s) := by
  have := World.ownsRow_lit (base := w1.heap.size) (e := T) (size := 4) w1 (stp s).toArray 1 (Nat.le_refl _) (by decide) (by simp [stp])
  simpa using this
/-- the steps put behind one step of a new block -/
theorem ahead_facts {T : TypeId} {w1 w2 : World} {v2 : Value} {s : Stp} {L : List Stp}
    (h : St T w1.heap.size (w1.alloc (.cells (stp s).toArray T)) (.slice (some ⟨w1.heap.size, 0, none⟩) 1 1) (stp s) w2 v2 (flat L)) :
    (∃ n, w2.ownsRow w1.heap.size T 4 v2 n (flat (s :: L))) ∧ Below w1.heap.size w1 w2 ∧ ∀ j x, (stp s)[j]? = some x → w2.cell? ⟨w1.heap.size, j, none⟩ = some x := by
  refine ⟨h.own, ?_, fun j x hj => ?_⟩
  · have hg := h.grown
    have hs := hg.size
    rw [World.size_alloc] at hs
    refine ⟨hg.os, hg.tape, hg.output, by omega, fun k hk => ?_⟩
    have := hg.block k (by rw [World.size_alloc]; omega) (by simp [Value.ownBlock]; omega)
    rw [this]
    exact ((Below.refl _ w1).alloc (Nat.le_refl _) (.cells (stp s).toArray T)).block k hk
  · have hlt : j < (stp s).length := (List.getElem?_eq_some_iff.1 hj).1
    rw [h.keep w1.heap.size (by simp [Value.ownBlock]) j hlt]
    simpa [Addr.add_mid] using (ahead_owned (T := T) w1 s).cells (g := w1.heap.size) rfl j x hj
/-- the cells of one element of either list -/
def Eight (w : World) (ad ad2 : Addr) (k : Nat) (k1 k2 k3 k4 : Int) : Prop :=
  (w.cell? (ad.add (k * 4)) = some (.int .i64 k1) ∧ w.cell? ⟨(ad.add (k * 4)).block, (ad.add (k * 4)).off + 1, none⟩ = some (.int .i64 k2) ∧ w.cell? ⟨(ad.add (k * 4)).block, (ad.add (k * 4)).off + 2, none⟩ = some (.int .i64 k3) ∧ w.cell? ⟨(ad.add (k * 4)).block, (ad.add (k * 4)).off + 3, none⟩ = some (.int .i64 k4)) ∧
  (w.cell? (ad2.add ((k + 1) * 4)) = some (.int .i64 k1) ∧ w.cell? ⟨(ad2.add ((k + 1) * 4)).block, (ad2.add ((k + 1) * 4)).off + 1, none⟩ = some (.int .i64 k2) ∧ w.cell? ⟨(ad2.add ((k + 1) * 4)).block, (ad2.add ((k + 1) * 4)).off + 2, none⟩ = some (.int .i64 k3) ∧ w.cell? ⟨(ad2.add ((k + 1) * 4)).block, (ad2.add ((k + 1) * 4)).off + 3, none⟩ = some (.int .i64 k4))
theorem Four.below {w w' : World} {b : Addr} {x1 x2 x3 x4 : Value} (hb : Below w.heap.size w w')
    (h : w.cell? b = some x1 ∧ w.cell? ⟨b.block, b.off + 1, none⟩ = some x2 ∧ w.cell? ⟨b.block, b.off + 2, none⟩ = some x3 ∧ w.cell? ⟨b.block, b.off + 3, none⟩ = some x4) :
    w'.cell? b = some x1 ∧ w'.cell? ⟨b.block, b.off + 1, none⟩ = some x2 ∧ w'.cell? ⟨b.block, b.off + 2, none⟩ = some x3 ∧ w'.cell? ⟨b.block, b.off + 3, none⟩ = some x4 := by
  obtain ⟨h1, h2, h3, h4⟩ := h
  exact ⟨(hb.cell (block_lt_of_cell h1)).trans h1, (hb.cell (block_lt_of_cell h2)).trans h2, (hb.cell (block_lt_of_cell h3)).trans h3, (hb.cell (block_lt_of_cell h4)).trans h4⟩
theorem Eight.below {w w' : World} {ad ad2 : Addr} {k : Nat} {k1 k2 k3 k4 : Int} (hb : Below w.heap.size w w') (h : Eight w ad ad2 k k1 k2 k3 k4) : Eight w' ad ad2 k k1 k2 k3 k4 :=
  ⟨Four.below hb h.1, Four.below hb h.2⟩
theorem Steps_.inv {w : World} {A : Option Addr} {n c : Nat} {l : List Stp} (h : Steps_ w (.slice A n c) l) : Cells w A (flat l) := by
  obtain ⟨A', c', e, hc⟩ := h
  injection e with e1; subst e1; exact hc
theorem Nine.below {w2 w w' : World} {ad ad2 : Addr} {k : Nat} {k1 k2 k3 k4 : Int} (hb : Below w.heap.size w w') (h : Below w2.heap.size w2 w ∧ Eight w ad ad2 k k1 k2 k3 k4) : Below w2.heap.size w2 w' ∧ Eight w' ad ad2 k k1 k2 k3 k4 :=
  ⟨h.1.trans (hb.mono h.1.size), Eight.below hb h.2⟩
theorem Nine.drew {w2 w : World} {ad ad2 : Addr} {k : Nat} {k1 k2 k3 k4 : Int} (h : Below w2.heap.size w2 w ∧ Eight w ad ad2 k k1 k2 k3 k4) : Below w2.heap.size w2 w.drew ∧ Eight w.drew ad ad2 k k1 k2 k3 k4 :=
  Nine.below (Below.refl _ w).drew h
set_option maxRecDepth 100000 in
set_option maxHeartbeats 2000000 in
theorem microSound_any (set ix c : Int) (w : World) (h0 : 0 ≤ c) (h1 : c ≤ 255) :
    Calls Try.prog 10 #[.int .i64 set, .int .i64 ix, .int .u8 c] w (True_ w) := by
  obtain ⟨L, hL⟩ : ∃ L, L = Mi.programS set ix c := ⟨_, rfl⟩
  obtain ⟨hlen, hsnd⟩ := Mi.good_all set ix c h0 h1
  have hP := fun w => program_nil set ix c w h0 h1
  have hQ := fun base n v xs w ho hb hx0 => program_any set ix c base n v xs w ho hb hx0 h0 h1
  rw [← hL] at hlen hsnd
  simp only [← hL] at hP hQ
  have hsm := Mi.sound_small L hsnd
  have HP := Lib.hid hP; have HQ := Lib.hid hQ; have HSND := Lib.hid hsnd; have HSM := Lib.hid hsm
  clear hL hP hQ hsnd hsm
  go_enter Try.func10, Try.ntmps10
  go_wp2_with fail
  refine (HP.out _).mono ?_
  rintro e w1 ⟨v1, rfl, hs, hB1⟩
  have hs' := hs
  obtain ⟨A, cc, rfl, hc⟩ := hs'
  have HS := Lib.hid hs
  have HB1 := Lib.hid hB1; have HC := Lib.hid hc; clear hs hB1 hc
  obtain ⟨n, hn⟩ : ∃ n, n = L.length := ⟨_, rfl⟩
  rw [← hn] at HS hlen ⊢
  have hlen' : (n : Int) ≤ 9 := by omega
  have HN := Lib.hid hn; clear hn hlen
  go_wp2_with fail
  refine (HQ.out w1.heap.size 1 _ (stp (0, 8, 0, 2)) _ (ahead_owned w1 (0, 8, 0, 2)) (by rw [World.size_alloc]; omega) (by simp [stp])).mono ?_
  rintro e w2 ⟨v2, rfl, hst⟩
  obtain ⟨⟨n2, ho2⟩, hB2, hah⟩ := ahead_facts hst
  clear hst
  have hm := steps_of_own ho2
  have HM := Lib.hid hm
  obtain ⟨A2, c2, rfl, hc2⟩ := hm
  rw [List.length_cons, ← HN.out] at HM ⊢
  obtain ⟨ad2, rfl, m0⟩ := hc2 0 _ rfl
  obtain ⟨ad', e1, m1⟩ := hc2 1 _ rfl
  injection e1 with e1; subst e1
  obtain ⟨ad', e1, m2⟩ := hc2 2 _ rfl
  injection e1 with e1; subst e1
  obtain ⟨ad', e1, m3⟩ := hc2 3 _ rfl
  injection e1 with e1; subst e1
  have a0 := hah 0 _ rfl
  have a1 := hah 1 _ rfl
  have a2 := hah 2 _ rfl
  have a3 := hah 3 _ rfl
  have HC2 := Lib.hid hc2
  have HSS := Lib.hid (HS.out.below hB2)
  have HB2 := Lib.hid (HB1.out.trans (hB2.mono HB1.out.size))
  clear hc2 hah ho2 hB2
  have e26 : ((n + 1 : Nat) : Int) = (n : Int) + 1 := by omega
  go_wp2_with fail
  have add1 : ∀ (a : Addr) (j : Nat), a.add (j + 1) = ⟨a.block, a.off + (j + 1), none⟩ := fun a j => by simp [Addr.add]
  have add0 : ∀ (a : Addr), a.add 0 = a := fun a => by simp [Addr.add]
  rw [add0] at m0
  rw [add1] at m1 m2 m3
  simp only [Nat.zero_add, Nat.reduceAdd] at m1 m2 m3
  clear add0 add1
  have hne : ((n : Int) + 1 != IntKind.i64.wrap ((n : Int) + 1)) = false := by
    have : IntKind.i64.wrap ((n : Int) + 1) = (n : Int) + 1 := by rw [IntKind.wrap_i64]; omega
    rw [this]; simp
  go_quiet (fail)
  have hl' : L.length ≤ 9 := by rw [← HN.out]; omega
  have ht1 := fun v w h => time_any true v ((0, 8, 0, 2) :: L) w h (by
    intro s hs
    rcases List.mem_cons.1 hs with rfl | hs
    · simp
    · exact HSM.out s hs) (by simp; omega)
  have ht2 := fun v w h => time_any true v L w h HSM.out (by omega)
  have ht3 := fun v w h => time_any false v L w h HSM.out (by omega)
  have hle := Mi.time_le L HSM.out
  have hr := (timeS_range true L HSM.out)
  rw [show Mi.timeS true ((0, 8, 0, 2) :: L) = Mi.timeS true L + 2 from by simp [Mi.timeS]; omega] at ht1
  obtain ⟨T, hT⟩ : ∃ T, T = Mi.timeS true L := ⟨_, rfl⟩
  obtain ⟨F, hF⟩ : ∃ F, F = Mi.timeS false L := ⟨_, rfl⟩
  simp only [← hT] at ht1 ht2 hle hr
  simp only [← hF] at ht3 hle
  have hr1 : T ≤ 9000 := by omega
  have hr0 := hr.1
  have hTe : (T + 2 == IntKind.i64.wrap (T + 2)) = true := by
    have : IntKind.i64.wrap (T + 2) = T + 2 := by rw [IntKind.wrap_i64]; omega
    rw [this]; simp
  have hFe : decide (F ≤ T) = true := by simpa using hle
  have HT1 := Lib.hid ht1; have HT2 := Lib.hid ht2; have HT3 := Lib.hid ht3
  clear ht1 ht2 ht3 hT hF hr hl' hle
  clear m0 m1 m2 m3 a0 a1 a2 a3
  go_wp2_with fail
  go_loopw [10] (fun i wr => ∃ k : Nat, k ≤ n ∧ i = .int .i64 k ∧ Below w2.heap.size w2 wr) (fun i _ => n - (intOf i).toNat)
  case atStart => exact ⟨0, by omega, rfl, Below_drewN (Below.refl _ _) _⟩
  case round =>
    obtain ⟨k, hk, rfl, hB⟩ := hrel
    have hsz := hB.size
    by_cases hlt : k < n
    · obtain ⟨s, hs⟩ : ∃ s, L[k]? = some s := ⟨_, List.getElem?_eq_getElem (by have := HN.out; omega)⟩
      have hsnd := HSND.out s (List.mem_of_getElem? hs)
      have hc1 := (HSS.out.below hB).inv
      have hc2 := (HM.out.below hB).inv
      obtain ⟨g0, g1, g2, g3⟩ := flat_get L k s hs
      obtain ⟨q0, q1, q2, q3⟩ := flat_get ((0, 8, 0, 2) :: L) (k + 1) s (by simpa using hs)
      obtain ⟨ad, rfl, c0⟩ := hc1 _ _ g0
      obtain ⟨ad', e1, c1⟩ := hc1 _ _ g1
      injection e1 with e1; subst e1
      obtain ⟨ad', e1, c2⟩ := hc1 _ _ g2
      injection e1 with e1; subst e1
      obtain ⟨ad', e1, c3⟩ := hc1 _ _ g3
      injection e1 with e1; subst e1
      obtain ⟨ad', e1, d0⟩ := hc2 _ _ q0
      injection e1 with e1; subst e1
      obtain ⟨ad', e1, d1⟩ := hc2 _ _ q1
      injection e1 with e1; subst e1
      obtain ⟨ad', e1, d2⟩ := hc2 _ _ q2
      injection e1 with e1; subst e1
      obtain ⟨ad', e1, d3⟩ := hc2 _ _ q3
      injection e1 with e1; subst e1
      clear hc1 hc2 g0 g1 g2 g3 q0 q1 q2 q3 hs
      rw [Nat.mul_comm] at c0 c1 c2 c3 d0 d1 d2 d3
      rw [← add_next ad (k * 4) 0] at c1
      rw [← add_next ad (k * 4) 1] at c2
      rw [← add_next ad (k * 4) 2] at c3
      rw [← add_next ad2 ((k + 1) * 4) 0] at d1
      rw [← add_next ad2 ((k + 1) * 4) 1] at d2
      rw [← add_next ad2 ((k + 1) * 4) 2] at d3
      have HSD := Lib.hid hsnd; clear hsnd
      obtain ⟨k1, k2, k3, k4⟩ := s
      simp only [] at c0 c1 c2 c3 d0 d1 d2 d3
      have i1 : (0 : Int) ≤ (k : Int) := by omega
      have i2 : (k : Int) < (n : Int) := by omega
      have i3 : IntKind.i64.wrap ((k : Int) + 1) = (k : Int) + 1 := by rw [IntKind.wrap_i64]; omega
      have i4 : (0 : Int) ≤ (k : Int) + 1 := by omega
      have i5 : (k : Int) + 1 < (n : Int) + 1 := by omega
      have i6 : ((k : Int) + 1).toNat = k + 1 := by omega
      have h8 : Eight wr ad ad2 k k1 k2 k3 k4 := ⟨⟨c0, c1, c2, c3⟩, d0, d1, d2, d3⟩
      clear c0 c1 c2 c3 d0 d1 d2 d3
      go_wp2_with fail
      have h9 := And.intro hB h8
      clear hB h8
      go_region_held3 (fun w' => Below w2.heap.size w2 w' ∧ (w'.cell? (ad.add (k * 4)) = some (.int .i64 k1) ∧ w'.cell? ⟨(ad.add (k * 4)).block, (ad.add (k * 4)).off + 1, none⟩ = some (.int .i64 k2) ∧ w'.cell? ⟨(ad.add (k * 4)).block, (ad.add (k * 4)).off + 2, none⟩ = some (.int .i64 k3) ∧ w'.cell? ⟨(ad.add (k * 4)).block, (ad.add (k * 4)).off + 3, none⟩ = some (.int .i64 k4)) ∧
  (w'.cell? (ad2.add ((k + 1) * 4)) = some (.int .i64 k1) ∧ w'.cell? ⟨(ad2.add ((k + 1) * 4)).block, (ad2.add ((k + 1) * 4)).off + 1, none⟩ = some (.int .i64 k2) ∧ w'.cell? ⟨(ad2.add ((k + 1) * 4)).block, (ad2.add ((k + 1) * 4)).off + 2, none⟩ = some (.int .i64 k3) ∧ w'.cell? ⟨(ad2.add ((k + 1) * 4)).block, (ad2.add ((k + 1) * 4)).off + 3, none⟩ = some (.int .i64 k4))) (first | assumption | (refine Nine.drew ?_; assumption) | exact Nine.below ‹Below _ _ _› ‹_›)
        (first
          | (go_at_call 36; refine (sound_step (k1, k2, k3, k4) _ HSD.out).mono ?_; rintro e w' ⟨rfl, hBx⟩))
      all_goals
        rename_i hS9
        have hB9 := hS9.1
        clear hS9
        go_wp2_with fail
        go_roundw
        case rel => exact ⟨k + 1, by omega, by go_num, (by assumption)⟩
        case measure => simp [intOf]; omega
    · obtain rfl : k = n := by omega
      go_wp2_with fail
      refine (HT1.out _ _ (HM.out.below hB)).mono ?_
      rintro e w4 ⟨rfl, hB4⟩
      have HB4 := Lib.hid (hB.trans (hB4.mono hsz)); clear hB4
      go_wp2_with fail
      refine (HT2.out _ _ (HSS.out.below HB4.out)).mono ?_
      rintro e w5 ⟨rfl, hB5⟩
      have HB5 := Lib.hid (HB4.out.trans (hB5.mono HB4.out.size)); clear hB5
      go_wp2_with fail
      refine (HT3.out _ _ (HSS.out.below HB5.out)).mono ?_
      rintro e w6 ⟨rfl, hB6⟩
      have HB6 := Lib.hid (HB5.out.trans (hB6.mono HB5.out.size)); clear hB6
      go_wp2_with fail
      refine (HT2.out _ _ (HSS.out.below HB6.out)).mono ?_
      rintro e w7 ⟨rfl, hB7⟩
      have HB7 := Lib.hid (HB6.out.trans (hB7.mono HB6.out.size)); clear hB7
      go_wp2_with fail
      refine (lives08 _).mono ?_
      rintro e w8 ⟨rfl, hB8⟩
      have HB8 := Lib.hid (HB7.out.trans (hB8.mono HB7.out.size)); clear hB8
      go_wp2_with fail
      go_ret
      exact ⟨rfl, HB2.out.trans (HB8.out.mono HB2.out.size)⟩
end Go.Proofs.Ytfhegloobldokaa
