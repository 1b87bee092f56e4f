/- The law MicroAll: its own body. -/
import Derived.Test.YtfhegloobldokaaMicU
namespace Go.Proofs.Ytfhegloobldokaa
set_option linter.unusedSimpArgs false
set_option linter.unusedVariables false
open Go.RowKit
theorem times_pos (S I c : Int) (b : Bool) (hb : b = decide (I = 1 ∨ I = 2)) (h0 : 0 ≤ c) (h1 : c ≤ 255) : Mi.time8 S b c true = Mi.timeS true (Mi.programS S I c) ∧ Mi.time8 S b c false = Mi.timeS false (Mi.programS S I c) := by
  subst hb
  obtain ⟨h1, h2⟩ := Mi.times_all S I c h0 h1
  exact ⟨h1.symm, h2.symm⟩
set_option maxRecDepth 100000 in
set_option maxHeartbeats 4000000 in
theorem microAll_any (n : Int) (w : World) : Calls Try.prog 9 #[.int .i64 n] w (True_ w) := by
  have kk : 11 < n ∨ n = 0 ∨ n = 1 ∨ n = 2 ∨ n = 3 ∨ n = 4 ∨ n = 5 ∨ n = 6 ∨ n = 7 ∨ n = 8 ∨ n = 9 ∨ n = 10 ∨ n = 11 ∨ n < 0 := by omega
  rcases kk with k1 | rfl | rfl | rfl | rfl | rfl | rfl | rfl | rfl | rfl | rfl | rfl | rfl | k1
  · skip
    go_enter Try.func9, Try.ntmps9
    go_wp2_with fail
    go_loopw [5, 6] (fun i v wr => ∃ k : Nat, k ≤ 256 ∧ i = .int .i64 k ∧ Hid (Below w.heap.size w wr)) (fun i _ _ => 256 - (intOf i).toNat)
    case atStart => exact ⟨0, by omega, rfl, Lib.hid (Below.refl _ _)⟩
    case round =>
      obtain ⟨k, hk, rfl, HB⟩ := hrel
      by_cases hlt : (k : Int) < 256
      · have hu : IntKind.u8.wrap k = k := by rw [IntKind.wrap_u8]; omega
        obtain ⟨hlen, hsnd⟩ := Mi.good_all (3) (2) k (by omega) (by omega)
        obtain ⟨e1, e2⟩ := times_pos (3) (2) k true rfl (by omega) (by omega)
        have e3 : ∀ m, Mi.time8 (3) true k m = Mi.timeS m (Mi.programS (3) (2) k) := fun m => by cases m; exact e2; exact e1
        have hP := fun w => program_nil (3) (2) k w (by omega) (by omega)
        have hU := fun m w => time8_any (3) true k m w (by omega) (by omega)
        simp only [e3] at hU
        obtain ⟨L, hL⟩ : ∃ L, L = Mi.programS (3) (2) k := ⟨_, rfl⟩
        rw [← hL] at hlen hsnd
        simp only [← hL] at hP hU
        have hsm := Mi.sound_small L hsnd
        have hT := fun m v w h => time_any m v L w h hsm (by omega)
        obtain ⟨T, g1⟩ : ∃ T : Bool → Int, T = fun m => Mi.timeS m L := ⟨_, rfl⟩
        have g2 : ∀ m, Mi.timeS m L = T m := fun m => by rw [g1]
        simp only [g2] at hU hT
        have HP := Lib.hid hP; have HT := Lib.hid hT; have HU := Lib.hid hU
        clear hP hT hU hL hsm hsnd e1 e2 e3 g1 g2 hlen
        go_wp2_with (first
          | (go_at_call 32; refine (HP.out _).mono ?_; rintro e w1 ⟨v, rfl, hs, hB⟩; have HS := Lib.hid hs; replace HB := Lib.hid (HB.out.trans (hB.mono HB.out.size)); clear hs hB)
          | (go_at_call 33; refine (HT.out _ _ _ HS.out).mono ?_; rintro e w2 ⟨rfl, hB2⟩; replace HS := Lib.hid (HS.out.below hB2); replace HB := Lib.hid (HB.out.trans (hB2.mono HB.out.size)); clear hB2)
          | (go_at_call 34; refine (HU.out _ _).mono ?_; rintro e w2 ⟨rfl, hB2⟩; replace HS := Lib.hid (HS.out.below hB2); replace HB := Lib.hid (HB.out.trans (hB2.mono HB.out.size)); clear hB2))
        go_roundw
        case rel => exact ⟨k + 1, by omega, by go_num, HB⟩
        case measure => simp [intOf]; omega
      · go_wp2_with (first
          | (go_at_call 35; refine (lives08 _).mono ?_; rintro e w2 ⟨rfl, hB2⟩; replace HB := Lib.hid (HB.out.trans (hB2.mono HB.out.size)); clear hB2))
        go_ret
        exact ⟨rfl, HB.out⟩
  · skip
    go_enter Try.func9, Try.ntmps9
    go_wp2_with fail
    go_loopw [5, 6] (fun i v wr => ∃ k : Nat, k ≤ 256 ∧ i = .int .i64 k ∧ Hid (Below w.heap.size w wr)) (fun i _ _ => 256 - (intOf i).toNat)
    case atStart => exact ⟨0, by omega, rfl, Lib.hid (Below.refl _ _)⟩
    case round =>
      obtain ⟨k, hk, rfl, HB⟩ := hrel
      by_cases hlt : (k : Int) < 256
      · have hu : IntKind.u8.wrap k = k := by rw [IntKind.wrap_u8]; omega
        obtain ⟨hlen, hsnd⟩ := Mi.good_all (0) (0) k (by omega) (by omega)
        obtain ⟨e1, e2⟩ := times_pos (0) (0) k false rfl (by omega) (by omega)
        have e3 : ∀ m, Mi.time8 (0) false k m = Mi.timeS m (Mi.programS (0) (0) k) := fun m => by cases m; exact e2; exact e1
        have hP := fun w => program_nil (0) (0) k w (by omega) (by omega)
        have hU := fun m w => time8_any (0) false k m w (by omega) (by omega)
        simp only [e3] at hU
        obtain ⟨L, hL⟩ : ∃ L, L = Mi.programS (0) (0) k := ⟨_, rfl⟩
        rw [← hL] at hlen hsnd
        simp only [← hL] at hP hU
        have hsm := Mi.sound_small L hsnd
        have hT := fun m v w h => time_any m v L w h hsm (by omega)
        obtain ⟨T, g1⟩ : ∃ T : Bool → Int, T = fun m => Mi.timeS m L := ⟨_, rfl⟩
        have g2 : ∀ m, Mi.timeS m L = T m := fun m => by rw [g1]
        simp only [g2] at hU hT
        have HP := Lib.hid hP; have HT := Lib.hid hT; have HU := Lib.hid hU
        clear hP hT hU hL hsm hsnd e1 e2 e3 g1 g2 hlen
        go_wp2_with (first
          | (go_at_call 32; refine (HP.out _).mono ?_; rintro e w1 ⟨v, rfl, hs, hB⟩; have HS := Lib.hid hs; replace HB := Lib.hid (HB.out.trans (hB.mono HB.out.size)); clear hs hB)
          | (go_at_call 33; refine (HT.out _ _ _ HS.out).mono ?_; rintro e w2 ⟨rfl, hB2⟩; replace HS := Lib.hid (HS.out.below hB2); replace HB := Lib.hid (HB.out.trans (hB2.mono HB.out.size)); clear hB2)
          | (go_at_call 34; refine (HU.out _ _).mono ?_; rintro e w2 ⟨rfl, hB2⟩; replace HS := Lib.hid (HS.out.below hB2); replace HB := Lib.hid (HB.out.trans (hB2.mono HB.out.size)); clear hB2))
        go_roundw
        case rel => exact ⟨k + 1, by omega, by go_num, HB⟩
        case measure => simp [intOf]; omega
      · go_wp2_with (first
          | (go_at_call 35; refine (lives08 _).mono ?_; rintro e w2 ⟨rfl, hB2⟩; replace HB := Lib.hid (HB.out.trans (hB2.mono HB.out.size)); clear hB2))
        go_ret
        exact ⟨rfl, HB.out⟩
  · skip
    go_enter Try.func9, Try.ntmps9
    go_wp2_with fail
    go_loopw [5, 6] (fun i v wr => ∃ k : Nat, k ≤ 256 ∧ i = .int .i64 k ∧ Hid (Below w.heap.size w wr)) (fun i _ _ => 256 - (intOf i).toNat)
    case atStart => exact ⟨0, by omega, rfl, Lib.hid (Below.refl _ _)⟩
    case round =>
      obtain ⟨k, hk, rfl, HB⟩ := hrel
      by_cases hlt : (k : Int) < 256
      · have hu : IntKind.u8.wrap k = k := by rw [IntKind.wrap_u8]; omega
        obtain ⟨hlen, hsnd⟩ := Mi.good_all (0) (1) k (by omega) (by omega)
        obtain ⟨e1, e2⟩ := times_pos (0) (1) k true rfl (by omega) (by omega)
        have e3 : ∀ m, Mi.time8 (0) true k m = Mi.timeS m (Mi.programS (0) (1) k) := fun m => by cases m; exact e2; exact e1
        have hP := fun w => program_nil (0) (1) k w (by omega) (by omega)
        have hU := fun m w => time8_any (0) true k m w (by omega) (by omega)
        simp only [e3] at hU
        obtain ⟨L, hL⟩ : ∃ L, L = Mi.programS (0) (1) k := ⟨_, rfl⟩
        rw [← hL] at hlen hsnd
        simp only [← hL] at hP hU
        have hsm := Mi.sound_small L hsnd
        have hT := fun m v w h => time_any m v L w h hsm (by omega)
        obtain ⟨T, g1⟩ : ∃ T : Bool → Int, T = fun m => Mi.timeS m L := ⟨_, rfl⟩
        have g2 : ∀ m, Mi.timeS m L = T m := fun m => by rw [g1]
        simp only [g2] at hU hT
        have HP := Lib.hid hP; have HT := Lib.hid hT; have HU := Lib.hid hU
        clear hP hT hU hL hsm hsnd e1 e2 e3 g1 g2 hlen
        go_wp2_with (first
          | (go_at_call 32; refine (HP.out _).mono ?_; rintro e w1 ⟨v, rfl, hs, hB⟩; have HS := Lib.hid hs; replace HB := Lib.hid (HB.out.trans (hB.mono HB.out.size)); clear hs hB)
          | (go_at_call 33; refine (HT.out _ _ _ HS.out).mono ?_; rintro e w2 ⟨rfl, hB2⟩; replace HS := Lib.hid (HS.out.below hB2); replace HB := Lib.hid (HB.out.trans (hB2.mono HB.out.size)); clear hB2)
          | (go_at_call 34; refine (HU.out _ _).mono ?_; rintro e w2 ⟨rfl, hB2⟩; replace HS := Lib.hid (HS.out.below hB2); replace HB := Lib.hid (HB.out.trans (hB2.mono HB.out.size)); clear hB2))
        go_roundw
        case rel => exact ⟨k + 1, by omega, by go_num, HB⟩
        case measure => simp [intOf]; omega
      · go_wp2_with (first
          | (go_at_call 35; refine (lives08 _).mono ?_; rintro e w2 ⟨rfl, hB2⟩; replace HB := Lib.hid (HB.out.trans (hB2.mono HB.out.size)); clear hB2))
        go_ret
        exact ⟨rfl, HB.out⟩
  · skip
    go_enter Try.func9, Try.ntmps9
    go_wp2_with fail
    go_loopw [5, 6] (fun i v wr => ∃ k : Nat, k ≤ 256 ∧ i = .int .i64 k ∧ Hid (Below w.heap.size w wr)) (fun i _ _ => 256 - (intOf i).toNat)
    case atStart => exact ⟨0, by omega, rfl, Lib.hid (Below.refl _ _)⟩
    case round =>
      obtain ⟨k, hk, rfl, HB⟩ := hrel
      by_cases hlt : (k : Int) < 256
      · have hu : IntKind.u8.wrap k = k := by rw [IntKind.wrap_u8]; omega
        obtain ⟨hlen, hsnd⟩ := Mi.good_all (0) (2) k (by omega) (by omega)
        obtain ⟨e1, e2⟩ := times_pos (0) (2) k true rfl (by omega) (by omega)
        have e3 : ∀ m, Mi.time8 (0) true k m = Mi.timeS m (Mi.programS (0) (2) k) := fun m => by cases m; exact e2; exact e1
        have hP := fun w => program_nil (0) (2) k w (by omega) (by omega)
        have hU := fun m w => time8_any (0) true k m w (by omega) (by omega)
        simp only [e3] at hU
        obtain ⟨L, hL⟩ : ∃ L, L = Mi.programS (0) (2) k := ⟨_, rfl⟩
        rw [← hL] at hlen hsnd
        simp only [← hL] at hP hU
        have hsm := Mi.sound_small L hsnd
        have hT := fun m v w h => time_any m v L w h hsm (by omega)
        obtain ⟨T, g1⟩ : ∃ T : Bool → Int, T = fun m => Mi.timeS m L := ⟨_, rfl⟩
        have g2 : ∀ m, Mi.timeS m L = T m := fun m => by rw [g1]
        simp only [g2] at hU hT
        have HP := Lib.hid hP; have HT := Lib.hid hT; have HU := Lib.hid hU
        clear hP hT hU hL hsm hsnd e1 e2 e3 g1 g2 hlen
        go_wp2_with (first
          | (go_at_call 32; refine (HP.out _).mono ?_; rintro e w1 ⟨v, rfl, hs, hB⟩; have HS := Lib.hid hs; replace HB := Lib.hid (HB.out.trans (hB.mono HB.out.size)); clear hs hB)
          | (go_at_call 33; refine (HT.out _ _ _ HS.out).mono ?_; rintro e w2 ⟨rfl, hB2⟩; replace HS := Lib.hid (HS.out.below hB2); replace HB := Lib.hid (HB.out.trans (hB2.mono HB.out.size)); clear hB2)
          | (go_at_call 34; refine (HU.out _ _).mono ?_; rintro e w2 ⟨rfl, hB2⟩; replace HS := Lib.hid (HS.out.below hB2); replace HB := Lib.hid (HB.out.trans (hB2.mono HB.out.size)); clear hB2))
        go_roundw
        case rel => exact ⟨k + 1, by omega, by go_num, HB⟩
        case measure => simp [intOf]; omega
      · go_wp2_with (first
          | (go_at_call 35; refine (lives08 _).mono ?_; rintro e w2 ⟨rfl, hB2⟩; replace HB := Lib.hid (HB.out.trans (hB2.mono HB.out.size)); clear hB2))
        go_ret
        exact ⟨rfl, HB.out⟩
  · skip
    go_enter Try.func9, Try.ntmps9
    go_wp2_with fail
    go_loopw [5, 6] (fun i v wr => ∃ k : Nat, k ≤ 256 ∧ i = .int .i64 k ∧ Hid (Below w.heap.size w wr)) (fun i _ _ => 256 - (intOf i).toNat)
    case atStart => exact ⟨0, by omega, rfl, Lib.hid (Below.refl _ _)⟩
    case round =>
      obtain ⟨k, hk, rfl, HB⟩ := hrel
      by_cases hlt : (k : Int) < 256
      · have hu : IntKind.u8.wrap k = k := by rw [IntKind.wrap_u8]; omega
        obtain ⟨hlen, hsnd⟩ := Mi.good_all (1) (0) k (by omega) (by omega)
        obtain ⟨e1, e2⟩ := times_pos (1) (0) k false rfl (by omega) (by omega)
        have e3 : ∀ m, Mi.time8 (1) false k m = Mi.timeS m (Mi.programS (1) (0) k) := fun m => by cases m; exact e2; exact e1
        have hP := fun w => program_nil (1) (0) k w (by omega) (by omega)
        have hU := fun m w => time8_any (1) false k m w (by omega) (by omega)
        simp only [e3] at hU
        obtain ⟨L, hL⟩ : ∃ L, L = Mi.programS (1) (0) k := ⟨_, rfl⟩
        rw [← hL] at hlen hsnd
        simp only [← hL] at hP hU
        have hsm := Mi.sound_small L hsnd
        have hT := fun m v w h => time_any m v L w h hsm (by omega)
        obtain ⟨T, g1⟩ : ∃ T : Bool → Int, T = fun m => Mi.timeS m L := ⟨_, rfl⟩
        have g2 : ∀ m, Mi.timeS m L = T m := fun m => by rw [g1]
        simp only [g2] at hU hT
        have HP := Lib.hid hP; have HT := Lib.hid hT; have HU := Lib.hid hU
        clear hP hT hU hL hsm hsnd e1 e2 e3 g1 g2 hlen
        go_wp2_with (first
          | (go_at_call 32; refine (HP.out _).mono ?_; rintro e w1 ⟨v, rfl, hs, hB⟩; have HS := Lib.hid hs; replace HB := Lib.hid (HB.out.trans (hB.mono HB.out.size)); clear hs hB)
          | (go_at_call 33; refine (HT.out _ _ _ HS.out).mono ?_; rintro e w2 ⟨rfl, hB2⟩; replace HS := Lib.hid (HS.out.below hB2); replace HB := Lib.hid (HB.out.trans (hB2.mono HB.out.size)); clear hB2)
          | (go_at_call 34; refine (HU.out _ _).mono ?_; rintro e w2 ⟨rfl, hB2⟩; replace HS := Lib.hid (HS.out.below hB2); replace HB := Lib.hid (HB.out.trans (hB2.mono HB.out.size)); clear hB2))
        go_roundw
        case rel => exact ⟨k + 1, by omega, by go_num, HB⟩
        case measure => simp [intOf]; omega
      · go_wp2_with (first
          | (go_at_call 35; refine (lives08 _).mono ?_; rintro e w2 ⟨rfl, hB2⟩; replace HB := Lib.hid (HB.out.trans (hB2.mono HB.out.size)); clear hB2))
        go_ret
        exact ⟨rfl, HB.out⟩
  · skip
    go_enter Try.func9, Try.ntmps9
    go_wp2_with fail
    go_loopw [5, 6] (fun i v wr => ∃ k : Nat, k ≤ 256 ∧ i = .int .i64 k ∧ Hid (Below w.heap.size w wr)) (fun i _ _ => 256 - (intOf i).toNat)
    case atStart => exact ⟨0, by omega, rfl, Lib.hid (Below.refl _ _)⟩
    case round =>
      obtain ⟨k, hk, rfl, HB⟩ := hrel
      by_cases hlt : (k : Int) < 256
      · have hu : IntKind.u8.wrap k = k := by rw [IntKind.wrap_u8]; omega
        obtain ⟨hlen, hsnd⟩ := Mi.good_all (1) (1) k (by omega) (by omega)
        obtain ⟨e1, e2⟩ := times_pos (1) (1) k true rfl (by omega) (by omega)
        have e3 : ∀ m, Mi.time8 (1) true k m = Mi.timeS m (Mi.programS (1) (1) k) := fun m => by cases m; exact e2; exact e1
        have hP := fun w => program_nil (1) (1) k w (by omega) (by omega)
        have hU := fun m w => time8_any (1) true k m w (by omega) (by omega)
        simp only [e3] at hU
        obtain ⟨L, hL⟩ : ∃ L, L = Mi.programS (1) (1) k := ⟨_, rfl⟩
        rw [← hL] at hlen hsnd
        simp only [← hL] at hP hU
        have hsm := Mi.sound_small L hsnd
        have hT := fun m v w h => time_any m v L w h hsm (by omega)
        obtain ⟨T, g1⟩ : ∃ T : Bool → Int, T = fun m => Mi.timeS m L := ⟨_, rfl⟩
        have g2 : ∀ m, Mi.timeS m L = T m := fun m => by rw [g1]
        simp only [g2] at hU hT
        have HP := Lib.hid hP; have HT := Lib.hid hT; have HU := Lib.hid hU
        clear hP hT hU hL hsm hsnd e1 e2 e3 g1 g2 hlen
        go_wp2_with (first
          | (go_at_call 32; refine (HP.out _).mono ?_; rintro e w1 ⟨v, rfl, hs, hB⟩; have HS := Lib.hid hs; replace HB := Lib.hid (HB.out.trans (hB.mono HB.out.size)); clear hs hB)
          | (go_at_call 33; refine (HT.out _ _ _ HS.out).mono ?_; rintro e w2 ⟨rfl, hB2⟩; replace HS := Lib.hid (HS.out.below hB2); replace HB := Lib.hid (HB.out.trans (hB2.mono HB.out.size)); clear hB2)
          | (go_at_call 34; refine (HU.out _ _).mono ?_; rintro e w2 ⟨rfl, hB2⟩; replace HS := Lib.hid (HS.out.below hB2); replace HB := Lib.hid (HB.out.trans (hB2.mono HB.out.size)); clear hB2))
        go_roundw
        case rel => exact ⟨k + 1, by omega, by go_num, HB⟩
        case measure => simp [intOf]; omega
      · go_wp2_with (first
          | (go_at_call 35; refine (lives08 _).mono ?_; rintro e w2 ⟨rfl, hB2⟩; replace HB := Lib.hid (HB.out.trans (hB2.mono HB.out.size)); clear hB2))
        go_ret
        exact ⟨rfl, HB.out⟩
  · skip
    go_enter Try.func9, Try.ntmps9
    go_wp2_with fail
    go_loopw [5, 6] (fun i v wr => ∃ k : Nat, k ≤ 256 ∧ i = .int .i64 k ∧ Hid (Below w.heap.size w wr)) (fun i _ _ => 256 - (intOf i).toNat)
    case atStart => exact ⟨0, by omega, rfl, Lib.hid (Below.refl _ _)⟩
    case round =>
      obtain ⟨k, hk, rfl, HB⟩ := hrel
      by_cases hlt : (k : Int) < 256
      · have hu : IntKind.u8.wrap k = k := by rw [IntKind.wrap_u8]; omega
        obtain ⟨hlen, hsnd⟩ := Mi.good_all (1) (2) k (by omega) (by omega)
        obtain ⟨e1, e2⟩ := times_pos (1) (2) k true rfl (by omega) (by omega)
        have e3 : ∀ m, Mi.time8 (1) true k m = Mi.timeS m (Mi.programS (1) (2) k) := fun m => by cases m; exact e2; exact e1
        have hP := fun w => program_nil (1) (2) k w (by omega) (by omega)
        have hU := fun m w => time8_any (1) true k m w (by omega) (by omega)
        simp only [e3] at hU
        obtain ⟨L, hL⟩ : ∃ L, L = Mi.programS (1) (2) k := ⟨_, rfl⟩
        rw [← hL] at hlen hsnd
        simp only [← hL] at hP hU
        have hsm := Mi.sound_small L hsnd
        have hT := fun m v w h => time_any m v L w h hsm (by omega)
        obtain ⟨T, g1⟩ : ∃ T : Bool → Int, T = fun m => Mi.timeS m L := ⟨_, rfl⟩
        have g2 : ∀ m, Mi.timeS m L = T m := fun m => by rw [g1]
        simp only [g2] at hU hT
        have HP := Lib.hid hP; have HT := Lib.hid hT; have HU := Lib.hid hU
        clear hP hT hU hL hsm hsnd e1 e2 e3 g1 g2 hlen
        go_wp2_with (first
          | (go_at_call 32; refine (HP.out _).mono ?_; rintro e w1 ⟨v, rfl, hs, hB⟩; have HS := Lib.hid hs; replace HB := Lib.hid (HB.out.trans (hB.mono HB.out.size)); clear hs hB)
          | (go_at_call 33; refine (HT.out _ _ _ HS.out).mono ?_; rintro e w2 ⟨rfl, hB2⟩; replace HS := Lib.hid (HS.out.below hB2); replace HB := Lib.hid (HB.out.trans (hB2.mono HB.out.size)); clear hB2)
          | (go_at_call 34; refine (HU.out _ _).mono ?_; rintro e w2 ⟨rfl, hB2⟩; replace HS := Lib.hid (HS.out.below hB2); replace HB := Lib.hid (HB.out.trans (hB2.mono HB.out.size)); clear hB2))
        go_roundw
        case rel => exact ⟨k + 1, by omega, by go_num, HB⟩
        case measure => simp [intOf]; omega
      · go_wp2_with (first
          | (go_at_call 35; refine (lives08 _).mono ?_; rintro e w2 ⟨rfl, hB2⟩; replace HB := Lib.hid (HB.out.trans (hB2.mono HB.out.size)); clear hB2))
        go_ret
        exact ⟨rfl, HB.out⟩
  · skip
    go_enter Try.func9, Try.ntmps9
    go_wp2_with fail
    go_loopw [5, 6] (fun i v wr => ∃ k : Nat, k ≤ 256 ∧ i = .int .i64 k ∧ Hid (Below w.heap.size w wr)) (fun i _ _ => 256 - (intOf i).toNat)
    case atStart => exact ⟨0, by omega, rfl, Lib.hid (Below.refl _ _)⟩
    case round =>
      obtain ⟨k, hk, rfl, HB⟩ := hrel
      by_cases hlt : (k : Int) < 256
      · have hu : IntKind.u8.wrap k = k := by rw [IntKind.wrap_u8]; omega
        obtain ⟨hlen, hsnd⟩ := Mi.good_all (2) (0) k (by omega) (by omega)
        obtain ⟨e1, e2⟩ := times_pos (2) (0) k false rfl (by omega) (by omega)
        have e3 : ∀ m, Mi.time8 (2) false k m = Mi.timeS m (Mi.programS (2) (0) k) := fun m => by cases m; exact e2; exact e1
        have hP := fun w => program_nil (2) (0) k w (by omega) (by omega)
        have hU := fun m w => time8_any (2) false k m w (by omega) (by omega)
        simp only [e3] at hU
        obtain ⟨L, hL⟩ : ∃ L, L = Mi.programS (2) (0) k := ⟨_, rfl⟩
        rw [← hL] at hlen hsnd
        simp only [← hL] at hP hU
        have hsm := Mi.sound_small L hsnd
        have hT := fun m v w h => time_any m v L w h hsm (by omega)
        obtain ⟨T, g1⟩ : ∃ T : Bool → Int, T = fun m => Mi.timeS m L := ⟨_, rfl⟩
        have g2 : ∀ m, Mi.timeS m L = T m := fun m => by rw [g1]
        simp only [g2] at hU hT
        have HP := Lib.hid hP; have HT := Lib.hid hT; have HU := Lib.hid hU
        clear hP hT hU hL hsm hsnd e1 e2 e3 g1 g2 hlen
        go_wp2_with (first
          | (go_at_call 32; refine (HP.out _).mono ?_; rintro e w1 ⟨v, rfl, hs, hB⟩; have HS := Lib.hid hs; replace HB := Lib.hid (HB.out.trans (hB.mono HB.out.size)); clear hs hB)
          | (go_at_call 33; refine (HT.out _ _ _ HS.out).mono ?_; rintro e w2 ⟨rfl, hB2⟩; replace HS := Lib.hid (HS.out.below hB2); replace HB := Lib.hid (HB.out.trans (hB2.mono HB.out.size)); clear hB2)
          | (go_at_call 34; refine (HU.out _ _).mono ?_; rintro e w2 ⟨rfl, hB2⟩; replace HS := Lib.hid (HS.out.below hB2); replace HB := Lib.hid (HB.out.trans (hB2.mono HB.out.size)); clear hB2))
        go_roundw
        case rel => exact ⟨k + 1, by omega, by go_num, HB⟩
        case measure => simp [intOf]; omega
      · go_wp2_with (first
          | (go_at_call 35; refine (lives08 _).mono ?_; rintro e w2 ⟨rfl, hB2⟩; replace HB := Lib.hid (HB.out.trans (hB2.mono HB.out.size)); clear hB2))
        go_ret
        exact ⟨rfl, HB.out⟩
  · skip
    go_enter Try.func9, Try.ntmps9
    go_wp2_with fail
    go_loopw [5, 6] (fun i v wr => ∃ k : Nat, k ≤ 256 ∧ i = .int .i64 k ∧ Hid (Below w.heap.size w wr)) (fun i _ _ => 256 - (intOf i).toNat)
    case atStart => exact ⟨0, by omega, rfl, Lib.hid (Below.refl _ _)⟩
    case round =>
      obtain ⟨k, hk, rfl, HB⟩ := hrel
      by_cases hlt : (k : Int) < 256
      · have hu : IntKind.u8.wrap k = k := by rw [IntKind.wrap_u8]; omega
        obtain ⟨hlen, hsnd⟩ := Mi.good_all (2) (1) k (by omega) (by omega)
        obtain ⟨e1, e2⟩ := times_pos (2) (1) k true rfl (by omega) (by omega)
        have e3 : ∀ m, Mi.time8 (2) true k m = Mi.timeS m (Mi.programS (2) (1) k) := fun m => by cases m; exact e2; exact e1
        have hP := fun w => program_nil (2) (1) k w (by omega) (by omega)
        have hU := fun m w => time8_any (2) true k m w (by omega) (by omega)
        simp only [e3] at hU
        obtain ⟨L, hL⟩ : ∃ L, L = Mi.programS (2) (1) k := ⟨_, rfl⟩
        rw [← hL] at hlen hsnd
        simp only [← hL] at hP hU
        have hsm := Mi.sound_small L hsnd
        have hT := fun m v w h => time_any m v L w h hsm (by omega)
        obtain ⟨T, g1⟩ : ∃ T : Bool → Int, T = fun m => Mi.timeS m L := ⟨_, rfl⟩
        have g2 : ∀ m, Mi.timeS m L = T m := fun m => by rw [g1]
        simp only [g2] at hU hT
        have HP := Lib.hid hP; have HT := Lib.hid hT; have HU := Lib.hid hU
        clear hP hT hU hL hsm hsnd e1 e2 e3 g1 g2 hlen
        go_wp2_with (first
          | (go_at_call 32; refine (HP.out _).mono ?_; rintro e w1 ⟨v, rfl, hs, hB⟩; have HS := Lib.hid hs; replace HB := Lib.hid (HB.out.trans (hB.mono HB.out.size)); clear hs hB)
          | (go_at_call 33; refine (HT.out _ _ _ HS.out).mono ?_; rintro e w2 ⟨rfl, hB2⟩; replace HS := Lib.hid (HS.out.below hB2); replace HB := Lib.hid (HB.out.trans (hB2.mono HB.out.size)); clear hB2)
          | (go_at_call 34; refine (HU.out _ _).mono ?_; rintro e w2 ⟨rfl, hB2⟩; replace HS := Lib.hid (HS.out.below hB2); replace HB := Lib.hid (HB.out.trans (hB2.mono HB.out.size)); clear hB2))
        go_roundw
        case rel => exact ⟨k + 1, by omega, by go_num, HB⟩
        case measure => simp [intOf]; omega
      · go_wp2_with (first
          | (go_at_call 35; refine (lives08 _).mono ?_; rintro e w2 ⟨rfl, hB2⟩; replace HB := Lib.hid (HB.out.trans (hB2.mono HB.out.size)); clear hB2))
        go_ret
        exact ⟨rfl, HB.out⟩
  · skip
    go_enter Try.func9, Try.ntmps9
    go_wp2_with fail
    go_loopw [5, 6] (fun i v wr => ∃ k : Nat, k ≤ 256 ∧ i = .int .i64 k ∧ Hid (Below w.heap.size w wr)) (fun i _ _ => 256 - (intOf i).toNat)
    case atStart => exact ⟨0, by omega, rfl, Lib.hid (Below.refl _ _)⟩
    case round =>
      obtain ⟨k, hk, rfl, HB⟩ := hrel
      by_cases hlt : (k : Int) < 256
      · have hu : IntKind.u8.wrap k = k := by rw [IntKind.wrap_u8]; omega
        obtain ⟨hlen, hsnd⟩ := Mi.good_all (2) (2) k (by omega) (by omega)
        obtain ⟨e1, e2⟩ := times_pos (2) (2) k true rfl (by omega) (by omega)
        have e3 : ∀ m, Mi.time8 (2) true k m = Mi.timeS m (Mi.programS (2) (2) k) := fun m => by cases m; exact e2; exact e1
        have hP := fun w => program_nil (2) (2) k w (by omega) (by omega)
        have hU := fun m w => time8_any (2) true k m w (by omega) (by omega)
        simp only [e3] at hU
        obtain ⟨L, hL⟩ : ∃ L, L = Mi.programS (2) (2) k := ⟨_, rfl⟩
        rw [← hL] at hlen hsnd
        simp only [← hL] at hP hU
        have hsm := Mi.sound_small L hsnd
        have hT := fun m v w h => time_any m v L w h hsm (by omega)
        obtain ⟨T, g1⟩ : ∃ T : Bool → Int, T = fun m => Mi.timeS m L := ⟨_, rfl⟩
        have g2 : ∀ m, Mi.timeS m L = T m := fun m => by rw [g1]
        simp only [g2] at hU hT
        have HP := Lib.hid hP; have HT := Lib.hid hT; have HU := Lib.hid hU
        clear hP hT hU hL hsm hsnd e1 e2 e3 g1 g2 hlen
        go_wp2_with (first
          | (go_at_call 32; refine (HP.out _).mono ?_; rintro e w1 ⟨v, rfl, hs, hB⟩; have HS := Lib.hid hs; replace HB := Lib.hid (HB.out.trans (hB.mono HB.out.size)); clear hs hB)
          | (go_at_call 33; refine (HT.out _ _ _ HS.out).mono ?_; rintro e w2 ⟨rfl, hB2⟩; replace HS := Lib.hid (HS.out.below hB2); replace HB := Lib.hid (HB.out.trans (hB2.mono HB.out.size)); clear hB2)
          | (go_at_call 34; refine (HU.out _ _).mono ?_; rintro e w2 ⟨rfl, hB2⟩; replace HS := Lib.hid (HS.out.below hB2); replace HB := Lib.hid (HB.out.trans (hB2.mono HB.out.size)); clear hB2))
        go_roundw
        case rel => exact ⟨k + 1, by omega, by go_num, HB⟩
        case measure => simp [intOf]; omega
      · go_wp2_with (first
          | (go_at_call 35; refine (lives08 _).mono ?_; rintro e w2 ⟨rfl, hB2⟩; replace HB := Lib.hid (HB.out.trans (hB2.mono HB.out.size)); clear hB2))
        go_ret
        exact ⟨rfl, HB.out⟩
  · skip
    go_enter Try.func9, Try.ntmps9
    go_wp2_with fail
    go_loopw [5, 6] (fun i v wr => ∃ k : Nat, k ≤ 256 ∧ i = .int .i64 k ∧ Hid (Below w.heap.size w wr)) (fun i _ _ => 256 - (intOf i).toNat)
    case atStart => exact ⟨0, by omega, rfl, Lib.hid (Below.refl _ _)⟩
    case round =>
      obtain ⟨k, hk, rfl, HB⟩ := hrel
      by_cases hlt : (k : Int) < 256
      · have hu : IntKind.u8.wrap k = k := by rw [IntKind.wrap_u8]; omega
        obtain ⟨hlen, hsnd⟩ := Mi.good_all (3) (0) k (by omega) (by omega)
        obtain ⟨e1, e2⟩ := times_pos (3) (0) k false rfl (by omega) (by omega)
        have e3 : ∀ m, Mi.time8 (3) false k m = Mi.timeS m (Mi.programS (3) (0) k) := fun m => by cases m; exact e2; exact e1
        have hP := fun w => program_nil (3) (0) k w (by omega) (by omega)
        have hU := fun m w => time8_any (3) false k m w (by omega) (by omega)
        simp only [e3] at hU
        obtain ⟨L, hL⟩ : ∃ L, L = Mi.programS (3) (0) k := ⟨_, rfl⟩
        rw [← hL] at hlen hsnd
        simp only [← hL] at hP hU
        have hsm := Mi.sound_small L hsnd
        have hT := fun m v w h => time_any m v L w h hsm (by omega)
        obtain ⟨T, g1⟩ : ∃ T : Bool → Int, T = fun m => Mi.timeS m L := ⟨_, rfl⟩
        have g2 : ∀ m, Mi.timeS m L = T m := fun m => by rw [g1]
        simp only [g2] at hU hT
        have HP := Lib.hid hP; have HT := Lib.hid hT; have HU := Lib.hid hU
        clear hP hT hU hL hsm hsnd e1 e2 e3 g1 g2 hlen
        go_wp2_with (first
          | (go_at_call 32; refine (HP.out _).mono ?_; rintro e w1 ⟨v, rfl, hs, hB⟩; have HS := Lib.hid hs; replace HB := Lib.hid (HB.out.trans (hB.mono HB.out.size)); clear hs hB)
          | (go_at_call 33; refine (HT.out _ _ _ HS.out).mono ?_; rintro e w2 ⟨rfl, hB2⟩; replace HS := Lib.hid (HS.out.below hB2); replace HB := Lib.hid (HB.out.trans (hB2.mono HB.out.size)); clear hB2)
          | (go_at_call 34; refine (HU.out _ _).mono ?_; rintro e w2 ⟨rfl, hB2⟩; replace HS := Lib.hid (HS.out.below hB2); replace HB := Lib.hid (HB.out.trans (hB2.mono HB.out.size)); clear hB2))
        go_roundw
        case rel => exact ⟨k + 1, by omega, by go_num, HB⟩
        case measure => simp [intOf]; omega
      · go_wp2_with (first
          | (go_at_call 35; refine (lives08 _).mono ?_; rintro e w2 ⟨rfl, hB2⟩; replace HB := Lib.hid (HB.out.trans (hB2.mono HB.out.size)); clear hB2))
        go_ret
        exact ⟨rfl, HB.out⟩
  · skip
    go_enter Try.func9, Try.ntmps9
    go_wp2_with fail
    go_loopw [5, 6] (fun i v wr => ∃ k : Nat, k ≤ 256 ∧ i = .int .i64 k ∧ Hid (Below w.heap.size w wr)) (fun i _ _ => 256 - (intOf i).toNat)
    case atStart => exact ⟨0, by omega, rfl, Lib.hid (Below.refl _ _)⟩
    case round =>
      obtain ⟨k, hk, rfl, HB⟩ := hrel
      by_cases hlt : (k : Int) < 256
      · have hu : IntKind.u8.wrap k = k := by rw [IntKind.wrap_u8]; omega
        obtain ⟨hlen, hsnd⟩ := Mi.good_all (3) (1) k (by omega) (by omega)
        obtain ⟨e1, e2⟩ := times_pos (3) (1) k true rfl (by omega) (by omega)
        have e3 : ∀ m, Mi.time8 (3) true k m = Mi.timeS m (Mi.programS (3) (1) k) := fun m => by cases m; exact e2; exact e1
        have hP := fun w => program_nil (3) (1) k w (by omega) (by omega)
        have hU := fun m w => time8_any (3) true k m w (by omega) (by omega)
        simp only [e3] at hU
        obtain ⟨L, hL⟩ : ∃ L, L = Mi.programS (3) (1) k := ⟨_, rfl⟩
        rw [← hL] at hlen hsnd
        simp only [← hL] at hP hU
        have hsm := Mi.sound_small L hsnd
        have hT := fun m v w h => time_any m v L w h hsm (by omega)
        obtain ⟨T, g1⟩ : ∃ T : Bool → Int, T = fun m => Mi.timeS m L := ⟨_, rfl⟩
        have g2 : ∀ m, Mi.timeS m L = T m := fun m => by rw [g1]
        simp only [g2] at hU hT
        have HP := Lib.hid hP; have HT := Lib.hid hT; have HU := Lib.hid hU
        clear hP hT hU hL hsm hsnd e1 e2 e3 g1 g2 hlen
        go_wp2_with (first
          | (go_at_call 32; refine (HP.out _).mono ?_; rintro e w1 ⟨v, rfl, hs, hB⟩; have HS := Lib.hid hs; replace HB := Lib.hid (HB.out.trans (hB.mono HB.out.size)); clear hs hB)
          | (go_at_call 33; refine (HT.out _ _ _ HS.out).mono ?_; rintro e w2 ⟨rfl, hB2⟩; replace HS := Lib.hid (HS.out.below hB2); replace HB := Lib.hid (HB.out.trans (hB2.mono HB.out.size)); clear hB2)
          | (go_at_call 34; refine (HU.out _ _).mono ?_; rintro e w2 ⟨rfl, hB2⟩; replace HS := Lib.hid (HS.out.below hB2); replace HB := Lib.hid (HB.out.trans (hB2.mono HB.out.size)); clear hB2))
        go_roundw
        case rel => exact ⟨k + 1, by omega, by go_num, HB⟩
        case measure => simp [intOf]; omega
      · go_wp2_with (first
          | (go_at_call 35; refine (lives08 _).mono ?_; rintro e w2 ⟨rfl, hB2⟩; replace HB := Lib.hid (HB.out.trans (hB2.mono HB.out.size)); clear hB2))
        go_ret
        exact ⟨rfl, HB.out⟩
  · skip
    go_enter Try.func9, Try.ntmps9
    go_wp2_with fail
    go_loopw [5, 6] (fun i v wr => ∃ k : Nat, k ≤ 256 ∧ i = .int .i64 k ∧ Hid (Below w.heap.size w wr)) (fun i _ _ => 256 - (intOf i).toNat)
    case atStart => exact ⟨0, by omega, rfl, Lib.hid (Below.refl _ _)⟩
    case round =>
      obtain ⟨k, hk, rfl, HB⟩ := hrel
      by_cases hlt : (k : Int) < 256
      · have hu : IntKind.u8.wrap k = k := by rw [IntKind.wrap_u8]; omega
        obtain ⟨hlen, hsnd⟩ := Mi.good_all (3) (2) k (by omega) (by omega)
        obtain ⟨e1, e2⟩ := times_pos (3) (2) k true rfl (by omega) (by omega)
        have e3 : ∀ m, Mi.time8 (3) true k m = Mi.timeS m (Mi.programS (3) (2) k) := fun m => by cases m; exact e2; exact e1
        have hP := fun w => program_nil (3) (2) k w (by omega) (by omega)
        have hU := fun m w => time8_any (3) true k m w (by omega) (by omega)
        simp only [e3] at hU
        obtain ⟨L, hL⟩ : ∃ L, L = Mi.programS (3) (2) k := ⟨_, rfl⟩
        rw [← hL] at hlen hsnd
        simp only [← hL] at hP hU
        have hsm := Mi.sound_small L hsnd
        have hT := fun m v w h => time_any m v L w h hsm (by omega)
        obtain ⟨T, g1⟩ : ∃ T : Bool → Int, T = fun m => Mi.timeS m L := ⟨_, rfl⟩
        have g2 : ∀ m, Mi.timeS m L = T m := fun m => by rw [g1]
        simp only [g2] at hU hT
        have HP := Lib.hid hP; have HT := Lib.hid hT; have HU := Lib.hid hU
        clear hP hT hU hL hsm hsnd e1 e2 e3 g1 g2 hlen
        go_wp2_with (first
          | (go_at_call 32; refine (HP.out _).mono ?_; rintro e w1 ⟨v, rfl, hs, hB⟩; have HS := Lib.hid hs; replace HB := Lib.hid (HB.out.trans (hB.mono HB.out.size)); clear hs hB)
          | (go_at_call 33; refine (HT.out _ _ _ HS.out).mono ?_; rintro e w2 ⟨rfl, hB2⟩; replace HS := Lib.hid (HS.out.below hB2); replace HB := Lib.hid (HB.out.trans (hB2.mono HB.out.size)); clear hB2)
          | (go_at_call 34; refine (HU.out _ _).mono ?_; rintro e w2 ⟨rfl, hB2⟩; replace HS := Lib.hid (HS.out.below hB2); replace HB := Lib.hid (HB.out.trans (hB2.mono HB.out.size)); clear hB2))
        go_roundw
        case rel => exact ⟨k + 1, by omega, by go_num, HB⟩
        case measure => simp [intOf]; omega
      · go_wp2_with (first
          | (go_at_call 35; refine (lives08 _).mono ?_; rintro e w2 ⟨rfl, hB2⟩; replace HB := Lib.hid (HB.out.trans (hB2.mono HB.out.size)); clear hB2))
        go_ret
        exact ⟨rfl, HB.out⟩
  · skip
    go_enter Try.func9, Try.ntmps9
    go_wp2_with fail
    go_loopw [5, 6] (fun i v wr => ∃ k : Nat, k ≤ 256 ∧ i = .int .i64 k ∧ Hid (Below w.heap.size w wr)) (fun i _ _ => 256 - (intOf i).toNat)
    case atStart => exact ⟨0, by omega, rfl, Lib.hid (Below.refl _ _)⟩
    case round =>
      obtain ⟨k, hk, rfl, HB⟩ := hrel
      by_cases hlt : (k : Int) < 256
      · have hu : IntKind.u8.wrap k = k := by rw [IntKind.wrap_u8]; omega
        obtain ⟨hlen, hsnd⟩ := Mi.good_all (0) (0) k (by omega) (by omega)
        obtain ⟨e1, e2⟩ := times_pos (0) (0) k false rfl (by omega) (by omega)
        have e3 : ∀ m, Mi.time8 (0) false k m = Mi.timeS m (Mi.programS (0) (0) k) := fun m => by cases m; exact e2; exact e1
        have hP := fun w => program_nil (0) (0) k w (by omega) (by omega)
        have hU := fun m w => time8_any (0) false k m w (by omega) (by omega)
        simp only [e3] at hU
        obtain ⟨L, hL⟩ : ∃ L, L = Mi.programS (0) (0) k := ⟨_, rfl⟩
        rw [← hL] at hlen hsnd
        simp only [← hL] at hP hU
        have hsm := Mi.sound_small L hsnd
        have hT := fun m v w h => time_any m v L w h hsm (by omega)
        obtain ⟨T, g1⟩ : ∃ T : Bool → Int, T = fun m => Mi.timeS m L := ⟨_, rfl⟩
        have g2 : ∀ m, Mi.timeS m L = T m := fun m => by rw [g1]
        simp only [g2] at hU hT
        have HP := Lib.hid hP; have HT := Lib.hid hT; have HU := Lib.hid hU
        clear hP hT hU hL hsm hsnd e1 e2 e3 g1 g2 hlen
        go_wp2_with (first
          | (go_at_call 32; refine (HP.out _).mono ?_; rintro e w1 ⟨v, rfl, hs, hB⟩; have HS := Lib.hid hs; replace HB := Lib.hid (HB.out.trans (hB.mono HB.out.size)); clear hs hB)
          | (go_at_call 33; refine (HT.out _ _ _ HS.out).mono ?_; rintro e w2 ⟨rfl, hB2⟩; replace HS := Lib.hid (HS.out.below hB2); replace HB := Lib.hid (HB.out.trans (hB2.mono HB.out.size)); clear hB2)
          | (go_at_call 34; refine (HU.out _ _).mono ?_; rintro e w2 ⟨rfl, hB2⟩; replace HS := Lib.hid (HS.out.below hB2); replace HB := Lib.hid (HB.out.trans (hB2.mono HB.out.size)); clear hB2))
        go_roundw
        case rel => exact ⟨k + 1, by omega, by go_num, HB⟩
        case measure => simp [intOf]; omega
      · go_wp2_with (first
          | (go_at_call 35; refine (lives08 _).mono ?_; rintro e w2 ⟨rfl, hB2⟩; replace HB := Lib.hid (HB.out.trans (hB2.mono HB.out.size)); clear hB2))
        go_ret
        exact ⟨rfl, HB.out⟩
end Go.Proofs.Ytfhegloobldokaa
