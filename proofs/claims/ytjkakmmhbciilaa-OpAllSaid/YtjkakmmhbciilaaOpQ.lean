/- op: pair, reg; Show at the three instructions of the chapter's example. -/
import Derived.Test.YtjkakmmhbciilaaOpP
import Derived.Test.YtjkakmmhbciilaaOpK
namespace Go.Proofs.Ytjkakmmhbciilaa
set_option linter.unusedSimpArgs false
set_option linter.unusedVariables false
open Go.RowKit
set_option maxHeartbeats 1000000 in
theorem pair2_any (s ix c d n ln : Int) (w : World) : Calls Try.prog 44 #[.agg #[.int .i64 s, .int .i64 ix, .int .u8 c, .int .u8 d, .int .u16 n, .int .i64 ln], .int .i64 2] w fun e w' => e = .returned (.string ⟨(hlS s ix).toArray⟩) ∧ Below w.heap.size w w' := by
  have HH := Lib.hid (fun w => opHl_any s ix c d n ln w)
  obtain ⟨t, ht⟩ : ∃ t, t = hlS s ix := ⟨_, rfl⟩
  rw [← ht] at HH ⊢
  clear ht
  go_enter Try.func44, Try.ntmps44
  go_wp2_with (first
    | (go_at_call 59; refine (HH.out _).mono ?_; rintro e w1 ⟨rfl, hb⟩))
  go_ret
  exact ⟨rfl, ((Below.refl _ w).alloc (Nat.le_refl _) _).trans (hb.mono (by simp))⟩
theorem same_swap {P : Program} {f : FuncId} {args : Array Value} {w : World} {v : Value} (h : Calls P f args w fun e w' => e = .returned v ∧ w = w') : Calls P f args w fun e w' => e = .returned v ∧ w' = w := h.mono fun _ _ ⟨h1, h2⟩ => ⟨h1, h2.symm⟩
def regS (s ix c d : Int) (k : Nat) : List UInt8 :=
  if hasI s ix = true ∧ k = 6 then awayS ix d else if hasI s ix = true ∧ (k = 4 ∨ k = 5) ∧ Mi.memS c = false then ixn ix ++ Mi.regsL.getD k [] else Mi.regsL.getD k []
set_option maxHeartbeats 4000000 in
theorem reg_any (s ix c d n ln : Int) (k : Nat) (w : World) (hc0 : 0 ≤ c) (hc1 : c ≤ 255) (hd : B8 d) (hk : k < 8) : Calls Try.prog 21 #[.agg #[.int .i64 s, .int .i64 ix, .int .u8 c, .int .u8 d, .int .u16 n, .int .i64 ln], .int .i64 k] w fun e w' => e = .returned (.string ⟨(regS s ix c d k).toArray⟩) ∧ Below w.heap.size w w' := by
  have HH := Lib.hid (fun w => opHas_any s ix c d n ln w)
  have HA := Lib.hid (fun w => away_any s ix c d n ln w hd)
  have HM := Lib.hid (fun w => mem_any c w hc0 hc1)
  have HI := Lib.hid (fun w => opIndex_any ix w)
  obtain ⟨R, hR⟩ : ∃ R, R = regS s ix c d k := ⟨_, rfl⟩
  rw [← hR]
  unfold regS at hR
  have tl := ixn_len ix
  obtain ⟨t, ht⟩ : ∃ t, t = ixn ix := ⟨_, rfl⟩
  obtain ⟨u, hu⟩ : ∃ u, u = awayS ix d := ⟨_, rfl⟩
  obtain ⟨m, hm⟩ : ∃ m, m = Mi.memS c := ⟨_, rfl⟩
  obtain ⟨h, hh⟩ : ∃ h, h = hasI s ix := ⟨_, rfl⟩
  rw [← ht] at HI tl
  rw [← hu] at HA
  rw [← hm] at HM
  rw [← hh] at HH
  rw [← ht, ← hu, ← hm, ← hh] at hR
  have tl2 : t.length ≤ 2 := by omega
  clear ht hu hm hh tl hd
  have kk : k = 0 ∨ k = 1 ∨ k = 2 ∨ k = 3 ∨ k = 4 ∨ k = 5 ∨ k = 6 ∨ k = 7 := by omega
  rcases kk with rfl | rfl | rfl | rfl | rfl | rfl | rfl | rfl
  · cases h
    · simp at hR
      have HR := Lib.hid hR
      clear hR
      go_enter Try.func21, Try.ntmps21
      go_wp2_with (first
        | (go_at_call 42; have gA := hb1; refine (HH.out _).mono ?_; rintro e w2 ⟨rfl, hb2⟩; obtain ⟨hc2, hf2⟩ := bcell hb2; have ha2 := (fun o => (hc2 (w.heap.size + 1) o hz).trans (ha o)); have hx2 := (fun o => (hc2 w.heap.size o (by omega)).trans (hx o)); clear gA)
        | (go_at_call 42; refine (HH.out _).mono ?_; rintro e w1 ⟨rfl, hb1⟩; obtain ⟨hc, hf⟩ := bcell hb1; have ha := (fun o => hc (w.heap.size + 1) o (by simp)); have hx := (fun o => hc w.heap.size o (by first | omega | (simp; omega) | simp)); have hz : w.heap.size + 1 < w1.heap.size := (by have := hb1.size; (try simp at this); omega))
        | (go_at_call 24; refine (HA.out _).mono ?_; rintro e w3 ⟨rfl, hb3⟩)
        | (go_at_call 16; refine (HM.out _).mono ?_; rintro e w' ⟨rfl, rfl⟩))
      go_ret
      first
        | exact ⟨by rw [HR.out]; rfl, ((((Below.refl _ w).alloc (Nat.le_refl _) _).alloc (by simp) _).trans (hb1.mono (by first | omega | (simp; omega))))⟩
        | exact ⟨by rw [HR.out]; rfl, ((((Below.refl _ w).alloc (Nat.le_refl _) _).alloc (by simp) _).trans (hb1.mono (by first | omega | (simp; omega)))).trans (hb2.mono (by omega))⟩
    · simp at hR
      have HR := Lib.hid hR
      clear hR
      go_enter Try.func21, Try.ntmps21
      go_wp2_with (first
        | (go_at_call 42; have gA := hb1; refine (HH.out _).mono ?_; rintro e w2 ⟨rfl, hb2⟩; obtain ⟨hc2, hf2⟩ := bcell hb2; have ha2 := (fun o => (hc2 (w.heap.size + 1) o hz).trans (ha o)); have hx2 := (fun o => (hc2 w.heap.size o (by omega)).trans (hx o)); clear gA)
        | (go_at_call 42; refine (HH.out _).mono ?_; rintro e w1 ⟨rfl, hb1⟩; obtain ⟨hc, hf⟩ := bcell hb1; have ha := (fun o => hc (w.heap.size + 1) o (by simp)); have hx := (fun o => hc w.heap.size o (by first | omega | (simp; omega) | simp)); have hz : w.heap.size + 1 < w1.heap.size := (by have := hb1.size; (try simp at this); omega))
        | (go_at_call 24; refine (HA.out _).mono ?_; rintro e w3 ⟨rfl, hb3⟩)
        | (go_at_call 16; refine (HM.out _).mono ?_; rintro e w' ⟨rfl, rfl⟩))
      go_ret
      first
        | exact ⟨by rw [HR.out]; rfl, ((((Below.refl _ w).alloc (Nat.le_refl _) _).alloc (by simp) _).trans (hb1.mono (by first | omega | (simp; omega))))⟩
        | exact ⟨by rw [HR.out]; rfl, ((((Below.refl _ w).alloc (Nat.le_refl _) _).alloc (by simp) _).trans (hb1.mono (by first | omega | (simp; omega)))).trans (hb2.mono (by omega))⟩
  · cases h
    · simp at hR
      have HR := Lib.hid hR
      clear hR
      go_enter Try.func21, Try.ntmps21
      go_wp2_with (first
        | (go_at_call 42; have gA := hb1; refine (HH.out _).mono ?_; rintro e w2 ⟨rfl, hb2⟩; obtain ⟨hc2, hf2⟩ := bcell hb2; have ha2 := (fun o => (hc2 (w.heap.size + 1) o hz).trans (ha o)); have hx2 := (fun o => (hc2 w.heap.size o (by omega)).trans (hx o)); clear gA)
        | (go_at_call 42; refine (HH.out _).mono ?_; rintro e w1 ⟨rfl, hb1⟩; obtain ⟨hc, hf⟩ := bcell hb1; have ha := (fun o => hc (w.heap.size + 1) o (by simp)); have hx := (fun o => hc w.heap.size o (by first | omega | (simp; omega) | simp)); have hz : w.heap.size + 1 < w1.heap.size := (by have := hb1.size; (try simp at this); omega))
        | (go_at_call 24; refine (HA.out _).mono ?_; rintro e w3 ⟨rfl, hb3⟩)
        | (go_at_call 16; refine (HM.out _).mono ?_; rintro e w' ⟨rfl, rfl⟩))
      go_ret
      first
        | exact ⟨by rw [HR.out]; rfl, ((((Below.refl _ w).alloc (Nat.le_refl _) _).alloc (by simp) _).trans (hb1.mono (by first | omega | (simp; omega))))⟩
        | exact ⟨by rw [HR.out]; rfl, ((((Below.refl _ w).alloc (Nat.le_refl _) _).alloc (by simp) _).trans (hb1.mono (by first | omega | (simp; omega)))).trans (hb2.mono (by omega))⟩
    · simp at hR
      have HR := Lib.hid hR
      clear hR
      go_enter Try.func21, Try.ntmps21
      go_wp2_with (first
        | (go_at_call 42; have gA := hb1; refine (HH.out _).mono ?_; rintro e w2 ⟨rfl, hb2⟩; obtain ⟨hc2, hf2⟩ := bcell hb2; have ha2 := (fun o => (hc2 (w.heap.size + 1) o hz).trans (ha o)); have hx2 := (fun o => (hc2 w.heap.size o (by omega)).trans (hx o)); clear gA)
        | (go_at_call 42; refine (HH.out _).mono ?_; rintro e w1 ⟨rfl, hb1⟩; obtain ⟨hc, hf⟩ := bcell hb1; have ha := (fun o => hc (w.heap.size + 1) o (by simp)); have hx := (fun o => hc w.heap.size o (by first | omega | (simp; omega) | simp)); have hz : w.heap.size + 1 < w1.heap.size := (by have := hb1.size; (try simp at this); omega))
        | (go_at_call 24; refine (HA.out _).mono ?_; rintro e w3 ⟨rfl, hb3⟩)
        | (go_at_call 16; refine (HM.out _).mono ?_; rintro e w' ⟨rfl, rfl⟩))
      go_ret
      first
        | exact ⟨by rw [HR.out]; rfl, ((((Below.refl _ w).alloc (Nat.le_refl _) _).alloc (by simp) _).trans (hb1.mono (by first | omega | (simp; omega))))⟩
        | exact ⟨by rw [HR.out]; rfl, ((((Below.refl _ w).alloc (Nat.le_refl _) _).alloc (by simp) _).trans (hb1.mono (by first | omega | (simp; omega)))).trans (hb2.mono (by omega))⟩
  · cases h
    · simp at hR
      have HR := Lib.hid hR
      clear hR
      go_enter Try.func21, Try.ntmps21
      go_wp2_with (first
        | (go_at_call 42; have gA := hb1; refine (HH.out _).mono ?_; rintro e w2 ⟨rfl, hb2⟩; obtain ⟨hc2, hf2⟩ := bcell hb2; have ha2 := (fun o => (hc2 (w.heap.size + 1) o hz).trans (ha o)); have hx2 := (fun o => (hc2 w.heap.size o (by omega)).trans (hx o)); clear gA)
        | (go_at_call 42; refine (HH.out _).mono ?_; rintro e w1 ⟨rfl, hb1⟩; obtain ⟨hc, hf⟩ := bcell hb1; have ha := (fun o => hc (w.heap.size + 1) o (by simp)); have hx := (fun o => hc w.heap.size o (by first | omega | (simp; omega) | simp)); have hz : w.heap.size + 1 < w1.heap.size := (by have := hb1.size; (try simp at this); omega))
        | (go_at_call 24; refine (HA.out _).mono ?_; rintro e w3 ⟨rfl, hb3⟩)
        | (go_at_call 16; refine (HM.out _).mono ?_; rintro e w' ⟨rfl, rfl⟩))
      go_ret
      first
        | exact ⟨by rw [HR.out]; rfl, ((((Below.refl _ w).alloc (Nat.le_refl _) _).alloc (by simp) _).trans (hb1.mono (by first | omega | (simp; omega))))⟩
        | exact ⟨by rw [HR.out]; rfl, ((((Below.refl _ w).alloc (Nat.le_refl _) _).alloc (by simp) _).trans (hb1.mono (by first | omega | (simp; omega)))).trans (hb2.mono (by omega))⟩
    · simp at hR
      have HR := Lib.hid hR
      clear hR
      go_enter Try.func21, Try.ntmps21
      go_wp2_with (first
        | (go_at_call 42; have gA := hb1; refine (HH.out _).mono ?_; rintro e w2 ⟨rfl, hb2⟩; obtain ⟨hc2, hf2⟩ := bcell hb2; have ha2 := (fun o => (hc2 (w.heap.size + 1) o hz).trans (ha o)); have hx2 := (fun o => (hc2 w.heap.size o (by omega)).trans (hx o)); clear gA)
        | (go_at_call 42; refine (HH.out _).mono ?_; rintro e w1 ⟨rfl, hb1⟩; obtain ⟨hc, hf⟩ := bcell hb1; have ha := (fun o => hc (w.heap.size + 1) o (by simp)); have hx := (fun o => hc w.heap.size o (by first | omega | (simp; omega) | simp)); have hz : w.heap.size + 1 < w1.heap.size := (by have := hb1.size; (try simp at this); omega))
        | (go_at_call 24; refine (HA.out _).mono ?_; rintro e w3 ⟨rfl, hb3⟩)
        | (go_at_call 16; refine (HM.out _).mono ?_; rintro e w' ⟨rfl, rfl⟩))
      go_ret
      first
        | exact ⟨by rw [HR.out]; rfl, ((((Below.refl _ w).alloc (Nat.le_refl _) _).alloc (by simp) _).trans (hb1.mono (by first | omega | (simp; omega))))⟩
        | exact ⟨by rw [HR.out]; rfl, ((((Below.refl _ w).alloc (Nat.le_refl _) _).alloc (by simp) _).trans (hb1.mono (by first | omega | (simp; omega)))).trans (hb2.mono (by omega))⟩
  · cases h
    · simp at hR
      have HR := Lib.hid hR
      clear hR
      go_enter Try.func21, Try.ntmps21
      go_wp2_with (first
        | (go_at_call 42; have gA := hb1; refine (HH.out _).mono ?_; rintro e w2 ⟨rfl, hb2⟩; obtain ⟨hc2, hf2⟩ := bcell hb2; have ha2 := (fun o => (hc2 (w.heap.size + 1) o hz).trans (ha o)); have hx2 := (fun o => (hc2 w.heap.size o (by omega)).trans (hx o)); clear gA)
        | (go_at_call 42; refine (HH.out _).mono ?_; rintro e w1 ⟨rfl, hb1⟩; obtain ⟨hc, hf⟩ := bcell hb1; have ha := (fun o => hc (w.heap.size + 1) o (by simp)); have hx := (fun o => hc w.heap.size o (by first | omega | (simp; omega) | simp)); have hz : w.heap.size + 1 < w1.heap.size := (by have := hb1.size; (try simp at this); omega))
        | (go_at_call 24; refine (HA.out _).mono ?_; rintro e w3 ⟨rfl, hb3⟩)
        | (go_at_call 16; refine (HM.out _).mono ?_; rintro e w' ⟨rfl, rfl⟩))
      go_ret
      first
        | exact ⟨by rw [HR.out]; rfl, ((((Below.refl _ w).alloc (Nat.le_refl _) _).alloc (by simp) _).trans (hb1.mono (by first | omega | (simp; omega))))⟩
        | exact ⟨by rw [HR.out]; rfl, ((((Below.refl _ w).alloc (Nat.le_refl _) _).alloc (by simp) _).trans (hb1.mono (by first | omega | (simp; omega)))).trans (hb2.mono (by omega))⟩
    · simp at hR
      have HR := Lib.hid hR
      clear hR
      go_enter Try.func21, Try.ntmps21
      go_wp2_with (first
        | (go_at_call 42; have gA := hb1; refine (HH.out _).mono ?_; rintro e w2 ⟨rfl, hb2⟩; obtain ⟨hc2, hf2⟩ := bcell hb2; have ha2 := (fun o => (hc2 (w.heap.size + 1) o hz).trans (ha o)); have hx2 := (fun o => (hc2 w.heap.size o (by omega)).trans (hx o)); clear gA)
        | (go_at_call 42; refine (HH.out _).mono ?_; rintro e w1 ⟨rfl, hb1⟩; obtain ⟨hc, hf⟩ := bcell hb1; have ha := (fun o => hc (w.heap.size + 1) o (by simp)); have hx := (fun o => hc w.heap.size o (by first | omega | (simp; omega) | simp)); have hz : w.heap.size + 1 < w1.heap.size := (by have := hb1.size; (try simp at this); omega))
        | (go_at_call 24; refine (HA.out _).mono ?_; rintro e w3 ⟨rfl, hb3⟩)
        | (go_at_call 16; refine (HM.out _).mono ?_; rintro e w' ⟨rfl, rfl⟩))
      go_ret
      first
        | exact ⟨by rw [HR.out]; rfl, ((((Below.refl _ w).alloc (Nat.le_refl _) _).alloc (by simp) _).trans (hb1.mono (by first | omega | (simp; omega))))⟩
        | exact ⟨by rw [HR.out]; rfl, ((((Below.refl _ w).alloc (Nat.le_refl _) _).alloc (by simp) _).trans (hb1.mono (by first | omega | (simp; omega)))).trans (hb2.mono (by omega))⟩
  · cases h
    · simp at hR
      have HR := Lib.hid hR
      clear hR
      go_enter Try.func21, Try.ntmps21
      go_wp2_with (first
        | (go_at_call 42; have gA := hb1; refine (HH.out _).mono ?_; rintro e w2 ⟨rfl, hb2⟩; obtain ⟨hc2, hf2⟩ := bcell hb2; have ha2 := (fun o => (hc2 (w.heap.size + 1) o hz).trans (ha o)); have hx2 := (fun o => (hc2 w.heap.size o (by omega)).trans (hx o)); clear gA)
        | (go_at_call 42; refine (HH.out _).mono ?_; rintro e w1 ⟨rfl, hb1⟩; obtain ⟨hc, hf⟩ := bcell hb1; have ha := (fun o => hc (w.heap.size + 1) o (by simp)); have hx := (fun o => hc w.heap.size o (by first | omega | (simp; omega) | simp)); have hz : w.heap.size + 1 < w1.heap.size := (by have := hb1.size; (try simp at this); omega))
        | (go_at_call 24; refine (HA.out _).mono ?_; rintro e w3 ⟨rfl, hb3⟩)
        | (go_at_call 16; refine (HM.out _).mono ?_; rintro e w' ⟨rfl, rfl⟩))
      go_ret
      first
        | exact ⟨by rw [HR.out]; rfl, ((((Below.refl _ w).alloc (Nat.le_refl _) _).alloc (by simp) _).trans (hb1.mono (by first | omega | (simp; omega))))⟩
        | exact ⟨by rw [HR.out]; rfl, ((((Below.refl _ w).alloc (Nat.le_refl _) _).alloc (by simp) _).trans (hb1.mono (by first | omega | (simp; omega)))).trans (hb2.mono (by omega))⟩
    · cases m
      · simp at hR
        have HR := Lib.hid hR
        clear hR
        go_enter Try.func21, Try.ntmps21
        go_wp2_with (first
          | (go_at_call 42; have gA := hb1; refine (HH.out _).mono ?_; rintro e w2 ⟨rfl, hb2⟩; obtain ⟨hc2, hf2⟩ := bcell hb2; have ha2 := (fun o => (hc2 (w.heap.size + 1) o hz).trans (ha o)); have hx2 := (fun o => (hc2 w.heap.size o (by omega)).trans (hx o)); clear gA)
          | (go_at_call 42; refine (HH.out _).mono ?_; rintro e w1 ⟨rfl, hb1⟩; obtain ⟨hc, hf⟩ := bcell hb1; have ha := (fun o => hc (w.heap.size + 1) o (by simp)); have hx := (fun o => hc w.heap.size o (by first | omega | (simp; omega) | simp)); have hz : w.heap.size + 1 < w1.heap.size := (by have := hb1.size; (try simp at this); omega))
          | (go_at_call 24; refine (HA.out _).mono ?_; rintro e w3 ⟨rfl, hb3⟩)
          | (go_at_call 16; refine (HM.out _).mono ?_; rintro e w' ⟨rfl, rfl⟩))
        go_quiet ((go_at_call 26; exact Calls.quiet_of_same (same_swap (HI.out _))))
        go_wp2_with fail
        go_ret
        refine ⟨?_, Below_drewN (((((Below.refl _ w).alloc (Nat.le_refl _) _).alloc (by simp) _).trans (hb1.mono (by first | omega | (simp; omega)))).trans (hb2.mono (by omega))) _⟩
        rw [HR.out, ← app_data]
        rfl
      · simp at hR
        have HR := Lib.hid hR
        clear hR
        go_enter Try.func21, Try.ntmps21
        go_wp2_with (first
          | (go_at_call 42; have gA := hb1; refine (HH.out _).mono ?_; rintro e w2 ⟨rfl, hb2⟩; obtain ⟨hc2, hf2⟩ := bcell hb2; have ha2 := (fun o => (hc2 (w.heap.size + 1) o hz).trans (ha o)); have hx2 := (fun o => (hc2 w.heap.size o (by omega)).trans (hx o)); clear gA)
          | (go_at_call 42; refine (HH.out _).mono ?_; rintro e w1 ⟨rfl, hb1⟩; obtain ⟨hc, hf⟩ := bcell hb1; have ha := (fun o => hc (w.heap.size + 1) o (by simp)); have hx := (fun o => hc w.heap.size o (by first | omega | (simp; omega) | simp)); have hz : w.heap.size + 1 < w1.heap.size := (by have := hb1.size; (try simp at this); omega))
          | (go_at_call 24; refine (HA.out _).mono ?_; rintro e w3 ⟨rfl, hb3⟩)
          | (go_at_call 16; refine (HM.out _).mono ?_; rintro e w' ⟨rfl, rfl⟩))
        go_ret
        first
          | exact ⟨by rw [HR.out]; rfl, ((((Below.refl _ w).alloc (Nat.le_refl _) _).alloc (by simp) _).trans (hb1.mono (by first | omega | (simp; omega))))⟩
          | exact ⟨by rw [HR.out]; rfl, ((((Below.refl _ w).alloc (Nat.le_refl _) _).alloc (by simp) _).trans (hb1.mono (by first | omega | (simp; omega)))).trans (hb2.mono (by omega))⟩
  · cases h
    · simp at hR
      have HR := Lib.hid hR
      clear hR
      go_enter Try.func21, Try.ntmps21
      go_wp2_with (first
        | (go_at_call 42; have gA := hb1; refine (HH.out _).mono ?_; rintro e w2 ⟨rfl, hb2⟩; obtain ⟨hc2, hf2⟩ := bcell hb2; have ha2 := (fun o => (hc2 (w.heap.size + 1) o hz).trans (ha o)); have hx2 := (fun o => (hc2 w.heap.size o (by omega)).trans (hx o)); clear gA)
        | (go_at_call 42; refine (HH.out _).mono ?_; rintro e w1 ⟨rfl, hb1⟩; obtain ⟨hc, hf⟩ := bcell hb1; have ha := (fun o => hc (w.heap.size + 1) o (by simp)); have hx := (fun o => hc w.heap.size o (by first | omega | (simp; omega) | simp)); have hz : w.heap.size + 1 < w1.heap.size := (by have := hb1.size; (try simp at this); omega))
        | (go_at_call 24; refine (HA.out _).mono ?_; rintro e w3 ⟨rfl, hb3⟩)
        | (go_at_call 16; refine (HM.out _).mono ?_; rintro e w' ⟨rfl, rfl⟩))
      go_ret
      first
        | exact ⟨by rw [HR.out]; rfl, ((((Below.refl _ w).alloc (Nat.le_refl _) _).alloc (by simp) _).trans (hb1.mono (by first | omega | (simp; omega))))⟩
        | exact ⟨by rw [HR.out]; rfl, ((((Below.refl _ w).alloc (Nat.le_refl _) _).alloc (by simp) _).trans (hb1.mono (by first | omega | (simp; omega)))).trans (hb2.mono (by omega))⟩
    · cases m
      · simp at hR
        have HR := Lib.hid hR
        clear hR
        go_enter Try.func21, Try.ntmps21
        go_wp2_with (first
          | (go_at_call 42; have gA := hb1; refine (HH.out _).mono ?_; rintro e w2 ⟨rfl, hb2⟩; obtain ⟨hc2, hf2⟩ := bcell hb2; have ha2 := (fun o => (hc2 (w.heap.size + 1) o hz).trans (ha o)); have hx2 := (fun o => (hc2 w.heap.size o (by omega)).trans (hx o)); clear gA)
          | (go_at_call 42; refine (HH.out _).mono ?_; rintro e w1 ⟨rfl, hb1⟩; obtain ⟨hc, hf⟩ := bcell hb1; have ha := (fun o => hc (w.heap.size + 1) o (by simp)); have hx := (fun o => hc w.heap.size o (by first | omega | (simp; omega) | simp)); have hz : w.heap.size + 1 < w1.heap.size := (by have := hb1.size; (try simp at this); omega))
          | (go_at_call 24; refine (HA.out _).mono ?_; rintro e w3 ⟨rfl, hb3⟩)
          | (go_at_call 16; refine (HM.out _).mono ?_; rintro e w' ⟨rfl, rfl⟩))
        go_quiet ((go_at_call 26; exact Calls.quiet_of_same (same_swap (HI.out _))))
        go_wp2_with fail
        go_ret
        refine ⟨?_, Below_drewN (((((Below.refl _ w).alloc (Nat.le_refl _) _).alloc (by simp) _).trans (hb1.mono (by first | omega | (simp; omega)))).trans (hb2.mono (by omega))) _⟩
        rw [HR.out, ← app_data]
        rfl
      · simp at hR
        have HR := Lib.hid hR
        clear hR
        go_enter Try.func21, Try.ntmps21
        go_wp2_with (first
          | (go_at_call 42; have gA := hb1; refine (HH.out _).mono ?_; rintro e w2 ⟨rfl, hb2⟩; obtain ⟨hc2, hf2⟩ := bcell hb2; have ha2 := (fun o => (hc2 (w.heap.size + 1) o hz).trans (ha o)); have hx2 := (fun o => (hc2 w.heap.size o (by omega)).trans (hx o)); clear gA)
          | (go_at_call 42; refine (HH.out _).mono ?_; rintro e w1 ⟨rfl, hb1⟩; obtain ⟨hc, hf⟩ := bcell hb1; have ha := (fun o => hc (w.heap.size + 1) o (by simp)); have hx := (fun o => hc w.heap.size o (by first | omega | (simp; omega) | simp)); have hz : w.heap.size + 1 < w1.heap.size := (by have := hb1.size; (try simp at this); omega))
          | (go_at_call 24; refine (HA.out _).mono ?_; rintro e w3 ⟨rfl, hb3⟩)
          | (go_at_call 16; refine (HM.out _).mono ?_; rintro e w' ⟨rfl, rfl⟩))
        go_ret
        first
          | exact ⟨by rw [HR.out]; rfl, ((((Below.refl _ w).alloc (Nat.le_refl _) _).alloc (by simp) _).trans (hb1.mono (by first | omega | (simp; omega))))⟩
          | exact ⟨by rw [HR.out]; rfl, ((((Below.refl _ w).alloc (Nat.le_refl _) _).alloc (by simp) _).trans (hb1.mono (by first | omega | (simp; omega)))).trans (hb2.mono (by omega))⟩
  · cases h
    · simp at hR
      have HR := Lib.hid hR
      clear hR
      go_enter Try.func21, Try.ntmps21
      go_wp2_with (first
        | (go_at_call 42; have gA := hb1; refine (HH.out _).mono ?_; rintro e w2 ⟨rfl, hb2⟩; obtain ⟨hc2, hf2⟩ := bcell hb2; have ha2 := (fun o => (hc2 (w.heap.size + 1) o hz).trans (ha o)); have hx2 := (fun o => (hc2 w.heap.size o (by omega)).trans (hx o)); clear gA)
        | (go_at_call 42; refine (HH.out _).mono ?_; rintro e w1 ⟨rfl, hb1⟩; obtain ⟨hc, hf⟩ := bcell hb1; have ha := (fun o => hc (w.heap.size + 1) o (by simp)); have hx := (fun o => hc w.heap.size o (by first | omega | (simp; omega) | simp)); have hz : w.heap.size + 1 < w1.heap.size := (by have := hb1.size; (try simp at this); omega))
        | (go_at_call 24; refine (HA.out _).mono ?_; rintro e w3 ⟨rfl, hb3⟩)
        | (go_at_call 16; refine (HM.out _).mono ?_; rintro e w' ⟨rfl, rfl⟩))
      go_ret
      first
        | exact ⟨by rw [HR.out]; rfl, ((((Below.refl _ w).alloc (Nat.le_refl _) _).alloc (by simp) _).trans (hb1.mono (by first | omega | (simp; omega))))⟩
        | exact ⟨by rw [HR.out]; rfl, ((((Below.refl _ w).alloc (Nat.le_refl _) _).alloc (by simp) _).trans (hb1.mono (by first | omega | (simp; omega)))).trans (hb2.mono (by omega))⟩
    · simp at hR
      have HR := Lib.hid hR
      clear hR
      go_enter Try.func21, Try.ntmps21
      go_wp2_with (first
        | (go_at_call 42; have gA := hb1; refine (HH.out _).mono ?_; rintro e w2 ⟨rfl, hb2⟩; obtain ⟨hc2, hf2⟩ := bcell hb2; have ha2 := (fun o => (hc2 (w.heap.size + 1) o hz).trans (ha o)); have hx2 := (fun o => (hc2 w.heap.size o (by omega)).trans (hx o)); clear gA)
        | (go_at_call 42; refine (HH.out _).mono ?_; rintro e w1 ⟨rfl, hb1⟩; obtain ⟨hc, hf⟩ := bcell hb1; have ha := (fun o => hc (w.heap.size + 1) o (by simp)); have hx := (fun o => hc w.heap.size o (by first | omega | (simp; omega) | simp)); have hz : w.heap.size + 1 < w1.heap.size := (by have := hb1.size; (try simp at this); omega))
        | (go_at_call 24; refine (HA.out _).mono ?_; rintro e w3 ⟨rfl, hb3⟩)
        | (go_at_call 16; refine (HM.out _).mono ?_; rintro e w' ⟨rfl, rfl⟩))
      go_ret
      exact ⟨by rw [HR.out]; rfl, ((((Below.refl _ w).alloc (Nat.le_refl _) _).alloc (by simp) _).trans (hb1.mono (by first | omega | (simp; omega)))).trans (hb3.mono (by omega))⟩
  · cases h
    · simp at hR
      have HR := Lib.hid hR
      clear hR
      go_enter Try.func21, Try.ntmps21
      go_wp2_with (first
        | (go_at_call 42; have gA := hb1; refine (HH.out _).mono ?_; rintro e w2 ⟨rfl, hb2⟩; obtain ⟨hc2, hf2⟩ := bcell hb2; have ha2 := (fun o => (hc2 (w.heap.size + 1) o hz).trans (ha o)); have hx2 := (fun o => (hc2 w.heap.size o (by omega)).trans (hx o)); clear gA)
        | (go_at_call 42; refine (HH.out _).mono ?_; rintro e w1 ⟨rfl, hb1⟩; obtain ⟨hc, hf⟩ := bcell hb1; have ha := (fun o => hc (w.heap.size + 1) o (by simp)); have hx := (fun o => hc w.heap.size o (by first | omega | (simp; omega) | simp)); have hz : w.heap.size + 1 < w1.heap.size := (by have := hb1.size; (try simp at this); omega))
        | (go_at_call 24; refine (HA.out _).mono ?_; rintro e w3 ⟨rfl, hb3⟩)
        | (go_at_call 16; refine (HM.out _).mono ?_; rintro e w' ⟨rfl, rfl⟩))
      go_ret
      first
        | exact ⟨by rw [HR.out]; rfl, ((((Below.refl _ w).alloc (Nat.le_refl _) _).alloc (by simp) _).trans (hb1.mono (by first | omega | (simp; omega))))⟩
        | exact ⟨by rw [HR.out]; rfl, ((((Below.refl _ w).alloc (Nat.le_refl _) _).alloc (by simp) _).trans (hb1.mono (by first | omega | (simp; omega)))).trans (hb2.mono (by omega))⟩
    · simp at hR
      have HR := Lib.hid hR
      clear hR
      go_enter Try.func21, Try.ntmps21
      go_wp2_with (first
        | (go_at_call 42; have gA := hb1; refine (HH.out _).mono ?_; rintro e w2 ⟨rfl, hb2⟩; obtain ⟨hc2, hf2⟩ := bcell hb2; have ha2 := (fun o => (hc2 (w.heap.size + 1) o hz).trans (ha o)); have hx2 := (fun o => (hc2 w.heap.size o (by omega)).trans (hx o)); clear gA)
        | (go_at_call 42; refine (HH.out _).mono ?_; rintro e w1 ⟨rfl, hb1⟩; obtain ⟨hc, hf⟩ := bcell hb1; have ha := (fun o => hc (w.heap.size + 1) o (by simp)); have hx := (fun o => hc w.heap.size o (by first | omega | (simp; omega) | simp)); have hz : w.heap.size + 1 < w1.heap.size := (by have := hb1.size; (try simp at this); omega))
        | (go_at_call 24; refine (HA.out _).mono ?_; rintro e w3 ⟨rfl, hb3⟩)
        | (go_at_call 16; refine (HM.out _).mono ?_; rintro e w' ⟨rfl, rfl⟩))
      go_ret
      first
        | exact ⟨by rw [HR.out]; rfl, ((((Below.refl _ w).alloc (Nat.le_refl _) _).alloc (by simp) _).trans (hb1.mono (by first | omega | (simp; omega))))⟩
        | exact ⟨by rw [HR.out]; rfl, ((((Below.refl _ w).alloc (Nat.le_refl _) _).alloc (by simp) _).trans (hb1.mono (by first | omega | (simp; omega)))).trans (hb2.mono (by omega))⟩
end Go.Proofs.Ytjkakmmhbciilaa
