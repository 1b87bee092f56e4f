/- Package op: second. -/
import Derived.Test.YtjkakmmhbciilaaOpH
namespace Go.Proofs.Ytjkakmmhbciilaa
set_option linter.unusedSimpArgs false
set_option linter.unusedVariables false
open Go.RowKit
def secondS (l : List Int) : In × Bool :=
  if l.length < 2 then (In.z, false) else if l.getD 0 0 = 203 then (⟨1, 0, l.getD 1 0, 0, 0, 2⟩, true) else tailS l ⟨2, 0, l.getD 1 0, 0, 0, 0⟩ 2 (if l.getD 1 0 / 64 = 1 ∧ l.getD 1 0 % 8 = 3 then (2 : Int) else 0).toNat
/-- an instruction, told by its letters -/
def ReadsL (s i c d n ln : Int) (ok : Bool) (w : World) (e : Ending) (w' : World) : Prop := e = .returned (.tuple #[.agg #[.int .i64 s, .int .i64 i, .int .u8 c, .int .u8 d, .int .u16 n, .int .i64 ln], .bool ok]) ∧ Below w.heap.size w w'
set_option maxHeartbeats 1000000 in
theorem second_any (ad : Addr) (n cap : Nat) (l : List Int) (w : World) (h : Bys w ad n cap l) (h1 : 1 ≤ n) :
    Calls Try.prog 18 #[.slice (some ad) n cap] w (Reads (secondS l) w) := by
  have hn := h.len
  have hlt := h.lt h1
  obtain ⟨c0, b0, _⟩ := h.at0 h1
  have hcap := h.capLe
  have hmax := h.capMax
  by_cases k2 : n < 2
  · have e : secondS l = (In.z, false) := by unfold secondS; rw [if_pos (by omega)]
    rw [e]
    clear e hn h b0
    go_enter Try.func18, Try.ntmps18
    go_wp2_with fail
    refine bodyPost_ret (v := .tuple #[.agg #[.int .i64 0, .int .i64 0, .int .u8 0, .int .u8 0, .int .u16 0, .int .i64 0], .bool false]) (by simp [results, Try.results18, go_sem]) rfl ⟨rfl, ?_⟩
    repeat' first | exact Below.refl _ _ | exact Nat.le_refl _ | refine Below.setCell ?_ ?_ _ | refine Below.alloc ?_ ?_ _ | (simp; done)
  obtain ⟨c1, b1⟩ := h.at_ 0 (by omega)
  have hz : ¬ l.length < 2 := by omega
  by_cases k3 : l.getD 0 0 = 203
  · have e : secondS l = (⟨1, 0, l.getD 1 0, 0, 0, 2⟩, true) := by unfold secondS; rw [if_neg hz, if_pos k3]
    rw [e]
    rw [k3] at c0
    obtain ⟨x, hx⟩ : ∃ x, x = l.getD 1 0 := ⟨_, rfl⟩
    rw [← hx] at c1 ⊢
    clear e hn h b0 hz k3 hx b1
    go_enter Try.func18, Try.ntmps18
    go_wp2_with fail
    refine bodyPost_ret (v := .tuple #[.agg #[.int .i64 1, .int .i64 0, .int .u8 x, .int .u8 0, .int .u16 0, .int .i64 2], .bool true]) (by simp [results, Try.results18, go_sem]) rfl ⟨rfl, ?_⟩
    repeat' first | exact Below.refl _ _ | exact Nat.le_refl _ | refine Below.setCell ?_ ?_ _ | refine Below.alloc ?_ ?_ _ | (simp; done)
  · have kb : (l.getD 0 0 == 203) = false := by simpa using k3
    have HP := op_parts (l.getD 1 0) b1.1 b1.2
    have hT := fun (a : Int) (w' : World) (hB : Below w.heap.size w w') (ha : a = 0 ∨ a = 2) => tailD_any ad n cap l (l.getD 1 0) a w' (h.below hB) (by omega) ha
    have e : secondS l = tailS l ⟨2, 0, l.getD 1 0, 0, 0, 0⟩ 2 (if l.getD 1 0 / 64 = 1 ∧ l.getD 1 0 % 8 = 3 then (2 : Int) else 0).toNat := by unfold secondS; rw [if_neg hz, if_neg k3]
    rw [e]
    obtain ⟨y, hy⟩ : ∃ y, y = l.getD 0 0 := ⟨_, rfl⟩
    obtain ⟨x, hx⟩ : ∃ x, x = l.getD 1 0 := ⟨_, rfl⟩
    simp only [Nat.zero_add] at c1
    rw [← hx] at c1 HP ⊢
    rw [← hy] at c0 kb
    simp only [← hx] at hT
    obtain ⟨X, hX⟩ : ∃ X, X = x / 64 := ⟨_, rfl⟩
    obtain ⟨Z, hZ⟩ : ∃ Z, Z = x % 8 := ⟨_, rfl⟩
    obtain ⟨xp, -⟩ : ∃ p : Int, True := ⟨0, trivial⟩
    rw [← hX, ← hZ] at HP ⊢
    have HP := Lib.hid HP
    have hB0 : Hid (Below w.heap.size w w) := Below.refl _ _
    clear e h b0 b1 hz k3 hx hy hX hZ hn
    by_cases kx : X = 1 ∧ Z = 3
    · obtain ⟨rfl, rfl⟩ := kx
      rw [if_pos ⟨rfl, rfl⟩]
      have hT2 := fun w' hB => hT 2 w' hB (.inr rfl)
      obtain ⟨R, hR⟩ : ∃ R, R = tailS l ⟨2, 0, x, 0, 0, 0⟩ 2 (2 : Int).toNat := ⟨_, rfl⟩
      rw [← hR]
      simp only [← hR] at hT2
      clear hR hT
      obtain ⟨⟨s, i, c, d, m, ln⟩, ok⟩ := R
      have HT : Hid (∀ w', Below w.heap.size w w' → Calls Try.prog 19 #[.slice (some ad) n cap, .agg #[.int .i64 2, .int .i64 0, .int .u8 x, .int .u8 0, .int .u16 0, .int .i64 0], .int .i64 2, .int .i64 2] w' (ReadsL s i c d m ln ok w')) := hT2
      clear hT2
      go_enter Try.func18, Try.ntmps18
      go_wp2_with (first
        | (go_at_call 25; refine (HP.out.x _).mono ?_; rintro e w' ⟨rfl, rfl⟩)
        | (go_at_call 22; refine (HP.out.z _).mono ?_; rintro e w' ⟨rfl, rfl⟩)
        | (go_at_call 19; refine (HT.out _ ((Below.refl _ _).alloc (Nat.le_refl _) _)).mono ?_; rintro e w' ⟨rfl, hb⟩; obtain ⟨hc, hf⟩ := bcell hb))
      refine bodyPost_ret (v := .tuple #[.agg #[.int .i64 s, .int .i64 i, .int .u8 c, .int .u8 d, .int .u16 m, .int .i64 ln], .bool ok]) (by simp [results, Try.results18, go_sem, hc]) rfl ⟨rfl, ?_⟩
      repeat (with_reducible refine Below.setCell ?_ (by simp) _)
      exact ((Below.refl _ w).alloc (Nat.le_refl _) _).trans (hb.mono (by simp))
    · rw [if_neg kx]
      by_cases kX : X = 1
      · have kz : (Z == 3) = false := by
          have : Z ≠ 3 := fun hz => kx ⟨kX, hz⟩
          simpa using this
        subst kX
        clear kx
        have hT2 := fun w' hB => hT 0 w' hB (.inl rfl)
        obtain ⟨R, hR⟩ : ∃ R, R = tailS l ⟨2, 0, x, 0, 0, 0⟩ 2 (0 : Int).toNat := ⟨_, rfl⟩
        rw [← hR]
        simp only [← hR] at hT2
        clear hR hT
        obtain ⟨⟨s, i, c, d, m, ln⟩, ok⟩ := R
        have HT : Hid (∀ w', Below w.heap.size w w' → Calls Try.prog 19 #[.slice (some ad) n cap, .agg #[.int .i64 2, .int .i64 0, .int .u8 x, .int .u8 0, .int .u16 0, .int .i64 0], .int .i64 2, .int .i64 0] w' (ReadsL s i c d m ln ok w')) := hT2
        clear hT2
        go_enter Try.func18, Try.ntmps18
        go_wp2_with (first
          | (go_at_call 25; refine (HP.out.x _).mono ?_; rintro e w' ⟨rfl, rfl⟩)
          | (go_at_call 22; refine (HP.out.z _).mono ?_; rintro e w' ⟨rfl, rfl⟩)
          | (go_at_call 19; refine (HT.out _ ((Below.refl _ _).alloc (Nat.le_refl _) _)).mono ?_; rintro e w' ⟨rfl, hb⟩; obtain ⟨hc, hf⟩ := bcell hb))
        refine bodyPost_ret (v := .tuple #[.agg #[.int .i64 s, .int .i64 i, .int .u8 c, .int .u8 d, .int .u16 m, .int .i64 ln], .bool ok]) (by simp [results, Try.results18, go_sem, hc]) rfl ⟨rfl, ?_⟩
        repeat (with_reducible refine Below.setCell ?_ (by simp) _)
        exact ((Below.refl _ w).alloc (Nat.le_refl _) _).trans (hb.mono (by simp))
      · have kxb : (X == 1) = false := by simpa using kX
        clear kx kX
        have hT2 := fun w' hB => hT 0 w' hB (.inl rfl)
        obtain ⟨R, hR⟩ : ∃ R, R = tailS l ⟨2, 0, x, 0, 0, 0⟩ 2 (0 : Int).toNat := ⟨_, rfl⟩
        rw [← hR]
        simp only [← hR] at hT2
        clear hR hT
        obtain ⟨⟨s, i, c, d, m, ln⟩, ok⟩ := R
        have HT : Hid (∀ w', Below w.heap.size w w' → Calls Try.prog 19 #[.slice (some ad) n cap, .agg #[.int .i64 2, .int .i64 0, .int .u8 x, .int .u8 0, .int .u16 0, .int .i64 0], .int .i64 2, .int .i64 0] w' (ReadsL s i c d m ln ok w')) := hT2
        clear hT2
        go_enter Try.func18, Try.ntmps18
        go_wp2_with (first
          | (go_at_call 25; refine (HP.out.x _).mono ?_; rintro e w' ⟨rfl, rfl⟩)
          | (go_at_call 22; refine (HP.out.z _).mono ?_; rintro e w' ⟨rfl, rfl⟩)
          | (go_at_call 19; refine (HT.out _ ((Below.refl _ _).alloc (Nat.le_refl _) _)).mono ?_; rintro e w' ⟨rfl, hb⟩; obtain ⟨hc, hf⟩ := bcell hb))
        refine bodyPost_ret (v := .tuple #[.agg #[.int .i64 s, .int .i64 i, .int .u8 c, .int .u8 d, .int .u16 m, .int .i64 ln], .bool ok]) (by simp [results, Try.results18, go_sem, hc]) rfl ⟨rfl, ?_⟩
        repeat (with_reducible refine Below.setCell ?_ (by simp) _)
        exact ((Below.refl _ w).alloc (Nat.le_refl _) _).trans (hb.mono (by simp))
end Go.Proofs.Ytjkakmmhbciilaa
