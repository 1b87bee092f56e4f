/- spell: what compares items, symbols. -/
import Derived.Test.YtokidpajialgbaaSpD
import Derived.Test.YtokidpajialgbaaStr
namespace Go.Proofs.Ytokidpajialgbaa
set_option linter.unusedSimpArgs false
set_option linter.unusedVariables false
open Go.RowKit Go.Sort
theorem txt8_list (l : List Int) : (txt8 l).toList = l.map (fun x => UInt8.ofNat x.toNat) := by rw [ByteArray.toList_eq]; simp [txt8]
theorem map_inj8 : ∀ (l m : List Int), (∀ x ∈ l, 0 ≤ x ∧ x ≤ 255) → (∀ x ∈ m, 0 ≤ x ∧ x ≤ 255) → l.map (fun x => UInt8.ofNat x.toNat) = m.map (fun x => UInt8.ofNat x.toNat) → l = m
  | [], [], _, _, _ => rfl
  | [], y :: m, _, _, h => by simp at h
  | x :: l, [], _, _, h => by simp at h
  | x :: l, y :: m, hl, hm, h => by
    rw [List.map_cons, List.map_cons] at h
    injection h with h1 h2
    have := map_inj8 l m (fun z hz => hl z (by simp [hz])) (fun z hz => hm z (by simp [hz])) h2
    have hx := hl x (by simp)
    have hy := hm y (by simp)
    have h3 := congrArg UInt8.toNat h1
    simp at h3
    have : x = y := by omega
    rw [this, ‹l = m›]
theorem txt8_eq (l m : List Int) (hl : ∀ x ∈ l, (Lit.int .u8 x).wf = true) (hm : ∀ x ∈ m, (Lit.int .u8 x).wf = true) : ((txt8 l).toList == (txt8 m).toList) = decide (l = m) := by
  have w8 : ∀ x, (Lit.int .u8 x).wf = true → 0 ≤ x ∧ x ≤ 255 := fun x h => by
    simp [Lit.wf, IntKind.min, IntKind.max, IntKind.bits, IntKind.signed] at h
    omega
  rw [txt8_list, txt8_list]
  by_cases h : l = m
  · rw [h]; simp
  · rw [decide_eq_false h]
    exact beq_false_of_ne fun e => h (map_inj8 l m (fun x hx => w8 x (hl x hx)) (fun x hx => w8 x (hm x hx)) e)
theorem RowV.conv {w : World} {A : Option Addr} {n c : Nat} {l : List Int} (h : Ints w A .u8 l) (hn : l.length = n) : (convert 22 9 (.slice A n c)).run Try.prog w = .ok (.string (txt8 l)) w := conv_ints w A n c l h hn
set_option maxRecDepth 100000 in
set_option maxHeartbeats 4000000 in
theorem item1_any (a b : Int) (r1 r2 : Value) (p q : List Int) (w : World) (h1 : RowV w .u8 r1 p) (h2 : RowV w .u8 r2 q) : Calls Try.prog 59 #[.agg #[.int .i64 a, r1], .agg #[.int .i64 b, r2]] w (SaysB (decide (a = b ∧ p = q)) w) := by
  obtain ⟨A1, c1, rfl, i1, _, _, w1⟩ := h1
  obtain ⟨A2, c2, rfl, i2, _, _, w2⟩ := h2
  have hcmp := txt8_eq p q w1 w2
  obtain ⟨n1, hn1⟩ : ∃ n, n = p.length := ⟨_, rfl⟩
  obtain ⟨n2, hn2⟩ : ∃ n, n = q.length := ⟨_, rfl⟩
  rw [← hn1, ← hn2]
  obtain ⟨wo, hwo⟩ : ∃ wo, wo = (w.alloc (.cells #[.int .i64 a, .slice A1 n1 c1] 46)).alloc (.cells #[.int .i64 b, .slice A2 n2 c2] 46) := ⟨_, rfl⟩
  have hbel : Below w.heap.size w wo := by rw [hwo]; exact ((Below.refl _ w).alloc (Nat.le_refl _) _).alloc (by simp) _
  have hc1 := RowV.conv (c := c1) (Cells.below i1 hbel) hn1.symm
  have hc2 := RowV.conv (c := c2) (Cells.below i2 hbel) hn2.symm
  have HB := Lib.hid hbel
  rw [hwo] at hc1 hc2 HB
  obtain ⟨T1, hT1⟩ : ∃ T, T = txt8 p := ⟨_, rfl⟩
  obtain ⟨T2, hT2⟩ : ∃ T, T = txt8 q := ⟨_, rfl⟩
  rw [← hT1] at hc1 hcmp; rw [← hT2] at hc2 hcmp
  clear i1 i2 hn1 hn2 hwo hbel hT1 hT2 w1 w2
  by_cases hab : a = b
  · subst hab
    by_cases hpq : p = q
    · rw [decide_eq_true ⟨rfl, hpq⟩]
      rw [decide_eq_true hpq] at hcmp
      clear hpq
      go_enter Try.func59, Try.ntmps59
      go_wp2_with fail
      go_ret
      exact ⟨rfl, HB.out⟩
    · rw [decide_eq_false (fun h => hpq h.2)]
      rw [decide_eq_false hpq] at hcmp
      clear hpq
      go_enter Try.func59, Try.ntmps59
      go_wp2_with fail
      go_ret
      exact ⟨rfl, HB.out⟩
  · rw [decide_eq_false (fun h => hab h.1)]
    have hne : (a == b) = false := by simpa using hab
    clear hcmp
    go_enter Try.func59, Try.ntmps59
    go_wp2_with fail
    go_ret
    exact ⟨rfl, HB.out⟩
set_option maxRecDepth 100000 in
set_option maxHeartbeats 4000000 in
theorem sym1_any (a b : Int) (r1 r2 : Value) (p q : List Int) (w : World) (h1 : RowV w .i64 r1 p) (h2 : RowV w .i64 r2 q) : Calls Try.prog 88 #[.agg #[.int .i64 a, r1], .agg #[.int .i64 b, r2]] w (SaysB (decide (a = b ∧ p = q)) w) := by
  have hb : Below w.heap.size w ((w.alloc (.cells #[.int .i64 a, r1] 48)).alloc (.cells #[.int .i64 b, r2] 48)) := ((Below.refl _ w).alloc (Nat.le_refl _) _).alloc (by simp) _
  have HB := Lib.hid hb
  have HE := Lib.hid (fun u (hu : Below w.heap.size w u) => eqInts_any r1 r2 p q u (h1.below hu) (h2.below hu))
  obtain ⟨A1, c1, rfl, -⟩ := h1
  obtain ⟨A2, c2, rfl, -⟩ := h2
  clear hb
  by_cases hab : a = b
  · subst hab
    rw [show decide (a = a ∧ p = q) = decide (p = q) by simp]
    generalize decide (p = q) = r at HE ⊢
    go_enter Try.func88, Try.ntmps88
    go_wp2_with (first
      | (go_at_call 60; refine (HE.out _ HB.out).mono ?_; rintro e w2 ⟨rfl, hb2⟩))
    go_ret
    exact ⟨rfl, HB.out.trans (hb2.mono HB.out.size)⟩
  · rw [decide_eq_false (fun h => hab h.1)]
    have hne : (a == b) = false := by simpa using hab
    clear HE
    go_enter Try.func88, Try.ntmps88
    go_wp2_with fail
    go_ret
    exact ⟨rfl, HB.out⟩
end Go.Proofs.Ytokidpajialgbaa
