/- What a block that may be looks like. Written by gen_sppa.py. -/
import Derived.Test.YtokidpajialgbaaQSpMB
import Derived.Test.YtokidpajialgbaaQSpWE
namespace Go.Proofs.Ytokidpajialgbaa
set_option linter.unusedSimpArgs false
set_option linter.unusedVariables false
theorem fit0 {l : List Int} (h : fitS 0 l = true) : ∀ x ∈ l, x = 0 := fun x hx => by
  have := List.all_eq_true.1 h x hx
  simp at this; omega
theorem nil_of0 {α : Type} {l : List α} (h : (l.length : Int) = 0) : l = [] := List.eq_nil_of_length_eq_zero (by omega)
theorem and2 {a b c : Bool} (h : (a && (b && c)) = true) : b = true ∧ c = true := by simp at h; exact h.2
theorem may_16 {B : TB} (hid : B.id = 16) (h : mayB B = true) : B = ({ id := 16, pause := B.pause, data := B.data } : TB) ∧ (fitS 65535 [B.pause, (B.data.length : Int)]) = true := by
  obtain ⟨n0, n1, n2, n3, n4, n5, n6, n7, n8, n9, n10, n11, D, T, I, P, S, R⟩ := B
  simp only at hid
  subst hid
  have e : sndB ⟨16, n1, n2, n3, n4, n5, n6, n7, n8, n9, n10, n11, D, T, I, P, S, R⟩ = (fitS 65535 [n1, (D.length : Int)], ⟨16, 0, n2, n3, n4, n5, n6, n7, n8, n9, n10, n11, [], T, I, P, S, R⟩) := by simp only [sndB]; simp
  unfold mayB at h
  rw [e] at h
  obtain ⟨h1, h2⟩ := and2 h
  have h3 := fit0 h2
  simp only [TB.rest, List.mem_cons, List.not_mem_nil, or_false, forall_eq_or_imp, forall_eq, List.length_nil] at h3
  obtain ⟨z1, z2, z3, z4, z5, z6, z7, z8, z9, z10, z11, z12, z13, z14, z15, z16, z17⟩ := h3
  try subst z2
  try subst z3
  try subst z4
  try subst z5
  try subst z6
  try subst z7
  try subst z8
  try subst z9
  try subst z10
  try subst z11
  try obtain rfl := nil_of0 z13
  try obtain rfl := nil_of0 z14
  try obtain rfl := nil_of0 z15
  try obtain rfl := nil_of0 z16
  try obtain rfl := nil_of0 z17
  exact ⟨rfl, h1⟩
theorem may_17 {B : TB} (hid : B.id = 17) (h : mayB B = true) : B = ({ id := 17, pause := B.pause, pilot := B.pilot, sync1 := B.sync1, sync2 := B.sync2, zero := B.zero, one := B.one, count := B.count, used := B.used, data := B.data } : TB) ∧ (fitS 65535 [B.pause, B.pilot, B.sync1, B.sync2, B.zero, B.one, B.count] && (fitS 255 [B.used] && fitS 16777215 [(B.data.length : Int)])) = true := by
  obtain ⟨n0, n1, n2, n3, n4, n5, n6, n7, n8, n9, n10, n11, D, T, I, P, S, R⟩ := B
  simp only at hid
  subst hid
  have e : sndB ⟨17, n1, n2, n3, n4, n5, n6, n7, n8, n9, n10, n11, D, T, I, P, S, R⟩ = (fitS 65535 [n1, n2, n3, n4, n5, n6, n8] && (fitS 255 [n9] && fitS 16777215 [(D.length : Int)]), ⟨0, 0, 0, 0, 0, 0, 0, n7, 0, 0, n10, n11, [], T, I, P, S, R⟩) := by simp only [sndB]; simp
  unfold mayB at h
  rw [e] at h
  obtain ⟨h1, h2⟩ := and2 h
  have h3 := fit0 h2
  simp only [TB.rest, List.mem_cons, List.not_mem_nil, or_false, forall_eq_or_imp, forall_eq, List.length_nil] at h3
  obtain ⟨z1, z2, z3, z4, z5, z6, z7, z8, z9, z10, z11, z12, z13, z14, z15, z16, z17⟩ := h3
  try subst z7
  try subst z10
  try subst z11
  try obtain rfl := nil_of0 z13
  try obtain rfl := nil_of0 z14
  try obtain rfl := nil_of0 z15
  try obtain rfl := nil_of0 z16
  try obtain rfl := nil_of0 z17
  exact ⟨rfl, h1⟩
theorem may_18 {B : TB} (hid : B.id = 18) (h : mayB B = true) : B = ({ id := 18, tone := B.tone, count := B.count } : TB) ∧ (fitS 65535 [B.tone, B.count]) = true := by
  obtain ⟨n0, n1, n2, n3, n4, n5, n6, n7, n8, n9, n10, n11, D, T, I, P, S, R⟩ := B
  simp only at hid
  subst hid
  have e : sndB ⟨18, n1, n2, n3, n4, n5, n6, n7, n8, n9, n10, n11, D, T, I, P, S, R⟩ = (fitS 65535 [n7, n8], ⟨18, n1, n2, n3, n4, n5, n6, 0, 0, n9, n10, n11, D, T, I, P, S, R⟩) := by simp only [sndB]; simp
  unfold mayB at h
  rw [e] at h
  obtain ⟨h1, h2⟩ := and2 h
  have h3 := fit0 h2
  simp only [TB.rest, List.mem_cons, List.not_mem_nil, or_false, forall_eq_or_imp, forall_eq, List.length_nil] at h3
  obtain ⟨z1, z2, z3, z4, z5, z6, z7, z8, z9, z10, z11, z12, z13, z14, z15, z16, z17⟩ := h3
  try subst z1
  try subst z2
  try subst z3
  try subst z4
  try subst z5
  try subst z6
  try subst z9
  try subst z10
  try subst z11
  try obtain rfl := nil_of0 z12
  try obtain rfl := nil_of0 z13
  try obtain rfl := nil_of0 z14
  try obtain rfl := nil_of0 z15
  try obtain rfl := nil_of0 z16
  try obtain rfl := nil_of0 z17
  exact ⟨rfl, h1⟩
theorem may_19 {B : TB} (hid : B.id = 19) (h : mayB B = true) : B = ({ id := 19, times := B.times } : TB) ∧ (fitS 255 [(B.times.length : Int)] && fitS 65535 B.times) = true := by
  obtain ⟨n0, n1, n2, n3, n4, n5, n6, n7, n8, n9, n10, n11, D, T, I, P, S, R⟩ := B
  simp only at hid
  subst hid
  have e : sndB ⟨19, n1, n2, n3, n4, n5, n6, n7, n8, n9, n10, n11, D, T, I, P, S, R⟩ = (fitS 255 [(T.length : Int)] && fitS 65535 T, ⟨19, n1, n2, n3, n4, n5, n6, n7, n8, n9, n10, n11, D, [], I, P, S, R⟩) := by simp only [sndB]; simp
  unfold mayB at h
  rw [e] at h
  obtain ⟨h1, h2⟩ := and2 h
  have h3 := fit0 h2
  simp only [TB.rest, List.mem_cons, List.not_mem_nil, or_false, forall_eq_or_imp, forall_eq, List.length_nil] at h3
  obtain ⟨z1, z2, z3, z4, z5, z6, z7, z8, z9, z10, z11, z12, z13, z14, z15, z16, z17⟩ := h3
  try subst z1
  try subst z2
  try subst z3
  try subst z4
  try subst z5
  try subst z6
  try subst z7
  try subst z8
  try subst z9
  try subst z10
  try subst z11
  try obtain rfl := nil_of0 z12
  try obtain rfl := nil_of0 z14
  try obtain rfl := nil_of0 z15
  try obtain rfl := nil_of0 z16
  try obtain rfl := nil_of0 z17
  exact ⟨rfl, h1⟩
theorem may_20 {B : TB} (hid : B.id = 20) (h : mayB B = true) : B = ({ id := 20, pause := B.pause, zero := B.zero, one := B.one, used := B.used, data := B.data } : TB) ∧ (fitS 65535 [B.pause, B.zero, B.one] && (fitS 255 [B.used] && fitS 16777215 [(B.data.length : Int)])) = true := by
  obtain ⟨n0, n1, n2, n3, n4, n5, n6, n7, n8, n9, n10, n11, D, T, I, P, S, R⟩ := B
  simp only at hid
  subst hid
  have e : sndB ⟨20, n1, n2, n3, n4, n5, n6, n7, n8, n9, n10, n11, D, T, I, P, S, R⟩ = (fitS 65535 [n1, n5, n6] && (fitS 255 [n9] && fitS 16777215 [(D.length : Int)]), ⟨20, 0, n2, n3, n4, 0, 0, n7, n8, 0, n10, n11, [], T, I, P, S, R⟩) := by simp only [sndB]; simp
  unfold mayB at h
  rw [e] at h
  obtain ⟨h1, h2⟩ := and2 h
  have h3 := fit0 h2
  simp only [TB.rest, List.mem_cons, List.not_mem_nil, or_false, forall_eq_or_imp, forall_eq, List.length_nil] at h3
  obtain ⟨z1, z2, z3, z4, z5, z6, z7, z8, z9, z10, z11, z12, z13, z14, z15, z16, z17⟩ := h3
  try subst z2
  try subst z3
  try subst z4
  try subst z7
  try subst z8
  try subst z10
  try subst z11
  try obtain rfl := nil_of0 z13
  try obtain rfl := nil_of0 z14
  try obtain rfl := nil_of0 z15
  try obtain rfl := nil_of0 z16
  try obtain rfl := nil_of0 z17
  exact ⟨rfl, h1⟩
theorem may_21 {B : TB} (hid : B.id = 21) (h : mayB B = true) : B = ({ id := 21, pause := B.pause, used := B.used, rate := B.rate, data := B.data } : TB) ∧ (fitS 65535 [B.pause, B.rate] && (fitS 255 [B.used] && fitS 16777215 [(B.data.length : Int)])) = true := by
  obtain ⟨n0, n1, n2, n3, n4, n5, n6, n7, n8, n9, n10, n11, D, T, I, P, S, R⟩ := B
  simp only at hid
  subst hid
  have e : sndB ⟨21, n1, n2, n3, n4, n5, n6, n7, n8, n9, n10, n11, D, T, I, P, S, R⟩ = (fitS 65535 [n1, n10] && (fitS 255 [n9] && fitS 16777215 [(D.length : Int)]), ⟨21, 0, n2, n3, n4, n5, n6, n7, n8, 0, 0, n11, [], T, I, P, S, R⟩) := by simp only [sndB]; simp
  unfold mayB at h
  rw [e] at h
  obtain ⟨h1, h2⟩ := and2 h
  have h3 := fit0 h2
  simp only [TB.rest, List.mem_cons, List.not_mem_nil, or_false, forall_eq_or_imp, forall_eq, List.length_nil] at h3
  obtain ⟨z1, z2, z3, z4, z5, z6, z7, z8, z9, z10, z11, z12, z13, z14, z15, z16, z17⟩ := h3
  try subst z2
  try subst z3
  try subst z4
  try subst z5
  try subst z6
  try subst z7
  try subst z8
  try subst z11
  try obtain rfl := nil_of0 z13
  try obtain rfl := nil_of0 z14
  try obtain rfl := nil_of0 z15
  try obtain rfl := nil_of0 z16
  try obtain rfl := nil_of0 z17
  exact ⟨rfl, h1⟩
theorem may_24 {B : TB} (hid : B.id = 24) (h : mayB B = true) : B = ({ id := 24, pause := B.pause, count := B.count, rate := B.rate, pack := B.pack, data := B.data } : TB) ∧ (fitS 65535 [B.pause] && (fitS 16777215 [B.rate] && (fitS 255 [B.pack] && (fitS 4294967295 [B.count] && fitS 1048576 [(B.data.length : Int)])))) = true := by
  obtain ⟨n0, n1, n2, n3, n4, n5, n6, n7, n8, n9, n10, n11, D, T, I, P, S, R⟩ := B
  simp only at hid
  subst hid
  have e : sndB ⟨24, n1, n2, n3, n4, n5, n6, n7, n8, n9, n10, n11, D, T, I, P, S, R⟩ = (fitS 65535 [n1] && (fitS 16777215 [n10] && (fitS 255 [n11] && (fitS 4294967295 [n8] && fitS 1048576 [(D.length : Int)]))), ⟨24, 0, n2, n3, n4, n5, n6, n7, 0, n9, 0, 0, [], T, I, P, S, R⟩) := by simp only [sndB]; simp
  unfold mayB at h
  rw [e] at h
  obtain ⟨h1, h2⟩ := and2 h
  have h3 := fit0 h2
  simp only [TB.rest, List.mem_cons, List.not_mem_nil, or_false, forall_eq_or_imp, forall_eq, List.length_nil] at h3
  obtain ⟨z1, z2, z3, z4, z5, z6, z7, z8, z9, z10, z11, z12, z13, z14, z15, z16, z17⟩ := h3
  try subst z2
  try subst z3
  try subst z4
  try subst z5
  try subst z6
  try subst z7
  try subst z9
  try obtain rfl := nil_of0 z13
  try obtain rfl := nil_of0 z14
  try obtain rfl := nil_of0 z15
  try obtain rfl := nil_of0 z16
  try obtain rfl := nil_of0 z17
  exact ⟨rfl, h1⟩
theorem may_25 {B : TB} (hid : B.id = 25) (h : mayB B = true) : B = ({ id := 25, pause := B.pause, pilot := B.pilot, sync1 := B.sync1, zero := B.zero, one := B.one, count := B.count, data := B.data, pilots := B.pilots, syms := B.syms, reps := B.reps } : TB) ∧ (generalB B) = true := by
  obtain ⟨n0, n1, n2, n3, n4, n5, n6, n7, n8, n9, n10, n11, D, T, I, P, S, R⟩ := B
  simp only at hid
  subst hid
  have e : sndB ⟨25, n1, n2, n3, n4, n5, n6, n7, n8, n9, n10, n11, D, T, I, P, S, R⟩ = (generalB ⟨25, n1, n2, n3, n4, n5, n6, n7, n8, n9, n10, n11, D, T, I, P, S, R⟩, ⟨0, 0, 0, 0, n4, 0, 0, n7, 0, n9, n10, n11, [], T, I, [], [], []⟩) := by simp only [sndB]; simp
  unfold mayB at h
  rw [e] at h
  obtain ⟨h1, h2⟩ := and2 h
  have h3 := fit0 h2
  simp only [TB.rest, List.mem_cons, List.not_mem_nil, or_false, forall_eq_or_imp, forall_eq, List.length_nil] at h3
  obtain ⟨z1, z2, z3, z4, z5, z6, z7, z8, z9, z10, z11, z12, z13, z14, z15, z16, z17⟩ := h3
  try subst z4
  try subst z7
  try subst z9
  try subst z10
  try subst z11
  try obtain rfl := nil_of0 z13
  try obtain rfl := nil_of0 z14
  exact ⟨rfl, h1⟩
theorem may_32 {B : TB} (hid : B.id = 32) (h : mayB B = true) : B = ({ id := 32, pause := B.pause } : TB) ∧ (fitS 65535 [B.pause]) = true := by
  obtain ⟨n0, n1, n2, n3, n4, n5, n6, n7, n8, n9, n10, n11, D, T, I, P, S, R⟩ := B
  simp only at hid
  subst hid
  have e : sndB ⟨32, n1, n2, n3, n4, n5, n6, n7, n8, n9, n10, n11, D, T, I, P, S, R⟩ = (fitS 65535 [n1], ⟨32, 0, n2, n3, n4, n5, n6, n7, n8, n9, n10, n11, D, T, I, P, S, R⟩) := by simp only [sndB]; simp
  unfold mayB at h
  rw [e] at h
  obtain ⟨h1, h2⟩ := and2 h
  have h3 := fit0 h2
  simp only [TB.rest, List.mem_cons, List.not_mem_nil, or_false, forall_eq_or_imp, forall_eq, List.length_nil] at h3
  obtain ⟨z1, z2, z3, z4, z5, z6, z7, z8, z9, z10, z11, z12, z13, z14, z15, z16, z17⟩ := h3
  try subst z2
  try subst z3
  try subst z4
  try subst z5
  try subst z6
  try subst z7
  try subst z8
  try subst z9
  try subst z10
  try subst z11
  try obtain rfl := nil_of0 z12
  try obtain rfl := nil_of0 z13
  try obtain rfl := nil_of0 z14
  try obtain rfl := nil_of0 z15
  try obtain rfl := nil_of0 z16
  try obtain rfl := nil_of0 z17
  exact ⟨rfl, h1⟩
theorem may_34 {B : TB} (hid : B.id = 34) (h : mayB B = true) : B = ({ id := 34 } : TB) ∧ (true) = true := by
  obtain ⟨n0, n1, n2, n3, n4, n5, n6, n7, n8, n9, n10, n11, D, T, I, P, S, R⟩ := B
  simp only at hid
  subst hid
  have e : sndB ⟨34, n1, n2, n3, n4, n5, n6, n7, n8, n9, n10, n11, D, T, I, P, S, R⟩ = (true, ⟨34, n1, n2, n3, n4, n5, n6, n7, n8, n9, n10, n11, D, T, I, P, S, R⟩) := by simp only [sndB, othB]; simp
  unfold mayB at h
  rw [e] at h
  obtain ⟨h1, h2⟩ := and2 h
  have h3 := fit0 h2
  simp only [TB.rest, List.mem_cons, List.not_mem_nil, or_false, forall_eq_or_imp, forall_eq, List.length_nil] at h3
  obtain ⟨z1, z2, z3, z4, z5, z6, z7, z8, z9, z10, z11, z12, z13, z14, z15, z16, z17⟩ := h3
  try subst z1
  try subst z2
  try subst z3
  try subst z4
  try subst z5
  try subst z6
  try subst z7
  try subst z8
  try subst z9
  try subst z10
  try subst z11
  try obtain rfl := nil_of0 z12
  try obtain rfl := nil_of0 z13
  try obtain rfl := nil_of0 z14
  try obtain rfl := nil_of0 z15
  try obtain rfl := nil_of0 z16
  try obtain rfl := nil_of0 z17
  exact ⟨rfl, h1⟩
theorem may_37 {B : TB} (hid : B.id = 37) (h : mayB B = true) : B = ({ id := 37 } : TB) ∧ (true) = true := by
  obtain ⟨n0, n1, n2, n3, n4, n5, n6, n7, n8, n9, n10, n11, D, T, I, P, S, R⟩ := B
  simp only at hid
  subst hid
  have e : sndB ⟨37, n1, n2, n3, n4, n5, n6, n7, n8, n9, n10, n11, D, T, I, P, S, R⟩ = (true, ⟨37, n1, n2, n3, n4, n5, n6, n7, n8, n9, n10, n11, D, T, I, P, S, R⟩) := by simp only [sndB, othB]; simp
  unfold mayB at h
  rw [e] at h
  obtain ⟨h1, h2⟩ := and2 h
  have h3 := fit0 h2
  simp only [TB.rest, List.mem_cons, List.not_mem_nil, or_false, forall_eq_or_imp, forall_eq, List.length_nil] at h3
  obtain ⟨z1, z2, z3, z4, z5, z6, z7, z8, z9, z10, z11, z12, z13, z14, z15, z16, z17⟩ := h3
  try subst z1
  try subst z2
  try subst z3
  try subst z4
  try subst z5
  try subst z6
  try subst z7
  try subst z8
  try subst z9
  try subst z10
  try subst z11
  try obtain rfl := nil_of0 z12
  try obtain rfl := nil_of0 z13
  try obtain rfl := nil_of0 z14
  try obtain rfl := nil_of0 z15
  try obtain rfl := nil_of0 z16
  try obtain rfl := nil_of0 z17
  exact ⟨rfl, h1⟩
theorem may_39 {B : TB} (hid : B.id = 39) (h : mayB B = true) : B = ({ id := 39 } : TB) ∧ (true) = true := by
  obtain ⟨n0, n1, n2, n3, n4, n5, n6, n7, n8, n9, n10, n11, D, T, I, P, S, R⟩ := B
  simp only at hid
  subst hid
  have e : sndB ⟨39, n1, n2, n3, n4, n5, n6, n7, n8, n9, n10, n11, D, T, I, P, S, R⟩ = (true, ⟨39, n1, n2, n3, n4, n5, n6, n7, n8, n9, n10, n11, D, T, I, P, S, R⟩) := by simp only [sndB, othB]; simp
  unfold mayB at h
  rw [e] at h
  obtain ⟨h1, h2⟩ := and2 h
  have h3 := fit0 h2
  simp only [TB.rest, List.mem_cons, List.not_mem_nil, or_false, forall_eq_or_imp, forall_eq, List.length_nil] at h3
  obtain ⟨z1, z2, z3, z4, z5, z6, z7, z8, z9, z10, z11, z12, z13, z14, z15, z16, z17⟩ := h3
  try subst z1
  try subst z2
  try subst z3
  try subst z4
  try subst z5
  try subst z6
  try subst z7
  try subst z8
  try subst z9
  try subst z10
  try subst z11
  try obtain rfl := nil_of0 z12
  try obtain rfl := nil_of0 z13
  try obtain rfl := nil_of0 z14
  try obtain rfl := nil_of0 z15
  try obtain rfl := nil_of0 z16
  try obtain rfl := nil_of0 z17
  exact ⟨rfl, h1⟩
theorem may_42 {B : TB} (hid : B.id = 42) (h : mayB B = true) : B = ({ id := 42 } : TB) ∧ (true) = true := by
  obtain ⟨n0, n1, n2, n3, n4, n5, n6, n7, n8, n9, n10, n11, D, T, I, P, S, R⟩ := B
  simp only at hid
  subst hid
  have e : sndB ⟨42, n1, n2, n3, n4, n5, n6, n7, n8, n9, n10, n11, D, T, I, P, S, R⟩ = (true, ⟨42, n1, n2, n3, n4, n5, n6, n7, n8, n9, n10, n11, D, T, I, P, S, R⟩) := by simp only [sndB, othB]; simp
  unfold mayB at h
  rw [e] at h
  obtain ⟨h1, h2⟩ := and2 h
  have h3 := fit0 h2
  simp only [TB.rest, List.mem_cons, List.not_mem_nil, or_false, forall_eq_or_imp, forall_eq, List.length_nil] at h3
  obtain ⟨z1, z2, z3, z4, z5, z6, z7, z8, z9, z10, z11, z12, z13, z14, z15, z16, z17⟩ := h3
  try subst z1
  try subst z2
  try subst z3
  try subst z4
  try subst z5
  try subst z6
  try subst z7
  try subst z8
  try subst z9
  try subst z10
  try subst z11
  try obtain rfl := nil_of0 z12
  try obtain rfl := nil_of0 z13
  try obtain rfl := nil_of0 z14
  try obtain rfl := nil_of0 z15
  try obtain rfl := nil_of0 z16
  try obtain rfl := nil_of0 z17
  exact ⟨rfl, h1⟩
theorem may_33 {B : TB} (hid : B.id = 33) (h : mayB B = true) : B = ({ id := 33, data := B.data } : TB) ∧ (fitS 255 [(B.data.length : Int)]) = true := by
  obtain ⟨n0, n1, n2, n3, n4, n5, n6, n7, n8, n9, n10, n11, D, T, I, P, S, R⟩ := B
  simp only at hid
  subst hid
  have e : sndB ⟨33, n1, n2, n3, n4, n5, n6, n7, n8, n9, n10, n11, D, T, I, P, S, R⟩ = (fitS 255 [(D.length : Int)], ⟨33, n1, n2, n3, n4, n5, n6, n7, n8, n9, n10, n11, [], T, I, P, S, R⟩) := by simp only [sndB, othB]; simp
  unfold mayB at h
  rw [e] at h
  obtain ⟨h1, h2⟩ := and2 h
  have h3 := fit0 h2
  simp only [TB.rest, List.mem_cons, List.not_mem_nil, or_false, forall_eq_or_imp, forall_eq, List.length_nil] at h3
  obtain ⟨z1, z2, z3, z4, z5, z6, z7, z8, z9, z10, z11, z12, z13, z14, z15, z16, z17⟩ := h3
  try subst z1
  try subst z2
  try subst z3
  try subst z4
  try subst z5
  try subst z6
  try subst z7
  try subst z8
  try subst z9
  try subst z10
  try subst z11
  try obtain rfl := nil_of0 z13
  try obtain rfl := nil_of0 z14
  try obtain rfl := nil_of0 z15
  try obtain rfl := nil_of0 z16
  try obtain rfl := nil_of0 z17
  exact ⟨rfl, h1⟩
theorem may_48 {B : TB} (hid : B.id = 48) (h : mayB B = true) : B = ({ id := 48, data := B.data } : TB) ∧ (fitS 255 [(B.data.length : Int)]) = true := by
  obtain ⟨n0, n1, n2, n3, n4, n5, n6, n7, n8, n9, n10, n11, D, T, I, P, S, R⟩ := B
  simp only at hid
  subst hid
  have e : sndB ⟨48, n1, n2, n3, n4, n5, n6, n7, n8, n9, n10, n11, D, T, I, P, S, R⟩ = (fitS 255 [(D.length : Int)], ⟨48, n1, n2, n3, n4, n5, n6, n7, n8, n9, n10, n11, [], T, I, P, S, R⟩) := by simp only [sndB, othB]; simp
  unfold mayB at h
  rw [e] at h
  obtain ⟨h1, h2⟩ := and2 h
  have h3 := fit0 h2
  simp only [TB.rest, List.mem_cons, List.not_mem_nil, or_false, forall_eq_or_imp, forall_eq, List.length_nil] at h3
  obtain ⟨z1, z2, z3, z4, z5, z6, z7, z8, z9, z10, z11, z12, z13, z14, z15, z16, z17⟩ := h3
  try subst z1
  try subst z2
  try subst z3
  try subst z4
  try subst z5
  try subst z6
  try subst z7
  try subst z8
  try subst z9
  try subst z10
  try subst z11
  try obtain rfl := nil_of0 z13
  try obtain rfl := nil_of0 z14
  try obtain rfl := nil_of0 z15
  try obtain rfl := nil_of0 z16
  try obtain rfl := nil_of0 z17
  exact ⟨rfl, h1⟩
theorem may_35 {B : TB} (hid : B.id = 35) (h : mayB B = true) : B = ({ id := 35, times := B.times } : TB) ∧ (decide ((B.times.length : Int) = 1) && stepS B.times) = true := by
  obtain ⟨n0, n1, n2, n3, n4, n5, n6, n7, n8, n9, n10, n11, D, T, I, P, S, R⟩ := B
  simp only at hid
  subst hid
  have e : sndB ⟨35, n1, n2, n3, n4, n5, n6, n7, n8, n9, n10, n11, D, T, I, P, S, R⟩ = (decide ((T.length : Int) = 1) && stepS T, ⟨35, n1, n2, n3, n4, n5, n6, n7, n8, n9, n10, n11, D, [], I, P, S, R⟩) := by simp only [sndB, othB]; simp
  unfold mayB at h
  rw [e] at h
  obtain ⟨h1, h2⟩ := and2 h
  have h3 := fit0 h2
  simp only [TB.rest, List.mem_cons, List.not_mem_nil, or_false, forall_eq_or_imp, forall_eq, List.length_nil] at h3
  obtain ⟨z1, z2, z3, z4, z5, z6, z7, z8, z9, z10, z11, z12, z13, z14, z15, z16, z17⟩ := h3
  try subst z1
  try subst z2
  try subst z3
  try subst z4
  try subst z5
  try subst z6
  try subst z7
  try subst z8
  try subst z9
  try subst z10
  try subst z11
  try obtain rfl := nil_of0 z12
  try obtain rfl := nil_of0 z14
  try obtain rfl := nil_of0 z15
  try obtain rfl := nil_of0 z16
  try obtain rfl := nil_of0 z17
  exact ⟨rfl, h1⟩
theorem may_36 {B : TB} (hid : B.id = 36) (h : mayB B = true) : B = ({ id := 36, count := B.count } : TB) ∧ (fitS 65535 [B.count]) = true := by
  obtain ⟨n0, n1, n2, n3, n4, n5, n6, n7, n8, n9, n10, n11, D, T, I, P, S, R⟩ := B
  simp only at hid
  subst hid
  have e : sndB ⟨36, n1, n2, n3, n4, n5, n6, n7, n8, n9, n10, n11, D, T, I, P, S, R⟩ = (fitS 65535 [n8], ⟨36, n1, n2, n3, n4, n5, n6, n7, 0, n9, n10, n11, D, T, I, P, S, R⟩) := by simp only [sndB, othB]; simp
  unfold mayB at h
  rw [e] at h
  obtain ⟨h1, h2⟩ := and2 h
  have h3 := fit0 h2
  simp only [TB.rest, List.mem_cons, List.not_mem_nil, or_false, forall_eq_or_imp, forall_eq, List.length_nil] at h3
  obtain ⟨z1, z2, z3, z4, z5, z6, z7, z8, z9, z10, z11, z12, z13, z14, z15, z16, z17⟩ := h3
  try subst z1
  try subst z2
  try subst z3
  try subst z4
  try subst z5
  try subst z6
  try subst z7
  try subst z9
  try subst z10
  try subst z11
  try obtain rfl := nil_of0 z12
  try obtain rfl := nil_of0 z13
  try obtain rfl := nil_of0 z14
  try obtain rfl := nil_of0 z15
  try obtain rfl := nil_of0 z16
  try obtain rfl := nil_of0 z17
  exact ⟨rfl, h1⟩
theorem may_38 {B : TB} (hid : B.id = 38) (h : mayB B = true) : B = ({ id := 38, times := B.times } : TB) ∧ (fitS 65535 [(B.times.length : Int)] && stepS B.times) = true := by
  obtain ⟨n0, n1, n2, n3, n4, n5, n6, n7, n8, n9, n10, n11, D, T, I, P, S, R⟩ := B
  simp only at hid
  subst hid
  have e : sndB ⟨38, n1, n2, n3, n4, n5, n6, n7, n8, n9, n10, n11, D, T, I, P, S, R⟩ = (fitS 65535 [(T.length : Int)] && stepS T, ⟨38, n1, n2, n3, n4, n5, n6, n7, n8, n9, n10, n11, D, [], I, P, S, R⟩) := by simp only [sndB, othB]; simp
  unfold mayB at h
  rw [e] at h
  obtain ⟨h1, h2⟩ := and2 h
  have h3 := fit0 h2
  simp only [TB.rest, List.mem_cons, List.not_mem_nil, or_false, forall_eq_or_imp, forall_eq, List.length_nil] at h3
  obtain ⟨z1, z2, z3, z4, z5, z6, z7, z8, z9, z10, z11, z12, z13, z14, z15, z16, z17⟩ := h3
  try subst z1
  try subst z2
  try subst z3
  try subst z4
  try subst z5
  try subst z6
  try subst z7
  try subst z8
  try subst z9
  try subst z10
  try subst z11
  try obtain rfl := nil_of0 z12
  try obtain rfl := nil_of0 z14
  try obtain rfl := nil_of0 z15
  try obtain rfl := nil_of0 z16
  try obtain rfl := nil_of0 z17
  exact ⟨rfl, h1⟩
theorem may_40 {B : TB} (hid : B.id = 40) (h : mayB B = true) : B = ({ id := 40, items := B.items } : TB) ∧ (itemsB 40 B.items) = true := by
  obtain ⟨n0, n1, n2, n3, n4, n5, n6, n7, n8, n9, n10, n11, D, T, I, P, S, R⟩ := B
  simp only at hid
  subst hid
  have e : sndB ⟨40, n1, n2, n3, n4, n5, n6, n7, n8, n9, n10, n11, D, T, I, P, S, R⟩ = (itemsB 40 I, ⟨40, n1, n2, n3, n4, n5, n6, n7, n8, n9, n10, n11, D, T, [], P, S, R⟩) := by simp only [sndB, othB]; simp
  unfold mayB at h
  rw [e] at h
  obtain ⟨h1, h2⟩ := and2 h
  have h3 := fit0 h2
  simp only [TB.rest, List.mem_cons, List.not_mem_nil, or_false, forall_eq_or_imp, forall_eq, List.length_nil] at h3
  obtain ⟨z1, z2, z3, z4, z5, z6, z7, z8, z9, z10, z11, z12, z13, z14, z15, z16, z17⟩ := h3
  try subst z1
  try subst z2
  try subst z3
  try subst z4
  try subst z5
  try subst z6
  try subst z7
  try subst z8
  try subst z9
  try subst z10
  try subst z11
  try obtain rfl := nil_of0 z12
  try obtain rfl := nil_of0 z13
  try obtain rfl := nil_of0 z15
  try obtain rfl := nil_of0 z16
  try obtain rfl := nil_of0 z17
  exact ⟨rfl, h1⟩
theorem may_50 {B : TB} (hid : B.id = 50) (h : mayB B = true) : B = ({ id := 50, items := B.items } : TB) ∧ (itemsB 50 B.items) = true := by
  obtain ⟨n0, n1, n2, n3, n4, n5, n6, n7, n8, n9, n10, n11, D, T, I, P, S, R⟩ := B
  simp only at hid
  subst hid
  have e : sndB ⟨50, n1, n2, n3, n4, n5, n6, n7, n8, n9, n10, n11, D, T, I, P, S, R⟩ = (itemsB 50 I, ⟨50, n1, n2, n3, n4, n5, n6, n7, n8, n9, n10, n11, D, T, [], P, S, R⟩) := by simp only [sndB, othB]; simp
  unfold mayB at h
  rw [e] at h
  obtain ⟨h1, h2⟩ := and2 h
  have h3 := fit0 h2
  simp only [TB.rest, List.mem_cons, List.not_mem_nil, or_false, forall_eq_or_imp, forall_eq, List.length_nil] at h3
  obtain ⟨z1, z2, z3, z4, z5, z6, z7, z8, z9, z10, z11, z12, z13, z14, z15, z16, z17⟩ := h3
  try subst z1
  try subst z2
  try subst z3
  try subst z4
  try subst z5
  try subst z6
  try subst z7
  try subst z8
  try subst z9
  try subst z10
  try subst z11
  try obtain rfl := nil_of0 z12
  try obtain rfl := nil_of0 z13
  try obtain rfl := nil_of0 z15
  try obtain rfl := nil_of0 z16
  try obtain rfl := nil_of0 z17
  exact ⟨rfl, h1⟩
theorem may_43 {B : TB} (hid : B.id = 43) (h : mayB B = true) : B = ({ id := 43, used := B.used } : TB) ∧ (fitS 1 [B.used]) = true := by
  obtain ⟨n0, n1, n2, n3, n4, n5, n6, n7, n8, n9, n10, n11, D, T, I, P, S, R⟩ := B
  simp only at hid
  subst hid
  have e : sndB ⟨43, n1, n2, n3, n4, n5, n6, n7, n8, n9, n10, n11, D, T, I, P, S, R⟩ = (fitS 1 [n9], ⟨43, n1, n2, n3, n4, n5, n6, n7, n8, 0, n10, n11, D, T, I, P, S, R⟩) := by simp only [sndB, othB]; simp
  unfold mayB at h
  rw [e] at h
  obtain ⟨h1, h2⟩ := and2 h
  have h3 := fit0 h2
  simp only [TB.rest, List.mem_cons, List.not_mem_nil, or_false, forall_eq_or_imp, forall_eq, List.length_nil] at h3
  obtain ⟨z1, z2, z3, z4, z5, z6, z7, z8, z9, z10, z11, z12, z13, z14, z15, z16, z17⟩ := h3
  try subst z1
  try subst z2
  try subst z3
  try subst z4
  try subst z5
  try subst z6
  try subst z7
  try subst z8
  try subst z10
  try subst z11
  try obtain rfl := nil_of0 z12
  try obtain rfl := nil_of0 z13
  try obtain rfl := nil_of0 z14
  try obtain rfl := nil_of0 z15
  try obtain rfl := nil_of0 z16
  try obtain rfl := nil_of0 z17
  exact ⟨rfl, h1⟩
theorem may_49 {B : TB} (hid : B.id = 49) (h : mayB B = true) : B = ({ id := 49, count := B.count, data := B.data } : TB) ∧ (fitS 255 [B.count, (B.data.length : Int)]) = true := by
  obtain ⟨n0, n1, n2, n3, n4, n5, n6, n7, n8, n9, n10, n11, D, T, I, P, S, R⟩ := B
  simp only at hid
  subst hid
  have e : sndB ⟨49, n1, n2, n3, n4, n5, n6, n7, n8, n9, n10, n11, D, T, I, P, S, R⟩ = (fitS 255 [n8, (D.length : Int)], ⟨49, n1, n2, n3, n4, n5, n6, n7, 0, n9, n10, n11, [], T, I, P, S, R⟩) := by simp only [sndB, othB]; simp
  unfold mayB at h
  rw [e] at h
  obtain ⟨h1, h2⟩ := and2 h
  have h3 := fit0 h2
  simp only [TB.rest, List.mem_cons, List.not_mem_nil, or_false, forall_eq_or_imp, forall_eq, List.length_nil] at h3
  obtain ⟨z1, z2, z3, z4, z5, z6, z7, z8, z9, z10, z11, z12, z13, z14, z15, z16, z17⟩ := h3
  try subst z1
  try subst z2
  try subst z3
  try subst z4
  try subst z5
  try subst z6
  try subst z7
  try subst z9
  try subst z10
  try subst z11
  try obtain rfl := nil_of0 z13
  try obtain rfl := nil_of0 z14
  try obtain rfl := nil_of0 z15
  try obtain rfl := nil_of0 z16
  try obtain rfl := nil_of0 z17
  exact ⟨rfl, h1⟩
theorem may_51 {B : TB} (hid : B.id = 51) (h : mayB B = true) : B = ({ id := 51, times := B.times } : TB) ∧ (fitS 765 [(B.times.length : Int)] && (decide ((B.times.length : Int) % 3 = 0) && fitS 255 B.times)) = true := by
  obtain ⟨n0, n1, n2, n3, n4, n5, n6, n7, n8, n9, n10, n11, D, T, I, P, S, R⟩ := B
  simp only at hid
  subst hid
  have e : sndB ⟨51, n1, n2, n3, n4, n5, n6, n7, n8, n9, n10, n11, D, T, I, P, S, R⟩ = (fitS 765 [(T.length : Int)] && (decide ((T.length : Int) % 3 = 0) && fitS 255 T), ⟨51, n1, n2, n3, n4, n5, n6, n7, n8, n9, n10, n11, D, [], I, P, S, R⟩) := by simp only [sndB, othB]; simp
  unfold mayB at h
  rw [e] at h
  obtain ⟨h1, h2⟩ := and2 h
  have h3 := fit0 h2
  simp only [TB.rest, List.mem_cons, List.not_mem_nil, or_false, forall_eq_or_imp, forall_eq, List.length_nil] at h3
  obtain ⟨z1, z2, z3, z4, z5, z6, z7, z8, z9, z10, z11, z12, z13, z14, z15, z16, z17⟩ := h3
  try subst z1
  try subst z2
  try subst z3
  try subst z4
  try subst z5
  try subst z6
  try subst z7
  try subst z8
  try subst z9
  try subst z10
  try subst z11
  try obtain rfl := nil_of0 z12
  try obtain rfl := nil_of0 z14
  try obtain rfl := nil_of0 z15
  try obtain rfl := nil_of0 z16
  try obtain rfl := nil_of0 z17
  exact ⟨rfl, h1⟩
theorem may_52 {B : TB} (hid : B.id = 52) (h : mayB B = true) : B = ({ id := 52, data := B.data } : TB) ∧ (decide ((B.data.length : Int) = 8)) = true := by
  obtain ⟨n0, n1, n2, n3, n4, n5, n6, n7, n8, n9, n10, n11, D, T, I, P, S, R⟩ := B
  simp only at hid
  subst hid
  have e : sndB ⟨52, n1, n2, n3, n4, n5, n6, n7, n8, n9, n10, n11, D, T, I, P, S, R⟩ = (decide ((D.length : Int) = 8), ⟨52, n1, n2, n3, n4, n5, n6, n7, n8, n9, n10, n11, [], T, I, P, S, R⟩) := by simp only [sndB, othB]; simp
  unfold mayB at h
  rw [e] at h
  obtain ⟨h1, h2⟩ := and2 h
  have h3 := fit0 h2
  simp only [TB.rest, List.mem_cons, List.not_mem_nil, or_false, forall_eq_or_imp, forall_eq, List.length_nil] at h3
  obtain ⟨z1, z2, z3, z4, z5, z6, z7, z8, z9, z10, z11, z12, z13, z14, z15, z16, z17⟩ := h3
  try subst z1
  try subst z2
  try subst z3
  try subst z4
  try subst z5
  try subst z6
  try subst z7
  try subst z8
  try subst z9
  try subst z10
  try subst z11
  try obtain rfl := nil_of0 z13
  try obtain rfl := nil_of0 z14
  try obtain rfl := nil_of0 z15
  try obtain rfl := nil_of0 z16
  try obtain rfl := nil_of0 z17
  exact ⟨rfl, h1⟩
theorem may_53 {B : TB} (hid : B.id = 53) (h : mayB B = true) : B = ({ id := 53, data := B.data, items := B.items } : TB) ∧ (ok53 B) = true := by
  obtain ⟨n0, n1, n2, n3, n4, n5, n6, n7, n8, n9, n10, n11, D, T, I, P, S, R⟩ := B
  simp only at hid
  subst hid
  have e : sndB ⟨53, n1, n2, n3, n4, n5, n6, n7, n8, n9, n10, n11, D, T, I, P, S, R⟩ = (ok53 ⟨53, n1, n2, n3, n4, n5, n6, n7, n8, n9, n10, n11, D, T, I, P, S, R⟩, ⟨53, n1, n2, n3, n4, n5, n6, n7, n8, n9, n10, n11, [], T, [], P, S, R⟩) := by simp only [sndB, othB]; simp
  unfold mayB at h
  rw [e] at h
  obtain ⟨h1, h2⟩ := and2 h
  have h3 := fit0 h2
  simp only [TB.rest, List.mem_cons, List.not_mem_nil, or_false, forall_eq_or_imp, forall_eq, List.length_nil] at h3
  obtain ⟨z1, z2, z3, z4, z5, z6, z7, z8, z9, z10, z11, z12, z13, z14, z15, z16, z17⟩ := h3
  try subst z1
  try subst z2
  try subst z3
  try subst z4
  try subst z5
  try subst z6
  try subst z7
  try subst z8
  try subst z9
  try subst z10
  try subst z11
  try obtain rfl := nil_of0 z13
  try obtain rfl := nil_of0 z15
  try obtain rfl := nil_of0 z16
  try obtain rfl := nil_of0 z17
  exact ⟨rfl, h1⟩
theorem may_90 {B : TB} (hid : B.id = 90) (h : mayB B = true) : B = ({ id := 90, data := B.data } : TB) ∧ (ok90 B) = true := by
  obtain ⟨n0, n1, n2, n3, n4, n5, n6, n7, n8, n9, n10, n11, D, T, I, P, S, R⟩ := B
  simp only at hid
  subst hid
  have e : sndB ⟨90, n1, n2, n3, n4, n5, n6, n7, n8, n9, n10, n11, D, T, I, P, S, R⟩ = (ok90 ⟨90, n1, n2, n3, n4, n5, n6, n7, n8, n9, n10, n11, D, T, I, P, S, R⟩, ⟨90, n1, n2, n3, n4, n5, n6, n7, n8, n9, n10, n11, [], T, I, P, S, R⟩) := by simp only [sndB, othB]; simp
  unfold mayB at h
  rw [e] at h
  obtain ⟨h1, h2⟩ := and2 h
  have h3 := fit0 h2
  simp only [TB.rest, List.mem_cons, List.not_mem_nil, or_false, forall_eq_or_imp, forall_eq, List.length_nil] at h3
  obtain ⟨z1, z2, z3, z4, z5, z6, z7, z8, z9, z10, z11, z12, z13, z14, z15, z16, z17⟩ := h3
  try subst z1
  try subst z2
  try subst z3
  try subst z4
  try subst z5
  try subst z6
  try subst z7
  try subst z8
  try subst z9
  try subst z10
  try subst z11
  try obtain rfl := nil_of0 z13
  try obtain rfl := nil_of0 z14
  try obtain rfl := nil_of0 z15
  try obtain rfl := nil_of0 z16
  try obtain rfl := nil_of0 z17
  exact ⟨rfl, h1⟩
theorem may_def {B : TB} (hid : ∀ k ∈ ([16, 17, 18, 19, 20, 21, 24, 25, 32, 34, 37, 39, 42, 33, 48, 35, 36, 38, 40, 50, 43, 49, 51, 52, 53, 90] : List Int), B.id ≠ k) (h : mayB B = true) : B = ({ id := B.id, data := B.data } : TB) ∧ fitS 1048576 [(B.data.length : Int)] = true := by
  obtain ⟨n0, n1, n2, n3, n4, n5, n6, n7, n8, n9, n10, n11, D, T, I, P, S, R⟩ := B
  simp only [List.mem_cons, List.not_mem_nil, or_false, forall_eq_or_imp, forall_eq] at hid
  have e : sndB ⟨n0, n1, n2, n3, n4, n5, n6, n7, n8, n9, n10, n11, D, T, I, P, S, R⟩ = (fitS 1048576 [(D.length : Int)], ⟨n0, n1, n2, n3, n4, n5, n6, n7, n8, n9, n10, n11, [], T, I, P, S, R⟩) := by simp only [sndB, othB]; simp only [hid, if_false]
  unfold mayB at h
  rw [e] at h
  obtain ⟨h1, h2⟩ := and2 h
  have h3 := fit0 h2
  simp only [TB.rest, List.mem_cons, List.not_mem_nil, or_false, forall_eq_or_imp, forall_eq, List.length_nil] at h3
  obtain ⟨z1, z2, z3, z4, z5, z6, z7, z8, z9, z10, z11, z12, z13, z14, z15, z16, z17⟩ := h3
  subst z1
  subst z2
  subst z3
  subst z4
  subst z5
  subst z6
  subst z7
  subst z8
  subst z9
  subst z10
  subst z11
  obtain rfl := nil_of0 z13
  obtain rfl := nil_of0 z14
  obtain rfl := nil_of0 z15
  obtain rfl := nil_of0 z16
  obtain rfl := nil_of0 z17
  exact ⟨rfl, h1⟩
theorem may_id {B : TB} (h : mayB B = true) : 0 ≤ B.id ∧ B.id ≤ 255 := by
  unfold mayB at h
  rw [Bool.and_eq_true] at h
  exact fit_one h.1
end Go.Proofs.Ytokidpajialgbaa
