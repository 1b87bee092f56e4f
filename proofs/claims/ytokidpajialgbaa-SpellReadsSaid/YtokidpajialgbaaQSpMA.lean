/- spell.other and spell.sound, over any block. Written by gen_spm.py. -/
import Derived.Test.YtokidpajialgbaaQSpGA
import Derived.Test.YtokidpajialgbaaQSpX
import Derived.Test.YtokidpajialgbaaQSpXA
import Derived.Test.YtokidpajialgbaaQSpXB
import Derived.Test.YtokidpajialgbaaQG27
import Derived.Test.YtokidpajialgbaaQSpU
import Derived.Test.YtokidpajialgbaaQSpZ
namespace Go.Proofs.Ytokidpajialgbaa
set_option linter.unusedSimpArgs false
set_option linter.unusedVariables false
open Go.RowKit
def ok53 (B : TB) : Bool := match B.items with
  | [(x, t)] => decide (x = 0) && (decide ((t.length : Int) = 16) && fitS 1048576 [(B.data.length : Int)])
  | _ => false
def ok90 (B : TB) : Bool := decide ((B.data.length : Int) = 9) && decide (B.data.take 7 = glueL)
theorem RowV.nil (w : World) (k : IntKind) : RowV w k (.slice none 0 0) [] := ⟨none, 0, rfl, fun i v hi => by simp at hi, Nat.le_refl _, Nat.zero_le _, fun x hx => by simp at hx⟩
theorem PairsV.nil (w : World) (k : IntKind) : PairsV w k (.slice none 0 0) [] := ⟨none, 0, rfl, Nat.le_refl _, Nat.zero_le _, fun i x hx => by simp at hx⟩
theorem RepsV.nil (w : World) : RepsV w (.slice none 0 0) [] := ⟨none, 0, rfl, Nat.le_refl _, Nat.zero_le _, fun i x hx => by simp at hx⟩
theorem wf0 : (Lit.int .i64 0).wf = true := by decide
theorem TBV.mk2 {w : World} {n0 n1 n2 n3 n4 n5 n6 n7 n8 n9 n10 n11 : Int} {d t i p s r : Value} {D T : List Int} {I P S : List (Int × List Int)} {R : List (Int × Int)}
    (h0 : (Lit.int .i64 n0).wf = true) (h1 : (Lit.int .i64 n1).wf = true) (h2 : (Lit.int .i64 n2).wf = true) (h3 : (Lit.int .i64 n3).wf = true) (h4 : (Lit.int .i64 n4).wf = true) (h5 : (Lit.int .i64 n5).wf = true) (h6 : (Lit.int .i64 n6).wf = true) (h7 : (Lit.int .i64 n7).wf = true) (h8 : (Lit.int .i64 n8).wf = true) (h9 : (Lit.int .i64 n9).wf = true) (h10 : (Lit.int .i64 n10).wf = true) (h11 : (Lit.int .i64 n11).wf = true)
    (hd : RowV w .u8 d D) (ht : RowV w .i64 t T) (hi : PairsV w .u8 i I) (hp : PairsV w .i64 p P) (hs : PairsV w .i64 s S) (hr : RepsV w r R) :
    TBV w [.int .i64 n0, .int .i64 n1, .int .i64 n2, .int .i64 n3, .int .i64 n4, .int .i64 n5, .int .i64 n6, .int .i64 n7, .int .i64 n8, .int .i64 n9, .int .i64 n10, .int .i64 n11, d, t, i, p, s, r] ⟨n0, n1, n2, n3, n4, n5, n6, n7, n8, n9, n10, n11, D, T, I, P, S, R⟩ := by
  refine ⟨fun x hx => ?_, d, t, i, p, s, r, rfl, hd, ht, hi, hp, hs, hr⟩
  simp only [TB.nums, List.mem_cons, List.not_mem_nil, or_false] at hx
  rcases hx with rfl | rfl | rfl | rfl | rfl | rfl | rfl | rfl | rfl | rfl | rfl | rfl <;> assumption
theorem TBV.one2 {w : World} {cs : List Value} {B : TB} (h : TBV w cs B) : cs.toArray.all (·.oneCell') = true := by
  obtain ⟨_, d, t, i, p, s, r, rfl, ⟨_, _, rfl, _⟩, ⟨_, _, rfl, _⟩, ⟨_, _, rfl, _⟩, ⟨_, _, rfl, _⟩, ⟨_, _, rfl, _⟩, ⟨_, _, rfl, _⟩⟩ := h
  simp only [TB.cells]; simp; repeat' (first | rfl | constructor)
def othB (B : TB) : Bool × TB :=
  if B.id = 34 then (true, B) else
  if B.id = 37 then (true, B) else
  if B.id = 39 then (true, B) else
  if B.id = 42 then (true, B) else
  if B.id = 33 then (fitS 255 [(B.data.length : Int)], { B with data := [] }) else
  if B.id = 48 then (fitS 255 [(B.data.length : Int)], { B with data := [] }) else
  if B.id = 35 then (decide ((B.times.length : Int) = 1) && stepS B.times, { B with times := [] }) else
  if B.id = 36 then (fitS 65535 [B.count], { B with count := 0 }) else
  if B.id = 38 then (fitS 65535 [(B.times.length : Int)] && stepS B.times, { B with times := [] }) else
  if B.id = 40 then (itemsB 40 B.items, { B with items := [] }) else
  if B.id = 50 then (itemsB 50 B.items, { B with items := [] }) else
  if B.id = 43 then (fitS 1 [B.used], { B with used := 0 }) else
  if B.id = 49 then (fitS 255 [B.count, (B.data.length : Int)], { B with count := 0, data := [] }) else
  if B.id = 51 then (fitS 765 [(B.times.length : Int)] && (decide ((B.times.length : Int) % 3 = 0) && fitS 255 B.times), { B with times := [] }) else
  if B.id = 52 then (decide ((B.data.length : Int) = 8), { B with data := [] }) else
  if B.id = 53 then (ok53 B, { B with items := [], data := [] }) else
  if B.id = 90 then (ok90 B, { B with data := [] }) else
  (fitS 1048576 [(B.data.length : Int)], { B with data := [] })
def sndB (B : TB) : Bool × TB :=
  if B.id = 16 then (fitS 65535 [B.pause, (B.data.length : Int)], { B with pause := 0, data := [] }) else
  if B.id = 17 then (fitS 65535 [B.pause, B.pilot, B.sync1, B.sync2, B.zero, B.one, B.count] && (fitS 255 [B.used] && fitS 16777215 [(B.data.length : Int)]), { B with id := 0, pause := 0, pilot := 0, sync1 := 0, sync2 := 0, zero := 0, one := 0, count := 0, used := 0, data := [] }) else
  if B.id = 18 then (fitS 65535 [B.tone, B.count], { B with tone := 0, count := 0 }) else
  if B.id = 19 then (fitS 255 [(B.times.length : Int)] && fitS 65535 B.times, { B with times := [] }) else
  if B.id = 20 then (fitS 65535 [B.pause, B.zero, B.one] && (fitS 255 [B.used] && fitS 16777215 [(B.data.length : Int)]), { B with pause := 0, zero := 0, one := 0, used := 0, data := [] }) else
  if B.id = 21 then (fitS 65535 [B.pause, B.rate] && (fitS 255 [B.used] && fitS 16777215 [(B.data.length : Int)]), { B with pause := 0, rate := 0, used := 0, data := [] }) else
  if B.id = 24 then (fitS 65535 [B.pause] && (fitS 16777215 [B.rate] && (fitS 255 [B.pack] && (fitS 4294967295 [B.count] && fitS 1048576 [(B.data.length : Int)]))), { B with pause := 0, rate := 0, pack := 0, count := 0, data := [] }) else
  if B.id = 25 then (generalB B, { B with id := 0, pause := 0, pilot := 0, sync1 := 0, zero := 0, one := 0, count := 0, data := [], pilots := [], syms := [], reps := [] }) else
  if B.id = 32 then (fitS 65535 [B.pause], { B with pause := 0 }) else
  othB B
set_option maxRecDepth 100000 in
set_option maxHeartbeats 4000000 in
theorem sp_other_any (cs : List Value) (B : TB) (w : World) (h : TBV w cs B) : ∃ T2, TBV w T2 (othB B).2 ∧ ∀ u, Below w.heap.size w u → Calls Try.prog 40 #[.agg cs.toArray] u (SndR (othB B).1 T2 u) := by
  have hB := h
  obtain ⟨hwf, d, t, i, p, s, r, rfl, hd, ht, hi, hp, hs, hr⟩ := h
  have hd' := hd; have ht' := ht; have hi' := hi; have hp' := hp; have hs' := hs; have hr' := hr
  obtain ⟨Ad, cd, rfl, hd1, hd2, hd3, hd4⟩ := hd'
  obtain ⟨At, ct, rfl, -⟩ := ht'
  obtain ⟨Ai, ci, rfl, hi1, hi2, hi3⟩ := hi'
  obtain ⟨Ap, cp, rfl, -⟩ := hp'
  obtain ⟨As, cS, rfl, -⟩ := hs'
  obtain ⟨Ar, cr, rfl, -⟩ := hr'
  obtain ⟨n0, n1, n2, n3, n4, n5, n6, n7, n8, n9, n10, n11, D, T, I, P, S, R⟩ := B
  simp only [TB.cells] at *
  simp only [TB.nums, List.mem_cons, List.not_mem_nil, or_false, forall_eq_or_imp, forall_eq] at hwf
  obtain ⟨v0, v1, v2, v3, v4, v5, v6, v7, v8, v9, v10, v11⟩ := hwf
  by_cases h34 : n0 = 34
  · subst h34
    have e : othB ⟨34, n1, n2, n3, n4, n5, n6, n7, n8, n9, n10, n11, D, T, I, P, S, R⟩ = (true, ⟨34, n1, n2, n3, n4, n5, n6, n7, n8, n9, n10, n11, D, T, I, P, S, R⟩) := by simp only [othB]; simp
    rw [e]
    exact ⟨_, TBV.mk2 v0 v1 v2 v3 v4 v5 v6 v7 v8 v9 v10 v11 hd ht hi hp hs hr, fun u hu => sp_other_34 n1 n2 n3 n4 n5 n6 n7 n8 n9 n10 n11 Ad At Ai Ap As Ar _ _ _ _ _ _ cd ct ci cp cS cr u⟩
  by_cases h37 : n0 = 37
  · subst h37
    have e : othB ⟨37, n1, n2, n3, n4, n5, n6, n7, n8, n9, n10, n11, D, T, I, P, S, R⟩ = (true, ⟨37, n1, n2, n3, n4, n5, n6, n7, n8, n9, n10, n11, D, T, I, P, S, R⟩) := by simp only [othB]; simp
    rw [e]
    exact ⟨_, TBV.mk2 v0 v1 v2 v3 v4 v5 v6 v7 v8 v9 v10 v11 hd ht hi hp hs hr, fun u hu => sp_other_37 n1 n2 n3 n4 n5 n6 n7 n8 n9 n10 n11 Ad At Ai Ap As Ar _ _ _ _ _ _ cd ct ci cp cS cr u⟩
  by_cases h39 : n0 = 39
  · subst h39
    have e : othB ⟨39, n1, n2, n3, n4, n5, n6, n7, n8, n9, n10, n11, D, T, I, P, S, R⟩ = (true, ⟨39, n1, n2, n3, n4, n5, n6, n7, n8, n9, n10, n11, D, T, I, P, S, R⟩) := by simp only [othB]; simp
    rw [e]
    exact ⟨_, TBV.mk2 v0 v1 v2 v3 v4 v5 v6 v7 v8 v9 v10 v11 hd ht hi hp hs hr, fun u hu => sp_other_39 n1 n2 n3 n4 n5 n6 n7 n8 n9 n10 n11 Ad At Ai Ap As Ar _ _ _ _ _ _ cd ct ci cp cS cr u⟩
  by_cases h42 : n0 = 42
  · subst h42
    have e : othB ⟨42, n1, n2, n3, n4, n5, n6, n7, n8, n9, n10, n11, D, T, I, P, S, R⟩ = (true, ⟨42, n1, n2, n3, n4, n5, n6, n7, n8, n9, n10, n11, D, T, I, P, S, R⟩) := by simp only [othB]; simp
    rw [e]
    exact ⟨_, TBV.mk2 v0 v1 v2 v3 v4 v5 v6 v7 v8 v9 v10 v11 hd ht hi hp hs hr, fun u hu => sp_other_42 n1 n2 n3 n4 n5 n6 n7 n8 n9 n10 n11 Ad At Ai Ap As Ar _ _ _ _ _ _ cd ct ci cp cS cr u⟩
  by_cases h33 : n0 = 33
  · subst h33
    have e : othB ⟨33, n1, n2, n3, n4, n5, n6, n7, n8, n9, n10, n11, D, T, I, P, S, R⟩ = (fitS 255 [(D.length : Int)], ⟨33, n1, n2, n3, n4, n5, n6, n7, n8, n9, n10, n11, [], T, I, P, S, R⟩) := by simp only [othB]; simp
    rw [e]
    exact ⟨_, TBV.mk2 v0 v1 v2 v3 v4 v5 v6 v7 v8 v9 v10 v11 (RowV.nil _ _) ht hi hp hs hr, fun u hu => sp_other_33 n1 n2 n3 n4 n5 n6 n7 n8 n9 n10 n11 Ad At Ai Ap As Ar _ _ _ _ _ _ cd ct ci cp cS cr u⟩
  by_cases h48 : n0 = 48
  · subst h48
    have e : othB ⟨48, n1, n2, n3, n4, n5, n6, n7, n8, n9, n10, n11, D, T, I, P, S, R⟩ = (fitS 255 [(D.length : Int)], ⟨48, n1, n2, n3, n4, n5, n6, n7, n8, n9, n10, n11, [], T, I, P, S, R⟩) := by simp only [othB]; simp
    rw [e]
    exact ⟨_, TBV.mk2 v0 v1 v2 v3 v4 v5 v6 v7 v8 v9 v10 v11 (RowV.nil _ _) ht hi hp hs hr, fun u hu => sp_other_48 n1 n2 n3 n4 n5 n6 n7 n8 n9 n10 n11 Ad At Ai Ap As Ar _ _ _ _ _ _ cd ct ci cp cS cr u⟩
  by_cases h35 : n0 = 35
  · subst h35
    have e : othB ⟨35, n1, n2, n3, n4, n5, n6, n7, n8, n9, n10, n11, D, T, I, P, S, R⟩ = (decide ((T.length : Int) = 1) && stepS T, ⟨35, n1, n2, n3, n4, n5, n6, n7, n8, n9, n10, n11, D, [], I, P, S, R⟩) := by simp only [othB]; simp
    rw [e]
    exact ⟨_, TBV.mk2 v0 v1 v2 v3 v4 v5 v6 v7 v8 v9 v10 v11 hd (RowV.nil _ _) hi hp hs hr, fun u hu => sp_other_35 n1 n2 n3 n4 n5 n6 n7 n8 n9 n10 n11 Ad At Ai Ap As Ar _ _ _ _ _ _ cd ct ci cp cS cr u T (ht.below hu)⟩
  by_cases h36 : n0 = 36
  · subst h36
    have e : othB ⟨36, n1, n2, n3, n4, n5, n6, n7, n8, n9, n10, n11, D, T, I, P, S, R⟩ = (fitS 65535 [n8], ⟨36, n1, n2, n3, n4, n5, n6, n7, 0, n9, n10, n11, D, T, I, P, S, R⟩) := by simp only [othB]; simp
    rw [e]
    exact ⟨_, TBV.mk2 v0 v1 v2 v3 v4 v5 v6 v7 wf0 v9 v10 v11 hd ht hi hp hs hr, fun u hu => sp_other_36 n1 n2 n3 n4 n5 n6 n7 n8 n9 n10 n11 Ad At Ai Ap As Ar _ _ _ _ _ _ cd ct ci cp cS cr u⟩
  by_cases h38 : n0 = 38
  · subst h38
    have e : othB ⟨38, n1, n2, n3, n4, n5, n6, n7, n8, n9, n10, n11, D, T, I, P, S, R⟩ = (fitS 65535 [(T.length : Int)] && stepS T, ⟨38, n1, n2, n3, n4, n5, n6, n7, n8, n9, n10, n11, D, [], I, P, S, R⟩) := by simp only [othB]; simp
    rw [e]
    exact ⟨_, TBV.mk2 v0 v1 v2 v3 v4 v5 v6 v7 v8 v9 v10 v11 hd (RowV.nil _ _) hi hp hs hr, fun u hu => sp_other_38 n1 n2 n3 n4 n5 n6 n7 n8 n9 n10 n11 Ad At Ai Ap As Ar _ _ _ _ _ _ cd ct ci cp cS cr u T (ht.below hu)⟩
  by_cases h40 : n0 = 40
  · subst h40
    have e : othB ⟨40, n1, n2, n3, n4, n5, n6, n7, n8, n9, n10, n11, D, T, I, P, S, R⟩ = (itemsB 40 I, ⟨40, n1, n2, n3, n4, n5, n6, n7, n8, n9, n10, n11, D, T, [], P, S, R⟩) := by simp only [othB]; simp
    rw [e]
    exact ⟨_, TBV.mk2 v0 v1 v2 v3 v4 v5 v6 v7 v8 v9 v10 v11 hd ht (PairsV.nil _ _) hp hs hr, fun u hu => sp_other_40 n1 n2 n3 n4 n5 n6 n7 n8 n9 n10 n11 Ad At Ai Ap As Ar _ _ _ _ _ _ cd ct ci cp cS cr u _ (fun u2 hu2 => items_any _ _ u2 (hB.below (hu.trans (hu2.mono hu.size))))⟩
  by_cases h50 : n0 = 50
  · subst h50
    have e : othB ⟨50, n1, n2, n3, n4, n5, n6, n7, n8, n9, n10, n11, D, T, I, P, S, R⟩ = (itemsB 50 I, ⟨50, n1, n2, n3, n4, n5, n6, n7, n8, n9, n10, n11, D, T, [], P, S, R⟩) := by simp only [othB]; simp
    rw [e]
    exact ⟨_, TBV.mk2 v0 v1 v2 v3 v4 v5 v6 v7 v8 v9 v10 v11 hd ht (PairsV.nil _ _) hp hs hr, fun u hu => sp_other_50 n1 n2 n3 n4 n5 n6 n7 n8 n9 n10 n11 Ad At Ai Ap As Ar _ _ _ _ _ _ cd ct ci cp cS cr u _ (fun u2 hu2 => items_any _ _ u2 (hB.below (hu.trans (hu2.mono hu.size))))⟩
  by_cases h43 : n0 = 43
  · subst h43
    have e : othB ⟨43, n1, n2, n3, n4, n5, n6, n7, n8, n9, n10, n11, D, T, I, P, S, R⟩ = (fitS 1 [n9], ⟨43, n1, n2, n3, n4, n5, n6, n7, n8, 0, n10, n11, D, T, I, P, S, R⟩) := by simp only [othB]; simp
    rw [e]
    exact ⟨_, TBV.mk2 v0 v1 v2 v3 v4 v5 v6 v7 v8 wf0 v10 v11 hd ht hi hp hs hr, fun u hu => sp_other_43 n1 n2 n3 n4 n5 n6 n7 n8 n9 n10 n11 Ad At Ai Ap As Ar _ _ _ _ _ _ cd ct ci cp cS cr u⟩
  by_cases h49 : n0 = 49
  · subst h49
    have e : othB ⟨49, n1, n2, n3, n4, n5, n6, n7, n8, n9, n10, n11, D, T, I, P, S, R⟩ = (fitS 255 [n8, (D.length : Int)], ⟨49, n1, n2, n3, n4, n5, n6, n7, 0, n9, n10, n11, [], T, I, P, S, R⟩) := by simp only [othB]; simp
    rw [e]
    exact ⟨_, TBV.mk2 v0 v1 v2 v3 v4 v5 v6 v7 wf0 v9 v10 v11 (RowV.nil _ _) ht hi hp hs hr, fun u hu => sp_other_49 n1 n2 n3 n4 n5 n6 n7 n8 n9 n10 n11 Ad At Ai Ap As Ar _ _ _ _ _ _ cd ct ci cp cS cr u⟩
  by_cases h51 : n0 = 51
  · subst h51
    have e : othB ⟨51, n1, n2, n3, n4, n5, n6, n7, n8, n9, n10, n11, D, T, I, P, S, R⟩ = (fitS 765 [(T.length : Int)] && (decide ((T.length : Int) % 3 = 0) && fitS 255 T), ⟨51, n1, n2, n3, n4, n5, n6, n7, n8, n9, n10, n11, D, [], I, P, S, R⟩) := by simp only [othB]; simp
    rw [e]
    exact ⟨_, TBV.mk2 v0 v1 v2 v3 v4 v5 v6 v7 v8 v9 v10 v11 hd (RowV.nil _ _) hi hp hs hr, fun u hu => sp_other_51 n1 n2 n3 n4 n5 n6 n7 n8 n9 n10 n11 Ad At Ai Ap As Ar _ _ _ _ _ _ cd ct ci cp cS cr u T (ht.below hu)⟩
  by_cases h52 : n0 = 52
  · subst h52
    have e : othB ⟨52, n1, n2, n3, n4, n5, n6, n7, n8, n9, n10, n11, D, T, I, P, S, R⟩ = (decide ((D.length : Int) = 8), ⟨52, n1, n2, n3, n4, n5, n6, n7, n8, n9, n10, n11, [], T, I, P, S, R⟩) := by simp only [othB]; simp
    rw [e]
    exact ⟨_, TBV.mk2 v0 v1 v2 v3 v4 v5 v6 v7 v8 v9 v10 v11 (RowV.nil _ _) ht hi hp hs hr, fun u hu => sp_other_52 n1 n2 n3 n4 n5 n6 n7 n8 n9 n10 n11 Ad At Ai Ap As Ar _ _ _ _ _ _ cd ct ci cp cS cr u T (ht.below hu)⟩
  by_cases h53 : n0 = 53
  · subst h53
    have e : othB ⟨53, n1, n2, n3, n4, n5, n6, n7, n8, n9, n10, n11, D, T, I, P, S, R⟩ = (ok53 ⟨53, n1, n2, n3, n4, n5, n6, n7, n8, n9, n10, n11, D, T, I, P, S, R⟩, ⟨53, n1, n2, n3, n4, n5, n6, n7, n8, n9, n10, n11, [], T, [], P, S, R⟩) := by simp only [othB]; simp
    rw [e]
    rcases I with _ | ⟨⟨x, tx⟩, _ | ⟨y, I⟩⟩
    · exact ⟨_, TBV.mk2 v0 v1 v2 v3 v4 v5 v6 v7 v8 v9 v10 v11 (RowV.nil _ _) ht (PairsV.nil _ _) hp hs hr, fun u hu => by have h := sp_other_53n n1 n2 n3 n4 n5 n6 n7 n8 n9 n10 n11 Ad At Ai Ap As Ar D.length T.length 0 P.length S.length R.length cd ct ci cp cS cr u (by simp); rw [decide_eq_false (by simp)] at h; exact h⟩
    · obtain ⟨-, g, o, rv, hAi, hrg, hrv⟩ := hi3 0 (x, tx) rfl
      subst hAi
      obtain ⟨A2, c2, rfl, -⟩ := hrv
      exact ⟨_, TBV.mk2 v0 v1 v2 v3 v4 v5 v6 v7 v8 v9 v10 v11 (RowV.nil _ _) ht (PairsV.nil _ _) hp hs hr, fun u hu => sp_other_53 n1 n2 n3 n4 n5 n6 n7 n8 n9 n10 n11 Ad At (some ⟨g, o, none⟩) Ap As Ar D.length T.length 0 P.length S.length R.length cd ct ci cp cS cr u g o x A2 tx.length c2 (rangeBelow (by simpa using hrg) hu)⟩
    · exact ⟨_, TBV.mk2 v0 v1 v2 v3 v4 v5 v6 v7 v8 v9 v10 v11 (RowV.nil _ _) ht (PairsV.nil _ _) hp hs hr, fun u hu => by have h := sp_other_53n n1 n2 n3 n4 n5 n6 n7 n8 n9 n10 n11 Ad At Ai Ap As Ar D.length T.length (I.length + 1 + 1) P.length S.length R.length cd ct ci cp cS cr u (by simp); rw [decide_eq_false (by simp; omega)] at h; exact h⟩
  by_cases h90 : n0 = 90
  · subst h90
    have e : othB ⟨90, n1, n2, n3, n4, n5, n6, n7, n8, n9, n10, n11, D, T, I, P, S, R⟩ = (ok90 ⟨90, n1, n2, n3, n4, n5, n6, n7, n8, n9, n10, n11, D, T, I, P, S, R⟩, ⟨90, n1, n2, n3, n4, n5, n6, n7, n8, n9, n10, n11, [], T, I, P, S, R⟩) := by simp only [othB]; simp
    rw [e]
    by_cases h9 : D.length = 9
    · refine ⟨_, TBV.mk2 v0 v1 v2 v3 v4 v5 v6 v7 v8 v9 v10 v11 (RowV.nil _ _) ht hi hp hs hr, fun u hu => ?_⟩
      have hd9 := hd.below hu
      rw [h9] at hd9 ⊢
      have h := sp_other_90 n1 n2 n3 n4 n5 n6 n7 n8 n9 n10 n11 Ad At Ai Ap As Ar 9 T.length I.length P.length S.length R.length cd ct ci cp cS cr u D hd9
      simpa [ok90, h9] using h
    · refine ⟨_, TBV.mk2 v0 v1 v2 v3 v4 v5 v6 v7 v8 v9 v10 v11 (RowV.nil _ _) ht hi hp hs hr, fun u hu => ?_⟩
      have h := sp_other_90n n1 n2 n3 n4 n5 n6 n7 n8 n9 n10 n11 Ad At Ai Ap As Ar D.length T.length I.length P.length S.length R.length cd ct ci cp cS cr u h9
      have e9 : ok90 ⟨90, n1, n2, n3, n4, n5, n6, n7, n8, n9, n10, n11, D, T, I, P, S, R⟩ = decide ((D.length : Int) = 9) := by simp [ok90]; omega
      rw [e9]; exact h
  have e : othB ⟨n0, n1, n2, n3, n4, n5, n6, n7, n8, n9, n10, n11, D, T, I, P, S, R⟩ = (fitS 1048576 [(D.length : Int)], ⟨n0, n1, n2, n3, n4, n5, n6, n7, n8, n9, n10, n11, [], T, I, P, S, R⟩) := by simp only [othB]; simp only [h34, h37, h39, h42, h33, h48, h35, h36, h38, h40, h50, h43, h49, h51, h52, h53, h90, if_false]
  rw [e]
  exact ⟨_, TBV.mk2 v0 v1 v2 v3 v4 v5 v6 v7 v8 v9 v10 v11 (RowV.nil _ _) ht hi hp hs hr, fun u hu => sp_other_def n0 (fun k hk => by simp only [List.mem_cons, List.not_mem_nil, or_false] at hk; omega) n1 n2 n3 n4 n5 n6 n7 n8 n9 n10 n11 Ad At Ai Ap As Ar _ _ _ _ _ _ cd ct ci cp cS cr u⟩
set_option maxRecDepth 100000 in
set_option maxHeartbeats 4000000 in
theorem sp_sound_any (cs : List Value) (B : TB) (w : World) (h : TBV w cs B) : ∃ T2, TBV w T2 (sndB B).2 ∧ ∀ u, Below w.heap.size w u → Calls Try.prog 19 #[.agg cs.toArray] u (SndR (sndB B).1 T2 u) := by
  have hB := h
  obtain ⟨hwf, d, t, i, p, s, r, rfl, hd, ht, hi, hp, hs, hr⟩ := h
  have hd' := hd; have ht' := ht; have hi' := hi; have hp' := hp; have hs' := hs; have hr' := hr
  obtain ⟨Ad, cd, rfl, hd1, hd2, hd3, hd4⟩ := hd'
  obtain ⟨At, ct, rfl, -⟩ := ht'
  obtain ⟨Ai, ci, rfl, hi1, hi2, hi3⟩ := hi'
  obtain ⟨Ap, cp, rfl, -⟩ := hp'
  obtain ⟨As, cS, rfl, -⟩ := hs'
  obtain ⟨Ar, cr, rfl, -⟩ := hr'
  obtain ⟨n0, n1, n2, n3, n4, n5, n6, n7, n8, n9, n10, n11, D, T, I, P, S, R⟩ := B
  simp only [TB.cells] at *
  simp only [TB.nums, List.mem_cons, List.not_mem_nil, or_false, forall_eq_or_imp, forall_eq] at hwf
  obtain ⟨v0, v1, v2, v3, v4, v5, v6, v7, v8, v9, v10, v11⟩ := hwf
  by_cases h16 : n0 = 16
  · subst h16
    have e : sndB ⟨16, n1, n2, n3, n4, n5, n6, n7, n8, n9, n10, n11, D, T, I, P, S, R⟩ = (fitS 65535 [n1, (D.length : Int)], ⟨16, 0, n2, n3, n4, n5, n6, n7, n8, n9, n10, n11, [], T, I, P, S, R⟩) := by simp only [sndB]; simp
    rw [e]
    exact ⟨_, TBV.mk2 v0 wf0 v2 v3 v4 v5 v6 v7 v8 v9 v10 v11 (RowV.nil _ _) ht hi hp hs hr, fun u hu => sp_sound_16 n1 n2 n3 n4 n5 n6 n7 n8 n9 n10 n11 Ad At Ai Ap As Ar _ _ _ _ _ _ cd ct ci cp cS cr u⟩
  by_cases h17 : n0 = 17
  · subst h17
    have e : sndB ⟨17, n1, n2, n3, n4, n5, n6, n7, n8, n9, n10, n11, D, T, I, P, S, R⟩ = (fitS 65535 [n1, n2, n3, n4, n5, n6, n8] && (fitS 255 [n9] && fitS 16777215 [(D.length : Int)]), ⟨0, 0, 0, 0, 0, 0, 0, n7, 0, 0, n10, n11, [], T, I, P, S, R⟩) := by simp only [sndB]; simp
    rw [e]
    exact ⟨_, TBV.mk2 wf0 wf0 wf0 wf0 wf0 wf0 wf0 v7 wf0 wf0 v10 v11 (RowV.nil _ _) ht hi hp hs hr, fun u hu => sp_sound_17 n1 n2 n3 n4 n5 n6 n7 n8 n9 n10 n11 Ad At Ai Ap As Ar _ _ _ _ _ _ cd ct ci cp cS cr u⟩
  by_cases h18 : n0 = 18
  · subst h18
    have e : sndB ⟨18, n1, n2, n3, n4, n5, n6, n7, n8, n9, n10, n11, D, T, I, P, S, R⟩ = (fitS 65535 [n7, n8], ⟨18, n1, n2, n3, n4, n5, n6, 0, 0, n9, n10, n11, D, T, I, P, S, R⟩) := by simp only [sndB]; simp
    rw [e]
    exact ⟨_, TBV.mk2 v0 v1 v2 v3 v4 v5 v6 wf0 wf0 v9 v10 v11 hd ht hi hp hs hr, fun u hu => sp_sound_18 n1 n2 n3 n4 n5 n6 n7 n8 n9 n10 n11 Ad At Ai Ap As Ar _ _ _ _ _ _ cd ct ci cp cS cr u⟩
  by_cases h19 : n0 = 19
  · subst h19
    have e : sndB ⟨19, n1, n2, n3, n4, n5, n6, n7, n8, n9, n10, n11, D, T, I, P, S, R⟩ = (fitS 255 [(T.length : Int)] && fitS 65535 T, ⟨19, n1, n2, n3, n4, n5, n6, n7, n8, n9, n10, n11, D, [], I, P, S, R⟩) := by simp only [sndB]; simp
    rw [e]
    exact ⟨_, TBV.mk2 v0 v1 v2 v3 v4 v5 v6 v7 v8 v9 v10 v11 hd (RowV.nil _ _) hi hp hs hr, fun u hu => sp_sound_19 n1 n2 n3 n4 n5 n6 n7 n8 n9 n10 n11 Ad At Ai Ap As Ar _ _ _ _ _ _ cd ct ci cp cS cr u T (ht.below hu)⟩
  by_cases h20 : n0 = 20
  · subst h20
    have e : sndB ⟨20, n1, n2, n3, n4, n5, n6, n7, n8, n9, n10, n11, D, T, I, P, S, R⟩ = (fitS 65535 [n1, n5, n6] && (fitS 255 [n9] && fitS 16777215 [(D.length : Int)]), ⟨20, 0, n2, n3, n4, 0, 0, n7, n8, 0, n10, n11, [], T, I, P, S, R⟩) := by simp only [sndB]; simp
    rw [e]
    exact ⟨_, TBV.mk2 v0 wf0 v2 v3 v4 wf0 wf0 v7 v8 wf0 v10 v11 (RowV.nil _ _) ht hi hp hs hr, fun u hu => sp_sound_20 n1 n2 n3 n4 n5 n6 n7 n8 n9 n10 n11 Ad At Ai Ap As Ar _ _ _ _ _ _ cd ct ci cp cS cr u⟩
  by_cases h21 : n0 = 21
  · subst h21
    have e : sndB ⟨21, n1, n2, n3, n4, n5, n6, n7, n8, n9, n10, n11, D, T, I, P, S, R⟩ = (fitS 65535 [n1, n10] && (fitS 255 [n9] && fitS 16777215 [(D.length : Int)]), ⟨21, 0, n2, n3, n4, n5, n6, n7, n8, 0, 0, n11, [], T, I, P, S, R⟩) := by simp only [sndB]; simp
    rw [e]
    exact ⟨_, TBV.mk2 v0 wf0 v2 v3 v4 v5 v6 v7 v8 wf0 wf0 v11 (RowV.nil _ _) ht hi hp hs hr, fun u hu => sp_sound_21 n1 n2 n3 n4 n5 n6 n7 n8 n9 n10 n11 Ad At Ai Ap As Ar _ _ _ _ _ _ cd ct ci cp cS cr u⟩
  by_cases h24 : n0 = 24
  · subst h24
    have e : sndB ⟨24, n1, n2, n3, n4, n5, n6, n7, n8, n9, n10, n11, D, T, I, P, S, R⟩ = (fitS 65535 [n1] && (fitS 16777215 [n10] && (fitS 255 [n11] && (fitS 4294967295 [n8] && fitS 1048576 [(D.length : Int)]))), ⟨24, 0, n2, n3, n4, n5, n6, n7, 0, n9, 0, 0, [], T, I, P, S, R⟩) := by simp only [sndB]; simp
    rw [e]
    exact ⟨_, TBV.mk2 v0 wf0 v2 v3 v4 v5 v6 v7 wf0 v9 wf0 wf0 (RowV.nil _ _) ht hi hp hs hr, fun u hu => sp_sound_24 n1 n2 n3 n4 n5 n6 n7 n8 n9 n10 n11 Ad At Ai Ap As Ar _ _ _ _ _ _ cd ct ci cp cS cr u⟩
  by_cases h25 : n0 = 25
  · subst h25
    have e : sndB ⟨25, n1, n2, n3, n4, n5, n6, n7, n8, n9, n10, n11, D, T, I, P, S, R⟩ = (generalB ⟨25, n1, n2, n3, n4, n5, n6, n7, n8, n9, n10, n11, D, T, I, P, S, R⟩, ⟨0, 0, 0, 0, n4, 0, 0, n7, 0, n9, n10, n11, [], T, I, [], [], []⟩) := by simp only [sndB]; simp
    rw [e]
    exact ⟨_, TBV.mk2 wf0 wf0 wf0 wf0 v4 wf0 wf0 v7 wf0 v9 v10 v11 (RowV.nil _ _) ht hi (PairsV.nil _ _) (PairsV.nil _ _) (RepsV.nil _), fun u hu => sp_sound_25 n1 n2 n3 n4 n5 n6 n7 n8 n9 n10 n11 Ad At Ai Ap As Ar _ _ _ _ _ _ cd ct ci cp cS cr u _ (fun u2 hu2 => general_any _ _ u2 (hB.below (hu.trans (hu2.mono hu.size))))⟩
  by_cases h32 : n0 = 32
  · subst h32
    have e : sndB ⟨32, n1, n2, n3, n4, n5, n6, n7, n8, n9, n10, n11, D, T, I, P, S, R⟩ = (fitS 65535 [n1], ⟨32, 0, n2, n3, n4, n5, n6, n7, n8, n9, n10, n11, D, T, I, P, S, R⟩) := by simp only [sndB]; simp
    rw [e]
    exact ⟨_, TBV.mk2 v0 wf0 v2 v3 v4 v5 v6 v7 v8 v9 v10 v11 hd ht hi hp hs hr, fun u hu => sp_sound_32 n1 n2 n3 n4 n5 n6 n7 n8 n9 n10 n11 Ad At Ai Ap As Ar _ _ _ _ _ _ cd ct ci cp cS cr u⟩
  have e : sndB ⟨n0, n1, n2, n3, n4, n5, n6, n7, n8, n9, n10, n11, D, T, I, P, S, R⟩ = othB ⟨n0, n1, n2, n3, n4, n5, n6, n7, n8, n9, n10, n11, D, T, I, P, S, R⟩ := by simp only [sndB]; simp only [h16, h17, h18, h19, h20, h21, h24, h25, h32, if_false]
  rw [e]
  obtain ⟨T2, hT2, ho⟩ := sp_other_any _ _ w hB
  exact ⟨T2, hT2, fun u hu => sp_sound_def n0 (fun k hk => by simp only [List.mem_cons, List.not_mem_nil, or_false] at hk; omega) n1 n2 n3 n4 n5 n6 n7 n8 n9 n10 n11 Ad At Ai Ap As Ar _ _ _ _ _ _ cd ct ci cp cS cr u _ T2 hT2.len hT2.one2 (fun u2 hu2 => ho u2 (hu.trans (hu2.mono hu.size)))⟩
end Go.Proofs.Ytokidpajialgbaa
