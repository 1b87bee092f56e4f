/- Texts that are laid together: G04. -/
import Derived.Test.YtokidpajialgbaaQG03
import Derived.Test.YtokidpajialgbaaQG00
import Derived.Test.YtokidpajialgbaaQG02
namespace Go.Proofs.Ytokidpajialgbaa
set_option linter.unusedSimpArgs false
set_option linter.unusedVariables false
open Go.RowKit
/-- do numbers fit two bytes, with a sign? -/
def stepS (l : List Int) : Bool := l.all fun x => decide (-32768 ≤ x) && decide (x < 32768)
set_option maxRecDepth 100000 in
set_option maxHeartbeats 4000000 in
theorem steps_any (A : Option Addr) (n c : Nat) (l : List Int) (w : World) (hl : Ints w A .i64 l) (hn : l.length = n) (hm : n ≤ maxLen) : Calls Try.prog 72 #[.slice A n c] w (FitP (stepS l) w) := by
  have m0 : maxLen = 9223372036854775807 := rfl
  have hn2 : n ≤ 9223372036854775807 := by omega
  have HL := Lib.hid hl; have HN := Lib.hid hn
  clear hl hn hm m0
  go_enter Try.func72, Try.ntmps72
  go_wp2_with fail
  go_loopw [4, 7] (fun _ i wr => ∃ k : Nat, k ≤ n ∧ i = .int .i64 (k : Nat) ∧ Hid (stepS (l.take k) = true) ∧ w = wr) (fun _ i _ => n - (intOf i).toNat)
  case atStart => exact ⟨0, Nat.zero_le _, rfl, Lib.hid rfl, rfl⟩
  case round =>
    obtain ⟨k, hk, rfl, HF, rfl⟩ := hrel
    by_cases hlt : k < n
    · have hlt2 : (k : Int) < n := by omega
      obtain ⟨x, hx⟩ : ∃ x, l[k]? = some x := ⟨_, List.getElem?_eq_getElem (by rw [HN.out]; exact hlt)⟩
      obtain ⟨ad, rfl, hc⟩ := HL.out k (.int .i64 x) (by simp [hx])
      have v2 : IntKind.i64.wrap ((k : Int) + 1) = ((k + 1 : Nat) : Int) := by rw [IntKind.wrap_i64]; omega
      have HX := Lib.hid hx
      have hstep : stepS (l.take (k + 1)) = (decide (-32768 ≤ x) && decide (x < 32768)) := by
        have hf := HF.out
        unfold stepS at hf ⊢
        rw [List.take_add_one, hx, List.all_append, hf]
        simp
      have HS := Lib.hid hstep
      have hall : (decide (-32768 ≤ x) && decide (x < 32768)) = false → stepS l = false := by
        intro h
        unfold stepS
        rw [List.all_eq_false]
        exact ⟨x, List.mem_of_getElem? hx, by rw [h]; simp⟩
      have HALL := Lib.hid hall
      clear hx hstep hall
      by_cases h0 : x < -32768
      · go_wp2_with fail
        go_ret
        exact ⟨by rw [HALL.out (by simp; omega)]; rfl, rfl⟩
      · by_cases h1 : 32768 ≤ x
        · go_wp2_with fail
          go_ret
          exact ⟨by rw [HALL.out (by simp; omega)]; rfl, rfl⟩
        · go_wp2_with fail
          go_roundw
          case rel => exact ⟨k + 1, by omega, by go_num, Lib.hid (by rw [HS.out]; simp; omega), by first | trivial | rfl⟩
          case measure => simp [intOf]; omega
    · obtain rfl : k = n := by omega
      have hlt2 : ¬ (k : Int) < k := by omega
      go_wp2_with fail
      go_ret
      have hf := HF.out
      rw [List.take_of_length_le (by rw [HN.out]; exact Nat.le_refl _)] at hf
      exact ⟨by rw [hf]; rfl, rfl⟩
/-- fit, of numbers that were laid just now -/
theorem fit_new (most : Int) (l : List Int) (w : World) (cs : Array Value) (hc : cs = (l.map (Value.int .i64)).toArray) (n : Nat) (hn : l.length = n) (hm : n ≤ maxLen) : Calls Try.prog 18 #[.int .i64 most, .slice (some ⟨w.heap.size, 0, none⟩) n n] (w.alloc (.cells cs 3)) (FitP (fitS most l) (w.alloc (.cells cs 3))) := by
  subst hc
  refine fit_any most _ n n l _ (ints_of_blk (t := 3) (ys := []) ?_) hn hm
  rw [List.append_nil]
  exact heap_alloc_new w _
/-- the numbers that are nought if nothing is left -/
def TB.rest (B : TB) : List Int := [B.pause, B.pilot, B.sync1, B.sync2, B.zero, B.one, B.tone, B.count, B.used, B.rate, B.pack, B.data.length, B.times.length, B.items.length, B.pilots.length, B.syms.length, B.reps.length]
set_option maxRecDepth 100000 in
set_option maxHeartbeats 8000000 in
theorem empty_any (cs : List Value) (B : TB) (w : World) (h : TBV w cs B) : Calls Try.prog 20 #[.agg cs.toArray] w (SaysB (fitS 0 B.rest) w) := by
  obtain ⟨_, d, t, i, p, s, r, hcs, ⟨Ad, cd, rfl, -, hd1, hd2, -⟩, ⟨At, ct, rfl, -, ht1, ht2, -⟩, ⟨Ai, ci, rfl, hi1, hi2, -⟩, ⟨Ap, cp, rfl, hp1, hp2, -⟩, ⟨As, cS, rfl, hs1, hs2, -⟩, ⟨Ar, cr, rfl, hr1, hr2, -⟩⟩ := h
  obtain ⟨n0, n1, n2, n3, n4, n5, n6, n7, n8, n9, n10, n11, l0, l1, l2, l3, l4, l5⟩ := B
  simp only [TB.cells, TB.rest] at hcs ⊢
  obtain ⟨k0, e0⟩ : ∃ k, k = l0.length := ⟨_, rfl⟩
  obtain ⟨k1, e1⟩ : ∃ k, k = l1.length := ⟨_, rfl⟩
  obtain ⟨k2, e2⟩ : ∃ k, k = l2.length := ⟨_, rfl⟩
  obtain ⟨k3, e3⟩ : ∃ k, k = l3.length := ⟨_, rfl⟩
  obtain ⟨k4, e4⟩ : ∃ k, k = l4.length := ⟨_, rfl⟩
  obtain ⟨k5, e5⟩ : ∃ k, k = l5.length := ⟨_, rfl⟩
  rw [← e0, ← e1, ← e2, ← e3, ← e4, ← e5] at hcs ⊢
  obtain ⟨bx, hbx⟩ : ∃ b, b = w.heap.size := ⟨_, rfl⟩
  obtain ⟨wa, hwa⟩ : ∃ wa, wa = w.alloc (.cells cs.toArray 28) := ⟨_, rfl⟩
  have hA : Blk wa bx 28 cs := by rw [hwa, hbx]; exact Blk.new w _ cs
  have hsz : wa.heap.size = w.heap.size + 1 := by rw [hwa]; simp
  have hbl : Below w.heap.size w wa := by rw [hwa]; exact (Below.refl _ w).alloc (Nat.le_refl _) _
  rw [hcs] at hA
  have x1 := hA.cell 1; have x2 := hA.cell 2; have x3 := hA.cell 3; have x4 := hA.cell 4; have x5 := hA.cell 5; have x6 := hA.cell 6; have x7 := hA.cell 7; have x8 := hA.cell 8; have x9 := hA.cell 9
  have x10 := hA.cell 10; have x11 := hA.cell 11; have x12 := hA.cell 12; have x13 := hA.cell 13; have x14 := hA.cell 14; have x15 := hA.cell 15; have x16 := hA.cell 16; have x17 := hA.cell 17
  simp only [List.getElem?_cons_succ, List.getElem?_cons_zero] at x1 x2 x3 x4 x5 x6 x7 x8 x9 x10 x11 x12 x13 x14 x15 x16 x17
  have HBX := Lib.hid hbx; have HWA := Lib.hid hwa; have HSZ := Lib.hid hsz; have HBL := Lib.hid hbl
  clear hcs hd1 hd2 ht1 ht2 hi1 hi2 hp1 hp2 hs1 hs2 hr1 hr2 e0 e1 e2 e3 e4 e5 hbx hwa hA hsz hbl
  go_enter Try.func20, Try.ntmps20
  go_upto_region 0 with fail
  refine wp_region_list ?_
  refine Great.wpList_boxTo rfl 28 (.tmp 0) rfl (some 1) rfl bx HBX.out.symm cs.toArray rfl ?_
  rw [← HWA.out]
  go_wp2_with (first
    | (go_at_call 18
       refine (fit_new 0 [n1, n2, n3, n4, n5, n6, n7, n8, n9, n10, n11, (k0 : Int), (k1 : Int), (k2 : Int), (k3 : Int), (k4 : Int), (k5 : Int)] _ _ rfl 17 rfl (by decide)).mono ?_
       rintro e w2 ⟨rfl, rfl⟩))
  go_ret
  exact ⟨rfl, HBL.out.alloc HBL.out.size _⟩
end Go.Proofs.Ytokidpajialgbaa
namespace Go.Proofs.Ytokidpajialgbaa
set_option linter.unusedSimpArgs false
set_option linter.unusedVariables false
open Go.RowKit
theorem fit_newB {b : Bool} (most : Int) (l : List Int) (w : World) (cs : Array Value) (hc : cs = (l.map (Value.int .i64)).toArray) (n : Nat) (hn : l.length = n) (hm : n ≤ maxLen) (hb : fitS most l = b) : Calls Try.prog 18 #[.int .i64 most, .slice (some ⟨w.heap.size, 0, none⟩) n n] (w.alloc (.cells cs 3)) (FitP b (w.alloc (.cells cs 3))) := by
  subst hb
  exact fit_new most l w cs hc n hn hm
theorem fit_rowB {b : Bool} (most : Int) (A : Option Addr) (c : Nat) (l : List Int) (w : World) (n : Nat) (hv : RowV w .i64 (.slice A n c) l) (hb : fitS most l = b) : Calls Try.prog 18 #[.int .i64 most, .slice A n c] w (FitP b w) := by
  subst hb
  obtain ⟨A', c', h1, h2, h3, h4, _⟩ := hv
  injection h1 with h1 h5 h6
  subst h1 h5 h6
  exact fit_any most _ _ _ l w h2 rfl (by omega)
/-- may a symbol be? -/
def symB (m : Int) (x : Int × List Int) : Bool := fitS 255 [x.1] && (decide ((x.2.length : Int) = m) && fitS 65535 x.2)
def symsB (many m : Int) (l : List (Int × List Int)) : Bool := decide ((l.length : Int) = many) && l.all (symB m)
theorem all_step {α : Type} {p : α → Bool} {l : List α} {k : Nat} {x : α} (hx : l[k]? = some x) (h : (l.take k).all p = true) (hp : p x = true) : (l.take (k + 1)).all p = true := by
  rw [List.take_add_one, hx, List.all_append, h]
  simp [hp]
theorem all_no {α : Type} {p : α → Bool} {l : List α} {k : Nat} {x : α} (hx : l[k]? = some x) (hp : p x = false) : l.all p = false := by
  rw [List.all_eq_false]
  exact ⟨x, List.mem_of_getElem? hx, by rw [hp]; simp⟩
set_option maxRecDepth 100000 in
set_option maxHeartbeats 8000000 in
theorem symbols_any (v : Value) (l : List (Int × List Int)) (many m : Int) (w : World) (hv : PairsV w .i64 v l) : Calls Try.prog 69 #[v, .int .i64 many, .int .i64 m] w (SaysB (symsB many m l) w) := by
  obtain ⟨A, c, rfl, h1, h2, h3⟩ := hv
  have HL := Lib.hid h3
  obtain ⟨n, hn⟩ : ∃ n, n = l.length := ⟨_, rfl⟩
  unfold symsB
  rw [← hn] at h1 ⊢
  have HN := Lib.hid hn
  have m0 : maxLen = 9223372036854775807 := rfl
  have hn2 : n ≤ 9223372036854775807 := by omega
  clear h1 h2 h3 hn m0
  by_cases hmn : ¬ ((n : Int) = many)
  · rw [decide_eq_false hmn]
    have hne : ((n : Int) == many) = false := by simpa using hmn
    go_enter Try.func69, Try.ntmps69
    go_wp2_with fail
    go_ret
    exact ⟨rfl, Below.refl _ _⟩
  replace hmn := Decidable.not_not.1 hmn
  subst hmn
  rw [decide_eq_true rfl, Bool.true_and]
  have HI : Hid ((Try.prog.info? 48).map (·.size) = some 2) := by show _ = _; kernel_rfl
  go_enter Try.func69, Try.ntmps69
  go_wp2_with fail
  go_loopw [15] (fun idx wr => ∃ (k : Nat), idx = .int .i64 k ∧ k ≤ n ∧ Hid ((l.take k).all (symB m) = true) ∧ Hid (Below w.heap.size w wr)) (fun idx _ => n - (intOf idx).toNat)
  case atStart => exact ⟨0, rfl, Nat.zero_le _, Lib.hid rfl, Lib.hid (Below.refl _ _)⟩
  case round =>
    obtain ⟨k, rfl, hk, HA, HB⟩ := hrel
    by_cases hlt : k < n
    · have hlt2 : (k : Int) < n := by omega
      obtain ⟨⟨x1, x2⟩, hB⟩ : ∃ x, l[k]? = some x := ⟨_, List.getElem?_eq_getElem (by rw [← HN.out]; exact hlt)⟩
      obtain ⟨-, g, o, rv, rfl, hr, ht⟩ := HL.out k _ hB
      have hr1 := rangeBelow hr HB.out
      have ht1 := ht.below HB.out
      obtain ⟨A2, c2, hrv, -⟩ := ht
      simp only at hr1 ht1 hrv
      obtain ⟨n2, hn2⟩ : ∃ n2, n2 = x2.length := ⟨_, rfl⟩
      rw [← hn2] at hrv
      subst hrv
      have HR := Lib.hid hr1; have HV := Lib.hid ht1; have HX := Lib.hid hB; have HN2 := Lib.hid hn2
      have v2 : IntKind.i64.wrap ((k : Int) + 1) = ((k + 1 : Nat) : Int) := by rw [IntKind.wrap_i64]; omega
      clear hr hr1 ht1 hB hn2
      go_upto_region 6 with (first
        | (refine wpList_load_mid rfl 48 (.tmp 17) rfl g (o + k * 2) rfl [.int .i64 x1, .slice A2 n2 c2] _ HR.out Try.underlying48 rfl HI.out ?_))
      obtain ⟨wb, hwb⟩ : ∃ wb, wb = wr.alloc (.cells #[.int .i64 x1, .slice A2 n2 c2] 48) := ⟨_, rfl⟩
      obtain ⟨b, hb⟩ : ∃ b, b = wr.heap.size := ⟨_, rfl⟩
      have hbk : Blk wb b 48 [.int .i64 x1, .slice A2 n2 c2] := by rw [hwb, hb]; exact Blk.new wr _ _
      have hbb : Below wr.heap.size wr wb := by rw [hwb]; exact (Below.refl _ wr).alloc (Nat.le_refl _) _
      rw [← hwb, ← hb]
      have x0 : wb.cell? ⟨b, 0, none⟩ = some (.int .i64 x1) := hbk.cell 0
      have y1 : ∀ o, (wb.alloc o).cell? ⟨b, 1, none⟩ = some (.slice A2 n2 c2) := fun o => (hbk.alloc o).cell 1
      have HBB : Hid (Below w.heap.size w wb) := Lib.hid (HB.out.trans (hbb.mono HB.out.size))
      have HV2 : Hid (∀ o, RowV (wb.alloc o) .i64 (.slice A2 n2 c2) x2) := Lib.hid (fun o => (HV.out.below hbb).below ((Below.refl _ wb).alloc (Nat.le_refl _) _))
      have HNO : Hid (symB m (x1, x2) = false → (l.all (symB m)) = false) := Lib.hid (all_no HX.out)
      have HSY : Hid (symB m (x1, x2) = (fitS 255 [x1] && (decide ((n2 : Int) = m) && fitS 65535 x2))) := Lib.hid (by unfold symB; simp only; rw [← HN2.out])
      generalize hq1 : fitS 255 [x1] = q1 at HSY
      generalize hq3 : fitS 65535 x2 = q3 at HSY
      have HQ1 := Lib.hid hq1; have HQ3 := Lib.hid hq3
      clear hwb hb hbk hbb hq1 hq3
      cases q1
      · go_wp2_with (first
          | (go_at_call 18; refine (fit_newB 255 [x1] _ _ rfl 1 rfl (by decide) HQ1.out).mono ?_; rintro e w2 ⟨rfl, rfl⟩))
        go_ret
        exact SaysB.of (HNO.out (by rw [HSY.out]; rfl)).symm (HBB.out.alloc HBB.out.size _)
      by_cases hm2 : ¬ ((n2 : Int) = m)
      · have hne : ((n2 : Int) == m) = false := by simpa using hm2
        go_wp2_with (first
          | (go_at_call 18; refine (fit_newB 255 [x1] _ _ rfl 1 rfl (by decide) HQ1.out).mono ?_; rintro e w2 ⟨rfl, rfl⟩))
        go_ret
        exact SaysB.of (HNO.out (by rw [HSY.out, decide_eq_false hm2]; rfl)).symm (HBB.out.alloc HBB.out.size _)
      replace hm2 := Decidable.not_not.1 hm2
      subst hm2
      cases q3
      · go_wp2_with (first
          | (go_at_call_of 18 (Value.int .i64 255); refine (fit_newB 255 [x1] _ _ rfl 1 rfl (by decide) HQ1.out).mono ?_; rintro e w2 ⟨rfl, rfl⟩)
          | (go_at_call_of 18 (Value.int .i64 65535); refine (fit_rowB 65535 A2 c2 x2 _ n2 (HV2.out _) HQ3.out).mono ?_; rintro e w3 ⟨rfl, rfl⟩))
        go_ret
        exact SaysB.of (HNO.out (by rw [HSY.out]; simp)).symm (HBB.out.alloc HBB.out.size _)
      · go_wp2_with (first
          | (go_at_call_of 18 (Value.int .i64 255); refine (fit_newB 255 [x1] _ _ rfl 1 rfl (by decide) HQ1.out).mono ?_; rintro e w2 ⟨rfl, rfl⟩)
          | (go_at_call_of 18 (Value.int .i64 65535); refine (fit_rowB 65535 A2 c2 x2 _ n2 (HV2.out _) HQ3.out).mono ?_; rintro e w3 ⟨rfl, rfl⟩))
        go_roundw
        case rel => exact ⟨k + 1, by go_num, by omega, Lib.hid (all_step HX.out HA.out (by rw [HSY.out]; simp)), Lib.hid (HBB.out.alloc HBB.out.size _)⟩
        case measure => simp [intOf]; omega
    · have hlt2 : ¬ (k : Int) < n := by omega
      go_wp2_with fail
      go_ret
      refine SaysB.of ?_ HB.out
      have := HA.out
      rw [List.take_of_length_le (by rw [← HN.out]; omega)] at this
      exact this.symm
end Go.Proofs.Ytokidpajialgbaa
namespace Go.Proofs.Ytokidpajialgbaa
set_option linter.unusedSimpArgs false
set_option linter.unusedVariables false
open Go.RowKit
def symL (x : Int × List Int) : List Int := leB x.1 1 ++ leL 2 x.2
def symsL (l : List (Int × List Int)) : List Int := l.flatMap symL
def symsW (l : List (Int × List Int)) : Nat := (l.map fun x => 4 + x.2.length * 4).sum
theorem symL_len (x : Int × List Int) : (symL x).length ≤ 4 + x.2.length * 4 := by simp [symL, leB_len, leL_len]; omega
theorem symsL_len (l : List (Int × List Int)) : (symsL l).length ≤ symsW l := by
  induction l with
  | nil => simp [symsL, symsW]
  | cons x t ih => simp only [symsL, symsW, List.flatMap_cons, List.length_append, List.map_cons, List.sum_cons] at ih ⊢; have := symL_len x; omega
theorem symsL_step {l : List (Int × List Int)} {k : Nat} {x : Int × List Int} (hx : l[k]? = some x) : symsL (l.take (k + 1)) = symsL (l.take k) ++ symL x := by
  rw [List.take_add_one, hx]; unfold symsL; simp [List.flatMap_append]
theorem symsW_step {l : List (Int × List Int)} {k : Nat} {x : Int × List Int} (hx : l[k]? = some x) : symsW (l.take k) + (4 + x.2.length * 4) ≤ symsW l := by
  have h : symsW l = symsW (l.take k) + symsW (l.drop k) := by unfold symsW; rw [← List.sum_append, ← List.map_append, List.take_append_drop]
  have h2 : l.drop k = x :: l.drop (k + 1) := by
    have := List.drop_eq_getElem?_toList_append (l := l) (i := k)
    rw [hx] at this; simpa using this
  rw [h, h2]
  simp only [symsW, List.map_cons, List.sum_cons]; omega
set_option maxRecDepth 100000 in
set_option maxHeartbeats 4000000 in
theorem syms_w (P base : Nat) (vl : Value) (l : List (Int × List Int)) (L : List Int) (w0 w : World) (v : Value) (hT : Tape0 w0 w base P) (hv : PairsV w0 .i64 vl l) (ho : OutS w P base v L) (hL : L.length + symsW l ≤ 100000000) :
    Calls Try.prog 86 #[.pointer (some ⟨P, 0, none⟩), vl] w (WrP P base (L ++ symsL l) w v) := by
  obtain ⟨A, c, rfl, h1, h2, h3⟩ := hv
  have HL := Lib.hid h3
  obtain ⟨n, hn⟩ : ∃ n, n = l.length := ⟨_, rfl⟩
  rw [← hn] at h1 ⊢
  have HN := Lib.hid hn
  have m0 : maxLen = 9223372036854775807 := rfl
  have hn2 : n ≤ 9223372036854775807 := by omega
  have HO := Lib.hid ho; have HT := Lib.hid hT
  have HI : Hid ((Try.prog.info? 48).map (·.size) = some 2) := by show _ = _; kernel_rfl
  clear h1 h2 h3 hn m0 ho hT
  go_enter Try.func86, Try.ntmps86
  go_wp2_with fail
  go_loopw [8] (fun idx wr => ∃ (k : Nat), idx = .int .i64 k ∧ k ≤ n ∧ Hid (∃ v', OutS wr P base v' (L ++ symsL (l.take k)) ∧ OutK P w v wr v')) (fun idx _ => n - (intOf idx).toNat)
  case atStart => exact ⟨0, rfl, Nat.zero_le _, Lib.hid ⟨v, by simpa [symsL] using HO.out, OutK.refl _ _ _⟩⟩
  case round =>
    obtain ⟨k, rfl, hk, HOW⟩ := hrel
    by_cases hlt : k < n
    · have hlt2 : (k : Int) < n := by omega
      obtain ⟨vv, hS, hK⟩ := HOW.out
      have hTr := HT.out.step HO.out hK
      obtain ⟨⟨x1, x2⟩, hB⟩ : ∃ x, l[k]? = some x := ⟨_, List.getElem?_eq_getElem (by rw [← HN.out]; exact hlt)⟩
      obtain ⟨hw1, g, o, rv, rfl, hr, ht⟩ := HL.out k _ hB
      have hr1 := rangeBelow hr hTr.bel
      obtain ⟨A2, c2, hrv, hi2, hc1, hc2, hw2⟩ := ht
      simp only at hr1 hrv hi2 hc1 hw2 hw1
      obtain ⟨n2, hn2⟩ : ∃ n2, n2 = x2.length := ⟨_, rfl⟩
      have hst := symsW_step hB
      have hlen := symsL_len (l.take k)
      simp only at hst
      rw [← hn2] at hrv hst
      subst hrv
      have HR := Lib.hid hr1; have HX := Lib.hid hB; have HN2 := Lib.hid hn2; have HI2 := Lib.hid hi2; have HW1 := Lib.hid hw1; have HW2 := Lib.hid hw2
      have HLN := Lib.hid (show (L ++ symsL (l.take k)).length + (4 + n2 * 4) ≤ 100000000 by rw [List.length_append]; omega)
      have v2 : IntKind.i64.wrap ((k : Int) + 1) = ((k + 1 : Nat) : Int) := by rw [IntKind.wrap_i64]; omega
      have HS := Lib.hid hS; have HKK := Lib.hid hK; have HTR := Lib.hid hTr
      clear hr hr1 hB hn2 hi2 hc1 hc2 hw2 hw1 hst hlen hS hK hTr
      go_upto_region 3 with (first
        | (refine wpList_load_mid rfl 48 (.tmp 10) rfl g (o + k * 2) rfl [.int .i64 x1, .slice A2 n2 c2] _ HR.out Try.underlying48 rfl HI.out ?_))
      obtain ⟨wb, hwb⟩ : ∃ wb, wb = wr.alloc (.cells #[.int .i64 x1, .slice A2 n2 c2] 48) := ⟨_, rfl⟩
      obtain ⟨b, hb⟩ : ∃ b, b = wr.heap.size := ⟨_, rfl⟩
      have hbk : Blk wb b 48 [.int .i64 x1, .slice A2 n2 c2] := by rw [hwb, hb]; exact Blk.new wr _ _
      have HSb : Hid (OutS wb P base vv (L ++ symsL (l.take k))) := Lib.hid (by rw [hwb]; exact HS.out.alloc _)
      have HKb : Hid (OutK P wr vv wb vv) := Lib.hid (by rw [hwb]; exact OutK.alloc wr vv _)
      have HTb : Hid (Tape0 w0 wb base P) := Lib.hid (by rw [hwb]; exact HTR.out.alloc _)
      have hbP : b ≠ P := by have := HS.out.blk.lt; omega
      have hbo : vv.ownBlock ≠ some b := fun e => by have := (HS.out.row.lt b e).2; omega
      rw [← hwb, ← hb]
      have x0 : wb.cell? ⟨b, 0, none⟩ = some (.int .i64 x1) := hbk.cell 0
      have HNU := Lib.hid (num_new 1 P base 1 [x1] _ wb vv _ rfl HSb.out rfl (by intro x hx; simp at hx; subst hx; exact HW1.out) HTb.out.h3 (by decide) (by have := HLN.out; omega))
      have HBK := Lib.hid hbk; have HBP := Lib.hid hbP; have HBO := Lib.hid hbo
      clear hwb hb hbk hbP hbo
      go_wp2_with (first
        | (go_at_call_of 25 (Value.int .i64 1)
           refine HNU.out.mono ?_
           rintro e w2 ⟨rfl, v2_, hs2, hk2⟩
           have y1 : w2.cell? ⟨b, 1, none⟩ = some (.slice A2 n2 c2) := (hk2.blk HBK.out HBP.out HBO.out).cell 1
           have hT2 := HTb.out.step HSb.out hk2
           have HN3 := Lib.hid (num_w 2 P base n2 c2 A2 x2 _ w2 v2_ hs2 (Cells.below HI2.out hT2.bel) HN2.out.symm HW2.out (hT2.off hs2 HI2.out) hT2.h3 (by decide) (by have := HLN.out; simp only [List.length_append, leL_len, List.length_cons, List.length_nil] at this ⊢; omega))
           have HK2 := Lib.hid hk2
           clear hs2 hk2 hT2)
        | (go_at_call_of 25 (Value.int .i64 2)
           refine HN3.out.mono ?_
           rintro e w3 ⟨rfl, v3_, hs3, hk3⟩
           have HS3 := Lib.hid hs3; have HK3 := Lib.hid hk3
           clear hs3 hk3))
      go_roundw
      case rel =>
        refine ⟨k + 1, by go_num, by omega, Lib.hid ⟨v3_, ?_, HKK.out.trans (HKb.out.trans (HK2.out.trans HK3.out))⟩⟩
        have h := HS3.out
        rw [symsL_step HX.out]
        simpa [symL, leL, List.append_assoc] using h
      case measure => simp [intOf]; omega
    · obtain rfl : k = n := by omega
      have hlt2 : ¬ (k : Int) < k := by omega
      go_wp2_with fail
      refine bodyPost_end (results_none rfl _ _ _) rfl ⟨rfl, ?_⟩
      have := HOW.out
      rw [List.take_of_length_le (by rw [HN.out]; exact Nat.le_refl _)] at this
      exact this
end Go.Proofs.Ytokidpajialgbaa
