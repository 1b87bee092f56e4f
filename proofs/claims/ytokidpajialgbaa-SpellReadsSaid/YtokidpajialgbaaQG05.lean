/- Texts that are laid together: G05. -/
import Derived.Test.YtokidpajialgbaaQG04
import Derived.Test.YtokidpajialgbaaQG03
namespace Go.Proofs.Ytokidpajialgbaa
set_option linter.unusedSimpArgs false
set_option linter.unusedVariables false
open Go.RowKit
theorem steps_newB {b : Bool} (l : List Int) (w : World) (cs : Array Value) (hc : cs = (l.map (Value.int .i64)).toArray) (n : Nat) (hn : l.length = n) (hm : n ≤ maxLen) (hb : stepS l = b) : Calls Try.prog 72 #[.slice (some ⟨w.heap.size, 0, none⟩) n n] (w.alloc (.cells cs 3)) (FitP b (w.alloc (.cells cs 3))) := by
  subst hb hc
  refine steps_any _ n n l _ (ints_of_blk (t := 3) (ys := []) ?_) hn hm
  rw [List.append_nil]
  exact heap_alloc_new w _
theorem steps_blkB {b : Bool} (l : List Int) (u : World) (N n : Nat) {ys : List Value} (hk : Blk u N 3 (l.map (Value.int .i64) ++ ys)) (hn : l.length = n) (hm : n ≤ maxLen) (hb : stepS l = b) : Calls Try.prog 72 #[.slice (some ⟨N, 0, none⟩) n n] u (FitP b u) := by
  subst hb
  exact steps_any _ n n l _ (ints_of_blk hk) hn hm
theorem fit_blkB {b : Bool} (most : Int) (l : List Int) (u : World) (N n : Nat) {ys : List Value} (hk : Blk u N 3 (l.map (Value.int .i64) ++ ys)) (hn : l.length = n) (hm : n ≤ maxLen) (hb : fitS most l = b) : Calls Try.prog 18 #[.int .i64 most, .slice (some ⟨N, 0, none⟩) n n] u (FitP b u) := by
  subst hb
  exact fit_any most _ n n l _ (ints_of_blk hk) hn hm
theorem steps_rowB {b : Bool} (A : Option Addr) (c : Nat) (l : List Int) (w : World) (n : Nat) (hv : RowV w .i64 (.slice A n c) l) (hb : stepS l = b) : Calls Try.prog 72 #[.slice A n c] w (FitP b w) := by
  subst hb
  obtain ⟨A', c', h1, h2, h3, h4, _⟩ := hv
  injection h1 with h1 h5 h6
  subst h1 h5 h6
  exact steps_any _ _ _ l w h2 rfl (by omega)
/-- may an item be? -/
def itemB (id : Int) (x : Int × List Int) : Bool := fitS 255 [(x.2.length : Int)] && if id = 40 then stepS [x.1] else fitS 255 [x.1]
/-- an item's bytes -/
def itemN (id : Int) (x : Int × List Int) : Nat := x.2.length + 2 + if id = 40 then 1 else 0
def itemsN (id : Int) (l : List (Int × List Int)) : Nat := 1 + (l.map (itemN id)).sum
def itemsB (id : Int) (l : List (Int × List Int)) : Bool := fitS 255 [(l.length : Int)] && (l.all (itemB id) && decide ((itemsN id l : Int) ≤ 65535))
theorem itemsN_step {id : Int} {l : List (Int × List Int)} {k : Nat} {x : Int × List Int} (hx : l[k]? = some x) : itemsN id (l.take (k + 1)) = itemsN id (l.take k) + itemN id x := by
  unfold itemsN
  rw [List.take_add_one, hx]
  simp
  omega
theorem fit_one {x : Int} {m : Int} (h : fitS m [x] = true) : 0 ≤ x ∧ x ≤ m := by simpa [fitS] using h
set_option maxRecDepth 100000 in
set_option maxHeartbeats 8000000 in
theorem items_any (cs : List Value) (B : TB) (w : World) (h : TBV w cs B) : Calls Try.prog 73 #[.agg cs.toArray] w (SaysB (itemsB B.id B.items) w) := by
  obtain ⟨_, d, t, i, p, s, r, hcs, -, -, ⟨A, c, rfl, h1, h2, h3⟩, -, -, -⟩ := h
  obtain ⟨id, hid⟩ : ∃ x, x = B.id := ⟨_, rfl⟩
  obtain ⟨l, hl⟩ : ∃ x, x = B.items := ⟨_, rfl⟩
  simp only [TB.cells] at hcs
  rw [← hid, ← hl] at hcs ⊢
  rw [← hl] at h1 h3
  have HL := Lib.hid h3
  obtain ⟨n, hn⟩ : ∃ n, n = l.length := ⟨_, rfl⟩
  unfold itemsB
  rw [← hn] at h1 hcs ⊢
  have HN := Lib.hid hn
  have m0 : maxLen = 9223372036854775807 := rfl
  have hn2 : n ≤ 9223372036854775807 := by omega
  obtain ⟨bx, hbx⟩ : ∃ b, b = w.heap.size := ⟨_, rfl⟩
  obtain ⟨wa, hwa⟩ : ∃ wa, wa = w.alloc (.cells cs.toArray 28) := ⟨_, rfl⟩
  have hA : Blk wa bx 28 cs := by rw [hwa, hbx]; exact Blk.new w _ cs
  have hbl : Below w.heap.size w wa := by rw [hwa]; exact (Below.refl _ w).alloc (Nat.le_refl _) _
  have HK : Hid (∀ u, Below wa.heap.size wa u → u.cell? ⟨bx, 0, none⟩ = some (.int .i64 id) ∧ u.cell? ⟨bx, 14, none⟩ = some (.slice A n c)) := Lib.hid (fun u hu => by
    have hu1 := hA.below_ hu
    rw [hcs] at hu1
    exact ⟨hu1.cell 0, hu1.cell 14⟩)
  have HBX := Lib.hid hbx; have HWA := Lib.hid hwa; have HBL := Lib.hid hbl
  have HI : Hid ((Try.prog.info? 46).map (·.size) = some 2) := by show _ = _; kernel_rfl
  clear h1 h2 h3 hn m0 hid hl hcs hbx hwa hA hbl
  go_enter Try.func73, Try.ntmps73
  go_upto_region 0 with fail
  refine wp_region_list ?_
  refine Great.wpList_boxTo rfl 28 (.tmp 0) rfl (some 1) rfl bx HBX.out.symm cs.toArray rfl ?_
  rw [← HWA.out]
  have x14 := (HK.out wa (Below.refl _ _)).2
  have y14 : ∀ o, (wa.alloc o).cell? ⟨bx, 14, none⟩ = some (.slice A n c) := fun o => (HK.out _ ((Below.refl _ wa).alloc (Nat.le_refl _) _)).2
  obtain ⟨q, hq⟩ : ∃ q, fitS 255 [(n : Int)] = q := ⟨_, rfl⟩
  have HQ := Lib.hid hq
  clear hq
  cases q
  · go_wp2_with (first
      | (go_at_call 18; refine (fit_newB 255 [(n : Int)] _ _ rfl 1 rfl (by decide) HQ.out).mono ?_; rintro e w2 ⟨rfl, rfl⟩))
    go_ret
    exact SaysB.of (by rw [HQ.out]; rfl) (HBL.out.alloc HBL.out.size _)
  go_wp2_with (first
    | (go_at_call 18; refine (fit_newB 255 [(n : Int)] _ _ rfl 1 rfl (by decide) HQ.out).mono ?_; rintro e w2 ⟨rfl, rfl⟩))
  have hn3 := (fit_one HQ.out).2
  clear x14 y14
  go_loopw [3, 15] (fun t idx wr => ∃ (k S : Nat), idx = .int .i64 k ∧ t = .int .i64 S ∧ S ≤ 1 + k * 258 ∧ k ≤ n ∧ Hid (S = itemsN id (l.take k)) ∧ Hid ((l.take k).all (itemB id) = true) ∧ Hid (Below wa.heap.size wa wr)) (fun _ idx _ => n - (intOf idx).toNat)
  case atStart => exact ⟨0, 1, rfl, rfl, by omega, Nat.zero_le _, Lib.hid rfl, Lib.hid rfl, Lib.hid ((Below.refl _ _).alloc (Nat.le_refl _) _)⟩
  case round =>
    obtain ⟨k, S, rfl, rfl, hS, hk, HS, HA, HB⟩ := hrel
    by_cases hlt : k < n
    · have hlt2 : (k : Int) < n := by omega
      obtain ⟨⟨x1, x2⟩, hB⟩ : ∃ x, l[k]? = some x := ⟨_, List.getElem?_eq_getElem (by rw [← HN.out]; exact hlt)⟩
      obtain ⟨-, g, o, rv, rfl, hr, ht⟩ := HL.out k _ hB
      have hr1 := rangeBelow hr (HBL.out.trans (HB.out.mono HBL.out.size))
      obtain ⟨A2, c2, hrv, -, hr2, hr3, -⟩ := ht
      simp only at hr1 hrv hr2
      obtain ⟨n2, hn2⟩ : ∃ n2, n2 = x2.length := ⟨_, rfl⟩
      rw [← hn2] at hrv
      subst hrv
      have HR := Lib.hid hr1; have HX := Lib.hid hB; have HN2 := Lib.hid hn2
      have v2 : IntKind.i64.wrap ((k : Int) + 1) = ((k + 1 : Nat) : Int) := by rw [IntKind.wrap_i64]; omega
      clear hr hr1 hB hn2 hr2 hr3
      go_upto_region 7 with (first
        | (refine wpList_load_mid rfl 46 (.tmp 17) rfl g (o + k * 2) rfl [.int .i64 x1, .slice A2 n2 c2] _ HR.out Try.underlying46 rfl HI.out ?_))
      obtain ⟨wb, hwb⟩ : ∃ wb, wb = wr.alloc (.cells #[.int .i64 x1, .slice A2 n2 c2] 46) := ⟨_, rfl⟩
      obtain ⟨b, hb⟩ : ∃ b, b = wr.heap.size := ⟨_, rfl⟩
      have hbk : Blk wb b 46 [.int .i64 x1, .slice A2 n2 c2] := by rw [hwb, hb]; exact Blk.new wr _ _
      have hbb : Below wr.heap.size wr wb := by rw [hwb]; exact (Below.refl _ wr).alloc (Nat.le_refl _) _
      rw [← hwb, ← hb]
      have HBB : Hid (Below wa.heap.size wa wb) := Lib.hid (HB.out.trans (hbb.mono HB.out.size))
      have HBW : Hid (Below w.heap.size w wb) := Lib.hid (HBL.out.trans (HBB.out.mono HBL.out.size))
      have x1' : wb.cell? ⟨b, 1, none⟩ = some (.slice A2 n2 c2) := hbk.cell 1
      have y0 : ∀ o, (wb.alloc o).cell? ⟨b, 0, none⟩ = some (.int .i64 x1) := fun o => (hbk.alloc o).cell 0
      have y1 : ∀ o, (wb.alloc o).cell? ⟨b, 1, none⟩ = some (.slice A2 n2 c2) := fun o => (hbk.alloc o).cell 1
      have z0 : ∀ o, (wb.alloc o).cell? ⟨bx, 0, none⟩ = some (.int .i64 id) := fun o => (HK.out _ (HBB.out.alloc HBB.out.size _)).1
      have HNO : Hid (itemB id (x1, x2) = false → (l.all (itemB id)) = false) := Lib.hid (all_no HX.out)
      have HSY : Hid (itemB id (x1, x2) = (fitS 255 [(n2 : Int)] && if id = 40 then stepS [x1] else fitS 255 [x1])) := Lib.hid (by unfold itemB; simp only; rw [← HN2.out])
      have HNX : Hid (itemN id (x1, x2) = n2 + 2 + if id = 40 then 1 else 0) := Lib.hid (by unfold itemN; simp only; rw [← HN2.out])
      generalize hq1 : fitS 255 [(n2 : Int)] = q1 at HSY
      have HQ1 := Lib.hid hq1
      clear hwb hb hbk hbb hq1
      cases q1
      · go_wp2_with (first
          | (go_at_call 18; refine (fit_newB 255 [(n2 : Int)] _ _ rfl 1 rfl (by decide) HQ1.out).mono ?_; rintro e w2 ⟨rfl, rfl⟩))
        go_ret
        exact SaysB.of (by rw [HQ.out, HNO.out (by rw [HSY.out]; rfl)]; rfl) (HBW.out.alloc HBW.out.size _)
      have hl2 := (fit_one HQ1.out).2
      by_cases hid : id = 40
      · subst hid
        generalize hq3 : stepS [x1] = q3 at HSY
        have HQ3 := Lib.hid hq3
        clear hq3
        have a1 : IntKind.i64.wrap ((n2 : Int) + 2) = ((n2 + 2 : Nat) : Int) := by rw [IntKind.wrap_i64]; omega
        have a2 : IntKind.i64.wrap ((S : Int) + ((n2 + 2 : Nat) : Int)) = ((S + (n2 + 2) : Nat) : Int) := by rw [IntKind.wrap_i64]; omega
        have a3 : IntKind.i64.wrap (((S + (n2 + 2) : Nat) : Int) + 1) = ((S + (n2 + 2) + 1 : Nat) : Int) := by rw [IntKind.wrap_i64]; omega
        cases q3
        · go_wp2_with (first
            | (go_at_call 18; refine (fit_newB 255 [(n2 : Int)] _ _ rfl 1 rfl (by decide) HQ1.out).mono ?_; rintro e w2 ⟨rfl, rfl⟩)
            | (go_at_call 72; refine (steps_blkB (ys := []) [x1] _ _ 1 (blk_alloc2_new wb _ 3 [.int .i64 x1]) rfl (by decide) HQ3.out).mono ?_; rintro e w2 ⟨rfl, rfl⟩))
          go_ret
          exact SaysB.of (by rw [HQ.out, HNO.out (by rw [HSY.out]; simp)]; rfl) ((HBW.out.alloc HBW.out.size _).alloc (by have := HBW.out.size; simp; omega) _)
        · go_wp2_with (first
            | (go_at_call 18; refine (fit_newB 255 [(n2 : Int)] _ _ rfl 1 rfl (by decide) HQ1.out).mono ?_; rintro e w2 ⟨rfl, rfl⟩)
            | (go_at_call 72; refine (steps_blkB (ys := []) [x1] _ _ 1 (blk_alloc2_new wb _ 3 [.int .i64 x1]) rfl (by decide) HQ3.out).mono ?_; rintro e w2 ⟨rfl, rfl⟩))
          go_roundw
          case rel => exact ⟨k + 1, S + (n2 + 2) + 1, by go_num, by first | rfl | simp | (congr 1; omega), by omega, by omega, Lib.hid (by rw [itemsN_step HX.out, ← HS.out, HNX.out]; simp; try omega), Lib.hid (all_step HX.out HA.out (by rw [HSY.out]; simp)), Lib.hid ((HBB.out.alloc HBB.out.size _).alloc (by have := HBB.out.size; simp; omega) _)⟩
          case measure => simp [intOf]; omega
      · rw [if_neg hid] at HSY HNX
        generalize hq3 : fitS 255 [x1] = q3 at HSY
        have HQ3 := Lib.hid hq3
        clear hq3
        have a1 : IntKind.i64.wrap ((n2 : Int) + 2) = ((n2 + 2 : Nat) : Int) := by rw [IntKind.wrap_i64]; omega
        have a2 : IntKind.i64.wrap ((S : Int) + ((n2 + 2 : Nat) : Int)) = ((S + (n2 + 2) : Nat) : Int) := by rw [IntKind.wrap_i64]; omega
        have hne : (id == 40) = false := by simpa using hid
        cases q3
        · go_wp2_with (first
            | (go_at_call_of 18 (Value.slice (some ⟨wb.heap.size, 0, none⟩) 1 1); refine (fit_newB 255 [(n2 : Int)] _ _ rfl 1 rfl (by decide) HQ1.out).mono ?_; rintro e w2 ⟨rfl, rfl⟩)
            | (go_at_call 18; refine (fit_blkB (ys := []) 255 [x1] _ _ 1 (blk_alloc2_new wb _ 3 [.int .i64 x1]) rfl (by decide) HQ3.out).mono ?_; rintro e w2 ⟨rfl, rfl⟩))
          go_ret
          exact SaysB.of (by rw [HQ.out, HNO.out (by rw [HSY.out]; simp)]; rfl) ((HBW.out.alloc HBW.out.size _).alloc (by have := HBW.out.size; simp; omega) _)
        · go_wp2_with (first
            | (go_at_call_of 18 (Value.slice (some ⟨wb.heap.size, 0, none⟩) 1 1); refine (fit_newB 255 [(n2 : Int)] _ _ rfl 1 rfl (by decide) HQ1.out).mono ?_; rintro e w2 ⟨rfl, rfl⟩)
            | (go_at_call 18; refine (fit_blkB (ys := []) 255 [x1] _ _ 1 (blk_alloc2_new wb _ 3 [.int .i64 x1]) rfl (by decide) HQ3.out).mono ?_; rintro e w2 ⟨rfl, rfl⟩))
          go_roundw
          case rel => exact ⟨k + 1, S + (n2 + 2), by go_num, by first | rfl | simp | (congr 1; omega), by omega, by omega, Lib.hid (by rw [itemsN_step HX.out, ← HS.out, HNX.out]; try simp; try omega), Lib.hid (all_step HX.out HA.out (by rw [HSY.out]; simp)), Lib.hid ((HBB.out.alloc HBB.out.size _).alloc (by have := HBB.out.size; simp; omega) _)⟩
          case measure => simp [intOf]; omega
    · have hlt2 : ¬ (k : Int) < n := by omega
      go_wp2_with fail
      go_ret
      refine SaysB.of ?_ (HBL.out.trans (HB.out.mono HBL.out.size))
      have h1 := HA.out; have h2 := HS.out
      rw [List.take_of_length_le (by rw [← HN.out]; omega)] at h1 h2
      rw [HQ.out, h1, Bool.true_and, Bool.true_and, ← h2]
end Go.Proofs.Ytokidpajialgbaa
namespace Go.Proofs.Ytokidpajialgbaa
set_option linter.unusedSimpArgs false
set_option linter.unusedVariables false
open Go.RowKit Go.Sort
theorem txt8_list (l : List Int) : (txt8 l).toList = l.map (fun x => UInt8.ofNat x.toNat) := by rw [ByteArray.toList_eq]; simp [txt8]
theorem map_inj8 : ∀ (l m : List Int), (∀ x ∈ l, 0 ≤ x ∧ x ≤ 255) → (∀ x ∈ m, 0 ≤ x ∧ x ≤ 255) → l.map (fun x => UInt8.ofNat x.toNat) = m.map (fun x => UInt8.ofNat x.toNat) → l = m
  | [], [], _, _, _ => rfl
  | [], y :: m, _, _, h => by simp at h
  | x :: l, [], _, _, h => by simp at h
  | x :: l, y :: m, hl, hm, h => by
    rw [List.map_cons, List.map_cons] at h
    injection h with h1 h2
    have := map_inj8 l m (fun z hz => hl z (by simp [hz])) (fun z hz => hm z (by simp [hz])) h2
    have hx := hl x (by simp)
    have hy := hm y (by simp)
    have h3 := congrArg UInt8.toNat h1
    simp at h3
    have : x = y := by omega
    rw [this, ‹l = m›]
theorem txt8_eq (l m : List Int) (hl : ∀ x ∈ l, (Lit.int .u8 x).wf = true) (hm : ∀ x ∈ m, (Lit.int .u8 x).wf = true) : ((txt8 l).toList == (txt8 m).toList) = decide (l = m) := by
  have w8 : ∀ x, (Lit.int .u8 x).wf = true → 0 ≤ x ∧ x ≤ 255 := fun x h => by
    simp [Lit.wf, IntKind.min, IntKind.max, IntKind.bits, IntKind.signed] at h
    omega
  rw [txt8_list, txt8_list]
  by_cases h : l = m
  · rw [h]; simp
  · rw [decide_eq_false h]
    exact beq_false_of_ne fun e => h (map_inj8 l m (fun x hx => w8 x (hl x hx)) (fun x hx => w8 x (hm x hx)) e)
theorem RowV.conv {w : World} {A : Option Addr} {n c : Nat} {l : List Int} (h : Ints w A .u8 l) (hn : l.length = n) : (convert 22 9 (.slice A n c)).run Try.prog w = .ok (.string (txt8 l)) w := conv_ints w A n c l h hn
set_option maxRecDepth 100000 in
set_option maxHeartbeats 4000000 in
theorem item1_any (a b : Int) (r1 r2 : Value) (p q : List Int) (w : World) (h1 : RowV w .u8 r1 p) (h2 : RowV w .u8 r2 q) : Calls Try.prog 59 #[.agg #[.int .i64 a, r1], .agg #[.int .i64 b, r2]] w (SaysB (decide (a = b ∧ p = q)) w) := by
  obtain ⟨A1, c1, rfl, i1, _, _, w1⟩ := h1
  obtain ⟨A2, c2, rfl, i2, _, _, w2⟩ := h2
  have hcmp := txt8_eq p q w1 w2
  obtain ⟨n1, hn1⟩ : ∃ n, n = p.length := ⟨_, rfl⟩
  obtain ⟨n2, hn2⟩ : ∃ n, n = q.length := ⟨_, rfl⟩
  rw [← hn1, ← hn2]
  obtain ⟨wo, hwo⟩ : ∃ wo, wo = (w.alloc (.cells #[.int .i64 a, .slice A1 n1 c1] 46)).alloc (.cells #[.int .i64 b, .slice A2 n2 c2] 46) := ⟨_, rfl⟩
  have hbel : Below w.heap.size w wo := by rw [hwo]; exact ((Below.refl _ w).alloc (Nat.le_refl _) _).alloc (by simp) _
  have hc1 := RowV.conv (c := c1) (Cells.below i1 hbel) hn1.symm
  have hc2 := RowV.conv (c := c2) (Cells.below i2 hbel) hn2.symm
  have HB := Lib.hid hbel
  rw [hwo] at hc1 hc2 HB
  obtain ⟨T1, hT1⟩ : ∃ T, T = txt8 p := ⟨_, rfl⟩
  obtain ⟨T2, hT2⟩ : ∃ T, T = txt8 q := ⟨_, rfl⟩
  rw [← hT1] at hc1 hcmp; rw [← hT2] at hc2 hcmp
  clear i1 i2 hn1 hn2 hwo hbel hT1 hT2 w1 w2
  by_cases hab : a = b
  · subst hab
    by_cases hpq : p = q
    · rw [decide_eq_true ⟨rfl, hpq⟩]
      rw [decide_eq_true hpq] at hcmp
      clear hpq
      go_enter Try.func59, Try.ntmps59
      go_wp2_with fail
      go_ret
      exact ⟨rfl, HB.out⟩
    · rw [decide_eq_false (fun h => hpq h.2)]
      rw [decide_eq_false hpq] at hcmp
      clear hpq
      go_enter Try.func59, Try.ntmps59
      go_wp2_with fail
      go_ret
      exact ⟨rfl, HB.out⟩
  · rw [decide_eq_false (fun h => hab h.1)]
    have hne : (a == b) = false := by simpa using hab
    clear hcmp
    go_enter Try.func59, Try.ntmps59
    go_wp2_with fail
    go_ret
    exact ⟨rfl, HB.out⟩
set_option maxRecDepth 100000 in
set_option maxHeartbeats 4000000 in
theorem sym1_any (a b : Int) (r1 r2 : Value) (p q : List Int) (w : World) (h1 : RowV w .i64 r1 p) (h2 : RowV w .i64 r2 q) : Calls Try.prog 88 #[.agg #[.int .i64 a, r1], .agg #[.int .i64 b, r2]] w (SaysB (decide (a = b ∧ p = q)) w) := by
  have hb : Below w.heap.size w ((w.alloc (.cells #[.int .i64 a, r1] 48)).alloc (.cells #[.int .i64 b, r2] 48)) := ((Below.refl _ w).alloc (Nat.le_refl _) _).alloc (by simp) _
  have HB := Lib.hid hb
  have HE := Lib.hid (fun u (hu : Below w.heap.size w u) => eqInts_any r1 r2 p q u (h1.below hu) (h2.below hu))
  obtain ⟨A1, c1, rfl, -⟩ := h1
  obtain ⟨A2, c2, rfl, -⟩ := h2
  clear hb
  by_cases hab : a = b
  · subst hab
    rw [show decide (a = a ∧ p = q) = decide (p = q) by simp]
    generalize decide (p = q) = r at HE ⊢
    go_enter Try.func88, Try.ntmps88
    go_wp2_with (first
      | (go_at_call 60; refine (HE.out _ HB.out).mono ?_; rintro e w2 ⟨rfl, hb2⟩))
    go_ret
    exact ⟨rfl, HB.out.trans (hb2.mono HB.out.size)⟩
  · rw [decide_eq_false (fun h => hab h.1)]
    have hne : (a == b) = false := by simpa using hab
    clear HE
    go_enter Try.func88, Try.ntmps88
    go_wp2_with fail
    go_ret
    exact ⟨rfl, HB.out⟩
end Go.Proofs.Ytokidpajialgbaa
