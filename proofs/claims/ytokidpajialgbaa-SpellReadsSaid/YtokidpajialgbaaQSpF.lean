/- slices.EqualFunc over items, symbols, blocks, by what compares two of them. Written by gen_spf.py. -/
import Derived.Test.YtokidpajialgbaaQG05
namespace Go.Proofs.Ytokidpajialgbaa
set_option linter.unusedSimpArgs false
set_option linter.unusedVariables false
open Go.RowKit Go.Sort
/-- elements that stand in a row -/
def ElemsAt (w : World) (A : Option Addr) (S n : Nat) (E : Nat → List Value) : Prop := ∀ k, k < n → ∃ g o : Nat, A = some ⟨g, o, none⟩ ∧ w.rangeAt g (o + k * S) (E k) ∧ (E k).length = S ∧ (E k).toArray.all (·.oneCell') = true
theorem ElemsAt.below {w w' : World} {A : Option Addr} {S n : Nat} {E : Nat → List Value} (h : ElemsAt w A S n E) (hb : Below w.heap.size w w') : ElemsAt w' A S n E := fun k hk => by
  obtain ⟨g, o, h1, h2, h3⟩ := h k hk
  exact ⟨g, o, h1, rangeBelow h2 hb, h3⟩
/-- are all of so many true? -/
def allK (eq : Nat → Bool) (n : Nat) : Bool := (List.range n).all eq
theorem allK_of {eq : Nat → Bool} {n : Nat} (h : ∀ j, j < n → eq j = true) : allK eq n = true := by
  unfold allK; rw [List.all_eq_true]; intro j hj; exact h j (List.mem_range.1 hj)
theorem allK_not {eq : Nat → Bool} {n k : Nat} (hk : k < n) (h : eq k = false) : allK eq n = false := by
  cases he : allK eq n with
  | false => rfl
  | true =>
    unfold allK at he
    rw [List.all_eq_true] at he
    rw [he k (List.mem_range.2 hk)] at h; cases h
theorem blkR {u : World} {g : Nat} {t : TypeId} {cs : List Value} (h : Blk u g t cs) : u.rangeAt g 0 cs := fun j v hv => by rw [Nat.zero_add]; exact (h.cell j).trans hv
theorem wpList_allocToS {P : Program} {ops : Array Oper} {rest : List Oper} {o : Oper} {a : Act} {w : World} {Q : Exit → Act → World → Prop} (hg : o.guard = none) (t : TypeId) (ho : o.op = .alloc t)
    (dst : Option Tmp) (hdst : o.dst = dst) (N : Nat) (hN : w.heap.size = N) (Z : Value) (hz : (P.info? t).bind (·.zero) = some Z)
    (h : wpList P ops Q rest (a.put dst (.pointer (some ⟨N, 0, none⟩))) (w.alloc (.cells Z.cells t))) : wpList P ops Q (o :: rest) a w := by
  subst hdst hN
  obtain ⟨i, hi, hzz⟩ := Option.bind_eq_some_iff.1 hz
  refine wpList_plain hg fun K hK => ?_
  unfold Oper.wp execOp
  have hzr : (zeroValue t).run P w = .ok Z w := by
    unfold zeroValue typeInfo
    simp [Sem.run_bind, hi, hzz]
  simp only [ho, Sem.run_bind, Instr.alloc, newVar, newRow, run_newObj_alloc, Sem.run_pure, Result.andThen_ok, hzr]
  exact hK _ _ h
theorem infoItems : (Try.prog.info? 46).map (·.size) = some 2 := by kernel_rfl
theorem zeroItems : ∃ Z : Array Value, (Try.prog.info? 46).bind (·.zero) = some (.agg Z) ∧ Z.size = 2 := by
  have h : ((Try.prog.info? 46).bind (·.zero)).map (fun z => match z with | .agg c => c.size == 2 | _ => false) = some true := by kernel_rfl
  cases hz : (Try.prog.info? 46).bind (·.zero) with
  | none => rw [hz] at h; cases h
  | some z =>
    rw [hz] at h
    cases z with
    | agg c =>
      have h' : (c.size == 2) = true := by injection h
      exact ⟨c, rfl, by simpa using h'⟩
    | _ => cases h
set_option maxRecDepth 100000 in
set_option maxHeartbeats 8000000 in
theorem eqFuncItems (A1 A2 : Option Addr) (n1 n2 c1 c2 : Nat) (E1 E2 : Nat → List Value) (eq : Nat → Bool) (w : World) (h1 : ElemsAt w A1 2 n1 E1) (h2 : ElemsAt w A2 2 n2 E2) (hm : n1 ≤ maxLen)
    (hf : ∀ k, k < n1 → k < n2 → ∀ u, Below w.heap.size w u → Calls Try.prog 59 #[.agg (E1 k).toArray, .agg (E2 k).toArray] u (SaysB (eq k) u)) :
    Calls Try.prog 58 #[.slice A1 n1 c1, .slice A2 n2 c2, .func (.func 59) #[] #[]] w (SaysB (decide (n1 = n2) && allK eq n1) w) := by
  have m0 : maxLen = 9223372036854775807 := rfl
  by_cases hn : n1 = n2
  · subst hn
    rw [decide_eq_true rfl, Bool.true_and]
    have H1 := Lib.hid h1; have H2 := Lib.hid h2; have HF := Lib.hid hf
    have hn2 : n1 ≤ 9223372036854775807 := by omega
    obtain ⟨Z, hZ, hZs⟩ := zeroItems
    have HZ := Lib.hid hZ; have HZS := Lib.hid hZs
    clear h1 h2 hf hm m0 hZ hZs
    go_enter Try.func58, Try.ntmps58
    go_wp2_with fail
    go_loopw [7, 8, 9, 17] (fun _ _ _ idx wr => ∃ (k : Nat), idx = .int .i64 k ∧ k ≤ n1 ∧ Hid (∀ j, j < k → eq j = true) ∧ Hid (Below w.heap.size w wr)) (fun _ _ _ idx _ => n1 - (intOf idx).toNat)
    case atStart => exact ⟨0, rfl, Nat.zero_le _, Lib.hid (fun j hj => absurd hj (by omega)), Lib.hid (Below.refl _ _)⟩
    case round =>
      obtain ⟨k, rfl, hk, HE, HB⟩ := hrel
      by_cases hlt : k < n1
      · have hlt2 : (k : Int) < n1 := by omega
        obtain ⟨g1, o1, rfl, hr1, hl1, ho1⟩ := (H1.out.below HB.out) k hlt
        obtain ⟨g2, o2, rfl, hr2, hl2, ho2⟩ := (H2.out.below HB.out) k hlt
        have v2 : IntKind.i64.wrap ((k : Int) + 1) = ((k + 1 : Nat) : Int) := by rw [IntKind.wrap_i64]; omega
        obtain ⟨e1, he1⟩ : ∃ e, e = E1 k := ⟨_, rfl⟩
        obtain ⟨e2, he2⟩ : ∃ e, e = E2 k := ⟨_, rfl⟩
        rw [← he1] at hr1 hl1 ho1; rw [← he2] at hr2 hl2 ho2
        obtain ⟨b, hb⟩ : ∃ b, b = wr.heap.size := ⟨_, rfl⟩
        obtain ⟨wa, hwa⟩ : ∃ wa, wa = wr.alloc (.cells e1.toArray 46) := ⟨_, rfl⟩
        obtain ⟨wb, hwb⟩ : ∃ wb, wb = wa.alloc (.cells e2.toArray 46) := ⟨_, rfl⟩
        obtain ⟨ba, hsa⟩ : ∃ ba, ba = wa.heap.size := ⟨_, rfl⟩
        have hsz : wr.heap.size ≤ wa.heap.size := by rw [hwa]; simp
        have hba : Below wr.heap.size wr wa := by rw [hwa]; exact (Below.refl _ wr).alloc (Nat.le_refl _) _
        have hbab : Below wa.heap.size wa wb := by rw [hwb]; exact (Below.refl _ wa).alloc (Nat.le_refl _) _
        have hX1 : Blk wa b 46 e1 := by rw [hwa, hb]; exact Blk.new wr _ _
        have HX1 : Hid (wb.rangeAt b 0 e1) := Lib.hid (blkR (hX1.below_ hbab))
        have HX2 : Hid (wb.rangeAt ba 0 e2) := by show World.rangeAt _ _ _ _; rw [hwb, hsa]; exact blkR (Blk.new wa _ _)
        have HR1 := Lib.hid hr1
        have HR2 : Hid (wa.rangeAt g2 (o2 + k * 2) e2) := Lib.hid (rangeBelow hr2 hba)
        have HI1 : Hid ((Try.prog.info? 46).map (·.size) = some e1.length) := by show _ = _; rw [infoItems, hl1]
        have HI2 : Hid ((Try.prog.info? 46).map (·.size) = some e2.length) := by show _ = _; rw [infoItems, hl2]
        have HO1 := Lib.hid ho1; have HO2 := Lib.hid ho2
        have HL1 := Lib.hid hl1; have HL2 := Lib.hid hl2
        have HBB : Hid (Below w.heap.size w wb) := Lib.hid (HB.out.trans ((hba.trans (hbab.mono hsz)).mono HB.out.size))
        have HC : Hid (Calls Try.prog 59 #[.agg e1.toArray, .agg e2.toArray] wb (SaysB (eq k) wb)) := by show Calls _ _ _ _ _; rw [he1, he2]; exact HF.out k hlt hlt wb HBB.out
        have HbE := Lib.hid hb; have HWA := Lib.hid hwa; have HWB := Lib.hid hwb; have HSA := Lib.hid hsa
        generalize hbv : eq k = bv at HC
        have HBV := Lib.hid hbv
        clear hr1 hr2 hl1 hl2 ho1 ho2 he1 he2 hba hbab hX1 hb hwa hwb hsa hbv hsz
        go_wp2_with (first
          | (refine wpList_load_mid rfl 46 (.tmp 20) rfl g1 (o1 + k * 2) rfl e1 _ HR1.out Try.underlying46 rfl HI1.out ?_)
          | (refine wpList_load_mid rfl 46 (.tmp 24) rfl g2 (o2 + k * 2) rfl e2 _ HR2.out Try.underlying46 rfl HI2.out ?_)
          | (refine wpList_load_mid rfl 46 (.tmp 8) rfl b 0 rfl e1 _ HX1.out Try.underlying46 rfl HI1.out ?_)
          | (refine wpList_load_mid rfl 46 (.tmp 9) rfl ba 0 rfl e2 _ HX2.out Try.underlying46 rfl HI2.out ?_)
          | (refine wpList_allocToS rfl 46 rfl (some 8) rfl b HbE.out.symm (.agg Z) HZ.out ?_)
          | (refine wpList_allocToS rfl 46 rfl (some 9) rfl ba HSA.out.symm (.agg Z) HZ.out ?_)
          | (refine wpList_store_rowTo rfl 46 (.tmp 8) (.tmp 21) rfl rfl b e1.toArray rfl rfl 46 _ (by rw [HbE.out]; exact heap_alloc_new wr _) (by rw [HI1.out]; simp) (by show Z.size = _; rw [HZS.out]; simp; exact HL1.out.symm) HO1.out ?_; rw [HbE.out, World.setRow_alloc_new, ← HWA.out, ← HbE.out])
          | (refine wpList_store_rowTo rfl 46 (.tmp 9) (.tmp 25) rfl rfl ba e2.toArray rfl rfl 46 _ (by rw [HSA.out]; exact heap_alloc_new wa _) (by rw [HI2.out]; simp) (by show Z.size = _; rw [HZS.out]; simp; exact HL2.out.symm) HO2.out ?_; rw [HSA.out, World.setRow_alloc_new, ← HWB.out, ← HSA.out])
          | (go_at_call 59; refine HC.out.mono ?_; rintro e w3 ⟨rfl, hb3⟩; have HB3 : Hid (Below w.heap.size w w3) := Lib.hid (HBB.out.trans (hb3.mono HBB.out.size)); clear hb3; cases bv))
        · go_ret
          exact SaysB.of (allK_not hlt HBV.out).symm HB3.out
        · go_roundw
          case rel => exact ⟨k + 1, by go_num, by omega, Lib.hid (fun j hj => by
            rcases Nat.lt_or_ge j k with h | h
            · exact HE.out j h
            · rw [show j = k by omega]; exact HBV.out), HB3⟩
          case measure => simp [intOf]; omega
      · have hlt2 : ¬ (k : Int) < n1 := by omega
        go_wp2_with fail
        go_ret
        exact SaysB.of (allK_of (fun j hj => HE.out j (by omega))).symm HB.out
  · have hne : ((n1 : Int) == n2) = false := by simp; omega
    rw [decide_eq_false hn, Bool.false_and]
    clear hn m0 h1 h2 hf hm
    go_enter Try.func58, Try.ntmps58
    go_wp2_with fail
    go_ret
    exact ⟨rfl, Below.refl _ _⟩
theorem infoSyms : (Try.prog.info? 48).map (·.size) = some 2 := by kernel_rfl
theorem zeroSyms : ∃ Z : Array Value, (Try.prog.info? 48).bind (·.zero) = some (.agg Z) ∧ Z.size = 2 := by
  have h : ((Try.prog.info? 48).bind (·.zero)).map (fun z => match z with | .agg c => c.size == 2 | _ => false) = some true := by kernel_rfl
  cases hz : (Try.prog.info? 48).bind (·.zero) with
  | none => rw [hz] at h; cases h
  | some z =>
    rw [hz] at h
    cases z with
    | agg c =>
      have h' : (c.size == 2) = true := by injection h
      exact ⟨c, rfl, by simpa using h'⟩
    | _ => cases h
set_option maxRecDepth 100000 in
set_option maxHeartbeats 8000000 in
theorem eqFuncSyms (A1 A2 : Option Addr) (n1 n2 c1 c2 : Nat) (E1 E2 : Nat → List Value) (eq : Nat → Bool) (w : World) (h1 : ElemsAt w A1 2 n1 E1) (h2 : ElemsAt w A2 2 n2 E2) (hm : n1 ≤ maxLen)
    (hf : ∀ k, k < n1 → k < n2 → ∀ u, Below w.heap.size w u → Calls Try.prog 88 #[.agg (E1 k).toArray, .agg (E2 k).toArray] u (SaysB (eq k) u)) :
    Calls Try.prog 87 #[.slice A1 n1 c1, .slice A2 n2 c2, .func (.func 88) #[] #[]] w (SaysB (decide (n1 = n2) && allK eq n1) w) := by
  have m0 : maxLen = 9223372036854775807 := rfl
  by_cases hn : n1 = n2
  · subst hn
    rw [decide_eq_true rfl, Bool.true_and]
    have H1 := Lib.hid h1; have H2 := Lib.hid h2; have HF := Lib.hid hf
    have hn2 : n1 ≤ 9223372036854775807 := by omega
    obtain ⟨Z, hZ, hZs⟩ := zeroSyms
    have HZ := Lib.hid hZ; have HZS := Lib.hid hZs
    clear h1 h2 hf hm m0 hZ hZs
    go_enter Try.func87, Try.ntmps87
    go_wp2_with fail
    go_loopw [7, 8, 9, 17] (fun _ _ _ idx wr => ∃ (k : Nat), idx = .int .i64 k ∧ k ≤ n1 ∧ Hid (∀ j, j < k → eq j = true) ∧ Hid (Below w.heap.size w wr)) (fun _ _ _ idx _ => n1 - (intOf idx).toNat)
    case atStart => exact ⟨0, rfl, Nat.zero_le _, Lib.hid (fun j hj => absurd hj (by omega)), Lib.hid (Below.refl _ _)⟩
    case round =>
      obtain ⟨k, rfl, hk, HE, HB⟩ := hrel
      by_cases hlt : k < n1
      · have hlt2 : (k : Int) < n1 := by omega
        obtain ⟨g1, o1, rfl, hr1, hl1, ho1⟩ := (H1.out.below HB.out) k hlt
        obtain ⟨g2, o2, rfl, hr2, hl2, ho2⟩ := (H2.out.below HB.out) k hlt
        have v2 : IntKind.i64.wrap ((k : Int) + 1) = ((k + 1 : Nat) : Int) := by rw [IntKind.wrap_i64]; omega
        obtain ⟨e1, he1⟩ : ∃ e, e = E1 k := ⟨_, rfl⟩
        obtain ⟨e2, he2⟩ : ∃ e, e = E2 k := ⟨_, rfl⟩
        rw [← he1] at hr1 hl1 ho1; rw [← he2] at hr2 hl2 ho2
        obtain ⟨b, hb⟩ : ∃ b, b = wr.heap.size := ⟨_, rfl⟩
        obtain ⟨wa, hwa⟩ : ∃ wa, wa = wr.alloc (.cells e1.toArray 48) := ⟨_, rfl⟩
        obtain ⟨wb, hwb⟩ : ∃ wb, wb = wa.alloc (.cells e2.toArray 48) := ⟨_, rfl⟩
        obtain ⟨ba, hsa⟩ : ∃ ba, ba = wa.heap.size := ⟨_, rfl⟩
        have hsz : wr.heap.size ≤ wa.heap.size := by rw [hwa]; simp
        have hba : Below wr.heap.size wr wa := by rw [hwa]; exact (Below.refl _ wr).alloc (Nat.le_refl _) _
        have hbab : Below wa.heap.size wa wb := by rw [hwb]; exact (Below.refl _ wa).alloc (Nat.le_refl _) _
        have hX1 : Blk wa b 48 e1 := by rw [hwa, hb]; exact Blk.new wr _ _
        have HX1 : Hid (wb.rangeAt b 0 e1) := Lib.hid (blkR (hX1.below_ hbab))
        have HX2 : Hid (wb.rangeAt ba 0 e2) := by show World.rangeAt _ _ _ _; rw [hwb, hsa]; exact blkR (Blk.new wa _ _)
        have HR1 := Lib.hid hr1
        have HR2 : Hid (wa.rangeAt g2 (o2 + k * 2) e2) := Lib.hid (rangeBelow hr2 hba)
        have HI1 : Hid ((Try.prog.info? 48).map (·.size) = some e1.length) := by show _ = _; rw [infoSyms, hl1]
        have HI2 : Hid ((Try.prog.info? 48).map (·.size) = some e2.length) := by show _ = _; rw [infoSyms, hl2]
        have HO1 := Lib.hid ho1; have HO2 := Lib.hid ho2
        have HL1 := Lib.hid hl1; have HL2 := Lib.hid hl2
        have HBB : Hid (Below w.heap.size w wb) := Lib.hid (HB.out.trans ((hba.trans (hbab.mono hsz)).mono HB.out.size))
        have HC : Hid (Calls Try.prog 88 #[.agg e1.toArray, .agg e2.toArray] wb (SaysB (eq k) wb)) := by show Calls _ _ _ _ _; rw [he1, he2]; exact HF.out k hlt hlt wb HBB.out
        have HbE := Lib.hid hb; have HWA := Lib.hid hwa; have HWB := Lib.hid hwb; have HSA := Lib.hid hsa
        generalize hbv : eq k = bv at HC
        have HBV := Lib.hid hbv
        clear hr1 hr2 hl1 hl2 ho1 ho2 he1 he2 hba hbab hX1 hb hwa hwb hsa hbv hsz
        go_wp2_with (first
          | (refine wpList_load_mid rfl 48 (.tmp 20) rfl g1 (o1 + k * 2) rfl e1 _ HR1.out Try.underlying48 rfl HI1.out ?_)
          | (refine wpList_load_mid rfl 48 (.tmp 24) rfl g2 (o2 + k * 2) rfl e2 _ HR2.out Try.underlying48 rfl HI2.out ?_)
          | (refine wpList_load_mid rfl 48 (.tmp 8) rfl b 0 rfl e1 _ HX1.out Try.underlying48 rfl HI1.out ?_)
          | (refine wpList_load_mid rfl 48 (.tmp 9) rfl ba 0 rfl e2 _ HX2.out Try.underlying48 rfl HI2.out ?_)
          | (refine wpList_allocToS rfl 48 rfl (some 8) rfl b HbE.out.symm (.agg Z) HZ.out ?_)
          | (refine wpList_allocToS rfl 48 rfl (some 9) rfl ba HSA.out.symm (.agg Z) HZ.out ?_)
          | (refine wpList_store_rowTo rfl 48 (.tmp 8) (.tmp 21) rfl rfl b e1.toArray rfl rfl 48 _ (by rw [HbE.out]; exact heap_alloc_new wr _) (by rw [HI1.out]; simp) (by show Z.size = _; rw [HZS.out]; simp; exact HL1.out.symm) HO1.out ?_; rw [HbE.out, World.setRow_alloc_new, ← HWA.out, ← HbE.out])
          | (refine wpList_store_rowTo rfl 48 (.tmp 9) (.tmp 25) rfl rfl ba e2.toArray rfl rfl 48 _ (by rw [HSA.out]; exact heap_alloc_new wa _) (by rw [HI2.out]; simp) (by show Z.size = _; rw [HZS.out]; simp; exact HL2.out.symm) HO2.out ?_; rw [HSA.out, World.setRow_alloc_new, ← HWB.out, ← HSA.out])
          | (go_at_call 88; refine HC.out.mono ?_; rintro e w3 ⟨rfl, hb3⟩; have HB3 : Hid (Below w.heap.size w w3) := Lib.hid (HBB.out.trans (hb3.mono HBB.out.size)); clear hb3; cases bv))
        · go_ret
          exact SaysB.of (allK_not hlt HBV.out).symm HB3.out
        · go_roundw
          case rel => exact ⟨k + 1, by go_num, by omega, Lib.hid (fun j hj => by
            rcases Nat.lt_or_ge j k with h | h
            · exact HE.out j h
            · rw [show j = k by omega]; exact HBV.out), HB3⟩
          case measure => simp [intOf]; omega
      · have hlt2 : ¬ (k : Int) < n1 := by omega
        go_wp2_with fail
        go_ret
        exact SaysB.of (allK_of (fun j hj => HE.out j (by omega))).symm HB.out
  · have hne : ((n1 : Int) == n2) = false := by simp; omega
    rw [decide_eq_false hn, Bool.false_and]
    clear hn m0 h1 h2 hf hm
    go_enter Try.func87, Try.ntmps87
    go_wp2_with fail
    go_ret
    exact ⟨rfl, Below.refl _ _⟩
theorem infoBlks : (Try.prog.info? 28).map (·.size) = some 18 := by kernel_rfl
theorem zeroBlks : ∃ Z : Array Value, (Try.prog.info? 28).bind (·.zero) = some (.agg Z) ∧ Z.size = 18 := by
  have h : ((Try.prog.info? 28).bind (·.zero)).map (fun z => match z with | .agg c => c.size == 18 | _ => false) = some true := by kernel_rfl
  cases hz : (Try.prog.info? 28).bind (·.zero) with
  | none => rw [hz] at h; cases h
  | some z =>
    rw [hz] at h
    cases z with
    | agg c =>
      have h' : (c.size == 18) = true := by injection h
      exact ⟨c, rfl, by simpa using h'⟩
    | _ => cases h
set_option maxRecDepth 100000 in
set_option maxHeartbeats 8000000 in
theorem eqFuncBlks (A1 A2 : Option Addr) (n1 n2 c1 c2 : Nat) (E1 E2 : Nat → List Value) (eq : Nat → Bool) (w : World) (h1 : ElemsAt w A1 18 n1 E1) (h2 : ElemsAt w A2 18 n2 E2) (hm : n1 ≤ maxLen)
    (hf : ∀ k, k < n1 → k < n2 → ∀ u, Below w.heap.size w u → Calls Try.prog 30 #[.agg (E1 k).toArray, .agg (E2 k).toArray] u (SaysB (eq k) u)) :
    Calls Try.prog 29 #[.slice A1 n1 c1, .slice A2 n2 c2, .func (.func 30) #[] #[]] w (SaysB (decide (n1 = n2) && allK eq n1) w) := by
  have m0 : maxLen = 9223372036854775807 := rfl
  by_cases hn : n1 = n2
  · subst hn
    rw [decide_eq_true rfl, Bool.true_and]
    have H1 := Lib.hid h1; have H2 := Lib.hid h2; have HF := Lib.hid hf
    have hn2 : n1 ≤ 9223372036854775807 := by omega
    obtain ⟨Z, hZ, hZs⟩ := zeroBlks
    have HZ := Lib.hid hZ; have HZS := Lib.hid hZs
    clear h1 h2 hf hm m0 hZ hZs
    go_enter Try.func29, Try.ntmps29
    go_wp2_with fail
    go_loopw [7, 8, 9, 17] (fun _ _ _ idx wr => ∃ (k : Nat), idx = .int .i64 k ∧ k ≤ n1 ∧ Hid (∀ j, j < k → eq j = true) ∧ Hid (Below w.heap.size w wr)) (fun _ _ _ idx _ => n1 - (intOf idx).toNat)
    case atStart => exact ⟨0, rfl, Nat.zero_le _, Lib.hid (fun j hj => absurd hj (by omega)), Lib.hid (Below.refl _ _)⟩
    case round =>
      obtain ⟨k, rfl, hk, HE, HB⟩ := hrel
      by_cases hlt : k < n1
      · have hlt2 : (k : Int) < n1 := by omega
        obtain ⟨g1, o1, rfl, hr1, hl1, ho1⟩ := (H1.out.below HB.out) k hlt
        obtain ⟨g2, o2, rfl, hr2, hl2, ho2⟩ := (H2.out.below HB.out) k hlt
        have v2 : IntKind.i64.wrap ((k : Int) + 1) = ((k + 1 : Nat) : Int) := by rw [IntKind.wrap_i64]; omega
        obtain ⟨e1, he1⟩ : ∃ e, e = E1 k := ⟨_, rfl⟩
        obtain ⟨e2, he2⟩ : ∃ e, e = E2 k := ⟨_, rfl⟩
        rw [← he1] at hr1 hl1 ho1; rw [← he2] at hr2 hl2 ho2
        obtain ⟨b, hb⟩ : ∃ b, b = wr.heap.size := ⟨_, rfl⟩
        obtain ⟨wa, hwa⟩ : ∃ wa, wa = wr.alloc (.cells e1.toArray 28) := ⟨_, rfl⟩
        obtain ⟨wb, hwb⟩ : ∃ wb, wb = wa.alloc (.cells e2.toArray 28) := ⟨_, rfl⟩
        obtain ⟨ba, hsa⟩ : ∃ ba, ba = wa.heap.size := ⟨_, rfl⟩
        have hsz : wr.heap.size ≤ wa.heap.size := by rw [hwa]; simp
        have hba : Below wr.heap.size wr wa := by rw [hwa]; exact (Below.refl _ wr).alloc (Nat.le_refl _) _
        have hbab : Below wa.heap.size wa wb := by rw [hwb]; exact (Below.refl _ wa).alloc (Nat.le_refl _) _
        have hX1 : Blk wa b 28 e1 := by rw [hwa, hb]; exact Blk.new wr _ _
        have HX1 : Hid (wb.rangeAt b 0 e1) := Lib.hid (blkR (hX1.below_ hbab))
        have HX2 : Hid (wb.rangeAt ba 0 e2) := by show World.rangeAt _ _ _ _; rw [hwb, hsa]; exact blkR (Blk.new wa _ _)
        have HR1 := Lib.hid hr1
        have HR2 : Hid (wa.rangeAt g2 (o2 + k * 18) e2) := Lib.hid (rangeBelow hr2 hba)
        have HI1 : Hid ((Try.prog.info? 28).map (·.size) = some e1.length) := by show _ = _; rw [infoBlks, hl1]
        have HI2 : Hid ((Try.prog.info? 28).map (·.size) = some e2.length) := by show _ = _; rw [infoBlks, hl2]
        have HO1 := Lib.hid ho1; have HO2 := Lib.hid ho2
        have HL1 := Lib.hid hl1; have HL2 := Lib.hid hl2
        have HBB : Hid (Below w.heap.size w wb) := Lib.hid (HB.out.trans ((hba.trans (hbab.mono hsz)).mono HB.out.size))
        have HC : Hid (Calls Try.prog 30 #[.agg e1.toArray, .agg e2.toArray] wb (SaysB (eq k) wb)) := by show Calls _ _ _ _ _; rw [he1, he2]; exact HF.out k hlt hlt wb HBB.out
        have HbE := Lib.hid hb; have HWA := Lib.hid hwa; have HWB := Lib.hid hwb; have HSA := Lib.hid hsa
        generalize hbv : eq k = bv at HC
        have HBV := Lib.hid hbv
        clear hr1 hr2 hl1 hl2 ho1 ho2 he1 he2 hba hbab hX1 hb hwa hwb hsa hbv hsz
        go_wp2_with (first
          | (refine wpList_load_mid rfl 28 (.tmp 20) rfl g1 (o1 + k * 18) rfl e1 _ HR1.out Try.underlying28 rfl HI1.out ?_)
          | (refine wpList_load_mid rfl 28 (.tmp 24) rfl g2 (o2 + k * 18) rfl e2 _ HR2.out Try.underlying28 rfl HI2.out ?_)
          | (refine wpList_load_mid rfl 28 (.tmp 8) rfl b 0 rfl e1 _ HX1.out Try.underlying28 rfl HI1.out ?_)
          | (refine wpList_load_mid rfl 28 (.tmp 9) rfl ba 0 rfl e2 _ HX2.out Try.underlying28 rfl HI2.out ?_)
          | (refine wpList_allocToS rfl 28 rfl (some 8) rfl b HbE.out.symm (.agg Z) HZ.out ?_)
          | (refine wpList_allocToS rfl 28 rfl (some 9) rfl ba HSA.out.symm (.agg Z) HZ.out ?_)
          | (refine wpList_store_rowTo rfl 28 (.tmp 8) (.tmp 21) rfl rfl b e1.toArray rfl rfl 28 _ (by rw [HbE.out]; exact heap_alloc_new wr _) (by rw [HI1.out]; simp) (by show Z.size = _; rw [HZS.out]; simp; exact HL1.out.symm) HO1.out ?_; rw [HbE.out, World.setRow_alloc_new, ← HWA.out, ← HbE.out])
          | (refine wpList_store_rowTo rfl 28 (.tmp 9) (.tmp 25) rfl rfl ba e2.toArray rfl rfl 28 _ (by rw [HSA.out]; exact heap_alloc_new wa _) (by rw [HI2.out]; simp) (by show Z.size = _; rw [HZS.out]; simp; exact HL2.out.symm) HO2.out ?_; rw [HSA.out, World.setRow_alloc_new, ← HWB.out, ← HSA.out])
          | (go_at_call 30; refine HC.out.mono ?_; rintro e w3 ⟨rfl, hb3⟩; have HB3 : Hid (Below w.heap.size w w3) := Lib.hid (HBB.out.trans (hb3.mono HBB.out.size)); clear hb3; cases bv))
        · go_ret
          exact SaysB.of (allK_not hlt HBV.out).symm HB3.out
        · go_roundw
          case rel => exact ⟨k + 1, by go_num, by omega, Lib.hid (fun j hj => by
            rcases Nat.lt_or_ge j k with h | h
            · exact HE.out j h
            · rw [show j = k by omega]; exact HBV.out), HB3⟩
          case measure => simp [intOf]; omega
      · have hlt2 : ¬ (k : Int) < n1 := by omega
        go_wp2_with fail
        go_ret
        exact SaysB.of (allK_of (fun j hj => HE.out j (by omega))).symm HB.out
  · have hne : ((n1 : Int) == n2) = false := by simp; omega
    rw [decide_eq_false hn, Bool.false_and]
    clear hn m0 h1 h2 hf hm
    go_enter Try.func29, Try.ntmps29
    go_wp2_with fail
    go_ret
    exact ⟨rfl, Below.refl _ _⟩
end Go.Proofs.Ytokidpajialgbaa
