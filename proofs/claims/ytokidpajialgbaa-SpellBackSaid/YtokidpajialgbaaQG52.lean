/- Texts that are laid together: G52. -/
import Derived.Test.YtokidpajialgbaaQG49
import Derived.Test.YtokidpajialgbaaQG50
import Derived.Test.YtokidpajialgbaaQG51
import Derived.Test.YtokidpajialgbaaQG01
import Derived.Test.YtokidpajialgbaaRows
import Derived.Test.YtokidpajialgbaaQG00
import Derived.WalkKit
import Derived.Below
import Derived.ChangeOld
import Derived.ProofKit
import Derived.OpenShut
import Derived.ShutString
import Derived.WideKeyArgs
import Derived.Deep.Slices
import Derived.Deep.Fields
import Derived.ChangeSame
import Derived.Lib.SmallJoins
namespace Go.Proofs.Ytokidpajialgbaa
set_option linter.unusedSimpArgs false
set_option linter.unusedVariables false
open Go.RowKit
theorem wpList_load_midG {P : Program} {ops : Array Oper} {rest : List Oper} {op : Oper} {a : Act} {w : World} {Q : Exit → Act → World → Prop} (hw : Region.wanted op (yielded ops a.tmps) = true) (ty : TypeId) (x : Operand) (ho : op.op = .load ty x)
    (b o : Nat) (hx : a.eval x = .pointer (some ⟨b, o, none⟩)) (cs : List Value) (d : TypeDesc) (hc : w.rangeAt b o cs)
    (hu : P.underlying ty = some d) (hd : d.isRow = true) (hi : (P.info? ty).map (·.size) = some cs.length)
    (h : wpList P ops Q rest (a.put op.dst (.agg cs.toArray)) w) : wpList P ops Q (op :: rest) a w :=
  wpList_step fun _ hK => by rw [if_pos hw]; exact wp_load_mid ty x ho b o hx cs d hc hu hd hi (hK _ _ h)
theorem writeR_none {maj min : Int} {l : List TB} {n e : Int} (h : writeR maj min l = (none, n, e)) : e ≠ 0 := by
  unfold writeR at h
  by_cases h1 : fitS 255 [maj, min] = false
  · rw [if_pos h1] at h; injection h with _ h; injection h with _ h; omega
  rw [if_neg h1] at h
  by_cases h2 : 4096 < l.length
  · rw [if_pos h2] at h; injection h with _ h; injection h with _ h; omega
  rw [if_neg h2] at h
  by_cases h3 : badIdx l < l.length
  · rw [if_pos h3] at h; injection h with _ h; injection h with _ h; omega
  rw [if_neg h3] at h
  by_cases h4 : (Tz.firstW (Tz.wrongB l) l.length).2 ≠ 0
  · rw [if_pos h4] at h; injection h with _ h; injection h with _ h; rw [← h]; exact h4
  rw [if_neg h4] at h
  cases hf : fileFrom l (fileHead maj min) with
  | none => rw [hf] at h; injection h with _ h; injection h with _ h; omega
  | some L => rw [hf] at h; cases h
theorem writeR_ok {maj min : Int} {l : List TB} {L : List Int} {n e : Int} (h : writeR maj min l = (some L, n, e)) : n = 0 ∧ e = 0 := by
  unfold writeR at h
  by_cases h1 : fitS 255 [maj, min] = false
  · rw [if_pos h1] at h; cases h
  rw [if_neg h1] at h
  by_cases h2 : 4096 < l.length
  · rw [if_pos h2] at h; cases h
  rw [if_neg h2] at h
  by_cases h3 : badIdx l < l.length
  · rw [if_pos h3] at h; cases h
  rw [if_neg h3] at h
  by_cases h4 : (Tz.firstW (Tz.wrongB l) l.length).2 ≠ 0
  · rw [if_pos h4] at h; cases h
  rw [if_neg h4] at h
  cases hf : fileFrom l (fileHead maj min) with
  | none => rw [hf] at h; cases h
  | some L => rw [hf] at h; injection h with _ h; injection h with h1 h2; omega
set_option maxRecDepth 100000 in
set_option maxHeartbeats 8000000 in
theorem spellBack_body (j0 m0 : Int) (v0 : Value) (L0 : List TB) (w : World) (hj : (Lit.int .i64 j0).wf = true) (hm : (Lit.int .i64 m0).wf = true) (h0 : BlksV w v0 L0) :
    Calls Try.prog 7 #[.agg #[.int .i64 j0, .int .i64 m0, v0]] w (SaysB true w) := by
  have hbw := h0.bwf
  have HV0 := Lib.hid (fun u (hu : Below w.heap.size w u) => h0.below hu)
  obtain ⟨A0, c0, rfl, -⟩ := h0
  generalize hn0 : L0.length = n0 at HV0 ⊢
  obtain ⟨t1, ht1⟩ : ∃ b, b = w.heap.size := ⟨_, rfl⟩
  obtain ⟨wa, hwa⟩ : ∃ wa, wa = w.alloc (.cells #[.int .i64 j0, .int .i64 m0, .slice A0 n0 c0] 33) := ⟨_, rfl⟩
  have kab : Below w.heap.size w wa := by rw [hwa]; exact (Below.refl _ w).alloc (Nat.le_refl _) _
  have hA1 : Blk wa t1 33 [.int .i64 j0, .int .i64 m0, .slice A0 n0 c0] := by rw [hwa, ht1]; exact Blk.new w _ _
  have HK : Hid (∀ u, Below wa.heap.size wa u → u.cell? ⟨t1, 2, none⟩ = some (.slice A0 n0 c0) ∧ u.rangeAt t1 0 [.int .i64 j0, .int .i64 m0, .slice A0 n0 c0]) := Lib.hid (fun u hu => by
    have hu1 := hA1.below_ hu
    exact ⟨hu1.cell 2, fun i v hi => by rw [Nat.zero_add]; exact (hu1.cell i).trans hi⟩)
  have HB1 := Lib.hid ht1; have HWA := Lib.hid hwa; have HKB := Lib.hid kab; have HBW := Lib.hid hbw; have HJ := Lib.hid hj; have HM := Lib.hid hm
  have HW0 := Lib.hid (fun u (hu : Below wa.heap.size wa u) => HV0.out u (HKB.out.trans (hu.mono HKB.out.size)))
  have HI : Hid ((Try.prog.info? 33).map (·.size) = some 3) := by show _ = _; kernel_rfl
  clear ht1 hwa kab hA1 hbw hj hm hn0
  go_enter Try.func7, Try.ntmps7
  go_upto_region 0 with fail
  refine wp_region_list ?_
  refine Great.wpList_boxTo rfl 33 (.tmp 0) rfl (some 1) rfl t1 HB1.out.symm #[.int .i64 j0, .int .i64 m0, .slice A0 n0 c0] rfl ?_
  rw [← HWA.out]
  obtain ⟨x0, -⟩ := HK.out wa (Below.refl _ _)
  have HAL := Lib.hid (all_bool _ L0 wa (HW0.out wa (Below.refl _ _)))
  go_upto_region 3 with (first
    | (go_at_call 12
       refine HAL.out.mono ?_
       rintro e w2 ⟨⟨b1, rfl⟩, hb2⟩
       have HBA := Lib.hid hb2
       clear hb2))
  · go_wp2_with (first | (go_at_call 9; refine (lives20 _).mono ?_; rintro e w3 ⟨rfl, hb3⟩; have HBC := Lib.hid hb3; clear hb3))
    go_ret
    exact ⟨rfl, HKB.out.trans ((HBA.out.trans (HBC.out.mono HBA.out.size)).mono HKB.out.size)⟩
  · have HR1 := Lib.hid (HK.out w2 HBA.out).2
    obtain ⟨⟨o, nn, er⟩, hR⟩ : ∃ R, writeR j0 m0 L0 = R := ⟨_, rfl⟩
    have HWR := Lib.hid (write_any j0 m0 _ L0 w2 (HW0.out w2 HBA.out) HJ.out HM.out)
    rw [hR] at HWR
    have HR := Lib.hid hR
    clear hR
    cases o with
    | none =>
      have hne := writeR_none HR.out
      have e1 : (er == 0) = false := by simpa using hne
      go_wp2_with (first
        | (refine wpList_load_mid rfl 33 (.tmp 1) rfl t1 0 rfl [.int .i64 j0, .int .i64 m0, .slice A0 n0 c0] _ HR1.out Try.underlying33 rfl HI.out ?_)
        | (go_at_call 13; refine HWR.out.mono ?_; rintro e w3 ⟨v, rfl, hf, hb3⟩; have hv : v = .slice none 0 0 := hf; subst hv; have HB3 := Lib.hid (HBA.out.trans (hb3.mono HBA.out.size)); clear hf hb3)
        | (go_at_call 9; refine (lives20 _).mono ?_; rintro e w4 ⟨rfl, hb4⟩; have HB4 := Lib.hid (HB3.out.trans (hb4.mono HB3.out.size)); clear hb4))
      go_ret
      exact ⟨rfl, HKB.out.trans (HB4.out.mono HKB.out.size)⟩
    | some L =>
      obtain ⟨rfl, rfl⟩ := writeR_ok HR.out
      have hfile := (writeR_some HR.out).2.2.2.2.2
      have hby : Byts L := by rw [hfile]; exact byts_file HBW.out
      have HBY := Lib.hid hby
      clear hfile hby
      go_upto_region 6 with (first
        | (refine wpList_load_mid rfl 33 (.tmp 1) rfl t1 0 rfl [.int .i64 j0, .int .i64 m0, .slice A0 n0 c0] _ HR1.out Try.underlying33 rfl HI.out ?_)
        | (go_at_call 13; refine HWR.out.mono ?_; rintro e w3 ⟨v, rfl, hf, hb3⟩
           have hf2 : RowM w3 w2.heap.size v L.length (L.map (.int .u8)) ∧ L.length ≤ 1048576 := hf
           obtain ⟨hf3, hf4⟩ := hf2
           obtain ⟨A, c, e2, hm2, -, hi2⟩ := hf3.ints
           subst e2
           have hcap := hf3.cap
           have HPA := Lib.hid (parse_any A L.length c L w3 hi2 HBY.out rfl hcap)
           have HB3 := Lib.hid (HBA.out.trans (hb3.mono HBA.out.size))
           have HPF := Lib.hid (parse_file HR.out hf4)
           clear hf hf3 hf4 hm2 hi2 hcap hb3))
      unfold ParsP at HPA
      rw [HPF.out] at HPA
      generalize L.length = ll at HPA
      simp only at HPA
      go_upto_region 7 with (first
        | (go_at_call 17; refine HPA.out.mono ?_; rintro e w4 ⟨hb4, bl, X, cs, rfl, hown, htb⟩
           have hbv := blksV_parsed hown htb HBW.out
           obtain ⟨A4, c4, rfl, -⟩ := own_row hown
           have HB4 := Lib.hid (HB3.out.trans (hb4.mono HB3.out.size))
           have HBV := Lib.hid hbv
           clear hb4 hown htb hbv))
      have HR4 := Lib.hid (HK.out w4 HB4.out).2
      obtain ⟨w5, hw5⟩ : ∃ u, u = w4.alloc (.cells #[.int .i64 j0, .int .i64 m0, .slice A4 L0.length c4] 33) := ⟨_, rfl⟩
      have kb5 : Below w4.heap.size w4 w5 := by rw [hw5]; exact (Below.refl _ w4).alloc (Nat.le_refl _) _
      have hk5 : Blk w5 w4.heap.size 33 [.int .i64 j0, .int .i64 m0, .slice A4 L0.length c4] := by rw [hw5]; exact Blk.new w4 _ _
      have HB5 := Lib.hid (HB4.out.trans (kb5.mono HB4.out.size))
      have HR5 := Lib.hid (HK.out w5 HB5.out).2
      have HR6 : Hid (w5.rangeAt w4.heap.size 0 [.int .i64 j0, .int .i64 m0, .slice A4 L0.length c4]) := Lib.hid (fun i v hi => by rw [Nat.zero_add]; exact (hk5.cell i).trans hi)
      have HSM := Lib.hid (same_any j0 m0 j0 m0 _ _ L0 L0 w5 (HW0.out w5 HB5.out) (HBV.out.below kb5))
      rw [tapesEq_refl] at HSM
      have HW5 := Lib.hid hw5
      rw [← HW5.out]
      clear hw5 kb5 hk5
      generalize L0.length = l0 at HSM HR6 HW5 ⊢
      go_wp2_with (first
        | (refine wpList_load_midG (by rfl) 33 (.tmp 1) rfl t1 0 rfl [.int .i64 j0, .int .i64 m0, .slice A0 n0 c0] _ HR5.out Try.underlying33 rfl HI.out ?_)
        | (refine wpList_load_midG (by rfl) 33 (.tmp 6) rfl w4.heap.size 0 rfl [.int .i64 j0, .int .i64 m0, .slice A4 l0 c4] _ HR6.out Try.underlying33 rfl HI.out ?_)
        | (go_at_call 15; refine HSM.out.mono ?_; rintro e w6 ⟨rfl, hb6⟩; have HB6 := Lib.hid (HB5.out.trans (hb6.mono HB5.out.size)); clear hb6)
        | (go_at_call 9; refine (lives20 _).mono ?_; rintro e w7 ⟨rfl, hb7⟩; have HB7 := Lib.hid (HB6.out.trans (hb7.mono HB6.out.size)); clear hb7))
      go_ret
      exact ⟨rfl, HKB.out.trans (HB7.out.mono HKB.out.size)⟩
end Go.Proofs.Ytokidpajialgbaa
namespace Go.Proofs.Ytokidpajialgbaa
set_option linter.unusedSimpArgs false
set_option linter.unusedVariables false
open Go.ChangeShapes Go.WideShapes Go.ChangeAt Go.RowKit Go.Deep Go.Joins
theorem list_of {α : Type} (Q : Nat → α → Prop) : ∀ n : Nat, (∀ i, i < n → ∃ o, Q i o) → ∃ L : List α, L.length = n ∧ ∀ i o, L[i]? = some o → Q i o
  | 0, _ => ⟨[], rfl, fun i o h => by simp at h⟩
  | n + 1, h => by
    obtain ⟨L, hl, hL⟩ := list_of Q n (fun i hi => h i (by omega))
    obtain ⟨o, ho⟩ := h n (by omega)
    refine ⟨L ++ [o], by simp [hl], fun i x hx => ?_⟩
    rcases Nat.lt_or_ge i n with hi | hi
    · rw [List.getElem?_append_left (by omega)] at hx
      exact hL i x hx
    · rw [List.getElem?_append_right (by omega)] at hx
      have hin : i - L.length = 0 := by
        have := (List.getElem?_eq_some_iff.1 hx).1
        simp at this
        omega
      rw [hin] at hx
      simp at hx
      subst hx
      have : i = n := by omega
      rw [this]
      exact ho
theorem two_of {α : Type} {l : List α} (h : l.length = 2) : ∃ a b, l = [a, b] := by
  match l, h with
  | [a, b], _ => exact ⟨a, b, rfl⟩
theorem cU8 : Try.prog.cellsOf 5 = 1 := by kernel_rfl
theorem cInt : Try.prog.cellsOf 3 = 1 := by kernel_rfl
theorem cBs : Try.prog.cellsOf 22 = 1 := by kernel_rfl
theorem cIs : Try.prog.cellsOf 23 = 1 := by kernel_rfl
theorem cItems : Try.prog.cellsOf 24 = 1 := by kernel_rfl
theorem cSyms : Try.prog.cellsOf 25 = 1 := by kernel_rfl
theorem cReps : Try.prog.cellsOf 26 = 1 := by kernel_rfl
theorem cBlks : Try.prog.cellsOf 31 = 1 := by kernel_rfl
theorem cItem : Try.prog.cellsOf 46 = 2 := by kernel_rfl
theorem cSym : Try.prog.cellsOf 48 = 2 := by kernel_rfl
theorem cRep : Try.prog.cellsOf 88 = 2 := by kernel_rfl
theorem cBlk : Try.prog.cellsOf 28 = 18 := by kernel_rfl
theorem cTape : Try.prog.cellsOf 33 = 3 := by kernel_rfl
section
variable {H : Type} {enc : TypeId × Value → H} {W : World} {base : Nat} {held : Bool}
/-- cells of an element stand in memory -/
theorem range_of_cells {b n : Nat} {a : Addr} {cs : List Value} (hn : 0 < n) (h : W.cells? b a n = some cs) : cs.length = n ∧ ∃ g o, a = ⟨g, o, none⟩ ∧ W.rangeAt g o cs := by
  obtain ⟨_, hcl, hat⟩ := World.cells?_some h
  obtain ⟨bb, bo, bs⟩ := a
  have h0 : ∃ v, W.cell? (⟨bb, bo, bs⟩ : Addr) = some v := by
    have := hat 0 hn
    rw [List.getElem?_eq_getElem (by omega)] at this
    exact ⟨cs[0], by simpa [Addr.add] using this⟩
  obtain ⟨v, hv⟩ := h0
  have hsp : bs = none := World.cell?_spot hv
  subst hsp
  refine ⟨hcl, bb, bo, rfl, fun j v hj => ?_⟩
  have hjl := (List.getElem?_eq_some_iff.1 hj).1
  have := hat j (by omega)
  rw [Addr.add_mid] at this
  rw [this, hj]
theorem open_rowV {n : Nat} {v : Value} {y : DataW H × List MemPlace} {ts te : TypeId} {k : IntKind} (hs : Try.prog.underlying ts = some (.slice te)) (he : Try.prog.underlying te = some (.int k)) (hc : Try.prog.cellsOf te = 1) (h : DataW.trod enc Try.prog W base (fun _ => true) held n ts [v] = some y) : ∃ l, RowV W k v l := by
  rcases open_ints hs he hc h with ⟨hcs, _⟩ | ⟨x, l, c, zs, hcs, _, hl, hm, hz, _, hcell, hwz⟩
  · injection hcs with hcs
    exact ⟨[], none, 0, hcs, fun i v hi => by simp at hi, Nat.le_refl _, Nat.zero_le _, fun x hx => by simp at hx⟩
  · injection hcs with hcs
    simp only [if_true] at hz
    have hln : (zs.take l).length = l := by simp; omega
    refine ⟨zs.take l, some x, c, by rw [hln]; exact hcs, fun i v hi => ?_, by rw [hln]; exact hl, hm, fun n hn => hwz n (List.mem_of_mem_take hn)⟩
    have hi2 : i < l := by
      have := (List.getElem?_eq_some_iff.1 hi).1
      simp at this; omega
    refine ⟨x, rfl, ?_⟩
    rw [hcell i (by omega), ← hi]
    simp only [List.getElem?_map, List.getElem?_take, if_pos hi2]
    rw [List.getElem?_eq_getElem (by omega)]
    simp [List.getD, List.getElem?_eq_getElem (show i < zs.length by omega)]
/-- two cells of an element: a number, a slice of numbers -/
theorem open_pairV {n : Nat} {cs : List Value} {y : DataW H × List MemPlace} {t ts te : TypeId} {k : IntKind} {f0 f1 : Field} (ht : Try.prog.underlying t = some (.struct #[f0, f1])) (hf0 : f0.type = 3) (hf1 : f1.type = ts) (ho0 : f0.offset = 0) (ho1 : f1.offset = 1) (hts : Try.prog.cellsOf ts = 1)
    (hs : Try.prog.underlying ts = some (.slice te)) (he : Try.prog.underlying te = some (.int k)) (hc : Try.prog.cellsOf te = 1) (hl : cs.length = 2) (h : DataW.trod enc Try.prog W base (fun _ => true) held n t cs = some y) :
    ∃ (x : Int) (rv : Value) (l : List Int), cs = [.int .i64 x, rv] ∧ (Lit.int .i64 x).wf = true ∧ RowV W k rv l := by
  obtain ⟨xs, m, _, hx, _, hlen, hg⟩ := DataW.trod_struct ht h
  have hlen2 : xs.length = 2 := hlen
  have h0 := hg 0 f0 rfl
  have h1 := hg 1 f1 rfl
  rw [hf0, ho0, cInt] at h0
  rw [hf1, ho1, hts] at h1
  obtain ⟨z0, z1, rfl⟩ := two_of hl
  simp only [List.drop, List.take] at h0 h1
  obtain ⟨y0, e0⟩ : ∃ z, xs[0]? = some z := ⟨_, List.getElem?_eq_getElem (by omega)⟩
  obtain ⟨y1, e1⟩ : ∃ z, xs[1]? = some z := ⟨_, List.getElem?_eq_getElem (by omega)⟩
  rw [e0] at h0; rw [e1] at h1
  obtain ⟨x, q0, _, w0⟩ := DataW.trod_int Try.underlying3 h0
  injection q0 with q0
  obtain ⟨l, hl⟩ := open_rowV hs he hc h1
  exact ⟨x, z1, l, by rw [q0], w0, hl⟩
theorem open_pairsV {n : Nat} {v : Value} {y : DataW H × List MemPlace} {tl t ts te : TypeId} {k : IntKind} {f0 f1 : Field} (htl : Try.prog.underlying tl = some (.slice t)) (hct : Try.prog.cellsOf t = 2) (ht : Try.prog.underlying t = some (.struct #[f0, f1])) (hf0 : f0.type = 3) (hf1 : f1.type = ts) (ho0 : f0.offset = 0) (ho1 : f1.offset = 1) (hts : Try.prog.cellsOf ts = 1)
    (hs : Try.prog.underlying ts = some (.slice te)) (he : Try.prog.underlying te = some (.int k)) (hc : Try.prog.cellsOf te = 1) (h : DataW.trod enc Try.prog W base (fun _ => true) held n tl [v] = some y) : ∃ l, PairsV W k v l := by
  rcases open_slice htl h with ⟨hcs, _⟩ | ⟨x, l, c, m, n, D, Pl, hcs, _, hl, hm, hmm, _, hall⟩
  · injection hcs with hcs
    exact ⟨[], none, 0, hcs, Nat.le_refl _, Nat.zero_le _, fun i x hi => by simp at hi⟩
  · injection hcs with hcs
    simp only [if_true] at hmm
    subst hmm
    rw [hct] at hall
    obtain ⟨L, hL, hQ⟩ := list_of (fun i (o : Int × List Int) => (Lit.int .i64 o.1).wf = true ∧ ∃ (g o' : Nat) (rv : Value), x = ⟨g, o', none⟩ ∧ W.rangeAt g (o' + i * 2) [.int .i64 o.1, rv] ∧ RowV W k rv o.2) l (fun i hi => by
      obtain ⟨cs', hc', ht'⟩ := hall i (by omega)
      obtain ⟨hcl, g, o, hx, hr⟩ := range_of_cells (by decide) hc'
      obtain ⟨z, rv, q, rfl, hw, hrow⟩ := open_pairV ht hf0 hf1 ho0 ho1 hts hs he hc hcl ht'
      obtain ⟨g', o', hx'⟩ : ∃ g' o', x = ⟨g', o', none⟩ := by
        obtain ⟨cs0, hc0, _⟩ := hall 0 (by omega)
        obtain ⟨_, g0, o0, h0, _⟩ := range_of_cells (by decide) hc0
        exact ⟨g0, o0, by simpa [Addr.add] using h0⟩
      subst hx'
      rw [Addr.add_mid] at hx
      injection hx with h1 h2
      subst h1 h2
      exact ⟨(z, q), hw, g', o', rv, rfl, hr, hrow⟩)
    refine ⟨L, some x, m, by rw [hL]; exact hcs, by omega, hm, fun i o hi => ?_⟩
    obtain ⟨hw, g, o', rv, rfl, h1, h2⟩ := hQ i o hi
    exact ⟨hw, g, o', rv, rfl, h1, h2⟩
set_option maxRecDepth 100000 in
theorem open_repV {n : Nat} {cs : List Value} {y : DataW H × List MemPlace} (hl : cs.length = 2) (h : DataW.trod enc Try.prog W base (fun _ => true) held n 88 cs = some y) :
    ∃ (a b : Int), cs = [.int .i64 a, .int .i64 b] ∧ (Lit.int .i64 a).wf = true ∧ (Lit.int .i64 b).wf = true := by
  obtain ⟨xs, m, _, hx, _, hlen, hg⟩ := DataW.trod_struct Try.underlying88 h
  have hlen2 : xs.length = 2 := hlen
  obtain ⟨z0, z1, rfl⟩ := two_of hl
  obtain ⟨y0, e0⟩ : ∃ z, xs[0]? = some z := ⟨_, List.getElem?_eq_getElem (by omega)⟩
  obtain ⟨y1, e1⟩ : ∃ z, xs[1]? = some z := ⟨_, List.getElem?_eq_getElem (by omega)⟩
  have h0 : DataW.trod enc Try.prog W base (fun _ => true) held m 3 [z0] = some y0 := by rw [← e0]; exact hg 0 _ rfl
  have h1 : DataW.trod enc Try.prog W base (fun _ => true) held m 3 [z1] = some y1 := by rw [← e1]; exact hg 1 _ rfl
  obtain ⟨a, q0, _, w0⟩ := DataW.trod_int Try.underlying3 h0
  obtain ⟨b, q1, _, w1⟩ := DataW.trod_int Try.underlying3 h1
  injection q0 with q0
  injection q1 with q1
  exact ⟨a, b, by rw [q0, q1], w0, w1⟩
theorem open_repsV {n : Nat} {v : Value} {y : DataW H × List MemPlace} (h : DataW.trod enc Try.prog W base (fun _ => true) held n 26 [v] = some y) : ∃ l, RepsV W v l := by
  rcases open_slice Try.underlying26 h with ⟨hcs, _⟩ | ⟨x, l, c, m, n, D, Pl, hcs, _, hl, hm, hmm, _, hall⟩
  · injection hcs with hcs
    exact ⟨[], none, 0, hcs, Nat.le_refl _, Nat.zero_le _, fun i x hi => by simp at hi⟩
  · injection hcs with hcs
    simp only [if_true] at hmm
    subst hmm
    rw [cRep] at hall
    obtain ⟨L, hL, hQ⟩ := list_of (fun i (o : Int × Int) => (Lit.int .i64 o.1).wf = true ∧ (Lit.int .i64 o.2).wf = true ∧ ∃ (g o' : Nat), x = ⟨g, o', none⟩ ∧ W.rangeAt g (o' + i * 2) [.int .i64 o.1, .int .i64 o.2]) l (fun i hi => by
      obtain ⟨cs', hc', ht'⟩ := hall i (by omega)
      obtain ⟨hcl, g, o, hx, hr⟩ := range_of_cells (by decide) hc'
      obtain ⟨a, b, rfl, hw, hw2⟩ := open_repV hcl ht'
      obtain ⟨g', o', hx'⟩ : ∃ g' o', x = ⟨g', o', none⟩ := by
        obtain ⟨cs0, hc0, _⟩ := hall 0 (by omega)
        obtain ⟨_, g0, o0, h0, _⟩ := range_of_cells (by decide) hc0
        exact ⟨g0, o0, by simpa [Addr.add] using h0⟩
      subst hx'
      rw [Addr.add_mid] at hx
      injection hx with h1 h2
      subst h1 h2
      exact ⟨(a, b), hw, hw2, g', o', rfl, hr⟩)
    refine ⟨L, some x, m, by rw [hL]; exact hcs, by omega, hm, fun i o hi => ?_⟩
    obtain ⟨hw, hw2, g, o', rfl, h1⟩ := hQ i o hi
    exact ⟨hw, hw2, g, o', rfl, h1⟩
theorem fld_at {t : TypeId} (hc : Try.prog.cellsOf t = 1) {l : List Value} {i n : Nat} (hi : i < l.length) {xs : List (DataW H × List MemPlace)} (hx : i < xs.length)
    (h : DataW.trod enc Try.prog W base (fun _ => true) held n t ((l.drop i).take (Try.prog.cellsOf t)) = xs[i]?) : ∃ y, DataW.trod enc Try.prog W base (fun _ => true) held n t [l[i]] = some y := by
  rw [hc, List.drop_eq_getElem_cons hi, List.take_succ_cons, List.take_zero, List.getElem?_eq_getElem hx] at h
  exact ⟨_, h⟩
set_option maxRecDepth 100000 in
set_option maxHeartbeats 2000000 in
theorem open_tbV {n : Nat} {l : List Value} {y : DataW H × List MemPlace} (hl : l.length = 18) (h : DataW.trod enc Try.prog W base (fun _ => true) held n 28 l = some y) : ∃ B, TBV W l B := by
  obtain ⟨xs, m, _, hx, _, hlen, hg⟩ := DataW.trod_struct Try.underlying28 h
  have h18 : xs.length = 18 := hlen
  have num : ∀ i (hi : i < l.length), DataW.trod enc Try.prog W base (fun _ => true) held m 3 ((l.drop i).take (Try.prog.cellsOf 3)) = xs[i]? → ∃ x, l[i] = .int .i64 x ∧ (Lit.int .i64 x).wf = true := fun i hi h => by
    obtain ⟨y, hy⟩ := fld_at cInt hi (by omega) h
    obtain ⟨x, e, _, w⟩ := DataW.trod_int Try.underlying3 hy
    injection e with e
    exact ⟨x, e, w⟩
  obtain ⟨x0, e0, w0⟩ := num 0 (by omega) (hg 0 _ rfl)
  obtain ⟨x1, e1, w1⟩ := num 1 (by omega) (hg 1 _ rfl)
  obtain ⟨x2, e2, w2⟩ := num 2 (by omega) (hg 2 _ rfl)
  obtain ⟨x3, e3, w3⟩ := num 3 (by omega) (hg 3 _ rfl)
  obtain ⟨x4, e4, w4⟩ := num 4 (by omega) (hg 4 _ rfl)
  obtain ⟨x5, e5, w5⟩ := num 5 (by omega) (hg 5 _ rfl)
  obtain ⟨x6, e6, w6⟩ := num 6 (by omega) (hg 6 _ rfl)
  obtain ⟨x7, e7, w7⟩ := num 7 (by omega) (hg 7 _ rfl)
  obtain ⟨x8, e8, w8⟩ := num 8 (by omega) (hg 8 _ rfl)
  obtain ⟨x9, e9, w9⟩ := num 9 (by omega) (hg 9 _ rfl)
  obtain ⟨x10, e10, w10⟩ := num 10 (by omega) (hg 10 _ rfl)
  obtain ⟨x11, e11, w11⟩ := num 11 (by omega) (hg 11 _ rfl)
  obtain ⟨y12, h12⟩ := fld_at cBs (i := 12) (by omega) (by omega) (hg 12 _ rfl)
  obtain ⟨y13, h13⟩ := fld_at cIs (i := 13) (by omega) (by omega) (hg 13 _ rfl)
  obtain ⟨y14, h14⟩ := fld_at cItems (i := 14) (by omega) (by omega) (hg 14 _ rfl)
  obtain ⟨y15, h15⟩ := fld_at cSyms (i := 15) (by omega) (by omega) (hg 15 _ rfl)
  obtain ⟨y16, h16⟩ := fld_at cSyms (i := 16) (by omega) (by omega) (hg 16 _ rfl)
  obtain ⟨y17, h17⟩ := fld_at cReps (i := 17) (by omega) (by omega) (hg 17 _ rfl)
  obtain ⟨d, hd⟩ := open_rowV Try.underlying22 Try.underlying5 cU8 h12
  obtain ⟨t, ht⟩ := open_rowV Try.underlying23 Try.underlying3 cInt h13
  obtain ⟨i, hi⟩ := open_pairsV Try.underlying24 cItem Try.underlying46 rfl rfl rfl rfl cBs Try.underlying22 Try.underlying5 cU8 h14
  obtain ⟨p, hp⟩ := open_pairsV Try.underlying25 cSym Try.underlying48 rfl rfl rfl rfl cIs Try.underlying23 Try.underlying3 cInt h15
  obtain ⟨s, hs⟩ := open_pairsV Try.underlying25 cSym Try.underlying48 rfl rfl rfl rfl cIs Try.underlying23 Try.underlying3 cInt h16
  obtain ⟨r, hr⟩ := open_repsV h17
  refine ⟨⟨x0, x1, x2, x3, x4, x5, x6, x7, x8, x9, x10, x11, d, t, i, p, s, r⟩, ?_, l[12], l[13], l[14], l[15], l[16], l[17], ?_, hd, ht, hi, hp, hs, hr⟩
  · intro x hx
    simp only [TB.nums, List.mem_cons, List.not_mem_nil, or_false] at hx
    rcases hx with rfl | rfl | rfl | rfl | rfl | rfl | rfl | rfl | rfl | rfl | rfl | rfl
    all_goals assumption
  · unfold TB.cells
    simp only
    rw [← e0, ← e1, ← e2, ← e3, ← e4, ← e5, ← e6, ← e7, ← e8, ← e9, ← e10, ← e11]
    match l, hl with
    | [_, _, _, _, _, _, _, _, _, _, _, _, _, _, _, _, _, _], _ => rfl
theorem open_blksV {n : Nat} {v : Value} {y : DataW H × List MemPlace} (h : DataW.trod enc Try.prog W base (fun _ => true) held n 31 [v] = some y) : ∃ l, BlksV W v l := by
  rcases open_slice Try.underlying31 h with ⟨hcs, _⟩ | ⟨x, l, c, m, n, D, Pl, hcs, _, hl, hm, hmm, _, hall⟩
  · injection hcs with hcs
    exact ⟨[], none, 0, hcs, Nat.le_refl _, Nat.zero_le _, fun i x hi => by simp at hi⟩
  · injection hcs with hcs
    simp only [if_true] at hmm
    subst hmm
    rw [cBlk] at hall
    obtain ⟨L, hL, hQ⟩ := list_of (fun i (B : TB) => ∃ (g o' : Nat) (cs : List Value), x = ⟨g, o', none⟩ ∧ W.rangeAt g (o' + i * 18) cs ∧ TBV W cs B) l (fun i hi => by
      obtain ⟨cs', hc', ht'⟩ := hall i (by omega)
      obtain ⟨hcl, g, o, hx, hr⟩ := range_of_cells (by decide) hc'
      obtain ⟨B, hB⟩ := open_tbV hcl ht'
      obtain ⟨g', o', hx'⟩ : ∃ g' o', x = ⟨g', o', none⟩ := by
        obtain ⟨cs0, hc0, _⟩ := hall 0 (by omega)
        obtain ⟨_, g0, o0, h0, _⟩ := range_of_cells (by decide) hc0
        exact ⟨g0, o0, by simpa [Addr.add] using h0⟩
      subst hx'
      rw [Addr.add_mid] at hx
      injection hx with h1 h2
      subst h1 h2
      exact ⟨B, g', o', cs', rfl, hr, hB⟩)
    refine ⟨L, some x, m, by rw [hL]; exact hcs, by omega, hm, fun i o hi => ?_⟩
    obtain ⟨g, o', cs, rfl, h1, h2⟩ := hQ i o hi
    exact ⟨g, o', cs, rfl, h1, h2⟩
set_option maxRecDepth 100000 in
theorem open_blk {reach : Reach} {b0 : Nat} {v : Value} {d : DataW H} {p : List MemPlace} (hv : Value.okWide Try.prog W reach b0 28 v) (h : DataW.Trod enc Try.prog W base (fun _ => true) held 28 v d p) :
    ∃ (cs : List Value) (B : TB), v = .agg cs.toArray ∧ TBV W cs B := by
  obtain ⟨cs, rfl, hsz⟩ := okWide_struct Try.underlying28 hv
  obtain ⟨l⟩ := cs
  have hl : l.length = 18 := hsz.trans cBlk
  obtain ⟨fuel, hf⟩ := h
  obtain ⟨B, hB⟩ := open_tbV hl hf
  exact ⟨l, B, rfl, hB⟩
set_option maxRecDepth 100000 in
theorem open_tape {reach : Reach} {b0 : Nat} {v : Value} {d : DataW H} {p : List MemPlace} (hv : Value.okWide Try.prog W reach b0 33 v) (h : DataW.Trod enc Try.prog W base (fun _ => true) held 33 v d p) :
    ∃ (a b : Int) (bl : Value) (l : List TB), v = .agg #[.int .i64 a, .int .i64 b, bl] ∧ (Lit.int .i64 a).wf = true ∧ (Lit.int .i64 b).wf = true ∧ BlksV W bl l := by
  obtain ⟨cs, rfl, hsz⟩ := okWide_struct Try.underlying33 hv
  obtain ⟨l⟩ := cs
  have hl : l.length = 3 := hsz.trans cTape
  obtain ⟨fuel, hf⟩ := h
  obtain ⟨xs, m, _, hx, _, hlen, hg⟩ := DataW.trod_struct Try.underlying33 hf
  have h3 : xs.length = 3 := hlen
  match l, hl with
  | [z0, z1, z2], _ =>
    obtain ⟨y0, h0⟩ := fld_at (l := [z0, z1, z2]) cInt (i := 0) (by simp) (by omega) (hg 0 _ rfl)
    obtain ⟨y1, h1⟩ := fld_at (l := [z0, z1, z2]) cInt (i := 1) (by simp) (by omega) (hg 1 _ rfl)
    obtain ⟨y2, h2⟩ := fld_at (l := [z0, z1, z2]) cBlks (i := 2) (by simp) (by omega) (hg 2 _ rfl)
    obtain ⟨a, q0, _, w0⟩ := DataW.trod_int Try.underlying3 h0
    obtain ⟨b, q1, _, w1⟩ := DataW.trod_int Try.underlying3 h1
    obtain ⟨L, hL⟩ := open_blksV h2
    injection q0 with q0
    injection q1 with q1
    exact ⟨a, b, z2, L, by show Value.agg #[z0, z1, z2] = _; rw [show z0 = _ from q0, show z1 = _ from q1], w0, w1, hL⟩
end
end Go.Proofs.Ytokidpajialgbaa
