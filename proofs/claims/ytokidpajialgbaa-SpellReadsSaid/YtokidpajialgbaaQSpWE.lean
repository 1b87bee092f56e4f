/- spell.out: general. -/
import Derived.Test.YtokidpajialgbaaQG07
namespace Go.Proofs.Ytokidpajialgbaa
set_option linter.unusedSimpArgs false
set_option linter.unusedVariables false
open Go.RowKit
def repL (x : Int × Int) : List Int := leB x.1 1 ++ leB x.2 2
def repsL (l : List (Int × Int)) : List Int := l.flatMap repL
theorem repsL_len (l : List (Int × Int)) : (repsL l).length = l.length * 3 := by
  induction l with
  | nil => simp [repsL]
  | cons x t ih => simp only [repsL, List.flatMap_cons, List.length_append, List.length_cons, repL, leB_len] at ih ⊢; omega
theorem repsL_step {l : List (Int × Int)} {k : Nat} {x : Int × Int} (hx : l[k]? = some x) : repsL (l.take (k + 1)) = repsL (l.take k) ++ repL x := by
  rw [List.take_add_one, hx]; unfold repsL; simp [List.flatMap_append]
def genL (B : TB) : List Int := leL 2 [B.pause] ++ (leL 4 [(B.reps.length : Int)] ++ (leL 1 [B.pilot, B.sync1] ++ (leL 4 [B.count] ++ (leL 1 [B.zero, B.one] ++ (symsL B.pilots ++ (repsL B.reps ++ (symsL B.syms ++ B.data)))))))
def wB (B : TB) : Nat := 100 + B.data.length + 4 * B.times.length + symsW B.pilots + symsW B.syms + 12 * B.reps.length + itemsW B.items
set_option maxRecDepth 100000 in
set_option maxHeartbeats 8000000 in
theorem general_w (P base : Nat) (cs : List Value) (B : TB) (L : List Int) (w0 w : World) (v : Value) (hT : Tape0 w0 w base P) (h : TBV w0 cs B) (ho : OutS w P base v L) (hL : L.length + wB B ≤ 100000000) :
    Calls Try.prog 55 #[.pointer (some ⟨P, 0, none⟩), .agg cs.toArray] w (WrP P base (L ++ (leB ((genL B).length : Int) 4 ++ genL B)) w v) := by
  obtain ⟨bx, hbx⟩ : ∃ b, b = w.heap.size := ⟨_, rfl⟩
  obtain ⟨wa, hwa⟩ : ∃ wa, wa = w.alloc (.cells cs.toArray 28) := ⟨_, rfl⟩
  have hA : Blk wa bx 28 cs := by rw [hwa, hbx]; exact Blk.new w _ cs
  have hba : Below w.heap.size w wa := by rw [hwa]; exact (Below.refl _ w).alloc (Nat.le_refl _) _
  have hoa : OutS wa P base v L := ho.fresh hba
  obtain ⟨hwf, d, t, i, p_, s, r, hcs, hvd, hvt, hvi, hvp, hvs, hvr⟩ := h.below (hT.bel.trans (hba.mono hT.bel.size))
  obtain ⟨Ad, cd, rfl, hd1, hd2, hd3, hd4⟩ := hvd
  have hvp' := hvp; have hvs' := hvs
  obtain ⟨Ap, cp, rfl, -⟩ := hvp'
  obtain ⟨As, cS, rfl, -⟩ := hvs'
  obtain ⟨Ar, cr, rfl, hr1, hr2, hr3⟩ := hvr
  obtain ⟨G, hG⟩ : ∃ G, G = genL B := ⟨_, rfl⟩
  have hG2 : G = leL 2 [B.pause] ++ (leL 4 [(B.reps.length : Int)] ++ (leL 1 [B.pilot, B.sync1] ++ (leL 4 [B.count] ++ (leL 1 [B.zero, B.one] ++ (symsL B.pilots ++ (repsL B.reps ++ (symsL B.syms ++ B.data))))))) := hG
  rw [← hG]
  clear hG h
  obtain ⟨n0, n1, n2, n3, n4, n5, n6, n7, n8, n9, n10, n11, D, l1, l2, PI, S, R⟩ := B
  simp only [TB.cells, TB.nums, List.mem_cons, List.not_mem_nil, or_false, forall_eq_or_imp, forall_eq, wB] at *
  obtain ⟨v0_, v1_, v2_, v3_, v4_, v5_, v6_, v7_, v8_, v9_, v10_, v11_⟩ := hwf
  obtain ⟨kd, ed⟩ : ∃ k, k = D.length := ⟨_, rfl⟩
  obtain ⟨kp, ep⟩ : ∃ k, k = PI.length := ⟨_, rfl⟩
  obtain ⟨ks, es⟩ : ∃ k, k = S.length := ⟨_, rfl⟩
  obtain ⟨kr, er⟩ : ∃ k, k = R.length := ⟨_, rfl⟩
  rw [← er] at hG2
  rw [← ed] at hcs hd2 hL
  rw [← ep] at hcs hvp
  rw [← es] at hcs hvs
  rw [← er] at hcs hr1 hL
  have hGl : G.length = 2 + 4 + 2 + 4 + 2 + (symsL PI).length + kr * 3 + (symsL S).length + kd := by rw [hG2]; simp only [List.length_append, leL_len, List.length_cons, List.length_nil, repsL_len, ← er, ← ed]; omega
  have hps := symsL_len PI; have hss := symsL_len S
  obtain ⟨wp, hwp⟩ : ∃ x, x = symsW PI := ⟨_, rfl⟩
  obtain ⟨ws, hws⟩ : ∃ x, x = symsW S := ⟨_, rfl⟩
  rw [← hwp] at hL hps; rw [← hws] at hL hss
  obtain ⟨ll, hll⟩ : ∃ x, x = L.length := ⟨_, rfl⟩
  rw [← hll] at hL
  have HGL := Lib.hid hGl; have HG := Lib.hid hG2; have ED := Lib.hid ed; have EP := Lib.hid ep; have ES := Lib.hid es; have ER := Lib.hid er; have HWP := Lib.hid hwp; have HWS := Lib.hid hws; have HLL := Lib.hid hll
  have HPS := Lib.hid hps; have HSS := Lib.hid hss
  have HV1 := Lib.hid v1_; have HV2 := Lib.hid v2_; have HV3 := Lib.hid v3_; have HV5 := Lib.hid v5_; have HV6 := Lib.hid v6_; have HV8 := Lib.hid v8_
  obtain ⟨p, hp⟩ : ∃ p, p = wa.heap.size := ⟨_, rfl⟩
  obtain ⟨wb, hwb⟩ : ∃ wb, wb = wa.alloc (.cells #[.slice none 0 0] 60) := ⟨_, rfl⟩
  have hS0 : OutS wb p p (.slice none 0 0) [] := by rw [hwb, hp]; exact outS_new wa
  have hT0 : Tape0 wa wb p p := by rw [hwb, hp]; exact tape0_new wa _
  have HK : Hid (∀ u, Below wa.heap.size wa u → u.cell? ⟨bx, 1, none⟩ = some (.int .i64 n1) ∧ u.cell? ⟨bx, 2, none⟩ = some (.int .i64 n2) ∧ u.cell? ⟨bx, 3, none⟩ = some (.int .i64 n3) ∧ u.cell? ⟨bx, 5, none⟩ = some (.int .i64 n5) ∧ u.cell? ⟨bx, 6, none⟩ = some (.int .i64 n6) ∧ u.cell? ⟨bx, 8, none⟩ = some (.int .i64 n8) ∧ u.cell? ⟨bx, 12, none⟩ = some (.slice Ad kd cd) ∧ u.cell? ⟨bx, 15, none⟩ = some (.slice Ap kp cp) ∧ u.cell? ⟨bx, 16, none⟩ = some (.slice As ks cS) ∧ u.cell? ⟨bx, 17, none⟩ = some (.slice Ar kr cr)) := Lib.hid (fun u hu => by
    have h := hA.below_ hu
    rw [hcs] at h
    exact ⟨h.cell 1, h.cell 2, h.cell 3, h.cell 5, h.cell 6, h.cell 8, h.cell 12, h.cell 15, h.cell 16, h.cell 17⟩)
  have HI : Hid ((Try.prog.info? 88).map (·.size) = some 2) := by show _ = _; kernel_rfl
  have HZ : Hid ((Try.prog.info? 60).bind (·.zero) = some (.agg #[.slice none 0 0])) := by show _ = _; kernel_rfl
  have HOA := Lib.hid hoa; have HT := Lib.hid hT; have HS0 := Lib.hid hS0; have HT0 := Lib.hid hT0; have HP := Lib.hid hp; have HWB := Lib.hid hwb; have HBX := Lib.hid hbx; have HWA := Lib.hid hwa; have HBA := Lib.hid hba
  have HD1 := Lib.hid hd1; have HVP := Lib.hid hvp; have HVS := Lib.hid hvs; have HR3 := Lib.hid hr3
  have hPp : P < p := by rw [hp]; exact hoa.blk.lt
  obtain ⟨z1, -⟩ := HK.out wb hT0.bel
  have HN0 := Lib.hid (num_new 2 p p 1 [n1] [] wb _ _ rfl hS0 rfl (by intro x hx; simp at hx; subst hx; exact v1_) hT0.h3 (by decide) (by simp))
  clear hGl hG2 ed ep es er hwp hws hll hps hss v0_ v1_ v2_ v3_ v4_ v5_ v6_ v7_ v8_ v9_ v10_ v11_ hp hwb hS0 hT0 hoa hT hbx hwa hba hA hcs hd1 hd2 hd3 hd4 hvp hvs hvt hvi hr1 hr2 hr3 ho
  go_enter Try.func55, Try.ntmps55
  go_upto_region 0 with fail
  refine wp_region_list ?_
  refine Great.wpList_boxTo rfl 28 (.tmp 1) rfl (some 3) rfl bx HBX.out.symm cs.toArray rfl ?_
  rw [← HWA.out]
  go_upto_region 1 with fail
  refine wp_region_list ?_
  refine wpList_allocToS rfl 60 rfl (some 4) rfl p HP.out.symm (.agg #[.slice none 0 0]) HZ.out ?_
  rw [show (Value.agg #[.slice none 0 0]).cells = #[.slice none 0 0] from rfl, ← HWB.out]
  go_upto_region 3 with (first
    | (go_at_call 25
       refine HN0.out.mono ?_
       rintro e w1 ⟨rfl, v1, hs1, hk1⟩
       have hKK1 := hk1
       have hT1 := HT0.out.step HS0.out hKK1
       obtain ⟨-, -, -, -, -, -, -, -, -, z17⟩ := HK.out w1 hT1.bel
       have HN1 := Lib.hid (num_new 4 p p 1 [(kr : Int)] _ w1 v1 _ rfl hs1 rfl (by intro x hx; simp only [List.mem_cons, List.not_mem_nil, or_false] at hx; rcases hx with rfl <;> exact wfLen (by omega)) hT1.h3 (by decide) (by simp [leL_len]))
       have KK1 := Lib.hid hKK1
       have HS1 := Lib.hid hs1
       clear hs1 hk1 hKK1 hT1))
  go_upto_region 4 with (first
    | (go_at_call 25
       refine HN1.out.mono ?_
       rintro e w2 ⟨rfl, v2, hs2, hk2⟩
       have hKK2 := KK1.out.trans hk2
       have hT2 := HT0.out.step HS0.out hKK2
       obtain ⟨-, z2, z3, -, -, -, -, -, -, -⟩ := HK.out w2 hT2.bel
       have HN2 := Lib.hid (num_new 1 p p 2 [n2, n3] _ w2 v2 _ rfl hs2 rfl (by intro x hx; simp only [List.mem_cons, List.not_mem_nil, or_false] at hx; rcases hx with rfl | rfl <;> first | exact HV2.out | exact HV3.out | exact HV5.out | exact HV6.out | exact HV8.out) hT2.h3 (by decide) (by simp [leL_len]))
       have KK2 := Lib.hid hKK2
       have HS2 := Lib.hid hs2
       clear hs2 hk2 hKK2 hT2))
  go_upto_region 5 with (first
    | (go_at_call 25
       refine HN2.out.mono ?_
       rintro e w3 ⟨rfl, v3, hs3, hk3⟩
       have hKK3 := KK2.out.trans hk3
       have hT3 := HT0.out.step HS0.out hKK3
       obtain ⟨-, -, -, -, -, z8, -, -, -, -⟩ := HK.out w3 hT3.bel
       have HN3 := Lib.hid (num_new 4 p p 1 [n8] _ w3 v3 _ rfl hs3 rfl (by intro x hx; simp only [List.mem_cons, List.not_mem_nil, or_false] at hx; rcases hx with rfl <;> first | exact HV2.out | exact HV3.out | exact HV5.out | exact HV6.out | exact HV8.out) hT3.h3 (by decide) (by simp [leL_len]))
       have KK3 := Lib.hid hKK3
       have HS3 := Lib.hid hs3
       clear hs3 hk3 hKK3 hT3))
  go_upto_region 6 with (first
    | (go_at_call 25
       refine HN3.out.mono ?_
       rintro e w4 ⟨rfl, v4, hs4, hk4⟩
       have hKK4 := KK3.out.trans hk4
       have hT4 := HT0.out.step HS0.out hKK4
       obtain ⟨-, -, -, z5, z6, -, -, -, -, -⟩ := HK.out w4 hT4.bel
       have HN4 := Lib.hid (num_new 1 p p 2 [n5, n6] _ w4 v4 _ rfl hs4 rfl (by intro x hx; simp only [List.mem_cons, List.not_mem_nil, or_false] at hx; rcases hx with rfl | rfl <;> first | exact HV2.out | exact HV3.out | exact HV5.out | exact HV6.out | exact HV8.out) hT4.h3 (by decide) (by simp [leL_len]))
       have KK4 := Lib.hid hKK4
       have HS4 := Lib.hid hs4
       clear hs4 hk4 hKK4 hT4))
  go_upto_region 7 with (first
    | (go_at_call 25
       refine HN4.out.mono ?_
       rintro e w5 ⟨rfl, v5, hs5, hk5⟩
       have hKK5 := KK4.out.trans hk5
       have hT5 := HT0.out.step HS0.out hKK5
       obtain ⟨-, -, -, -, -, -, -, z15, -, -⟩ := HK.out w5 hT5.bel
       have HSY := Lib.hid (syms_w p p _ PI _ wa w5 v5 hT5 HVP.out hs5 (by have h := HWP.out; rw [← h]; simp [leL_len]; omega))
       have KK5 := Lib.hid hKK5
       have HS5 := Lib.hid hs5
       clear hs5 hk5 hKK5 hT5))
  obtain ⟨L5, hL5⟩ : ∃ L5, L5 = ((((([] ++ leL 2 [n1]) ++ leL 4 [(kr : Int)]) ++ leL 1 [n2, n3]) ++ leL 4 [n8]) ++ leL 1 [n5, n6]) := ⟨_, rfl⟩
  have HL5 := Lib.hid hL5
  clear hL5
  go_upto_region 8 with (first
    | (go_at_call 86
       refine HSY.out.mono ?_
       rintro e w6 ⟨rfl, v6, hs6, hk6⟩
       have hKK6 := KK5.out.trans hk6
       have hT6 := HT0.out.step HS0.out hKK6
       obtain ⟨-, -, -, -, -, -, -, -, -, z17⟩ := HK.out w6 hT6.bel
       have KK6 := Lib.hid hKK6
       have HS6' := Lib.hid hs6
       clear hs6 hk6 hKK6 hT6))
  obtain ⟨L6, hL6⟩ : ∃ L6, L6 = ((((([] ++ leL 2 [n1]) ++ leL 4 [(kr : Int)]) ++ leL 1 [n2, n3]) ++ leL 4 [n8]) ++ leL 1 [n5, n6]) ++ symsL PI := ⟨_, rfl⟩
  have HS6 : Hid (OutS w6 p p v6 L6) := by show OutS _ _ _ _ _; rw [hL6]; exact HS6'.out
  have HL6 : Hid (L6.length = 14 + (symsL PI).length) := by show _ = _; rw [hL6]; simp [leL_len]; omega
  have HE6 := Lib.hid hL6
  clear hL6
  go_wp2_with fail
  go_loopw [38] (fun idx wr => ∃ (k : Nat), idx = .int .i64 k ∧ k ≤ kr ∧ Hid (∃ v', OutS wr p p v' (L6 ++ repsL (R.take k)) ∧ OutK p wb (.slice none 0 0) wr v')) (fun idx _ => kr - (intOf idx).toNat)
  case atStart => exact ⟨0, rfl, Nat.zero_le _, Lib.hid ⟨v6, by simpa [repsL] using HS6.out, KK6.out⟩⟩
  case round =>
    obtain ⟨k, rfl, hk, HOW⟩ := hrel
    by_cases hlt : k < kr
    · have hlt2 : (k : Int) < kr := by omega
      obtain ⟨vv, hS, hKo⟩ := HOW.out
      have hTr := HT0.out.step HS0.out hKo
      obtain ⟨⟨x1, x2⟩, hB⟩ : ∃ x, R[k]? = some x := ⟨_, List.getElem?_eq_getElem (by rw [← ER.out]; exact hlt)⟩
      obtain ⟨hw1, hw2, g, o, hAr, hr⟩ := HR3.out k _ hB
      subst hAr
      have hr1 := rangeBelow hr hTr.bel
      simp only at hr1 hw1 hw2
      have HR := Lib.hid hr1; have HX := Lib.hid hB; have HW1 := Lib.hid hw1; have HW2 := Lib.hid hw2
      have HLN := Lib.hid (show (L6 ++ repsL (R.take k)).length + 12 ≤ 100000000 by have h := HL6.out; have h2 := HPS.out; rw [List.length_append, repsL_len, List.length_take, ← ER.out]; omega)
      have vk2 : IntKind.i64.wrap ((k : Int) + 1) = ((k + 1 : Nat) : Int) := by rw [IntKind.wrap_i64]; omega
      have HS := Lib.hid hS; have HKK := Lib.hid hKo; have HTR := Lib.hid hTr
      clear hr hr1 hB hw2 hw1 hS hKo hTr
      go_upto_region 11 with (first
        | (refine wpList_load_mid rfl 88 (.tmp 40) rfl g (o + k * 2) rfl [.int .i64 x1, .int .i64 x2] _ HR.out Try.underlying88 rfl HI.out ?_))
      obtain ⟨wc, hwc⟩ : ∃ wc, wc = wr.alloc (.cells #[.int .i64 x1, .int .i64 x2] 88) := ⟨_, rfl⟩
      obtain ⟨b, hb⟩ : ∃ b, b = wr.heap.size := ⟨_, rfl⟩
      have hbk : Blk wc b 88 [.int .i64 x1, .int .i64 x2] := by rw [hwc, hb]; exact Blk.new wr _ _
      have HSb : Hid (OutS wc p p vv (L6 ++ repsL (R.take k))) := Lib.hid (by rw [hwc]; exact HS.out.alloc _)
      have HKb : Hid (OutK p wr vv wc vv) := Lib.hid (by rw [hwc]; exact OutK.alloc wr vv _)
      have HTb : Hid (Tape0 wa wc p p) := Lib.hid (by rw [hwc]; exact HTR.out.alloc _)
      have hbP : b ≠ p := by have := HS.out.blk.lt; omega
      have hbo : vv.ownBlock ≠ some b := fun e => by have := (HS.out.row.lt b e).2; omega
      rw [← hwc, ← hb]
      have x0 : wc.cell? ⟨b, 0, none⟩ = some (.int .i64 x1) := hbk.cell 0
      have HNV := Lib.hid (num_new 1 p p 1 [x1] _ wc vv _ rfl HSb.out rfl (by intro x hx; simp at hx; subst hx; exact HW1.out) HTb.out.h3 (by decide) (by have := HLN.out; omega))
      have HBK := Lib.hid hbk; have HBP := Lib.hid hbP; have HBO := Lib.hid hbo
      clear hwc hb hbk hbP hbo
      go_upto_region 12 with (first
        | (go_at_call 25
           refine HNV.out.mono ?_
           rintro e w2 ⟨rfl, va, hs2, hk2⟩
           have y1 : w2.cell? ⟨b, 1, none⟩ = some (.int .i64 x2) := (hk2.blk HBK.out HBP.out HBO.out).cell 1
           have hT2 := HTb.out.step HSb.out hk2
           have HN3 := Lib.hid (num_new 2 p p 1 [x2] _ w2 va _ rfl hs2 rfl (by intro x hx; simp at hx; subst hx; exact HW2.out) hT2.h3 (by decide) (by have h9 := HLN.out; simp only [List.length_append, leL_len, List.length_cons, List.length_nil] at h9 ⊢; omega))
           have HK2 := Lib.hid hk2
           clear hs2 hk2 hT2))
      go_wp2_with (first
        | (go_at_call 25
           refine HN3.out.mono ?_
           rintro e w3 ⟨rfl, vc, hs3, hk3⟩
           have HS3 := Lib.hid hs3; have HK3 := Lib.hid hk3
           clear hs3 hk3))
      go_roundw
      case rel =>
        refine ⟨k + 1, by go_num, by omega, Lib.hid ⟨vc, ?_, HKK.out.trans (HKb.out.trans (HK2.out.trans HK3.out))⟩⟩
        have h := HS3.out
        rw [repsL_step HX.out]
        simpa [repL, leL, List.append_assoc] using h
      case measure => simp [intOf]; omega
    · obtain rfl : k = kr := by omega
      have hlt2 : ¬ (k : Int) < k := by omega
      obtain ⟨wo, rfl⟩ : ∃ wo : World, wo = wr := ⟨_, rfl⟩
      obtain ⟨vv, hS, hKo⟩ := HOW.out
      rw [List.take_of_length_le (by rw [ER.out]; exact Nat.le_refl _)] at hS
      have hTr := HT0.out.step HS0.out hKo
      obtain ⟨-, -, -, -, -, -, -, -, z16, -⟩ := HK.out wo hTr.bel
      have HSY := Lib.hid (syms_w p p _ S _ wa wo vv hTr HVS.out hS (by have h := HL6.out; have h2 := HPS.out; have h3 := HWS.out; rw [List.length_append, repsL_len, ← ER.out, ← h3]; omega))
      have HSo := Lib.hid hS; have HKo := Lib.hid hKo; have HTo := Lib.hid hTr
      clear hS hKo hTr
      go_upto_region 15 with (first
        | (go_at_call 86
           refine HSY.out.mono ?_
           rintro e w7 ⟨rfl, v7, hs7, hk7⟩
           have hT7 := HTo.out.step HSo.out hk7
           obtain ⟨-, -, -, -, -, -, z12, -, -, -⟩ := HK.out w7 hT7.bel
           have c7 : w7.cell? ⟨p, 0, none⟩ = some v7 := hs7.blk.cell 0
           have HI7 := Lib.hid (Cells.below HD1.out hT7.bel)
           have HT7 := Lib.hid hT7; have HS7 := Lib.hid hs7
           clear hT7 hs7 hk7))
      have hl7 : ((L6 ++ repsL R) ++ symsL S).length + kd ≤ 140737488355328 := by have h := HL6.out; have h2 := HPS.out; have h3 := HSS.out; rw [List.length_append, List.length_append, repsL_len, ← ER.out]; omega
      have e7 : ((L6 ++ repsL R) ++ symsL S) ++ D = G := by rw [HG.out, HE6.out]; simp only [List.nil_append, List.append_assoc]
      obtain ⟨L7, hL7⟩ : ∃ L7, L7 = (L6 ++ repsL R) ++ symsL S := ⟨_, rfl⟩
      rw [← hL7] at HS7 hl7 e7
      have HE7 := Lib.hid e7
      clear hL7 e7
      go_wp2_with (first
        | (refine wpList_appR rfl (.tmp 56) (.tmp 58) rfl p _ v7 _ rfl HS7.out.row Ad kd cd D rfl HI7.out ED.out.symm hl7 HT7.out.h3 ?_
           intro v8 w8 hr8 hg8 hv8
           have hK8 : OutK p w7 v7 w8 v8 := OutK.grown hg8 hv8
           have hT8 := HT7.out.step HS7.out hK8
           have hSo8 := HOA.out.fresh hT8.bel
           have hr8' : RowM w8 p v8 G.length (G.map (.int .u8)) := by
             have h := hr8
             rw [← List.map_append, HE7.out] at h
             have h2 : L7.length + kd = G.length := by rw [← HE7.out, List.length_append, ← ED.out]
             rwa [h2] at h
           obtain ⟨A3, c3, e3, hm3, -, hi3⟩ := hr8'.ints
           have hof := off_own (l := G) HOA.out (HP.out ▸ hr8') e3
           subst e3
           have HD := Lib.hid (data_w 4 P base G.length c3 A3 G L w8 v hSo8 hi3 rfl hof (Nat.le_trans HT.out.h3 (Nat.le_trans HBA.out.size hT8.bel.size)) (by decide) (by have h := HGL.out; have h2 := HPS.out; have h3 := HSS.out; rw [← HLL.out]; omega))
           have HB8 := Lib.hid hT8.bel
           generalize htl : G.length = tl at HD
           have HTL := Lib.hid htl
           clear htl hr8 hr8' hg8 hv8 hK8 hT8 hSo8 hi3 hof)
        | (go_at_call 54
           refine HD.out.mono ?_
           rintro e w9 ⟨rfl, v9, hs9, hk9⟩
           have HS9 := Lib.hid hs9; have HK9 := Lib.hid hk9
           clear hs9 hk9))
      exact bodyPost_end (results_none rfl _ _ _) rfl ⟨rfl, v9, by first | exact HS9.out | (rw [HTL.out]; exact HS9.out), (OutK.fresh (HBA.out.trans (HB8.out.mono HBA.out.size))).trans HK9.out⟩
end Go.Proofs.Ytokidpajialgbaa
