/- Texts that are laid together: G50. -/
import Derived.Test.YtokidpajialgbaaQG45
import Derived.Test.YtokidpajialgbaaQSpF
import Derived.Deep.Slices
namespace Go.Proofs.Ytokidpajialgbaa
set_option linter.unusedSimpArgs false
set_option linter.unusedVariables false
open Go.RowKit
theorem bytB_len {B : TB} : leB B.id 1 ++ sndL B = bytB B ∨ leB B.id 1 ++ telL B = bytB B := by unfold bytB; split <;> simp
set_option maxRecDepth 100000 in
set_option maxHeartbeats 8000000 in
theorem write_any (maj min : Int) (vb : Value) (l : List TB) (w : World) (hv : BlksV w vb l) (hmaj : (Lit.int .i64 maj).wf = true) (hmin : (Lit.int .i64 min).wf = true) :
    Calls Try.prog 13 #[.agg #[.int .i64 maj, .int .i64 min, vb]] w (WriteP (writeR maj min l) w) := by
  have kc := fun (w : World) (C : Array Value) (n c : Nat) => Lib.run_convert_bytes_const (P := Try.prog) w 22 5 C n c Try.underlying22 Try.underlying5
  have hv' := hv
  obtain ⟨A, c, rfl, h1, h2, h3⟩ := hv'
  obtain ⟨n, hn⟩ : ∃ n, n = l.length := ⟨_, rfl⟩
  obtain ⟨G, hG⟩ : ∃ G, G = writeR maj min l := ⟨_, rfl⟩
  rw [← hG]
  unfold writeR at hG
  rw [← hn] at hv h1 hG ⊢
  have m0 : maxLen = 9223372036854775807 := rfl
  have hn2 : n ≤ 9223372036854775807 := by omega
  obtain ⟨bx, hbx⟩ : ∃ b, b = w.heap.size := ⟨_, rfl⟩
  obtain ⟨TT, hTT⟩ : ∃ T : List Value, T = [.int .i64 maj, .int .i64 min, .slice A n c] := ⟨_, rfl⟩
  obtain ⟨wa, hwa⟩ : ∃ wa, wa = w.alloc (.cells #[.int .i64 maj, .int .i64 min, .slice A n c] 33) := ⟨_, rfl⟩
  have hA : Blk wa bx 33 [.int .i64 maj, .int .i64 min, .slice A n c] := by rw [hwa, hbx]; exact Blk.new w _ _
  have hbl : Below w.heap.size w wa := by rw [hwa]; exact (Below.refl _ w).alloc (Nat.le_refl _) _
  have hva := hv.below hbl
  have HK : Hid (∀ u, Below wa.heap.size wa u → u.cell? ⟨bx, 0, none⟩ = some (.int .i64 maj) ∧ u.cell? ⟨bx, 1, none⟩ = some (.int .i64 min) ∧ u.cell? ⟨bx, 2, none⟩ = some (.slice A n c)) := Lib.hid (fun u hu => by
    have h := hA.below_ hu
    exact ⟨h.cell 0, h.cell 1, h.cell 2⟩)
  have hva' := hva
  obtain ⟨A', c', e', -, -, h3a⟩ := hva'
  injection e' with ea eb ec
  rw [← ea] at h3a
  have HL := Lib.hid h3a; have HVA := Lib.hid hva; have HN := Lib.hid hn; have HG := Lib.hid hG; have HBL := Lib.hid hbl
  have HBX := Lib.hid hbx; have HWA := Lib.hid hwa; have HMJ := Lib.hid hmaj; have HMN := Lib.hid hmin
  obtain ⟨x0, x1, x2⟩ := HK.out wa (Below.refl _ _)
  have y2 : ∀ o, (wa.alloc o).cell? ⟨bx, 2, none⟩ = some (.slice A n c) := fun o => (HK.out _ ((Below.refl _ wa).alloc (Nat.le_refl _) _)).2.2
  obtain ⟨q0, hq0⟩ : ∃ q, fitS 255 [maj, min] = q := ⟨_, rfl⟩
  have HQ0 := Lib.hid hq0
  clear hv h1 h2 h3 hn m0 hbx hwa hA hbl hva h3a hmaj hmin hTT ea eb ec hG hq0
  go_enter Try.func13, Try.ntmps13
  go_upto_region 0 with fail
  refine wp_region_list ?_
  refine Great.wpList_boxTo rfl 33 (.tmp 0) rfl (some 1) rfl bx HBX.out.symm #[.int .i64 maj, .int .i64 min, .slice A n c] rfl ?_
  rw [← HWA.out]
  cases q0
  · go_wp2_with (first
      | (go_at_call 18; refine (fit_newB 255 [maj, min] _ _ rfl 2 rfl (by decide) HQ0.out).mono ?_; rintro e w2 ⟨rfl, rfl⟩))
    go_ret3
    have hg := HG.out; rw [if_pos HQ0.out] at hg
    rw [hg]
    exact ⟨_, rfl, rfl, HBL.out.alloc HBL.out.size _⟩
  have HG1 : Hid (G = _) := Lib.hid (HG.out.trans (if_neg (by rw [HQ0.out]; simp)))
  by_cases hbig : 4096 < n
  · have hbig2 : (4096 : Int) < n := by omega
    go_wp2_with (first
      | (go_at_call 18; refine (fit_newB 255 [maj, min] _ _ rfl 2 rfl (by decide) HQ0.out).mono ?_; rintro e w2 ⟨rfl, rfl⟩))
    go_ret3
    have hg := HG1.out; rw [if_pos hbig] at hg
    rw [hg]
    exact ⟨_, rfl, rfl, HBL.out.alloc HBL.out.size _⟩
  have HG2 : Hid (G = _) := Lib.hid (HG1.out.trans (if_neg hbig))
  have hbig2 : ¬ (4096 : Int) < n := by omega
  have HZ : Hid ((Try.prog.info? 28).map (·.size) = some 18) := Lib.hid infoBlkS
  go_upto_region 5 with (first
    | (go_at_call 18; refine (fit_newB 255 [maj, min] _ _ rfl 2 rfl (by decide) HQ0.out).mono ?_; rintro e w2 ⟨rfl, rfl⟩))
  obtain ⟨w1, hw1⟩ : ∃ u, u = wa.alloc (.cells #[.int .i64 maj, .int .i64 min] 3) := ⟨_, rfl⟩
  have HB1 : Hid (Below wa.heap.size wa w1) := by show Below _ _ _; rw [hw1]; exact (Below.refl _ wa).alloc (Nat.le_refl _) _
  rw [← hw1]
  have z2 := (HK.out w1 HB1.out).2.2
  clear hw1 x0 x1 x2 y2
  go_wp2_with fail
  go_loopw [28] (fun idx wr => ∃ (k : Nat), idx = .int .i64 k ∧ k ≤ n ∧ Hid ((l.take k).all mayB = true) ∧ Hid (Below wa.heap.size wa wr)) (fun idx _ => n - (intOf idx).toNat)
  case atStart => exact ⟨0, rfl, Nat.zero_le _, Lib.hid rfl, HB1⟩
  case round =>
    obtain ⟨k, rfl, hk, HA, HB⟩ := hrel
    by_cases hlt : k < n
    · have hlt2 : (k : Int) < n := by omega
      obtain ⟨B, hB⟩ : ∃ x, l[k]? = some x := ⟨_, List.getElem?_eq_getElem (by rw [← HN.out]; exact hlt)⟩
      obtain ⟨g, o, cs, rfl, hr, ht⟩ := HL.out k B hB
      have hr1 := rangeBelow hr HB.out
      have ht1 := ht.below HB.out
      have hl18 := ht.len
      have ho1 := ht.one2
      have v2 : IntKind.i64.wrap ((k : Int) + 1) = ((k + 1 : Nat) : Int) := by rw [IntKind.wrap_i64]; omega
      have HR := Lib.hid hr1; have HTB := Lib.hid ht1; have HX := Lib.hid hB; have HO1 := Lib.hid ho1
      have HI : Hid ((Try.prog.info? 28).map (·.size) = some cs.toArray.size) := by show _ = _; rw [show cs.toArray.size = 18 by simpa using hl18]; exact infoBlkS
      have HI' : Hid ((Try.prog.info? 28).map (·.size) = some cs.length) := by show _ = _; rw [hl18]; exact infoBlkS
      have HSZ : Hid (cs.toArray.size = 18) := by show _ = _; simpa using hl18
      clear hr hr1 ht ht1 hl18 ho1 hB
      go_upto_region 8 with (first
        | (refine wpList_load_mid rfl 28 (.tmp 31) rfl g (o + k * 18) rfl cs _ HR.out Try.underlying28 rfl HI'.out ?_)
        | (refine wpList_store_rowTo rfl 28 (.tmp 6) (.tmp 32) rfl rfl wr.heap.size _ rfl rfl 28 _ (heap_alloc_new wr _) HI.out (by rw [HSZ.out]; rfl) HO1.out ?_; rw [World.setRow_alloc_new]))
      have HKB := Lib.hid (Blk.new wr 28 cs)
      have HBB : Hid (Below wa.heap.size wa (wr.alloc (.cells cs.toArray 28))) := Lib.hid (HB.out.alloc HB.out.size _)
      have HM := Lib.hid (may_any cs B (wr.alloc (.cells cs.toArray 28)) (HTB.out.below ((Below.refl _ wr).alloc (Nat.le_refl _) _)))
      generalize hqb : mayB B = qb at HM
      have HQB := Lib.hid hqb
      clear hqb
      cases qb
      · go_wp2_with (first
          | (refine wpList_load_mid rfl 28 (.tmp 6) rfl wr.heap.size 0 rfl cs _ (blkR HKB.out) Try.underlying28 rfl HI'.out ?_)
          | (go_at_call 10; refine HM.out.mono ?_; rintro e w3 ⟨rfl, hb3⟩; have HB3 := Lib.hid hb3; clear hb3))
        go_ret3
        have hb := badIdx_at HA.out HX.out HQB.out
        have hg := HG2.out; rw [if_pos (by rw [hb]; exact hlt), hb] at hg
        rw [hg]
        exact ⟨_, rfl, rfl, HBL.out.trans ((HBB.out.trans (HB3.out.mono HBB.out.size)).mono HBL.out.size)⟩
      · go_wp2_with (first
          | (refine wpList_load_mid rfl 28 (.tmp 6) rfl wr.heap.size 0 rfl cs _ (blkR HKB.out) Try.underlying28 rfl HI'.out ?_)
          | (go_at_call 10; refine HM.out.mono ?_; rintro e w3 ⟨rfl, hb3⟩; have HB3 := Lib.hid hb3; clear hb3))
        go_roundw
        case rel => exact ⟨k + 1, by go_num, by omega, Lib.hid (all_step HX.out HA.out HQB.out), Lib.hid (HBB.out.trans (HB3.out.mono HBB.out.size))⟩
        case measure => simp [intOf]; omega
    · have hlt2 : ¬ (k : Int) < n := by omega
      obtain ⟨wo, rfl⟩ : ∃ wo : World, wo = wr := ⟨_, rfl⟩
      have HRA : Hid (l.all mayB = true) := by
        have h := HA.out
        rw [List.take_of_length_le (by rw [← HN.out]; omega)] at h
        exact Lib.hid h
      have z2 := (HK.out wo HB.out).2.2
      have hlm : ¬ badIdx l < n := by rw [badIdx_all HRA.out, ← HN.out]; omega
      have HG3 : Hid (G = _) := Lib.hid (HG2.out.trans (if_neg hlm))
      clear hlm
      have HSO := Lib.hid (soundO_any (HVA.out.below HB.out) HN.out.symm HRA.out (by omega))
      obtain ⟨s1, hs1⟩ : ∃ s, s = (Tz.firstW (Tz.wrongB l) n).1 := ⟨_, rfl⟩
      obtain ⟨s2, hs2⟩ : ∃ s, s = (Tz.firstW (Tz.wrongB l) n).2 := ⟨_, rfl⟩
      unfold FirstP at HSO
      rw [← hs1, ← hs2] at HSO HG3
      have HB0 : Hid (Below w.heap.size w wo) := Lib.hid (HBL.out.trans (HB.out.mono HBL.out.size))
      clear hs1 hs2
      by_cases he : ¬ s2 = 0
      · have he2 : (s2 == 0) = false := by simpa using he
        go_wp2_with (first
          | (go_at_call 24; refine HSO.out.mono ?_; rintro e w2 ⟨rfl, hb2⟩; have HB2 := Lib.hid hb2; clear hb2))
        go_ret3
        have hg := HG3.out; rw [if_pos he] at hg
        rw [hg]
        exact ⟨_, rfl, rfl, HB0.out.trans (HB2.out.mono HB0.out.size)⟩
      replace he := Decidable.not_not.1 he
      subst he
      have HG4 : Hid (G = _) := Lib.hid (HG3.out.trans (if_neg (by simp)))
      go_upto_region 14 with (first
        | (go_at_call 24; refine HSO.out.mono ?_; rintro e w2 ⟨rfl, hb2⟩; have HB2 := Lib.hid (HB.out.trans (hb2.mono HB.out.size)); clear hb2))
      go_upto_region 15 with fail
      obtain ⟨base, hbase⟩ : ∃ b, b = w2.heap.size := ⟨_, rfl⟩
      obtain ⟨P, hP⟩ : ∃ p, p = w2.heap.size + 1 := ⟨_, rfl⟩
      obtain ⟨v0, hv0⟩ : ∃ v : Value, v = .slice (some ⟨w2.heap.size, 0, none⟩) 8 8 := ⟨_, rfl⟩
      obtain ⟨ws, hws⟩ : ∃ u, u = (w2.alloc (.cells #[.int .u8 90, .int .u8 88, .int .u8 84, .int .u8 97, .int .u8 112, .int .u8 101, .int .u8 33, .int .u8 26] 5 (8, 9))).alloc (.cells #[.slice (some ⟨w2.heap.size, 0, none⟩) 8 8] 60) := ⟨_, rfl⟩
      rw [← hws, ← hP]
      have hbs : Below w2.heap.size w2 ws := by rw [hws]; exact ((Below.refl _ w2).alloc (Nat.le_refl _) _).alloc (by simp) _
      have hS0 : OutS ws P base v0 headB := by
        refine ⟨?_, .inr ⟨base, (8, 9), by rw [hv0, hbase]; rfl, Nat.le_refl _, ?_, rfl, by decide⟩, by rw [hv0, hP]; simp [Value.ownBlock]⟩
        · rw [hws, hP, hv0]
          have h := Blk.new (w2.alloc (.cells #[.int .u8 90, .int .u8 88, .int .u8 84, .int .u8 97, .int .u8 112, .int .u8 101, .int .u8 33, .int .u8 26] 5 (8, 9))) 60 [.slice (some ⟨w2.heap.size, 0, none⟩) 8 8]
          simpa using h
        · rw [hws, hbase]
          exact (heap_alloc_old _ _ (by simp)).trans (heap_alloc_new w2 _)
      have hT0 : Tape0 wa ws base P := ⟨HB2.out.trans (hbs.mono HB2.out.size), by have := HB2.out.size; omega, by have := HB2.out.size; omega, by have := hbs.size; omega⟩
      have hPs : P < ws.heap.size := hS0.blk.lt
      have HNU := Lib.hid (num_new 1 P base 2 [maj, min] headB ws v0 _ rfl hS0 rfl (by intro x hx; simp only [List.mem_cons, List.not_mem_nil, or_false] at hx; rcases hx with rfl | rfl; exact HMJ.out; exact HMN.out) hT0.h3 (by decide) (by decide))
      obtain ⟨z0, z1, -⟩ := HK.out ws hT0.bel
      have HS0 := Lib.hid hS0; have HT0 := Lib.hid hT0; have HBS := Lib.hid hbs; have HBASE := Lib.hid hbase
      clear hbase hP hv0 hws hbs hS0 hT0
      go_wp2_with (first
        | (go_at_call 25
           refine HNU.out.mono ?_
           rintro e w3 ⟨rfl, v3, hs3, hk3⟩
           have z2 := (HK.out w3 (HT0.out.step HS0.out hk3).bel).2.2
           have HS3 := Lib.hid hs3; have HK3 := Lib.hid hk3
           clear hs3 hk3))
      obtain ⟨F, hF⟩ : ∃ F, F = fileFrom l (fileHead maj min) := ⟨_, rfl⟩
      have HG5 : Hid (G = outR F) := by show _ = _; rw [hF]; exact HG4.out
      have HF := Lib.hid hF
      clear hF
      go_loopw [62] (fun idx wr => ∃ (k : Nat), idx = .int .i64 k ∧ k ≤ n ∧ Hid (∃ Lk v', OutS wr P base v' Lk ∧ OutK P ws v0 wr v' ∧ Lk.length ≤ 1048576 ∧ fileFrom (l.drop k) Lk = F)) (fun idx _ => n - (intOf idx).toNat)
      case atStart => exact ⟨0, rfl, Nat.zero_le _, Lib.hid ⟨_, v3, HS3.out, HK3.out, by rw [List.length_append, leL_len]; simp [headB], HF.out.symm⟩⟩
      case round =>
        obtain ⟨k, rfl, hk, HOW⟩ := hrel
        obtain ⟨Lk, vv, hS, hKo, hLk, hFk⟩ := HOW.out
        have hTr := HT0.out.step HS0.out hKo
        by_cases hlt : k < n
        · have hlt2 : (k : Int) < n := by omega
          obtain ⟨B, hB⟩ : ∃ x, l[k]? = some x := ⟨_, List.getElem?_eq_getElem (by rw [← HN.out]; exact hlt)⟩
          obtain ⟨g, o, cs, rfl, hr, ht⟩ := HL.out k B hB
          have hmB : mayB B = true := List.all_eq_true.1 HRA.out B (List.mem_of_getElem? hB)
          obtain ⟨hW, -, -, h53⟩ := may_small hmB
          have hidb := may_id hmB
          have hr1 := rangeBelow hr hTr.bel
          have hl18 := ht.len
          have ho1 := ht.one2
          have hc0 : cs[0]? = some (.int .i64 B.id) := by
            obtain ⟨_, d, t, i, p, s, r, rfl, -⟩ := ht
            rfl
          have v2 : IntKind.i64.wrap ((k : Int) + 1) = ((k + 1 : Nat) : Int) := by rw [IntKind.wrap_i64]; omega
          rw [fileFrom_step hB] at hFk
          have HR := Lib.hid hr1; have HTB := Lib.hid ht; have HX := Lib.hid hB; have HO1 := Lib.hid ho1; have HFK := Lib.hid hFk; have H53 := Lib.hid h53
          have HI : Hid ((Try.prog.info? 28).map (·.size) = some cs.toArray.size) := by show _ = _; rw [show cs.toArray.size = 18 by simpa using hl18]; exact infoBlkS
          have HI' : Hid ((Try.prog.info? 28).map (·.size) = some cs.length) := by show _ = _; rw [hl18]; exact infoBlkS
          have HSZ : Hid (cs.toArray.size = 18) := by show _ = _; simpa using hl18
          obtain ⟨b, hb⟩ : ∃ b, b = wr.heap.size := ⟨_, rfl⟩
          obtain ⟨wb, hwb⟩ : ∃ u, u = wr.alloc (.cells cs.toArray 28) := ⟨_, rfl⟩
          have hbk : Blk wb b 28 cs := by rw [hwb, hb]; exact Blk.new wr _ _
          have hSb : OutS wb P base vv Lk := by rw [hwb]; exact hS.alloc _
          have hTb : Tape0 wa wb base P := by rw [hwb]; exact hTr.alloc _
          have hKb : OutK P ws v0 wb vv := by rw [hwb]; exact hKo.trans (OutK.alloc wr vv _)
          have hbP : b ≠ P := by have := hS.blk.lt; omega
          have hbo : vv.ownBlock ≠ some b := fun e => by have := (hS.row.lt b e).2; omega
          have y0 : wb.cell? ⟨b, 0, none⟩ = some (.int .i64 B.id) := (hbk.cell 0).trans hc0
          have HNV := Lib.hid (num_new 1 P base 1 [B.id] Lk wb vv _ rfl hSb rfl (by intro x hx; simp at hx; subst hx; exact wfK (by omega)) hTb.h3 (by decide) (by omega))
          have HBK : Hid (∀ u x, OutK P wb vv u x → Blk u b 28 cs) := Lib.hid (fun u x hu => hu.blk hbk hbP hbo)
          have HB_ := Lib.hid hb; have HWB := Lib.hid hwb
          have HSb := Lib.hid hSb; have HTb := Lib.hid hTb; have HKb := Lib.hid hKb
          have HS := Lib.hid hS; have HKo := Lib.hid hKo; have HTR := Lib.hid hTr
          obtain ⟨idb, hib⟩ : ∃ x, x = B.id := ⟨_, rfl⟩
          rw [← hib] at y0
          have HIB := Lib.hid hib
          clear hr hr1 ht hl18 ho1 hB hFk hb hwb hbk hSb hTb hKb hbP hbo hS hKo hTr hc0 hmB hib h53
          go_upto_region 19 with (first
            | (refine wpList_load_mid rfl 28 (.tmp 64) rfl g (o + k * 18) rfl cs _ HR.out Try.underlying28 rfl HI'.out ?_)
            | (refine wpList_store_rowTo rfl 28 (.tmp 11) (.tmp 65) rfl rfl wr.heap.size _ rfl rfl 28 _ (heap_alloc_new wr _) HI.out (by rw [HSZ.out]; rfl) HO1.out ?_; rw [World.setRow_alloc_new]))
          rw [← HWB.out, ← HB_.out]
          rw [← HIB.out] at HNV
          go_upto_region 20 with (first
            | (go_at_call 25
               refine HNV.out.mono ?_
               rintro e w4 ⟨rfl, v4, hs4, hk4⟩
               have HT4 := Lib.hid (HTb.out.step HSb.out hk4)
               have HS4 := Lib.hid hs4; have HK4 := Lib.hid hk4
               clear hs4 hk4))
          have hwl : (Lk ++ leL 1 [idb]).length + wB B ≤ 100000000 := by rw [List.length_append, leL_len]; simp; omega
          have HSN := Lib.hid (sounds_w P base cs B _ wa w4 v4 HT4.out HTB.out HS4.out hwl)
          have HWL := Lib.hid hwl
          clear hwl
          generalize hq : isSnd B.id = q at HSN
          have HQ := Lib.hid hq
          clear hq
          cases q
          · go_upto_region 22 with (first
              | (refine wpList_load_mid rfl 28 (.tmp 11) rfl b 0 rfl cs _ (blkR (HBK.out _ _ HK4.out)) Try.underlying28 rfl HI'.out ?_)
              | (refine wpList_load_mid rfl 28 (.tmp 11) rfl b 0 rfl cs _ (blkR (HBK.out _ _ HK45.out)) Try.underlying28 rfl HI'.out ?_)
              | (go_at_call 26
                 refine HSN.out.mono ?_
                 rintro e w5 ⟨rfl, v5, hs5, hk5⟩
                 have HK45 := Lib.hid (HK4.out.trans hk5)
                 have HT5 := Lib.hid (HT4.out.step HS4.out hk5)
                 have e5 : sndL B = [] := by have h := HQ.out; unfold isSnd at h; simp at h; unfold sndL; simp [h]
                 rw [e5, List.append_nil] at hs5
                 have HS5 := Lib.hid hs5
                 clear hs5 hk5 e5)
              | (go_at_call 27
                 refine (tells_w P base cs B _ wa w5 v5 HT5.out HTB.out HS5.out HWL.out H53.out).mono ?_
                 rintro e w6 ⟨rfl, v6, hs6, hk6⟩
                 have HK6 := Lib.hid (HKb.out.trans (HK45.out.trans hk6))
                 have e6 : (Lk ++ leL 1 [idb]) ++ telL B = Lk ++ bytB B := by unfold bytB; rw [HQ.out, HIB.out]; simp [leL]
                 rw [e6] at hs6
                 have HS6 := Lib.hid hs6
                 clear hs6 hk6 e6))
            obtain ⟨L2, hL2⟩ : ∃ L2, L2 = Lk ++ bytB B := ⟨_, rfl⟩
            rw [← hL2] at HS6 HFK
            obtain ⟨A6, c6, e6, hm6, -, -⟩ := HS6.out.row.ints
            have cp : w6.cell? ⟨P, 0, none⟩ = some v6 := HS6.out.blk.cell 0
            subst e6
            obtain ⟨n6, hn6⟩ : ∃ m, m = L2.length := ⟨_, rfl⟩
            rw [← hn6] at cp HFK
            have HN6 := Lib.hid hn6; have HM6 := Lib.hid hm6
            have HS7 : Hid (OutS w6 P base (.slice A6 n6 c6) L2) := by show OutS _ _ _ _ _; rw [hn6]; exact HS6.out
            have HK7 : Hid (OutK P ws v0 w6 (.slice A6 n6 c6)) := by show OutK _ _ _ _ _; rw [hn6]; exact HK6.out
            clear hn6 hm6 hL2
            by_cases hfull : 1048576 < n6
            · have hf2 : (1048576 : Int) < n6 := by omega
              go_wp2_with fail
              go_ret3
              have hf := HFK.out; rw [if_pos hfull] at hf
              have hg := HG5.out; rw [← hf] at hg
              rw [hg]
              exact ⟨_, rfl, rfl, HBL.out.trans ((HT0.out.step HS0.out HK7.out).bel.mono HBL.out.size)⟩
            · have hf2 : ¬ (1048576 : Int) < n6 := by omega
              go_wp2_with fail
              go_roundw
              case rel =>
                have hf := HFK.out; rw [if_neg hfull] at hf
                exact ⟨k + 1, by go_num, by omega, Lib.hid ⟨L2, _, HS7.out, HK7.out, by have := HN6.out; omega, hf⟩⟩
              case measure => simp [intOf]; omega
          · go_upto_region 22 with (first
              | (refine wpList_load_mid rfl 28 (.tmp 11) rfl b 0 rfl cs _ (blkR (HBK.out _ _ HK4.out)) Try.underlying28 rfl HI'.out ?_)
              | (go_at_call 26
                 refine HSN.out.mono ?_
                 rintro e w6 ⟨rfl, v6, hs6, hk6⟩
                 have HK6 := Lib.hid (HKb.out.trans (HK4.out.trans hk6))
                 have e6 : (Lk ++ leL 1 [idb]) ++ sndL B = Lk ++ bytB B := by unfold bytB; rw [HQ.out, HIB.out]; simp [leL]
                 rw [e6] at hs6
                 have HS6 := Lib.hid hs6
                 clear hs6 hk6 e6))
            obtain ⟨L2, hL2⟩ : ∃ L2, L2 = Lk ++ bytB B := ⟨_, rfl⟩
            rw [← hL2] at HS6 HFK
            obtain ⟨A6, c6, e6, hm6, -, -⟩ := HS6.out.row.ints
            have cp : w6.cell? ⟨P, 0, none⟩ = some v6 := HS6.out.blk.cell 0
            subst e6
            obtain ⟨n6, hn6⟩ : ∃ m, m = L2.length := ⟨_, rfl⟩
            rw [← hn6] at cp HFK
            have HN6 := Lib.hid hn6; have HM6 := Lib.hid hm6
            have HS7 : Hid (OutS w6 P base (.slice A6 n6 c6) L2) := by show OutS _ _ _ _ _; rw [hn6]; exact HS6.out
            have HK7 : Hid (OutK P ws v0 w6 (.slice A6 n6 c6)) := by show OutK _ _ _ _ _; rw [hn6]; exact HK6.out
            clear hn6 hm6 hL2
            by_cases hfull : 1048576 < n6
            · have hf2 : (1048576 : Int) < n6 := by omega
              go_wp2_with fail
              go_ret3
              have hf := HFK.out; rw [if_pos hfull] at hf
              have hg := HG5.out; rw [← hf] at hg
              rw [hg]
              exact ⟨_, rfl, rfl, HBL.out.trans ((HT0.out.step HS0.out HK7.out).bel.mono HBL.out.size)⟩
            · have hf2 : ¬ (1048576 : Int) < n6 := by omega
              go_wp2_with fail
              go_roundw
              case rel =>
                have hf := HFK.out; rw [if_neg hfull] at hf
                exact ⟨k + 1, by go_num, by omega, Lib.hid ⟨L2, _, HS7.out, HK7.out, by have := HN6.out; omega, hf⟩⟩
              case measure => simp [intOf]; omega
        · have hlt2 : ¬ (k : Int) < n := by omega
          obtain ⟨wf, rfl⟩ : ∃ wf : World, wf = wr := ⟨_, rfl⟩
          have hdr : l.drop k = [] := List.drop_eq_nil_of_le (by rw [← HN.out]; omega)
          rw [hdr] at hFk
          have hF2 : F = some Lk := hFk.symm
          have cp : wf.cell? ⟨P, 0, none⟩ = some vv := hS.blk.cell 0
          have HS := Lib.hid hS; have HTR := Lib.hid hTr; have HF2 := Lib.hid hF2
          clear hS hKo hFk hTr hdr hF2
          go_wp2_with fail
          go_ret3
          have hg := HG5.out; rw [HF2.out] at hg
          rw [hg]
          exact ⟨_, rfl, ⟨HS.out.row.weak (by have := HBASE.out; have := HB2.out.size; have := HBL.out.size; omega), hLk⟩, HBL.out.trans (HTR.out.bel.mono HBL.out.size)⟩
end Go.Proofs.Ytokidpajialgbaa
namespace Go.Proofs.Ytokidpajialgbaa
set_option linter.unusedSimpArgs false
set_option linter.unusedVariables false
open Go.RowKit Go.Sort
theorem RowV.one {w : World} {k : IntKind} {v : Value} {l : List Int} (h : RowV w k v l) : v.oneCell' = true := by
  obtain ⟨A, c, rfl, _⟩ := h
  rfl
/-- pairs as elements -/
theorem PairsV.elems {w : World} {k : IntKind} {v : Value} {l : List (Int × List Int)} (h : PairsV w k v l) : ∃ A c E, v = .slice A l.length c ∧ l.length ≤ maxLen ∧ ElemsAt w A 2 l.length E ∧ ∀ i x, l[i]? = some x → ∃ rv, E i = [.int .i64 x.1, rv] ∧ RowV w k rv x.2 := by
  obtain ⟨A, c, hv, h1, h2, h3⟩ := h
  obtain ⟨E, hE⟩ := Go.Deep.choose_lt (α := List Value) (n := l.length) (p := fun i e => ∃ x rv, l[i]? = some x ∧ e = [.int .i64 x.1, rv] ∧ RowV w k rv x.2 ∧ ∃ g o : Nat, A = some ⟨g, o, none⟩ ∧ w.rangeAt g (o + i * 2) [.int .i64 x.1, rv]) (fun i hi => by
    obtain ⟨x, hx⟩ : ∃ x, l[i]? = some x := ⟨_, List.getElem?_eq_getElem hi⟩
    obtain ⟨_, g, o, rv, h4, h5, h6⟩ := h3 i x hx
    exact ⟨[.int .i64 x.1, rv], x, rv, hx, rfl, h6, g, o, h4, h5⟩)
  refine ⟨A, c, E, hv, by omega, fun i hi => ?_, fun i x hx => ?_⟩
  · obtain ⟨x, rv, hx, he, hr, g, o, h4, h5⟩ := hE i hi
    exact ⟨g, o, h4, by rw [he]; exact h5, by rw [he]; rfl, by rw [he]; simp [hr.one]; try rfl⟩
  · obtain ⟨x', rv, hx', he, hr, _⟩ := hE i (List.getElem?_eq_some_iff.1 hx).1
    rw [hx] at hx'
    obtain rfl := Option.some.inj hx'
    exact ⟨rv, he, hr⟩
theorem allK_lists {α : Type} [DecidableEq α] (l1 l2 : List α) : (decide (l1.length = l2.length) && allK (fun i => decide (l1[i]? = l2[i]?)) l1.length) = decide (l1 = l2) := by
  by_cases h : l1 = l2
  · subst h
    rw [decide_eq_true rfl, decide_eq_true rfl, Bool.true_and]
    exact allK_of (fun j _ => decide_eq_true rfl)
  · rw [decide_eq_false h]
    cases he : (decide (l1.length = l2.length) && allK (fun i => decide (l1[i]? = l2[i]?)) l1.length) with
    | false => rfl
    | true =>
      rw [Bool.and_eq_true] at he
      obtain ⟨h1, h2⟩ := he
      refine absurd (lists_eq (of_decide_eq_true h1) (fun j hj => ?_)) h
      unfold allK at h2
      rw [List.all_eq_true] at h2
      exact of_decide_eq_true (h2 j (List.mem_range.2 hj))
theorem opt_pair {a b : Int} {p q : List Int} : decide (some (a, p) = some (b, q)) = decide (a = b ∧ p = q) := by
  by_cases h : a = b ∧ p = q
  · obtain ⟨rfl, rfl⟩ := h; simp
  · rw [decide_eq_false h, decide_eq_false (fun e => h (by injection e with e; injection e with e1 e2; exact ⟨e1, e2⟩))]
theorem eqItems_any (v1 v2 : Value) (l1 l2 : List (Int × List Int)) (w : World) (h1 : PairsV w .u8 v1 l1) (h2 : PairsV w .u8 v2 l2) :
    Calls Try.prog 58 #[v1, v2, .func (.func 59) #[] #[]] w (SaysB (decide (l1 = l2)) w) := by
  obtain ⟨A1, c1, E1, rfl, m1, e1, r1⟩ := h1.elems
  obtain ⟨A2, c2, E2, rfl, m2, e2, r2⟩ := h2.elems
  rw [← allK_lists l1 l2]
  refine eqFuncItems A1 A2 _ _ c1 c2 E1 E2 _ w e1 e2 m1 (fun k hk1 hk2 u hu => ?_)
  obtain ⟨⟨a, p⟩, hx⟩ : ∃ x, l1[k]? = some x := ⟨_, List.getElem?_eq_getElem hk1⟩
  obtain ⟨⟨b, q⟩, hy⟩ : ∃ x, l2[k]? = some x := ⟨_, List.getElem?_eq_getElem hk2⟩
  obtain ⟨rv1, he1, hr1⟩ := r1 k _ hx
  obtain ⟨rv2, he2, hr2⟩ := r2 k _ hy
  rw [he1, he2, hx, hy, opt_pair]
  exact item1_any a b rv1 rv2 p q u (hr1.below hu) (hr2.below hu)
theorem eqSyms_any (v1 v2 : Value) (l1 l2 : List (Int × List Int)) (w : World) (h1 : PairsV w .i64 v1 l1) (h2 : PairsV w .i64 v2 l2) :
    Calls Try.prog 87 #[v1, v2, .func (.func 88) #[] #[]] w (SaysB (decide (l1 = l2)) w) := by
  obtain ⟨A1, c1, E1, rfl, m1, e1, r1⟩ := h1.elems
  obtain ⟨A2, c2, E2, rfl, m2, e2, r2⟩ := h2.elems
  rw [← allK_lists l1 l2]
  refine eqFuncSyms A1 A2 _ _ c1 c2 E1 E2 _ w e1 e2 m1 (fun k hk1 hk2 u hu => ?_)
  obtain ⟨⟨a, p⟩, hx⟩ : ∃ x, l1[k]? = some x := ⟨_, List.getElem?_eq_getElem hk1⟩
  obtain ⟨⟨b, q⟩, hy⟩ : ∃ x, l2[k]? = some x := ⟨_, List.getElem?_eq_getElem hk2⟩
  obtain ⟨rv1, he1, hr1⟩ := r1 k _ hx
  obtain ⟨rv2, he2, hr2⟩ := r2 k _ hy
  rw [he1, he2, hx, hy, opt_pair]
  exact sym1_any a b rv1 rv2 p q u (hr1.below hu) (hr2.below hu)
set_option maxRecDepth 100000 in
set_option maxHeartbeats 2000000 in
theorem sameSyms_any (v1 v2 : Value) (l1 l2 : List (Int × List Int)) (w : World) (h1 : PairsV w .i64 v1 l1) (h2 : PairsV w .i64 v2 l2) :
    Calls Try.prog 62 #[v1, v2] w (SaysB (decide (l1 = l2)) w) := by
  have HE := Lib.hid (eqSyms_any v1 v2 l1 l2 w h1 h2)
  generalize decide (l1 = l2) = r at HE ⊢
  clear h1 h2
  go_enter Try.func62, Try.ntmps62
  go_wp2_with (first
    | (go_at_call 87; refine HE.out.mono ?_; rintro e w2 ⟨rfl, hb2⟩))
  go_ret
  exact ⟨rfl, hb2⟩
end Go.Proofs.Ytokidpajialgbaa
