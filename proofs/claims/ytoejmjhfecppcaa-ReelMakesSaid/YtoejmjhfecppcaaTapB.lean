/- Tapes in memory: blocks; squealref19.Same on the same. (printed by wip/gen/gen_tapb.py) -/
import Derived.Test.YtoejmjhfecppcaaTapA
import Derived.Test.YtoejmjhfecppcaaStr
import Derived.Laws.StructEq
import Derived.BigRegion
import Derived.Deep.DeepCutAuto
namespace Go.Proofs.Ytoejmjhfecppcaa
set_option linter.unusedSimpArgs false
set_option linter.unusedVariables false
open Go.RowKit Go.Sort
/-- a block: twelve numbers, bytes, times, items, symbols of two kinds, repeats -/
structure BlkL where
  nums : List Int
  data : List Int
  times : List Int
  items : List (Int × List Int)
  pilots : List (Int × List Int)
  syms : List (Int × List Int)
  reps : List (Int × Int)
/-- a block's cells -/
def BlkV (w : World) (cs : List Value) (B : BlkL) : Prop :=
  ∃ x0 x1 x2 x3 x4 x5 x6 x7 x8 x9 x10 x11 v12 v13 v14 v15 v16 v17, B.nums = [x0, x1, x2, x3, x4, x5, x6, x7, x8, x9, x10, x11] ∧ cs = [.int .i64 x0, .int .i64 x1, .int .i64 x2, .int .i64 x3, .int .i64 x4, .int .i64 x5, .int .i64 x6, .int .i64 x7, .int .i64 x8, .int .i64 x9, .int .i64 x10, .int .i64 x11, v12, v13, v14, v15, v16, v17] ∧ SlI w .u8 v12 B.data ∧ SlI w .i64 v13 B.times ∧ SlS w .u8 v14 B.items ∧ SlS w .i64 v15 B.pilots ∧ SlS w .i64 v16 B.syms ∧ SlR w v17 B.reps
theorem BlkV.below {w w' : World} {cs : List Value} {B : BlkL} (h : BlkV w cs B) (hb : Below w.heap.size w w') : BlkV w' cs B := by
  obtain ⟨x0, x1, x2, x3, x4, x5, x6, x7, x8, x9, x10, x11, v12, v13, v14, v15, v16, v17, h1, h2, h3, h4, h5, h6, h7, h8⟩ := h
  exact ⟨x0, x1, x2, x3, x4, x5, x6, x7, x8, x9, x10, x11, v12, v13, v14, v15, v16, v17, h1, h2, h3.below hb, h4.below hb, h5.below hb, h6.below hb, h7.below hb, h8.below hb⟩
set_option maxRecDepth 100000 in
set_option maxHeartbeats 16000000 in
theorem same_same (cs cs' : List Value) (B : BlkL) (w : World) (h : BlkV w cs B) (h' : BlkV w cs' B) : Calls Try.prog 42 #[.agg cs.toArray, .agg cs'.toArray] w fun e w' => e = .returned (.bool true) ∧ Below w.heap.size w w' := by
  obtain ⟨x0, x1, x2, x3, x4, x5, x6, x7, x8, x9, x10, x11, v12, v13, v14, v15, v16, v17, h1, rfl, h3, h4, h5, h6, h7, h8⟩ := h
  obtain ⟨y0, y1, y2, y3, y4, y5, y6, y7, y8, y9, y10, y11, u12, u13, u14, u15, u16, u17, g1, rfl, g3, g4, g5, g6, g7, g8⟩ := h'
  rw [h1] at g1
  injection g1 with e0 g1
  injection g1 with e1 g1
  injection g1 with e2 g1
  injection g1 with e3 g1
  injection g1 with e4 g1
  injection g1 with e5 g1
  injection g1 with e6 g1
  injection g1 with e7 g1
  injection g1 with e8 g1
  injection g1 with e9 g1
  injection g1 with e10 g1
  injection g1 with e11 g1
  subst e0 e1 e2 e3 e4 e5 e6 e7 e8 e9 e10 e11
  obtain ⟨Ad, nd, cd, rfl, hnd, hid, hmd⟩ := h3
  obtain ⟨Ad', nd', cd', rfl, hnd', hid', -⟩ := g3
  obtain rfl : nd' = nd := by omega
  obtain ⟨Ar, nr, cr, rfl, ⟨hnr, hmr⟩, hir⟩ := h8
  obtain ⟨Ar', nr', cr', rfl, ⟨hnr', hmr'⟩, hir'⟩ := g8
  obtain rfl : nr' = nr := by omega
  obtain ⟨Ai, ni, ci, rfl, ⟨hni, hmi⟩, hii⟩ := h5
  obtain ⟨Ai', ni', ci', rfl, ⟨hni', hmi'⟩, hii'⟩ := g5
  obtain rfl : ni' = ni := by omega
  have HID := Lib.hid hid; have HID' := Lib.hid hid'; have HND := Lib.hid hnd
  have HIR := Lib.hid hir; have HIR' := Lib.hid hir'; have HNR := Lib.hid hnr
  have HII := Lib.hid hii; have HII' := Lib.hid hii'; have HNI := Lib.hid hni
  have HT := Lib.hid (fun u (hu : Below w.heap.size w u) => ints_same v13 u13 B.times u (h4.below hu) (g4.below hu))
  have HP := Lib.hid (fun u (hu : Below w.heap.size w u) => syms_same v15 u15 B.pilots u (h6.below hu) (g6.below hu))
  have HS := Lib.hid (fun u (hu : Below w.heap.size w u) => syms_same v16 u16 B.syms u (h7.below hu) (g7.below hu))
  have HW : Hid (Below w.heap.size w ((w.alloc (.cells #[.int .i64 x0, .int .i64 x1, .int .i64 x2, .int .i64 x3, .int .i64 x4, .int .i64 x5, .int .i64 x6, .int .i64 x7, .int .i64 x8, .int .i64 x9, .int .i64 x10, .int .i64 x11, .slice Ad nd' cd, v13, .slice Ai ni' ci, v15, v16, .slice Ar nr' cr] 87)).alloc (.cells #[.int .i64 x0, .int .i64 x1, .int .i64 x2, .int .i64 x3, .int .i64 x4, .int .i64 x5, .int .i64 x6, .int .i64 x7, .int .i64 x8, .int .i64 x9, .int .i64 x10, .int .i64 x11, .slice Ad' nd' cd', u13, .slice Ai' ni' ci', u15, u16, .slice Ar' nr' cr'] 87))) := Lib.hid (((Below.refl _ w).alloc (Nat.le_refl _) _).alloc (by simp) _)
  have HK0 := Lib.hid ((Blk.new w 87 [.int .i64 x0, .int .i64 x1, .int .i64 x2, .int .i64 x3, .int .i64 x4, .int .i64 x5, .int .i64 x6, .int .i64 x7, .int .i64 x8, .int .i64 x9, .int .i64 x10, .int .i64 x11, .slice Ad nd' cd, v13, .slice Ai ni' ci, v15, v16, .slice Ar nr' cr]).alloc (.cells #[.int .i64 x0, .int .i64 x1, .int .i64 x2, .int .i64 x3, .int .i64 x4, .int .i64 x5, .int .i64 x6, .int .i64 x7, .int .i64 x8, .int .i64 x9, .int .i64 x10, .int .i64 x11, .slice Ad' nd' cd', u13, .slice Ai' ni' ci', u15, u16, .slice Ar' nr' cr'] 87))
  have HK1 := Lib.hid (blk_alloc2_new w (.cells #[.int .i64 x0, .int .i64 x1, .int .i64 x2, .int .i64 x3, .int .i64 x4, .int .i64 x5, .int .i64 x6, .int .i64 x7, .int .i64 x8, .int .i64 x9, .int .i64 x10, .int .i64 x11, .slice Ad nd' cd, v13, .slice Ai ni' ci, v15, v16, .slice Ar nr' cr] 87) 87 [.int .i64 x0, .int .i64 x1, .int .i64 x2, .int .i64 x3, .int .i64 x4, .int .i64 x5, .int .i64 x6, .int .i64 x7, .int .i64 x8, .int .i64 x9, .int .i64 x10, .int .i64 x11, .slice Ad' nd' cd', u13, .slice Ai' ni' ci', u15, u16, .slice Ar' nr' cr'])
  obtain ⟨w0, hw0⟩ : ∃ u, u = ((w.alloc (.cells #[.int .i64 x0, .int .i64 x1, .int .i64 x2, .int .i64 x3, .int .i64 x4, .int .i64 x5, .int .i64 x6, .int .i64 x7, .int .i64 x8, .int .i64 x9, .int .i64 x10, .int .i64 x11, .slice Ad nd' cd, v13, .slice Ai ni' ci, v15, v16, .slice Ar nr' cr] 87)).alloc (.cells #[.int .i64 x0, .int .i64 x1, .int .i64 x2, .int .i64 x3, .int .i64 x4, .int .i64 x5, .int .i64 x6, .int .i64 x7, .int .i64 x8, .int .i64 x9, .int .i64 x10, .int .i64 x11, .slice Ad' nd' cd', u13, .slice Ai' ni' ci', u15, u16, .slice Ar' nr' cr'] 87)) := ⟨_, rfl⟩
  have cv1 := conv_ints w0 Ad nd' cd B.data (by rw [hw0]; exact HID.out.below HW.out) HND.out
  have cv2 := conv_ints w0 Ad' nd' cd' B.data (by rw [hw0]; exact HID'.out.below HW.out) HND.out
  rw [hw0] at cv1 cv2
  clear hw0
  clear hid hid' hnd hnd' hir hir' hnr hnr' hii hii' hni hni' hmi' hmr' h1 h4 h6 h7 g1 g4 g6 g7
  go_enter Try.func42, Try.ntmps42
  go_upto_region 3 with fail
  go_wp2_with (first
    | (go_at_call 57; refine (HS.out w2 HW2.out).mono ?_; rintro e w3 ⟨rfl, hb3⟩; have HA3 := Lib.hid (HA2.out.below_ hb3); have HC3 := Lib.hid (HC2.out.below_ hb3); have HW3 := Lib.hid (HW2.out.trans (hb3.mono HW2.out.size)); clear b14 b16 b17 d14 d16 d17; have e14 := HA3.out.cell 14; have e17 := HA3.out.cell 17; have f14 := HC3.out.cell 14; have f17 := HC3.out.cell 17; clear hb3)
    | (go_at_call 57; refine (HP.out w1 HW1.out).mono ?_; rintro e w2 ⟨rfl, hb2⟩; have HA2 := Lib.hid (HA1.out.below_ hb2); have HC2 := Lib.hid (HC1.out.below_ hb2); have HW2 := Lib.hid (HW1.out.trans (hb2.mono HW1.out.size)); clear a14 a15 a16 a17 c14 c15 c16 c17; have b14 := HA2.out.cell 14; have b16 := HA2.out.cell 16; have b17 := HA2.out.cell 17; have d14 := HC2.out.cell 14; have d16 := HC2.out.cell 16; have d17 := HC2.out.cell 17; clear hb2)
    | (go_at_call 56; refine (HT.out _ HW.out).mono ?_; rintro e w1 ⟨rfl, hb1⟩; have HA1 := Lib.hid (HK0.out.below_ hb1); have HC1 := Lib.hid (HK1.out.below_ hb1); have HW1 := Lib.hid (HW.out.trans (hb1.mono HW.out.size)); have a14 := HA1.out.cell 14; have a15 := HA1.out.cell 15; have a16 := HA1.out.cell 16; have a17 := HA1.out.cell 17; have c14 := HC1.out.cell 14; have c15 := HC1.out.cell 15; have c16 := HC1.out.cell 16; have c17 := HC1.out.cell 17; clear hb1))
  clear e14 e17 f14 f17
  go_loopw [5] (fun i wr => ∃ k : Nat, k ≤ nr' ∧ i = .int .i64 k ∧ Below w3.heap.size w3 wr) (fun i _ => nr' - (intOf i).toNat)
  case atStart => exact ⟨0, by omega, rfl, Below.refl _ _⟩
  case round =>
    obtain ⟨k, hk, rfl, hb⟩ := hrel
    have HB := Lib.hid hb
    have HA4 := Lib.hid (HA3.out.below_ hb)
    have HC4 := Lib.hid (HC3.out.below_ hb)
    have HW4 := Lib.hid (HW3.out.trans (hb.mono HW3.out.size))
    clear hb
    have e14 := HA4.out.cell 14
    have e17 := HA4.out.cell 17
    have f14 := HC4.out.cell 14
    have f17 := HC4.out.cell 17
    by_cases hlt : k < nr'
    · have hlt2 : (k : Int) < nr' := by omega
      obtain ⟨x, hx⟩ : ∃ x, B.reps[k]? = some x := ⟨_, List.getElem?_eq_getElem (by have := HNR.out; omega)⟩
      obtain ⟨ad, rfl, q1, q2⟩ := HIR.out k x hx
      obtain ⟨ad', rfl, q1', q2'⟩ := HIR'.out k x hx
      have q1 := cell_below HW4.out q1
      have q2 := cell_below HW4.out q2
      have q1' := cell_below HW4.out q1'
      have q2' := cell_below HW4.out q2'
      obtain ⟨xa, xb⟩ := x
      go_wp2_with fail
      go_quiet (fail)
      go_wp2_with fail
      go_roundw
      case rel => exact ⟨k + 1, by omega, by go_num, Below_drewN HB.out _⟩
      case measure => simp [intOf]; omega
    · obtain rfl : k = nr' := by omega
      obtain ⟨wo, rfl⟩ : ∃ wo : World, wo = wr := ⟨_, rfl⟩
      go_wp2_with fail
      clear e14 e17 f14 f17
      go_loopw [6] (fun i wr => ∃ j : Nat, j ≤ ni' ∧ i = .int .i64 j ∧ Below wo.heap.size wo wr) (fun i _ => ni' - (intOf i).toNat)
      case atStart => exact ⟨0, by omega, rfl, Below.refl _ _⟩
      case round =>
        obtain ⟨j, hj, rfl, hb⟩ := hrel
        have HB5 := Lib.hid hb
        have HA5 := Lib.hid (HA4.out.below_ hb)
        have HC5 := Lib.hid (HC4.out.below_ hb)
        have HW5 := Lib.hid (HW4.out.trans (hb.mono HW4.out.size))
        clear hb
        have g14 := HA5.out.cell 14
        have h14 := HC5.out.cell 14
        by_cases hlt : j < ni'
        · have hlt2 : (j : Int) < ni' := by omega
          obtain ⟨x, hx⟩ : ∃ x, B.items[j]? = some x := ⟨_, List.getElem?_eq_getElem (by have := HNI.out; omega)⟩
          obtain ⟨ad, p, rfl, q1, q2, q3⟩ := HII.out j x hx
          obtain ⟨ad', p', rfl, q1', q2', q3'⟩ := HII'.out j x hx
          have q1 := cell_below HW5.out q1
          have q2 := cell_below HW5.out q2
          have q1' := cell_below HW5.out q1'
          have q2' := cell_below HW5.out q2'
          obtain ⟨P1, n1, c1, rfl, hl1, hi1, -⟩ := q3
          obtain ⟨P2, n2, c2, rfl, hl2, hi2, -⟩ := q3'
          have cv3 := fun e => conv_ints (wr.drewN e) P1 n1 c1 x.2 (hi1.below (Below_drewN HW5.out e)) hl1
          have cv4 := fun e => conv_ints (wr.drewN e) P2 n2 c2 x.2 (hi2.below (Below_drewN HW5.out e)) hl2
          clear hi1 hi2 hl1 hl2
          obtain ⟨xa, xb⟩ := x
          go_wp2_with fail
          go_quiet (fail)
          go_wp2_with fail
          go_roundw
          case rel => exact ⟨j + 1, by omega, by go_num, Below_drewN HB5.out _⟩
          case measure => simp [intOf]; omega
        · obtain rfl : j = ni' := by omega
          go_wp2_with fail
          go_ret
          exact ⟨rfl, HW5.out⟩
end Go.Proofs.Ytoejmjhfecppcaa
