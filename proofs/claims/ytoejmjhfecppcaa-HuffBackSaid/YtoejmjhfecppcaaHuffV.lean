/- The law HuffBack. -/
import Derived.Test.YtoejmjhfecppcaaHuffU
import Derived.Test.YtoejmjhfecppcaaHuffR
import Derived.Test.YtoejmjhfecppcaaMemC
import Derived.StillTailTactics
namespace Go.Proofs.Ytoejmjhfecppcaa
open Go.RowKit

theorem infoU8 : (Try.prog.info? 5).map (fun i => (i.zero, i.size, i.bytes)) = some (some (.int .u8 0), 1, 1) := by kernel_rfl
/-- n zero bytes -/
def zeros8 (n : Nat) : List Value := List.replicate n (.int .u8 0)
theorem mkBytes (n : Nat) (hn : n ≤ 281474976710656) (u : World) : (Instr.makeSlice 47 (.int .i64 (n : Int)) (.int .i64 (n : Int))).run Try.prog u =
    .ok (.slice (some ⟨u.heap.size, 0, none⟩) n n) (u.alloc (.cells (zeros8 n).toArray 5)) := by
  obtain ⟨i0, hi, hz0, hz1, hz2⟩ := info_parts infoU8
  have h := run_make (P := Try.prog) u 47 5 i0 (.int .u8 0) Try.underlying47 hi hz0 .i64 .i64 (n : Int) (n : Int) (by omega) (Int.le_refl _) (by rw [hz2]; omega) (by omega)
  have e : madeCells #[Value.int .u8 0] n = (zeros8 n).toArray := by
    apply Array.ext
    · simp [madeCells, zeros8]
    · intro j h1 h2
      simp [madeCells, zeros8, Nat.mod_one]
  have e2 : (n : Int).toNat = n := by omega
  rw [hz1, Nat.mul_one, e2, show (Value.int .u8 0).cells = #[Value.int .u8 0] from rfl, e] at h
  exact h

set_option maxRecDepth 100000 in
set_option maxHeartbeats 8000000 in
theorem huffBack_ok (A : Option Addr) (n c : Nat) (l : List Int) (A2 : Option Addr) (m c2 : Nat) (syms : List Int) (w : World) (hl : Ints w A .i64 l) (hn : l.length = n)
    (hb : Ints w A2 .i64 syms) (hm : syms.length = m) (hn1 : n ≤ 320) (hm1 : m ≤ 60) (he : Hf.err l = 0) :
    Calls Try.prog 7 #[.slice A n c, .slice A2 m c2] w (True_ w) := by
  obtain ⟨hr0, hn3, hin⟩ := Hf.err_room he
  have hs := sound_any A n c l w hl hn (by omega)
  rw [he] at hs
  have HL := Lib.hid hl; have HN := Lib.hid hn; have HSY := Lib.hid hb; have HM := Lib.hid hm; have HIN := Lib.hid hin; have HE := Lib.hid he; have HS := Lib.hid hs; have HR0 := Lib.hid hr0
  clear hl hn hb hm hin he hs hr0 hn3
  have hmk := mkBytes
  have HMK := Lib.hid hmk; clear hmk
  go_enter Try.func7, Try.ntmps7
  go_wp2_with fail
  refine HS.out.mono ?_
  rintro e w1 ⟨rfl, rfl⟩
  go_wp2_with fail
  refine (new_ok A n c l _ HL.out HN.out HE.out).mono ?_
  rintro e w1 ⟨g, rfl, htab, hg1, hB1⟩
  have HB1 := Lib.hid hB1; have HT1 := Lib.hid htab.read; clear hB1 htab
  go_wp2_with fail
  refine (codes_ok A n c l _ (Cells.below HL.out HB1.out) HN.out HE.out).mono ?_
  rintro e w2 ⟨gc, cc, rfl, hown, hB2⟩
  obtain ⟨AC, cC, hv, hcC, _⟩ := own_cells hown
  injection hv with hv
  subst hv
  have HB2 := Lib.hid (HB1.out.trans (hB2.mono HB1.out.size)); have HCC := Lib.hid hcC; have HT2 := Lib.hid (HT1.out.below hB2); clear hB2 hcC hown
  go_wp2_with fail
  go_loopw [9, 10, 11] (fun v1s v2s i wr => ∃ (k q1 q2 : Nat) (v1 v2 : Value), k ≤ m ∧ i = .int .i64 k ∧ v1 = v1s ∧ v2 = v2s ∧ wr.ownsRow w2.heap.size 3 1 v1 q1 ((Hf.bitsOf l (Hf.wantTo l syms k)).map (Value.int .i64)) ∧ wr.ownsRow w2.heap.size 3 1 v2 q2 ((Hf.wantTo l syms k).map (Value.int .i64)) ∧ Apart v1 v2 ∧ Below w2.heap.size w2 wr) (fun _ _ i _ => m - (intOf i).toNat)
  case atStart => exact ⟨0, 0, 0, _, _, by omega, rfl, rfl, rfl, World.ownsRow_nil _ _ _ _, World.ownsRow_nil _ _ _ _, Apart.nil _, Below.refl _ _⟩
  case round =>
    obtain ⟨k, q1, q2, v1, v2, hk, rfl, rfl, rfl, ho1, ho2, hap, hB⟩ := hrel
    have HO1 := Lib.hid ho1; have HO2 := Lib.hid ho2; have HAP := Lib.hid hap; have hsz := hB.size
    have HB := Lib.hid hB; clear ho1 ho2 hap hB
    by_cases hlt : k < m
    · obtain ⟨x, hx⟩ : ∃ x, syms[k]? = some x := ⟨_, List.getElem?_eq_getElem (by rw [HM.out]; exact hlt)⟩
      obtain ⟨ad2, rfl, hc0⟩ := HSY.out k (.int .i64 x) (by simp [hx])
      have hcx := ((HB2.out.trans (HB.out.mono HB2.out.size)).cell (block_lt_of_cell hc0)).trans hc0
      have HX := Lib.hid hx; clear hx hc0
      cases hv : Hf.valid l x with
      | true =>
        obtain ⟨s, L, rfl, hs1, hs2, hL0, hL1⟩ := (Hf.valid_iff l x HIN.out).1 hv
        have hwt := Hf.wantTo_hit l syms k s HX.out hv
        have HWT := Lib.hid hwt; clear hwt hv
        have hsn : s < n := by rw [← HN.out]; exact hs1
        have hlx : l[s]? = some ((L : Nat) : Int) := by
          have := List.getElem?_eq_getElem hs1
          rw [this]; congr 1; simpa [List.getD, this] using hs2
        obtain ⟨ad, rfl, hcl0⟩ := HL.out s (.int .i64 L) (by simp [hlx])
        have hcl := ((HB2.out.trans (HB.out.mono HB2.out.size)).cell (block_lt_of_cell hcl0)).trans hcl0
        have hLn : ((L : Int) == 0) = false := by simp; omega
        have HS1 := Lib.hid hs1; have HS2 := Lib.hid hs2; clear hs1 hs2 hlx
        have hq2 : q2 ≤ 60 := by have h := HO2.out.1; rw [List.length_map] at h; have := Hf.wantTo_len l syms k; omega
        have hq1 : q1 ≤ 900 := by
          have h := HO1.out.1; rw [List.length_map] at h
          have h1 := Hf.bitsOf_len l HIN.out _ (Hf.wantTo_valid l syms k)
          have := Hf.wantTo_len l syms k; omega
        obtain ⟨wo, rfl⟩ : ∃ wo : World, wo = wr := ⟨_, rfl⟩
        go_wp2_with (first | (at_builtin; refine wpList_appL wo rfl (.tmp 89) (.tmp 91) 38 rfl w2.heap.size 3 (.int .i64 0) 1 8 Try.underlying38 infoInt rfl (by decide) v2 q2 _ rfl HO2.out #[.int .i64 s] 1 rfl rfl (by simp [Value.oneCell']) (by omega) (by omega) (by omega) hsz ?_; intro g3 c3 w3 hown3 hg3 hpl3; have HO3 := Lib.hid hown3; have HG3 := Lib.hid hg3; have HP3 := Lib.hid hpl3; clear hown3 hg3 hpl3))
        have HO1b := Lib.hid (HAP.out.symm.kept HO1.out HG3.out)
        have HAP2 := Lib.hid (HAP.out.symm.step (m := q2 + 1) (c := c3) HO1.out HP3.out)
        have HB3 := Lib.hid (Below_own HB.out HO2.out HG3.out (Nat.le_refl _) hsz)
        have hsz3 := HB3.out.size
        have hcx3 := hcx; have hcl3 := hcl
        clear hcx hcl
        have hb3 := (HB2.out.trans (HB3.out.mono HB2.out.size))
        have hcl : w3.cell? (ad.add s) = some (.int .i64 L) := (hb3.cell (block_lt_of_cell hcl0)).trans hcl0
        clear hb3 hcl3 hcx3
        obtain ⟨y, hy⟩ : ∃ y, y = Hf.codeOf l (l.take s) (L : Int) := ⟨_, rfl⟩
        have hyk : (Hf.codeList l)[s]? = some y := by
          unfold Hf.codeList Hf.codesTo
          rw [List.getElem?_map, List.getElem?_range HS1.out, hy, ← HS2.out]; rfl
        have hyb : 0 ≤ y ∧ y ≤ 65536 := by
          rw [hy, Hf.codeOf_pos l _ L hL0]
          have h1 := Hf.start_pow l HR0.out L hL0 hL1
          have h2 : (2 : Nat) ^ L ≤ 2 ^ 15 := Nat.pow_le_pow_right (by omega) (by omega)
          have h3 : ((2 ^ L : Nat) : Int) ≤ ((2 ^ 15 : Nat) : Int) := by exact_mod_cast h2
          simp at h3
          have h4 := Hf.start_nonneg l L
          have h5 := Hf.cnt_take_le l s L
          have h6 := Hf.cnt_nonneg (l.take s) L
          omega
        obtain ⟨hy0, hy1⟩ := hyb
        have hdg : Hf.codeDigs l (s : Int) = Hf.digs L y := by
          unfold Hf.codeDigs
          rw [show ((s : Int)).toNat = s from by omega, HS2.out, hy]; rfl
        obtain ⟨adC, hadC, hcC0⟩ := HCC.out s (.int .i64 y) (by simp [hyk])
        injection hadC with hadC
        subst hadC
        rw [Addr.add_mid, Nat.zero_add] at hcC0
        have HDG := Lib.hid hdg; clear hdg hy hyk
        go_loop [13, 14] (fun v j => ∃ t : Nat, 1 ≤ t ∧ t ≤ L ∧ j = .int .i64 t ∧ v = .int .i64 (2 ^ (t - 1))) (fun _ j => L - (intOf j).toNat)
        case atStart => exact ⟨1, by omega, by omega, rfl, rfl⟩
        case round =>
          obtain ⟨t, ht1, ht2, rfl, rfl⟩ := hrel
          by_cases htl : t < L
          · have hpw : (1 : Int) ≤ 2 ^ (t - 1) ∧ (2 : Int) ^ (t - 1) ≤ 32768 := by
              have h1 : (2 : Nat) ^ (t - 1) ≤ 2 ^ 15 := Nat.pow_le_pow_right (by omega) (by omega)
              have h3 : (1 : Nat) ≤ 2 ^ (t - 1) := Nat.one_le_two_pow
              have h4 : ((2 ^ (t - 1) : Nat) : Int) ≤ ((2 ^ 15 : Nat) : Int) := by exact_mod_cast h1
              have h5 : ((1 : Nat) : Int) ≤ ((2 ^ (t - 1) : Nat) : Int) := by exact_mod_cast h3
              simp at h4 h5
              exact ⟨by omega, h4⟩
            obtain ⟨V, hV⟩ : ∃ V : Int, V = 2 ^ (t - 1) := ⟨_, rfl⟩
            rw [← hV] at hpw ⊢
            obtain ⟨hp1, hp2⟩ := hpw
            have HV := Lib.hid hV; clear hV
            go_wp2_with fail
            go_round
            case rel => exact ⟨t + 1, by omega, by omega, by go_num, by
              rw [HV.out, show t + 1 - 1 = (t - 1) + 1 from by omega, Int.pow_succ]; congr 1; omega⟩
            case measure => simp [intOf]; omega
          · obtain rfl : t = L := by omega
            go_wp2_with fail
            go_loopw [9, 13] (fun vs ws wr => ∃ (j q : Nat) (v : Value), j ≤ t ∧ v = vs ∧ ws = .int .i64 (2 ^ (t - j) / 2) ∧ wr.ownsRow w2.heap.size 3 1 v q ((Hf.bitsOf l (Hf.wantTo l syms k) ++ Hf.digs j (y / 2 ^ (t - j))).map (Value.int .i64)) ∧ wr.ownsRow w2.heap.size 3 1 (.slice (some ⟨g3, 0, none⟩) (q2 + 1) c3) (q2 + 1) ((Hf.wantTo l syms (k + 1)).map (Value.int .i64)) ∧ Apart v (.slice (some ⟨g3, 0, none⟩) (q2 + 1) c3) ∧ Below w2.heap.size w2 wr) (fun _ ws _ => (intOf ws).toNat)
            case atStart =>
              refine ⟨0, q1, v1, by omega, rfl, ?_, ?_, ?_, HAP2.out.symm, HB3.out⟩
              · have e : (2 : Int) ^ (t - 0) / 2 = 2 ^ (t - 1) := by
                  rw [show t - 0 = (t - 1) + 1 from by omega, Int.pow_succ]; omega
                rw [e]
              · simp only [Hf.digs, List.append_nil]; exact HO1b.out
              · rw [HWT.out, List.map_append]; exact HO3.out
            case round =>
              obtain ⟨j, q, v, hj, rfl, rfl, hoA, hoB, hapA, hBA⟩ := hrel
              have hqA : q ≤ 915 := by
                have h := hoA.1; rw [List.length_map, List.length_append, Hf.digs_len] at h
                have h1 := Hf.bitsOf_len l HIN.out _ (Hf.wantTo_valid l syms k)
                have := Hf.wantTo_len l syms k; omega
              have hszA := hBA.size
              have HOA := Lib.hid hoA; have HOB := Lib.hid hoB; have HAPA := Lib.hid hapA; have HBA := Lib.hid hBA; clear hoA hoB hapA hBA
              have hcY : wr.cell? ⟨gc, s, none⟩ = some (.int .i64 y) := (HBA.out.cell (block_lt_of_cell hcC0)).trans hcC0
              by_cases hjt : j < t
              · have e1 : (2 : Int) ^ (t - j) / 2 = 2 ^ (t - (j + 1)) := by
                  rw [show t - j = (t - (j + 1)) + 1 from by omega, Int.pow_succ]; omega
                obtain ⟨V, hV⟩ : ∃ V : Int, V = 2 ^ (t - (j + 1)) := ⟨_, rfl⟩
                rw [e1, ← hV]
                have hp : (1 : Int) ≤ V ∧ V ≤ 32768 := by
                  rw [hV]
                  have h1 : (2 : Nat) ^ (t - (j + 1)) ≤ 2 ^ 15 := Nat.pow_le_pow_right (by omega) (by omega)
                  have h3 : (1 : Nat) ≤ 2 ^ (t - (j + 1)) := Nat.one_le_two_pow
                  have h4 : ((2 ^ (t - (j + 1)) : Nat) : Int) ≤ ((2 ^ 15 : Nat) : Int) := by exact_mod_cast h1
                  have h5 : ((1 : Nat) : Int) ≤ ((2 ^ (t - (j + 1)) : Nat) : Int) := by exact_mod_cast h3
                  simp at h4 h5
                  exact ⟨by omega, h4⟩
                obtain ⟨hp1, hp2⟩ := hp
                have hdn := Hf.digs_next j (t - (j + 1)) y
                rw [show t - (j + 1) + 1 = t - j from by omega, ← hV] at hdn
                have HDN := Lib.hid hdn; have HV := Lib.hid hV; clear e1 hdn hV
                have hd0 : 0 ≤ y / V := Int.ediv_nonneg hy0 (by omega)
                have hd1 : y / V ≤ 65536 := by have := Int.ediv_le_self V hy0; omega
                obtain ⟨wq, rfl⟩ : ∃ wq : World, wq = wr := ⟨_, rfl⟩
                go_wp2_with (first | (at_builtin; refine wpList_appL wq rfl (.tmp 107) (.tmp 115) 38 rfl w2.heap.size 3 (.int .i64 0) 1 8 Try.underlying38 infoInt rfl (by decide) v q _ rfl HOA.out #[.int .i64 (y / V % 2)] 1 rfl rfl (by simp [Value.oneCell']) (by omega) (by omega) (by omega) hszA ?_; intro g4 c4 w4 hown4 hg4 hpl4; have HO4 := Lib.hid hown4; have HG4 := Lib.hid hg4; have HP4 := Lib.hid hpl4; clear hown4 hg4 hpl4))
                go_roundw
                case rel =>
                  refine ⟨j + 1, q + 1, .slice (some ⟨g4, 0, none⟩) (q + 1) c4, by omega, rfl, ?_, ?_, HAPA.out.kept HOB.out HG4.out, HAPA.out.step HOB.out HP4.out, Below_own HBA.out HOA.out HG4.out (Nat.le_refl _) hszA⟩
                  · rw [HV.out]
                  · rw [← HV.out, ← HDN.out, ← List.append_assoc, List.map_append]; exact HO4.out
                case measure => simp [intOf]; omega
              · obtain rfl : j = t := by omega
                go_wp2_with fail
                go_roundw
                case rel =>
                  refine ⟨k + 1, q, q2 + 1, v, .slice (some ⟨g3, 0, none⟩) (q2 + 1) c3, by omega, by go_num, rfl, rfl, ?_, HOB.out, HAPA.out, HBA.out⟩
                  rw [HWT.out, Hf.bitsOf_snoc, HDG.out]
                  have h := HOA.out
                  rw [Nat.sub_self] at h
                  simpa using h
                case measure => simp [intOf]; omega
      | false =>
        have hwt := Hf.wantTo_miss l syms k x HX.out hv
        have HWT := Lib.hid hwt; clear hwt
        have key : x < 0 ∨ (0 ≤ x ∧ n ≤ x) ∨ ∃ s : Nat, x = s ∧ s < n ∧ l[s]? = some 0 := by
          by_cases c1 : x < 0
          · exact .inl c1
          · by_cases c2 : (n : Int) ≤ x
            · exact .inr (.inl ⟨by omega, c2⟩)
            · obtain ⟨s, rfl⟩ := Int.eq_ofNat_of_zero_le (show 0 ≤ x by omega)
              refine .inr (.inr ⟨s, rfl, by omega, ?_⟩)
              have hs : s < l.length := by rw [HN.out]; omega
              rw [List.getElem?_eq_getElem hs]
              by_cases c3 : l[s] = 0
              · rw [c3]
              · exfalso
                have : Hf.valid l (s : Int) = true := by
                  unfold Hf.valid
                  rw [show ((s : Int)).toNat = s from by omega]
                  simp [List.getD, List.getElem?_eq_getElem hs, c3]; exact hs
                rw [this] at hv; cases hv
        clear hv
        rcases key with c1 | ⟨c1, c2⟩ | ⟨s, rfl, c1, c2⟩
        · go_wp2_with fail
          go_roundw
          case rel => exact ⟨k + 1, q1, q2, v1, v2, by omega, by go_num, rfl, rfl, by rw [HWT.out]; exact HO1.out, by rw [HWT.out]; exact HO2.out, HAP.out, HB.out⟩
          case measure => simp [intOf]; omega
        · go_wp2_with fail
          go_roundw
          case rel => exact ⟨k + 1, q1, q2, v1, v2, by omega, by go_num, rfl, rfl, by rw [HWT.out]; exact HO1.out, by rw [HWT.out]; exact HO2.out, HAP.out, HB.out⟩
          case measure => simp [intOf]; omega
        · obtain ⟨ad, rfl, hcl0⟩ := HL.out s (.int .i64 0) (by simp [c2])
          have hcl := ((HB2.out.trans (HB.out.mono HB2.out.size)).cell (block_lt_of_cell hcl0)).trans hcl0
          clear c2 hcl0
          go_wp2_with fail
          go_roundw
          case rel => exact ⟨k + 1, q1, q2, v1, v2, by omega, by go_num, rfl, rfl, by rw [HWT.out]; exact HO1.out, by rw [HWT.out]; exact HO2.out, HAP.out, HB.out⟩
          case measure => simp [intOf]; omega
    · obtain rfl : k = m := by omega
      have hqw := HO2.out.1
      have hq1 := HO1.out.1
      have hwv := Hf.wantTo_valid l syms k
      have hwl := Hf.wantTo_len l syms k
      have hbl := Hf.bitsOf_len l HIN.out _ hwv
      rw [List.length_map] at hqw hq1
      obtain ⟨W, hW⟩ : ∃ W, W = Hf.wantTo l syms k := ⟨_, rfl⟩
      rw [← hW] at hqw hq1 hwv hwl hbl HO1 HO2
      obtain ⟨bits, hbits⟩ : ∃ bits, bits = Hf.bitsOf l W := ⟨_, rfl⟩
      rw [← hbits] at hq1 hbl HO1
      obtain ⟨AW, cW, rfl, hcW, _⟩ := own_cells HO2.out
      obtain ⟨AB, cB, rfl, hcB, _⟩ := own_cells HO1.out
      have hb01 : ∀ d ∈ bits, d = 0 ∨ d = 1 := by rw [hbits]; exact Hf.bitsOf_bits l W
      have hq60 : q2 ≤ 60 := by omega
      have hq900 : q1 ≤ 900 := by omega
      have HCW := Lib.hid hcW; have HCB := Lib.hid hcB; have HQ1 := Lib.hid hq1; have HQ2 := Lib.hid hqw; have HWV := Lib.hid hwv; have HB01 := Lib.hid hb01; have HBI := Lib.hid hbits
      clear hcW hcB hq1 hqw hwv hb01 hbits hW hwl hbl
      obtain ⟨N, hN⟩ : ∃ N : Nat, N = (q1 + 7) / 8 := ⟨_, rfl⟩
      have hmk := HMK.out N (by omega)
      have hNe : ((N : Nat) : Int) = ((q1 : Int) + 7) / 8 := by omega
      rw [hNe] at hmk
      have HNN := Lib.hid hN; have HNE := Lib.hid hNe; clear hN hNe
      obtain ⟨wo, rfl⟩ : ∃ wo : World, wo = wr := ⟨_, rfl⟩
      go_wp2_with fail
      go_loopw [16] (fun i wr => ∃ i' : Nat, i' ≤ q1 ∧ i = .int .i64 i' ∧ Blk wr wo.heap.size 5 ((Hf.packTo bits N i').map (Value.int .u8)) ∧ Below wo.heap.size wo wr) (fun i _ => q1 - (intOf i).toNat)
      case atStart =>
        refine ⟨0, by omega, rfl, ?_, (Below.refl _ _).alloc (Nat.le_refl _) _⟩
        rw [Hf.packTo_zero, List.map_replicate]
        exact Blk.new _ _ (zeros8 N)
      case round =>
        obtain ⟨i, hi, rfl, hbk, hBi⟩ := hrel
        have HBK := Lib.hid hbk; have HBi := Lib.hid hBi; clear hbk hBi
        by_cases hlt2 : i < q1
        · obtain ⟨d, hd⟩ : ∃ d, bits[i]? = some d := ⟨_, List.getElem?_eq_getElem (by have := HQ1.out; omega)⟩
          obtain ⟨adB, hadB, hcd0⟩ := HCB.out i (.int .i64 d) (by simp [hd])
          subst hadB
          have hcd := (HBi.out.cell (block_lt_of_cell hcd0)).trans hcd0
          have hdd := HB01.out d (List.mem_of_getElem? hd)
          have hgd : bits.getD i 0 = d := by simp [List.getD, hd]
          have hi8 : i / 8 < N := by have := HNN.out; omega
          have hcb : wr.cell? ⟨wo.heap.size, i / 8, none⟩ = some (.int .u8 (Hf.byteTo bits i (i / 8))) := by rw [HBK.out.cell, Hf.packTo_get _ _ _ _ hi8]
          have hfb := HBK.out.frozen (i / 8)
          have hr1 := Hf.byteTo_range bits HB01.out i (i / 8)
          have hr2 := Hf.byteTo_range bits HB01.out (i + 1) (i / 8)
          rw [Hf.byteTo_succ, if_pos rfl, hgd] at hr2
          have hst := Hf.packTo_set bits N i hi8
          rw [hgd] at hst
          obtain ⟨B0, hB0⟩ : ∃ B0, B0 = Hf.byteTo bits i (i / 8) := ⟨_, rfl⟩
          rw [← hB0] at hcb hr1 hr2 hst
          have HST := Lib.hid hst; have HR2 := Lib.hid hr2; have HDD := Lib.hid hdd
          clear hst hr2 hd hgd hcd0 hB0 hdd
          obtain ⟨hr10, hr11⟩ := hr1
          have hdr : 0 ≤ d ∧ d ≤ 1 := by rcases HDD.out with e | e <;> omega
          obtain ⟨hd0, hd1⟩ := hdr
          obtain ⟨wp, rfl⟩ : ∃ wp : World, wp = wr := ⟨_, rfl⟩
          go_wp2_with fail
          go_loop [17, 18] (fun v j => ∃ t : Nat, t ≤ i % 8 ∧ j = .int .i64 t ∧ v = .int .i64 (2 ^ t)) (fun _ j => i % 8 - (intOf j).toNat)
          case atStart => exact ⟨0, by omega, rfl, rfl⟩
          case round =>
            obtain ⟨t, ht, rfl, rfl⟩ := hrel
            have hpw : (1 : Int) ≤ 2 ^ t ∧ (2 : Int) ^ t ≤ 128 := by
              have h1 : (2 : Nat) ^ t ≤ 2 ^ 7 := Nat.pow_le_pow_right (by omega) (by omega)
              have h3 : (1 : Nat) ≤ 2 ^ t := Nat.one_le_two_pow
              have h4 : ((2 ^ t : Nat) : Int) ≤ ((2 ^ 7 : Nat) : Int) := by exact_mod_cast h1
              have h5 : ((1 : Nat) : Int) ≤ ((2 ^ t : Nat) : Int) := by exact_mod_cast h3
              simp at h4 h5
              exact ⟨by omega, h4⟩
            obtain ⟨V, hV⟩ : ∃ V : Int, V = 2 ^ t := ⟨_, rfl⟩
            rw [← hV] at hpw ⊢
            obtain ⟨hp1, hp2⟩ := hpw
            have HV := Lib.hid hV; clear hV
            by_cases htl : t < i % 8
            · go_wp2_with fail
              go_round
              case rel => exact ⟨t + 1, by omega, by go_num, by rw [HV.out, Int.pow_succ]; congr 1; omega⟩
              case measure => simp [intOf]; omega
            · obtain rfl : t = i % 8 := by omega
              have hm0 : 0 ≤ d * V := Int.mul_nonneg hd0 (by omega)
              have hm1 : d * V ≤ 128 := by rcases HDD.out with e | e <;> rw [e] <;> omega
              have hm2 : B0 + d * V ≤ 255 := by have := HR2.out.2; rw [← HV.out] at this; exact this
              have hi9 : (i : Int) / 8 < N := by omega
              have hi90 : 0 ≤ (i : Int) / 8 := by omega
              go_wp2_with fail
              go_region
              go_wp2_with fail
              go_roundw
              case rel =>
                refine ⟨i + 1, by omega, by go_num, ?_, (HBi.out.setCell (Nat.le_refl _) _).drew⟩
                rw [← HST.out, ← HV.out]
                exact (HBK.out.set_ _ _).drew
              case measure => simp [intOf]; omega
        · obtain rfl : i = q1 := by omega
          have hpk := HBK.out
          obtain ⟨P, hP⟩ : ∃ P, P = Hf.packTo bits N i := ⟨_, rfl⟩
          rw [← hP] at hpk
          have hPl : P.length = N := by rw [hP, Hf.packTo_len]
          have hPr : ∀ x ∈ P, 0 ≤ x ∧ x ≤ 255 := by rw [hP]; exact Hf.packTo_range bits HB01.out N i
          have hPn : 8 * N ≥ i ∧ (i + 7) / 8 = N := by have := HNN.out; omega
          have HPK := Lib.hid hpk; have HP := Lib.hid hP; have HPL := Lib.hid hPl; have HPR := Lib.hid hPr; have HPN := Lib.hid hPn
          clear hpk hP hPl hPr hPn
          obtain ⟨wp, rfl⟩ : ∃ wp : World, wp = wr := ⟨_, rfl⟩
          have hcp : Ints wp (some ⟨wo.heap.size, 0, none⟩) .u8 P := fun j v hv => ⟨_, rfl, by rw [Addr.add_mid, Nat.zero_add, HPK.out.cell]; exact hv⟩
          have HCP := Lib.hid hcp; clear hcp
          have hN2 : N ≤ 140737488355328 := by have := HNN.out; omega
          go_wp2_with fail
          refine (read_any _ N N P _ HCP.out HPR.out HPL.out hN2).mono ?_
          rintro e w5 ⟨rfl, hbt, hB5⟩
          have hB25 := HBi.out.trans (hB5.mono HBi.out.size)
          have HT5 := Lib.hid ((HT2.out.below HB.out).below hB25)
          have HCW5 := Lib.hid (Cells.below HCW.out hB25)
          have HB5 := Lib.hid (HB2.out.trans ((HB.out.trans (hB25.mono HB.out.size)).mono HB2.out.size))
          have HBT := Lib.hid hbt
          have hsz5 : w.heap.size ≤ wp.heap.size := by have h1 := HB2.out.size; have h2 := HB.out.size; have h3 := HBi.out.size; omega
          clear hB5 hbt hB25
          go_wp2_with fail
          go_loopw [20] (fun j wr => ∃ (j' pos : Nat), j' ≤ q2 ∧ j = .int .i64 j' ∧ Hid (pos = (Hf.bitsOf l (W.take j')).length) ∧ BitsAt wr wp.heap.size P pos ∧ TabR wr g l ∧ Cells wr AW (W.map (Value.int .i64)) ∧ Below w.heap.size w wr) (fun j _ => q2 - (intOf j).toNat)
          case atStart => exact ⟨0, 0, by omega, rfl, rfl, HBT.out, HT5.out, HCW5.out, HB5.out⟩
          case round =>
            obtain ⟨j, pos, hj, rfl, HPOS, hbt, htr, hcw, hB6⟩ := hrel
            have HBT := Lib.hid hbt; have HTR := Lib.hid htr; have HCWj := Lib.hid hcw; have HB6 := Lib.hid hB6; clear hbt htr hcw hB6
            by_cases hlt3 : j < q2
            · obtain ⟨x, hx⟩ : ∃ x, W[j]? = some x := ⟨_, List.getElem?_eq_getElem (by have := HQ2.out; omega)⟩
              obtain ⟨L, hnx, hps, _⟩ := Hf.read_back l W HE.out HWV.out N (by rw [← HBI.out, HQ1.out]; have := HPN.out; omega) j x hx
              have hc := next_any g wp.heap.size l P pos wr HTR.out HBT.out HE.out
              have e1 : Hf.next l P pos = (x, 0, L) := by rw [HPOS.out, HP.out, ← hnx, ← HBI.out, HQ1.out, Nat.mul_one]
              rw [e1] at hc
              have HC := Lib.hid hc; have HPS := Lib.hid hps; have HX := Lib.hid hx
              clear hc hnx hps hx e1
              go_wp2_with fail
              refine HC.out.mono ?_
              rintro e w6 ⟨rfl, hbt2, hg6⟩
              have hcw6 : Cells w6 AW (W.map (Value.int .i64)) := by
                obtain ⟨A', c', h1, _⟩ := HBT.out
                refine Cells.grown HCWj.out hg6 ?_
                intro ad hAW
                right
                obtain ⟨ad', hAW', hc'⟩ := HCW.out j (.int .i64 x) (by simp [HX.out])
                rw [hAW] at hAW'
                injection hAW' with hAW'
                subst hAW'
                have := block_lt_of_cell hc'
                rw [block_of_add] at this
                have h2 := HBi.out.size
                omega
              obtain ⟨adW, hadW, hcx6⟩ := hcw6 j (.int .i64 x) (by simp [HX.out])
              have HBT2 := Lib.hid hbt2
              have HTR2 := Lib.hid (HTR.out.grown HBT.out.blk.choose_spec hg6)
              have HB7 := Lib.hid (below_of_grown HB6.out hg6 hsz5 HB6.out.size)
              have HCW6 := Lib.hid hcw6
              subst hadW
              clear hbt2 hg6 hcw6
              go_wp2_with fail
              go_roundw
              case rel =>
                refine ⟨j + 1, pos + L, by omega, by go_num, ?_, HBT2.out, HTR2.out, HCW6.out, HB7.out⟩
                show _ = _
                rw [HPS.out, HPOS.out]
              case measure => simp [intOf]; omega
            · obtain rfl : j = q2 := by omega
              have hpos : pos = i := by
                rw [HPOS.out, List.take_of_length_le (by have := HQ2.out; omega), ← HBI.out, HQ1.out, Nat.mul_one]
              have hat := at_any wp.heap.size P pos wr HBT.out
              rw [hpos, HPN.out.2] at hat
              have HAT := Lib.hid hat; clear hat hpos
              go_wp2_with fail
              refine HAT.out.mono ?_
              rintro e w7 ⟨rfl, nq, rfl⟩
              go_wp2_with fail
              refine (lives14 _).mono ?_
              rintro e w8 ⟨rfl, hB8⟩
              go_wp2_with fail
              go_ret
              exact ⟨rfl, (Below_drewN HB6.out nq).trans (hB8.mono HB6.out.size)⟩
end Go.Proofs.Ytoejmjhfecppcaa
