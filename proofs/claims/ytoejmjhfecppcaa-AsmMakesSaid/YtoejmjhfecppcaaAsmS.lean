/- AsmMakes: the law's body. -/
import Derived.Test.YtoejmjhfecppcaaAsmP
import Derived.Test.YtoejmjhfecppcaaAsmR
namespace Go.Proofs.Ytoejmjhfecppcaa
set_option linter.unusedSimpArgs false
set_option linter.unusedVariables false
open Go.RowKit Go.Maps Go.Sort
theorem doneL_empty (d : AsmD) : ∀ (T : List (ByteArray × Int × Bool)) (o : List Int), (doneL d T o).1 ≠ 0 → (doneL d T o).2 = []
  | [], o, h => by simp [doneL] at h
  | x :: T, o, h => by
    simp only [doneL] at h ⊢
    split at h
    · rfl
    · rename_i to1 hm
      split at h
      · rename_i hx
        rw [if_pos hx]
        split at h
        · rename_i hr; rw [if_pos hr]
        · rename_i hr
          rw [if_neg hr]
          exact doneL_empty d T _ h
      · rename_i hx
        rw [if_neg hx]
        exact doneL_empty d T _ h
theorem done_all {d : AsmD} {w w' : World} {e : Ending} (h : DoneR d w e w') : ∃ A n c, e = .returned (.tuple #[.slice A n c, .int .i64 (doneF d).1]) ∧ Ints w' A .u8 (doneF d).2 ∧ (doneF d).2.length = n ∧ Below w.heap.size w w' := by
  obtain ⟨⟨h1, rfl⟩ | ⟨h1, A, n, c, rfl, h2, h3, _⟩, hb⟩ := h
  · have he : (doneF d).2 = [] := by
      unfold doneF at h1 ⊢
      by_cases hd : d.e ≠ 0
      · rw [if_pos hd]
      · rw [if_neg hd] at h1 ⊢
        exact doneL_empty d _ _ h1
    rw [he]
    exact ⟨none, 0, 0, rfl, fun i v hi => by simp at hi, rfl, hb⟩
  · rw [h1]
    exact ⟨A, n, c, rfl, h2, h3, hb⟩
theorem lookM_at {Z : List (ByteArray × Int)} (hd : ZDist Z) : ∀ (i : Nat) z, Z[i]? = some z → lookM Z z.1.data.toList = some z.2 := by
  induction Z with
  | nil => intro i z h; simp at h
  | cons y Z ih =>
    intro i z h
    have hd2 := List.pairwise_cons.1 hd
    unfold lookM
    rw [List.find?_cons]
    cases i with
    | zero => simp at h; subst h; simp
    | succ i =>
      simp at h
      have hne : ¬ y.1.data.toList = z.1.data.toList := fun e => hd2.1 z (List.mem_of_getElem? h) (ba_iff.1 e)
      have := ih hd2.2 i z h
      unfold lookM at this
      simpa [hne] using this
theorem fold_take {L : List OpL} {k : Nat} {x : OpL} (hx : L[k]? = some x) (d : AsmD) : (L.take (k + 1)).foldl callF d = callF ((L.take k).foldl callF d) x := by
  rw [List.take_add_one, hx]
  simp
theorem run1_names : ∀ (L : List OpL) (Z : List (ByteArray × Int)) (h : Int), (∀ x ∈ L, OpOk x) → (∀ z ∈ Z, z.1.size ≤ maxLen) → ∀ z ∈ (run1 L Z h).1, z.1.size ≤ maxLen
  | [], Z, h, _, hz => hz
  | o :: L, Z, h, ho, hz => by
    have hz1 : ∀ z ∈ (if o.kind = 1 then Z ++ [(o.name, h)] else Z), z.1.size ≤ maxLen := by
      split
      · intro z hz2
        rcases List.mem_append.1 hz2 with hz2 | hz2
        · exact hz z hz2
        · simp at hz2; subst hz2; exact (ho o (by simp)).name
      · exact hz
    simp only [run1]
    split
    · exact hz
    · split
      · exact hz
      · split
        · exact hz1
        · exact run1_names L _ _ (fun x hx => ho x (by simp [hx])) hz1
theorem run1_len : ∀ (L : List OpL) (Z : List (ByteArray × Int)) (h : Int), (run1 L Z h).1.length ≤ Z.length + L.length
  | [], Z, h => Nat.le_refl _
  | o :: L, Z, h => by
    have hz1 : (if o.kind = 1 then Z ++ [(o.name, h)] else Z).length ≤ Z.length + 1 := by split <;> simp
    simp only [run1, List.length_cons]
    split
    · simp only []; omega
    · split
      · simp only []; omega
      · split
        · simp only []; omega
        · have := run1_len L (if o.kind = 1 then Z ++ [(o.name, h)] else Z) (h + (bytesL o h []).length)
          omega
theorem run_len (L : List OpL) (org : Int) : (runF org L).1.length ≤ L.length := by
  have h := run1_len L [] org
  simp at h
  unfold runF
  split
  · exact h
  · exact h
theorem run_names (L : List OpL) (ho : ∀ x ∈ L, OpOk x) (org : Int) : ∀ z ∈ (runF org L).1, z.1.size ≤ maxLen := by
  have h := run1_names L [] org ho (fun z hz => by simp at hz)
  unfold runF
  split
  · exact h
  · exact h
set_option maxRecDepth 100000 in
set_option maxHeartbeats 32000000 in
theorem makes28 (org : Int) (g0 : 0 ≤ org) (g1 : org ≤ 65535) (A : Option Addr) (n c : Nat) (L : List OpL) (s : ByteArray) (w : World) (hL : OpsAt w A L) (hn : L.length = n) (hOK : ∀ x ∈ L, OpOk x) (hs : s.size ≤ maxLen) :
    Calls Try.prog 9 #[.int .u16 org, .slice A n c, .string s] w (Yes w) := by
  have HL := Lib.hid hL
  have HN := Lib.hid hn
  have HOK := Lib.hid hOK
  have HSZ := Lib.hid hs
  have HLV := Lib.hid lives28
  clear hL hn hOK hs
  go_enter Try.func9, Try.ntmps9
  cases hl1 : lightL L with
  | false =>
    go_wp2_with (first
      | (go_at_call 30; refine (light28 A n c L w HL.out HN.out).mono ?_; rintro e w3 ⟨rfl, rfl⟩; rw [hl1])
      | (go_at_call 31; refine (HLV.out _).mono ?_; rintro e wz ⟨rfl, hbz⟩))
    go_ret
    exact ⟨rfl, hbz⟩
  | true =>
    have hlen := lightL_len hl1
    have hn100 : n ≤ 100 := by have := HN.out; omega
    have HLL := Lib.hid hl1
    go_wp2_with (first
      | (go_at_call 30; refine (light28 A n c L w HL.out HN.out).mono ?_; rintro e w3 ⟨rfl, rfl⟩; rw [hl1])
      | (go_at_call 32; refine (asm_new org g0 g1 w).mono ?_; rintro e w9 ⟨P, M, rfl, h9, hb9⟩; have HS9 := Lib.hid h9; have HB9 := Lib.hid hb9; clear h9 hb9))
    go_loopw [8] (fun i u => ∃ (k : Nat) (d : AsmD), i = .int .i64 k ∧ k ≤ n ∧ Hid (AsmS w.heap.size P M k u d) ∧ Hid (AsmI d k) ∧ Hid (Below w.heap.size w u) ∧ Hid (d = (L.take k).foldl callF (newD org))) (fun i _ => n - (intOf i).toNat)
    case atStart => exact ⟨0, _, rfl, Nat.zero_le _, HS9, Lib.hid (AsmI.new g0 g1), HB9, Lib.hid rfl⟩
    case round =>
      obtain ⟨k, d, rfl, hk, HS, HI, HB, HD⟩ := hrel
      clear HS9 HB9
      by_cases hlt : k < n
      · have hlti : (k : Int) < n := by omega
        obtain ⟨x, hx⟩ : ∃ x, L[k]? = some x := ⟨_, List.getElem?_eq_getElem (by have := HN.out; omega)⟩
        obtain ⟨ad, Ax, cx, rfl, x0, x1, x2, x3, hxl, hxn⟩ := (HL.out.below HB.out) k x hx
        have hxm := lightL_op HLL.out (List.mem_of_getElem? hx)
        have HXO := Lib.hid (HOK.out x (List.mem_of_getElem? hx))
        have HXL := Lib.hid hxl
        have HXN := Lib.hid hxn
        have HFT := Lib.hid (fold_take hx (newD org))
        clear hx hxl hxn
        go_wp2_with (first
          | (go_at_call 33; refine (asm_call w.heap.size P M k k d x Ax cx wr HS.out HI.out (by omega) (by omega) HXO.out HXL.out (by omega) HXN.out).mono ?_; rintro e wq ⟨rfl, hq, hbq⟩; have HQ := Lib.hid hq; have HBQ := Lib.hid (HB.out.trans hbq); clear hq hbq))
        go_roundw
        case rel => exact ⟨k + 1, callF d x, by go_num, by omega, HQ, Lib.hid (HI.out.callF HXO.out), HBQ, Lib.hid (by rw [HFT.out, HD.out])⟩
        case measure => simp [intOf]; omega
      · obtain rfl : k = n := by omega
        have HD2 : Hid (d = L.foldl callF (newD org)) := Lib.hid (by rw [HD.out, ← HN.out, List.take_length])
        have hpl := plain28 (org := org) g1 L
        rw [← HD2.out] at hpl
        obtain ⟨hdone, hhere, hmks, hdist⟩ := hpl
        have HRUN := Lib.hid (run28 org g0 g1 A k c L wr (HL.out.below HB.out) HN.out hn100 HOK.out (fun x hx => lightL_op HLL.out hx))
        unfold RunR at HRUN
        have HNMS0 := Lib.hid (run_names L HOK.out org)
        have HZC := Lib.hid (run_len L org)
        obtain ⟨⟨Z, h, out, er⟩, hrf⟩ : ∃ r, r = runF org L := ⟨_, rfl⟩
        rw [← hrf] at HRUN hdone hhere hmks hdist HNMS0 HZC
        have HNMS : Hid (∀ z ∈ Z, z.1.size ≤ maxLen) := HNMS0
        have HDONE := Lib.hid hdone
        have HHERE := Lib.hid hhere
        have HMKS := Lib.hid hmks
        have HDIST := Lib.hid hdist
        clear hlt HD HD2 hdone hhere hmks hdist hrf hk hl1
        go_upto_region 9 with (first
          | (go_at_call 34; refine HRUN.out.mono ?_; rintro e w1 ⟨An, At, Ao, nz, cn, ct, no, co, told, rfl, hz, hzn, hio, hno, _, hb1⟩; have HZ1 := Lib.hid hz; have HZN := Lib.hid hzn; have HIO1 := Lib.hid hio; have HNO := Lib.hid hno; have HS1 := Lib.hid (HS.out.below_ hb1); have HB1 := Lib.hid (HB.out.trans (HS.out.toB hb1)); clear hz hzn hio hno hb1))
        go_upto_region 10 with (first
          | (go_at_call 35; refine (asm_Done w.heap.size P M k k d w1 HS1.out HI.out.ok (by omega) HI.out.td).mono ?_; rintro e w2 hdn; obtain ⟨Ab, nb, cb, rfl, hib, hnb, hb2⟩ := done_all hdn; rw [HDONE.out] at hib hnb ⊢; have HIB := Lib.hid hib; have HNB := Lib.hid hnb; have HS2 := Lib.hid (HS1.out.below_ hb2); have HB2 := Lib.hid (HB1.out.trans (HS1.out.toB hb2)); have HIO2 := Lib.hid (HIO1.out.below hb2); have HZ2 := Lib.hid (HZ1.out.below hb2); clear hib hnb hb2 hdn))
        have hcv1 := conv_ints w2 Ab nb cb out HIB.out HNB.out
        have hcv2 := conv_ints w2 Ao no co out HIO2.out HNO.out
        obtain ⟨tx, htx⟩ : ∃ tx, tx = txt8 out := ⟨_, rfl⟩
        rw [← htx] at hcv1 hcv2
        clear htx
        go_cut [77] (fun t wx => Hid (t = .bool false) ∧ Hid (Below w2.heap.size w2 wx))
        case first =>
          by_cases he : er = 0
          · subst he
            have hh := HHERE.out rfl
            have hd0 : 0 ≤ d.here := by have := HI.out.ok.org0; unfold AsmD.here; omega
            have hd1 : d.here ≤ 65536 := by have := HI.out.ok.top; unfold AsmD.here; omega
            have h0 : 0 ≤ h := by rw [← hh]; exact hd0
            have h1 : h ≤ 65536 := by rw [← hh]; exact hd1
            have th : Int.tmod h 65536 = h % 65536 := by rw [Int.tmod_eq_emod_of_nonneg (by omega)]
            obtain ⟨y, hy⟩ : ∃ y, h % 65536 = y := ⟨_, rfl⟩
            rw [hy] at th
            have HY : Hid (d.here % 65536 = y) := Lib.hid (by rw [hh]; exact hy)
            have hy0 : 0 ≤ y := by omega
            have hy1 : y ≤ 65535 := by omega
            clear hh hd0 hd1 hy
            go_wp2_with (first
              | (go_at_call 36; refine (asm_Here w.heap.size P M k k d w2 HS2.out HI.out.ok).mono ?_; rintro e wx ⟨rfl, hbd⟩; rw [HY.out]; have HBX := Lib.hid hbd; clear hbd))
            go_meet
            exact ⟨Lib.hid rfl, HBX⟩
          · go_wp2_with fail
            go_meet
            exact ⟨Lib.hid rfl, Lib.hid (Below.refl _ _)⟩
        case rest =>
          obtain ⟨HT, HBX⟩ := hcut
          obtain ⟨w3, rfl⟩ : ∃ w3 : World, w3 = wc := ⟨_, rfl⟩
          have HS3 := Lib.hid (HS2.out.below_ HBX.out)
          have HB3 := Lib.hid (HB2.out.trans (HS2.out.toB HBX.out))
          have HZ3 := Lib.hid (HZ2.out.below HBX.out)
          obtain rfl : u77 = .bool false := HT.out
          clear hcv1 hcv2 HT
          have HZL : Hid (Z.length = nz) := HZN
          have hnz : nz ≤ 100 := by have := HZL.out; have h2 : Z.length ≤ L.length := HZC.out; omega
          go_wp2_with fail
          go_loopw [17, 18] (fun tv iv u => ∃ (i : Nat) (bt : Bool), iv = .int .i64 i ∧ tv = .bool bt ∧ i ≤ nz ∧ Hid ((bt || memZ s (Z.drop i)) = memZ s Z) ∧ w3 = u) (fun _ iv _ => nz - (intOf iv).toNat)
          case atStart => exact ⟨0, false, rfl, rfl, Nat.zero_le _, Lib.hid rfl, rfl⟩
          case round =>
            obtain ⟨i, bt, rfl, rfl, hi, HME, rfl⟩ := hrel
            by_cases hlz : i < nz
            · have hlzi : (i : Int) < nz := by omega
              obtain ⟨z, hz⟩ : ∃ z, Z[i]? = some z := ⟨_, List.getElem?_eq_getElem (by have := HZL.out; omega)⟩
              obtain ⟨an, rfl, cn1⟩ := HZ3.out.names i (.string z.1) (by rw [List.getElem?_map, hz]; rfl)
              obtain ⟨at_, rfl, ct1⟩ := HZ3.out.at_ i (.int .i64 z.2) (by rw [List.getElem?_map, List.getElem?_map, hz]; rfl)
              have hdz : Z.drop i = z :: Z.drop (i + 1) := by rw [List.drop_eq_getElem_cons (by have := HZL.out; omega), (List.getElem?_eq_some_iff.1 hz).2]
              have HDZ2 : Hid ((bt || (decide (z.1 = s) || memZ s (Z.drop (i + 1)))) = memZ s Z) := Lib.hid (by rw [← HME.out, hdz]; rfl)
              have HLK : Hid (d.mks z.1.data.toList = some z.2) := Lib.hid (by rw [HMKS.out]; exact lookM_at HDIST.out i z hz)
              have hzb := HI.out.td.mark _ _ HLK.out
              have HNM : Hid (z.1.size ≤ maxLen) := Lib.hid (HNMS.out z (List.mem_of_getElem? hz))
              obtain ⟨z1, z2⟩ := z
              obtain ⟨zb0, zb1⟩ := hzb
              simp only [] at cn1 ct1 zb0 zb1 HDZ2 HLK HNM
              have tz : Int.tmod z2 65536 = z2 % 65536 := by rw [Int.tmod_eq_emod_of_nonneg (by omega)]
              obtain ⟨y, hy⟩ : ∃ y, z2 % 65536 = y := ⟨_, rfl⟩
              rw [hy] at tz
              have HY := Lib.hid hy
              have hy0 : 0 ≤ y := by omega
              have hy1 : y ≤ 65535 := by omega
              clear hz hdz HME hy
              by_cases he : z1 = s
              · have HD2 : Hid ((true || memZ s (Z.drop (i + 1))) = memZ s Z) := Lib.hid (by have := HDZ2.out; simp [he] at this ⊢; exact this)
                rw [he] at cn1 HLK
                clear HNM he HDZ2
                cases bt with
                | false =>
                  go_wp2_with (first
                    | (go_at_call 37; refine (asm_At w.heap.size P M k k d s w3 HS3.out HSZ.out).mono ?_; rintro e w4 ⟨rfl, rfl⟩; rw [HLK.out]; simp only [Option.getD_some, Option.isSome_some]; rw [HY.out]))
                  go_roundw
                  case rel => exact ⟨i + 1, true, by go_num, rfl, by omega, HD2, by first | rfl | trivial⟩
                  case measure => simp [intOf]; omega
                | true =>
                  go_wp2_with (first
                    | (go_at_call 37; refine (asm_At w.heap.size P M k k d s w3 HS3.out HSZ.out).mono ?_; rintro e w4 ⟨rfl, rfl⟩; rw [HLK.out]; simp only [Option.getD_some, Option.isSome_some]; rw [HY.out]))
                  go_roundw
                  case rel => exact ⟨i + 1, true, by go_num, rfl, by omega, HD2, by first | rfl | trivial⟩
                  case measure => simp [intOf]; omega
              · have HD2 : Hid ((bt || memZ s (Z.drop (i + 1))) = memZ s Z) := Lib.hid (by have := HDZ2.out; simpa [he] using this)
                have hne := ba_ne he
                clear he HDZ2
                cases bt with
                | false =>
                  go_wp2_with (first
                    | (go_at_call 37; refine (asm_At w.heap.size P M k k d z1 w3 HS3.out HNM.out).mono ?_; rintro e w4 ⟨rfl, rfl⟩; rw [HLK.out]; simp only [Option.getD_some, Option.isSome_some]; rw [HY.out]))
                  go_roundw
                  case rel => exact ⟨i + 1, false, by go_num, rfl, by omega, HD2, by first | rfl | trivial⟩
                  case measure => simp [intOf]; omega
                | true =>
                  go_wp2_with (first
                    | (go_at_call 37; refine (asm_At w.heap.size P M k k d z1 w3 HS3.out HNM.out).mono ?_; rintro e w4 ⟨rfl, rfl⟩; rw [HLK.out]; simp only [Option.getD_some, Option.isSome_some]; rw [HY.out]))
                  go_roundw
                  case rel => exact ⟨i + 1, true, by go_num, rfl, by omega, HD2, by first | rfl | trivial⟩
                  case measure => simp [intOf]; omega
            · obtain rfl : i = nz := by omega
              have HMM : Hid (bt = memZ s Z) := Lib.hid (by
                have := HME.out
                rw [← HZL.out, List.drop_length] at this
                simpa [memZ] using this)
              have HOKE : Hid ((d.mks s.data.toList).isSome = bt) := Lib.hid (by rw [HMKS.out, lookM_mem]; exact HMM.out.symm)
              cases bt with
              | false =>
                go_wp2_with (first
                  | (go_at_call 37; refine (asm_At w.heap.size P M k k d s w3 HS3.out HSZ.out).mono ?_; rintro e w4 ⟨rfl, rfl⟩; rw [HOKE.out])
                  | (go_at_call 31; refine (HLV.out _).mono ?_; rintro e wz ⟨rfl, hbz⟩))
                go_ret
                exact ⟨rfl, HB3.out.trans (hbz.mono HB3.out.size)⟩
              | true =>
                go_wp2_with (first
                  | (go_at_call 37; refine (asm_At w.heap.size P M k k d s w3 HS3.out HSZ.out).mono ?_; rintro e w4 ⟨rfl, rfl⟩; rw [HOKE.out])
                  | (go_at_call 31; refine (HLV.out _).mono ?_; rintro e wz ⟨rfl, hbz⟩))
                go_ret
                exact ⟨rfl, HB3.out.trans (hbz.mono HB3.out.size)⟩
end Go.Proofs.Ytoejmjhfecppcaa
