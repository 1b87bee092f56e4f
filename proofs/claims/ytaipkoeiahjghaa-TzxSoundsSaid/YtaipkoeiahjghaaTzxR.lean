/- The laws of stage 19: TzxSounds. -/
import Derived.Test.YtaipkoeiahjghaaTzxQ
import Derived.Test.YtaipkoeiahjghaaTzxM
import Derived.Test.YtaipkoeiahjghaaMemH
import Derived.Deep.DrawnRows
namespace Go.Proofs.Ytaipkoeiahjghaa
set_option linter.unusedSimpArgs false
set_option linter.unusedVariables false
open Go.RowKit
attribute [local go_sem ↓] Go.wp_at_zero Go.wp_at_succ
theorem own_far {w : World} {base size n g i : Nat} {e : TypeId} {v u : Value} {xs : List Value} (h : w.ownsRow base e size v n xs) (hg : g < base) : (w.setCell ⟨g, i, none⟩ u).ownsRow base e size v n xs :=
  h.kept (grownBy_setCell (grownBy_refl w (some g)) i u) (by
    cases hv : v.ownBlock with
    | none => exact .inl rfl
    | some k =>
      right
      intro e
      injection e with e
      have := (h.lt k hv).1
      omega)
theorem infoBlock19 : (Try.prog.info? 30).map (fun i => (i.zero, i.size, i.bytes)) = some (some (.agg #[.int .i64 0, .int .i64 0, .int .i64 0, .int .i64 0, .int .i64 0, .int .i64 0, .int .i64 0, .int .i64 0, .int .i64 0, .int .i64 0, .int .i64 0, .int .i64 0, .slice none 0 0, .slice none 0 0, .slice none 0 0, .slice none 0 0, .slice none 0 0, .slice none 0 0]), 18, 240) := by kernel_rfl
set_option maxRecDepth 100000 in
set_option maxHeartbeats 2000000 in
theorem buildB (u : World) (id : Int) (ta ia : Value) : (Instr.buildSlice 24 1 #[(0, .agg (blkRow id ta ia).toArray)]).run Try.prog u = .ok (.slice (some ⟨u.heap.size, 0, none⟩) 1 1) (u.alloc (.cells (blkRow id ta ia).toArray 30)) := by
  obtain ⟨i0, hi, hz0, hz1, hz2⟩ := info_parts infoBlock19
  refine run_buildSlice u 24 30 1 _ (blkRow id ta ia).toArray i0 _ Try.underlying24 hi hz0 (by rw [hz1]; decide) (by rw [hz1]; decide) ?_
  rw [hz1]
  kernel_rfl
theorem infoItem19 : (Try.prog.info? 32).map (fun i => (i.zero, i.size, i.bytes)) = some (some (.agg #[.int .i64 0, .slice none 0 0]), 2, 32) := by kernel_rfl
set_option maxRecDepth 100000 in
set_option maxHeartbeats 4000000 in
theorem tzxSounds_any (HB37 : Ex.B37) (A C : Option Addr) (n c p d : Nat) (ids N : List Int) (w : World) (hl : Ints w A .i64 ids) (hn : ids.length = n) (hN : Ints w C .i64 N) (hp : N.length = p) :
    Calls Try.prog 3 #[.slice A n c, .slice C p d] w (Yes w) := by
  have HLV := Lib.hid (lives19 HB37)
  by_cases k1 : (200 : Int) < n
  · clear hl hn hN hp
    go_enter Try.func3, Try.ntmps3
    go_wp2_with (first
      | (go_at_call 6; refine (HLV.out _).mono ?_; rintro e w3 ⟨rfl, hb3⟩))
    go_ret
    exact ⟨rfl, hb3⟩
  have hn1 : n ≤ 200 := by omega
  clear k1
  obtain ⟨T, m, hT, hm, hm5, hTN, hmp⟩ : ∃ (T : List Int) (m : Nat), T = N.take 5 ∧ T.length = m ∧ m ≤ 5 ∧ (∀ k : Nat, k < m → T[k]? = N[k]?) ∧ (∀ k : Nat, k < m ↔ k < p ∧ k < 5) :=
    ⟨N.take 5, (N.take 5).length, rfl, rfl, by simp; omega, fun k hk => by rw [List.getElem?_take, if_pos (by simp at hk; omega)], fun k => by simp; omega⟩
  have HL := Lib.hid hl; have HN := Lib.hid hn; have HNN := Lib.hid hN; have HM := Lib.hid hm; have HTN := Lib.hid hTN; have HMP := Lib.hid hmp
  clear hl hn hN hp hm hT hTN hmp
  go_enter Try.func3, Try.ntmps3
  go_wp2_with fail
  go_loopw [5, 6, 7, 8] (fun v idx _ _ wr => ∃ (k : Nat) (v' : Value) (rows : List (Value × Value)), k ≤ n ∧ idx = .int .i64 k ∧ v' = v ∧ Hid (rows.length = k) ∧ Hid (Laid wr w.heap.size ids T v' rows) ∧ Hid (Below w.heap.size w wr)) (fun _ idx _ _ _ => n - (intOf idx).toNat)
  case atStart => exact ⟨0, _, [], by omega, rfl, rfl, rfl, ⟨by cases ids <;> exact World.ownsRow_nil _ _ _ _, fun ta ia h => by simp at h⟩, Below.refl _ _⟩
  case round =>
    obtain ⟨k, v, rows, hk, rfl, rfl, HRL, HLD, HB⟩ := hrel
    have hbs := HB.out.size
    by_cases hlt : k < n
    · obtain ⟨id, hid⟩ : ∃ x, ids[k]? = some x := ⟨_, List.getElem?_eq_getElem (by rw [HN.out]; exact hlt)⟩
      obtain ⟨ad, rfl, hc⟩ := (HL.out.below HB.out) k (.int .i64 id) (by simp [hid])
      have HID := Lib.hid hid
      clear hid
      obtain ⟨wo, rfl⟩ : ∃ wo, wo = wr := ⟨_, rfl⟩
      go_wp2_with (first
        | (refine wpList_store_rowTo rfl 30 (.tmp 7) (.tmp 27) rfl rfl wo.heap.size _ rfl rfl 30 _ (heap_alloc_new wo _) infoBlk (by rfl) (by simp [Value.oneCell']) ?_; rw [World.setRow_alloc_new]))
      go_loopw [8] (fun idx wr => ∃ (j : Nat) (ta ia : Value), j ≤ m ∧ idx = .int .i64 j ∧ Hid (Blk wr wo.heap.size 30 (blkRow id ta ia)) ∧ Hid (wr.ownsRow (wo.heap.size + 1) 3 1 ta j ((T.take j).map (.int .i64 ·))) ∧ Hid (wr.ownsRow (wo.heap.size + 1) 32 2 ia j ((T.take j).flatMap itemRow)) ∧ Hid (Below wo.heap.size wo wr)) (fun idx _ => m - (intOf idx).toNat)
      case atStart => exact ⟨0, .slice none 0 0, .slice none 0 0, by omega, rfl, Blk.new wo _ (blkRow id (.slice none 0 0) (.slice none 0 0)), World.ownsRow_nil _ _ _ _, World.ownsRow_nil _ _ _ _, (Below.refl _ wo).alloc (Nat.le_refl _) _⟩
      case round =>
        obtain ⟨j, ta, ia, hj, rfl, HK, HT, HI, HB2⟩ := hrel
        have hbs2 := HB2.out.size
        by_cases hlt2 : j < m
        · obtain ⟨hjp, hj5⟩ := (HMP.out j).1 hlt2
          obtain ⟨x, hx⟩ : ∃ x, T[j]? = some x := ⟨_, List.getElem?_eq_getElem (by rw [HM.out]; exact hlt2)⟩
          have HX := Lib.hid hx
          have hxn : N[j]? = some x := by rw [← HTN.out j hlt2]; exact hx
          have hbw := HB.out.trans (HB2.out.mono HB.out.size)
          obtain ⟨an, rfl, hcx⟩ := (HNN.out.below hbw) j (.int .i64 x) (by simp [hxn])
          have hlx := block_lt_of_cell hcx
          have hxd : wr.drew.cell? (an.add j) = some (.int .i64 x) := hcx
          have hxa : ∀ o, (wr.alloc o).drew.cell? (an.add j) = some (.int .i64 x) := fun o => (World.cell?_of_block (Below.heap_alloc wr o _ hlx)).trans hcx
          have hKl := HK.out.lt
          have c13 : wr.drew.cell? ⟨wo.heap.size, 13, none⟩ = some ta := HK.out.cell 13
          have c13a : ∀ o, (wr.alloc o).drew.cell? ⟨wo.heap.size, 13, none⟩ = some ta := fun o => (HK.out.alloc o).cell 13
          clear hx hxn hbw hcx
          obtain ⟨wa, hwa⟩ : ∃ wa, wa = (wr.alloc (.cells #[.int .i64 x] 3)).drew := ⟨_, rfl⟩
          have hba : Below wr.heap.size wr wa := by rw [hwa]; exact ((Below.refl _ wr).alloc (Nat.le_refl _) _).drew
          have HBA := Lib.hid hba
          have HSA : Hid (wa.heap[wr.heap.size]? = some (.cells #[.int .i64 x] 3 (0, 0))) := by show _ = _; rw [hwa]; exact heap_alloc_new wr _
          have HTA := Lib.hid (own_kept_none HT.out hba)
          have HWA := Lib.hid hwa
          have hbs3 := hba.size
          clear hwa hba
          go_upto_region 11 with fail
          go_cut [] (fun wx => ∃ ta' : Value, Hid (Blk wx wo.heap.size 30 (blkRow id ta' ia)) ∧ Hid (wx.ownsRow (wo.heap.size + 1) 3 1 ta' (j + 1) ((T.take j).map (.int .i64 ·) ++ [.int .i64 x])) ∧ Hid (wx.ownsRow (wo.heap.size + 1) 32 2 ia j ((T.take j).flatMap itemRow)) ∧ Hid (Below wo.heap.size wo wx))
          case first =>
            go_region_law (
                         rw [← HWA.out]
                         refine step_appO wa rfl (.tmp 39) (.tmp 44) 22 rfl 3 _ 1 8 Try.underlying22 infoIntT rfl (by decide) (wo.heap.size + 1) ta j _ rfl wr.heap.size _ (0, 0) rfl HSA.out HTA.out rfl (by simp [Value.oneCell']) (by omega) (by decide) (by omega) ?_
                         intro g4 c4 w4 ho4 hg4
                         have hg4' : wr.grownBy w4 ta.ownBlock := grownBy_trans (grownBy_below HBA.out) hg4
                         have HK4 := Lib.hid (HK.out.grown hg4' (own_ne HT.out (Nat.lt_succ_self _)))
                         have c134 : w4.cell? ⟨wo.heap.size, 13, none⟩ = some ta := HK4.out.cell 13
                         have f134 := HK4.out.frozen 13
                         have HO4 := Lib.hid ho4
                         have HI4 := Lib.hid (HI.out.kept hg4' (own_apart HI.out HT.out (by decide)))
                         have HB4 := Lib.hid (Below_own HB2.out HT.out hg4' (Nat.le_succ _) (by omega))
                         clear ho4 hg4 hg4')
            all_goals
              go_wp2_with fail
              go_meet
              exact ⟨_, HK4.out.set_ 13 _, own_far HO4.out (Nat.lt_succ_self _), own_far HI4.out (Nat.lt_succ_self _), HB4.out.setCell (Nat.le_refl _) _⟩
          case rest =>
            obtain ⟨ta', HK1, HT1, HI1, HB1⟩ := hcut
            have hbw1 := HB.out.trans (HB1.out.mono HB.out.size)
            obtain ⟨an', han, hcx⟩ := (HNN.out.below hbw1) j (.int .i64 x) (by rw [List.getElem?_map, ← HTN.out j hlt2, HX.out]; rfl)
            injection han with han
            subst han
            have hlx1 := block_lt_of_cell hcx
            have hxd1 : wc.drew.cell? (an.add j) = some (.int .i64 x) := hcx
            have hxa1 : ∀ o, (wc.alloc o).drew.cell? (an.add j) = some (.int .i64 x) := fun o => (World.cell?_of_block (Below.heap_alloc wc o _ hlx1)).trans hcx
            have hKl1 := HK1.out.lt
            have c14 : wc.drew.cell? ⟨wo.heap.size, 14, none⟩ = some ia := HK1.out.cell 14
            have c14a : ∀ o, (wc.alloc o).drew.cell? ⟨wo.heap.size, 14, none⟩ = some ia := fun o => (HK1.out.alloc o).cell 14
            have hbs1 := HB1.out.size
            obtain ⟨wa2, hwa2⟩ : ∃ wa2, wa2 = (wc.alloc (.cells #[.int .i64 x, .slice none 0 0] 32)).drew := ⟨_, rfl⟩
            have hba2 : Below wc.heap.size wc wa2 := by rw [hwa2]; exact ((Below.refl _ wc).alloc (Nat.le_refl _) _).drew
            have HBA2 := Lib.hid hba2
            have HSA2 : Hid (wa2.heap[wc.heap.size]? = some (.cells #[.int .i64 x, .slice none 0 0] 32 (0, 0))) := by show _ = _; rw [hwa2]; exact heap_alloc_new wc _
            have HIA2 := Lib.hid (own_kept_none HI1.out hba2)
            have HWA2 := Lib.hid hwa2
            have hbs4 := hba2.size
            have HTK : Hid ((T.take (j + 1)).map (Value.int .i64) = (T.take j).map (.int .i64 ·) ++ [.int .i64 x]) := by show _ = _; rw [List.take_add_one, HX.out, List.map_append]; rfl
            have HTI : Hid ((T.take (j + 1)).flatMap itemRow = (T.take j).flatMap itemRow ++ [.int .i64 x, .slice none 0 0]) := by show _ = _; rw [List.take_add_one, HX.out, List.flatMap_append]; rfl
            clear hwa2 hba2 hbw1 hcx hxd hxa c13 c13a
            go_wp2_with fail
            go_region_law (
                         rw [← HWA2.out]
                         refine step_appO wa2 rfl (.tmp 48) (.tmp 54) 26 rfl 32 _ 2 32 Try.underlying26 infoItem19 rfl (by decide) (wo.heap.size + 1) ia j _ rfl wc.heap.size _ (0, 0) rfl HSA2.out HIA2.out rfl (by simp [Value.oneCell']) (by omega) (by decide) (by omega) ?_
                         intro g4 c4 w4 ho4 hg4
                         have hg4' : wc.grownBy w4 ia.ownBlock := grownBy_trans (grownBy_below HBA2.out) hg4
                         have HK4 := Lib.hid (HK1.out.grown hg4' (own_ne HI1.out (Nat.lt_succ_self _)))
                         have c144 : w4.cell? ⟨wo.heap.size, 14, none⟩ = some ia := HK4.out.cell 14
                         have f144 := HK4.out.frozen 14
                         have HO4 := Lib.hid ho4
                         have HT4 := Lib.hid (HT1.out.kept hg4' (own_apart HT1.out HI1.out (by decide)))
                         have HB4 := Lib.hid (Below_own HB1.out HI1.out hg4' (Nat.le_succ _) (by omega))
                         clear ho4 hg4 hg4')
            all_goals
              go_wp2_with fail
              go_roundw
              case rel => exact ⟨j + 1, _, _, by omega, by go_num, HK4.out.set_ 14 _, by show World.ownsRow _ _ _ _ _ _ _; rw [HTK.out]; exact own_far HT4.out (Nat.lt_succ_self _), by show World.ownsRow _ _ _ _ _ _ _; rw [HTI.out]; exact own_far HO4.out (Nat.lt_succ_self _), HB4.out.setCell (Nat.le_refl _) _⟩
              case measure => simp [intOf]; omega
        · have hjp : ¬ (j < p ∧ j < 5) := fun h => hlt2 ((HMP.out j).2 h)
          obtain rfl : m = j := by omega
          have hfin : ¬ ((m : Int) < p) ∨ ¬ ((m : Int) < 5) := by omega
          have HNU : Hid (Nums wr w.heap.size ta ia T) := Nums.base ⟨by have h := HT.out; rw [List.take_of_length_le (by rw [HM.out]; exact Nat.le_refl _)] at h; rw [HM.out]; exact h, by have h := HI.out; rw [List.take_of_length_le (by rw [HM.out]; exact Nat.le_refl _)] at h; rw [HM.out]; exact h⟩ (by omega : w.heap.size ≤ wo.heap.size + 1)
          have HLD2 := Lib.hid (HLD.out.below HB2.out)
          have HBW := Lib.hid (HB.out.trans (HB2.out.mono HB.out.size))
          have hone : ta.oneCell' = true ∧ ia.oneCell' = true := ⟨(times_of_own HNU.out.t).2, (items_of_own HNU.out.i).2⟩
          obtain ⟨R, hR⟩ : ∃ R, R = blkRow id ta ia := ⟨_, rfl⟩
          have HKR : Hid (wr.heap[wo.heap.size]? = some (.cells R.toArray 30 (0, 0))) := by show _ = _; rw [hR]; exact HK.out
          have HRS : Hid ((Try.prog.info? 30).map (·.size) = some R.toArray.size) := by show _ = _; rw [hR]; exact infoBlk
          have HR18 : Hid (R.toArray.size = 1 * 18) := by show _ = _; rw [hR]; rfl
          have HR1 : Hid (R.toArray.all (·.oneCell') = true) := by show _ = _; rw [hR]; simp [blkRow, hone.1, hone.2, show ∀ x, (Value.int .i64 x).oneCell' = true from fun _ => rfl, show (Value.slice none 0 0).oneCell' = true from rfl]
          have hBS : ∀ u : World, (Instr.buildSlice 24 1 #[(0, .agg R.toArray)]).run Try.prog u = .ok (.slice (some ⟨u.heap.size, 0, none⟩) 1 1) (u.alloc (.cells R.toArray 30)) := fun u => by rw [hR]; exact buildB u id ta ia
          have HRR := Lib.hid hR
          have hkrl : rows.length = k := HRL.out
          have HOW := Lib.hid (HLD2.out.own)
          rw [hkrl] at HOW
          have hbs5 := HBW.out.size
          have HRL := Lib.hid hkrl
          clear hR hone hkrl
          simp [go_sem] at hBS
          by_cases hp5 : (m : Int) < p
          · have h5 : ¬ ((m : Int) < 5) := by omega
            clear hfin hjp hlt2
            go_wp2_with (first
              | (refine wpList_load_row rfl 30 (.tmp 7) rfl wo.heap.size rfl 30 R.toArray (0, 0) _ HKR.out Try.underlying30 rfl HRS.out ?_)
              | (at_builtin; refine wpList_appL wr rfl (.tmp 57) (.tmp 59) 24 rfl w.heap.size 30 _ 18 240 Try.underlying24 infoBlock19 rfl (by decide) v k _ rfl HOW.out R.toArray 1 rfl HR18.out HR1.out (by decide) (by omega) (by decide) hbs5 ?_; intro g4 c4 w4 ho4 hg4 _; have HB4 := Lib.hid (Below_own HBW.out HOW.out hg4 (Nat.le_refl _) hbs5); have HO4 := Lib.hid ho4; have HG4 : Hid (wr.grownBy w4 v.ownBlock) := hg4; clear ho4 hg4))
            go_roundw
            case rel =>
              have hlen : Hid ((rows ++ [(ta, ia)]).length = k + 1) := by show _ = _; rw [List.length_append, HRL.out]; rfl
              have hlaid : Hid (Laid w4 w.heap.size ids T (.slice (some ⟨g4, 0, none⟩) (k + 1) c4) (rows ++ [(ta, ia)])) := Laid.snoc HLD2.out HNU.out (by rw [HRL.out]; exact HID.out) (by rw [HRL.out, ← HRR.out]; exact HO4.out) HG4.out
              exact ⟨k + 1, _, rows ++ [(ta, ia)], by omega, by go_num, rfl, hlen, hlaid, HB4.out⟩
            case measure => simp [intOf]; omega
          · clear hfin hjp hlt2
            go_wp2_with (first
              | (refine wpList_load_row rfl 30 (.tmp 7) rfl wo.heap.size rfl 30 R.toArray (0, 0) _ HKR.out Try.underlying30 rfl HRS.out ?_)
              | (at_builtin; refine wpList_appL wr rfl (.tmp 57) (.tmp 59) 24 rfl w.heap.size 30 _ 18 240 Try.underlying24 infoBlock19 rfl (by decide) v k _ rfl HOW.out R.toArray 1 rfl HR18.out HR1.out (by decide) (by omega) (by decide) hbs5 ?_; intro g4 c4 w4 ho4 hg4 _; have HB4 := Lib.hid (Below_own HBW.out HOW.out hg4 (Nat.le_refl _) hbs5); have HO4 := Lib.hid ho4; have HG4 : Hid (wr.grownBy w4 v.ownBlock) := hg4; clear ho4 hg4))
            go_roundw
            case rel =>
              have hlen : Hid ((rows ++ [(ta, ia)]).length = k + 1) := by show _ = _; rw [List.length_append, HRL.out]; rfl
              have hlaid : Hid (Laid w4 w.heap.size ids T (.slice (some ⟨g4, 0, none⟩) (k + 1) c4) (rows ++ [(ta, ia)])) := Laid.snoc HLD2.out HNU.out (by rw [HRL.out]; exact HID.out) (by rw [HRL.out, ← HRR.out]; exact HO4.out) HG4.out
              exact ⟨k + 1, _, rows ++ [(ta, ia)], by omega, by go_num, rfl, hlen, hlaid, HB4.out⟩
            case measure => simp [intOf]; omega
    · obtain rfl : n = k := by omega
      obtain ⟨g, A', c', rfl, hA, hBl⟩ := HLD.out.blks HN.out HRL.out
      have H1 := Lib.hid (sound_any g A' n c' m ids T wr hA hBl HN.out hn1 HM.out (by omega))
      have H2 := Lib.hid (fun u (h : Below wr.heap.size wr u) => refSound_any g A' n c' m ids T u hA (hBl.below h) HN.out hn1 HM.out (by omega))
      unfold SoundP at H1 H2
      generalize (Tz.firstW (Tz.wrongAt ids T) n).1 = X at H1 H2
      generalize (Tz.firstW (Tz.wrongAt ids T) n).2 = Y at H1 H2
      clear hA hBl
      go_wp2_with (first
        | (go_at_call 8; refine (H2.out _ HB5.out).mono ?_; rintro e w6 ⟨rfl, hb6⟩; have HB6 := Lib.hid (HB5.out.trans (hb6.mono HB5.out.size)); clear hb6)
        | (go_at_call 6; refine (HLV.out _).mono ?_; rintro e w7 ⟨rfl, hb7⟩)
        | (go_at_call 7; refine H1.out.mono ?_; rintro e w5 ⟨rfl, hb5⟩; have HB5 := Lib.hid hb5; clear hb5))
      go_ret
      have hb := HB.out.trans (HB6.out.mono HB.out.size)
      exact ⟨rfl, hb.trans (hb7.mono hb.size)⟩
end Go.Proofs.Ytaipkoeiahjghaa
