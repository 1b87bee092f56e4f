/- Reel in general: reel.Exact. -/
import Derived.Test.YtoejmjhfecppcaaRelTA
namespace Go.Proofs.Ytoejmjhfecppcaa
set_option linter.unusedSimpArgs false
set_option linter.unusedVariables false
open Go.RowKit Go.Sort
theorem sizeTape : (Try.prog.info? 26).map (·.size) = some 3 := by kernel_rfl
theorem mem_of_get {l : List Int} {k : Nat} {y : Int} (h : l[k]? = some y) : y ∈ l := List.mem_of_getElem? h
theorem take_snoc {l : List Int} {k : Nat} {y : Int} (h : l[k]? = some y) : l.take (k + 1) = l.take k ++ [y] := by rw [List.take_add_one, h]; rfl
theorem own_cap {w : World} {base : Nat} {e : TypeId} {size n m c : Nat} {A : Option Addr} {xs : List Value} (h : w.ownsRow base e size (.slice A m c) n xs) : n ≤ c ∧ m = n := by
  rcases h.2 with ⟨e1, e2⟩ | ⟨g, cap, cur, e1, _, _, h3, _⟩
  · injection e1 with _ e3 e4
    omega
  · injection e1 with _ e3 e4
    omega
set_option maxRecDepth 100000 in
set_option maxHeartbeats 16000000 in
theorem exact_any (hb : Bool) (A : Option Addr) (n c : Nat) (g : List Int) (w : World) (hg : Ints w A .u32 g) (hn : g.length = n) (hm : n ≤ 5000) (hu : ∀ x ∈ g, 0 ≤ x ∧ x ≤ 4294967295) :
    Calls Try.prog 12 #[.bool hb, .slice A n c] w (ExactR hb g w) := by
  have HG := Lib.hid hg; have HN := Lib.hid hn; have HU := Lib.hid hu
  clear hg hn hu
  obtain ⟨Z, hZ, hmk⟩ := mk_ints n (by omega)
  have HZ := Lib.hid hZ
  clear hZ
  have HF := Lib.hid (F0.start w)
  go_enter Try.func12, Try.ntmps12
  go_upto_region 2 with fail
  obtain ⟨w1, hw1⟩ : ∃ u, u = (((w.alloc (.cells #[.int .i64 0, .int .i64 0, .slice none 0 0] 26)).alloc (.cells #[.int .i64 43, .int .i64 0, .int .i64 0, .int .i64 0, .int .i64 0, .int .i64 0, .int .i64 0, .int .i64 0, .int .i64 0, .int .i64 1, .int .i64 0, .int .i64 0, .slice none 0 0, .slice none 0 0, .slice none 0 0, .slice none 0 0, .slice none 0 0, .slice none 0 0] 87)).alloc (.cells #[.int .i64 1, .int .i64 20, .slice (some ⟨w.heap.size + 1, 0, none⟩) 1 1] 26)) := ⟨_, rfl⟩
  have HF1 : Hid (F0 w w1 1) := by rw [hw1]; exact HF
  rw [← hw1]
  clear hw1 HF
  go_cut [15] (fun t wx => Hid (t = .bool hb) ∧ Hid (F0 w wx 1))
  case first =>
    go_wp2_with fail
    go_meet
    exact ⟨Lib.hid rfl, HF1⟩
  case rest =>
    clear HF1
    obtain ⟨HT, HF1⟩ := hcut
    go_wp2_with fail
    obtain rfl := HT.out
    obtain ⟨wd, rfl⟩ : ∃ wd : World, wd = wc := ⟨_, rfl⟩
    go_cut [] (fun wx => Hid (F0 w wx (usedOf hb)))
    case first =>
      cases hb
      · go_wp2_with fail
        go_meet
        exact HF1
      · have a2 := HF1.out.tape.cell 2
        have a9 := HF1.out.first.cell 9
        have b9 := HF1.out.first.frozen 9
        simp only [List.getElem?_cons_zero, List.getElem?_cons_succ, hdCells] at a2 a9
        go_wp2_with fail
        go_meet
        exact Lib.hid (HF1.out.setUsed 0)
    case rest =>
      obtain ⟨x, hx⟩ : ∃ x, x = usedOf hb := ⟨_, rfl⟩
      have HX := Lib.hid hx
      rw [← hx] at hcut
      clear hx HF1
      have HF2 := hcut
      clear hcut
      go_wp2_with fail
      have hs2 := HF2.out.size
      go_loopw [7, 26] (fun l i u => ∃ (k g1 c1 : Nat), k ≤ n ∧ i = .int .i64 k ∧ l = .slice (some ⟨g1, 0, none⟩) k c1 ∧ Hid (u.ownsRow w.heap.size 3 1 (.slice (some ⟨g1, 0, none⟩) k c1) k ((g.take k).map (.int .i64 ·))) ∧ Hid (F0 w u x) ∧ Hid (∀ (j : Nat) (y : Int), j < k → g[j]? = some y → y ≠ 0)) (fun _ i _ => n - (intOf i).toNat)
      case atStart =>
        have hml : n + 1 ≤ maxLen := Nat.le_trans (show n + 1 ≤ 5001 by omega) (by decide)
        exact ⟨0, _, _, by omega, rfl, rfl, Lib.hid (World.ownsRow_made _ _ _ (by omega) hml (by rw [HZ.out]; omega)), Lib.hid (HF2.out.below_ (below_alloc1 _ _)), Lib.hid (fun j y hj => by omega)⟩
      case round =>
        obtain ⟨k, g1, c1, hk, rfl, rfl, HO, HF, HNZ⟩ := hrel
        have hsz := HF.out.size
        clear HF2 hs2
        by_cases hlt : k < n
        · have hlt2 : (k : Int) < n := by omega
          obtain ⟨y, hy⟩ : ∃ y, g[k]? = some y := ⟨_, List.getElem?_eq_getElem (by have := HN.out; omega)⟩
          obtain ⟨ad, rfl, ca⟩ := (HG.out.below HF.out.below) k (.int .u32 y) (by rw [List.getElem?_map, hy]; rfl)
          obtain ⟨y0, y1⟩ := HU.out y (mem_of_get hy)
          have HY := Lib.hid hy
          have wy : IntKind.i64.wrap y = y := by rw [IntKind.wrap_i64]; omega
          clear hy
          by_cases hz : y = 0
          · go_wp2_with (first
              | (refine wpList_store_rowTo rfl 26 (.tmp 4) (.tmp 32) rfl rfl w.heap.size _ rfl rfl 26 _ HF.out.res sizeTape rfl (by simp [Value.oneCell']) ?_))
            refine bodyPost_ret (v := .tuple #[.agg #[.int .i64 0, .int .i64 0, .slice none 0 0], .int .i64 5]) (results_row_tmp rfl rfl (HF.out.res.setRow [.int .i64 0, .int .i64 0, .slice none 0 0]) Try.underlying26 rfl sizeTape rfl) rfl ?_
            exact ⟨below_setRow HF.out.below (Nat.le_refl _) _, .inl ⟨by rw [← hz]; exact mem_of_get HY.out, rfl⟩⟩
          · go_wp2_with (first
              | (at_builtin; refine wpList_appL _ rfl (.tmp 33) (.tmp 36) 38 rfl w.heap.size 3 (.int .i64 0) 1 8 Try.underlying38 infoInt rfl (by decide) _ k _ rfl HO.out #[.int .i64 y] 1 rfl rfl (by simp [Value.oneCell']) (by decide) (by omega) (by decide) (by omega) ?_; intro g2 c2 w4 hown2 hg2 _; have HFS2 := Lib.hid (HF.out.grown HO.out hg2); have HO2 := Lib.hid hown2; clear hown2 hg2))
            go_roundw
            case rel => exact ⟨k + 1, g2, c2, by omega, by go_num, rfl, Lib.hid (by rw [take_snoc HY.out, List.map_append]; exact HO2.out), HFS2, Lib.hid (fun j z hj hz2 => by
              by_cases e : j = k
              · subst e; rw [HY.out] at hz2; injection hz2 with hz2; omega
              · exact HNZ.out j z (by omega) hz2)⟩
            case measure => simp [intOf]; omega
        · obtain rfl : k = n := by omega
          have HZ0 : Hid ((0 : Int) ∉ g) := Lib.hid (fun hmem => by
            obtain ⟨j, hj, he⟩ := List.getElem_of_mem hmem
            exact HNZ.out j 0 (by have := HN.out; omega) (by rw [← he]; exact List.getElem?_eq_getElem hj) rfl)
          have HTK : Hid (g.take k = g) := Lib.hid (by rw [← HN.out]; exact List.take_length)
          rw [HTK.out] at HO
          clear hlt hk HNZ
          go_upto_region 12 with fail
          go_cut [41] (fun t wx => Hid (t = .bool (decide (0 < k))) ∧ wr = wx)
          case first =>
            by_cases h0 : 0 < k
            · go_wp2_with fail
              go_meet
              exact ⟨Lib.hid (by simp [h0]), rfl⟩
            · go_wp2_with fail
              go_meet
              exact ⟨Lib.hid (by simp [h0]), rfl⟩
          case rest =>
            obtain ⟨HT2, rfl⟩ := hcut
            go_wp2_with fail
            go_cut [7] (fun l wx => ∃ (A1 : Option Addr) (c1 : Nat), l = .slice A1 (fullL g).length c1 ∧ (fullL g).length ≤ c1 ∧ Hid (Ints (tmask wx) A1 .i64 (fullL g)) ∧ Hid (XS w wx (w.heap.size + 1 + 1) (.slice (some ⟨w.heap.size + 1, 0, none⟩) 1 1) [headB x]))
            case first =>
              by_cases h0 : 0 < k
              · obtain rfl : u41 = .bool true := by rw [HT2.out]; simp [h0]
                go_wp2_with (first
                  | (at_builtin; refine wpList_appL _ rfl (.tmp 42) (.tmp 43) 38 rfl w.heap.size 3 (.int .i64 0) 1 8 Try.underlying38 infoInt rfl (by decide) _ k _ rfl HO.out #[.int .i64 3500] 1 rfl rfl (by simp [Value.oneCell']) (by decide) (by omega) (by decide) (by omega) ?_; intro g2 c2 w4 hown2 hg2 _; have HFS2 := Lib.hid (HF.out.grown HO.out hg2); have HO2 := Lib.hid hown2; clear hown2 hg2))
                go_meet
                have e1 : fullL g = g ++ [3500] := by unfold fullL; rw [if_neg (by intro e; have := HN.out; rw [e] at this; simp at this; omega)]
                have e2 : (fullL g).length = k + 1 := by rw [e1]; simp [HN.out]
                have e3 := own_cap HO2.out
                rw [e2]
                exact ⟨_, c2, rfl, by omega, Lib.hid (by rw [e1]; exact ints_of_own (by rw [List.map_append]; exact HO2.out)), Lib.hid HFS2.out.xs⟩
              · obtain rfl : u41 = .bool false := by rw [HT2.out]; simp [h0]
                obtain rfl : k = 0 := by omega
                go_wp2_with fail
                go_meet
                have e0 : g = [] := List.length_eq_zero_iff.1 HN.out
                have e1 : fullL g = [] := by unfold fullL; rw [if_pos e0]
                rw [e1]
                exact ⟨_, c1, rfl, Nat.zero_le _, Lib.hid (fun j v hj => by simp at hj), Lib.hid HF.out.xs⟩
            case rest =>
              obtain ⟨A1, c2, rfl, hLc, HI, HXS⟩ := hcut
              obtain ⟨L, hL⟩ : ∃ L, L = fullL g := ⟨_, rfl⟩
              have HL := Lib.hid hL
              have hLn : L.length ≤ 5001 := by rw [hL]; unfold fullL; split <;> simp [HN.out]; omega
              have HLB : Hid (∀ y ∈ L, y ≤ 4294967295) := Lib.hid (fun y hy => by
                rw [hL] at hy
                unfold fullL at hy
                split at hy
                · simp at hy
                · simp at hy
                  rcases hy with hy | hy
                  · exact (HU.out y hy).2
                  · omega)
              rw [← hL] at HI hLc ⊢
              clear hL
              have hsx := HXS.out.size
              clear hm hmk HZ HF HO
              go_wp2_with fail
              go_loopw [7] (fun l u => ∃ (k : Nat) (A2 : Option Addr) (m c2 : Nat) (vb : Value), l = .slice A2 m c2 ∧ m ≤ c2 ∧ k ≤ 4095 ∧ posA L k + m = L.length ∧ Hid (Ints (tmask u) A2 .i64 (L.drop (posA L k))) ∧ Hid (XS w u (w.heap.size + 1 + 1) vb (blksA x L k)) ∧ Hid (∀ j, j < k → posA L j < L.length)) (fun l _ => lenOf l)
              case atStart => exact ⟨0, _, _, _, _, rfl, hLc, by omega, by simp [posA], HI, HXS, Lib.hid (fun j hj => by omega)⟩
              case round =>
                obtain ⟨q, A2, m, c3, vb, rfl, hmc, hq, hp, HI2, HX2, HJ⟩ := hrel
                obtain ⟨xs, h1, h2⟩ := HX2.out.row
                rw [blksA_len] at h1
                obtain ⟨Ab, cb, rfl⟩ := own_form h1
                have HOW := Lib.hid h1
                have HBC := Lib.hid h2
                have t2 := HX2.out.tape.cell 2
                simp only [List.getElem?_cons_zero, List.getElem?_cons_succ] at t2
                have hsz2 := HX2.out.size
                clear h1 h2 HI HXS hsx hLc
                by_cases hm0 : 0 < m
                · have hmI : (0 : Int) < m := by omega
                  by_cases hk : q = 4095
                  · subst hk
                    go_wp2_with (first
                      | (refine wpList_store_rowTo rfl 26 (.tmp 4) (.tmp 52) rfl rfl w.heap.size _ rfl rfl 26 _ HX2.out.res sizeTape rfl (by simp [Value.oneCell']) ?_))
                    refine bodyPost_ret (v := .tuple #[.agg #[.int .i64 0, .int .i64 0, .slice none 0 0], .int .i64 8]) (results_row_tmp rfl rfl (HX2.out.res.setRow [.int .i64 0, .int .i64 0, .slice none 0 0]) Try.underlying26 rfl sizeTape rfl) rfl ?_
                    exact ⟨below_setRow HX2.out.below (Nat.le_refl _) _, .inr (.inl ⟨HZ0.out, by rw [← HL.out]; omega, rfl⟩)⟩
                  · have hk2 : ¬ ((q : Int) + 1 = 4096) := by omega
                    have hk3 : ¬ ((q : Int) = 4095) := by omega
                    obtain ⟨S, hS⟩ : ∃ S, S = shortsN (L.drop (posA L q)) := ⟨_, rfl⟩
                    have hSm : S ≤ m := by
                      have := (shortsF_le 255 (L.drop (posA L q))).1
                      rw [hS]
                      simp at this
                      unfold shortsN
                      omega
                    have HSC := Lib.hid (shorts_any A2 m c3 (L.drop (posA L q)) wr (Cells.keep HI2.out (tmask_keep wr)) (by simp; omega) (by omega))
                    rw [← hS] at HSC
                    have HSD := Lib.hid hS
                    clear hS
                    go_upto_region 18 with (first
                      | (go_at_call 39; refine HSC.out.mono ?_; rintro e w5 ⟨rfl, rfl⟩))
                    have hSc : (S : Int) ≤ c3 := by omega
                    have hSm2 : (S : Int) ≤ m := by omega
                    go_upto_region 19 with (first
                      | (refine wpList_store_rowTo rfl 87 (.tmp 11) (.tmp 59) rfl rfl wr.heap.size _ rfl rfl 87 _ (heap_alloc_new wr _) sizeBlock rfl (by simp [Value.oneCell']) ?_; rw [World.setRow_alloc_new]))
                    obtain ⟨W5, hW5⟩ : ∃ u, u = wr.alloc (.cells #[.int .i64 19, .int .i64 0, .int .i64 0, .int .i64 0, .int .i64 0, .int .i64 0, .int .i64 0, .int .i64 0, .int .i64 0, .int .i64 0, .int .i64 0, .int .i64 0, .slice none 0 0, .slice A2 S S, .slice none 0 0, .slice none 0 0, .slice none 0 0, .slice none 0 0] 87) := ⟨_, rfl⟩
                    have x5 : Below wr.heap.size wr W5 := by rw [hW5]; exact below_alloc1 _ _
                    have B5 : Hid (Blk W5 wr.heap.size 87 [.int .i64 19, .int .i64 0, .int .i64 0, .int .i64 0, .int .i64 0, .int .i64 0, .int .i64 0, .int .i64 0, .int .i64 0, .int .i64 0, .int .i64 0, .int .i64 0, .slice none 0 0, .slice A2 S S, .slice none 0 0, .slice none 0 0, .slice none 0 0, .slice none 0 0]) := by show Blk _ _ _ _; rw [hW5]; exact Blk.new wr _ _
                    rw [← hW5]
                    clear hW5
                    have hB5 := Lib.hid x5
                    have HI5 := Lib.hid (Cells.keep HI2.out (tmask_below x5))
                    have BV5 : Hid (BlkV (tmask W5) [.int .i64 19, .int .i64 0, .int .i64 0, .int .i64 0, .int .i64 0, .int .i64 0, .int .i64 0, .int .i64 0, .int .i64 0, .int .i64 0, .int .i64 0, .int .i64 0, .slice none 0 0, .slice A2 S S, .slice none 0 0, .slice none 0 0, .slice none 0 0, .slice none 0 0] (pulsB ((L.drop (posA L q)).take S))) := Lib.hid ⟨19, 0, 0, 0, 0, 0, 0, 0, 0, 0, 0, 0, _, _, _, _, _, _, rfl, rfl, SlI.nil _ _, ⟨_, _, _, rfl, by simp [pulsB]; omega, Ints.take HI5.out S, by omega⟩, SlS.nil _ _, SlS.nil _ _, SlS.nil _ _, ⟨none, 0, 0, rfl, ⟨rfl, by decide⟩, fun i x h => by simp [pulsB] at h⟩⟩
                    clear x5
                    go_cut [61] (fun t wx => Hid (t = .bool (decide (S = 0))) ∧ W5 = wx)
                    case first =>
                      by_cases hS0 : S = 0
                      · subst hS0
                        go_wp2_with fail
                        go_meet
                        exact ⟨Lib.hid rfl, rfl⟩
                      · have hSi : ¬ ((S : Int) = 0) := by omega
                        go_wp2_with fail
                        go_meet
                        exact ⟨Lib.hid (by simp [hS0]), rfl⟩
                    case rest =>
                      obtain ⟨HT3, rfl⟩ := hcut
                      go_wp2_with fail
                      go_cut [10] (fun nv wx => ∃ (N : Nat) (C : Array Value), nv = .int .i64 N ∧ 1 ≤ N ∧ N ≤ m ∧ Hid (posA L (q + 1) = posA L q + N) ∧ Hid (Blk wx wr.heap.size 87 C.toList) ∧ Hid (BlkV (tmask wx) C.toList (blkA L q)) ∧ Hid (Below wr.heap.size wr wx))
                      case first =>
                        by_cases hS0 : S = 0
                        · obtain rfl : u61 = .bool true := by rw [HT3.out]; simp [hS0]
                          subst hS0
                          obtain ⟨y, hy⟩ : ∃ y, L[posA L q]? = some y := ⟨_, List.getElem?_eq_getElem (by omega)⟩
                          have hyd : (L.drop (posA L q))[0]? = some y := by rw [List.getElem?_drop]; exact hy
                          have hy1 : 65535 < y := shorts_zero hyd HSD.out.symm
                          have hy2 : y ≤ 4294967295 := HLB.out y (mem_of_get hy)
                          obtain ⟨ad, rfl, ca⟩ := HI5.out 0 (.int .i64 y) (by rw [List.getElem?_map, hyd]; rfl)
                          have ca1 : W5.cell? ad = some (.int .i64 y) := by exact tmask_keep W5 _ _ (by simpa [Addr.add] using ca)
                          have HLA := Lib.hid (long_any y (by omega) hy2 W5)
                          have HY := Lib.hid hy
                          clear hy hyd ca
                          have hm1 : (0 : Int) < m := by omega
                          go_wp2_with (first
                            | (go_at_call 40; refine HLA.out.mono ?_; rintro e w6 ⟨s, Ap, mp, cp, Ar, mr, cr, rfl, hv, hb⟩; have HV := Lib.hid hv; have HB := Lib.hid hb; have B6 := Lib.hid (B5.out.below_ hb); clear hv hb)
                            | (refine wpList_store_rowTo rfl 87 (.tmp 11) (.tmp 65) rfl rfl wr.heap.size _ rfl rfl 87 _ B6.out sizeBlock (by simp [lgCells]) (by simp [lgCells, Value.oneCell']) ?_))
                          go_meet
                          exact ⟨1, (lgCells s (.slice Ap mp cp) (.slice Ar mr cr)).toArray, rfl, by omega, by omega, Lib.hid (by show posA L q + max 1 (shortsN _) = _; rw [← HSD.out]; omega), Lib.hid (B6.out.setRow _), Lib.hid (by
                            have e : blkA L q = longB y := by unfold blkA; rw [← HSD.out]; simp only []; rw [if_pos trivial, List.getD_eq_getElem?_getD, HY.out]; rfl
                            rw [e]
                            exact HV.out.keep (tmask_setRow B6.out (.inl rfl) _)), Lib.hid (below_setRow (hB5.out.trans (HB.out.mono (hB5.out.size))) (Nat.le_refl _) _)⟩
                        · obtain rfl : u61 = .bool false := by rw [HT3.out]; simp [hS0]
                          go_wp2_with fail
                          go_meet
                          exact ⟨S, #[.int .i64 19, .int .i64 0, .int .i64 0, .int .i64 0, .int .i64 0, .int .i64 0, .int .i64 0, .int .i64 0, .int .i64 0, .int .i64 0, .int .i64 0, .int .i64 0, .slice none 0 0, .slice A2 S S, .slice none 0 0, .slice none 0 0, .slice none 0 0, .slice none 0 0], rfl, by omega, hSm, Lib.hid (by show posA L q + max 1 (shortsN _) = _; rw [← HSD.out]; omega), B5, Lib.hid (by
                            have e : blkA L q = pulsB ((L.drop (posA L q)).take S) := by unfold blkA; rw [← HSD.out]; simp only []; rw [if_neg hS0]
                            rw [e]
                            exact BV5.out), hB5⟩
                      case rest =>
                        obtain ⟨N, C, rfl, hN1, hNm, HP, HC, HCV, HBL⟩ := hcut
                        have hC18 := blkV_size HCV.out
                        have HC18 := Lib.hid hC18
                        have HCO := Lib.hid (blkV_one HCV.out)
                        have hBS : ∀ u : World, (Instr.buildSlice 24 1 #[(0, .agg C)]).run Try.prog u = .ok (.slice (some ⟨u.heap.size, 0, none⟩) 1 1) (u.alloc (.cells C 87)) := build_blk HCV.out
                        have hszr := HX2.out.size
                        have HNB : Hid (∀ g, (Value.slice Ab (q + 1) cb).ownBlock = some g → g < wr.heap.size) := Lib.hid (fun g hg => (HOW.out.lt g hg).2)
                        clear B5 BV5 HI5 hB5 hSc hSm hSm2 HSC HSD HT3 t2 hsz2
                        clear W5
                        have hw5 := HBL.out.size
                        have dx : Below wr.heap.size wr wc.drew := HBL.out.drew
                        have HX5 := Lib.hid (HX2.out.below_ HBL.out)
                        have HXd := Lib.hid (HX2.out.below_ dx)
                        have HOd := Lib.hid (own_below HOW.out dx)
                        have HBd := Lib.hid (HBC.out.keep (tmask_below dx))
                        have HCd := Lib.hid (HCV.out.keep (tmask_below ((Below.refl _ wc).drew)))
                        have HId := Lib.hid (Cells.keep HI2.out (tmask_below dx))
                        clear dx
                        have HCd0 : Hid (wc.drew.heap[wr.heap.size]? = some (.cells C 87 (0, 0))) := by show _ = _; exact HC.out
                        clear hC18
                        simp [go_sem] at hBS
                        obtain ⟨LD, hl⟩ := some_LDB
                        have HLD := Lib.hid hl
                        have hN : ∀ u : World, (loadVar 87 ⟨wr.heap.size, 0, none⟩).run Try.prog u = LD wr.heap.size u := fun u => HLD.out _ u
                        simp [go_sem, loadVar] at hN
                        clear hl
                        have hNi : (N : Int) ≤ m := by omega
                        go_upto_region 21 with fail
                        refine until_start 9 (fun u : World => u.cell? ⟨w.heap.size + 1 + 1, 2, none⟩ = some (.slice Ab (q + 1) cb) ∧ LD wr.heap.size u = .ok (.agg C) u) (by kernel_rfl) ?_
                        have hS : Hid ((fun u : World => u.cell? ⟨w.heap.size + 1 + 1, 2, none⟩ = some (.slice Ab (q + 1) cb) ∧ LD wr.heap.size u = .ok (.agg C) u) wc.drew) := ⟨HXd.out.tape.cell 2, LDB_of HLD.out (congrArg some HC18.out.symm) HCd0.out⟩
                        refine until_take (i := 0) (v := ?_) rfl (by kernel_rfl) (by kernel_rfl) (by kernel_rfl) rfl (fun _ _ _ h => h) (fun _ => hS.out) (Or.inl ⟨by rfl, ?_⟩) ?_
                        rotate_left
                        · (intro u _; go_simp; try with_reducible rfl)
                        try simp only [Act.put, List.setIfInBounds_toArray, List.set_cons_zero, List.set_cons_succ]
                        refine until_take (i := 5) (v := ?_) rfl (by kernel_rfl) (by kernel_rfl) (by kernel_rfl) rfl (fun _ _ _ h => h) (fun _ => hS.out) (Or.inl ⟨by rfl, ?_⟩) ?_
                        rotate_left
                        · (intro u _; go_simp; try with_reducible rfl)
                        try simp only [Act.put, List.setIfInBounds_toArray, List.set_cons_zero, List.set_cons_succ]
                        refine until_take (i := 6) (v := ?_) rfl (by kernel_rfl) (by kernel_rfl) (by kernel_rfl) rfl (fun _ _ _ h => h) (fun _ => hS.out) (Or.inl ⟨by rfl, ?_⟩) ?_
                        rotate_left
                        · (intro u _; go_simp; try with_reducible rfl)
                        try simp only [Act.put, List.setIfInBounds_toArray, List.set_cons_zero, List.set_cons_succ]
                        refine until_take (i := 7) (v := ?_) rfl (by kernel_rfl) (by kernel_rfl) (by kernel_rfl) rfl (fun _ _ _ h => h) (fun _ => hS.out) (Or.inl ⟨by rfl, ?_⟩) ?_
                        rotate_left
                        · (intro u _; go_simp; try with_reducible rfl)
                        try simp only [Act.put, List.setIfInBounds_toArray, List.set_cons_zero, List.set_cons_succ]
                        refine until_load (i := 1) (v := ?_) [4, 9] rfl (by kernel_rfl) (by kernel_rfl) (by kernel_rfl) (by kernel_rfl) (fun _ _ _ h => h) hS.out (Or.inl ⟨by rfl, ?_⟩) ?_
                        rotate_left
                        · (rintro u ⟨s1, s2⟩; go_simp; try with_reducible rfl)
                        try simp only [Act.put, List.setIfInBounds_toArray, List.set_cons_zero, List.set_cons_succ]
                        refine until_load (i := 2) (v := ?_) [3, 4, 9] rfl (by kernel_rfl) (by kernel_rfl) (by kernel_rfl) (by kernel_rfl) (fun _ _ _ h => h) hS.out (Or.inl ⟨by rfl, ?_⟩) ?_
                        rotate_left
                        · (rintro u ⟨s1, s2⟩; go_simp; try with_reducible rfl)
                        try simp only [Act.put, List.setIfInBounds_toArray, List.set_cons_zero, List.set_cons_succ]
                        refine until_ready (rs := [3]) (by kernel_rfl) (by simp) ?_
                        refine AllUntil.cons rfl (fun K hK => ?_) AllUntil.nil
                        go_simp
                        refine hK.out _ _ (fun _ => ⟨(HXd.out.below_ (below_alloc1 _ _)).tape.cell 2, LDB_of HLD.out (congrArg some HC18.out.symm) (((below_alloc1 wc.drew _).block _ HC.out.lt).trans HCd0.out)⟩) ?_
                        clear hK K
                        try simp only [Act.put, List.setIfInBounds_toArray, List.set_cons_zero, List.set_cons_succ]
                        refine until_ready (rs := [4]) (by kernel_rfl) (by simp) ?_
                        refine AllUntil.cons rfl (fun K hK => ?_) AllUntil.nil
                        refine step_appL (wc.drew) rfl (.tmp 67) (.tmp 69) 24 rfl w.heap.size 87 _ 18 240 Try.underlying24 infoBlock rfl (by decide) (.slice Ab (q + 1) cb) (q + 1) xs rfl HOd.out C 1 rfl HC18.out HCO.out (by decide) (by omega) (by decide) (by show _ ≤ wc.heap.size; omega) ?_
                        intro gb cb6 w6 hown6 hg6
                        have HXG := Lib.hid (HXd.out.grow (B := blkA L q) (by rw [blksA_len]; exact HOd.out) HBd.out (cs := C.toList) (by simpa using HC18.out) HCd.out (by rw [blksA_len]) hown6 hg6)
                        have HI7 := Lib.hid (Cells.keep HId.out (tmask_grown HOd.out (.inl rfl) hg6))
                        have q2 : w6.cell? ⟨w.heap.size + 1 + 1, 2, none⟩ = some (.slice Ab (q + 1) cb) := HXG.out.tape.cell 2
                        have qf := HXG.out.tape.frozen 2
                        have HS6 : Hid ((fun u : World => u.cell? ⟨w.heap.size + 1 + 1, 2, none⟩ = some (.slice Ab (q + 1) cb) ∧ LD wr.heap.size u = .ok (.agg C) u) w6) := ⟨q2, LDB_of HLD.out (congrArg some HC18.out.symm) ((hg6.block wr.heap.size (by show _ < wc.heap.size; have := HC.out.lt; exact this) (fun e => Nat.lt_irrefl _ (HNB.out _ e.symm))).trans HCd0.out)⟩
                        clear hown6 hg6
                        refine hK.out _ _ (fun _ => HS6.out) ?_
                        clear hK K
                        try simp only [Act.put, List.setIfInBounds_toArray, List.set_cons_zero, List.set_cons_succ]
                        refine until_take (i := 8) (v := ?_) rfl (by kernel_rfl) (by kernel_rfl) (by kernel_rfl) rfl (fun _ _ _ h => h) (fun _ => HS6.out) (Or.inl ⟨by rfl, ?_⟩) ?_
                        rotate_left
                        · (intro u _; go_simp; try with_reducible rfl)
                        try simp only [Act.put, List.setIfInBounds_toArray, List.set_cons_zero, List.set_cons_succ]
                        refine until_ready (rs := [9]) (by kernel_rfl) (by simp) ?_
                        refine AllUntil.cons rfl (fun K hK => ?_) AllUntil.nil
                        go_simp
                        refine hK.out _ _ (fun h => by simp at h) ?_
                        clear hK K
                        try simp only [Act.put, List.setIfInBounds_toArray, List.set_cons_zero, List.set_cons_succ]
                        refine until_ready (rs := [10]) (by kernel_rfl) (by simp) ?_
                        refine AllUntil.cons rfl (fun K hK => ?_) AllUntil.nil
                        go_simp
                        refine hK.out _ _ (fun h => by simp at h) ?_
                        clear hK K
                        try simp only [Act.put, List.setIfInBounds_toArray, List.set_cons_zero, List.set_cons_succ]
                        refine until_done (by kernel_rfl) ?_ _
                        go_wp2_with fail
                        go_roundw
                        case rel => exact ⟨q + 1, _, _, _, _, rfl, by omega, by omega, by rw [HP.out]; omega, Lib.hid (by
                          rw [HP.out]
                          by_cases hcN : c3 = N
                          · rw [if_pos hcN, List.drop_eq_nil_of_le (by omega)]
                            exact fun j v hj => by simp at hj
                          · rw [if_neg hcN, ← List.drop_drop]
                            exact Ints.drop (Cells.keep HI7.out (tmask_set HXG.out.tape (.inr rfl) 2 _)) N), Lib.hid (by rw [blksA_succ]; exact HXG.out.done), Lib.hid (fun j hj => by
                          by_cases e : j = q
                          · subst e; omega
                          · exact HJ.out j (by omega))⟩
                        case measure => simp [lenOf]; omega
                · obtain rfl : m = 0 := by omega
                  go_wp2_with (first
                    | (refine wpList_load_row rfl 26 (.tmp 6) rfl (w.heap.size + 1 + 1) rfl 26 _ (0, 0) _ HX2.out.tape Try.underlying26 rfl sizeTape ?_)
                    | (refine wpList_store_rowTo rfl 26 (.tmp 4) (.tmp 75) rfl rfl w.heap.size _ rfl rfl 26 _ HX2.out.res sizeTape rfl (by simp [Value.oneCell']) ?_))
                  refine bodyPost_ret (v := .tuple #[.agg #[.int .i64 1, .int .i64 20, .slice Ab (q + 1) cb], .int .i64 0]) (results_row_tmp rfl rfl (HX2.out.res.setRow [.int .i64 1, .int .i64 20, .slice Ab (q + 1) cb]) Try.underlying26 rfl sizeTape rfl) rfl ?_
                  refine ⟨below_setRow HX2.out.below (Nat.le_refl _) _, .inr (.inr ⟨HZ0.out, q, _, hq, by rw [← HL.out]; omega, by rw [← HL.out]; exact HJ.out, rfl, ?_⟩)⟩
                  rw [← HL.out, ← HX.out]
                  exact HX2.out.slB (by rw [blksA_len]; omega) _
end Go.Proofs.Ytoejmjhfecppcaa
