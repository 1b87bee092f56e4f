/- Reel in general: squealref26.Exact. -/
import Derived.Test.YtoejmjhfecppcaaRelT
namespace Go.Proofs.Ytoejmjhfecppcaa
set_option linter.unusedSimpArgs false
set_option linter.unusedVariables false
open Go.RowKit Go.Sort
structure G0 (W u : World) : Prop where
  res : Blk u W.heap.size 26 [.int .i64 0, .int .i64 0, .slice none 0 0]
  below : Below W.heap.size W u
theorem G0.size {W u : World} (h : G0 W u) : W.heap.size < u.heap.size := h.res.lt
theorem G0.grown {W u u' : World} {n : Nat} {v : Value} {xs : List Value} (h : G0 W u) (ho : u.ownsRow W.heap.size 3 1 v n xs) (hg : u.grownBy u' v.ownBlock) : G0 W u' :=
  ⟨h.res.grown hg (own_ne_ty ho h.res (by decide)), Below_own h.below ho hg (Nat.le_refl _) (Nat.le_of_lt h.size)⟩
theorem G0.start (W : World) : G0 W (W.alloc (.cells #[.int .i64 0, .int .i64 0, .slice none 0 0] 26)) :=
  ⟨Blk.new W _ _, below_alloc1 _ _⟩
theorem G0.xs {W u : World} (h : G0 W u) : XS W (u.alloc (.cells #[.int .i64 1, .int .i64 20, .slice none 0 0] 26)) u.heap.size (.slice none 0 0) [] :=
  ⟨h.res.below_ (below_alloc1 _ _), Blk.new u _ _, h.size, ⟨[], World.ownsRow_nil _ _ _ _, rfl⟩, h.below.trans ((below_alloc1 u _).mono (Nat.le_of_lt h.size))⟩
theorem posA_le (L : List Int) (k : Nat) : k ≤ posA L k := by
  induction k with
  | zero => exact Nat.zero_le _
  | succ k ih => simp only [posA]; omega
/-- the block of short gaps in the making -/
def tsCells (v : Value) : List Value := [.int .i64 19, .int .i64 0, .int .i64 0, .int .i64 0, .int .i64 0, .int .i64 0, .int .i64 0, .int .i64 0, .int .i64 0, .int .i64 0, .int .i64 0, .int .i64 0, .slice none 0 0, v, .slice none 0 0, .slice none 0 0, .slice none 0 0, .slice none 0 0]
structure TsS (W u : World) (v : Value) (l : List Int) : Prop where
  blk : Blk u W.heap.size 87 (tsCells v)
  row : u.ownsRow W.heap.size 3 1 v l.length (l.map (.int .i64 ·))
  below : Below W.heap.size W u
structure TsG (W u : World) (v v' : Value) (l : List Int) : Prop where
  blk : Blk u W.heap.size 87 (tsCells v)
  row : u.ownsRow W.heap.size 3 1 v' l.length (l.map (.int .i64 ·))
  below : Below W.heap.size W u
theorem TsS.size {W u : World} {v : Value} {l : List Int} (h : TsS W u v l) : W.heap.size < u.heap.size := h.blk.lt
theorem TsS.start (W : World) : TsS W (W.alloc (.cells (tsCells (.slice none 0 0)).toArray 87)) (.slice none 0 0) [] :=
  ⟨Blk.new W _ _, World.ownsRow_nil _ _ _ _, below_alloc1 _ _⟩
theorem TsS.below_ {W u u' : World} {v : Value} {l : List Int} (h : TsS W u v l) (hb : Below u.heap.size u u') : TsS W u' v l :=
  ⟨h.blk.below_ hb, own_below h.row hb, h.below.trans (hb.mono (Nat.le_of_lt h.size))⟩
theorem TsS.grow {W u w' : World} {v v' : Value} {l : List Int} {y : Int} {n : Nat} (h : TsS W u v l) (hn : n = l.length + 1) (hown : w'.ownsRow W.heap.size 3 1 v' n (l.map (.int .i64 ·) ++ [.int .i64 y])) (hg : u.grownBy w' v.ownBlock) : TsG W w' v v' (l ++ [y]) := by
  subst hn
  exact ⟨h.blk.grown hg (own_ne_ty h.row h.blk (by decide)), by rw [List.length_append, List.map_append]; exact hown, Below_own h.below h.row hg (Nat.le_refl _) (Nat.le_of_lt h.size)⟩
theorem TsG.done {W u : World} {v v' : Value} {l : List Int} (h : TsG W u v v' l) : TsS W (u.setCell ⟨W.heap.size, 13, none⟩ v') v' l :=
  ⟨h.blk.set_ 13 _, own_set h.row h.blk (by decide) _ _, h.below.setCell (Nat.le_refl _) _⟩
theorem TsS.blkV {W u : World} {v : Value} {l : List Int} (h : TsS W u v l) (hm : l.length ≤ 140737488355328) : BlkV (tmask u) (tsCells v) (pulsB l) := by
  obtain ⟨A, c, rfl⟩ := own_form h.row
  exact ⟨19, 0, 0, 0, 0, 0, 0, 0, 0, 0, 0, 0, _, _, _, _, _, _, rfl, rfl, SlI.nil _ _, ⟨A, _, c, rfl, rfl, ints_of_own h.row, hm⟩, SlS.nil _ _, SlS.nil _ _, SlS.nil _ _, ⟨none, 0, 0, rfl, ⟨rfl, by decide⟩, fun i x h => by simp [pulsB] at h⟩⟩
/-- so many at the front are short -/
theorem shortsF_all (m : Nat) (l : List Int) : ∀ j x, j < shortsF m l → l[j]? = some x → x ≤ 65535 := by
  induction m generalizing l with
  | zero => intro j x hj; simp [shortsF] at hj
  | succ m ih =>
    intro j x hj hx
    cases l with
    | nil => simp at hx
    | cons y l =>
      simp only [shortsF] at hj
      by_cases hy : y ≤ 65535
      · rw [if_pos hy] at hj
        cases j with
        | zero => simp at hx; omega
        | succ j => exact ih l j x (by omega) (by simpa using hx)
      · rw [if_neg hy] at hj; omega
theorem shortsF_stop (m : Nat) (l : List Int) : shortsF m l = m ∨ shortsF m l = l.length ∨ ∃ x, l[shortsF m l]? = some x ∧ 65535 < x := by
  induction m generalizing l with
  | zero => exact .inl rfl
  | succ m ih =>
    cases l with
    | nil => exact .inr (.inl rfl)
    | cons y l =>
      simp only [shortsF]
      by_cases hy : y ≤ 65535
      · rw [if_pos hy]
        rcases ih l with h | h | ⟨x, h1, h2⟩
        · exact .inl (by omega)
        · exact .inr (.inl (by simp; omega))
        · exact .inr (.inr ⟨x, by simpa using h1, h2⟩)
      · rw [if_neg hy]
        exact .inr (.inr ⟨y, rfl, by omega⟩)
theorem shorts_none {L : List Int} {p : Nat} {y : Int} (h : L[p]? = some y) (hy : 65535 < y) : shortsN (L.drop p) = 0 := by
  have h0 : (L.drop p)[0]? = some y := by rw [List.getElem?_drop]; exact h
  generalize L.drop p = l at h0
  cases l with
  | nil => rfl
  | cons x l =>
    simp at h0
    subst h0
    unfold shortsN
    simp only [shortsF]
    rw [if_neg (by omega)]
theorem ints_cell {w : World} {ad : Addr} {L : List Int} {p : Nat} {y : Int} (h : Ints (tmask w) (some ad) .i64 L) (hy : L[p]? = some y) : w.cell? (ad.add p) = some (.int .i64 y) := by
  obtain ⟨ad', e, hc⟩ := h p (.int .i64 y) (by rw [List.getElem?_map, hy]; rfl)
  injection e with e
  subst e
  exact tmask_keep w _ _ hc
theorem reflong_C (n : Int) (h0 : 65536 ≤ n) (h1 : n ≤ 4294967295) (w : World) : Calls Try.prog 41 #[.int .i64 n] w fun e w' => ∃ C : Array Value, e = .returned (.agg C) ∧ BlkV (tmask w') C.toList (longB n) ∧ Below w.heap.size w w' := by
  refine (reflong_any n h0 h1 w).mono ?_
  rintro e w' ⟨s, A, m, c, A', m', c', rfl, hv, hb⟩
  exact ⟨_, rfl, hv, hb⟩
set_option maxRecDepth 100000 in
set_option maxHeartbeats 16000000 in
theorem refexact_any (hb : Bool) (A : Option Addr) (n c : Nat) (g : List Int) (w : World) (hg : Ints w A .u32 g) (hn : g.length = n) (hm : n ≤ 5000) (hu : ∀ x ∈ g, 0 ≤ x ∧ x ≤ 4294967295) :
    Calls Try.prog 13 #[.bool hb, .slice A n c] w (ExactR hb g w) := by
  have HG := Lib.hid hg; have HN := Lib.hid hn; have HU := Lib.hid hu
  clear hg hn hu
  have HF := Lib.hid (G0.start w)
  go_enter Try.func13, Try.ntmps13
  go_wp2_with fail
  go_loopw [6, 7] (fun l i u => ∃ (k : Nat) (v : Value), k ≤ n ∧ i = .int .i64 k ∧ v = l ∧ Hid (u.ownsRow w.heap.size 3 1 v k ((g.take k).map (.int .i64 ·))) ∧ Hid (G0 w u) ∧ Hid (∀ (j : Nat) (y : Int), j < k → g[j]? = some y → y ≠ 0)) (fun _ i _ => n - (intOf i).toNat)
  case atStart =>
    exact ⟨0, _, by omega, rfl, rfl, Lib.hid (World.ownsRow_nil _ _ _ _), HF, Lib.hid (fun j y hj => by omega)⟩
  case round =>
    obtain ⟨k, v, hk, rfl, rfl, HO, HF, HNZ⟩ := hrel
    have hsz := HF.out.size
    by_cases hlt : k < n
    · have hlt2 : (k : Int) < n := by omega
      obtain ⟨y, hy⟩ : ∃ y, g[k]? = some y := ⟨_, List.getElem?_eq_getElem (by have := HN.out; omega)⟩
      obtain ⟨ad, rfl, ca⟩ := (HG.out.below HF.out.below) k (.int .u32 y) (by rw [List.getElem?_map, hy]; rfl)
      obtain ⟨y0, y1⟩ := HU.out y (mem_of_get hy)
      have HY := Lib.hid hy
      have wy : IntKind.i64.wrap y = y := by rw [IntKind.wrap_i64]; omega
      clear hy
      by_cases hz : y = 0
      · go_wp2_with (first
          | (refine wpList_store_rowTo rfl 26 (.tmp 4) (.tmp 23) rfl rfl w.heap.size _ rfl rfl 26 _ HF.out.res sizeTape rfl (by simp [Value.oneCell']) ?_))
        refine bodyPost_ret (v := .tuple #[.agg #[.int .i64 0, .int .i64 0, .slice none 0 0], .int .i64 5]) (results_row_tmp rfl rfl (HF.out.res.setRow [.int .i64 0, .int .i64 0, .slice none 0 0]) Try.underlying26 rfl sizeTape rfl) rfl ?_
        exact ⟨below_setRow HF.out.below (Nat.le_refl _) _, .inl ⟨by rw [← hz]; exact mem_of_get HY.out, rfl⟩⟩
      · go_wp2_with (first
          | (at_builtin; refine wpList_appL _ rfl (.tmp 24) (.tmp 30) 38 rfl w.heap.size 3 (.int .i64 0) 1 8 Try.underlying38 infoInt rfl (by decide) _ k _ rfl HO.out #[.int .i64 y] 1 rfl rfl (by simp [Value.oneCell']) (by decide) (by omega) (by decide) (by omega) ?_; intro g2 c2 w4 hown2 hg2 _; have HFS2 := Lib.hid (HF.out.grown HO.out hg2); have HO2 := Lib.hid hown2; clear hown2 hg2))
        go_roundw
        case rel => exact ⟨k + 1, _, by omega, by go_num, rfl, Lib.hid (by rw [take_snoc HY.out, List.map_append]; exact HO2.out), HFS2, Lib.hid (fun j z hj hz2 => by
          by_cases e : j = k
          · subst e; rw [HY.out] at hz2; injection hz2 with hz2; omega
          · exact HNZ.out j z (by omega) hz2)⟩
        case measure => simp [intOf]; omega
    · obtain rfl : k = n := by omega
      have HZ0 : Hid ((0 : Int) ∉ g) := Lib.hid (fun hmem => by
        obtain ⟨j, hj, he⟩ := List.getElem_of_mem hmem
        exact HNZ.out j 0 (by have := HN.out; omega) (by rw [← he]; exact List.getElem?_eq_getElem hj) rfl)
      have HTK : Hid (g.take k = g) := Lib.hid (by rw [← HN.out]; exact List.take_length)
      rw [HTK.out] at HO
      clear hlt hk HNZ HTK
      obtain ⟨A1, c1, rfl⟩ := own_form HO.out
      go_upto_region 8 with fail
      go_cut [34] (fun t wx => Hid (t = .bool (decide (0 < k))) ∧ wr = wx)
      case first =>
        by_cases h0 : 0 < k
        · go_wp2_with fail
          go_meet
          exact ⟨Lib.hid (by simp [h0]), rfl⟩
        · go_wp2_with fail
          go_meet
          exact ⟨Lib.hid (by simp [h0]), rfl⟩
      case rest =>
        obtain ⟨HT2, rfl⟩ := hcut
        go_wp2_with fail
        go_cut [6] (fun l wx => ∃ (A1 : Option Addr) (c1 : Nat), l = .slice A1 (fullL g).length c1 ∧ (fullL g).length ≤ c1 ∧ Hid (Ints (tmask wx) A1 .i64 (fullL g)) ∧ Hid (G0 w wx))
        case first =>
          by_cases h0 : 0 < k
          · obtain rfl : u34 = .bool true := by rw [HT2.out]; simp [h0]
            go_wp2_with (first
              | (at_builtin; refine wpList_appL _ rfl (.tmp 35) (.tmp 36) 38 rfl w.heap.size 3 (.int .i64 0) 1 8 Try.underlying38 infoInt rfl (by decide) _ k _ rfl HO.out #[.int .i64 3500] 1 rfl rfl (by simp [Value.oneCell']) (by decide) (by omega) (by decide) (by omega) ?_; intro g2 c2 w4 hown2 hg2 _; have HFS2 := Lib.hid (HF.out.grown HO.out hg2); have HO2 := Lib.hid hown2; clear hown2 hg2))
            go_meet
            have e1 : fullL g = g ++ [3500] := by unfold fullL; rw [if_neg (by intro e; have := HN.out; rw [e] at this; simp at this; omega)]
            have e2 : (fullL g).length = k + 1 := by rw [e1]; simp [HN.out]
            have e3 := own_cap HO2.out
            rw [e2]
            exact ⟨_, c2, rfl, by omega, Lib.hid (by rw [e1]; exact ints_of_own (by rw [List.map_append]; exact HO2.out)), HFS2⟩
          · obtain rfl : u34 = .bool false := by rw [HT2.out]; simp [h0]
            obtain rfl : k = 0 := by omega
            go_wp2_with fail
            go_meet
            have e0 : g = [] := List.length_eq_zero_iff.1 HN.out
            have e1 : fullL g = [] := by unfold fullL; rw [if_pos e0]
            rw [e1]
            exact ⟨_, c1, rfl, Nat.zero_le _, Lib.hid (fun j v hj => by simp at hj), HF⟩
        case rest =>
          clear HF HO HT2
          obtain ⟨A2, c2, rfl, hLc, HI, HF⟩ := hcut
          obtain ⟨L, hL⟩ : ∃ L, L = fullL g := ⟨_, rfl⟩
          have HL := Lib.hid hL
          have hLn : L.length ≤ 5001 := by rw [hL]; unfold fullL; split <;> simp [HN.out]; omega
          have HLB : Hid (∀ y ∈ L, y ≤ 4294967295) := Lib.hid (fun y hy => by
            rw [hL] at hy
            unfold fullL at hy
            split at hy
            · simp at hy
            · simp at hy
              rcases hy with hy | hy
              · exact (HU.out y hy).2
              · omega)
          rw [← hL] at HI hLc ⊢
          clear hL
          go_upto_region 11 with fail
          obtain ⟨wb, rfl⟩ : ∃ wb : World, wb = wc := ⟨_, rfl⟩
          go_cut [38] (fun t wx => Hid (t = .bool hb) ∧ wb = wx)
          case first =>
            go_wp2_with fail
            go_meet
            exact ⟨Lib.hid rfl, rfl⟩
          case rest =>
            obtain ⟨HT, rfl⟩ := hcut
            go_wp2_with fail
            obtain rfl := HT.out
            go_cut [8] (fun t wx => t = .int .i64 (usedOf hb) ∧ wb = wx)
            case first =>
              cases hb
              · go_wp2_with fail
                go_meet
                exact ⟨rfl, rfl⟩
              · go_wp2_with fail
                go_meet
                exact ⟨rfl, rfl⟩
            case rest =>
              obtain ⟨rfl, rfl⟩ := hcut
              obtain ⟨x, hx⟩ : ∃ x, x = usedOf hb := ⟨_, rfl⟩
              have HX := Lib.hid hx
              rw [← hx]
              clear hx
              have HX0 := Lib.hid HF.out.xs
              have HI0 := Lib.hid (Cells.keep HI.out (tmask_below (below_alloc1 wb (.cells #[.int .i64 1, .int .i64 20, .slice none 0 0] 26))))
              go_upto_region 14 with (first
                | (refine wpList_store_rowTo rfl 26 (.tmp 9) (.tmp 39) rfl rfl wb.heap.size _ rfl rfl 26 _ (heap_alloc_new wb _) sizeTape rfl (by simp [Value.oneCell']) ?_; rw [World.setRow_alloc_new]))
              have hgt := HF.out.size
              obtain ⟨gt, hgt2⟩ : ∃ gt, gt = wb.heap.size := ⟨_, rfl⟩
              obtain ⟨w1, hw1⟩ : ∃ u, u = wb.alloc (.cells #[.int .i64 1, .int .i64 20, .slice none 0 0] 26) := ⟨_, rfl⟩
              rw [← hw1] at HX0 HI0 ⊢
              rw [← hgt2] at HX0 hgt ⊢
              clear hw1 hgt2 HF HI
              clear wb
              have a2 := HX0.out.tape.cell 2
              simp only [List.getElem?_cons_zero, List.getElem?_cons_succ] at a2
              have hsz := HX0.out.size
              go_upto_region 15 with (first
                | (at_builtin; refine wpList_appL _ rfl (.tmp 41) (.tmp 44) 24 rfl w.heap.size 87 _ 18 240 Try.underlying24 infoBlock rfl (by decide) (.slice none 0 0) 0 [] rfl (World.ownsRow_nil _ _ _ _) #[.int .i64 43, .int .i64 0, .int .i64 0, .int .i64 0, .int .i64 0, .int .i64 0, .int .i64 0, .int .i64 0, .int .i64 0, .int .i64 x, .int .i64 0, .int .i64 0, .slice none 0 0, .slice none 0 0, .slice none 0 0, .slice none 0 0, .slice none 0 0, .slice none 0 0] 1 rfl rfl (by simp [Value.oneCell']) (by decide) (by omega) (by decide) (by omega) ?_; intro g2 c3 w4 hown2 hg2 _; have HXG := Lib.hid (HX0.out.grow (B := headB x) (World.ownsRow_nil _ _ _ _) rfl (cs := [.int .i64 43, .int .i64 0, .int .i64 0, .int .i64 0, .int .i64 0, .int .i64 0, .int .i64 0, .int .i64 0, .int .i64 0, .int .i64 x, .int .i64 0, .int .i64 0, .slice none 0 0, .slice none 0 0, .slice none 0 0, .slice none 0 0, .slice none 0 0, .slice none 0 0]) rfl (hdV _ x) rfl hown2 hg2); have HI4 := Lib.hid (Cells.keep HI0.out (tmask_grown (World.ownsRow_nil w1 w.heap.size 87 18) (.inl rfl) hg2)); have b2 := HXG.out.tape.cell 2; have f2 := HXG.out.tape.frozen 2; simp only [List.getElem?_cons_zero, List.getElem?_cons_succ] at b2; clear hown2 hg2))
              have HXS : Hid (XS w (w4.setCell ⟨gt, 2, none⟩ (.slice (some ⟨g2, 0, none⟩) 1 c3)) gt (.slice (some ⟨g2, 0, none⟩) 1 c3) [headB x]) := Lib.hid HXG.out.done
              have HI5 := Lib.hid (Cells.keep HI4.out (tmask_set HXG.out.tape (.inr rfl) 2 (.slice (some ⟨g2, 0, none⟩) 1 c3)))
              obtain ⟨w5, hw5⟩ : ∃ u, u = w4.setCell ⟨gt, 2, none⟩ (.slice (some ⟨g2, 0, none⟩) 1 c3) := ⟨_, rfl⟩
              rw [← hw5] at HXS HI5 ⊢
              clear hw5 a2 b2 f2 HXG HI4 HX0 HI0
              go_wp2_with fail
              go_loopw [10] (fun at_ u => ∃ (q : Nat) (vb : Value), at_ = .int .i64 (posA L q : Nat) ∧ posA L q ≤ L.length ∧ Hid (Ints (tmask u) A2 .i64 L) ∧ Hid (XS w u gt vb (blksA x L q)) ∧ Hid (∀ j, j < q → posA L j < L.length)) (fun at_ _ => L.length - (intOf at_).toNat)
              case atStart => exact ⟨0, _, rfl, Nat.zero_le _, HI5, HXS, Lib.hid (fun j hj => by omega)⟩
              case round =>
                obtain ⟨q, vb, rfl, hp, HI2, HX2, HJ⟩ := hrel
                have hq : q ≤ posA L q := posA_le L q
                obtain ⟨xs, h1, h2⟩ := HX2.out.row
                rw [blksA_len] at h1
                obtain ⟨Ab, cb, rfl⟩ := own_form h1
                have HOW := Lib.hid h1
                have HBC := Lib.hid h2
                have t2 := HX2.out.tape.cell 2
                simp only [List.getElem?_cons_zero, List.getElem?_cons_succ] at t2
                have hsz2 := HX2.out.size
                clear h1 h2 HI5 HXS hsz
                by_cases hm0 : posA L q < L.length
                · have hmI : ((posA L q : Nat) : Int) < L.length := by omega
                  obtain ⟨y, hy⟩ : ∃ y, L[posA L q]? = some y := ⟨_, List.getElem?_eq_getElem (by omega)⟩
                  obtain ⟨ad, rfl, ca⟩ := HI2.out (posA L q) (.int .i64 y) (by rw [List.getElem?_map, hy]; rfl)
                  replace ca := tmask_keep wr _ _ ca
                  have HY := Lib.hid hy
                  clear hy
                  by_cases h2 : 65535 < y
                  · have HY2 := Lib.hid (HLB.out y (mem_of_get HY.out))
                    have HE : Hid (blkA L q = longB y ∧ posA L (q + 1) = posA L q + 1) := Lib.hid (by
                      have e := shorts_none HY.out h2
                      exact ⟨by unfold blkA; rw [e]; simp only []; rw [if_pos trivial, List.getD_eq_getElem?_getD, HY.out]; rfl, by show posA L q + max 1 (shortsN _) = _; rw [e]; rfl⟩)
                    have dx : Below wr.heap.size wr wr.drew := (Below.refl _ wr).drew
                    have HXd := Lib.hid (HX2.out.below_ dx)
                    have HLA := Lib.hid (reflong_C y (by omega) HY2.out)
                    clear dx
                    go_upto_region 18 with fail
                    refine until_start 10 (fun u : World => u.cell? ⟨gt, 2, none⟩ = some (.slice Ab (q + 1) cb) ∧ u.cell? (ad.add (posA L q)) = some (.int .i64 y)) (by kernel_rfl) ?_
                    have hS : Hid ((fun u : World => u.cell? ⟨gt, 2, none⟩ = some (.slice Ab (q + 1) cb) ∧ u.cell? (ad.add (posA L q)) = some (.int .i64 y)) wr.drew) := ⟨HXd.out.tape.cell 2, ca⟩
                    refine until_take (i := 0) (v := ?_) rfl (by kernel_rfl) (by kernel_rfl) (by kernel_rfl) rfl (fun _ _ _ h => h) (fun _ => hS.out) (Or.inl ⟨by rfl, ?_⟩) ?_
                    rotate_left
                    · (intro u _; go_simp; try with_reducible rfl)
                    try simp only [Act.put, List.setIfInBounds_toArray, List.set_cons_zero, List.set_cons_succ]
                    refine until_take (i := 2) (v := ?_) rfl (by kernel_rfl) (by kernel_rfl) (by kernel_rfl) rfl (fun _ _ _ h => h) (fun _ => hS.out) (Or.inl ⟨by rfl, ?_⟩) ?_
                    rotate_left
                    · (intro u _; go_simp; try with_reducible rfl)
                    try simp only [Act.put, List.setIfInBounds_toArray, List.set_cons_zero, List.set_cons_succ]
                    refine until_take (i := 3) (v := ?_) rfl (by kernel_rfl) (by kernel_rfl) (by kernel_rfl) rfl (fun _ _ _ h => h) (fun _ => hS.out) (Or.inl ⟨by rfl, ?_⟩) ?_
                    rotate_left
                    · (intro u _; go_simp; try with_reducible rfl)
                    try simp only [Act.put, List.setIfInBounds_toArray, List.set_cons_zero, List.set_cons_succ]
                    refine until_take (i := 4) (v := ?_) rfl (by kernel_rfl) (by kernel_rfl) (by kernel_rfl) rfl (fun _ _ _ h => h) (fun _ => hS.out) (Or.inl ⟨by rfl, ?_⟩) ?_
                    rotate_left
                    · (intro u _; go_simp; try with_reducible rfl)
                    try simp only [Act.put, List.setIfInBounds_toArray, List.set_cons_zero, List.set_cons_succ]
                    refine until_load (i := 1) (v := ?_) [8, 10] rfl (by kernel_rfl) (by kernel_rfl) (by kernel_rfl) (by kernel_rfl) (fun _ _ _ h => h) hS.out (Or.inl ⟨by rfl, ?_⟩) ?_
                    rotate_left
                    · (rintro u ⟨s1, s2⟩; go_simp; try with_reducible rfl)
                    try simp only [Act.put, List.setIfInBounds_toArray, List.set_cons_zero, List.set_cons_succ]
                    refine until_load (i := 5) (v := ?_) [6, 7, 8, 10] rfl (by kernel_rfl) (by kernel_rfl) (by kernel_rfl) (by kernel_rfl) (fun _ _ _ h => h) hS.out (Or.inl ⟨by rfl, ?_⟩) ?_
                    rotate_left
                    · (rintro u ⟨s1, s2⟩; go_simp; try with_reducible rfl)
                    try simp only [Act.put, List.setIfInBounds_toArray, List.set_cons_zero, List.set_cons_succ]
                    refine until_ready (rs := [6]) (by kernel_rfl) (by simp) ?_
                    refine AllUntil.cons rfl (fun K hK => ?_) AllUntil.nil
                    go_simp
                    refine (HLA.out wr.drew).mono ?_
                    rintro e w6 ⟨C, rfl, hv, hb6⟩
                    have hbw : Below wr.heap.size wr w6 := ((Below.refl _ wr).drew).trans hb6
                    have hBS : ∀ u : World, (Instr.buildSlice 24 1 #[(0, .agg C)]).run Try.prog u = .ok (.slice (some ⟨u.heap.size, 0, none⟩) 1 1) (u.alloc (.cells C 87)) := build_blk hv
                    simp [go_sem] at hBS
                    have HC18 := Lib.hid (blkV_size hv)
                    have HCO := Lib.hid (blkV_one hv)
                    have HCV := Lib.hid hv
                    have hsz6 := hbw.size
                    have HX6 := Lib.hid (HX2.out.below_ hbw)
                    have HO6 := Lib.hid (own_below HOW.out hbw)
                    have HB6 := Lib.hid (HBC.out.keep (tmask_below hbw))
                    have HI6 := Lib.hid (Cells.keep HI2.out (tmask_below hbw))
                    have HBW := Lib.hid hbw
                    clear hv hb6 hbw
                    refine hK.out _ _ (fun _ => ⟨HX6.out.tape.cell 2, cell_below HBW.out ca⟩) ?_
                    clear hK K
                    try simp only [Act.put, List.setIfInBounds_toArray, List.set_cons_zero, List.set_cons_succ]
                    refine until_ready (rs := [7]) (by kernel_rfl) (by simp) ?_
                    refine AllUntil.cons rfl (fun K hK => ?_) AllUntil.nil
                    go_simp
                    refine hK.out _ _ (fun _ => ⟨(HX6.out.below_ (below_alloc1 _ _)).tape.cell 2, cell_below (HBW.out.alloc HBW.out.size _) ca⟩) ?_
                    clear hK K
                    try simp only [Act.put, List.setIfInBounds_toArray, List.set_cons_zero, List.set_cons_succ]
                    refine until_ready (rs := [8]) (by kernel_rfl) (by simp) ?_
                    refine AllUntil.cons rfl (fun K hK => ?_) AllUntil.nil
                    refine step_appL w6 rfl (.tmp 57) (.tmp 63) 24 rfl w.heap.size 87 _ 18 240 Try.underlying24 infoBlock rfl (by decide) (.slice Ab (q + 1) cb) (q + 1) xs rfl HO6.out C 1 rfl HC18.out HCO.out (by decide) (by omega) (by decide) (by omega) ?_
                    intro gb cb6 w7 hown6 hg6
                    have HXG := Lib.hid (HX6.out.grow (B := longB y) (by rw [blksA_len]; exact HO6.out) HB6.out (cs := C.toList) (by simpa using HC18.out) HCV.out (by rw [blksA_len]) hown6 hg6)
                    have HI7 := Lib.hid (Cells.keep HI6.out (tmask_grown HO6.out (.inl rfl) hg6))
                    have q2 : w7.cell? ⟨gt, 2, none⟩ = some (.slice Ab (q + 1) cb) := HXG.out.tape.cell 2
                    have qf := HXG.out.tape.frozen 2
                    have HS7 : Hid ((fun u : World => u.cell? ⟨gt, 2, none⟩ = some (.slice Ab (q + 1) cb) ∧ u.cell? (ad.add (posA L q)) = some (.int .i64 y)) w7) := ⟨q2, ints_cell HI7.out HY.out⟩
                    clear hown6 hg6
                    refine hK.out _ _ (fun _ => HS7.out) ?_
                    clear hK K
                    try simp only [Act.put, List.setIfInBounds_toArray, List.set_cons_zero, List.set_cons_succ]
                    refine until_take (i := 9) (v := ?_) rfl (by kernel_rfl) (by kernel_rfl) (by kernel_rfl) rfl (fun _ _ _ h => h) (fun _ => HS7.out) (Or.inl ⟨by rfl, ?_⟩) ?_
                    rotate_left
                    · (intro u _; go_simp; try with_reducible rfl)
                    try simp only [Act.put, List.setIfInBounds_toArray, List.set_cons_zero, List.set_cons_succ]
                    refine until_ready (rs := [10]) (by kernel_rfl) (by simp) ?_
                    refine AllUntil.cons rfl (fun K hK => ?_) AllUntil.nil
                    go_simp
                    refine hK.out _ _ (fun h => by simp at h) ?_
                    clear hK K
                    try simp only [Act.put, List.setIfInBounds_toArray, List.set_cons_zero, List.set_cons_succ]
                    refine until_done (by kernel_rfl) ?_ _
                    go_wp2_with fail
                    go_roundw
                    case rel => exact ⟨q + 1, _, by rw [HE.out.2]; go_num, by rw [HE.out.2]; omega, Lib.hid (Cells.keep HI7.out (tmask_set HXG.out.tape (.inr rfl) 2 _)), Lib.hid (by rw [blksA_succ, HE.out.1]; exact HXG.out.done), Lib.hid (fun j hj => by
                      by_cases e : j = q
                      · subst e; exact hm0
                      · exact HJ.out j (by omega))⟩
                    case measure => simp [intOf]; omega
                  · obtain ⟨l, hl⟩ : ∃ l, l = L.drop (posA L q) := ⟨_, rfl⟩
                    obtain ⟨S, hS⟩ : ∃ S, S = shortsN l := ⟨_, rfl⟩
                    have hlen : l.length = L.length - posA L q := by rw [hl]; simp
                    have hS1 : S ≤ l.length ∧ S ≤ 255 := by rw [hS]; exact shortsF_le 255 l
                    have hS0 : 0 < S := by
                      rcases Nat.eq_zero_or_pos S with e | e
                      · have := shorts_zero (l := l) (y := y) (by rw [hl, List.getElem?_drop]; exact HY.out) (by rw [← hS, e])
                        omega
                      · exact e
                    have HSA : Hid (∀ j x, j < S → l[j]? = some x → x ≤ 65535) := Lib.hid (by rw [hS]; exact shortsF_all 255 l)
                    have HST : Hid (S = 255 ∨ S = l.length ∨ ∃ x, l[S]? = some x ∧ 65535 < x) := Lib.hid (by rw [hS]; exact shortsF_stop 255 l)
                    have HE : Hid (blkA L q = pulsB (l.take S) ∧ posA L (q + 1) = posA L q + S) := Lib.hid (by
                      constructor
                      · unfold blkA; rw [← hl, ← hS]; simp only []; rw [if_neg (by omega)]
                      · show posA L q + max 1 (shortsN _) = _; rw [← hl, ← hS]; omega)
                    have HLG : Hid (∀ s, L[posA L q + s]? = l[s]?) := Lib.hid (fun s => by rw [hl, List.getElem?_drop])
                    have HTS := Lib.hid (TsS.start wr)
                    clear hS
                    clear hl
                    go_upto_region 21 with (first
                      | (refine wpList_store_rowTo rfl 87 (.tmp 11) (.tmp 68) rfl rfl wr.heap.size _ rfl rfl 87 _ (heap_alloc_new wr _) sizeBlock rfl (by simp [Value.oneCell']) ?_; rw [World.setRow_alloc_new]))
                    obtain ⟨wa, hwa⟩ : ∃ u, u = wr.alloc (.cells #[.int .i64 19, .int .i64 0, .int .i64 0, .int .i64 0, .int .i64 0, .int .i64 0, .int .i64 0, .int .i64 0, .int .i64 0, .int .i64 0, .int .i64 0, .int .i64 0, .slice none 0 0, .slice none 0 0, .slice none 0 0, .slice none 0 0, .slice none 0 0, .slice none 0 0] 87) := ⟨_, rfl⟩
                    replace HTS : Hid (TsS wr wa (.slice none 0 0) []) := Lib.hid (by rw [hwa]; exact HTS.out)
                    rw [← hwa]
                    clear hwa
                    obtain ⟨wo, rfl⟩ : ∃ wo : World, wo = wr := ⟨_, rfl⟩
                    go_loopw [10] (fun at_ u => ∃ (s P : Nat) (vt : Value), at_ = .int .i64 P ∧ s ≤ S ∧ Hid (P = posA L q + s) ∧ Hid (TsS wo u vt (l.take s))) (fun at_ _ => L.length - (intOf at_).toNat)
                    case atStart => exact ⟨0, _, _, rfl, by omega, Lib.hid rfl, HTS⟩
                    case round =>
                      obtain ⟨s, P, vt, rfl, hs, HP, HT⟩ := hrel
                      have HLP : Hid (L[P]? = l[s]?) := Lib.hid (by rw [HP.out]; exact HLG.out s)
                      have HPM : Hid (P < L.length ↔ s < l.length) := Lib.hid (by have := HP.out; omega)
                      have hln : (l.take s).length = s := by simp; omega
                      have hrw := HT.out.row
                      rw [hln] at hrw
                      obtain ⟨At, ct, rfl⟩ := own_form hrw
                      have HRW := Lib.hid hrw
                      have HLN := Lib.hid hln
                      clear hrw hln HTS
                      clear wa
                      have hszt := HT.out.size
                      have a13 := HT.out.blk.cell 13
                      simp only [tsCells, List.getElem?_cons_zero, List.getElem?_cons_succ] at a13
                      have hHT := HT.out.below
                      have HIr := Lib.hid (Cells.keep HI2.out (tmask_below hHT))
                      have HBr := Lib.hid hHT
                      clear hHT
                      have hlen2 : l.length = L.length - posA L q := hlen
                      go_upto_region 21 with fail
                      go_cut [85] (fun t wx => Hid (t = .bool (decide (s < S))) ∧ wr = wx)
                      case first =>
                        by_cases c1 : P < L.length
                        · obtain ⟨z, hz⟩ : ∃ z, l[s]? = some z := ⟨_, List.getElem?_eq_getElem (HPM.out.1 c1)⟩
                          have HZ := Lib.hid hz
                          have cz := ints_cell HIr.out (p := P) (y := z) (by rw [HLP.out]; exact hz)
                          clear hz
                          have c1i : ((P : Nat) : Int) < L.length := by omega
                          by_cases c2 : z ≤ 65535
                          · by_cases c3 : s < 255
                            · have c3i : (s : Int) < 255 := by omega
                              have hsl := HPM.out.1 c1
                              have hsS : s < S := by
                                rcases Nat.lt_or_ge s S with h | h
                                · exact h
                                · exfalso
                                  have e : s = S := by omega
                                  rcases HST.out with h5 | h5 | ⟨x, h5, h6⟩
                                  · omega
                                  · omega
                                  · rw [← e, HZ.out] at h5; injection h5 with h5; omega
                              go_wp2_with fail
                              go_meet
                              exact ⟨Lib.hid (by simp [hsS]), rfl⟩
                            · have hsS : ¬ s < S := by omega
                              have c3i : ¬ (s : Int) < 255 := by omega
                              go_wp2_with fail
                              go_meet
                              exact ⟨Lib.hid (by simp [hsS]), rfl⟩
                          · have hsS : ¬ s < S := fun h => c2 (HSA.out s z h HZ.out)
                            go_wp2_with fail
                            go_meet
                            exact ⟨Lib.hid (by simp [hsS]), rfl⟩
                        · have hsS : ¬ s < S := fun h => c1 (HPM.out.2 (by omega))
                          have c1i : ¬ ((P : Nat) : Int) < L.length := by omega
                          go_wp2_with fail
                          go_meet
                          exact ⟨Lib.hid (by simp [hsS]), rfl⟩
                      case rest =>
                        obtain ⟨HT5, rfl⟩ := hcut
                        go_wp2_with fail
                        by_cases hsS : s < S
                        · obtain rfl : u85 = .bool true := by rw [HT5.out]; simp [hsS]
                          obtain ⟨z, hz⟩ : ∃ z, l[s]? = some z := ⟨_, List.getElem?_eq_getElem (by omega)⟩
                          have HZ := Lib.hid hz
                          have cz := ints_cell HIr.out (p := P) (y := z) (by rw [HLP.out]; exact hz)
                          clear hz
                          have dx : Below wr.heap.size wr wr.drew := (Below.refl _ wr).drew
                          have HTd := Lib.hid (HT.out.below_ dx)
                          have HRd := Lib.hid (own_below HRW.out dx)
                          clear dx
                          have c1 : P < L.length := HPM.out.2 (by omega)
                          have c1i : ((P : Nat) : Int) < L.length := by omega
                          go_upto_region 22 with fail
                          refine until_start 9 (fun u : World => u.cell? ⟨wo.heap.size, 13, none⟩ = some (.slice At s ct) ∧ u.cell? (ad.add P) = some (.int .i64 z)) (by kernel_rfl) ?_
                          have hS : Hid ((fun u : World => u.cell? ⟨wo.heap.size, 13, none⟩ = some (.slice At s ct) ∧ u.cell? (ad.add P) = some (.int .i64 z)) wr.drew) := ⟨HTd.out.blk.cell 13, cz⟩
                          refine until_take (i := 0) (v := ?_) rfl (by kernel_rfl) (by kernel_rfl) (by kernel_rfl) rfl (fun _ _ _ h => h) (fun _ => hS.out) (Or.inl ⟨by rfl, ?_⟩) ?_
                          rotate_left
                          · (intro u _; go_simp; try with_reducible rfl)
                          try simp only [Act.put, List.setIfInBounds_toArray, List.set_cons_zero, List.set_cons_succ]
                          refine until_take (i := 2) (v := ?_) rfl (by kernel_rfl) (by kernel_rfl) (by kernel_rfl) rfl (fun _ _ _ h => h) (fun _ => hS.out) (Or.inl ⟨by rfl, ?_⟩) ?_
                          rotate_left
                          · (intro u _; go_simp; try with_reducible rfl)
                          try simp only [Act.put, List.setIfInBounds_toArray, List.set_cons_zero, List.set_cons_succ]
                          refine until_take (i := 3) (v := ?_) rfl (by kernel_rfl) (by kernel_rfl) (by kernel_rfl) rfl (fun _ _ _ h => h) (fun _ => hS.out) (Or.inl ⟨by rfl, ?_⟩) ?_
                          rotate_left
                          · (intro u _; go_simp; try with_reducible rfl)
                          try simp only [Act.put, List.setIfInBounds_toArray, List.set_cons_zero, List.set_cons_succ]
                          refine until_take (i := 4) (v := ?_) rfl (by kernel_rfl) (by kernel_rfl) (by kernel_rfl) rfl (fun _ _ _ h => h) (fun _ => hS.out) (Or.inl ⟨by rfl, ?_⟩) ?_
                          rotate_left
                          · (intro u _; go_simp; try with_reducible rfl)
                          try simp only [Act.put, List.setIfInBounds_toArray, List.set_cons_zero, List.set_cons_succ]
                          refine until_load (i := 1) (v := ?_) [7, 9] rfl (by kernel_rfl) (by kernel_rfl) (by kernel_rfl) (by kernel_rfl) (fun _ _ _ h => h) hS.out (Or.inl ⟨by rfl, ?_⟩) ?_
                          rotate_left
                          · (rintro u ⟨s1, s2⟩; go_simp; try with_reducible rfl)
                          try simp only [Act.put, List.setIfInBounds_toArray, List.set_cons_zero, List.set_cons_succ]
                          refine until_load (i := 5) (v := ?_) [6, 7, 9] rfl (by kernel_rfl) (by kernel_rfl) (by kernel_rfl) (by kernel_rfl) (fun _ _ _ h => h) hS.out (Or.inl ⟨by rfl, ?_⟩) ?_
                          rotate_left
                          · (rintro u ⟨s1, s2⟩; go_simp; try with_reducible rfl)
                          try simp only [Act.put, List.setIfInBounds_toArray, List.set_cons_zero, List.set_cons_succ]
                          refine until_ready (rs := [6]) (by kernel_rfl) (by simp) ?_
                          refine AllUntil.cons rfl (fun K hK => ?_) AllUntil.nil
                          go_simp
                          refine hK.out _ _ (fun _ => ⟨(HTd.out.below_ (below_alloc1 _ _)).blk.cell 13, cell_below (below_alloc1 wr.drew _) cz⟩) ?_
                          clear hK K
                          try simp only [Act.put, List.setIfInBounds_toArray, List.set_cons_zero, List.set_cons_succ]
                          refine until_ready (rs := [7]) (by kernel_rfl) (by simp) ?_
                          refine AllUntil.cons rfl (fun K hK => ?_) AllUntil.nil
                          refine step_appL (wr.drew) rfl (.tmp 87) (.tmp 92) 38 rfl wo.heap.size 3 (.int .i64 0) 1 8 Try.underlying38 infoInt rfl (by decide) (.slice At s ct) s _ rfl HRd.out #[.int .i64 z] 1 rfl rfl (by simp [Value.oneCell']) (by decide) (by omega) (by decide) (by show _ ≤ wr.heap.size; omega) ?_
                          intro g7 c7 w7 hown7 hg7
                          have HTG := Lib.hid (HTd.out.grow (y := z) (by rw [HLN.out]) hown7 hg7)
                          have HI7 := Lib.hid (Cells.keep HI2.out (tmask_below HTG.out.below))
                          have q13 : w7.cell? ⟨wo.heap.size, 13, none⟩ = some (.slice At s ct) := HTG.out.blk.cell 13
                          have qf := HTG.out.blk.frozen 13
                          have HS7 : Hid ((fun u : World => u.cell? ⟨wo.heap.size, 13, none⟩ = some (.slice At s ct) ∧ u.cell? (ad.add P) = some (.int .i64 z)) w7) := ⟨q13, ints_cell HI7.out (by rw [HLP.out]; exact HZ.out)⟩
                          clear hown7 hg7
                          refine hK.out _ _ (fun _ => HS7.out) ?_
                          clear hK K
                          try simp only [Act.put, List.setIfInBounds_toArray, List.set_cons_zero, List.set_cons_succ]
                          refine until_take (i := 8) (v := ?_) rfl (by kernel_rfl) (by kernel_rfl) (by kernel_rfl) rfl (fun _ _ _ h => h) (fun _ => HS7.out) (Or.inl ⟨by rfl, ?_⟩) ?_
                          rotate_left
                          · (intro u _; go_simp; try with_reducible rfl)
                          try simp only [Act.put, List.setIfInBounds_toArray, List.set_cons_zero, List.set_cons_succ]
                          refine until_ready (rs := [9]) (by kernel_rfl) (by simp) ?_
                          refine AllUntil.cons rfl (fun K hK => ?_) AllUntil.nil
                          go_simp
                          refine hK.out _ _ (fun h => by simp at h) ?_
                          clear hK K
                          try simp only [Act.put, List.setIfInBounds_toArray, List.set_cons_zero, List.set_cons_succ]
                          refine until_done (by kernel_rfl) ?_ _
                          go_wp2_with fail
                          go_roundw
                          case rel => exact ⟨s + 1, P + 1, _, by go_num, by omega, Lib.hid (by rw [HP.out]; rfl), Lib.hid (by rw [take_snoc HZ.out]; exact HTG.out.done)⟩
                          case measure => simp [intOf]; omega
                        · obtain rfl : u85 = .bool false := by rw [HT5.out]; simp [hsS]
                          obtain rfl : s = S := by omega
                          have hBV := HT.out.blkV (by rw [HLN.out]; omega)
                          obtain ⟨C, hC⟩ : ∃ C : Array Value, C.toList = tsCells (.slice At s ct) := ⟨(tsCells (.slice At s ct)).toArray, rfl⟩
                          rw [← hC] at hBV
                          have HCV := Lib.hid hBV
                          have HCb : Hid (wr.heap[wo.heap.size]? = some (.cells C 87 (0, 0))) := Lib.hid (by have := HT.out.blk; rw [← hC] at this; exact this)
                          have hBS : ∀ u : World, (Instr.buildSlice 24 1 #[(0, .agg C)]).run Try.prog u = .ok (.slice (some ⟨u.heap.size, 0, none⟩) 1 1) (u.alloc (.cells C 87)) := build_blk hBV
                          simp [go_sem] at hBS
                          have hC18 := blkV_size hBV
                          have HC18 := Lib.hid hC18
                          have HCO := Lib.hid (blkV_one hBV)
                          have HX7 := Lib.hid (HX2.out.below_ HBr.out)
                          have HO7 := Lib.hid (own_below HOW.out HBr.out)
                          have HB7 := Lib.hid (HBC.out.keep (tmask_below HBr.out))
                          have t7 := HX7.out.tape.cell 2
                          simp only [List.getElem?_cons_zero, List.getElem?_cons_succ] at t7
                          clear hBV hC hC18 a13 HT5 HT HRW
                          go_wp2_with (first
                            | (refine wpList_load_row rfl 87 (.tmp 11) rfl wo.heap.size rfl 87 C (0, 0) _ HCb.out Try.underlying87 rfl (sizeBlock.trans (congrArg some HC18.out.symm)) ?_)
                            | (at_builtin; refine wpList_appL wr rfl (.tmp 98) (.tmp 100) 24 rfl w.heap.size 87 _ 18 240 Try.underlying24 infoBlock rfl (by decide) (.slice Ab (q + 1) cb) (q + 1) xs rfl HO7.out C 1 rfl HC18.out HCO.out (by decide) (by omega) (by decide) (by omega) ?_; intro g8 c8 w8 hown8 hg8 _; have HXG := Lib.hid (HX7.out.grow (B := pulsB (l.take s)) (by rw [blksA_len]; exact HO7.out) HB7.out (cs := C.toList) (by simpa using HC18.out) HCV.out (by rw [blksA_len]) hown8 hg8); have HI8 := Lib.hid (Cells.keep HIr.out (tmask_grown HO7.out (.inl rfl) hg8)); have b2 := HXG.out.tape.cell 2; have f2 := HXG.out.tape.frozen 2; simp only [List.getElem?_cons_zero, List.getElem?_cons_succ] at b2; clear hown8 hg8))
                          go_roundw
                          case rel => exact ⟨q + 1, _, by rw [HE.out.2, ← HP.out], by rw [HE.out.2]; omega, Lib.hid (Cells.keep HI8.out (tmask_set HXG.out.tape (.inr rfl) 2 _)), Lib.hid (by rw [blksA_succ, HE.out.1]; exact HXG.out.done), Lib.hid (fun j hj => by
                            by_cases e : j = q
                            · subst e; exact hm0
                            · exact HJ.out j (by omega))⟩
                          case measure => have := HP.out; simp [intOf]; omega
                · obtain hpe : posA L q = L.length := by omega
                  have hp2 : ((posA L q : Nat) : Int) = L.length := by omega
                  by_cases hk : 4096 ≤ q
                  · have hk2 : (4096 : Int) < (q : Int) + 1 := by omega
                    have hk3 : ¬ ((q : Int) + 1 ≤ 4096) := by omega
                    have hk4 : (4095 : Int) < (q : Int) := by omega
                    go_wp2_with (first
                      | (refine wpList_store_rowTo rfl 26 (.tmp 4) (.tmp 107) rfl rfl w.heap.size _ rfl rfl 26 _ HX2.out.res sizeTape rfl (by simp [Value.oneCell']) ?_))
                    refine bodyPost_ret (v := .tuple #[.agg #[.int .i64 0, .int .i64 0, .slice none 0 0], .int .i64 8]) (results_row_tmp rfl rfl (HX2.out.res.setRow [.int .i64 0, .int .i64 0, .slice none 0 0]) Try.underlying26 rfl sizeTape rfl) rfl ?_
                    exact ⟨below_setRow HX2.out.below (Nat.le_refl _) _, .inr (.inl ⟨HZ0.out, by rw [← HL.out]; exact HJ.out 4095 (by omega), rfl⟩)⟩
                  · have hk2 : ¬ (4096 : Int) < (q : Int) + 1 := by omega
                    have hk3 : ((q : Int) + 1 ≤ 4096) := by omega
                    have hk4 : ¬ (4095 : Int) < (q : Int) := by omega
                    go_wp2_with (first
                      | (refine wpList_load_row rfl 26 (.tmp 9) rfl gt rfl 26 _ (0, 0) _ HX2.out.tape Try.underlying26 rfl sizeTape ?_)
                      | (refine wpList_store_rowTo rfl 26 (.tmp 4) (.tmp 108) rfl rfl w.heap.size _ rfl rfl 26 _ HX2.out.res sizeTape rfl (by simp [Value.oneCell']) ?_))
                    refine bodyPost_ret (v := .tuple #[.agg #[.int .i64 1, .int .i64 20, .slice Ab (q + 1) cb], .int .i64 0]) (results_row_tmp rfl rfl (HX2.out.res.setRow [.int .i64 1, .int .i64 20, .slice Ab (q + 1) cb]) Try.underlying26 rfl sizeTape rfl) rfl ?_
                    refine ⟨below_setRow HX2.out.below (Nat.le_refl _) _, .inr (.inr ⟨HZ0.out, q, _, by omega, by rw [← HL.out]; omega, by rw [← HL.out]; exact HJ.out, rfl, ?_⟩)⟩
                    rw [← HL.out, ← HX.out]
                    exact HX2.out.slB (by rw [blksA_len]; omega) _
end Go.Proofs.Ytoejmjhfecppcaa
