/- wave.New of block 16, over what fill does. -/
import Derived.Test.YtiiipklbbajadaaWavH
namespace Go.Proofs.Ytiiipklbbajadaa
set_option linter.unusedSimpArgs false
set_option linter.unusedVariables false
open Go.RowKit
theorem belowCells {B g : Nat} {a : World} (hg : B ≤ g) : ∀ (vs : List Value) (o : Nat) (w : World), Below B a w → Below B a (w.setCells g o vs)
  | [], _, _, h => h
  | v :: r, o, w, h => belowCells hg r (o + 1) _ (Below.setCell h hg v)
theorem blkCells {g : Nat} {t : TypeId} : ∀ (vs pre mid post : List Value) (o : Nat) (w : World), pre.length = o → mid.length = vs.length → Blk w g t (pre ++ mid ++ post) → Blk (w.setCells g o vs) g t (pre ++ vs ++ post)
  | [], pre, mid, post, o, w, _, hm, h => by
    obtain rfl : mid = [] := List.eq_nil_of_length_eq_zero hm
    exact h
  | v :: r, pre, [], post, o, w, _, hm, h => by simp at hm
  | v :: r, pre, m :: mid, post, o, w, hp, hm, h => by
    have h1 : Blk (w.setCell ⟨g, o, none⟩ v) g t ((pre ++ [v]) ++ mid ++ post) := by
      have := h.set_ o v
      have e : (pre ++ m :: mid ++ post).set o v = (pre ++ [v]) ++ mid ++ post := by
        subst hp
        simp [List.set_append]
      rw [e] at this
      exact this
    have := blkCells r (pre ++ [v]) mid post (o + 1) _ (by simp [hp]) (by simpa using hm) h1
    rw [show pre ++ v :: r ++ post = pre ++ [v] ++ r ++ post by simp]
    exact this
theorem Blk.there {w : World} {g : Nat} {t : TypeId} {cs : List Value} (h : Blk w g t cs) (n : Nat) (hn : n ≤ cs.length) : w.there g 0 n := fun j hj => ⟨by rw [Nat.zero_add, h.cell, List.getElem?_eq_getElem (by omega)]; rfl, by rw [Nat.zero_add]; exact h.frozen j⟩
set_option maxRecDepth 100000 in
set_option maxHeartbeats 2000000 in
theorem wv_new16 (cs : List Value) (A : Option Addr) (n c : Nat) (D : List Int) (h : StdIn cs A n c) (co pa er : Int) (h0 : cs[0]? = some (.int .i64 16)) (h8 : cs[8]? = some (.int .i64 co)) (h1 : cs[1]? = some (.int .i64 pa)) (u : World) (hi : Ints u A .u8 D) (hn : D.length = n) (Post : World → Prop)
    (HF : ∀ w, Blk w (u.heap.size + 1) 48 (stdCells cs (if 128 ≤ D.getD 0 0 then 3223 else 8063) ++ nil2) → Below u.heap.size u w → Calls Try.prog 14 #[.pointer (some ⟨u.heap.size + 1, 0, none⟩)] w (FillP (u.heap.size + 1) er Post w)) :
    Calls Try.prog 7 #[.agg cs.toArray] u (NewP er co pa Post u) := by
  have HF := Lib.hid HF
  have HI1 : Hid ((Try.prog.info? 30).map (·.size) = some cs.toArray.size) := by show _ = _; rw [infoBlkN]; simp [h.len]
  have HB1 := Lib.hid (Blk.new u 30 cs)
  have HBW : Hid (Below u.heap.size u (NewW u cs)) := ((Below.refl _ u).alloc (Nat.le_refl _) _).alloc (by simp) _
  have HB2 : Hid (Blk (NewW u cs) u.heap.size 30 cs) := blk_alloc2_old u _ _ _
  have HN2 : Hid (Blk (NewW u cs) (u.heap.size + 1) 48 (cs ++ nil2)) := blk_alloc2_new u _ _ _
  have HSZ2 : Hid ((NewW u cs).heap.size = u.heap.size + 2) := by show _ = _; simp [NewW]
  have HBu := Lib.hid (built_wave cs h.len)
  have HI2 : Hid (Ints (NewW u cs) A .u8 D) := Lib.hid (hi.below HBW.out)
  have HS := Lib.hid (wv_std cs A n c D h (NewW u cs) HI2.out hn)
  have HL := Lib.hid h.len
  obtain ⟨co', hco'⟩ : ∃ co' : Int, co' = if 128 ≤ D.getD 0 0 then 3223 else 8063 := ⟨_, rfl⟩
  rw [← hco'] at HS HF
  have HONE := Lib.hid (all_oneCell_toArray (h.one_std co'))
  obtain ⟨w2, hw2⟩ : ∃ w2, w2 = NewW u cs := ⟨_, rfl⟩
  rw [← hw2] at HBW HB2 HN2 HSZ2 HS
  have HW2 : Hid (w2 = (u.alloc (.cells cs.toArray 30)).alloc (.cells (cs ++ nil2).toArray 48)) := hw2
  have c0 : w2.cell? ⟨u.heap.size, 0, none⟩ = some (.int .i64 16) := (HB2.out.cell 0).trans h0
  have c8 : w2.cell? ⟨u.heap.size, 8, none⟩ = some (.int .i64 co) := (HB2.out.cell 8).trans h8
  have c1 : w2.cell? ⟨u.heap.size, 1, none⟩ = some (.int .i64 pa) := (HB2.out.cell 1).trans h1
  have hlt : u.heap.size < u.heap.size + 1 := Nat.lt_succ_self _
  clear hw2 h0 h8 h1 hco' hi hn h HI2
  obtain ⟨CS, hCS⟩ : ∃ CS, CS = cs.toArray := ⟨_, rfl⟩
  obtain ⟨WS, hWS⟩ : ∃ WS, WS = (cs ++ nil2).toArray := ⟨_, rfl⟩
  have HB1' : Hid ((u.alloc (.cells CS 30)).heap[u.heap.size]? = some (.cells CS 30 (0, 0))) := by show _ = _; rw [hCS]; exact HB1.out
  have HB2' : Hid (w2.heap[u.heap.size]? = some (.cells CS 30 (0, 0))) := by show _ = _; rw [hCS]; exact HB2.out
  rw [← hCS] at HI1 HBu HW2 HS ⊢
  rw [← hWS] at HBu HW2
  clear hCS hWS HB1 HB2
  go_enter Try.func7, Try.ntmps7
  go_upto_region 1 with fail
  refine wp_region_list ?_
  refine wpList_load_row rfl 30 (.tmp 1) rfl u.heap.size rfl 30 CS (0, 0) _ HB1'.out Try.underlying30 rfl HI1.out ?_
  refine wpList_buildTo rfl 48 #[(0, .tmp 6)] rfl (some 7) rfl WS (Eq.trans (congrArg _ (by simp; rfl)) HBu.out) ?_
  refine Great.wpList_boxTo rfl 48 (.tmp 7) rfl (some 8) rfl (u.heap.size + 1) (by simp) WS rfl ?_
  rw [← HW2.out]
  go_upto_region 3 with fail
  have FU : Hid (∀ q, Below (u.heap.size + 1) w2 q → q.cell? ⟨u.heap.size, 8, none⟩ = some (.int .i64 co) ∧ q.cell? ⟨u.heap.size, 1, none⟩ = some (.int .i64 pa)) := fun q hq => ⟨(hq.cell hlt).trans c8, (hq.cell hlt).trans c1⟩
  clear c8 c1 c0
  have HI3 : Hid ((Try.prog.info? 30).map (·.size) = some (stdCells cs co').toArray.size) := by show _ = _; rw [infoBlkN]; simp [stdCells_len, HL.out]
  have HSL : Hid ((stdCells cs co').toArray.size = 18) := by show _ = _; simp [stdCells_len, HL.out]
  go_upto_region 4 with (first
    | (refine wpList_load_row rfl 30 (.tmp 1) rfl u.heap.size rfl 30 CS (0, 0) _ HB2'.out Try.underlying30 rfl HI1.out ?_)
    | (go_at_call 13; refine HS.out.mono ?_; rintro e w3 ⟨rfl, hb3⟩; have HB3 := Lib.hid hb3; have HT : Hid (w3.there (u.heap.size + 1) 0 (stdCells cs co').toArray.size) := Lib.hid ((HN2.out.below_ hb3).there _ (by rw [HSL.out, List.length_append, HL.out]; exact Nat.le_add_right _ _)); clear hb3)
    | (refine wpList_store_mid rfl 30 (.tmp 16) (.tmp 14) rfl (u.heap.size + 1) 0 (stdCells cs co').toArray rfl rfl HT.out HI3.out HONE.out ?_))
  generalize hw4 : World.setCells w3 _ _ _ = w4
  have HB4 : Hid (Blk w4 (u.heap.size + 1) 48 (stdCells cs co' ++ nil2)) := by
    show Blk _ _ _ _
    rw [← hw4]
    exact blkCells _ [] cs nil2 0 w3 rfl (by simp [stdCells_len]) (HN2.out.below_ HB3.out)
  have HBW4 : Hid (Below (u.heap.size + 1) w2 w4) := by
    show Below _ _ _
    rw [← hw4]
    exact belowCells (Nat.le_refl _) _ _ _ (HB3.out.mono (by rw [HSZ2.out]; exact Nat.le_succ _))
  have HBW5 := Lib.hid (HBW.out.trans (HBW4.out.mono (Nat.le_succ _)))
  have HF4 := Lib.hid (HF.out w4 HB4.out HBW5.out)
  clear hw4 HN2 HT hlt
  go_wp2_with (first
    | (go_at_call 14; refine HF4.out.mono ?_; rintro e w5 ⟨rfl, hp5, hb5⟩; obtain ⟨d8, d1⟩ := FU.out w5 (HBW4.out.trans hb5); have HP5 := Lib.hid hp5; have HB5 := Lib.hid hb5; clear hp5 hb5))
  all_goals refine bodyPost_ret (results_tmp2 rfl _ _ _) rfl ?_
  all_goals refine ⟨?_, HP5.out, HBW5.out.trans (HB5.out.mono (Nat.le_succ _))⟩
  all_goals unfold newV
  all_goals simp_all
end Go.Proofs.Ytiiipklbbajadaa
