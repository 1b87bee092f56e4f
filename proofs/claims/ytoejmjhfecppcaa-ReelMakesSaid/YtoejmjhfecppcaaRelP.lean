/- Reel in general: reel.long. -/
import Derived.Test.YtoejmjhfecppcaaRelO
namespace Go.Proofs.Ytoejmjhfecppcaa
set_option linter.unusedSimpArgs false
set_option linter.unusedVariables false
open Go.RowKit Go.Sort
theorem repsK_len (k : Int) : (repsK k).length ≤ 2 := by
  unfold repsK
  split
  · simp
  · split <;> simp
theorem own_form {w : World} {base : Nat} {e : TypeId} {size n : Nat} {v : Value} {xs : List Value} (h : w.ownsRow base e size v n xs) : ∃ A c, v = .slice A n c := by
  rcases h.2 with ⟨e1, e2⟩ | ⟨g, cap, cur, e1, _⟩
  · exact ⟨none, 0, by rw [e1, e2]⟩
  · exact ⟨_, _, e1⟩
theorem below_alloc1 (w : World) (o : Obj) : Below w.heap.size w (w.alloc o) := (Below.refl _ w).alloc (Nat.le_refl _) _
/-- what a long gap's function hands back -/
def LongR (n : Int) (w : World) (e : Ending) (w' : World) : Prop :=
  ∃ s A m c A' m' c', e = .returned (.agg (lgCells s (.slice A m c) (.slice A' m' c')).toArray) ∧ BlkV (tmask w') (lgCells s (.slice A m c) (.slice A' m' c')) (longB n) ∧ Below w.heap.size w w'
theorem tmask_setRow {w : World} {g : Nat} {t : TypeId} {cs : List Value} (hb : Blk w g t cs) (ht : t = 87 ∨ t = 26) (xs : Array Value) :
    ∀ a u, (tmask w).cell? a = some u → (tmask (w.setRow g xs)).cell? a = some u := fun a u hc => by
  obtain ⟨h1, h2⟩ := (tmask_cell w a u).1 hc
  have hne : a.block ≠ g := by
    intro e
    have := h2 _ (by rw [e]; exact hb)
    rcases ht with rfl | rfl <;> simp [tapeObj] at this
  have hh : (w.setRow g xs).heap[a.block]? = w.heap[a.block]? := setRow_other w g a.block xs hne
  exact (tmask_cell _ a u).2 ⟨by rw [World.cell?_of_block hh]; exact h1, fun o ho => h2 o (by rw [← hh]; exact ho)⟩
theorem LongR.mk {w u : World} {gb m m' c c' : Nat} {A A' : Option Addr} {s n q r : Int} {P : List (Int × List Int)} {R : List (Int × Int)} (hq : n / 65535 = q) (hr : n % 65535 = r)
    (h : LgS w u gb s (.slice A m c) (.slice A' m' c') P R) (hs : s = if 0 < r then 3 else 2) (hP : P = [(0, [65535]), (1, [65535])] ++ if 0 < r then [(1, [r])] else []) (hR : R = [(0, 1)] ++ repsK (q - 1) ++ if 0 < r then [(2, 1)] else []) (xs : Array Value) :
    LongR n w (.returned (.agg (lgCells s (.slice A m c) (.slice A' m' c')).toArray)) (u.setRow w.heap.size xs) := by
  refine ⟨s, A, m, c, A', m', c', rfl, ?_, below_setRow h.below (Nat.le_refl _) _⟩
  have lP : P.length ≤ 3 := by rw [hP]; split <;> simp
  have lR : R.length ≤ 4 := by rw [hR]; have := repsK_len (q - 1); split <;> simp <;> omega
  have hB := (h.blkV (by omega) (by omega)).keep (tmask_setRow h.res (.inl rfl) xs)
  have e : longB n = { nums := [25, 0, 1, s, 0, 0, 0, 0, 0, 0, 0, 0], data := [], times := [], items := [], pilots := P, syms := [], reps := R } := by
    unfold longB
    simp only [hq, hr]
    rw [← hs, ← hP, ← hR]
  rw [e]
  exact hB
set_option maxRecDepth 100000 in
set_option maxHeartbeats 8000000 in
theorem long_any (n : Int) (h0 : 65536 ≤ n) (h1 : n ≤ 4294967295) (w : World) : Calls Try.prog 40 #[.int .i64 n] w (LongR n w) := by
  have HS := Lib.hid (LgS.start w)
  obtain ⟨q, hq⟩ : ∃ q, n / 65535 = q := ⟨_, rfl⟩
  obtain ⟨r, hr⟩ : ∃ r, n % 65535 = r := ⟨_, rfl⟩
  have q0 : 1 ≤ q := by omega
  have q1 : q ≤ 65537 := by omega
  have r0 : 0 ≤ r := by omega
  have r1 : r < 65535 := by omega
  have dq : Int.tdiv n 65535 = q := by rw [Int.tdiv_eq_ediv_of_nonneg (by omega)]; exact hq
  have dr : Int.tmod n 65535 = r := by rw [Int.tmod_eq_emod_of_nonneg (by omega)]; exact hr
  go_enter Try.func40, Try.ntmps40
  go_wp2_with (first
    | (refine wpList_store_rowTo rfl 87 (.tmp 3) (.tmp 13) rfl rfl (w.heap.size + 1 + 1 + 1 + 1 + 1) _ rfl rfl 87 _ (heap_alloc_new _ _) sizeBlock rfl (by simp [Value.oneCell']) ?_; rw [World.setRow_alloc_new]))
  go_loopw [4] (fun k u => ∃ (kc : Int) (vr : Value) (R : List (Int × Int)), k = .int .i64 kc ∧ kc ≤ 65536 ∧ -65535 ≤ kc ∧ Hid (LgS w u (w.heap.size + 1 + 1 + 1 + 1 + 1) 0 (.slice (some ⟨w.heap.size + 1 + 1 + 1, 0, none⟩) 2 2) vr [(0, [65535]), (1, [65535])] R) ∧ R.length ≤ 3 ∧ Hid (R ++ repsK kc = [(0, 1)] ++ repsK (q - 1))) (fun k _ => (intOf k).toNat)
  case atStart => exact ⟨q - 1, _, _, by go_num, by omega, by omega, HS, by decide, Lib.hid rfl⟩
  case round =>
    obtain ⟨kc, vr, R, rfl, k0, k1, HL, hR, HE⟩ := hrel
    have hsz := HL.out.size
    clear HS
    by_cases hk : 0 < kc
    · have a17 := HL.out.blk.cell 17
      simp only [lgCells, List.getElem?_cons_succ, List.getElem?_cons_zero] at a17
      by_cases hm : kc ≤ 65535
      · have HM : Hid (min kc 65535 = kc) := Lib.hid (Int.min_eq_left hm)
        go_wp2_with (first
          | (at_builtin; refine wpList_appL _ rfl (.tmp 22) (.tmp 26) 85 rfl w.heap.size 115 _ 2 16 Try.underlying85 infoRep rfl (by decide) vr R.length _ rfl HL.out.rrow #[.int .i64 1, .int .i64 kc] 1 rfl rfl (by simp [Value.oneCell']) (by decide) (by omega) (by decide) (Nat.le_of_lt hsz) ?_; intro g2 c2 w4 hown2 hg2 _; have HG := Lib.hid (HL.out.growR rfl hown2 hg2); clear hown2 hg2 a17; have b17 := HG.out.blk.frozen 17; have c17 := HG.out.blk.cell 17; simp only [lgCells, List.getElem?_cons_succ, List.getElem?_cons_zero] at c17))
        go_roundw
        case rel => exact ⟨kc - 65535, _, _, by go_num, by omega, by omega, Lib.hid HG.out.done, by simp; have := congrArg List.length HE.out; rw [repsK_step hk k0] at this; have r2 := repsK_len (q - 1); simp at this; omega, Lib.hid (by rw [← HE.out, repsK_step hk k0, HM.out, List.append_assoc]; rfl)⟩
        case measure => simp [intOf]; omega
      · have HM : Hid (min kc 65535 = 65535) := Lib.hid (Int.min_eq_right (by omega))
        have hm2 : 65535 < kc := by omega
        go_wp2_with (first
          | (at_builtin; refine wpList_appL _ rfl (.tmp 22) (.tmp 26) 85 rfl w.heap.size 115 _ 2 16 Try.underlying85 infoRep rfl (by decide) vr R.length _ rfl HL.out.rrow #[.int .i64 1, .int .i64 65535] 1 rfl rfl (by simp [Value.oneCell']) (by decide) (by omega) (by decide) (Nat.le_of_lt hsz) ?_; intro g2 c2 w4 hown2 hg2 _; have HG := Lib.hid (HL.out.growR rfl hown2 hg2); clear hown2 hg2 a17; have b17 := HG.out.blk.frozen 17; have c17 := HG.out.blk.cell 17; simp only [lgCells, List.getElem?_cons_succ, List.getElem?_cons_zero] at c17))
        go_roundw
        case rel => exact ⟨kc - 65535, _, _, by go_num, by omega, by omega, Lib.hid HG.out.done, by simp; have := congrArg List.length HE.out; rw [repsK_step hk k0] at this; have r2 := repsK_len (q - 1); simp at this; omega, Lib.hid (by rw [← HE.out, repsK_step hk k0, HM.out, List.append_assoc]; rfl)⟩
        case measure => simp [intOf]; omega
    · have HE2 : Hid (R = [(0, 1)] ++ repsK (q - 1)) := by
        have h := HE.out
        have e : repsK kc = [] := by unfold repsK; rw [if_pos (by omega)]
        rw [e, List.append_nil] at h
        exact Lib.hid h
      obtain ⟨A', c', rfl⟩ := own_form HL.out.rrow
      by_cases hr0 : 0 < r
      · have a15 := HL.out.blk.cell 15
        simp only [lgCells, List.getElem?_cons_succ, List.getElem?_cons_zero] at a15
        obtain ⟨xp, hp1, hp2⟩ := HL.out.prow
        have HLa := Lib.hid (HL.out.below_ (below_alloc1 wr (.cells #[.int .i64 r] 3)))
        have HPa := Lib.hid (own_below hp1 (below_alloc1 wr (.cells #[.int .i64 r] 3)))
        have HCa := Lib.hid (hp2.keep fun g cs hb => hb.below_ (below_alloc1 wr (.cells #[.int .i64 r] 3)))
        have HY := Lib.hid (Blk.new wr 3 [.int .i64 r])
        clear hp1 hp2
        go_upto_region 9 with (first
          | (at_builtin; refine wpList_appL (wr.alloc (.cells #[.int .i64 r] 3)) rfl (.tmp 34) (.tmp 38) 84 rfl w.heap.size 113 _ 2 32 Try.underlying84 infoSym rfl (by decide) (.slice (some ⟨w.heap.size + 1 + 1 + 1, 0, none⟩) 2 2) 2 xp rfl HPa.out #[.int .i64 1, .slice (some ⟨wr.heap.size, 0, none⟩) 1 1] 1 (by simp [go_sem]) rfl (by simp [Value.oneCell']) (by decide) (by omega) (by decide) (by simp; omega) ?_; intro g2 c2 w4 hown2 hg2 _; have HG := Lib.hid (HLa.out.growP HPa.out HCa.out HY.out rfl hown2 hg2); clear hown2 hg2 a15; have b15 := HG.out.blk.frozen 15; have c15 := HG.out.blk.cell 15; simp only [lgCells, List.getElem?_cons_succ, List.getElem?_cons_zero] at c15))
        have HS5 : Hid (LgS w (w4.setCell ⟨w.heap.size + 1 + 1 + 1 + 1 + 1, 15, none⟩ (.slice (some ⟨g2, 0, none⟩) 3 c2)) (w.heap.size + 1 + 1 + 1 + 1 + 1) 0 (.slice (some ⟨g2, 0, none⟩) 3 c2) (.slice A' R.length c') ([(0, [65535]), (1, [65535])] ++ [(1, [r])]) R) := Lib.hid HG.out.done
        obtain ⟨w5, hw5⟩ : ∃ u, u = w4.setCell ⟨w.heap.size + 1 + 1 + 1 + 1 + 1, 15, none⟩ (.slice (some ⟨g2, 0, none⟩) 3 c2) := ⟨_, rfl⟩
        rw [← hw5] at HS5 ⊢
        clear hw5 b15 c15 HG HL HLa HPa HCa HY
        have hsz5 := HS5.out.size
        have a17 := HS5.out.blk.cell 17
        simp only [lgCells, List.getElem?_cons_succ, List.getElem?_cons_zero] at a17
        go_upto_region 10 with (first
          | (at_builtin; refine wpList_appL _ rfl (.tmp 42) (.tmp 44) 85 rfl w.heap.size 115 _ 2 16 Try.underlying85 infoRep rfl (by decide) (.slice A' R.length c') R.length _ rfl HS5.out.rrow #[.int .i64 2, .int .i64 1] 1 rfl rfl (by simp [Value.oneCell']) (by decide) (by omega) (by decide) (Nat.le_of_lt hsz5) ?_; intro g3 c3 w6 hown3 hg3 _; have HG3 := Lib.hid (HS5.out.growR rfl hown3 hg3); clear hown3 hg3 a17; have b17 := HG3.out.blk.frozen 17; have c17 := HG3.out.blk.cell 17; simp only [lgCells, List.getElem?_cons_succ, List.getElem?_cons_zero] at c17))
        have HS7 : Hid (LgS w (w6.setCell ⟨w.heap.size + 1 + 1 + 1 + 1 + 1, 17, none⟩ (.slice (some ⟨g3, 0, none⟩) (R.length + 1) c3)) (w.heap.size + 1 + 1 + 1 + 1 + 1) 0 (.slice (some ⟨g2, 0, none⟩) 3 c2) (.slice (some ⟨g3, 0, none⟩) (R.length + 1) c3) ([(0, [65535]), (1, [65535])] ++ [(1, [r])]) (R ++ [(2, 1)])) := Lib.hid HG3.out.done
        obtain ⟨w7, hw7⟩ : ∃ u, u = w6.setCell ⟨w.heap.size + 1 + 1 + 1 + 1 + 1, 17, none⟩ (.slice (some ⟨g3, 0, none⟩) (R.length + 1) c3) := ⟨_, rfl⟩
        rw [← hw7] at HS7 ⊢
        clear hw7 b17 c17 HG3 HS5
        have a15 := HS7.out.blk.cell 15
        have a3 := HS7.out.blk.cell 3
        have b3 := HS7.out.blk.frozen 3
        simp only [lgCells, List.getElem?_cons_succ, List.getElem?_cons_zero] at a15 a3
        go_upto_region 11 with fail
        have HS8 : Hid (LgS w (w7.setCell ⟨w.heap.size + 1 + 1 + 1 + 1 + 1, 3, none⟩ (.int .i64 3)) (w.heap.size + 1 + 1 + 1 + 1 + 1) 3 (.slice (some ⟨g2, 0, none⟩) 3 c2) (.slice (some ⟨g3, 0, none⟩) (R.length + 1) c3) ([(0, [65535]), (1, [65535])] ++ [(1, [r])]) (R ++ [(2, 1)])) := Lib.hid (HS7.out.setS 3)
        obtain ⟨w8, hw8⟩ : ∃ u, u = w7.setCell ⟨w.heap.size + 1 + 1 + 1 + 1 + 1, 3, none⟩ (.int .i64 3) := ⟨_, rfl⟩
        rw [← hw8] at HS8 ⊢
        clear hw8 a15 a3 b3 HS7
        go_wp2_with (first
          | (refine wpList_load_row rfl 87 (.tmp 3) rfl (w.heap.size + 1 + 1 + 1 + 1 + 1) rfl 87 _ (0, 0) _ HS8.out.blk Try.underlying87 rfl sizeBlock ?_)
          | (refine wpList_store_rowTo rfl 87 (.tmp 2) (.tmp 51) rfl rfl w.heap.size _ rfl rfl 87 _ HS8.out.res sizeBlock rfl (by simp [lgCells, Value.oneCell']) ?_))
        refine bodyPost_ret (results_cell_row rfl _ _ w.heap.size 87 _ (0, 0) _ rfl (HS8.out.res.setRow _) Try.underlying87 rfl sizeBlock) rfl ?_
        exact LongR.mk hq hr HS8.out (by rw [if_pos hr0]) (by rw [if_pos hr0]) (by rw [if_pos hr0, HE2.out]) _
      · have a15 := HL.out.blk.cell 15
        have a3 := HL.out.blk.cell 3
        have b3 := HL.out.blk.frozen 3
        simp only [lgCells, List.getElem?_cons_succ, List.getElem?_cons_zero] at a15 a3
        go_upto_region 11 with fail
        have HS8 : Hid (LgS w (wr.setCell ⟨w.heap.size + 1 + 1 + 1 + 1 + 1, 3, none⟩ (.int .i64 2)) (w.heap.size + 1 + 1 + 1 + 1 + 1) 2 (.slice (some ⟨w.heap.size + 1 + 1 + 1, 0, none⟩) 2 2) (.slice A' R.length c') [(0, [65535]), (1, [65535])] R) := Lib.hid (HL.out.setS 2)
        obtain ⟨w8, hw8⟩ : ∃ u, u = wr.setCell ⟨w.heap.size + 1 + 1 + 1 + 1 + 1, 3, none⟩ (.int .i64 2) := ⟨_, rfl⟩
        rw [← hw8] at HS8 ⊢
        clear hw8 a15 a3 b3 HL
        go_wp2_with (first
          | (refine wpList_load_row rfl 87 (.tmp 3) rfl (w.heap.size + 1 + 1 + 1 + 1 + 1) rfl 87 _ (0, 0) _ HS8.out.blk Try.underlying87 rfl sizeBlock ?_)
          | (refine wpList_store_rowTo rfl 87 (.tmp 2) (.tmp 51) rfl rfl w.heap.size _ rfl rfl 87 _ HS8.out.res sizeBlock rfl (by simp [lgCells, Value.oneCell']) ?_))
        refine bodyPost_ret (results_cell_row rfl _ _ w.heap.size 87 _ (0, 0) _ rfl (HS8.out.res.setRow _) Try.underlying87 rfl sizeBlock) rfl ?_
        exact LongR.mk hq hr HS8.out (by rw [if_neg (by omega)]) (by rw [if_neg (by omega), List.append_nil]) (by rw [if_neg (by omega), HE2.out, List.append_nil]) _
end Go.Proofs.Ytoejmjhfecppcaa
