/- inflate: order; the head of a block of kind 2. -/
import Derived.Test.YtcjdeinmmokdgaaLimK
import Derived.Deep.WholeRow
namespace Go.Proofs.Ytcjdeinmmokdgaa
set_option linter.unusedSimpArgs false
set_option linter.unusedVariables false
open Go.RowKit
def ordC : Array Value := #[.int .i64 16, .int .i64 17, .int .i64 18, .int .i64 0, .int .i64 8, .int .i64 7, .int .i64 9, .int .i64 6, .int .i64 10, .int .i64 5, .int .i64 11, .int .i64 4, .int .i64 12, .int .i64 3, .int .i64 13, .int .i64 2, .int .i64 14, .int .i64 1, .int .i64 15]
set_option maxRecDepth 100000 in
theorem order_any (w : World) : Calls Try.prog 40 #[] w (fun e w' => e = .returned (.agg ordC) ∧ w' = w.alloc (.cells ordC 82)) := by
  go_enter Try.func40, Try.ntmps40
  go_upto_region 1 with fail
  refine wp_region_list ?_
  refine wpList_build rfl 82 _ rfl (by kernel_rfl) ?_
  refine wpList_store_row rfl 82 (.tmp 0) (.tmp 1) rfl w.heap.size ordC rfl (by kernel_rfl) 82 _ (heap_alloc_new _ _) (by kernel_rfl) rfl (by kernel_rfl) ?_
  rw [World.setRow_alloc_new]
  refine wpList_nil ?_
  rename_i Q' K hK
  refine hK _ _ ?_
  subst Q'
  refine wp_ret ?_
  refine bodyPost_ret (v := .agg ordC) ?_ rfl ⟨rfl, rfl⟩
  exact results_cell_row rfl _ _ w.heap.size 82 ordC (0, 0) (.array 19 3) rfl (heap_alloc_new _ _) (by kernel_rfl) rfl (by kernel_rfl)
def zero19 : Array Value := #[.int .i64 0, .int .i64 0, .int .i64 0, .int .i64 0, .int .i64 0, .int .i64 0, .int .i64 0, .int .i64 0, .int .i64 0, .int .i64 0, .int .i64 0, .int .i64 0, .int .i64 0, .int .i64 0, .int .i64 0, .int .i64 0, .int .i64 0, .int .i64 0, .int .i64 0]
theorem store_order (u : World) (n : Nat) (h : u.heap.size = n) : (storeCells ⟨n, 0, none⟩ ordC.toList).run Try.prog (u.alloc (.cells zero19 82)) = .ok () (u.alloc (.cells ordC 82)) := by
  subst h
  exact run_storeCells_new u 82 zero19 ordC (by kernel_rfl) rfl (by kernel_rfl)
theorem slice_order (u : World) (b m : Nat) (h : m + 4 ≤ 19) : (Instr.sliceAt 82 (.pointer (some ⟨b, 0, none⟩)) none (some (.int .i64 ((m : Int) + 4))) none).run Try.prog u = .ok (.slice (some ⟨b, 0, none⟩) (m + 4) 19) u := by
  have h1 : Try.prog.underlying 82 = some (.array (Try.prog.arrayLen 82) (Try.prog.elem 82)) := by kernel_rfl
  have h2 : Try.prog.arrayLen 82 = 19 := by kernel_rfl
  have h3 : Try.prog.elem 82 = 3 := by kernel_rfl
  obtain ⟨i0, hi, -, hz1, -⟩ := info_parts infoInt
  rw [run_sliceAt_array_h u _ _ h1 .i64 ((m : Int) + 4) (by omega) (by rw [h2]; omega), h3, h2]
  have e : ((m : Int) + 4).toNat = m + 4 := by omega
  simp [sizeOf, typeInfo, hi, hz1, Result.andThen, slicedAt, e, Addr.add]
namespace Uf
def tailM (a b c : Int) : M (Nat × Nat × List Int) :=
  if 286 < a + 257 ∨ 30 < b + 1 then failM 4 else bindM (headM (c + 4).toNat 0 (List.replicate 19 0)) fun l => bindM (newM l) fun _ => pureM ((a + 257).toNat, (b + 1).toNat, l)
/-- what is to be read behind so many numbers -/
def restM : Nat → Int → Int → Int → M (Nat × Nat × List Int)
  | 0, _, _, _ => aheadM
  | 1, a, _, _ => bindM (takeM 5) fun b => bindM (takeM 4) fun c => tailM a b c
  | 2, a, b, _ => bindM (takeM 4) fun c => tailM a b c
  | _, a, b, c => tailM a b c
theorem rest0 {x y z : Int} {bs : List Int} {q : Nat} (h : q + 5 ≤ 8 * bs.length) : restM 0 x y z bs q = restM 1 (Hf.takeVal bs q 5) y z bs (q + 5) := by
  show aheadM bs q = _
  unfold aheadM
  rw [bindM]
  unfold takeM
  rw [if_pos h]
  rfl
theorem rest1 {x y z : Int} {bs : List Int} {q : Nat} (h : q + 5 ≤ 8 * bs.length) : restM 1 x y z bs q = restM 2 x (Hf.takeVal bs q 5) z bs (q + 5) := by
  show bindM (takeM 5) _ bs q = _
  rw [bindM]
  unfold takeM
  rw [if_pos h]
  rfl
theorem rest2 {x y z : Int} {bs : List Int} {q : Nat} (h : q + 4 ≤ 8 * bs.length) : restM 2 x y z bs q = restM 3 x y (Hf.takeVal bs q 4) bs (q + 4) := by
  show bindM (takeM 4) _ bs q = _
  rw [bindM]
  unfold takeM
  rw [if_pos h]
  rfl
theorem rest0_bad {x y z : Int} {bs : List Int} {q : Nat} (h : ¬ q + 5 ≤ 8 * bs.length) : restM 0 x y z bs q = .error 2 := by
  show aheadM bs q = _
  unfold aheadM
  rw [bindM]
  unfold takeM
  rw [if_neg h]
theorem rest1_bad {x y z : Int} {bs : List Int} {q : Nat} (h : ¬ q + 5 ≤ 8 * bs.length) : restM 1 x y z bs q = .error 2 := by
  show bindM (takeM 5) _ bs q = _
  rw [bindM]
  unfold takeM
  rw [if_neg h]
theorem rest2_bad {x y z : Int} {bs : List Int} {q : Nat} (h : ¬ q + 4 ≤ 8 * bs.length) : restM 2 x y z bs q = .error 2 := by
  show bindM (takeM 4) _ bs q = _
  rw [bindM]
  unfold takeM
  rw [if_neg h]
end Uf
theorem ord_cell : ∀ k, k < 19 → ordC.toList[k]? = some (.int .i64 ((Uf.ord k : Nat) : Int)) ∧ Uf.ord k < 19 := by
  intro k hk
  have : k = 0 ∨ k = 1 ∨ k = 2 ∨ k = 3 ∨ k = 4 ∨ k = 5 ∨ k = 6 ∨ k = 7 ∨ k = 8 ∨ k = 9 ∨ k = 10 ∨ k = 11 ∨ k = 12 ∨ k = 13 ∨ k = 14 ∨ k = 15 ∨ k = 16 ∨ k = 17 ∨ k = 18 := by omega
  rcases this with rfl | rfl | rfl | rfl | rfl | rfl | rfl | rfl | rfl | rfl | rfl | rfl | rfl | rfl | rfl | rfl | rfl | rfl | rfl <;> exact ⟨rfl, by decide⟩
/-- what holds ahead of each length of lengths -/
def HdR (R : Except Int ((Nat × Nat × List Int) × Nat)) (r : Nat) (A : Option Addr) (c : Nat) (bs : List Int) (w : World) (gl go : Nat) (x y : Int) (n k : Nat) (wr : World) : Prop :=
  ∃ (q : Nat) (l : List Int), l.length = 19 ∧ Blk wr gl 3 (l.map (.int .i64)) ∧ Blk wr go 82 ordC.toList ∧ BitsAt wr r A c bs q ∧ w.grownBy wr (some r) ∧
    R = Uf.bindM (Uf.headM (n - k) k l) (fun l => Uf.bindM (Uf.newM l) fun _ => Uf.pureM ((x + 257).toNat, (y + 1).toNat, l)) bs q
/-- what holds ahead of each of the three numbers -/
def NumR (R : Except Int ((Nat × Nat × List Int) × Nat)) (r : Nat) (A : Option Addr) (c : Nat) (bs : List Int) (w : World) (j : Nat) (wr : World) : Prop :=
  ∃ (x y z : Int) (q : Nat), 0 ≤ x ∧ x < 32 ∧ 0 ≤ y ∧ y < 32 ∧ 0 ≤ z ∧ z < 16 ∧ Blk wr w.heap.size 81 [.int .i64 x, .int .i64 y, .int .i64 z] ∧ BitsAt wr r A c bs q ∧ w.grownBy wr (some r) ∧ R = Uf.restM j x y z bs q
theorem results_tmp4 {fn : Func} {t u v x : Tmp} (h : fn.results = #[.tmp t, .tmp u, .tmp v, .tmp x]) (tmps : Array Value) (P : Program) (w : World) :
    (results fn tmps).run P w = .ok (.tuple #[tmps.getD t undef, tmps.getD u undef, tmps.getD v undef, tmps.getD x undef]) w := by
  simp [results, h]
theorem new_store {w w2 : World} {r : Nat} {A : Option Addr} {c : Nat} {bs : List Int} {p G : Nat} (hrs : r < w.heap.size) (hA : ∀ ad, A = some ad → ad.block < w.heap.size) (hb : BitsAt w2 r A c bs p) (hg : w.grownBy w2 (some r)) (hG : w.heap.size ≤ G) (i : Nat) (v : Value) :
    BitsAt (w2.setCell ⟨G, i, none⟩ v) r A c bs p ∧ w.grownBy (w2.setCell ⟨G, i, none⟩ v) (some r) := by
  have h1 : w2.grownBy (w2.setCell ⟨G, i, none⟩ v) (some G) := grownBy_setCell (grownBy_refl _ _) i v
  refine ⟨hb.other h1 (by intro e; injection e with e; omega) (fun ad e e2 => by injection e2 with e2; have := hA ad e; omega), grown_new hg h1 (fun k e => by injection e with e; omega)⟩
set_option maxRecDepth 100000 in
set_option maxHeartbeats 16000000 in
theorem uahead_any (U r : Nat) (A : Option Addr) (c : Nat) (bs : List Int) (p : Nat) (v : Value) (out : List Int) (lim : Int) (B : Nat) (w : World) (h : Un w U r A c bs p v out lim B) : AhdC U r A c bs p v out lim B w := by
  unfold AhdC
  obtain ⟨R, HR⟩ : ∃ R, R = Uf.aheadM bs p := ⟨_, rfl⟩
  rw [← HR]
  have HRR := Lib.hid HR
  have HH := Lib.hid h
  have hrs : r < w.heap.size := Nat.lt_of_lt_of_le h.hr h.hB
  have HRS := Lib.hid hrs
  have HAS := Lib.hid (fun ad (e : A = some ad) => Nat.lt_of_lt_of_le (h.hA ad e).1 h.hB)
  clear h HR hrs
  have i0 : ∀ u : World, (Instr.index 81 (.agg #[.int .i64 5, .int .i64 5, .int .i64 4]) (.int .i64 0)).run Try.prog u = .ok (.int .i64 5) u := fun _ => by kernel_rfl
  have i1 : ∀ u : World, (Instr.index 81 (.agg #[.int .i64 5, .int .i64 5, .int .i64 4]) (.int .i64 1)).run Try.prog u = .ok (.int .i64 5) u := fun _ => by kernel_rfl
  have i2 : ∀ u : World, (Instr.index 81 (.agg #[.int .i64 5, .int .i64 5, .int .i64 4]) (.int .i64 2)).run Try.prog u = .ok (.int .i64 4) u := fun _ => by kernel_rfl
  go_enter Try.func36, Try.ntmps36
  go_wp2_with fail
  go_loopw [23] (fun i wr => ∃ j : Nat, j ≤ 3 ∧ i = .int .i64 (j : Nat) ∧ NumR R r A c bs w j wr) (fun i _ => 3 - (intOf i).toNat)
  case atStart => exact ⟨0, by omega, rfl, 0, 0, 0, p, by omega, by omega, by omega, by omega, by omega, by omega, Blk.new w _ _, HH.out.bits.below ((Below.refl _ w).alloc (Nat.le_refl _) _), grownBy_below ((Below.refl _ w).alloc (Nat.le_refl _) _), HRR.out⟩
  case round =>
    obtain ⟨j, hj, rfl, x, y, z, q, x0, x1, y0, y1, z0, z1, hbk, hbt, hgr, hR⟩ := hrel
    obtain rfl | rfl | rfl | rfl : j = 0 ∨ j = 1 ∨ j = 2 ∨ j = 3 := by omega
    · have HG := Lib.hid hgr
      have HB := Lib.hid hbk
      by_cases hq : q + 5 ≤ 8 * bs.length
      · rw [Uf.rest0 hq] at hR
        have hr := Hf.takeVal_range bs q 5
        have HT := Lib.hid (utake_good U r A c bs q 5 v out lim B wr (HH.out.step hgr hbt) (by omega) hq _ rfl)
        obtain ⟨X, hX⟩ : ∃ X, X = Hf.takeVal bs q 5 := ⟨_, rfl⟩
        rw [← hX] at hR HT hr
        have hr2 : X < 32 := hr.2
        have HR2 := Lib.hid hR
        clear hR hX hgr hbt hbk hq
        go_wp2_with (first
          | (go_at_call 14; refine HT.out.mono ?_; rintro e w2 ⟨rfl, hu2, hg2⟩; have HU2 := Lib.hid hu2; have HG2 := Lib.hid (HG.out.trans hg2); have hb2 := HB.out.grown hg2 (fun e => by injection e with e; have := HRS.out; omega); have ck := hb2.cell 0; have fk := hb2.frozen 0; have HB2 := Lib.hid hb2; clear hu2 hg2 hb2))
        obtain ⟨n1, n2⟩ := new_store HRS.out HAS.out HU2.out.bits HG2.out (Nat.le_refl _) 0 (.int .i64 X)
        refine ⟨⟨1, by omega, rfl, X, y, z, _, hr.1, by omega, y0, y1, z0, z1, HB2.out.set_ 0 _, n1, n2, HR2.out⟩, by simp [intOf]⟩
      · rw [Uf.rest0_bad hq] at hR
        have HT := Lib.hid (utake_bad U r A c bs q 5 v out lim B wr (HH.out.step hgr hbt) (by omega) (by omega))
        have HR2 := Lib.hid hR
        clear hR hgr hbt hbk hq
        go_wp2_with (first
          | (go_at_call 14; refine HT.out.mono ?_; rintro e w2 ⟨rfl, hg2⟩; have HG2 := Lib.hid (HG.out.trans hg2); clear hg2))
        try simp only [Exit.inBlock, Exit.then]
        refine bodyPost_ret (results_tmp4 rfl _ _ _) rfl ?_
        rw [HR2.out]
        exact ⟨HG2.out, _, _, _, rfl, by decide⟩
    · have HG := Lib.hid hgr
      have HB := Lib.hid hbk
      by_cases hq : q + 5 ≤ 8 * bs.length
      · rw [Uf.rest1 hq] at hR
        have hr := Hf.takeVal_range bs q 5
        have HT := Lib.hid (utake_good U r A c bs q 5 v out lim B wr (HH.out.step hgr hbt) (by omega) hq _ rfl)
        obtain ⟨X, hX⟩ : ∃ X, X = Hf.takeVal bs q 5 := ⟨_, rfl⟩
        rw [← hX] at hR HT hr
        have hr2 : X < 32 := hr.2
        have HR2 := Lib.hid hR
        clear hR hX hgr hbt hbk hq
        go_wp2_with (first
          | (go_at_call 14; refine HT.out.mono ?_; rintro e w2 ⟨rfl, hu2, hg2⟩; have HU2 := Lib.hid hu2; have HG2 := Lib.hid (HG.out.trans hg2); have hb2 := HB.out.grown hg2 (fun e => by injection e with e; have := HRS.out; omega); have ck := hb2.cell 1; have fk := hb2.frozen 1; have HB2 := Lib.hid hb2; clear hu2 hg2 hb2))
        obtain ⟨n1, n2⟩ := new_store HRS.out HAS.out HU2.out.bits HG2.out (Nat.le_refl _) 1 (.int .i64 X)
        refine ⟨⟨2, by omega, rfl, x, X, z, _, x0, x1, hr.1, by omega, z0, z1, HB2.out.set_ 1 _, n1, n2, HR2.out⟩, by simp [intOf]⟩
      · rw [Uf.rest1_bad hq] at hR
        have HT := Lib.hid (utake_bad U r A c bs q 5 v out lim B wr (HH.out.step hgr hbt) (by omega) (by omega))
        have HR2 := Lib.hid hR
        clear hR hgr hbt hbk hq
        go_wp2_with (first
          | (go_at_call 14; refine HT.out.mono ?_; rintro e w2 ⟨rfl, hg2⟩; have HG2 := Lib.hid (HG.out.trans hg2); clear hg2))
        try simp only [Exit.inBlock, Exit.then]
        refine bodyPost_ret (results_tmp4 rfl _ _ _) rfl ?_
        rw [HR2.out]
        exact ⟨HG2.out, _, _, _, rfl, by decide⟩
    · have HG := Lib.hid hgr
      have HB := Lib.hid hbk
      by_cases hq : q + 4 ≤ 8 * bs.length
      · rw [Uf.rest2 hq] at hR
        have hr := Hf.takeVal_range bs q 4
        have HT := Lib.hid (utake_good U r A c bs q 4 v out lim B wr (HH.out.step hgr hbt) (by omega) hq _ rfl)
        obtain ⟨X, hX⟩ : ∃ X, X = Hf.takeVal bs q 4 := ⟨_, rfl⟩
        rw [← hX] at hR HT hr
        have hr2 : X < 16 := hr.2
        have HR2 := Lib.hid hR
        clear hR hX hgr hbt hbk hq
        go_wp2_with (first
          | (go_at_call 14; refine HT.out.mono ?_; rintro e w2 ⟨rfl, hu2, hg2⟩; have HU2 := Lib.hid hu2; have HG2 := Lib.hid (HG.out.trans hg2); have hb2 := HB.out.grown hg2 (fun e => by injection e with e; have := HRS.out; omega); have ck := hb2.cell 2; have fk := hb2.frozen 2; have HB2 := Lib.hid hb2; clear hu2 hg2 hb2))
        obtain ⟨n1, n2⟩ := new_store HRS.out HAS.out HU2.out.bits HG2.out (Nat.le_refl _) 2 (.int .i64 X)
        refine ⟨⟨3, by omega, rfl, x, y, X, _, x0, x1, y0, y1, hr.1, by omega, HB2.out.set_ 2 _, n1, n2, HR2.out⟩, by simp [intOf]⟩
      · rw [Uf.rest2_bad hq] at hR
        have HT := Lib.hid (utake_bad U r A c bs q 4 v out lim B wr (HH.out.step hgr hbt) (by omega) (by omega))
        have HR2 := Lib.hid hR
        clear hR hgr hbt hbk hq
        go_wp2_with (first
          | (go_at_call 14; refine HT.out.mono ?_; rintro e w2 ⟨rfl, hg2⟩; have HG2 := Lib.hid (HG.out.trans hg2); clear hg2))
        try simp only [Exit.inBlock, Exit.then]
        refine bodyPost_ret (results_tmp4 rfl _ _ _) rfl ?_
        rw [HR2.out]
        exact ⟨HG2.out, _, _, _, rfl, by decide⟩
    · have c0 := hbk.cell 0
      have c1 := hbk.cell 1
      have c2 := hbk.cell 2
      have HG := Lib.hid hgr
      have HBT := Lib.hid hbt
      have hR : R = Uf.tailM x y z bs q := hR
      by_cases hbad : 286 < x + 257 ∨ 30 < y + 1
      · have hR : R = .error 4 := by rw [hR]; unfold Uf.tailM; rw [if_pos hbad]; rfl
        have HR2 := Lib.hid hR
        clear hR hgr hbt hbk
        rcases (show 286 < x + 257 ∨ (¬ 286 < x + 257 ∧ 30 < y + 1) by omega) with hb | ⟨hb, hb2⟩
        · go_wp2_with fail
          go_quiet (fail)
          go_wp2_with fail
          try simp only [Exit.inBlock, Exit.then]
          refine bodyPost_ret (results_tmp4 rfl _ _ _) rfl ?_
          rw [HR2.out]
          exact ⟨grownBy_drewN HG.out _, _, _, _, rfl, by decide⟩
        · go_wp2_with fail
          go_quiet (fail)
          go_wp2_with fail
          try simp only [Exit.inBlock, Exit.then]
          refine bodyPost_ret (results_tmp4 rfl _ _ _) rfl ?_
          rw [HR2.out]
          exact ⟨grownBy_drewN HG.out _, _, _, _, rfl, by decide⟩
      · obtain ⟨m, rfl⟩ := Int.eq_ofNat_of_zero_le z0
        have hb1 : ¬ 286 < x + 257 := fun e => hbad (.inl e)
        have hb2 : ¬ 30 < y + 1 := fun e => hbad (.inr e)
        have HRT := Lib.hid hR
        clear hR hgr hbt hbk hbad
        have h19 := mkInts 19 (by omega)
        have hsl := fun u b => slice_order u b m (by omega)
        simp [go_sem] at h19
        go_wp2_with fail
        go_quiet (fail)
        go_wp2_with (first
          | (go_at_call 40; refine (order_any _).mono ?_; rintro e w2 ⟨rfl, rfl⟩))
        have hst := store_order (((wr.drewN nq).alloc (.cells (zeros 19).toArray 3)).alloc (.cells ordC 82)) (wr.heap.size + 1 + 1) (by simp)
        unfold zero19 at hst
        rw [hst]
        clear hst
        simp only [Result.andThen]
        rw [Oper.upon_skip]
        go_wp2_with fail
        obtain ⟨wo, rfl⟩ : ∃ wo : World, wo = wr := ⟨_, rfl⟩
        have hsz : w.heap.size ≤ wo.heap.size := HG.out.size
        have HSZ := Lib.hid hsz
        have HBL : Below wo.heap.size wo ((((wo.drewN nq).alloc (Obj.cells (zeros 19).toArray 3)).alloc (Obj.cells ordC 82)).alloc (Obj.cells ordC 82)) := (((Below_drewN (Below.refl _ wo) nq).alloc (by simp) _).alloc (by simp) _).alloc (by simp; omega) _
        have HBL := Lib.hid HBL
        clear hsz
        go_loopw [60] (fun i wx => ∃ k : Nat, k ≤ m + 4 ∧ i = .int .i64 (k : Nat) ∧ HdR R r A c bs w wo.heap.size (wo.heap.size + 1 + 1) x y (m + 4) k wx) (fun i _ => m + 4 - (intOf i).toNat)
        case atStart =>
          refine ⟨0, by omega, rfl, q, List.replicate 19 0, rfl, ?_, ?_, HBT.out.below HBL.out, HG.out.trans (grownBy_below HBL.out), ?_⟩
          · show Blk _ _ _ (zeros 19)
            exact ((Blk.new (wo.drewN nq) _ (zeros 19)).alloc _).alloc _
          · have := Blk.new (((wo.drewN nq).alloc (Obj.cells (zeros 19).toArray 3)).alloc (Obj.cells ordC 82)) 82 ordC.toList
            simpa using this
          · rw [HRT.out]
            unfold Uf.tailM
            rw [if_neg (by omega), show ((m : Int) + 4).toNat = m + 4 - 0 by omega]
        case round =>
          obtain ⟨k, hk, rfl, q2, l, hl, hbl, hbo, hbt, hgr, hR⟩ := hrel
          have HGR := Lib.hid hgr
          have HBL2 := Lib.hid hbl
          have HBO := Lib.hid hbo
          have HL := Lib.hid hl
          by_cases hlt : k < m + 4
          · obtain ⟨t, ht⟩ : ∃ t, t = Uf.ord k := ⟨_, rfl⟩
            obtain ⟨oc, ht19⟩ := ord_cell k (by omega)
            rw [← ht] at oc ht19
            have oc2 : wr.cell? ⟨wo.heap.size + 1 + 1, k, none⟩ = some (.int .i64 (t : Int)) := by rw [hbo.cell, oc]
            have HT := Lib.hid ht
            by_cases hq : q2 + 3 ≤ 8 * bs.length
            · have HTK := Lib.hid (utake_good U r A c bs q2 3 v out lim B wr (HH.out.step hgr hbt) (by omega) hq _ rfl)
              obtain ⟨X, hX⟩ : ∃ X, X = Hf.takeVal bs q2 3 := ⟨_, rfl⟩
              have hR : R = Uf.bindM (Uf.headM (m + 4 - (k + 1)) (k + 1) (l.set t X)) (fun l => Uf.bindM (Uf.newM l) fun _ => Uf.pureM ((x + 257).toNat, (y + 1).toNat, l)) bs (q2 + 3) := by
                rw [hR, show m + 4 - k = (m + 4 - (k + 1)) + 1 by omega, Uf.headM, hX, ht]
                simp only [Uf.bindM, Uf.takeM]
                rw [if_pos hq]
              rw [← hX] at HTK
              have HR2 := Lib.hid hR
              obtain ⟨ly, hly⟩ : ∃ ly, (l.map (Value.int .i64))[t]? = some ly := ⟨_, List.getElem?_eq_getElem (by simp; omega)⟩
              have HLY := Lib.hid hly
              clear hR hX hgr hbl hbo hbt hq oc ht hl hly
              go_wp2_with (first
                | (go_at_call 14; refine HTK.out.mono ?_; rintro e w2 ⟨rfl, hu2, hg2⟩; have HU2 := Lib.hid hu2; have HG2 := Lib.hid (HGR.out.trans hg2); have hb2 := HBL2.out.grown hg2 (fun e => by injection e with e; have := HRS.out; have := HSZ.out; omega); have hb3 := HBO.out.grown hg2 (fun e => by injection e with e; have := HRS.out; have := HSZ.out; omega); have ck : w2.cell? ⟨wo.heap.size, t, none⟩ = some ly := (by rw [hb2.cell, HLY.out]); have fk := hb2.frozen t; have HB2 := Lib.hid hb2; have HB3 := Lib.hid hb3; clear hu2 hg2 hb2 hb3))
              go_roundw
              case rel =>
                obtain ⟨n1, n2⟩ := new_store HRS.out HAS.out HU2.out.bits HG2.out HSZ.out t (.int .i64 X)
                refine ⟨k + 1, by omega, by go_num, _, l.set t X, by rw [List.length_set]; exact HL.out, ?_, HB3.out.far (by show wo.heap.size + 1 + 1 ≠ wo.heap.size; omega) _, n1, n2, HR2.out⟩
                rw [List.map_set]
                exact HB2.out.set_ t _
              case measure => simp [intOf]; omega
            · have HTK := Lib.hid (utake_bad U r A c bs q2 3 v out lim B wr (HH.out.step hgr hbt) (by omega) (by omega))
              have hR : R = .error 2 := by
                rw [hR, show m + 4 - k = (m + 4 - (k + 1)) + 1 by omega, Uf.headM]
                simp only [Uf.bindM, Uf.takeM]
                rw [if_neg hq]
              have HR2 := Lib.hid hR
              clear hR hgr hbl hbo hbt hq oc ht hl
              go_wp2_with (first
                | (go_at_call 14; refine HTK.out.mono ?_; rintro e w2 ⟨rfl, hg2⟩; have HG2 := Lib.hid (HGR.out.trans hg2); clear hg2))
              try simp only [Exit.inBlock, Exit.then]
              refine bodyPost_ret (results_tmp4 rfl _ _ _) rfl ?_
              rw [HR2.out]
              exact ⟨HG2.out, _, _, _, rfl, by decide⟩
          · obtain rfl : k = m + 4 := by omega
            have hin : Ints wr (some ⟨wo.heap.size, 0, none⟩) .i64 l := ints_of_blk0 hbl
            rw [Nat.sub_self] at hR
            by_cases he : Hf.err l = 0
            · have hR : R = .ok (((x + 257).toNat, (y + 1).toNat, l), q2) := by
                rw [hR]; simp only [Uf.bindM, Uf.headM, Uf.pureM, Uf.newM]; rw [if_pos he]; rfl
              have HN := Lib.hid (new_ok _ 19 19 l wr hin hl he)
              have HBT2 := Lib.hid hbt
              have HE := Lib.hid he
              have HR2 := Lib.hid hR
              clear hR hgr hbl hbo hbt hl hin he
              go_wp2_with (first
                | (go_at_call 23; refine HN.out.mono ?_; rintro e w3 ⟨ga, rfl, ht3, -, hb3⟩; have HG3 := Lib.hid (HGR.out.trans (grownBy_below hb3)); have HT3 := Lib.hid ht3.read; have HB3 := Lib.hid (HBT2.out.below hb3); clear hb3 ht3))
              try simp only [Exit.inBlock, Exit.then]
              refine bodyPost_ret (results_tmp4 rfl _ _ _) rfl ?_
              rw [HR2.out]
              refine ⟨HG3.out, HB3.out, ga, ?_, HT3.out, HE.out⟩
              rw [show (((x + 257).toNat : Nat) : Int) = x + 257 by omega, show (((y + 1).toNat : Nat) : Int) = y + 1 by omega]
              rfl
            · have hR : R = .error (Hf.err l) := by
                rw [hR]; simp only [Uf.bindM, Uf.headM, Uf.pureM, Uf.newM]; rw [if_neg he]; rfl
              have HN := Lib.hid (new_bad _ 19 19 l wr hin hl (by omega) he)
              have HE := Lib.hid he
              have HR2 := Lib.hid hR
              clear hR hgr hbl hbo hbt hl hin he
              go_wp2_with (first
                | (go_at_call 23; refine HN.out.mono ?_; rintro e w3 ⟨rfl, hb3⟩; have HG3 := Lib.hid (HGR.out.trans (grownBy_below hb3)); clear hb3))
              try simp only [Exit.inBlock, Exit.then]
              refine bodyPost_ret (results_tmp4 rfl _ _ _) rfl ?_
              rw [HR2.out]
              exact ⟨HG3.out, _, _, _, rfl, HE.out⟩
end Go.Proofs.Ytcjdeinmmokdgaa
