/- Texts that are laid together: G07. -/
import Derived.Test.YtokidpajialgbaaQG05
import Derived.Test.YtokidpajialgbaaQSpF
import Derived.StillTailTactics
import Derived.Test.YtokidpajialgbaaQG04
namespace Go.Proofs.Ytokidpajialgbaa
set_option linter.unusedSimpArgs false
set_option linter.unusedVariables false
open Go.RowKit
theorem results_tmp_cell {P : Program} {fn : Func} {p q : Tmp} {ty : TypeId} (h : fn.results = #[.tmp q, .cell p ty]) (tmps : Array Value) (w : World) (g : Nat) (t : TypeId) (cs : Array Value) (fr : Nat × Nat) (d : TypeDesc)
    (hp : tmps.getD p undef = .pointer (some ⟨g, 0, none⟩)) (hg : w.heap[g]? = some (.cells cs t fr))
    (hu : P.underlying ty = some d) (hd : (match d with | .struct _ | .array _ _ => true | _ => false) = true) (hi : (P.info? ty).map (·.size) = some cs.size) :
    (results fn tmps).run P w = .ok (.tuple #[tmps.getD q undef, .agg cs]) w := by
  have hp' : tmps[p]?.getD undef = .pointer (some ⟨g, 0, none⟩) := by simpa using hp
  simp [results, h, hp', asAddr, run_loadVar_row w g t ty cs fr d hg hu hd hi]
/-- a row is loaded, in the still part of a region -/
theorem still_loadAt {P : Program} {o : Oper} {a : Act} {w : World} {K : Act → Prop} {b : Bool} {E : Prop} (hb : b = true) (ty : TypeId) (x : Operand) (ho : o.op = .load ty x) (g off : Nat) (hx : a.eval x = .pointer (some ⟨g, off, none⟩)) (cs : List Value) (d : TypeDesc) (hS : w.rangeAt g off cs)
    (hu : P.underlying ty = some d) (hd : d.isRow = true) (hi : (P.info? ty).map (·.size) = some cs.length) (h : K (a.put o.dst (.agg cs.toArray))) : if b = true then o.still P a w K else E := by
  rw [if_pos hb]
  unfold Oper.still execOp
  simp only [ho, hx, Instr.loadAt, Instr.sureAddr, Sem.run_bind, Sem.run_pure, Result.andThen_ok, run_loadVar_mid w g off ty cs d hS hu hd hi]
  rw [Oper.stillUpon_value]
  exact h
/-- the three blocks that the function lays -/
structure Laid3 (w : World) (T Z : List Value) (wa wb wd : World) (b1 b3 b4 : Nat) : Prop where
  e1 : w.heap.size = b1
  ea : w.alloc (.cells T.toArray 28) = wa
  e3 : wa.heap.size = b3
  eb : wa.alloc (.cells Z.toArray 28) = wb
  e4 : wb.heap.size = b4
  ed : wb.alloc (.cells T.toArray 28) = wd
  k1 : Blk wd b1 28 T
  k3 : Blk wd b3 28 Z
  k4 : Blk wd b4 28 T
  kb : Blk wb b1 28 T
  n13 : b1 < b3
  n34 : b3 < b4
  n4 : b4 < wd.heap.size
  bel : Below w.heap.size w wd
theorem laid3 (w : World) (T Z : List Value) : ∃ wa wb wd b1 b3 b4, Laid3 w T Z wa wb wd b1 b3 b4 := by
  refine ⟨_, _, _, _, _, _, ⟨rfl, rfl, rfl, rfl, rfl, rfl, ?_, ?_, ?_, ?_, by simp, by simp, by simp, (((Below.refl _ w).alloc (Nat.le_refl _) _).alloc (by simp) _).alloc (by simp; omega) _⟩⟩
  · exact ((Blk.new w _ T).alloc _).alloc _
  · exact (Blk.new _ _ Z).alloc _
  · exact Blk.new _ _ T
  · exact (Blk.new w _ T).alloc _
/-- a block's parts may be; what else it has -/
def SndR (ok : Bool) (T' : List Value) (w : World) (e : Ending) (w' : World) : Prop := e = .returned (.tuple #[.bool ok, .agg T'.toArray]) ∧ Below w.heap.size w w'
set_option maxRecDepth 100000 in
set_option maxHeartbeats 8000000 in
theorem sp_other_36 (n1 n2 n3 n4 n5 n6 n7 n8 n9 n10 n11 : Int) (a12 a13 a14 a15 a16 a17 : Option Addr) (l12 l13 l14 l15 l16 l17 c12 c13 c14 c15 c16 c17 : Nat) (w : World) :
    Calls Try.prog 40 #[.agg #[.int .i64 36, .int .i64 n1, .int .i64 n2, .int .i64 n3, .int .i64 n4, .int .i64 n5, .int .i64 n6, .int .i64 n7, .int .i64 n8, .int .i64 n9, .int .i64 n10, .int .i64 n11, .slice a12 l12 c12, .slice a13 l13 c13, .slice a14 l14 c14, .slice a15 l15 c15, .slice a16 l16 c16, .slice a17 l17 c17]] w
      (SndR (fitS 65535 [n8]) [.int .i64 36, .int .i64 n1, .int .i64 n2, .int .i64 n3, .int .i64 n4, .int .i64 n5, .int .i64 n6, .int .i64 n7, .int .i64 0, .int .i64 n9, .int .i64 n10, .int .i64 n11, .slice a12 l12 c12, .slice a13 l13 c13, .slice a14 l14 c14, .slice a15 l15 c15, .slice a16 l16 c16, .slice a17 l17 c17] w) := by
  obtain ⟨T, hT⟩ : ∃ T : List Value, T = [.int .i64 36, .int .i64 n1, .int .i64 n2, .int .i64 n3, .int .i64 n4, .int .i64 n5, .int .i64 n6, .int .i64 n7, .int .i64 n8, .int .i64 n9, .int .i64 n10, .int .i64 n11, .slice a12 l12 c12, .slice a13 l13 c13, .slice a14 l14 c14, .slice a15 l15 c15, .slice a16 l16 c16, .slice a17 l17 c17] := ⟨_, rfl⟩
  have hA : (#[.int .i64 36, .int .i64 n1, .int .i64 n2, .int .i64 n3, .int .i64 n4, .int .i64 n5, .int .i64 n6, .int .i64 n7, .int .i64 n8, .int .i64 n9, .int .i64 n10, .int .i64 n11, .slice a12 l12 c12, .slice a13 l13 c13, .slice a14 l14 c14, .slice a15 l15 c15, .slice a16 l16 c16, .slice a17 l17 c17] : Array Value) = T.toArray := by rw [hT]
  obtain ⟨Z, hZ⟩ : ∃ Z : List Value, Z = [.int .i64 0, .int .i64 0, .int .i64 0, .int .i64 0, .int .i64 0, .int .i64 0, .int .i64 0, .int .i64 0, .int .i64 0, .int .i64 0, .int .i64 0, .int .i64 0, .slice none 0 0, .slice none 0 0, .slice none 0 0, .slice none 0 0, .slice none 0 0, .slice none 0 0] := ⟨_, rfl⟩
  obtain ⟨wa, wb, wd, b1, b3, b4, H⟩ := laid3 w T Z
  have HH := Lib.hid H
  have hlen : T.length = 18 := by rw [hT]; rfl
  have HI : Hid ((Try.prog.info? 28).map (·.size) = some T.length) := by show _ = _; rw [hlen]; exact infoBlkS
  have HO : Hid (T.toArray.all (·.oneCell') = true) := by show _ = _; rw [hT]; simp; repeat' (first | rfl | constructor)
  have HZ : Hid ((Try.prog.info? 28).bind (·.zero) = some (.agg Z.toArray)) := by show _ = _; rw [hZ]; kernel_rfl
  have HZL : Hid (Z.length = T.length) := by show _ = _; rw [hZ, hT]; rfl
  have x0 : wd.cell? ⟨b1, 0, none⟩ = some (.int .i64 36) := by have := H.k1; rw [hT] at this; exact this.cell 0
  have x8 : wd.cell? ⟨b1, 8, none⟩ = some (.int .i64 n8) := by have := H.k1; rw [hT] at this; exact this.cell 8
  have f4 : ∀ o i, (wd.alloc o).frozen? ⟨b4, i, none⟩ = false := fun o i => (H.k4.alloc o).frozen i
  have g48 : ∀ o, (wd.alloc o).cell? ⟨b4, 8, none⟩ = some (.int .i64 n8) := fun o => by have := H.k4; rw [hT] at this; exact (this.alloc o).cell 8
  have HT := Lib.hid hT
  rw [hA]
  clear hT hA H hlen hZ
  go_enter Try.func40, Try.ntmps40
  go_upto_region 2 with (first
    | (refine Great.wpList_boxTo rfl 28 (.tmp 0) rfl (some 1) rfl b1 HH.out.e1 T.toArray rfl ?_; rw [HH.out.ea])
    | (refine wpList_allocToS rfl 28 rfl (some 3) rfl b3 HH.out.e3 (.agg Z.toArray) HZ.out ?_; rw [show (Value.agg Z.toArray).cells = Z.toArray from rfl, HH.out.eb])
    | (refine wpList_load_mid rfl 28 (.tmp 1) rfl b1 0 rfl T _ (blkR HH.out.kb) Try.underlying28 rfl HI.out ?_)
    | (refine wpList_allocToS rfl 28 rfl (some 4) rfl b4 HH.out.e4 (.agg Z.toArray) HZ.out ?_; rw [show (Value.agg Z.toArray).cells = Z.toArray from rfl])
    | (refine wpList_store_rowTo rfl 28 (.tmp 4) (.tmp 6) rfl rfl b4 T.toArray rfl rfl 28 _ (by rw [← HH.out.e4]; exact heap_alloc_new wb _) (by rw [HI.out]; simp) (by simp [HZL.out]) HO.out ?_; rw [← HH.out.e4, World.setRow_alloc_new, HH.out.e4, HH.out.ed]))
  obtain ⟨q, hq⟩ : ∃ q, fitS 65535 [n8] = q := ⟨_, rfl⟩
  have HQ := Lib.hid hq
  clear hq
  go_upto_region 45 with (first
    | (go_at_call 18; refine (fit_newB 65535 [n8] _ _ rfl 1 rfl (by decide) HQ.out).mono ?_; rintro e w2 ⟨rfl, rfl⟩))
  obtain ⟨T2, hT2⟩ : ∃ T2 : List Value, T2 = T.set 8 (.int .i64 0) := ⟨_, rfl⟩
  obtain ⟨u, hu⟩ : ∃ u, u = (wd.alloc (.cells #[.int .i64 n8] 3)).setCell ⟨b4, 8, none⟩ (.int .i64 0) := ⟨_, rfl⟩
  rw [← hu]
  have hk4 : Blk u b4 28 T2 := by rw [hu, hT2]; exact (HH.out.k4.alloc _).set_ 8 _
  have hk3 : Blk u b3 28 Z := by rw [hu]; exact (set_heap (by have := HH.out.n34; have := HH.out.n4; simp; omega) (by have := HH.out.n34; omega)).trans (HH.out.k3.alloc _)
  have hb4 : w.heap.size ≤ b4 := by have := HH.out.n34; have := HH.out.n13; have := HH.out.e1; omega
  have hbu : Below w.heap.size w u := by rw [hu]; exact (HH.out.bel.alloc HH.out.bel.size _).setCell hb4 _
  have hT2' : T2 = [.int .i64 36, .int .i64 n1, .int .i64 n2, .int .i64 n3, .int .i64 n4, .int .i64 n5, .int .i64 n6, .int .i64 n7, .int .i64 0, .int .i64 n9, .int .i64 n10, .int .i64 n11, .slice a12 l12 c12, .slice a13 l13 c13, .slice a14 l14 c14, .slice a15 l15 c15, .slice a16 l16 c16, .slice a17 l17 c17] := by rw [hT2, HT.out]; rfl
  have HI2 : Hid ((Try.prog.info? 28).map (·.size) = some T2.length) := by show _ = _; rw [hT2', HI.out, HT.out]; rfl
  have HO2 : Hid (T2.toArray.all (·.oneCell') = true) := by show _ = _; rw [hT2']; simp; repeat' (first | rfl | constructor)
  have HZ2 : Hid (Z.length = T2.length) := by show _ = _; rw [HZL.out, hT2', HT.out]; rfl
  have HK4 := Lib.hid hk4; have HK3 := Lib.hid hk3; have HBU := Lib.hid hbu; have HT2 := Lib.hid hT2'
  have hb3 : w.heap.size ≤ b3 := by have := HH.out.n13; have := HH.out.e1; omega
  have HB3 := Lib.hid hb3
  clear hT2 hu hk4 hk3 hbu hT2' x0 x8 f4 g48 hb4 hb3
  refine wp_region_still_tail 3 (by kernel_rfl) (by kernel_rfl) ?_
  simp only [List.take_succ_cons, List.take_zero, List.drop_succ_cons, List.drop_zero]
  still_step
  refine wpStill_step (fun K hK => ?_)
  refine still_loadAt (by rfl) 28 (.tmp 4) rfl b4 0 rfl T2 _ (blkR HK4.out) Try.underlying28 rfl HI2.out (hK _ ?_)
  clear hK K
  still_step
  refine wpStill_nil ?_
  change wpList _ _ _ _ _ u.drew
  refine wpList_store_rowTo rfl 28 (.tmp 3) (.tmp 159) rfl rfl b3 T2.toArray rfl rfl 28 Z.toArray HK3.out (by rw [HI2.out]; simp) (by simp [HZ2.out]) HO2.out ?_
  go_wp2_with fail
  have hfin : (u.drew.setRow b3 T2.toArray).heap[b3]? = some (.cells T2.toArray 28 (0, 0)) := setRow_heap u.drew _ _ _ _ _ HK3.out
  refine bodyPost_ret (results_tmp_cell rfl _ (u.drew.setRow b3 T2.toArray) b3 28 T2.toArray (0, 0) _ rfl hfin Try.underlying28 rfl (by rw [HI2.out]; simp)) rfl ⟨?_, ?_⟩
  · rw [HQ.out, HT2.out]; rfl
  · exact below_setRow HBU.out.drew HB3.out _
end Go.Proofs.Ytokidpajialgbaa
namespace Go.Proofs.Ytokidpajialgbaa
set_option linter.unusedSimpArgs false
set_option linter.unusedVariables false
open Go.RowKit
def itemL (K : Nat) (x : Int × List Int) : List Int := leB x.1 K ++ (leB (x.2.length : Int) 1 ++ x.2)
def itemsT (K : Nat) (l : List (Int × List Int)) : List Int := l.flatMap (itemL K)
def itemsL (K : Nat) (l : List (Int × List Int)) : List Int := leB (l.length : Int) 1 ++ itemsT K l
def itemsW (l : List (Int × List Int)) : Nat := (l.map fun x => 8 + x.2.length).sum
theorem itemL_len (K : Nat) (hK : K ≤ 4) (x : Int × List Int) : (itemL K x).length ≤ 8 + x.2.length := by simp [itemL, leB_len]; omega
theorem itemsT_len (K : Nat) (hK : K ≤ 4) (l : List (Int × List Int)) : (itemsT K l).length ≤ itemsW l := by
  induction l with
  | nil => simp [itemsT, itemsW]
  | cons x t ih => simp only [itemsT, itemsW, List.flatMap_cons, List.length_append, List.map_cons, List.sum_cons] at ih ⊢; have := itemL_len K hK x; omega
theorem itemsT_step {K : Nat} {l : List (Int × List Int)} {k : Nat} {x : Int × List Int} (hx : l[k]? = some x) : itemsT K (l.take (k + 1)) = itemsT K (l.take k) ++ itemL K x := by
  rw [List.take_add_one, hx]; unfold itemsT; simp [List.flatMap_append]
theorem itemsW_step {l : List (Int × List Int)} {k : Nat} {x : Int × List Int} (hx : l[k]? = some x) : itemsW (l.take k) + (8 + x.2.length) ≤ itemsW l := by
  have h : itemsW l = itemsW (l.take k) + itemsW (l.drop k) := by unfold itemsW; rw [← List.sum_append, ← List.map_append, List.take_append_drop]
  have h2 : l.drop k = x :: l.drop (k + 1) := by
    have := List.drop_eq_getElem?_toList_append (l := l) (i := k)
    rw [hx] at this; simpa using this
  rw [h, h2]
  simp only [itemsW, List.map_cons, List.sum_cons]; omega
theorem outS_new (w : World) : OutS (w.alloc (.cells #[.slice none 0 0] 60)) w.heap.size w.heap.size (.slice none 0 0) [] :=
  ⟨Blk.new w _ [.slice none 0 0], RowM.own (World.ownsRow_nil _ _ _ _), by simp [Value.ownBlock]⟩
theorem tape0_new (w : World) (o : Obj) : Tape0 w (w.alloc o) w.heap.size w.heap.size := ⟨(Below.refl _ w).alloc (Nat.le_refl _) o, Nat.le_refl _, Nat.le_refl _, by simp⟩
theorem off_own {w w' : World} {P base : Nat} {v x : Value} {L M : List Int} {A : Option Addr} {n c m : Nat} {l : List Int} (ho : OutS w P base v L) (hx : RowM w' w.heap.size x m (M.map (.int .u8))) (e : x = .slice A n c) : l ≠ [] → ∀ ad, A = some ad → ad.block ≠ P ∧ v.ownBlock ≠ some ad.block := by
  intro _ ad e2
  subst e; subst e2
  have h := (hx.lt ad.block (by rfl)).1
  have := ho.blk.lt
  exact ⟨by omega, fun e3 => by have := (ho.row.lt _ e3).2; omega⟩
set_option maxRecDepth 100000 in
set_option maxHeartbeats 4000000 in
theorem items_w (K P base : Nat) (vl : Value) (l : List (Int × List Int)) (L : List Int) (w0 w : World) (v : Value) (hT : Tape0 w0 w base P) (hv : PairsV w0 .u8 vl l) (ho : OutS w P base v L) (hK : 1 ≤ K ∧ K ≤ 4) (hL : L.length + (8 + itemsW l) ≤ 100000000) :
    Calls Try.prog 56 #[.pointer (some ⟨P, 0, none⟩), vl, .int .i64 K] w (WrP P base (L ++ (leB ((itemsL K l).length : Int) 2 ++ itemsL K l)) w v) := by
  obtain ⟨A, c, rfl, h1, h2, h3⟩ := hv.below hT.bel
  have HL := Lib.hid h3
  obtain ⟨n, hn⟩ : ∃ n, n = l.length := ⟨_, rfl⟩
  rw [← hn] at h1 ⊢
  have HN := Lib.hid hn
  have m0 : maxLen = 9223372036854775807 := rfl
  have hn2 : n ≤ 9223372036854775807 := by omega
  have hnw : n ≤ itemsW l := by
    rw [hn]; clear hn h1 h3 HL hL ho hv HN
    induction l with
    | nil => simp [itemsW]
    | cons x t ih => simp only [itemsW, List.map_cons, List.sum_cons, List.length_cons] at ih ⊢; omega
  have HO := Lib.hid ho; have HT := Lib.hid hT
  have HI : Hid ((Try.prog.info? 46).map (·.size) = some 2) := by show _ = _; kernel_rfl
  have HZ : Hid ((Try.prog.info? 60).bind (·.zero) = some (.agg #[.slice none 0 0])) := by show _ = _; kernel_rfl
  obtain ⟨p, hp⟩ : ∃ p, p = w.heap.size := ⟨_, rfl⟩
  obtain ⟨wa, hwa⟩ : ∃ wa, wa = w.alloc (.cells #[.slice none 0 0] 60) := ⟨_, rfl⟩
  have hS0 : OutS wa p p (.slice none 0 0) [] := by rw [hwa, hp]; exact outS_new w
  have hT0 : Tape0 w wa p p := by rw [hwa, hp]; exact tape0_new w _
  have HNU := Lib.hid (num_new 1 p p 1 [(n : Int)] [] wa _ _ rfl hS0 rfl (by intro x hx; simp at hx; subst hx; exact wfLen (by omega)) hT0.h3 (by decide) (by simp))
  have HS0 := Lib.hid hS0; have HT0 := Lib.hid hT0; have HP := Lib.hid hp; have HWA := Lib.hid hwa
  have hPp : P < p := by rw [hp]; exact ho.blk.lt
  clear h1 h2 h3 hn m0 ho hT hS0 hT0 hp hwa hv
  go_enter Try.func56, Try.ntmps56
  go_upto_region 0 with fail
  refine wp_region_list ?_
  refine wpList_allocToS rfl 60 rfl (some 6) rfl p HP.out.symm (.agg #[.slice none 0 0]) HZ.out ?_
  rw [show (Value.agg #[.slice none 0 0]).cells = #[.slice none 0 0] from rfl, ← HWA.out]
  go_wp2_with (first
    | (go_at_call 25
       refine HNU.out.mono ?_
       rintro e w1 ⟨rfl, v1, hs1, hk1⟩
       have HS1 := Lib.hid hs1; have HK1 := Lib.hid hk1
       clear hs1 hk1))
  go_loopw [15] (fun idx wr => ∃ (k : Nat), idx = .int .i64 k ∧ k ≤ n ∧ Hid (∃ v', OutS wr p p v' (leB (n : Int) 1 ++ itemsT K (l.take k)) ∧ OutK p wa (.slice none 0 0) wr v')) (fun idx _ => n - (intOf idx).toNat)
  case atStart => exact ⟨0, rfl, Nat.zero_le _, Lib.hid ⟨v1, by simpa [itemsT, leL] using HS1.out, HK1.out⟩⟩
  case round =>
    obtain ⟨k, rfl, hk, HOW⟩ := hrel
    by_cases hlt : k < n
    · have hlt2 : (k : Int) < n := by omega
      obtain ⟨vv, hS, hKo⟩ := HOW.out
      have hTr := HT0.out.step HS0.out hKo
      obtain ⟨⟨x1, x2⟩, hB⟩ : ∃ x, l[k]? = some x := ⟨_, List.getElem?_eq_getElem (by rw [← HN.out]; exact hlt)⟩
      obtain ⟨hw1, g, o, rv, rfl, hr, ht⟩ := HL.out k _ hB
      have hr1 := rangeBelow hr hTr.bel
      obtain ⟨A2, c2, hrv, hi2, hc1, hc2, hw2⟩ := ht
      simp only at hr1 hrv hi2 hc1 hw2 hw1
      obtain ⟨n2, hn2⟩ : ∃ n2, n2 = x2.length := ⟨_, rfl⟩
      have hst := itemsW_step hB
      have hlen := itemsT_len K hK.2 (l.take k)
      simp only at hst
      rw [← hn2] at hrv hst
      subst hrv
      have HR := Lib.hid hr1; have HX := Lib.hid hB; have HN2 := Lib.hid hn2; have HI2 := Lib.hid hi2; have HW1 := Lib.hid hw1
      have HLN := Lib.hid (show (leB (n : Int) 1 ++ itemsT K (l.take k)).length + (8 + n2) ≤ 100000000 by rw [List.length_append, leB_len]; omega)
      have v2 : IntKind.i64.wrap ((k : Int) + 1) = ((k + 1 : Nat) : Int) := by rw [IntKind.wrap_i64]; omega
      have HS := Lib.hid hS; have HKK := Lib.hid hKo; have HTR := Lib.hid hTr
      clear hr hr1 hB hn2 hi2 hc1 hc2 hw2 hw1 hst hlen hS hKo hTr
      go_upto_region 5 with (first
        | (refine wpList_load_mid rfl 46 (.tmp 17) rfl g (o + k * 2) rfl [.int .i64 x1, .slice A2 n2 c2] _ HR.out Try.underlying46 rfl HI.out ?_))
      obtain ⟨wb, hwb⟩ : ∃ wb, wb = wr.alloc (.cells #[.int .i64 x1, .slice A2 n2 c2] 46) := ⟨_, rfl⟩
      obtain ⟨b, hb⟩ : ∃ b, b = wr.heap.size := ⟨_, rfl⟩
      have hbk : Blk wb b 46 [.int .i64 x1, .slice A2 n2 c2] := by rw [hwb, hb]; exact Blk.new wr _ _
      have HSb : Hid (OutS wb p p vv (leB (n : Int) 1 ++ itemsT K (l.take k))) := Lib.hid (by rw [hwb]; exact HS.out.alloc _)
      have HKb : Hid (OutK p wr vv wb vv) := Lib.hid (by rw [hwb]; exact OutK.alloc wr vv _)
      have HTb : Hid (Tape0 w wb p p) := Lib.hid (by rw [hwb]; exact HTR.out.alloc _)
      have hbP : b ≠ p := by have := HS.out.blk.lt; omega
      have hbo : vv.ownBlock ≠ some b := fun e => by have := (HS.out.row.lt b e).2; omega
      rw [← hwb, ← hb]
      have x0 : wb.cell? ⟨b, 0, none⟩ = some (.int .i64 x1) := hbk.cell 0
      have HNV := Lib.hid (num_new K p p 1 [x1] _ wb vv _ rfl HSb.out rfl (by intro x hx; simp at hx; subst hx; exact HW1.out) HTb.out.h3 hK (by have := HLN.out; omega))
      have HBK := Lib.hid hbk; have HBP := Lib.hid hbP; have HBO := Lib.hid hbo
      clear hwb hb hbk hbP hbo
      go_wp2_with (first
        | (go_at_call 25
           refine HNV.out.mono ?_
           rintro e w2 ⟨rfl, v2_, hs2, hk2⟩
           have y1 : w2.cell? ⟨b, 1, none⟩ = some (.slice A2 n2 c2) := (hk2.blk HBK.out HBP.out HBO.out).cell 1
           have hT2 := HTb.out.step HSb.out hk2
           have HN3 := Lib.hid (data_w 1 p p n2 c2 A2 x2 _ w2 v2_ hs2 (Cells.below HI2.out hT2.bel) HN2.out.symm (hT2.off hs2 HI2.out) hT2.h3 (by decide) (by have h9 := HLN.out; have h8 := hK.2; simp only [List.length_append, leL_len, List.length_cons, List.length_nil] at h9 ⊢; omega))
           have HK2 := Lib.hid hk2
           clear hs2 hk2 hT2)
        | (go_at_call 54
           refine HN3.out.mono ?_
           rintro e w3 ⟨rfl, v3_, hs3, hk3⟩
           have HS3 := Lib.hid hs3; have HK3 := Lib.hid hk3
           clear hs3 hk3))
      go_roundw
      case rel =>
        refine ⟨k + 1, by go_num, by omega, Lib.hid ⟨v3_, ?_, HKK.out.trans (HKb.out.trans (HK2.out.trans HK3.out))⟩⟩
        have h := HS3.out
        rw [itemsT_step HX.out]
        simpa [itemL, leL, List.append_assoc, HN2.out] using h
      case measure => simp [intOf]; omega
    · obtain rfl : k = n := by omega
      have hlt2 : ¬ (k : Int) < k := by omega
      obtain ⟨wo, rfl⟩ : ∃ wo : World, wo = wr := ⟨_, rfl⟩
      obtain ⟨vv, hS, hKo⟩ := HOW.out
      rw [List.take_of_length_le (by rw [HN.out]; exact Nat.le_refl _)] at hS
      have hTr := HT0.out.step HS0.out hKo
      have hSo := HO.out.fresh hTr.bel
      have hlen := itemsT_len K hK.2 l
      obtain ⟨T, hTT⟩ : ∃ T, T = itemsL K l := ⟨_, rfl⟩
      have e1 : leB (k : Int) 1 ++ itemsT K l = T := by rw [hTT]; unfold itemsL; rw [HN.out]
      have hTl : T.length ≤ 1 + itemsW l := by rw [← e1, List.length_append, leB_len]; omega
      rw [← hTT]
      rw [e1] at hS
      obtain ⟨A3, c3, e3, hm3, -, hi3⟩ := hS.row.ints
      have hof := off_own (l := T) HO.out (HP.out ▸ hS.row) e3
      have hcp : wo.cell? ⟨p, 0, none⟩ = some vv := hS.blk.cell 0
      subst e3
      have HD := Lib.hid (data_w 2 P base T.length c3 A3 T L wo v hSo hi3 rfl hof (Nat.le_trans HT.out.h3 hTr.bel.size) (by decide) (by omega))
      have HTR := Lib.hid hTr
      have HTT := Lib.hid hTT
      generalize htl : T.length = tl at hcp HD
      have HTL := Lib.hid htl
      clear htl hS hSo hi3 hof hTr hlen e1 hTT hTl
      go_wp2_with (first
        | (go_at_call 54
           refine HD.out.mono ?_
           rintro e w4 ⟨rfl, v4, hs4, hk4⟩
           have HS4 := Lib.hid hs4; have HK4 := Lib.hid hk4
           clear hs4 hk4))
      exact bodyPost_end (results_none rfl _ _ _) rfl ⟨rfl, v4, by rw [← HTT.out, HTL.out]; exact HS4.out, (OutK.fresh HTR.out.bel).trans HK4.out⟩
end Go.Proofs.Ytokidpajialgbaa
