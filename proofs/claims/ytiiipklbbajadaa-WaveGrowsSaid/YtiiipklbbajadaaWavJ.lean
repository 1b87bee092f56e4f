/- wave.New of any block but 16, over what fill does. -/
import Derived.Test.YtiiipklbbajadaaWavG
import Derived.Great.Ranges
import Derived.Deep.DeepCutAuto
namespace Go.Proofs.Ytiiipklbbajadaa
set_option linter.unusedSimpArgs false
set_option linter.unusedVariables false
open Go.RowKit
theorem infoBlkN : (Try.prog.info? 30).map (·.size) = some 18 := by kernel_rfl
theorem infoWaveN : (Try.prog.info? 48).map (·.size) = some 20 := by kernel_rfl
def nil2 : List Value := [.slice none 0 0, .slice none 0 0]
set_option maxRecDepth 100000 in
theorem built_wave (cs : List Value) (h : cs.length = 18) : Try.prog.built 48 [(0, .agg cs.toArray)] = some (cs ++ nil2).toArray :=
  match cs, h with
  | [c0, c1, c2, c3, c4, c5, c6, c7, c8, c9, c10, c11, c12, c13, c14, c15, c16, c17], _ => by kernel_rfl
/-- the world in which fill begins -/
def NewW (u : World) (cs : List Value) : World := (u.alloc (.cells cs.toArray 30)).alloc (.cells (cs ++ nil2).toArray 48)
/-- what New hands back, by what fill answers -/
def newV (g : Nat) (er co pa : Int) : Value := if er ≠ 0 then .tuple #[.pointer none, .int .i64 er] else if co < 0 ∨ pa < 0 then .tuple #[.pointer none, .int .i64 5] else .tuple #[.pointer (some ⟨g, 0, none⟩), .int .i64 0]
def FillP (g : Nat) (er : Int) (Post : World → Prop) (u : World) (e : Ending) (u' : World) : Prop := e = .returned (.int .i64 er) ∧ Post u' ∧ Below g u u'
def NewP (er co pa : Int) (Post : World → Prop) (u : World) (e : Ending) (u' : World) : Prop := e = .returned (newV (u.heap.size + 1) er co pa) ∧ Post u' ∧ Below u.heap.size u u'
set_option maxRecDepth 100000 in
set_option maxHeartbeats 2000000 in
theorem wv_new (cs : List Value) (hcs : cs.length = 18) (id co pa er : Int) (h0 : cs[0]? = some (.int .i64 id)) (h8 : cs[8]? = some (.int .i64 co)) (h1 : cs[1]? = some (.int .i64 pa)) (hid : (id == 16) = false) (u : World) (Post : World → Prop)
    (HF : Calls Try.prog 14 #[.pointer (some ⟨u.heap.size + 1, 0, none⟩)] (NewW u cs) (FillP (u.heap.size + 1) er Post (NewW u cs))) :
    Calls Try.prog 7 #[.agg cs.toArray] u (NewP er co pa Post u) := by
  have HF := Lib.hid HF
  have HI1 : Hid ((Try.prog.info? 30).map (·.size) = some cs.toArray.size) := by show _ = _; rw [infoBlkN]; simp [hcs]
  have HB1 := Lib.hid (Blk.new u 30 cs)
  have HBW : Hid (Below u.heap.size u (NewW u cs)) := ((Below.refl _ u).alloc (Nat.le_refl _) _).alloc (by simp) _
  have HB2 : Hid (Blk (NewW u cs) u.heap.size 30 cs) := blk_alloc2_old u _ _ _
  have HBu := Lib.hid (built_wave cs hcs)
  obtain ⟨w2, hw2⟩ : ∃ w2, w2 = NewW u cs := ⟨_, rfl⟩
  rw [← hw2] at HF HBW HB2
  have HW2 : Hid (w2 = (u.alloc (.cells cs.toArray 30)).alloc (.cells (cs ++ nil2).toArray 48)) := hw2
  have c0 : w2.cell? ⟨u.heap.size, 0, none⟩ = some (.int .i64 id) := (HB2.out.cell 0).trans h0
  have c8 : w2.cell? ⟨u.heap.size, 8, none⟩ = some (.int .i64 co) := (HB2.out.cell 8).trans h8
  have c1 : w2.cell? ⟨u.heap.size, 1, none⟩ = some (.int .i64 pa) := (HB2.out.cell 1).trans h1
  have hlt : u.heap.size < u.heap.size + 1 := Nat.lt_succ_self _
  clear hw2 h0 h8 h1 hcs HB2
  obtain ⟨CS, hCS⟩ : ∃ CS, CS = cs.toArray := ⟨_, rfl⟩
  obtain ⟨WS, hWS⟩ : ∃ WS, WS = (cs ++ nil2).toArray := ⟨_, rfl⟩
  have HB1' : Hid ((u.alloc (.cells CS 30)).heap[u.heap.size]? = some (.cells CS 30 (0, 0))) := by show _ = _; rw [hCS]; exact HB1.out
  rw [← hCS] at HI1 HBu HW2 ⊢
  rw [← hWS] at HBu HW2
  clear hCS hWS HB1
  go_enter Try.func7, Try.ntmps7
  go_upto_region 1 with fail
  refine wp_region_list ?_
  refine wpList_load_row rfl 30 (.tmp 1) rfl u.heap.size rfl 30 CS (0, 0) _ HB1'.out Try.underlying30 rfl HI1.out ?_
  refine wpList_buildTo rfl 48 #[(0, .tmp 6)] rfl (some 7) rfl WS (Eq.trans (congrArg _ (by simp; rfl)) HBu.out) ?_
  refine Great.wpList_boxTo rfl 48 (.tmp 7) rfl (some 8) rfl (u.heap.size + 1) (by simp) WS rfl ?_
  rw [← HW2.out]
  have FU : Hid (∀ q, Below (u.heap.size + 1) w2 q → q.cell? ⟨u.heap.size, 8, none⟩ = some (.int .i64 co) ∧ q.cell? ⟨u.heap.size, 1, none⟩ = some (.int .i64 pa)) := fun q hq => ⟨(hq.cell hlt).trans c8, (hq.cell hlt).trans c1⟩
  clear c8 c1
  go_wp2_with (first
    | (go_at_call 14; refine HF.out.mono ?_; rintro e w3 ⟨rfl, hp3, hb3⟩; obtain ⟨d8, d1⟩ := FU.out w3 hb3; have HP3 := Lib.hid hp3; have HB3 := Lib.hid hb3; clear hp3 hb3))
  all_goals refine bodyPost_ret (results_tmp2 rfl _ _ _) rfl ?_
  all_goals refine ⟨?_, HP3.out, HBW.out.trans (HB3.out.mono (Nat.le_succ _))⟩
  all_goals unfold newV
  all_goals simp_all
end Go.Proofs.Ytiiipklbbajadaa
