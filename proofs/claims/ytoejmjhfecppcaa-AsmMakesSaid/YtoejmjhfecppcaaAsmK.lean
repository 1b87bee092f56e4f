/- A program that is put together: calls on nothing; lives. -/
import Derived.Test.YtoejmjhfecppcaaAsmJ
import Derived.Laws.BytesString
namespace Go.Proofs.Ytoejmjhfecppcaa
set_option linter.unusedSimpArgs false
set_option linter.unusedVariables false
open Go.RowKit Go.Maps Go.Sort
set_option maxHeartbeats 1000000 in
theorem bytes_nil (v : Value) (w : World) : Calls Try.prog 47 #[.pointer none, v] w fun e w' => e = .returned (.tuple #[]) ∧ Below w.heap.size w w' := by
  have HBAD := Lib.hid asm_bad_nil
  go_enter Try.func47, Try.ntmps47
  go_wp2_with (first
    | (go_at_call 55; refine (HBAD.out _).mono ?_; rintro e w1 ⟨rfl, rfl⟩))
  refine bodyPost_ret (results_none rfl _ _ _) rfl ?_
  exact ⟨rfl, Below.refl _ _⟩
set_option maxHeartbeats 1000000 in
theorem mark_nil (v : Value) (w : World) : Calls Try.prog 38 #[.pointer none, v] w fun e w' => e = .returned (.tuple #[]) ∧ Below w.heap.size w w' := by
  have HBAD := Lib.hid asm_bad_nil
  go_enter Try.func38, Try.ntmps38
  go_wp2_with (first
    | (go_at_call 55; refine (HBAD.out _).mono ?_; rintro e w1 ⟨rfl, rfl⟩))
  refine bodyPost_ret (results_none rfl _ _ _) rfl ?_
  exact ⟨rfl, Below.refl _ _⟩
set_option maxHeartbeats 1000000 in
theorem delay_nil (v : Value) (w : World) : Calls Try.prog 50 #[.pointer none, v] w fun e w' => e = .returned (.tuple #[]) ∧ Below w.heap.size w w' := by
  have HBAD := Lib.hid asm_bad_nil
  go_enter Try.func50, Try.ntmps50
  go_wp2_with (first
    | (go_at_call 55; refine (HBAD.out _).mono ?_; rintro e w1 ⟨rfl, rfl⟩))
  refine bodyPost_ret (results_none rfl _ _ _) rfl ?_
  exact ⟨rfl, Below.refl _ _⟩
set_option maxHeartbeats 1000000 in
theorem fill_nil (v v1 v2 : Value) (w : World) : Calls Try.prog 58 #[.pointer none, v, v1, v2] w fun e w' => e = .returned (.tuple #[]) ∧ Below w.heap.size w w' := by
  have HBAD := Lib.hid asm_bad_nil
  go_enter Try.func58, Try.ntmps58
  go_wp2_with (first
    | (go_at_call 55; refine (HBAD.out _).mono ?_; rintro e w1 ⟨rfl, rfl⟩))
  refine bodyPost_ret (results_none rfl _ _ _) rfl ?_
  exact ⟨rfl, Below.refl _ _⟩
set_option maxHeartbeats 1000000 in
theorem to_nil (v v1 : Value) (w : World) : Calls Try.prog 48 #[.pointer none, v, v1] w fun e w' => e = .returned (.tuple #[]) ∧ Below w.heap.size w w' := by
  have HF := Lib.hid fill_nil
  go_enter Try.func48, Try.ntmps48
  go_wp2_with (first
    | (go_at_call 58; refine (HF.out _ _ _ _).mono ?_; rintro e w1 ⟨rfl, hb⟩))
  go_end0
  exact ⟨rfl, hb⟩
set_option maxHeartbeats 1000000 in
theorem near_nil (v : Value) (x : Int) (w : World) : Calls Try.prog 46 #[.pointer none, v, .int .u8 x] w fun e w' => e = .returned (.tuple #[]) ∧ Below w.heap.size w w' := by
  have HF := Lib.hid fill_nil
  go_enter Try.func46, Try.ntmps46
  go_wp2_with (first
    | (go_at_call 58; refine (HF.out _ _ _ _).mono ?_; rintro e w1 ⟨rfl, hb⟩))
  go_end0
  exact ⟨rfl, (below_alloc1 w _).trans (hb.mono (by simp))⟩
set_option maxRecDepth 100000 in
set_option maxHeartbeats 8000000 in
theorem call_nil (o : OpL) (A : Option Addr) (c : Nat) (w : World) (hl : Ints w A .u8 o.b) :
    Calls Try.prog 33 #[.pointer none, opV o A c] w fun e w' => e = .returned (.tuple #[]) ∧ Below w.heap.size w w' := by
  obtain ⟨k, m, s, l⟩ := o
  simp only [opV] at *
  have hb := below_alloc1 w (.cells #[.int .i64 k, .int .i64 m, .string s, .slice A l.length c] 72)
  have B0 : Blk (w.alloc (.cells #[.int .i64 k, .int .i64 m, .string s, .slice A l.length c] 72)) w.heap.size 72 [.int .i64 k, .int .i64 m, .string s, .slice A l.length c] := Blk.new w _ _
  obtain ⟨w1, hw1⟩ : ∃ u, u = w.alloc (.cells #[.int .i64 k, .int .i64 m, .string s, .slice A l.length c] 72) := ⟨_, rfl⟩
  rw [← hw1] at hb B0
  have HB := Lib.hid hb
  have HL := Lib.hid (hl.below hb)
  have HW := Lib.hid hw1
  have HBY := Lib.hid bytes_nil
  have HMK := Lib.hid mark_nil
  have HTO := Lib.hid to_nil
  have HDL := Lib.hid delay_nil
  have b0 : w1.cell? ⟨w.heap.size, 0, none⟩ = some (.int .i64 k) := B0.cell 0
  have b1 : w1.cell? ⟨w.heap.size, 1, none⟩ = some (.int .i64 m) := B0.cell 1
  have b2 : w1.cell? ⟨w.heap.size, 2, none⟩ = some (.string s) := B0.cell 2
  have b3 : w1.cell? ⟨w.heap.size, 3, none⟩ = some (.slice A l.length c) := B0.cell 3
  clear hl hb B0 hw1
  go_enter Try.func33, Try.ntmps33
  go_upto_region 1 with fail
  rw [← HW.out]
  clear HW
  by_cases k0 : k = 0
  · subst k0
    go_wp2_with (first
      | (go_at_call 47; refine (HBY.out _ _).mono ?_; rintro e w2 ⟨rfl, hb2⟩; have HB2 := Lib.hid (HB.out.trans (hb2.mono HB.out.size)); clear hb2))
    go_end0
    exact ⟨rfl, HB2.out⟩
  · by_cases k1 : k = 1
    · subst k1
      go_wp2_with (first
        | (go_at_call 38; refine (HMK.out _ _).mono ?_; rintro e w2 ⟨rfl, hb2⟩; have HB2 := Lib.hid (HB.out.trans (hb2.mono HB.out.size)); clear hb2))
      go_end0
      exact ⟨rfl, HB2.out⟩
    · by_cases k2 : k = 2
      · subst k2
        go_wp2_with (first
          | (go_at_call 48; refine (HTO.out _ _ _).mono ?_; rintro e w2 ⟨rfl, hb2⟩; have HB2 := Lib.hid (HB.out.trans (hb2.mono HB.out.size)); clear hb2))
        go_end0
        exact ⟨rfl, HB2.out⟩
      · by_cases k3 : k = 3
        · subst k3
          go_upto_region 9 with fail
          refine until_start 5 (fun u : World => u.cell? ⟨w.heap.size, 0, none⟩ = some (.int .i64 3) ∧ u.cell? ⟨w.heap.size, 1, none⟩ = some (.int .i64 m) ∧ u.cell? ⟨w.heap.size, 2, none⟩ = some (.string s) ∧ u.cell? ⟨w.heap.size, 3, none⟩ = some (.slice A l.length c)) (by kernel_rfl) ?_
          have hS : Hid ((fun u : World => u.cell? ⟨w.heap.size, 0, none⟩ = some (.int .i64 3) ∧ u.cell? ⟨w.heap.size, 1, none⟩ = some (.int .i64 m) ∧ u.cell? ⟨w.heap.size, 2, none⟩ = some (.string s) ∧ u.cell? ⟨w.heap.size, 3, none⟩ = some (.slice A l.length c)) w1.drew) := ⟨b0, b1, b2, b3⟩
          refine until_take (i := 0) (v := ?_) rfl (by kernel_rfl) (by kernel_rfl) (by kernel_rfl) rfl (fun _ _ _ h => h) (fun _ => hS.out) (Or.inl ⟨by rfl, ?_⟩) ?_
          rotate_left
          · (intro u _; go_simp; try with_reducible rfl)
          try simp only [Act.put, List.setIfInBounds_toArray, List.set_cons_zero, List.set_cons_succ]
          refine until_take (i := 1) (v := ?_) rfl (by kernel_rfl) (by kernel_rfl) (by kernel_rfl) rfl (fun _ _ _ h => h) (fun _ => hS.out) (Or.inl ⟨by rfl, ?_⟩) ?_
          rotate_left
          · (intro u _; go_simp; try with_reducible rfl)
          try simp only [Act.put, List.setIfInBounds_toArray, List.set_cons_zero, List.set_cons_succ]
          refine until_load (i := 2) (v := ?_) [5] rfl (by kernel_rfl) (by kernel_rfl) (by kernel_rfl) (by kernel_rfl) (fun _ _ _ h => h) hS.out (Or.inl ⟨by rfl, ?_⟩) ?_
          rotate_left
          · (rintro u ⟨s1, s2, s3, s4⟩; go_simp; try with_reducible rfl)
          try simp only [Act.put, List.setIfInBounds_toArray, List.set_cons_zero, List.set_cons_succ]
          refine until_load (i := 3) (v := ?_) [4, 5] rfl (by kernel_rfl) (by kernel_rfl) (by kernel_rfl) (by kernel_rfl) (fun _ _ _ h => h) hS.out (Or.inl ⟨by rfl, ?_⟩) ?_
          rotate_left
          · (rintro u ⟨s1, s2, s3, s4⟩; go_simp; try with_reducible rfl)
          try simp only [Act.put, List.setIfInBounds_toArray, List.set_cons_zero, List.set_cons_succ]
          refine until_ready (rs := [4]) (by kernel_rfl) (by simp) ?_
          refine AllUntil.cons rfl (fun K hK => ?_) AllUntil.nil
          go_simp
          refine (code28 3 m s A l.length c l w1.drew HL.out rfl).mono ?_
          rintro e w2 ⟨rfl, hb2⟩
          have hb2' : Below w1.heap.size w1 w2 := ((Below.refl _ w1).drew).trans hb2
          have HB2 := Lib.hid (HB.out.trans (hb2'.mono HB.out.size))
          refine hK.out _ _ (fun _ => ⟨cell_below hb2' b0, cell_below hb2' b1, cell_below hb2' b2, cell_below hb2' b3⟩) ?_
          clear hK K hb2 hb2'
          try simp only [Act.put, List.setIfInBounds_toArray, List.set_cons_zero, List.set_cons_succ]
          refine until_ready (rs := [5]) (by kernel_rfl) (by simp) ?_
          refine AllUntil.cons rfl (fun K hK => ?_) AllUntil.nil
          go_simp
          refine (near_nil _ (codeL l) w2).mono ?_
          rintro e w3 ⟨rfl, hb3⟩
          have HB3 := Lib.hid (HB2.out.trans (hb3.mono HB2.out.size))
          clear hb3
          refine hK.out _ _ (fun h => by simp at h) ?_
          clear hK K
          try simp only [Act.put, List.setIfInBounds_toArray, List.set_cons_zero, List.set_cons_succ]
          refine until_done (by kernel_rfl) ?_ _
          go_wp2_with fail
          go_end0
          exact ⟨rfl, HB3.out⟩
        · by_cases k4 : k = 4
          · subst k4
            go_wp2_with (first
              | (go_at_call 50; refine (HDL.out _ _).mono ?_; rintro e w2 ⟨rfl, hb2⟩; have HB2 := Lib.hid (HB.out.trans (hb2.mono HB.out.size)); clear hb2))
            go_end0
            exact ⟨rfl, HB2.out⟩
          · go_wp2_with fail
            go_end0
            exact ⟨rfl, HB.out⟩
/-- a text of bytes -/
def txt8 (l : List Int) : ByteArray := ⟨(l.map (fun x => UInt8.ofNat x.toNat)).toArray⟩
theorem push_all8 : ∀ (l : List Int) (b : ByteArray), l.foldl (fun r n => r.push (UInt8.ofNat n.toNat)) b = ⟨(b.data.toList ++ l.map (fun x => UInt8.ofNat x.toNat)).toArray⟩
  | [], b => by simp
  | x :: l, b => by
    rw [List.foldl_cons, push_all8 l]
    congr 1
    simp [ByteArray.push]
theorem conv_ints (w : World) (K : Option Addr) (n c : Nat) (l : List Int) (h : Ints w K .u8 l) (hn : l.length = n) :
    (convert 47 9 (.slice K n c)).run Try.prog w = .ok (.string (txt8 l)) w := by
  rw [run_convert_bytes_string w 47 9 5 _ n c Try.underlying47 Try.underlying5 Try.underlying9]
  cases K with
  | none =>
    cases l with
    | nil =>
      simp at hn
      subst hn
      rfl
    | cons x t =>
      obtain ⟨ad, e, _⟩ := h 0 (.int .u8 x) rfl
      cases e
  | some ad =>
    have hl := run_loadCells_list (P := Try.prog) w ad (l.map (.int .u8 ·)) (fun j v hv => by
      obtain ⟨a', e, hc⟩ := h j v hv
      injection e with e
      subst e
      exact hc)
    rw [List.length_map, hn] at hl
    rw [run_bytesToString w _ n c l hl, push_all8]
    rfl
def Yes (w : World) (e : Ending) (w' : World) : Prop := e = .returned (.bool true) ∧ Below w.heap.size w w'
def xName : ByteArray := ⟨#[120]⟩
def liveD : AsmD := fillF (markF (newD 100) xName) xName true [24]
theorem liveD_done : doneF liveD = (0, [24, 254]) := by decide +kernel
theorem live_done {w w' : World} {e : Ending} (h : DoneR liveD w e w') : ∃ A c, e = .returned (.tuple #[.slice A 2 c, .int .i64 0]) ∧ Ints w' A .u8 [24, 254] ∧ Below w.heap.size w w' := by
  obtain ⟨h4, hb4⟩ := h
  rw [liveD_done] at h4
  rcases h4 with ⟨h4, _⟩ | ⟨_, A4, n4, c4, rfl, hi4, hn4, _⟩
  · exact absurd rfl h4
  · obtain rfl : n4 = 2 := hn4.symm
    exact ⟨A4, c4, rfl, hi4, hb4⟩
theorem liveI : AsmI liveD 1 := ((AsmI.new (by omega) (by omega)).markF _).fillF _ (by decide) true (fun x hx => by simp at hx; omega)
set_option maxRecDepth 100000 in
set_option maxHeartbeats 4000000 in
theorem lives28 (w : World) : Calls Try.prog 31 #[] w (Yes w) := by
  have HNEW := Lib.hid (asm_new 100 (by omega) (by omega) w)
  go_enter Try.func31, Try.ntmps31
  have hck : (txt8 [24, 254]) = ⟨#[24, 254]⟩ := rfl
  go_upto_region 5 with (first
    | (go_at_call 32; refine HNEW.out.mono ?_; rintro e w1 ⟨P, M, rfl, h1, hb1⟩; have HS1 := Lib.hid h1; have HB1 := Lib.hid hb1; clear h1 hb1)
    | (go_at_call 38; refine (asm_mark w.heap.size P M 0 0 (newD 100) xName w1 HS1.out (AsmI.new (by omega) (by omega)).ok (by decide) (by omega)).mono ?_; rintro e w2 ⟨rfl, h2, hb2⟩; have HS2 := Lib.hid h2; have HB2 := Lib.hid (HB1.out.trans hb2); clear h2 hb2)
    | (go_at_call 46; refine (asm_near w.heap.size P M 1 0 _ xName 24 w2 HS2.out ((AsmI.new (by omega) (by omega)).markF _).ok (by omega)).mono ?_; rintro e w3 ⟨rfl, h3, hb3⟩; have HS3 := Lib.hid h3; have HB3 := Lib.hid (HB2.out.trans hb3); clear h3 hb3)
    | (go_at_call 35; refine (asm_Done w.heap.size P M 1 1 liveD w3 HS3.out liveI.ok (by omega) liveI.td).mono ?_; rintro e w4 h4; obtain ⟨A4, c4, rfl, hi4, hb4⟩ := live_done h4; have HI4 := Lib.hid hi4; have HB4 := Lib.hid (HB3.out.trans (hb4.mono HB3.out.size)); clear hi4 hb4 h4))
  have hcv := conv_ints w4 A4 2 c4 [24, 254] HI4.out rfl
  rw [hck] at hcv
  go_wp2_with fail
  go_ret
  exact ⟨rfl, HB4.out⟩
end Go.Proofs.Ytoejmjhfecppcaa
