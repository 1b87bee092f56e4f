/- A program that is put together: Mark, Here, At. -/
import Derived.Test.YtnkjmmbhjhmgdaaAsmB
namespace Go.Proofs.Ytnkjmmbhjhmgdaa
set_option linter.unusedSimpArgs false
set_option linter.unusedVariables false
open Go.RowKit Go.Maps
def markF (d : AsmD) (s : ByteArray) : AsmD := if d.e ≠ 0 then d else match d.mks s.data.toList with
  | some _ => { d with e := 4 }
  | none => { d with mks := fun t => if t = s.data.toList then some d.here else d.mks t }
theorem AsmOk.markF {d : AsmD} {T : Nat} (h : AsmOk d T) (s : ByteArray) : AsmOk (markF d s) T := by
  unfold Go.Proofs.Ytnkjmmbhjhmgdaa.markF
  split
  · exact h
  · split
    · exact ⟨h.org0, h.org1, h.top, h.byte, h.told⟩
    · exact ⟨h.org0, h.org1, h.top, h.byte, h.told⟩
set_option maxRecDepth 100000 in
set_option maxHeartbeats 4000000 in
theorem asm_mark (B P M nm T : Nat) (d : AsmD) (s : ByteArray) (w : World) (h : AsmS B P M nm w d) (ok : AsmOk d T) (hs : s.size ≤ maxLen) (hnm : nm ≤ 1000) :
    Calls Try.prog 14 #[.pointer (some ⟨P, 0, none⟩), .string s] w (AsmR B P M (nm + 1) (markF d s) w) := by
  obtain ⟨vo, vt, h1, h2, h3⟩ := h.ex
  obtain ⟨D, h4, h5⟩ := h.map
  obtain ⟨Ao, co, rfl, hAo, hco⟩ := own_form h2
  have c2 : w.cell? ⟨P, 2, none⟩ = some (.map (some M)) := h1.cell 2
  have c4 : w.cell? ⟨P, 4, none⟩ = some (.int .i64 d.e) := h1.cell 4
  have f4 := h1.frozen 4
  have hPB := h.leP
  have hMB := h.leM
  have hlt := h.lt
  have o0 := ok.org0
  have o1 := ok.top
  have hh := (h5.2 s.data.toList).1
  have HS := Lib.hid h; have H1 := Lib.hid h1; have H4 := Lib.hid h4; have H5 := Lib.hid h5
  have HK := Lib.hid (keyOf_s s hs)
  have HBAD := Lib.hid (asm_bad P d.org d.e _ _ _ w h1)
  have HHERE := Lib.hid (fun u (hb : Below w.heap.size w u) => asm_here P d.org d.e Ao d.out.length co _ _ u (h1.below_ hb) o0 o1)
  clear h h1 h2 h3 h4 h5 hAo
  by_cases he : d.e = 0
  · have hbd : (decide (d.e ≠ 0)) = false := by simp [he]
    rw [hbd] at HBAD
    go_enter Try.func14, Try.ntmps14
    cases hm : d.mks s.data.toList with
    | some y =>
      rw [hm] at hh
      have HH : Hid (Maps.has D (.string s.data.toList) = true) := Lib.hid hh
      clear hh
      go_wp2_with (first
        | (go_at_call 21; refine HBAD.out.mono ?_; rintro e w1 ⟨rfl, rfl⟩)
        | (at_lookup; refine wpList_lookup_own_ok_int _ rfl (.tmp 12) (.tmp 13) 51 rfl 9 3 .i64 keyLaw Try.underlying51 Try.underlying3 (zeroInt _) M nm D rfl H4.out _ _ rfl HK.out ?_; intro c hat hwc; rw [HH.out]; clear hat hwc))
      go_end0
      have e : markF d s = { d with e := 4 } := by unfold markF; rw [if_neg (by omega), hm]
      rw [e]
      exact ⟨rfl, (HS.out.setE 4).mono (Nat.le_succ _), (Frm.refl _ _).setP HS.out.blkP hPB _⟩
    | none =>
      rw [hm] at hh
      have HH : Hid (Maps.has D (.string s.data.toList) = false) := Lib.hid hh
      clear hh
      go_upto_region 4 with (first
        | (go_at_call 21; refine HBAD.out.mono ?_; rintro e w1 ⟨rfl, rfl⟩)
        | (at_lookup; refine wpList_lookup_own_ok_int _ rfl (.tmp 12) (.tmp 13) 51 rfl 9 3 .i64 keyLaw Try.underlying51 Try.underlying3 (zeroInt _) M nm D rfl H4.out _ _ rfl HK.out ?_; intro c hat hwc; rw [HH.out]; clear hat hwc))
      refine until_start 7 (fun u : World => u.cell? ⟨P, 2, none⟩ = some (.map (some M))) (by kernel_rfl) ?_
      have hS : Hid ((fun u : World => u.cell? ⟨P, 2, none⟩ = some (.map (some M))) w.drew) := c2
      refine until_take (i := 0) (v := ?_) rfl (by kernel_rfl) (by kernel_rfl) (by kernel_rfl) rfl (fun _ _ _ h => h) (fun _ => hS.out) (Or.inl ⟨by rfl, ?_⟩) ?_
      rotate_left
      · (intro u _; go_simp; try with_reducible rfl)
      try simp only [Act.put, List.setIfInBounds_toArray, List.set_cons_zero, List.set_cons_succ]
      refine until_take (i := 1) (v := ?_) rfl (by kernel_rfl) (by kernel_rfl) (by kernel_rfl) rfl (fun _ _ _ h => h) (fun _ => hS.out) (Or.inl ⟨by rfl, ?_⟩) ?_
      rotate_left
      · (intro u _; go_simp; try with_reducible rfl)
      try simp only [Act.put, List.setIfInBounds_toArray, List.set_cons_zero, List.set_cons_succ]
      refine until_take (i := 2) (v := ?_) rfl (by kernel_rfl) (by kernel_rfl) (by kernel_rfl) rfl (fun _ _ _ h => h) (fun _ => hS.out) (Or.inl ⟨by rfl, ?_⟩) ?_
      rotate_left
      · (intro u _; go_simp; try with_reducible rfl)
      try simp only [Act.put, List.setIfInBounds_toArray, List.set_cons_zero, List.set_cons_succ]
      refine until_take (i := 4) (v := ?_) rfl (by kernel_rfl) (by kernel_rfl) (by kernel_rfl) rfl (fun _ _ _ h => h) (fun _ => hS.out) (Or.inl ⟨by rfl, ?_⟩) ?_
      rotate_left
      · (intro u _; go_simp; try with_reducible rfl)
      try simp only [Act.put, List.setIfInBounds_toArray, List.set_cons_zero, List.set_cons_succ]
      refine until_take (i := 5) (v := ?_) rfl (by kernel_rfl) (by kernel_rfl) (by kernel_rfl) rfl (fun _ _ _ h => h) (fun _ => hS.out) (Or.inl ⟨by rfl, ?_⟩) ?_
      rotate_left
      · (intro u _; go_simp; try with_reducible rfl)
      try simp only [Act.put, List.setIfInBounds_toArray, List.set_cons_zero, List.set_cons_succ]
      refine until_load (i := 3) (v := ?_) [7] rfl (by kernel_rfl) (by kernel_rfl) (by kernel_rfl) (by kernel_rfl) (fun _ _ _ h => h) hS.out (Or.inl ⟨by rfl, ?_⟩) ?_
      rotate_left
      · (rintro u s1; go_simp; try with_reducible rfl)
      try simp only [Act.put, List.setIfInBounds_toArray, List.set_cons_zero, List.set_cons_succ]
      refine until_ready (rs := [6]) (by kernel_rfl) (by simp) ?_
      refine AllUntil.cons rfl (fun K hK => ?_) AllUntil.nil
      go_simp
      refine (HHERE.out w.drew (Below.refl _ w).drew).mono ?_
      rintro e w2 ⟨rfl, hb2⟩
      have hb2' : Below w.heap.size w w2 := ((Below.refl _ w).drew).trans hb2
      refine hK.out _ _ (fun _ => cell_below hb2' c2) ?_
      have HB2 := Lib.hid (HS.out.toB hb2')
      have HS2 := Lib.hid (HS.out.below_ hb2')
      have H42 := Lib.hid (H4.out.kept (grownBy_below (r := none) hb2') (by simp))
      clear hK K hb2 hb2'
      try simp only [Act.put, List.setIfInBounds_toArray, List.set_cons_zero, List.set_cons_succ]
      refine until_ready (rs := [7]) (by kernel_rfl) (by simp) ?_
      refine AllUntil.cons rfl (fun K hK => ?_) AllUntil.nil
      obtain ⟨w3, hrun, hown3, hg3⟩ := H42.out.update keyLaw Try.underlying51 (by unfold maxLen; omega) HK.out (plainElem_int Try.underlying3 (a := d.org + d.out.length) (by simp [Lit.wf, IntKind.min, IntKind.max, IntKind.bits, IntKind.signed]; omega))
      go_simp
      refine hK.out _ _ (fun h => by simp at h) ?_
      clear hK K
      try simp only [Act.put, List.setIfInBounds_toArray, List.set_cons_zero, List.set_cons_succ]
      refine until_done (by kernel_rfl) ?_ _
      go_wp2_with fail
      go_end0
      have e : markF d s = { d with mks := fun t => if t = s.data.toList then some d.here else d.mks t } := by unfold markF; rw [if_neg (by omega), hm]
      rw [e]
      exact ⟨rfl, HS2.out.setM H42.out hown3 (H5.out.put _ _) hg3, HB2.out.map_ H42.out hg3 hMB (by have := HB2.out.size; omega)⟩
  · have hbd : (decide (d.e ≠ 0)) = true := by simp [he]
    rw [hbd] at HBAD
    go_enter Try.func14, Try.ntmps14
    go_wp2_with (first
      | (go_at_call 21; refine HBAD.out.mono ?_; rintro e w1 ⟨rfl, rfl⟩))
    go_end0
    have e : markF d s = d := by unfold markF; rw [if_pos he]
    rw [e]
    exact ⟨rfl, HS.out.mono (Nat.le_succ _), Frm.refl _ _⟩
theorem asm_Here (B P M nm T : Nat) (d : AsmD) (w : World) (h : AsmS B P M nm w d) (ok : AsmOk d T) :
    Calls Try.prog 24 #[.pointer (some ⟨P, 0, none⟩)] w fun e w' => e = .returned (.int .u16 (d.here % 65536)) ∧ Below w.heap.size w w' := by
  obtain ⟨vo, vt, h1, h2, h3⟩ := h.ex
  obtain ⟨Ao, co, rfl, hAo, hco⟩ := own_form h2
  have HHERE := Lib.hid (asm_here P d.org d.e Ao d.out.length co _ _ w h1 ok.org0 ok.top)
  have o0 := ok.org0
  have o1 := ok.top
  have e1 : IntKind.u16.wrap (d.org + d.out.length) = (d.org + d.out.length) % 65536 := by rw [IntKind.wrap_u16]
  clear h h1 h2 h3
  go_enter Try.func24, Try.ntmps24
  go_wp2_with (first
    | (go_at_call 22; refine HHERE.out.mono ?_; rintro e w2 ⟨rfl, hb2⟩; have HB2 := Lib.hid hb2; clear hb2))
  go_ret
  exact ⟨rfl, HB2.out⟩
end Go.Proofs.Ytnkjmmbhjhmgdaa
