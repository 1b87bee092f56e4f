/- A ROM that is put together: noughts up to an address; the usual timing. -/
import Derived.Test.YtnkjmmbhjhmgdaaRomC
import Derived.Test.YtnkjmmbhjhmgdaaUnt
namespace Go.Proofs.Ytnkjmmbhjhmgdaa
set_option linter.unusedSimpArgs false
set_option linter.unusedVariables false
open Go.RowKit Go.Maps Go.Sort
def tStd : TimL := ⟨2168, 667, 735, 855, 1710⟩
theorem tStd_ok : TimOk tStd := by constructor <;> decide
theorem norm_standard (w : World) : Calls Try.prog 27 #[] w fun e w' => e = .returned (timV tStd) ∧ Below w.heap.size w w' := by
  go_enter Try.func27, Try.ntmps27
  go_wp2_with fail
  refine bodyPost_ret (v := timV tStd) (by simp [results, Try.results27, go_sem, timV, tStd]) rfl ⟨rfl, ?_⟩
  repeat (with_reducible refine Below.setCell ?_ (by simp) _)
  exact below_alloc1 w _
theorem mk_zerosN (n : Nat) (hn : n ≤ 20000) : ∃ Z : Array Value, Z = ((List.replicate n (0 : Int)).map (.int .u8 ·)).toArray ∧ ∀ u, (Instr.makeSlice 25 (.int .i64 n) (.int .i64 n)).run Try.prog u = .ok (.slice (some ⟨u.heap.size, 0, none⟩) n n) (u.alloc (.cells Z 5)) := by
  refine ⟨_, rfl, fun u => ?_⟩
  obtain ⟨i0, hi, hz0, hz1, hz2⟩ := info_parts infoU8
  have h := run_make (P := Try.prog) u 25 5 i0 (.int .u8 0) Try.underlying25 hi hz0 .i64 .i64 n n (by omega) (Int.le_refl _) (by rw [hz2]; omega) (by omega)
  rw [hz1] at h
  have e : madeCells #[Value.int .u8 0] n = ((List.replicate n (0 : Int)).map (.int .u8 ·)).toArray := by
    apply Array.ext
    · simp [madeCells]
    · intro k h1 h2
      simp [madeCells, Nat.mod_one]
  simpa [e, show (Value.int .u8 0).cells = #[Value.int .u8 0] from rfl] using h
theorem rom_zeros {B P M : Nat} {L : List OpL} {w : World} (h : RomS B P M L w) (z : Nat) (Z : Array Value) (hZ : Z = ((List.replicate z (0 : Int)).map (.int .u8 ·)).toArray) (hm : z ≤ 20000) :
    Calls Try.prog 11 #[.pointer (some ⟨P, 0, none⟩), .slice (some ⟨w.heap.size, 0, none⟩) z z] (w.alloc (.cells Z 5)) (RomR B P M (L ++ [opBytes (List.replicate z 0)]) w) :=
  (asm_bytes_zero B P M L.length L.length _ z Z w h.s h.i.ok hZ (by omega)).mono fun e w' hr => h.add (o := opBytes (List.replicate z 0)) (by simp [callF, opBytes]) ((h.i.bytesF (fun x hx => by rw [List.eq_of_mem_replicate hx]; omega)).mono (Nat.le_succ _)) (Nat.le_succ _) hr
set_option maxRecDepth 100000 in
set_option maxHeartbeats 8000000 in
theorem rp_fill {B P M : Nat} {L : List OpL} {w : World} (h : RomS B P M L w) (z : Nat) (tp : Int) (hh : (L.foldl callF (newD 0)).here + z = tp) (hto : tp ≤ 16384) :
    Calls Try.prog 13 #[progV P, .int .i64 tp] w (RomR B P M (L ++ [opBytes (List.replicate z 0)]) w) := by
  obtain ⟨x, hx⟩ : ∃ x, x = (L.foldl callF (newD 0)).here := ⟨_, rfl⟩
  have x0 : 0 ≤ x := by rw [hx]; have := h.i.ok.org0; unfold AsmD.here; omega
  rw [← hx] at hh
  have hmod : x % 65536 = x := by omega
  have hb := below_alloc1 w (.cells #[.pointer (some ⟨P, 0, none⟩)] 39)
  have g0 := Blk.new w 39 [.pointer (some ⟨P, 0, none⟩)]
  obtain ⟨w0, hw0⟩ : ∃ u, u = w.alloc (.cells #[.pointer (some ⟨P, 0, none⟩)] 39) := ⟨_, rfl⟩
  obtain ⟨gp, hgp⟩ : ∃ g, g = w.heap.size := ⟨_, rfl⟩
  have GP0 : Hid (Blk w0 gp 39 [.pointer (some ⟨P, 0, none⟩)]) := Lib.hid (by rw [hw0, hgp]; exact g0)
  have HS0 : Hid (RomS B P M L w0) := Lib.hid (by rw [hw0]; exact h.below_ hb)
  have HF0 : Hid (Frm B w w0) := Lib.hid (by rw [hw0]; exact h.s.toB hb)
  have p0 : w0.cell? ⟨gp, 0, none⟩ = some (.pointer (some ⟨P, 0, none⟩)) := GP0.out.cell 0
  have HW := Lib.hid hw0
  have HGP := Lib.hid hgp
  have wx : IntKind.i64.wrap x = x := by rw [IntKind.wrap_i64]; omega
  have wz : IntKind.i64.wrap (tp - x) = (z : Int) := by rw [IntKind.wrap_i64]; omega
  obtain ⟨Z, hZZ, hmk⟩ := mk_zerosN z (by omega)
  have HZZ := Lib.hid hZZ
  have HX := Lib.hid hx
  have HHH := Lib.hid hh
  have HHERE : Hid (Calls Try.prog 24 #[.pointer (some ⟨P, 0, none⟩)] w0.drew fun e w' => e = .returned (.int .u16 x) ∧ Below w0.heap.size w0 w') := by
    refine (asm_Here B P M _ _ _ w0.drew (HS0.out.s.below_ ((Below.refl _ w0).drew)) HS0.out.i.ok).mono ?_
    rintro e w' ⟨rfl, hb'⟩
    refine ⟨?_, ((Below.refl _ w0).drew).trans hb'⟩
    rw [← hx, hmod]
  have zm : z ≤ 20000 := by omega
  clear h hb hw0 hgp g0 hZZ hh hx hmod
  unfold progV
  go_enter Try.func13, Try.ntmps13
  go_upto_region 1 with fail
  rw [← HW.out, ← HGP.out]
  clear HW HGP
  refine until_start 9 (fun u : World => u.cell? ⟨gp, 0, none⟩ = some (.pointer (some ⟨P, 0, none⟩))) (by kernel_rfl) ?_
  have hS : Hid ((fun u : World => u.cell? ⟨gp, 0, none⟩ = some (.pointer (some ⟨P, 0, none⟩))) w0.drew) := p0
  refine until_take (i := 0) (v := ?_) rfl (by kernel_rfl) (by kernel_rfl) (by kernel_rfl) rfl (fun _ _ _ h => h) (fun _ => hS.out) (Or.inl ⟨by rfl, ?_⟩) ?_
  rotate_left
  · (intro u _; go_simp; try with_reducible rfl)
  try simp only [Act.put, List.setIfInBounds_toArray, List.set_cons_zero, List.set_cons_succ]
  refine until_load (i := 1) (v := ?_) [9] rfl (by kernel_rfl) (by kernel_rfl) (by kernel_rfl) (by kernel_rfl) (fun _ _ _ h => h) hS.out (Or.inl ⟨by rfl, ?_⟩) ?_
  rotate_left
  · (intro u s1; go_simp; try with_reducible rfl)
  try simp only [Act.put, List.setIfInBounds_toArray, List.set_cons_zero, List.set_cons_succ]
  refine until_take (i := 2) (v := ?_) rfl (by kernel_rfl) (by kernel_rfl) (by kernel_rfl) rfl (fun _ _ _ h => h) (fun _ => hS.out) (Or.inl ⟨by rfl, ?_⟩) ?_
  rotate_left
  · (intro u _; go_simp; try with_reducible rfl)
  try simp only [Act.put, List.setIfInBounds_toArray, List.set_cons_zero, List.set_cons_succ]
  refine until_take (i := 3) (v := ?_) rfl (by kernel_rfl) (by kernel_rfl) (by kernel_rfl) rfl (fun _ _ _ h => h) (fun _ => hS.out) (Or.inl ⟨by rfl, ?_⟩) ?_
  rotate_left
  · (intro u _; go_simp; try with_reducible rfl)
  try simp only [Act.put, List.setIfInBounds_toArray, List.set_cons_zero, List.set_cons_succ]
  refine until_load (i := 4) (v := ?_) [5, 6, 7, 8, 9] rfl (by kernel_rfl) (by kernel_rfl) (by kernel_rfl) (by kernel_rfl) (fun _ _ _ h => h) hS.out (Or.inl ⟨by rfl, ?_⟩) ?_
  rotate_left
  · (intro u s1; go_simp; try with_reducible rfl)
  try simp only [Act.put, List.setIfInBounds_toArray, List.set_cons_zero, List.set_cons_succ]
  refine until_ready (rs := [5]) (by kernel_rfl) (by simp) ?_
  refine AllUntil.cons rfl (fun K hK => ?_) AllUntil.nil
  go_simp
  refine HHERE.out.mono ?_
  rintro e w2 ⟨rfl, hb2⟩
  have HS2 := Lib.hid (HS0.out.below_ hb2)
  have HF2 := Lib.hid (HF0.out.trans (HS0.out.s.toB hb2))
  have p2 : w2.cell? ⟨gp, 0, none⟩ = some (.pointer (some ⟨P, 0, none⟩)) := cell_below hb2 p0
  refine hK.out _ _ (fun _ => p2) ?_
  clear hK K hb2 hS HHERE p0
  try simp only [Act.put, List.setIfInBounds_toArray, List.set_cons_zero, List.set_cons_succ]
  refine until_ready (rs := [6]) (by kernel_rfl) (by simp) ?_
  refine AllUntil.cons rfl (fun K hK => ?_) AllUntil.nil
  go_simp
  refine hK.out _ _ (fun _ => p2) ?_
  clear hK K
  try simp only [Act.put, List.setIfInBounds_toArray, List.set_cons_zero, List.set_cons_succ]
  refine until_ready (rs := [7]) (by kernel_rfl) (by simp) ?_
  refine AllUntil.cons rfl (fun K hK => ?_) AllUntil.nil
  go_simp
  refine hK.out _ _ (fun _ => p2) ?_
  clear hK K
  try simp only [Act.put, List.setIfInBounds_toArray, List.set_cons_zero, List.set_cons_succ]
  refine until_ready (rs := [8]) (by kernel_rfl) (by simp) ?_
  refine AllUntil.cons rfl (fun K hK => ?_) AllUntil.nil
  go_simp
  refine hK.out _ _ (fun _ => cell_below (below_alloc1 w2 _) p2) ?_
  clear hK K
  try simp only [Act.put, List.setIfInBounds_toArray, List.set_cons_zero, List.set_cons_succ]
  refine until_ready (rs := [9]) (by kernel_rfl) (by simp) ?_
  refine AllUntil.cons rfl (fun K hK => ?_) AllUntil.nil
  go_simp
  refine (rom_zeros HS2.out z Z HZZ.out zm).mono ?_
  rintro e w3 ⟨rfl, h3, hb3⟩
  have HS3 := Lib.hid h3
  have HF3 := Lib.hid (HF2.out.trans hb3)
  clear h3 hb3
  refine hK.out _ _ (fun h => by simp at h) ?_
  clear hK K
  try simp only [Act.put, List.setIfInBounds_toArray, List.set_cons_zero, List.set_cons_succ]
  refine until_done (by kernel_rfl) ?_ _
  go_wp2_with fail
  go_end0
  exact ⟨rfl, HS3.out, HF3.out⟩
end Go.Proofs.Ytnkjmmbhjhmgdaa
