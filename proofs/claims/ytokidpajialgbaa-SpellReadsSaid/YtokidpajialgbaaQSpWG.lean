/- spell.out: tells, branch by branch. Written by gen_spw2.py. -/
import Derived.Test.YtokidpajialgbaaQSpWF
import Derived.Test.YtokidpajialgbaaQUnt
namespace Go.Proofs.Ytokidpajialgbaa
set_option linter.unusedSimpArgs false
set_option linter.unusedVariables false
open Go.RowKit
set_option maxRecDepth 100000 in
set_option maxHeartbeats 4000000 in
theorem wt_34 (P base : Nat) (cs : List Value) (B : TB) (L : List Int) (w0 w : World) (v : Value) (hT : Tape0 w0 w base P) (h : TBV w0 cs B) (ho : OutS w P base v L) (hL : L.length + wB B ≤ 100000000) (hid : B.id = 34) :
    Calls Try.prog 27 #[.pointer (some ⟨P, 0, none⟩), .agg cs.toArray] w (WrP P base (L ++ []) w v) := by
  obtain ⟨bx, wa, Ad, cd, At, ct, Ai, ci, kd, kt, ki, C_⟩ := wctx hT h ho hL
  have C := Lib.hid C_
  have HBB := Lib.hid hL; have HTB := Lib.hid h
  have hx := C_.cells wa v (OutK.refl _ _ _)
  rw [hid] at hx
  obtain ⟨z0, -, -, -, -, -, -, -, -, -, -, -, -, -, -, -⟩ := hx
  have HL := Lib.hid C_.hL
  have HS0 := Lib.hid C_.hs0; have HT0 := Lib.hid C_.hT0; have KK0 := Lib.hid (OutK.refl P wa v)
  clear C_ hT h ho hL
  go_enter Try.func27, Try.ntmps27
  go_upto_region 0 with fail
  refine wp_region_list ?_
  refine Great.wpList_boxTo rfl 28 (.tmp 1) rfl (some 3) rfl bx C.out.hbx.symm cs.toArray rfl ?_
  rw [← C.out.hwa]
  go_wp2_with fail
  exact bodyPost_end (results_none rfl _ _ _) rfl ⟨rfl, v, (by (try rw [← C.out.ed]); (try rw [← C.out.et]); first | exact HS0.out | simpa [List.append_assoc] using HS0.out), (OutK.fresh C.out.hba).trans KK0.out⟩
set_option maxRecDepth 100000 in
set_option maxHeartbeats 4000000 in
theorem wt_37 (P base : Nat) (cs : List Value) (B : TB) (L : List Int) (w0 w : World) (v : Value) (hT : Tape0 w0 w base P) (h : TBV w0 cs B) (ho : OutS w P base v L) (hL : L.length + wB B ≤ 100000000) (hid : B.id = 37) :
    Calls Try.prog 27 #[.pointer (some ⟨P, 0, none⟩), .agg cs.toArray] w (WrP P base (L ++ []) w v) := by
  obtain ⟨bx, wa, Ad, cd, At, ct, Ai, ci, kd, kt, ki, C_⟩ := wctx hT h ho hL
  have C := Lib.hid C_
  have HBB := Lib.hid hL; have HTB := Lib.hid h
  have hx := C_.cells wa v (OutK.refl _ _ _)
  rw [hid] at hx
  obtain ⟨z0, -, -, -, -, -, -, -, -, -, -, -, -, -, -, -⟩ := hx
  have HL := Lib.hid C_.hL
  have HS0 := Lib.hid C_.hs0; have HT0 := Lib.hid C_.hT0; have KK0 := Lib.hid (OutK.refl P wa v)
  clear C_ hT h ho hL
  go_enter Try.func27, Try.ntmps27
  go_upto_region 0 with fail
  refine wp_region_list ?_
  refine Great.wpList_boxTo rfl 28 (.tmp 1) rfl (some 3) rfl bx C.out.hbx.symm cs.toArray rfl ?_
  rw [← C.out.hwa]
  go_wp2_with fail
  exact bodyPost_end (results_none rfl _ _ _) rfl ⟨rfl, v, (by (try rw [← C.out.ed]); (try rw [← C.out.et]); first | exact HS0.out | simpa [List.append_assoc] using HS0.out), (OutK.fresh C.out.hba).trans KK0.out⟩
set_option maxRecDepth 100000 in
set_option maxHeartbeats 4000000 in
theorem wt_39 (P base : Nat) (cs : List Value) (B : TB) (L : List Int) (w0 w : World) (v : Value) (hT : Tape0 w0 w base P) (h : TBV w0 cs B) (ho : OutS w P base v L) (hL : L.length + wB B ≤ 100000000) (hid : B.id = 39) :
    Calls Try.prog 27 #[.pointer (some ⟨P, 0, none⟩), .agg cs.toArray] w (WrP P base (L ++ []) w v) := by
  obtain ⟨bx, wa, Ad, cd, At, ct, Ai, ci, kd, kt, ki, C_⟩ := wctx hT h ho hL
  have C := Lib.hid C_
  have HBB := Lib.hid hL; have HTB := Lib.hid h
  have hx := C_.cells wa v (OutK.refl _ _ _)
  rw [hid] at hx
  obtain ⟨z0, -, -, -, -, -, -, -, -, -, -, -, -, -, -, -⟩ := hx
  have HL := Lib.hid C_.hL
  have HS0 := Lib.hid C_.hs0; have HT0 := Lib.hid C_.hT0; have KK0 := Lib.hid (OutK.refl P wa v)
  clear C_ hT h ho hL
  go_enter Try.func27, Try.ntmps27
  go_upto_region 0 with fail
  refine wp_region_list ?_
  refine Great.wpList_boxTo rfl 28 (.tmp 1) rfl (some 3) rfl bx C.out.hbx.symm cs.toArray rfl ?_
  rw [← C.out.hwa]
  go_wp2_with fail
  exact bodyPost_end (results_none rfl _ _ _) rfl ⟨rfl, v, (by (try rw [← C.out.ed]); (try rw [← C.out.et]); first | exact HS0.out | simpa [List.append_assoc] using HS0.out), (OutK.fresh C.out.hba).trans KK0.out⟩
set_option maxRecDepth 100000 in
set_option maxHeartbeats 4000000 in
theorem wt_33 (P base : Nat) (cs : List Value) (B : TB) (L : List Int) (w0 w : World) (v : Value) (hT : Tape0 w0 w base P) (h : TBV w0 cs B) (ho : OutS w P base v L) (hL : L.length + wB B ≤ 100000000) (hid : B.id = 33) :
    Calls Try.prog 27 #[.pointer (some ⟨P, 0, none⟩), .agg cs.toArray] w (WrP P base (L ++ (leB (B.data.length : Int) 1 ++ B.data)) w v) := by
  obtain ⟨bx, wa, Ad, cd, At, ct, Ai, ci, kd, kt, ki, C_⟩ := wctx hT h ho hL
  have C := Lib.hid C_
  have HBB := Lib.hid hL; have HTB := Lib.hid h
  have hx := C_.cells wa v (OutK.refl _ _ _)
  rw [hid] at hx
  obtain ⟨z0, -, -, -, -, -, -, -, -, -, -, -, z12, -, -, -⟩ := hx
  have HL := Lib.hid C_.hL
  have HS0 := Lib.hid C_.hs0; have HT0 := Lib.hid C_.hT0; have KK0 := Lib.hid (OutK.refl P wa v)
  clear C_ hT h ho hL
  go_enter Try.func27, Try.ntmps27
  go_upto_region 0 with fail
  refine wp_region_list ?_
  refine Great.wpList_boxTo rfl 28 (.tmp 1) rfl (some 3) rfl bx C.out.hbx.symm cs.toArray rfl ?_
  rw [← C.out.hwa]
  go_upto_region 8 with fail
  have HN0 := Lib.hid (data_w 1 P base kd cd Ad B.data _ wa v HS0.out (Cells.below C.out.hd1 HT0.out.bel) C.out.ed.symm (HT0.out.off HS0.out C.out.hd1) HT0.out.h3 (by decide) (by have h9 := HL.out; (try simp only [List.length_append, leL_len, leB_len, List.length_cons, List.length_nil, ← C.out.ed, ← C.out.et]); omega))
  go_wp2_with (first
    | (go_at_call 54
       refine HN0.out.mono ?_
       rintro e w1 ⟨rfl, v1, hs, hk⟩
       have hKK1 := KK0.out.trans hk
       have hT1 := HT0.out.step HS0.out hk
       obtain ⟨-, -, -, -, -, -, -, -, -, -, -, -, -, -, -, -⟩ := C.out.cells w1 v1 hKK1
       have KK1 := Lib.hid hKK1
       have HT1 := Lib.hid hT1
       have HS1 := Lib.hid hs
       clear hs hk hKK1 hT1))
  exact bodyPost_end (results_none rfl _ _ _) rfl ⟨rfl, v1, (by (try rw [← C.out.ed]); (try rw [← C.out.et]); first | exact HS1.out | simpa [List.append_assoc] using HS1.out), (OutK.fresh C.out.hba).trans KK1.out⟩
set_option maxRecDepth 100000 in
set_option maxHeartbeats 4000000 in
theorem wt_48 (P base : Nat) (cs : List Value) (B : TB) (L : List Int) (w0 w : World) (v : Value) (hT : Tape0 w0 w base P) (h : TBV w0 cs B) (ho : OutS w P base v L) (hL : L.length + wB B ≤ 100000000) (hid : B.id = 48) :
    Calls Try.prog 27 #[.pointer (some ⟨P, 0, none⟩), .agg cs.toArray] w (WrP P base (L ++ (leB (B.data.length : Int) 1 ++ B.data)) w v) := by
  obtain ⟨bx, wa, Ad, cd, At, ct, Ai, ci, kd, kt, ki, C_⟩ := wctx hT h ho hL
  have C := Lib.hid C_
  have HBB := Lib.hid hL; have HTB := Lib.hid h
  have hx := C_.cells wa v (OutK.refl _ _ _)
  rw [hid] at hx
  obtain ⟨z0, -, -, -, -, -, -, -, -, -, -, -, z12, -, -, -⟩ := hx
  have HL := Lib.hid C_.hL
  have HS0 := Lib.hid C_.hs0; have HT0 := Lib.hid C_.hT0; have KK0 := Lib.hid (OutK.refl P wa v)
  clear C_ hT h ho hL
  go_enter Try.func27, Try.ntmps27
  go_upto_region 0 with fail
  refine wp_region_list ?_
  refine Great.wpList_boxTo rfl 28 (.tmp 1) rfl (some 3) rfl bx C.out.hbx.symm cs.toArray rfl ?_
  rw [← C.out.hwa]
  go_upto_region 8 with fail
  have HN0 := Lib.hid (data_w 1 P base kd cd Ad B.data _ wa v HS0.out (Cells.below C.out.hd1 HT0.out.bel) C.out.ed.symm (HT0.out.off HS0.out C.out.hd1) HT0.out.h3 (by decide) (by have h9 := HL.out; (try simp only [List.length_append, leL_len, leB_len, List.length_cons, List.length_nil, ← C.out.ed, ← C.out.et]); omega))
  go_wp2_with (first
    | (go_at_call 54
       refine HN0.out.mono ?_
       rintro e w1 ⟨rfl, v1, hs, hk⟩
       have hKK1 := KK0.out.trans hk
       have hT1 := HT0.out.step HS0.out hk
       obtain ⟨-, -, -, -, -, -, -, -, -, -, -, -, -, -, -, -⟩ := C.out.cells w1 v1 hKK1
       have KK1 := Lib.hid hKK1
       have HT1 := Lib.hid hT1
       have HS1 := Lib.hid hs
       clear hs hk hKK1 hT1))
  exact bodyPost_end (results_none rfl _ _ _) rfl ⟨rfl, v1, (by (try rw [← C.out.ed]); (try rw [← C.out.et]); first | exact HS1.out | simpa [List.append_assoc] using HS1.out), (OutK.fresh C.out.hba).trans KK1.out⟩
set_option maxRecDepth 100000 in
set_option maxHeartbeats 4000000 in
theorem wt_35 (P base : Nat) (cs : List Value) (B : TB) (L : List Int) (w0 w : World) (v : Value) (hT : Tape0 w0 w base P) (h : TBV w0 cs B) (ho : OutS w P base v L) (hL : L.length + wB B ≤ 100000000) (hid : B.id = 35) :
    Calls Try.prog 27 #[.pointer (some ⟨P, 0, none⟩), .agg cs.toArray] w (WrP P base (L ++ leL 2 B.times) w v) := by
  obtain ⟨bx, wa, Ad, cd, At, ct, Ai, ci, kd, kt, ki, C_⟩ := wctx hT h ho hL
  have C := Lib.hid C_
  have HBB := Lib.hid hL; have HTB := Lib.hid h
  have hx := C_.cells wa v (OutK.refl _ _ _)
  rw [hid] at hx
  obtain ⟨z0, -, -, -, -, -, -, -, -, -, -, -, -, z13, -, -⟩ := hx
  have HL := Lib.hid C_.hL
  have HS0 := Lib.hid C_.hs0; have HT0 := Lib.hid C_.hT0; have KK0 := Lib.hid (OutK.refl P wa v)
  clear C_ hT h ho hL
  go_enter Try.func27, Try.ntmps27
  go_upto_region 0 with fail
  refine wp_region_list ?_
  refine Great.wpList_boxTo rfl 28 (.tmp 1) rfl (some 3) rfl bx C.out.hbx.symm cs.toArray rfl ?_
  rw [← C.out.hwa]
  go_upto_region 10 with fail
  have HN0 := Lib.hid (num_w 2 P base kt ct At B.times _ wa v HS0.out (Cells.below C.out.ht1 HT0.out.bel) C.out.et.symm C.out.ht4 (HT0.out.off HS0.out C.out.ht1) HT0.out.h3 (by decide) (by have h9 := HL.out; (try simp only [List.length_append, leL_len, leB_len, List.length_cons, List.length_nil, ← C.out.ed, ← C.out.et]); omega))
  go_wp2_with (first
    | (go_at_call 25
       refine HN0.out.mono ?_
       rintro e w1 ⟨rfl, v1, hs, hk⟩
       have hKK1 := KK0.out.trans hk
       have hT1 := HT0.out.step HS0.out hk
       obtain ⟨-, -, -, -, -, -, -, -, -, -, -, -, -, -, -, -⟩ := C.out.cells w1 v1 hKK1
       have KK1 := Lib.hid hKK1
       have HT1 := Lib.hid hT1
       have HS1 := Lib.hid hs
       clear hs hk hKK1 hT1))
  exact bodyPost_end (results_none rfl _ _ _) rfl ⟨rfl, v1, (by (try rw [← C.out.ed]); (try rw [← C.out.et]); first | exact HS1.out | simpa [List.append_assoc] using HS1.out), (OutK.fresh C.out.hba).trans KK1.out⟩
set_option maxRecDepth 100000 in
set_option maxHeartbeats 4000000 in
theorem wt_36 (P base : Nat) (cs : List Value) (B : TB) (L : List Int) (w0 w : World) (v : Value) (hT : Tape0 w0 w base P) (h : TBV w0 cs B) (ho : OutS w P base v L) (hL : L.length + wB B ≤ 100000000) (hid : B.id = 36) :
    Calls Try.prog 27 #[.pointer (some ⟨P, 0, none⟩), .agg cs.toArray] w (WrP P base (L ++ leL 2 [B.count]) w v) := by
  obtain ⟨bx, wa, Ad, cd, At, ct, Ai, ci, kd, kt, ki, C_⟩ := wctx hT h ho hL
  have C := Lib.hid C_
  have HBB := Lib.hid hL; have HTB := Lib.hid h
  have hx := C_.cells wa v (OutK.refl _ _ _)
  rw [hid] at hx
  obtain ⟨z0, -, -, -, -, -, -, -, z8, -, -, -, -, -, -, -⟩ := hx
  have HL := Lib.hid C_.hL
  have HS0 := Lib.hid C_.hs0; have HT0 := Lib.hid C_.hT0; have KK0 := Lib.hid (OutK.refl P wa v)
  clear C_ hT h ho hL
  go_enter Try.func27, Try.ntmps27
  go_upto_region 0 with fail
  refine wp_region_list ?_
  refine Great.wpList_boxTo rfl 28 (.tmp 1) rfl (some 3) rfl bx C.out.hbx.symm cs.toArray rfl ?_
  rw [← C.out.hwa]
  go_upto_region 12 with fail
  have HN0 := Lib.hid (num_new 2 P base 1 [B.count] _ wa v _ rfl HS0.out rfl (by intro x hx; simp only [List.mem_cons, List.not_mem_nil, or_false] at hx; rcases hx with rfl <;> exact C.out.wf _ (by simp [TB.nums])) HT0.out.h3 (by decide) (by have h9 := HL.out; (try simp only [List.length_append, leL_len, leB_len, List.length_cons, List.length_nil, ← C.out.ed, ← C.out.et]); omega))
  go_wp2_with (first
    | (go_at_call 25
       refine HN0.out.mono ?_
       rintro e w1 ⟨rfl, v1, hs, hk⟩
       have hKK1 := KK0.out.trans hk
       have hT1 := HT0.out.step HS0.out hk
       obtain ⟨-, -, -, -, -, -, -, -, -, -, -, -, -, -, -, -⟩ := C.out.cells w1 v1 hKK1
       have KK1 := Lib.hid hKK1
       have HT1 := Lib.hid hT1
       have HS1 := Lib.hid hs
       clear hs hk hKK1 hT1))
  exact bodyPost_end (results_none rfl _ _ _) rfl ⟨rfl, v1, (by (try rw [← C.out.ed]); (try rw [← C.out.et]); first | exact HS1.out | simpa [List.append_assoc] using HS1.out), (OutK.fresh C.out.hba).trans KK1.out⟩
set_option maxRecDepth 100000 in
set_option maxHeartbeats 4000000 in
theorem wt_38 (P base : Nat) (cs : List Value) (B : TB) (L : List Int) (w0 w : World) (v : Value) (hT : Tape0 w0 w base P) (h : TBV w0 cs B) (ho : OutS w P base v L) (hL : L.length + wB B ≤ 100000000) (hid : B.id = 38) :
    Calls Try.prog 27 #[.pointer (some ⟨P, 0, none⟩), .agg cs.toArray] w (WrP P base (L ++ (leL 2 [(B.times.length : Int)] ++ leL 2 B.times)) w v) := by
  obtain ⟨bx, wa, Ad, cd, At, ct, Ai, ci, kd, kt, ki, C_⟩ := wctx hT h ho hL
  have C := Lib.hid C_
  have HBB := Lib.hid hL; have HTB := Lib.hid h
  have hx := C_.cells wa v (OutK.refl _ _ _)
  rw [hid] at hx
  obtain ⟨z0, -, -, -, -, -, -, -, -, -, -, -, -, z13, -, -⟩ := hx
  have HL := Lib.hid C_.hL
  have HS0 := Lib.hid C_.hs0; have HT0 := Lib.hid C_.hT0; have KK0 := Lib.hid (OutK.refl P wa v)
  clear C_ hT h ho hL
  go_enter Try.func27, Try.ntmps27
  go_upto_region 0 with fail
  refine wp_region_list ?_
  refine Great.wpList_boxTo rfl 28 (.tmp 1) rfl (some 3) rfl bx C.out.hbx.symm cs.toArray rfl ?_
  rw [← C.out.hwa]
  go_upto_region 14 with fail
  have HN0 := Lib.hid (num_new 2 P base 1 [(kt : Int)] _ wa v _ rfl HS0.out rfl (by intro x hx; simp only [List.mem_cons, List.not_mem_nil, or_false] at hx; subst hx; exact wfK (by have h := HL.out; omega)) HT0.out.h3 (by decide) (by have h9 := HL.out; (try simp only [List.length_append, leL_len, leB_len, List.length_cons, List.length_nil, ← C.out.ed, ← C.out.et]); omega))
  go_upto_region 15 with (first
    | (go_at_call 25
       refine HN0.out.mono ?_
       rintro e w1 ⟨rfl, v1, hs, hk⟩
       have hKK1 := KK0.out.trans hk
       have hT1 := HT0.out.step HS0.out hk
       obtain ⟨-, -, -, -, -, -, -, -, -, -, -, -, -, z13, -, -⟩ := C.out.cells w1 v1 hKK1
       have KK1 := Lib.hid hKK1
       have HT1 := Lib.hid hT1
       have HS1 := Lib.hid hs
       clear hs hk hKK1 hT1))
  have HN1 := Lib.hid (num_w 2 P base kt ct At B.times _ w1 v1 HS1.out (Cells.below C.out.ht1 HT1.out.bel) C.out.et.symm C.out.ht4 (HT1.out.off HS1.out C.out.ht1) HT1.out.h3 (by decide) (by have h9 := HL.out; (try simp only [List.length_append, leL_len, leB_len, List.length_cons, List.length_nil, ← C.out.ed, ← C.out.et]); omega))
  go_wp2_with (first
    | (go_at_call 25
       refine HN1.out.mono ?_
       rintro e w2 ⟨rfl, v2, hs, hk⟩
       have hKK2 := KK1.out.trans hk
       have hT2 := HT1.out.step HS1.out hk
       obtain ⟨-, -, -, -, -, -, -, -, -, -, -, -, -, -, -, -⟩ := C.out.cells w2 v2 hKK2
       have KK2 := Lib.hid hKK2
       have HT2 := Lib.hid hT2
       have HS2 := Lib.hid hs
       clear hs hk hKK2 hT2))
  exact bodyPost_end (results_none rfl _ _ _) rfl ⟨rfl, v2, (by (try rw [← C.out.ed]); (try rw [← C.out.et]); first | exact HS2.out | simpa [List.append_assoc] using HS2.out), (OutK.fresh C.out.hba).trans KK2.out⟩
set_option maxRecDepth 100000 in
set_option maxHeartbeats 4000000 in
theorem wt_40 (P base : Nat) (cs : List Value) (B : TB) (L : List Int) (w0 w : World) (v : Value) (hT : Tape0 w0 w base P) (h : TBV w0 cs B) (ho : OutS w P base v L) (hL : L.length + wB B ≤ 100000000) (hid : B.id = 40) :
    Calls Try.prog 27 #[.pointer (some ⟨P, 0, none⟩), .agg cs.toArray] w (WrP P base (L ++ (leB ((itemsL 2 B.items).length : Int) 2 ++ itemsL 2 B.items)) w v) := by
  obtain ⟨bx, wa, Ad, cd, At, ct, Ai, ci, kd, kt, ki, C_⟩ := wctx hT h ho hL
  have C := Lib.hid C_
  have HBB := Lib.hid hL; have HTB := Lib.hid h
  have hx := C_.cells wa v (OutK.refl _ _ _)
  rw [hid] at hx
  obtain ⟨z0, -, -, -, -, -, -, -, -, -, -, -, -, -, z14, -⟩ := hx
  have HL := Lib.hid C_.hL
  have HS0 := Lib.hid C_.hs0; have HT0 := Lib.hid C_.hT0; have KK0 := Lib.hid (OutK.refl P wa v)
  clear C_ hT h ho hL
  go_enter Try.func27, Try.ntmps27
  go_upto_region 0 with fail
  refine wp_region_list ?_
  refine Great.wpList_boxTo rfl 28 (.tmp 1) rfl (some 3) rfl bx C.out.hbx.symm cs.toArray rfl ?_
  rw [← C.out.hwa]
  go_upto_region 17 with fail
  have HN0 := Lib.hid (items_w 2 P base _ B.items _ w0 wa v HT0.out C.out.hvi HS0.out (by decide) (by have h9 := HL.out; omega))
  go_wp2_with (first
    | (go_at_call 56
       refine HN0.out.mono ?_
       rintro e w1 ⟨rfl, v1, hs, hk⟩
       have hKK1 := KK0.out.trans hk
       have hT1 := HT0.out.step HS0.out hk
       obtain ⟨-, -, -, -, -, -, -, -, -, -, -, -, -, -, -, -⟩ := C.out.cells w1 v1 hKK1
       have KK1 := Lib.hid hKK1
       have HT1 := Lib.hid hT1
       have HS1 := Lib.hid hs
       clear hs hk hKK1 hT1))
  exact bodyPost_end (results_none rfl _ _ _) rfl ⟨rfl, v1, (by (try rw [← C.out.ed]); (try rw [← C.out.et]); first | exact HS1.out | simpa [List.append_assoc] using HS1.out), (OutK.fresh C.out.hba).trans KK1.out⟩
set_option maxRecDepth 100000 in
set_option maxHeartbeats 4000000 in
theorem wt_42 (P base : Nat) (cs : List Value) (B : TB) (L : List Int) (w0 w : World) (v : Value) (hT : Tape0 w0 w base P) (h : TBV w0 cs B) (ho : OutS w P base v L) (hL : L.length + wB B ≤ 100000000) (hid : B.id = 42) :
    Calls Try.prog 27 #[.pointer (some ⟨P, 0, none⟩), .agg cs.toArray] w (WrP P base (L ++ leL 4 [0]) w v) := by
  obtain ⟨bx, wa, Ad, cd, At, ct, Ai, ci, kd, kt, ki, C_⟩ := wctx hT h ho hL
  have C := Lib.hid C_
  have HBB := Lib.hid hL; have HTB := Lib.hid h
  have hx := C_.cells wa v (OutK.refl _ _ _)
  rw [hid] at hx
  obtain ⟨z0, -, -, -, -, -, -, -, -, -, -, -, -, -, -, -⟩ := hx
  have HL := Lib.hid C_.hL
  have HS0 := Lib.hid C_.hs0; have HT0 := Lib.hid C_.hT0; have KK0 := Lib.hid (OutK.refl P wa v)
  clear C_ hT h ho hL
  go_enter Try.func27, Try.ntmps27
  go_upto_region 0 with fail
  refine wp_region_list ?_
  refine Great.wpList_boxTo rfl 28 (.tmp 1) rfl (some 3) rfl bx C.out.hbx.symm cs.toArray rfl ?_
  rw [← C.out.hwa]
  go_upto_region 19 with fail
  have HN0 := Lib.hid (num_new 4 P base 1 [0] _ wa v _ rfl HS0.out rfl (by intro x hx; simp only [List.mem_cons, List.not_mem_nil, or_false] at hx; subst hx; exact wfK (by have h := HL.out; omega)) HT0.out.h3 (by decide) (by have h9 := HL.out; (try simp only [List.length_append, leL_len, leB_len, List.length_cons, List.length_nil, ← C.out.ed, ← C.out.et]); omega))
  go_wp2_with (first
    | (go_at_call 25
       refine HN0.out.mono ?_
       rintro e w1 ⟨rfl, v1, hs, hk⟩
       have hKK1 := KK0.out.trans hk
       have hT1 := HT0.out.step HS0.out hk
       obtain ⟨-, -, -, -, -, -, -, -, -, -, -, -, -, -, -, -⟩ := C.out.cells w1 v1 hKK1
       have KK1 := Lib.hid hKK1
       have HT1 := Lib.hid hT1
       have HS1 := Lib.hid hs
       clear hs hk hKK1 hT1))
  exact bodyPost_end (results_none rfl _ _ _) rfl ⟨rfl, v1, (by (try rw [← C.out.ed]); (try rw [← C.out.et]); first | exact HS1.out | simpa [List.append_assoc] using HS1.out), (OutK.fresh C.out.hba).trans KK1.out⟩
set_option maxRecDepth 100000 in
set_option maxHeartbeats 4000000 in
theorem wt_43 (P base : Nat) (cs : List Value) (B : TB) (L : List Int) (w0 w : World) (v : Value) (hT : Tape0 w0 w base P) (h : TBV w0 cs B) (ho : OutS w P base v L) (hL : L.length + wB B ≤ 100000000) (hid : B.id = 43) :
    Calls Try.prog 27 #[.pointer (some ⟨P, 0, none⟩), .agg cs.toArray] w (WrP P base (L ++ (leL 4 [1] ++ leL 1 [B.used])) w v) := by
  obtain ⟨bx, wa, Ad, cd, At, ct, Ai, ci, kd, kt, ki, C_⟩ := wctx hT h ho hL
  have C := Lib.hid C_
  have HBB := Lib.hid hL; have HTB := Lib.hid h
  have hx := C_.cells wa v (OutK.refl _ _ _)
  rw [hid] at hx
  obtain ⟨z0, -, -, -, -, -, -, -, -, -, -, -, -, -, -, -⟩ := hx
  have HL := Lib.hid C_.hL
  have HS0 := Lib.hid C_.hs0; have HT0 := Lib.hid C_.hT0; have KK0 := Lib.hid (OutK.refl P wa v)
  clear C_ hT h ho hL
  go_enter Try.func27, Try.ntmps27
  go_upto_region 0 with fail
  refine wp_region_list ?_
  refine Great.wpList_boxTo rfl 28 (.tmp 1) rfl (some 3) rfl bx C.out.hbx.symm cs.toArray rfl ?_
  rw [← C.out.hwa]
  go_upto_region 21 with fail
  have HN0 := Lib.hid (num_new 4 P base 1 [1] _ wa v _ rfl HS0.out rfl (by intro x hx; simp only [List.mem_cons, List.not_mem_nil, or_false] at hx; subst hx; exact wfK (by have h := HL.out; omega)) HT0.out.h3 (by decide) (by have h9 := HL.out; (try simp only [List.length_append, leL_len, leB_len, List.length_cons, List.length_nil, ← C.out.ed, ← C.out.et]); omega))
  go_upto_region 22 with (first
    | (go_at_call 25
       refine HN0.out.mono ?_
       rintro e w1 ⟨rfl, v1, hs, hk⟩
       have hKK1 := KK0.out.trans hk
       have hT1 := HT0.out.step HS0.out hk
       obtain ⟨-, -, -, -, -, -, -, -, -, z9, -, -, -, -, -, -⟩ := C.out.cells w1 v1 hKK1
       have KK1 := Lib.hid hKK1
       have HT1 := Lib.hid hT1
       have HS1 := Lib.hid hs
       clear hs hk hKK1 hT1))
  have HN1 := Lib.hid (num_new 1 P base 1 [B.used] _ w1 v1 _ rfl HS1.out rfl (by intro x hx; simp only [List.mem_cons, List.not_mem_nil, or_false] at hx; rcases hx with rfl <;> exact C.out.wf _ (by simp [TB.nums])) HT1.out.h3 (by decide) (by have h9 := HL.out; (try simp only [List.length_append, leL_len, leB_len, List.length_cons, List.length_nil, ← C.out.ed, ← C.out.et]); omega))
  go_wp2_with (first
    | (go_at_call 25
       refine HN1.out.mono ?_
       rintro e w2 ⟨rfl, v2, hs, hk⟩
       have hKK2 := KK1.out.trans hk
       have hT2 := HT1.out.step HS1.out hk
       obtain ⟨-, -, -, -, -, -, -, -, -, -, -, -, -, -, -, -⟩ := C.out.cells w2 v2 hKK2
       have KK2 := Lib.hid hKK2
       have HT2 := Lib.hid hT2
       have HS2 := Lib.hid hs
       clear hs hk hKK2 hT2))
  exact bodyPost_end (results_none rfl _ _ _) rfl ⟨rfl, v2, (by (try rw [← C.out.ed]); (try rw [← C.out.et]); first | exact HS2.out | simpa [List.append_assoc] using HS2.out), (OutK.fresh C.out.hba).trans KK2.out⟩
set_option maxRecDepth 100000 in
set_option maxHeartbeats 4000000 in
theorem wt_49 (P base : Nat) (cs : List Value) (B : TB) (L : List Int) (w0 w : World) (v : Value) (hT : Tape0 w0 w base P) (h : TBV w0 cs B) (ho : OutS w P base v L) (hL : L.length + wB B ≤ 100000000) (hid : B.id = 49) :
    Calls Try.prog 27 #[.pointer (some ⟨P, 0, none⟩), .agg cs.toArray] w (WrP P base (L ++ (leL 1 [B.count] ++ (leB (B.data.length : Int) 1 ++ B.data))) w v) := by
  obtain ⟨bx, wa, Ad, cd, At, ct, Ai, ci, kd, kt, ki, C_⟩ := wctx hT h ho hL
  have C := Lib.hid C_
  have HBB := Lib.hid hL; have HTB := Lib.hid h
  have hx := C_.cells wa v (OutK.refl _ _ _)
  rw [hid] at hx
  obtain ⟨z0, -, -, -, -, -, -, -, z8, -, -, -, -, -, -, -⟩ := hx
  have HL := Lib.hid C_.hL
  have HS0 := Lib.hid C_.hs0; have HT0 := Lib.hid C_.hT0; have KK0 := Lib.hid (OutK.refl P wa v)
  clear C_ hT h ho hL
  go_enter Try.func27, Try.ntmps27
  go_upto_region 0 with fail
  refine wp_region_list ?_
  refine Great.wpList_boxTo rfl 28 (.tmp 1) rfl (some 3) rfl bx C.out.hbx.symm cs.toArray rfl ?_
  rw [← C.out.hwa]
  go_upto_region 24 with fail
  have HN0 := Lib.hid (num_new 1 P base 1 [B.count] _ wa v _ rfl HS0.out rfl (by intro x hx; simp only [List.mem_cons, List.not_mem_nil, or_false] at hx; rcases hx with rfl <;> exact C.out.wf _ (by simp [TB.nums])) HT0.out.h3 (by decide) (by have h9 := HL.out; (try simp only [List.length_append, leL_len, leB_len, List.length_cons, List.length_nil, ← C.out.ed, ← C.out.et]); omega))
  go_upto_region 25 with (first
    | (go_at_call 25
       refine HN0.out.mono ?_
       rintro e w1 ⟨rfl, v1, hs, hk⟩
       have hKK1 := KK0.out.trans hk
       have hT1 := HT0.out.step HS0.out hk
       obtain ⟨-, -, -, -, -, -, -, -, -, -, -, -, z12, -, -, -⟩ := C.out.cells w1 v1 hKK1
       have KK1 := Lib.hid hKK1
       have HT1 := Lib.hid hT1
       have HS1 := Lib.hid hs
       clear hs hk hKK1 hT1))
  have HN1 := Lib.hid (data_w 1 P base kd cd Ad B.data _ w1 v1 HS1.out (Cells.below C.out.hd1 HT1.out.bel) C.out.ed.symm (HT1.out.off HS1.out C.out.hd1) HT1.out.h3 (by decide) (by have h9 := HL.out; (try simp only [List.length_append, leL_len, leB_len, List.length_cons, List.length_nil, ← C.out.ed, ← C.out.et]); omega))
  go_wp2_with (first
    | (go_at_call 54
       refine HN1.out.mono ?_
       rintro e w2 ⟨rfl, v2, hs, hk⟩
       have hKK2 := KK1.out.trans hk
       have hT2 := HT1.out.step HS1.out hk
       obtain ⟨-, -, -, -, -, -, -, -, -, -, -, -, -, -, -, -⟩ := C.out.cells w2 v2 hKK2
       have KK2 := Lib.hid hKK2
       have HT2 := Lib.hid hT2
       have HS2 := Lib.hid hs
       clear hs hk hKK2 hT2))
  exact bodyPost_end (results_none rfl _ _ _) rfl ⟨rfl, v2, (by (try rw [← C.out.ed]); (try rw [← C.out.et]); first | exact HS2.out | simpa [List.append_assoc] using HS2.out), (OutK.fresh C.out.hba).trans KK2.out⟩
set_option maxRecDepth 100000 in
set_option maxHeartbeats 4000000 in
theorem wt_50 (P base : Nat) (cs : List Value) (B : TB) (L : List Int) (w0 w : World) (v : Value) (hT : Tape0 w0 w base P) (h : TBV w0 cs B) (ho : OutS w P base v L) (hL : L.length + wB B ≤ 100000000) (hid : B.id = 50) :
    Calls Try.prog 27 #[.pointer (some ⟨P, 0, none⟩), .agg cs.toArray] w (WrP P base (L ++ (leB ((itemsL 1 B.items).length : Int) 2 ++ itemsL 1 B.items)) w v) := by
  obtain ⟨bx, wa, Ad, cd, At, ct, Ai, ci, kd, kt, ki, C_⟩ := wctx hT h ho hL
  have C := Lib.hid C_
  have HBB := Lib.hid hL; have HTB := Lib.hid h
  have hx := C_.cells wa v (OutK.refl _ _ _)
  rw [hid] at hx
  obtain ⟨z0, -, -, -, -, -, -, -, -, -, -, -, -, -, z14, -⟩ := hx
  have HL := Lib.hid C_.hL
  have HS0 := Lib.hid C_.hs0; have HT0 := Lib.hid C_.hT0; have KK0 := Lib.hid (OutK.refl P wa v)
  clear C_ hT h ho hL
  go_enter Try.func27, Try.ntmps27
  go_upto_region 0 with fail
  refine wp_region_list ?_
  refine Great.wpList_boxTo rfl 28 (.tmp 1) rfl (some 3) rfl bx C.out.hbx.symm cs.toArray rfl ?_
  rw [← C.out.hwa]
  go_upto_region 27 with fail
  have HN0 := Lib.hid (items_w 1 P base _ B.items _ w0 wa v HT0.out C.out.hvi HS0.out (by decide) (by have h9 := HL.out; omega))
  go_wp2_with (first
    | (go_at_call 56
       refine HN0.out.mono ?_
       rintro e w1 ⟨rfl, v1, hs, hk⟩
       have hKK1 := KK0.out.trans hk
       have hT1 := HT0.out.step HS0.out hk
       obtain ⟨-, -, -, -, -, -, -, -, -, -, -, -, -, -, -, -⟩ := C.out.cells w1 v1 hKK1
       have KK1 := Lib.hid hKK1
       have HT1 := Lib.hid hT1
       have HS1 := Lib.hid hs
       clear hs hk hKK1 hT1))
  exact bodyPost_end (results_none rfl _ _ _) rfl ⟨rfl, v1, (by (try rw [← C.out.ed]); (try rw [← C.out.et]); first | exact HS1.out | simpa [List.append_assoc] using HS1.out), (OutK.fresh C.out.hba).trans KK1.out⟩
set_option maxRecDepth 100000 in
set_option maxHeartbeats 4000000 in
theorem wt_51 (P base : Nat) (cs : List Value) (B : TB) (L : List Int) (w0 w : World) (v : Value) (hT : Tape0 w0 w base P) (h : TBV w0 cs B) (ho : OutS w P base v L) (hL : L.length + wB B ≤ 100000000) (hid : B.id = 51) :
    Calls Try.prog 27 #[.pointer (some ⟨P, 0, none⟩), .agg cs.toArray] w (WrP P base (L ++ (leL 1 [(B.times.length : Int) / 3] ++ leL 1 B.times)) w v) := by
  obtain ⟨bx, wa, Ad, cd, At, ct, Ai, ci, kd, kt, ki, C_⟩ := wctx hT h ho hL
  have C := Lib.hid C_
  have HBB := Lib.hid hL; have HTB := Lib.hid h
  have hx := C_.cells wa v (OutK.refl _ _ _)
  rw [hid] at hx
  obtain ⟨z0, -, -, -, -, -, -, -, -, -, -, -, -, z13, -, -⟩ := hx
  have HL := Lib.hid C_.hL
  have HS0 := Lib.hid C_.hs0; have HT0 := Lib.hid C_.hT0; have KK0 := Lib.hid (OutK.refl P wa v)
  clear C_ hT h ho hL
  go_enter Try.func27, Try.ntmps27
  go_upto_region 0 with fail
  refine wp_region_list ?_
  refine Great.wpList_boxTo rfl 28 (.tmp 1) rfl (some 3) rfl bx C.out.hbx.symm cs.toArray rfl ?_
  rw [← C.out.hwa]
  go_upto_region 29 with fail
  have HN0 := Lib.hid (num_new 1 P base 1 [(kt : Int) / 3] _ wa v _ rfl HS0.out rfl (by intro x hx; simp only [List.mem_cons, List.not_mem_nil, or_false] at hx; subst hx; exact wfK (by have h := HL.out; omega)) HT0.out.h3 (by decide) (by have h9 := HL.out; (try simp only [List.length_append, leL_len, leB_len, List.length_cons, List.length_nil, ← C.out.ed, ← C.out.et]); omega))
  have e3 : IntKind.i64.wrap ((kt : Int) / 3) = (kt : Int) / 3 := by rw [IntKind.wrap_i64]; have h := HL.out; omega
  have e4 : Int.tdiv (kt : Int) 3 = (kt : Int) / 3 := Int.tdiv_eq_ediv_of_nonneg (by omega)
  go_upto_region 30 with (first
    | (go_at_call 25
       refine HN0.out.mono ?_
       rintro e w1 ⟨rfl, v1, hs, hk⟩
       have hKK1 := KK0.out.trans hk
       have hT1 := HT0.out.step HS0.out hk
       obtain ⟨-, -, -, -, -, -, -, -, -, -, -, -, -, z13, -, -⟩ := C.out.cells w1 v1 hKK1
       have KK1 := Lib.hid hKK1
       have HT1 := Lib.hid hT1
       have HS1 := Lib.hid hs
       clear hs hk hKK1 hT1))
  have HN1 := Lib.hid (num_w 1 P base kt ct At B.times _ w1 v1 HS1.out (Cells.below C.out.ht1 HT1.out.bel) C.out.et.symm C.out.ht4 (HT1.out.off HS1.out C.out.ht1) HT1.out.h3 (by decide) (by have h9 := HL.out; (try simp only [List.length_append, leL_len, leB_len, List.length_cons, List.length_nil, ← C.out.ed, ← C.out.et]); omega))
  go_wp2_with (first
    | (go_at_call 25
       refine HN1.out.mono ?_
       rintro e w2 ⟨rfl, v2, hs, hk⟩
       have hKK2 := KK1.out.trans hk
       have hT2 := HT1.out.step HS1.out hk
       obtain ⟨-, -, -, -, -, -, -, -, -, -, -, -, -, -, -, -⟩ := C.out.cells w2 v2 hKK2
       have KK2 := Lib.hid hKK2
       have HT2 := Lib.hid hT2
       have HS2 := Lib.hid hs
       clear hs hk hKK2 hT2))
  exact bodyPost_end (results_none rfl _ _ _) rfl ⟨rfl, v2, (by (try rw [← C.out.ed]); (try rw [← C.out.et]); first | exact HS2.out | simpa [List.append_assoc] using HS2.out), (OutK.fresh C.out.hba).trans KK2.out⟩
set_option maxRecDepth 100000 in
set_option maxHeartbeats 4000000 in
theorem wt_52 (P base : Nat) (cs : List Value) (B : TB) (L : List Int) (w0 w : World) (v : Value) (hT : Tape0 w0 w base P) (h : TBV w0 cs B) (ho : OutS w P base v L) (hL : L.length + wB B ≤ 100000000) (hid : B.id = 52) :
    Calls Try.prog 27 #[.pointer (some ⟨P, 0, none⟩), .agg cs.toArray] w (WrP P base (L ++ B.data) w v) := by
  obtain ⟨bx, wa, Ad, cd, At, ct, Ai, ci, kd, kt, ki, C_⟩ := wctx hT h ho hL
  have C := Lib.hid C_
  have HBB := Lib.hid hL; have HTB := Lib.hid h
  have hx := C_.cells wa v (OutK.refl _ _ _)
  rw [hid] at hx
  obtain ⟨z0, -, -, -, -, -, -, -, -, -, -, -, z12, -, -, -⟩ := hx
  have HL := Lib.hid C_.hL
  have HS0 := Lib.hid C_.hs0; have HT0 := Lib.hid C_.hT0; have KK0 := Lib.hid (OutK.refl P wa v)
  clear C_ hT h ho hL
  go_enter Try.func27, Try.ntmps27
  go_upto_region 0 with fail
  refine wp_region_list ?_
  refine Great.wpList_boxTo rfl 28 (.tmp 1) rfl (some 3) rfl bx C.out.hbx.symm cs.toArray rfl ?_
  rw [← C.out.hwa]
  go_upto_region 33 with fail
  have HI0 := Lib.hid (Cells.below C.out.hd1 HT0.out.bel)
  have c0 : wa.cell? ⟨P, 0, none⟩ = some v := HS0.out.blk.cell 0
  have hl0 : L.length + kd ≤ 140737488355328 := by have h9 := HL.out; (try simp only [List.length_append, leL_len, List.length_cons, List.length_nil]); omega
  refine until_start 7 (fun u => u.cell? ⟨P, 0, none⟩ = some v ∧ u.cell? ⟨bx, 12, none⟩ = some (.slice Ad kd cd)) (by kernel_rfl) ?_
  have hS : Hid ((fun u : World => u.cell? ⟨P, 0, none⟩ = some v ∧ u.cell? ⟨bx, 12, none⟩ = some (.slice Ad kd cd)) wa.drew) := Lib.hid ⟨c0, z12⟩
  refine until_take (i := 0) (v := ?_) rfl (by kernel_rfl) (by kernel_rfl) (by kernel_rfl) rfl (fun _ _ _ h => h) (fun _ => hS.out) (Or.inl ⟨by rfl, ?_⟩) ?_
  rotate_left
  · (intro u _; go_simp; try with_reducible rfl)
  try simp only [Act.put, List.setIfInBounds_toArray, List.set_cons_zero, List.set_cons_succ]
  refine until_take (i := 1) (v := ?_) rfl (by kernel_rfl) (by kernel_rfl) (by kernel_rfl) rfl (fun _ _ _ h => h) (fun _ => hS.out) (Or.inl ⟨by rfl, ?_⟩) ?_
  rotate_left
  · (intro u _; go_simp; try with_reducible rfl)
  try simp only [Act.put, List.setIfInBounds_toArray, List.set_cons_zero, List.set_cons_succ]
  refine until_take (i := 2) (v := ?_) rfl (by kernel_rfl) (by kernel_rfl) (by kernel_rfl) rfl (fun _ _ _ h => h) (fun _ => hS.out) (Or.inl ⟨by rfl, ?_⟩) ?_
  rotate_left
  · (intro u _; go_simp; try with_reducible rfl)
  try simp only [Act.put, List.setIfInBounds_toArray, List.set_cons_zero, List.set_cons_succ]
  refine until_take (i := 3) (v := ?_) rfl (by kernel_rfl) (by kernel_rfl) (by kernel_rfl) rfl (fun _ _ _ h => h) (fun _ => hS.out) (Or.inl ⟨by rfl, ?_⟩) ?_
  rotate_left
  · (intro u _; go_simp; try with_reducible rfl)
  try simp only [Act.put, List.setIfInBounds_toArray, List.set_cons_zero, List.set_cons_succ]
  refine until_take (i := 5) (v := ?_) rfl (by kernel_rfl) (by kernel_rfl) (by kernel_rfl) rfl (fun _ _ _ h => h) (fun _ => hS.out) (Or.inl ⟨by rfl, ?_⟩) ?_
  rotate_left
  · (intro u _; go_simp; try with_reducible rfl)
  try simp only [Act.put, List.setIfInBounds_toArray, List.set_cons_zero, List.set_cons_succ]
  refine until_load (i := 4) (v := ?_) [7] rfl (by kernel_rfl) (by kernel_rfl) (by kernel_rfl) (by kernel_rfl) (fun _ _ _ h => h) hS.out (Or.inl ⟨by rfl, ?_⟩) ?_
  rotate_left
  · (rintro u ⟨s1, s2⟩; go_simp; try with_reducible rfl)
  try simp only [Act.put, List.setIfInBounds_toArray, List.set_cons_zero, List.set_cons_succ]
  refine until_load (i := 6) (v := ?_) [7] rfl (by kernel_rfl) (by kernel_rfl) (by kernel_rfl) (by kernel_rfl) (fun _ _ _ h => h) hS.out (Or.inl ⟨by rfl, ?_⟩) ?_
  rotate_left
  · (rintro u ⟨s1, s2⟩; go_simp; try with_reducible rfl)
  try simp only [Act.put, List.setIfInBounds_toArray, List.set_cons_zero, List.set_cons_succ]
  have HSd := Lib.hid (HS0.out.fresh (Below.refl _ wa).drew)
  have HId : Hid (Ints wa.drew Ad .u8 B.data) := Lib.hid (Cells.below HI0.out (Below.refl _ wa).drew)
  have KKd : Hid (OutK P wa v wa.drew v) := Lib.hid (OutK.fresh (Below.refl _ wa).drew)
  refine until_ready (rs := [7]) (by kernel_rfl) (by simp) ?_
  refine AllUntil.cons rfl (fun K hK => ?_) AllUntil.nil
  refine if_wanted rfl ?_
  simp only [List.getElem_toArray, List.getElem_cons_succ, List.getElem_cons_zero, Act.put, List.setIfInBounds_toArray, List.set_cons_zero, List.set_cons_succ]
  refine wpOper_appR (.tmp 104) (.tmp 106) rfl base _ v _ rfl HSd.out.row Ad kd cd B.data rfl HId.out C.out.ed.symm hl0 HT0.out.h3 ?_
  intro va wb ha ga oa
  have hKd : OutK P wa.drew v wb va := OutK.grown ga oa
  have hpb : Blk wb P 60 [v] := HSd.out.blk.grown ga (fun e => HSd.out.ne e.symm)
  have cp : wb.cell? ⟨P, 0, none⟩ = some v := hpb.cell 0
  have fp := hpb.frozen 0
  have hne : va.ownBlock ≠ some P := hKd.ne HSd.out.blk.lt HSd.out.ne
  obtain ⟨v1, hvn⟩ : ∃ x, x = va := ⟨_, rfl⟩
  obtain ⟨sa, sm, sc, rfl⟩ := ha.form
  obtain ⟨w1, hwn⟩ : ∃ x, x = wb.setCell ⟨P, 0, none⟩ (.slice sa sm sc) := ⟨_, rfl⟩
  have hs : OutS w1 P base v1 (L ++ B.data) := by
    rw [hwn, hvn]
    refine ⟨hpb.set_ 0 (.slice sa sm sc), ?_, hne⟩
    have h2 := ha.keep (w' := wb.setCell ⟨P, 0, none⟩ (.slice sa sm sc)) (fun g hg => set_heap (ha.lt g hg).2 (fun e => hne (by rw [hg, e])))
    rw [← List.map_append] at h2
    rw [List.length_append, ← C.out.ed]
    exact h2
  have hk : OutK P wa v w1 v1 := by rw [hwn, hvn]; exact KKd.out.trans (hKd.trans (OutK.set _ _ _ _ rfl))
  have HVN := Lib.hid hvn; have HWN := Lib.hid hwn
  clear ha ga oa hKd hpb hne hvn hwn hS
  refine hK.out _ _ (fun h => by simp at h) ?_
  clear hK K
  try simp only [Act.put, List.setIfInBounds_toArray, List.set_cons_zero, List.set_cons_succ]
  refine until_take (i := 8) (v := ?_) rfl (by kernel_rfl) (by kernel_rfl) (by kernel_rfl) rfl (fun _ _ _ h => h) (fun h => by simp at h) (Or.inl ⟨by rfl, ?_⟩) ?_
  rotate_left
  · (intro u _; go_simp; try with_reducible rfl)
  try simp only [Act.put, List.setIfInBounds_toArray, List.set_cons_zero, List.set_cons_succ]
  refine until_take (i := 9) (v := ?_) rfl (by kernel_rfl) (by kernel_rfl) (by kernel_rfl) rfl (fun _ _ _ h => h) (fun h => by simp at h) (Or.inl ⟨by rfl, ?_⟩) ?_
  rotate_left
  · (intro u _; go_simp; try with_reducible rfl)
  try simp only [Act.put, List.setIfInBounds_toArray, List.set_cons_zero, List.set_cons_succ]
  refine until_ready (rs := [10]) (by kernel_rfl) (by simp) ?_
  refine AllUntil.cons rfl (fun K hK => ?_) AllUntil.nil
  go_simp
  refine hK.out _ _ (fun h => by simp at h) ?_
  clear hK K
  try simp only [Act.put, List.setIfInBounds_toArray, List.set_cons_zero, List.set_cons_succ]
  refine until_done (by kernel_rfl) ?_ _
  rw [← HWN.out]
  have hKK1 := KK0.out.trans hk
  have hT1 := HT0.out.step HS0.out hk
  obtain ⟨-, -, -, -, -, -, -, -, -, -, -, -, -, -, -, -⟩ := C.out.cells w1 v1 hKK1
  have KK1 := Lib.hid hKK1
  have HT1 := Lib.hid hT1
  have HS1 := Lib.hid hs
  clear hs hk hKK1 hT1
  clear cp fp c0 HVN HWN
  go_wp2_with fail
  exact bodyPost_end (results_none rfl _ _ _) rfl ⟨rfl, v1, (by (try rw [← C.out.ed]); (try rw [← C.out.et]); first | exact HS1.out | simpa [List.append_assoc] using HS1.out), (OutK.fresh C.out.hba).trans KK1.out⟩
set_option maxRecDepth 100000 in
set_option maxHeartbeats 4000000 in
theorem wt_90 (P base : Nat) (cs : List Value) (B : TB) (L : List Int) (w0 w : World) (v : Value) (hT : Tape0 w0 w base P) (h : TBV w0 cs B) (ho : OutS w P base v L) (hL : L.length + wB B ≤ 100000000) (hid : B.id = 90) :
    Calls Try.prog 27 #[.pointer (some ⟨P, 0, none⟩), .agg cs.toArray] w (WrP P base (L ++ B.data) w v) := by
  obtain ⟨bx, wa, Ad, cd, At, ct, Ai, ci, kd, kt, ki, C_⟩ := wctx hT h ho hL
  have C := Lib.hid C_
  have HBB := Lib.hid hL; have HTB := Lib.hid h
  have hx := C_.cells wa v (OutK.refl _ _ _)
  rw [hid] at hx
  obtain ⟨z0, -, -, -, -, -, -, -, -, -, -, -, z12, -, -, -⟩ := hx
  have HL := Lib.hid C_.hL
  have HS0 := Lib.hid C_.hs0; have HT0 := Lib.hid C_.hT0; have KK0 := Lib.hid (OutK.refl P wa v)
  clear C_ hT h ho hL
  go_enter Try.func27, Try.ntmps27
  go_upto_region 0 with fail
  refine wp_region_list ?_
  refine Great.wpList_boxTo rfl 28 (.tmp 1) rfl (some 3) rfl bx C.out.hbx.symm cs.toArray rfl ?_
  rw [← C.out.hwa]
  go_upto_region 33 with fail
  have HI0 := Lib.hid (Cells.below C.out.hd1 HT0.out.bel)
  have c0 : wa.cell? ⟨P, 0, none⟩ = some v := HS0.out.blk.cell 0
  have hl0 : L.length + kd ≤ 140737488355328 := by have h9 := HL.out; (try simp only [List.length_append, leL_len, List.length_cons, List.length_nil]); omega
  refine until_start 7 (fun u => u.cell? ⟨P, 0, none⟩ = some v ∧ u.cell? ⟨bx, 12, none⟩ = some (.slice Ad kd cd)) (by kernel_rfl) ?_
  have hS : Hid ((fun u : World => u.cell? ⟨P, 0, none⟩ = some v ∧ u.cell? ⟨bx, 12, none⟩ = some (.slice Ad kd cd)) wa.drew) := Lib.hid ⟨c0, z12⟩
  refine until_take (i := 0) (v := ?_) rfl (by kernel_rfl) (by kernel_rfl) (by kernel_rfl) rfl (fun _ _ _ h => h) (fun _ => hS.out) (Or.inl ⟨by rfl, ?_⟩) ?_
  rotate_left
  · (intro u _; go_simp; try with_reducible rfl)
  try simp only [Act.put, List.setIfInBounds_toArray, List.set_cons_zero, List.set_cons_succ]
  refine until_take (i := 1) (v := ?_) rfl (by kernel_rfl) (by kernel_rfl) (by kernel_rfl) rfl (fun _ _ _ h => h) (fun _ => hS.out) (Or.inl ⟨by rfl, ?_⟩) ?_
  rotate_left
  · (intro u _; go_simp; try with_reducible rfl)
  try simp only [Act.put, List.setIfInBounds_toArray, List.set_cons_zero, List.set_cons_succ]
  refine until_take (i := 2) (v := ?_) rfl (by kernel_rfl) (by kernel_rfl) (by kernel_rfl) rfl (fun _ _ _ h => h) (fun _ => hS.out) (Or.inl ⟨by rfl, ?_⟩) ?_
  rotate_left
  · (intro u _; go_simp; try with_reducible rfl)
  try simp only [Act.put, List.setIfInBounds_toArray, List.set_cons_zero, List.set_cons_succ]
  refine until_take (i := 3) (v := ?_) rfl (by kernel_rfl) (by kernel_rfl) (by kernel_rfl) rfl (fun _ _ _ h => h) (fun _ => hS.out) (Or.inl ⟨by rfl, ?_⟩) ?_
  rotate_left
  · (intro u _; go_simp; try with_reducible rfl)
  try simp only [Act.put, List.setIfInBounds_toArray, List.set_cons_zero, List.set_cons_succ]
  refine until_take (i := 5) (v := ?_) rfl (by kernel_rfl) (by kernel_rfl) (by kernel_rfl) rfl (fun _ _ _ h => h) (fun _ => hS.out) (Or.inl ⟨by rfl, ?_⟩) ?_
  rotate_left
  · (intro u _; go_simp; try with_reducible rfl)
  try simp only [Act.put, List.setIfInBounds_toArray, List.set_cons_zero, List.set_cons_succ]
  refine until_load (i := 4) (v := ?_) [7] rfl (by kernel_rfl) (by kernel_rfl) (by kernel_rfl) (by kernel_rfl) (fun _ _ _ h => h) hS.out (Or.inl ⟨by rfl, ?_⟩) ?_
  rotate_left
  · (rintro u ⟨s1, s2⟩; go_simp; try with_reducible rfl)
  try simp only [Act.put, List.setIfInBounds_toArray, List.set_cons_zero, List.set_cons_succ]
  refine until_load (i := 6) (v := ?_) [7] rfl (by kernel_rfl) (by kernel_rfl) (by kernel_rfl) (by kernel_rfl) (fun _ _ _ h => h) hS.out (Or.inl ⟨by rfl, ?_⟩) ?_
  rotate_left
  · (rintro u ⟨s1, s2⟩; go_simp; try with_reducible rfl)
  try simp only [Act.put, List.setIfInBounds_toArray, List.set_cons_zero, List.set_cons_succ]
  have HSd := Lib.hid (HS0.out.fresh (Below.refl _ wa).drew)
  have HId : Hid (Ints wa.drew Ad .u8 B.data) := Lib.hid (Cells.below HI0.out (Below.refl _ wa).drew)
  have KKd : Hid (OutK P wa v wa.drew v) := Lib.hid (OutK.fresh (Below.refl _ wa).drew)
  refine until_ready (rs := [7]) (by kernel_rfl) (by simp) ?_
  refine AllUntil.cons rfl (fun K hK => ?_) AllUntil.nil
  refine if_wanted rfl ?_
  simp only [List.getElem_toArray, List.getElem_cons_succ, List.getElem_cons_zero, Act.put, List.setIfInBounds_toArray, List.set_cons_zero, List.set_cons_succ]
  refine wpOper_appR (.tmp 104) (.tmp 106) rfl base _ v _ rfl HSd.out.row Ad kd cd B.data rfl HId.out C.out.ed.symm hl0 HT0.out.h3 ?_
  intro va wb ha ga oa
  have hKd : OutK P wa.drew v wb va := OutK.grown ga oa
  have hpb : Blk wb P 60 [v] := HSd.out.blk.grown ga (fun e => HSd.out.ne e.symm)
  have cp : wb.cell? ⟨P, 0, none⟩ = some v := hpb.cell 0
  have fp := hpb.frozen 0
  have hne : va.ownBlock ≠ some P := hKd.ne HSd.out.blk.lt HSd.out.ne
  obtain ⟨v1, hvn⟩ : ∃ x, x = va := ⟨_, rfl⟩
  obtain ⟨sa, sm, sc, rfl⟩ := ha.form
  obtain ⟨w1, hwn⟩ : ∃ x, x = wb.setCell ⟨P, 0, none⟩ (.slice sa sm sc) := ⟨_, rfl⟩
  have hs : OutS w1 P base v1 (L ++ B.data) := by
    rw [hwn, hvn]
    refine ⟨hpb.set_ 0 (.slice sa sm sc), ?_, hne⟩
    have h2 := ha.keep (w' := wb.setCell ⟨P, 0, none⟩ (.slice sa sm sc)) (fun g hg => set_heap (ha.lt g hg).2 (fun e => hne (by rw [hg, e])))
    rw [← List.map_append] at h2
    rw [List.length_append, ← C.out.ed]
    exact h2
  have hk : OutK P wa v w1 v1 := by rw [hwn, hvn]; exact KKd.out.trans (hKd.trans (OutK.set _ _ _ _ rfl))
  have HVN := Lib.hid hvn; have HWN := Lib.hid hwn
  clear ha ga oa hKd hpb hne hvn hwn hS
  refine hK.out _ _ (fun h => by simp at h) ?_
  clear hK K
  try simp only [Act.put, List.setIfInBounds_toArray, List.set_cons_zero, List.set_cons_succ]
  refine until_take (i := 8) (v := ?_) rfl (by kernel_rfl) (by kernel_rfl) (by kernel_rfl) rfl (fun _ _ _ h => h) (fun h => by simp at h) (Or.inl ⟨by rfl, ?_⟩) ?_
  rotate_left
  · (intro u _; go_simp; try with_reducible rfl)
  try simp only [Act.put, List.setIfInBounds_toArray, List.set_cons_zero, List.set_cons_succ]
  refine until_take (i := 9) (v := ?_) rfl (by kernel_rfl) (by kernel_rfl) (by kernel_rfl) rfl (fun _ _ _ h => h) (fun h => by simp at h) (Or.inl ⟨by rfl, ?_⟩) ?_
  rotate_left
  · (intro u _; go_simp; try with_reducible rfl)
  try simp only [Act.put, List.setIfInBounds_toArray, List.set_cons_zero, List.set_cons_succ]
  refine until_ready (rs := [10]) (by kernel_rfl) (by simp) ?_
  refine AllUntil.cons rfl (fun K hK => ?_) AllUntil.nil
  go_simp
  refine hK.out _ _ (fun h => by simp at h) ?_
  clear hK K
  try simp only [Act.put, List.setIfInBounds_toArray, List.set_cons_zero, List.set_cons_succ]
  refine until_done (by kernel_rfl) ?_ _
  rw [← HWN.out]
  have hKK1 := KK0.out.trans hk
  have hT1 := HT0.out.step HS0.out hk
  obtain ⟨-, -, -, -, -, -, -, -, -, -, -, -, -, -, -, -⟩ := C.out.cells w1 v1 hKK1
  have KK1 := Lib.hid hKK1
  have HT1 := Lib.hid hT1
  have HS1 := Lib.hid hs
  clear hs hk hKK1 hT1
  clear cp fp c0 HVN HWN
  go_wp2_with fail
  exact bodyPost_end (results_none rfl _ _ _) rfl ⟨rfl, v1, (by (try rw [← C.out.ed]); (try rw [← C.out.et]); first | exact HS1.out | simpa [List.append_assoc] using HS1.out), (OutK.fresh C.out.hba).trans KK1.out⟩
set_option maxRecDepth 100000 in
set_option maxHeartbeats 4000000 in
theorem wt_53 (P base : Nat) (cs : List Value) (B : TB) (L : List Int) (w0 w : World) (v : Value) (hT : Tape0 w0 w base P) (h : TBV w0 cs B) (ho : OutS w P base v L) (hL : L.length + wB B ≤ 100000000) (hid : B.id = 53) (h53 : B.items.length = 1) :
    Calls Try.prog 27 #[.pointer (some ⟨P, 0, none⟩), .agg cs.toArray] w (WrP P base (L ++ (text53 B ++ (leB (B.data.length : Int) 4 ++ B.data))) w v) := by
  obtain ⟨bx, wa, Ad, cd, At, ct, Ai, ci, kd, kt, ki, C_⟩ := wctx hT h ho hL
  have C := Lib.hid C_
  have HBB := Lib.hid hL; have HTB := Lib.hid h
  have hx := C_.cells wa v (OutK.refl _ _ _)
  rw [hid] at hx
  obtain ⟨z0, -, -, -, -, -, -, -, -, -, -, -, -, -, z14, -⟩ := hx
  obtain ⟨⟨x1, x2⟩, eI⟩ : ∃ y, B.items = [y] := by
    match hB : B.items, h53 with
    | [y], _ => exact ⟨y, rfl⟩
  obtain ⟨-, g5, o5, rv5, hAi, hrg, hrv⟩ := C_.it 0 (x1, x2) (by rw [eI]; rfl)
  obtain ⟨A5, c5, rfl, hx1, hx2, hx3, hx4⟩ := hrv
  simp only [Nat.zero_mul, Nat.add_zero] at hrg hx1 hx4
  have hW5 : x2.length ≤ itemsW B.items := by rw [eI]; simp [itemsW]
  have e53 : text53 B = x2 := by unfold text53; rw [eI]
  have hki : ki = 1 := by rw [C_.ei, eI]; rfl
  rw [e53]
  obtain ⟨k5, e5⟩ : ∃ k, k = x2.length := ⟨_, rfl⟩
  rw [← e5] at hrg hW5
  have HRG := Lib.hid hrg; have HX1 := Lib.hid hx1; have E5 := Lib.hid e5; have HW5 := Lib.hid hW5
  subst hAi
  subst hki
  clear hrg hx1 hx2 hx3 hx4 e5 hW5 eI e53
  have HL := Lib.hid C_.hL
  have HS0 := Lib.hid C_.hs0; have HT0 := Lib.hid C_.hT0; have KK0 := Lib.hid (OutK.refl P wa v)
  clear C_ hT h ho hL
  go_enter Try.func27, Try.ntmps27
  go_upto_region 0 with fail
  refine wp_region_list ?_
  refine Great.wpList_boxTo rfl 28 (.tmp 1) rfl (some 3) rfl bx C.out.hbx.symm cs.toArray rfl ?_
  rw [← C.out.hwa]
  go_upto_region 35 with fail
  have HI0 := Lib.hid (Cells.below HX1.out HT0.out.bel)
  have HR5 := Lib.hid (rangeBelow HRG.out HT0.out.bel)
  have y1 : wa.cell? ⟨g5, o5 + 1, none⟩ = some (.slice A5 k5 c5) := by have h := HR5.out 1 _ rfl; simpa using h
  have c0 : wa.cell? ⟨P, 0, none⟩ = some v := HS0.out.blk.cell 0
  have hl0 : L.length + k5 ≤ 140737488355328 := by have h9 := HL.out; have h7 := HW5.out; (try simp only [List.length_append, leL_len, List.length_cons, List.length_nil]); omega
  refine until_start 10 (fun u => u.cell? ⟨P, 0, none⟩ = some v ∧ u.cell? ⟨bx, 14, none⟩ = some (.slice (some ⟨g5, o5, none⟩) 1 ci) ∧ u.cell? ⟨g5, o5 + 1, none⟩ = some (.slice A5 k5 c5)) (by kernel_rfl) ?_
  have hS : Hid ((fun u : World => u.cell? ⟨P, 0, none⟩ = some v ∧ u.cell? ⟨bx, 14, none⟩ = some (.slice (some ⟨g5, o5, none⟩) 1 ci) ∧ u.cell? ⟨g5, o5 + 1, none⟩ = some (.slice A5 k5 c5)) wa.drew) := Lib.hid ⟨c0, z14, y1⟩
  refine until_take (i := 0) (v := ?_) rfl (by kernel_rfl) (by kernel_rfl) (by kernel_rfl) rfl (fun _ _ _ h => h) (fun _ => hS.out) (Or.inl ⟨by rfl, ?_⟩) ?_
  rotate_left
  · (intro u _; go_simp; try with_reducible rfl)
  try simp only [Act.put, List.setIfInBounds_toArray, List.set_cons_zero, List.set_cons_succ]
  refine until_take (i := 1) (v := ?_) rfl (by kernel_rfl) (by kernel_rfl) (by kernel_rfl) rfl (fun _ _ _ h => h) (fun _ => hS.out) (Or.inl ⟨by rfl, ?_⟩) ?_
  rotate_left
  · (intro u _; go_simp; try with_reducible rfl)
  try simp only [Act.put, List.setIfInBounds_toArray, List.set_cons_zero, List.set_cons_succ]
  refine until_take (i := 2) (v := ?_) rfl (by kernel_rfl) (by kernel_rfl) (by kernel_rfl) rfl (fun _ _ _ h => h) (fun _ => hS.out) (Or.inl ⟨by rfl, ?_⟩) ?_
  rotate_left
  · (intro u _; go_simp; try with_reducible rfl)
  try simp only [Act.put, List.setIfInBounds_toArray, List.set_cons_zero, List.set_cons_succ]
  refine until_take (i := 3) (v := ?_) rfl (by kernel_rfl) (by kernel_rfl) (by kernel_rfl) rfl (fun _ _ _ h => h) (fun _ => hS.out) (Or.inl ⟨by rfl, ?_⟩) ?_
  rotate_left
  · (intro u _; go_simp; try with_reducible rfl)
  try simp only [Act.put, List.setIfInBounds_toArray, List.set_cons_zero, List.set_cons_succ]
  refine until_take (i := 5) (v := ?_) rfl (by kernel_rfl) (by kernel_rfl) (by kernel_rfl) rfl (fun _ _ _ h => h) (fun _ => hS.out) (Or.inl ⟨by rfl, ?_⟩) ?_
  rotate_left
  · (intro u _; go_simp; try with_reducible rfl)
  try simp only [Act.put, List.setIfInBounds_toArray, List.set_cons_zero, List.set_cons_succ]
  refine until_load (i := 4) (v := ?_) [10] rfl (by kernel_rfl) (by kernel_rfl) (by kernel_rfl) (by kernel_rfl) (fun _ _ _ h => h) hS.out (Or.inl ⟨by rfl, ?_⟩) ?_
  rotate_left
  · (rintro u ⟨s1, s2, s3⟩; go_simp; try with_reducible rfl)
  try simp only [Act.put, List.setIfInBounds_toArray, List.set_cons_zero, List.set_cons_succ]
  refine until_load (i := 6) (v := ?_) [7, 8, 9, 10] rfl (by kernel_rfl) (by kernel_rfl) (by kernel_rfl) (by kernel_rfl) (fun _ _ _ h => h) hS.out (Or.inl ⟨by rfl, ?_⟩) ?_
  rotate_left
  · (rintro u ⟨s1, s2, s3⟩; go_simp; try with_reducible rfl)
  try simp only [Act.put, List.setIfInBounds_toArray, List.set_cons_zero, List.set_cons_succ]
  refine until_take (i := 7) (v := ?_) rfl (by kernel_rfl) (by kernel_rfl) (by kernel_rfl) rfl (fun _ _ _ h => h) (fun _ => hS.out) (Or.inl ⟨by rfl, ?_⟩) ?_
  rotate_left
  · (intro u _; go_simp; try with_reducible rfl)
  try simp only [Act.put, List.setIfInBounds_toArray, List.set_cons_zero, List.set_cons_succ]
  refine until_take (i := 8) (v := ?_) rfl (by kernel_rfl) (by kernel_rfl) (by kernel_rfl) rfl (fun _ _ _ h => h) (fun _ => hS.out) (Or.inl ⟨by rfl, ?_⟩) ?_
  rotate_left
  · (intro u _; go_simp; try with_reducible rfl)
  try simp only [Act.put, List.setIfInBounds_toArray, List.set_cons_zero, List.set_cons_succ]
  refine until_load (i := 9) (v := ?_) [10] rfl (by kernel_rfl) (by kernel_rfl) (by kernel_rfl) (by kernel_rfl) (fun _ _ _ h => h) hS.out (Or.inl ⟨by rfl, ?_⟩) ?_
  rotate_left
  · (rintro u ⟨s1, s2, s3⟩; go_simp; try with_reducible rfl)
  try simp only [Act.put, List.setIfInBounds_toArray, List.set_cons_zero, List.set_cons_succ]
  have HSd := Lib.hid (HS0.out.fresh (Below.refl _ wa).drew)
  have HId : Hid (Ints wa.drew A5 .u8 x2) := Lib.hid (Cells.below HI0.out (Below.refl _ wa).drew)
  have KKd : Hid (OutK P wa v wa.drew v) := Lib.hid (OutK.fresh (Below.refl _ wa).drew)
  refine until_ready (rs := [10]) (by kernel_rfl) (by simp) ?_
  refine AllUntil.cons rfl (fun K hK => ?_) AllUntil.nil
  refine if_wanted rfl ?_
  simp only [List.getElem_toArray, List.getElem_cons_succ, List.getElem_cons_zero, Act.put, List.setIfInBounds_toArray, List.set_cons_zero, List.set_cons_succ]
  refine wpOper_appR (.tmp 116) (.tmp 121) rfl base _ v _ rfl HSd.out.row A5 k5 c5 x2 rfl HId.out E5.out.symm hl0 HT0.out.h3 ?_
  intro va wb ha ga oa
  have hKd : OutK P wa.drew v wb va := OutK.grown ga oa
  have hpb : Blk wb P 60 [v] := HSd.out.blk.grown ga (fun e => HSd.out.ne e.symm)
  have cp : wb.cell? ⟨P, 0, none⟩ = some v := hpb.cell 0
  have fp := hpb.frozen 0
  have hne : va.ownBlock ≠ some P := hKd.ne HSd.out.blk.lt HSd.out.ne
  obtain ⟨v1, hvn⟩ : ∃ x, x = va := ⟨_, rfl⟩
  obtain ⟨sa, sm, sc, rfl⟩ := ha.form
  obtain ⟨w1, hwn⟩ : ∃ x, x = wb.setCell ⟨P, 0, none⟩ (.slice sa sm sc) := ⟨_, rfl⟩
  have hs : OutS w1 P base v1 (L ++ x2) := by
    rw [hwn, hvn]
    refine ⟨hpb.set_ 0 (.slice sa sm sc), ?_, hne⟩
    have h2 := ha.keep (w' := wb.setCell ⟨P, 0, none⟩ (.slice sa sm sc)) (fun g hg => set_heap (ha.lt g hg).2 (fun e => hne (by rw [hg, e])))
    rw [← List.map_append] at h2
    rw [List.length_append, ← E5.out]
    exact h2
  have hk : OutK P wa v w1 v1 := by rw [hwn, hvn]; exact KKd.out.trans (hKd.trans (OutK.set _ _ _ _ rfl))
  have HVN := Lib.hid hvn; have HWN := Lib.hid hwn
  clear ha ga oa hKd hpb hne hvn hwn hS
  refine hK.out _ _ (fun h => by simp at h) ?_
  clear hK K
  try simp only [Act.put, List.setIfInBounds_toArray, List.set_cons_zero, List.set_cons_succ]
  refine until_take (i := 11) (v := ?_) rfl (by kernel_rfl) (by kernel_rfl) (by kernel_rfl) rfl (fun _ _ _ h => h) (fun h => by simp at h) (Or.inl ⟨by rfl, ?_⟩) ?_
  rotate_left
  · (intro u _; go_simp; try with_reducible rfl)
  try simp only [Act.put, List.setIfInBounds_toArray, List.set_cons_zero, List.set_cons_succ]
  refine until_take (i := 12) (v := ?_) rfl (by kernel_rfl) (by kernel_rfl) (by kernel_rfl) rfl (fun _ _ _ h => h) (fun h => by simp at h) (Or.inl ⟨by rfl, ?_⟩) ?_
  rotate_left
  · (intro u _; go_simp; try with_reducible rfl)
  try simp only [Act.put, List.setIfInBounds_toArray, List.set_cons_zero, List.set_cons_succ]
  refine until_ready (rs := [13]) (by kernel_rfl) (by simp) ?_
  refine AllUntil.cons rfl (fun K hK => ?_) AllUntil.nil
  go_simp
  refine hK.out _ _ (fun h => by simp at h) ?_
  clear hK K
  try simp only [Act.put, List.setIfInBounds_toArray, List.set_cons_zero, List.set_cons_succ]
  refine until_done (by kernel_rfl) ?_ _
  rw [← HWN.out]
  have hKK1 := KK0.out.trans hk
  have hT1 := HT0.out.step HS0.out hk
  obtain ⟨-, -, -, -, -, -, -, -, -, -, -, -, z12, -, -, -⟩ := C.out.cells w1 v1 hKK1
  have KK1 := Lib.hid hKK1
  have HT1 := Lib.hid hT1
  have HS1 := Lib.hid hs
  clear hs hk hKK1 hT1
  clear cp fp c0 HVN HWN
  go_upto_region 36 with fail
  have HN1 := Lib.hid (data_w 4 P base kd cd Ad B.data _ w1 v1 HS1.out (Cells.below C.out.hd1 HT1.out.bel) C.out.ed.symm (HT1.out.off HS1.out C.out.hd1) HT1.out.h3 (by decide) (by have h6 := HW5.out; have h5 := E5.out; have h9 := HL.out; (try simp only [List.length_append, leL_len, leB_len, List.length_cons, List.length_nil, ← C.out.ed, ← C.out.et]); omega))
  go_wp2_with (first
    | (go_at_call 54
       refine HN1.out.mono ?_
       rintro e w2 ⟨rfl, v2, hs, hk⟩
       have hKK2 := KK1.out.trans hk
       have hT2 := HT1.out.step HS1.out hk
       obtain ⟨-, -, -, -, -, -, -, -, -, -, -, -, -, -, -, -⟩ := C.out.cells w2 v2 hKK2
       have KK2 := Lib.hid hKK2
       have HT2 := Lib.hid hT2
       have HS2 := Lib.hid hs
       clear hs hk hKK2 hT2))
  exact bodyPost_end (results_none rfl _ _ _) rfl ⟨rfl, v2, (by (try rw [← C.out.ed]); (try rw [← C.out.et]); first | exact HS2.out | simpa [List.append_assoc] using HS2.out), (OutK.fresh C.out.hba).trans KK2.out⟩
end Go.Proofs.Ytokidpajialgbaa
