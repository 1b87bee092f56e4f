/- spell.out: the blocks of any other ID, branch by branch. Written by gen_spw2.py. -/
import Derived.Test.YtokidpajialgbaaQSpWG
import Derived.Test.YtokidpajialgbaaQUnt
namespace Go.Proofs.Ytokidpajialgbaa
set_option linter.unusedSimpArgs false
set_option linter.unusedVariables false
open Go.RowKit
set_option maxRecDepth 100000 in
set_option maxHeartbeats 4000000 in
theorem ws_def (P base : Nat) (cs : List Value) (B : TB) (L : List Int) (w0 w : World) (v : Value) (hT : Tape0 w0 w base P) (h : TBV w0 cs B) (ho : OutS w P base v L) (hL : L.length + wB B ≤ 100000000) (hid : ∀ k ∈ ([16, 17, 18, 19, 20, 21, 24, 25, 32] : List Int), B.id ≠ k) :
    Calls Try.prog 26 #[.pointer (some ⟨P, 0, none⟩), .agg cs.toArray] w (SoP false P base (L ++ []) w v) := by
  obtain ⟨bx, wa, Ad, cd, At, ct, Ai, ci, kd, kt, ki, C_⟩ := wctx hT h ho hL
  have C := Lib.hid C_
  have HBB := Lib.hid hL; have HTB := Lib.hid h
  have hx := C_.cells wa v (OutK.refl _ _ _)
  have e16_ : (B.id == 16) = false := by simpa using hid 16 (by simp)
  have e17_ : (B.id == 17) = false := by simpa using hid 17 (by simp)
  have e18_ : (B.id == 18) = false := by simpa using hid 18 (by simp)
  have e19_ : (B.id == 19) = false := by simpa using hid 19 (by simp)
  have e20_ : (B.id == 20) = false := by simpa using hid 20 (by simp)
  have e21_ : (B.id == 21) = false := by simpa using hid 21 (by simp)
  have e24_ : (B.id == 24) = false := by simpa using hid 24 (by simp)
  have e25_ : (B.id == 25) = false := by simpa using hid 25 (by simp)
  have e32_ : (B.id == 32) = false := by simpa using hid 32 (by simp)
  clear hid
  obtain ⟨z0, -, -, -, -, -, -, -, -, -, -, -, -, -, -, -⟩ := hx
  have HL := Lib.hid C_.hL
  have HS0 := Lib.hid C_.hs0; have HT0 := Lib.hid C_.hT0; have KK0 := Lib.hid (OutK.refl P wa v)
  clear C_ hT h ho hL
  go_enter Try.func26, Try.ntmps26
  go_upto_region 0 with fail
  refine wp_region_list ?_
  refine Great.wpList_boxTo rfl 28 (.tmp 1) rfl (some 3) rfl bx C.out.hbx.symm cs.toArray rfl ?_
  rw [← C.out.hwa]
  go_wp2_with fail
  go_ret
  exact ⟨rfl, v, (by (try rw [← C.out.ed]); (try rw [← C.out.et]); first | exact HS0.out | simpa [List.append_assoc] using HS0.out), (OutK.fresh C.out.hba).trans KK0.out⟩
set_option maxRecDepth 100000 in
set_option maxHeartbeats 4000000 in
theorem wt_def (P base : Nat) (cs : List Value) (B : TB) (L : List Int) (w0 w : World) (v : Value) (hT : Tape0 w0 w base P) (h : TBV w0 cs B) (ho : OutS w P base v L) (hL : L.length + wB B ≤ 100000000) (hid : ∀ k ∈ ([33, 34, 35, 36, 37, 38, 39, 40, 42, 43, 48, 49, 50, 51, 52, 53, 90] : List Int), B.id ≠ k) :
    Calls Try.prog 27 #[.pointer (some ⟨P, 0, none⟩), .agg cs.toArray] w (WrP P base (L ++ (leB (B.data.length : Int) 4 ++ B.data)) w v) := by
  obtain ⟨bx, wa, Ad, cd, At, ct, Ai, ci, kd, kt, ki, C_⟩ := wctx hT h ho hL
  have C := Lib.hid C_
  have HBB := Lib.hid hL; have HTB := Lib.hid h
  have hx := C_.cells wa v (OutK.refl _ _ _)
  have e33_ : (B.id == 33) = false := by simpa using hid 33 (by simp)
  have e34_ : (B.id == 34) = false := by simpa using hid 34 (by simp)
  have e35_ : (B.id == 35) = false := by simpa using hid 35 (by simp)
  have e36_ : (B.id == 36) = false := by simpa using hid 36 (by simp)
  have e37_ : (B.id == 37) = false := by simpa using hid 37 (by simp)
  have e38_ : (B.id == 38) = false := by simpa using hid 38 (by simp)
  have e39_ : (B.id == 39) = false := by simpa using hid 39 (by simp)
  have e40_ : (B.id == 40) = false := by simpa using hid 40 (by simp)
  have e42_ : (B.id == 42) = false := by simpa using hid 42 (by simp)
  have e43_ : (B.id == 43) = false := by simpa using hid 43 (by simp)
  have e48_ : (B.id == 48) = false := by simpa using hid 48 (by simp)
  have e49_ : (B.id == 49) = false := by simpa using hid 49 (by simp)
  have e50_ : (B.id == 50) = false := by simpa using hid 50 (by simp)
  have e51_ : (B.id == 51) = false := by simpa using hid 51 (by simp)
  have e52_ : (B.id == 52) = false := by simpa using hid 52 (by simp)
  have e53_ : (B.id == 53) = false := by simpa using hid 53 (by simp)
  have e90_ : (B.id == 90) = false := by simpa using hid 90 (by simp)
  clear hid
  obtain ⟨z0, -, -, -, -, -, -, -, -, -, -, -, z12, -, -, -⟩ := hx
  have HL := Lib.hid C_.hL
  have HS0 := Lib.hid C_.hs0; have HT0 := Lib.hid C_.hT0; have KK0 := Lib.hid (OutK.refl P wa v)
  clear C_ hT h ho hL
  go_enter Try.func27, Try.ntmps27
  go_upto_region 0 with fail
  refine wp_region_list ?_
  refine Great.wpList_boxTo rfl 28 (.tmp 1) rfl (some 3) rfl bx C.out.hbx.symm cs.toArray rfl ?_
  rw [← C.out.hwa]
  go_upto_region 2 with fail
  have HN0 := Lib.hid (data_w 4 P base kd cd Ad B.data _ wa v HS0.out (Cells.below C.out.hd1 HT0.out.bel) C.out.ed.symm (HT0.out.off HS0.out C.out.hd1) HT0.out.h3 (by decide) (by have h9 := HL.out; (try simp only [List.length_append, leL_len, leB_len, List.length_cons, List.length_nil, ← C.out.ed, ← C.out.et]); omega))
  go_wp2_with (first
    | (go_at_call 54
       refine HN0.out.mono ?_
       rintro e w1 ⟨rfl, v1, hs, hk⟩
       have hKK1 := KK0.out.trans hk
       have hT1 := HT0.out.step HS0.out hk
       obtain ⟨-, -, -, -, -, -, -, -, -, -, -, -, -, -, -, -⟩ := C.out.cells w1 v1 hKK1
       have KK1 := Lib.hid hKK1
       have HT1 := Lib.hid hT1
       have HS1 := Lib.hid hs
       clear hs hk hKK1 hT1))
  exact bodyPost_end (results_none rfl _ _ _) rfl ⟨rfl, v1, (by (try rw [← C.out.ed]); (try rw [← C.out.et]); first | exact HS1.out | simpa [List.append_assoc] using HS1.out), (OutK.fresh C.out.hba).trans KK1.out⟩
end Go.Proofs.Ytokidpajialgbaa
