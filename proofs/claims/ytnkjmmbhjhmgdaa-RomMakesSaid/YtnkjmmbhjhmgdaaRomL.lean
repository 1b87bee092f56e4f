/- A ROM that is put together: its calls fit. -/
import Derived.Test.YtnkjmmbhjhmgdaaRomK
import Derived.Test.YtnkjmmbhjhmgdaaRomE
import Derived.Test.YtnkjmmbhjhmgdaaRomF
import Derived.Test.YtnkjmmbhjhmgdaaRomH
import Derived.Test.YtnkjmmbhjhmgdaaRomI
namespace Go.Proofs.Ytnkjmmbhjhmgdaa
set_option linter.unusedSimpArgs false
set_option linter.unusedVariables false
open Go.RowKit Go.Maps Go.Sort
def opsA : List OpL := [opBytes [243], opTo ⟨#[115, 116, 111, 112]⟩ [195], opBytes (List.replicate 52 0), opBytes [251, 237, 77], opBytes (List.replicate 43 0), opBytes [237, 69], opBytes (List.replicate 152 0), opTo ⟨#[115, 97, 118, 101]⟩ [195], opTo ⟨#[108, 111, 97, 100]⟩ [195], opTo ⟨#[116, 117, 114, 98, 111]⟩ [195], opMark ⟨#[115, 116, 111, 112]⟩, opBytes [118], opNear ⟨#[115, 116, 111, 112]⟩ 24]
def opsC : List OpL := p_load ++ p_listen
def opsB (t : TimL) (n : Int) : List OpL := opsA ++ p_savers t n ++ opsC
def nmS : List ByteArray := [⟨#[115, 97, 118, 101]⟩, ((⟨#[115]⟩ : ByteArray) ++ ⟨#[112, 105, 108, 111, 116]⟩), ((⟨#[115]⟩ : ByteArray) ++ ⟨#[115, 121, 110, 99]⟩), ((⟨#[115]⟩ : ByteArray) ++ ⟨#[112, 97, 100]⟩), ((⟨#[115]⟩ : ByteArray) ++ ⟨#[98, 105, 116]⟩), ((⟨#[115]⟩ : ByteArray) ++ ⟨#[111, 110, 101]⟩), ((⟨#[115]⟩ : ByteArray) ++ ⟨#[110, 101, 120, 116]⟩), ((⟨#[115]⟩ : ByteArray) ++ ⟨#[115, 117, 109]⟩), ((⟨#[115]⟩ : ByteArray) ++ ⟨#[119, 97, 105, 116]⟩), ((⟨#[115]⟩ : ByteArray) ++ ⟨#[106, 111, 105, 110]⟩), ((⟨#[115]⟩ : ByteArray) ++ ⟨#[100, 111, 110, 101]⟩), ⟨#[116, 117, 114, 98, 111]⟩, ((⟨#[116]⟩ : ByteArray) ++ ⟨#[112, 105, 108, 111, 116]⟩), ((⟨#[116]⟩ : ByteArray) ++ ⟨#[115, 121, 110, 99]⟩), ((⟨#[116]⟩ : ByteArray) ++ ⟨#[112, 97, 100]⟩), ((⟨#[116]⟩ : ByteArray) ++ ⟨#[98, 105, 116]⟩), ((⟨#[116]⟩ : ByteArray) ++ ⟨#[111, 110, 101]⟩), ((⟨#[116]⟩ : ByteArray) ++ ⟨#[110, 101, 120, 116]⟩), ((⟨#[116]⟩ : ByteArray) ++ ⟨#[115, 117, 109]⟩), ((⟨#[116]⟩ : ByteArray) ++ ⟨#[119, 97, 105, 116]⟩), ((⟨#[116]⟩ : ByteArray) ++ ⟨#[106, 111, 105, 110]⟩), ((⟨#[116]⟩ : ByteArray) ++ ⟨#[100, 111, 110, 101]⟩)]
def rfS : List ByteArray := [((⟨#[115]⟩ : ByteArray) ++ ⟨#[112, 105, 108, 111, 116]⟩), ((⟨#[115]⟩ : ByteArray) ++ ⟨#[115, 121, 110, 99]⟩), ((⟨#[115]⟩ : ByteArray) ++ ⟨#[112, 105, 108, 111, 116]⟩), ((⟨#[115]⟩ : ByteArray) ++ ⟨#[98, 105, 116]⟩), ((⟨#[115]⟩ : ByteArray) ++ ⟨#[98, 105, 116]⟩), ((⟨#[115]⟩ : ByteArray) ++ ⟨#[111, 110, 101]⟩), ((⟨#[115]⟩ : ByteArray) ++ ⟨#[110, 101, 120, 116]⟩), ((⟨#[115]⟩ : ByteArray) ++ ⟨#[110, 101, 120, 116]⟩), ((⟨#[115]⟩ : ByteArray) ++ ⟨#[112, 97, 100]⟩), ((⟨#[115]⟩ : ByteArray) ++ ⟨#[100, 111, 110, 101]⟩), ((⟨#[115]⟩ : ByteArray) ++ ⟨#[115, 117, 109]⟩), ((⟨#[115]⟩ : ByteArray) ++ ⟨#[106, 111, 105, 110]⟩), ((⟨#[115]⟩ : ByteArray) ++ ⟨#[119, 97, 105, 116]⟩), ((⟨#[115]⟩ : ByteArray) ++ ⟨#[106, 111, 105, 110]⟩), ((⟨#[115]⟩ : ByteArray) ++ ⟨#[98, 105, 116]⟩), ((⟨#[116]⟩ : ByteArray) ++ ⟨#[112, 105, 108, 111, 116]⟩), ((⟨#[116]⟩ : ByteArray) ++ ⟨#[115, 121, 110, 99]⟩), ((⟨#[116]⟩ : ByteArray) ++ ⟨#[112, 105, 108, 111, 116]⟩), ((⟨#[116]⟩ : ByteArray) ++ ⟨#[98, 105, 116]⟩), ((⟨#[116]⟩ : ByteArray) ++ ⟨#[98, 105, 116]⟩), ((⟨#[116]⟩ : ByteArray) ++ ⟨#[111, 110, 101]⟩), ((⟨#[116]⟩ : ByteArray) ++ ⟨#[110, 101, 120, 116]⟩), ((⟨#[116]⟩ : ByteArray) ++ ⟨#[110, 101, 120, 116]⟩), ((⟨#[116]⟩ : ByteArray) ++ ⟨#[112, 97, 100]⟩), ((⟨#[116]⟩ : ByteArray) ++ ⟨#[100, 111, 110, 101]⟩), ((⟨#[116]⟩ : ByteArray) ++ ⟨#[115, 117, 109]⟩), ((⟨#[116]⟩ : ByteArray) ++ ⟨#[106, 111, 105, 110]⟩), ((⟨#[116]⟩ : ByteArray) ++ ⟨#[119, 97, 105, 116]⟩), ((⟨#[116]⟩ : ByteArray) ++ ⟨#[106, 111, 105, 110]⟩), ((⟨#[116]⟩ : ByteArray) ++ ⟨#[98, 105, 116]⟩)]
set_option maxRecDepth 100000 in
theorem names_savers (t : TimL) (n : Int) : names (p_savers t n) = nmS := by kernel_rfl
set_option maxRecDepth 100000 in
theorem refs_savers (t : TimL) (n : Int) : refs (p_savers t n) = rfS := by kernel_rfl
set_option maxRecDepth 100000 in
theorem nums_savers (t : TimL) (n : Int) : nums (p_savers t n) = [tStd.pilot - 72, tStd.sync1 - 72, tStd.sync2 - 18, 125, 108, tStd.zero - 178, tStd.zero - 18, tStd.one - 178, tStd.one - 18, 3500, t.pilot - 72, t.sync1 - 72, t.sync2 - 18, 125, 108, t.zero - 178, t.zero - 18, t.one - 178, t.one - 18, 3500] := by kernel_rfl
set_option maxRecDepth 100000 in
theorem near_savers (t : TimL) (n : Int) : ((p_savers t n).all fun o => !decide (o.kind = 3)) = true := by kernel_rfl
set_option maxRecDepth 100000 in
theorem fix_savers (t : TimL) (n : Int) : fixL (p_savers t n) = 262 := by kernel_rfl
set_option maxRecDepth 100000 in
theorem names_dist : (names opsA ++ nmS ++ names opsC).Nodup := by decide +kernel
set_option maxRecDepth 100000 in
theorem refs_all : ((refs opsA ++ rfS ++ refs opsC).all fun s => (names opsA ++ nmS ++ names opsC).any fun x => decide (x = s)) = true := by decide +kernel
theorem refs_in : ∀ s ∈ refs opsA ++ rfS ++ refs opsC, s ∈ names opsA ++ nmS ++ names opsC := fun s hs => by
  have h := List.all_eq_true.1 refs_all s hs
  obtain ⟨x, hx, e⟩ := List.any_eq_true.1 h
  rw [← of_decide_eq_true e]
  exact hx
theorem nums_A : nums opsA = [] := by kernel_rfl
theorem nums_C : nums opsC = [] := by kernel_rfl
theorem fix_A : fixL opsA = 268 := by kernel_rfl
theorem fix_C : fixL opsC = 147 := by kernel_rfl
set_option maxRecDepth 100000 in
theorem near_A : nearB (marksAt opsA 0) opsA 0 = true := by decide +kernel
set_option maxRecDepth 100000 in
theorem near_C : nearB (marksAt opsC 0) opsC 0 = true := by decide +kernel
/-- the calls that make a ROM fit -/
theorem rom_fits (t : TimL) (n : Int) (ht : TimOk t) (X : List OpL) (hX : names X = [] ∧ refs X = [] ∧ nums X = []) (hx3 : (X.all fun o => !decide (o.kind = 3)) = true) (hs : sumL X ≤ 40000) :
    sumL (opsB t n) ≤ 16384 ∧ ((opsB t n ++ X).foldl callF (newD 0)).here = sumL (opsB t n ++ X) ∧ (doneF ((opsB t n ++ X).foldl callF (newD 0))).1 = 0 ∧ (doneF ((opsB t n ++ X).foldl callF (newD 0))).2.length = sumL (opsB t n ++ X) := by
  obtain ⟨hX1, hX2, hX3⟩ := hX
  have hN : names (opsB t n ++ X) = names opsA ++ nmS ++ names opsC := by unfold opsB; rw [names_append, names_append, names_append, names_savers, hX1, List.append_nil]
  have hR : refs (opsB t n ++ X) = refs opsA ++ rfS ++ refs opsC := by unfold opsB; rw [refs_append, refs_append, refs_append, refs_savers, hX2, List.append_nil]
  have hD : nums (opsB t n ++ X) = nums (p_savers t n) := by unfold opsB; rw [nums_append, nums_append, nums_append, hX3, nums_A, nums_C]; simp
  have hD0 : nums (opsB t n) = nums (p_savers t n) := by unfold opsB; rw [nums_append, nums_append, nums_A, nums_C]; simp
  have hF : fixL (opsB t n) = 677 := by unfold opsB; rw [fixL_append, fixL_append, fix_A, fix_savers, fix_C]
  have hb : ∀ x ∈ nums (p_savers t n), 14 ≤ x ∧ x ≤ 65535 := by
    rw [nums_savers]
    have := ht.p0; have := ht.p1; have := ht.a0; have := ht.a1; have := ht.b0; have := ht.b1; have := ht.z0; have := ht.z1; have := ht.o0; have := ht.o1
    have := tStd_ok.p0; have := tStd_ok.p1; have := tStd_ok.a0; have := tStd_ok.a1; have := tStd_ok.b0; have := tStd_ok.b1; have := tStd_ok.z0; have := tStd_ok.z1; have := tStd_ok.o0; have := tStd_ok.o1
    intro x hx
    simp only [List.mem_cons, List.not_mem_nil, or_false] at hx
    omega
  have hS0 : sumL (opsB t n) ≤ 16384 := by
    have h1 := sum_le (opsB t n) (by rw [hD0]; intro x hx; have := hb x hx; omega)
    have h2 : (nums (opsB t n)).length = 20 := by rw [hD0, nums_savers]; rfl
    rw [h2, hF] at h1
    omega
  have hSX := sumL_append (opsB t n) X
  refine ⟨hS0, calls_ok (opsB t n ++ X) ?_ ?_ ?_ ?_ (by omega)⟩
  · rw [hD]
    intro x hx
    have := hb x hx
    unfold mayB
    simp
    omega
  · rw [hN]; exact names_dist
  · rw [hN, hR]; exact refs_in
  · have hdist : ZDist (marksAt (opsB t n ++ X) 0) := dist_marks _ _ (by rw [hN]; exact names_dist)
    obtain ⟨Z, hZ⟩ : ∃ Z, Z = marksAt (opsB t n ++ X) 0 := ⟨_, rfl⟩
    rw [← hZ] at hdist ⊢
    have hz0 := hZ
    unfold opsB at hZ
    rw [List.append_assoc, List.append_assoc, marks_append, marks_append] at hZ
    have hdist2 := hdist
    rw [hZ] at hdist2
    unfold opsB
    rw [List.append_assoc, List.append_assoc]
    refine near_append Z _ _ 0 ?_ (near_append Z _ _ _ (near_none Z _ _ (near_savers t n)) (near_append Z _ _ _ ?_ (near_none Z _ _ hx3)))
    · have := near_of (marksAt opsA 0) Z 0 hdist (fun s x h => by rw [hZ, Int.add_zero]; exact look_left h) opsA 0 near_A
      simpa using this
    · obtain ⟨b, hb⟩ : ∃ b : Int, b = 0 + (sumL opsA : Int) + (sumL (p_savers t n) : Int) := ⟨_, rfl⟩
      rw [← hb] at hZ hdist2 ⊢
      have := near_of (marksAt opsC 0) Z b hdist (fun s x h => by
        rw [hZ]
        refine look_right hdist2 ?_
        have hd3 := (List.pairwise_append.1 hdist2).2.1
        refine look_right hd3 ?_
        rw [marks_append]
        refine look_left ?_
        have e : b = 0 + b := by omega
        rw [e, marks_shift]
        have := look_shift (marksAt opsC 0) b s x h
        simpa using this) opsC 0 near_C
      simpa using this
/-- the first rows are where they stand -/
theorem here_1 : ((([] ++ [opBytes [243]] ++ [opTo (⟨#[115, 116, 111, 112]⟩) [195]]) : List OpL).foldl callF (newD 0)).here = 4 := by kernel_rfl
end Go.Proofs.Ytnkjmmbhjhmgdaa
