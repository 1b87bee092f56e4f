/- inflate.usual. -/
import Derived.Test.YtcjdeinmmokdgaaInfN
import Derived.BigRegion
import Derived.Deep.DeepCutAuto
import Derived.Laws.MakeOwn
namespace Go.Proofs.Ytcjdeinmmokdgaa
set_option linter.unusedSimpArgs false
set_option linter.unusedVariables false
open Go.RowKit
namespace Hf
/-- the usual length of a symbol -/
def uLen (i : Nat) : Int := if i < 144 ∨ 280 ≤ i then 8 else if i < 256 then 9 else 7
/-- a row of n of which k are told -/
def row (f : Nat → Int) (n k : Nat) : List Value := (List.range k).map (fun i => Value.int .i64 (f i)) ++ List.replicate (n - k) (.int .i64 0)
theorem row_zero (f : Nat → Int) (n : Nat) : row f n 0 = zeros n := by simp [row, zeros]
theorem row_get (f : Nat → Int) (n k : Nat) (h : k < n) : (row f n k)[k]? = some (.int .i64 0) := by
  unfold row
  obtain ⟨m, hm⟩ : ∃ m, n - k = m + 1 := ⟨n - k - 1, by omega⟩
  rw [List.getElem?_append_right (by simp), hm, List.replicate_succ]
  simp
theorem row_len (f : Nat → Int) (n k : Nat) (h : k ≤ n) : (row f n k).length = n := by simp [row]; omega
theorem row_set (f : Nat → Int) (n k : Nat) (hk : k < n) : (row f n k).set k (.int .i64 (f k)) = row f n (k + 1) := by
  unfold row
  rw [List.set_append_right _ _ (by simp)]
  obtain ⟨m, hm⟩ : ∃ m, n - k = m + 1 := ⟨n - k - 1, by omega⟩
  rw [hm, List.range_succ, show n - (k + 1) = m by omega]
  simp [List.replicate_succ]
theorem row_full (f : Nat → Int) (n : Nat) : row f n n = ((List.range n).map f).map (Value.int .i64) := by simp [row]
def usualL : List Int := (List.range 288).map uLen
def usualD : List Int := (List.range 32).map (fun _ => 5)
theorem err_usualL : err usualL = 0 := by decide +kernel
theorem err_usualD : err usualD = 0 := by decide +kernel
end Hf
theorem ints_of_blk0 {w : World} {g : Nat} {t : TypeId} {k : IntKind} {l : List Int} (h : Blk w g t (l.map (Value.int k))) : Ints w (some ⟨g, 0, none⟩) k l := fun i v hi => by
  refine ⟨_, rfl, ?_⟩
  have hadd : (⟨g, 0, none⟩ : Addr).add i = ⟨g, i, none⟩ := by unfold Addr.add; split <;> simp_all
  rw [hadd, h.cell, hi]
def UsualP (w : World) (e : Ending) (w' : World) : Prop :=
  ∃ gl gd, e = .returned (.tuple #[.slice (some ⟨gl, 0, none⟩) 288 288, .slice (some ⟨gd, 0, none⟩) 32 32]) ∧ Ints w' (some ⟨gl, 0, none⟩) .i64 Hf.usualL ∧ Ints w' (some ⟨gd, 0, none⟩) .i64 Hf.usualD ∧ Below w.heap.size w w'
set_option maxRecDepth 100000 in
set_option maxHeartbeats 4000000 in
theorem usual_any (w : World) : Calls Try.prog 22 #[] w (UsualP w) := by
  have h288 := mkInts 288 (by omega)
  have h32 := mkInts 32 (by omega)
  simp [go_sem] at h288 h32
  go_enter Try.func22, Try.ntmps22
  go_upto_region 1 with fail
  go_cut [2, 3] (fun a b wx => ∃ gl gd : Nat, a = .slice (some ⟨gl, 0, none⟩) 288 288 ∧ b = .slice (some ⟨gd, 0, none⟩) 32 32 ∧ gl ≠ gd ∧ w.heap.size ≤ gl ∧ w.heap.size ≤ gd ∧ Blk wx gl 3 (zeros 288) ∧ Blk wx gd 3 (zeros 32) ∧ Below w.heap.size w wx)
  case first =>
    go_region
    all_goals
      go_wp2
      go_meet
    · exact ⟨w.heap.size, w.heap.size + 1, rfl, rfl, by omega, Nat.le_refl _, Nat.le_succ _, blk_alloc2_old w _ _ _, blk_alloc2_new w _ _ _, (((Below.refl _ w).alloc (Nat.le_refl _) _).alloc (by simp) _).drew⟩
    · exact ⟨w.heap.size + 1, w.heap.size, rfl, rfl, by omega, Nat.le_succ _, Nat.le_refl _, blk_alloc2_new w _ _ _, blk_alloc2_old w _ _ _, (((Below.refl _ w).alloc (Nat.le_refl _) _).alloc (by simp) _).drew⟩
  case rest =>
    obtain ⟨gl, gd, rfl, rfl, hne, h1, h2, hb1, hb2, hb⟩ := hcut
    have HNE := Lib.hid hne
    have HL := Lib.hid hb1
    have HD := Lib.hid hb2
    have HB := Lib.hid hb
    have HG1 := Lib.hid h1
    have HG2 := Lib.hid h2
    clear hne hb1 hb2 hb h1 h2 h288 h32
    go_wp2
    go_loopw [10] (fun i wr => ∃ k : Nat, k ≤ 288 ∧ i = .int .i64 (k : Nat) ∧ Blk wr gl 3 (Hf.row Hf.uLen 288 k) ∧ Blk wr gd 3 (zeros 32) ∧ Below w.heap.size w wr) (fun i _ => 288 - (intOf i).toNat)
    case atStart => exact ⟨0, by omega, rfl, by rw [Hf.row_zero]; exact HL.out, HD.out, HB.out⟩
    case round =>
      obtain ⟨k, hk, rfl, hbl, hbd, hbb⟩ := hrel
      have HBL := Lib.hid hbl
      have HBD := Lib.hid hbd
      have HBB := Lib.hid hbb
      clear hbl hbd hbb
      obtain ⟨wo, rfl⟩ : ∃ wo : World, wo = wr := ⟨_, rfl⟩
      by_cases hlt : k < 288
      · have ck : wo.cell? ⟨gl, k, none⟩ = some (.int .i64 0) := by rw [HBL.out.cell, Hf.row_get _ _ _ hlt]
        have fk := HBL.out.frozen k
        by_cases K1 : k < 144
        · have HV : Hid (Hf.uLen k = 8) := if_pos (.inl K1)
          have d2 : (k : Int) < 144 := by omega
          go_wp2
          go_roundw
          case rel =>
            refine ⟨k + 1, by omega, by go_num, ?_, HBD.out.far (by show gd ≠ gl; exact Ne.symm HNE.out) _, HBB.out.setCell HG1.out _⟩
            rw [← Hf.row_set _ _ _ hlt, HV.out]
            exact HBL.out.set_ k _
          case measure => simp [intOf]; omega
        · have d2 : ¬ ((k : Int) < 144) := by omega
          by_cases K2 : 280 ≤ k
          · have HV : Hid (Hf.uLen k = 8) := if_pos (.inr K2)
            have d3 : (280 : Int) ≤ k := by omega
            go_wp2
            go_roundw
            case rel =>
              refine ⟨k + 1, by omega, by go_num, ?_, HBD.out.far (by show gd ≠ gl; exact Ne.symm HNE.out) _, HBB.out.setCell HG1.out _⟩
              rw [← Hf.row_set _ _ _ hlt, HV.out]
              exact HBL.out.set_ k _
            case measure => simp [intOf]; omega
          · have d3 : ¬ ((280 : Int) ≤ k) := by omega
            by_cases K3 : k < 256
            · have HV : Hid (Hf.uLen k = 9) := by show _ = _; unfold Hf.uLen; rw [if_neg (by omega), if_pos K3]
              have d4 : (k : Int) < 256 := by omega
              go_wp2
              go_roundw
              case rel =>
                refine ⟨k + 1, by omega, by go_num, ?_, HBD.out.far (by show gd ≠ gl; exact Ne.symm HNE.out) _, HBB.out.setCell HG1.out _⟩
                rw [← Hf.row_set _ _ _ hlt, HV.out]
                exact HBL.out.set_ k _
              case measure => simp [intOf]; omega
            · have HV : Hid (Hf.uLen k = 7) := by show _ = _; unfold Hf.uLen; rw [if_neg (by omega), if_neg K3]
              have d4 : ¬ ((k : Int) < 256) := by omega
              go_wp2
              go_roundw
              case rel =>
                refine ⟨k + 1, by omega, by go_num, ?_, HBD.out.far (by show gd ≠ gl; exact Ne.symm HNE.out) _, HBB.out.setCell HG1.out _⟩
                rw [← Hf.row_set _ _ _ hlt, HV.out]
                exact HBL.out.set_ k _
              case measure => simp [intOf]; omega
      · obtain rfl : k = 288 := by omega
        go_wp2
        go_loopw [35] (fun i wr => ∃ k : Nat, k ≤ 32 ∧ i = .int .i64 (k : Nat) ∧ Blk wr gl 3 (Hf.row Hf.uLen 288 288) ∧ Blk wr gd 3 (Hf.row (fun _ => 5) 32 k) ∧ Below w.heap.size w wr) (fun i _ => 32 - (intOf i).toNat)
        case atStart => exact ⟨0, by omega, rfl, HBL.out, by rw [Hf.row_zero]; exact HBD.out, HBB.out⟩
        case round =>
          obtain ⟨k, hk, rfl, hbl, hbd, hbb⟩ := hrel
          have HBL2 := Lib.hid hbl
          have HBD2 := Lib.hid hbd
          have HBB2 := Lib.hid hbb
          clear hbl hbd hbb
          by_cases hlt : k < 32
          · have ck : wr.cell? ⟨gd, k, none⟩ = some (.int .i64 0) := by rw [HBD2.out.cell, Hf.row_get _ _ _ hlt]
            have fk := HBD2.out.frozen k
            go_wp2
            go_roundw
            case rel =>
              refine ⟨k + 1, by omega, by go_num, HBL2.out.far (by show gl ≠ gd; exact HNE.out) _, ?_, HBB2.out.setCell HG2.out _⟩
              rw [← Hf.row_set _ _ _ hlt]
              exact HBD2.out.set_ k _
            case measure => simp [intOf]; omega
          · obtain rfl : k = 32 := by omega
            go_wp2
            go_ret2
            refine ⟨gl, gd, rfl, ?_, ?_, HBB2.out⟩
            · have := HBL2.out
              rw [Hf.row_full] at this
              exact ints_of_blk0 this
            · have := HBD2.out
              rw [Hf.row_full] at this
              exact ints_of_blk0 this
end Go.Proofs.Ytcjdeinmmokdgaa
