/- op.hex: a number's digits behind a sign. -/
import Derived.Test.YtjkakmmhbciilaaOpH
import Derived.StillTailTactics
namespace Go.Proofs.Ytjkakmmhbciilaa
set_option linter.unusedSimpArgs false
set_option linter.unusedVariables false
open Go.RowKit
theorem infoU8 : (Try.prog.info? 5).map (fun i => (i.zero, i.size, i.bytes)) = some (some (.int .u8 0), 1, 1) := by kernel_rfl
/-- n zero bytes -/
def zeros8 (n : Nat) : List Value := List.replicate n (.int .u8 0)
theorem mkBytes (n : Nat) (hn : n ≤ 281474976710656) (u : World) : (Instr.makeSlice 22 (.int .i64 (n : Int)) (.int .i64 (n : Int))).run Try.prog u =
    .ok (.slice (some ⟨u.heap.size, 0, none⟩) n n) (u.alloc (.cells (zeros8 n).toArray 5)) := by
  obtain ⟨i0, hi, hz0, hz1, hz2⟩ := info_parts infoU8
  have h := run_make (P := Try.prog) u 22 5 i0 (.int .u8 0) Try.underlying22 hi hz0 .i64 .i64 (n : Int) (n : Int) (by omega) (Int.le_refl _) (by rw [hz2]; omega) (by omega)
  have e : madeCells #[Value.int .u8 0] n = (zeros8 n).toArray := by
    apply Array.ext
    · simp [madeCells, zeros8]
    · intro j h1 h2
      simp [madeCells, zeros8, Nat.mod_one]
  have e2 : (n : Int).toNat = n := by omega
  rw [hz1, Nat.mul_one, e2, show (Value.int .u8 0).cells = #[Value.int .u8 0] from rfl, e] at h
  exact h
/-- a digit's sign -/
def hexd (x : Int) : Int := if x < 10 then 48 + x else 87 + x
/-- a number's digits, so many -/
def hexS : Nat → Int → List Int
  | 0, _ => []
  | n + 1, w => hexS n (w / 16) ++ [hexd (w % 16)]
theorem hexS_len : ∀ n w, (hexS n w).length = n
  | 0, _ => rfl
  | n + 1, w => by simp [hexS, hexS_len n]
theorem hexS_ran : ∀ n w, ∀ x ∈ hexS n w, B8 x
  | 0, _ => by simp [hexS]
  | n + 1, w => by
    intro x hx
    simp only [hexS, List.mem_append, List.mem_singleton] at hx
    rcases hx with hx | rfl
    · exact hexS_ran n _ x hx
    · unfold hexd B8; split <;> omega
theorem u16_and_15 (x : Int) (hx : B16 x) : bits .and .u16 x 15 = x % 16 := by
  obtain ⟨x0, x1⟩ := hx
  obtain ⟨n, rfl⟩ := Int.eq_ofNat_of_zero_le x0
  have h1 : (BitVec.ofInt 16 (n : Int)).toNat = n := by simp [BitVec.toNat_ofInt]; omega
  show IntKind.u16.wrap (((BitVec.ofInt 16 (n : Int) &&& BitVec.ofInt 16 15).toNat : Nat) : Int) = _
  have h2 : (BitVec.ofInt 16 15).toNat = 15 := by decide
  rw [BitVec.toNat_and, h1, h2, IntKind.wrap_u16, show (15 : Nat) = 2 ^ 4 - 1 from rfl, Nat.and_two_pow_sub_one_eq_mod]
  omega
theorem zeros_set (k : Nat) (D : List Value) (v : Value) : (zeros8 (k + 1) ++ D).set k v = zeros8 k ++ v :: D := by
  unfold zeros8
  rw [List.replicate_succ', List.append_assoc, List.set_append_right _ _ (by simp)]
  simp
/-- a text of numbers -/
def txt (l : List Int) : Value := .string ⟨(l.map (fun x => UInt8.ofNat x.toNat)).toArray⟩
theorem digit_at : ∀ (n : Nat) (h : n < 16), ((((⟨#[48, 49, 50, 51, 52, 53, 54, 55, 56, 57, 97, 98, 99, 100, 101, 102]⟩ : ByteArray)[n]'h).toNat : Nat) : Int) = hexd (n : Nat) := by decide
theorem digit_of (x : Int) (h0 : 0 ≤ x) (h1 : x < 16) (h : x.toNat < (⟨#[48, 49, 50, 51, 52, 53, 54, 55, 56, 57, 97, 98, 99, 100, 101, 102]⟩ : ByteArray).size) :
    ((((⟨#[48, 49, 50, 51, 52, 53, 54, 55, 56, 57, 97, 98, 99, 100, 101, 102]⟩ : ByteArray)[x.toNat]'h).toNat : Nat) : Int) = hexd x := by
  obtain ⟨n, rfl⟩ := Int.eq_ofNat_of_zero_le h0
  exact digit_at n (by omega)
theorem push_all : ∀ (l : List Int) (b : ByteArray), l.foldl (fun r n => r.push (UInt8.ofNat n.toNat)) b = ⟨(b.data.toList ++ l.map (fun x => UInt8.ofNat x.toNat)).toArray⟩
  | [], b => by simp
  | x :: l, b => by
    rw [List.foldl_cons, push_all l]
    congr 1
    simp [ByteArray.push]
theorem conv_txt (w : World) (g n c : Nat) (l : List Int) (hb : Blk w g 5 (l.map (.int .u8 ·))) (hn : l.length = n) :
    (convert 22 9 (.slice (some ⟨g, 0, none⟩) n c)).run Try.prog w = .ok (txt l) w := by
  have h := run_loadCells_list (P := Try.prog) w ⟨g, 0, none⟩ (l.map (.int .u8 ·)) (fun j v hv => by
    have hadd : (⟨g, 0, none⟩ : Addr).add j = ⟨g, j, none⟩ := by unfold Addr.add; split <;> simp_all
    rw [hadd, hb.cell, hv])
  rw [List.length_map, hn] at h
  rw [run_convert_bytes_string w 22 9 5 _ n c Try.underlying22 Try.underlying5 Try.underlying9, run_bytesToString w _ n c l h, push_all]
  rfl
theorem sign_set (k : Nat) (D : List Value) (v : Value) : (.int .u8 36 :: (zeros8 (k + 1) ++ D)).set (k + 1) v = .int .u8 36 :: (zeros8 k ++ v :: D) := by
  rw [List.set_cons_succ, zeros_set]
set_option maxHeartbeats 2000000 in
theorem hex_any (n : Nat) (x : Int) (w : World) (hx : B16 x) (hn : n ≤ 100) :
    Calls Try.prog 46 #[.int .u16 x, .int .i64 n] w fun e w' => e = .returned (txt (36 :: hexS n x)) ∧ Below w.heap.size w w' := by
  obtain ⟨R, hR⟩ : ∃ R, R = hexS n x := ⟨_, rfl⟩
  have hRl : R.length = n := by rw [hR]; exact hexS_len n x
  rw [← hR]
  have HR := Lib.hid hR; have HRL := Lib.hid hRl
  clear hR hRl
  have hmk : (Instr.makeSlice 22 (.int .i64 ((n : Int) + 1)) (.int .i64 ((n : Int) + 1))).run Try.prog w = .ok (.slice (some ⟨w.heap.size, 0, none⟩) (n + 1) (n + 1)) (w.alloc (.cells (zeros8 (n + 1)).toArray 5)) := mkBytes (n + 1) (by omega) w
  have hb1 : Blk (w.alloc (.cells (zeros8 (n + 1)).toArray 5)) w.heap.size 5 (zeros8 (n + 1)) := Blk.new w _ _
  have hB1 : Below w.heap.size w (w.alloc (.cells (zeros8 (n + 1)).toArray 5)) := (Below.refl _ _).alloc (Nat.le_refl _) _
  obtain ⟨w1, hw1⟩ : ∃ w1, w1 = w.alloc (.cells (zeros8 (n + 1)).toArray 5) := ⟨_, rfl⟩
  rw [← hw1] at hmk hb1 hB1
  have c1 : w1.cell? ⟨w.heap.size, 0, none⟩ = some (.int .u8 0) := by rw [hb1.cell]; rfl
  have f1 := hb1.frozen 0
  have HB1 := Lib.hid hb1
  have HBL := Lib.hid hB1
  clear hw1 hb1 hB1
  go_enter Try.func46, Try.ntmps46
  go_wp2_with fail
  go_loopw [0, 6] (fun u i wr => ∃ (k : Nat) (y : Int) (D : List Int), k ≤ n ∧ i = .int .i64 k ∧ u = .int .u16 y ∧ B16 y ∧ Blk wr w.heap.size 5 (.int .u8 36 :: (zeros8 k ++ D.map (.int .u8 ·))) ∧ Below w.heap.size w wr ∧ Hid (hexS k y ++ D = R)) (fun _ i _ => (intOf i).toNat)
  case atStart => exact ⟨n, x, [], Nat.le_refl _, rfl, rfl, hx, by have h := HB1.out.set_ 0 (.int .u8 36); simpa [zeros8, List.replicate_succ] using h, HBL.out.setCell (Nat.le_refl _) _, by show _ = _; rw [HR.out, List.append_nil]⟩
  case round =>
    obtain ⟨k, y, D, hk, rfl, rfl, hy, hb, hB, HD⟩ := hrel
    cases k with
    | zero =>
      have hD : D = R := by have := HD.out; simpa [hexS] using this
      subst hD
      have hcv := conv_txt wr w.heap.size (n + 1) (n + 1) (36 :: D) (by simpa [zeros8] using hb) (by simp [HRL.out])
      have HB := Lib.hid hb
      clear hmk
      go_wp2_with fail
      go_ret
      exact ⟨rfl, hB⟩
    | succ j =>
      obtain ⟨y0, y1⟩ := hy
      have e1 := u16_and_15 y ⟨y0, y1⟩
      have hf := hb.frozen (j + 1)
      have hcell : wr.cell? ⟨w.heap.size, j + 1, none⟩ = some (.int .u8 0) := by
        rw [hb.cell, List.getElem?_cons_succ, List.getElem?_append_left (by simp [zeros8])]
        simp [zeros8]
      have HBK := Lib.hid hb
      have hdg := digit_of (y % 16) (by omega) (by omega)
      clear hb
      go_wp2_with fail
      refine ⟨⟨j, y / 16, hexd (y % 16) :: D, by omega, ?_, rfl, ⟨by omega, by omega⟩, ?_, hB.setCell (Nat.le_refl _) _, ?_⟩, ?_⟩
      · go_num
      · have h := HBK.out.set_ (j + 1) (.int .u8 (hexd (y % 16)))
        rw [sign_set] at h
        exact h
      · show _ = _
        rw [← HD.out]
        simp [hexS]
      · simp [intOf]; try omega
end Go.Proofs.Ytjkakmmhbciilaa
