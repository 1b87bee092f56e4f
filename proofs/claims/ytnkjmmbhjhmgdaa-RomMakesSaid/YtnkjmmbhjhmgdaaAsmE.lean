/- A program that is put together: To, Near, may, next, Delay. -/
import Derived.Test.YtnkjmmbhjhmgdaaAsmD
namespace Go.Proofs.Ytnkjmmbhjhmgdaa
set_option linter.unusedSimpArgs false
set_option linter.unusedVariables false
open Go.RowKit Go.Maps
theorem ints_of_blk {w : World} {g : Nat} {l : List Int} (h : Blk w g 5 (l.map (.int .u8 ·))) : Ints w (some ⟨g, 0, none⟩) .u8 l := fun i v hi =>
  ⟨_, rfl, by rw [Addr.add_mid, Nat.zero_add, h.cell i]; exact hi⟩
theorem asm_bytes_new (B P M nm T : Nat) (d : AsmD) (n : Nat) (l : List Int) (w : World) (h : AsmS B P M nm w d) (ok : AsmOk d T) (hn : l.length = n) (hm : n ≤ 1000000000) :
    Calls Try.prog 11 #[.pointer (some ⟨P, 0, none⟩), .slice (some ⟨w.heap.size, 0, none⟩) n n] (w.alloc (.cells (l.map (.int .u8 ·)).toArray 5)) (AsmR B P M nm (bytesF d l) w) := by
  have hb := below_alloc1 w (.cells (l.map (Value.int .u8 ·)).toArray 5)
  refine (asm_bytes B P M nm T d _ n n l _ (h.below_ hb) ok (ints_of_blk (Blk.new w 5 (l.map (.int .u8 ·)))) hn hm (fun e => by cases e)).mono ?_
  rintro e w' ⟨rfl, h1, h2⟩
  exact ⟨rfl, h1, (h.toB hb).trans h2⟩
theorem asm_to (B P M nm T : Nat) (d : AsmD) (s : ByteArray) (A : Option Addr) (n c : Nat) (l : List Int) (w : World) (h : AsmS B P M nm w d) (ok : AsmOk d T) (hT : T ≤ 1000) (hl : Ints w A .u8 l) (hn : l.length = n) (hm : n ≤ 100000000) (hnil : A = none → n = 0 ∧ c = 0) :
    Calls Try.prog 12 #[.pointer (some ⟨P, 0, none⟩), .string s, .slice A n c] w (AsmR B P M nm (fillF d s false l) w) := by
  have H := Lib.hid (asm_fill B P M nm T d s false A n c l w h ok hT hl hn hm hnil)
  clear h ok hl hn hnil
  go_enter Try.func12, Try.ntmps12
  go_wp2_with (first
    | (go_at_call 23; refine H.out.mono ?_; rintro e w1 ⟨rfl, h1, h2⟩))
  go_end0
  exact ⟨rfl, h1, h2⟩
theorem asm_near (B P M nm T : Nat) (d : AsmD) (s : ByteArray) (x : Int) (w : World) (h : AsmS B P M nm w d) (ok : AsmOk d T) (hT : T ≤ 1000) :
    Calls Try.prog 15 #[.pointer (some ⟨P, 0, none⟩), .string s, .int .u8 x] w (AsmR B P M nm (fillF d s true [x]) w) := by
  have hb := below_alloc1 w (.cells #[.int .u8 x] 5)
  have H := Lib.hid (asm_fill B P M nm T d s true _ 1 1 [x] _ (h.below_ hb) ok hT (ints_of_blk (Blk.new w 5 [.int .u8 x])) rfl (by omega) (fun e => by cases e))
  have HB := Lib.hid (h.toB hb)
  clear h ok hb
  go_enter Try.func15, Try.ntmps15
  go_wp2_with (first
    | (go_at_call 23; refine H.out.mono ?_; rintro e w1 ⟨rfl, h1, h2⟩))
  go_end0
  exact ⟨rfl, h1, HB.out.trans h2⟩
def mayB (n : Int) : Bool := decide (n = 0 ∨ n = 4 ∨ n = 7 ∨ n = 8 ∨ n = 10 ∨ n = 11 ∨ n = 12 ∨ (14 ≤ n ∧ n ≤ 1000000))
set_option maxHeartbeats 1000000 in
theorem asm_may (n : Int) (w : World) : Calls Try.prog 37 #[.int .i64 n] w fun e w' => e = .returned (.bool (mayB n)) ∧ w = w' := by
  go_enter Try.func37, Try.ntmps37
  by_cases h : n = 0 ∨ n = 4 ∨ n = 7 ∨ n = 8 ∨ n = 10 ∨ n = 11 ∨ n = 12
  · have hm : mayB n = true := by unfold mayB; simp; omega
    rw [hm]
    rcases h with rfl | rfl | rfl | rfl | rfl | rfl | rfl
    all_goals
      go_wp2_with fail
      go_ret
      exact ⟨rfl, rfl⟩
  · have h0 : ¬ n = 0 := by omega
    have h1 : ¬ n = 4 := by omega
    have h2 : ¬ n = 7 := by omega
    have h3 : ¬ n = 8 := by omega
    have h4 : ¬ n = 10 := by omega
    have h5 : ¬ n = 11 := by omega
    have h6 : ¬ n = 12 := by omega
    by_cases h7 : 14 ≤ n
    · by_cases h8 : n ≤ 1000000
      · have hm : mayB n = true := by unfold mayB; simp; omega
        rw [hm]
        go_wp2_with fail
        go_ret
        exact ⟨rfl, rfl⟩
      · have hm : mayB n = false := by unfold mayB; simp; omega
        rw [hm]
        go_wp2_with fail
        go_ret
        exact ⟨rfl, rfl⟩
    · have hm : mayB n = false := by unfold mayB; simp; omega
      rw [hm]
      go_wp2_with fail
      go_ret
      exact ⟨rfl, rfl⟩
def nextL (x : Int) : List Int := [195, (x + 3) % 256, (x + 3) / 256 % 256]
def nextF (d : AsmD) : AsmD := bytesF d (nextL d.here)
theorem AsmOk.nextF {d : AsmD} {T : Nat} (h : AsmOk d T) : AsmOk (nextF d) T := by
  unfold Go.Proofs.Ytnkjmmbhjhmgdaa.nextF
  refine h.bytesF (fun x hx => ?_)
  unfold nextL at hx
  simp at hx
  omega
set_option maxHeartbeats 1000000 in
theorem asm_next (B P M nm T : Nat) (d : AsmD) (w : World) (h : AsmS B P M nm w d) (ok : AsmOk d T) :
    Calls Try.prog 38 #[.pointer (some ⟨P, 0, none⟩)] w (AsmR B P M nm (nextF d) w) := by
  obtain ⟨vo, vt, h1, h2, h3⟩ := h.ex
  obtain ⟨Ao, co, rfl, hAo, hco⟩ := own_form h2
  have HHERE := Lib.hid (asm_here P d.org d.e Ao d.out.length co _ _ w h1 ok.org0 ok.top)
  have o0 := ok.org0
  have o1 := ok.top
  have HS := Lib.hid h
  have HOK := Lib.hid ok
  obtain ⟨x, hx⟩ : ∃ x, x = d.org + (d.out.length : Int) := ⟨_, rfl⟩
  have HX := Lib.hid hx
  rw [← hx] at HHERE o1
  have x0 : 0 ≤ x := by omega
  have e1 : IntKind.u8.wrap (x + 3) = (x + 3) % 256 := by rw [IntKind.wrap_u8]
  have e2 : IntKind.u8.wrap ((x + 3) / 256) = (x + 3) / 256 % 256 := by rw [IntKind.wrap_u8]
  clear h h1 h2 h3 hx ok
  go_enter Try.func38, Try.ntmps38
  go_wp2_with (first
    | (go_at_call 22; refine HHERE.out.mono ?_; rintro e w2 ⟨rfl, hb2⟩; have HB2 := Lib.hid hb2; have HS2 := Lib.hid (HS.out.below_ hb2); clear hb2)
    | (go_at_call 11; refine (asm_bytes_new B P M nm T d 3 (nextL x) w2 HS2.out HOK.out rfl (by omega)).mono ?_; rintro e w3 ⟨rfl, k1, k2⟩; have K1 := Lib.hid k1; have K2 := Lib.hid k2; clear k1 k2))
  go_end0
  have e : nextF d = bytesF d (nextL x) := by unfold nextF AsmD.here; rw [HX.out]
  rw [e]
  exact ⟨rfl, K1.out, (HS.out.toB HB2.out).trans K2.out⟩
end Go.Proofs.Ytnkjmmbhjhmgdaa
