/- A program that is put together: bad, here, Bytes, Mark. -/
import Derived.Test.YtnkjmmbhjhmgdaaAsmA
namespace Go.Proofs.Ytnkjmmbhjhmgdaa
set_option linter.unusedSimpArgs false
set_option linter.unusedVariables false
open Go.RowKit Go.Maps
theorem infoU8 : (Try.prog.info? 5).map (fun i => (i.zero, i.size, i.bytes)) = some (some (.int .u8 0), 1, 1) := by kernel_rfl
theorem infoTold : (Try.prog.info? 63).map (fun i => (i.zero, i.size, i.bytes)) = some (some (.agg #[.string ⟨#[]⟩, .int .i64 0, .bool false]), 3, 32) := by kernel_rfl
/-- how great it may be -/
structure AsmOk (d : AsmD) (T : Nat) : Prop where
  org0 : 0 ≤ d.org
  org1 : d.org ≤ 65535
  top : d.org + d.out.length ≤ 65536
  byte : ∀ x ∈ d.out, 0 ≤ x ∧ x ≤ 255
  told : d.td.length ≤ T
theorem AsmOk.len {d : AsmD} {T : Nat} (h : AsmOk d T) : d.out.length ≤ 65536 := by have := h.org0; have := h.top; omega
theorem asm_bad_nil (w : World) : Calls Try.prog 21 #[.pointer none] w fun e w' => e = .returned (.bool true) ∧ w = w' := by
  go_enter Try.func21, Try.ntmps21
  go_wp2_with fail
  go_ret
  exact ⟨rfl, rfl⟩
theorem asm_bad (P : Nat) (o e : Int) (vo vm vt : Value) (w : World) (h : Blk w P 54 [.int .i64 o, vo, vm, vt, .int .i64 e]) : Calls Try.prog 21 #[.pointer (some ⟨P, 0, none⟩)] w fun x w' => x = .returned (.bool (decide (e ≠ 0))) ∧ w = w' := by
  have c4 : w.cell? ⟨P, 4, none⟩ = some (.int .i64 e) := h.cell 4
  go_enter Try.func21, Try.ntmps21
  by_cases he : e = 0
  · subst he
    go_wp2_with fail
    go_ret
    exact ⟨rfl, rfl⟩
  · go_wp2_with fail
    go_ret
    exact ⟨by simp [he], rfl⟩
theorem asm_here (P : Nat) (o e : Int) (A : Option Addr) (n c : Nat) (vm vt : Value) (w : World) (h : Blk w P 54 [.int .i64 o, .slice A n c, vm, vt, .int .i64 e]) (h0 : 0 ≤ o) (h1 : o + n ≤ 65536) : Calls Try.prog 22 #[.pointer (some ⟨P, 0, none⟩)] w fun x w' => x = .returned (.int .i64 (o + n)) ∧ Below w.heap.size w w' := by
  have c0 : w.cell? ⟨P, 0, none⟩ = some (.int .i64 o) := h.cell 0
  have c1 : w.cell? ⟨P, 1, none⟩ = some (.slice A n c) := h.cell 1
  have e1 : IntKind.i64.wrap (o + n) = o + n := by rw [IntKind.wrap_i64]; omega
  go_enter Try.func22, Try.ntmps22
  go_wp2_with fail
  go_quiet (fail)
  all_goals
    go_wp2_with fail
    go_ret
    exact ⟨rfl, Below_drewN (Below.refl _ w) _⟩
def bytesF (d : AsmD) (l : List Int) : AsmD := if d.e ≠ 0 then d else if 65536 < d.org + d.out.length + l.length then { d with e := 8 } else { d with out := d.out ++ l }
theorem AsmOk.bytesF {d : AsmD} {T : Nat} (h : AsmOk d T) {l : List Int} (hl : ∀ x ∈ l, 0 ≤ x ∧ x ≤ 255) : AsmOk (bytesF d l) T := by
  unfold Go.Proofs.Ytnkjmmbhjhmgdaa.bytesF
  split
  · exact h
  · split
    · exact ⟨h.org0, h.org1, h.top, h.byte, h.told⟩
    · refine ⟨h.org0, h.org1, ?_, fun x hx => ?_, h.told⟩
      · simp; omega
      · rcases List.mem_append.1 hx with hx | hx
        · exact h.byte x hx
        · exact hl x hx
/-- what a call on such a program does -/
def AsmR (B P M nm : Nat) (d : AsmD) (w : World) (e : Ending) (w' : World) : Prop := e = .returned (.tuple #[]) ∧ AsmS B P M nm w' d ∧ Frm B w w'
set_option maxRecDepth 100000 in
set_option maxHeartbeats 4000000 in
theorem asm_bytes (B P M nm T : Nat) (d : AsmD) (A : Option Addr) (n c : Nat) (l : List Int) (w : World) (h : AsmS B P M nm w d) (ok : AsmOk d T) (hl : Ints w A .u8 l) (hn : l.length = n) (hm : n ≤ 1000000000) (hnil : A = none → n = 0 ∧ c = 0) :
    Calls Try.prog 11 #[.pointer (some ⟨P, 0, none⟩), .slice A n c] w (AsmR B P M nm (bytesF d l) w) := by
  obtain ⟨vo, vt, h1, h2, h3⟩ := h.ex
  obtain ⟨Ao, co, rfl, hAo, hco⟩ := own_form h2
  have c1 : w.cell? ⟨P, 1, none⟩ = some (.slice Ao d.out.length co) := h1.cell 1
  have f4 := h1.frozen 4
  have hPB := h.leP
  have hlt := h.lt
  have o0 := ok.org0
  have o1 := ok.top
  have HS := Lib.hid h; have HL := Lib.hid hl; have HN := Lib.hid hn; have H1 := Lib.hid h1; have H2 := Lib.hid h2; have H3 := Lib.hid h3
  have HBAD := Lib.hid (asm_bad P d.org d.e _ _ _ w h1)
  have HHERE := Lib.hid (asm_here P d.org d.e Ao d.out.length co _ _ w h1 o0 o1)
  have ee := Lib.hid hnil
  clear h hl hn h1 h2 h3 hAo hnil
  by_cases he : d.e = 0
  · have hbd : (decide (d.e ≠ 0)) = false := by simp [he]
    rw [hbd] at HBAD
    have e1 : IntKind.i64.wrap (65536 - (d.org + (d.out.length : Int))) = 65536 - (d.org + (d.out.length : Int)) := by rw [IntKind.wrap_i64]; omega
    go_enter Try.func11, Try.ntmps11
    by_cases ht : 65536 - (d.org + (d.out.length : Int)) < (n : Int)
    · go_wp2_with (first
        | (go_at_call 21; refine HBAD.out.mono ?_; rintro e w1 ⟨rfl, rfl⟩)
        | (go_at_call 22; refine HHERE.out.mono ?_; rintro e w2 ⟨rfl, hb2⟩; have HS2 := Lib.hid (HS.out.below_ hb2); have f42 := (H1.out.below_ hb2).frozen 4; have c42 : w2.cell? ⟨P, 4, none⟩ = some (.int .i64 d.e) := (H1.out.below_ hb2).cell 4; have HB2 := Lib.hid (HS.out.toB hb2); clear hb2))
      go_end0
      have e : bytesF d l = { d with e := 8 } := by unfold bytesF; rw [if_neg (by omega), if_pos (by have := HN.out; omega)]
      rw [e]
      exact ⟨rfl, HS2.out.setE 8, HB2.out.setP HS2.out.blkP hPB _⟩
    · have hsum : d.out.length + n ≤ 65536 := by omega
      go_wp2_with (first
        | (go_at_call 21; refine HBAD.out.mono ?_; rintro e w1 ⟨rfl, rfl⟩)
        | (go_at_call 22; refine HHERE.out.mono ?_; rintro e w2 ⟨rfl, hb2⟩; have HS2 := Lib.hid (HS.out.below_ hb2); have H12 := Lib.hid (H1.out.below_ hb2); have H22 := Lib.hid (own_below H2.out hb2); have H32 := Lib.hid (own_below H3.out hb2); have HL2 := Lib.hid (HL.out.below hb2); have c12 : w2.cell? ⟨P, 1, none⟩ = some (.slice Ao d.out.length co) := cell_below hb2 c1; have HB2 := Lib.hid (HS.out.toB hb2); have hs2 := hb2.size; clear hb2)
        | (at_builtin; refine wpList_appAny _ rfl (.tmp 19) (.tmp 20) 25 rfl B 5 (.int .u8 0) 1 Try.underlying25 infoU8 (by decide) _ d.out.length _ rfl H22.out A n c (l.map (.int .u8 ·)) rfl (by rw [List.length_map]; exact HN.out) HL2.out ee.out (by intro u hu; obtain ⟨x, _, rfl⟩ := List.mem_map.1 hu; rfl) (by unfold maxLen; omega) (by omega) (by omega) ?_; intro v3 w3 hown hg; obtain ⟨A3, c3, rfl, -, -⟩ := own_form hown; have HG3 := Lib.hid (HS2.out.growO H12.out H22.out H32.out (l := l) (by rw [HN.out]) hown hg); have HB3 := Lib.hid (HB2.out.own H22.out (.inl rfl) hg (by omega)); have f13 : w3.frozen? ⟨P, 1, none⟩ = false := (by obtain ⟨vt, hb, _⟩ := HG3.out.ex; exact hb.frozen 1); have c13 : w3.cell? ⟨P, 1, none⟩ = some (.slice Ao d.out.length co) := (by obtain ⟨vt, hb, _⟩ := HG3.out.ex; exact hb.cell 1); clear hown hg))
      go_end0
      have e : bytesF d l = { d with out := d.out ++ l } := by unfold bytesF; rw [if_neg (by omega), if_neg (by have := HN.out; omega)]
      rw [e]
      exact ⟨rfl, HG3.out.done, HB3.out.setP HG3.out.blkP hPB _⟩
  · have hbd : (decide (d.e ≠ 0)) = true := by simp [he]
    rw [hbd] at HBAD
    go_enter Try.func11, Try.ntmps11
    go_wp2_with (first
      | (go_at_call 21; refine HBAD.out.mono ?_; rintro e w1 ⟨rfl, rfl⟩))
    go_end0
    have e : bytesF d l = d := by unfold bytesF; rw [if_pos he]
    rw [e]
    exact ⟨rfl, HS.out, Frm.refl _ _⟩
end Go.Proofs.Ytnkjmmbhjhmgdaa
