/- A program that is put together: Clone, fill, To, Near. -/
import Derived.Test.YtnkjmmbhjhmgdaaAsmC
namespace Go.Proofs.Ytnkjmmbhjhmgdaa
set_option linter.unusedSimpArgs false
set_option linter.unusedVariables false
open Go.RowKit Go.Maps
theorem own_cells {w : World} {base : Nat} {e : TypeId} {A : Option Addr} {n c : Nat} {xs : List Value} (h : w.ownsRow base e 1 (.slice A n c) n xs) : Cells w A xs := fun i v hi => by
  rcases h.2 with ⟨e1, e2⟩ | ⟨g, cap, cur, e1, _⟩
  · have := h.1
    rw [e2] at this
    simp at this
    subst this
    simp at hi
  · injection e1 with e1 _ _
    subst e1
    exact ⟨_, rfl, h.cells (g := g) rfl i v hi⟩
theorem nil_eq (u : World) : (binOp .eql 25 (.slice none 0 0) (.slice none 0 0)).run Try.prog u = .ok (.bool true) u := by kernel_rfl
theorem some_ne (ad : Addr) (n c : Nat) (u : World) : (binOp .eql 25 (.slice (some ad) n c) (.slice none 0 0)).run Try.prog u = .ok (.bool false) u := by kernel_rfl
set_option maxRecDepth 100000 in
set_option maxHeartbeats 2000000 in
theorem clone_any (A : Option Addr) (n c : Nat) (l : List Int) (w : World) (hl : Ints w A .u8 l) (hn : l.length = n) (hm : n ≤ 1000000000) (hnil : A = none → n = 0 ∧ c = 0) :
    Calls Try.prog 30 #[.slice A n c] w fun e w' => ∃ v, e = .returned v ∧ w'.ownsRow w.heap.size 5 1 v n (l.map (.int .u8 ·)) ∧ Below w.heap.size w w' := by
  have HL := Lib.hid hl; have HN := Lib.hid hn
  clear hl hn
  cases A with
  | none =>
    obtain ⟨rfl, rfl⟩ := hnil rfl
    have hne := nil_eq
    go_enter Try.func30, Try.ntmps30
    go_wp2_with fail
    go_ret
    have e : l = [] := List.length_eq_zero_iff.1 HN.out
    rw [e]
    exact ⟨_, rfl, World.ownsRow_nil _ _ _ _, Below.refl _ _⟩
  | some ad =>
    clear hnil
    have hne := some_ne ad n c
    have HOW : Hid ((w.alloc (.cells #[] 5)).ownsRow w.heap.size 5 1 (.slice (some ⟨w.heap.size, 0, none⟩) 0 0) 0 []) := Lib.hid (own_of_blk (Blk.new w 5 []) (Nat.le_refl _) rfl (by decide))
    go_enter Try.func30, Try.ntmps30
    go_wp2_with (first
      | (at_builtin; refine wpList_appAny _ rfl (.tmp 5) (.tmp 6) 25 rfl w.heap.size 5 (.int .u8 0) 1 Try.underlying25 infoU8 (by decide) _ 0 [] rfl HOW.out (some ad) n c (l.map (.int .u8 ·)) rfl (by rw [List.length_map]; exact HN.out) (HL.out.below (below_alloc1 _ _)) (fun e => by cases e) (by intro u hu; obtain ⟨x, _, rfl⟩ := List.mem_map.1 hu; rfl) (by unfold maxLen; omega) (by omega) (by simp) ?_; intro v3 w3 hown hg; have HB3 := Lib.hid (Below_own (below_alloc1 w (.cells #[] 5)) HOW.out hg (Nat.le_refl _) (by simp)); have HO3 := Lib.hid hown; clear hown hg))
    go_ret
    exact ⟨v3, rfl, by simpa using HO3.out, HB3.out⟩
theorem mk_two8 (u : World) : (Instr.makeSlice 25 (.int .i64 2) (.int .i64 2)).run Try.prog u = .ok (.slice (some ⟨u.heap.size, 0, none⟩) 2 2) (u.alloc (.cells #[.int .u8 0, .int .u8 0] 5)) := by
  obtain ⟨i0, hi, hz0, hz1, hz2⟩ := info_parts infoU8
  have h := run_make (P := Try.prog) u 25 5 i0 (.int .u8 0) Try.underlying25 hi hz0 .i64 .i64 2 2 (by omega) (by omega) (by rw [hz2]; omega) (by omega)
  have e : madeCells #[Value.int .u8 0] 2 = #[.int .u8 0, .int .u8 0] := by kernel_rfl
  rw [hz1] at h
  simpa [e, show (Value.int .u8 0).cells = #[Value.int .u8 0] from rfl] using h
def fillF (d : AsmD) (s : ByteArray) (near : Bool) (code : List Int) : AsmD := if d.e ≠ 0 then d else
  let d1 := bytesF d (code ++ if near then [0] else [0, 0])
  { d1 with td := d1.td ++ [(s, ((d.out.length + code.length : Nat) : Int), near)] }
theorem bytesF_td (d : AsmD) (l : List Int) : (bytesF d l).td = d.td := by
  unfold bytesF
  split
  · rfl
  · split <;> rfl
theorem AsmOk.fillF {d : AsmD} {T : Nat} (h : AsmOk d T) (s : ByteArray) (near : Bool) {code : List Int} (hl : ∀ x ∈ code, 0 ≤ x ∧ x ≤ 255) : AsmOk (fillF d s near code) (T + 1) := by
  unfold Go.Proofs.Ytnkjmmbhjhmgdaa.fillF
  split
  · exact ⟨h.org0, h.org1, h.top, h.byte, Nat.le_succ_of_le h.told⟩
  · have hk := h.bytesF (l := code ++ if near then [0] else [0, 0]) (fun x hx => by
      rcases List.mem_append.1 hx with hx | hx
      · exact hl x hx
      · cases near <;> simp at hx <;> omega)
    exact ⟨hk.org0, hk.org1, hk.top, hk.byte, by simp; exact hk.told⟩
set_option maxRecDepth 100000 in
set_option maxHeartbeats 8000000 in
theorem asm_fill (B P M nm T : Nat) (d : AsmD) (s : ByteArray) (near : Bool) (A : Option Addr) (n c : Nat) (l : List Int) (w : World) (h : AsmS B P M nm w d) (ok : AsmOk d T) (hT : T ≤ 1000) (hl : Ints w A .u8 l) (hn : l.length = n) (hm : n ≤ 100000000) (hnil : A = none → n = 0 ∧ c = 0) :
    Calls Try.prog 23 #[.pointer (some ⟨P, 0, none⟩), .string s, .bool near, .slice A n c] w (AsmR B P M nm (fillF d s near l) w) := by
  obtain ⟨vo, vt, h1, h2, h3⟩ := h.ex
  obtain ⟨Ao, co, rfl, hAo, hco⟩ := own_form h2
  have c1 : w.cell? ⟨P, 1, none⟩ = some (.slice Ao d.out.length co) := h1.cell 1
  have hPB := h.leP
  have hlt := h.lt
  have o0 := ok.org0
  have o1 := ok.top
  have olen := ok.len
  have HS := Lib.hid h; have HL := Lib.hid hl; have HN := Lib.hid hn; have H1 := Lib.hid h1; have HT := Lib.hid hT; have HOK := Lib.hid ok
  have HBAD := Lib.hid (asm_bad P d.org d.e _ _ _ w h1)
  have HNIL := Lib.hid hnil
  clear h hl hn h1 h2 h3 hAo hnil ok
  by_cases he : d.e = 0
  · have hbd : (decide (d.e ≠ 0)) = false := by simp [he]
    rw [hbd] at HBAD
    have e1 : IntKind.i64.wrap ((d.out.length : Int) + n) = (d.out.length : Int) + n := by rw [IntKind.wrap_i64]; omega
    have HCL : Hid (∀ u, Below w.heap.size w u → Calls Try.prog 30 #[.slice A n c] u fun e w' => ∃ v, e = .returned v ∧ w'.ownsRow u.heap.size 5 1 v n (l.map (.int .u8 ·)) ∧ Below u.heap.size u w') := Lib.hid (fun u hb => clone_any A n c l u (HL.out.below hb) HN.out (by omega) HNIL.out)
    have hmk := mk_two8
    cases near with
    | false =>
      go_enter Try.func23, Try.ntmps23
      have B2 := Lib.hid (Blk.new w 5 [.int .u8 0, .int .u8 0])
      go_wp2_with (first
        | (go_at_call 21; refine HBAD.out.mono ?_; rintro e w1 ⟨rfl, rfl⟩)
        | (go_at_call 30; refine (HCL.out _ (below_alloc1 w _)).mono ?_; rintro e w2 ⟨v, rfl, ho, hb⟩; obtain ⟨A2, c2, rfl, hA2, -⟩ := own_form ho; have HO := Lib.hid ho; have HB2 : Hid (Below w.heap.size w w2) := Lib.hid ((below_alloc1 w _).trans (hb.mono (by simp))); have HR : Hid (Cells w2 (some ⟨w.heap.size, 0, none⟩) [.int .u8 0, .int .u8 0]) := Lib.hid (fun i v hi => ⟨_, rfl, by rw [Addr.add_mid, Nat.zero_add, (B2.out.below_ hb).cell i]; exact hi⟩); have hw2 := hb.size; clear ho hb hA2)
        | (at_builtin; refine wpList_appAny _ rfl (.tmp 26) (.tmp 27) 25 rfl _ 5 (.int .u8 0) 1 Try.underlying25 infoU8 (by decide) _ n _ rfl HO.out (some ⟨w.heap.size, 0, none⟩) 2 2 [.int .u8 0, .int .u8 0] rfl rfl HR.out (fun e => by cases e) (by intro u hu; simp at hu; rcases hu with rfl | rfl <;> rfl) (by unfold maxLen; omega) (by omega) hw2 ?_; intro v3 w3 hown hg; obtain ⟨A3, c3, rfl, hA3, -⟩ := own_form hown; have HB3 := Lib.hid (Below_own HB2.out HO.out hg (by simp) hw2); have HI3 : Hid (Ints w3 A3 .u8 (l ++ [0, 0])) := Lib.hid (by have := own_cells hown; unfold Ints; rw [List.map_append]; exact this); have HA3 := Lib.hid hA3; clear hown hg hA3)
        | (go_at_call 11; refine (asm_bytes B P M nm T d A3 (n + 2) c3 (l ++ [0, 0]) w3 (HS.out.below_ HB3.out) HOK.out HI3.out (by rw [List.length_append, HN.out]; rfl) (by omega) HA3.out).mono ?_; rintro e w4 ⟨rfl, h4, hb4⟩; obtain ⟨vo4, vt4, k1, k2, k3⟩ := h4.ex; obtain ⟨At, ct, rfl, -, -⟩ := own_form k3; have H4 := Lib.hid h4; have K1 := Lib.hid k1; have K2 := Lib.hid k2; have K3 := Lib.hid k3; have c43 : w4.cell? ⟨P, 3, none⟩ = some (.slice At (bytesF d (l ++ [0, 0])).td.length ct) := k1.cell 3; have HB4 := Lib.hid ((HS.out.toB HB3.out).trans hb4); have hlt4 := h4.lt; have htd : (bytesF d (l ++ [0, 0])).td.length ≤ T := (by rw [bytesF_td]; exact HOK.out.told); have hT2 := HT.out; clear h4 hb4 k1 k2 k3)
        | (at_builtin; refine wpList_appL _ rfl (.tmp 34) (.tmp 39) 52 rfl B 63 _ 3 32 Try.underlying52 infoTold rfl (by decide) _ (bytesF d (l ++ [0, 0])).td.length _ rfl K3.out #[.string s, .int .i64 ((d.out.length : Int) + n), .bool false] 1 rfl rfl (by simp [Value.oneCell']) (by decide) (by omega) (by decide) (by omega) ?_; intro g5 c5 w5 hown5 hg5 _; have HT5 := Lib.hid (H4.out.growT (x := (s, (d.out.length : Int) + n, false)) K1.out K2.out K3.out rfl hown5 hg5); have HB5 := Lib.hid (HB4.out.own K3.out (.inr rfl) hg5 (by omega)); have f53 : w5.frozen? ⟨P, 3, none⟩ = false := (by obtain ⟨vo, hb, _⟩ := HT5.out.ex; exact hb.frozen 3); have c53 : w5.cell? ⟨P, 3, none⟩ = some (.slice At (bytesF d (l ++ [0, 0])).td.length ct) := (by obtain ⟨vo, hb, _⟩ := HT5.out.ex; exact hb.cell 3); clear hown5 hg5))
      go_end0
      have e : fillF d s false l = { bytesF d (l ++ [0, 0]) with td := (bytesF d (l ++ [0, 0])).td ++ [(s, (d.out.length : Int) + n, false)] } := by
        unfold fillF
        rw [if_neg (by omega), HN.out]
        simp
      rw [e]
      exact ⟨rfl, HT5.out.done, HB5.out.setP HT5.out.blkP hPB _⟩
    | true =>
      go_enter Try.func23, Try.ntmps23
      have B2 := Lib.hid (Blk.new w 5 [.int .u8 0, .int .u8 0])
      go_wp2_with (first
        | (go_at_call 21; refine HBAD.out.mono ?_; rintro e w1 ⟨rfl, rfl⟩)
        | (go_at_call 30; refine (HCL.out _ (below_alloc1 w _)).mono ?_; rintro e w2 ⟨v, rfl, ho, hb⟩; obtain ⟨A2, c2, rfl, hA2, -⟩ := own_form ho; have HO := Lib.hid ho; have HB2 : Hid (Below w.heap.size w w2) := Lib.hid ((below_alloc1 w _).trans (hb.mono (by simp))); have HR : Hid (Cells w2 (some ⟨w.heap.size, 0, none⟩) [.int .u8 0]) := Lib.hid (fun i v hi => ⟨_, rfl, by rw [Addr.add_mid, Nat.zero_add, (B2.out.below_ hb).cell i]; exact (by cases i with | zero => simpa using hi | succ i => cases i with | zero => simp at hi | succ i => simp at hi)⟩); have hw2 := hb.size; clear ho hb hA2)
        | (at_builtin; refine wpList_appAny _ rfl (.tmp 26) (.tmp 27) 25 rfl _ 5 (.int .u8 0) 1 Try.underlying25 infoU8 (by decide) _ n _ rfl HO.out (some ⟨w.heap.size, 0, none⟩) 1 2 [.int .u8 0] rfl rfl HR.out (fun e => by cases e) (by intro u hu; simp at hu; rcases hu with rfl | rfl <;> rfl) (by unfold maxLen; omega) (by omega) hw2 ?_; intro v3 w3 hown hg; obtain ⟨A3, c3, rfl, hA3, -⟩ := own_form hown; have HB3 := Lib.hid (Below_own HB2.out HO.out hg (by simp) hw2); have HI3 : Hid (Ints w3 A3 .u8 (l ++ [0])) := Lib.hid (by have := own_cells hown; unfold Ints; rw [List.map_append]; exact this); have HA3 := Lib.hid hA3; clear hown hg hA3)
        | (go_at_call 11; refine (asm_bytes B P M nm T d A3 (n + 1) c3 (l ++ [0]) w3 (HS.out.below_ HB3.out) HOK.out HI3.out (by rw [List.length_append, HN.out]; rfl) (by omega) HA3.out).mono ?_; rintro e w4 ⟨rfl, h4, hb4⟩; obtain ⟨vo4, vt4, k1, k2, k3⟩ := h4.ex; obtain ⟨At, ct, rfl, -, -⟩ := own_form k3; have H4 := Lib.hid h4; have K1 := Lib.hid k1; have K2 := Lib.hid k2; have K3 := Lib.hid k3; have c43 : w4.cell? ⟨P, 3, none⟩ = some (.slice At (bytesF d (l ++ [0])).td.length ct) := k1.cell 3; have HB4 := Lib.hid ((HS.out.toB HB3.out).trans hb4); have hlt4 := h4.lt; have htd : (bytesF d (l ++ [0])).td.length ≤ T := (by rw [bytesF_td]; exact HOK.out.told); have hT2 := HT.out; clear h4 hb4 k1 k2 k3)
        | (at_builtin; refine wpList_appL _ rfl (.tmp 34) (.tmp 39) 52 rfl B 63 _ 3 32 Try.underlying52 infoTold rfl (by decide) _ (bytesF d (l ++ [0])).td.length _ rfl K3.out #[.string s, .int .i64 ((d.out.length : Int) + n), .bool true] 1 rfl rfl (by simp [Value.oneCell']) (by decide) (by omega) (by decide) (by omega) ?_; intro g5 c5 w5 hown5 hg5 _; have HT5 := Lib.hid (H4.out.growT (x := (s, (d.out.length : Int) + n, true)) K1.out K2.out K3.out rfl hown5 hg5); have HB5 := Lib.hid (HB4.out.own K3.out (.inr rfl) hg5 (by omega)); have f53 : w5.frozen? ⟨P, 3, none⟩ = false := (by obtain ⟨vo, hb, _⟩ := HT5.out.ex; exact hb.frozen 3); have c53 : w5.cell? ⟨P, 3, none⟩ = some (.slice At (bytesF d (l ++ [0])).td.length ct) := (by obtain ⟨vo, hb, _⟩ := HT5.out.ex; exact hb.cell 3); clear hown5 hg5))
      go_end0
      have e : fillF d s true l = { bytesF d (l ++ [0]) with td := (bytesF d (l ++ [0])).td ++ [(s, (d.out.length : Int) + n, true)] } := by
        unfold fillF
        rw [if_neg (by omega), HN.out]
        simp
      rw [e]
      exact ⟨rfl, HT5.out.done, HB5.out.setP HT5.out.blkP hPB _⟩
  · have hbd : (decide (d.e ≠ 0)) = true := by simp [he]
    rw [hbd] at HBAD
    go_enter Try.func23, Try.ntmps23
    go_wp2_with (first
      | (go_at_call 21; refine HBAD.out.mono ?_; rintro e w1 ⟨rfl, rfl⟩))
    go_end0
    have e : fillF d s near l = d := by unfold fillF; rw [if_pos he]
    rw [e]
    exact ⟨rfl, HS.out, Frm.refl _ _⟩
end Go.Proofs.Ytnkjmmbhjhmgdaa
