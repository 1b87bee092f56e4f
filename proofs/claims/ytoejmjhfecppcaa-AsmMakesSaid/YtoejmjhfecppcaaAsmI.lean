/- A program that is put together: the law's calls. -/
import Derived.Test.YtoejmjhfecppcaaAsmH
namespace Go.Proofs.Ytoejmjhfecppcaa
set_option linter.unusedSimpArgs false
set_option linter.unusedVariables false
open Go.RowKit Go.Maps Go.Sort
structure OpL where
  kind : Int
  num : Int
  name : ByteArray
  b : List Int
def codeL (b : List Int) : Int := b.headD 0
structure OpOk (o : OpL) : Prop where
  num0 : -9223372036854775808 ≤ o.num
  num1 : o.num ≤ 9223372036854775807
  name : o.name.size ≤ maxLen
  byte : ∀ x ∈ o.b, 0 ≤ x ∧ x ≤ 255
def opV (o : OpL) (A : Option Addr) (c : Nat) : Value := .agg #[.int .i64 o.kind, .int .i64 o.num, .string o.name, .slice A o.b.length c]
theorem code_byte {o : OpL} (h : OpOk o) : ∀ x ∈ [codeL o.b], 0 ≤ x ∧ x ≤ 255 := fun x hx => by
  simp at hx
  subst hx
  unfold codeL
  cases hb : o.b with
  | nil => simp
  | cons y l => exact h.byte y (by rw [hb]; simp)
set_option maxRecDepth 100000 in
set_option maxHeartbeats 1000000 in
theorem code28 (k m : Int) (s : ByteArray) (A : Option Addr) (n c : Nat) (l : List Int) (w : World) (hl : Ints w A .u8 l) (hn : l.length = n) :
    Calls Try.prog 49 #[.agg #[.int .i64 k, .int .i64 m, .string s, .slice A n c]] w fun e w' => e = .returned (.int .u8 (codeL l)) ∧ Below w.heap.size w w' := by
  have B0 := Blk.new w 72 [.int .i64 k, .int .i64 m, .string s, .slice A n c]
  have b3 : (w.alloc (.cells #[.int .i64 k, .int .i64 m, .string s, .slice A n c] 72)).cell? ⟨w.heap.size, 3, none⟩ = some (.slice A n c) := B0.cell 3
  have hb := below_alloc1 w (.cells #[.int .i64 k, .int .i64 m, .string s, .slice A n c] 72)
  clear B0
  cases l with
  | nil =>
    simp at hn
    subst hn
    go_enter Try.func49, Try.ntmps49
    go_wp2_with fail
    go_ret
    exact ⟨rfl, hb⟩
  | cons x l =>
    have hn0 : 0 < n := by rw [← hn]; simp
    have hni : ¬ (n : Int) = 0 := by omega
    have hnp : (0 : Int) < n := by omega
    obtain ⟨ad, rfl, ca⟩ := (hl.below hb) 0 (.int .u8 x) rfl
    have ca1 : (w.alloc (.cells #[.int .i64 k, .int .i64 m, .string s, .slice (some ad) n c] 72)).cell? ad = some (.int .u8 x) := by simpa [Addr.add] using ca
    clear hl hn ca
    go_enter Try.func49, Try.ntmps49
    go_wp2_with fail
    go_ret
    exact ⟨rfl, hb⟩
def callF (d : AsmD) (o : OpL) : AsmD :=
  if o.kind = 0 then bytesF d o.b else if o.kind = 1 then markF d o.name else if o.kind = 2 then fillF d o.name false o.b
  else if o.kind = 3 then fillF d o.name true [codeL o.b] else if o.kind = 4 then delayF d o.num else d
theorem AsmI.callF {d : AsmD} {T : Nat} (h : AsmI d T) {o : OpL} (ho : OpOk o) : AsmI (callF d o) (T + 1) := by
  unfold Go.Proofs.Ytoejmjhfecppcaa.callF
  split
  · exact (h.bytesF ho.byte).mono (Nat.le_succ _)
  · split
    · exact (h.markF _).mono (Nat.le_succ _)
    · split
      · exact h.fillF _ ho.name _ ho.byte
      · split
        · exact h.fillF _ ho.name _ (code_byte ho)
        · split
          · exact (h.delayF _).mono (Nat.le_succ _)
          · exact h.mono (Nat.le_succ _)
theorem AsmR.from_ {B P M nm nm' : Nat} {d : AsmD} {w u w' : World} {e : Ending} (h : AsmR B P M nm d u e w') (hb : Below B w u) (hn : nm ≤ nm') : AsmR B P M nm' d w e w' := ⟨h.1, h.2.1.mono hn, hb.trans h.2.2⟩
set_option maxRecDepth 100000 in
set_option maxHeartbeats 8000000 in
theorem asm_call (B P M nm T : Nat) (d : AsmD) (o : OpL) (A : Option Addr) (c : Nat) (w : World) (h : AsmS B P M nm w d) (hi : AsmI d T) (hT : T ≤ 900) (hnm : nm ≤ 900) (ho : OpOk o) (hl : Ints w A .u8 o.b) (hm : o.b.length ≤ 1000000) (hnil : A = none → o.b.length = 0 ∧ c = 0) :
    Calls Try.prog 33 #[.pointer (some ⟨P, 0, none⟩), opV o A c] w (AsmR B P M (nm + 1) (callF d o) w) := by
  obtain ⟨k, m, s, l⟩ := o
  simp only [opV, callF] at *
  have hb := below_alloc1 w (.cells #[.int .i64 k, .int .i64 m, .string s, .slice A l.length c] 72)
  have B0 : Blk (w.alloc (.cells #[.int .i64 k, .int .i64 m, .string s, .slice A l.length c] 72)) w.heap.size 72 [.int .i64 k, .int .i64 m, .string s, .slice A l.length c] := Blk.new w _ _
  obtain ⟨w1, hw1⟩ : ∃ u, u = w.alloc (.cells #[.int .i64 k, .int .i64 m, .string s, .slice A l.length c] 72) := ⟨_, rfl⟩
  rw [← hw1] at hb B0
  have HB := Lib.hid (h.toB hb)
  have HS := Lib.hid (h.below_ hb)
  have HL := Lib.hid (hl.below hb)
  have HI := Lib.hid hi
  have HO := Lib.hid ho
  have HN := Lib.hid hnil
  have HW := Lib.hid hw1
  have HB0 := Lib.hid B0
  have b0 : w1.cell? ⟨w.heap.size, 0, none⟩ = some (.int .i64 k) := B0.cell 0
  have b1 : w1.cell? ⟨w.heap.size, 1, none⟩ = some (.int .i64 m) := B0.cell 1
  have b2 : w1.cell? ⟨w.heap.size, 2, none⟩ = some (.string s) := B0.cell 2
  have b3 : w1.cell? ⟨w.heap.size, 3, none⟩ = some (.slice A l.length c) := B0.cell 3
  clear h hl hi ho hnil hb B0 hw1
  go_enter Try.func33, Try.ntmps33
  go_upto_region 1 with fail
  rw [← HW.out]
  clear HW
  by_cases k0 : k = 0
  · subst k0
    go_wp2_with (first
      | (go_at_call 47; refine (asm_bytes B P M nm T d A _ c l w1 HS.out HI.out.ok HL.out rfl (by omega) HN.out).mono ?_; rintro e w2 hr; have HR := Lib.hid (hr.from_ HB.out (Nat.le_succ nm)); obtain rfl := hr.1; clear hr))
    go_end0
    exact HR.out
  · by_cases k1 : k = 1
    · subst k1
      go_wp2_with (first
        | (go_at_call 38; refine (asm_mark B P M nm T d s w1 HS.out HI.out.ok HO.out.name (by omega)).mono ?_; rintro e w2 hr; have HR := Lib.hid (hr.from_ HB.out (Nat.le_refl (nm + 1))); obtain rfl := hr.1; clear hr))
      go_end0
      exact HR.out
    · by_cases k2 : k = 2
      · subst k2
        go_wp2_with (first
          | (go_at_call 48; refine (asm_to B P M nm T d s A _ c l w1 HS.out HI.out.ok (by omega) HL.out rfl (by omega) HN.out).mono ?_; rintro e w2 hr; have HR := Lib.hid (hr.from_ HB.out (Nat.le_succ nm)); obtain rfl := hr.1; clear hr))
        go_end0
        exact HR.out
      · by_cases k3 : k = 3
        · subst k3
          go_upto_region 9 with fail
          refine until_start 5 (fun u : World => u.cell? ⟨w.heap.size, 0, none⟩ = some (.int .i64 3) ∧ u.cell? ⟨w.heap.size, 1, none⟩ = some (.int .i64 m) ∧ u.cell? ⟨w.heap.size, 2, none⟩ = some (.string s) ∧ u.cell? ⟨w.heap.size, 3, none⟩ = some (.slice A l.length c)) (by kernel_rfl) ?_
          have hS : Hid ((fun u : World => u.cell? ⟨w.heap.size, 0, none⟩ = some (.int .i64 3) ∧ u.cell? ⟨w.heap.size, 1, none⟩ = some (.int .i64 m) ∧ u.cell? ⟨w.heap.size, 2, none⟩ = some (.string s) ∧ u.cell? ⟨w.heap.size, 3, none⟩ = some (.slice A l.length c)) w1.drew) := ⟨b0, b1, b2, b3⟩
          refine until_take (i := 0) (v := ?_) rfl (by kernel_rfl) (by kernel_rfl) (by kernel_rfl) rfl (fun _ _ _ h => h) (fun _ => hS.out) (Or.inl ⟨by rfl, ?_⟩) ?_
          rotate_left
          · (intro u _; go_simp; try with_reducible rfl)
          try simp only [Act.put, List.setIfInBounds_toArray, List.set_cons_zero, List.set_cons_succ]
          refine until_take (i := 1) (v := ?_) rfl (by kernel_rfl) (by kernel_rfl) (by kernel_rfl) rfl (fun _ _ _ h => h) (fun _ => hS.out) (Or.inl ⟨by rfl, ?_⟩) ?_
          rotate_left
          · (intro u _; go_simp; try with_reducible rfl)
          try simp only [Act.put, List.setIfInBounds_toArray, List.set_cons_zero, List.set_cons_succ]
          refine until_load (i := 2) (v := ?_) [5] rfl (by kernel_rfl) (by kernel_rfl) (by kernel_rfl) (by kernel_rfl) (fun _ _ _ h => h) hS.out (Or.inl ⟨by rfl, ?_⟩) ?_
          rotate_left
          · (rintro u ⟨s1, s2, s3, s4⟩; go_simp; try with_reducible rfl)
          try simp only [Act.put, List.setIfInBounds_toArray, List.set_cons_zero, List.set_cons_succ]
          refine until_load (i := 3) (v := ?_) [4, 5] rfl (by kernel_rfl) (by kernel_rfl) (by kernel_rfl) (by kernel_rfl) (fun _ _ _ h => h) hS.out (Or.inl ⟨by rfl, ?_⟩) ?_
          rotate_left
          · (rintro u ⟨s1, s2, s3, s4⟩; go_simp; try with_reducible rfl)
          try simp only [Act.put, List.setIfInBounds_toArray, List.set_cons_zero, List.set_cons_succ]
          refine until_ready (rs := [4]) (by kernel_rfl) (by simp) ?_
          refine AllUntil.cons rfl (fun K hK => ?_) AllUntil.nil
          go_simp
          refine (code28 3 m s A l.length c l w1.drew HL.out rfl).mono ?_
          rintro e w2 ⟨rfl, hb2⟩
          have hb2' : Below w1.heap.size w1 w2 := ((Below.refl _ w1).drew).trans hb2
          have HB2 := Lib.hid (HB.out.trans (HS.out.toB hb2'))
          have HS2 := Lib.hid (HS.out.below_ hb2')
          refine hK.out _ _ (fun _ => ⟨cell_below hb2' b0, cell_below hb2' b1, cell_below hb2' b2, cell_below hb2' b3⟩) ?_
          clear hK K hb2 hb2'
          try simp only [Act.put, List.setIfInBounds_toArray, List.set_cons_zero, List.set_cons_succ]
          refine until_ready (rs := [5]) (by kernel_rfl) (by simp) ?_
          refine AllUntil.cons rfl (fun K hK => ?_) AllUntil.nil
          go_simp
          refine (asm_near B P M nm T d s (codeL l) w2 HS2.out HI.out.ok (by omega)).mono ?_
          rintro e w3 hr
          have HR := Lib.hid (hr.from_ HB2.out (Nat.le_succ nm))
          obtain rfl := hr.1
          clear hr
          refine hK.out _ _ (fun h => by simp at h) ?_
          clear hK K
          try simp only [Act.put, List.setIfInBounds_toArray, List.set_cons_zero, List.set_cons_succ]
          refine until_done (by kernel_rfl) ?_ _
          go_wp2_with fail
          go_end0
          exact HR.out
        · by_cases k4 : k = 4
          · subst k4
            go_wp2_with (first
              | (go_at_call 50; refine (asm_delay B P M nm T d m w1 HS.out HI.out.ok HO.out.num0 HO.out.num1).mono ?_; rintro e w2 hr; have HR := Lib.hid (hr.from_ HB.out (Nat.le_succ nm)); obtain rfl := hr.1; clear hr))
            go_end0
            exact HR.out
          · go_wp2_with fail
            go_end0
            exact ⟨rfl, HS.out.mono (Nat.le_succ _), HB.out⟩
end Go.Proofs.Ytoejmjhfecppcaa
