/- AsmDelays: its body. -/
import Derived.Test.YtifgikjmfmkgeaaGreatDlyA
import Derived.Test.YtifgikjmfmkgeaaGreatDlyL
import Derived.Deep.DeepCutAuto
import Derived.Laws.StructEq
namespace Go.Proofs.YtifgikjmfmkgeaaGreat
set_option linter.unusedSimpArgs false
set_option linter.unusedVariables false
open Go.RowKit Go.Sort
theorem wpList_load_g {P : Program} {ops : Array Oper} {rest : List Oper} {op : Oper} {a : Act} {w : World} {Q : Exit → Act → World → Prop} (hw : Region.wanted op (yielded ops a.tmps) = true) (ty : TypeId) (x : Operand) (ho : op.op = .load ty x)
    (b o : Nat) (hx : a.eval x = .pointer (some ⟨b, o, none⟩)) (cs : List Value) (d : TypeDesc) (hc : w.rangeAt b o cs) (hu : P.underlying ty = some d) (hd : d.isRow = true) (hi : (P.info? ty).map (·.size) = some cs.length)
    (h : wpList P ops Q rest (a.put op.dst (.agg cs.toArray)) w) : wpList P ops Q (op :: rest) a w :=
  wpList_step fun K hK => by
    rw [if_pos hw]
    exact wp_load_mid ty x ho b o hx cs d hc hu hd hi (hK _ _ h)
theorem wpList_bin_g {P : Program} {ops : Array Oper} {rest : List Oper} {o : Oper} {a : Act} {w : World} {Q : Exit → Act → World → Prop} (hw : Region.wanted o (yielded ops a.tmps) = true) (op : BinOp) (ty : TypeId) (x y : Operand) (ty' : TypeId) (ho : o.op = .binOp op ty x y ty') (v vx vy : Value) (hx : a.eval x = vx) (hy : a.eval y = vy)
    (hr : (do eqGuard op ty x y vx vy; binOp op ty vx vy : Sem Value).run P w = .ok v w) (h : wpList P ops Q rest (a.put o.dst v) w) : wpList P ops Q (o :: rest) a w :=
  wpList_step fun K hK => by
    rw [if_pos hw]
    unfold Oper.wp execOp
    simp only [ho, hx, hy, Sem.run_bind, Sem.run_pure]
    rw [Sem.run_bind] at hr
    rw [hr]
    exact hK _ _ h
set_option maxRecDepth 100000 in
set_option maxHeartbeats 4000000 in
theorem eqg_regsD (r : Rg) (u : World) : (do eqGuard .eql 24 (.tmp 128) (.tmp 129) (.agg r.cells.toArray) (.agg r.cells.toArray); binOp .eql 24 (.agg r.cells.toArray) (.agg r.cells.toArray) : Sem Value).run Tryz.prog u = .ok (.bool true) u := by
  simp [Rg.cells, go_sem]
theorem Ch.below' {p : Nat → Prop} {w w' : World} {n : Nat} (h : Ch p w w') (hn : n ≤ w.heap.size) (hp : ∀ k, k < w.heap.size → p k → n ≤ k) : Below n w w' :=
  ⟨h.os, h.tape, h.output, h.size, fun k hk => h.block k (Nat.lt_of_lt_of_le hk hn) fun hc => absurd (hp k (Nat.lt_of_lt_of_le hk hn) hc) (Nat.not_le_of_lt hk)⟩
theorem fl_new (Z : Array Value) (hZ : Z.toList = fl0.m.map (.int .u8) ++ [.slice none 0 0, .slice none 0 0, .int .u64 0, .bool false]) (w : World) : FlAt (w.alloc (.cells Z 39)) w.heap.size (.slice none 0 0) fl0 := by
  refine ⟨?_, List.length_replicate .., ⟨rfl, .inl ⟨rfl, rfl⟩⟩, Nat.zero_le _⟩
  have := Blk.new w 39 Z.toList
  rw [Array.toArray_toList, hZ] at this
  exact this
/-- bytes that are laid into memory, one by one -/
def layM (o : Nat) (l : List Int) : Nat → List Int
  | 0 => List.replicate 65536 0
  | i + 1 => (layM o l i).set (o + i) (l.getD i 0)
theorem layM_len (o : Nat) (l : List Int) : ∀ i, (layM o l i).length = 65536
  | 0 => List.length_replicate ..
  | i + 1 => by show ((layM o l i).set _ _).length = _; rw [List.length_set]; exact layM_len o l i
theorem layM_at (o : Nat) (l : List Int) (ho : o + l.length ≤ 65536) : ∀ i, i ≤ l.length → ∀ j, j < i → (layM o l i).getD (o + j) 0 = l.getD j 0
  | 0, _, j, h => absurd h (by omega)
  | i + 1, hi, j, h => by
    show ((layM o l i).set (o + i) _).getD (o + j) 0 = _
    by_cases e : j = i
    · subst e
      have : o + j < (layM o l j).length := by rw [layM_len]; omega
      simp [List.getD, List.getElem?_set, this]
    · have ne : o + i ≠ o + j := by omega
      rw [show ((layM o l i).set (o + i) (l.getD i 0)).getD (o + j) 0 = (layM o l i).getD (o + j) 0 by simp [List.getD, List.getElem?_set, ne, show ¬ i = j from fun h => e h.symm]]
      exact layM_at o l ho i (by omega) j (by omega)
theorem layM_code (o : Nat) (l : List Int) (ho : o + l.length ≤ 65536) : CodeAt (layM o l l.length) o l := fun i v hi => by
  have hlt := (List.getElem?_eq_some_iff.1 hi).1
  rw [layM_at o l ho l.length (Nat.le_refl _) i hlt]
  simp [List.getD, hi]
theorem cell_of_block' {w w' : World} {h : Nat} {a : Addr} (hb : ∀ k, k ≠ h → w'.heap[k]? = w.heap[k]?) (ha : a.block ≠ h) : w'.cell? a = w.cell? a := World.cell?_of_block (hb a.block ha)
def Fl.ofM (m : List Int) : Fl := ⟨m, 0, false, []⟩
def LayR (o : Nat) (l : List Int) (h : Nat) (w4 : World) (v : Value) (wr : World) : Prop := ∃ i : Nat, v = .int .i64 i ∧ i ≤ l.length ∧ FlAt wr h (.slice none 0 0) (Fl.ofM (layM o l i)) ∧ Only h w4 wr
def StepR (s : Int) (N p h : Nat) (sv8 : Value) (w8 : World) (r2 : Rg) (f2 : Fl) (t : Value) (wr : World) : Prop := ∃ (T rem : Nat) (r : Rg) (c : Cp) (f : Fl) (sv av : Value), t = .int .i64 T ∧ T + rem = N ∧ Seg s rem r f r2 f2 ∧ c.Rest r ∧ CpAt wr p sv c ∧ FlAt wr h av f ∧ SvTo w8 sv8 sv ∧ SvTo w8 (.slice none 0 0) av ∧ Ch (SysP p h sv8 (.slice none 0 0)) w8 wr
/-- what comes next of such a way -/
theorem Seg.next {s : Int} {n : Nat} {r r2 : Rg} {f f2 : Fl} (h : Seg s n r f r2 f2) : (n = 0 ∧ r = r2 ∧ f = f2) ∨ ∃ a b r1 f1, n = a + b ∧ 1 ≤ a ∧ r.pc ≠ s ∧ Ins a r f r1 f1 ∧ Seg s b r1 f1 r2 f2 := by
  cases h with
  | nil => exact .inl ⟨rfl, rfl, rfl⟩
  | cons a b _ r1 _ _ f1 _ h1 h2 h3 h4 => exact .inr ⟨a, b, r1, f1, rfl, h2, h1, h3, h4⟩
theorem Cp.Rest.okR {c : Cp} {r : Rg} (h : c.Rest r) : r.Ok := by rw [← h.r]; exact h.calm.ok.r
theorem rest_newD {r : Rg} (hr : r.Ok) : (r.newC).Rest r := new_rest hr
def Rg.begunAt (r : Rg) (o : Int) : Rg := { r with pc := o, halt := false, pre := 0, hold := false }
set_option maxRecDepth 100000 in
set_option maxHeartbeats 20000000 in
theorem asmdelays_body (n : Int) (o : Nat) (r : Rg) (w : World) (hr : r.Ok) (ho : o < 65536) (hn : (Lit.int .i64 n).wf = true) :
    Calls Tryz.prog 3 #[.int .i64 n, .int .u16 o, .agg r.cells.toArray] w (Yes w) := by
  simp [Lit.wf, IntKind.min, IntKind.max, IntKind.bits, IntKind.signed] at hn
  obtain ⟨n0, n1⟩ := hn
  obtain ⟨C, hC⟩ : ∃ C, C = r.cells.toArray := ⟨_, rfl⟩
  have HC := Lib.hid hC
  rw [← hC]
  have HR := Lib.hid hr
  obtain ⟨w0, hw0⟩ : ∃ w0, w0 = w.alloc (.cells C 24) := ⟨_, rfl⟩
  have HW0 := Lib.hid hw0
  have HB0 : Hid (Below w.heap.size w w0) := by show Below _ _ _; rw [hw0]; exact (Below.refl _ w).alloc (Nat.le_refl _) _
  have HK0 : Hid (Blk w0 w.heap.size 24 r.cells) := by show Blk _ _ _ _; rw [hw0, hC]; exact Blk.new w _ _
  have HS0 : Hid (w0.heap.size = w.heap.size + 1) := by show _ = _; rw [hw0]; simp
  clear hC hr hw0
  by_cases hbig : 30000 < n ∨ 60000 < (o : Int)
  · by_cases h3 : 30000 < n
    all_goals
      try have h6 : 60000 < (o : Int) := by omega
      clear hbig n0 n1
      go_enter Tryz.func3, Tryz.ntmps3
      go_wp2_with (first
        | (go_at_call 4; rw [← HW0.out]; refine (lives28 _).mono ?_; rintro e w9 ⟨rfl, hb9⟩))
      go_ret
      exact ⟨rfl, HB0.out.trans (hb9.mono HB0.out.size)⟩
  · have h3 : ¬ 30000 < n := by omega
    have h6 : ¬ 60000 < (o : Int) := by omega
    have HN := Lib.hid (And.intro n0 n1); have HO := Lib.hid ho
    have HNEW := Lib.hid (asm_new o (by omega) (by omega) w0)
    have hI : AsmI (newD o) 0 := AsmI.new (by omega) (by omega)
    have HI := Lib.hid (hI.delayF n)
    have HI0 := Lib.hid hI
    clear hbig n0 n1 ho hI
    cases hmay : mayB n with
    | false =>
      have HD : Hid (doneF (delayF (newD o) n) = (5, [])) := Lib.hid (by
        have hd : delayF (newD o) n = { newD o with e := 5 } := by
          unfold delayF
          rw [if_neg (by show ¬ ((0 : Int) ≠ 0); decide), if_pos hmay]
        rw [hd]
        unfold doneF
        rw [if_pos (by show (5 : Int) ≠ 0; decide)])
      have HM := Lib.hid (fun w => May28 n w)
      rw [hmay] at HM
      clear hmay
      go_enter Tryz.func3, Tryz.ntmps3
      go_wp2_with (first
        | (go_at_call 5; rw [← HW0.out]; refine HNEW.out.mono ?_; rintro e w1 ⟨P, M, rfl, h1, hb1⟩; have HS1 := Lib.hid h1; have HB1 := Lib.hid hb1; clear h1 hb1)
        | (go_at_call 6; refine (asm_delay w0.heap.size P M 0 0 (newD o) n w1 HS1.out HI0.out.ok HN.out.1 HN.out.2).mono ?_; rintro e w2 ⟨rfl, h2, hb2⟩; have HS2 := Lib.hid h2; have HB2 := Lib.hid hb2; clear h2 hb2)
        | (go_at_call 7; refine (asm_Done w0.heap.size P M 0 0 _ w2 HS2.out HI.out.ok (by omega) HI.out.td).mono ?_
           rintro e w3 ⟨h3, hb3⟩
           rw [HD.out] at h3
           obtain ⟨-, rfl⟩ | ⟨h3, -⟩ := h3
           rotate_left
           · exact absurd h3 (by decide)
           have HB3 := Lib.hid hb3; clear hb3)
        | (go_at_call 8; refine (HM.out _).mono ?_; rintro e w4 ⟨rfl, rfl⟩)
        | (go_at_call 4; refine (lives28 _).mono ?_; rintro e w9 ⟨rfl, hb9⟩))
      go_ret
      have hb1 := HB1.out; have hb2 := HB2.out.below; have hb3 := HB3.out; have hb0 := HB0.out
      exact ⟨rfl, (((hb0.trans (hb1.mono hb0.size)).trans (hb2.mono hb0.size)).trans (hb3.mono (by have := hb0.size; have := hb1.size; have := hb2.size; omega))).trans (hb9.mono (by have := hb0.size; have := hb1.size; have := hb2.size; have := hb3.size; omega))⟩
    | true =>
      obtain ⟨L, hL⟩ : ∃ L, L = waitL n o := ⟨_, rfl⟩
      have hmn := mayN_of hmay
      have hlen : L.length ≤ 60 := by rw [hL]; exact wait_len n o hmn (by omega)
      have hadd := adds_delay (d := newD o) rfl (by show (o : Int) + ((0 : Nat) : Int) ≤ 65536; omega) hmay
      have hhere : (newD o).here = (o : Int) := by show (o : Int) + ((0 : Nat) : Int) = o; omega
      rw [hhere, ← hL] at hadd
      have hdel : delayF (newD o) n = { newD o with out := L } := by
        rcases hadd with ⟨_, h⟩ | ⟨h, _⟩
        · rw [h]; rfl
        · rw [hhere] at h; omega
      have HD : Hid (doneF (delayF (newD o) n) = (0, L)) := Lib.hid (by rw [hdel]; unfold doneF; rw [if_neg (by show ¬ ((0 : Int) ≠ 0); decide)]; rfl)
      have HBY : Hid (∀ x ∈ L, 0 ≤ x ∧ x ≤ 255) := Lib.hid (by have := HI.out.ok.byte; rw [hdel] at this; exact this)
      have HLEN := Lib.hid hlen; have HLL := Lib.hid hL; have HMN := Lib.hid hmn
      have HM := Lib.hid (fun w => May28 n w)
      rw [hmay] at HM
      obtain ⟨Z, hZ, hZl⟩ := flat_zero
      have HBu := Lib.hid hZ; have HZl := Lib.hid hZl
      clear hmay hlen hadd hhere hdel hmn hL hZ hZl
      go_enter Tryz.func3, Tryz.ntmps3
      go_upto_region 8 with (first
        | (go_at_call 5; rw [← HW0.out]; refine HNEW.out.mono ?_; rintro e w1 ⟨P, M, rfl, h1, hb1⟩; have HS1 := Lib.hid h1; have HB1 := Lib.hid hb1; clear h1 hb1)
        | (go_at_call 6; refine (asm_delay w0.heap.size P M 0 0 (newD o) n w1 HS1.out HI0.out.ok HN.out.1 HN.out.2).mono ?_; rintro e w2 ⟨rfl, h2, hb2⟩; have HS2 := Lib.hid h2; have HB2 := Lib.hid hb2; clear h2 hb2)
        | (go_at_call 7; refine (asm_Done w0.heap.size P M 0 0 _ w2 HS2.out HI.out.ok (by omega) HI.out.td).mono ?_
           rintro e w3 ⟨h3, hb3⟩
           rw [HD.out] at h3
           obtain ⟨h3, -⟩ | ⟨-, A, l, c, rfl, hi3, hl3, hn3⟩ := h3
           · exact absurd rfl h3
           have HB3 := Lib.hid hb3; have HI3 := Lib.hid hi3; have HL3 := Lib.hid hl3; have HN3 := Lib.hid hn3; clear hb3 hi3 hl3 hn3)
        | (go_at_call 8; refine (HM.out _).mono ?_; rintro e w4 ⟨rfl, rfl⟩))
      have HBW : Hid (Below w.heap.size w w3) := Lib.hid (by
        have hb1 := HB1.out; have hb2 := HB2.out.below; have hb3 := HB3.out; have hb0 := HB0.out
        exact ((hb0.trans (hb1.mono hb0.size)).trans (hb2.mono hb0.size)).trans (hb3.mono (by have := hb0.size; have := hb1.size; have := hb2.size; omega)))
      have HK3 : Hid (Blk w3 w.heap.size 24 r.cells) := Lib.hid (by
        have h0 := HK0.out
        have h1 := h0.below HB1.out h0.lt
        have h2 : Blk w2 w.heap.size 24 r.cells := (HB2.out.below.block _ h0.lt).trans h1
        exact h2.below_ HB3.out)
      obtain ⟨h, hh⟩ : ∃ h, h = w3.heap.size := ⟨_, rfl⟩
      have HH := Lib.hid hh
      have HF0 := Lib.hid (fl_new Z HZl.out w3)
      obtain ⟨w4, hw4⟩ : ∃ w4, w4 = w3.alloc (.cells Z 39) := ⟨_, rfl⟩
      have HW4 := Lib.hid hw4
      rw [← hw4, ← hh] at HF0
      have HB4 : Hid (Below w.heap.size w w4) := by show Below _ _ _; rw [hw4]; exact HBW.out.alloc HBW.out.size _
      have HK4 : Hid (Blk w4 w.heap.size 24 r.cells) := by show Blk _ _ _ _; rw [hw4]; exact HK3.out.alloc _
      have HI4 : Hid (Ints w4 A .u8 L) := by show Ints _ _ _ _; rw [hw4]; exact HI3.out.below ((Below.refl _ w3).alloc (Nat.le_refl _) _)
      have HS4 : Hid (w4.heap.size = h + 1 ∧ w.heap.size < h) := by show _ ∧ _; rw [hw4, hh]; exact ⟨by simp, by have := HK3.out.lt; exact this⟩
      have HA4 : Hid (∀ ad, A = some ad → L ≠ [] → ad.block < h) := Lib.hid (fun ad e hne => by
        cases hl : L with
        | nil => exact absurd hl hne
        | cons x t =>
          obtain ⟨ad', e', hc⟩ := HI3.out 0 (.int .u8 x) (by rw [hl]; rfl)
          rw [e] at e'; injection e' with e'; subst e'
          rw [hh]
          exact block_lt_of_cell (by simpa [Addr.add] using hc))
      clear hh hw4
      refine wp_region_list ?_
      refine wpList_buildTo rfl 39 #[] rfl (some 47) rfl Z (Eq.trans (congrArg _ (by simp)) HBu.out) ?_
      refine Great.wpList_boxTo rfl 39 (.tmp 47) rfl (some 48) rfl h HH.out.symm Z rfl ?_
      rw [← HW4.out]
      clear HW4
      have hl3 := HL3.out
      have hlen := HLEN.out
      subst hl3
      go_wp2_with fail
      go_loopw [11] (LayR o L h w4) (fun v _ => L.length - (intOf v).toNat)
      case atStart => exact ⟨0, rfl, Nat.zero_le _, HF0.out, Only.refl _ _⟩
      case round =>
        obtain ⟨i, rfl, hi, hf, hoo⟩ := hrel
        have HF := Lib.hid hf; have HOO := Lib.hid hoo
        clear hf hoo
        by_cases hlt : i < L.length
        · obtain ⟨ad, hA, hc4⟩ := HI4.out i (.int .u8 (L.getD i 0)) (by simp [List.getD, hlt])
          subst hA
          have hbl := HA4.out ad rfl (by intro e; rw [e] at hlt; simp at hlt)
          have hc : wr.cell? (ad.add i) = some (.int .u8 (L.getD i 0)) := (cell_of_block' HOO.out.block (by rw [block_of_add]; omega)).trans hc4
          have hd := HF.out.byte (o + i) (by omega)
          have hz := HF.out.blk.frozen (o + i)
          have v3 : (o + i) % 65536 = o + i := Nat.mod_eq_of_lt (by omega)
          have HV3 := Lib.hid v3
          have hd2 : wr.cell? ⟨h, (o + i) % 65536, none⟩ = some (.int .u8 ((Fl.ofM (layM o L i)).m.getD (o + i) 0)) := by rw [v3]; exact hd
          have hz2 : wr.frozen? ⟨h, (o + i) % 65536, none⟩ = false := by rw [v3]; exact hz
          have v1 : IntKind.i64.wrap ((o : Int) + i) = ((o + i : Nat) : Int) := by rw [IntKind.wrap_i64]; omega
          have v2 : Int.tmod ((o + i : Nat) : Int) 65536 = ((o + i : Nat) : Int) := by rw [Int.tmod_eq_emod_of_nonneg (by omega)]; omega
          have i0 : ((o + i : Nat) : Int) < 65536 := by omega
          generalize (Fl.ofM (layM o L i)).m.getD (o + i) 0 = y at hd hd2
          clear v3
          obtain ⟨x, hx⟩ : ∃ x, x = L.getD i 0 := ⟨_, rfl⟩
          have HX := Lib.hid hx
          rw [← hx] at hc
          clear hx hc4 hbl
          go_wp2_with fail
          go_region
          all_goals
            go_wp2_with fail
            go_roundw
            case rel =>
              try rw [HV3.out]
              exact ⟨i + 1, by go_num, by omega, by have := (HF.out.put (o + i) (by omega) x).drew ⟨1, rfl⟩; rw [HX.out] at this; rw [HX.out]; exact this, (HOO.out.trans (Only.set h (o + i) wr _)).trans (Drew.only ⟨1, rfl⟩)⟩
            case measure => simp [intOf]; omega
        · obtain rfl : i = L.length := by omega
          go_upto_region 13 with fail
          have HX : Hid (CodeAt (layM o L L.length) o L) := Lib.hid (layM_code o L (by omega))
          obtain ⟨x, hx⟩ : ∃ x, x = r.begunAt o := ⟨_, rfl⟩
          have hxok : x.Ok := by rw [hx]; exact { HR.out with pc := ⟨by show (0 : Int) ≤ (o : Int); omega, by show (o : Int) ≤ 65535; omega⟩, pre := ⟨show (0 : Int) ≤ 0 by decide, show (0 : Int) ≤ 255 by decide⟩ }
          have hat : AtI x o := by rw [hx]; exact ⟨by rw [← hx]; exact hxok, rfl, rfl, rfl, rfl⟩
          obtain ⟨r2, f2, hseg, hat2, hlike, hkept⟩ := goes_wait (o + L.length) (by omega) n o x (Fl.ofM (layM o L L.length)) HMN.out hat (by rw [← HLL.out]; exact Nat.le_refl _) rfl (by rw [← HLL.out]; exact HX.out)
          have hn0 : 0 ≤ n := by have := HMN.out; unfold MayN at this; omega
          obtain ⟨N, hN⟩ : ∃ N : Nat, n = N := ⟨n.toNat, by omega⟩
          rw [hN] at hseg
          rw [← HLL.out] at hat2 hlike
          have HNN := Lib.hid hN; have HXX := Lib.hid hx; have HXO := Lib.hid hxok; have HSEG := Lib.hid hseg; have HAT2 := Lib.hid hat2; have HLIKE := Lib.hid hlike; have HKEPT := Lib.hid hkept
          clear hx hxok hat hseg hat2 hlike hkept hn0
          obtain ⟨E, hE⟩ : ∃ E : Nat, E = o + L.length := ⟨_, rfl⟩
          have HE := Lib.hid hE
          have hEb : E ≤ 60060 := by omega
          have v9 : IntKind.i64.wrap ((o : Int) + L.length) = (E : Int) := by rw [IntKind.wrap_i64]; omega
          clear hE
          obtain ⟨wo, hwo⟩ : ∃ wo : World, wo = wr := ⟨_, rfl⟩
          have HKR : Hid (Blk wo w.heap.size 24 r.cells) := by show Blk _ _ _ _; rw [hwo]; exact HOO.out.blk (by have := HS4.out.2; omega) HK4.out
          have HFR : Hid (FlAt wo h (.slice none 0 0) (Fl.ofM (layM o L L.length))) := by show FlAt _ _ _ _; rw [hwo]; exact HF.out
          have HBR : Hid (Below w.heap.size w wo) := by show Below _ _ _; rw [hwo]; exact HB4.out.trans ((Only.ch HOO.out).below' HB4.out.size (fun k _ hk => by rw [hk]; have := HS4.out.2; omega))
          rw [← hwo]
          clear hwo HF HOO
          obtain ⟨cs, hcs⟩ : ∃ cs, cs = r.cells := ⟨_, rfl⟩
          have HX3 : Hid (wo.rangeAt w.heap.size 0 cs) := by show World.rangeAt _ _ _ _; rw [hcs]; exact blk_range HKR.out
          have HI3 : Hid ((Tryz.prog.info? 24).map (·.size) = some cs.length) := by show _ = _; rw [hcs]; exact infoRegsC
          have HSZ : Hid (cs.toArray.size = 30) := by show _ = _; rw [hcs]; rfl
          have HONE : Hid (cs.toArray.all (·.oneCell') = true) := by show _ = _; rw [hcs]; simp [Rg.cells, Value.oneCell']
          obtain ⟨b, hb⟩ : ∃ b, b = wo.heap.size := ⟨_, rfl⟩
          have HBN := Lib.hid hb
          obtain ⟨w5, hw5⟩ : ∃ w5, w5 = wo.alloc (.cells cs.toArray 24) := ⟨_, rfl⟩
          have HW5 := Lib.hid hw5
          have HK5 : Hid (Blk w5 b 24 r.cells) := by show Blk _ _ _ _; rw [hw5, hb, hcs]; exact Blk.new wo _ r.cells
          have HF5 : Hid (FlAt w5 h (.slice none 0 0) (Fl.ofM (layM o L L.length))) := by show FlAt _ _ _ _; rw [hw5]; exact HFR.out.ch (p := fun _ => False) (Below.ch ((Below.refl _ wo).alloc (Nat.le_refl _) _)) (fun h => h) (fun _ _ h => h)
          have HB5 : Hid (Below w.heap.size w w5) := by show Below _ _ _; rw [hw5]; exact HBR.out.alloc HBR.out.size _
          have HHB : Hid (h < b) := by show h < b; rw [hb]; exact HFR.out.blk.lt
          clear hcs hb hw5
          go_upto_region 14 with (first
            | (refine wpList_load_mid rfl 24 (.tmp 5) rfl w.heap.size 0 rfl cs _ HX3.out Tryz.underlying24 rfl HI3.out ?_)
            | (refine wpList_store_rowTo rfl 24 (.tmp 12) (.tmp 68) rfl rfl wo.heap.size _ rfl rfl 24 _ (heap_alloc_new wo _) HI3.out (by rw [HSZ.out]; rfl) HONE.out ?_; rw [World.setRow_alloc_new, ← HW5.out]))
          rw [← HBN.out]
          clear HW5
          have e22 : w5.cell? ⟨b, 22, none⟩ = some (.int .u16 r.pc) := HK5.out.cell 22
          have e26 : w5.cell? ⟨b, 26, none⟩ = some (.bool r.halt) := HK5.out.cell 26
          have e29 : w5.cell? ⟨b, 29, none⟩ = some (.int .u8 r.pre) := HK5.out.cell 29
          have e27 : w5.cell? ⟨b, 27, none⟩ = some (.bool r.hold) := HK5.out.cell 27
          have y22 := HK5.out.frozen 22; have y26 := HK5.out.frozen 26; have y29 := HK5.out.frozen 29; have y27 := HK5.out.frozen 27
          go_upto_region 18 with fail
          generalize hw6 : World.setCell (World.setCell (World.setCell (World.setCell w5 _ _) _ _) _ _) _ _ = w6
          have HK6 : Hid (Blk w6 b 24 x.cells) := by
            show Blk _ _ _ _
            rw [← hw6, HXX.out]
            exact (((HK5.out.set_ 22 _).set_ 26 _).set_ 29 _).set_ 27 _
          have HO6 : Hid (Only b w5 w6) := by
            show Only _ _ _
            rw [← hw6]
            exact (((Only.set b 22 w5 _).trans (Only.set b 26 _ _)).trans (Only.set b 29 _ _)).trans (Only.set b 27 _ _)
          clear hw6 e22 e26 e29 e27 y22 y26 y29 y27
          have HF6 : Hid (FlAt w6 h (.slice none 0 0) (Fl.ofM (layM o L L.length))) := Lib.hid (HF5.out.ch (Only.ch HO6.out) (by have := HHB.out; omega) (fun k hk => by cases hk))
          have HB6 : Hid (Below w.heap.size w w6) := Lib.hid (HB5.out.trans ((Only.ch HO6.out).below' HB5.out.size (fun k _ hk => by rw [hk]; have := HHB.out; have := HS4.out.2; omega)))
          obtain ⟨xs, hxs⟩ : ∃ xs, xs = x.cells := ⟨_, rfl⟩
          have HX6 : Hid (w6.rangeAt b 0 xs) := by show World.rangeAt _ _ _ _; rw [hxs]; exact blk_range HK6.out
          have HIX : Hid ((Tryz.prog.info? 24).map (·.size) = some xs.length) := by show _ = _; rw [hxs]; exact infoRegsC
          have HNW : Hid (∀ u, Calls Tryz.prog 9 #[.agg xs.toArray] u fun e w' => ∃ g sv, e = .returned (.pointer (some ⟨g, 0, none⟩)) ∧ CpAt w' g sv x.newC ∧ (u.heap.size ≤ g) ∧ (∀ b, sv.ownBlock = some b → u.heap.size ≤ b) ∧ Below u.heap.size u w') := by show ∀ u, Calls _ _ _ _ _; rw [hxs]; exact fun u => cp_new x u
          clear hxs
          go_upto_region 21 with (first
            | (refine wpList_load_mid rfl 24 (.tmp 12) rfl b 0 rfl xs _ HX6.out Tryz.underlying24 rfl HIX.out ?_)
            | (go_at_call 9
               refine (HNW.out _).mono ?_
               rintro e w7 ⟨p, sv, rfl, h4, h5, h6, h7⟩
               have H4 := Lib.hid h4; have H5 := Lib.hid h5; have H6 := Lib.hid h6; have H7 := Lib.hid h7
               clear h4 h5 h6 h7))
          have HF7 : Hid (FlAt w7 h (.slice none 0 0) (Fl.ofM (layM o L L.length))) := Lib.hid (HF6.out.ch (p := fun _ => False) (Below.ch H7.out) (fun h => h) (fun _ _ h => h))
          have HK7 : Hid (Blk w7 b 24 x.cells) := Lib.hid (HK6.out.below_ H7.out)
          have HB7 : Hid (Below w.heap.size w w7) := Lib.hid (HB6.out.trans (H7.out.mono HB6.out.size))
          have HNP : Hid (¬ SysP p h sv (.slice none 0 0) b) := Lib.hid (fun hp => by
            have h5 := H5.out; have hk := HK6.out.lt; have hb := HHB.out
            rcases hp with (hp | hp) | hp | hp
            · omega
            · have := H6.out b hp; omega
            · omega
            · cases hp)
          have hNn := HNN.out
          subst hNn
          go_wp2_with fail
          go_loopw [14] (StepR (E : Int) N p h sv w7 r2 f2) (fun v _ => N - (intOf v).toNat)
          case atStart => exact ⟨0, N, x, x.newC, Fl.ofM (layM o L L.length), sv, .slice none 0 0, rfl, Nat.zero_add _, by rw [HE.out]; exact HSEG.out, rest_newD HXO.out, H4.out, HF7.out, .inl rfl, .inl rfl, Ch.refl _ _⟩
          case round =>
            obtain ⟨T, rem, r1, c1, f1, sv1, av1, rfl, hTN, hsg, hre, hc1, hf1, hs1, ha1, hch⟩ := hrel
            have hok1 := hre.okR
            have cpc : wr.cell? ⟨p, 22, none⟩ = some (.int .u16 r1.pc) := by have := hc1.blk.cell 22; rw [← hre.r]; exact this
            obtain ⟨q0, q1⟩ := hok1.pc
            rcases hsg.next with ⟨hz, hr12, hf12⟩ | ⟨a, rm, r3, f3, hab, ha0, hpc, hins, hrest⟩
            · have hTe : T = N := by omega
              subst hr12 hf12 hTe
              have HC1 := Lib.hid hc1; have HF1 := Lib.hid hf1; have HRE := Lib.hid hre; have HCH := Lib.hid hch
              have hpcE : r1.pc = (E : Int) := by rw [HE.out]; exact HAT2.out.pc
              rw [hpcE] at cpc
              have hb1 : ((E : Int) != (E : Int)) = false := by simp
              clear hsg hre hc1 hf1 hs1 ha1 hch hz hTN q0 q1 hpcE hok1
              go_upto_region 24 with fail
              obtain ⟨A1, ca, hav, -, -⟩ := own_formA HF1.out.own
              have hz : f1.acts.length = 0 := by rw [HKEPT.out.acts]; rfl
              rw [hz] at hav
              have HAV := Lib.hid hav
              obtain ⟨B1, R1, W1, Q1, hrr⟩ := HLIKE.out
              have HRR := Lib.hid hrr
              have hck : c1.r.cells = r1.cells := by rw [HRE.out.r]
              have HKX : Hid (Blk wr b 24 x.cells) := Lib.hid (HCH.out.blk HK7.out HNP.out)
              have HB8 : Hid (Below w.heap.size w wr) := Lib.hid (HB7.out.trans (HCH.out.below' HB7.out.size (fun k _ hk => by
                have h5 := H5.out; have h6 := HK6.out.lt; have hhb := HHB.out; have h4 := HS4.out.2; have hb6 := HB6.out.size
                rcases hk with (hk | hk) | hk | hk
                · omega
                · have := H6.out k hk; omega
                · omega
                · cases hk)))
              obtain ⟨ys, hys⟩ : ∃ ys, ys = r1.cells := ⟨_, rfl⟩
              have HY7 : Hid (wr.rangeAt p 0 ys) := by show World.rangeAt _ _ _ _; rw [hys, ← hck]; exact HC1.out.range
              have HIY : Hid ((Tryz.prog.info? 24).map (·.size) = some ys.length) := by show _ = _; rw [hys]; exact infoRegsC
              have HSY : Hid (ys.toArray.size = 30) := by show _ = _; rw [hys]; rfl
              have HOY : Hid (ys.toArray.all (·.oneCell') = true) := by show _ = _; rw [hys]; simp [Rg.cells, Value.oneCell']
              obtain ⟨d, hd⟩ : ∃ d, d = wr.heap.size := ⟨_, rfl⟩
              have HD := Lib.hid hd
              obtain ⟨w8, hw8⟩ : ∃ w8, w8 = wr.alloc (.cells ys.toArray 24) := ⟨_, rfl⟩
              have HW8 := Lib.hid hw8
              have HKY : Hid (Blk w8 d 24 r1.cells) := by show Blk _ _ _ _; rw [hw8, hd, hys]; exact Blk.new wr _ r1.cells
              have HKB : Hid (Blk w8 b 24 x.cells) := by show Blk _ _ _ _; rw [hw8]; exact HKX.out.alloc _
              have HBF : Hid (Blk w8 h 39 (f1.m.map (.int .u8) ++ [.slice none 0 0, av1, .int .u64 f1.t, .bool f1.line])) := by show Blk _ _ _ _; rw [hw8]; exact HF1.out.blk.alloc _
              have HB9 : Hid (Below w.heap.size w w8) := by show Below _ _ _; rw [hw8]; exact HB8.out.alloc HB8.out.size _
              have HDB : Hid (b < d ∧ h < d) := Lib.hid ⟨by rw [hd]; exact HKX.out.lt, by rw [hd]; exact HF1.out.blk.lt⟩
              have hm8 : w8.cell? ⟨h, 65537, none⟩ = some av1 := (World.cell?_of_block (by rw [hw8]; exact Below.heap_alloc wr _ h HF1.out.blk.lt)).trans (HF1.out.tail 1 65537 rfl)
              clear hys hd hw8 hav hz hrr hck
              go_upto_region 25 with (first
                | (refine wpList_load_mid rfl 24 (.tmp 107) rfl p 0 rfl ys _ HY7.out Tryz.underlying24 rfl HIY.out ?_)
                | (refine wpList_store_rowTo rfl 24 (.tmp 16) (.tmp 108) rfl rfl wr.heap.size _ rfl rfl 24 _ (heap_alloc_new wr _) HIY.out (by rw [HSY.out]; rfl) HOY.out ?_; rw [World.setRow_alloc_new, ← HW8.out]))
              rw [← HD.out]
              clear HW8
              have k2 : w8.cell? ⟨d, 2, none⟩ = some (.int .u8 B1) := by have := HKY.out.cell 2; rw [HRR.out] at this; exact this
              have k17 : w8.cell? ⟨d, 17, none⟩ = some (.int .u8 R1) := by have := HKY.out.cell 17; rw [HRR.out] at this; exact this
              have k23 : w8.cell? ⟨d, 23, none⟩ = some (.int .u16 W1) := by have := HKY.out.cell 23; rw [HRR.out] at this; exact this
              have k18 : w8.cell? ⟨d, 18, none⟩ = some (.int .u8 Q1) := by have := HKY.out.cell 18; rw [HRR.out] at this; exact this
              have j2 := HKY.out.frozen 2; have j17 := HKY.out.frozen 17; have j23 := HKY.out.frozen 23; have j18 := HKY.out.frozen 18
              have x2 : w8.cell? ⟨b, 2, none⟩ = some (.int .u8 x.b) := HKB.out.cell 2
              have x17 : w8.cell? ⟨b, 17, none⟩ = some (.int .u8 x.r) := HKB.out.cell 17
              have x23 : w8.cell? ⟨b, 23, none⟩ = some (.int .u16 x.wz) := HKB.out.cell 23
              have x18 : w8.cell? ⟨b, 18, none⟩ = some (.int .u8 x.q) := HKB.out.cell 18
              have x22 : w8.cell? ⟨b, 22, none⟩ = some (.int .u16 x.pc) := HKB.out.cell 22
              have i22 := HKB.out.frozen 22
              have nbd : b ≠ d := by have := HDB.out.1; omega
              have ndb : d ≠ b := by have := HDB.out.1; omega
              have v10 : IntKind.u16.wrap (E : Int) = (E : Int) := by rw [IntKind.wrap_u16]; omega
              go_upto_region 30 with fail
              generalize hwm : World.setCell (World.setCell (World.setCell (World.setCell w8 _ _) _ _) _ _) _ _ = wm
              have HOM : Hid (Only d w8 wm) := by
                show Only _ _ _
                rw [← hwm]
                exact (((Only.set d 2 w8 _).trans (Only.set d 17 _ _)).trans (Only.set d 23 _ _)).trans (Only.set d 18 _ _)
              have HKM : Hid (Blk wm d 24 (r.begunAt E).cells) := by
                have := (((HKY.out.set_ 2 (.int .u8 x.b)).set_ 17 (.int .u8 x.r)).set_ 23 (.int .u16 x.wz)).set_ 18 (.int .u8 x.q)
                rw [HRR.out, HXX.out, ← HE.out] at this
                show Blk _ _ _ _
                rw [← hwm, HXX.out]
                exact this
              clear hwm k2 k17 k23 k18 j2 j17 j23 j18 x2 x17 x23 x18 x22 i22
              generalize hw9 : World.setCell wm _ _ = w9
              have HON : Hid (Only b wm w9) := by show Only _ _ _; rw [← hw9]; exact Only.set b 22 wm _
              have HKD : Hid (Blk w9 d 24 (r.begunAt E).cells) := Lib.hid (HON.out.blk ndb HKM.out)
              have HKN : Hid (Blk w9 b 24 (r.begunAt E).cells) := by
                have := (HOM.out.blk nbd HKB.out).set_ 22 (.int .u16 (E : Int))
                rw [HXX.out] at this
                show Blk _ _ _ _
                rw [← hw9]
                exact this
              have hm9 : w9.cell? ⟨h, 65537, none⟩ = some (.slice A1 0 ca) := by
                have h1 := HDB.out; have h2 := HHB.out
                rw [cell_of_block' HON.out.block (by show h ≠ b; omega), cell_of_block' HOM.out.block (by show h ≠ d; omega), hm8, HAV.out]
              have HBZ : Hid (Below w.heap.size w w9) := Lib.hid ((HB9.out.trans ((Only.ch HOM.out).below' HB9.out.size (fun k _ hk => by rw [hk]; have := HB8.out.size; have h1 := HDB.out; have h2 := HHB.out; have h4 := HS4.out.2; omega))).trans ((Only.ch HON.out).below' (by have := HB9.out.size; have := (Only.ch HOM.out).size; omega) (fun k _ hk => by rw [hk]; have h2 := HHB.out; have h4 := HS4.out.2; omega)))
              clear hw9 hm8
              obtain ⟨es, hes⟩ : ∃ es, es = (r.begunAt E).cells := ⟨_, rfl⟩
              have HXD : Hid (w9.rangeAt d 0 es) := by show World.rangeAt _ _ _ _; rw [hes]; exact blk_range HKD.out
              have HXB : Hid (w9.rangeAt b 0 es) := by show World.rangeAt _ _ _ _; rw [hes]; exact blk_range HKN.out
              have HIE : Hid ((Tryz.prog.info? 24).map (·.size) = some es.length) := by show _ = _; rw [hes]; exact infoRegsC
              have HEQ : Hid (∀ u, (do eqGuard .eql 24 (.tmp 128) (.tmp 129) (.agg es.toArray) (.agg es.toArray); binOp .eql 24 (.agg es.toArray) (.agg es.toArray) : Sem Value).run Tryz.prog u = .ok (.bool true) u) := by show ∀ u, _ = _; rw [hes]; exact eqg_regsD _
              clear hes
              refine wp_region_list ?_
              iterate 17 (first
                | (refine wpList_load_g (by rfl) 24 (.tmp 16) rfl d 0 rfl es _ HXD.out Tryz.underlying24 rfl HIE.out ?_)
                | (refine wpList_load_g (by rfl) 24 (.tmp 12) rfl b 0 rfl es _ HXB.out Tryz.underlying24 rfl HIE.out ?_)
                | (refine wpList_bin_g (by rfl) .eql 24 (.tmp 128) (.tmp 129) 24 rfl (.bool true) (.agg es.toArray) (.agg es.toArray) rfl rfl (HEQ.out _) ?_)
                | go_step)
              go_wp2_with (first
                | (go_at_call 4; refine (lives28 _).mono ?_; rintro e w10 ⟨rfl, hb10⟩))
              go_ret
              exact ⟨rfl, HBZ.out.trans (hb10.mono HBZ.out.size)⟩
            · obtain ⟨c3, hre3, hrun⟩ := hins c1 hre
              have haa : a ≤ 1000000 := by have := HNN.out; have := HN.out; omega
              have HSTEP := Lib.hid (fl_step p h sv1 av1 c1 c3 f1 f3 a wr hc1 hf1 hrun haa)
              have HALL : Hid (∀ w', SysTo p h wr sv1 av1 c3 f3 w' → StepR (E : Int) N p h sv w7 r2 f2 (.int .i64 ((T + a : Nat) : Int)) w') := Lib.hid (fun w' hsy => by
                obtain ⟨sv2, av2, y1, y2, y3, y4, y5⟩ := hsy
                refine ⟨T + a, rm, r3, c3, f3, sv2, av2, rfl, by omega, hrest, hre3, y1, y2, hs1.trans y3 hch.size, ha1.trans y4 hch.size, hch.trans y5 (fun _ _ h => h) fun i hi hp => ?_⟩
                rcases hp with hp | hp
                · exact .inl (hs1.place hi hp)
                · exact .inr (ha1.placeF hi hp))
              generalize r1.pc = q at cpc q0 q1 hpc
              have hb1 : (q != (E : Int)) = true := by simpa using hpc
              have hb2 : (T : Int) ≤ (N : Int) := by omega
              have hsum : IntKind.i64.wrap ((T : Int) + a) = ((T + a : Nat) : Int) := by rw [IntKind.wrap_i64]; omega
              have HSUM := Lib.hid hsum
              have hdec : T < N := by omega
              have ha0' := ha0
              clear hsg hre hc1 hf1 hs1 ha1 hch hre3 hrun haa hins hrest hab hsum hTN hpc hok1
              go_wp2_with (first
                | (go_at_call 10; refine HSTEP.out.mono ?_; rintro e w9 ⟨rfl, h9⟩; have hsum := HSUM.out))
              go_roundw
              case rel => exact HALL.out _ h9
              case measure => simp [intOf]; omega
end Go.Proofs.YtifgikjmfmkgeaaGreat
