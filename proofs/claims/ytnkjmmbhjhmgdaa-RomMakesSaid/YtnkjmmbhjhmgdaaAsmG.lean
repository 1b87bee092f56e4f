/- A program that is put together: Done. -/
import Derived.Test.YtnkjmmbhjhmgdaaAsmF
import Derived.Laws.OwnMore
import Derived.Deep.RegionLawGrows
namespace Go.Proofs.Ytnkjmmbhjhmgdaa
set_option linter.unusedSimpArgs false
set_option linter.unusedVariables false
open Go.RowKit Go.Maps Go.Sort
structure AsmTd (d : AsmD) : Prop where
  place : d.e = 0 → ∀ x ∈ d.td, 0 ≤ x.2.1 ∧ x.2.1 + (if x.2.2 then 1 else 2) ≤ d.out.length
  name : ∀ x ∈ d.td, x.1.size ≤ maxLen
  mark : ∀ s v, d.mks s = some v → 0 ≤ v ∧ v ≤ 65536
def doneL (d : AsmD) : List (ByteArray × Int × Bool) → List Int → Int × List Int
  | [], o => (0, o)
  | x :: t, o => match d.mks x.1.data.toList with
    | none => (10, [])
    | some to => if x.2.2 = true then
        if to - (d.org + x.2.1 + 1) < -128 ∨ 127 < to - (d.org + x.2.1 + 1) then (5, []) else doneL d t (o.set x.2.1.toNat ((to - (d.org + x.2.1 + 1)) % 256))
      else doneL d t ((o.set x.2.1.toNat (to % 256)).set (x.2.1.toNat + 1) (to / 256 % 256))
def doneF (d : AsmD) : Int × List Int := if d.e ≠ 0 then (d.e, []) else doneL d d.td d.out
def DoneR (d : AsmD) (w : World) (e : Ending) (w' : World) : Prop :=
  ((doneF d).1 ≠ 0 ∧ e = .returned (.tuple #[.slice none 0 0, .int .i64 (doneF d).1]) ∨
   (doneF d).1 = 0 ∧ ∃ A n c, e = .returned (.tuple #[.slice A n c, .int .i64 0]) ∧ Ints w' A .u8 (doneF d).2 ∧ (doneF d).2.length = n ∧ (A = none → n = 0 ∧ c = 0)) ∧ Below w.heap.size w w'
theorem asm_Done_nil (w : World) : Calls Try.prog 19 #[.pointer none] w fun e w' => e = .returned (.tuple #[.slice none 0 0, .int .i64 1]) ∧ w = w' := by
  go_enter Try.func19, Try.ntmps19
  go_wp2_with fail
  go_ret2
  exact ⟨rfl, rfl⟩
theorem tdCells_get (td : List (ByteArray × Int × Bool)) : ∀ (k : Nat) x, td[k]? = some x → (tdCells td)[k * 3]? = some (.string x.1) ∧ (tdCells td)[k * 3 + 1]? = some (.int .i64 x.2.1) ∧ (tdCells td)[k * 3 + 2]? = some (.bool x.2.2) := by
  induction td with
  | nil => intro k x h; simp at h
  | cons y td ih =>
    intro k x h
    have e : tdCells (y :: td) = .string y.1 :: .int .i64 y.2.1 :: .bool y.2.2 :: tdCells td := by simp [tdCells]
    cases k with
    | zero => simp at h; subst h; rw [e]; exact ⟨rfl, rfl, rfl⟩
    | succ k =>
      simp at h
      have := ih k x h
      rw [e, show (k + 1) * 3 = k * 3 + 1 + 1 + 1 by omega]
      simpa using this
theorem wpQuiet_lookup {P : Program} {ops : Array Oper} {C : World → Prop} {Q : Act → Prop} {a : Act} {o : Oper} {rest : List Oper} (hg : o.guard = none) (t : TypeId) (m x : Operand) (c : Bool) (ho : o.op = .lookup t m x c)
    (vm vx : Value) (hm : a.eval m = vm) (hx : a.eval x = vx) (v : Value) (hl : ∀ w, C w → (Instr.lookup t vm vx c).run P w = .ok v w) (h : wpQuiet P ops C Q rest (a.put o.dst v)) : wpQuiet P ops C Q (o :: rest) a := by
  have hw : Region.wanted o (yielded ops a.tmps) = true := by simp [Region.wanted, hg]
  simp only [wpQuiet, hw, if_true]
  refine ⟨v, fun w hc => ?_, h⟩
  have := hl w hc
  unfold Oper.quietAt execOp
  simp only [ho, hm, hx, Sem.run_bind, this, Result.andThen_ok]
  simp [Oper.quietUpon, Sem.run_pure]
set_option maxRecDepth 100000 in
/-- what a name is found to be, in whatever world that keeps the map -/
theorem AsmS.look {B P M nm : Nat} {w : World} {d : AsmD} (h : AsmS B P M nm w d) (s : ByteArray) (hs : s.size ≤ maxLen) :
    (Instr.lookup 51 (.map (some M)) (.string s) true).run Try.prog w = .ok (.tuple #[.int .i64 ((d.mks s.data.toList).getD 0), .bool (d.mks s.data.toList).isSome]) w := by
  obtain ⟨D, h1, h2⟩ := h.map
  obtain ⟨v, ps, hrun, hv⟩ := h1.look_ok keyLaw Try.underlying51 (zeroInt w) (plainElem_int Try.underlying3 (by decide)) (keyOf_s s hs)
  obtain ⟨hh, hat⟩ := h2.2 s.data.toList
  obtain ⟨c, rfl, hc, _⟩ := plainElem_int_inv Try.underlying3 hv
  have hc1 : D.atKey (.string s.data.toList) (.lit (.int .i64 0)) = .lit (.int .i64 c) := congrArg Prod.fst hc
  rw [hat] at hc1
  injection hc1 with hc1
  injection hc1 with _ hc1
  rw [hrun, hh, hc1]
theorem own_some {w : World} {base : Nat} {e : TypeId} {size n : Nat} {A : Option Addr} {c : Nat} {xs : List Value} (h : w.ownsRow base e size (.slice A n c) n xs) (hn : 0 < n) : ∃ g, A = some ⟨g, 0, none⟩ ∧ base ≤ g ∧ g < w.heap.size ∧ n ≤ c := by
  rcases h.2 with ⟨e1, e2⟩ | ⟨g, cap, cur, e1, h1, h2, h3, _⟩
  · omega
  · injection e1 with e1 _ e3
    subst e1 e3
    exact ⟨g, rfl, h1, (Array.getElem?_eq_some_iff.1 h2).1, h3⟩
set_option maxRecDepth 100000 in
set_option maxHeartbeats 16000000 in
theorem asm_Done (B P M nm T : Nat) (d : AsmD) (w : World) (h : AsmS B P M nm w d) (ok : AsmOk d T) (hT : T ≤ 1000) (ht : AsmTd d) :
    Calls Try.prog 19 #[.pointer (some ⟨P, 0, none⟩)] w (DoneR d w) := by
  obtain ⟨vo, vt, h1, h2, h3⟩ := h.ex
  obtain ⟨Ao, co, rfl, hAo, hco⟩ := own_form h2
  obtain ⟨At, ct, rfl, hAt, hct⟩ := own_form h3
  have c1 : w.cell? ⟨P, 1, none⟩ = some (.slice Ao d.out.length co) := h1.cell 1
  have c4 : w.cell? ⟨P, 4, none⟩ = some (.int .i64 d.e) := h1.cell 4
  have HS := Lib.hid h
  have HTD := Lib.hid ht
  have HOK := Lib.hid ok
  have H3 := Lib.hid h3
  have H1 := Lib.hid h1
  have olen := ok.len
  have HI := Lib.hid (own_cells h2)
  have HAo := Lib.hid hAo
  clear h ht h1 h2 hAo
  by_cases he : d.e = 0
  · rw [he] at c4
    have HCL : Hid (Calls Try.prog 30 #[.slice Ao d.out.length co] w fun e w' => ∃ v, e = .returned v ∧ w'.ownsRow w.heap.size 5 1 v d.out.length (d.out.map (.int .u8 ·)) ∧ Below w.heap.size w w') := Lib.hid (clone_any Ao d.out.length co d.out w HI.out rfl (by omega) HAo.out)
    have htdl := ok.told
    go_enter Try.func19, Try.ntmps19
    go_wp2_with (first
      | (go_at_call 30; refine HCL.out.mono ?_; rintro e w2 ⟨v, rfl, ho, hb⟩; obtain ⟨A2, c2, rfl, hA2, hc2⟩ := own_form ho; have HO := Lib.hid ho; have HB2 := Lib.hid hb; have c23 : w2.cell? ⟨P, 3, none⟩ = some (.slice At d.td.length ct) := (H1.out.below_ hb).cell 3; have HS2 := Lib.hid (HS.out.below_ hb); have HA2 := Lib.hid hA2; clear ho hb hA2))
    go_loopw [33] (fun i u => ∃ (k : Nat) (o : List Int), i = .int .i64 k ∧ k ≤ d.td.length ∧ Hid (u.ownsRow w.heap.size 5 1 (.slice A2 d.out.length c2) d.out.length (o.map (.int .u8 ·))) ∧ Hid (o.length = d.out.length) ∧ Hid (Below w.heap.size w u) ∧ Hid (doneL d (d.td.drop k) o = doneL d d.td d.out)) (fun i _ => d.td.length - (intOf i).toNat)
    case atStart => exact ⟨0, d.out, rfl, Nat.zero_le _, HO, Lib.hid rfl, HB2, Lib.hid rfl⟩
    case round =>
      obtain ⟨k, o, rfl, hk, HO', HOL, HB', HE⟩ := hrel
      have HBB := Lib.hid HB'.out
      have hsz := HB'.out.size
      clear HO HB2 HS2 c23 c1 c4
      have HSu := Lib.hid (HS.out.below_ HB'.out)
      by_cases hlt : k < d.td.length
      · have hlt2 : (k : Int) < d.td.length := by omega
        obtain ⟨gt, rfl, hgB, hglt, hgc⟩ := own_some (own_below H3.out HB'.out) (by omega)
        obtain ⟨x, hx⟩ : ∃ x, d.td[k]? = some x := ⟨_, List.getElem?_eq_getElem hlt⟩
        obtain ⟨q1, q2, q3⟩ := tdCells_get d.td k x hx
        have H3u := own_below H3.out HB'.out
        have hk3 : k * 3 + 2 < d.td.length * 3 := by omega
        have t0 : wr.cell? ⟨gt, k * 3, none⟩ = some (.string x.1) := (H3u.cellAt _ (by omega)).trans q1
        have t1 : wr.cell? ⟨gt, k * 3 + 1, none⟩ = some (.int .i64 x.2.1) := (H3u.cellAt _ (by omega)).trans q2
        have t2 : wr.cell? ⟨gt, k * 3 + 2, none⟩ = some (.bool x.2.2) := (H3u.cellAt _ (by omega)).trans q3
        obtain ⟨s, at_, near⟩ := x
        simp only [] at t0 t1 t2
        clear H3u q1 q2 q3
        have HX := Lib.hid hx
        clear hx
        have hnm : s.size ≤ maxLen := HTD.out.name _ (List.mem_of_getElem? HX.out)
        have hpl := HTD.out.place he _ (List.mem_of_getElem? HX.out)
        go_upto_region 9 with fail
        obtain ⟨W9, hW9⟩ : ∃ u, u = wr.alloc (.cells #[.string s, .int .i64 at_, .bool near] 63) := ⟨_, rfl⟩
        have hb9 : Below wr.heap.size wr W9 := by rw [hW9]; exact below_alloc1 _ _
        have B9 : Blk W9 wr.heap.size 63 [.string s, .int .i64 at_, .bool near] := by rw [hW9]; exact Blk.new wr _ _
        rw [← hW9]
        clear hW9
        have HS9 := Lib.hid (HSu.out.below_ hb9)
        have HO9 := Lib.hid (own_below HO'.out hb9)
        have HB9 := Lib.hid (HB'.out.trans (hb9.mono hsz))
        have P9 := H1.out.below HB9.out (H1.out.lt)
        have g0 : W9.cell? ⟨wr.heap.size, 0, none⟩ = some (.string s) := B9.cell 0
        have p2 : W9.cell? ⟨P, 2, none⟩ = some (.map (some M)) := P9.cell 2
        have kg0 := cell_regrown g0
        have kp2 := cell_regrown p2
        have lk := fun dd os => (HS9.out.below_ (below_regrown W9 dd os)).look s hnm
        have HB9' := Lib.hid B9
        have HP9 := Lib.hid P9
        have HGO : Hid (∀ g, A2 = some ⟨g, 0, none⟩ → g < wr.heap.size) := Lib.hid (fun g h => (HO'.out.lt g (by rw [h]; rfl)).2)
        clear t0 t1 t2 hb9 B9 P9 HSu HO' HB' g0 p2
        cases hm : d.mks s.data.toList with
        | none =>
          have lk0 := lk
          simp only [hm] at lk
          go_wp2_with fail
          refine wp_region_quiet_below (by kernel_rfl) (by kernel_rfl) ?_
          iterate 6 (quiet_step (fail))
          refine wpQuiet_lookup rfl _ _ _ true rfl _ _ rfl rfl (.tuple #[.int .i64 0, .bool false]) (fun u hu => ?_) ?_
          · obtain ⟨p, rfl⟩ := hu
            exact lk _ _
          repeat (quiet_step (fail))
          refine wpQuiet_nil ?_
          intro _ hwq
          obtain ⟨⟨dq, osq⟩, hwr⟩ := hwq
          subst hwr
          have HB99 := Lib.hid (HB9.out.trans ((below_regrown W9 dq osq).mono HB9.out.size))
          go_wp2_with fail
          go_ret2
          have hd : doneF d = (10, []) := by
            unfold doneF
            rw [if_neg (by omega), ← HE.out, List.drop_eq_getElem_cons hlt]
            have hx2 : d.td[k] = (s, at_, near) := (List.getElem?_eq_some_iff.1 HX.out).2
            rw [hx2]
            simp only [doneL, hm]
          exact ⟨.inl ⟨by rw [hd]; decide, by rw [hd]; rfl⟩, HB99.out⟩
        | some to =>
          simp only [hm] at lk
          have hto := HTD.out.mark _ _ hm
          obtain ⟨to0, to1⟩ := hto
          obtain ⟨at0, at1⟩ := hpl
          simp only [] at at0 at1
          go_wp2_with fail
          refine wp_region_quiet_below (by kernel_rfl) (by kernel_rfl) ?_
          iterate 6 (quiet_step (fail))
          refine wpQuiet_lookup rfl _ _ _ true rfl _ _ rfl rfl (.tuple #[.int .i64 to, .bool true]) (fun u hu => ?_) ?_
          · obtain ⟨p, rfl⟩ := hu
            exact lk _ _
          repeat (quiet_step (fail))
          refine wpQuiet_nil ?_
          intro _ hwq
          obtain ⟨⟨dq, osq⟩, hwr⟩ := hwq
          subst hwr
          obtain ⟨w9, hw9⟩ : ∃ u, u = grow (redrawn W9 dq) osq := ⟨_, rfl⟩
          have hb99 : Below W9.heap.size W9 w9 := by rw [hw9]; exact below_regrown _ _ _
          rw [← hw9]
          clear hw9 lk kg0 kp2
          have HB99 := Lib.hid (HB9.out.trans (hb99.mono HB9.out.size))
          have HO99 := Lib.hid (own_below HO9.out hb99)
          have k1 : w9.cell? ⟨wr.heap.size, 1, none⟩ = some (.int .i64 at_) := (HB9'.out.below_ hb99).cell 1
          have k2 : w9.cell? ⟨wr.heap.size, 2, none⟩ = some (.bool near) := (HB9'.out.below_ hb99).cell 2
          have o0 : w9.cell? ⟨P, 0, none⟩ = some (.int .i64 d.org) := (HP9.out.below_ hb99).cell 0
          have HS99 := Lib.hid (HS9.out.below_ hb99)
          clear hb99
          obtain ⟨q, rfl⟩ : ∃ q : Nat, at_ = q := ⟨at_.toNat, by omega⟩
          have hq2 : q + (if near then 1 else 2) ≤ d.out.length := by cases near <;> simp at at1 ⊢ <;> omega
          have hq1 : q < d.out.length := by cases near <;> simp at hq2 <;> omega
          obtain ⟨go, rfl, hgoB, hgolt, hgoc⟩ := own_some HO99.out (by omega)
          have hgl : go < wr.heap.size := HGO.out go rfl
          have hgne : ¬ wr.heap.size = go := by omega
          have hgne2 : ¬ go = wr.heap.size := by omega
          obtain ⟨b0, hb0⟩ : ∃ b, o[q]? = some b := ⟨_, List.getElem?_eq_getElem (by have := HOL.out; omega)⟩
          have s0 : w9.cell? ⟨go, q, none⟩ = some (.int .u8 b0) := (HO99.out.cellAt q (by omega)).trans (by rw [List.getElem?_map, hb0]; rfl)
          have fq := HO99.out.frozenAt q
          have hqi : (q : Int) < d.out.length := by omega
          have ew : IntKind.u8.wrap to = to % 256 := by rw [IntKind.wrap_u8]
          have hdl : d.td[k] = (s, (q : Int), near) := (List.getElem?_eq_some_iff.1 HX.out).2
          have HDL : Hid (d.td.drop k = (s, (q : Int), near) :: d.td.drop (k + 1)) := Lib.hid (by rw [List.drop_eq_getElem_cons hlt, hdl])
          have HM := Lib.hid hm
          have HHB := Lib.hid (HOL.out)
          clear hb0 hm hdl at0 at1 HB9 HO9 HB9' HP9 HOL
          cases near with
          | false =>
            have hq3 : q + 2 ≤ d.out.length := by simpa using hq2
            have hqi1 : (q : Int) + 1 < d.out.length := by omega
            obtain ⟨b1, hb1⟩ : ∃ b, o[q + 1]? = some b := ⟨_, List.getElem?_eq_getElem (by have := HHB.out; omega)⟩
            have s1 : w9.cell? ⟨go, q + 1, none⟩ = some (.int .u8 b1) := (HO99.out.cellAt (q + 1) (by omega)).trans (by rw [List.getElem?_map, hb1]; rfl)
            have fq1 := HO99.out.frozenAt (q + 1)
            have ew2 : IntKind.u8.wrap (to / 256) = to / 256 % 256 := by rw [IntKind.wrap_u8]
            have t1 : (((q : Int) + 1).toNat) = q + 1 := by omega
            have w0 : IntKind.i64.wrap ((q : Int) + 1) = (q : Int) + 1 := by rw [IntKind.wrap_i64]; omega
            have w00 : (0 : Int) ≤ (q : Int) + 1 := by omega
            clear hb1 hq2
            go_upto_region 13 with fail
            go_region_law (fail)
            all_goals
              go_wp2_with fail
              go_roundw
              case rel => exact ⟨k + 1, (o.set q (to % 256)).set (q + 1) (to / 256 % 256), by go_num, by omega, Lib.hid (by
                have h1 := (HO99.out.stored q (.int .u8 (to % 256))).1
                have h2 := (h1.stored (q + 1) (.int .u8 (to / 256 % 256))).1
                rw [List.map_set, List.map_set]
                exact h2), Lib.hid (by simp [HHB.out]), Lib.hid (by repeat (first | exact HB99.out | refine Below.drew ?_ | refine Below.setCell ?_ hgoB _)), Lib.hid (by
                rw [← HE.out, HDL.out]
                simp [doneL, HM.out])⟩
              case measure => simp [intOf]; omega
          | true =>
            have hq3 : q + 1 ≤ d.out.length := by simpa using hq2
            have org0 := HOK.out.org0
            have org1 := HOK.out.org1
            have w0 : IntKind.i64.wrap (d.org + q) = d.org + q := by rw [IntKind.wrap_i64]; omega
            have w1 : IntKind.i64.wrap (d.org + q + 1) = d.org + q + 1 := by rw [IntKind.wrap_i64]; omega
            have w2 : IntKind.i64.wrap (to - (d.org + q + 1)) = to - (d.org + q + 1) := by rw [IntKind.wrap_i64]; omega
            clear hq2
            go_upto_region 14 with fail
            go_quiet (fail)
            have HB90 := Lib.hid (Below_drewN HB99.out nq)
            obtain ⟨x, hx⟩ : ∃ x, x = to - (d.org + q + 1) := ⟨_, rfl⟩
            have HXX := Lib.hid hx
            rw [← hx]
            have hx0 : -200000 ≤ x ∧ x ≤ 70000 := by omega
            obtain ⟨hx1, hx2⟩ := hx0
            have ew3 : IntKind.u8.wrap x = x % 256 := by rw [IntKind.wrap_u8]
            clear hx w0 w1 w2
            by_cases hd : x < -128 ∨ 127 < x
            · have HDF : Hid (doneF d = (5, [])) := Lib.hid (by
                unfold doneF
                rw [if_neg (by omega), ← HE.out, HDL.out]
                simp only [doneL, HM.out]
                rw [if_pos trivial, if_pos (by rw [← HXX.out]; exact hd)])
              by_cases hd1 : x < -128
              · go_wp2_with fail
                go_ret2
                exact ⟨.inl ⟨by rw [HDF.out]; decide, by rw [HDF.out]; rfl⟩, HB90.out⟩
              · have hd2 : 127 < x := by omega
                go_wp2_with fail
                go_ret2
                exact ⟨.inl ⟨by rw [HDF.out]; decide, by rw [HDF.out]; rfl⟩, HB90.out⟩
            · have hd1 : ¬ x < -128 := by omega
              have hd2 : ¬ 127 < x := by omega
              go_wp2_with fail
              go_roundw
              case rel => exact ⟨k + 1, o.set q (x % 256), by go_num, by omega, Lib.hid (by
                have h1 := (HO99.out.stored q (.int .u8 (x % 256))).1
                rw [List.map_set]
                exact h1), Lib.hid (by simp [HHB.out]), Lib.hid (HB90.out.setCell hgoB _), Lib.hid (by
                rw [← HE.out, HDL.out]
                simp only [doneL, HM.out]
                rw [if_pos trivial, if_neg (by rw [← HXX.out]; exact hd), ← HXX.out]
                rfl)⟩
              case measure => simp [intOf]; omega
      · obtain rfl : k = d.td.length := by omega
        go_wp2_with fail
        go_ret2
        have hd : doneF d = (0, o) := by
          unfold doneF
          rw [if_neg (by omega), ← HE.out, List.drop_length]
          rfl
        refine ⟨.inr ⟨by rw [hd], A2, _, c2, rfl, ?_, ?_, HA2.out⟩, HB'.out⟩
        · rw [hd]; exact own_cells HO'.out
        · rw [hd]; exact HOL.out
  · go_enter Try.func19, Try.ntmps19
    go_wp2_with fail
    go_quiet (fail)
    all_goals
      go_wp2_with fail
      go_ret2
      have hd : doneF d = (d.e, []) := by unfold doneF; rw [if_pos he]
      exact ⟨.inl ⟨by rw [hd]; exact he, by rw [hd]; rfl⟩, Below_drewN (Below.refl _ _) _⟩
end Go.Proofs.Ytnkjmmbhjhmgdaa
