/- Texts that are laid together: G02. -/
import Derived.Test.YtokidpajialgbaaQG01
import Derived.Test.YtokidpajialgbaaQG00
namespace Go.Proofs.Ytokidpajialgbaa
set_option linter.unusedSimpArgs false
set_option linter.unusedVariables false
open Go.RowKit
/-- a writer stands in block P; it holds a row v of the bytes L -/
structure OutS (w : World) (P base : Nat) (v : Value) (L : List Int) : Prop where
  blk : Blk w P 60 [v]
  row : RowM w base v L.length (L.map (.int .u8))
  ne : v.ownBlock ≠ some P
/-- nothing was changed but the writer in P and its row -/
structure OutK (P : Nat) (w : World) (v : Value) (w' : World) (v' : Value) : Prop where
  os : w'.os = w.os
  tape : w'.tape = w.tape
  output : w'.output = w.output
  size : w.heap.size ≤ w'.heap.size
  keep : ∀ k, k < w.heap.size → k ≠ P → v.ownBlock ≠ some k → w'.heap[k]? = w.heap[k]?
  own : ∀ k, k < w.heap.size → v'.ownBlock = some k → v.ownBlock = some k
theorem OutK.refl (P : Nat) (w : World) (v : Value) : OutK P w v w v := ⟨rfl, rfl, rfl, Nat.le_refl _, fun _ _ _ _ => rfl, fun _ _ h => h⟩
theorem OutK.trans {P : Nat} {a b c : World} {u v x : Value} (h : OutK P a u b v) (h' : OutK P b v c x) : OutK P a u c x :=
  ⟨h'.os.trans h.os, h'.tape.trans h.tape, h'.output.trans h.output, Nat.le_trans h.size h'.size,
   fun k hk hp hu => (h'.keep k (Nat.lt_of_lt_of_le hk h.size) hp (fun e => hu (h.own k hk e))).trans (h.keep k hk hp hu),
   fun k hk e => h.own k hk (h'.own k (Nat.lt_of_lt_of_le hk h.size) e)⟩
theorem OutK.fresh {P : Nat} {w w' : World} {v : Value} (h : Below w.heap.size w w') : OutK P w v w' v :=
  ⟨h.os, h.tape, h.output, h.size, fun k hk _ _ => h.block k hk, fun _ _ e => e⟩
theorem OutK.alloc {P : Nat} (w : World) (v : Value) (o : Obj) : OutK P w v (w.alloc o) v := OutK.fresh ((Below.refl _ w).alloc (Nat.le_refl _) o)
theorem OutK.grown {P : Nat} {w w' : World} {v v' : Value} (h : w.grownBy w' v.ownBlock) (hv : v'.ownBlock = v.ownBlock ∨ ∀ g, v'.ownBlock = some g → w.heap.size ≤ g) : OutK P w v w' v' :=
  ⟨h.os, h.tape, h.output, h.size, fun k hk _ hu => h.block k hk (fun e => hu e.symm), fun k hk e => by
    rcases hv with h1 | h1
    · rw [← h1]; exact e
    · have := h1 k e; omega⟩
theorem OutK.set {P : Nat} (w : World) (v v' x : Value) (hv : v' = v) : OutK P w v (w.setCell ⟨P, 0, none⟩ x) v' := by
  subst hv
  have hg := grownBy_setCell (grownBy_refl w (some P)) 0 x
  exact ⟨hg.os, hg.tape, hg.output, hg.size, fun k hk hp _ => set_heap hk hp, fun _ _ e => e⟩
theorem OutK.below {P B : Nat} {a w w' : World} {v v' : Value} (h : OutK P w v w' v') (hb : Below B a w) (hBs : B ≤ w.heap.size) (hP : B ≤ P) (hv : ∀ k, v.ownBlock = some k → B ≤ k) : Below B a w' :=
  ⟨h.os.trans hb.os, h.tape.trans hb.tape, h.output.trans hb.output, Nat.le_trans hb.size h.size,
   fun k hk => (h.keep k (Nat.lt_of_lt_of_le hk hBs) (by omega) (fun e => by have := hv k e; omega)).trans (hb.block k hk)⟩
theorem OutK.blk {P g : Nat} {t : TypeId} {cs : List Value} {w w' : World} {v v' : Value} (h : OutK P w v w' v') (hb : Blk w g t cs) (h1 : g ≠ P) (h2 : v.ownBlock ≠ some g) : Blk w' g t cs := (h.keep g hb.lt h1 h2).trans hb
theorem OutK.ne {P g : Nat} {w w' : World} {v v' : Value} (h : OutK P w v w' v') (hg : g < w.heap.size) (h2 : v.ownBlock ≠ some g) : v'.ownBlock ≠ some g := fun e => h2 (h.own g hg e)
theorem OutK.ints {P : Nat} {A : Option Addr} {k : IntKind} {l : List Int} {w w' : World} {v v' : Value} (h : OutK P w v w' v') (hi : Ints w A k l) (hX : l ≠ [] → ∀ ad, A = some ad → ad.block ≠ P ∧ v.ownBlock ≠ some ad.block) : Ints w' A k l := fun j u hj => by
  have hX := hX (by rintro rfl; simp at hj)
  obtain ⟨ad, e, hc⟩ := hi j u hj
  have hbk := block_lt_of_cell hc
  rw [block_of_add] at hbk
  exact ⟨ad, e, (World.cell?_of_block (by rw [block_of_add]; exact h.keep _ hbk (hX ad e).1 (hX ad e).2)).trans hc⟩
theorem OutS.fresh {P base : Nat} {w w' : World} {v : Value} {L : List Int} (h : OutS w P base v L) (hb : Below w.heap.size w w') : OutS w' P base v L :=
  ⟨h.blk.below_ hb, h.row.keep (fun g hg => hb.block g (h.row.lt g hg).2), h.ne⟩
theorem OutS.alloc {P base : Nat} {w : World} {v : Value} {L : List Int} (h : OutS w P base v L) (o : Obj) : OutS (w.alloc o) P base v L := h.fresh ((Below.refl _ w).alloc (Nat.le_refl _) o)
/-- w0: the world in which a tape's parts lie, all below a writer's -/
structure Tape0 (w0 w : World) (base P : Nat) : Prop where
  bel : Below w0.heap.size w0 w
  h1 : w0.heap.size ≤ base
  h2 : w0.heap.size ≤ P
  h3 : base ≤ w.heap.size
theorem Tape0.step {w0 w w' : World} {base P : Nat} {v v' : Value} {L : List Int} (h : Tape0 w0 w base P) (ho : OutS w P base v L) (hk : OutK P w v w' v') : Tape0 w0 w' base P :=
  ⟨hk.below h.bel h.bel.size h.h2 (fun k e => Nat.le_trans h.h1 (ho.row.lt k e).1), h.h1, h.h2, Nat.le_trans h.h3 hk.size⟩
theorem Tape0.fresh {w0 w w' : World} {base P : Nat} (h : Tape0 w0 w base P) (hb : Below w.heap.size w w') : Tape0 w0 w' base P :=
  ⟨h.bel.trans (hb.mono h.bel.size), h.h1, h.h2, Nat.le_trans h.h3 hb.size⟩
theorem Tape0.alloc {w0 w : World} {base P : Nat} (h : Tape0 w0 w base P) (o : Obj) : Tape0 w0 (w.alloc o) base P := h.fresh ((Below.refl _ w).alloc (Nat.le_refl _) o)
theorem Tape0.off {w0 w : World} {base P : Nat} {v : Value} {L l : List Int} {A : Option Addr} {k : IntKind} (h : Tape0 w0 w base P) (ho : OutS w P base v L) (hi : Ints w0 A k l) : l ≠ [] → ∀ ad, A = some ad → ad.block ≠ P ∧ v.ownBlock ≠ some ad.block := by
  intro hl ad e
  have hlt : ad.block < w0.heap.size := by
    cases l with
    | nil => exact absurd rfl hl
    | cons x t =>
      obtain ⟨ad', e', hc⟩ := hi 0 _ rfl
      have hbk := block_lt_of_cell hc
      rw [block_of_add] at hbk
      rw [e] at e'; injection e' with e'; rw [e']; exact hbk
  have := h.h1; have := h.h2
  exact ⟨by omega, fun e2 => by have := (ho.row.lt _ e2).1; omega⟩
/-- what a writing call does -/
def WrP (P base : Nat) (L : List Int) (w : World) (v : Value) (e : Ending) (w' : World) : Prop := e = .returned (.tuple #[]) ∧ ∃ v', OutS w' P base v' L ∧ OutK P w v w' v'
theorem run_append_none_cap {P : Program} {w : World} (t ty e : TypeId) (i : TypeInfo) (ht : P.underlying t = some (.slice e)) (hi : P.info? e = some i) (b : Option Addr) (n cap c : Nat) (hnc : n ≤ cap) :
    (Builtin.append_ #[t, t] ty #[.slice b n cap, .slice none 0 c]).run P w = .ok (.slice b n cap) w := by
  cases b with
  | none => simp [Builtin.append_, run_underlying ht, sizeOf, typeInfo, hi, Builtin.lenOf, Builtin.firstCells, hnc]
  | some a => simp [Builtin.append_, run_underlying ht, sizeOf, typeInfo, hi, Builtin.lenOf, Builtin.firstCells, hnc, storeCells]
theorem run_append_zero {P : Program} {w : World} (t ty e : TypeId) (i : TypeInfo) (ht : P.underlying t = some (.slice e)) (hi : P.info? e = some i) (b : Option Addr) (n cap c : Nat) (ad : Addr) (hnc : n ≤ cap) :
    (Builtin.append_ #[t, t] ty #[.slice b n cap, .slice (some ad) 0 c]).run P w = .ok (.slice b n cap) w := by
  cases b with
  | none => simp [Builtin.append_, run_underlying ht, sizeOf, typeInfo, hi, Builtin.lenOf, Builtin.firstCells, hnc, loadCells, loadCellsFrom]
  | some a => simp [Builtin.append_, run_underlying ht, sizeOf, typeInfo, hi, Builtin.lenOf, Builtin.firstCells, hnc, storeCells, loadCells, loadCellsFrom]
set_option maxRecDepth 100000 in
/-- append of a row of bytes, onto a row of the writer's -/
theorem run_append_row {w : World} (base n : Nat) (v : Value) (xs : List Value) (ho : RowM w base v n xs) (A : Option Addr) (m c : Nat) (l : List Int) (hl : Ints w A .u8 l) (hm : l.length = m) (ty : TypeId) (hbytes : n + m ≤ 140737488355328) (hbase : base ≤ w.heap.size) :
    ∃ v' w', (Builtin.append_ #[22, 22] ty #[v, .slice A m c]).run Try.prog w = .ok v' w' ∧ RowM w' base v' (n + m) (xs ++ l.map (.int .u8)) ∧ w.grownBy w' v.ownBlock ∧ (v'.ownBlock = v.ownBlock ∨ ∀ g, v'.ownBlock = some g → w.heap.size ≤ g) := by
  obtain ⟨i0, hi0, hz0, hz1, hz2⟩ := info_parts infoByteS
  have hrefl : w.grownBy w v.ownBlock := ⟨rfl, rfl, rfl, Nat.le_refl _, fun _ _ _ => rfl⟩
  by_cases hm0 : m = 0
  · subst hm0
    have hl0 : l = [] := List.eq_nil_of_length_eq_zero hm
    subst hl0
    obtain ⟨b, n', cap, rfl⟩ := ho.form
    have hnc : n' ≤ cap := by
      rcases ho with ho | ⟨g, fz, e, _⟩
      · rcases ho.2 with ⟨e, _⟩ | ⟨g, cp, cur, e, _, _, h, _⟩
        · injection e with _ e2 e3; omega
        · injection e with _ e2 e3; omega
      · injection e with _ e2 e3; omega
    refine ⟨.slice b n' cap, w, ?_, by simpa using ho, hrefl, .inl rfl⟩
    cases A with
    | none => exact run_append_none_cap _ ty _ i0 Try.underlying22 hi0 b n' cap c hnc
    | some ad => exact run_append_zero _ ty _ i0 Try.underlying22 hi0 b n' cap c ad hnc
  · cases A with
    | none =>
      exfalso
      cases l with
      | nil => exact hm0 (by simpa using hm.symm)
      | cons x l => obtain ⟨ad, e, _⟩ := hl 0 _ rfl; cases e
    | some ad =>
      have hnews : ∀ j u, (l.map (Value.int .u8))[j]? = some u → w.cell? (ad.add j) = some u := fun j u hj => by
        obtain ⟨ad', e1, e2⟩ := hl j u hj
        injection e1 with e1
        subst e1
        exact e2
      rcases ho with ho | ⟨g, fz, rfl, h1, h2, h3, h4⟩
      · obtain ⟨v', w', hr, a1, a2, -, a4⟩ := run_append_own_at (P := Try.prog) w base 22 ty 5 i0 (.int .u8 0) 1 1 Try.underlying22 hi0 hz0 hz1 hz2 rfl (by decide) v n xs ho ad m c (l.map (.int .u8)) (by simpa using hm) hnews (by simp; intro a _; rfl) (by unfold maxLen; omega) (by omega) hbase
        exact ⟨v', w', hr, .inl a1, a2, a4.imp id (fun e g hg => by rw [e] at hg; injection hg with hg; omega)⟩
      · have hr := run_append_grow (P := Try.prog) w 22 ty 5 i0 (.int .u8 0) Try.underlying22 hi0 hz0 ⟨g, 0, none⟩ n n xs (by rw [hz1, h3, Nat.mul_one])
          (fun j u hj => by rw [Addr.add_mid, cell_of_row _ _ _ _ _ _ h2]; simpa using hj) ad m c (l.map (.int .u8)) (by rw [hz1]; simpa using hm)
          hnews (by omega) (by omega) (by rw [hz2]; exact growslice_fits (by omega) (by omega))
        have hge := grownCap_ge w (n + m) n 5
        have hcm := grownCap_le_maxLen w (n + m) n 5 (by unfold maxLen; omega)
        have hz3 : (Value.int IntKind.u8 0).cells.size = 1 := rfl
        refine ⟨_, _, hr, .inl ⟨by simp [h3, hm], .inr ⟨_, _, _, rfl, hbase, heap_alloc_new _ _, hge, hcm, ?_, ?_⟩⟩, ⟨rfl, rfl, rfl, by simp, fun k hk _ => heap_alloc_old w.drew _ hk⟩, .inr (fun g' hg' => by simp [Value.ownBlock] at hg'; omega)⟩
        · simp only [Array.size_append, List.size_toArray, size_zeroCells, hz3, h3, List.length_map, hm]
          omega
        · simp only [Array.toList_append, List.append_assoc]
          rw [← List.append_assoc]
          have hl : (xs ++ l.map (Value.int .u8)).length = (n + m) * 1 := by simp [h3, hm]
          rw [← hl]
          exact List.take_left
theorem wpList_appR {w : World} {ops : Array Oper} {rest : List Oper} {o : Oper} {a : Act} {Q : Exit → Act → World → Prop} (hgd : o.guard = none) (s x : Operand)
    (ho : o.op = .call { callee := .builtin .append, args := #[s, x], argTypes := #[22, 22] })
    (base n : Nat) (v : Value) (xs : List Value) (hs : a.eval s = v) (hown : RowM w base v n xs) (A : Option Addr) (m c : Nat) (l : List Int) (hx : a.eval x = .slice A m c) (hl : Ints w A .u8 l) (hm : l.length = m)
    (hbytes : n + m ≤ 140737488355328) (hbase : base ≤ w.heap.size)
    (h : ∀ v' w', RowM w' base v' (n + m) (xs ++ l.map (.int .u8)) → w.grownBy w' v.ownBlock → (v'.ownBlock = v.ownBlock ∨ ∀ g, v'.ownBlock = some g → w.heap.size ≤ g) → wpList Try.prog ops Q rest (a.put o.dst v') w') :
    wpList Try.prog ops Q (o :: rest) a w := by
  obtain ⟨v', w', hr, h1, h2, h3⟩ := run_append_row base n v xs hown A m c l hl hm o.type hbytes hbase
  refine wpList_plain hgd fun K hK => ?_
  unfold Oper.wp execOp
  simp only [ho, resolve, invoke, builtin, Sem.run_bind, Sem.run_pure, Result.andThen_ok, List.map_toArray, List.map_cons, List.map_nil, hs, hx, hr]
  exact hK _ _ (h v' w' h1 h2 h3)
end Go.Proofs.Ytokidpajialgbaa
namespace Go.Proofs.Ytokidpajialgbaa
set_option linter.unusedSimpArgs false
set_option linter.unusedVariables false
open Go.RowKit
set_option maxRecDepth 100000 in
set_option maxHeartbeats 4000000 in
theorem num_w (K P base n c : Nat) (A : Option Addr) (l L : List Int) (w : World) (v : Value) (ho : OutS w P base v L) (hl : Ints w A .i64 l) (hn : l.length = n) (hwf : ∀ x ∈ l, (Lit.int .i64 x).wf = true) (hX : l ≠ [] → ∀ ad, A = some ad → ad.block ≠ P ∧ v.ownBlock ≠ some ad.block)
    (hB : base ≤ w.heap.size) (hK : 1 ≤ K ∧ K ≤ 4) (hL : L.length + n * 4 ≤ 100000000) :
    Calls Try.prog 25 #[.pointer (some ⟨P, 0, none⟩), .int .i64 K, .slice A n c] w (WrP P base (L ++ leL K l) w v) := by
  have HO := Lib.hid ho; have HL := Lib.hid hl; have HN := Lib.hid hn; have HW := Lib.hid hwf; have HX := Lib.hid hX
  obtain ⟨hK1, hK2⟩ := hK
  clear ho hl hn hwf hX
  go_enter Try.func25, Try.ntmps25
  go_wp2_with fail
  go_loopw [7, 10] (fun _ i wr => ∃ k : Nat, k ≤ n ∧ i = .int .i64 (k : Nat) ∧ Hid (∃ v', OutS wr P base v' (L ++ leL K (l.take k)) ∧ OutK P w v wr v')) (fun _ i _ => n - (intOf i).toNat)
  case atStart => exact ⟨0, Nat.zero_le _, rfl, Lib.hid ⟨v, by simpa [leL] using HO.out, OutK.refl _ _ _⟩⟩
  case round =>
    obtain ⟨k, hk, rfl, HOW⟩ := hrel
    by_cases hlt : k < n
    · have hlt2 : (k : Int) < n := by omega
      obtain ⟨vv, hS, hK_⟩ := HOW.out
      obtain ⟨x, hx⟩ : ∃ x, l[k]? = some x := ⟨_, List.getElem?_eq_getElem (by rw [HN.out]; exact hlt)⟩
      obtain ⟨ad, rfl, hc⟩ := (hK_.ints HL.out HX.out) k (.int .i64 x) (by simp [hx])
      have hcp : wr.cell? ⟨P, 0, none⟩ = some vv := hS.blk.cell 0
      have v2 : IntKind.i64.wrap ((k : Int) + 1) = ((k + 1 : Nat) : Int) := by rw [IntKind.wrap_i64]; omega
      have HXX := Lib.hid hx
      have hll : (L ++ leL K (l.take k)).length ≤ 100000000 := by
        rw [List.length_append, leL_len, List.length_take, HN.out]
        have : min k n * K ≤ n * 4 := Nat.mul_le_mul (Nat.min_le_right _ _) hK2
        omega
      have HPU := Lib.hid (put_any K base _ vv _ x wr hS.row (Nat.le_trans hB hK_.size) hll ⟨hK1, hK2⟩ (HW.out x (List.mem_of_getElem? hx)))
      have HS := Lib.hid hS; have HKK := Lib.hid hK_
      clear hx hS hK_ hll
      go_wp2_with (first
        | (go_at_call 53
           refine HPU.out.mono ?_
           rintro e w1 ⟨v1, rfl, ho1, hg1, hv1⟩
           have HK1 : Hid (OutK P wr vv w1 v1) := Lib.hid (OutK.grown hg1 hv1)
           have HP1 : Hid (Blk w1 P 60 [vv]) := Lib.hid (HS.out.blk.grown hg1 (fun e => HS.out.ne e.symm))
           have cp1 : w1.cell? ⟨P, 0, none⟩ = some vv := HP1.out.cell 0
           have fp1 := HP1.out.frozen 0
           have hne : v1.ownBlock ≠ some P := HK1.out.ne HS.out.blk.lt HS.out.ne
           obtain ⟨sa, sm, sc, rfl⟩ := ho1.form
           have HO1 := Lib.hid ho1; have HNE := Lib.hid hne
           clear ho1 hg1 hv1 hne))
      go_roundw
      case rel =>
        refine ⟨k + 1, by omega, by go_num, Lib.hid ⟨.slice sa sm sc, ⟨HP1.out.set_ 0 (.slice sa sm sc), ?_, HNE.out⟩, HKK.out.trans (HK1.out.trans (OutK.set _ _ _ _ rfl))⟩⟩
        have h2 := HO1.out.keep (w' := w1.setCell ⟨P, 0, none⟩ (.slice sa sm sc)) (fun g hg => set_heap (HO1.out.lt g hg).2 (fun e => HNE.out (by rw [hg, e])))
        have e1 : L ++ leL K (l.take (k + 1)) = (L ++ leL K (l.take k)) ++ leB x K := by
          rw [List.take_add_one, HXX.out]
          unfold leL
          simp [List.flatMap_append]
        rw [e1, List.length_append, List.map_append]
        exact h2
      case measure => simp [intOf]; omega
    · obtain rfl : k = n := by omega
      have hlt2 : ¬ (k : Int) < k := by omega
      go_wp2_with fail
      refine bodyPost_end (results_none rfl _ _ _) rfl ⟨rfl, ?_⟩
      have := HOW.out
      rw [List.take_of_length_le (by rw [HN.out]; exact Nat.le_refl _)] at this
      exact this
theorem ints_new (w : World) (l : List Int) : Ints (w.alloc (.cells (l.map (Value.int .i64)).toArray 3)) (some ⟨w.heap.size, 0, none⟩) .i64 l := fun j u hj => ⟨_, rfl, by rw [Addr.add_mid, Nat.zero_add, (Blk.new w 3 (l.map (.int .i64))).cell j]; exact hj⟩
/-- numbers that were just laid in new memory -/
theorem num_new (K P base n : Nat) (l L : List Int) (w : World) (v : Value) (cs : Array Value) (hc : cs = (l.map (Value.int .i64)).toArray) (ho : OutS w P base v L) (hn : l.length = n) (hwf : ∀ x ∈ l, (Lit.int .i64 x).wf = true)
    (hB : base ≤ w.heap.size) (hK : 1 ≤ K ∧ K ≤ 4) (hL : L.length + n * 4 ≤ 100000000) :
    Calls Try.prog 25 #[.pointer (some ⟨P, 0, none⟩), .int .i64 K, .slice (some ⟨w.heap.size, 0, none⟩) n n] (w.alloc (.cells cs 3)) (WrP P base (L ++ leL K l) w v) := by
  subst hc
  refine (num_w K P base n n _ l L _ v (ho.alloc _) (ints_new w l) hn hwf (fun _ ad e => ?_) (by simp; omega) hK hL).mono ?_
  · injection e with e
    subst e
    refine ⟨?_, fun e => ?_⟩
    · have := ho.blk.lt
      simp only [ne_eq]; omega
    · have := (ho.row.lt _ e).2
      simp at this
  · rintro e w' ⟨h1, v', h2, h3⟩
    exact ⟨h1, v', h2, (OutK.alloc w v _).trans h3⟩
theorem wfLen {n : Nat} (h : n ≤ 100000000) : (Lit.int .i64 (n : Int)).wf = true := by simp [Lit.wf, IntKind.min, IntKind.max, IntKind.bits, IntKind.signed]; omega
set_option maxRecDepth 100000 in
set_option maxHeartbeats 4000000 in
theorem data_w (K P base n c : Nat) (A : Option Addr) (l L : List Int) (w : World) (v : Value) (ho : OutS w P base v L) (hl : Ints w A .u8 l) (hn : l.length = n) (hX : l ≠ [] → ∀ ad, A = some ad → ad.block ≠ P ∧ v.ownBlock ≠ some ad.block)
    (hB : base ≤ w.heap.size) (hK : 1 ≤ K ∧ K ≤ 4) (hL : L.length + (4 + n) ≤ 100000000) :
    Calls Try.prog 54 #[.pointer (some ⟨P, 0, none⟩), .int .i64 K, .slice A n c] w (WrP P base (L ++ (leB n K ++ l)) w v) := by
  have HL := Lib.hid hl; have HN := Lib.hid hn; have HX := Lib.hid hX
  have HNU := Lib.hid (num_new K P base 1 [(n : Int)] L w v _ rfl ho rfl (by intro x hx; simp at hx; subst hx; exact wfLen (by omega)) hB hK (by omega))
  have hPl := ho.blk.lt
  clear hl hn hX ho
  go_enter Try.func54, Try.ntmps54
  go_upto_region 1 with (first
    | (go_at_call 25
       refine HNU.out.mono ?_
       rintro e w1 ⟨rfl, v1, hs1, hk1⟩
       have HS1 := Lib.hid hs1; have HK1 := Lib.hid hk1
       have hc1 : w1.cell? ⟨P, 0, none⟩ = some v1 := hs1.blk.cell 0
       clear hs1 hk1))
  have hlen : L.length + (leL K [(n : Int)]).length + n ≤ 140737488355328 := by rw [leL_len]; simp; omega
  have HI1 : Hid (Ints w1 A .u8 l) := Lib.hid (HK1.out.ints HL.out HX.out)
  go_wp2_with (first
    | (refine wpList_appR rfl (.tmp 16) (.tmp 17) rfl base _ v1 _ rfl HS1.out.row A n c l rfl HI1.out HN.out (by rw [List.length_append]; exact hlen) (Nat.le_trans hB HK1.out.size) ?_
       intro v2 w2 hr2 hg2 hv2
       have HK2 : Hid (OutK P w1 v1 w2 v2) := Lib.hid (OutK.grown hg2 hv2)
       have HP2 : Hid (Blk w2 P 60 [v1]) := Lib.hid (HS1.out.blk.grown hg2 (fun e => HS1.out.ne e.symm))
       have cp2 : w2.cell? ⟨P, 0, none⟩ = some v1 := HP2.out.cell 0
       have fp2 := HP2.out.frozen 0
       have hne : v2.ownBlock ≠ some P := HK2.out.ne HS1.out.blk.lt HS1.out.ne
       obtain ⟨sa, sm, sc, rfl⟩ := hr2.form
       have HO2 := Lib.hid hr2; have HNE := Lib.hid hne
       clear hr2 hg2 hv2 hne))
  refine bodyPost_end (results_none rfl _ _ _) rfl ⟨rfl, .slice sa sm sc, ⟨HP2.out.set_ 0 (.slice sa sm sc), ?_, HNE.out⟩, HK1.out.trans (HK2.out.trans (OutK.set _ _ _ _ rfl))⟩
  have h2 := HO2.out.keep (w' := w2.setCell ⟨P, 0, none⟩ (.slice sa sm sc)) (fun g hg => set_heap (HO2.out.lt g hg).2 (fun e => HNE.out (by rw [hg, e])))
  have e1 : L ++ (leB n K ++ l) = (L ++ leL K [(n : Int)]) ++ l := by simp [leL]
  rw [e1]
  generalize L ++ leL K [(n : Int)] = L1 at h2 ⊢
  rw [List.length_append, List.map_append, HN.out]
  exact h2
end Go.Proofs.Ytokidpajialgbaa
