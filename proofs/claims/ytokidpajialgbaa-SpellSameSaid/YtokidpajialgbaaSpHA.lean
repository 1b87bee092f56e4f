/- Two arrays of twelve numbers compared. Written by gen_sph.py. -/
import Derived.Test.YtokidpajialgbaaSpG
import Derived.Laws.StructEq
import Derived.DeepKeys
namespace Go.Proofs.Ytokidpajialgbaa
set_option linter.unusedSimpArgs false
set_option linter.unusedVariables false
open Go.RowKit Go.Sort
def arr12 (l : List Int) : Array Value := (l.map (Value.int .i64)).toArray
def lit12 (l : List Int) : List Lit := l.map (Lit.int .i64)
theorem cell12 : Try.prog.cellsOf 95 = 12 := by kernel_rfl
theorem cell1i : Try.prog.cellsOf 3 = 1 := by kernel_rfl
theorem key12 : Try.prog.keyTypeAt 3 95 = true := by kernel_rfl
theorem key1 (d : Nat) (x : Int) (h : (Lit.int .i64 x).wf = true) : Try.prog.keyLits (d + 1) 3 [.int .i64 x] = some [.int .i64 x] := by
  unfold Program.keyLits
  rw [Try.underlying3]
  simp [h]
theorem form1 (x : Int) : (Value.int .i64 x).formed Try.prog 3 = true := by kernel_rfl
theorem form12 (l : List Int) (hl : l.length = 12) : (Value.agg (arr12 l)).formed Try.prog 95 = true := by
  unfold Value.formed
  rw [Try.underlying95]
  show ((arr12 l).size == Try.prog.cellsOf 95) = true
  rw [cell12]
  unfold arr12
  simp [hl]
theorem flat_lits : ∀ l : List Int, (l.map fun x => [Lit.int .i64 x]).flatten = lit12 l
  | [] => rfl
  | x :: l => by rw [List.map_cons, List.flatten_cons, flat_lits l]; rfl
theorem keys12 (l : List Int) (hl : l.length = 12) (h : ∀ x ∈ l, (Lit.int .i64 x).wf = true) : Try.prog.keyLits 3 95 (Value.agg (arr12 l)).cells.toList = some (lit12 l) := by
  have hc : (Value.agg (arr12 l)).cells.toList = l.map (Value.int .i64) := by show (arr12 l).toList = _; unfold arr12; simp
  rw [hc]
  unfold Program.keyLits
  rw [Try.underlying95]
  have hlen : (l.map (Value.int .i64)).length = Try.prog.cellsOf 95 := by rw [cell12, List.length_map, hl]
  simp only [hlen, if_true, cell1i, Nat.mul_one]
  have hm : (List.range 12).mapM (fun i => Try.prog.keyLits 2 3 (((l.map (Value.int .i64)).drop i).take 1)) = some (l.map fun x => [Lit.int .i64 x]) := by
    have key : ∀ (n : Nat), n ≤ l.length → (List.range n).mapM (fun i => Try.prog.keyLits 2 3 (((l.map (Value.int .i64)).drop i).take 1)) = some ((l.take n).map fun x => [Lit.int .i64 x]) := by
      intro n
      induction n with
      | zero => intro _; rfl
      | succ n ih =>
        intro hn
        have hx : l[n]? = some l[n] := List.getElem?_eq_getElem (by omega)
        have hd : ((l.map (Value.int .i64)).drop n).take 1 = [.int .i64 l[n]] := by
          rw [List.drop_eq_getElem_cons (by simp; omega), List.take_succ_cons, List.take_zero, List.getElem_map]
        rw [List.range_succ, List.mapM_append, ih (by omega)]
        simp only [List.mapM_cons, List.mapM_nil, hd, key1 1 l[n] (h _ (List.getElem_mem _))]
        simp
        rw [List.take_add_one, List.getElem?_map, hx]
        rfl
    have := key 12 (by omega)
    rw [List.take_of_length_le (by omega)] at this
    exact this
  rw [hm]
  simp only [Option.map_some, flat_lits]
theorem lits_inj : ∀ (l m : List Int), lit12 l = lit12 m → l = m
  | [], [], _ => rfl
  | [], y :: m, h => by cases h
  | x :: l, [], h => by cases h
  | x :: l, y :: m, h => by
    unfold lit12 at h
    rw [List.map_cons, List.map_cons] at h
    injection h with h1 h2
    injection h1 with _ h1
    rw [h1, lits_inj l m h2]
theorem eqg12 (l m : List Int) (hl : l.length = 12) (hm : m.length = 12) (x y : Operand) (u : World) : (eqGuard .eql 95 x y (.agg (arr12 l)) (.agg (arr12 m))).run Try.prog u = .ok () u := by
  simp [go_sem]
theorem cmp12 (l m : List Int) (hl : l.length = 12) (hm : m.length = 12) (h1 : ∀ x ∈ l, (Lit.int .i64 x).wf = true) (h2 : ∀ x ∈ m, (Lit.int .i64 x).wf = true) (x y : Operand) (u : World) :
    (do eqGuard .eql 95 x y (.agg (arr12 l)) (.agg (arr12 m)); binOp .eql 95 (.agg (arr12 l)) (.agg (arr12 m)) : Sem Value).run Try.prog u = .ok (.bool (decide (l = m))) u := by
  rw [Sem.run_bind, eqg12 l m hl hm]
  simp only [Result.andThen_ok]
  rw [run_eql_struct]
  obtain ⟨r, hr, hiff⟩ := run_equalIn_deep 9997 3 95 key12 u 3 3 (.agg (arr12 l)) (.agg (arr12 m)) (lit12 l) (lit12 m) (form12 l hl) (form12 m hm) (keys12 l hl h1) (keys12 m hm h2)
  have hr' : (Op.equalIn 10000 95 (.agg (arr12 l)) (.agg (arr12 m))).run Try.prog u = .ok r u := hr
  rw [hr', Result.andThen_ok]
  have : r = decide (l = m) := by
    by_cases h : l = m
    · rw [decide_eq_true h]; exact hiff.2 (by rw [h])
    · rw [decide_eq_false h]
      cases r with
      | false => rfl
      | true => exact absurd (lits_inj _ _ (hiff.1 rfl)) h
  rw [this]
/-- two values compared, in a plain region -/
theorem wpList_binTo {P : Program} {ops : Array Oper} {rest : List Oper} {o : Oper} {a : Act} {w : World} {Q : Exit → Act → World → Prop} (hg : o.guard = none) (op : BinOp) (ty : TypeId) (x y : Operand) (ty' : TypeId) (ho : o.op = .binOp op ty x y ty') (dst : Option Tmp) (hdst : o.dst = dst) (v vx vy : Value) (hx : a.eval x = vx) (hy : a.eval y = vy)
    (hr : (do eqGuard op ty x y vx vy; binOp op ty vx vy : Sem Value).run P w = .ok v w) (h : wpList P ops Q rest (a.put dst v) w) : wpList P ops Q (o :: rest) a w := by
  subst hdst
  refine wpList_plain hg fun K hK => ?_
  unfold Oper.wp execOp
  simp only [ho, hx, hy, Sem.run_bind, Sem.run_pure]
  rw [Sem.run_bind] at hr
  rw [hr]
  exact hK _ _ h
end Go.Proofs.Ytokidpajialgbaa
