/- The law OpAlone: its own body. -/
import Derived.Test.YtjkakmmhbciilaaOpAA
import Derived.Laws.AppendOwnNone
namespace Go.Proofs.Ytjkakmmhbciilaa
set_option linter.unusedSimpArgs false
set_option linter.unusedVariables false
open Go.RowKit
/-- append of cells that may lie nowhere, onto a row of the call's own -/
theorem wpList_appAny {P : Program} (w : World) {ops : Array Oper} {rest : List Oper} {o : Oper} {a : Act} {Q : Exit → Act → World → Prop} (hgd : o.guard = none) (s x : Operand) (t : TypeId)
    (ho : o.op = .call { callee := .builtin .append, args := #[s, x], argTypes := #[t, t] })
    (base : Nat) (e : TypeId) (z : Value) (bytes : Nat) (ht : P.underlying t = some (.slice e)) (hi : (P.info? e).map (fun i => (i.zero, i.size, i.bytes)) = some (some z, 1, bytes)) (hzs : z.cells.size = 1)
    (v : Value) (n : Nat) (xs : List Value) (hs : a.eval s = v) (hown : w.ownsRow base e 1 v n xs) (A : Option Addr) (m c : Nat) (news : List Value) (hx : a.eval x = .slice A m c) (hl : news.length = m) (hc : Cells w A news) (hnil : A = none → m = 0 ∧ c = 0)
    (h1 : ∀ u ∈ news, u.oneCell' = true) (h63 : n + m ≤ maxLen) (hbytes : (n + m) * bytes ≤ 140737488355328) (hbase : base ≤ w.heap.size)
    (h : ∀ v' w', w'.ownsRow base e 1 v' (n + m) (xs ++ news) → w.grownBy w' v.ownBlock → wpList P ops Q rest (a.put o.dst v') w') : wpList P ops Q (o :: rest) a w := by
  obtain ⟨i0, hi0, hz0, hz1, hz2⟩ := info_parts hi
  cases A with
  | none =>
    obtain ⟨rfl, rfl⟩ := hnil rfl
    have hn : news = [] := List.eq_nil_of_length_eq_zero hl
    subst hn
    exact wpList_append_own_none hgd s x t ho base e i0 1 ht hi0 v n xs hs hown hx (h v w (by simpa using hown) ⟨rfl, rfl, rfl, Nat.le_refl _, fun _ _ _ => rfl⟩)
  | some ad =>
    refine wpList_append_own_at _ hgd s x t ho base e i0 z 1 bytes ht hi0 hz0 hz1 hz2 hzs (by decide) v n xs hs hown ad m c news hx (by omega) (fun j u hj => ?_) h1 h63 hbytes hbase (fun v' w' a1 a2 _ _ => h v' w' a1 a2)
    obtain ⟨ad', e1, e2⟩ := hc j u hj
    injection e1 with e1
    subst e1
    exact e2
set_option maxHeartbeats 1000000 in
theorem show_alone (ix : Int) (pc : Int) (w : World) : Calls Try.prog 12 #[.agg #[.int .i64 4, .int .i64 ix, .int .u8 0, .int .u8 0, .int .u16 0, .int .i64 1], .int .u16 pc] w (Text ([112, 114, 101, 102, 105, 120, 32] ++ ixn ix) w) := by
  have HI := Lib.hid (fun w => opIndex_any ix w)
  have tl := ixn_len ix
  obtain ⟨t, ht⟩ : ∃ t, t = ixn ix := ⟨_, rfl⟩
  rw [← ht] at HI tl ⊢
  have tl2 : t.length ≤ 2 := by omega
  clear tl ht
  go_enter Try.func12, Try.ntmps12
  go_wp2_with (first
    | (go_at_call 26; refine (HI.out _).mono ?_; rintro e w' ⟨rfl, rfl⟩))
  go_ret
  exact ⟨str_of (app_data [112, 114, 101, 102, 105, 120, 32] t), (Below.refl _ w).alloc (Nat.le_refl _) _⟩
theorem infoU8b : (Try.prog.info? 5).map (fun i => (i.zero, i.size, i.bytes)) = some (some (.int .u8 0), 1, 1) := infoU8
/-- bytes that came in, or were put together: nil or not -/
structure Byt (w : World) (A : Option Addr) (n cap : Nat) (l : List Int) : Prop where
  cells : Ints w A .u8 l
  len : l.length = n
  bs : ∀ x ∈ l, B8 x
  capLe : n ≤ cap
  capMax : cap ≤ 9223372036854775807
  nil : A = none → n = 0 ∧ cap = 0
theorem Byt.below {w w' : World} {A : Option Addr} {n cap : Nat} {l : List Int} (h : Byt w A n cap l) (hb : Below w.heap.size w w') : Byt w' A n cap l := ⟨h.cells.below hb, h.len, h.bs, h.capLe, h.capMax, h.nil⟩
theorem Byt.read {w : World} {A : Option Addr} {n cap : Nat} {l : List Int} (h : Byt w A n cap l) : Calls Try.prog 9 #[.slice A n cap] w (Reads (readS l) w) := (reads_both A n cap l w h.cells h.len h.bs h.capLe h.capMax).1
theorem Byt.take {w : World} {A : Option Addr} {n cap : Nat} {l : List Int} (h : Byt w A n cap l) (k : Nat) (hk : k ≤ n) (hA : A ≠ none) : Byt w A k cap (l.take k) :=
  ⟨fun i v hi => h.cells i v (by
      rw [List.getElem?_map] at hi ⊢
      rw [List.getElem?_take] at hi
      split at hi
      · exact hi
      · cases hi), by rw [List.length_take, h.len]; omega, fun x hx => h.bs x (List.mem_of_mem_take hx), by have := h.capLe; omega, h.capMax, fun e => absurd e hA⟩
theorem Byt.one {w : World} {A : Option Addr} {n cap : Nat} {l : List Int} (h : Byt w A n cap l) : ∀ u ∈ l.map (Value.int .u8 ·), u.oneCell' = true := by
  intro u hu
  obtain ⟨x, -, rfl⟩ := List.mem_map.1 hu
  rfl
/-- a row of the call's own, as bytes -/
theorem Byt.own {w : World} {base n g c : Nat} {l : List Int} (h : w.ownsRow base 5 1 (.slice (some ⟨g, 0, none⟩) n c) n (l.map (.int .u8 ·))) (hb : ∀ x ∈ l, B8 x) : Byt w (some ⟨g, 0, none⟩) n c l := by
  have hl := h.1
  rw [List.length_map, Nat.mul_one] at hl
  refine ⟨fun i v hi => ⟨_, rfl, h.cells (g := g) rfl i v hi⟩, hl, hb, ?_, ?_, fun e => by cases e⟩
  · rcases h.2 with ⟨e, _⟩ | ⟨g', c', cur, e, _, _, h2, _⟩
    · cases e
    · injection e with e1 e2 e3; omega
  · rcases h.2 with ⟨e, _⟩ | ⟨g', c', cur, e, _, _, _, h3, _⟩
    · cases e
    · injection e with e1 e2 e3; unfold maxLen at h3; omega
theorem byt_of_row {w : World} {a : Option Addr} {len cap : Nat} {zs : List Int} (h : (a = none ∧ len = 0 ∧ cap = 0 ∧ zs = []) ∨
    ∃ x, a = some x ∧ len ≤ cap ∧ cap ≤ maxLen ∧ zs.length = cap ∧ (∀ i, i < zs.length → w.cell? (x.add i) = some (.int .u8 (zs.getD i 0))) ∧ ∀ n ∈ zs, (Lit.int .u8 n).wf = true) :
    ∃ l : List Int, Byt w a len cap l := by
  obtain ⟨l, h1, h2, h3, h4, h5⟩ := bytes_of_row h
  refine ⟨l, h2, h1, h3, h4, h5, fun e => ?_⟩
  rcases h with ⟨rfl, rfl, rfl, rfl⟩ | ⟨x, e2, _⟩
  · exact ⟨rfl, rfl⟩
  · rw [e] at e2; cases e2
end Go.Proofs.Ytjkakmmhbciilaa
