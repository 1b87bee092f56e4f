/- Blocks of a tape, held while a tape is read: rows of them. -/
import Derived.Test.YtaipkoeiahjghaaRdR
namespace Go.Proofs.Ytaipkoeiahjghaa
set_option linter.unusedSimpArgs false
set_option linter.unusedVariables false
open Go.RowKit
/-- types of memory that no block's reading turns, once it is made -/
def keepTypes : List TypeId := [5, 3, 32, 85, 87, 43]
/-- all blocks of such types, but X, are as they were -/
def KeepX (X : Option Nat) (w w' : World) : Prop := ∀ g cs e fr, w.heap[g]? = some (.cells cs e fr) → e ∈ keepTypes → some g ≠ X → w'.heap[g]? = w.heap[g]?
theorem KeepX.refl (X : Option Nat) (w : World) : KeepX X w w := fun _ _ _ _ _ _ _ => rfl
theorem KeepX.trans {X : Option Nat} {w w' w'' : World} (h : KeepX X w w') (h' : KeepX X w' w'') : KeepX X w w'' := fun g cs e fr h1 h2 h3 => by
  have h4 := h g cs e fr h1 h2 h3
  rw [h' g cs e fr (h4.trans h1) h2 h3, h4]
theorem heap_lt {w : World} {g : Nat} {o : Obj} (h : w.heap[g]? = some o) : g < w.heap.size := by
  rcases Nat.lt_or_ge g w.heap.size with h1 | h1
  · exact h1
  · rw [Array.getElem?_eq_none h1] at h; cases h
theorem keepX_below {X : Option Nat} {w w' : World} (h : Below w.heap.size w w') : KeepX X w w' := fun g cs e fr h1 _ _ => h.block g (heap_lt h1)
theorem type_of_blk {w : World} {b g : Nat} {t e : TypeId} {ds : List Value} {cs : Array Value} {fr : Nat × Nat} (hb : Blk w b t ds) (h : w.heap[g]? = some (.cells cs e fr)) (hne : e ≠ t) : g ≠ b := fun e1 => by
  subst e1
  unfold Blk at hb
  rw [hb] at h
  injection h with h
  injection h with _ h
  exact hne h.symm
theorem keepX_grown {X : Option Nat} {w w' : World} {b : Nat} {t : TypeId} {ds : List Value} (hb : Blk w b t ds) (ht : t ∉ keepTypes) (h : w.grownBy w' (some b)) : KeepX X w w' := fun g cs e fr h1 h2 _ =>
  h.block g (heap_lt h1) (fun e1 => type_of_blk hb h1 (fun e2 => ht (e2 ▸ h2)) (Option.some.inj e1))
theorem keepX_grew2 {X : Option Nat} {w w' : World} {R b : Nat} {t u : TypeId} {ds es : List Value} (hR : Blk w R u es) (hu : u ∉ keepTypes) (hb : Blk w b t ds) (ht : t ∉ keepTypes) (h : Grew2 R b w w') : KeepX X w w' := fun g cs e fr h1 h2 _ =>
  h.block g (heap_lt h1) (type_of_blk hR h1 (fun e2 => hu (e2 ▸ h2))) (type_of_blk hb h1 (fun e2 => ht (e2 ▸ h2)))
/-- a row of the call's own of a type that is not kept has grown -/
theorem keepX_own {X : Option Nat} {w w' : World} {base size n : Nat} {e : TypeId} {v : Value} {xs : List Value} (ho : w.ownsRow base e size v n xs) (he : e ∉ keepTypes ∨ v.ownBlock = X) (h : w.grownBy w' v.ownBlock) : KeepX X w w' := fun g cs e' fr h1 h2 h3 => by
  rcases he with he | he
  · rcases own_none_or ho with h4 | ⟨g', h4, h5, d, cur, rfl, h6⟩
    · rw [h4] at h; exact h.block g (heap_lt h1) (by simp)
    · rw [h4] at h
      refine h.block g (heap_lt h1) (fun e1 => ?_)
      have : g = g' := Option.some.inj e1
      subst this
      rw [h6] at h1
      injection h1 with h1
      injection h1 with _ h1
      exact he (h1 ▸ h2)
  · rw [he] at h
    exact h.block g (heap_lt h1) h3
/-- a row that lies elsewhere than X -/
def OwnH (w : World) (X : Option Nat) (e : TypeId) (size : Nat) (v : Value) (n : Nat) (cs : List Value) : Prop := w.ownsRow 0 e size v n cs ∧ ∀ g, v.ownBlock = some g → some g ≠ X
theorem OwnH.of {w : World} {X : Option Nat} {base size n : Nat} {e : TypeId} {v : Value} {cs : List Value} (h : w.ownsRow base e size v n cs) (hX : ∀ g, X = some g → g < base) : OwnH w X e size v n cs :=
  ⟨own_mono h (Nat.zero_le _), fun g hg e1 => by have := (h.lt g hg).1; have := hX g e1.symm; omega⟩
theorem own_keep {w w' : World} {base size n : Nat} {e : TypeId} {v : Value} {cs : List Value} (h : w.ownsRow base e size v n cs) (hk : ∀ g cur, v.ownBlock = some g → w.heap[g]? = some (.cells cur e (0, 0)) → w'.heap[g]? = w.heap[g]?) : w'.ownsRow base e size v n cs := by
  refine ⟨h.1, ?_⟩
  rcases h.2 with h1 | ⟨g, c, cur, rfl, h2, h3, h4⟩
  · exact .inl h1
  · exact .inr ⟨g, c, cur, rfl, h2, (hk g cur rfl h3).trans h3, h4⟩
theorem OwnH.keep {w w' : World} {X : Option Nat} {size n : Nat} {e : TypeId} {v : Value} {cs : List Value} (h : OwnH w X e size v n cs) (he : e ∈ keepTypes) (hk : KeepX X w w') : OwnH w' X e size v n cs :=
  ⟨own_keep h.1 fun g cur h1 h2 => hk g cur e (0, 0) h2 he (h.2 g h1), h.2⟩
theorem OwnH.turn {w : World} {X Y : Option Nat} {size n : Nat} {e : TypeId} {v : Value} {cs : List Value} (h : OwnH w X e size v n cs) (hY : Y = X ∨ ∃ g, Y = some g ∧ w.heap.size ≤ g) : OwnH w Y e size v n cs :=
  ⟨h.1, fun g hg => by
    rcases hY with rfl | ⟨g', rfl, h1⟩
    · exact h.2 g hg
    · intro e1
      have : g = g' := Option.some.inj e1
      have := (h.1.lt g hg).2
      omega⟩
theorem OwnH.move {w w' : World} {X Y : Option Nat} {size n : Nat} {e : TypeId} {v : Value} {cs : List Value} (h : OwnH w X e size v n cs) (he : e ∈ keepTypes) (hk : KeepX X w w') (hY : Y = X ∨ ∃ g, Y = some g ∧ w.heap.size ≤ g) : OwnH w' Y e size v n cs := ⟨(h.keep he hk).1, (h.turn hY).2⟩
def SymRowsH (w : World) (X : Option Nat) (k : IntKind) : List Value → List (Int × List Int) → Prop
  | cs, [] => cs = []
  | cs, (x, p) :: l => ∃ r cs', cs = .int .i64 x :: r :: cs' ∧ OwnH w X (tyOf k) 1 r p.length (p.map (.int k ·)) ∧ SymRowsH w X k cs' l
theorem SymRowsH.map {w w' : World} {X Y : Option Nat} {k : IntKind} {cs : List Value} {l : List (Int × List Int)} (h : SymRowsH w X k cs l) (hk : ∀ r p, OwnH w X (tyOf k) 1 r (List.length p) (p.map (.int k ·)) → OwnH w' Y (tyOf k) 1 r p.length (p.map (.int k ·))) : SymRowsH w' Y k cs l := by
  induction l generalizing cs with
  | nil => exact h
  | cons y l ih =>
    obtain ⟨y, q⟩ := y
    obtain ⟨r', cs', rfl, h1, h2⟩ := h
    exact ⟨r', _, rfl, hk _ _ h1, ih h2⟩
def SymH (w : World) (X : Option Nat) (e : TypeId) (k : IntKind) (v : Value) (l : List (Int × List Int)) : Prop := ∃ cs, OwnH w X e 2 v l.length cs ∧ SymRowsH w X k cs l
theorem symRowsH_of {w : World} {X : Option Nat} {base : Nat} {k : IntKind} {cs : List Value} {l : List (Int × List Int)} (h : SymRows w base k cs l) (hX : ∀ g, X = some g → g < base) : SymRowsH w X k cs l := by
  induction l generalizing cs with
  | nil => exact h
  | cons y l ih =>
    obtain ⟨y, q⟩ := y
    obtain ⟨r', cs', rfl, h1, h2⟩ := h
    exact ⟨r', _, rfl, OwnH.of h1 hX, ih h2⟩
theorem SymH.of {w : World} {X : Option Nat} {base : Nat} {e : TypeId} {k : IntKind} {v : Value} {l : List (Int × List Int)} (h : SymsOf w base e k v l) (hX : ∀ g, X = some g → g < base) : SymH w X e k v l := by
  obtain ⟨cs, h1, h2⟩ := h
  exact ⟨cs, OwnH.of h1 hX, symRowsH_of h2 hX⟩
theorem tyOf_keep (k : IntKind) : tyOf k ∈ keepTypes := by cases k <;> decide
theorem SymH.keep {w w' : World} {X : Option Nat} {e : TypeId} {k : IntKind} {v : Value} {l : List (Int × List Int)} (h : SymH w X e k v l) (he : e ∈ keepTypes) (hk : KeepX X w w') : SymH w' X e k v l := by
  obtain ⟨cs, h1, h2⟩ := h
  exact ⟨cs, h1.keep he hk, h2.map fun r p hr => hr.keep (tyOf_keep k) hk⟩
theorem SymH.turn {w : World} {X Y : Option Nat} {e : TypeId} {k : IntKind} {v : Value} {l : List (Int × List Int)} (h : SymH w X e k v l) (hY : Y = X ∨ ∃ g, Y = some g ∧ w.heap.size ≤ g) : SymH w Y e k v l := by
  obtain ⟨cs, h1, h2⟩ := h
  exact ⟨cs, h1.turn hY, h2.map fun r p hr => hr.turn hY⟩
theorem SymH.move {w w' : World} {X Y : Option Nat} {e : TypeId} {k : IntKind} {v : Value} {l : List (Int × List Int)} (h : SymH w X e k v l) (he : e ∈ keepTypes) (hk : KeepX X w w') (hY : Y = X ∨ ∃ g, Y = some g ∧ w.heap.size ≤ g) : SymH w' Y e k v l := by
  obtain ⟨cs, h1, h2⟩ := h
  exact ⟨cs, h1.move he hk hY, h2.map fun r p hr => hr.move (tyOf_keep k) hk hY⟩
/-- a block's six slices -/
structure TB.Held (w : World) (X : Option Nat) (B : TB) (d t i p s r : Value) : Prop where
  d : OwnH w X 5 1 d B.data.length (B.data.map (.int .u8 ·))
  t : OwnH w X 3 1 t B.times.length (B.times.map (.int .i64 ·))
  i : SymH w X 32 .u8 i B.items
  p : SymH w X 85 .i64 p B.pilots
  s : SymH w X 85 .i64 s B.syms
  r : OwnH w X 87 2 r B.reps.length (B.reps.flatMap repRow)
theorem TB.Held.of {w : World} {X : Option Nat} {base : Nat} {B : TB} {d t i p s r : Value} (h : TB.Rows w base B d t i p s r) (hX : ∀ g, X = some g → g < base) : TB.Held w X B d t i p s r :=
  ⟨OwnH.of h.d hX, OwnH.of h.t hX, SymH.of h.i hX, SymH.of h.p hX, SymH.of h.s hX, OwnH.of h.r hX⟩
theorem TB.Held.keep {w w' : World} {X : Option Nat} {B : TB} {d t i p s r : Value} (h : TB.Held w X B d t i p s r) (hk : KeepX X w w') : TB.Held w' X B d t i p s r :=
  ⟨h.d.keep (by decide) hk, h.t.keep (by decide) hk, h.i.keep (by decide) hk, h.p.keep (by decide) hk, h.s.keep (by decide) hk, h.r.keep (by decide) hk⟩
theorem TB.Held.turn {w : World} {X Y : Option Nat} {B : TB} {d t i p s r : Value} (h : TB.Held w X B d t i p s r) (hY : Y = X ∨ ∃ g, Y = some g ∧ w.heap.size ≤ g) : TB.Held w Y B d t i p s r :=
  ⟨h.d.turn hY, h.t.turn hY, h.i.turn hY, h.p.turn hY, h.s.turn hY, h.r.turn hY⟩
theorem TB.Held.move {w w' : World} {X Y : Option Nat} {B : TB} {d t i p s r : Value} (h : TB.Held w X B d t i p s r) (hk : KeepX X w w') (hY : Y = X ∨ ∃ g, Y = some g ∧ w.heap.size ≤ g) : TB.Held w' Y B d t i p s r :=
  ⟨h.d.move (by decide) hk hY, h.t.move (by decide) hk hY, h.i.move (by decide) hk hY, h.p.move (by decide) hk hY, h.s.move (by decide) hk hY, h.r.move (by decide) hk hY⟩
/-- a tape's blocks, one behind the other -/
def TBs (w : World) (X : Option Nat) : List Value → List TB → Prop
  | cs, [] => cs = []
  | cs, B :: l => ∃ d t i p s r cs', cs = B.cells d t i p s r ++ cs' ∧ TB.Held w X B d t i p s r ∧ TBs w X cs' l
theorem TBs.map {w w' : World} {X Y : Option Nat} {cs : List Value} {l : List TB} (h : TBs w X cs l) (hk : ∀ B d t i p s r, TB.Held w X B d t i p s r → TB.Held w' Y B d t i p s r) : TBs w' Y cs l := by
  induction l generalizing cs with
  | nil => exact h
  | cons B l ih =>
    obtain ⟨d, t, i, p, s, r, cs', rfl, h1, h2⟩ := h
    exact ⟨d, t, i, p, s, r, cs', rfl, hk _ _ _ _ _ _ _ h1, ih h2⟩
theorem TBs.snoc {w : World} {X : Option Nat} {cs : List Value} {l : List TB} {B : TB} {d t i p s r : Value} (h : TBs w X cs l) (hB : TB.Held w X B d t i p s r) : TBs w X (cs ++ B.cells d t i p s r) (l ++ [B]) := by
  induction l generalizing cs with
  | nil => obtain rfl : cs = [] := h; exact ⟨d, t, i, p, s, r, [], by simp, hB, rfl⟩
  | cons B' l ih =>
    obtain ⟨d', t', i', p', s', r', cs', rfl, h1, h2⟩ := h
    exact ⟨d', t', i', p', s', r', _, by simp, h1, ih h2⟩
theorem TBs.len {w : World} {X : Option Nat} {cs : List Value} {l : List TB} (h : TBs w X cs l) : cs.length = l.length * 18 := by
  induction l generalizing cs with
  | nil => obtain rfl : cs = [] := h; rfl
  | cons B l ih =>
    obtain ⟨d, t, i, p, s, r, cs', rfl, h1, h2⟩ := h
    have := ih h2
    simp only [List.length_append, List.length_cons, TB.cells, List.length_nil]; omega
/-- append of one element onto a row of the call's own, in a region that draws; whether the row moved is told -/
theorem step_appX {P : Program} (w : World) {ops : Array Oper} {o : Oper} {a : Act} {K : Act → World → Prop} {Q : Exit → Act → World → Prop} {E : Prop} (hgd : o.guard = none) (s x : Operand) (t : TypeId)
    (ho : o.op = .call { callee := .builtin .append, args := #[s, x], argTypes := #[t, t] })
    (e : TypeId) (z : Value) (size bytes : Nat) (ht : P.underlying t = some (.slice e)) (hi : (P.info? e).map (fun i => (i.zero, i.size, i.bytes)) = some (some z, size, bytes)) (hzs : z.cells.size = size) (hsz : 0 < size)
    (base : Nat) (v : Value) (n : Nat) (xs : List Value) (hs : a.eval s = v) (gs : Nat) (cs : Array Value) (fr : Nat × Nat) (hx : a.eval x = .slice (some ⟨gs, 0, none⟩) 1 1) (hsrc : w.heap[gs]? = some (.cells cs e fr)) (hown : w.ownsRow base e size v n xs) (hcs : cs.size = size) (hu : cs.all (·.oneCell') = true)
    (hn : n ≤ 1000000) (hbytes : bytes ≤ 1000) (hbase : base ≤ w.heap.size)
    (h : ∀ g c w', w'.ownsRow base e size (.slice (some ⟨g, 0, none⟩) (n + 1) c) (n + 1) (xs ++ cs.toList) → w.grownBy w' v.ownBlock → (v.ownBlock = some g ∨ g = w.heap.size) → K (a.put o.dst (.slice (some ⟨g, 0, none⟩) (n + 1) c)) w') :
    if Region.wanted o (yielded ops a.tmps) = true then Oper.wp P o a w K Q else E := by
  obtain ⟨i0, hi0, hz0, hz1, hz2⟩ := info_parts hi
  have hb : (n + 1) * bytes ≤ 140737488355328 := by
    have h1 : (n + 1) * bytes ≤ (1000000 + 1) * 1000 := Nat.mul_le_mul (by omega) hbytes
    omega
  refine step_append_lies w hgd s x t ho base e i0 z size bytes ht hi0 hz0 hz1 hz2 hzs hsz v n xs hs hown ⟨gs, 0, none⟩ 1 1 cs.toList hx (by simpa using hcs) ?_ ?_ (by omega) (by unfold maxLen; omega) hb hbase _ rfl ?_
  · intro j u hj
    rw [Addr.add_mid, cell_of_row _ _ _ _ _ _ hsrc]
    simpa using hj
  · intro u hu'
    obtain ⟨j, hj, rfl⟩ := List.getElem_of_mem hu'
    rw [Array.all_eq_true] at hu
    exact hu j (by simpa using hj)
  · intro g c w' h1 h2 h3 _
    exact h g c w' h1 h2 h3
end Go.Proofs.Ytaipkoeiahjghaa
