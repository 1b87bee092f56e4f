/- The words of tzx.pairs, tzx.far, tzx.Sound. Written by gen_rdg.py. -/
import Derived.Test.YtokidpajialgbaaQTzxB
import Derived.Deep.MidRow
import Derived.Great.Ranges
namespace Go.Proofs.Ytokidpajialgbaa
set_option linter.unusedSimpArgs false
set_option linter.unusedVariables false
open Go.RowKit
/-- a block's cells -/
def blkRow (id : Int) (ta ia : Value) : List Value := [.int .i64 id, .int .i64 0, .int .i64 0, .int .i64 0, .int .i64 0, .int .i64 0, .int .i64 0, .int .i64 0, .int .i64 0, .int .i64 0, .int .i64 0, .int .i64 0, .slice none 0 0, ta, ia, .slice none 0 0, .slice none 0 0, .slice none 0 0]
/-- numbers as a block's Times -/
def TimesAt (w : World) (ta : Value) (T : List Int) : Prop := ∃ A c, ta = .slice A T.length c ∧ Ints w A .i64 T ∧ (A = none → T.length = 0 ∧ c = 0)
/-- numbers as a block's Items -/
def ItemsAt (w : World) (ia : Value) (T : List Int) : Prop := ∃ h c, (T = [] ∧ ∃ A, ia = .slice A 0 c) ∨ (ia = .slice (some ⟨h, 0, none⟩) T.length c ∧ ∀ k x, T[k]? = some x → w.rangeAt h (k * 2) [.int .i64 x, .slice none 0 0])
/-- blocks of these IDs, of these numbers, lie in a row -/
def Blks (w : World) (g : Nat) (ids T : List Int) : Prop := ∀ i id, ids[i]? = some id → ∃ ta ia, w.rangeAt g (i * 18) (blkRow id ta ia) ∧ TimesAt w ta T ∧ ItemsAt w ia T ∧ ta.oneCell' = true ∧ ia.oneCell' = true
theorem rangeAt_below {w w' : World} {b o : Nat} {cs : List Value} (h : w.rangeAt b o cs) (hb : Below w.heap.size w w') : w'.rangeAt b o cs := fun j v hj => by
  have := h j v hj
  exact (hb.cell (block_lt_of_cell this)).trans this
theorem TimesAt.below {w w' : World} {ta : Value} {T : List Int} (h : TimesAt w ta T) (hb : Below w.heap.size w w') : TimesAt w' ta T := by
  obtain ⟨A, c, e, hi, hn⟩ := h
  exact ⟨A, c, e, hi.below hb, hn⟩
theorem ItemsAt.below {w w' : World} {ia : Value} {T : List Int} (h : ItemsAt w ia T) (hb : Below w.heap.size w w') : ItemsAt w' ia T := by
  obtain ⟨g, c, h1 | ⟨h1, h2⟩⟩ := h
  · exact ⟨g, c, .inl h1⟩
  · exact ⟨g, c, .inr ⟨h1, fun k x hk => rangeAt_below (h2 k x hk) hb⟩⟩
theorem Blks.below {w w' : World} {g : Nat} {ids T : List Int} (h : Blks w g ids T) (hb : Below w.heap.size w w') : Blks w' g ids T := fun i id hi => by
  obtain ⟨ta, ia, h1, h2, h3, h4, h5⟩ := h i id hi
  exact ⟨ta, ia, rangeAt_below h1 hb, h2.below hb, h3.below hb, h4, h5⟩
theorem infoBlk : (Try.prog.info? 28).map (·.size) = some 18 := by kernel_rfl
theorem infoBool : (Try.prog.info? 4).map (fun i => (i.zero, i.size, i.bytes)) = some (some (.bool false), 1, 1) := by kernel_rfl
theorem mkBools (n : Nat) (hn : n ≤ 281474976710656) (u : World) : (Instr.makeSlice 89 (.int .i64 (n : Int)) (.int .i64 (n : Int))).run Try.prog u =
    .ok (.slice (some ⟨u.heap.size, 0, none⟩) n n) (u.alloc (.cells (List.replicate n (Value.bool false)).toArray 4)) := by
  obtain ⟨i0, hi, hz0, hz1, hz2⟩ := info_parts infoBool
  have h := run_make (P := Try.prog) u 89 4 i0 (.bool false) Try.underlying89 hi hz0 .i64 .i64 (n : Int) (n : Int) (by omega) (Int.le_refl _) (by rw [hz2]; omega) (by omega)
  have e : madeCells #[Value.bool false] n = (List.replicate n (Value.bool false)).toArray := by
    apply Array.ext
    · simp [madeCells]
    · intro j h1 h2
      simp [madeCells, Nat.mod_one]
  have e2 : (n : Int).toNat = n := by omega
  rw [hz1, Nat.mul_one, e2, show (Value.bool false).cells = #[Value.bool false] from rfl, e] at h
  exact h
namespace Tz
def lastAt (ids : List Int) (e : Int) : Nat → Int
  | 0 => -1
  | k + 1 => if ids.getD k 0 = e then k else lastAt ids e k
def openAt (ids : List Int) (b e : Int) : Nat → Bool
  | 0 => false
  | k + 1 => if ids.getD k 0 = b then true else if ids.getD k 0 = e then false else openAt ids b e k
def badAt (ids : List Int) (b e : Int) (i : Nat) : Bool :=
  if ids.getD i 0 = b then openAt ids b e i || decide (lastAt ids e ids.length < i) else if ids.getD i 0 = e then !openAt ids b e i else false
/-- the blocks that don't fit, the first k told -/
def bads (ids : List Int) (b e : Int) (k : Nat) : List Value := (List.range k).map (fun i => Value.bool (badAt ids b e i)) ++ List.replicate (ids.length - k) (.bool false)
theorem bads_zero (ids : List Int) (b e : Int) : bads ids b e 0 = List.replicate ids.length (.bool false) := by simp [bads]
theorem bads_set (ids : List Int) (b e : Int) (k : Nat) (hk : k < ids.length) : (bads ids b e k).set k (.bool (badAt ids b e k)) = bads ids b e (k + 1) := by
  unfold bads
  rw [List.set_append_right _ _ (by simp)]
  obtain ⟨m, hm⟩ : ∃ m, ids.length - k = m + 1 := ⟨ids.length - k - 1, by omega⟩
  rw [hm, List.range_succ, show ids.length - (k + 1) = m by omega]
  simp [List.replicate_succ]
theorem bads_skip (ids : List Int) (b e : Int) (k : Nat) (hk : k < ids.length) (h : badAt ids b e k = false) : bads ids b e k = bads ids b e (k + 1) := by
  rw [← bads_set ids b e k hk, h]
  unfold bads
  rw [List.set_append_right _ _ (by simp)]
  obtain ⟨m, hm⟩ : ∃ m, ids.length - k = m + 1 := ⟨ids.length - k - 1, by omega⟩
  rw [hm]
  simp [List.replicate_succ]
theorem lastAt_range (ids : List Int) (e : Int) (k : Nat) : -1 ≤ lastAt ids e k ∧ lastAt ids e k < k := by
  induction k with
  | zero => simp [lastAt]
  | succ k ih => simp only [lastAt]; split <;> omega
end Tz
set_option maxRecDepth 100000 in
set_option maxHeartbeats 2000000 in
theorem own_slice2 {w : World} {base n : Nat} {e : TypeId} {v : Value} {xs : List Value} (h : w.ownsRow base e 1 v n xs) : ∃ (B : Option Addr) (c : Nat), v = .slice B n c ∧ Cells w B xs ∧ n ≤ c := by
  rcases h.2 with ⟨rfl, rfl⟩ | ⟨g, c, cur, rfl, _, _, h2, _⟩
  · have hx : xs = [] := List.eq_nil_of_length_eq_zero (by simpa using h.1)
    subst hx
    exact ⟨none, 0, rfl, fun i v hi => by simp at hi, by have := h.1; simp at this; omega⟩
  · exact ⟨_, c, rfl, fun i v hi => ⟨_, rfl, h.cells (g := g) rfl i v hi⟩, h2⟩
namespace Tz
def farOne (i many d : Int) : Bool := decide (d < -i) || decide (many - i ≤ d)
/-- does a block lead to where none is? -/
def farS (id : Int) (T : List Int) (i many : Int) : Bool := (id == 40 || id == 35 || id == 38) && T.any (farOne i many)
theorem any_take (T : List Int) (p : Int → Bool) (k : Nat) (x : Int) (h : T[k]? = some x) (hp : (T.take k).any p = false) : (T.take (k + 1)).any p = p x := by
  rw [List.take_add_one, h, List.any_append, hp]
  simp
theorem any_of_take (T : List Int) (p : Int → Bool) (k : Nat) (h : (T.take k).any p = true) : T.any p = true := by
  rw [List.any_eq_true] at h ⊢
  obtain ⟨x, hx, hp⟩ := h
  exact ⟨x, List.mem_of_mem_take hx, hp⟩
end Tz
theorem infoItem : (Try.prog.info? 46).map (·.size) = some 2 := by kernel_rfl
theorem infoIntT : (Try.prog.info? 3).map (fun i => (i.zero, i.size, i.bytes)) = some (some (.int .i64 0), 1, 8) := by kernel_rfl
namespace Tz
/-- why a block doesn't fit the others -/
def wrongAt (ids T : List Int) (i : Nat) : Int :=
  if badAt ids 36 37 i || badAt ids 33 34 i then 6 else if farS (ids.getD i 0) T i ids.length then 5 else 0
/-- the first of so many that isn't nought -/
def firstW (f : Nat → Int) : Nat → Int × Int
  | 0 => (0, 0)
  | n + 1 => if (firstW f n).2 ≠ 0 then firstW f n else if f n ≠ 0 then ((n : Int), f n) else (0, 0)
theorem firstW_none (f : Nat → Int) (n : Nat) (h : ∀ j, j < n → f j = 0) : firstW f n = (0, 0) := by
  induction n with
  | zero => rfl
  | succ n ih =>
    simp only [firstW]
    rw [ih (fun j hj => h j (by omega)), h n (by omega)]
    simp
theorem firstW_hit (f : Nat → Int) (n k : Nat) (h : ∀ j, j < k → f j = 0) (hk : f k ≠ 0) (hlt : k < n) : firstW f n = ((k : Int), f k) := by
  induction n with
  | zero => omega
  | succ n ih =>
    simp only [firstW]
    by_cases e : k = n
    · subst e
      rw [firstW_none f k h]
      simp [hk]
    · rw [ih (by omega)]
      simp [hk]
theorem bads_get (ids : List Int) (b e : Int) (k : Nat) (hk : k < ids.length) : (bads ids b e ids.length)[k]? = some (.bool (badAt ids b e k)) := by
  unfold bads
  rw [List.getElem?_append_left (by simpa using hk)]
  simp [hk]
end Tz
end Go.Proofs.Ytokidpajialgbaa
