/- Blocks of a tape in memory: rows of pairs. tzx.parser: symbols. -/
import Derived.Test.YtaipkoeiahjghaaRdD
import Derived.Test.YtaipkoeiahjghaaMemD
import Derived.Deep.RegionLaw
namespace Go.Proofs.Ytaipkoeiahjghaa
set_option linter.unusedSimpArgs false
set_option linter.unusedVariables false
open Go.RowKit
/-- pairs of a number and a row of numbers -/
def SymRows (w : World) (base : Nat) (k : IntKind) : List Value → List (Int × List Int) → Prop
  | cs, [] => cs = []
  | cs, (x, p) :: l => ∃ r cs', cs = .int .i64 x :: r :: cs' ∧ RowOf w base r k p ∧ SymRows w base k cs' l
theorem SymRows.snoc {w : World} {base : Nat} {k : IntKind} {cs : List Value} {l : List (Int × List Int)} {x : Int} {r : Value} {p : List Int} (h : SymRows w base k cs l) (hr : RowOf w base r k p) : SymRows w base k (cs ++ [.int .i64 x, r]) (l ++ [(x, p)]) := by
  induction l generalizing cs with
  | nil => obtain rfl : cs = [] := h; exact ⟨r, [], rfl, hr, rfl⟩
  | cons y l ih =>
    obtain ⟨y, q⟩ := y
    obtain ⟨r', cs', rfl, h1, h2⟩ := h
    exact ⟨r', _, rfl, h1, ih h2⟩
theorem SymRows.map {w w' : World} {base base' : Nat} {k : IntKind} {cs : List Value} {l : List (Int × List Int)} (h : SymRows w base k cs l) (hk : ∀ r p, RowOf w base r k p → RowOf w' base' r k p) : SymRows w' base' k cs l := by
  induction l generalizing cs with
  | nil => exact h
  | cons y l ih =>
    obtain ⟨y, q⟩ := y
    obtain ⟨r', cs', rfl, h1, h2⟩ := h
    exact ⟨r', _, rfl, hk _ _ h1, ih h2⟩
theorem SymRows.len {w : World} {base : Nat} {k : IntKind} {cs : List Value} {l : List (Int × List Int)} (h : SymRows w base k cs l) : cs.length = l.length * 2 := by
  induction l generalizing cs with
  | nil => obtain rfl : cs = [] := h; rfl
  | cons y l ih =>
    obtain ⟨y, q⟩ := y
    obtain ⟨r', cs', rfl, h1, h2⟩ := h
    have := ih h2
    simp only [List.length_cons]; omega
/-- a slice of such pairs -/
def SymsOf (w : World) (base : Nat) (e : TypeId) (k : IntKind) (v : Value) (l : List (Int × List Int)) : Prop := ∃ cs, w.ownsRow base e 2 v l.length cs ∧ SymRows w base k cs l
section
variable {w w' : World} {base base' : Nat} {e : TypeId} {k : IntKind} {v : Value} {l : List (Int × List Int)}
theorem syms_nil (w : World) (base : Nat) (e : TypeId) (k : IntKind) : SymsOf w base e k (.slice none 0 0) [] := ⟨[], World.ownsRow_nil _ _ _ _, rfl⟩
theorem SymsOf.one (h : SymsOf w base e k v l) : v.oneCell' = true := by
  obtain ⟨cs, h, -⟩ := h
  exact own_one h
theorem SymsOf.mono (h : SymsOf w base e k v l) (hb : base' ≤ base) : SymsOf w base' e k v l := by
  obtain ⟨cs, h1, h2⟩ := h
  exact ⟨cs, own_mono h1 hb, h2.map fun r p hr => hr.mono hb⟩
theorem SymsOf.below (h : SymsOf w base e k v l) (hb : Below w.heap.size w w') : SymsOf w' base e k v l := by
  obtain ⟨cs, h1, h2⟩ := h
  exact ⟨cs, own_below h1 hb, h2.map fun r p hr => hr.below hb⟩
theorem SymsOf.grown {r : Nat} (h : SymsOf w base e k v l) (hg : w.grownBy w' (some r)) (hr : r < base) : SymsOf w' base e k v l := by
  obtain ⟨cs, h1, h2⟩ := h
  exact ⟨cs, own_grown h1 hg hr, h2.map fun q p hq => hq.grown hg hr⟩
end
theorem cell_alloc {w : World} {a : Addr} {v : Value} (h : w.cell? a = some v) (o : Obj) : (w.alloc o).cell? a = some v := (((Below.refl _ w).alloc (Nat.le_refl _) o).cell (block_lt_of_cell h)).trans h
end Go.Proofs.Ytaipkoeiahjghaa
