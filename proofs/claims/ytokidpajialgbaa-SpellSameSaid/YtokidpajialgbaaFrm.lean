/- How worlds grow: words that all proofs of this seat share. -/
import Derived.Test.YtokidpajialgbaaMemB
namespace Go.Proofs.Ytokidpajialgbaa
set_option linter.unusedSimpArgs false
set_option linter.unusedVariables false
open Go.RowKit
theorem grownBy_refl (w : World) (r : Option Nat) : w.grownBy w r := ⟨rfl, rfl, rfl, Nat.le_refl _, fun _ _ _ => rfl⟩
theorem grownBy_trans {w w' w'' : World} {r : Option Nat} (h : w.grownBy w' r) (h' : w'.grownBy w'' r) : w.grownBy w'' r :=
  ⟨h'.os.trans h.os, h'.tape.trans h.tape, h'.output.trans h.output, Nat.le_trans h.size h'.size, fun k hk hr => (h'.block k (Nat.lt_of_lt_of_le hk h.size) hr).trans (h.block k hk hr)⟩
theorem grownBy_drewN {w w' : World} {r : Option Nat} (h : w.grownBy w' r) (n : Nat) : w.grownBy (w'.drewN n) r := ⟨h.os, h.tape, h.output, h.size, h.block⟩
theorem grownBy_setCell {w w' : World} {g : Nat} (h : w.grownBy w' (some g)) (i : Nat) (v : Value) : w.grownBy (w'.setCell ⟨g, i, none⟩ v) (some g) :=
  ⟨h.os, h.tape, h.output, by simpa using h.size, fun k hk hr => (Below.heap_setCell w' ⟨g, i, none⟩ v k (fun e => hr (by rw [e]))).trans (h.block k hk hr)⟩
theorem grownBy_below {w w' : World} {r : Option Nat} (h : Below w.heap.size w w') : w.grownBy w' r := ⟨h.os, h.tape, h.output, h.size, fun k hk _ => h.block k hk⟩
theorem below_of_grown {B : Nat} {a w w' : World} {g : Nat} (h : Below B a w) (hg : w.grownBy w' (some g)) (hB : B ≤ g) (hs : B ≤ w.heap.size) : Below B a w' :=
  h.grown hg hs (fun k hk => by have : k = g := by simpa using hk.symm
                                omega)
theorem Cells.grown {w w' : World} {r : Nat} {A : Option Addr} {l : List Value} (h : Cells w A l) (hg : w.grownBy w' (some r)) (hne : ∀ ad, A = some ad → l = [] ∨ ad.block ≠ r) : Cells w' A l := fun i v hi => by
  obtain ⟨ad, e, hc⟩ := h i v hi
  refine ⟨ad, e, ?_⟩
  have hb : (ad.add i).block ≠ r := by
    rw [block_of_add]
    rcases hne ad e with h1 | h1
    · subst h1; simp at hi
    · exact h1
  have hlt := block_lt_of_cell hc
  rw [← hc]
  unfold World.cell?
  rw [hg.block _ hlt (by intro e; exact hb (by simpa using e))]
/-- a list of values none of which lies in a block: it lies elsewhere -/
theorem Cells.apart {w : World} {r : Nat} {t : TypeId} {cs : List Value} {A : Option Addr} {l : List Value} (h : Cells w A l) (hb : Blk w r t cs) (hd : ∀ v ∈ l, v ∉ cs) : ∀ ad, A = some ad → l = [] ∨ ad.block ≠ r := by
  intro ad e
  cases l with
  | nil => exact .inl rfl
  | cons v l =>
    refine .inr fun he => ?_
    obtain ⟨ad', e', hc⟩ := h 0 v rfl
    have : ad = ad' := by rw [e] at e'; injection e'
    subst this
    have hc2 : w.cell? ⟨r, ad.off, ad.spot⟩ = some v := by rw [← he]; simpa [Addr.add] using hc
    unfold World.cell? at hc2
    unfold Blk at hb
    simp only [hb] at hc2
    split at hc2
    · cases hc2
    · exact hd v (by simp) (by
        have := List.mem_of_getElem? (l := cs) (i := ad.off) (a := v) (by simpa using hc2)
        exact this)

end Go.Proofs.Ytokidpajialgbaa
