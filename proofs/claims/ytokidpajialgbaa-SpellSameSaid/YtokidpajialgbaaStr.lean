/- Bytes as a text. -/
import Derived.Test.YtokidpajialgbaaMemE
import Derived.Test.YtokidpajialgbaaChecked
import Derived.Laws.BytesString
namespace Go.Proofs.Ytokidpajialgbaa
set_option linter.unusedSimpArgs false
set_option linter.unusedVariables false
open Go.RowKit
/-- a text of numbers -/
def txt8 (l : List Int) : ByteArray := ⟨(l.map (fun x => UInt8.ofNat x.toNat)).toArray⟩
theorem push_all8 : ∀ (l : List Int) (b : ByteArray), l.foldl (fun r n => r.push (UInt8.ofNat n.toNat)) b = ⟨(b.data.toList ++ l.map (fun x => UInt8.ofNat x.toNat)).toArray⟩
  | [], b => by simp
  | x :: l, b => by
    rw [List.foldl_cons, push_all8 l]
    congr 1
    simp [ByteArray.push]
theorem conv_ints (w : World) (K : Option Addr) (n c : Nat) (l : List Int) (h : Ints w K .u8 l) (hn : l.length = n) :
    (convert 22 9 (.slice K n c)).run Try.prog w = .ok (.string (txt8 l)) w := by
  rw [run_convert_bytes_string w 22 9 5 _ n c Try.underlying22 Try.underlying5 Try.underlying9]
  cases K with
  | none =>
    cases l with
    | nil =>
      simp at hn
      subst hn
      rfl
    | cons x t =>
      obtain ⟨ad, e, _⟩ := h 0 (.int .u8 x) rfl
      cases e
  | some ad =>
    have hl := run_loadCells_list (P := Try.prog) w ad (l.map (.int .u8 ·)) (fun j v hv => by
      obtain ⟨a', e, hc⟩ := h j v hv
      injection e with e
      subst e
      exact hc)
    rw [List.length_map, hn] at hl
    rw [run_bytesToString w _ n c l hl, push_all8]
    rfl
/-- a block of which a row is known -/
theorem own_blk {w : World} {B n c g : Nat} {t : TypeId} {xs : List Value} (h : w.ownsRow B t 1 (.slice (some ⟨g, 0, none⟩) n c) n xs) : ∃ ys, Blk w g t (xs ++ ys) ∧ n ≤ c := by
  rcases h.2 with ⟨h1, _⟩ | ⟨g', c', cur, hv, _, hb, hc, _, hs, ht⟩
  · cases h1
  · injection hv with ha hb' hc'
    injection ha with ha
    injection ha with ha
    subst ha hc'
    rw [Nat.mul_one] at ht
    refine ⟨cur.toList.drop n, ?_, hc⟩
    show w.heap[g]? = _
    rw [hb, ← ht, List.take_append_drop]
theorem ints_of_blk {w : World} {g : Nat} {t : TypeId} {k : IntKind} {l : List Int} {ys : List Value} (h : Blk w g t (l.map (Value.int k) ++ ys)) : Ints w (some ⟨g, 0, none⟩) k l := fun i v hi => by
  refine ⟨_, rfl, ?_⟩
  have hadd : (⟨g, 0, none⟩ : Addr).add i = ⟨g, i, none⟩ := by unfold Addr.add; split <;> simp_all
  have hlt : i < (l.map (Value.int k)).length := (List.getElem?_eq_some_iff.1 hi).1
  rw [hadd, h.cell, List.getElem?_append_left hlt, hi]
end Go.Proofs.Ytokidpajialgbaa
