/- The file of the chapter's example is read: its head. -/
import Derived.Test.YtaipkoeiahjghaaTzxG
import Derived.Deep.RegionWith
import Derived.Laws.IdiomStrings
namespace Go.Proofs.Ytaipkoeiahjghaa
set_option linter.unusedSimpArgs false
set_option linter.unusedVariables false
open Go.RowKit
/-- the first ten bytes -/
def head10 : List Int := [90, 88, 84, 97, 112, 101, 33, 26, 1, 20]
/-- memory while a file is read -/
structure Pz (w u : World) (a n c k : Nat) (H : List Int) (x y : Value) : Prop where
  tape : Blk u w.heap.size 43 [.int .i64 0, .int .i64 0, .slice none 0 0]
  rdr : Rdr u (w.heap.size + 1) (some ⟨a, 0, none⟩) n c k
  par : Blk u (w.heap.size + 2) 65 [.pointer (some ⟨w.heap.size + 1, 0, none⟩), x, y]
  ints : Ints u (some ⟨a, 0, none⟩) .u8 H
  below : Below w.heap.size w u
  alt : a < w.heap.size
theorem Pz.below_ {w u u' : World} {a n c k : Nat} {H : List Int} {x y : Value} (h : Pz w u a n c k H x y) (hb : Below u.heap.size u u') : Pz w u' a n c k H x y :=
  ⟨h.tape.below_ hb, h.rdr.below_ hb, h.par.below_ hb, h.ints.below hb, h.below.trans (hb.mono h.below.size), h.alt⟩
theorem Pz.step {w u u' : World} {a n c k k' : Nat} {H : List Int} {x y : Value} (h : Pz w u a n c k H x y) (hg : u.grownBy u' (some (w.heap.size + 1))) (hr : Rdr u' (w.heap.size + 1) (some ⟨a, 0, none⟩) n c k') : Pz w u' a n c k' H x y :=
  ⟨h.tape.grown hg (by simp), hr, h.par.grown hg (by simp), Cells.grown h.ints hg (fun ad e => .inr (by injection e with e; have := h.alt; rw [← e]; show a ≠ _; omega)), below_of_grown h.below hg (by omega) h.below.size, h.alt⟩
theorem ints_one {w : World} {A : Addr} {kd : IntKind} {l : List Int} {p : Nat} {x : Int} (h : Ints w (some A) kd l) (hx : l[p]? = some x) : Ints w (some (A.add p)) kd [x] := fun i v hi => by
  match i, hi with
  | 0, hi =>
    obtain ⟨ad, e, hc⟩ := h p (.int kd x) (by simp [hx])
    injection e with e
    subst e
    refine ⟨_, rfl, ?_⟩
    simp at hi
    subst hi
    simpa [Addr.add] using hc
  | i + 1, hi => simp at hi
theorem Pz.num {w u : World} {a n c k : Nat} {H : List Int} {x y : Value} (h : Pz w u a n c k H x y) (b : Int) (hb : H[k]? = some b) (b0 : 0 ≤ b) (b1 : b ≤ 255) (hk : k + 1 ≤ n) (hn : n ≤ 1000) (hc : n ≤ c) :
    Calls Try.prog 23 #[.pointer (some ⟨w.heap.size + 1, 0, none⟩), .int .i64 1] u fun e u' => e = .returned (.int .i64 b) ∧ Pz w u' a n c (k + 1) H x y ∧ u.grownBy u' (some (w.heap.size + 1)) :=
  (wireNum_ok (w.heap.size + 1) ⟨a, 0, none⟩ n c k 1 [b] u h.rdr (ints_one h.ints hb) rfl (by intro z hz; simp at hz; omega) (by have := h.alt; show a ≠ _; omega) (by omega) (by omega) hk (by omega) hc).mono fun e u' ⟨h1, h2⟩ =>
    ⟨by rw [h1]; simp [leVal], h.step (took_grown h2) (took_rdr h2 h.rdr), took_grown h2⟩
theorem conv_head {w : World} {a c : Nat} {H : List Int} (hH : H.take 10 = head10) (h : Ints w (some ⟨a, 0, none⟩) .u8 H) : (convert 25 9 (.slice (some ⟨a, 0, none⟩) 8 c)).run Try.prog w = .ok (.string ⟨#[90, 88, 84, 97, 112, 101, 33, 26]⟩) w := by
  have hb := run_convert_bytes_back (P := Try.prog) w 25 9 5 ⟨a, 0, none⟩ c [90, 88, 84, 97, 112, 101, 33, 26] Try.underlying25 Try.underlying5 Try.underlying9 (fun j hj => by
    have hg : H[j]? = head10[j]? := by
      rw [← hH, List.getElem?_take, if_pos (by simp at hj; omega)]
    have hj8 : j < 8 := by simpa using hj
    have hl : head10[j]? = some ((([90, 88, 84, 97, 112, 101, 33, 26] : List UInt8)[j]).toNat : Int) := by
      have : j = 0 ∨ j = 1 ∨ j = 2 ∨ j = 3 ∨ j = 4 ∨ j = 5 ∨ j = 6 ∨ j = 7 := by omega
      rcases this with rfl | rfl | rfl | rfl | rfl | rfl | rfl | rfl <;> rfl
    obtain ⟨ad, e, hc⟩ := h j _ (by rw [List.getElem?_map, hg, hl]; rfl)
    injection e with e
    subst e
    exact hc)
  exact hb
theorem ints_take8 {w : World} {A : Addr} {H : List Int} (h : Ints w (some A) .u8 H) : Ints w (some (A.add 0)) .u8 (H.take 8) := fun i v hi => by
  rw [List.getElem?_map, List.getElem?_take] at hi
  split at hi
  · obtain ⟨ad, e, hc⟩ := h i v (by rw [List.getElem?_map]; exact hi)
    injection e with e
    subst e
    exact ⟨_, rfl, by simpa [Addr.add] using hc⟩
  · cases hi
end Go.Proofs.Ytaipkoeiahjghaa
