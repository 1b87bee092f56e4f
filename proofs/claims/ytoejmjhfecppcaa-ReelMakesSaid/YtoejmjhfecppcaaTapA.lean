/- Tapes in memory: rows of ints, of symbols, of repeats; squealref19.ints and syms on the same. -/
import Derived.Test.YtoejmjhfecppcaaRows
import Derived.Test.YtoejmjhfecppcaaMemD
import Derived.Test.YtoejmjhfecppcaaBits
import Derived.BigQuiet
import Derived.Lib.QuietBelow
namespace Go.Proofs.Ytoejmjhfecppcaa
set_option linter.unusedSimpArgs false
set_option linter.unusedVariables false
open Go.RowKit Go.Sort
/-- a slice of ints -/
def SlI (w : World) (k : IntKind) (v : Value) (l : List Int) : Prop := ∃ A n c, v = .slice A n c ∧ l.length = n ∧ Ints w A k l ∧ n ≤ 140737488355328
/-- a slice of pairs of an int and a slice -/
def SlS (w : World) (k : IntKind) (v : Value) (L : List (Int × List Int)) : Prop :=
  ∃ A n c, v = .slice A n c ∧ (L.length = n ∧ n ≤ 140737488355328) ∧ ∀ i x, L[i]? = some x → ∃ ad p, A = some ad ∧ w.cell? (ad.add (i * 2)) = some (.int .i64 x.1) ∧ w.cell? ⟨(ad.add (i * 2)).block, (ad.add (i * 2)).off + 1, none⟩ = some p ∧ SlI w k p x.2
/-- a slice of pairs of ints -/
def SlR (w : World) (v : Value) (L : List (Int × Int)) : Prop :=
  ∃ A n c, v = .slice A n c ∧ (L.length = n ∧ n ≤ 140737488355328) ∧ ∀ i x, L[i]? = some x → ∃ ad, A = some ad ∧ w.cell? (ad.add (i * 2)) = some (.int .i64 x.1) ∧ w.cell? ⟨(ad.add (i * 2)).block, (ad.add (i * 2)).off + 1, none⟩ = some (.int .i64 x.2)
theorem SlI.below {w w' : World} {k : IntKind} {v : Value} {l : List Int} (h : SlI w k v l) (hb : Below w.heap.size w w') : SlI w' k v l := by
  obtain ⟨A, n, c, h1, h2, h3, h4⟩ := h
  exact ⟨A, n, c, h1, h2, h3.below hb, h4⟩
theorem cell_below {w w' : World} (hb : Below w.heap.size w w') {a : Addr} {v : Value} (h : w.cell? a = some v) : w'.cell? a = some v := (hb.cell (block_lt_of_cell h)).trans h
theorem SlS.below {w w' : World} {k : IntKind} {v : Value} {L : List (Int × List Int)} (h : SlS w k v L) (hb : Below w.heap.size w w') : SlS w' k v L := by
  obtain ⟨A, n, c, h1, h2, h3⟩ := h
  refine ⟨A, n, c, h1, h2, fun i x hi => ?_⟩
  obtain ⟨ad, p, e, c1, c2, c3⟩ := h3 i x hi
  exact ⟨ad, p, e, cell_below hb c1, cell_below hb c2, c3.below hb⟩
theorem SlR.below {w w' : World} {v : Value} {L : List (Int × Int)} (h : SlR w v L) (hb : Below w.heap.size w w') : SlR w' v L := by
  obtain ⟨A, n, c, h1, h2, h3⟩ := h
  refine ⟨A, n, c, h1, h2, fun i x hi => ?_⟩
  obtain ⟨ad, e, c1, c2⟩ := h3 i x hi
  exact ⟨ad, e, cell_below hb c1, cell_below hb c2⟩
set_option maxRecDepth 100000 in
set_option maxHeartbeats 4000000 in
theorem ints_same (v v' : Value) (l : List Int) (w : World) (h : SlI w .i64 v l) (h' : SlI w .i64 v' l) : Calls Try.prog 56 #[v, v'] w fun e w' => e = .returned (.bool true) ∧ Below w.heap.size w w' := by
  obtain ⟨A, n, c, rfl, hn, hi, hm⟩ := h
  obtain ⟨A', n', c', rfl, hn', hi', hm'⟩ := h'
  obtain rfl : n' = n := by omega
  have HI := Lib.hid hi
  have HI' := Lib.hid hi'
  have HN := Lib.hid hn
  clear hi hi' hn hn' hm'
  go_enter Try.func56, Try.ntmps56
  go_wp2_with fail
  go_loopw [5] (fun i wr => ∃ k : Nat, k ≤ n' ∧ i = .int .i64 k ∧ Below w.heap.size w wr) (fun i _ => n' - (intOf i).toNat)
  case atStart => exact ⟨0, by omega, rfl, Below.refl _ _⟩
  case round =>
    obtain ⟨k, hk, rfl, hb⟩ := hrel
    have HB := Lib.hid hb
    clear hb
    by_cases hlt : k < n'
    · have hlt2 : (k : Int) < n' := by omega
      obtain ⟨x, hx⟩ : ∃ x, l[k]? = some x := ⟨_, List.getElem?_eq_getElem (by have := HN.out; omega)⟩
      obtain ⟨ad, rfl, ca⟩ := (HI.out.below HB.out) k (.int .i64 x) (by rw [List.getElem?_map, hx]; rfl)
      obtain ⟨ad', rfl, ca'⟩ := (HI'.out.below HB.out) k (.int .i64 x) (by rw [List.getElem?_map, hx]; rfl)
      go_wp2_with fail
      go_quiet (fail)
      go_wp2_with fail
      go_roundw
      case rel => exact ⟨k + 1, by omega, by go_num, Below_drewN HB.out _⟩
      case measure => simp [intOf]; omega
    · obtain rfl : k = n' := by omega
      go_wp2_with fail
      go_ret
      exact ⟨rfl, HB.out⟩
set_option maxRecDepth 100000 in
set_option maxHeartbeats 8000000 in
theorem syms_same (v v' : Value) (L : List (Int × List Int)) (w : World) (h : SlS w .i64 v L) (h' : SlS w .i64 v' L) : Calls Try.prog 57 #[v, v'] w fun e w' => e = .returned (.bool true) ∧ Below w.heap.size w w' := by
  obtain ⟨A, n, c, rfl, ⟨hn, hm⟩, hi⟩ := h
  obtain ⟨A', n', c', rfl, ⟨hn', hm'⟩, hi'⟩ := h'
  obtain rfl : n' = n := by omega
  have HI := Lib.hid hi
  have HI' := Lib.hid hi'
  have HN := Lib.hid hn
  clear hi hi' hn hn' hm'
  go_enter Try.func57, Try.ntmps57
  go_wp2_with fail
  go_loopw [5] (fun i wr => ∃ k : Nat, k ≤ n' ∧ i = .int .i64 k ∧ Below w.heap.size w wr) (fun i _ => n' - (intOf i).toNat)
  case atStart => exact ⟨0, by omega, rfl, Below.refl _ _⟩
  case round =>
    obtain ⟨k, hk, rfl, hb⟩ := hrel
    have HB := Lib.hid hb
    clear hb
    by_cases hlt : k < n'
    · have hlt2 : (k : Int) < n' := by omega
      obtain ⟨x, hx⟩ : ∃ x, L[k]? = some x := ⟨_, List.getElem?_eq_getElem (by have := HN.out; omega)⟩
      obtain ⟨ad, p, rfl, c1, c2, c3⟩ := HI.out k x hx
      obtain ⟨ad', p', rfl, c1', c2', c3'⟩ := HI'.out k x hx
      have c1 := cell_below HB.out c1
      have c2 := cell_below HB.out c2
      have c1' := cell_below HB.out c1'
      have c2' := cell_below HB.out c2'
      have HC := Lib.hid (fun u (hu : Below w.heap.size w u) => ints_same p p' x.2 u (c3.below hu) (c3'.below hu))
      clear c3 c3'
      obtain ⟨x1, x2⟩ := x
      have k1 := cell_regrown c1
      have k2 := cell_regrown c2
      have k3 := cell_regrown c1'
      have k4 := cell_regrown c2'
      have HQ := Lib.hid (fun d os => Calls.regrown_of (HC.out (grow (redrawn wr d) os) (HB.out.trans ((below_regrown wr d os).mono HB.out.size))))
      go_wp2_with fail
      refine wp_region_quiet_below (by kernel_rfl) (by kernel_rfl) ?_
      repeat (quiet_step (first | (go_at_call 56; exact HQ.out _ _)))
      refine wpQuiet_nil ?_
      intro _ hwq
      obtain ⟨⟨dq, osq⟩, hwr⟩ := hwq
      subst hwr
      go_wp2
      go_roundw
      case rel => exact ⟨k + 1, by omega, by go_num, HB.out.trans ((below_regrown wr dq osq).mono HB.out.size)⟩
      case measure => simp [intOf]; omega
    · obtain rfl : k = n' := by omega
      go_wp2_with fail
      go_ret
      exact ⟨rfl, HB.out⟩
end Go.Proofs.Ytoejmjhfecppcaa
