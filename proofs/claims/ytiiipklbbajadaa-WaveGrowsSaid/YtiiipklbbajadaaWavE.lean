/- wave: parts are added. -/
import Derived.Test.YtiiipklbbajadaaWavD
namespace Go.Proofs.Ytiiipklbbajadaa
set_option linter.unusedSimpArgs false
set_option linter.unusedVariables false
open Go.RowKit
theorem infoPartR : (Try.prog.info? 53).map (fun i => (i.zero, i.size, i.bytes)) = some (some (.agg #[.int .i64 0, .nilFunc]), 2, 16) := by kernel_rfl
/-- a wave while it is filled -/
structure WvS (u : World) (g : Nat) (B : WB) (t i p s r l : Value) (A : Option Addr) (n c : Nat) (D : List Int) (ps : List Part) : Prop where
  blk : ∃ qv, Blk u g 48 (B.cells (.slice A n c) t i p s r ++ [l, qv]) ∧ u.ownsRow (g + 1) 53 2 qv ps.length (ps.flatMap (·.cells g))
  ints : Ints u A .u8 D
  old : ∀ ad, A = some ad → D ≠ [] → ad.block < g
  len : D.length = n
  byts : Byts D
theorem cells_old {u u' : World} {g : Nat} {A : Option Addr} {D : List Int} (h : Ints u A .u8 D) (ho : ∀ ad, A = some ad → D ≠ [] → ad.block < g) (hb : Below g u u') : Ints u' A .u8 D := fun i v hi => by
  obtain ⟨ad, e, hc⟩ := h i v hi
  exact ⟨ad, e, (hb.cell (by rw [block_of_add]; exact ho ad e (by rintro rfl; simp at hi))).trans hc⟩
theorem ints_old {u : World} {A : Option Addr} {D : List Int} (h : Ints u A .u8 D) : ∀ ad, A = some ad → D ≠ [] → ad.block < u.heap.size := fun ad e hd => by
  cases D with
  | nil => exact absurd rfl hd
  | cons x D =>
    obtain ⟨ad', e', hc⟩ := h 0 (.int .u8 x) (by simp)
    rw [e] at e'; injection e' with e'; subst e'
    exact block_lt_of_cell (by simpa [Addr.add] using hc)
theorem own_far1 {w : World} {base size n g i : Nat} {e : TypeId} {v u : Value} {xs : List Value} (h : w.ownsRow base e size v n xs) (hg : g < base) : (w.setCell ⟨g, i, none⟩ u).ownsRow base e size v n xs :=
  h.kept (grownBy_setCell (grownBy_refl w (some g)) i u) (by
    cases hv : v.ownBlock with
    | none => exact .inl rfl
    | some k =>
      right
      intro e
      injection e with e
      have := (h.lt k hv).1
      omega)
set_option maxRecDepth 100000 in
theorem wv_add (g fn : Nat) (m : Int) (e : Nat → Int × Int) (B : WB) (t i p s r l : Value) (A : Option Addr) (n c : Nat) (D : List Int) (ps : List Part) (u : World) (h : WvS u g B t i p s r l A n c D ps) (hl : ps.length < 8) :
    Calls Try.prog 15 #[.pointer (some ⟨g, 0, none⟩), .int .i64 m, .func (.func fn) #[.pointer (some ⟨g, 0, none⟩)] #[]] u fun e' u' => e' = .returned (.tuple #[]) ∧ WvS u' g B t i p s r l A n c D (ps ++ [⟨m, fn, e⟩]) ∧ Below g u u' := by
  obtain ⟨qv, hb, ho⟩ := h.blk
  have c19 : u.cell? ⟨g, 19, none⟩ = some qv := hb.cell 19
  have f19 := hb.frozen 19
  have H := Lib.hid h; have HB := Lib.hid hb; have HO := Lib.hid ho
  clear h hb ho
  go_enter Try.func15, Try.ntmps15
  have hgs := HB.out.lt
  go_wp2_with (first
    | (at_builtin
       refine wpList_appL u (by rfl) (.tmp 10) (.tmp 14) 46 (by rfl) (g + 1) 53 _ 2 16 Try.underlying46 infoPartR (by rfl) (by decide) qv ps.length _ (by rfl) HO.out #[.int .i64 m, .func (.func fn) #[.pointer (some ⟨g, 0, none⟩)] #[]] 1 (by rfl) (by rfl) (by simp [Value.oneCell']) (by decide) (by omega) (by decide) hgs ?_
       intro g2 c2 w2 hown2 hg2 _
       have hb2 := HB.out.grown hg2 (own_ne HO.out (Nat.lt_succ_self g))
       have c2' := hb2.cell 19
       have f2' := hb2.frozen 19
       have HB2 := Lib.hid hb2
       have HO2 := Lib.hid hown2
       have HW2 : Hid (Below g u w2) := Lib.hid (Below_own (Below.refl g u) HO.out hg2 (Nat.le_succ g) hgs)
       clear hb2 hown2 hg2))
  refine bodyPost_end (results_none rfl _ _ _) rfl ?_
  have hbel : Below g u (w2.setCell ⟨g, 19, none⟩ (.slice (some ⟨g2, 0, none⟩) (ps.length + 1) c2)) := HW2.out.setCell (Nat.le_refl _) _
  refine ⟨rfl, ⟨⟨_, HB2.out.set_ 19 _, ?_⟩, cells_old H.out.ints H.out.old hbel, H.out.old, H.out.len, H.out.byts⟩, hbel⟩
  rw [List.length_append, List.flatMap_append]
  have e1 : List.flatMap (fun x => Part.cells g x) [(⟨m, fn, e⟩ : Part)] = [.int .i64 m, .func (.func fn) #[.pointer (some ⟨g, 0, none⟩)] #[]] := by simp [Part.cells]
  rw [e1]
  exact own_far1 HO2.out (Nat.lt_succ_self g)
end Go.Proofs.Ytiiipklbbajadaa
