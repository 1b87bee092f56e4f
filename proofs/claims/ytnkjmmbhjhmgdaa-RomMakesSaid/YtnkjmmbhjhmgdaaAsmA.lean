/- A program that is put together: its state in memory, and in plain words. -/
import Derived.Test.YtnkjmmbhjhmgdaaRows
import Derived.Test.YtnkjmmbhjhmgdaaMemE
import Derived.Test.YtnkjmmbhjhmgdaaMemD
import Derived.Test.YtnkjmmbhjhmgdaaUnt
import Derived.Deep.RegionHeld3
import Derived.Deep.RegionWith
import Derived.Deep.DrawnRows
import Derived.Deep.Cut
import Derived.BigQuiet
import Derived.Lib.QuietBelow
import Derived.Test.YtnkjmmbhjhmgdaaFrm
import Derived.Test.YtnkjmmbhjhmgdaaMemC
import Derived.Maps.OwnSet
import Derived.Maps.OwnOps
namespace Go.Proofs.Ytnkjmmbhjhmgdaa
set_option linter.unusedSimpArgs false
set_option linter.unusedVariables false
open Go.RowKit Go.Maps
theorem own_block {w : World} {base : Nat} {e : TypeId} {size n : Nat} {v : Value} {xs : List Value} (h : w.ownsRow base e size v n xs) {k : Nat} (hk : v.ownBlock = some k) : ∃ cur, w.heap[k]? = some (.cells cur e (0, 0)) := by
  rcases h.2 with ⟨e1, _⟩ | ⟨g, cap, cur, e1, _, hh, _⟩
  · rw [e1] at hk; simp [Value.ownBlock] at hk
  · rw [e1] at hk
    simp only [Value.ownBlock, Option.some.injEq] at hk
    subst hk
    exact ⟨cur, hh⟩
theorem own_ne_ty {w : World} {base : Nat} {e t : TypeId} {size n g : Nat} {v : Value} {xs cs : List Value} (h : w.ownsRow base e size v n xs) (hb : Blk w g t cs) (hne : e ≠ t) : some g ≠ v.ownBlock := by
  intro hk
  obtain ⟨cur, hh⟩ := own_block h hk.symm
  unfold Blk at hb
  rw [hh] at hb
  injection hb with hb
  injection hb with _ ht
  exact hne ht
theorem own_apart {w : World} {base : Nat} {e e' : TypeId} {size n size' n' : Nat} {v v' : Value} {xs xs' : List Value} (h : w.ownsRow base e size v n xs) (h' : w.ownsRow base e' size' v' n' xs') (hne : e ≠ e') : Apart v v' := by
  intro g h1 h2
  obtain ⟨cur, hh⟩ := own_block h h1
  obtain ⟨cur', hh'⟩ := own_block h' h2
  rw [hh] at hh'
  injection hh' with hb
  injection hb with _ ht
  exact hne ht
theorem own_set {w : World} {base : Nat} {e t : TypeId} {size n g : Nat} {v : Value} {xs cs : List Value} (h : w.ownsRow base e size v n xs) (hb : Blk w g t cs) (hne : e ≠ t) (o : Nat) (x : Value) : (w.setCell ⟨g, o, none⟩ x).ownsRow base e size v n xs := by
  refine ⟨h.1, ?_⟩
  rcases h.2 with e1 | ⟨k, cap, cur, e1, hle, hh, rest⟩
  · exact .inl e1
  · refine .inr ⟨k, cap, cur, e1, hle, ?_, rest⟩
    have hkg : k ≠ g := by
      have := own_ne_ty h hb hne
      intro hk
      apply this
      rw [e1, hk]
      rfl
    rw [← hh]
    exact Below.heap_setCell w ⟨g, o, none⟩ x k hkg
theorem own_keep {w w' : World} {base : Nat} {e : TypeId} {size n : Nat} {v : Value} {xs : List Value} (h : w.ownsRow base e size v n xs) (hk : ∀ k, v.ownBlock = some k → w'.heap[k]? = w.heap[k]?) : w'.ownsRow base e size v n xs := by
  refine ⟨h.1, ?_⟩
  rcases h.2 with e1 | ⟨k, cap, cur, e1, hle, hh, rest⟩
  · exact .inl e1
  · exact .inr ⟨k, cap, cur, e1, hle, (hk k (by rw [e1]; rfl)).trans hh, rest⟩
theorem own_below {w w' : World} {base : Nat} {e : TypeId} {size n : Nat} {v : Value} {xs : List Value} (h : w.ownsRow base e size v n xs) (hb : Below w.heap.size w w') : w'.ownsRow base e size v n xs :=
  own_keep h fun k hk => hb.block k (h.lt k hk).2
theorem own_form {w : World} {base : Nat} {e : TypeId} {size n : Nat} {v : Value} {xs : List Value} (h : w.ownsRow base e size v n xs) : ∃ A c, v = .slice A n c ∧ (A = none → n = 0 ∧ c = 0) ∧ n ≤ c := by
  rcases h.2 with ⟨e1, e2⟩ | ⟨g, cap, cur, e1, _, _, h3, _⟩
  · exact ⟨none, 0, by rw [e1, e2], (fun _ => ⟨e2, rfl⟩), by omega⟩
  · exact ⟨_, _, e1, (fun h => by cases h), h3⟩
theorem below_alloc1 (w : World) (o : Obj) : Below w.heap.size w (w.alloc o) := (Below.refl _ w).alloc (Nat.le_refl _) _
theorem cell_below {w w' : World} (hb : Below w.heap.size w w') {a : Addr} {v : Value} (h : w.cell? a = some v) : w'.cell? a = some v := (hb.cell (block_lt_of_cell h)).trans h
/-- a program that is put together, in plain words -/
structure AsmD where
  org : Int
  out : List Int
  mks : List UInt8 → Option Int
  td : List (ByteArray × Int × Bool)
  e : Int
def AsmD.here (d : AsmD) : Int := d.org + d.out.length
def asmCells (o : Int) (vo : Value) (M : Nat) (vt : Value) (e : Int) : List Value := [.int .i64 o, vo, .map (some M), vt, .int .i64 e]
def tdCells (td : List (ByteArray × Int × Bool)) : List Value := td.flatMap fun x => [.string x.1, .int .i64 x.2.1, .bool x.2.2]
theorem tdCells_snoc (td : List (ByteArray × Int × Bool)) (x : ByteArray × Int × Bool) : tdCells (td ++ [x]) = tdCells td ++ [.string x.1, .int .i64 x.2.1, .bool x.2.2] := by simp [tdCells]
def MapIs (D : DataW Unit) (mk : List UInt8 → Option Int) : Prop :=
  IsMap D ∧ ∀ s, Maps.has D (.string s) = (mk s).isSome ∧ D.atKey (.string s) (.lit (.int .i64 0)) = .lit (.int .i64 ((mk s).getD 0))
theorem MapIs.empty : MapIs (.map []) (fun _ => none) := ⟨isMap_empty, fun s => ⟨rfl, rfl⟩⟩
theorem MapIs.put {D : DataW Unit} {mk : List UInt8 → Option Int} (h : MapIs D mk) (k : List UInt8) (x : Int) : MapIs (D.put (.string k) (.lit (.int .i64 x))) (fun s => if s = k then some x else mk s) := by
  refine ⟨h.1.put _ _, fun s => ?_⟩
  show Maps.has _ _ = (if s = k then some x else mk s).isSome ∧ DataW.atKey _ _ _ = .lit (.int .i64 ((if s = k then some x else mk s).getD 0))
  by_cases e : s = k
  · subst e
    rw [if_pos rfl]
    exact ⟨has_put_same h.1 (by simp [WideAt.IsKeyLit]) _, atKey_put_same h.1 (by simp [WideAt.IsKeyLit]) _ _⟩
  · rw [if_neg e]
    have hne : (Lit.string s) ≠ Lit.string k := fun he => e (by injection he)
    exact ⟨(has_put_other hne _).trans (h.2 s).1, (atKey_put_other hne _ _).trans (h.2 s).2⟩
theorem keyLaw : Keyed Try.prog 9 := string_keyed Try.underlying9
theorem zeroInt (w : World) : (zeroValue 3).run Try.prog w = .ok (.int .i64 0) w := by kernel_rfl
theorem keyOf_s (s : ByteArray) (h : s.size ≤ maxLen) : keyOf Try.prog 9 (.string s) = some (.string s.data.toList) := Go.WideMaps.keyOf_string_mk Try.underlying9 h
/-- .. and in memory -/
structure AsmS (B P M nm : Nat) (w : World) (d : AsmD) : Prop where
  ex : ∃ vo vt, Blk w P 54 (asmCells d.org vo M vt d.e) ∧ w.ownsRow B 5 1 vo d.out.length (d.out.map (.int .u8 ·)) ∧ w.ownsRow B 63 3 vt d.td.length (tdCells d.td)
  map : ∃ D, w.ownsMap Try.prog 9 (plainElem (H := Unit) Try.prog 3) M nm D ∧ MapIs D d.mks
  leP : B ≤ P
  leM : B ≤ M
/-- what is left alone by calls on a program: all below, and all rows of other types -/
structure Frm (B : Nat) (w w' : World) : Prop where
  below : Below B w w'
  keep : ∀ (g : Nat) (cs : Array Value) (t : TypeId) (fr : Nat × Nat), w.heap[g]? = some (.cells cs t fr) → t ≠ 54 → t ≠ 5 → t ≠ 63 → w'.heap[g]? = w.heap[g]?
instance {B : Nat} {w w' : World} : Coe (Frm B w w') (Below B w w') := ⟨Frm.below⟩
theorem Frm.size {B : Nat} {w w' : World} (h : Frm B w w') : w.heap.size ≤ w'.heap.size := h.below.size
theorem Frm.refl (B : Nat) (w : World) : Frm B w w := ⟨Below.refl _ _, fun _ _ _ _ _ _ _ _ => rfl⟩
theorem Frm.of_below {B : Nat} {w w' : World} (h : Below w.heap.size w w') (hB : B ≤ w.heap.size) : Frm B w w' :=
  ⟨h.mono hB, fun g cs t fr hg _ _ _ => h.block g (Array.getElem?_eq_some_iff.1 hg).1⟩
theorem Frm.trans {B : Nat} {a b c : World} (h : Frm B a b) (h' : Frm B b c) : Frm B a c :=
  ⟨h.below.trans h'.below, fun g cs t fr hg t1 t2 t3 => by
    have e := h.keep g cs t fr hg t1 t2 t3
    rw [h'.keep g cs t fr (by rw [e]; exact hg) t1 t2 t3, e]⟩
theorem Frm.setP {B P : Nat} {w u : World} (h : Frm B w u) (hs : ∃ cs, Blk u P 54 cs) (hP : B ≤ P) {i : Nat} (v : Value) : Frm B w (u.setCell ⟨P, i, none⟩ v) := by
  obtain ⟨cs0, hb⟩ := hs
  refine ⟨h.below.setCell hP _, fun g cs t fr hg t1 t2 t3 => ?_⟩
  have e := h.keep g cs t fr hg t1 t2 t3
  have hne : g ≠ P := by
    rintro rfl
    unfold Blk at hb
    rw [e, hg] at hb
    injection hb with hb
    injection hb with _ ht
    exact t1 ht
  rw [Below.heap_setCell u ⟨P, i, none⟩ v g hne, e]
theorem Frm.own {B : Nat} {w u u' : World} {e : TypeId} {size n : Nat} {v : Value} {xs : List Value} (h : Frm B w u) (ho : u.ownsRow B e size v n xs) (he : e = 5 ∨ e = 63) (hg : u.grownBy u' v.ownBlock) (hs : B ≤ u.heap.size) : Frm B w u' := by
  refine ⟨Below_own h.below ho hg (Nat.le_refl _) hs, fun g cs t fr hw t1 t2 t3 => ?_⟩
  have e1 := h.keep g cs t fr hw t1 t2 t3
  have hlt : g < u.heap.size := (Array.getElem?_eq_some_iff.1 (e1.trans hw)).1
  rw [hg.block g hlt (fun hk => by
    obtain ⟨cur, hh⟩ := own_block ho hk.symm
    rw [e1, hw] at hh
    injection hh with hb
    injection hb with _ ht
    rcases he with rfl | rfl
    · exact t2 ht
    · exact t3 ht), e1]
theorem Frm.map_ {B M nm : Nat} {w u u' : World} {D : DataW Unit} (h : Frm B w u) (hm : u.ownsMap Try.prog 9 (plainElem (H := Unit) Try.prog 3) M nm D) (hg : u.grownBy u' (some M)) (hM : B ≤ M) (hs : B ≤ u.heap.size) : Frm B w u' := by
  refine ⟨below_of_grown h.below hg hM hs, fun g cs t fr hw t1 t2 t3 => ?_⟩
  have e1 := h.keep g cs t fr hw t1 t2 t3
  have hlt : g < u.heap.size := (Array.getElem?_eq_some_iff.1 (e1.trans hw)).1
  rw [hg.block g hlt (fun hk => by
    injection hk with hk
    subst hk
    obtain ⟨es, clock, hb, _⟩ := hm
    rw [e1, hw] at hb
    cases hb), e1]
theorem Blk.frm {B g : Nat} {w w' : World} {t : TypeId} {cs : List Value} (hb : Blk w g t cs) (h : Frm B w w') (t1 : t ≠ 54) (t2 : t ≠ 5) (t3 : t ≠ 63) : Blk w' g t cs := (h.keep g _ t _ hb t1 t2 t3).trans hb
theorem own_ne_map {w : World} {base M nm : Nat} {e : TypeId} {size n : Nat} {v : Value} {xs : List Value} {D : DataW Unit} (h : w.ownsRow base e size v n xs) (hm : w.ownsMap Try.prog 9 (plainElem (H := Unit) Try.prog 3) M nm D) : some M ≠ v.ownBlock := by
  intro hk
  obtain ⟨cur, hh⟩ := own_block h hk.symm
  obtain ⟨es, clock, hb, _⟩ := hm
  rw [hh] at hb
  cases hb
theorem blk_ne_map {w : World} {P M nm : Nat} {t : TypeId} {cs : List Value} {D : DataW Unit} (h : Blk w P t cs) (hm : w.ownsMap Try.prog 9 (plainElem (H := Unit) Try.prog 3) M nm D) : M ≠ P := by
  rintro rfl
  obtain ⟨es, clock, hb, _⟩ := hm
  unfold Blk at h
  rw [h] at hb
  cases hb
section
variable {B P M nm : Nat} {w w' : World} {d : AsmD}
theorem AsmS.lt (h : AsmS B P M nm w d) : P < w.heap.size := by obtain ⟨vo, vt, h1, _⟩ := h.ex; exact h1.lt
theorem AsmS.leB (h : AsmS B P M nm w d) : B < w.heap.size := Nat.lt_of_le_of_lt h.leP h.lt
theorem AsmS.mono (h : AsmS B P M nm w d) {nm' : Nat} (hn : nm ≤ nm') : AsmS B P M nm' w d := by
  obtain ⟨D, h1, h2⟩ := h.map
  exact ⟨h.ex, ⟨D, h1.mono hn, h2⟩, h.leP, h.leM⟩
theorem AsmS.below_ (h : AsmS B P M nm w d) (hb : Below w.heap.size w w') : AsmS B P M nm w' d := by
  obtain ⟨vo, vt, h1, h2, h3⟩ := h.ex
  obtain ⟨D, h4, h5⟩ := h.map
  exact ⟨⟨vo, vt, h1.below_ hb, own_below h2 hb, own_below h3 hb⟩, ⟨D, h4.kept (grownBy_below (r := none) hb) (by simp), h5⟩, h.leP, h.leM⟩
theorem AsmS.toB (h : AsmS B P M nm w d) (hb : Below w.heap.size w w') : Frm B w w' := Frm.of_below hb (Nat.le_of_lt h.leB)
theorem AsmS.blkP (h : AsmS B P M nm w d) : ∃ cs, Blk w P 54 cs := by obtain ⟨vo, vt, h1, _⟩ := h.ex; exact ⟨_, h1⟩
theorem AsmS.setE (h : AsmS B P M nm w d) (e : Int) : AsmS B P M nm (w.setCell ⟨P, 4, none⟩ (.int .i64 e)) { d with e := e } := by
  obtain ⟨vo, vt, h1, h2, h3⟩ := h.ex
  obtain ⟨D, h4, h5⟩ := h.map
  exact ⟨⟨vo, vt, h1.set_ 4 _, own_set h2 h1 (by decide) _ _, own_set h3 h1 (by decide) _ _⟩, ⟨D, h4.kept (grownBy_setCell (grownBy_refl w (some P)) 4 _) (by intro e; injection e with e; exact blk_ne_map h1 h4 e), h5⟩, h.leP, h.leM⟩
/-- its bytes have grown; its own cells say nothing of it yet -/
structure AsmG (B P M nm : Nat) (w : World) (d : AsmD) (vo vo' : Value) (out' : List Int) : Prop where
  ex : ∃ vt, Blk w P 54 (asmCells d.org vo M vt d.e) ∧ w.ownsRow B 63 3 vt d.td.length (tdCells d.td)
  row : w.ownsRow B 5 1 vo' out'.length (out'.map (.int .u8 ·))
  map : ∃ D, w.ownsMap Try.prog 9 (plainElem (H := Unit) Try.prog 3) M nm D ∧ MapIs D d.mks
  leP : B ≤ P
  leM : B ≤ M
theorem AsmG.blkP {vo vo' : Value} {out' : List Int} (h : AsmG B P M nm w d vo vo' out') : ∃ cs, Blk w P 54 cs := by obtain ⟨vt, h1, _⟩ := h.ex; exact ⟨_, h1⟩
theorem AsmS.growO {vo vt vo' : Value} {l : List Int} {n : Nat} (h : AsmS B P M nm w d) (h1 : Blk w P 54 (asmCells d.org vo M vt d.e)) (h2 : w.ownsRow B 5 1 vo d.out.length (d.out.map (.int .u8 ·))) (h3 : w.ownsRow B 63 3 vt d.td.length (tdCells d.td))
    (hn : n = d.out.length + l.length) (hown : w'.ownsRow B 5 1 vo' n (d.out.map (.int .u8 ·) ++ l.map (.int .u8 ·))) (hg : w.grownBy w' vo.ownBlock) : AsmG B P M nm w' d vo vo' (d.out ++ l) := by
  subst hn
  obtain ⟨D, h4, h5⟩ := h.map
  exact ⟨⟨vt, h1.grown hg (own_ne_ty h2 h1 (by decide)), (own_apart h2 h3 (by decide)).kept h3 hg⟩, by rw [List.length_append, List.map_append]; exact hown, ⟨D, h4.kept hg (own_ne_map h2 h4), h5⟩, h.leP, h.leM⟩
theorem AsmG.done {vo vo' : Value} {out' : List Int} (h : AsmG B P M nm w d vo vo' out') : AsmS B P M nm (w.setCell ⟨P, 1, none⟩ vo') { d with out := out' } := by
  obtain ⟨vt, h1, h3⟩ := h.ex
  obtain ⟨D, h4, h5⟩ := h.map
  exact ⟨⟨vo', vt, h1.set_ 1 _, own_set h.row h1 (by decide) _ _, own_set h3 h1 (by decide) _ _⟩, ⟨D, h4.kept (grownBy_setCell (grownBy_refl w (some P)) 1 _) (by intro e; injection e with e; exact blk_ne_map h1 h4 e), h5⟩, h.leP, h.leM⟩
/-- what was told has grown -/
structure AsmT (B P M nm : Nat) (w : World) (d : AsmD) (vt vt' : Value) (td' : List (ByteArray × Int × Bool)) : Prop where
  ex : ∃ vo, Blk w P 54 (asmCells d.org vo M vt d.e) ∧ w.ownsRow B 5 1 vo d.out.length (d.out.map (.int .u8 ·))
  row : w.ownsRow B 63 3 vt' td'.length (tdCells td')
  map : ∃ D, w.ownsMap Try.prog 9 (plainElem (H := Unit) Try.prog 3) M nm D ∧ MapIs D d.mks
  leP : B ≤ P
  leM : B ≤ M
theorem AsmT.blkP {vt vt' : Value} {td' : List (ByteArray × Int × Bool)} (h : AsmT B P M nm w d vt vt' td') : ∃ cs, Blk w P 54 cs := by obtain ⟨vo, h1, _⟩ := h.ex; exact ⟨_, h1⟩
theorem AsmS.growT {vo vt vt' : Value} {x : ByteArray × Int × Bool} {n : Nat} (h : AsmS B P M nm w d) (h1 : Blk w P 54 (asmCells d.org vo M vt d.e)) (h2 : w.ownsRow B 5 1 vo d.out.length (d.out.map (.int .u8 ·))) (h3 : w.ownsRow B 63 3 vt d.td.length (tdCells d.td))
    (hn : n = d.td.length + 1) (hown : w'.ownsRow B 63 3 vt' n (tdCells d.td ++ [.string x.1, .int .i64 x.2.1, .bool x.2.2])) (hg : w.grownBy w' vt.ownBlock) : AsmT B P M nm w' d vt vt' (d.td ++ [x]) := by
  subst hn
  obtain ⟨D, h4, h5⟩ := h.map
  exact ⟨⟨vo, h1.grown hg (own_ne_ty h3 h1 (by decide)), (own_apart h3 h2 (by decide)).kept h2 hg⟩, by rw [List.length_append, tdCells_snoc]; exact hown, ⟨D, h4.kept hg (own_ne_map h3 h4), h5⟩, h.leP, h.leM⟩
theorem AsmT.done {vt vt' : Value} {td' : List (ByteArray × Int × Bool)} (h : AsmT B P M nm w d vt vt' td') : AsmS B P M nm (w.setCell ⟨P, 3, none⟩ vt') { d with td := td' } := by
  obtain ⟨vo, h1, h3⟩ := h.ex
  obtain ⟨D, h4, h5⟩ := h.map
  exact ⟨⟨vo, vt', h1.set_ 3 _, own_set h3 h1 (by decide) _ _, own_set h.row h1 (by decide) _ _⟩, ⟨D, h4.kept (grownBy_setCell (grownBy_refl w (some P)) 3 _) (by intro e; injection e with e; exact blk_ne_map h1 h4 e), h5⟩, h.leP, h.leM⟩
theorem AsmS.setM {D D' : DataW Unit} {mk' : List UInt8 → Option Int} (h : AsmS B P M nm w d) (h4 : w.ownsMap Try.prog 9 (plainElem (H := Unit) Try.prog 3) M nm D)
    (h5 : w'.ownsMap Try.prog 9 (plainElem (H := Unit) Try.prog 3) M (nm + 1) D') (h6 : MapIs D' mk') (hg : w.grownBy w' (some M)) : AsmS B P M (nm + 1) w' { d with mks := mk' } := by
  obtain ⟨vo, vt, h1, h2, h3⟩ := h.ex
  have hne : some P ≠ some M := fun e => by injection e with e; exact blk_ne_map h1 h4 e.symm
  have hk : ∀ {base : Nat} {e : TypeId} {size n : Nat} {v : Value} {xs : List Value}, w.ownsRow base e size v n xs → w'.ownsRow base e size v n xs := fun ho => own_keep ho fun k hk => hg.block k (ho.lt k hk).2 (fun e => own_ne_map ho h4 (by rw [hk]; exact e.symm))
  exact ⟨⟨vo, vt, h1.grown hg hne, hk h2, hk h3⟩, ⟨D', h5, h6⟩, h.leP, h.leM⟩
end
end Go.Proofs.Ytnkjmmbhjhmgdaa
