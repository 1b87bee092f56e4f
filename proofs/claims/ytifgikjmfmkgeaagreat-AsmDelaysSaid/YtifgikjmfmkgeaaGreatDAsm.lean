/- Texts that are laid together: Asm. -/
import Derived.Test.YtifgikjmfmkgeaaGreatRows
import Derived.Test.YtifgikjmfmkgeaaGreatDMem
import Derived.Deep.RegionHeld3
import Derived.Deep.RegionWith
import Derived.Deep.DrawnRows
import Derived.Deep.Cut
import Derived.BigQuiet
import Derived.Lib.QuietBelow
import Derived.Maps.OwnSet
import Derived.Maps.OwnOps
import Derived.Laws.OwnMore
import Derived.Deep.RegionLawGrows
namespace Go.Proofs.YtifgikjmfmkgeaaGreat
set_option linter.unusedSimpArgs false
set_option linter.unusedVariables false
open Go.RowKit Go.Maps
theorem own_block {w : World} {base : Nat} {e : TypeId} {size n : Nat} {v : Value} {xs : List Value} (h : w.ownsRow base e size v n xs) {k : Nat} (hk : v.ownBlock = some k) : ∃ cur, w.heap[k]? = some (.cells cur e (0, 0)) := by
  rcases h.2 with ⟨e1, _⟩ | ⟨g, cap, cur, e1, _, hh, _⟩
  · rw [e1] at hk; simp [Value.ownBlock] at hk
  · rw [e1] at hk
    simp only [Value.ownBlock, Option.some.injEq] at hk
    subst hk
    exact ⟨cur, hh⟩
theorem own_ne_ty {w : World} {base : Nat} {e t : TypeId} {size n g : Nat} {v : Value} {xs cs : List Value} (h : w.ownsRow base e size v n xs) (hb : Blk w g t cs) (hne : e ≠ t) : some g ≠ v.ownBlock := by
  intro hk
  obtain ⟨cur, hh⟩ := own_block h hk.symm
  unfold Blk at hb
  rw [hh] at hb
  injection hb with hb
  injection hb with _ ht
  exact hne ht
theorem own_apart {w : World} {base : Nat} {e e' : TypeId} {size n size' n' : Nat} {v v' : Value} {xs xs' : List Value} (h : w.ownsRow base e size v n xs) (h' : w.ownsRow base e' size' v' n' xs') (hne : e ≠ e') : Apart v v' := by
  intro g h1 h2
  obtain ⟨cur, hh⟩ := own_block h h1
  obtain ⟨cur', hh'⟩ := own_block h' h2
  rw [hh] at hh'
  injection hh' with hb
  injection hb with _ ht
  exact hne ht
theorem own_set {w : World} {base : Nat} {e t : TypeId} {size n g : Nat} {v : Value} {xs cs : List Value} (h : w.ownsRow base e size v n xs) (hb : Blk w g t cs) (hne : e ≠ t) (o : Nat) (x : Value) : (w.setCell ⟨g, o, none⟩ x).ownsRow base e size v n xs := by
  refine ⟨h.1, ?_⟩
  rcases h.2 with e1 | ⟨k, cap, cur, e1, hle, hh, rest⟩
  · exact .inl e1
  · refine .inr ⟨k, cap, cur, e1, hle, ?_, rest⟩
    have hkg : k ≠ g := by
      have := own_ne_ty h hb hne
      intro hk
      apply this
      rw [e1, hk]
      rfl
    rw [← hh]
    exact Below.heap_setCell w ⟨g, o, none⟩ x k hkg
theorem own_keep {w w' : World} {base : Nat} {e : TypeId} {size n : Nat} {v : Value} {xs : List Value} (h : w.ownsRow base e size v n xs) (hk : ∀ k, v.ownBlock = some k → w'.heap[k]? = w.heap[k]?) : w'.ownsRow base e size v n xs := by
  refine ⟨h.1, ?_⟩
  rcases h.2 with e1 | ⟨k, cap, cur, e1, hle, hh, rest⟩
  · exact .inl e1
  · exact .inr ⟨k, cap, cur, e1, hle, (hk k (by rw [e1]; rfl)).trans hh, rest⟩
theorem own_belowA {w w' : World} {base : Nat} {e : TypeId} {size n : Nat} {v : Value} {xs : List Value} (h : w.ownsRow base e size v n xs) (hb : Below w.heap.size w w') : w'.ownsRow base e size v n xs :=
  own_keep h fun k hk => hb.block k (h.lt k hk).2
theorem own_formA {w : World} {base : Nat} {e : TypeId} {size n : Nat} {v : Value} {xs : List Value} (h : w.ownsRow base e size v n xs) : ∃ A c, v = .slice A n c ∧ (A = none → n = 0 ∧ c = 0) ∧ n ≤ c := by
  rcases h.2 with ⟨e1, e2⟩ | ⟨g, cap, cur, e1, _, _, h3, _⟩
  · exact ⟨none, 0, by rw [e1, e2], (fun _ => ⟨e2, rfl⟩), by omega⟩
  · exact ⟨_, _, e1, (fun h => by cases h), h3⟩
theorem below_alloc1 (w : World) (o : Obj) : Below w.heap.size w (w.alloc o) := (Below.refl _ w).alloc (Nat.le_refl _) _
theorem cell_below {w w' : World} (hb : Below w.heap.size w w') {a : Addr} {v : Value} (h : w.cell? a = some v) : w'.cell? a = some v := (hb.cell (block_lt_of_cell h)).trans h
/-- a program that is put together, in plain words -/
structure AsmD where
  org : Int
  out : List Int
  mks : List UInt8 → Option Int
  td : List (ByteArray × Int × Bool)
  e : Int
def AsmD.here (d : AsmD) : Int := d.org + d.out.length
def asmCells (o : Int) (vo : Value) (M : Nat) (vt : Value) (e : Int) : List Value := [.int .i64 o, vo, .map (some M), vt, .int .i64 e]
def tdCells (td : List (ByteArray × Int × Bool)) : List Value := td.flatMap fun x => [.string x.1, .int .i64 x.2.1, .bool x.2.2]
theorem tdCells_snoc (td : List (ByteArray × Int × Bool)) (x : ByteArray × Int × Bool) : tdCells (td ++ [x]) = tdCells td ++ [.string x.1, .int .i64 x.2.1, .bool x.2.2] := by simp [tdCells]
def MapIs (D : DataW Unit) (mk : List UInt8 → Option Int) : Prop :=
  IsMap D ∧ ∀ s, Maps.has D (.string s) = (mk s).isSome ∧ D.atKey (.string s) (.lit (.int .i64 0)) = .lit (.int .i64 ((mk s).getD 0))
theorem MapIs.empty : MapIs (.map []) (fun _ => none) := ⟨isMap_empty, fun s => ⟨rfl, rfl⟩⟩
theorem MapIs.put {D : DataW Unit} {mk : List UInt8 → Option Int} (h : MapIs D mk) (k : List UInt8) (x : Int) : MapIs (D.put (.string k) (.lit (.int .i64 x))) (fun s => if s = k then some x else mk s) := by
  refine ⟨h.1.put _ _, fun s => ?_⟩
  show Maps.has _ _ = (if s = k then some x else mk s).isSome ∧ DataW.atKey _ _ _ = .lit (.int .i64 ((if s = k then some x else mk s).getD 0))
  by_cases e : s = k
  · subst e
    rw [if_pos rfl]
    exact ⟨has_put_same h.1 (by simp [WideAt.IsKeyLit]) _, atKey_put_same h.1 (by simp [WideAt.IsKeyLit]) _ _⟩
  · rw [if_neg e]
    have hne : (Lit.string s) ≠ Lit.string k := fun he => e (by injection he)
    exact ⟨(has_put_other hne _).trans (h.2 s).1, (atKey_put_other hne _ _).trans (h.2 s).2⟩
theorem keyLaw : Keyed Tryz.prog 9 := string_keyed Tryz.underlying9
theorem zeroInt (w : World) : (zeroValue 3).run Tryz.prog w = .ok (.int .i64 0) w := by kernel_rfl
theorem keyOf_s (s : ByteArray) (h : s.size ≤ maxLen) : keyOf Tryz.prog 9 (.string s) = some (.string s.data.toList) := Go.WideMaps.keyOf_string_mk Tryz.underlying9 h
/-- .. and in memory -/
structure AsmS (B P M nm : Nat) (w : World) (d : AsmD) : Prop where
  ex : ∃ vo vt, Blk w P 53 (asmCells d.org vo M vt d.e) ∧ w.ownsRow B 5 1 vo d.out.length (d.out.map (.int .u8 ·)) ∧ w.ownsRow B 57 3 vt d.td.length (tdCells d.td)
  map : ∃ D, w.ownsMap Tryz.prog 9 (plainElem (H := Unit) Tryz.prog 3) M nm D ∧ MapIs D d.mks
  leP : B ≤ P
  leM : B ≤ M
/-- what is left alone by calls on a program: all below, and all rows of other types -/
structure Frm (B : Nat) (w w' : World) : Prop where
  below : Below B w w'
  keep : ∀ (g : Nat) (cs : Array Value) (t : TypeId) (fr : Nat × Nat), w.heap[g]? = some (.cells cs t fr) → t ≠ 53 → t ≠ 5 → t ≠ 57 → w'.heap[g]? = w.heap[g]?
instance {B : Nat} {w w' : World} : Coe (Frm B w w') (Below B w w') := ⟨Frm.below⟩
theorem Frm.size {B : Nat} {w w' : World} (h : Frm B w w') : w.heap.size ≤ w'.heap.size := h.below.size
theorem Frm.refl (B : Nat) (w : World) : Frm B w w := ⟨Below.refl _ _, fun _ _ _ _ _ _ _ _ => rfl⟩
theorem Frm.of_below {B : Nat} {w w' : World} (h : Below w.heap.size w w') (hB : B ≤ w.heap.size) : Frm B w w' :=
  ⟨h.mono hB, fun g cs t fr hg _ _ _ => h.block g (Array.getElem?_eq_some_iff.1 hg).1⟩
theorem Frm.trans {B : Nat} {a b c : World} (h : Frm B a b) (h' : Frm B b c) : Frm B a c :=
  ⟨h.below.trans h'.below, fun g cs t fr hg t1 t2 t3 => by
    have e := h.keep g cs t fr hg t1 t2 t3
    rw [h'.keep g cs t fr (by rw [e]; exact hg) t1 t2 t3, e]⟩
theorem Frm.setP {B P : Nat} {w u : World} (h : Frm B w u) (hs : ∃ cs, Blk u P 53 cs) (hP : B ≤ P) {i : Nat} (v : Value) : Frm B w (u.setCell ⟨P, i, none⟩ v) := by
  obtain ⟨cs0, hb⟩ := hs
  refine ⟨h.below.setCell hP _, fun g cs t fr hg t1 t2 t3 => ?_⟩
  have e := h.keep g cs t fr hg t1 t2 t3
  have hne : g ≠ P := by
    rintro rfl
    unfold Blk at hb
    rw [e, hg] at hb
    injection hb with hb
    injection hb with _ ht
    exact t1 ht
  rw [Below.heap_setCell u ⟨P, i, none⟩ v g hne, e]
theorem Frm.own {B : Nat} {w u u' : World} {e : TypeId} {size n : Nat} {v : Value} {xs : List Value} (h : Frm B w u) (ho : u.ownsRow B e size v n xs) (he : e = 5 ∨ e = 57) (hg : u.grownBy u' v.ownBlock) (hs : B ≤ u.heap.size) : Frm B w u' := by
  refine ⟨Below_own h.below ho hg (Nat.le_refl _) hs, fun g cs t fr hw t1 t2 t3 => ?_⟩
  have e1 := h.keep g cs t fr hw t1 t2 t3
  have hlt : g < u.heap.size := (Array.getElem?_eq_some_iff.1 (e1.trans hw)).1
  rw [hg.block g hlt (fun hk => by
    obtain ⟨cur, hh⟩ := own_block ho hk.symm
    rw [e1, hw] at hh
    injection hh with hb
    injection hb with _ ht
    rcases he with rfl | rfl
    · exact t2 ht
    · exact t3 ht), e1]
theorem Frm.map_ {B M nm : Nat} {w u u' : World} {D : DataW Unit} (h : Frm B w u) (hm : u.ownsMap Tryz.prog 9 (plainElem (H := Unit) Tryz.prog 3) M nm D) (hg : u.grownBy u' (some M)) (hM : B ≤ M) (hs : B ≤ u.heap.size) : Frm B w u' := by
  refine ⟨below_of_grown h.below hg hM hs, fun g cs t fr hw t1 t2 t3 => ?_⟩
  have e1 := h.keep g cs t fr hw t1 t2 t3
  have hlt : g < u.heap.size := (Array.getElem?_eq_some_iff.1 (e1.trans hw)).1
  rw [hg.block g hlt (fun hk => by
    injection hk with hk
    subst hk
    obtain ⟨es, clock, hb, _⟩ := hm
    rw [e1, hw] at hb
    cases hb), e1]
theorem Blk.frm {B g : Nat} {w w' : World} {t : TypeId} {cs : List Value} (hb : Blk w g t cs) (h : Frm B w w') (t1 : t ≠ 53) (t2 : t ≠ 5) (t3 : t ≠ 57) : Blk w' g t cs := (h.keep g _ t _ hb t1 t2 t3).trans hb
theorem own_ne_map {w : World} {base M nm : Nat} {e : TypeId} {size n : Nat} {v : Value} {xs : List Value} {D : DataW Unit} (h : w.ownsRow base e size v n xs) (hm : w.ownsMap Tryz.prog 9 (plainElem (H := Unit) Tryz.prog 3) M nm D) : some M ≠ v.ownBlock := by
  intro hk
  obtain ⟨cur, hh⟩ := own_block h hk.symm
  obtain ⟨es, clock, hb, _⟩ := hm
  rw [hh] at hb
  cases hb
theorem blk_ne_map {w : World} {P M nm : Nat} {t : TypeId} {cs : List Value} {D : DataW Unit} (h : Blk w P t cs) (hm : w.ownsMap Tryz.prog 9 (plainElem (H := Unit) Tryz.prog 3) M nm D) : M ≠ P := by
  rintro rfl
  obtain ⟨es, clock, hb, _⟩ := hm
  unfold Blk at h
  rw [h] at hb
  cases hb
section
variable {B P M nm : Nat} {w w' : World} {d : AsmD}
theorem AsmS.lt (h : AsmS B P M nm w d) : P < w.heap.size := by obtain ⟨vo, vt, h1, _⟩ := h.ex; exact h1.lt
theorem AsmS.leB (h : AsmS B P M nm w d) : B < w.heap.size := Nat.lt_of_le_of_lt h.leP h.lt
theorem AsmS.mono (h : AsmS B P M nm w d) {nm' : Nat} (hn : nm ≤ nm') : AsmS B P M nm' w d := by
  obtain ⟨D, h1, h2⟩ := h.map
  exact ⟨h.ex, ⟨D, h1.mono hn, h2⟩, h.leP, h.leM⟩
theorem AsmS.below_ (h : AsmS B P M nm w d) (hb : Below w.heap.size w w') : AsmS B P M nm w' d := by
  obtain ⟨vo, vt, h1, h2, h3⟩ := h.ex
  obtain ⟨D, h4, h5⟩ := h.map
  exact ⟨⟨vo, vt, h1.below_ hb, own_belowA h2 hb, own_belowA h3 hb⟩, ⟨D, h4.kept (grownBy_below (r := none) hb) (by simp), h5⟩, h.leP, h.leM⟩
theorem AsmS.toB (h : AsmS B P M nm w d) (hb : Below w.heap.size w w') : Frm B w w' := Frm.of_below hb (Nat.le_of_lt h.leB)
theorem AsmS.blkP (h : AsmS B P M nm w d) : ∃ cs, Blk w P 53 cs := by obtain ⟨vo, vt, h1, _⟩ := h.ex; exact ⟨_, h1⟩
theorem AsmS.setE (h : AsmS B P M nm w d) (e : Int) : AsmS B P M nm (w.setCell ⟨P, 4, none⟩ (.int .i64 e)) { d with e := e } := by
  obtain ⟨vo, vt, h1, h2, h3⟩ := h.ex
  obtain ⟨D, h4, h5⟩ := h.map
  exact ⟨⟨vo, vt, h1.set_ 4 _, own_set h2 h1 (by decide) _ _, own_set h3 h1 (by decide) _ _⟩, ⟨D, h4.kept (grownBy_setCell (grownBy_refl w (some P)) 4 _) (by intro e; injection e with e; exact blk_ne_map h1 h4 e), h5⟩, h.leP, h.leM⟩
/-- its bytes have grown; its own cells say nothing of it yet -/
structure AsmG (B P M nm : Nat) (w : World) (d : AsmD) (vo vo' : Value) (out' : List Int) : Prop where
  ex : ∃ vt, Blk w P 53 (asmCells d.org vo M vt d.e) ∧ w.ownsRow B 57 3 vt d.td.length (tdCells d.td)
  row : w.ownsRow B 5 1 vo' out'.length (out'.map (.int .u8 ·))
  map : ∃ D, w.ownsMap Tryz.prog 9 (plainElem (H := Unit) Tryz.prog 3) M nm D ∧ MapIs D d.mks
  leP : B ≤ P
  leM : B ≤ M
theorem AsmG.blkP {vo vo' : Value} {out' : List Int} (h : AsmG B P M nm w d vo vo' out') : ∃ cs, Blk w P 53 cs := by obtain ⟨vt, h1, _⟩ := h.ex; exact ⟨_, h1⟩
theorem AsmS.growO {vo vt vo' : Value} {l : List Int} {n : Nat} (h : AsmS B P M nm w d) (h1 : Blk w P 53 (asmCells d.org vo M vt d.e)) (h2 : w.ownsRow B 5 1 vo d.out.length (d.out.map (.int .u8 ·))) (h3 : w.ownsRow B 57 3 vt d.td.length (tdCells d.td))
    (hn : n = d.out.length + l.length) (hown : w'.ownsRow B 5 1 vo' n (d.out.map (.int .u8 ·) ++ l.map (.int .u8 ·))) (hg : w.grownBy w' vo.ownBlock) : AsmG B P M nm w' d vo vo' (d.out ++ l) := by
  subst hn
  obtain ⟨D, h4, h5⟩ := h.map
  exact ⟨⟨vt, h1.grown hg (own_ne_ty h2 h1 (by decide)), (own_apart h2 h3 (by decide)).kept h3 hg⟩, by rw [List.length_append, List.map_append]; exact hown, ⟨D, h4.kept hg (own_ne_map h2 h4), h5⟩, h.leP, h.leM⟩
theorem AsmG.done {vo vo' : Value} {out' : List Int} (h : AsmG B P M nm w d vo vo' out') : AsmS B P M nm (w.setCell ⟨P, 1, none⟩ vo') { d with out := out' } := by
  obtain ⟨vt, h1, h3⟩ := h.ex
  obtain ⟨D, h4, h5⟩ := h.map
  exact ⟨⟨vo', vt, h1.set_ 1 _, own_set h.row h1 (by decide) _ _, own_set h3 h1 (by decide) _ _⟩, ⟨D, h4.kept (grownBy_setCell (grownBy_refl w (some P)) 1 _) (by intro e; injection e with e; exact blk_ne_map h1 h4 e), h5⟩, h.leP, h.leM⟩
/-- what was told has grown -/
structure AsmT (B P M nm : Nat) (w : World) (d : AsmD) (vt vt' : Value) (td' : List (ByteArray × Int × Bool)) : Prop where
  ex : ∃ vo, Blk w P 53 (asmCells d.org vo M vt d.e) ∧ w.ownsRow B 5 1 vo d.out.length (d.out.map (.int .u8 ·))
  row : w.ownsRow B 57 3 vt' td'.length (tdCells td')
  map : ∃ D, w.ownsMap Tryz.prog 9 (plainElem (H := Unit) Tryz.prog 3) M nm D ∧ MapIs D d.mks
  leP : B ≤ P
  leM : B ≤ M
theorem AsmT.blkP {vt vt' : Value} {td' : List (ByteArray × Int × Bool)} (h : AsmT B P M nm w d vt vt' td') : ∃ cs, Blk w P 53 cs := by obtain ⟨vo, h1, _⟩ := h.ex; exact ⟨_, h1⟩
theorem AsmS.growT {vo vt vt' : Value} {x : ByteArray × Int × Bool} {n : Nat} (h : AsmS B P M nm w d) (h1 : Blk w P 53 (asmCells d.org vo M vt d.e)) (h2 : w.ownsRow B 5 1 vo d.out.length (d.out.map (.int .u8 ·))) (h3 : w.ownsRow B 57 3 vt d.td.length (tdCells d.td))
    (hn : n = d.td.length + 1) (hown : w'.ownsRow B 57 3 vt' n (tdCells d.td ++ [.string x.1, .int .i64 x.2.1, .bool x.2.2])) (hg : w.grownBy w' vt.ownBlock) : AsmT B P M nm w' d vt vt' (d.td ++ [x]) := by
  subst hn
  obtain ⟨D, h4, h5⟩ := h.map
  exact ⟨⟨vo, h1.grown hg (own_ne_ty h3 h1 (by decide)), (own_apart h3 h2 (by decide)).kept h2 hg⟩, by rw [List.length_append, tdCells_snoc]; exact hown, ⟨D, h4.kept hg (own_ne_map h3 h4), h5⟩, h.leP, h.leM⟩
theorem AsmT.done {vt vt' : Value} {td' : List (ByteArray × Int × Bool)} (h : AsmT B P M nm w d vt vt' td') : AsmS B P M nm (w.setCell ⟨P, 3, none⟩ vt') { d with td := td' } := by
  obtain ⟨vo, h1, h3⟩ := h.ex
  obtain ⟨D, h4, h5⟩ := h.map
  exact ⟨⟨vo, vt', h1.set_ 3 _, own_set h3 h1 (by decide) _ _, own_set h.row h1 (by decide) _ _⟩, ⟨D, h4.kept (grownBy_setCell (grownBy_refl w (some P)) 3 _) (by intro e; injection e with e; exact blk_ne_map h1 h4 e), h5⟩, h.leP, h.leM⟩
theorem AsmS.setM {D D' : DataW Unit} {mk' : List UInt8 → Option Int} (h : AsmS B P M nm w d) (h4 : w.ownsMap Tryz.prog 9 (plainElem (H := Unit) Tryz.prog 3) M nm D)
    (h5 : w'.ownsMap Tryz.prog 9 (plainElem (H := Unit) Tryz.prog 3) M (nm + 1) D') (h6 : MapIs D' mk') (hg : w.grownBy w' (some M)) : AsmS B P M (nm + 1) w' { d with mks := mk' } := by
  obtain ⟨vo, vt, h1, h2, h3⟩ := h.ex
  have hne : some P ≠ some M := fun e => by injection e with e; exact blk_ne_map h1 h4 e.symm
  have hk : ∀ {base : Nat} {e : TypeId} {size n : Nat} {v : Value} {xs : List Value}, w.ownsRow base e size v n xs → w'.ownsRow base e size v n xs := fun ho => own_keep ho fun k hk => hg.block k (ho.lt k hk).2 (fun e => own_ne_map ho h4 (by rw [hk]; exact e.symm))
  exact ⟨⟨vo, vt, h1.grown hg hne, hk h2, hk h3⟩, ⟨D', h5, h6⟩, h.leP, h.leM⟩
end
end Go.Proofs.YtifgikjmfmkgeaaGreat
namespace Go.Proofs.YtifgikjmfmkgeaaGreat
set_option linter.unusedSimpArgs false
set_option linter.unusedVariables false
open Go.RowKit Go.Maps
theorem infoU8 : (Tryz.prog.info? 5).map (fun i => (i.zero, i.size, i.bytes)) = some (some (.int .u8 0), 1, 1) := by kernel_rfl
theorem infoTold : (Tryz.prog.info? 57).map (fun i => (i.zero, i.size, i.bytes)) = some (some (.agg #[.string ⟨#[]⟩, .int .i64 0, .bool false]), 3, 32) := by kernel_rfl
/-- how great it may be -/
structure AsmOk (d : AsmD) (T : Nat) : Prop where
  org0 : 0 ≤ d.org
  org1 : d.org ≤ 65535
  top : d.org + d.out.length ≤ 65536
  byte : ∀ x ∈ d.out, 0 ≤ x ∧ x ≤ 255
  told : d.td.length ≤ T
theorem AsmOk.len {d : AsmD} {T : Nat} (h : AsmOk d T) : d.out.length ≤ 65536 := by have := h.org0; have := h.top; omega
theorem asm_bad_nil (w : World) : Calls Tryz.prog 13 #[.pointer none] w fun e w' => e = .returned (.bool true) ∧ w = w' := by
  go_enter Tryz.func13, Tryz.ntmps13
  go_wp2_with fail
  go_ret
  exact ⟨rfl, rfl⟩
theorem asm_bad (P : Nat) (o e : Int) (vo vm vt : Value) (w : World) (h : Blk w P 53 [.int .i64 o, vo, vm, vt, .int .i64 e]) : Calls Tryz.prog 13 #[.pointer (some ⟨P, 0, none⟩)] w fun x w' => x = .returned (.bool (decide (e ≠ 0))) ∧ w = w' := by
  have c4 : w.cell? ⟨P, 4, none⟩ = some (.int .i64 e) := h.cell 4
  go_enter Tryz.func13, Tryz.ntmps13
  by_cases he : e = 0
  · subst he
    go_wp2_with fail
    go_ret
    exact ⟨rfl, rfl⟩
  · go_wp2_with fail
    go_ret
    exact ⟨by simp [he], rfl⟩
theorem asm_here (P : Nat) (o e : Int) (A : Option Addr) (n c : Nat) (vm vt : Value) (w : World) (h : Blk w P 53 [.int .i64 o, .slice A n c, vm, vt, .int .i64 e]) (h0 : 0 ≤ o) (h1 : o + n ≤ 65536) : Calls Tryz.prog 20 #[.pointer (some ⟨P, 0, none⟩)] w fun x w' => x = .returned (.int .i64 (o + n)) ∧ Below w.heap.size w w' := by
  have c0 : w.cell? ⟨P, 0, none⟩ = some (.int .i64 o) := h.cell 0
  have c1 : w.cell? ⟨P, 1, none⟩ = some (.slice A n c) := h.cell 1
  have e1 : IntKind.i64.wrap (o + n) = o + n := by rw [IntKind.wrap_i64]; omega
  go_enter Tryz.func20, Tryz.ntmps20
  go_wp2_with fail
  go_quiet (fail)
  all_goals
    go_wp2_with fail
    go_ret
    exact ⟨rfl, Below_drewN (Below.refl _ w) _⟩
def bytesF (d : AsmD) (l : List Int) : AsmD := if d.e ≠ 0 then d else if 65536 < d.org + d.out.length + l.length then { d with e := 8 } else { d with out := d.out ++ l }
theorem AsmOk.bytesF {d : AsmD} {T : Nat} (h : AsmOk d T) {l : List Int} (hl : ∀ x ∈ l, 0 ≤ x ∧ x ≤ 255) : AsmOk (bytesF d l) T := by
  unfold Go.Proofs.YtifgikjmfmkgeaaGreat.bytesF
  split
  · exact h
  · split
    · exact ⟨h.org0, h.org1, h.top, h.byte, h.told⟩
    · refine ⟨h.org0, h.org1, ?_, fun x hx => ?_, h.told⟩
      · simp; omega
      · rcases List.mem_append.1 hx with hx | hx
        · exact h.byte x hx
        · exact hl x hx
/-- what a call on such a program does -/
def AsmR (B P M nm : Nat) (d : AsmD) (w : World) (e : Ending) (w' : World) : Prop := e = .returned (.tuple #[]) ∧ AsmS B P M nm w' d ∧ Frm B w w'
set_option maxRecDepth 100000 in
set_option maxHeartbeats 4000000 in
theorem asm_bytes (B P M nm T : Nat) (d : AsmD) (A : Option Addr) (n c : Nat) (l : List Int) (w : World) (h : AsmS B P M nm w d) (ok : AsmOk d T) (hl : Ints w A .u8 l) (hn : l.length = n) (hm : n ≤ 1000000000) (hnil : A = none → n = 0 ∧ c = 0) :
    Calls Tryz.prog 15 #[.pointer (some ⟨P, 0, none⟩), .slice A n c] w (AsmR B P M nm (bytesF d l) w) := by
  obtain ⟨vo, vt, h1, h2, h3⟩ := h.ex
  obtain ⟨Ao, co, rfl, hAo, hco⟩ := own_formA h2
  have c1 : w.cell? ⟨P, 1, none⟩ = some (.slice Ao d.out.length co) := h1.cell 1
  have f4 := h1.frozen 4
  have hPB := h.leP
  have hlt := h.lt
  have o0 := ok.org0
  have o1 := ok.top
  have HS := Lib.hid h; have HL := Lib.hid hl; have HN := Lib.hid hn; have H1 := Lib.hid h1; have H2 := Lib.hid h2; have H3 := Lib.hid h3
  have HBAD := Lib.hid (asm_bad P d.org d.e _ _ _ w h1)
  have HHERE := Lib.hid (asm_here P d.org d.e Ao d.out.length co _ _ w h1 o0 o1)
  have ee := Lib.hid hnil
  clear h hl hn h1 h2 h3 hAo hnil
  by_cases he : d.e = 0
  · have hbd : (decide (d.e ≠ 0)) = false := by simp [he]
    rw [hbd] at HBAD
    have e1 : IntKind.i64.wrap (65536 - (d.org + (d.out.length : Int))) = 65536 - (d.org + (d.out.length : Int)) := by rw [IntKind.wrap_i64]; omega
    go_enter Tryz.func15, Tryz.ntmps15
    by_cases ht : 65536 - (d.org + (d.out.length : Int)) < (n : Int)
    · go_wp2_with (first
        | (go_at_call 13; refine HBAD.out.mono ?_; rintro e w1 ⟨rfl, rfl⟩)
        | (go_at_call 20; refine HHERE.out.mono ?_; rintro e w2 ⟨rfl, hb2⟩; have HS2 := Lib.hid (HS.out.below_ hb2); have f42 := (H1.out.below_ hb2).frozen 4; have c42 : w2.cell? ⟨P, 4, none⟩ = some (.int .i64 d.e) := (H1.out.below_ hb2).cell 4; have HB2 := Lib.hid (HS.out.toB hb2); clear hb2))
      go_end0
      have e : bytesF d l = { d with e := 8 } := by unfold bytesF; rw [if_neg (by omega), if_pos (by have := HN.out; omega)]
      rw [e]
      exact ⟨rfl, HS2.out.setE 8, HB2.out.setP HS2.out.blkP hPB _⟩
    · have hsum : d.out.length + n ≤ 65536 := by omega
      go_wp2_with (first
        | (go_at_call 13; refine HBAD.out.mono ?_; rintro e w1 ⟨rfl, rfl⟩)
        | (go_at_call 20; refine HHERE.out.mono ?_; rintro e w2 ⟨rfl, hb2⟩; have HS2 := Lib.hid (HS.out.below_ hb2); have H12 := Lib.hid (H1.out.below_ hb2); have H22 := Lib.hid (own_belowA H2.out hb2); have H32 := Lib.hid (own_belowA H3.out hb2); have HL2 := Lib.hid (HL.out.below hb2); have c12 : w2.cell? ⟨P, 1, none⟩ = some (.slice Ao d.out.length co) := cell_below hb2 c1; have HB2 := Lib.hid (HS.out.toB hb2); have hs2 := hb2.size; clear hb2)
        | (at_builtin; refine wpList_appAny _ rfl (.tmp 19) (.tmp 20) 29 rfl B 5 (.int .u8 0) 1 Tryz.underlying29 infoU8 (by decide) _ d.out.length _ rfl H22.out A n c (l.map (.int .u8 ·)) rfl (by rw [List.length_map]; exact HN.out) HL2.out ee.out (by intro u hu; obtain ⟨x, _, rfl⟩ := List.mem_map.1 hu; rfl) (by unfold maxLen; omega) (by omega) (by omega) ?_; intro v3 w3 hown hg; obtain ⟨A3, c3, rfl, -, -⟩ := own_formA hown; have HG3 := Lib.hid (HS2.out.growO H12.out H22.out H32.out (l := l) (by rw [HN.out]) hown hg); have HB3 := Lib.hid (HB2.out.own H22.out (.inl rfl) hg (by omega)); have f13 : w3.frozen? ⟨P, 1, none⟩ = false := (by obtain ⟨vt, hb, _⟩ := HG3.out.ex; exact hb.frozen 1); have c13 : w3.cell? ⟨P, 1, none⟩ = some (.slice Ao d.out.length co) := (by obtain ⟨vt, hb, _⟩ := HG3.out.ex; exact hb.cell 1); clear hown hg))
      go_end0
      have e : bytesF d l = { d with out := d.out ++ l } := by unfold bytesF; rw [if_neg (by omega), if_neg (by have := HN.out; omega)]
      rw [e]
      exact ⟨rfl, HG3.out.done, HB3.out.setP HG3.out.blkP hPB _⟩
  · have hbd : (decide (d.e ≠ 0)) = true := by simp [he]
    rw [hbd] at HBAD
    go_enter Tryz.func15, Tryz.ntmps15
    go_wp2_with (first
      | (go_at_call 13; refine HBAD.out.mono ?_; rintro e w1 ⟨rfl, rfl⟩))
    go_end0
    have e : bytesF d l = d := by unfold bytesF; rw [if_pos he]
    rw [e]
    exact ⟨rfl, HS.out, Frm.refl _ _⟩
end Go.Proofs.YtifgikjmfmkgeaaGreat
namespace Go.Proofs.YtifgikjmfmkgeaaGreat
set_option linter.unusedSimpArgs false
set_option linter.unusedVariables false
open Go.RowKit Go.Maps
def markF (d : AsmD) (s : ByteArray) : AsmD := if d.e ≠ 0 then d else match d.mks s.data.toList with
  | some _ => { d with e := 4 }
  | none => { d with mks := fun t => if t = s.data.toList then some d.here else d.mks t }
theorem AsmOk.markF {d : AsmD} {T : Nat} (h : AsmOk d T) (s : ByteArray) : AsmOk (markF d s) T := by
  unfold Go.Proofs.YtifgikjmfmkgeaaGreat.markF
  split
  · exact h
  · split
    · exact ⟨h.org0, h.org1, h.top, h.byte, h.told⟩
    · exact ⟨h.org0, h.org1, h.top, h.byte, h.told⟩
set_option maxRecDepth 100000 in
set_option maxHeartbeats 4000000 in
theorem asm_mark (B P M nm T : Nat) (d : AsmD) (s : ByteArray) (w : World) (h : AsmS B P M nm w d) (ok : AsmOk d T) (hs : s.size ≤ maxLen) (hnm : nm ≤ 1000) :
    Calls Tryz.prog 11 #[.pointer (some ⟨P, 0, none⟩), .string s] w (AsmR B P M (nm + 1) (markF d s) w) := by
  obtain ⟨vo, vt, h1, h2, h3⟩ := h.ex
  obtain ⟨D, h4, h5⟩ := h.map
  obtain ⟨Ao, co, rfl, hAo, hco⟩ := own_formA h2
  have c2 : w.cell? ⟨P, 2, none⟩ = some (.map (some M)) := h1.cell 2
  have c4 : w.cell? ⟨P, 4, none⟩ = some (.int .i64 d.e) := h1.cell 4
  have f4 := h1.frozen 4
  have hPB := h.leP
  have hMB := h.leM
  have hlt := h.lt
  have o0 := ok.org0
  have o1 := ok.top
  have hh := (h5.2 s.data.toList).1
  have HS := Lib.hid h; have H1 := Lib.hid h1; have H4 := Lib.hid h4; have H5 := Lib.hid h5
  have HK := Lib.hid (keyOf_s s hs)
  have HBAD := Lib.hid (asm_bad P d.org d.e _ _ _ w h1)
  have HHERE := Lib.hid (fun u (hb : Below w.heap.size w u) => asm_here P d.org d.e Ao d.out.length co _ _ u (h1.below_ hb) o0 o1)
  clear h h1 h2 h3 h4 h5 hAo
  by_cases he : d.e = 0
  · have hbd : (decide (d.e ≠ 0)) = false := by simp [he]
    rw [hbd] at HBAD
    go_enter Tryz.func11, Tryz.ntmps11
    cases hm : d.mks s.data.toList with
    | some y =>
      rw [hm] at hh
      have HH : Hid (Maps.has D (.string s.data.toList) = true) := Lib.hid hh
      clear hh
      go_wp2_with (first
        | (go_at_call 13; refine HBAD.out.mono ?_; rintro e w1 ⟨rfl, rfl⟩)
        | (at_lookup; refine wpList_lookup_own_ok_int _ rfl (.tmp 12) (.tmp 13) 50 rfl 9 3 .i64 keyLaw Tryz.underlying50 Tryz.underlying3 (zeroInt _) M nm D rfl H4.out _ _ rfl HK.out ?_; intro c hat hwc; rw [HH.out]; clear hat hwc))
      go_end0
      have e : markF d s = { d with e := 4 } := by unfold markF; rw [if_neg (by omega), hm]
      rw [e]
      exact ⟨rfl, (HS.out.setE 4).mono (Nat.le_succ _), (Frm.refl _ _).setP HS.out.blkP hPB _⟩
    | none =>
      rw [hm] at hh
      have HH : Hid (Maps.has D (.string s.data.toList) = false) := Lib.hid hh
      clear hh
      go_upto_region 4 with (first
        | (go_at_call 13; refine HBAD.out.mono ?_; rintro e w1 ⟨rfl, rfl⟩)
        | (at_lookup; refine wpList_lookup_own_ok_int _ rfl (.tmp 12) (.tmp 13) 50 rfl 9 3 .i64 keyLaw Tryz.underlying50 Tryz.underlying3 (zeroInt _) M nm D rfl H4.out _ _ rfl HK.out ?_; intro c hat hwc; rw [HH.out]; clear hat hwc))
      refine until_start 7 (fun u : World => u.cell? ⟨P, 2, none⟩ = some (.map (some M))) (by kernel_rfl) ?_
      have hS : Hid ((fun u : World => u.cell? ⟨P, 2, none⟩ = some (.map (some M))) w.drew) := c2
      refine until_take (i := 0) (v := ?_) rfl (by kernel_rfl) (by kernel_rfl) (by kernel_rfl) rfl (fun _ _ _ h => h) (fun _ => hS.out) (Or.inl ⟨by rfl, ?_⟩) ?_
      rotate_left
      · (intro u _; go_simp; try with_reducible rfl)
      try simp only [Act.put, List.setIfInBounds_toArray, List.set_cons_zero, List.set_cons_succ]
      refine until_take (i := 1) (v := ?_) rfl (by kernel_rfl) (by kernel_rfl) (by kernel_rfl) rfl (fun _ _ _ h => h) (fun _ => hS.out) (Or.inl ⟨by rfl, ?_⟩) ?_
      rotate_left
      · (intro u _; go_simp; try with_reducible rfl)
      try simp only [Act.put, List.setIfInBounds_toArray, List.set_cons_zero, List.set_cons_succ]
      refine until_take (i := 2) (v := ?_) rfl (by kernel_rfl) (by kernel_rfl) (by kernel_rfl) rfl (fun _ _ _ h => h) (fun _ => hS.out) (Or.inl ⟨by rfl, ?_⟩) ?_
      rotate_left
      · (intro u _; go_simp; try with_reducible rfl)
      try simp only [Act.put, List.setIfInBounds_toArray, List.set_cons_zero, List.set_cons_succ]
      refine until_take (i := 4) (v := ?_) rfl (by kernel_rfl) (by kernel_rfl) (by kernel_rfl) rfl (fun _ _ _ h => h) (fun _ => hS.out) (Or.inl ⟨by rfl, ?_⟩) ?_
      rotate_left
      · (intro u _; go_simp; try with_reducible rfl)
      try simp only [Act.put, List.setIfInBounds_toArray, List.set_cons_zero, List.set_cons_succ]
      refine until_take (i := 5) (v := ?_) rfl (by kernel_rfl) (by kernel_rfl) (by kernel_rfl) rfl (fun _ _ _ h => h) (fun _ => hS.out) (Or.inl ⟨by rfl, ?_⟩) ?_
      rotate_left
      · (intro u _; go_simp; try with_reducible rfl)
      try simp only [Act.put, List.setIfInBounds_toArray, List.set_cons_zero, List.set_cons_succ]
      refine until_load (i := 3) (v := ?_) [7] rfl (by kernel_rfl) (by kernel_rfl) (by kernel_rfl) (by kernel_rfl) (fun _ _ _ h => h) hS.out (Or.inl ⟨by rfl, ?_⟩) ?_
      rotate_left
      · (rintro u s1; go_simp; try with_reducible rfl)
      try simp only [Act.put, List.setIfInBounds_toArray, List.set_cons_zero, List.set_cons_succ]
      refine until_ready (rs := [6]) (by kernel_rfl) (by simp) ?_
      refine AllUntil.cons rfl (fun K hK => ?_) AllUntil.nil
      go_simp
      refine (HHERE.out w.drew (Below.refl _ w).drew).mono ?_
      rintro e w2 ⟨rfl, hb2⟩
      have hb2' : Below w.heap.size w w2 := ((Below.refl _ w).drew).trans hb2
      refine hK.out _ _ (fun _ => cell_below hb2' c2) ?_
      have HB2 := Lib.hid (HS.out.toB hb2')
      have HS2 := Lib.hid (HS.out.below_ hb2')
      have H42 := Lib.hid (H4.out.kept (grownBy_below (r := none) hb2') (by simp))
      clear hK K hb2 hb2'
      try simp only [Act.put, List.setIfInBounds_toArray, List.set_cons_zero, List.set_cons_succ]
      refine until_ready (rs := [7]) (by kernel_rfl) (by simp) ?_
      refine AllUntil.cons rfl (fun K hK => ?_) AllUntil.nil
      obtain ⟨w3, hrun, hown3, hg3⟩ := H42.out.update keyLaw Tryz.underlying50 (by unfold maxLen; omega) HK.out (plainElem_int Tryz.underlying3 (a := d.org + d.out.length) (by simp [Lit.wf, IntKind.min, IntKind.max, IntKind.bits, IntKind.signed]; omega))
      go_simp
      refine hK.out _ _ (fun h => by simp at h) ?_
      clear hK K
      try simp only [Act.put, List.setIfInBounds_toArray, List.set_cons_zero, List.set_cons_succ]
      refine until_done (by kernel_rfl) ?_ _
      go_wp2_with fail
      go_end0
      have e : markF d s = { d with mks := fun t => if t = s.data.toList then some d.here else d.mks t } := by unfold markF; rw [if_neg (by omega), hm]
      rw [e]
      exact ⟨rfl, HS2.out.setM H42.out hown3 (H5.out.put _ _) hg3, HB2.out.map_ H42.out hg3 hMB (by have := HB2.out.size; omega)⟩
  · have hbd : (decide (d.e ≠ 0)) = true := by simp [he]
    rw [hbd] at HBAD
    go_enter Tryz.func11, Tryz.ntmps11
    go_wp2_with (first
      | (go_at_call 13; refine HBAD.out.mono ?_; rintro e w1 ⟨rfl, rfl⟩))
    go_end0
    have e : markF d s = d := by unfold markF; rw [if_pos he]
    rw [e]
    exact ⟨rfl, HS.out.mono (Nat.le_succ _), Frm.refl _ _⟩
end Go.Proofs.YtifgikjmfmkgeaaGreat
namespace Go.Proofs.YtifgikjmfmkgeaaGreat
set_option linter.unusedSimpArgs false
set_option linter.unusedVariables false
open Go.RowKit Go.Maps
theorem own_cells {w : World} {base : Nat} {e : TypeId} {A : Option Addr} {n c : Nat} {xs : List Value} (h : w.ownsRow base e 1 (.slice A n c) n xs) : Cells w A xs := fun i v hi => by
  rcases h.2 with ⟨e1, e2⟩ | ⟨g, cap, cur, e1, _⟩
  · have := h.1
    rw [e2] at this
    simp at this
    subst this
    simp at hi
  · injection e1 with e1 _ _
    subst e1
    exact ⟨_, rfl, h.cells (g := g) rfl i v hi⟩
theorem nil_eq (u : World) : (binOp .eql 29 (.slice none 0 0) (.slice none 0 0)).run Tryz.prog u = .ok (.bool true) u := by kernel_rfl
theorem some_ne (ad : Addr) (n c : Nat) (u : World) : (binOp .eql 29 (.slice (some ad) n c) (.slice none 0 0)).run Tryz.prog u = .ok (.bool false) u := by kernel_rfl
set_option maxRecDepth 100000 in
set_option maxHeartbeats 2000000 in
theorem clone_any (A : Option Addr) (n c : Nat) (l : List Int) (w : World) (hl : Ints w A .u8 l) (hn : l.length = n) (hm : n ≤ 1000000000) (hnil : A = none → n = 0 ∧ c = 0) :
    Calls Tryz.prog 17 #[.slice A n c] w fun e w' => ∃ v, e = .returned v ∧ w'.ownsRow w.heap.size 5 1 v n (l.map (.int .u8 ·)) ∧ Below w.heap.size w w' := by
  have HL := Lib.hid hl; have HN := Lib.hid hn
  clear hl hn
  cases A with
  | none =>
    obtain ⟨rfl, rfl⟩ := hnil rfl
    have hne := nil_eq
    go_enter Tryz.func17, Tryz.ntmps17
    go_wp2_with fail
    go_ret
    have e : l = [] := List.length_eq_zero_iff.1 HN.out
    rw [e]
    exact ⟨_, rfl, World.ownsRow_nil _ _ _ _, Below.refl _ _⟩
  | some ad =>
    clear hnil
    have hne := some_ne ad n c
    have HOW : Hid ((w.alloc (.cells #[] 5)).ownsRow w.heap.size 5 1 (.slice (some ⟨w.heap.size, 0, none⟩) 0 0) 0 []) := Lib.hid (own_of_blk (Blk.new w 5 []) (Nat.le_refl _) rfl (by decide))
    go_enter Tryz.func17, Tryz.ntmps17
    go_wp2_with (first
      | (at_builtin; refine wpList_appAny _ rfl (.tmp 5) (.tmp 6) 29 rfl w.heap.size 5 (.int .u8 0) 1 Tryz.underlying29 infoU8 (by decide) _ 0 [] rfl HOW.out (some ad) n c (l.map (.int .u8 ·)) rfl (by rw [List.length_map]; exact HN.out) (HL.out.below (below_alloc1 _ _)) (fun e => by cases e) (by intro u hu; obtain ⟨x, _, rfl⟩ := List.mem_map.1 hu; rfl) (by unfold maxLen; omega) (by omega) (by simp) ?_; intro v3 w3 hown hg; have HB3 := Lib.hid (Below_own (below_alloc1 w (.cells #[] 5)) HOW.out hg (Nat.le_refl _) (by simp)); have HO3 := Lib.hid hown; clear hown hg))
    go_ret
    exact ⟨v3, rfl, by simpa using HO3.out, HB3.out⟩
theorem mk_two8 (u : World) : (Instr.makeSlice 29 (.int .i64 2) (.int .i64 2)).run Tryz.prog u = .ok (.slice (some ⟨u.heap.size, 0, none⟩) 2 2) (u.alloc (.cells #[.int .u8 0, .int .u8 0] 5)) := by
  obtain ⟨i0, hi, hz0, hz1, hz2⟩ := info_parts infoU8
  have h := run_make (P := Tryz.prog) u 29 5 i0 (.int .u8 0) Tryz.underlying29 hi hz0 .i64 .i64 2 2 (by omega) (by omega) (by rw [hz2]; omega) (by omega)
  have e : madeCells #[Value.int .u8 0] 2 = #[.int .u8 0, .int .u8 0] := by kernel_rfl
  rw [hz1] at h
  simpa [e, show (Value.int .u8 0).cells = #[Value.int .u8 0] from rfl] using h
def fillF (d : AsmD) (s : ByteArray) (near : Bool) (code : List Int) : AsmD := if d.e ≠ 0 then d else
  let d1 := bytesF d (code ++ if near then [0] else [0, 0])
  { d1 with td := d1.td ++ [(s, ((d.out.length + code.length : Nat) : Int), near)] }
theorem bytesF_td (d : AsmD) (l : List Int) : (bytesF d l).td = d.td := by
  unfold bytesF
  split
  · rfl
  · split <;> rfl
theorem AsmOk.fillF {d : AsmD} {T : Nat} (h : AsmOk d T) (s : ByteArray) (near : Bool) {code : List Int} (hl : ∀ x ∈ code, 0 ≤ x ∧ x ≤ 255) : AsmOk (fillF d s near code) (T + 1) := by
  unfold Go.Proofs.YtifgikjmfmkgeaaGreat.fillF
  split
  · exact ⟨h.org0, h.org1, h.top, h.byte, Nat.le_succ_of_le h.told⟩
  · have hk := h.bytesF (l := code ++ if near then [0] else [0, 0]) (fun x hx => by
      rcases List.mem_append.1 hx with hx | hx
      · exact hl x hx
      · cases near <;> simp at hx <;> omega)
    exact ⟨hk.org0, hk.org1, hk.top, hk.byte, by simp; exact hk.told⟩
set_option maxRecDepth 100000 in
set_option maxHeartbeats 8000000 in
theorem asm_fill (B P M nm T : Nat) (d : AsmD) (s : ByteArray) (near : Bool) (A : Option Addr) (n c : Nat) (l : List Int) (w : World) (h : AsmS B P M nm w d) (ok : AsmOk d T) (hT : T ≤ 1000) (hl : Ints w A .u8 l) (hn : l.length = n) (hm : n ≤ 100000000) (hnil : A = none → n = 0 ∧ c = 0) :
    Calls Tryz.prog 21 #[.pointer (some ⟨P, 0, none⟩), .string s, .bool near, .slice A n c] w (AsmR B P M nm (fillF d s near l) w) := by
  obtain ⟨vo, vt, h1, h2, h3⟩ := h.ex
  obtain ⟨Ao, co, rfl, hAo, hco⟩ := own_formA h2
  have c1 : w.cell? ⟨P, 1, none⟩ = some (.slice Ao d.out.length co) := h1.cell 1
  have hPB := h.leP
  have hlt := h.lt
  have o0 := ok.org0
  have o1 := ok.top
  have olen := ok.len
  have HS := Lib.hid h; have HL := Lib.hid hl; have HN := Lib.hid hn; have H1 := Lib.hid h1; have HT := Lib.hid hT; have HOK := Lib.hid ok
  have HBAD := Lib.hid (asm_bad P d.org d.e _ _ _ w h1)
  have HNIL := Lib.hid hnil
  clear h hl hn h1 h2 h3 hAo hnil ok
  by_cases he : d.e = 0
  · have hbd : (decide (d.e ≠ 0)) = false := by simp [he]
    rw [hbd] at HBAD
    have e1 : IntKind.i64.wrap ((d.out.length : Int) + n) = (d.out.length : Int) + n := by rw [IntKind.wrap_i64]; omega
    have HCL : Hid (∀ u, Below w.heap.size w u → Calls Tryz.prog 17 #[.slice A n c] u fun e w' => ∃ v, e = .returned v ∧ w'.ownsRow u.heap.size 5 1 v n (l.map (.int .u8 ·)) ∧ Below u.heap.size u w') := Lib.hid (fun u hb => clone_any A n c l u (HL.out.below hb) HN.out (by omega) HNIL.out)
    have hmk := mk_two8
    cases near with
    | false =>
      go_enter Tryz.func21, Tryz.ntmps21
      have B2 := Lib.hid (Blk.new w 5 [.int .u8 0, .int .u8 0])
      go_wp2_with (first
        | (go_at_call 13; refine HBAD.out.mono ?_; rintro e w1 ⟨rfl, rfl⟩)
        | (go_at_call 17; refine (HCL.out _ (below_alloc1 w _)).mono ?_; rintro e w2 ⟨v, rfl, ho, hb⟩; obtain ⟨A2, c2, rfl, hA2, -⟩ := own_formA ho; have HO := Lib.hid ho; have HB2 : Hid (Below w.heap.size w w2) := Lib.hid ((below_alloc1 w _).trans (hb.mono (by simp))); have HR : Hid (Cells w2 (some ⟨w.heap.size, 0, none⟩) [.int .u8 0, .int .u8 0]) := Lib.hid (fun i v hi => ⟨_, rfl, by rw [Addr.add_mid, Nat.zero_add, (B2.out.below_ hb).cell i]; exact hi⟩); have hw2 := hb.size; clear ho hb hA2)
        | (at_builtin; refine wpList_appAny _ rfl (.tmp 26) (.tmp 27) 29 rfl _ 5 (.int .u8 0) 1 Tryz.underlying29 infoU8 (by decide) _ n _ rfl HO.out (some ⟨w.heap.size, 0, none⟩) 2 2 [.int .u8 0, .int .u8 0] rfl rfl HR.out (fun e => by cases e) (by intro u hu; simp at hu; rcases hu with rfl | rfl <;> rfl) (by unfold maxLen; omega) (by omega) hw2 ?_; intro v3 w3 hown hg; obtain ⟨A3, c3, rfl, hA3, -⟩ := own_formA hown; have HB3 := Lib.hid (Below_own HB2.out HO.out hg (by simp) hw2); have HI3 : Hid (Ints w3 A3 .u8 (l ++ [0, 0])) := Lib.hid (by have := own_cells hown; unfold Ints; rw [List.map_append]; exact this); have HA3 := Lib.hid hA3; clear hown hg hA3)
        | (go_at_call 15; refine (asm_bytes B P M nm T d A3 (n + 2) c3 (l ++ [0, 0]) w3 (HS.out.below_ HB3.out) HOK.out HI3.out (by rw [List.length_append, HN.out]; rfl) (by omega) HA3.out).mono ?_; rintro e w4 ⟨rfl, h4, hb4⟩; obtain ⟨vo4, vt4, k1, k2, k3⟩ := h4.ex; obtain ⟨At, ct, rfl, -, -⟩ := own_formA k3; have H4 := Lib.hid h4; have K1 := Lib.hid k1; have K2 := Lib.hid k2; have K3 := Lib.hid k3; have c43 : w4.cell? ⟨P, 3, none⟩ = some (.slice At (bytesF d (l ++ [0, 0])).td.length ct) := k1.cell 3; have HB4 := Lib.hid ((HS.out.toB HB3.out).trans hb4); have hlt4 := h4.lt; have htd : (bytesF d (l ++ [0, 0])).td.length ≤ T := (by rw [bytesF_td]; exact HOK.out.told); have hT2 := HT.out; clear h4 hb4 k1 k2 k3)
        | (at_builtin; refine wpList_appL _ rfl (.tmp 34) (.tmp 39) 51 rfl B 57 _ 3 32 Tryz.underlying51 infoTold rfl (by decide) _ (bytesF d (l ++ [0, 0])).td.length _ rfl K3.out #[.string s, .int .i64 ((d.out.length : Int) + n), .bool false] 1 rfl rfl (by simp [Value.oneCell']) (by decide) (by omega) (by decide) (by omega) ?_; intro g5 c5 w5 hown5 hg5 _; have HT5 := Lib.hid (H4.out.growT (x := (s, (d.out.length : Int) + n, false)) K1.out K2.out K3.out rfl hown5 hg5); have HB5 := Lib.hid (HB4.out.own K3.out (.inr rfl) hg5 (by omega)); have f53 : w5.frozen? ⟨P, 3, none⟩ = false := (by obtain ⟨vo, hb, _⟩ := HT5.out.ex; exact hb.frozen 3); have c53 : w5.cell? ⟨P, 3, none⟩ = some (.slice At (bytesF d (l ++ [0, 0])).td.length ct) := (by obtain ⟨vo, hb, _⟩ := HT5.out.ex; exact hb.cell 3); clear hown5 hg5))
      go_end0
      have e : fillF d s false l = { bytesF d (l ++ [0, 0]) with td := (bytesF d (l ++ [0, 0])).td ++ [(s, (d.out.length : Int) + n, false)] } := by
        unfold fillF
        rw [if_neg (by omega), HN.out]
        simp
      rw [e]
      exact ⟨rfl, HT5.out.done, HB5.out.setP HT5.out.blkP hPB _⟩
    | true =>
      go_enter Tryz.func21, Tryz.ntmps21
      have B2 := Lib.hid (Blk.new w 5 [.int .u8 0, .int .u8 0])
      go_wp2_with (first
        | (go_at_call 13; refine HBAD.out.mono ?_; rintro e w1 ⟨rfl, rfl⟩)
        | (go_at_call 17; refine (HCL.out _ (below_alloc1 w _)).mono ?_; rintro e w2 ⟨v, rfl, ho, hb⟩; obtain ⟨A2, c2, rfl, hA2, -⟩ := own_formA ho; have HO := Lib.hid ho; have HB2 : Hid (Below w.heap.size w w2) := Lib.hid ((below_alloc1 w _).trans (hb.mono (by simp))); have HR : Hid (Cells w2 (some ⟨w.heap.size, 0, none⟩) [.int .u8 0]) := Lib.hid (fun i v hi => ⟨_, rfl, by rw [Addr.add_mid, Nat.zero_add, (B2.out.below_ hb).cell i]; exact (by cases i with | zero => simpa using hi | succ i => cases i with | zero => simp at hi | succ i => simp at hi)⟩); have hw2 := hb.size; clear ho hb hA2)
        | (at_builtin; refine wpList_appAny _ rfl (.tmp 26) (.tmp 27) 29 rfl _ 5 (.int .u8 0) 1 Tryz.underlying29 infoU8 (by decide) _ n _ rfl HO.out (some ⟨w.heap.size, 0, none⟩) 1 2 [.int .u8 0] rfl rfl HR.out (fun e => by cases e) (by intro u hu; simp at hu; rcases hu with rfl | rfl <;> rfl) (by unfold maxLen; omega) (by omega) hw2 ?_; intro v3 w3 hown hg; obtain ⟨A3, c3, rfl, hA3, -⟩ := own_formA hown; have HB3 := Lib.hid (Below_own HB2.out HO.out hg (by simp) hw2); have HI3 : Hid (Ints w3 A3 .u8 (l ++ [0])) := Lib.hid (by have := own_cells hown; unfold Ints; rw [List.map_append]; exact this); have HA3 := Lib.hid hA3; clear hown hg hA3)
        | (go_at_call 15; refine (asm_bytes B P M nm T d A3 (n + 1) c3 (l ++ [0]) w3 (HS.out.below_ HB3.out) HOK.out HI3.out (by rw [List.length_append, HN.out]; rfl) (by omega) HA3.out).mono ?_; rintro e w4 ⟨rfl, h4, hb4⟩; obtain ⟨vo4, vt4, k1, k2, k3⟩ := h4.ex; obtain ⟨At, ct, rfl, -, -⟩ := own_formA k3; have H4 := Lib.hid h4; have K1 := Lib.hid k1; have K2 := Lib.hid k2; have K3 := Lib.hid k3; have c43 : w4.cell? ⟨P, 3, none⟩ = some (.slice At (bytesF d (l ++ [0])).td.length ct) := k1.cell 3; have HB4 := Lib.hid ((HS.out.toB HB3.out).trans hb4); have hlt4 := h4.lt; have htd : (bytesF d (l ++ [0])).td.length ≤ T := (by rw [bytesF_td]; exact HOK.out.told); have hT2 := HT.out; clear h4 hb4 k1 k2 k3)
        | (at_builtin; refine wpList_appL _ rfl (.tmp 34) (.tmp 39) 51 rfl B 57 _ 3 32 Tryz.underlying51 infoTold rfl (by decide) _ (bytesF d (l ++ [0])).td.length _ rfl K3.out #[.string s, .int .i64 ((d.out.length : Int) + n), .bool true] 1 rfl rfl (by simp [Value.oneCell']) (by decide) (by omega) (by decide) (by omega) ?_; intro g5 c5 w5 hown5 hg5 _; have HT5 := Lib.hid (H4.out.growT (x := (s, (d.out.length : Int) + n, true)) K1.out K2.out K3.out rfl hown5 hg5); have HB5 := Lib.hid (HB4.out.own K3.out (.inr rfl) hg5 (by omega)); have f53 : w5.frozen? ⟨P, 3, none⟩ = false := (by obtain ⟨vo, hb, _⟩ := HT5.out.ex; exact hb.frozen 3); have c53 : w5.cell? ⟨P, 3, none⟩ = some (.slice At (bytesF d (l ++ [0])).td.length ct) := (by obtain ⟨vo, hb, _⟩ := HT5.out.ex; exact hb.cell 3); clear hown5 hg5))
      go_end0
      have e : fillF d s true l = { bytesF d (l ++ [0]) with td := (bytesF d (l ++ [0])).td ++ [(s, (d.out.length : Int) + n, true)] } := by
        unfold fillF
        rw [if_neg (by omega), HN.out]
        simp
      rw [e]
      exact ⟨rfl, HT5.out.done, HB5.out.setP HT5.out.blkP hPB _⟩
  · have hbd : (decide (d.e ≠ 0)) = true := by simp [he]
    rw [hbd] at HBAD
    go_enter Tryz.func21, Tryz.ntmps21
    go_wp2_with (first
      | (go_at_call 13; refine HBAD.out.mono ?_; rintro e w1 ⟨rfl, rfl⟩))
    go_end0
    have e : fillF d s near l = d := by unfold fillF; rw [if_pos he]
    rw [e]
    exact ⟨rfl, HS.out, Frm.refl _ _⟩
end Go.Proofs.YtifgikjmfmkgeaaGreat
namespace Go.Proofs.YtifgikjmfmkgeaaGreat
set_option linter.unusedSimpArgs false
set_option linter.unusedVariables false
open Go.RowKit Go.Maps
theorem ints_of_blk {w : World} {g : Nat} {l : List Int} (h : Blk w g 5 (l.map (.int .u8 ·))) : Ints w (some ⟨g, 0, none⟩) .u8 l := fun i v hi =>
  ⟨_, rfl, by rw [Addr.add_mid, Nat.zero_add, h.cell i]; exact hi⟩
theorem asm_bytes_new (B P M nm T : Nat) (d : AsmD) (n : Nat) (l : List Int) (w : World) (h : AsmS B P M nm w d) (ok : AsmOk d T) (hn : l.length = n) (hm : n ≤ 1000000000) :
    Calls Tryz.prog 15 #[.pointer (some ⟨P, 0, none⟩), .slice (some ⟨w.heap.size, 0, none⟩) n n] (w.alloc (.cells (l.map (.int .u8 ·)).toArray 5)) (AsmR B P M nm (bytesF d l) w) := by
  have hb := below_alloc1 w (.cells (l.map (Value.int .u8 ·)).toArray 5)
  refine (asm_bytes B P M nm T d _ n n l _ (h.below_ hb) ok (ints_of_blk (Blk.new w 5 (l.map (.int .u8 ·)))) hn hm (fun e => by cases e)).mono ?_
  rintro e w' ⟨rfl, h1, h2⟩
  exact ⟨rfl, h1, (h.toB hb).trans h2⟩
theorem asm_near (B P M nm T : Nat) (d : AsmD) (s : ByteArray) (x : Int) (w : World) (h : AsmS B P M nm w d) (ok : AsmOk d T) (hT : T ≤ 1000) :
    Calls Tryz.prog 12 #[.pointer (some ⟨P, 0, none⟩), .string s, .int .u8 x] w (AsmR B P M nm (fillF d s true [x]) w) := by
  have hb := below_alloc1 w (.cells #[.int .u8 x] 5)
  have H := Lib.hid (asm_fill B P M nm T d s true _ 1 1 [x] _ (h.below_ hb) ok hT (ints_of_blk (Blk.new w 5 [.int .u8 x])) rfl (by omega) (fun e => by cases e))
  have HB := Lib.hid (h.toB hb)
  clear h ok hb
  go_enter Tryz.func12, Tryz.ntmps12
  go_wp2_with (first
    | (go_at_call 21; refine H.out.mono ?_; rintro e w1 ⟨rfl, h1, h2⟩))
  go_end0
  exact ⟨rfl, h1, HB.out.trans h2⟩
def mayB (n : Int) : Bool := decide (n = 0 ∨ n = 4 ∨ n = 7 ∨ n = 8 ∨ n = 10 ∨ n = 11 ∨ n = 12 ∨ (14 ≤ n ∧ n ≤ 1000000))
set_option maxHeartbeats 1000000 in
theorem asm_may (n : Int) (w : World) : Calls Tryz.prog 14 #[.int .i64 n] w fun e w' => e = .returned (.bool (mayB n)) ∧ w = w' := by
  go_enter Tryz.func14, Tryz.ntmps14
  by_cases h : n = 0 ∨ n = 4 ∨ n = 7 ∨ n = 8 ∨ n = 10 ∨ n = 11 ∨ n = 12
  · have hm : mayB n = true := by unfold mayB; simp; omega
    rw [hm]
    rcases h with rfl | rfl | rfl | rfl | rfl | rfl | rfl
    all_goals
      go_wp2_with fail
      go_ret
      exact ⟨rfl, rfl⟩
  · have h0 : ¬ n = 0 := by omega
    have h1 : ¬ n = 4 := by omega
    have h2 : ¬ n = 7 := by omega
    have h3 : ¬ n = 8 := by omega
    have h4 : ¬ n = 10 := by omega
    have h5 : ¬ n = 11 := by omega
    have h6 : ¬ n = 12 := by omega
    by_cases h7 : 14 ≤ n
    · by_cases h8 : n ≤ 1000000
      · have hm : mayB n = true := by unfold mayB; simp; omega
        rw [hm]
        go_wp2_with fail
        go_ret
        exact ⟨rfl, rfl⟩
      · have hm : mayB n = false := by unfold mayB; simp; omega
        rw [hm]
        go_wp2_with fail
        go_ret
        exact ⟨rfl, rfl⟩
    · have hm : mayB n = false := by unfold mayB; simp; omega
      rw [hm]
      go_wp2_with fail
      go_ret
      exact ⟨rfl, rfl⟩
def nextL (x : Int) : List Int := [195, (x + 3) % 256, (x + 3) / 256 % 256]
def nextF (d : AsmD) : AsmD := bytesF d (nextL d.here)
theorem AsmOk.nextF {d : AsmD} {T : Nat} (h : AsmOk d T) : AsmOk (nextF d) T := by
  unfold Go.Proofs.YtifgikjmfmkgeaaGreat.nextF
  refine h.bytesF (fun x hx => ?_)
  unfold nextL at hx
  simp at hx
  omega
set_option maxHeartbeats 1000000 in
theorem asm_next (B P M nm T : Nat) (d : AsmD) (w : World) (h : AsmS B P M nm w d) (ok : AsmOk d T) :
    Calls Tryz.prog 16 #[.pointer (some ⟨P, 0, none⟩)] w (AsmR B P M nm (nextF d) w) := by
  obtain ⟨vo, vt, h1, h2, h3⟩ := h.ex
  obtain ⟨Ao, co, rfl, hAo, hco⟩ := own_formA h2
  have HHERE := Lib.hid (asm_here P d.org d.e Ao d.out.length co _ _ w h1 ok.org0 ok.top)
  have o0 := ok.org0
  have o1 := ok.top
  have HS := Lib.hid h
  have HOK := Lib.hid ok
  obtain ⟨x, hx⟩ : ∃ x, x = d.org + (d.out.length : Int) := ⟨_, rfl⟩
  have HX := Lib.hid hx
  rw [← hx] at HHERE o1
  have x0 : 0 ≤ x := by omega
  have e1 : IntKind.u8.wrap (x + 3) = (x + 3) % 256 := by rw [IntKind.wrap_u8]
  have e2 : IntKind.u8.wrap ((x + 3) / 256) = (x + 3) / 256 % 256 := by rw [IntKind.wrap_u8]
  clear h h1 h2 h3 hx ok
  go_enter Tryz.func16, Tryz.ntmps16
  go_wp2_with (first
    | (go_at_call 20; refine HHERE.out.mono ?_; rintro e w2 ⟨rfl, hb2⟩; have HB2 := Lib.hid hb2; have HS2 := Lib.hid (HS.out.below_ hb2); clear hb2)
    | (go_at_call 15; refine (asm_bytes_new B P M nm T d 3 (nextL x) w2 HS2.out HOK.out rfl (by omega)).mono ?_; rintro e w3 ⟨rfl, k1, k2⟩; have K1 := Lib.hid k1; have K2 := Lib.hid k2; clear k1 k2))
  go_end0
  have e : nextF d = bytesF d (nextL x) := by unfold nextF AsmD.here; rw [HX.out]
  rw [e]
  exact ⟨rfl, K1.out, (HS.out.toB HB2.out).trans K2.out⟩
end Go.Proofs.YtifgikjmfmkgeaaGreat
namespace Go.Proofs.YtifgikjmfmkgeaaGreat
set_option linter.unusedSimpArgs false
set_option linter.unusedVariables false
open Go.RowKit Go.Maps
def roundK (n : Int) : Int := min 255 ((n - 16) / 13)
def roundB (n : Int) : List Int := [6, roundK n, 16, 254]
/-- the rounds of waiting, and what is left -/
def rounds : Nat → Int → List (List Int) × Int
  | 0, n => ([], n)
  | f + 1, n => if n < 29 then ([], n) else
    let r := rounds f (n - (13 * roundK n + 2))
    (roundB n :: r.1, r.2)
theorem rounds_end {f : Nat} {n : Int} (h : n < 29) : rounds f n = ([], n) := by
  cases f with
  | zero => rfl
  | succ f => simp only [rounds]; rw [if_pos h]
theorem rounds_step {f : Nat} {n : Int} (h : ¬ n < 29) : rounds (f + 1) n = (roundB n :: (rounds f (n - (13 * roundK n + 2))).1, (rounds f (n - (13 * roundK n + 2))).2) := by
  simp only [rounds]; rw [if_neg h]
def zerosL (k : Int) : List Int := List.replicate k.toNat 0
def restF (d : AsmD) (m : Int) : AsmD :=
  if m % 4 = 1 then bytesF (bytesF (nextF d) [6, 0]) (zerosL ((m - 17) / 4))
  else if m % 4 = 2 then bytesF (nextF d) (zerosL ((m - 10) / 4))
  else if m % 4 = 3 then bytesF (bytesF d [6, 0]) (zerosL ((m - 7) / 4))
  else bytesF d (zerosL (m / 4))
def delayF (d : AsmD) (n : Int) : AsmD := if d.e ≠ 0 then d else if mayB n = false then { d with e := 5 } else
  restF ((rounds (n.toNat + 1) n).1.foldl bytesF d) (rounds (n.toNat + 1) n).2
/-- what may be left -/
def MayN (n : Int) : Prop := n = 0 ∨ n = 4 ∨ n = 7 ∨ n = 8 ∨ n = 10 ∨ n = 11 ∨ n = 12 ∨ (14 ≤ n ∧ n ≤ 1000000)
theorem mayN_of {n : Int} (h : mayB n = true) : MayN n := by unfold mayB at h; simpa [MayN] using h
theorem mk_zeros (n : Nat) (hn : n ≤ 1000) : ∃ Z : Array Value, Z = ((List.replicate n (0 : Int)).map (.int .u8 ·)).toArray ∧ ∀ u, (Instr.makeSlice 29 (.int .i64 n) (.int .i64 n)).run Tryz.prog u = .ok (.slice (some ⟨u.heap.size, 0, none⟩) n n) (u.alloc (.cells Z 5)) := by
  refine ⟨_, rfl, fun u => ?_⟩
  obtain ⟨i0, hi, hz0, hz1, hz2⟩ := info_parts infoU8
  have h := run_make (P := Tryz.prog) u 29 5 i0 (.int .u8 0) Tryz.underlying29 hi hz0 .i64 .i64 n n (by omega) (Int.le_refl _) (by rw [hz2]; omega) (by omega)
  rw [hz1] at h
  have e : madeCells #[Value.int .u8 0] n = ((List.replicate n (0 : Int)).map (.int .u8 ·)).toArray := by
    apply Array.ext
    · simp [madeCells]
    · intro k h1 h2
      simp [madeCells, Nat.mod_one]
  simpa [e, show (Value.int .u8 0).cells = #[Value.int .u8 0] from rfl] using h
theorem asm_bytes_zero (B P M nm T : Nat) (d : AsmD) (z : Nat) (Z : Array Value) (w : World) (h : AsmS B P M nm w d) (ok : AsmOk d T) (hZ : Z = ((List.replicate z (0 : Int)).map (.int .u8 ·)).toArray) (hm : z ≤ 1000000000) :
    Calls Tryz.prog 15 #[.pointer (some ⟨P, 0, none⟩), .slice (some ⟨w.heap.size, 0, none⟩) z z] (w.alloc (.cells Z 5)) (AsmR B P M nm (bytesF d (List.replicate z 0)) w) := by
  subst hZ
  exact asm_bytes_new B P M nm T d z (List.replicate z 0) w h ok (by simp) hm
set_option maxRecDepth 100000 in
set_option maxHeartbeats 8000000 in
theorem asm_delay (B P M nm T : Nat) (d : AsmD) (n : Int) (w : World) (h : AsmS B P M nm w d) (ok : AsmOk d T) (n0 : -9223372036854775808 ≤ n) (n1 : n ≤ 9223372036854775807) :
    Calls Tryz.prog 6 #[.pointer (some ⟨P, 0, none⟩), .int .i64 n] w (AsmR B P M nm (delayF d n) w) := by
  obtain ⟨vo, vt, h1, h2, h3⟩ := h.ex
  have c4 : w.cell? ⟨P, 4, none⟩ = some (.int .i64 d.e) := h1.cell 4
  have f4 := h1.frozen 4
  have hPB := h.leP
  have HBAD := Lib.hid (asm_bad P d.org d.e _ _ _ w h1)
  have HMAY := Lib.hid (asm_may n w)
  have HS := Lib.hid h
  have HOK := Lib.hid ok
  clear h h1 h2 h3 ok
  by_cases he : d.e = 0
  · have hbd : (decide (d.e ≠ 0)) = false := by simp [he]
    rw [hbd] at HBAD
    go_enter Tryz.func6, Tryz.ntmps6
    cases hmb : mayB n with
    | false =>
      rw [hmb] at HMAY
      go_wp2_with (first
        | (go_at_call 13; refine HBAD.out.mono ?_; rintro e w1 ⟨rfl, rfl⟩)
        | (go_at_call 14; refine HMAY.out.mono ?_; rintro e w1 ⟨rfl, rfl⟩))
      go_end0
      have e : delayF d n = { d with e := 5 } := by unfold delayF; rw [if_neg (by omega), if_pos hmb]
      rw [e]
      exact ⟨rfl, HS.out.setE 5, (Frm.refl _ _).setP HS.out.blkP hPB _⟩
    | true =>
      rw [hmb] at HMAY
      have HM0 := Lib.hid (mayN_of hmb)
      go_wp2_with (first
        | (go_at_call 13; refine HBAD.out.mono ?_; rintro e w1 ⟨rfl, rfl⟩)
        | (go_at_call 14; refine HMAY.out.mono ?_; rintro e w1 ⟨rfl, rfl⟩))
      go_loopw [1] (fun v u => ∃ (m : Int) (f : Nat) (d' : AsmD), v = .int .i64 m ∧ Hid (MayN m) ∧ m.toNat < f ∧ Hid (AsmS B P M nm u d') ∧ Hid (AsmOk d' T) ∧ Hid (Frm B w u) ∧ Hid ((rounds f m).1.foldl bytesF d' = (rounds (n.toNat + 1) n).1.foldl bytesF d ∧ (rounds f m).2 = (rounds (n.toNat + 1) n).2)) (fun v _ => (intOf v).toNat)
      case atStart => exact ⟨n, n.toNat + 1, d, rfl, HM0, by omega, HS, HOK, Lib.hid (Frm.refl _ _), Lib.hid ⟨rfl, rfl⟩⟩
      case round =>
        obtain ⟨m, f, d', rfl, HM, hf, HS', HOK', HB', HE⟩ := hrel
        have hmb2 : 0 ≤ m ∧ m ≤ 1000000 := by have := HM.out; unfold MayN at this; omega
        obtain ⟨m0, m1⟩ := hmb2
        have HBB := Lib.hid HB'.out
        clear HS c4 f4
        by_cases h29 : 29 ≤ m
        · obtain ⟨f', rfl⟩ : ∃ f', f = f' + 1 := ⟨f - 1, by omega⟩
          obtain ⟨q, hq⟩ : ∃ q, (m - 16) / 13 = q := ⟨_, rfl⟩
          have hq1 : 1 ≤ q ∧ 13 * q ≤ m - 16 := by omega
          obtain ⟨q0, q2⟩ := hq1
          have dq : Int.tdiv (m - 14 - 2) 13 = q := by rw [Int.tdiv_eq_ediv_of_nonneg (by omega), ← hq]; congr 1; omega
          by_cases hq5 : q < 255
          · have HQ : Hid (roundK m = q) := Lib.hid (by unfold roundK; rw [hq]; omega)
            have e8 : IntKind.u8.wrap q = q := by rw [IntKind.wrap_u8]; omega
            clear hq
            go_wp2_with (first
              | (go_at_call 15; refine (asm_bytes_new B P M nm T d' 4 [6, q, 16, 254] wr HS'.out HOK'.out rfl (by omega)).mono ?_; rintro e w3 ⟨rfl, k1, k2⟩; have K1 := Lib.hid k1; have K2 := Lib.hid k2; clear k1 k2))
            go_roundw
            case rel => exact ⟨m - (13 * q + 2), f', bytesF d' [6, q, 16, 254], by go_num, Lib.hid (by have := HM.out; unfold MayN; omega), by omega, K1.out, HOK'.out.bytesF (fun x hx => by simp at hx; omega), HB'.out.trans K2.out, Lib.hid (by
              have := HE.out
              rw [rounds_step (by omega), HQ.out] at this
              have hr : roundB m = [6, q, 16, 254] := by unfold roundB; rw [HQ.out]
              rw [hr] at this
              exact this)⟩
            case measure => simp [intOf]; omega
          · have HQ : Hid (roundK m = 255) := Lib.hid (by unfold roundK; rw [hq]; omega)
            clear hq
            go_wp2_with (first
              | (go_at_call 15; refine (asm_bytes_new B P M nm T d' 4 [6, 255, 16, 254] wr HS'.out HOK'.out rfl (by omega)).mono ?_; rintro e w3 ⟨rfl, k1, k2⟩; have K1 := Lib.hid k1; have K2 := Lib.hid k2; clear k1 k2))
            go_roundw
            case rel => exact ⟨m - (13 * 255 + 2), f', bytesF d' [6, 255, 16, 254], by go_num, Lib.hid (by have := HM.out; unfold MayN; omega), by omega, K1.out, HOK'.out.bytesF (fun x hx => by simp at hx; omega), HB'.out.trans K2.out, Lib.hid (by
              have := HE.out
              rw [rounds_step (by omega), HQ.out] at this
              have hr : roundB m = [6, 255, 16, 254] := by unfold roundB; rw [HQ.out]
              rw [hr] at this
              exact this)⟩
            case measure => simp [intOf]; omega
        · have HEE : Hid (d' = (rounds (n.toNat + 1) n).1.foldl bytesF d ∧ m = (rounds (n.toNat + 1) n).2) := Lib.hid (by
            have := HE.out
            rw [rounds_end (by omega)] at this
            exact this)
          have hm4 : m % 4 = 0 ∨ m % 4 = 1 ∨ m % 4 = 2 ∨ m % 4 = 3 := by omega
          rcases hm4 with hr | hr | hr | hr
          · have hge : 0 ≤ m ∧ m ≤ 28 := by have := HM.out; unfold MayN at this; omega
            obtain ⟨g0, g1⟩ := hge
            obtain ⟨z, hz⟩ : ∃ z : Nat, (z : Int) = (m) / 4 := ⟨((m) / 4).toNat, by omega⟩
            have hz7 : z ≤ 7 := by omega
            have rm : Int.tmod m 4 = 0 := by rw [Int.tmod_eq_emod_of_nonneg (by omega)]; exact hr
            have dz : Int.tdiv (m) 4 = z := by rw [Int.tdiv_eq_ediv_of_nonneg (by omega)]; exact hz.symm
            have HR : Hid (m % 4 = 0) := Lib.hid hr
            have HZ := Lib.hid hz
            obtain ⟨Z, hZZ, hmk⟩ := mk_zeros z (by omega)
            have HZZ := Lib.hid hZZ
            clear hr hz hZZ
            go_wp2_with (first
              | (go_at_call 15; refine (asm_bytes_zero B P M nm T (d') z Z wr HS'.out HOK'.out HZZ.out (by omega)).mono ?_; rintro e y1 ⟨rfl, k1, k2⟩; have S1 := Lib.hid k1; have D1 := Lib.hid (HB'.out.trans k2); clear k1 k2))
            go_end0
            have e : delayF d n = bytesF (d') (List.replicate z 0) := by
              unfold delayF
              rw [if_neg (by omega), if_neg (by rw [hmb]; decide), ← HEE.out.1, ← HEE.out.2]
              unfold restF
              rw [if_neg (by rw [HR.out]; decide), if_neg (by rw [HR.out]; decide), if_neg (by rw [HR.out]; decide)]
              unfold zerosL
              rw [← HZ.out]
              rfl
            rw [e]
            exact ⟨rfl, S1.out, D1.out⟩
          · have hge : 17 ≤ m ∧ m ≤ 28 := by have := HM.out; unfold MayN at this; omega
            obtain ⟨g0, g1⟩ := hge
            obtain ⟨z, hz⟩ : ∃ z : Nat, (z : Int) = (m - 17) / 4 := ⟨((m - 17) / 4).toNat, by omega⟩
            have hz7 : z ≤ 7 := by omega
            have rm : Int.tmod m 4 = 1 := by rw [Int.tmod_eq_emod_of_nonneg (by omega)]; exact hr
            have dz : Int.tdiv (m - 17) 4 = z := by rw [Int.tdiv_eq_ediv_of_nonneg (by omega)]; exact hz.symm
            have HR : Hid (m % 4 = 1) := Lib.hid hr
            have HZ := Lib.hid hz
            obtain ⟨Z, hZZ, hmk⟩ := mk_zeros z (by omega)
            have HZZ := Lib.hid hZZ
            clear hr hz hZZ
            go_upto_region 11 with (first
              | (go_at_call 16; refine (asm_next B P M nm T (d') wr HS'.out HOK'.out).mono ?_; rintro e y1 ⟨rfl, k1, k2⟩; have S1 := Lib.hid k1; have O1 : Hid (AsmOk (nextF (d')) T) := Lib.hid (HOK'.out.nextF); have D1 := Lib.hid (HB'.out.trans k2); clear k1 k2)
              | (go_at_call 15; refine (asm_bytes_new B P M nm T (nextF (d')) 2 [6, 0] y1 S1.out O1.out rfl (by omega)).mono ?_; rintro e y2 ⟨rfl, k1, k2⟩; have S2 := Lib.hid k1; have O2 : Hid (AsmOk (bytesF (nextF (d')) [6, 0]) T) := Lib.hid (O1.out.bytesF (fun x hx => by simp at hx; omega)); have D2 := Lib.hid (D1.out.trans k2); clear k1 k2))
            go_wp2_with (first
              | (go_at_call 15; refine (asm_bytes_zero B P M nm T (bytesF (nextF (d')) [6, 0]) z Z y2 S2.out O2.out HZZ.out (by omega)).mono ?_; rintro e y3 ⟨rfl, k1, k2⟩; have S3 := Lib.hid k1; have D3 := Lib.hid (D2.out.trans k2); clear k1 k2))
            go_end0
            have e : delayF d n = bytesF (bytesF (nextF (d')) [6, 0]) (List.replicate z 0) := by
              unfold delayF
              rw [if_neg (by omega), if_neg (by rw [hmb]; decide), ← HEE.out.1, ← HEE.out.2]
              unfold restF
              rw [if_pos HR.out]
              unfold zerosL
              rw [← HZ.out]
              rfl
            rw [e]
            exact ⟨rfl, S3.out, D3.out⟩
          · have hge : 10 ≤ m ∧ m ≤ 28 := by have := HM.out; unfold MayN at this; omega
            obtain ⟨g0, g1⟩ := hge
            obtain ⟨z, hz⟩ : ∃ z : Nat, (z : Int) = (m - 10) / 4 := ⟨((m - 10) / 4).toNat, by omega⟩
            have hz7 : z ≤ 7 := by omega
            have rm : Int.tmod m 4 = 2 := by rw [Int.tmod_eq_emod_of_nonneg (by omega)]; exact hr
            have dz : Int.tdiv (m - 10) 4 = z := by rw [Int.tdiv_eq_ediv_of_nonneg (by omega)]; exact hz.symm
            have HR : Hid (m % 4 = 2) := Lib.hid hr
            have HZ := Lib.hid hz
            obtain ⟨Z, hZZ, hmk⟩ := mk_zeros z (by omega)
            have HZZ := Lib.hid hZZ
            clear hr hz hZZ
            go_wp2_with (first
              | (go_at_call 16; refine (asm_next B P M nm T (d') wr HS'.out HOK'.out).mono ?_; rintro e y1 ⟨rfl, k1, k2⟩; have S1 := Lib.hid k1; have O1 : Hid (AsmOk (nextF (d')) T) := Lib.hid (HOK'.out.nextF); have D1 := Lib.hid (HB'.out.trans k2); clear k1 k2)
              | (go_at_call 15; refine (asm_bytes_zero B P M nm T (nextF (d')) z Z y1 S1.out O1.out HZZ.out (by omega)).mono ?_; rintro e y2 ⟨rfl, k1, k2⟩; have S2 := Lib.hid k1; have D2 := Lib.hid (D1.out.trans k2); clear k1 k2))
            go_end0
            have e : delayF d n = bytesF (nextF (d')) (List.replicate z 0) := by
              unfold delayF
              rw [if_neg (by omega), if_neg (by rw [hmb]; decide), ← HEE.out.1, ← HEE.out.2]
              unfold restF
              rw [if_neg (by rw [HR.out]; decide), if_pos HR.out]
              unfold zerosL
              rw [← HZ.out]
              rfl
            rw [e]
            exact ⟨rfl, S2.out, D2.out⟩
          · have hge : 7 ≤ m ∧ m ≤ 28 := by have := HM.out; unfold MayN at this; omega
            obtain ⟨g0, g1⟩ := hge
            obtain ⟨z, hz⟩ : ∃ z : Nat, (z : Int) = (m - 7) / 4 := ⟨((m - 7) / 4).toNat, by omega⟩
            have hz7 : z ≤ 7 := by omega
            have rm : Int.tmod m 4 = 3 := by rw [Int.tmod_eq_emod_of_nonneg (by omega)]; exact hr
            have dz : Int.tdiv (m - 7) 4 = z := by rw [Int.tdiv_eq_ediv_of_nonneg (by omega)]; exact hz.symm
            have HR : Hid (m % 4 = 3) := Lib.hid hr
            have HZ := Lib.hid hz
            obtain ⟨Z, hZZ, hmk⟩ := mk_zeros z (by omega)
            have HZZ := Lib.hid hZZ
            clear hr hz hZZ
            go_upto_region 17 with (first
              | (go_at_call 15; refine (asm_bytes_new B P M nm T (d') 2 [6, 0] wr HS'.out HOK'.out rfl (by omega)).mono ?_; rintro e y1 ⟨rfl, k1, k2⟩; have S1 := Lib.hid k1; have O1 : Hid (AsmOk (bytesF (d') [6, 0]) T) := Lib.hid (HOK'.out.bytesF (fun x hx => by simp at hx; omega)); have D1 := Lib.hid (HB'.out.trans k2); clear k1 k2))
            go_wp2_with (first
              | (go_at_call 15; refine (asm_bytes_zero B P M nm T (bytesF (d') [6, 0]) z Z y1 S1.out O1.out HZZ.out (by omega)).mono ?_; rintro e y2 ⟨rfl, k1, k2⟩; have S2 := Lib.hid k1; have D2 := Lib.hid (D1.out.trans k2); clear k1 k2))
            go_end0
            have e : delayF d n = bytesF (bytesF (d') [6, 0]) (List.replicate z 0) := by
              unfold delayF
              rw [if_neg (by omega), if_neg (by rw [hmb]; decide), ← HEE.out.1, ← HEE.out.2]
              unfold restF
              rw [if_neg (by rw [HR.out]; decide), if_neg (by rw [HR.out]; decide), if_pos HR.out]
              unfold zerosL
              rw [← HZ.out]
              rfl
            rw [e]
            exact ⟨rfl, S2.out, D2.out⟩
  · have hbd : (decide (d.e ≠ 0)) = true := by simp [he]
    rw [hbd] at HBAD
    go_enter Tryz.func6, Tryz.ntmps6
    go_wp2_with (first
      | (go_at_call 13; refine HBAD.out.mono ?_; rintro e w1 ⟨rfl, rfl⟩))
    go_end0
    have e : delayF d n = d := by unfold delayF; rw [if_pos he]
    rw [e]
    exact ⟨rfl, HS.out, Frm.refl _ _⟩
end Go.Proofs.YtifgikjmfmkgeaaGreat
namespace Go.Proofs.YtifgikjmfmkgeaaGreat
set_option linter.unusedSimpArgs false
set_option linter.unusedVariables false
open Go.RowKit Go.Maps Go.Sort
structure AsmTd (d : AsmD) : Prop where
  place : d.e = 0 → ∀ x ∈ d.td, 0 ≤ x.2.1 ∧ x.2.1 + (if x.2.2 then 1 else 2) ≤ d.out.length
  name : ∀ x ∈ d.td, x.1.size ≤ maxLen
  mark : ∀ s v, d.mks s = some v → 0 ≤ v ∧ v ≤ 65536
def doneL (d : AsmD) : List (ByteArray × Int × Bool) → List Int → Int × List Int
  | [], o => (0, o)
  | x :: t, o => match d.mks x.1.data.toList with
    | none => (10, [])
    | some to => if x.2.2 = true then
        if to - (d.org + x.2.1 + 1) < -128 ∨ 127 < to - (d.org + x.2.1 + 1) then (5, []) else doneL d t (o.set x.2.1.toNat ((to - (d.org + x.2.1 + 1)) % 256))
      else doneL d t ((o.set x.2.1.toNat (to % 256)).set (x.2.1.toNat + 1) (to / 256 % 256))
def doneF (d : AsmD) : Int × List Int := if d.e ≠ 0 then (d.e, []) else doneL d d.td d.out
def DoneR (d : AsmD) (w : World) (e : Ending) (w' : World) : Prop :=
  ((doneF d).1 ≠ 0 ∧ e = .returned (.tuple #[.slice none 0 0, .int .i64 (doneF d).1]) ∨
   (doneF d).1 = 0 ∧ ∃ A n c, e = .returned (.tuple #[.slice A n c, .int .i64 0]) ∧ Ints w' A .u8 (doneF d).2 ∧ (doneF d).2.length = n ∧ (A = none → n = 0 ∧ c = 0)) ∧ Below w.heap.size w w'
theorem asm_Done_nil (w : World) : Calls Tryz.prog 7 #[.pointer none] w fun e w' => e = .returned (.tuple #[.slice none 0 0, .int .i64 1]) ∧ w = w' := by
  go_enter Tryz.func7, Tryz.ntmps7
  go_wp2_with fail
  go_ret2
  exact ⟨rfl, rfl⟩
theorem tdCells_get (td : List (ByteArray × Int × Bool)) : ∀ (k : Nat) x, td[k]? = some x → (tdCells td)[k * 3]? = some (.string x.1) ∧ (tdCells td)[k * 3 + 1]? = some (.int .i64 x.2.1) ∧ (tdCells td)[k * 3 + 2]? = some (.bool x.2.2) := by
  induction td with
  | nil => intro k x h; simp at h
  | cons y td ih =>
    intro k x h
    have e : tdCells (y :: td) = .string y.1 :: .int .i64 y.2.1 :: .bool y.2.2 :: tdCells td := by simp [tdCells]
    cases k with
    | zero => simp at h; subst h; rw [e]; exact ⟨rfl, rfl, rfl⟩
    | succ k =>
      simp at h
      have := ih k x h
      rw [e, show (k + 1) * 3 = k * 3 + 1 + 1 + 1 by omega]
      simpa using this
theorem wpQuiet_lookup {P : Program} {ops : Array Oper} {C : World → Prop} {Q : Act → Prop} {a : Act} {o : Oper} {rest : List Oper} (hg : o.guard = none) (t : TypeId) (m x : Operand) (c : Bool) (ho : o.op = .lookup t m x c)
    (vm vx : Value) (hm : a.eval m = vm) (hx : a.eval x = vx) (v : Value) (hl : ∀ w, C w → (Instr.lookup t vm vx c).run P w = .ok v w) (h : wpQuiet P ops C Q rest (a.put o.dst v)) : wpQuiet P ops C Q (o :: rest) a := by
  have hw : Region.wanted o (yielded ops a.tmps) = true := by simp [Region.wanted, hg]
  simp only [wpQuiet, hw, if_true]
  refine ⟨v, fun w hc => ?_, h⟩
  have := hl w hc
  unfold Oper.quietAt execOp
  simp only [ho, hm, hx, Sem.run_bind, this, Result.andThen_ok]
  simp [Oper.quietUpon, Sem.run_pure]
set_option maxRecDepth 100000 in
/-- what a name is found to be, in whatever world that keeps the map -/
theorem AsmS.look {B P M nm : Nat} {w : World} {d : AsmD} (h : AsmS B P M nm w d) (s : ByteArray) (hs : s.size ≤ maxLen) :
    (Instr.lookup 50 (.map (some M)) (.string s) true).run Tryz.prog w = .ok (.tuple #[.int .i64 ((d.mks s.data.toList).getD 0), .bool (d.mks s.data.toList).isSome]) w := by
  obtain ⟨D, h1, h2⟩ := h.map
  obtain ⟨v, ps, hrun, hv⟩ := h1.look_ok keyLaw Tryz.underlying50 (zeroInt w) (plainElem_int Tryz.underlying3 (by decide)) (keyOf_s s hs)
  obtain ⟨hh, hat⟩ := h2.2 s.data.toList
  obtain ⟨c, rfl, hc, _⟩ := plainElem_int_inv Tryz.underlying3 hv
  have hc1 : D.atKey (.string s.data.toList) (.lit (.int .i64 0)) = .lit (.int .i64 c) := congrArg Prod.fst hc
  rw [hat] at hc1
  injection hc1 with hc1
  injection hc1 with _ hc1
  rw [hrun, hh, hc1]
theorem own_some {w : World} {base : Nat} {e : TypeId} {size n : Nat} {A : Option Addr} {c : Nat} {xs : List Value} (h : w.ownsRow base e size (.slice A n c) n xs) (hn : 0 < n) : ∃ g, A = some ⟨g, 0, none⟩ ∧ base ≤ g ∧ g < w.heap.size ∧ n ≤ c := by
  rcases h.2 with ⟨e1, e2⟩ | ⟨g, cap, cur, e1, h1, h2, h3, _⟩
  · omega
  · injection e1 with e1 _ e3
    subst e1 e3
    exact ⟨g, rfl, h1, (Array.getElem?_eq_some_iff.1 h2).1, h3⟩
set_option maxRecDepth 100000 in
set_option maxHeartbeats 16000000 in
theorem asm_Done (B P M nm T : Nat) (d : AsmD) (w : World) (h : AsmS B P M nm w d) (ok : AsmOk d T) (hT : T ≤ 1000) (ht : AsmTd d) :
    Calls Tryz.prog 7 #[.pointer (some ⟨P, 0, none⟩)] w (DoneR d w) := by
  obtain ⟨vo, vt, h1, h2, h3⟩ := h.ex
  obtain ⟨Ao, co, rfl, hAo, hco⟩ := own_formA h2
  obtain ⟨At, ct, rfl, hAt, hct⟩ := own_formA h3
  have c1 : w.cell? ⟨P, 1, none⟩ = some (.slice Ao d.out.length co) := h1.cell 1
  have c4 : w.cell? ⟨P, 4, none⟩ = some (.int .i64 d.e) := h1.cell 4
  have HS := Lib.hid h
  have HTD := Lib.hid ht
  have HOK := Lib.hid ok
  have H3 := Lib.hid h3
  have H1 := Lib.hid h1
  have olen := ok.len
  have HI := Lib.hid (own_cells h2)
  have HAo := Lib.hid hAo
  clear h ht h1 h2 hAo
  by_cases he : d.e = 0
  · rw [he] at c4
    have HCL : Hid (Calls Tryz.prog 17 #[.slice Ao d.out.length co] w fun e w' => ∃ v, e = .returned v ∧ w'.ownsRow w.heap.size 5 1 v d.out.length (d.out.map (.int .u8 ·)) ∧ Below w.heap.size w w') := Lib.hid (clone_any Ao d.out.length co d.out w HI.out rfl (by omega) HAo.out)
    have htdl := ok.told
    go_enter Tryz.func7, Tryz.ntmps7
    go_wp2_with (first
      | (go_at_call 17; refine HCL.out.mono ?_; rintro e w2 ⟨v, rfl, ho, hb⟩; obtain ⟨A2, c2, rfl, hA2, hc2⟩ := own_formA ho; have HO := Lib.hid ho; have HB2 := Lib.hid hb; have c23 : w2.cell? ⟨P, 3, none⟩ = some (.slice At d.td.length ct) := (H1.out.below_ hb).cell 3; have HS2 := Lib.hid (HS.out.below_ hb); have HA2 := Lib.hid hA2; clear ho hb hA2))
    go_loopw [33] (fun i u => ∃ (k : Nat) (o : List Int), i = .int .i64 k ∧ k ≤ d.td.length ∧ Hid (u.ownsRow w.heap.size 5 1 (.slice A2 d.out.length c2) d.out.length (o.map (.int .u8 ·))) ∧ Hid (o.length = d.out.length) ∧ Hid (Below w.heap.size w u) ∧ Hid (doneL d (d.td.drop k) o = doneL d d.td d.out)) (fun i _ => d.td.length - (intOf i).toNat)
    case atStart => exact ⟨0, d.out, rfl, Nat.zero_le _, HO, Lib.hid rfl, HB2, Lib.hid rfl⟩
    case round =>
      obtain ⟨k, o, rfl, hk, HO', HOL, HB', HE⟩ := hrel
      have HBB := Lib.hid HB'.out
      have hsz := HB'.out.size
      clear HO HB2 HS2 c23 c1 c4
      have HSu := Lib.hid (HS.out.below_ HB'.out)
      by_cases hlt : k < d.td.length
      · have hlt2 : (k : Int) < d.td.length := by omega
        obtain ⟨gt, rfl, hgB, hglt, hgc⟩ := own_some (own_belowA H3.out HB'.out) (by omega)
        obtain ⟨x, hx⟩ : ∃ x, d.td[k]? = some x := ⟨_, List.getElem?_eq_getElem hlt⟩
        obtain ⟨q1, q2, q3⟩ := tdCells_get d.td k x hx
        have H3u := own_belowA H3.out HB'.out
        have hk3 : k * 3 + 2 < d.td.length * 3 := by omega
        have t0 : wr.cell? ⟨gt, k * 3, none⟩ = some (.string x.1) := (H3u.cellAt _ (by omega)).trans q1
        have t1 : wr.cell? ⟨gt, k * 3 + 1, none⟩ = some (.int .i64 x.2.1) := (H3u.cellAt _ (by omega)).trans q2
        have t2 : wr.cell? ⟨gt, k * 3 + 2, none⟩ = some (.bool x.2.2) := (H3u.cellAt _ (by omega)).trans q3
        obtain ⟨s, at_, near⟩ := x
        simp only [] at t0 t1 t2
        clear H3u q1 q2 q3
        have HX := Lib.hid hx
        clear hx
        have hnm : s.size ≤ maxLen := HTD.out.name _ (List.mem_of_getElem? HX.out)
        have hpl := HTD.out.place he _ (List.mem_of_getElem? HX.out)
        go_upto_region 9 with fail
        obtain ⟨W9, hW9⟩ : ∃ u, u = wr.alloc (.cells #[.string s, .int .i64 at_, .bool near] 57) := ⟨_, rfl⟩
        have hb9 : Below wr.heap.size wr W9 := by rw [hW9]; exact below_alloc1 _ _
        have B9 : Blk W9 wr.heap.size 57 [.string s, .int .i64 at_, .bool near] := by rw [hW9]; exact Blk.new wr _ _
        rw [← hW9]
        clear hW9
        have HS9 := Lib.hid (HSu.out.below_ hb9)
        have HO9 := Lib.hid (own_belowA HO'.out hb9)
        have HB9 := Lib.hid (HB'.out.trans (hb9.mono hsz))
        have P9 := H1.out.below HB9.out (H1.out.lt)
        have g0 : W9.cell? ⟨wr.heap.size, 0, none⟩ = some (.string s) := B9.cell 0
        have p2 : W9.cell? ⟨P, 2, none⟩ = some (.map (some M)) := P9.cell 2
        have kg0 := cell_regrown g0
        have kp2 := cell_regrown p2
        have lk := fun dd os => (HS9.out.below_ (below_regrown W9 dd os)).look s hnm
        have HB9' := Lib.hid B9
        have HP9 := Lib.hid P9
        have HGO : Hid (∀ g, A2 = some ⟨g, 0, none⟩ → g < wr.heap.size) := Lib.hid (fun g h => (HO'.out.lt g (by rw [h]; rfl)).2)
        clear t0 t1 t2 hb9 B9 P9 HSu HO' HB' g0 p2
        cases hm : d.mks s.data.toList with
        | none =>
          have lk0 := lk
          simp only [hm] at lk
          go_wp2_with fail
          refine wp_region_quiet_below (by kernel_rfl) (by kernel_rfl) ?_
          iterate 6 (quiet_step (fail))
          refine wpQuiet_lookup rfl _ _ _ true rfl _ _ rfl rfl (.tuple #[.int .i64 0, .bool false]) (fun u hu => ?_) ?_
          · obtain ⟨p, rfl⟩ := hu
            exact lk _ _
          repeat (quiet_step (fail))
          refine wpQuiet_nil ?_
          intro _ hwq
          obtain ⟨⟨dq, osq⟩, hwr⟩ := hwq
          subst hwr
          have HB99 := Lib.hid (HB9.out.trans ((below_regrown W9 dq osq).mono HB9.out.size))
          go_wp2_with fail
          go_ret2
          have hd : doneF d = (10, []) := by
            unfold doneF
            rw [if_neg (by omega), ← HE.out, List.drop_eq_getElem_cons hlt]
            have hx2 : d.td[k] = (s, at_, near) := (List.getElem?_eq_some_iff.1 HX.out).2
            rw [hx2]
            simp only [doneL, hm]
          exact ⟨.inl ⟨by rw [hd]; decide, by rw [hd]; rfl⟩, HB99.out⟩
        | some to =>
          simp only [hm] at lk
          have hto := HTD.out.mark _ _ hm
          obtain ⟨to0, to1⟩ := hto
          obtain ⟨at0, at1⟩ := hpl
          simp only [] at at0 at1
          go_wp2_with fail
          refine wp_region_quiet_below (by kernel_rfl) (by kernel_rfl) ?_
          iterate 6 (quiet_step (fail))
          refine wpQuiet_lookup rfl _ _ _ true rfl _ _ rfl rfl (.tuple #[.int .i64 to, .bool true]) (fun u hu => ?_) ?_
          · obtain ⟨p, rfl⟩ := hu
            exact lk _ _
          repeat (quiet_step (fail))
          refine wpQuiet_nil ?_
          intro _ hwq
          obtain ⟨⟨dq, osq⟩, hwr⟩ := hwq
          subst hwr
          obtain ⟨w9, hw9⟩ : ∃ u, u = grow (redrawn W9 dq) osq := ⟨_, rfl⟩
          have hb99 : Below W9.heap.size W9 w9 := by rw [hw9]; exact below_regrown _ _ _
          rw [← hw9]
          clear hw9 lk kg0 kp2
          have HB99 := Lib.hid (HB9.out.trans (hb99.mono HB9.out.size))
          have HO99 := Lib.hid (own_belowA HO9.out hb99)
          have k1 : w9.cell? ⟨wr.heap.size, 1, none⟩ = some (.int .i64 at_) := (HB9'.out.below_ hb99).cell 1
          have k2 : w9.cell? ⟨wr.heap.size, 2, none⟩ = some (.bool near) := (HB9'.out.below_ hb99).cell 2
          have o0 : w9.cell? ⟨P, 0, none⟩ = some (.int .i64 d.org) := (HP9.out.below_ hb99).cell 0
          have HS99 := Lib.hid (HS9.out.below_ hb99)
          clear hb99
          obtain ⟨q, rfl⟩ : ∃ q : Nat, at_ = q := ⟨at_.toNat, by omega⟩
          have hq2 : q + (if near then 1 else 2) ≤ d.out.length := by cases near <;> simp at at1 ⊢ <;> omega
          have hq1 : q < d.out.length := by cases near <;> simp at hq2 <;> omega
          obtain ⟨go, rfl, hgoB, hgolt, hgoc⟩ := own_some HO99.out (by omega)
          have hgl : go < wr.heap.size := HGO.out go rfl
          have hgne : ¬ wr.heap.size = go := by omega
          have hgne2 : ¬ go = wr.heap.size := by omega
          obtain ⟨b0, hb0⟩ : ∃ b, o[q]? = some b := ⟨_, List.getElem?_eq_getElem (by have := HOL.out; omega)⟩
          have s0 : w9.cell? ⟨go, q, none⟩ = some (.int .u8 b0) := (HO99.out.cellAt q (by omega)).trans (by rw [List.getElem?_map, hb0]; rfl)
          have fq := HO99.out.frozenAt q
          have hqi : (q : Int) < d.out.length := by omega
          have ew : IntKind.u8.wrap to = to % 256 := by rw [IntKind.wrap_u8]
          have hdl : d.td[k] = (s, (q : Int), near) := (List.getElem?_eq_some_iff.1 HX.out).2
          have HDL : Hid (d.td.drop k = (s, (q : Int), near) :: d.td.drop (k + 1)) := Lib.hid (by rw [List.drop_eq_getElem_cons hlt, hdl])
          have HM := Lib.hid hm
          have HHB := Lib.hid (HOL.out)
          clear hb0 hm hdl at0 at1 HB9 HO9 HB9' HP9 HOL
          cases near with
          | false =>
            have hq3 : q + 2 ≤ d.out.length := by simpa using hq2
            have hqi1 : (q : Int) + 1 < d.out.length := by omega
            obtain ⟨b1, hb1⟩ : ∃ b, o[q + 1]? = some b := ⟨_, List.getElem?_eq_getElem (by have := HHB.out; omega)⟩
            have s1 : w9.cell? ⟨go, q + 1, none⟩ = some (.int .u8 b1) := (HO99.out.cellAt (q + 1) (by omega)).trans (by rw [List.getElem?_map, hb1]; rfl)
            have fq1 := HO99.out.frozenAt (q + 1)
            have ew2 : IntKind.u8.wrap (to / 256) = to / 256 % 256 := by rw [IntKind.wrap_u8]
            have t1 : (((q : Int) + 1).toNat) = q + 1 := by omega
            have w0 : IntKind.i64.wrap ((q : Int) + 1) = (q : Int) + 1 := by rw [IntKind.wrap_i64]; omega
            have w00 : (0 : Int) ≤ (q : Int) + 1 := by omega
            clear hb1 hq2
            go_upto_region 13 with fail
            go_region_law (fail)
            all_goals
              go_wp2_with fail
              go_roundw
              case rel => exact ⟨k + 1, (o.set q (to % 256)).set (q + 1) (to / 256 % 256), by go_num, by omega, Lib.hid (by
                have h1 := (HO99.out.stored q (.int .u8 (to % 256))).1
                have h2 := (h1.stored (q + 1) (.int .u8 (to / 256 % 256))).1
                rw [List.map_set, List.map_set]
                exact h2), Lib.hid (by simp [HHB.out]), Lib.hid (by repeat (first | exact HB99.out | refine Below.drew ?_ | refine Below.setCell ?_ hgoB _)), Lib.hid (by
                rw [← HE.out, HDL.out]
                simp [doneL, HM.out])⟩
              case measure => simp [intOf]; omega
          | true =>
            have hq3 : q + 1 ≤ d.out.length := by simpa using hq2
            have org0 := HOK.out.org0
            have org1 := HOK.out.org1
            have w0 : IntKind.i64.wrap (d.org + q) = d.org + q := by rw [IntKind.wrap_i64]; omega
            have w1 : IntKind.i64.wrap (d.org + q + 1) = d.org + q + 1 := by rw [IntKind.wrap_i64]; omega
            have w2 : IntKind.i64.wrap (to - (d.org + q + 1)) = to - (d.org + q + 1) := by rw [IntKind.wrap_i64]; omega
            clear hq2
            go_upto_region 14 with fail
            go_quiet (fail)
            have HB90 := Lib.hid (Below_drewN HB99.out nq)
            obtain ⟨x, hx⟩ : ∃ x, x = to - (d.org + q + 1) := ⟨_, rfl⟩
            have HXX := Lib.hid hx
            rw [← hx]
            have hx0 : -200000 ≤ x ∧ x ≤ 70000 := by omega
            obtain ⟨hx1, hx2⟩ := hx0
            have ew3 : IntKind.u8.wrap x = x % 256 := by rw [IntKind.wrap_u8]
            clear hx w0 w1 w2
            by_cases hd : x < -128 ∨ 127 < x
            · have HDF : Hid (doneF d = (5, [])) := Lib.hid (by
                unfold doneF
                rw [if_neg (by omega), ← HE.out, HDL.out]
                simp only [doneL, HM.out]
                rw [if_pos trivial, if_pos (by rw [← HXX.out]; exact hd)])
              by_cases hd1 : x < -128
              · go_wp2_with fail
                go_ret2
                exact ⟨.inl ⟨by rw [HDF.out]; decide, by rw [HDF.out]; rfl⟩, HB90.out⟩
              · have hd2 : 127 < x := by omega
                go_wp2_with fail
                go_ret2
                exact ⟨.inl ⟨by rw [HDF.out]; decide, by rw [HDF.out]; rfl⟩, HB90.out⟩
            · have hd1 : ¬ x < -128 := by omega
              have hd2 : ¬ 127 < x := by omega
              go_wp2_with fail
              go_roundw
              case rel => exact ⟨k + 1, o.set q (x % 256), by go_num, by omega, Lib.hid (by
                have h1 := (HO99.out.stored q (.int .u8 (x % 256))).1
                rw [List.map_set]
                exact h1), Lib.hid (by simp [HHB.out]), Lib.hid (HB90.out.setCell hgoB _), Lib.hid (by
                rw [← HE.out, HDL.out]
                simp only [doneL, HM.out]
                rw [if_pos trivial, if_neg (by rw [← HXX.out]; exact hd), ← HXX.out]
                rfl)⟩
              case measure => simp [intOf]; omega
      · obtain rfl : k = d.td.length := by omega
        go_wp2_with fail
        go_ret2
        have hd : doneF d = (0, o) := by
          unfold doneF
          rw [if_neg (by omega), ← HE.out, List.drop_length]
          rfl
        refine ⟨.inr ⟨by rw [hd], A2, _, c2, rfl, ?_, ?_, HA2.out⟩, HB'.out⟩
        · rw [hd]; exact own_cells HO'.out
        · rw [hd]; exact HOL.out
  · go_enter Tryz.func7, Tryz.ntmps7
    go_wp2_with fail
    go_quiet (fail)
    all_goals
      go_wp2_with fail
      go_ret2
      have hd : doneF d = (d.e, []) := by unfold doneF; rw [if_pos he]
      exact ⟨.inl ⟨by rw [hd]; exact he, by rw [hd]; rfl⟩, Below_drewN (Below.refl _ _) _⟩
end Go.Proofs.YtifgikjmfmkgeaaGreat
namespace Go.Proofs.YtifgikjmfmkgeaaGreat
set_option linter.unusedSimpArgs false
set_option linter.unusedVariables false
open Go.RowKit Go.Maps Go.Sort
def newD (org : Int) : AsmD := { org := org, out := [], mks := fun _ => none, td := [], e := 0 }
set_option maxHeartbeats 1000000 in
theorem asm_new (org : Int) (h0 : 0 ≤ org) (h1 : org ≤ 65535) (w : World) : Calls Tryz.prog 5 #[.int .u16 org] w fun e w' => ∃ P M, e = .returned (.pointer (some ⟨P, 0, none⟩)) ∧ AsmS w.heap.size P M 0 w' (newD org) ∧ Below w.heap.size w w' := by
  have hmm := @run_makeMap Tryz.prog
  have e1 : IntKind.i64.wrap org = org := by rw [IntKind.wrap_i64]; omega
  go_enter Tryz.func5, Tryz.ntmps5
  go_wp2_with fail
  go_ret
  refine ⟨_, w.heap.size, rfl, ?_, ?_⟩
  · exact ⟨⟨.slice none 0 0, .slice none 0 0, (by have h := Blk.new (w.alloc (.map #[] 0)) 53 (asmCells org (.slice none 0 0) w.heap.size (.slice none 0 0) 0); rw [World.size_alloc] at h; exact h), World.ownsRow_nil _ _ _ _, World.ownsRow_nil _ _ _ _⟩, ⟨.map [], (World.ownsMap_made w _ _ _).alloc _, MapIs.empty⟩, by omega, Nat.le_refl _⟩
  · exact ((Below.refl _ w).alloc (Nat.le_refl _) _).alloc (by simp) _
/-- all that is known of a state -/
structure AsmI (d : AsmD) (T : Nat) : Prop where
  ok : AsmOk d T
  td : AsmTd d
theorem AsmI.new {org : Int} (h0 : 0 ≤ org) (h1 : org ≤ 65535) : AsmI (newD org) 0 :=
  ⟨⟨h0, h1, by simp [newD]; omega, fun x hx => by simp [newD] at hx, by simp [newD]⟩, ⟨fun _ x hx => by simp [newD] at hx, fun x hx => by simp [newD] at hx, fun s v h => by simp [newD] at h⟩⟩
theorem AsmI.mono {d : AsmD} {T T' : Nat} (h : AsmI d T) (hT : T ≤ T') : AsmI d T' := ⟨⟨h.ok.org0, h.ok.org1, h.ok.top, h.ok.byte, Nat.le_trans h.ok.told hT⟩, h.td⟩
theorem AsmTd.bytesF {d : AsmD} (h : AsmTd d) (l : List Int) : AsmTd (bytesF d l) := by
  unfold Go.Proofs.YtifgikjmfmkgeaaGreat.bytesF
  split
  · exact h
  · split
    · exact ⟨fun he => by simp at he, h.name, h.mark⟩
    · refine ⟨fun he x hx => ?_, h.name, h.mark⟩
      have := h.place he x hx
      simp only [List.length_append]
      omega
theorem AsmI.bytesF {d : AsmD} {T : Nat} (h : AsmI d T) {l : List Int} (hl : ∀ x ∈ l, 0 ≤ x ∧ x ≤ 255) : AsmI (bytesF d l) T := ⟨h.ok.bytesF hl, h.td.bytesF l⟩
theorem AsmI.markF {d : AsmD} {T : Nat} (h : AsmI d T) (s : ByteArray) : AsmI (markF d s) T := by
  refine ⟨h.ok.markF s, ?_⟩
  unfold Go.Proofs.YtifgikjmfmkgeaaGreat.markF
  split
  · exact h.td
  · split
    · exact ⟨fun he => by simp at he, h.td.name, h.td.mark⟩
    · refine ⟨h.td.place, h.td.name, fun t v hv => ?_⟩
      simp only [] at hv
      split at hv
      · injection hv with hv
        subst hv
        have := h.ok.org0
        have := h.ok.top
        unfold AsmD.here
        omega
      · exact h.td.mark t v hv
theorem bytesF_len {d : AsmD} {l : List Int} (h : (bytesF d l).e = 0) : (bytesF d l).out.length = d.out.length + l.length := by
  unfold bytesF at h ⊢
  split at h
  · rename_i he; exact absurd h he
  · rename_i he
    rw [if_neg he]
    split at h
    · simp at h
    · rename_i h5
      rw [if_neg h5]
      simp
theorem AsmI.fillF {d : AsmD} {T : Nat} (h : AsmI d T) (s : ByteArray) (hs : s.size ≤ maxLen) (near : Bool) {code : List Int} (hl : ∀ x ∈ code, 0 ≤ x ∧ x ≤ 255) : AsmI (fillF d s near code) (T + 1) := by
  refine ⟨h.ok.fillF s near hl, ?_⟩
  unfold Go.Proofs.YtifgikjmfmkgeaaGreat.fillF
  split
  · exact h.td
  · rename_i he
    have k := h.td.bytesF (code ++ if near then [0] else [0, 0])
    refine ⟨fun he2 x hx => ?_, fun x hx => ?_, k.mark⟩
    · rcases List.mem_append.1 hx with hx | hx
      · exact k.place he2 x hx
      · simp at hx
        subst hx
        simp only [] at he2 ⊢
        have hl2 := bytesF_len he2
        rw [hl2]
        cases near <;> simp <;> omega
    · rcases List.mem_append.1 hx with hx | hx
      · exact k.name x hx
      · simp at hx
        subst hx
        exact hs
theorem AsmI.nextF {d : AsmD} {T : Nat} (h : AsmI d T) : AsmI (nextF d) T := ⟨h.ok.nextF, h.td.bytesF _⟩
theorem AsmI.fold {T : Nat} : ∀ (R : List (List Int)) {d : AsmD}, AsmI d T → (∀ l ∈ R, ∀ x ∈ l, 0 ≤ x ∧ x ≤ 255) → AsmI (R.foldl Go.Proofs.YtifgikjmfmkgeaaGreat.bytesF d) T
  | [], d, h, _ => h
  | l :: R, d, h, hR => AsmI.fold R (h.bytesF (hR l (by simp))) (fun m hm => hR m (by simp [hm]))
theorem rounds_byte : ∀ (f : Nat) (n : Int), ∀ l ∈ (rounds f n).1, ∀ x ∈ l, 0 ≤ x ∧ x ≤ 255
  | 0, n, l, hl => by simp [rounds] at hl
  | f + 1, n, l, hl => by
    simp only [rounds] at hl
    split at hl
    · simp at hl
    · rename_i h
      simp only [List.mem_cons] at hl
      rcases hl with rfl | hl
      · intro x hx
        unfold roundB roundK at hx
        simp at hx
        omega
      · exact rounds_byte f _ l hl
theorem zeros_byte (k : Int) : ∀ x ∈ zerosL k, 0 ≤ x ∧ x ≤ 255 := fun x hx => by
  unfold zerosL at hx
  have := List.eq_of_mem_replicate hx
  omega
theorem six_byte : ∀ x ∈ ([6, 0] : List Int), 0 ≤ x ∧ x ≤ 255 := fun x hx => by simp at hx; omega
theorem AsmI.restF {d : AsmD} {T : Nat} (h : AsmI d T) (m : Int) : AsmI (restF d m) T := by
  unfold Go.Proofs.YtifgikjmfmkgeaaGreat.restF
  split
  · exact (h.nextF.bytesF six_byte).bytesF (zeros_byte _)
  · split
    · exact h.nextF.bytesF (zeros_byte _)
    · split
      · exact (h.bytesF six_byte).bytesF (zeros_byte _)
      · exact h.bytesF (zeros_byte _)
theorem AsmI.delayF {d : AsmD} {T : Nat} (h : AsmI d T) (n : Int) : AsmI (delayF d n) T := by
  unfold Go.Proofs.YtifgikjmfmkgeaaGreat.delayF
  split
  · exact h
  · split
    · exact ⟨⟨h.ok.org0, h.ok.org1, h.ok.top, h.ok.byte, h.ok.told⟩, ⟨fun he => by simp at he, h.td.name, h.td.mark⟩⟩
    · exact (AsmI.fold _ h (rounds_byte _ _)).restF _
end Go.Proofs.YtifgikjmfmkgeaaGreat
namespace Go.Proofs.YtifgikjmfmkgeaaGreat
set_option linter.unusedSimpArgs false
set_option linter.unusedVariables false
open Go.RowKit Go.Maps Go.Sort
structure OpL where
  kind : Int
  num : Int
  name : ByteArray
  b : List Int
def codeL (b : List Int) : Int := b.headD 0
structure OpOk (o : OpL) : Prop where
  num0 : -9223372036854775808 ≤ o.num
  num1 : o.num ≤ 9223372036854775807
  name : o.name.size ≤ maxLen
  byte : ∀ x ∈ o.b, 0 ≤ x ∧ x ≤ 255
theorem code_byte {o : OpL} (h : OpOk o) : ∀ x ∈ [codeL o.b], 0 ≤ x ∧ x ≤ 255 := fun x hx => by
  simp at hx
  subst hx
  unfold codeL
  cases hb : o.b with
  | nil => simp
  | cons y l => exact h.byte y (by rw [hb]; simp)
def callF (d : AsmD) (o : OpL) : AsmD :=
  if o.kind = 0 then bytesF d o.b else if o.kind = 1 then markF d o.name else if o.kind = 2 then fillF d o.name false o.b
  else if o.kind = 3 then fillF d o.name true [codeL o.b] else if o.kind = 4 then delayF d o.num else d
theorem AsmI.callF {d : AsmD} {T : Nat} (h : AsmI d T) {o : OpL} (ho : OpOk o) : AsmI (callF d o) (T + 1) := by
  unfold Go.Proofs.YtifgikjmfmkgeaaGreat.callF
  split
  · exact (h.bytesF ho.byte).mono (Nat.le_succ _)
  · split
    · exact (h.markF _).mono (Nat.le_succ _)
    · split
      · exact h.fillF _ ho.name _ ho.byte
      · split
        · exact h.fillF _ ho.name _ (code_byte ho)
        · split
          · exact (h.delayF _).mono (Nat.le_succ _)
          · exact h.mono (Nat.le_succ _)
theorem callF_bad {d : AsmD} (h : d.e ≠ 0) (o : OpL) : callF d o = d := by
  unfold callF bytesF markF fillF delayF
  simp [h]
end Go.Proofs.YtifgikjmfmkgeaaGreat
namespace Go.Proofs.YtifgikjmfmkgeaaGreat
set_option linter.unusedSimpArgs false
set_option linter.unusedVariables false
open Go.RowKit Go.Maps Go.Sort
def tailL (m x : Int) : List Int :=
  if m % 4 = 1 then nextL x ++ ([6, 0] ++ zerosL ((m - 17) / 4))
  else if m % 4 = 2 then nextL x ++ zerosL ((m - 10) / 4)
  else if m % 4 = 3 then [6, 0] ++ zerosL ((m - 7) / 4)
  else zerosL (m / 4)
def headL (n : Int) : List Int := (rounds (n.toNat + 1) n).1.flatten
def waitL (n x : Int) : List Int := headL n ++ tailL (rounds (n.toNat + 1) n).2 (x + (headL n).length)
theorem zeros_step {z : Int} (h : 4 ≤ z) : zerosL (z / 4) = 0 :: zerosL ((z - 4) / 4) := by
  unfold zerosL
  have e : (z / 4).toNat = ((z - 4) / 4).toNat + 1 := by omega
  rw [e, List.replicate_succ]
end Go.Proofs.YtifgikjmfmkgeaaGreat
