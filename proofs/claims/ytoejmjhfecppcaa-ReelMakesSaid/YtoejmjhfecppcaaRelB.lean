/- Package reel: the chapter's example: Exact of one gap. -/
import Derived.Test.YtoejmjhfecppcaaRelA
import Derived.Deep.RegionLaw
namespace Go.Proofs.Ytoejmjhfecppcaa
set_option linter.unusedSimpArgs false
set_option linter.unusedVariables false
open Go.RowKit
theorem mk_two (u : World) : (Instr.makeSlice 38 (.int .i64 0) (.int .i64 2)).run Try.prog u = .ok (.slice (some ⟨u.heap.size, 0, none⟩) 0 2) (u.alloc (.cells #[.int .i64 0, .int .i64 0] 3)) := by
  obtain ⟨i0, hi, hz0, hz1, hz2⟩ := info_parts infoInt
  have h := run_make (P := Try.prog) u 38 3 i0 (.int .i64 0) Try.underlying38 hi hz0 .i64 .i64 0 2 (by omega) (by omega) (by rw [hz2]; omega) (by omega)
  have e : madeCells #[Value.int .i64 0] 2 = #[.int .i64 0, .int .i64 0] := by kernel_rfl
  rw [hz1] at h
  simpa [e, show (Value.int .i64 0).cells = #[Value.int .i64 0] from rfl] using h
/-- the first block of the tape -/
def blk43 : List Value := [.int .i64 43, .int .i64 0, .int .i64 0, .int .i64 0, .int .i64 0, .int .i64 0, .int .i64 0, .int .i64 0, .int .i64 0, .int .i64 1, .int .i64 0, .int .i64 0, .slice none 0 0, .slice none 0 0, .slice none 0 0, .slice none 0 0, .slice none 0 0, .slice none 0 0]
/-- what stands in memory ahead of the lists of gaps -/
structure Fs (w u : World) : Prop where
  zero : Blk u (w.heap.size + 1) 26 [.int .i64 0, .int .i64 0, .slice none 0 0]
  first : Blk u (w.heap.size + 1 + 1) 87 blk43
  tape : Blk u (w.heap.size + 1 + 1 + 1) 26 [.int .i64 1, .int .i64 20, .slice (some ⟨w.heap.size + 1 + 1, 0, none⟩) 1 1]
  arg : u.cell? ⟨w.heap.size, 0, none⟩ = some (.int .u32 5)
  below : Below (w.heap.size + 1) (w.alloc (.cells #[.int .u32 5] 36)) u
theorem Fs.size {w u : World} (h : Fs w u) : w.heap.size + 4 ≤ u.heap.size := by have := h.tape.lt; omega
theorem Fs.below_ {w u u' : World} (h : Fs w u) (hb : Below u.heap.size u u') : Fs w u' :=
  ⟨h.zero.below_ hb, h.first.below_ hb, h.tape.below_ hb, (hb.cell (block_lt_of_cell h.arg)).trans h.arg, h.below.trans (hb.mono (by have := h.size; omega))⟩
theorem Fs.grown {w u u' : World} {e : TypeId} {size n : Nat} {v : Value} {xs : List Value} (h : Fs w u) (ho : u.ownsRow (w.heap.size + 4) e size v n xs) (hg : u.grownBy u' v.ownBlock) : Fs w u' :=
  ⟨h.zero.grown hg (own_ne ho (by omega)), h.first.grown hg (own_ne ho (by omega)), h.tape.grown hg (own_ne ho (by omega)),
    by
      have hlt := block_lt_of_cell h.arg
      rw [← h.arg]
      exact World.cell?_of_block (hg.block _ hlt (own_ne ho (show w.heap.size < w.heap.size + 4 by omega))), Below_own h.below ho hg (by omega) h.size⟩
theorem Fs.start (w : World) : Fs w ((((w.alloc (.cells #[.int .u32 5] 36)).alloc (.cells #[.int .i64 0, .int .i64 0, .slice none 0 0] 26)).alloc (.cells blk43.toArray 87)).alloc (.cells #[.int .i64 1, .int .i64 20, .slice (some ⟨w.heap.size + 1 + 1, 0, none⟩) 1 1] 26)) := by
  obtain ⟨a, ha⟩ : ∃ a, a = w.alloc (.cells #[.int .u32 5] 36) := ⟨_, rfl⟩
  have sa : a.heap.size = w.heap.size + 1 := by rw [ha]; simp
  have ca : a.cell? ⟨w.heap.size, 0, none⟩ = some (.int .u32 5) := by rw [ha]; simp
  rw [← ha]
  obtain ⟨b, hb⟩ : ∃ b, b = a.alloc (.cells #[.int .i64 0, .int .i64 0, .slice none 0 0] 26) := ⟨_, rfl⟩
  have sb : b.heap.size = w.heap.size + 1 + 1 := by rw [hb]; simp [sa]
  have fb : Blk b (w.heap.size + 1) 26 [.int .i64 0, .int .i64 0, .slice none 0 0] := by rw [hb, ← sa]; exact Blk.new a _ _
  have xb : Below a.heap.size a b := by rw [hb]; exact (Below.refl _ _).alloc (Nat.le_refl _) _
  rw [← hb]
  obtain ⟨c, hc⟩ : ∃ c, c = b.alloc (.cells blk43.toArray 87) := ⟨_, rfl⟩
  have sc : c.heap.size = w.heap.size + 1 + 1 + 1 := by rw [hc]; simp [sb]
  have fc : Blk c (w.heap.size + 1 + 1) 87 blk43 := by rw [hc, ← sb]; exact Blk.new b _ _
  have xc : Below b.heap.size b c := by rw [hc]; exact (Below.refl _ _).alloc (Nat.le_refl _) _
  rw [← hc]
  obtain ⟨d, hd⟩ : ∃ d, d = c.alloc (.cells #[.int .i64 1, .int .i64 20, .slice (some ⟨w.heap.size + 1 + 1, 0, none⟩) 1 1] 26) := ⟨_, rfl⟩
  have fd : Blk d (w.heap.size + 1 + 1 + 1) 26 [.int .i64 1, .int .i64 20, .slice (some ⟨w.heap.size + 1 + 1, 0, none⟩) 1 1] := by rw [hd, ← sc]; exact Blk.new c _ _
  have xd : Below c.heap.size c d := by rw [hd]; exact (Below.refl _ _).alloc (Nat.le_refl _) _
  rw [← hd]
  have x1 : Below a.heap.size a c := xb.trans (xc.mono (show a.heap.size ≤ b.heap.size by omega))
  have x2 : Below a.heap.size a d := x1.trans (xd.mono (show a.heap.size ≤ c.heap.size by omega))
  exact ⟨(fb.below_ xc).below_ xd, fc.below_ xd, fd, (x2.cell (block_lt_of_cell ca)).trans ca, by rw [← ha]; exact x2.mono (show w.heap.size + 1 ≤ a.heap.size by omega)⟩
theorem made_own {T : TypeId} (u : World) (B : Nat) (hB : B ≤ u.heap.size) : (u.alloc (.cells #[.int .i64 0, .int .i64 0] T)).ownsRow B T 1 (.slice (some ⟨u.heap.size, 0, none⟩) 0 2) 0 [] :=
  ⟨rfl, .inr ⟨u.heap.size, 2, #[.int .i64 0, .int .i64 0], rfl, hB, heap_alloc_new u _, by omega, by decide, rfl, rfl⟩⟩
/-- the tape is done -/
structure Dn (w u : World) (gb cb gt ct : Nat) : Prop where
  zero : Blk u (w.heap.size + 1) 26 [.int .i64 0, .int .i64 0, .slice none 0 0]
  tape : Blk u (w.heap.size + 1 + 1 + 1) 26 [.int .i64 1, .int .i64 20, .slice (some ⟨gb, 0, none⟩) 2 cb]
  c0 : u.cell? ⟨gb, 0, none⟩ = some (.int .i64 43)
  c9 : u.cell? ⟨gb, 9, none⟩ = some (.int .i64 1)
  c18 : u.cell? ⟨gb, 18, none⟩ = some (.int .i64 19)
  c31 : u.cell? ⟨gb, 31, none⟩ = some (.slice (some ⟨gt, 0, none⟩) 2 ct)
  last : u.cell? ⟨gt, 1, none⟩ = some (.int .i64 3500)
  gbLe : w.heap.size + 1 + 1 ≤ gb
  gtLe : w.heap.size + 4 ≤ gt
  below : Below (w.heap.size + 1) (w.alloc (.cells #[.int .u32 5] 36)) u
theorem infoBlock : (Try.prog.info? 87).map (fun i => (i.zero, i.size, i.bytes)) = some (some (.agg #[.int .i64 0, .int .i64 0, .int .i64 0, .int .i64 0, .int .i64 0, .int .i64 0, .int .i64 0, .int .i64 0, .int .i64 0, .int .i64 0, .int .i64 0, .int .i64 0, .slice none 0 0, .slice none 0 0, .slice none 0 0, .slice none 0 0, .slice none 0 0, .slice none 0 0]), 18, 240) := by kernel_rfl
theorem sizeBlock : (Try.prog.info? 87).map (·.size) = some 18 := by kernel_rfl
theorem first_own {w u : World} (h : Fs w u) : u.ownsRow (w.heap.size + 1 + 1) 87 18 (.slice (some ⟨w.heap.size + 1 + 1, 0, none⟩) 1 1) 1 blk43 :=
  ⟨rfl, .inr ⟨w.heap.size + 1 + 1, 1, blk43.toArray, rfl, Nat.le_refl _, h.first, by omega, by decide, rfl, rfl⟩⟩
/-- the second block of the tape -/
def blk19 (g : Nat) : List Value := [.int .i64 19, .int .i64 0, .int .i64 0, .int .i64 0, .int .i64 0, .int .i64 0, .int .i64 0, .int .i64 0, .int .i64 0, .int .i64 0, .int .i64 0, .int .i64 0, .slice none 0 0, .slice (some ⟨g, 0, none⟩) 2 2, .slice none 0 0, .slice none 0 0, .slice none 0 0, .slice none 0 0]
theorem own_ne_blk {w : World} {base : Nat} {e t : TypeId} {size n g g' c : Nat} {xs cs : List Value} (h : w.ownsRow base e size (.slice (some ⟨g, 0, none⟩) n c) n xs) (hb : Blk w g' t cs) (hne : e ≠ t) : g ≠ g' := by
  rintro rfl
  rcases h.2 with ⟨e1, _⟩ | ⟨g1, c1, cur, e1, _, hh, _⟩
  · cases e1
  · injection e1 with e2 e3 e4
    injection e2 with e2
    injection e2 with e2
    subst e2
    unfold Blk at hb
    rw [hh] at hb
    injection hb with hb
    injection hb with _ ht
    exact hne ht
theorem Dn.make {w wo wx w6 : World} {g c gb cb : Nat} (hf : Fs w wo) (ho : wo.ownsRow (w.heap.size + 4) 3 1 (.slice (some ⟨g, 0, none⟩) 2 c) 2 [.int .i64 5, .int .i64 3500]) (hx : Below wo.heap.size wo wx)
    (hg : wx.grownBy w6 (Value.slice (some ⟨w.heap.size + 1 + 1, 0, none⟩) 1 1).ownBlock) (h6 : w6.ownsRow (w.heap.size + 1 + 1) 87 18 (.slice (some ⟨gb, 0, none⟩) 2 cb) 2 (blk43 ++ blk19 g)) :
    Dn w (w6.setCell ⟨w.heap.size + 1 + 1 + 1, 2, none⟩ (.slice (some ⟨gb, 0, none⟩) 2 cb)) gb cb g 2 := by
  have fx := hf.below_ hx
  have z6 := fx.zero.grown hg (by intro e; simp [Value.ownBlock] at e)
  have t6 := fx.tape.grown hg (by intro e; simp [Value.ownBlock] at e)
  have hne : gb ≠ w.heap.size + 1 + 1 + 1 := own_ne_blk h6 t6 (by decide)
  have hc := h6.cells (g := gb) rfl
  have far : ∀ (o : Nat) (v : Value), w6.cell? ⟨gb, o, none⟩ = some v → (w6.setCell ⟨w.heap.size + 1 + 1 + 1, 2, none⟩ (.slice (some ⟨gb, 0, none⟩) 2 cb)).cell? ⟨gb, o, none⟩ = some v := fun o v h => by
    rw [World.cell?_setCell_other _ _ _ _ (fun e => hne (by injection e with e; exact e.symm))]
    exact h
  have l1 : wo.cell? ⟨g, 1, none⟩ = some (.int .i64 3500) := ho.cells (g := g) rfl 1 _ rfl
  have hg4 := (ho.lt g rfl).1
  have lx := (hx.cell (block_lt_of_cell l1)).trans l1
  have l6 : w6.cell? ⟨g, 1, none⟩ = some (.int .i64 3500) := by
    rw [← lx]
    exact World.cell?_of_block (hg.block g (block_lt_of_cell lx) (by intro e; simp [Value.ownBlock] at e; omega))
  have hB : Below (w.heap.size + 1) (w.alloc (.cells #[.int .u32 5] 36)) w6 := fx.below.grown hg (by have := fx.size; omega) (fun k hk => by
    have : w.heap.size + 1 + 1 = k := by simpa [Value.ownBlock] using hk
    omega)
  refine ⟨z6.far (by simp) _, t6.set_ 2 _, far 0 _ (hc 0 _ rfl), far 9 _ (hc 9 _ rfl), far 18 _ (hc 18 _ rfl), far 31 _ (hc 31 _ rfl), ?_, (h6.lt gb rfl).1, hg4, hB.setCell (by simp) _⟩
  rw [World.cell?_setCell_other _ _ _ _ (fun e => by injection e with e; omega)]
  exact l6
/-- what comes of one gap of 5 -/
def Five (W : World) (e : Ending) (w' : World) : Prop := ∃ gb cb gt ct : Nat, e = .returned (.tuple #[.agg #[.int .i64 1, .int .i64 20, .slice (some ⟨gb, 0, none⟩) 2 cb], .int .i64 0]) ∧ Below W.heap.size W w' ∧
  w'.cell? ⟨gb, 0, none⟩ = some (.int .i64 43) ∧ w'.cell? ⟨gb, 9, none⟩ = some (.int .i64 1) ∧ w'.cell? ⟨gb, 18, none⟩ = some (.int .i64 19) ∧ w'.cell? ⟨gb, 31, none⟩ = some (.slice (some ⟨gt, 0, none⟩) 2 ct) ∧ w'.cell? ⟨gt, 1, none⟩ = some (.int .i64 3500)
theorem Five.mk' {w u : World} {gb cb gt ct : Nat} (h : Dn w u gb cb gt ct) (a b c : Value) : Five (w.alloc (.cells #[.int .u32 5] 36)) (.returned (.tuple #[.agg #[.int .i64 1, .int .i64 20, .slice (some ⟨gb, 0, none⟩) 2 cb], .int .i64 0])) (((u.setCell ⟨w.heap.size + 1, 0, none⟩ a).setCell ⟨w.heap.size + 1, 1, none⟩ b).setCell ⟨w.heap.size + 1, 2, none⟩ c) := by
  have h1 := h.gbLe
  have h2 := h.gtLe
  have far : ∀ (g o : Nat) (v : Value), w.heap.size + 1 < g → u.cell? ⟨g, o, none⟩ = some v → (((u.setCell ⟨w.heap.size + 1, 0, none⟩ a).setCell ⟨w.heap.size + 1, 1, none⟩ b).setCell ⟨w.heap.size + 1, 2, none⟩ c).cell? ⟨g, o, none⟩ = some v := fun g o v hg hv => by
    rw [World.cell?_setCell_other _ _ _ _ (fun e => by injection e with e; omega), World.cell?_setCell_other _ _ _ _ (fun e => by injection e with e; omega), World.cell?_setCell_other _ _ _ _ (fun e => by injection e with e; omega)]
    exact hv
  have hs : (w.alloc (.cells #[.int .u32 5] 36)).heap.size = w.heap.size + 1 := by simp
  refine ⟨gb, cb, gt, ct, rfl, ?_, far _ _ _ (by omega) h.c0, far _ _ _ (by omega) h.c9, far _ _ _ (by omega) h.c18, far _ _ _ (by omega) h.c31, far _ _ _ (by omega) h.last⟩
  rw [hs]
  exact ((h.below.setCell (by simp) _).setCell (by simp) _).setCell (by simp) _
def lenOf : Value → Nat
  | .slice _ n _ => n
  | _ => 0
set_option maxRecDepth 100000 in
set_option maxHeartbeats 4000000 in
theorem exact_five (w : World) : Calls Try.prog 12 #[.bool false, .slice (some ⟨w.heap.size, 0, none⟩) 1 1] (w.alloc (.cells #[.int .u32 5] 36)) (Five (w.alloc (.cells #[.int .u32 5] 36))) := by
  have hmk := mk_two
  have HF := Lib.hid (Fs.start w)
  go_enter Try.func12, Try.ntmps12
  go_wp2_with fail
  go_loopw [7, 26] (fun l i u => ∃ k g c : Nat, k ≤ 1 ∧ i = .int .i64 k ∧ l = .slice (some ⟨g, 0, none⟩) k c ∧ u.ownsRow (w.heap.size + 4) 3 1 (.slice (some ⟨g, 0, none⟩) k c) k ([.int .i64 5].take k) ∧ Fs w u) (fun _ i _ => 1 - (intOf i).toNat)
  case atStart =>
    have hF := HF.out
    have hs : w.heap.size + 4 = ((((w.alloc (.cells #[.int .u32 5] 36)).alloc (.cells #[.int .i64 0, .int .i64 0, .slice none 0 0] 26)).alloc (.cells blk43.toArray 87)).alloc (.cells #[.int .i64 1, .int .i64 20, .slice (some ⟨w.heap.size + 1 + 1, 0, none⟩) 1 1] 26)).heap.size := by simp
    refine ⟨0, w.heap.size + 4, 2, by omega, rfl, rfl, ?_, ?_⟩
    · have h := made_own (T := 3) _ _ (Nat.le_of_eq hs)
      rw [← hs] at h
      exact h
    · exact hF.below_ ((Below.refl _ _).alloc (Nat.le_refl _) _)
  case round =>
    obtain ⟨k, g, c, hk, rfl, rfl, ho, hf⟩ := hrel
    have hcell := hf.arg
    have hsz := hf.size
    have HO := Lib.hid ho; have HFS := Lib.hid hf
    clear ho hf HF
    have kk : k = 0 ∨ k = 1 := by omega
    rcases kk with rfl | rfl
    · go_wp2_with (first
        | (at_builtin; refine wpList_appL _ rfl (.tmp 33) (.tmp 36) 38 rfl (w.heap.size + 4) 3 (.int .i64 0) 1 8 Try.underlying38 infoInt rfl (by decide) _ 0 _ rfl HO.out #[.int .i64 5] 1 rfl rfl (by simp [Value.oneCell']) (by decide) (by decide) (by decide) hsz ?_; intro g2 c2 w4 hown2 hg2 _; have HFS2 := Lib.hid (HFS.out.grown HO.out hg2); have HO2 := Lib.hid hown2; clear hown2 hg2))
      go_roundw
      case rel => exact ⟨1, g2, c2, by omega, rfl, rfl, HO2.out, HFS2.out⟩
      case measure => simp [intOf]
    · clear hcell
      go_wp2_with (first
        | (at_builtin; refine wpList_appL _ rfl (.tmp 42) (.tmp 43) 38 rfl (w.heap.size + 4) 3 (.int .i64 0) 1 8 Try.underlying38 infoInt rfl (by decide) _ 1 _ rfl HO.out #[.int .i64 3500] 1 rfl rfl (by simp [Value.oneCell']) (by decide) (by decide) (by decide) hsz ?_; intro g2 c2 w4 hown2 hg2 _; have HFS2 := Lib.hid (HFS.out.grown HO.out hg2); have HO2 := Lib.hid hown2; clear hown2 hg2))
      go_loopw [7] (fun l u => (∃ g c : Nat, l = .slice (some ⟨g, 0, none⟩) 2 c ∧ Hid (u.ownsRow (w.heap.size + 4) 3 1 (.slice (some ⟨g, 0, none⟩) 2 c) 2 [.int .i64 5, .int .i64 3500]) ∧ Hid (Fs w u)) ∨
        (∃ (A : Option Addr) (c gb cb gt ct : Nat), l = .slice A 0 c ∧ Hid (Dn w u gb cb gt ct))) (fun l _ => lenOf l)
      case atStart => exact .inl ⟨g2, c2, rfl, HO2.out, HFS2⟩
      case round =>
        rcases hrel with ⟨g, c, rfl, HO, HFS⟩ | ⟨A, c, gb, cb, gt, ct, rfl, HD⟩
        · obtain ⟨wo, rfl⟩ : ∃ wo : World, wo = wr := ⟨_, rfl⟩
          have t0 : wo.cell? ⟨w.heap.size + 1 + 1 + 1, 2, none⟩ = some (.slice (some ⟨w.heap.size + 1 + 1, 0, none⟩) 1 1) := HFS.out.tape.cell 2
          have tlt := HFS.out.tape.lt
          have hcs := HO.out.cells (g := g) rfl
          have l0 : wo.cell? ⟨g, 0, none⟩ = some (.int .i64 5) := hcs 0 _ rfl
          have l1 : wo.cell? ⟨g, 0 + 1, none⟩ = some (.int .i64 3500) := hcs 1 _ rfl
          have hc2 : 2 ≤ c := by
            rcases HO.out.2 with ⟨e, _⟩ | ⟨g', c', cur, e, _, _, h2, _⟩
            · cases e
            · injection e with e1 e2 e3; omega
          clear hcs
          obtain ⟨W5, hW5⟩ : ∃ W5, W5 = wo.alloc (.cells #[.int .i64 19, .int .i64 0, .int .i64 0, .int .i64 0, .int .i64 0, .int .i64 0, .int .i64 0, .int .i64 0, .int .i64 0, .int .i64 0, .int .i64 0, .int .i64 0, .slice none 0 0, .slice (some ⟨g, 0, none⟩) 2 2, .slice none 0 0, .slice none 0 0, .slice none 0 0, .slice none 0 0] 87) := ⟨_, rfl⟩
          have x5 : Below wo.heap.size wo W5 := by rw [hW5]; exact (Below.refl _ _).alloc (Nat.le_refl _) _
          have B5 : Hid (Blk W5 wo.heap.size 87 (blk19 g)) := by show Blk _ _ _ _; rw [hW5]; exact Blk.new wo _ _
          have HF5 := Lib.hid (HFS.out.below_ x5)
          have HO5 : Hid (W5.ownsRow (w.heap.size + 4) 3 1 (.slice (some ⟨g, 0, none⟩) 2 c) 2 [.int .i64 5, .int .i64 3500]) := by
            have h := HO.out.alloc (.cells #[.int .i64 19, .int .i64 0, .int .i64 0, .int .i64 0, .int .i64 0, .int .i64 0, .int .i64 0, .int .i64 0, .int .i64 0, .int .i64 0, .int .i64 0, .int .i64 0, .slice none 0 0, .slice (some ⟨g, 0, none⟩) 2 2, .slice none 0 0, .slice none 0 0, .slice none 0 0, .slice none 0 0] 87)
            rw [← hW5] at h
            exact h
          have HW5 := Lib.hid hW5
          clear hW5 x5
          have hone : (#[.int .i64 19, .int .i64 0, .int .i64 0, .int .i64 0, .int .i64 0, .int .i64 0, .int .i64 0, .int .i64 0, .int .i64 0, .int .i64 0, .int .i64 0, .int .i64 0, .slice none 0 0, .slice (some ⟨g, 0, none⟩) 2 2, .slice none 0 0, .slice none 0 0, .slice none 0 0, .slice none 0 0] : Array Value).all (·.oneCell') = true := by simp [Value.oneCell']
          go_wp2_with (first
            | (go_at_call 39; refine (shorts_two ⟨g, 0, none⟩ c _ l0 l1).mono ?_; rintro e w5 ⟨rfl, rfl⟩)
            | (refine wpList_store_rowTo rfl 87 (.tmp 11) (.tmp 59) rfl rfl wo.heap.size _ rfl rfl 87 _ (heap_alloc_new wo _) sizeBlock rfl hone ?_; rw [World.setRow_alloc_new, ← HW5.out]))
          clear t0 tlt l0 l1 hone
          have y0 : W5.cell? ⟨wo.heap.size, 0, none⟩ = some (.int .i64 19) := B5.out.cell 0
          have y1 : W5.cell? ⟨wo.heap.size, 1, none⟩ = some (.int .i64 0) := B5.out.cell 1
          have y2 : W5.cell? ⟨wo.heap.size, 2, none⟩ = some (.int .i64 0) := B5.out.cell 2
          have y3 : W5.cell? ⟨wo.heap.size, 3, none⟩ = some (.int .i64 0) := B5.out.cell 3
          have y4 : W5.cell? ⟨wo.heap.size, 4, none⟩ = some (.int .i64 0) := B5.out.cell 4
          have y5 : W5.cell? ⟨wo.heap.size, 5, none⟩ = some (.int .i64 0) := B5.out.cell 5
          have y6 : W5.cell? ⟨wo.heap.size, 6, none⟩ = some (.int .i64 0) := B5.out.cell 6
          have y7 : W5.cell? ⟨wo.heap.size, 7, none⟩ = some (.int .i64 0) := B5.out.cell 7
          have y8 : W5.cell? ⟨wo.heap.size, 8, none⟩ = some (.int .i64 0) := B5.out.cell 8
          have y9 : W5.cell? ⟨wo.heap.size, 9, none⟩ = some (.int .i64 0) := B5.out.cell 9
          have y10 : W5.cell? ⟨wo.heap.size, 10, none⟩ = some (.int .i64 0) := B5.out.cell 10
          have y11 : W5.cell? ⟨wo.heap.size, 11, none⟩ = some (.int .i64 0) := B5.out.cell 11
          have y12 : W5.cell? ⟨wo.heap.size, 12, none⟩ = some (.slice none 0 0) := B5.out.cell 12
          have y13 : W5.cell? ⟨wo.heap.size, 13, none⟩ = some (.slice (some ⟨g, 0, none⟩) 2 2) := B5.out.cell 13
          have y14 : W5.cell? ⟨wo.heap.size, 14, none⟩ = some (.slice none 0 0) := B5.out.cell 14
          have y15 : W5.cell? ⟨wo.heap.size, 15, none⟩ = some (.slice none 0 0) := B5.out.cell 15
          have y16 : W5.cell? ⟨wo.heap.size, 16, none⟩ = some (.slice none 0 0) := B5.out.cell 16
          have y17 : W5.cell? ⟨wo.heap.size, 17, none⟩ = some (.slice none 0 0) := B5.out.cell 17
          have t0 : W5.cell? ⟨w.heap.size + 1 + 1 + 1, 2, none⟩ = some (.slice (some ⟨w.heap.size + 1 + 1, 0, none⟩) 1 1) := HF5.out.tape.cell 2
          have tlt := HF5.out.tape.lt
          have tlt2 : w.heap.size + 1 + 1 + 1 < W5.heap.size + 1 := by omega
          have hsz2 := HF5.out.size
          have HOW := Lib.hid (first_own HF5.out)
          go_region_law (refine step_appL (W5.drew) rfl (.tmp 67) (.tmp 69) 24 rfl (w.heap.size + 1 + 1) 87 _ 18 240 Try.underlying24 infoBlock rfl (by decide) (.slice (some ⟨w.heap.size + 1 + 1, 0, none⟩) 1 1) 1 blk43 rfl (HOW.out.drew) #[.int .i64 19, .int .i64 0, .int .i64 0, .int .i64 0, .int .i64 0, .int .i64 0, .int .i64 0, .int .i64 0, .int .i64 0, .int .i64 0, .int .i64 0, .int .i64 0, .slice none 0 0, .slice (some ⟨g, 0, none⟩) 2 2, .slice none 0 0, .slice none 0 0, .slice none 0 0, .slice none 0 0] 1 rfl rfl (by simp [Value.oneCell']) (by decide) (by decide) (by decide) (by show _ ≤ W5.heap.size; omega) ?_; intro gb cb w6 hown6 hg6; have T6 := (HF5.out.tape.below_ ((Below.refl _ W5).drew)).grown hg6 (by intro e; simp [Value.ownBlock] at e); have q2 : w6.cell? ⟨w.heap.size + 1 + 1 + 1, 2, none⟩ = some (.slice (some ⟨w.heap.size + 1 + 1, 0, none⟩) 1 1) := T6.cell 2; have qf := T6.frozen 2; replace T6 := Lib.hid T6; have G6 := Lib.hid hg6; have O6 := Lib.hid hown6; clear hg6 hown6)
          all_goals
            go_wp2_with fail
            go_roundw
          all_goals first
            | exact .inr ⟨_, _, gb, cb, g, 2, rfl, Dn.make HF5.out HO5.out ((Below.refl _ W5).drew) G6.out O6.out⟩
            | exact ⟨⟨gb, cb, g, 2, Dn.make HF5.out HO5.out ((Below.refl _ W5).drew) G6.out O6.out⟩, by show (0 : Nat) < 2; omega⟩
            | exact ⟨gb, cb, g, 2, Dn.make HF5.out HO5.out ((Below.refl _ W5).drew) G6.out O6.out⟩
            | (show (0 : Nat) < 2; omega)
        · have u0 := HD.out.tape.cell 0
          have u1 := HD.out.tape.cell 1
          have u2 := HD.out.tape.cell 2
          have z0 := HD.out.zero.cell 0
          have z1 := HD.out.zero.cell 1
          have z2 := HD.out.zero.cell 2
          have f0 := HD.out.zero.frozen 0
          have f1 := HD.out.zero.frozen 1
          have f2 := HD.out.zero.frozen 2
          simp only [List.getElem?_cons_zero, List.getElem?_cons_succ] at u0 u1 u2 z0 z1 z2
          go_wp2_with fail
          refine bodyPost_ret (v := .tuple #[.agg #[.int .i64 1, .int .i64 20, .slice (some ⟨gb, 0, none⟩) 2 cb], .int .i64 0]) (by simp [results, Try.results12, go_sem, z0, z1, z2]) rfl ?_
          exact Five.mk' HD.out _ _ _
end Go.Proofs.Ytoejmjhfecppcaa
