/- tzx.parser: block. Its last region was written by gen_rdt.py. -/
import Derived.Test.YtokidpajialgbaaQG41
import Derived.Test.YtokidpajialgbaaQUnt
namespace Go.Proofs.Ytokidpajialgbaa
set_option linter.unusedSimpArgs false
set_option linter.unusedVariables false
open Go.RowKit
theorem infoBlkT : (Try.prog.info? 28).map (·.size) = some 18 := by kernel_rfl
theorem infoBlkR : (Try.prog.info? 28).map (fun i => (i.zero, i.size, i.bytes)) = some (some (.agg #[.int .i64 0, .int .i64 0, .int .i64 0, .int .i64 0, .int .i64 0, .int .i64 0, .int .i64 0, .int .i64 0, .int .i64 0, .int .i64 0, .int .i64 0, .int .i64 0, .slice none 0 0, .slice none 0 0, .slice none 0 0, .slice none 0 0, .slice none 0 0, .slice none 0 0]), 18, 240) := by kernel_rfl
/-- a block's load, under one name -/
def IsLDR (LD : Nat → World → Result Value) : Prop := ∀ (g : Nat) (u : World), (loadVar 28 ⟨g, 0, none⟩).run Try.prog u = LD g u
theorem some_LDR : ∃ LD, IsLDR LD := ⟨fun g u => (loadVar 28 ⟨g, 0, none⟩).run Try.prog u, fun _ _ => rfl⟩
theorem LDR_of {LD : Nat → World → Result Value} (hl : IsLDR LD) {w : World} {g : Nat} {C : Array Value} (hs : some 18 = some C.size) (h : w.heap[g]? = some (.cells C 28 (0, 0))) : LD g w = .ok (.agg C) w :=
  (hl g w).symm.trans (run_loadVar_row (P := Try.prog) w g 28 28 C (0, 0) _ h Try.underlying28 rfl (infoBlkT.trans hs))
set_option maxRecDepth 100000 in
set_option maxHeartbeats 2000000 in
theorem buildTB (u : World) (B : TB) (d t i p s r : Value) : (Instr.buildSlice 31 1 #[(0, .agg (B.cells d t i p s r).toArray)]).run Try.prog u = .ok (.slice (some ⟨u.heap.size, 0, none⟩) 1 1) (u.alloc (.cells (B.cells d t i p s r).toArray 28)) := by
  obtain ⟨i0, hi, hz0, hz1, hz2⟩ := info_parts infoBlkR
  refine run_buildSlice u 31 28 1 _ (B.cells d t i p s r).toArray i0 _ Try.underlying31 hi hz0 (by rw [hz1]; decide) (by rw [hz1]; decide) ?_
  rw [hz1]
  kernel_rfl
/-- a parser, with the blocks that it has read -/
structure ParIn (w : World) (B0 R P : Nat) (A : Addr) (n c : Nat) (L : List Int) (st : Rd.St) (bl sv : Value) (l : List TB) (starts : List Int) : Prop where
  par : Blk w P 71 [.pointer (some ⟨R, 0, none⟩), bl, sv]
  rd : RdIs w R A n c L st
  own : ∃ cs, w.ownsRow B0 28 18 bl l.length cs ∧ TBs w sv.ownBlock cs l
  sta : w.ownsRow B0 3 1 sv l.length (starts.map (.int .i64 ·))
  lo : B0 ≤ R ∧ R < P
/-- memory while a block is put behind the others -/
structure BS (B0 P R b : Nat) (A : Addr) (n c : Nat) (L : List Int) (st : Rd.St) (C : Array Value) (bl sv : Value) (w3 u : World) (v : Value) (nb : Nat) (xb : List Value) (z : Value) (ns : Nat) (xs : List Value) : Prop where
  par : Blk u P 71 [.pointer (some ⟨R, 0, none⟩), bl, sv]
  bk : u.heap[b]? = some (.cells C 28 (0, 0))
  be : Below B0 w3 u
  kx : KeepX sv.ownBlock w3 u
  rd : RdIs u R A n c L st
  ob : u.ownsRow B0 28 18 v nb xb
  os : u.ownsRow B0 3 1 z ns xs
  sz : w3.heap.size ≤ u.heap.size
  lo : B0 ≤ w3.heap.size
section
variable {B0 P R b n c nb ns : Nat} {A : Addr} {L : List Int} {st : Rd.St} {C : Array Value} {bl sv v z : Value} {w3 u u' : World} {xb xs : List Value}
theorem BS.below (h : BS B0 P R b A n c L st C bl sv w3 u v nb xb z ns xs) (hb : Below u.heap.size u u') : BS B0 P R b A n c L st C bl sv w3 u' v nb xb z ns xs :=
  ⟨h.par.below_ hb, (hb.block b (heap_lt h.bk)).trans h.bk, h.be.trans (hb.mono (Nat.le_trans h.lo h.sz)), h.kx.trans (keepX_below hb), h.rd.below hb, own_below h.ob hb, own_below h.os hb, Nat.le_trans h.sz hb.size, h.lo⟩
theorem blk_own_kept {w w' : World} {base size n g : Nat} {e t : TypeId} {v : Value} {xs cs : List Value} (hb : Blk w g t cs) (ho : w.ownsRow base e size v n xs) (hne : t ≠ e) (hg : w.grownBy w' v.ownBlock) : Blk w' g t cs := by
  rcases own_none_or ho with h4 | ⟨g', h4, h5, d, cur, rfl, h6⟩
  · rw [h4] at hg; exact hb.below_ (below_of_none hg)
  · rw [h4] at hg
    refine hb.grown hg (fun e1 => ?_)
    have : g = g' := Option.some.inj e1
    subst this
    unfold Blk at hb
    rw [h6] at hb
    injection hb with hb
    injection hb with _ hb
    exact hne hb.symm
/-- a row of the call's own grew, that isn't the reader: the reader stays -/
theorem rd_own' {w w' : World} {R base size m : Nat} {A : Addr} {n c : Nat} {L : List Int} {s : Rd.St} {e : TypeId} {v : Value} {xs : List Value} (h : RdIs w R A n c L s) (ho : w.ownsRow base e size v m xs) (he : e ≠ 66) (hR : ∀ g, v.ownBlock = some g → R ≠ g) (hA : A.block < base) (hg : w.grownBy w' v.ownBlock) : RdIs w' R A n c L s := by
  rcases own_none_or ho with h1 | ⟨g, h1, h2, d, cur, rfl, h3⟩
  · rw [h1] at hg; exact h.below (below_of_none hg)
  · rw [h1] at hg
    have hb := own_no_fault ho he
    have hRg := hR g h1
    obtain ⟨bv, e1, e2⟩ := h.rdr
    refine ⟨⟨bv, e1.grown hg (by intro e; exact hRg (Option.some.inj e)), ?_⟩, Cells.grown h.ints hg (fun ad e => .inr (by injection e with e; rw [← e]; omega)), h.len, h.byt, h.lt, h.cap, h.big, h.le⟩
    obtain ⟨k, bad⟩ := s
    cases bad with
    | none => exact e2
    | some q =>
      obtain ⟨E, p⟩ := q
      obtain ⟨f, f1, f2⟩ := e2
      exact ⟨f, f1, f2.grown hg (by intro e; have : f = g := Option.some.inj e
                                    exact hb _ (this ▸ f2))⟩
theorem BS.appB {v' : Value} {nb' : Nat} {xb' : List Value} (h : BS B0 P R b A n c L st C bl sv w3 u v nb xb z ns xs) (hv : ∀ g, v.ownBlock = some g → g < b) (hR : B0 ≤ R) (hRv : ∀ g, v.ownBlock = some g → R ≠ g) (hA : A.block < B0) (ho : u'.ownsRow B0 28 18 v' nb' xb') (hg : u.grownBy u' v.ownBlock) : BS B0 P R b A n c L st C bl sv w3 u' v' nb' xb' z ns xs := by
  refine ⟨blk_own_kept h.par h.ob (by decide) hg, ?_, ?_, h.kx.trans (keepX_own h.ob (.inl (by decide)) hg), ?_, ho, own_apart2 h.os h.ob (by decide) hg, Nat.le_trans h.sz hg.size, h.lo⟩
  · exact (hg.block b (heap_lt h.bk) (fun e => by have := hv b e.symm; omega)).trans h.bk
  · exact Below_own h.be h.ob hg (Nat.le_refl _) (Nat.le_trans h.lo h.sz)
  · exact rd_own' h.rd h.ob (by decide) hRv hA hg
theorem BS.appS {z' : Value} {ns' : Nat} {xs' : List Value} (h : BS B0 P R b A n c L st C bl sv w3 u v nb xb sv ns xs) (hR : B0 ≤ R) (hRv : ∀ g, sv.ownBlock = some g → R ≠ g) (hA : A.block < B0) (ho : u'.ownsRow B0 3 1 z' ns' xs') (hg : u.grownBy u' sv.ownBlock) : BS B0 P R b A n c L st C bl sv w3 u' v nb xb z' ns' xs' := by
  refine ⟨blk_own_kept h.par h.os (by decide) hg, ?_, ?_, h.kx.trans (keepX_own h.os (.inr rfl) hg), ?_, own_apart2 h.ob h.os (by decide) hg, ho, Nat.le_trans h.sz hg.size, h.lo⟩
  · have hb : Blk u b 28 C.toList := by unfold Blk; rw [h.bk]
    have := blk_own_kept hb h.os (by decide) hg
    unfold Blk at this
    rw [this]
  · exact Below_own h.be h.os hg (Nat.le_refl _) (Nat.le_trans h.lo h.sz)
  · exact rd_own' h.rd h.os (by decide) hRv hA hg
end
theorem sound_yes (P R b : Nat) (A : Addr) (n c : Nat) (L : List Int) (s : Rd.St) (id at_ : Int) (w : World) (h : Fill w R P b A n c L s (fresh id)) (hid : soundID id) :
    Calls Try.prog 65 #[.pointer (some ⟨P, 0, none⟩), .pointer (some ⟨b, 0, none⟩), .int .i64 at_] w (SndP R P b A n c L w (.bool true) (Rd.bodyM id at_ L s).1 (Rd.bodyM id at_ L s).2) := by
  have e : Rd.bodyM id at_ = Rd.soundM id at_ := by unfold Rd.bodyM; exact if_pos hid
  rw [e]
  clear e
  rcases hid with rfl | rfl | rfl | rfl | rfl | rfl | rfl | rfl | rfl
  · exact sound_16 P R b A n c L s at_ w h
  · exact sound_17 P R b A n c L s at_ w h
  · exact sound_18 P R b A n c L s at_ w h
  · exact sound_19 P R b A n c L s at_ w h
  · exact sound_20 P R b A n c L s at_ w h
  · exact sound_21 P R b A n c L s at_ w h
  · exact sound_24 P R b A n c L s at_ w h
  · exact sound_25 P R b A n c L s at_ w h
  · exact sound_32 P R b A n c L s at_ w h
theorem leads_yes (P R b : Nat) (A : Addr) (n c : Nat) (L : List Int) (s : Rd.St) (id at_ : Int) (w : World) (h : Fill w R P b A n c L s (fresh id)) (hid : leadsID id) :
    Calls Try.prog 66 #[.pointer (some ⟨P, 0, none⟩), .pointer (some ⟨b, 0, none⟩), .int .i64 at_] w (SndP R P b A n c L w (.bool true) (Rd.bodyM id at_ L s).1 (Rd.bodyM id at_ L s).2) := by
  have hn : ¬ soundID id := by unfold soundID; unfold leadsID at hid; omega
  have e : Rd.bodyM id at_ = Rd.leadsM id at_ := by unfold Rd.bodyM; exact (if_neg hn).trans (if_pos hid)
  rw [e]
  clear e hn
  rcases hid with rfl | rfl | rfl | rfl | rfl | rfl | rfl | rfl | rfl
  · exact leads_34 P R b A n c L s at_ w h
  · exact leads_37 P R b A n c L s at_ w h
  · exact leads_39 P R b A n c L s at_ w h
  · exact leads_35 P R b A n c L s at_ w h
  · exact leads_36 P R b A n c L s at_ w h
  · exact leads_38 P R b A n c L s at_ w h
  · exact leads_40 P R b A n c L s at_ w h
  · exact leads_42 P R b A n c L s at_ w h
  · exact leads_43 P R b A n c L s at_ w h
theorem tells_yes (P R b : Nat) (A : Addr) (n c : Nat) (L : List Int) (s : Rd.St) (id at_ : Int) (w : World) (h : Fill w R P b A n c L s (fresh id)) (h1 : ¬ soundID id) (h2 : ¬ leadsID id) :
    Calls Try.prog 67 #[.pointer (some ⟨P, 0, none⟩), .pointer (some ⟨b, 0, none⟩), .int .i64 at_] w (SndP R P b A n c L w (.tuple #[]) (Rd.bodyM id at_ L s).1 (Rd.bodyM id at_ L s).2) := by
  have e : Rd.bodyM id at_ = Rd.tellsM id at_ := by unfold Rd.bodyM; exact (if_neg h1).trans (if_neg h2)
  rw [e]
  clear e
  by_cases hid : id = 33 ∨ id = 48 ∨ id = 49 ∨ id = 50 ∨ id = 51 ∨ id = 52 ∨ id = 53 ∨ id = 90
  · rcases hid with rfl | rfl | rfl | rfl | rfl | rfl | rfl | rfl
    · exact tells_33 P R b A n c L s at_ w h
    · exact tells_48 P R b A n c L s at_ w h
    · exact tells_49 P R b A n c L s at_ w h
    · exact tells_50 P R b A n c L s at_ w h
    · exact tells_51 P R b A n c L s at_ w h
    · exact tells_52 P R b A n c L s at_ w h
    · exact tells_53 P R b A n c L s at_ w h
    · exact tells_90 P R b A n c L s at_ w h
  · exact tells_any P R b A n c L s id at_ w h hid
/-- a block has been read into b -/
def Mid (w2 wx : World) (R P b : Nat) (A : Addr) (n c : Nat) (L : List Int) (st : Rd.St) (B : TB) : Prop := ∃ d t i p s r, Fill wx R P b A n c L st (B.cells d t i p s r) ∧ TB.Rows wx (b + 1) B d t i p s r ∧ Grew2 R b w2 wx
theorem Mid.of {w2 w1 wx : World} {R P b : Nat} {A : Addr} {n c : Nat} {L : List Int} {st : Rd.St} {B : TB} {v : Value} {e : Ending} (hs : b + 1 ≤ w1.heap.size) (hg : Grew2 R b w2 w1) (h : SndP R P b A n c L w1 v B st e wx) : Mid w2 wx R P b A n c L st B := by
  obtain ⟨_, ⟨d, t, i, p, s, r, h1, h2⟩, h3⟩ := h
  exact ⟨d, t, i, p, s, r, h1, ⟨h2.d.mono hs, h2.t.mono hs, h2.i.mono hs, h2.p.mono hs, h2.s.mono hs, h2.r.mono hs⟩, hg.trans h3⟩
/-- a block was read, and put behind the others -/
def BlockP (B0 R P : Nat) (A : Addr) (n c : Nat) (L : List Int) (w : World) (X : Option Nat) (st : Rd.St) (l : List TB) (starts : List Int) (e : Ending) (w' : World) : Prop :=
  e = .returned (.tuple #[]) ∧ ∃ bl sv, ParIn w' B0 R P A n c L st bl sv l starts ∧ Below B0 w w' ∧ KeepX X w w'
theorem block_mid {w w2 wa w3 : World} {B0 P R b n c m : Nat} {A : Addr} {L : List Int} {s s1 : Rd.St} {bl sv : Value} {l : List TB} {starts : List Int} {cs : List Value} (h : ParIn w B0 R P A n c L s bl sv l starts) (hlen : l.length = m) (hg : w.grownBy w2 (some R)) (hb : Below w2.heap.size w2 wa) (hR : ∃ bv, Blk w2 R 100 [.slice (some A) n c, .int .i64 s1.k, bv] ∧ BadAt w2 bv s1.bad) (hbb : Blk wa b 28 cs) (hgr : Grew2 R b wa w3)
    (hv : ∀ g, bl.ownBlock = some g → g < b) (hx : ∀ g, sv.ownBlock = some g → g < b) (hB0 : B0 ≤ w.heap.size) (hbB : B0 ≤ b) :
    ∃ xb, Hid (w3.ownsRow B0 28 18 bl m xb) ∧ Hid (TBs w3 sv.ownBlock xb l) ∧ Hid (w3.ownsRow B0 3 1 sv m (starts.map (.int .i64 ·))) ∧ Hid (Blk w3 P 71 [.pointer (some ⟨R, 0, none⟩), bl, sv]) ∧ Hid (Below B0 w w3) ∧ Hid (KeepX sv.ownBlock w w3) := by
  obtain ⟨bv, hR2, -⟩ := hR
  obtain ⟨cs', ho, ht⟩ := h.own
  have hlo := h.lo
  obtain ⟨bv0, hR0, -⟩ := h.rd.rdr
  have hRa := hR2.below_ hb
  have k1 : KeepX sv.ownBlock w w2 := keepX_grown hR0 (by decide) hg
  have k2 : KeepX sv.ownBlock w w3 := (k1.trans (keepX_below hb)).trans (keepX_grew2 hRa (by decide) hbb (by decide) hgr)
  have hPa : Blk wa P 71 [.pointer (some ⟨R, 0, none⟩), bl, sv] := (h.par.grown hg (fun e => by have := Option.some.inj e; omega)).below_ hb
  have hPb : P ≠ b := blk_ne hPa hbb (by decide)
  have keepB : ∀ g cur, bl.ownBlock = some g → w.heap[g]? = some (.cells cur 28 (0, 0)) → w3.heap[g]? = w.heap[g]? := fun g cur e hh => by
    have h1 : g ≠ R := type_of_blk hR0 hh (by decide)
    have h2 : w2.heap[g]? = w.heap[g]? := hg.block g (heap_lt hh) (fun e => h1 (Option.some.inj e))
    have h3 : wa.heap[g]? = w2.heap[g]? := hb.block g (heap_lt (h2.trans hh))
    rw [hgr.block g (heap_lt ((h3.trans h2).trans hh)) h1 (by have := hv g e; omega), h3, h2]
  refine ⟨cs', ?_, ?_, ?_, ?_, ?_, k2⟩
  · rw [← hlen]; exact own_keep ho keepB
  · exact ht.map fun B d t i p s r hx => hx.keep k2
  · rw [← hlen]
    refine own_keep h.sta fun g cur e hh => ?_
    have h1 : g ≠ R := type_of_blk hR0 hh (by decide)
    have h2 : w2.heap[g]? = w.heap[g]? := hg.block g (heap_lt hh) (fun e => h1 (Option.some.inj e))
    have h3 : wa.heap[g]? = w2.heap[g]? := hb.block g (heap_lt (h2.trans hh))
    rw [hgr.block g (heap_lt ((h3.trans h2).trans hh)) h1 (by have := hx g e; omega), h3, h2]
  · unfold Blk at hPa ⊢
    rw [hgr.block P (heap_lt hPa) (by omega) hPb]
    exact hPa
  · have s1 := hg.size
    have s2 := hb.size
    have s3 := hgr.size
    refine ⟨hgr.os.trans (hb.os.trans hg.os), hgr.tape.trans (hb.tape.trans hg.tape), hgr.output.trans (hb.output.trans hg.output), by omega, fun k hk => ?_⟩
    rw [hgr.block k (by omega) (by omega) (by omega), hb.block k (by omega), hg.block k (by omega) (fun e => by have := Option.some.inj e; omega)]
theorem block_done {B0 R P b m kk : Nat} {A : Addr} {n c : Nat} {L : List Int} {st : Rd.St} {C : Array Value} {bl sv : Value} {w w3 u : World} {xb : List Value} {l : List TB} {starts : List Int} {B : TB} {d t i p s r : Value} {v' z' : Value}
    (h : BS B0 P R b A n c L st C bl sv w3 u v' (m + 1) (xb ++ C.toList) z' (m + 1) (starts.map (.int .i64 ·) ++ [.int .i64 (kk : Int)])) (hC : C.toList = B.cells d t i p s r) (hm : l.length = m) (hl : TBs w3 sv.ownBlock xb l) (hB : TB.Held w3 sv.ownBlock B d t i p s r)
    (hb3 : Below B0 w w3) (hk3 : KeepX sv.ownBlock w w3) (hlo : B0 ≤ R ∧ R < P) (hmv : z'.ownBlock = sv.ownBlock ∨ ∃ g, z'.ownBlock = some g ∧ w3.heap.size ≤ g) :
    BlockP B0 R P A n c L w sv.ownBlock st (l ++ [B]) (starts ++ [(kk : Int)]) (.returned (.tuple #[])) ((u.setCell ⟨P, 1, none⟩ v').setCell ⟨P, 2, none⟩ z') := by
  have hg : u.grownBy ((u.setCell ⟨P, 1, none⟩ v').setCell ⟨P, 2, none⟩ z') (some P) := grownBy_setCell (grownBy_setCell (grownBy_refl u _) 1 _) 2 _
  have hkk := h.kx.trans (keepX_grown h.par (by decide) hg)
  have hmv2 : z'.ownBlock = sv.ownBlock ∨ ∃ g, z'.ownBlock = some g ∧ w3.heap.size ≤ g := hmv
  have hll : (l ++ [B]).length = m + 1 := by simp [hm]
  refine ⟨rfl, v', z', ⟨(h.par.set_ 1 _).set_ 2 _, h.rd.grown h.par (by decide) hlo.2 hg, ⟨xb ++ C.toList, ?_, ?_⟩, ?_, hlo⟩, ?_, hk3.trans hkk⟩
  · rw [hll]; exact own_blk_ne h.ob h.par (by decide) hg
  · rw [hC]
    exact (hl.map fun B d t i p s r hx => hx.move hkk hmv2).snoc (hB.move hkk hmv2)
  · rw [hll, List.map_append]; exact own_blk_ne h.os h.par (by decide) hg
  · exact ((hb3.trans h.be).setCell (by show B0 ≤ P; omega) _).setCell (by show B0 ≤ P; omega) _
set_option maxRecDepth 100000 in
set_option maxHeartbeats 16000000 in
theorem tzBlock (B0 P R : Nat) (A : Addr) (n c : Nat) (L : List Int) (s : Rd.St) (bl sv : Value) (l : List TB) (starts : List Int) (m : Nat) (w : World) (h : ParIn w B0 R P A n c L s bl sv l starts) (hlen : l.length = m) (hm : m ≤ 5000) (hA : A.block < B0) (hB0 : B0 ≤ w.heap.size) (hRv : (∀ g, bl.ownBlock = some g → R ≠ g) ∧ (∀ g, sv.ownBlock = some g → R ≠ g)) :
    Calls Try.prog 37 #[.pointer (some ⟨P, 0, none⟩)] w (BlockP B0 R P A n c L w sv.ownBlock (Rd.blockM L s).2 (l ++ [(Rd.blockM L s).1]) (starts ++ [(s.k : Int)])) := by
  obtain ⟨kk, hkk⟩ : ∃ kk, kk = s.k := ⟨_, rfl⟩
  rw [← hkk]
  have HAT := rdAt R A n c L s w h.rd
  rw [← hkk] at HAT
  have HAT := Lib.hid HAT
  have HNM := Lib.hid (rdNumber R A n c L s 1 w h.rd (by omega) (by omega))
  obtain ⟨id, s1, hM1⟩ : ∃ x t, Rd.num 1 L s = (x, t) := ⟨_, _, rfl⟩
  rw [hM1] at HNM
  have hT : Rd.blockM L s = Rd.bodyM id kk L s1 := by
    unfold Rd.blockM Rd.bind
    rw [hM1, hkk]
  obtain ⟨B, s2, hM2⟩ : ∃ x t, Rd.bodyM id kk L s1 = (x, t) := ⟨_, _, rfl⟩
  rw [hT, hM2]
  have HM2 := Lib.hid hM2
  have H := Lib.hid h
  have p0 : w.cell? ⟨P, 0, none⟩ = some (.pointer (some ⟨R, 0, none⟩)) := h.par.cell 0
  have hPR : P ≠ R := by have := h.lo; omega
  have hPl := h.par.lt
  have hlo := h.lo
  have HRB := Lib.hid hRv.1
  have HRS := Lib.hid hRv.2
  have HLEN := Lib.hid hlen
  clear h hM1 hM2 hT hkk hRv hlen
  go_enter Try.func37, Try.ntmps37
  go_upto_region 2 with (first
    | (refine wpList_store_rowTo rfl 28 (.tmp 3) (.tmp 14) rfl rfl w2.heap.size _ rfl rfl 28 _ (heap_alloc_new w2 _) infoBlkT (by rfl) (by simp [Value.oneCell']) ?_; rw [World.setRow_alloc_new])
    | (go_at_call 36; refine HAT.out.mono ?_; rintro e w1 ⟨rfl, rfl⟩)
    | (go_at_call 33; refine HNM.out.mono ?_; rintro e w2 ⟨rfl, hr2, hg2⟩; have HR2 := Lib.hid hr2; have HG2 := Lib.hid hg2; have hsz2 := hg2.size; clear hr2 hg2))
  obtain ⟨wa, hwa⟩ : ∃ x, x = w2.alloc (.cells (fresh id).toArray 28) := ⟨_, rfl⟩
  have HBA : Hid (Below w2.heap.size w2 wa) := by show Below _ _ _; rw [hwa]; exact (Below.refl _ w2).alloc (Nat.le_refl _) _
  have hsa : wa.heap.size = w2.heap.size + 1 := by rw [hwa]; simp
  have HFA : Hid (Fill wa R P w2.heap.size A n c L s1 (fresh id)) := by
    refine ⟨by rw [hwa]; exact Blk.new w2 _ _, HR2.out.below HBA.out, cell_below (par_grown p0 hPR HG2.out) HBA.out, by have := HR2.out.lt_; omega, hPR, by omega⟩
  have hwa2 : wa = w2.alloc (.cells #[.int .i64 id, .int .i64 0, .int .i64 0, .int .i64 0, .int .i64 0, .int .i64 0, .int .i64 0, .int .i64 0, .int .i64 0, .int .i64 0, .int .i64 0, .int .i64 0, .slice none 0 0, .slice none 0 0, .slice none 0 0, .slice none 0 0, .slice none 0 0, .slice none 0 0] 28) := hwa
  rw [← hwa2]
  clear hwa hwa2
  go_cut [24] (fun t wx => ∃ z : Bool, t = .bool z ∧ ((z = false ∧ Hid (Mid wa wx R P w2.heap.size A n c L s2 B)) ∨ (z = true ∧ Hid (¬ soundID id ∧ ¬ leadsID id) ∧ Hid (Below wa.heap.size wa wx))))
  case first =>
    by_cases h1 : soundID id
    · have HSO := sound_yes P R w2.heap.size A n c L s1 id kk wa HFA.out h1
      rw [HM2.out] at HSO
      have HSO := Lib.hid HSO
      go_wp2_with (first
        | (go_at_call 65; refine HSO.out.mono ?_; intro e w3 hp; have HP := Lib.hid hp; obtain rfl := hp.1; clear hp))
      go_meet
      exact ⟨false, rfl, .inl ⟨rfl, Mid.of (by omega) (grew2_of (grownBy_refl wa _)) HP.out⟩⟩
    · have HSN := Lib.hid (sound_not P R w2.heap.size A n c L s1 id kk wa HFA.out h1)
      by_cases h2 : leadsID id
      · have HSO := leads_yes P R w2.heap.size A n c L s1 id kk wa HFA.out h2
        rw [HM2.out] at HSO
        have HSO := Lib.hid HSO
        go_wp2_with (first
          | (go_at_call 65; refine HSN.out.mono ?_; rintro e w3 ⟨rfl, rfl⟩)
          | (go_at_call 66; refine HSO.out.mono ?_; intro e w3 hp; have HP := Lib.hid hp; obtain rfl := hp.1; clear hp))
        go_meet
        exact ⟨false, rfl, .inl ⟨rfl, Mid.of (by omega) (grew2_of (grownBy_refl wa _)) HP.out⟩⟩
      · have HLN := Lib.hid (leads_not P R w2.heap.size A n c L s1 id kk wa HFA.out h2)
        go_wp2_with (first
          | (go_at_call 65; refine HSN.out.mono ?_; rintro e w3 ⟨rfl, rfl⟩)
          | (go_at_call 66; refine HLN.out.mono ?_; rintro e w3 ⟨rfl, hb3⟩; have HB3 := Lib.hid hb3; clear hb3))
        go_meet
        exact ⟨true, rfl, .inr ⟨rfl, Lib.hid ⟨h1, h2⟩, HB3⟩⟩
  case rest =>
    obtain ⟨z, ht, hz⟩ := hcut
    have HTT := Lib.hid ht
    have HZ := Lib.hid hz
    clear ht hz
    go_wp2_with fail
    obtain rfl := HTT.out
    have hz := HZ.out
    obtain ⟨wm, rfl⟩ : ∃ x : World, x = wc := ⟨_, rfl⟩
    go_cut [] (fun wx => Hid (Mid wa wx R P w2.heap.size A n c L s2 B))
    case first =>
      rcases hz with ⟨rfl, HMD⟩ | ⟨rfl, HNO, HBX⟩
      · go_wp2_with fail
        go_meet
        exact HMD
      · have HTE := tells_yes P R w2.heap.size A n c L s1 id kk wm (HFA.out.below HBX.out) HNO.out.1 HNO.out.2
        rw [HM2.out] at HTE
        have HTE := Lib.hid HTE
        go_wp2_with (first
          | (go_at_call 67; refine HTE.out.mono ?_; intro e w3 hp; have HP := Lib.hid hp; obtain rfl := hp.1; clear hp))
        go_meet
        exact Mid.of (by have := HBX.out.size; omega) (grew2_of (grownBy_below HBX.out)) HP.out
    case rest =>
      obtain ⟨w3, rfl⟩ : ∃ x : World, x = wc := ⟨_, rfl⟩
      clear hz
      obtain ⟨d, t, i, p, s', r, hf, hrw, hgr⟩ := hcut.out
      obtain ⟨b, hb⟩ : ∃ b, b = w2.heap.size := ⟨_, rfl⟩
      rw [← hb] at hf hrw hgr ⊢
      obtain ⟨C, hC⟩ : ∃ C : Array Value, C = (B.cells d t i p s' r).toArray := ⟨_, rfl⟩
      have HF3 := Lib.hid hf
      have HGR := Lib.hid hgr
      have hC2 : C.toList = B.cells d t i p s' r := by rw [hC]
      have HCL := Lib.hid hC2
      have HCA : Hid (C = C.toList.toArray) := by show _ = _; simp
      have HS : Hid (some 18 = some C.size) := by show _ = _; rw [hC]; rfl
      have HC1 : Hid (C.all (·.oneCell') = true) := by
        show _ = _
        rw [hC]
        simp [TB.cells, hrw.d.one, hrw.t.one, hrw.i.one, hrw.p.one, hrw.s.one, own_one hrw.r, show ∀ x, (Value.int .i64 x).oneCell' = true from fun _ => rfl]
      have hBS : ∀ u : World, (Instr.buildSlice 31 1 #[(0, .agg C)]).run Try.prog u = .ok (.slice (some ⟨u.heap.size, 0, none⟩) 1 1) (u.alloc (.cells C 28)) := fun u => by rw [hC]; exact buildTB u B d t i p s' r
      simp [go_sem] at hBS
      have HRW := Lib.hid hrw
      have hb2 : B0 ≤ b := by omega
      have hb2_ : B0 ≤ w2.heap.size := by omega
      have hXb : Hid (∀ g, sv.ownBlock = some g → g < b) := fun g e => by have := (H.out.sta.lt g e).2; omega
      have HVB : Hid (∀ g, bl.ownBlock = some g → g < b) := fun g e => by obtain ⟨cs, h1, _⟩ := H.out.own; have := (h1.lt g e).2; omega
      have HLO : Hid (B0 ≤ R) := hlo.1
      obtain ⟨xb, HXB, HTB, HXS, HPAR, HB3, HK3⟩ : ∃ xb, Hid (w3.ownsRow B0 28 18 bl m xb) ∧ Hid (TBs w3 sv.ownBlock xb l) ∧ Hid (w3.ownsRow B0 3 1 sv m (starts.map (.int .i64 ·))) ∧ Hid (Blk w3 P 71 [.pointer (some ⟨R, 0, none⟩), bl, sv]) ∧ Hid (Below B0 w w3) ∧ Hid (KeepX sv.ownBlock w w3) := by
        rw [hb] at hXb HVB hgr
        exact block_mid H.out HLEN.out HG2.out HBA.out HR2.out.rdr (HFA.out.blk) hgr HVB.out hXb.out (by omega) hb2_
      obtain ⟨xs, hxs⟩ : ∃ xs, xs = starts.map (Value.int .i64 ·) := ⟨_, rfl⟩
      rw [← hxs] at HXS
      have HBW : Hid (BS B0 P R b A n c L s2 C bl sv w3 w3 bl m xb sv m xs) := ⟨HPAR.out, by have := HF3.out.blk; unfold Blk at this; rw [this, HCL.out.symm], Below.refl _ _, KeepX.refl _ _, HF3.out.rd, HXB.out, HXS.out, Nat.le_refl _, by have := HB3.out.size; omega⟩
      have HDONE : Hid (∀ gb cb gs cs u, BS B0 P R b A n c L s2 C bl sv w3 u (.slice (some ⟨gb, 0, none⟩) (m + 1) cb) (m + 1) (xb ++ C.toList) (.slice (some ⟨gs, 0, none⟩) (m + 1) cs) (m + 1) (xs ++ [.int .i64 (kk : Int)]) → (some gs = sv.ownBlock ∨ w3.heap.size ≤ gs) → BlockP B0 R P A n c L w sv.ownBlock s2 (l ++ [B]) (starts ++ [(kk : Int)]) (.returned (.tuple #[])) ((u.setCell ⟨P, 1, none⟩ (.slice (some ⟨gb, 0, none⟩) (m + 1) cb)).setCell ⟨P, 2, none⟩ (.slice (some ⟨gs, 0, none⟩) (m + 1) cs))) := fun gb cb gs cs u hbs hmv => by
        rw [hxs] at hbs
        exact block_done hbs HCL.out HLEN.out HTB.out (TB.Held.of HRW.out (fun g e => by have := hXb.out g e; omega)) HB3.out HK3.out hlo (hmv.elim (fun e => .inl e) (fun e => .inr ⟨gs, rfl, e⟩))
      have hw3s := HB3.out.size
      obtain ⟨LD, hl⟩ := some_LDR
      have HLD := Lib.hid hl
      have hN : ∀ u : World, (loadVar 28 ⟨b, 0, none⟩).run Try.prog u = LD b u := fun u => HLD.out _ u
      simp [go_sem, loadVar] at hN
      clear hC hC2 hf hrw hgr hxs hcut hb
      clear HAT HNM HM2 H HR2 HG2 HBA HFA HXB HTB HXS HPAR HB3 HK3 HRW HF3 HGR HLEN HCL hXb hb2_ hb2 hl
      go_upto_region 4 with fail
      refine until_start 18 (fun u => u.cell? ⟨P, 1, none⟩ = some bl ∧ u.cell? ⟨P, 2, none⟩ = some sv ∧ LD b u = .ok (.agg C) u) (by kernel_rfl) ?_
      have HKEEP : Hid (∀ u : World, Blk u P 71 [.pointer (some ⟨R, 0, none⟩), bl, sv] → u.heap[b]? = some (.cells C 28 (0, 0)) → (fun u : World => u.cell? ⟨P, 1, none⟩ = some bl ∧ u.cell? ⟨P, 2, none⟩ = some sv ∧ LD b u = .ok (.agg C) u) u) := fun u h1 h2 => ⟨h1.cell 1, h1.cell 2, LDR_of HLD.out HS.out h2⟩
      have hS : Hid ((fun u : World => u.cell? ⟨P, 1, none⟩ = some bl ∧ u.cell? ⟨P, 2, none⟩ = some sv ∧ LD b u = .ok (.agg C) u) w3.drew) := HKEEP.out _ (HBW.out.below ((Below.refl _ w3).drew)).par (HBW.out.below ((Below.refl _ w3).drew)).bk
      refine until_take (i := 0) (v := ?_) rfl (by kernel_rfl) (by kernel_rfl) (by kernel_rfl) rfl (fun _ _ _ h => h) (fun _ => hS.out) (Or.inl ⟨by rfl, ?_⟩) ?_
      rotate_left
      · (intro u _; go_simp; try with_reducible rfl)
      try simp only [Act.put, List.setIfInBounds_toArray, List.set_cons_zero, List.set_cons_succ]
      refine until_take (i := 1) (v := ?_) rfl (by kernel_rfl) (by kernel_rfl) (by kernel_rfl) rfl (fun _ _ _ h => h) (fun _ => hS.out) (Or.inl ⟨by rfl, ?_⟩) ?_
      rotate_left
      · (intro u _; go_simp; try with_reducible rfl)
      try simp only [Act.put, List.setIfInBounds_toArray, List.set_cons_zero, List.set_cons_succ]
      refine until_take (i := 2) (v := ?_) rfl (by kernel_rfl) (by kernel_rfl) (by kernel_rfl) rfl (fun _ _ _ h => h) (fun _ => hS.out) (Or.inl ⟨by rfl, ?_⟩) ?_
      rotate_left
      · (intro u _; go_simp; try with_reducible rfl)
      try simp only [Act.put, List.setIfInBounds_toArray, List.set_cons_zero, List.set_cons_succ]
      refine until_take (i := 3) (v := ?_) rfl (by kernel_rfl) (by kernel_rfl) (by kernel_rfl) rfl (fun _ _ _ h => h) (fun _ => hS.out) (Or.inl ⟨by rfl, ?_⟩) ?_
      rotate_left
      · (intro u _; go_simp; try with_reducible rfl)
      try simp only [Act.put, List.setIfInBounds_toArray, List.set_cons_zero, List.set_cons_succ]
      refine until_take (i := 4) (v := ?_) rfl (by kernel_rfl) (by kernel_rfl) (by kernel_rfl) rfl (fun _ _ _ h => h) (fun _ => hS.out) (Or.inl ⟨by rfl, ?_⟩) ?_
      rotate_left
      · (intro u _; go_simp; try with_reducible rfl)
      try simp only [Act.put, List.setIfInBounds_toArray, List.set_cons_zero, List.set_cons_succ]
      refine until_take (i := 9) (v := ?_) rfl (by kernel_rfl) (by kernel_rfl) (by kernel_rfl) rfl (fun _ _ _ h => h) (fun _ => hS.out) (Or.inl ⟨by rfl, ?_⟩) ?_
      rotate_left
      · (intro u _; go_simp; try with_reducible rfl)
      try simp only [Act.put, List.setIfInBounds_toArray, List.set_cons_zero, List.set_cons_succ]
      refine until_take (i := 10) (v := ?_) rfl (by kernel_rfl) (by kernel_rfl) (by kernel_rfl) rfl (fun _ _ _ h => h) (fun _ => hS.out) (Or.inl ⟨by rfl, ?_⟩) ?_
      rotate_left
      · (intro u _; go_simp; try with_reducible rfl)
      try simp only [Act.put, List.setIfInBounds_toArray, List.set_cons_zero, List.set_cons_succ]
      refine until_take (i := 11) (v := ?_) rfl (by kernel_rfl) (by kernel_rfl) (by kernel_rfl) rfl (fun _ _ _ h => h) (fun _ => hS.out) (Or.inl ⟨by rfl, ?_⟩) ?_
      rotate_left
      · (intro u _; go_simp; try with_reducible rfl)
      try simp only [Act.put, List.setIfInBounds_toArray, List.set_cons_zero, List.set_cons_succ]
      refine until_take (i := 13) (v := ?_) rfl (by kernel_rfl) (by kernel_rfl) (by kernel_rfl) rfl (fun _ _ _ h => h) (fun _ => hS.out) (Or.inl ⟨by rfl, ?_⟩) ?_
      rotate_left
      · (intro u _; go_simp; try with_reducible rfl)
      try simp only [Act.put, List.setIfInBounds_toArray, List.set_cons_zero, List.set_cons_succ]
      refine until_load (i := 5) (v := ?_) [8, 18] rfl (by kernel_rfl) (by kernel_rfl) (by kernel_rfl) (by kernel_rfl) (fun _ _ _ h => h) hS.out (Or.inl ⟨by rfl, ?_⟩) ?_
      rotate_left
      · (rintro u ⟨s1, s2, s3⟩; go_simp; try with_reducible rfl)
      try simp only [Act.put, List.setIfInBounds_toArray, List.set_cons_zero, List.set_cons_succ]
      refine until_load (i := 6) (v := ?_) [7, 8, 18] rfl (by kernel_rfl) (by kernel_rfl) (by kernel_rfl) (by kernel_rfl) (fun _ _ _ h => h) hS.out (Or.inl ⟨by rfl, ?_⟩) ?_
      rotate_left
      · (rintro u ⟨s1, s2, s3⟩; go_simp; try with_reducible rfl)
      try simp only [Act.put, List.setIfInBounds_toArray, List.set_cons_zero, List.set_cons_succ]
      refine until_load (i := 12) (v := ?_) [15, 18] rfl (by kernel_rfl) (by kernel_rfl) (by kernel_rfl) (by kernel_rfl) (fun _ _ _ h => h) hS.out (Or.inl ⟨by rfl, ?_⟩) ?_
      rotate_left
      · (rintro u ⟨s1, s2, s3⟩; go_simp; try with_reducible rfl)
      try simp only [Act.put, List.setIfInBounds_toArray, List.set_cons_zero, List.set_cons_succ]
      obtain ⟨u0, hu0⟩ : ∃ x, x = w3.drew := ⟨_, rfl⟩
      have HB0 := Lib.hid (HBW.out.below ((Below.refl _ w3).drew))
      rw [← hu0] at HB0 ⊢
      clear hu0
      refine until_ready (rs := [7, 14]) (by kernel_rfl) (by simp) ?_
      refine AllUntil.cons rfl (fun K hK => ?_) (AllUntil.cons rfl (fun K hK => ?_) AllUntil.nil)
      · go_simp
        have hba : Below u0.heap.size u0 (u0.alloc (.cells C 28)) := (Below.refl _ _).alloc (Nat.le_refl _) _
        have HB1 := Lib.hid (HB0.out.below hba)
        refine hK.out _ _ (fun _ => HKEEP.out _ HB1.out.par HB1.out.bk) ?_
        clear hK K
        try simp only [Act.put, List.setIfInBounds_toArray, List.set_cons_zero, List.set_cons_succ]
        obtain ⟨u1, hu1⟩ : ∃ x, x = u0.alloc (.cells C 28) := ⟨_, rfl⟩
        have HS7_1 : Hid (Blk u1 u0.heap.size 28 C.toList) := by show Blk _ _ _ _; rw [hu1]; exact Blk.new u0 _ C.toList
        rw [← hu1] at HB1
        rw [← hu1]
        clear hu1 hba
        refine until_ready (rs := [8, 14]) (by kernel_rfl) (by simp) ?_
        refine AllUntil.cons rfl (fun K hK => ?_) (AllUntil.cons rfl (fun K hK => ?_) AllUntil.nil)
        · refine step_appX _ rfl (.tmp 33) (.tmp 35) 31 rfl 28 _ 18 240 Try.underlying31 infoBlkR rfl (by decide) B0 bl m xb rfl _ C (0, 0) rfl (by rw [HCA.out]; exact HS7_1.out) HB1.out.ob (by have := HS.out; simp at this; exact this.symm) HC1.out (by omega) (by decide) (Nat.le_trans HB1.out.lo HB1.out.sz) ?_
          intro gb cb u2 hown hg _
          have HB2 := Lib.hid (HB1.out.appB HVB.out HLO.out HRB.out hA hown hg)
          clear hown hg
          refine hK.out _ _ (fun _ => HKEEP.out _ HB2.out.par HB2.out.bk) ?_
          clear hK K
          try simp only [Act.put, List.setIfInBounds_toArray, List.set_cons_zero, List.set_cons_succ]
          refine until_ready (rs := [14]) (by kernel_rfl) (by simp) ?_
          refine AllUntil.cons rfl (fun K hK => ?_) AllUntil.nil
          go_simp
          have hba : Below u2.heap.size u2 (u2.alloc (.cells #[.int .i64 (kk : Int)] 3)) := (Below.refl _ _).alloc (Nat.le_refl _) _
          have HB3 := Lib.hid (HB2.out.below hba)
          refine hK.out _ _ (fun _ => HKEEP.out _ HB3.out.par HB3.out.bk) ?_
          clear hK K
          try simp only [Act.put, List.setIfInBounds_toArray, List.set_cons_zero, List.set_cons_succ]
          obtain ⟨u3, hu3⟩ : ∃ x, x = u2.alloc (.cells #[.int .i64 (kk : Int)] 3) := ⟨_, rfl⟩
          have HS14_3 : Hid (Blk u3 u2.heap.size 3 [.int .i64 (kk : Int)]) := by show Blk _ _ _ _; rw [hu3]; exact Blk.new u2 _ [.int .i64 (kk : Int)]
          rw [← hu3] at HB3
          rw [← hu3]
          clear hu3 hba
          refine until_ready (rs := [15]) (by kernel_rfl) (by simp) ?_
          refine AllUntil.cons rfl (fun K hK => ?_) AllUntil.nil
          refine step_appX _ rfl (.tmp 40) (.tmp 42) 23 rfl 3 _ 1 8 Try.underlying23 infoI64r rfl (by decide) B0 sv m xs rfl _ #[.int .i64 (kk : Int)] (0, 0) rfl HS14_3.out HB3.out.os rfl (by simp [Value.oneCell']) (by omega) (by decide) (Nat.le_trans HB3.out.lo HB3.out.sz) ?_
          intro gs cs u4 hown hg hmv
          have HB4 := Lib.hid (HB3.out.appS HLO.out HRS.out hA hown hg)
          have HMV : Hid (some gs = sv.ownBlock ∨ w3.heap.size ≤ gs) := hmv.elim (fun e => .inl e.symm) (fun e => .inr (by have := HB3.out.sz; omega))
          have p1b : u4.cell? ⟨P, 1, none⟩ = some bl := HB4.out.par.cell 1
          have p2b : u4.cell? ⟨P, 2, none⟩ = some sv := HB4.out.par.cell 2
          have f1b := HB4.out.par.frozen 1
          have f2b := HB4.out.par.frozen 2
          clear hown hg hmv
          refine hK.out _ _ (fun _ => HKEEP.out _ HB4.out.par HB4.out.bk) ?_
          clear hK K
          try simp only [Act.put, List.setIfInBounds_toArray, List.set_cons_zero, List.set_cons_succ]
          refine until_take (i := 16) (v := ?_) rfl (by kernel_rfl) (by kernel_rfl) (by kernel_rfl) rfl (fun _ _ _ h => h) (fun _ => HKEEP.out _ HB4.out.par HB4.out.bk) (Or.inl ⟨by rfl, ?_⟩) ?_
          rotate_left
          · (intro u _; go_simp; try with_reducible rfl)
          try simp only [Act.put, List.setIfInBounds_toArray, List.set_cons_zero, List.set_cons_succ]
          refine until_take (i := 17) (v := ?_) rfl (by kernel_rfl) (by kernel_rfl) (by kernel_rfl) rfl (fun _ _ _ h => h) (fun _ => HKEEP.out _ HB4.out.par HB4.out.bk) (Or.inl ⟨by rfl, ?_⟩) ?_
          rotate_left
          · (intro u _; go_simp; try with_reducible rfl)
          try simp only [Act.put, List.setIfInBounds_toArray, List.set_cons_zero, List.set_cons_succ]
          refine until_ready (rs := [18]) (by kernel_rfl) (by simp) ?_
          refine AllUntil.cons rfl (fun K hK => ?_) AllUntil.nil
          go_simp
          refine hK.out _ _ (fun h => by simp at h) ?_
          clear hK K
          try simp only [Act.put, List.setIfInBounds_toArray, List.set_cons_zero, List.set_cons_succ]
          refine until_take (i := 19) (v := ?_) rfl (by kernel_rfl) (by kernel_rfl) (by kernel_rfl) rfl (fun _ _ _ h => h) (fun h => by simp at h) (Or.inl ⟨by rfl, ?_⟩) ?_
          rotate_left
          · (intro u _; go_simp; try with_reducible rfl)
          try simp only [Act.put, List.setIfInBounds_toArray, List.set_cons_zero, List.set_cons_succ]
          refine until_take (i := 20) (v := ?_) rfl (by kernel_rfl) (by kernel_rfl) (by kernel_rfl) rfl (fun _ _ _ h => h) (fun h => by simp at h) (Or.inl ⟨by rfl, ?_⟩) ?_
          rotate_left
          · (intro u _; go_simp; try with_reducible rfl)
          try simp only [Act.put, List.setIfInBounds_toArray, List.set_cons_zero, List.set_cons_succ]
          refine until_ready (rs := [21]) (by kernel_rfl) (by simp) ?_
          refine AllUntil.cons rfl (fun K hK => ?_) AllUntil.nil
          go_simp
          refine hK.out _ _ (fun h => by simp at h) ?_
          clear hK K
          try simp only [Act.put, List.setIfInBounds_toArray, List.set_cons_zero, List.set_cons_succ]
          refine until_done (by kernel_rfl) ?_ _
          go_wp2_with fail
          go_end0
          exact HDONE.out _ _ _ _ _ HB4.out HMV.out
        · go_simp
          have hba : Below u1.heap.size u1 (u1.alloc (.cells #[.int .i64 (kk : Int)] 3)) := (Below.refl _ _).alloc (Nat.le_refl _) _
          have HB2 := Lib.hid (HB1.out.below hba)
          refine hK.out _ _ (fun _ => HKEEP.out _ HB2.out.par HB2.out.bk) ?_
          clear hK K
          try simp only [Act.put, List.setIfInBounds_toArray, List.set_cons_zero, List.set_cons_succ]
          obtain ⟨u2, hu2⟩ : ∃ x, x = u1.alloc (.cells #[.int .i64 (kk : Int)] 3) := ⟨_, rfl⟩
          have HS14_2 : Hid (Blk u2 u1.heap.size 3 [.int .i64 (kk : Int)]) := by show Blk _ _ _ _; rw [hu2]; exact Blk.new u1 _ [.int .i64 (kk : Int)]
          have HS7_2 := Lib.hid (HS7_1.out.below_ hba)
          rw [← hu2] at HB2 HS7_2
          rw [← hu2]
          clear hu2 hba
          refine until_ready (rs := [8]) (by kernel_rfl) (by simp) ?_
          refine AllUntil.cons rfl (fun K hK => ?_) AllUntil.nil
          refine step_appX _ rfl (.tmp 33) (.tmp 35) 31 rfl 28 _ 18 240 Try.underlying31 infoBlkR rfl (by decide) B0 bl m xb rfl _ C (0, 0) rfl (by rw [HCA.out]; exact HS7_2.out) HB2.out.ob (by have := HS.out; simp at this; exact this.symm) HC1.out (by omega) (by decide) (Nat.le_trans HB2.out.lo HB2.out.sz) ?_
          intro gb cb u3 hown hg _
          have HB3 := Lib.hid (HB2.out.appB HVB.out HLO.out HRB.out hA hown hg)
          have HS14_3 := Lib.hid (blk_own_kept HS14_2.out HB2.out.ob (by decide) hg)
          clear hown hg
          refine hK.out _ _ (fun _ => HKEEP.out _ HB3.out.par HB3.out.bk) ?_
          clear hK K
          try simp only [Act.put, List.setIfInBounds_toArray, List.set_cons_zero, List.set_cons_succ]
          refine until_ready (rs := [15]) (by kernel_rfl) (by simp) ?_
          refine AllUntil.cons rfl (fun K hK => ?_) AllUntil.nil
          refine step_appX _ rfl (.tmp 40) (.tmp 42) 23 rfl 3 _ 1 8 Try.underlying23 infoI64r rfl (by decide) B0 sv m xs rfl _ #[.int .i64 (kk : Int)] (0, 0) rfl HS14_3.out HB3.out.os rfl (by simp [Value.oneCell']) (by omega) (by decide) (Nat.le_trans HB3.out.lo HB3.out.sz) ?_
          intro gs cs u4 hown hg hmv
          have HB4 := Lib.hid (HB3.out.appS HLO.out HRS.out hA hown hg)
          have HMV : Hid (some gs = sv.ownBlock ∨ w3.heap.size ≤ gs) := hmv.elim (fun e => .inl e.symm) (fun e => .inr (by have := HB3.out.sz; omega))
          have p1b : u4.cell? ⟨P, 1, none⟩ = some bl := HB4.out.par.cell 1
          have p2b : u4.cell? ⟨P, 2, none⟩ = some sv := HB4.out.par.cell 2
          have f1b := HB4.out.par.frozen 1
          have f2b := HB4.out.par.frozen 2
          clear hown hg hmv
          refine hK.out _ _ (fun _ => HKEEP.out _ HB4.out.par HB4.out.bk) ?_
          clear hK K
          try simp only [Act.put, List.setIfInBounds_toArray, List.set_cons_zero, List.set_cons_succ]
          refine until_take (i := 16) (v := ?_) rfl (by kernel_rfl) (by kernel_rfl) (by kernel_rfl) rfl (fun _ _ _ h => h) (fun _ => HKEEP.out _ HB4.out.par HB4.out.bk) (Or.inl ⟨by rfl, ?_⟩) ?_
          rotate_left
          · (intro u _; go_simp; try with_reducible rfl)
          try simp only [Act.put, List.setIfInBounds_toArray, List.set_cons_zero, List.set_cons_succ]
          refine until_take (i := 17) (v := ?_) rfl (by kernel_rfl) (by kernel_rfl) (by kernel_rfl) rfl (fun _ _ _ h => h) (fun _ => HKEEP.out _ HB4.out.par HB4.out.bk) (Or.inl ⟨by rfl, ?_⟩) ?_
          rotate_left
          · (intro u _; go_simp; try with_reducible rfl)
          try simp only [Act.put, List.setIfInBounds_toArray, List.set_cons_zero, List.set_cons_succ]
          refine until_ready (rs := [18]) (by kernel_rfl) (by simp) ?_
          refine AllUntil.cons rfl (fun K hK => ?_) AllUntil.nil
          go_simp
          refine hK.out _ _ (fun h => by simp at h) ?_
          clear hK K
          try simp only [Act.put, List.setIfInBounds_toArray, List.set_cons_zero, List.set_cons_succ]
          refine until_take (i := 19) (v := ?_) rfl (by kernel_rfl) (by kernel_rfl) (by kernel_rfl) rfl (fun _ _ _ h => h) (fun h => by simp at h) (Or.inl ⟨by rfl, ?_⟩) ?_
          rotate_left
          · (intro u _; go_simp; try with_reducible rfl)
          try simp only [Act.put, List.setIfInBounds_toArray, List.set_cons_zero, List.set_cons_succ]
          refine until_take (i := 20) (v := ?_) rfl (by kernel_rfl) (by kernel_rfl) (by kernel_rfl) rfl (fun _ _ _ h => h) (fun h => by simp at h) (Or.inl ⟨by rfl, ?_⟩) ?_
          rotate_left
          · (intro u _; go_simp; try with_reducible rfl)
          try simp only [Act.put, List.setIfInBounds_toArray, List.set_cons_zero, List.set_cons_succ]
          refine until_ready (rs := [21]) (by kernel_rfl) (by simp) ?_
          refine AllUntil.cons rfl (fun K hK => ?_) AllUntil.nil
          go_simp
          refine hK.out _ _ (fun h => by simp at h) ?_
          clear hK K
          try simp only [Act.put, List.setIfInBounds_toArray, List.set_cons_zero, List.set_cons_succ]
          refine until_done (by kernel_rfl) ?_ _
          go_wp2_with fail
          go_end0
          exact HDONE.out _ _ _ _ _ HB4.out HMV.out
      · go_simp
        have hba : Below u0.heap.size u0 (u0.alloc (.cells #[.int .i64 (kk : Int)] 3)) := (Below.refl _ _).alloc (Nat.le_refl _) _
        have HB1 := Lib.hid (HB0.out.below hba)
        refine hK.out _ _ (fun _ => HKEEP.out _ HB1.out.par HB1.out.bk) ?_
        clear hK K
        try simp only [Act.put, List.setIfInBounds_toArray, List.set_cons_zero, List.set_cons_succ]
        obtain ⟨u1, hu1⟩ : ∃ x, x = u0.alloc (.cells #[.int .i64 (kk : Int)] 3) := ⟨_, rfl⟩
        have HS14_1 : Hid (Blk u1 u0.heap.size 3 [.int .i64 (kk : Int)]) := by show Blk _ _ _ _; rw [hu1]; exact Blk.new u0 _ [.int .i64 (kk : Int)]
        rw [← hu1] at HB1
        rw [← hu1]
        clear hu1 hba
        refine until_ready (rs := [7]) (by kernel_rfl) (by simp) ?_
        refine AllUntil.cons rfl (fun K hK => ?_) AllUntil.nil
        go_simp
        have hba : Below u1.heap.size u1 (u1.alloc (.cells C 28)) := (Below.refl _ _).alloc (Nat.le_refl _) _
        have HB2 := Lib.hid (HB1.out.below hba)
        refine hK.out _ _ (fun _ => HKEEP.out _ HB2.out.par HB2.out.bk) ?_
        clear hK K
        try simp only [Act.put, List.setIfInBounds_toArray, List.set_cons_zero, List.set_cons_succ]
        obtain ⟨u2, hu2⟩ : ∃ x, x = u1.alloc (.cells C 28) := ⟨_, rfl⟩
        have HS7_2 : Hid (Blk u2 u1.heap.size 28 C.toList) := by show Blk _ _ _ _; rw [hu2]; exact Blk.new u1 _ C.toList
        have HS14_2 := Lib.hid (HS14_1.out.below_ hba)
        rw [← hu2] at HB2 HS14_2
        rw [← hu2]
        clear hu2 hba
        refine until_ready (rs := [8]) (by kernel_rfl) (by simp) ?_
        refine AllUntil.cons rfl (fun K hK => ?_) AllUntil.nil
        refine step_appX _ rfl (.tmp 33) (.tmp 35) 31 rfl 28 _ 18 240 Try.underlying31 infoBlkR rfl (by decide) B0 bl m xb rfl _ C (0, 0) rfl (by rw [HCA.out]; exact HS7_2.out) HB2.out.ob (by have := HS.out; simp at this; exact this.symm) HC1.out (by omega) (by decide) (Nat.le_trans HB2.out.lo HB2.out.sz) ?_
        intro gb cb u3 hown hg _
        have HB3 := Lib.hid (HB2.out.appB HVB.out HLO.out HRB.out hA hown hg)
        have HS14_3 := Lib.hid (blk_own_kept HS14_2.out HB2.out.ob (by decide) hg)
        clear hown hg
        refine hK.out _ _ (fun _ => HKEEP.out _ HB3.out.par HB3.out.bk) ?_
        clear hK K
        try simp only [Act.put, List.setIfInBounds_toArray, List.set_cons_zero, List.set_cons_succ]
        refine until_ready (rs := [15]) (by kernel_rfl) (by simp) ?_
        refine AllUntil.cons rfl (fun K hK => ?_) AllUntil.nil
        refine step_appX _ rfl (.tmp 40) (.tmp 42) 23 rfl 3 _ 1 8 Try.underlying23 infoI64r rfl (by decide) B0 sv m xs rfl _ #[.int .i64 (kk : Int)] (0, 0) rfl HS14_3.out HB3.out.os rfl (by simp [Value.oneCell']) (by omega) (by decide) (Nat.le_trans HB3.out.lo HB3.out.sz) ?_
        intro gs cs u4 hown hg hmv
        have HB4 := Lib.hid (HB3.out.appS HLO.out HRS.out hA hown hg)
        have HMV : Hid (some gs = sv.ownBlock ∨ w3.heap.size ≤ gs) := hmv.elim (fun e => .inl e.symm) (fun e => .inr (by have := HB3.out.sz; omega))
        have p1b : u4.cell? ⟨P, 1, none⟩ = some bl := HB4.out.par.cell 1
        have p2b : u4.cell? ⟨P, 2, none⟩ = some sv := HB4.out.par.cell 2
        have f1b := HB4.out.par.frozen 1
        have f2b := HB4.out.par.frozen 2
        clear hown hg hmv
        refine hK.out _ _ (fun _ => HKEEP.out _ HB4.out.par HB4.out.bk) ?_
        clear hK K
        try simp only [Act.put, List.setIfInBounds_toArray, List.set_cons_zero, List.set_cons_succ]
        refine until_take (i := 16) (v := ?_) rfl (by kernel_rfl) (by kernel_rfl) (by kernel_rfl) rfl (fun _ _ _ h => h) (fun _ => HKEEP.out _ HB4.out.par HB4.out.bk) (Or.inl ⟨by rfl, ?_⟩) ?_
        rotate_left
        · (intro u _; go_simp; try with_reducible rfl)
        try simp only [Act.put, List.setIfInBounds_toArray, List.set_cons_zero, List.set_cons_succ]
        refine until_take (i := 17) (v := ?_) rfl (by kernel_rfl) (by kernel_rfl) (by kernel_rfl) rfl (fun _ _ _ h => h) (fun _ => HKEEP.out _ HB4.out.par HB4.out.bk) (Or.inl ⟨by rfl, ?_⟩) ?_
        rotate_left
        · (intro u _; go_simp; try with_reducible rfl)
        try simp only [Act.put, List.setIfInBounds_toArray, List.set_cons_zero, List.set_cons_succ]
        refine until_ready (rs := [18]) (by kernel_rfl) (by simp) ?_
        refine AllUntil.cons rfl (fun K hK => ?_) AllUntil.nil
        go_simp
        refine hK.out _ _ (fun h => by simp at h) ?_
        clear hK K
        try simp only [Act.put, List.setIfInBounds_toArray, List.set_cons_zero, List.set_cons_succ]
        refine until_take (i := 19) (v := ?_) rfl (by kernel_rfl) (by kernel_rfl) (by kernel_rfl) rfl (fun _ _ _ h => h) (fun h => by simp at h) (Or.inl ⟨by rfl, ?_⟩) ?_
        rotate_left
        · (intro u _; go_simp; try with_reducible rfl)
        try simp only [Act.put, List.setIfInBounds_toArray, List.set_cons_zero, List.set_cons_succ]
        refine until_take (i := 20) (v := ?_) rfl (by kernel_rfl) (by kernel_rfl) (by kernel_rfl) rfl (fun _ _ _ h => h) (fun h => by simp at h) (Or.inl ⟨by rfl, ?_⟩) ?_
        rotate_left
        · (intro u _; go_simp; try with_reducible rfl)
        try simp only [Act.put, List.setIfInBounds_toArray, List.set_cons_zero, List.set_cons_succ]
        refine until_ready (rs := [21]) (by kernel_rfl) (by simp) ?_
        refine AllUntil.cons rfl (fun K hK => ?_) AllUntil.nil
        go_simp
        refine hK.out _ _ (fun h => by simp at h) ?_
        clear hK K
        try simp only [Act.put, List.setIfInBounds_toArray, List.set_cons_zero, List.set_cons_succ]
        refine until_done (by kernel_rfl) ?_ _
        go_wp2_with fail
        go_end0
        exact HDONE.out _ _ _ _ _ HB4.out HMV.out
end Go.Proofs.Ytokidpajialgbaa
