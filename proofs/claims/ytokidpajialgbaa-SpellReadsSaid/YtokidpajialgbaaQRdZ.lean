/- tzx.Parse of bytes with a tape's head. -/
import Derived.Test.YtokidpajialgbaaQG47
import Derived.Deep.CutBlock
namespace Go.Proofs.Ytokidpajialgbaa
set_option linter.unusedSimpArgs false
set_option linter.unusedVariables false
open Go.RowKit
/-- memory while a file is read -/
structure Pj (w u : World) (A : Addr) (n c : Nat) (L : List Int) (st : Rd.St) (bl sv : Value) (l : List TB) (starts : List Int) : Prop where
  tape : Blk u w.heap.size 33 [.int .i64 0, .int .i64 0, .slice none 0 0]
  par : ParIn u w.heap.size (w.heap.size + 1) (w.heap.size + 2) A n c L st bl sv l starts
  below : Below w.heap.size w u
  al : A.block < w.heap.size
theorem ParIn.reader {u u' : World} {B0 R P : Nat} {A : Addr} {n c : Nat} {L : List Int} {st st' : Rd.St} {bl sv : Value} {l : List TB} {starts : List Int} (h : ParIn u B0 R P A n c L st bl sv l starts) (hr : RdIs u' R A n c L st') (hg : u.grownBy u' (some R)) : ParIn u' B0 R P A n c L st' bl sv l starts := by
  obtain ⟨bv, hR, -⟩ := h.rd.rdr
  obtain ⟨cs, h1, h2⟩ := h.own
  have hlo := h.lo
  refine ⟨h.par.grown hg (fun e => by have := Option.some.inj e; omega), hr, ⟨cs, own_blk_ne h1 hR (by decide) hg, ?_⟩, own_blk_ne h.sta hR (by decide) hg, h.lo⟩
  exact h2.map fun B d t i p s r hx => hx.keep (keepX_grown hR (by decide) hg)
theorem ParIn.below {u u' : World} {B0 R P : Nat} {A : Addr} {n c : Nat} {L : List Int} {st : Rd.St} {bl sv : Value} {l : List TB} {starts : List Int} (h : ParIn u B0 R P A n c L st bl sv l starts) (hb : Below u.heap.size u u') : ParIn u' B0 R P A n c L st bl sv l starts := by
  obtain ⟨cs, h1, h2⟩ := h.own
  exact ⟨h.par.below_ hb, h.rd.below hb, ⟨cs, own_below h1 hb, h2.map fun B d t i p s r hx => hx.keep (keepX_below hb)⟩, own_below h.sta hb, h.lo⟩
theorem OwnH.far {w w' : World} {X : Option Nat} {size n V : Nat} {e t : TypeId} {v : Value} {cs ds : List Value} (h : OwnH w X e size v n cs) (hb : Blk w V t ds) (he : e ≠ t) (hg : w.grownBy w' (some V)) : OwnH w' X e size v n cs := ⟨own_blk_ne h.1 hb he hg, h.2⟩
theorem SymH.far {w w' : World} {X : Option Nat} {V : Nat} {e t : TypeId} {k : IntKind} {v : Value} {l : List (Int × List Int)} {ds : List Value} (h : SymH w X e k v l) (hb : Blk w V t ds) (he : e ≠ t ∧ tyOf k ≠ t) (hg : w.grownBy w' (some V)) : SymH w' X e k v l := by
  obtain ⟨cs, h1, h2⟩ := h
  exact ⟨cs, h1.far hb he.1 hg, h2.map fun r p hr => hr.far hb he.2 hg⟩
theorem TBs.tape {w w' : World} {X : Option Nat} {V : Nat} {cs ds : List Value} {l : List TB} (h : TBs w X cs l) (hb : Blk w V 33 ds) (hg : w.grownBy w' (some V)) : TBs w' X cs l :=
  h.map fun B d t i p s r hx => ⟨hx.d.far hb (by decide) hg, hx.t.far hb (by decide) hg, hx.i.far hb (by decide) hg, hx.p.far hb (by decide) hg, hx.s.far hb (by decide) hg, hx.r.far hb (by decide) hg⟩
section
variable {w u u' : World} {A : Addr} {n c : Nat} {L : List Int} {st st' : Rd.St} {bl sv : Value} {l : List TB} {starts : List Int}
theorem Pj.step (h : Pj w u A n c L st bl sv l starts) (hr : RdIs u' (w.heap.size + 1) A n c L st') (hg : u.grownBy u' (some (w.heap.size + 1))) : Pj w u' A n c L st' bl sv l starts :=
  ⟨h.tape.grown hg (by simp), h.par.reader hr hg, below_of_grown h.below hg (by omega) h.below.size, h.al⟩
theorem Pj.below_ (h : Pj w u A n c L st bl sv l starts) (hb : Below u.heap.size u u') : Pj w u' A n c L st bl sv l starts :=
  ⟨h.tape.below_ hb, h.par.below hb, h.below.trans (hb.mono h.below.size), h.al⟩
theorem Pj.p0 (h : Pj w u A n c L st bl sv l starts) : u.cell? ⟨w.heap.size + 2, 0, none⟩ = some (.pointer (some ⟨w.heap.size + 1, 0, none⟩)) := h.par.par.cell 0
theorem Pj.p1 (h : Pj w u A n c L st bl sv l starts) : u.cell? ⟨w.heap.size + 2, 1, none⟩ = some bl := h.par.par.cell 1
theorem Pj.p2 (h : Pj w u A n c L st bl sv l starts) : u.cell? ⟨w.heap.size + 2, 2, none⟩ = some sv := h.par.par.cell 2
/-- a variable of a tape's type, before any block was read -/
theorem Pj.setV {V i : Nat} {x : Value} {ds : List Value} (h : Pj w u A n c L st (.slice none 0 0) (.slice none 0 0) [] []) (hV : Blk u V 33 ds) (hlt : w.heap.size + 2 < V) : Pj w (u.setCell ⟨V, i, none⟩ x) A n c L st (.slice none 0 0) (.slice none 0 0) [] [] := by
  refine ⟨h.tape.far (by show w.heap.size ≠ V; omega) _, ⟨h.par.par.far (by show w.heap.size + 2 ≠ V; omega) _, h.par.rd.setCell hV (by decide) (by omega), ⟨[], World.ownsRow_nil _ _ _ _, rfl⟩, World.ownsRow_nil _ _ _ _, h.par.lo⟩, h.below.setCell (by show w.heap.size ≤ V; omega) _, h.al⟩
theorem Pj.apart (h : Pj w u A n c L st bl sv l starts) : (∀ g, bl.ownBlock = some g → w.heap.size + 1 ≠ g) ∧ (∀ g, sv.ownBlock = some g → w.heap.size + 1 ≠ g) := by
  obtain ⟨bv, hR, -⟩ := h.par.rd.rdr
  obtain ⟨cs, h1, h2⟩ := h.par.own
  refine ⟨fun g e e1 => ?_, fun g e e1 => ?_⟩
  · rcases own_none_or h1 with h3 | ⟨g', h3, _, d, cur, _, h4⟩
    · rw [h3] at e; cases e
    · rw [h3] at e
      have : g' = g := Option.some.inj e
      exact type_of_blk hR h4 (by decide) (by omega)
  · rcases own_none_or h.par.sta with h3 | ⟨g', h3, _, d, cur, _, h4⟩
    · rw [h3] at e; cases e
    · rw [h3] at e
      have : g' = g := Option.some.inj e
      exact type_of_blk hR h4 (by decide) (by omega)
theorem Pj.tapeKept {u' : World} {V : Nat} {ds : List Value} (h : Pj w u A n c L st bl sv l starts) (hV : Blk u V 33 ds) (hk : KeepX sv.ownBlock u u') : Blk u' V 33 ds := by
  have hV2 := hV
  unfold Blk at hV ⊢
  rw [hk V _ _ _ hV (by decide) ?_, hV]
  intro e
  rcases own_none_or h.par.sta with h3 | ⟨g', h3, _, d, cur, _, h4⟩
  · rw [h3] at e; cases e
  · rw [h3] at e
    have : V = g' := Option.some.inj e
    subst this
    exact type_of_blk hV2 h4 (by decide) rfl
theorem Pj.block {e : Ending} {X : Option Nat} (h : Pj w u A n c L st bl sv l starts) (hX : X = sv.ownBlock) {l' : List TB} {starts' : List Int} (hp : BlockP w.heap.size (w.heap.size + 1) (w.heap.size + 2) A n c L u X st' l' starts' e u') : e = .returned (.tuple #[]) ∧ ∃ bl' sv', Pj w u' A n c L st' bl' sv' l' starts' ∧ KeepX X u u' := by
  subst hX
  obtain ⟨he, bl', sv', h1, h2, h3⟩ := hp
  exact ⟨he, bl', sv', ⟨h.tapeKept h.tape h3, h1, h.below.trans h2, h.al⟩, h3⟩
end
theorem Tz.firstW_range (f : Nat → Int) (n : Nat) (h : ∃ x, x = (Tz.firstW f n).2) : (Tz.firstW f n).2 ≠ 0 → ∃ i : Nat, (Tz.firstW f n).1 = i ∧ i < n := by
  clear h
  induction n with
  | zero => intro h; exact absurd rfl h
  | succ n ih =>
    simp only [Tz.firstW]
    split
    · intro h1
      obtain ⟨i, h2, h3⟩ := ih h1
      exact ⟨i, h2, by omega⟩
    · split
      · intro _; exact ⟨n, rfl, by omega⟩
      · intro h; exact absurd rfl h
theorem FirstP_eq {f : Nat → Int} {n : Nat} {a b : Int} (h : Tz.firstW f n = (a, b)) : FirstP f n = fun w e w' => e = .returned (.tuple #[.int .i64 a, .int .i64 b]) ∧ Below w.heap.size w w' := by
  funext w e w'
  unfold FirstP
  rw [h]
/-- how many bytes are left, by memory -/
def measL (n R : Nat) (u : World) : Nat := match u.cell? ⟨R, 1, none⟩, u.cell? ⟨R, 2, none⟩ with
  | some (.int _ k), some (.pointer none) => n - k.toNat
  | _, _ => 0
theorem meas_eq {u : World} {R : Nat} {A : Addr} {n c : Nat} {L : List Int} {st : Rd.St} (h : RdIs u R A n c L st) : measL n R u = Rd.left n st := by
  obtain ⟨bv, h1, h2⟩ := h.rdr
  have c1 : u.cell? ⟨R, 1, none⟩ = some (.int .i64 st.k) := h1.cell 1
  have c2 : u.cell? ⟨R, 2, none⟩ = some bv := h1.cell 2
  unfold measL Rd.left
  rw [c1, c2]
  obtain ⟨k, bad⟩ := st
  cases bad with
  | none =>
    obtain rfl : bv = .pointer none := h2
    simp
  | some q =>
    obtain ⟨E, p⟩ := q
    obtain ⟨f, rfl, -⟩ := h2
    rfl
set_option maxRecDepth 100000 in
set_option maxHeartbeats 16000000 in
theorem parse_signed (A : Addr) (n c : Nat) (L : List Int) (w : World) (hi : Ints w (some A) .u8 L) (hb : Byts L) (hn : L.length = n) (h8 : 8 ≤ n) (h20 : n ≤ 1048576) (hc : n ≤ c) (ha : A.block < w.heap.size) (h : L.take 8 = Rd.sign8) :
    Calls Try.prog 17 #[.slice (some A) n c] w (ParsP L w) := by
  have HN1 := Lib.hid (fun u (hu : RdIs u (w.heap.size + 1) A n c L Rd.s8) => rdNumber (w.heap.size + 1) A n c L Rd.s8 1 u hu (by omega) (by omega))
  obtain ⟨maj, s1, hM1⟩ : ∃ x t, Rd.num 1 L Rd.s8 = (x, t) := ⟨_, _, rfl⟩
  rw [hM1] at HN1
  have HN2 := Lib.hid (fun u (hu : RdIs u (w.heap.size + 1) A n c L s1) => rdNumber (w.heap.size + 1) A n c L s1 1 u hu (by omega) (by omega))
  obtain ⟨min, s2, hM2⟩ : ∃ x t, Rd.num 1 L s1 = (x, t) := ⟨_, _, rfl⟩
  rw [hM2] at HN2
  obtain ⟨T, hT⟩ : ∃ T, T = Rd.blocksM (n + 1) 0 L s2 := ⟨_, rfl⟩
  have hP : Rd.parseD L = Rd.restD L maj min T := by
    unfold Rd.parseD
    rw [if_neg (by omega), if_neg (by rw [h]; simp; omega), hM1, hM2, hT, hn]
  have HP := Lib.hid hP
  have HT := Lib.hid hT
  have h2 : ¬ (n : Int) < 8 := by omega
  have h3 : ¬ (1048576 : Int) < n := by omega
  have hl8 : (L.take 8).length = 8 := by rw [List.length_take]; omega
  obtain ⟨X, hX⟩ : ∃ X, X = txt8 (L.take 8) := ⟨_, rfl⟩
  have hcmp := txt8_cmp (L.take 8) [90, 88, 84, 97, 112, 101, 33, 26] (fun x hx => hb x (List.mem_of_mem_take hx))
  rw [decide_eq_true (show L.take 8 = ([90, 88, 84, 97, 112, 101, 33, 26] : List UInt8).map fun u => (u.toNat : Int) by rw [h]; rfl), ← hX] at hcmp
  have hcv := conv_ints (w.alloc (.cells #[.int .i64 0, .int .i64 0, .slice none 0 0] 33)) (some A) 8 c (L.take 8) (ints_take (hi.below ((Below.refl _ w).alloc (Nat.le_refl _) _)) 8) hl8
  rw [← hX] at hcv
  have h88 : (8 : Nat) ≤ c := by omega
  obtain ⟨w3, hw3⟩ : ∃ w3, w3 = ((w.alloc (.cells #[.int .i64 0, .int .i64 0, .slice none 0 0] 33)).alloc (.cells #[.slice (some A) n c, .int .i64 0, .pointer none] 100)).alloc (.cells #[.pointer (some ⟨w.heap.size + 1, 0, none⟩), .slice none 0 0, .slice none 0 0] 71) := ⟨_, rfl⟩
  have hw1 : Below w.heap.size w (w.alloc (.cells #[.int .i64 0, .int .i64 0, .slice none 0 0] 33)) := (Below.refl _ w).alloc (Nat.le_refl _) _
  have hz : Pj w w3 A n c L ⟨0, none⟩ (.slice none 0 0) (.slice none 0 0) [] [] := by
    have hb0 := Blk.new w 33 [.int .i64 0, .int .i64 0, .slice none 0 0]
    have hb1 := Blk.new (w.alloc (.cells #[.int .i64 0, .int .i64 0, .slice none 0 0] 33)) 100 [.slice (some A) n c, .int .i64 0, .pointer none]
    have hb2 := Blk.new ((w.alloc (.cells #[.int .i64 0, .int .i64 0, .slice none 0 0] 33)).alloc (.cells #[.slice (some A) n c, .int .i64 0, .pointer none] 100)) 71 [.pointer (some ⟨w.heap.size + 1, 0, none⟩), .slice none 0 0, .slice none 0 0]
    have hbb : Below w.heap.size w w3 := by rw [hw3]; exact ((hw1.alloc (by simp) _).alloc (by simp <;> omega) _)
    rw [World.size_alloc] at hb1
    rw [World.size_alloc, World.size_alloc] at hb2
    rw [hw3] at hbb ⊢
    exact ⟨(hb0.alloc _).alloc _, ⟨hb2, ⟨⟨_, hb1.alloc _, rfl⟩, hi.below hbb, hn, hb, by omega, hc, h20, Nat.zero_le _⟩, ⟨[], World.ownsRow_nil _ _ _ _, rfl⟩, World.ownsRow_nil _ _ _ _, by omega⟩, hbb, ha⟩
  have HZ := Lib.hid hz
  have HW3 := Lib.hid hw3
  have p3 := hz.p0
  have hTK := rdTake (w.heap.size + 1) A n c L ⟨0, none⟩ 8 w3 hz.par.rd (by omega)
  have hTs : (Rd.take 8 L ⟨0, none⟩).2 = Rd.s8 := by
    show (Rd.nextM 8 L ⟨0, none⟩).2 = _
    unfold Rd.nextM
    simp only
    rw [if_neg (by omega)]
    rfl
  rw [hTs] at hTK
  have HTK := Lib.hid hTK
  have HBY := Lib.hid hb
  have HNN := Lib.hid hn
  have HH := Lib.hid h
  clear hP hT hM1 hM2 hn h hX hl8 hb hi hz hw3 hw1 hTK hTs
  go_enter Try.func17, Try.ntmps17
  go_upto_region 7 with (first
    | (go_at_call 31; refine (wireRead_any _ _ _ _).mono ?_; rintro e w2 ⟨rfl, rfl⟩)
    | (go_at_call 32; rw [← HW3.out]; refine HTK.out.mono ?_; rintro e w4 ⟨v4, rfl, -, hr4, hg4⟩; have HZ4 := Lib.hid (HZ.out.step hr4 hg4); have p4 := HZ4.out.p0; have hsz4 := HZ4.out.par.par.lt; clear hr4 hg4))
  go_cut [5] (fun x wx => ∃ V : Nat, x = .pointer (some ⟨V, 0, none⟩) ∧ w.heap.size + 2 < V ∧ Hid (Pj w wx A n c L s2 (.slice none 0 0) (.slice none 0 0) [] []) ∧ Hid (Blk wx V 33 [.int .i64 maj, .int .i64 min, .slice none 0 0]))
  case first =>
    have q4 := fun o => cell_alloc p4 o
    have HZ4d := Lib.hid (HZ4.out.below_ ((Below.refl _ w4).drew))
    go_region_held3 (fun w' => w'.cell? ⟨w.heap.size + 2, 0, none⟩ = some (.pointer (some ⟨w.heap.size + 1, 0, none⟩))) (first | exact p4 | exact p5 | exact p6 | exact q4 _ | exact q5 _ | exact q6 _ | exact e6 _ (by omega) _ _ _)
      (first
        | (go_at_call 33; refine (HN2.out _ (by first | exact HZ5.out.par.rd | exact HZ5.out.par.rd.below ((Below.refl _ _).alloc (Nat.le_refl _) _))).mono ?_; rintro e w6 ⟨rfl, hr6, hg0⟩
           have hg6 : w5.grownBy w6 (some (w.heap.size + 1)) := by first | exact hg0 | exact grownBy_of_alloc hg0
           have HZ6 := Lib.hid (HZ5.out.step hr6 hg6)
           have p6 := HZ6.out.p0
           have q6 := fun o => cell_alloc p6 o
           have hsz6 := hg6.size
           try have V6 : Blk w6 w4.heap.size 33 [.int .i64 0, .int .i64 0, .slice none 0 0] := V5.grown hg6 (by intro e; have := Option.some.inj e; omega)
           try have V6 : Blk w6 w5.heap.size 33 [.int .i64 0, .int .i64 0, .slice none 0 0] := (Blk.new w5 33 [.int .i64 0, .int .i64 0, .slice none 0 0]).grown hg0 (by intro e; have := Option.some.inj e; omega)
           try have v60 := V6.cell 0
           try have v61 := V6.cell 1
           try have v62 := V6.cell 2
           try have f60 := V6.frozen 0
           try have f61 := V6.frozen 1
           try have f62 := V6.frozen 2
           have e6 : ∀ V, w.heap.size + 2 ≠ V → ∀ a b d, (((w6.setCell ⟨V, 0, none⟩ a).setCell ⟨V, 1, none⟩ b).setCell ⟨V, 2, none⟩ d).cell? ⟨w.heap.size + 2, 0, none⟩ = some (.pointer (some ⟨w.heap.size + 1, 0, none⟩)) := fun V hV a b d => set_far (set_far (set_far p6 hV) hV) hV
           clear hr6 hg6 hg0)
        | (go_at_call 33; refine (HN1.out _ (by first | exact HZ4d.out.par.rd | exact (HZ4.out.par.rd.below ((Below.refl _ _).alloc (Nat.le_refl _) _)).below ((Below.refl _ _).drew))).mono ?_; rintro e w5 ⟨rfl, hr5, hg0⟩
           have hg5 : w4.grownBy w5 (some (w.heap.size + 1)) := by first | exact grownBy_of_drew hg0 | exact grownBy_of_alloc (grownBy_of_drew hg0)
           have HZ5 := Lib.hid (HZ4.out.step hr5 hg5)
           have p5 := HZ5.out.p0
           have q5 := fun o => cell_alloc p5 o
           have hsz5 := hg5.size
           try have V5 : Blk w5 w4.heap.size 33 [.int .i64 0, .int .i64 0, .slice none 0 0] := (Blk.new w4 33 [.int .i64 0, .int .i64 0, .slice none 0 0]).grown (grownBy_of_drew hg0) (by intro e; have := Option.some.inj e; omega)
           clear hr5 hg5 hg0))
    all_goals
      go_wp2_with fail
      go_meet
      first
        | exact ⟨w6.heap.size, rfl, HZ6.out.par.par.lt, Lib.hid (HZ6.out.below_ ((Below.refl _ w6).alloc (Nat.le_refl _) _)), Lib.hid (Blk.new w6 _ [.int .i64 maj, .int .i64 min, .slice none 0 0])⟩
        | exact ⟨_, rfl, by omega, Lib.hid (((HZ6.out.setV V6 (by omega)).setV (V6.set_ 0 _) (by omega)).setV ((V6.set_ 0 _).set_ 1 _) (by omega)), Lib.hid (((V6.set_ 0 _).set_ 1 _).set_ 2 _)⟩
  case rest =>
    obtain ⟨V, rfl, hV, HZC, HVC⟩ := hcut
    have hbound := HZC.out.par.rd.big
    go_upto_block 1 with fail
    go_cut [] (fun wx => ∃ (bl sv : Value) (l : List TB) (starts : List Int) (s : Rd.St), Hid (Pj w wx A n c L s bl sv l starts) ∧ Hid (Blk wx V 33 [.int .i64 maj, .int .i64 min, .slice none 0 0]) ∧ Hid (T = ((l, starts), s)) ∧ Hid (Rd.left n s = 0) ∧ Hid (∀ B ∈ l, Bnd B) ∧ l.length ≤ 4096)
    case first =>
      go_wp2_with fail
      go_loopw [] (fun wr => ∃ (bl sv : Value) (l : List TB) (starts : List Int) (s : Rd.St) (f : Nat), Hid (Pj w wr A n c L s bl sv l starts) ∧ Hid (Blk wr V 33 [.int .i64 maj, .int .i64 min, .slice none 0 0]) ∧ Hid (T = ((l ++ (Rd.blocksM f l.length L s).1.1, starts ++ (Rd.blocksM f l.length L s).1.2), (Rd.blocksM f l.length L s).2)) ∧ Hid (Rd.left n s < f) ∧ Hid (∀ B ∈ l, Bnd B) ∧ l.length ≤ 4096) (fun wr => measL n (w.heap.size + 1) wr)
      case atStart => exact ⟨_, _, [], [], s2, n + 1, HZC, HVC, by show _ = _; rw [HT.out]; rfl, by show _ < _; unfold Rd.left; split <;> omega, fun B hB => by simp at hB, by simp⟩
      case round =>
        obtain ⟨bl, sv, l, starts, s, f, HZR, HVR, HTR, HLF, HBN, hl4⟩ := hrel
        have p0 := HZR.out.p0
        have p1 := HZR.out.p1
        obtain ⟨m, hm⟩ : ∃ m, m = l.length := ⟨_, rfl⟩
        obtain ⟨B, d, rfl⟩ : ∃ B d, bl = .slice B m d := by
          obtain ⟨cs, h1, _⟩ := HZR.out.par.own
          obtain ⟨B, d, h2⟩ := own_form h1
          exact ⟨B, d, by rw [hm]; exact h2⟩
        have HM := Lib.hid hm
        have hm4 : m ≤ 4096 := by omega
        have HLE := rdLeft (w.heap.size + 1) A n c L s wr HZR.out.par.rd
        have HME := Lib.hid (meas_eq HZR.out.par.rd)
        have HZRd := Lib.hid (fun q => HZR.out.below_ (Below_drewN (Below.refl _ wr) q))
        have hlf := HLF.out
        obtain ⟨f, rfl⟩ : ∃ g, f = g + 1 := ⟨f - 1, by omega⟩
        by_cases hz : Rd.left n s = 0
        · have hT : T = ((l, starts), s) := by
            have := HTR.out
            unfold Rd.blocksM at this
            rw [HNN.out, if_pos hz] at this
            simpa using this
          have HTF := Lib.hid hT
          have HZ0 := Lib.hid hz
          rw [hz] at HLE
          have HLE := Lib.hid HLE
          clear hT hz hm hlf
          go_wp2_with (first
            | (go_at_call 34; refine HLE.out.mono ?_; rintro e w5 ⟨rfl, q5, rfl⟩))
          go_meet
          exact ⟨_, _, l, starts, s, Lib.hid (HZRd.out _), HVR, HTF, HZ0, HBN, hl4⟩
        · obtain ⟨lf, hlfe⟩ : ∃ lf, lf = Rd.left n s := ⟨_, rfl⟩
          have HLFE := Lib.hid hlfe
          rw [← hlfe] at HLE
          have hpos : (0 : Int) < lf := by omega
          have HLE := Lib.hid HLE
          have HNZ := Lib.hid hz
          by_cases hfull : m = 4096
          · have hfi : ((m : Int) == 4096) = true := by simp; omega
            have hT : T = ((l, starts), Rd.fail s 8 s.k) := by
              have := HTR.out
              unfold Rd.blocksM at this
              rw [HNN.out, if_neg hz, if_pos (by omega)] at this
              simpa using this
            have HTF := Lib.hid hT
            have HL0 : Hid (Rd.left n (Rd.fail s 8 s.k) = 0) := by
              show _ = _
              unfold Rd.fail Rd.left
              cases hb : s.bad with
              | none => rfl
              | some q => simp only [hb]
            have HA := Lib.hid (fun q => rdAt (w.heap.size + 1) A n c L s _ (HZRd.out q).par.rd)
            have HF := Lib.hid (fun u (hu : RdIs u (w.heap.size + 1) A n c L s) => rdFail (w.heap.size + 1) A n c L s 8 s.k u hu (by decide))
            clear hT hz hm hlf hlfe hfull
            go_wp2_with (first
              | (go_at_call 34; refine HLE.out.mono ?_; rintro e w5 ⟨rfl, q5, rfl⟩))
            have p5 : (wr.drewN q5).cell? ⟨w.heap.size + 2, 0, none⟩ = some (.pointer (some ⟨w.heap.size + 1, 0, none⟩)) := (HZRd.out q5).p0
            have HZ5 := Lib.hid ((HZRd.out q5).below_ ((Below.refl _ (wr.drewN q5)).drew))
            go_region_held3 (fun w' => w'.cell? ⟨w.heap.size + 2, 0, none⟩ = some (.pointer (some ⟨w.heap.size + 1, 0, none⟩))) (first | exact p5 | exact p7)
              (first
                | (go_at_call 36; refine (rdAt (w.heap.size + 1) A n c L s _ HZ5.out.par.rd).mono ?_; rintro e w6 ⟨rfl, rfl⟩)
                | (go_at_call 35; refine (HF.out _ HZ5.out.par.rd).mono ?_; rintro e w7 ⟨rfl, hr7, hg7⟩; have HZ7 := Lib.hid (HZ5.out.step hr7 hg7); have HV7 := Lib.hid (Blk.grown (show Blk (wr.drewN q5).drew V _ _ from HVR.out) hg7 (by intro e; have := Option.some.inj e; omega)); have p7 := HZ7.out.p0; clear hr7 hg7))
            all_goals
              go_wp2_with fail
              go_meet
              exact ⟨_, _, l, starts, _, HZ7, HV7, HTF, HL0, HBN, hl4⟩
          · have hfi : ((m : Int) == 4096) = false := by simp; omega
            have hml : m + 1 ≤ 4096 := by omega
            have HBL := Lib.hid (fun q => tzBlock w.heap.size (w.heap.size + 2) (w.heap.size + 1) A n c L s (.slice B m d) sv l starts m (wr.drewN q) (HZRd.out q).par HM.out.symm (by omega) ha (by have := (HZRd.out q).below.size; simpa using this) (HZRd.out q).apart)
            have hT : T = (((l ++ [(Rd.blockM L s).1]) ++ (Rd.blocksM f (l ++ [(Rd.blockM L s).1]).length L (Rd.blockM L s).2).1.1, (starts ++ [(s.k : Int)]) ++ (Rd.blocksM f (l ++ [(Rd.blockM L s).1]).length L (Rd.blockM L s).2).1.2), (Rd.blocksM f (l ++ [(Rd.blockM L s).1]).length L (Rd.blockM L s).2).2) := by
              have := HTR.out
              unfold Rd.blocksM at this
              rw [HNN.out, if_neg hz, if_neg (by omega)] at this
              rw [this]
              simp [List.append_assoc]
            have HTF := Lib.hid hT
            have hlt : Rd.left n (Rd.blockM L s).2 < Rd.left n s := by
              have := Rd.left_le L s (by rw [HNN.out]; exact hz)
              rwa [HNN.out] at this
            have HLT := Lib.hid hlt
            have HB1 := Lib.hid (block_bnd L s HBY.out)
            obtain ⟨B1, sB, hM1⟩ : ∃ x t, Rd.blockM L s = (x, t) := ⟨_, _, rfl⟩
            rw [hM1] at HTF HLT HB1 HBL
            clear hT hz hm hlf hlfe hfull hlt hM1
            go_wp2_with (first
              | (go_at_call 34; refine HLE.out.mono ?_; rintro e w5 ⟨rfl, q5, rfl⟩)
              | (go_at_call 37; refine (HBL.out _).mono ?_; intro e w6 hp; have h6 := (HZRd.out _).block rfl hp; obtain ⟨rfl, bl6, sv6, hz6, hk6⟩ := h6; have HZ6 := Lib.hid hz6; have HV6 := Lib.hid ((HZRd.out _).tapeKept (HVR.out.drewN _) hk6); clear hp hz6 hk6))
            go_roundw
            case rel => exact ⟨bl6, sv6, l ++ [B1], starts ++ [(s.k : Int)], sB, f, HZ6, HV6, HTF, by show _ < _; have := HLT.out; have := HLF.out; omega, fun x hx => by
              rcases List.mem_append.1 hx with h1 | h1
              · exact HBN.out x h1
              · have : x = B1 := by simpa using h1
                rw [this]; exact HB1.out, by simp; have := HM.out; omega⟩
            case measure =>
              rw [HME.out, meas_eq HZ6.out.par.rd]
              exact HLT.out
    case rest =>
      obtain ⟨bl, sv, l, starts, s, HZE, HVE, HTE, HLE, HBE, hl4⟩ := hcut
      obtain ⟨we, rfl⟩ : ∃ we : World, we = wc := ⟨_, rfl⟩
      have p0 := HZE.out.p0
      have p1 := HZE.out.p1
      have p2 := HZE.out.p2
      have HEN := rdEnd (w.heap.size + 1) A n c L s we HZE.out.par.rd
      have hL0 := HLE.out
      obtain ⟨m, hm⟩ : ∃ m, m = l.length := ⟨_, rfl⟩
      have HM := Lib.hid hm
      obtain ⟨k, bad⟩ := s
      cases bad with
      | some q =>
        obtain ⟨E, p⟩ := q
        have HEN := Lib.hid HEN
        have hR : Rd.parseD L = .fault E p := by rw [HP.out, HTE.out]; rfl
        have HR := Lib.hid hR
        have t0 := HZE.out.tape
        clear hm hL0 hR
        go_wp2_with (first
          | (go_at_call 38; refine HEN.out.mono ?_; rintro e w6 ⟨hb6, f, rfl, hf6⟩; have HZ6 := Lib.hid (HZE.out.below_ hb6); have HF6 := Lib.hid hf6; have t60 := HZ6.out.tape.cell 0; have t61 := HZ6.out.tape.cell 1; have t62 := HZ6.out.tape.cell 2; have g60 := HZ6.out.tape.frozen 0; have g61 := HZ6.out.tape.frozen 1; have g62 := HZ6.out.tape.frozen 2; clear hb6 hf6))
        have HS8 := Lib.hid (((HZ6.out.tape.set_ 0 (.int .i64 0)).set_ 1 (.int .i64 0)).set_ 2 (.slice none 0 0))
        have HF8 := Lib.hid (((HF6.out.far (p := ⟨w.heap.size, 0, none⟩) (fun e => blk_ne HF6.out HZ6.out.tape (by decide) e) (.int .i64 0)).far (p := ⟨w.heap.size, 1, none⟩) (fun e => blk_ne HF6.out HZ6.out.tape (by decide) e) (.int .i64 0)).far (p := ⟨w.heap.size, 2, none⟩) (fun e => blk_ne HF6.out HZ6.out.tape (by decide) e) (.slice none 0 0))
        refine bodyPost_ret (v := .tuple #[.agg #[.int .i64 0, .int .i64 0, .slice none 0 0], .iface 64 (.pointer (some ⟨f, 0, none⟩))]) (results_row_tmp rfl rfl HS8.out Try.underlying33 rfl infoTapeR rfl) rfl ⟨?_, ?_⟩
        · exact ((HZ6.out.below.setCell (Nat.le_refl _) _).setCell (Nat.le_refl _) _).setCell (Nat.le_refl _) _
        · rw [HR.out]
          exact ⟨f, rfl, HF8.out⟩
      | none =>
        have hkn : ¬ k < n := by
          have h1 : n - k = 0 := hL0
          omega
        have HEN := Lib.hid (HEN.mono (R' := fun e w' => Below we.heap.size we w' ∧ e = .returned Value.nilIface) fun e w' ⟨h1, h2⟩ => ⟨h1, by simp only [if_neg hkn] at h2; exact h2⟩)
        obtain ⟨si, se, hfw⟩ : ∃ a b, Tz.firstW (Tz.wrongB l) l.length = (a, b) := ⟨_, _, rfl⟩
        have hR : Rd.parseD L = if se = 0 then .tape maj min l else .fault se (starts.getD si.toNat 0) := by
          rw [HP.out, HTE.out]
          show Rd.soundD maj min l starts = _
          unfold Rd.soundD
          rw [hfw]
        have HR := Lib.hid hR
        obtain ⟨cs, ho, ht⟩ := HZE.out.par.own
        obtain ⟨g, A', c', rfl, hA', hbt⟩ := blksT_of ho ht HBE.out
        rw [← hm] at p1
        have HSO := Lib.hid (fun u (hu : Below we.heap.size we u) => soundG g A' m c' l u (by rw [hm]; exact hA') (hbt.below hu) hm.symm (by omega))
        rw [← hm] at hfw
        rw [FirstP_eq hfw] at HSO
        have HO := Lib.hid ho
        have HTB := Lib.hid ht
        have HFW := Lib.hid (Tz.firstW_range (Tz.wrongB l) m ⟨_, rfl⟩)
        rw [hfw] at HFW
        clear hm hL0 hR ho ht hA' hbt hfw hkn
        by_cases hse : se = 0
        · have hse2 : (se == 0) = true := by simpa using hse
          have HR2 : Hid (Rd.parseD L = .tape maj min l) := by show _ = _; rw [HR.out, if_pos hse]
          clear hse
          go_wp2_with (first
            | (go_at_call 38; refine HEN.out.mono ?_; rintro e w6 ⟨hb6, rfl⟩; have HB6 := Lib.hid hb6; have HZ6 := Lib.hid (HZE.out.below_ hb6); have p16 := HZ6.out.p1; rw [← HM.out] at p16; have p06 := HZ6.out.p0; clear hb6)
            | (go_at_call 24; refine (HSO.out w6 HB6.out).mono ?_; rintro e w7 ⟨rfl, hb7⟩; have HB7 := Lib.hid (HB6.out.trans (hb7.mono HB6.out.size)); have HZ7 := Lib.hid (HZ6.out.below_ hb7); have HV7 := Lib.hid (HVE.out.below_ HB7.out); have p17 := HZ7.out.p1; rw [← HM.out] at p17; have v72 := HV7.out.cell 2; have f72 := HV7.out.frozen 2; have v70 := HV7.out.cell 0; have v71 := HV7.out.cell 1; have s70 := HZ7.out.tape.cell 0; have s71 := HZ7.out.tape.cell 1; have s72 := HZ7.out.tape.cell 2; have g70 := HZ7.out.tape.frozen 0; have g71 := HZ7.out.tape.frozen 1; have g72 := HZ7.out.tape.frozen 2; clear hb7))
          have HVF := Lib.hid (HV7.out.set_ 2 (.slice A' m c'))
          have hg8 : w7.grownBy (w7.setCell ⟨V, 2, none⟩ (.slice A' m c')) (some V) := grownBy_setCell (grownBy_refl w7 _) 2 _
          have HT8 := Lib.hid (HZ7.out.tape.far (p := ⟨V, 2, none⟩) (by show w.heap.size ≠ V; omega) (.slice A' m c'))
          have HS8 := Lib.hid (((HT8.out.set_ 0 (.int .i64 maj)).set_ 1 (.int .i64 min)).set_ 2 (.slice A' m c'))
          have hg9 : (w7.setCell ⟨V, 2, none⟩ (.slice A' m c')).grownBy ((((w7.setCell ⟨V, 2, none⟩ (.slice A' m c')).setCell ⟨w.heap.size, 0, none⟩ (.int .i64 maj)).setCell ⟨w.heap.size, 1, none⟩ (.int .i64 min)).setCell ⟨w.heap.size, 2, none⟩ (.slice A' m c')) (some w.heap.size) := grownBy_setCell (grownBy_setCell (grownBy_setCell (grownBy_refl _ _) 0 _) 1 _) 2 _
          have HO9 := Lib.hid (own_blk_ne (own_blk_ne (own_below HO.out HB7.out) HV7.out (by decide) hg8) HT8.out (by decide) hg9)
          have HTB9 := Lib.hid (((HTB.out.map fun B d t i p s r hx => hx.keep (keepX_below HB7.out)).tape HV7.out hg8).tape HT8.out hg9)
          refine bodyPost_ret (v := .tuple #[.agg #[.int .i64 maj, .int .i64 min, .slice A' m c'], Value.nilIface]) (results_row_tmp rfl rfl HS8.out Try.underlying33 rfl infoTapeR rfl) rfl ⟨?_, ?_⟩
          · exact (((HZ7.out.below.setCell (by show w.heap.size ≤ V; omega) _).setCell (Nat.le_refl _) _).setCell (Nat.le_refl _) _).setCell (Nat.le_refl _) _
          · rw [HR2.out]
            refine ⟨_, sv.ownBlock, cs, rfl, ?_, HTB9.out⟩
            have := HO9.out
            rw [← HM.out] at this ⊢
            exact this
        · have hse2 : (se == 0) = false := by simpa using hse
          obtain ⟨i, hi, him⟩ := HFW.out hse
          simp only at hi
          subst hi
          have HR2 : Hid (Rd.parseD L = .fault se (starts.getD i 0)) := by show _ = _; rw [HR.out, if_neg hse]; simp
          obtain ⟨x, hx⟩ : ∃ x, starts[i]? = some x := ⟨_, List.getElem?_eq_getElem (by have := HZE.out.par.sta.1; simp at this; have := HM.out; omega)⟩
          have HX : Hid (starts.getD i 0 = x) := by show _ = _; simp [List.getD, hx]
          obtain ⟨gs, cc, rfl, hcx⟩ : ∃ gs cc, sv = .slice (some ⟨gs, 0, none⟩) m cc ∧ we.cell? ⟨gs, i, none⟩ = some (.int .i64 x) := by
            have hsta := HZE.out.par.sta
            rw [← HM.out] at hsta
            obtain ⟨gs, cc, e1, _⟩ := hsta.form (by omega)
            subst e1
            have := hsta.cells (g := gs) rfl i (.int .i64 x) (by rw [List.getElem?_map, hx]; rfl)
            rw [Addr.add_mid] at this
            exact ⟨gs, cc, rfl, by simpa using this⟩
          have him2 : (i : Int) < m := by omega
          clear hse hx
          go_wp2_with (first
            | (go_at_call 38; refine HEN.out.mono ?_; rintro e w6 ⟨hb6, rfl⟩; have HB6 := Lib.hid hb6; have HZ6 := Lib.hid (HZE.out.below_ hb6); have p16 := HZ6.out.p1; rw [← HM.out] at p16; have p06 := HZ6.out.p0; clear hb6)
            | (go_at_call 24; refine (HSO.out w6 HB6.out).mono ?_; rintro e w7 ⟨rfl, hb7⟩; have HB7 := Lib.hid (HB6.out.trans (hb7.mono HB6.out.size)); have HZ7 := Lib.hid (HZ6.out.below_ hb7); have p27 := HZ7.out.p2; have c7 : w7.cell? ⟨gs, i, none⟩ = some (.int .i64 x) := cell_below hcx HB7.out; have s70 := HZ7.out.tape.cell 0; have s71 := HZ7.out.tape.cell 1; have s72 := HZ7.out.tape.cell 2; have g70 := HZ7.out.tape.frozen 0; have g71 := HZ7.out.tape.frozen 1; have g72 := HZ7.out.tape.frozen 2; clear hb7))
          have hgn : ¬ w.heap.size = gs := fun e => by
            have h1 := HZ7.out.tape.cell i
            rw [e, c7] at h1
            match i, h1 with
            | 0, h1 =>
              have hty := HZ7.out.par.sta
              rcases own_none_or hty with h3 | ⟨g', h3, _, d, cur, _, h4⟩
              · cases h3
              · have : gs = g' := Option.some.inj h3
                subst this
                exact type_of_blk HZ7.out.tape h4 (by decide) e.symm
            | 1, h1 =>
              have hty := HZ7.out.par.sta
              rcases own_none_or hty with h3 | ⟨g', h3, _, d, cur, _, h4⟩
              · cases h3
              · have : gs = g' := Option.some.inj h3
                subst this
                exact type_of_blk HZ7.out.tape h4 (by decide) e.symm
            | 2, h1 => simp at h1
            | i + 3, h1 => simp at h1
          have hgm : ¬ gs = w.heap.size := fun e => hgn e.symm
          have hglt : gs < w7.heap.size := block_lt_of_cell c7
          have hslt : w.heap.size < w7.heap.size := HZ7.out.tape.lt
          have hplt : w.heap.size + 2 < w7.heap.size := HZ7.out.par.par.lt
          go_region
          all_goals
            go_wp2_with fail
            have HS8 := Lib.hid (((((HZ7.out.tape.set_ 0 (.int .i64 0)).set_ 1 (.int .i64 0)).set_ 2 (.slice none 0 0)).alloc (.cells #[.int .i64 se, .int .i64 x] 66)).drew)
            have HF8 : Hid (Blk ((((w7.setCell ⟨w.heap.size, 0, none⟩ (.int .i64 0)).setCell ⟨w.heap.size, 1, none⟩ (.int .i64 0)).setCell ⟨w.heap.size, 2, none⟩ (.slice none 0 0)).alloc (.cells #[.int .i64 se, .int .i64 x] 66)).drew w7.heap.size 66 [.int .i64 se, .int .i64 x]) := by
              show Blk _ _ _ _
              obtain ⟨W, hW⟩ : ∃ W, W = ((w7.setCell ⟨w.heap.size, 0, none⟩ (.int .i64 0)).setCell ⟨w.heap.size, 1, none⟩ (.int .i64 0)).setCell ⟨w.heap.size, 2, none⟩ (.slice none 0 0) := ⟨_, rfl⟩
              have hWs : W.heap.size = w7.heap.size := by rw [hW]; simp
              rw [← hW, ← hWs]
              exact (Blk.new W _ [.int .i64 se, .int .i64 x]).drew
            refine bodyPost_ret (v := .tuple #[.agg #[.int .i64 0, .int .i64 0, .slice none 0 0], .iface 64 (.pointer (some ⟨w7.heap.size, 0, none⟩))]) (results_row_tmp rfl rfl HS8.out Try.underlying33 rfl infoTapeR rfl) rfl ⟨?_, ?_⟩
            · exact (((((HZ7.out.below.setCell (Nat.le_refl _) _).setCell (Nat.le_refl _) _).setCell (Nat.le_refl _) _).alloc (by have := HZ7.out.below.size; simp; omega) _).drew)
            · rw [HR2.out, HX.out]
              exact ⟨w7.heap.size, rfl, HF8.out⟩
end Go.Proofs.Ytokidpajialgbaa
