/- Texts that are laid together: G33. -/
import Derived.Test.YtokidpajialgbaaQRdI
import Derived.Test.YtokidpajialgbaaQG03
namespace Go.Proofs.Ytokidpajialgbaa
set_option linter.unusedSimpArgs false
set_option linter.unusedVariables false
open Go.RowKit
/-- all but two blocks is as it was -/
structure Grew2 (R b : Nat) (w w' : World) : Prop where
  os : w'.os = w.os
  tape : w'.tape = w.tape
  output : w'.output = w.output
  size : w.heap.size ≤ w'.heap.size
  block : ∀ k, k < w.heap.size → k ≠ R → k ≠ b → w'.heap[k]? = w.heap[k]?
section
variable {w w' w'' : World} {R b : Nat}
theorem grew2_of (h : w.grownBy w' (some R)) : Grew2 R b w w' := ⟨h.os, h.tape, h.output, h.size, fun k hk h1 _ => h.block k hk (fun e => h1 (Option.some.inj e))⟩
theorem grew2_b (h : w.grownBy w' (some b)) : Grew2 R b w w' := ⟨h.os, h.tape, h.output, h.size, fun k hk _ h1 => h.block k hk (fun e => h1 (Option.some.inj e))⟩
theorem Grew2.trans (h : Grew2 R b w w') (h' : Grew2 R b w' w'') : Grew2 R b w w'' :=
  ⟨h'.os.trans h.os, h'.tape.trans h.tape, h'.output.trans h.output, Nat.le_trans h.size h'.size, fun k hk h1 h2 => (h'.block k (Nat.lt_of_lt_of_le hk h.size) h1 h2).trans (h.block k hk h1 h2)⟩
theorem Grew2.set_ (h : Grew2 R b w w') (i : Nat) (v : Value) : Grew2 R b w (w'.setCell ⟨b, i, none⟩ v) := h.trans (grew2_b (grownBy_setCell (grownBy_refl _ _) i v))
theorem Grew2.cell {P i : Nat} {v : Value} (h : Grew2 R b w w') (hc : w.cell? ⟨P, i, none⟩ = some v) (h1 : P ≠ R) (h2 : P ≠ b) : w'.cell? ⟨P, i, none⟩ = some v := by
  rw [← hc]
  exact World.cell?_of_block (h.block P (block_lt_of_cell hc) h1 h2)
theorem set_far {P b i j : Nat} {u v : Value} (hc : w.cell? ⟨P, i, none⟩ = some v) (h : P ≠ b) : (w.setCell ⟨b, j, none⟩ u).cell? ⟨P, i, none⟩ = some v :=
  (World.cell?_of_block (Below.heap_setCell w ⟨b, j, none⟩ u P h)).trans hc
end
/-- a block that is being filled: which cells, and the reader -/
structure Fill (w : World) (R P b : Nat) (A : Addr) (n c : Nat) (L : List Int) (s : Rd.St) (cs : List Value) : Prop where
  blk : Blk w b 28 cs
  rd : RdIs w R A n c L s
  par : w.cell? ⟨P, 0, none⟩ = some (.pointer (some ⟨R, 0, none⟩))
  lt : R < b
  pr : P ≠ R
  pb : P ≠ b
section
variable {w w' : World} {R P b : Nat} {A : Addr} {n c : Nat} {L : List Int} {s s' : Rd.St} {cs : List Value}
theorem Fill.step (h : Fill w R P b A n c L s cs) (hr : RdIs w' R A n c L s') (hg : w.grownBy w' (some R)) : Fill w' R P b A n c L s' cs :=
  ⟨h.blk.grown hg (fun e => by have := Option.some.inj e; have := h.lt; omega), hr, par_grown h.par h.pr hg, h.lt, h.pr, h.pb⟩
theorem Fill.set_ (h : Fill w R P b A n c L s cs) (i : Nat) (u : Value) : Fill (w.setCell ⟨b, i, none⟩ u) R P b A n c L s (cs.set i u) :=
  ⟨h.blk.set_ i u, h.rd.setCell h.blk (by decide) h.lt, set_far h.par h.pb, h.lt, h.pr, h.pb⟩
theorem Fill.below (h : Fill w R P b A n c L s cs) (hb : Below w.heap.size w w') : Fill w' R P b A n c L s cs :=
  ⟨h.blk.below_ hb, h.rd.below hb, cell_below h.par hb, h.lt, h.pr, h.pb⟩
theorem Fill.cell (h : Fill w R P b A n c L s cs) (i : Nat) (hi : i < cs.length) : ∃ v, w.cell? ⟨b, i, none⟩ = some v := ⟨cs[i], by rw [h.blk.cell i]; simp [hi]⟩
end
namespace Rd
def pureM : RM (Int × Int × List Int) := bind (num 1) fun u => bind (num 2) fun p => bind (dataM 3) fun d => ret (u, p, d)
end Rd
def PureP (R P b : Nat) (A : Addr) (n c : Nat) (L : List Int) (cs : List Value) (w : World) (t : Int × Int × List Int) (s : Rd.St) (e : Ending) (w' : World) : Prop :=
  e = .returned (.tuple #[]) ∧ ∃ d, Fill w' R P b A n c L s (((cs.set 9 (.int .i64 t.1)).set 1 (.int .i64 t.2.1)).set 12 d) ∧ RowOf w' w.heap.size d .u8 t.2.2 ∧ Grew2 R b w w'
set_option maxRecDepth 100000 in
set_option maxHeartbeats 4000000 in
theorem tzPure (P R b : Nat) (A : Addr) (n c : Nat) (L : List Int) (s : Rd.St) (cs : List Value) (w : World) (h : Fill w R P b A n c L s cs) (hcs : cs.length = 18) :
    Calls Try.prog 90 #[.pointer (some ⟨P, 0, none⟩), .pointer (some ⟨b, 0, none⟩)] w (PureP R P b A n c L cs w (Rd.pureM L s).1 (Rd.pureM L s).2) := by
  have HN1 := Lib.hid (fun u (hu : RdIs u R A n c L s) => rdNumber R A n c L s 1 u hu (by omega) (by omega))
  obtain ⟨x, s1, hM1⟩ : ∃ x s1, Rd.num 1 L s = (x, s1) := ⟨_, _, rfl⟩
  rw [hM1] at HN1
  have HN2 := Lib.hid (fun u (hu : RdIs u R A n c L s1) => rdNumber R A n c L s1 2 u hu (by omega) (by omega))
  obtain ⟨y, s2, hM2⟩ : ∃ y s2, Rd.num 2 L s1 = (y, s2) := ⟨_, _, rfl⟩
  rw [hM2] at HN2
  have HN3 := Lib.hid (fun u (hu : RdIs u R A n c L s2) (hp : u.cell? ⟨P, 0, none⟩ = some (.pointer (some ⟨R, 0, none⟩))) => tzData P R A n c L s2 3 u hu hp h.pr (by omega) (by omega))
  obtain ⟨l, s3, hM3⟩ : ∃ l s3, Rd.dataM 3 L s2 = (l, s3) := ⟨_, _, rfl⟩
  rw [hM3] at HN3
  have hT : Rd.pureM L s = ((x, y, l), s3) := by
    unfold Rd.pureM
    simp only [Rd.bind, Rd.ret, hM1, hM2, hM3]
  rw [hT]
  have H := Lib.hid h
  have p0 := h.par
  have hpb := h.pb
  have hlt := h.lt
  have hbl := h.blk.lt
  have HCS := Lib.hid hcs
  clear h hM1 hM2 hM3 hT hcs
  go_enter Try.func90, Try.ntmps90
  go_wp2_with fail
  go_region_held3 (fun w' => w'.cell? ⟨P, 0, none⟩ = some (.pointer (some ⟨R, 0, none⟩))) (first | exact p0 | exact p1 | exact p2 | exact set_far p2 hpb | exact set_far (set_far p2 hpb) hpb)
    (first
      | (go_at_call_of 33 (Value.int .i64 1); refine (HN1.out _ (H.out.rd.below ((Below.refl _ w).drew))).mono ?_; rintro e w1 ⟨rfl, hr1, hg0⟩; have hg1 := grownBy_of_drew hg0; have HF1 := Lib.hid (H.out.step hr1 hg1); have HG1 := Lib.hid hg1; have p1 := HF1.out.par; clear hr1 hg1 hg0)
      | (go_at_call_of 33 (Value.int .i64 2); refine (HN2.out w1 HF1.out.rd).mono ?_; rintro e w2 ⟨rfl, hr2, hg2⟩; have HF2 := Lib.hid (HF1.out.step hr2 hg2); have HG2 := Lib.hid (grownBy_trans HG1.out hg2); have p2 := HF2.out.par; obtain ⟨v9, b9⟩ := HF2.out.cell 9 (by rw [HCS.out]; decide); have f9 := HF2.out.blk.frozen 9; obtain ⟨v1, b1⟩ := HF2.out.cell 1 (by rw [HCS.out]; decide); have f1 := HF2.out.blk.frozen 1; clear hr2 hg2))
  all_goals
    obtain ⟨w3, hw3⟩ : ∃ w3, w3 = (w2.setCell ⟨b, 9, none⟩ (.int .i64 x)).setCell ⟨b, 1, none⟩ (.int .i64 y) := ⟨_, rfl⟩
    rw [← hw3]
    have HF3 : Hid (Fill w3 R P b A n c L s2 ((cs.set 9 (.int .i64 x)).set 1 (.int .i64 y))) := by show Fill _ _ _ _ _ _ _ _ _ _; rw [hw3]; exact (HF2.out.set_ 9 _).set_ 1 _
    have HG3 : Hid (Grew2 R b w w3) := by show Grew2 _ _ _ _; rw [hw3]; exact ((grew2_of HG2.out).set_ 9 _).set_ 1 _
    clear hw3
    have p3 := HF3.out.par
    go_wp2_with (first
      | (go_at_call 89; refine (HN3.out w3 HF3.out.rd p3).mono ?_; rintro e w4 ⟨d, rfl, hv4, hr4, hg4⟩; obtain ⟨B, dd, rfl⟩ := own_form hv4; have HF4 := Lib.hid (HF3.out.step hr4 hg4); have HG4 := Lib.hid (HG3.out.trans (grew2_of hg4)); have HV4 := Lib.hid (hv4.mono HG3.out.size); obtain ⟨v12, b12⟩ := HF4.out.cell 12 (by simp only [List.length_set]; rw [HCS.out]; decide); have f12 := HF4.out.blk.frozen 12; clear hr4 hg4 hv4))
    go_end0
    exact ⟨rfl, _, HF4.out.set_ 12 _, HV4.out.setCell (by omega), HG4.out.set_ 12 _⟩
end Go.Proofs.Ytokidpajialgbaa
namespace Go.Proofs.Ytokidpajialgbaa
set_option linter.unusedSimpArgs false
set_option linter.unusedVariables false
open Go.RowKit
namespace Rd
def levelM : RM Int := bind (fixed 1) fun _ L s1 => bind (num 1) (fun u => bind (if 1 < u then failM 4 s1.k else ret ()) fun _ => ret u) L s1
def gluedM : RM (List Int) := fun L s => bind (take 9) (fun d _ s1 => match s1.bad with
  | some _ => (d, s1)
  | none => if d.take 7 = [88, 84, 97, 112, 101, 33, 26] then (d, s1) else (d, fail s1 3 s.k)) L s
/-- pause, rate, pack, count, data -/
def samplesM (at_ : Int) : RM (Int × Int × Int × Int × List Int) := bind (num 4) fun n => bind (num 2) fun p => bind (num 3) fun r => bind (num 1) fun k => bind (num 4) fun c =>
  if n - 10 < 0 then bind (failM 4 at_) fun _ => ret (p, r, k, c, []) else bind (take (n - 10)) fun d => ret (p, r, k, c, d)
end Rd
def OneP (R P b : Nat) (A : Addr) (n c : Nat) (L : List Int) (cs : List Value) (w : World) (s : Rd.St) (e : Ending) (w' : World) : Prop :=
  e = .returned (.tuple #[]) ∧ Fill w' R P b A n c L s cs ∧ Grew2 R b w w'
set_option maxRecDepth 100000 in
set_option maxHeartbeats 4000000 in
theorem tzLevel (P R b : Nat) (A : Addr) (n c : Nat) (L : List Int) (s : Rd.St) (cs : List Value) (w : World) (h : Fill w R P b A n c L s cs) (hcs : cs.length = 18) :
    Calls Try.prog 99 #[.pointer (some ⟨P, 0, none⟩), .pointer (some ⟨b, 0, none⟩)] w (OneP R P b A n c L (cs.set 9 (.int .i64 (Rd.levelM L s).1)) w (Rd.levelM L s).2) := by
  have HN1 := Lib.hid (tzFixed P R A n c L s 1 w h.rd h.par h.pr)
  obtain ⟨x, s1, hM1⟩ : ∃ x s1, Rd.fixed 1 L s = (x, s1) := ⟨_, _, rfl⟩
  rw [hM1] at HN1
  have HA := Lib.hid (fun u (hu : RdIs u R A n c L s1) => rdAt R A n c L s1 u hu)
  have HN2 := Lib.hid (fun u (hu : RdIs u R A n c L s1) => rdNumber R A n c L s1 1 u hu (by omega) (by omega))
  obtain ⟨y, s2, hM2⟩ : ∃ y s2, Rd.num 1 L s1 = (y, s2) := ⟨_, _, rfl⟩
  rw [hM2] at HN2
  have HF := Lib.hid (fun u (hu : RdIs u R A n c L s2) => rdFail R A n c L s2 4 s1.k u hu (by decide))
  obtain ⟨s3, hs3⟩ : ∃ s3, s3 = if 1 < y then Rd.fail s2 4 s1.k else s2 := ⟨_, rfl⟩
  have hT : Rd.levelM L s = (y, s3) := by
    unfold Rd.levelM
    simp only [Rd.bind, Rd.ret, hM1, hM2]
    rw [hs3]
    by_cases h1 : 1 < y
    · rw [if_pos h1, if_pos h1]; rfl
    · rw [if_neg h1, if_neg h1]; rfl
  rw [hT]
  have H := Lib.hid h
  have p0 := h.par
  have HCS := Lib.hid hcs
  have HS3 := Lib.hid hs3
  clear h hM1 hM2 hT hcs hs3
  by_cases h1 : 1 < y
  · have hs3 : s3 = Rd.fail s2 4 s1.k := by rw [HS3.out, if_pos h1]
    subst hs3
    go_enter Try.func99, Try.ntmps99
    go_wp2_with (first
      | (go_at_call 98; refine HN1.out.mono ?_; rintro e w1 ⟨rfl, hr1, hg1⟩; have HF1 := Lib.hid (H.out.step hr1 hg1); have HG1 := Lib.hid hg1; have p1 := HF1.out.par; clear hr1 hg1)
      | (go_at_call 36; refine (HA.out w1 HF1.out.rd).mono ?_; rintro e w2 ⟨rfl, rfl⟩)
      | (go_at_call 33; refine (HN2.out w1 HF1.out.rd).mono ?_; rintro e w2 ⟨rfl, hr2, hg2⟩; have HF2 := Lib.hid (HF1.out.step hr2 hg2); have HG2 := Lib.hid (grownBy_trans HG1.out hg2); have p2 := HF2.out.par; obtain ⟨v9, b9⟩ := HF2.out.cell 9 (by rw [HCS.out]; decide); have f9 := HF2.out.blk.frozen 9; have HF3 := Lib.hid (HF2.out.set_ 9 (.int .i64 y)); have p3 := HF3.out.par; clear hr2 hg2)
      | (go_at_call 35; refine (HF.out _ HF3.out.rd).mono ?_; rintro e w4 ⟨rfl, hr4, hg4⟩; have HF4 := Lib.hid (HF3.out.step hr4 hg4); have HG4 := Lib.hid (((grew2_of HG2.out (b := b)).set_ 9 _).trans (grew2_of hg4)); clear hr4 hg4))
    go_end0
    exact ⟨rfl, HF4.out, HG4.out⟩
  · have hs3 : s3 = s2 := by rw [HS3.out, if_neg h1]
    subst hs3
    go_enter Try.func99, Try.ntmps99
    go_wp2_with (first
      | (go_at_call 98; refine HN1.out.mono ?_; rintro e w1 ⟨rfl, hr1, hg1⟩; have HF1 := Lib.hid (H.out.step hr1 hg1); have HG1 := Lib.hid hg1; have p1 := HF1.out.par; clear hr1 hg1)
      | (go_at_call 36; refine (HA.out w1 HF1.out.rd).mono ?_; rintro e w2 ⟨rfl, rfl⟩)
      | (go_at_call 33; refine (HN2.out w1 HF1.out.rd).mono ?_; rintro e w2 ⟨rfl, hr2, hg2⟩; have HF2 := Lib.hid (HF1.out.step hr2 hg2); have HG2 := Lib.hid (grownBy_trans HG1.out hg2); have p2 := HF2.out.par; obtain ⟨v9, b9⟩ := HF2.out.cell 9 (by rw [HCS.out]; decide); have f9 := HF2.out.blk.frozen 9; have HF3 := Lib.hid (HF2.out.set_ 9 (.int .i64 y)); have p3 := HF3.out.par; clear hr2 hg2))
    go_end0
    exact ⟨rfl, HF3.out, (grew2_of HG2.out (b := b)).set_ 9 _⟩
theorem txt8_toList (l : List Int) : (txt8 l).toList = l.map (fun x => UInt8.ofNat x.toNat) := by rw [ByteArray.toList_eq]; simp [txt8]
theorem bytes_eq_iff : ∀ (l : List Int) (m : List UInt8), Byts l → (l.map (fun x => UInt8.ofNat x.toNat) = m ↔ l = m.map fun u => (u.toNat : Int))
  | [], [], _ => by simp
  | [], y :: m, _ => by simp
  | x :: l, [], _ => by simp
  | x :: l, y :: m, h => by
    have ih := bytes_eq_iff l m (fun z hz => h z (by simp [hz]))
    obtain ⟨x0, x1⟩ := h x (by simp)
    have hx : UInt8.ofNat x.toNat = y ↔ x = (y.toNat : Int) := by
      constructor
      · intro e; rw [← e]; simp; omega
      · intro e; rw [e]; simp
    rw [List.map_cons, List.map_cons, List.cons_eq_cons, List.cons_eq_cons, hx, ih]
theorem txt8_cmp (l : List Int) (m : List UInt8) (h : Byts l) : ((txt8 l).toList == m) = decide (l = m.map fun u => (u.toNat : Int)) := by
  rw [txt8_toList]
  have h1 := bytes_eq_iff l m h
  by_cases h2 : l = m.map fun u => (u.toNat : Int)
  · rw [decide_eq_true h2, beq_iff_eq]; exact h1.2 h2
  · rw [decide_eq_false h2]
    exact beq_false_of_ne fun e => h2 (h1.1 e)
def DatP (R P b : Nat) (A : Addr) (n c : Nat) (L : List Int) (cs : List Value) (w : World) (l : List Int) (s : Rd.St) (e : Ending) (w' : World) : Prop :=
  e = .returned (.tuple #[]) ∧ ∃ d, Fill w' R P b A n c L s (cs.set 12 d) ∧ RowOf w' w.heap.size d .u8 l ∧ Grew2 R b w w'
theorem blk_set_cell {w : World} {b : Nat} {t : TypeId} {cs : List Value} {i : Nat} {u : Value} (h : Blk w b t (cs.set i u)) (hi : i < cs.length) : w.cell? ⟨b, i, none⟩ = some u := by
  rw [h.cell i]
  simp [hi]
set_option maxRecDepth 100000 in
set_option maxHeartbeats 4000000 in
theorem tzGlued (P R b : Nat) (A : Addr) (n c : Nat) (L : List Int) (s : Rd.St) (cs : List Value) (w : World) (h : Fill w R P b A n c L s cs) (hcs : cs.length = 18) :
    Calls Try.prog 101 #[.pointer (some ⟨P, 0, none⟩), .pointer (some ⟨b, 0, none⟩)] w (DatP R P b A n c L cs w (Rd.gluedM L s).1 (Rd.gluedM L s).2) := by
  have HA := Lib.hid (rdAt R A n c L s w h.rd)
  have HN1 := Lib.hid (rdTake R A n c L s 9 w h.rd (by omega))
  obtain ⟨d, s1, hM1⟩ : ∃ d s1, Rd.take 9 L s = (d, s1) := ⟨_, _, rfl⟩
  rw [hM1] at HN1
  have HBYT : Hid (Byts d) := by have := take_byts h.rd.byt 9 s; rw [hM1] at this; exact this
  have hd9 : s1.bad = none → d.length = 9 := by
    have hlen := h.rd.len
    have hle := h.rd.le
    intro hb
    have e : Rd.take 9 L s = Rd.nextM 9 L s := rfl
    rw [e] at hM1
    unfold Rd.nextM at hM1
    split at hM1
    · rename_i q hq
      injection hM1 with _ h2
      rw [← h2, hq] at hb; cases hb
    · split at hM1
      · injection hM1 with _ h2
        rw [← h2] at hb; cases hb
      · injection hM1 with h1 _
        rw [← h1, List.length_take, List.length_drop]; omega
  have HD9 := Lib.hid hd9
  obtain ⟨T, hT⟩ : ∃ T, T = Rd.gluedM L s := ⟨_, rfl⟩
  have hT2 : T = match s1.bad with
      | some _ => (d, s1)
      | none => if d.take 7 = [88, 84, 97, 112, 101, 33, 26] then (d, s1) else (d, Rd.fail s1 3 s.k) := by
    rw [hT]
    unfold Rd.gluedM
    simp only [Rd.bind, hM1]
  have HT := Lib.hid hT2
  rw [← hT]
  have H := Lib.hid h
  have p0 := h.par
  have hbl := h.blk.lt
  have HCS := Lib.hid hcs
  clear h hM1 hT hT2 hcs hd9
  obtain ⟨kk, bad⟩ := s1
  cases bad with
  | some q =>
    have hT3 : T = (d, ⟨kk, some q⟩) := HT.out
    rw [hT3]
    clear HT hT3
    go_enter Try.func101, Try.ntmps101
    go_wp2_with (first
      | (go_at_call 36; refine HA.out.mono ?_; rintro e w2 ⟨rfl, rfl⟩)
      | (go_at_call 32; refine HN1.out.mono ?_; rintro e w1 ⟨v, rfl, hv1, hr1, hg1⟩; obtain ⟨B, dd, rfl⟩ := own_form hv1; have HF1 := Lib.hid (H.out.step hr1 hg1); have HG1 := Lib.hid hg1; have HV1 := Lib.hid hv1; have p1 := HF1.out.par; obtain ⟨v12, b12⟩ := HF1.out.cell 12 (by rw [HCS.out]; decide); have f12 := HF1.out.blk.frozen 12; have HF2 := Lib.hid (HF1.out.set_ 12 (.slice B d.length dd)); have p2 := HF2.out.par; have HBD := Lib.hid (rdBad R A n c L _ _ HF2.out.rd); clear hr1 hg1 hv1)
      | (go_at_call 114; refine HBD.out.mono ?_; rintro e w3 ⟨rfl, rfl⟩))
    go_end0
    exact ⟨rfl, _, HF2.out, HV1.out.setCell (by omega), (grew2_of HG1.out (b := b)).set_ 12 _⟩
  | none =>
    have hd9 := HD9.out rfl
    have hl7 : (d.take 7).length = 7 := by rw [List.length_take]; omega
    have HL7 := Lib.hid hl7
    have HD := Lib.hid hd9
    obtain ⟨X, hX⟩ : ∃ X, X = txt8 (d.take 7) := ⟨_, rfl⟩
    have HX := Lib.hid hX
    clear hd9 hl7 hX HD9
    have hbx : Byts (d.take 7) := fun x hx => HBYT.out x (List.mem_of_mem_take hx)
    have hcmp := txt8_cmp (d.take 7) [88, 84, 97, 112, 101, 33, 26] hbx
    rw [← HX.out] at hcmp
    by_cases hq : d.take 7 = [88, 84, 97, 112, 101, 33, 26]
    · rw [decide_eq_true (show d.take 7 = ([88, 84, 97, 112, 101, 33, 26] : List UInt8).map fun u => (u.toNat : Int) by rw [hq]; rfl)] at hcmp
      have hT3 : T = (d, ⟨kk, none⟩) := by rw [HT.out]; simp only [if_pos hq]
      rw [hT3]
      clear hT3 hq hbx
      go_enter Try.func101, Try.ntmps101
      go_wp2_with (first
        | (go_at_call 36; refine HA.out.mono ?_; rintro e w2 ⟨rfl, rfl⟩)
        | (go_at_call 32; refine HN1.out.mono ?_; rintro e w1 ⟨v, rfl, hv1, hr1, hg1⟩; obtain ⟨B, dd, rfl, hdd⟩ := own_form2 hv1; rw [HD.out] at hdd; have HF1 := Lib.hid (H.out.step hr1 hg1); have HG1 := Lib.hid hg1; have HV1 := Lib.hid hv1; have p1 := HF1.out.par; obtain ⟨v12, b12⟩ := HF1.out.cell 12 (by rw [HCS.out]; decide); have f12 := HF1.out.blk.frozen 12; have HF2 := Lib.hid (HF1.out.set_ 12 (.slice B d.length dd)); have p2 := HF2.out.par; have HV2 := Lib.hid (HV1.out.setCell (b := b) (i := 12) (u := .slice B d.length dd) (by omega)); have c12 := blk_set_cell HF2.out.blk (by rw [HCS.out]; decide); have hcv := conv_ints _ B 7 dd (d.take 7) (ints_take HV2.out.ints 7) HL7.out; rw [← HX.out] at hcv; rw [HD.out] at c12 hcv; rw [HD.out]; have HBD := Lib.hid (rdBad R A n c L _ _ HF2.out.rd); clear hr1 hg1 hv1)
        | (go_at_call 114; rw [← HD.out]; refine HBD.out.mono ?_; rintro e w3 ⟨rfl, rfl⟩; rw [HD.out]))
      go_end0
      rw [← HD.out]
      exact ⟨rfl, _, HF2.out, HV2.out, (grew2_of HG1.out (b := b)).set_ 12 _⟩
    · rw [decide_eq_false (show ¬ d.take 7 = ([88, 84, 97, 112, 101, 33, 26] : List UInt8).map fun u => (u.toNat : Int) from fun e => hq (e.trans rfl))] at hcmp
      have hT3 : T = (d, Rd.fail ⟨kk, none⟩ 3 s.k) := by rw [HT.out]; simp only [if_neg hq]
      rw [hT3]
      clear hT3 hq hbx
      go_enter Try.func101, Try.ntmps101
      go_wp2_with (first
        | (go_at_call 36; refine HA.out.mono ?_; rintro e w2 ⟨rfl, rfl⟩)
        | (go_at_call 32; refine HN1.out.mono ?_; rintro e w1 ⟨v, rfl, hv1, hr1, hg1⟩; obtain ⟨B, dd, rfl, hdd⟩ := own_form2 hv1; rw [HD.out] at hdd; have HF1 := Lib.hid (H.out.step hr1 hg1); have HG1 := Lib.hid hg1; have HV1 := Lib.hid hv1; have p1 := HF1.out.par; obtain ⟨v12, b12⟩ := HF1.out.cell 12 (by rw [HCS.out]; decide); have f12 := HF1.out.blk.frozen 12; have HF2 := Lib.hid (HF1.out.set_ 12 (.slice B d.length dd)); have p2 := HF2.out.par; have HV2 := Lib.hid (HV1.out.setCell (b := b) (i := 12) (u := .slice B d.length dd) (by omega)); have c12 := blk_set_cell HF2.out.blk (by rw [HCS.out]; decide); have hcv := conv_ints _ B 7 dd (d.take 7) (ints_take HV2.out.ints 7) HL7.out; rw [← HX.out] at hcv; rw [HD.out] at c12 hcv; rw [HD.out]; have HBD := Lib.hid (rdBad R A n c L _ _ HF2.out.rd); clear hr1 hg1 hv1)
        | (go_at_call 114; rw [← HD.out]; refine HBD.out.mono ?_; rintro e w3 ⟨rfl, rfl⟩; rw [HD.out])
        | (go_at_call 35; rw [← HD.out]; refine (rdFail R A n c L _ 3 s.k _ HF2.out.rd (by decide)).mono ?_; rintro e w4 ⟨rfl, hr4, hg4⟩; have HF4 := Lib.hid (HF2.out.step hr4 hg4); have HG4 := Lib.hid (((grew2_of HG1.out (b := b)).set_ 12 (.slice B d.length dd)).trans (grew2_of hg4)); have HV4 := Lib.hid (HV2.out.grown hg4 (by have := H.out.lt; omega)); clear hr4 hg4))
      go_end0
      exact ⟨rfl, _, HF4.out, HV4.out, HG4.out⟩
end Go.Proofs.Ytokidpajialgbaa
namespace Go.Proofs.Ytokidpajialgbaa
set_option linter.unusedSimpArgs false
set_option linter.unusedVariables false
open Go.RowKit
theorem set_same {cs : List Value} {i : Nat} {v : Value} (h : cs[i]? = some v) : cs.set i v = cs := by
  obtain ⟨hi, e⟩ := List.getElem?_eq_some_iff.1 h
  rw [← e]
  exact List.set_getElem_self hi
def SamP (R P b : Nat) (A : Addr) (n c : Nat) (L : List Int) (cs : List Value) (w : World) (t : Int × Int × Int × Int × List Int) (s : Rd.St) (e : Ending) (w' : World) : Prop :=
  e = .returned (.tuple #[]) ∧ ∃ d, Fill w' R P b A n c L s (((((cs.set 1 (.int .i64 t.1)).set 10 (.int .i64 t.2.1)).set 11 (.int .i64 t.2.2.1)).set 8 (.int .i64 t.2.2.2.1)).set 12 d) ∧ RowOf w' w.heap.size d .u8 t.2.2.2.2 ∧ Grew2 R b w w'
set_option maxRecDepth 100000 in
set_option maxHeartbeats 8000000 in
theorem tzSamples (P R b : Nat) (A : Addr) (n c : Nat) (L : List Int) (s : Rd.St) (cs : List Value) (at_ : Int) (w : World) (h : Fill w R P b A n c L s cs) (hcs : cs.length = 18) (h12 : cs[12]? = some (.slice none 0 0)) :
    Calls Try.prog 92 #[.pointer (some ⟨P, 0, none⟩), .pointer (some ⟨b, 0, none⟩), .int .i64 at_] w (SamP R P b A n c L cs w (Rd.samplesM at_ L s).1 (Rd.samplesM at_ L s).2) := by
  have HN0 := Lib.hid (rdNumber R A n c L s 4 w h.rd (by omega) (by omega))
  obtain ⟨hq0, hq1⟩ := num_range h.rd.byt 4 s (by omega)
  obtain ⟨q, s1, hM1⟩ : ∃ q s1, Rd.num 4 L s = (q, s1) := ⟨_, _, rfl⟩
  rw [hM1] at HN0 hq0 hq1
  simp only at hq0 hq1
  have hq2 : q < 4294967296 := hq1
  have HN1 := Lib.hid (fun u (hu : RdIs u R A n c L s1) => rdNumber R A n c L s1 2 u hu (by omega) (by omega))
  obtain ⟨x, s2, hM2⟩ : ∃ x s2, Rd.num 2 L s1 = (x, s2) := ⟨_, _, rfl⟩
  rw [hM2] at HN1
  have HN2 := Lib.hid (fun u (hu : RdIs u R A n c L s2) => rdNumber R A n c L s2 3 u hu (by omega) (by omega))
  obtain ⟨y, s3, hM3⟩ : ∃ y s3, Rd.num 3 L s2 = (y, s3) := ⟨_, _, rfl⟩
  rw [hM3] at HN2
  have HN3 := Lib.hid (fun u (hu : RdIs u R A n c L s3) => rdNumber R A n c L s3 1 u hu (by omega) (by omega))
  obtain ⟨z, s4, hM4⟩ : ∃ z s4, Rd.num 1 L s3 = (z, s4) := ⟨_, _, rfl⟩
  rw [hM4] at HN3
  have HN4 := Lib.hid (fun u (hu : RdIs u R A n c L s4) => rdNumber R A n c L s4 4 u hu (by omega) (by omega))
  obtain ⟨m, s5, hM5⟩ : ∃ m s5, Rd.num 4 L s4 = (m, s5) := ⟨_, _, rfl⟩
  rw [hM5] at HN4
  obtain ⟨T, hT⟩ : ∃ T, T = Rd.samplesM at_ L s := ⟨_, rfl⟩
  have hT2 : T = if q - 10 < 0 then ((x, y, z, m, []), Rd.fail s5 4 at_) else ((x, y, z, m, (Rd.take (q - 10) L s5).1), (Rd.take (q - 10) L s5).2) := by
    rw [hT]
    unfold Rd.samplesM
    simp only [Rd.bind, Rd.ret, hM1, hM2, hM3, hM4, hM5]
    split <;> rfl
  have HT := Lib.hid hT2
  rw [← hT]
  have H := Lib.hid h
  have p0 := h.par
  have hpb := h.pb
  have hbl := h.blk.lt
  have HCS := Lib.hid hcs
  have H12 := Lib.hid h12
  have HFL := Lib.hid (fun u (hu : RdIs u R A n c L s5) => rdFail R A n c L s5 4 at_ u hu (by decide))
  have HTK := Lib.hid (fun u (hu : RdIs u R A n c L s5) => rdTake R A n c L s5 (q - 10) u hu (by omega))
  clear h hM1 hM2 hM3 hM4 hM5 hT hT2 hcs h12
  go_enter Try.func92, Try.ntmps92
  go_upto_region 1 with (first
    | (go_at_call 33; refine HN0.out.mono ?_; rintro e w1 ⟨rfl, hr1, hg1⟩; have HF1 := Lib.hid (H.out.step hr1 hg1); have HG1 := Lib.hid hg1; have p1 := HF1.out.par; clear hr1 hg1))
  go_region_held3 (fun w' => w'.cell? ⟨P, 0, none⟩ = some (.pointer (some ⟨R, 0, none⟩))) (first | exact p1 | exact p2 | exact p3 | exact p4 | exact p5 | exact set_far p5 hpb | exact set_far (set_far p5 hpb) hpb | exact set_far (set_far (set_far p5 hpb) hpb) hpb | exact set_far (set_far (set_far (set_far p5 hpb) hpb) hpb) hpb)
    (first
      | (go_at_call_of 33 (Value.int .i64 2); refine (HN1.out _ (HF1.out.rd.below ((Below.refl _ w1).drew))).mono ?_; rintro e w2 ⟨rfl, hr2, hg0⟩; have hg2 := grownBy_of_drew hg0; have HF2 := Lib.hid (HF1.out.step hr2 hg2); have HG2 := Lib.hid (grownBy_trans HG1.out hg2); have p2 := HF2.out.par; clear hr2 hg2 hg0)
      | (go_at_call_of 33 (Value.int .i64 3); refine (HN2.out w2 HF2.out.rd).mono ?_; rintro e w3 ⟨rfl, hr3, hg3⟩; have HF3 := Lib.hid (HF2.out.step hr3 hg3); have HG3 := Lib.hid (grownBy_trans HG2.out hg3); have p3 := HF3.out.par; clear hr3 hg3)
      | (go_at_call_of 33 (Value.int .i64 1); refine (HN3.out w3 HF3.out.rd).mono ?_; rintro e w4 ⟨rfl, hr4, hg4⟩; have HF4 := Lib.hid (HF3.out.step hr4 hg4); have HG4 := Lib.hid (grownBy_trans HG3.out hg4); have p4 := HF4.out.par; clear hr4 hg4)
      | (go_at_call_of 33 (Value.int .i64 4); refine (HN4.out w4 HF4.out.rd).mono ?_; rintro e w5 ⟨rfl, hr5, hg5⟩; have HF5 := Lib.hid (HF4.out.step hr5 hg5); have HG5 := Lib.hid (grownBy_trans HG4.out hg5); have p5 := HF5.out.par; obtain ⟨v1, b1⟩ := HF5.out.cell 1 (by rw [HCS.out]; decide); have f1 := HF5.out.blk.frozen 1; obtain ⟨v10, b10⟩ := HF5.out.cell 10 (by rw [HCS.out]; decide); have f10 := HF5.out.blk.frozen 10; obtain ⟨v11, b11⟩ := HF5.out.cell 11 (by rw [HCS.out]; decide); have f11 := HF5.out.blk.frozen 11; obtain ⟨v8, b8⟩ := HF5.out.cell 8 (by rw [HCS.out]; decide); have f8 := HF5.out.blk.frozen 8; clear hr5 hg5))
  all_goals
    obtain ⟨w6, hw6⟩ : ∃ w6, w6 = (((w5.setCell ⟨b, 1, none⟩ (.int .i64 x)).setCell ⟨b, 10, none⟩ (.int .i64 y)).setCell ⟨b, 11, none⟩ (.int .i64 z)).setCell ⟨b, 8, none⟩ (.int .i64 m) := ⟨_, rfl⟩
    rw [← hw6]
    have HF6 : Hid (Fill w6 R P b A n c L s5 ((((cs.set 1 (.int .i64 x)).set 10 (.int .i64 y)).set 11 (.int .i64 z)).set 8 (.int .i64 m))) := by show Fill _ _ _ _ _ _ _ _ _ _; rw [hw6]; exact (((HF5.out.set_ 1 _).set_ 10 _).set_ 11 _).set_ 8 _
    have HG6 : Hid (Grew2 R b w w6) := by show Grew2 _ _ _ _; rw [hw6]; exact ((((grew2_of HG5.out).set_ 1 _).set_ 10 _).set_ 11 _).set_ 8 _
    clear hw6
    have p6 := HF6.out.par
    obtain ⟨v12, b12⟩ := HF6.out.cell 12 (by simp only [List.length_set]; rw [HCS.out]; decide)
    have f12 := HF6.out.blk.frozen 12
    by_cases hneg : q - 10 < 0
    · have hT3 : T = ((x, y, z, m, []), Rd.fail s5 4 at_) := by rw [HT.out, if_pos hneg]
      have HT3 := Lib.hid hT3
      clear hT3
      go_wp2_with (first
        | (go_at_call 35; refine (HFL.out w6 HF6.out.rd).mono ?_; rintro e w7 ⟨rfl, hr7, hg7⟩; have HF7 := Lib.hid (HF6.out.step hr7 hg7); have HG7 := Lib.hid (HG6.out.trans (grew2_of hg7)); clear hr7 hg7))
      go_end0
      rw [HT3.out]
      refine ⟨rfl, .slice none 0 0, ?_, row_nil _ _ _, HG7.out⟩
      rw [set_same (by simp only [List.getElem?_set]; simp [H12.out])]
      exact HF7.out
    · have hT3 : T = ((x, y, z, m, (Rd.take (q - 10) L s5).1), (Rd.take (q - 10) L s5).2) := by rw [HT.out, if_neg hneg]
      obtain ⟨D, hD⟩ : ∃ D, D = Rd.take (q - 10) L s5 := ⟨_, rfl⟩
      rw [← hD] at hT3
      have HT3 := Lib.hid hT3
      have HTK2 := HTK
      rw [← hD] at HTK2
      clear hD HTK hT3
      go_wp2_with (first
        | (go_at_call 32; refine (HTK2.out w6 HF6.out.rd).mono ?_; rintro e w7 ⟨d, rfl, hv7, hr7, hg7⟩; obtain ⟨B, dd, rfl⟩ := own_form hv7; have HF7 := Lib.hid (HF6.out.step hr7 hg7); have HG7 := Lib.hid (HG6.out.trans (grew2_of hg7)); have HV7 := Lib.hid (hv7.mono HG6.out.size); obtain ⟨u12, c12⟩ := HF7.out.cell 12 (by simp only [List.length_set]; rw [HCS.out]; decide); have g12 := HF7.out.blk.frozen 12; clear hr7 hg7 hv7))
      go_end0
      rw [HT3.out]
      exact ⟨rfl, _, HF7.out.set_ 12 _, HV7.out.setCell (by omega), HG7.out.set_ 12 _⟩
end Go.Proofs.Ytokidpajialgbaa
