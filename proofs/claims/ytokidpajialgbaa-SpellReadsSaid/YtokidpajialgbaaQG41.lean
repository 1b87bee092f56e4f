/- Texts that are laid together: G41. -/
import Derived.Test.YtokidpajialgbaaQRdO
import Derived.Test.YtokidpajialgbaaQRdP
import Derived.Test.YtokidpajialgbaaQRdQ
namespace Go.Proofs.Ytokidpajialgbaa
set_option linter.unusedSimpArgs false
set_option linter.unusedVariables false
open Go.RowKit
def soundID (id : Int) : Prop := id = 16 ∨ id = 17 ∨ id = 18 ∨ id = 19 ∨ id = 20 ∨ id = 21 ∨ id = 24 ∨ id = 25 ∨ id = 32
def leadsID (id : Int) : Prop := id = 34 ∨ id = 37 ∨ id = 39 ∨ id = 35 ∨ id = 36 ∨ id = 38 ∨ id = 40 ∨ id = 42 ∨ id = 43
set_option maxRecDepth 100000 in
set_option maxHeartbeats 4000000 in
theorem sound_not (P R b : Nat) (A : Addr) (n c : Nat) (L : List Int) (s : Rd.St) (id at_ : Int) (w : World) (h : Fill w R P b A n c L s (fresh id)) (hid : ¬ soundID id) :
    Calls Try.prog 65 #[.pointer (some ⟨P, 0, none⟩), .pointer (some ⟨b, 0, none⟩), .int .i64 at_] w fun e w' => e = .returned (.bool false) ∧ w = w' := by
  have p0 := h.par
  have i0 : w.cell? ⟨b, 0, none⟩ = some (.int .i64 id) := h.blk.cell 0
  have hne : ∀ k : Int, soundID k → (id == k) = false := fun k hk => by simp; intro e; exact hid (by rw [e]; exact hk)
  have n1 := hne 16 (by unfold soundID; omega)
  have n2 := hne 17 (by unfold soundID; omega)
  have n3 := hne 18 (by unfold soundID; omega)
  have n4 := hne 19 (by unfold soundID; omega)
  have n5 := hne 20 (by unfold soundID; omega)
  have n6 := hne 21 (by unfold soundID; omega)
  have n7 := hne 24 (by unfold soundID; omega)
  have n8 := hne 25 (by unfold soundID; omega)
  have n9 := hne 32 (by unfold soundID; omega)
  clear hne hid h
  go_enter Try.func65, Try.ntmps65
  go_wp2_with fail
  go_ret
  exact ⟨rfl, rfl⟩
set_option maxRecDepth 100000 in
set_option maxHeartbeats 4000000 in
theorem leads_not (P R b : Nat) (A : Addr) (n c : Nat) (L : List Int) (s : Rd.St) (id at_ : Int) (w : World) (h : Fill w R P b A n c L s (fresh id)) (hid : ¬ leadsID id) :
    Calls Try.prog 66 #[.pointer (some ⟨P, 0, none⟩), .pointer (some ⟨b, 0, none⟩), .int .i64 at_] w fun e w' => e = .returned (.bool false) ∧ Below w.heap.size w w' := by
  have p0 := h.par
  obtain ⟨u0, hu0⟩ : ∃ u0, u0 = w.alloc (.cells #[.pointer (some ⟨R, 0, none⟩)] 68) := ⟨_, rfl⟩
  have HU0 := Lib.hid hu0
  have hB0 : Below w.heap.size w u0 := by rw [hu0]; exact (Below.refl _ w).alloc (Nat.le_refl _) _
  have i0 : w.cell? ⟨b, 0, none⟩ = some (.int .i64 id) := h.blk.cell 0
  have j0 := cell_alloc i0 (.cells #[.pointer (some ⟨R, 0, none⟩)] 68)
  have hne : ∀ k : Int, leadsID k → (id == k) = false := fun k hk => by simp; intro e; exact hid (by rw [e]; exact hk)
  have n1 := hne 34 (by unfold leadsID; omega)
  have n2 := hne 37 (by unfold leadsID; omega)
  have n3 := hne 39 (by unfold leadsID; omega)
  have n4 := hne 35 (by unfold leadsID; omega)
  have n5 := hne 36 (by unfold leadsID; omega)
  have n6 := hne 38 (by unfold leadsID; omega)
  have n7 := hne 40 (by unfold leadsID; omega)
  have n8 := hne 42 (by unfold leadsID; omega)
  have n9 := hne 43 (by unfold leadsID; omega)
  have HB0 := Lib.hid hB0
  clear hne hid h hB0 hu0
  go_enter Try.func66, Try.ntmps66
  go_wp2_with fail
  go_ret
  rw [← HU0.out]
  exact ⟨rfl, HB0.out⟩
set_option maxRecDepth 100000 in
set_option maxHeartbeats 4000000 in
theorem tells_51 (P R b : Nat) (A : Addr) (n c : Nat) (L : List Int) (s : Rd.St) (at_ : Int) (w : World) (h : Fill w R P b A n c L s (fresh 51)) :
    Calls Try.prog 67 #[.pointer (some ⟨P, 0, none⟩), .pointer (some ⟨b, 0, none⟩), .int .i64 at_] w (SndP R P b A n c L w (.tuple #[]) (Rd.tellsM 51 at_ L s).1 (Rd.tellsM 51 at_ L s).2) := by
  have hby := h.rd.byt
  have HN0 := Lib.hid (fun u (hu : RdIs u R A n c L s) => rdNumber R A n c L s 1 u hu (by omega) (by omega))
  obtain ⟨hz0, hy0⟩ := num_range hby 1 s (by omega)
  obtain ⟨x1, t1, hM0⟩ : ∃ v t, Rd.num 1 L s = (v, t) := ⟨_, _, rfl⟩
  rw [hM0] at HN0 hz0 hy0
  simp only at hz0 hy0
  have hx0 : x1 < 256 := hy0
  have HN1 := Lib.hid (fun u (hu : RdIs u R A n c L t1) => rdNumbers R A n c L t1 (3 * x1) 1 u hu (by omega) (by omega) (by omega))
  obtain ⟨x2, t2, hM1⟩ : ∃ v t, Rd.numbers (3 * x1) 1 L t1 = (v, t) := ⟨_, _, rfl⟩
  rw [hM1] at HN1
  obtain ⟨T, hT⟩ : ∃ T, T = Rd.tellsM 51 at_ L s := ⟨_, rfl⟩
  have hT2 : T = ({ id := 51, times := x2 }, t2) := by
    rw [hT]
    unfold Rd.tellsM
    simp (config := { decide := true }) only [if_true, if_false, if_pos, if_neg, not_false_eq_true]
    simp only [Rd.bind, Rd.ret, hM0, hM1]
  have HT := Lib.hid hT2
  rw [← hT]
  have hbl := h.blk.lt
  have hlt := h.lt
  have p0 := h.par
  have i0 : w.cell? ⟨b, 0, none⟩ = some (.int .i64 51) := h.blk.cell 0
  obtain ⟨u0, hu0⟩ : ∃ u0, u0 = w.alloc (.cells #[.pointer (some ⟨R, 0, none⟩)] 68) := ⟨_, rfl⟩
  have HU0 := Lib.hid hu0
  have hB0 : Below w.heap.size w u0 := by rw [hu0]; exact (Below.refl _ w).alloc (Nat.le_refl _) _
  have v0 : u0.cell? ⟨w.heap.size, 0, none⟩ = some (.pointer (some ⟨R, 0, none⟩)) := by rw [hu0]; exact (Blk.new w 68 [.pointer (some ⟨R, 0, none⟩)]).cell 0
  have HF0 := Lib.hid (h.below hB0)
  have HG0 : Hid (Grew2 R b w u0) := grew2_of (grownBy_below hB0)
  have j0 := cell_alloc i0 (.cells #[.pointer (some ⟨R, 0, none⟩)] 68)
  have hVR : w.heap.size ≠ R := by omega
  have hVb : w.heap.size ≠ b := by omega
  clear h hby hT hT2 hM0 hM1 hu0 hB0 hy0
  have w1' : IntKind.i64.wrap (3 * x1) = 3 * x1 := by rw [IntKind.wrap_i64]; omega
  go_enter Try.func67, Try.ntmps67
  go_upto_region 12 with fail
  rw [← HU0.out]
  go_region_held3 (fun w' => w'.cell? ⟨w.heap.size, 0, none⟩ = some (.pointer (some ⟨R, 0, none⟩))) (first | exact v0 | exact v1 | exact v2 | exact set_far v2 hVb)
    (first
      | (go_at_call 33; refine (HN0.out _ (HF0.out.rd.below ((Below.refl _ u0).drew))).mono ?_; rintro e w1 ⟨rfl, hr, hg0⟩; have hg := grownBy_of_drew hg0; have HF1 := Lib.hid (HF0.out.step hr hg); have HG1 := Lib.hid (HG0.out.trans (grew2_of hg)); have v1 := par_grown v0 hVR hg; clear hr hg hg0)
      | (go_at_call 91; refine (HN1.out _ HF1.out.rd).mono ?_; rintro e w2 ⟨v, rfl, hv, hr, hg⟩; obtain ⟨B1, d1, rfl⟩ := own_form hv; have HF2 := Lib.hid (HF1.out.step hr hg); have HG2 := Lib.hid (HG1.out.trans (grew2_of hg)); have HV2 := Lib.hid (hv.mono HG1.out.size); have v2 := par_grown v1 hVR hg; have c13 := HF2.out.blk.cell 13; have g13 := HF2.out.blk.frozen 13; simp only [fresh, TB.cells, nilS, List.set_cons_succ, List.set_cons_zero, List.getElem?_cons_succ, List.getElem?_cons_zero] at c13; clear hr hg hv))
  all_goals
    go_wp2_with fail
    go_end0
    rw [HT.out]
    exact ⟨rfl, tbIn_of (HF2.out.set_ 13 _) rfl ⟨row_nil _ _ _, HV2.out.setCell hbl, syms_nil _ _ _ _, syms_nil _ _ _ _, syms_nil _ _ _ _, reps_nil _ _⟩, HG2.out.set_ 13 _⟩
theorem own_of_blk2 {w : World} {B g : Nat} {t : TypeId} {cs : List Value} (h : Blk w g t cs) (hB : B ≤ g) (hn : cs.length = 2) : w.ownsRow B t 2 (.slice (some ⟨g, 0, none⟩) 1 1) 1 cs :=
  ⟨by omega, .inr ⟨g, 1, _, rfl, hB, h, Nat.le_refl _, by unfold maxLen; omega, by simp [hn], by rw [Nat.one_mul, ← hn]; simp⟩⟩
set_option maxRecDepth 100000 in
set_option maxHeartbeats 4000000 in
theorem tells_53 (P R b : Nat) (A : Addr) (n c : Nat) (L : List Int) (s : Rd.St) (at_ : Int) (w : World) (h : Fill w R P b A n c L s (fresh 53)) :
    Calls Try.prog 67 #[.pointer (some ⟨P, 0, none⟩), .pointer (some ⟨b, 0, none⟩), .int .i64 at_] w (SndP R P b A n c L w (.tuple #[]) (Rd.tellsM 53 at_ L s).1 (Rd.tellsM 53 at_ L s).2) := by
  have HN0 := Lib.hid (fun u (hu : RdIs u R A n c L s) => rdTake R A n c L s 16 u hu (by omega))
  obtain ⟨x1, t1, hM0⟩ : ∃ v t, Rd.take 16 L s = (v, t) := ⟨_, _, rfl⟩
  rw [hM0] at HN0
  have HN1 := Lib.hid (fun u (hu : RdIs u R A n c L t1) hp => tzData P R A n c L t1 4 u hu hp h.pr (by omega) (by omega))
  obtain ⟨x2, t2, hM1⟩ : ∃ v t, Rd.dataM 4 L t1 = (v, t) := ⟨_, _, rfl⟩
  rw [hM1] at HN1
  obtain ⟨T, hT⟩ : ∃ T, T = Rd.tellsM 53 at_ L s := ⟨_, rfl⟩
  have hT2 : T = ({ id := 53, items := [(0, x1)], data := x2 }, t2) := by
    rw [hT]
    unfold Rd.tellsM
    simp (config := { decide := true }) only [if_true, if_false, if_pos, if_neg, not_false_eq_true]
    simp only [Rd.bind, Rd.ret, hM0, hM1]
  have HT := Lib.hid hT2
  rw [← hT]
  have hbl := h.blk.lt
  have hlt := h.lt
  have p0 := h.par
  have i0 : w.cell? ⟨b, 0, none⟩ = some (.int .i64 53) := h.blk.cell 0
  obtain ⟨u0, hu0⟩ : ∃ u0, u0 = w.alloc (.cells #[.pointer (some ⟨R, 0, none⟩)] 68) := ⟨_, rfl⟩
  have HU0 := Lib.hid hu0
  have hB0 : Below w.heap.size w u0 := by rw [hu0]; exact (Below.refl _ w).alloc (Nat.le_refl _) _
  have v0 : u0.cell? ⟨w.heap.size, 0, none⟩ = some (.pointer (some ⟨R, 0, none⟩)) := by rw [hu0]; exact (Blk.new w 68 [.pointer (some ⟨R, 0, none⟩)]).cell 0
  have HF0 := Lib.hid (h.below hB0)
  have HG0 : Hid (Grew2 R b w u0) := grew2_of (grownBy_below hB0)
  have j0 := cell_alloc i0 (.cells #[.pointer (some ⟨R, 0, none⟩)] 68)
  have hpR := h.pr
  clear h hT hT2 hM0 hM1 hu0 hB0
  go_enter Try.func67, Try.ntmps67
  go_wp2_with (first
    | (go_at_call 89; rw [← HW3.out]; refine (HN1.out _ HF3.out.rd HF3.out.par).mono ?_; rintro e w4 ⟨v, rfl, hv, hr, hg⟩; obtain ⟨B4, d4, rfl⟩ := own_form hv; have HF4 := Lib.hid (HF3.out.step hr hg); have HG4 := Lib.hid (HG3.out.trans (grew2_of hg)); have HV4 := Lib.hid (hv.mono HG3.out.size); have HI4 := Lib.hid (HI3.out.grown hg (by omega)); have c12 := HF4.out.blk.cell 12; have g12 := HF4.out.blk.frozen 12; simp only [fresh, TB.cells, nilS, List.set_cons_succ, List.set_cons_zero, List.getElem?_cons_succ, List.getElem?_cons_zero] at c12; clear hr hg hv)
    | (go_at_call 32; rw [← HU0.out]; refine (HN0.out _ HF0.out.rd).mono ?_; rintro e w1 ⟨v, rfl, hv, hr, hg⟩; obtain ⟨B1, d1, rfl⟩ := own_form hv; have HF1 := Lib.hid (HF0.out.step hr hg); have HG1 := Lib.hid (HG0.out.trans (grew2_of hg)); have HV1 := Lib.hid (hv.mono HG0.out.size); have hbs := fun u => buildItem u 0 (.slice B1 x1.length d1); have c14 := HF1.out.blk.cell 14; have g14 := HF1.out.blk.frozen 14; simp only [fresh, TB.cells, nilS, List.set_cons_succ, List.set_cons_zero, List.getElem?_cons_succ, List.getElem?_cons_zero] at c14; have c14a := cell_alloc c14 (.cells #[.int .i64 0, .slice B1 x1.length d1] 46); have g14a := (HF1.out.blk.alloc (.cells #[.int .i64 0, .slice B1 x1.length d1] 46)).frozen 14; obtain ⟨w2, hw2⟩ : ∃ w2, w2 = w1.alloc (.cells #[.int .i64 0, .slice B1 x1.length d1] 46) := ⟨_, rfl⟩; have hb2 : Below w1.heap.size w1 w2 := (by rw [hw2]; exact (Below.refl _ w1).alloc (Nat.le_refl _) _); have hk2 : Blk w2 w1.heap.size 46 [.int .i64 0, .slice B1 x1.length d1] := (by rw [hw2]; exact Blk.new w1 _ [.int .i64 0, .slice B1 x1.length d1]); have HI2 : Hid (SymsOf w2 w.heap.size 46 .u8 (.slice (some ⟨w1.heap.size, 0, none⟩) 1 1) [(0, x1)]) := Lib.hid ⟨_, own_of_blk2 hk2 HG1.out.size rfl, _, _, rfl, HV1.out.below hb2, rfl⟩; have HF3 := Lib.hid ((HF1.out.below hb2).set_ 14 (.slice (some ⟨w1.heap.size, 0, none⟩) 1 1)); have HG3 := Lib.hid ((HG1.out.trans (grew2_of (grownBy_below hb2))).set_ 14 (.slice (some ⟨w1.heap.size, 0, none⟩) 1 1)); have HI3 := Lib.hid (HI2.out.setCell (i := 14) (u := .slice (some ⟨w1.heap.size, 0, none⟩) 1 1) hbl); obtain ⟨w3, hw3⟩ : ∃ w3, w3 = w2.setCell ⟨b, 14, none⟩ (.slice (some ⟨w1.heap.size, 0, none⟩) 1 1) := ⟨_, rfl⟩; rw [← hw3] at HF3 HG3 HI3; have HW3 : Hid (w3 = (w1.alloc (.cells #[.int .i64 0, .slice B1 x1.length d1] 46)).setCell ⟨b, 14, none⟩ (.slice (some ⟨w1.heap.size, 0, none⟩) 1 1)) := (by show _ = _; rw [hw3, hw2]); clear hr hg hv hw2 hw3 hb2 hk2))
  go_end0
  rw [HT.out]
  exact ⟨rfl, tbIn_of (HF4.out.set_ 12 _) rfl ⟨HV4.out.setCell hbl, row_nil _ _ _, HI4.out.setCell hbl, syms_nil _ _ _ _, syms_nil _ _ _ _, reps_nil _ _⟩, HG4.out.set_ 12 _⟩
end Go.Proofs.Ytokidpajialgbaa
namespace Go.Proofs.Ytokidpajialgbaa
set_option linter.unusedSimpArgs false
set_option linter.unusedVariables false
open Go.RowKit
/-- types of memory that no block's reading turns, once it is made -/
def keepTypes : List TypeId := [5, 3, 46, 48, 88, 33]
/-- all blocks of such types, but X, are as they were -/
def KeepX (X : Option Nat) (w w' : World) : Prop := ∀ g cs e fr, w.heap[g]? = some (.cells cs e fr) → e ∈ keepTypes → some g ≠ X → w'.heap[g]? = w.heap[g]?
theorem KeepX.refl (X : Option Nat) (w : World) : KeepX X w w := fun _ _ _ _ _ _ _ => rfl
theorem KeepX.trans {X : Option Nat} {w w' w'' : World} (h : KeepX X w w') (h' : KeepX X w' w'') : KeepX X w w'' := fun g cs e fr h1 h2 h3 => by
  have h4 := h g cs e fr h1 h2 h3
  rw [h' g cs e fr (h4.trans h1) h2 h3, h4]
theorem heap_lt {w : World} {g : Nat} {o : Obj} (h : w.heap[g]? = some o) : g < w.heap.size := by
  rcases Nat.lt_or_ge g w.heap.size with h1 | h1
  · exact h1
  · rw [Array.getElem?_eq_none h1] at h; cases h
theorem keepX_below {X : Option Nat} {w w' : World} (h : Below w.heap.size w w') : KeepX X w w' := fun g cs e fr h1 _ _ => h.block g (heap_lt h1)
theorem type_of_blk {w : World} {b g : Nat} {t e : TypeId} {ds : List Value} {cs : Array Value} {fr : Nat × Nat} (hb : Blk w b t ds) (h : w.heap[g]? = some (.cells cs e fr)) (hne : e ≠ t) : g ≠ b := fun e1 => by
  subst e1
  unfold Blk at hb
  rw [hb] at h
  injection h with h
  injection h with _ h
  exact hne h.symm
theorem keepX_grown {X : Option Nat} {w w' : World} {b : Nat} {t : TypeId} {ds : List Value} (hb : Blk w b t ds) (ht : t ∉ keepTypes) (h : w.grownBy w' (some b)) : KeepX X w w' := fun g cs e fr h1 h2 _ =>
  h.block g (heap_lt h1) (fun e1 => type_of_blk hb h1 (fun e2 => ht (e2 ▸ h2)) (Option.some.inj e1))
theorem keepX_grew2 {X : Option Nat} {w w' : World} {R b : Nat} {t u : TypeId} {ds es : List Value} (hR : Blk w R u es) (hu : u ∉ keepTypes) (hb : Blk w b t ds) (ht : t ∉ keepTypes) (h : Grew2 R b w w') : KeepX X w w' := fun g cs e fr h1 h2 _ =>
  h.block g (heap_lt h1) (type_of_blk hR h1 (fun e2 => hu (e2 ▸ h2))) (type_of_blk hb h1 (fun e2 => ht (e2 ▸ h2)))
/-- a row of the call's own of a type that is not kept has grown -/
theorem keepX_own {X : Option Nat} {w w' : World} {base size n : Nat} {e : TypeId} {v : Value} {xs : List Value} (ho : w.ownsRow base e size v n xs) (he : e ∉ keepTypes ∨ v.ownBlock = X) (h : w.grownBy w' v.ownBlock) : KeepX X w w' := fun g cs e' fr h1 h2 h3 => by
  rcases he with he | he
  · rcases own_none_or ho with h4 | ⟨g', h4, h5, d, cur, rfl, h6⟩
    · rw [h4] at h; exact h.block g (heap_lt h1) (by simp)
    · rw [h4] at h
      refine h.block g (heap_lt h1) (fun e1 => ?_)
      have : g = g' := Option.some.inj e1
      subst this
      rw [h6] at h1
      injection h1 with h1
      injection h1 with _ h1
      exact he (h1 ▸ h2)
  · rw [he] at h
    exact h.block g (heap_lt h1) h3
/-- a row that lies elsewhere than X -/
def OwnH (w : World) (X : Option Nat) (e : TypeId) (size : Nat) (v : Value) (n : Nat) (cs : List Value) : Prop := w.ownsRow 0 e size v n cs ∧ ∀ g, v.ownBlock = some g → some g ≠ X
theorem OwnH.of {w : World} {X : Option Nat} {base size n : Nat} {e : TypeId} {v : Value} {cs : List Value} (h : w.ownsRow base e size v n cs) (hX : ∀ g, X = some g → g < base) : OwnH w X e size v n cs :=
  ⟨own_mono h (Nat.zero_le _), fun g hg e1 => by have := (h.lt g hg).1; have := hX g e1.symm; omega⟩
theorem own_keep {w w' : World} {base size n : Nat} {e : TypeId} {v : Value} {cs : List Value} (h : w.ownsRow base e size v n cs) (hk : ∀ g cur, v.ownBlock = some g → w.heap[g]? = some (.cells cur e (0, 0)) → w'.heap[g]? = w.heap[g]?) : w'.ownsRow base e size v n cs := by
  refine ⟨h.1, ?_⟩
  rcases h.2 with h1 | ⟨g, c, cur, rfl, h2, h3, h4⟩
  · exact .inl h1
  · exact .inr ⟨g, c, cur, rfl, h2, (hk g cur rfl h3).trans h3, h4⟩
theorem OwnH.keep {w w' : World} {X : Option Nat} {size n : Nat} {e : TypeId} {v : Value} {cs : List Value} (h : OwnH w X e size v n cs) (he : e ∈ keepTypes) (hk : KeepX X w w') : OwnH w' X e size v n cs :=
  ⟨own_keep h.1 fun g cur h1 h2 => hk g cur e (0, 0) h2 he (h.2 g h1), h.2⟩
theorem OwnH.turn {w : World} {X Y : Option Nat} {size n : Nat} {e : TypeId} {v : Value} {cs : List Value} (h : OwnH w X e size v n cs) (hY : Y = X ∨ ∃ g, Y = some g ∧ w.heap.size ≤ g) : OwnH w Y e size v n cs :=
  ⟨h.1, fun g hg => by
    rcases hY with rfl | ⟨g', rfl, h1⟩
    · exact h.2 g hg
    · intro e1
      have : g = g' := Option.some.inj e1
      have := (h.1.lt g hg).2
      omega⟩
theorem OwnH.move {w w' : World} {X Y : Option Nat} {size n : Nat} {e : TypeId} {v : Value} {cs : List Value} (h : OwnH w X e size v n cs) (he : e ∈ keepTypes) (hk : KeepX X w w') (hY : Y = X ∨ ∃ g, Y = some g ∧ w.heap.size ≤ g) : OwnH w' Y e size v n cs := ⟨(h.keep he hk).1, (h.turn hY).2⟩
def SymRowsH (w : World) (X : Option Nat) (k : IntKind) : List Value → List (Int × List Int) → Prop
  | cs, [] => cs = []
  | cs, (x, p) :: l => ∃ r cs', cs = .int .i64 x :: r :: cs' ∧ OwnH w X (tyOf k) 1 r p.length (p.map (.int k ·)) ∧ SymRowsH w X k cs' l
theorem SymRowsH.map {w w' : World} {X Y : Option Nat} {k : IntKind} {cs : List Value} {l : List (Int × List Int)} (h : SymRowsH w X k cs l) (hk : ∀ r p, OwnH w X (tyOf k) 1 r (List.length p) (p.map (.int k ·)) → OwnH w' Y (tyOf k) 1 r p.length (p.map (.int k ·))) : SymRowsH w' Y k cs l := by
  induction l generalizing cs with
  | nil => exact h
  | cons y l ih =>
    obtain ⟨y, q⟩ := y
    obtain ⟨r', cs', rfl, h1, h2⟩ := h
    exact ⟨r', _, rfl, hk _ _ h1, ih h2⟩
def SymH (w : World) (X : Option Nat) (e : TypeId) (k : IntKind) (v : Value) (l : List (Int × List Int)) : Prop := ∃ cs, OwnH w X e 2 v l.length cs ∧ SymRowsH w X k cs l
theorem symRowsH_of {w : World} {X : Option Nat} {base : Nat} {k : IntKind} {cs : List Value} {l : List (Int × List Int)} (h : SymRows w base k cs l) (hX : ∀ g, X = some g → g < base) : SymRowsH w X k cs l := by
  induction l generalizing cs with
  | nil => exact h
  | cons y l ih =>
    obtain ⟨y, q⟩ := y
    obtain ⟨r', cs', rfl, h1, h2⟩ := h
    exact ⟨r', _, rfl, OwnH.of h1 hX, ih h2⟩
theorem SymH.of {w : World} {X : Option Nat} {base : Nat} {e : TypeId} {k : IntKind} {v : Value} {l : List (Int × List Int)} (h : SymsOf w base e k v l) (hX : ∀ g, X = some g → g < base) : SymH w X e k v l := by
  obtain ⟨cs, h1, h2⟩ := h
  exact ⟨cs, OwnH.of h1 hX, symRowsH_of h2 hX⟩
theorem tyOf_keep (k : IntKind) : tyOf k ∈ keepTypes := by cases k <;> decide
theorem SymH.keep {w w' : World} {X : Option Nat} {e : TypeId} {k : IntKind} {v : Value} {l : List (Int × List Int)} (h : SymH w X e k v l) (he : e ∈ keepTypes) (hk : KeepX X w w') : SymH w' X e k v l := by
  obtain ⟨cs, h1, h2⟩ := h
  exact ⟨cs, h1.keep he hk, h2.map fun r p hr => hr.keep (tyOf_keep k) hk⟩
theorem SymH.turn {w : World} {X Y : Option Nat} {e : TypeId} {k : IntKind} {v : Value} {l : List (Int × List Int)} (h : SymH w X e k v l) (hY : Y = X ∨ ∃ g, Y = some g ∧ w.heap.size ≤ g) : SymH w Y e k v l := by
  obtain ⟨cs, h1, h2⟩ := h
  exact ⟨cs, h1.turn hY, h2.map fun r p hr => hr.turn hY⟩
theorem SymH.move {w w' : World} {X Y : Option Nat} {e : TypeId} {k : IntKind} {v : Value} {l : List (Int × List Int)} (h : SymH w X e k v l) (he : e ∈ keepTypes) (hk : KeepX X w w') (hY : Y = X ∨ ∃ g, Y = some g ∧ w.heap.size ≤ g) : SymH w' Y e k v l := by
  obtain ⟨cs, h1, h2⟩ := h
  exact ⟨cs, h1.move he hk hY, h2.map fun r p hr => hr.move (tyOf_keep k) hk hY⟩
/-- a block's six slices -/
structure TB.Held (w : World) (X : Option Nat) (B : TB) (d t i p s r : Value) : Prop where
  d : OwnH w X 5 1 d B.data.length (B.data.map (.int .u8 ·))
  t : OwnH w X 3 1 t B.times.length (B.times.map (.int .i64 ·))
  i : SymH w X 46 .u8 i B.items
  p : SymH w X 48 .i64 p B.pilots
  s : SymH w X 48 .i64 s B.syms
  r : OwnH w X 88 2 r B.reps.length (B.reps.flatMap repRow)
theorem TB.Held.of {w : World} {X : Option Nat} {base : Nat} {B : TB} {d t i p s r : Value} (h : TB.Rows w base B d t i p s r) (hX : ∀ g, X = some g → g < base) : TB.Held w X B d t i p s r :=
  ⟨OwnH.of h.d hX, OwnH.of h.t hX, SymH.of h.i hX, SymH.of h.p hX, SymH.of h.s hX, OwnH.of h.r hX⟩
theorem TB.Held.keep {w w' : World} {X : Option Nat} {B : TB} {d t i p s r : Value} (h : TB.Held w X B d t i p s r) (hk : KeepX X w w') : TB.Held w' X B d t i p s r :=
  ⟨h.d.keep (by decide) hk, h.t.keep (by decide) hk, h.i.keep (by decide) hk, h.p.keep (by decide) hk, h.s.keep (by decide) hk, h.r.keep (by decide) hk⟩
theorem TB.Held.turn {w : World} {X Y : Option Nat} {B : TB} {d t i p s r : Value} (h : TB.Held w X B d t i p s r) (hY : Y = X ∨ ∃ g, Y = some g ∧ w.heap.size ≤ g) : TB.Held w Y B d t i p s r :=
  ⟨h.d.turn hY, h.t.turn hY, h.i.turn hY, h.p.turn hY, h.s.turn hY, h.r.turn hY⟩
theorem TB.Held.move {w w' : World} {X Y : Option Nat} {B : TB} {d t i p s r : Value} (h : TB.Held w X B d t i p s r) (hk : KeepX X w w') (hY : Y = X ∨ ∃ g, Y = some g ∧ w.heap.size ≤ g) : TB.Held w' Y B d t i p s r :=
  ⟨h.d.move (by decide) hk hY, h.t.move (by decide) hk hY, h.i.move (by decide) hk hY, h.p.move (by decide) hk hY, h.s.move (by decide) hk hY, h.r.move (by decide) hk hY⟩
/-- a tape's blocks, one behind the other -/
def TBs (w : World) (X : Option Nat) : List Value → List TB → Prop
  | cs, [] => cs = []
  | cs, B :: l => ∃ d t i p s r cs', cs = B.cells d t i p s r ++ cs' ∧ TB.Held w X B d t i p s r ∧ TBs w X cs' l
theorem TBs.map {w w' : World} {X Y : Option Nat} {cs : List Value} {l : List TB} (h : TBs w X cs l) (hk : ∀ B d t i p s r, TB.Held w X B d t i p s r → TB.Held w' Y B d t i p s r) : TBs w' Y cs l := by
  induction l generalizing cs with
  | nil => exact h
  | cons B l ih =>
    obtain ⟨d, t, i, p, s, r, cs', rfl, h1, h2⟩ := h
    exact ⟨d, t, i, p, s, r, cs', rfl, hk _ _ _ _ _ _ _ h1, ih h2⟩
theorem TBs.snoc {w : World} {X : Option Nat} {cs : List Value} {l : List TB} {B : TB} {d t i p s r : Value} (h : TBs w X cs l) (hB : TB.Held w X B d t i p s r) : TBs w X (cs ++ B.cells d t i p s r) (l ++ [B]) := by
  induction l generalizing cs with
  | nil => obtain rfl : cs = [] := h; exact ⟨d, t, i, p, s, r, [], by simp, hB, rfl⟩
  | cons B' l ih =>
    obtain ⟨d', t', i', p', s', r', cs', rfl, h1, h2⟩ := h
    exact ⟨d', t', i', p', s', r', _, by simp, h1, ih h2⟩
theorem TBs.len {w : World} {X : Option Nat} {cs : List Value} {l : List TB} (h : TBs w X cs l) : cs.length = l.length * 18 := by
  induction l generalizing cs with
  | nil => obtain rfl : cs = [] := h; rfl
  | cons B l ih =>
    obtain ⟨d, t, i, p, s, r, cs', rfl, h1, h2⟩ := h
    have := ih h2
    simp only [List.length_append, List.length_cons, TB.cells, List.length_nil]; omega
/-- append of one element onto a row of the call's own, in a region that draws; whether the row moved is told -/
theorem step_appX {P : Program} (w : World) {ops : Array Oper} {o : Oper} {a : Act} {K : Act → World → Prop} {Q : Exit → Act → World → Prop} {E : Prop} (hgd : o.guard = none) (s x : Operand) (t : TypeId)
    (ho : o.op = .call { callee := .builtin .append, args := #[s, x], argTypes := #[t, t] })
    (e : TypeId) (z : Value) (size bytes : Nat) (ht : P.underlying t = some (.slice e)) (hi : (P.info? e).map (fun i => (i.zero, i.size, i.bytes)) = some (some z, size, bytes)) (hzs : z.cells.size = size) (hsz : 0 < size)
    (base : Nat) (v : Value) (n : Nat) (xs : List Value) (hs : a.eval s = v) (gs : Nat) (cs : Array Value) (fr : Nat × Nat) (hx : a.eval x = .slice (some ⟨gs, 0, none⟩) 1 1) (hsrc : w.heap[gs]? = some (.cells cs e fr)) (hown : w.ownsRow base e size v n xs) (hcs : cs.size = size) (hu : cs.all (·.oneCell') = true)
    (hn : n ≤ 1000000) (hbytes : bytes ≤ 1000) (hbase : base ≤ w.heap.size)
    (h : ∀ g c w', w'.ownsRow base e size (.slice (some ⟨g, 0, none⟩) (n + 1) c) (n + 1) (xs ++ cs.toList) → w.grownBy w' v.ownBlock → (v.ownBlock = some g ∨ g = w.heap.size) → K (a.put o.dst (.slice (some ⟨g, 0, none⟩) (n + 1) c)) w') :
    if Region.wanted o (yielded ops a.tmps) = true then Oper.wp P o a w K Q else E := by
  obtain ⟨i0, hi0, hz0, hz1, hz2⟩ := info_parts hi
  have hb : (n + 1) * bytes ≤ 140737488355328 := by
    have h1 : (n + 1) * bytes ≤ (1000000 + 1) * 1000 := Nat.mul_le_mul (by omega) hbytes
    omega
  refine step_append_lies w hgd s x t ho base e i0 z size bytes ht hi0 hz0 hz1 hz2 hzs hsz v n xs hs hown ⟨gs, 0, none⟩ 1 1 cs.toList hx (by simpa using hcs) ?_ ?_ (by omega) (by unfold maxLen; omega) hb hbase _ rfl ?_
  · intro j u hj
    rw [Addr.add_mid, cell_of_row _ _ _ _ _ _ hsrc]
    simpa using hj
  · intro u hu'
    obtain ⟨j, hj, rfl⟩ := List.getElem_of_mem hu'
    rw [Array.all_eq_true] at hu
    exact hu j (by simpa using hj)
  · intro g c w' h1 h2 h3 _
    exact h g c w' h1 h2 h3
end Go.Proofs.Ytokidpajialgbaa
