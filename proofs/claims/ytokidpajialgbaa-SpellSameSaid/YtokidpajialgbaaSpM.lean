/- What a tape's writer writes: numbers. -/
import Derived.Test.YtokidpajialgbaaSpL
namespace Go.Proofs.Ytokidpajialgbaa
set_option linter.unusedSimpArgs false
set_option linter.unusedVariables false
open Go.RowKit
/-- a writer stands in block P; what it has written lies in its own row, not in block X -/
def OutAt (w : World) (P base : Nat) (X : Option Nat) (L : List Int) : Prop := ∃ v, Blk w P 60 [v] ∧ RowM w base v L.length (L.map (.int .u8)) ∧ v.ownBlock ≠ some P ∧ ∀ b, X = some b → v.ownBlock ≠ some b
theorem Below_ownM {B base n : Nat} {a w w' : World} {v : Value} {xs : List Value} (h : Below B a w) (ho : RowM w base v n xs) (hg : w.grownBy w' v.ownBlock) (hB : B ≤ base) (hs : base ≤ w.heap.size) : Below B a w' :=
  h.grown hg (by omega) (fun k hk => by have := (ho.lt k hk).1; omega)
theorem set_heap {w : World} {g i k : Nat} {v : Value} (hk : k < w.heap.size) (h : k ≠ g) : (w.setCell ⟨g, i, none⟩ v).heap[k]? = w.heap[k]? := (grownBy_setCell (grownBy_refl w (some g)) i v).block k hk (fun e => h (Option.some.inj e))
theorem OutAt.below {w w' : World} {P base : Nat} {X : Option Nat} {L : List Int} (h : OutAt w P base X L) (hb : Below w.heap.size w w') : OutAt w' P base X L := by
  obtain ⟨v, h1, h2, h3, h4⟩ := h
  exact ⟨v, h1.below_ hb, h2.keep (fun g hg => hb.block g (h2.lt g hg).2), h3, h4⟩
def NumP (B P base : Nat) (X : Option Nat) (L : List Int) (w : World) (e : Ending) (w' : World) : Prop := e = .returned (.tuple #[]) ∧ OutAt w' P base X L ∧ Below B w w'
/-- the bytes of numbers -/
def leL (K : Nat) (l : List Int) : List Int := l.flatMap (fun x => leB x K)
theorem leL_len (K : Nat) (l : List Int) : (leL K l).length = l.length * K := by
  induction l with
  | nil => simp [leL]
  | cons x t ih => simp only [leL, List.flatMap_cons, List.length_append, leB_len, List.length_cons] at ih ⊢; rw [ih, Nat.succ_mul]; omega
set_option maxRecDepth 100000 in
set_option maxHeartbeats 4000000 in
theorem num_any (K B P base n c : Nat) (A : Option Addr) (l L : List Int) (w : World) (X : Option Nat) (ho : OutAt w P base X L) (hl : Ints w A .i64 l) (hn : l.length = n) (hwf : ∀ x ∈ l, (Lit.int .i64 x).wf = true) (hX : ∀ ad, A = some ad → ad.block ≠ P ∧ (X = some ad.block ∨ ad.block < base))
    (hB : B ≤ base ∧ B ≤ P ∧ base ≤ w.heap.size ∧ P < w.heap.size) (hK : 1 ≤ K ∧ K ≤ 4) (hL : L.length + n * 4 ≤ 100000000) (hXw : ∀ b, X = some b → b < w.heap.size) :
    Calls Try.prog 25 #[.pointer (some ⟨P, 0, none⟩), .int .i64 K, .slice A n c] w (NumP B P base X (L ++ leL K l) w) := by
  have HO := Lib.hid ho; have HL := Lib.hid hl; have HN := Lib.hid hn; have HW := Lib.hid hwf; have HX := Lib.hid hX; have HXW := Lib.hid hXw
  obtain ⟨hB1, hB2, hB3, hB4⟩ := hB
  obtain ⟨hK1, hK2⟩ := hK
  clear ho hl hn hwf hX hXw
  go_enter Try.func25, Try.ntmps25
  go_wp2_with fail
  go_loopw [7, 10] (fun _ i wr => ∃ k : Nat, k ≤ n ∧ i = .int .i64 (k : Nat) ∧ Hid (OutAt wr P base X (L ++ leL K (l.take k))) ∧ Hid (Ints wr A .i64 l) ∧ Hid (Below B w wr)) (fun _ i _ => n - (intOf i).toNat)
  case atStart => exact ⟨0, Nat.zero_le _, rfl, Lib.hid (by simpa [leL] using HO.out), HL, Lib.hid (Below.refl _ _)⟩
  case round =>
    obtain ⟨k, hk, rfl, HOW, HLW, HBW⟩ := hrel
    by_cases hlt : k < n
    · have hlt2 : (k : Int) < n := by omega
      obtain ⟨x, hx⟩ : ∃ x, l[k]? = some x := ⟨_, List.getElem?_eq_getElem (by rw [HN.out]; exact hlt)⟩
      obtain ⟨ad, rfl, hc⟩ := HLW.out k (.int .i64 x) (by simp [hx])
      obtain ⟨v, h1, h2, h3, h4⟩ := HOW.out
      have hcp : wr.cell? ⟨P, 0, none⟩ = some v := h1.cell 0
      have v2 : IntKind.i64.wrap ((k : Int) + 1) = ((k + 1 : Nat) : Int) := by rw [IntKind.wrap_i64]; omega
      have HXX := Lib.hid hx
      have hsz := HBW.out.size
      have hll : (L ++ leL K (l.take k)).length ≤ 100000000 := by
        rw [List.length_append, leL_len, List.length_take, HN.out]
        have : min k n * K ≤ n * 4 := Nat.mul_le_mul (Nat.min_le_right _ _) hK2
        omega
      have HPU := Lib.hid (put_any K base _ v _ x wr h2 (Nat.le_trans hB3 hsz) hll ⟨hK1, hK2⟩ (HW.out x (List.mem_of_getElem? hx)))
      have HH1 := Lib.hid h1; have HH2 := Lib.hid h2; have HH3 := Lib.hid h3; have HH4 := Lib.hid h4
      clear hx h1 h2 h3 h4 hll
      go_wp2_with (first
        | (go_at_call 53
           refine HPU.out.mono ?_
           rintro e w1 ⟨v1, rfl, ho1, hg1, hv1⟩
           have HP1 : Hid (Blk w1 P 60 [v]) := Lib.hid (HH1.out.grown hg1 (fun e => HH3.out e.symm))
           have cp1 : w1.cell? ⟨P, 0, none⟩ = some v := HP1.out.cell 0
           have fp1 := HP1.out.frozen 0
           obtain ⟨sa, sm, sc, rfl⟩ := ho1.form
           have HO1 := Lib.hid ho1; have HG1 := Lib.hid hg1; have HV1 := Lib.hid hv1
           clear ho1 hg1 hv1))
      go_roundw
      case rel =>
        have hlk := HG1.out.size
        have hne1 : (Value.slice sa sm sc).ownBlock ≠ some P := by
          rcases HV1.out with h | h
          · rw [h]; exact HH3.out
          · intro e; have := h P e; omega
        have hrow : w1.grownBy (w1.setCell ⟨P, 0, none⟩ (.slice sa sm sc)) (some P) := grownBy_setCell (grownBy_refl w1 (some P)) 0 (.slice sa sm sc)
        have hbl : Below B w w1 := Below_ownM HBW.out HH2.out HG1.out hB1 (Nat.le_trans hB3 hsz)
        refine ⟨k + 1, by omega, by go_num, Lib.hid ⟨.slice sa sm sc, ?_, ?_, hne1, ?_⟩, Lib.hid ?_, Lib.hid (hbl.setCell hB2 _)⟩
        · exact HP1.out.set_ 0 (.slice sa sm sc)
        · have h2 := HO1.out.keep (w' := w1.setCell ⟨P, 0, none⟩ (.slice sa sm sc)) (fun g hg => set_heap (HO1.out.lt g hg).2 (fun e => hne1 (by rw [hg, e])))
          have e1 : L ++ leL K (l.take (k + 1)) = (L ++ leL K (l.take k)) ++ leB x K := by
            rw [List.take_add_one, HXX.out]
            unfold leL
            simp [List.flatMap_append]
          rw [e1, List.length_append, List.map_append]
          exact h2
        · intro b hb
          rcases HV1.out with h | h
          · rw [h]; exact HH4.out b hb
          · intro e
            have h5 := h b e
            have := HXW.out b hb
            omega
        · have hbk : ad.block < wr.heap.size := by have := block_lt_of_cell hc; rwa [block_of_add] at this
          have h5 : (w1.setCell ⟨P, 0, none⟩ (.slice sa sm sc)).heap[ad.block]? = wr.heap[ad.block]? := by
            rw [set_heap (by omega) (HX.out ad rfl).1]
            refine HG1.out.block _ hbk (fun e => ?_)
            rcases (HX.out ad rfl).2 with h | h
            · exact HH4.out _ h e.symm
            · have := (HH2.out.lt _ e.symm).1; omega
          intro j u hj
          obtain ⟨ad', e, hcj⟩ := HLW.out j u hj
          injection e with e
          subst e
          exact ⟨_, rfl, (World.cell?_of_block (by rw [block_of_add]; exact h5)).trans hcj⟩
      case measure => simp [intOf]; omega
    · obtain rfl : k = n := by omega
      have hlt2 : ¬ (k : Int) < k := by omega
      go_wp2_with fail
      refine bodyPost_end (results_none rfl _ _ _) rfl ⟨rfl, ?_, HBW.out⟩
      have := HOW.out
      rw [List.take_of_length_le (by rw [HN.out]; exact Nat.le_refl _)] at this
      exact this
end Go.Proofs.Ytokidpajialgbaa
