/- The laws of stage 14 that only compare: lives, HuffCodes, HuffNils. -/
import Derived.Test.YtoejmjhfecppcaaHuffH
import Derived.Test.YtoejmjhfecppcaaHuffI
import Derived.Test.YtoejmjhfecppcaaHuffJ
namespace Go.Proofs.Ytoejmjhfecppcaa
open Go.RowKit

theorem ints_of_row {k : IntKind} {w : World} {a : Option Addr} {len cap : Nat} {zs : List Int} (h : (a = none ∧ len = 0 ∧ cap = 0 ∧ zs = []) ∨
    ∃ x, a = some x ∧ len ≤ cap ∧ cap ≤ maxLen ∧ zs.length = cap ∧ (∀ i, i < zs.length → w.cell? (x.add i) = some (.int k (zs.getD i 0))) ∧ ∀ n ∈ zs, (Lit.int k n).wf = true) :
    ∃ l : List Int, l.length = len ∧ Ints w a k l ∧ (∀ n ∈ l, (Lit.int k n).wf = true) ∧ len ≤ 9223372036854775807 := by
  rcases h with ⟨rfl, rfl, rfl, rfl⟩ | ⟨x, rfl, hl, hm, hz, hc, hw⟩
  · exact ⟨[], rfl, fun i v hi => by simp at hi, fun n hn => by simp at hn, by omega⟩
  · refine ⟨zs.take len, by simp; omega, fun i v hi => ?_, fun n hn => hw n (List.mem_of_mem_take hn), by unfold maxLen at hm; omega⟩
    have hi2 : i < len := by
      have := (List.getElem?_eq_some_iff.1 hi).1
      simp at this; omega
    refine ⟨x, rfl, ?_⟩
    rw [hc i (by omega), ← hi]
    simp only [List.getElem?_map, List.getElem?_take, if_pos hi2]
    rw [List.getElem?_eq_getElem (by omega)]
    simp [List.getD, List.getElem?_eq_getElem (show i < zs.length by omega)]

/-- a law returns true, and turns nothing that was there -/
def True_ (w : World) (e : Ending) (w' : World) : Prop := e = .returned (.bool true) ∧ Below w.heap.size w w'

theorem cells_new (w : World) (cs : Array Value) (t : TypeId) : Cells (w.alloc (.cells cs t)) (some ⟨w.heap.size, 0, none⟩) cs.toList := fun i v hi => by
  refine ⟨_, rfl, ?_⟩
  rw [Addr.add_mid, cell_of_row _ _ _ _ _ _ (heap_alloc_new w _)]
  simpa using hi

set_option maxHeartbeats 1000000 in
theorem lives14 (w : World) : Calls Try.prog 16 #[] w (True_ w) := by
  have h := fun (w1 : World) A (h : Ints w1 A .i64 [2, 1, 3, 3]) => codes_ok A 4 4 [2, 1, 3, 3] w1 h rfl (by decide)
  have H := Lib.hid h; clear h
  go_enter Try.func16, Try.ntmps16
  go_wp2_with fail
  refine (H.out _ _ (cells_new w _ _)).mono ?_
  rintro e w2 ⟨g, c, rfl, hown, hB⟩
  have h0 := hown.cellAt 0 (by omega)
  have h1 := hown.cellAt 1 (by omega)
  have h2 := hown.cellAt 2 (by omega)
  have h3 := hown.cellAt 3 (by omega)
  have e4 : (Hf.codeList [2, 1, 3, 3]).map (Value.int .i64) = [.int .i64 2, .int .i64 0, .int .i64 6, .int .i64 7] := by
    have : Hf.codeList [2, 1, 3, 3] = [2, 0, 6, 7] := by decide
    rw [this]; rfl
  rw [e4] at h0 h1 h2 h3
  simp at h0 h1 h2 h3
  clear e4 hown
  go_wp2_with fail
  go_ret
  exact ⟨rfl, ((Below.refl _ _).alloc (Nat.le_refl _) _).trans (hB.mono (by simp))⟩

set_option maxHeartbeats 2000000 in
theorem huffCodes_walk (A : Option Addr) (n c : Nat) (l : List Int) (w : World) (hl : Ints w A .i64 l) (hn : l.length = n) (hn2 : n ≤ 9223372036854775807) :
    Calls Try.prog 5 #[.slice A n c] w (True_ w) := by
  have HL := Lib.hid hl
  have HN := Lib.hid hn
  by_cases h1000 : 1000 < n
  · clear hl hn
    go_enter Try.func5, Try.ntmps5
    go_wp2_with fail
    refine (lives14 _).mono ?_
    rintro e w2 ⟨rfl, hB⟩
    go_wp2_with fail
    go_ret
    exact ⟨rfl, hB⟩
  · clear hl hn
    by_cases he : Hf.err l = 0
    · have HE := Lib.hid he; clear he
      go_enter Try.func5, Try.ntmps5
      go_wp2_with fail
      refine (codes_ok A n c l _ HL.out HN.out HE.out).mono ?_
      rintro e w1 ⟨g1, c1, rfl, hown1, hB1⟩
      have HO1 := Lib.hid hown1; clear hown1
      go_wp2_with fail
      refine (new_ok A n c l _ (Cells.below HL.out hB1) HN.out HE.out).mono ?_
      rintro e w2 ⟨g2, rfl, htab, hg2, hB2⟩
      have HB1 := Lib.hid hB1; have HB2 := Lib.hid hB2; clear hB1 hB2 htab
      go_wp2_with fail
      refine (sound_any A n c l _ (Cells.below (Cells.below HL.out HB1.out) HB2.out) HN.out hn2).mono ?_
      rintro e w3 ⟨rfl, rfl⟩
      rw [HE.out]
      go_wp2_with fail
      have hB12 := HB1.out.trans (HB2.out.mono HB1.out.size)
      have HB12 := Lib.hid hB12; clear hB12
      refine (numbers_any A n c l _ (Cells.below HL.out HB12.out) HN.out HE.out).mono ?_
      rintro e w3 ⟨v, rfl, hownN, hB3⟩
      have HB3 := Lib.hid hB3; clear hB3
      obtain ⟨A1, c1', hv1, hc1, _⟩ := own_cells HO1.out
      obtain ⟨AN, cN, rfl, hcN, _⟩ := own_cells hownN
      have hc1' := Cells.below (Cells.below hc1 HB2.out) HB3.out
      injection hv1 with hv1
      subst hv1
      have HC1 := Lib.hid hc1'; have HCN := Lib.hid hcN; clear hc1 hc1' hcN hownN
      have hlen : (Hf.codeList l).length = n := by simp [Hf.codeList, Hf.codesTo_len, HN.out]
      obtain ⟨K, hK⟩ : ∃ K, K = Hf.codeList l := ⟨_, rfl⟩
      rw [← hK] at HC1 HCN hlen
      have HLEN := Lib.hid hlen; clear hK hlen
      go_wp2_with fail
      go_loopw [9] (fun i wr => ∃ k q : Nat, k ≤ n ∧ i = .int .i64 k ∧ wr = w3.drewN q) (fun i _ => n - (intOf i).toNat)
      case atStart => exact ⟨0, 0, by omega, rfl, rfl⟩
      case round =>
        obtain ⟨k, q, hk, rfl, rfl⟩ := hrel
        by_cases hlt : k < n
        · obtain ⟨x, hx⟩ : ∃ x, K[k]? = some x := ⟨_, List.getElem?_eq_getElem (by rw [HLEN.out]; exact hlt)⟩
          obtain ⟨ad1, ha1, hcx1⟩ := HC1.out k (.int .i64 x) (by simp [hx])
          obtain ⟨adN, rfl, hcxN⟩ := HCN.out k (.int .i64 x) (by simp [hx])
          injection ha1 with ha1
          subst ha1
          rw [Addr.add_mid, Nat.zero_add] at hcx1
          clear hx
          have hk9 : k < 9223372036854775807 := by omega
          go_wp2_with fail
          go_quiet (fail)
          go_wp2_with fail
          go_roundw
          case rel => exact ⟨k + 1, _, by omega, by go_num, rfl⟩
          case measure => simp [intOf]; omega
        · go_wp2_with fail
          refine (lives14 _).mono ?_
          rintro e w4 ⟨rfl, hB4⟩
          go_wp2_with fail
          go_ret
          exact ⟨rfl, HB12.out.trans (((Below_drewN HB3.out q).trans (hB4.mono HB3.out.size)).mono HB12.out.size)⟩
    · obtain ⟨E, hE⟩ : ∃ E, E = Hf.err l := ⟨_, rfl⟩
      have h1 := codes_bad A n c l w HL.out HN.out hn2 he
      have h2 := fun w1 (h : Below w.heap.size w w1) => new_bad A n c l w1 (Cells.below HL.out h) HN.out hn2 he
      have h3 := fun w1 (h : Below w.heap.size w w1) => sound_any A n c l w1 (Cells.below HL.out h) HN.out hn2
      rw [← hE] at h1 h2 h3 he
      have hE1 : (E == 0) = false := by simpa using he
      have hE2 : (E != 0) = true := by simpa using he
      have H1 := Lib.hid h1; have H2 := Lib.hid h2; have H3 := Lib.hid h3; clear h1 h2 h3 hE he
      go_enter Try.func5, Try.ntmps5
      go_wp2_with fail
      refine H1.out.mono ?_
      rintro e w1 ⟨rfl, hB1⟩
      have HB1 := Lib.hid hB1; clear hB1
      go_wp2_with fail
      refine (H2.out _ HB1.out).mono ?_
      rintro e w2 ⟨rfl, hB2⟩
      have HB2 := Lib.hid (HB1.out.trans (hB2.mono HB1.out.size)); clear hB2
      go_wp2_with fail
      refine (H3.out _ HB2.out).mono ?_
      rintro e w3 ⟨rfl, rfl⟩
      go_wp2_with fail
      refine (lives14 _).mono ?_
      rintro e w4 ⟨rfl, hB4⟩
      go_wp2_with fail
      go_ret
      exact ⟨rfl, HB2.out.trans (hB4.mono HB2.out.size)⟩
end Go.Proofs.Ytoejmjhfecppcaa
