/- The contract of huff.New (without huff.Codes beside it). -/
import Derived.Test.YtcjdeinmmokdgaaHuffD
import Derived.Test.YtcjdeinmmokdgaaMemE
import Derived.Test.YtcjdeinmmokdgaaMemB
namespace Go.Proofs.Ytcjdeinmmokdgaa
set_option linter.unusedSimpArgs false
set_option linter.unusedVariables false
open Go.RowKit
namespace Hf
/-- of the first i symbols those of length k -/
def symsAt (l : List Int) (k i : Nat) : List Int := ((List.range i).filter fun s => l.getD s 0 == (k : Int)).map fun (s : Nat) => (s : Int)
/-- all symbols of the lengths 1 to k, in their order -/
def symsTo (l : List Int) : Nat → List Int
  | 0 => []
  | k + 1 => symsTo l k ++ symsAt l (k + 1) l.length
theorem symsAt_zero (l : List Int) (k : Nat) : symsAt l k 0 = [] := rfl
theorem symsAt_hit (l : List Int) (k i : Nat) (h : l.getD i 0 = k) : symsAt l k (i + 1) = symsAt l k i ++ [(i : Int)] := by
  simp only [symsAt, List.range_succ, List.filter_append, List.map_append]; rw [List.filter_cons, if_pos (by simpa using h)]; rfl
theorem symsAt_miss (l : List Int) (k i : Nat) (h : ¬ l.getD i 0 = k) : symsAt l k (i + 1) = symsAt l k i := by
  simp only [symsAt, List.range_succ, List.filter_append, List.map_append]; rw [List.filter_cons, if_neg (by simpa using h)]; simp
theorem symsAt_le (l : List Int) (k i : Nat) : (symsAt l k i).length ≤ i := by
  unfold symsAt
  rw [List.length_map]
  exact Nat.le_trans (List.length_filter_le _ _) (by simp)
theorem symsTo_le (l : List Int) (k : Nat) : (symsTo l k).length ≤ k * l.length := by
  induction k with
  | zero => simp [symsTo]
  | succ k ih => have := symsAt_le l (k + 1) l.length; simp only [symsTo, List.length_append, Nat.add_mul]; omega
end Hf

theorem cntCells (l : List Int) : (Hf.counts l).toArray = #[.int .i64 (Hf.cnt l 0), .int .i64 (Hf.cnt l 1), .int .i64 (Hf.cnt l 2), .int .i64 (Hf.cnt l 3), .int .i64 (Hf.cnt l 4), .int .i64 (Hf.cnt l 5), .int .i64 (Hf.cnt l 6), .int .i64 (Hf.cnt l 7), .int .i64 (Hf.cnt l 8), .int .i64 (Hf.cnt l 9), .int .i64 (Hf.cnt l 10), .int .i64 (Hf.cnt l 11), .int .i64 (Hf.cnt l 12), .int .i64 (Hf.cnt l 13), .int .i64 (Hf.cnt l 14), .int .i64 (Hf.cnt l 15)] := rfl
theorem tabBuilt (l : List Int) : Try.prog.built 71 [(0, .agg (Hf.counts l).toArray)] = some ((Hf.counts l ++ [Value.slice none 0 0]).toArray) := by
  rw [cntCells]
  generalize Hf.cnt l = f
  kernel_rfl

/-- nothing, and an error -/
def NoPtr (x : Int) (w : World) (e : Ending) (w' : World) : Prop := e = .returned (.tuple #[.pointer none, .int .i64 x]) ∧ Below w.heap.size w w'
/-- block g is the table of lengths l; its list lies in blocks from B on -/
def Tab (w : World) (B g : Nat) (l : List Int) : Prop :=
  ∃ v, Blk w g 71 (Hf.counts l ++ [v]) ∧ w.ownsRow B 3 1 v (Hf.symsTo l 15).length ((Hf.symsTo l 15).map (Value.int .i64)) ∧ g < B
def NewTab (l : List Int) (w : World) (e : Ending) (w' : World) : Prop :=
  ∃ g, e = .returned (.tuple #[.pointer (some ⟨g, 0, none⟩), .int .i64 0]) ∧ Tab w' (g + 1) g l ∧ w.heap.size ≤ g ∧ Below w.heap.size w w'

set_option maxHeartbeats 2000000 in
theorem new_bad (A : Option Addr) (n c : Nat) (l : List Int) (w : World) (hl : Ints w A .i64 l) (hn : l.length = n) (hn2 : n ≤ 9223372036854775807) (he : Hf.err l ≠ 0) :
    Calls Try.prog 23 #[.slice A n c] w (NoPtr (Hf.err l) w) := by
  have HC := counted_any A n c l w hl hn hn2
  obtain ⟨x, hx⟩ : ∃ x, x = Hf.err l := ⟨_, rfl⟩
  unfold CountedPost at HC
  rw [← hx] at he HC ⊢
  clear hx hl hn
  have he1 : (x != 0) = true := by simpa using he
  have HC2 := Lib.hid HC; clear HC
  go_enter Try.func23, Try.ntmps23
  go_wp2_with fail
  refine HC2.out.mono ?_
  rintro e w1 ⟨⟨m, rfl, _⟩, hB⟩
  have hsz := hB.size
  go_wp2_with (first | (refine wpList_store_rowTo rfl 67 (.tmp 4) (.tmp 13) rfl rfl w1.heap.size _ rfl rfl 67 _ (heap_alloc_new w1 _) (by rw [infoArr]; simp [Hf.counts_len]) (by simp [Hf.counts_len]) (counts_one _) ?_; rw [World.setRow_alloc_new]))
  go_ret2
  exact ⟨rfl, hB.alloc hsz _⟩

set_option maxHeartbeats 4000000 in
theorem new_ok (A : Option Addr) (n c : Nat) (l : List Int) (w : World) (hl : Ints w A .i64 l) (hn : l.length = n) (he : Hf.err l = 0) :
    Calls Try.prog 23 #[.slice A n c] w (NewTab l w) := by
  obtain ⟨hr0, hn3, hin⟩ := Hf.err_room he
  have HC := counted_any A n c l w hl hn (by omega)
  unfold CountedPost at HC
  rw [he] at HC
  have HC2 := Lib.hid HC; clear HC
  have HL := Lib.hid hl; have HN := Lib.hid hn; have HIN := Lib.hid hin; clear hl hn hin
  have hn4 : n ≤ 320 := by have := HN.out; omega
  clear hn3
  go_enter Try.func23, Try.ntmps23
  go_wp2_with fail
  refine HC2.out.mono ?_
  rintro e w1 ⟨⟨m, rfl, hm⟩, hB⟩
  obtain rfl : l = m := (hm trivial).symm
  clear hm
  have hsz := hB.size
  go_wp2_with (first | (refine wpList_store_rowTo rfl 67 (.tmp 4) (.tmp 13) rfl rfl w1.heap.size _ rfl rfl 67 _ (heap_alloc_new w1 _) (by rw [infoArr]; simp [Hf.counts_len]) (by simp [Hf.counts_len]) (counts_one _) ?_; rw [World.setRow_alloc_new]) | (refine wpList_load_row rfl 67 (.tmp 4) rfl w1.heap.size rfl 67 _ (0, 0) _ (heap_alloc_new w1 _) Try.underlying67 rfl (by rw [infoArr]; simp [Hf.counts_len]) ?_) | (refine wpList_buildTo rfl 71 _ rfl (some 19) rfl (Hf.counts l ++ [Value.slice none 0 0]).toArray (by rw [← tabBuilt l]; congr 1; simp [Act.eval, Act.put]) ?_))
  have htab : ∀ v : Value, (Hf.counts l ++ [v])[16]? = some v := fun v => by rw [List.getElem?_append_right (by rw [Hf.counts_len]; omega), Hf.counts_len]; rfl
  have htab2 : ∀ v v' : Value, (Hf.counts l ++ [v]).set 16 v' = Hf.counts l ++ [v'] := fun v v' => by rw [List.set_append_right _ _ (by rw [Hf.counts_len]; omega), Hf.counts_len]; rfl
  have HT := Lib.hid htab; have HT2 := Lib.hid htab2; clear htab htab2
  go_loopw [7] (fun i wr => ∃ k : Nat, k < 16 ∧ i = .int .i64 (k + 1) ∧ ∃ v q, Blk wr (w1.heap.size + 1) 71 (Hf.counts l ++ [v]) ∧ wr.ownsRow (w1.heap.size + 2) 3 1 v q ((Hf.symsTo l k).map (Value.int .i64)) ∧ Below w.heap.size w wr) (fun i _ => 17 - (intOf i).toNat)
  case atStart =>
    exact ⟨0, by omega, rfl, _, _, blk_alloc2_new w1 _ _ (Hf.counts l ++ [_]), World.ownsRow_nil _ _ _ _, (hB.alloc hsz _).alloc (by simp; omega) _⟩
  case round =>
    obtain ⟨k, hk, rfl, v, q, hbt, hown, hB2⟩ := hrel
    have HBT := Lib.hid hbt; have HO := Lib.hid hown; clear hbt hown
    by_cases hlt : k < 15
    · obtain ⟨wo, rfl⟩ : ∃ wo : World, wo = wr := ⟨_, rfl⟩
      have hd15 : decide ((k : Int) + 1 ≤ 15) = true := by simp; omega
      go_wp2
      go_loopw [27] (fun i wr => ∃ s : Nat, s ≤ n ∧ i = .int .i64 s ∧ ∃ v q, Blk wr (w1.heap.size + 1) 71 (Hf.counts l ++ [v]) ∧ wr.ownsRow (w1.heap.size + 2) 3 1 v q ((Hf.symsTo l k ++ Hf.symsAt l (k + 1) s).map (Value.int .i64)) ∧ Below w.heap.size w wr) (fun i _ => n - (intOf i).toNat)
      case atStart =>
        refine ⟨0, by omega, rfl, v, q, HBT.out, ?_, hB2⟩
        rw [Hf.symsAt_zero, List.append_nil]; exact HO.out
      case round =>
        obtain ⟨s, hs, rfl, v, q, hbt, hown, hB3⟩ := hrel
        have HBT := Lib.hid hbt; have HO := Lib.hid hown; clear hbt hown
        by_cases hlt2 : s < n
        · obtain ⟨x, hx⟩ : ∃ x, l[s]? = some x := ⟨_, List.getElem?_eq_getElem (by rw [HN.out]; exact hlt2)⟩
          obtain ⟨ad, rfl, hc0⟩ := HL.out s (.int .i64 x) (by simp [hx])
          have hc := (hB3.cell (block_lt_of_cell hc0)).trans hc0
          have hgd : l.getD s 0 = x := by simp [List.getD, hx]
          have HGD := Lib.hid hgd; clear hx hc0 hgd
          have hc16 : wr.cell? ⟨w1.heap.size + 1, 16, none⟩ = some v := by rw [HBT.out.cell, HT.out]
          have hlen : q ≤ 5120 := by
            have h1 := Hf.symsTo_le l k
            have h2 := Hf.symsAt_le l (k + 1) s
            have h3 : k * l.length ≤ 14 * 320 := Nat.mul_le_mul (by omega) (by rw [HN.out]; exact hn4)
            have h4 := HO.out.1
            rw [List.length_map, List.length_append] at h4; omega
          have hbase : w1.heap.size + 2 ≤ wr.heap.size := by have := HBT.out.lt; omega
          by_cases he : x = (k : Int) + 1
          · have heq : (x == (k : Int) + 1) = true := by simpa using he
            have hgk : l.getD s 0 = ((k + 1 : Nat) : Int) := by rw [HGD.out, he]; rfl
            have HGK := Lib.hid hgk; clear he hgk
            go_wp2_with (first | (at_builtin; refine wpList_app1s wr rfl (.tmp 39) (.tmp 41) 51 rfl (w1.heap.size + 2) 3 (.int .i64 0) 8 Try.underlying51 infoInt rfl v _ _ rfl HO.out (.int .i64 s) rfl rfl (by omega) (by omega) hbase ?_; intro g2 c2 w2 hown2 hg2; have hcc := HBT.out.grown_cell hg2 (own_ne HO.out (by omega)) 16 v (HT.out v); have hc17 := hcc.1; have hf17 := hcc.2; clear hcc; have HO2 := Lib.hid hown2; have HG2 := Lib.hid hg2; clear hown2 hg2))
            have hB4 := Below_own hB3 HO.out HG2.out (by omega) hbase
            have hsz4 := hB4.size
            go_roundw
            case rel =>
              refine ⟨s + 1, by omega, by go_num, .slice (some ⟨g2, 0, none⟩) (q + 1) c2, q + 1, ?_, ?_, hB4.setCell (by simp; omega) _⟩
              · rw [← HT2.out v _]; exact (HBT.out.grown HG2.out (own_ne HO.out (by omega))).set_ 16 _
              · rw [Hf.symsAt_hit _ _ _ HGK.out, ← List.append_assoc, List.map_append]
                exact ownsRow_setCell_below HO2.out (by simp) _
            case measure => simp [intOf]; omega
          · have heq : (x == (k : Int) + 1) = false := by simpa using he
            have hgk : ¬ l.getD s 0 = ((k + 1 : Nat) : Int) := by rw [HGD.out]; exact he
            have HGK := Lib.hid hgk; clear he hgk
            go_wp2
            go_roundw
            case rel =>
              refine ⟨s + 1, by omega, by go_num, v, q, HBT.out, ?_, hB3⟩
              rw [Hf.symsAt_miss _ _ _ HGK.out]; exact HO.out
            case measure => simp [intOf]; omega
        · obtain rfl : s = n := by omega
          go_wp2
          go_roundw
          case rel =>
            refine ⟨k + 1, by omega, by go_num, v, q, HBT.out, ?_, hB3⟩
            have h := HO.out
            rw [← HN.out] at h
            exact h
          case measure => simp [intOf]; omega
    · obtain rfl : k = 15 := by omega
      have hq15 : q = (Hf.symsTo l 15).length := by have := HO.out.1; simpa using this.symm
      have HQ15 := Lib.hid hq15; clear hq15
      go_wp2
      go_ret2
      exact ⟨_, rfl, ⟨v, HBT.out, HQ15.out ▸ HO.out, by omega⟩, by omega, hB2⟩
end Go.Proofs.Ytcjdeinmmokdgaa
