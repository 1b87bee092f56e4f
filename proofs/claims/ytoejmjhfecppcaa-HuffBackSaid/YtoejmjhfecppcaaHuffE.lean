/- The contract of huff.Codes: the walk. -/
import Derived.Test.YtoejmjhfecppcaaHuffD
namespace Go.Proofs.Ytoejmjhfecppcaa
open Go.RowKit

/-- a tuple of a list and an error -/
def NoList (x : Int) (w : World) (e : Ending) (w' : World) : Prop := e = .returned (.tuple #[.slice none 0 0, .int .i64 x]) ∧ Below w.heap.size w w'
def NewInts (k : IntKind) (t : TypeId) (l : List Int) (n : Nat) (w : World) (e : Ending) (w' : World) : Prop :=
  ∃ g c, e = .returned (.tuple #[.slice (some ⟨g, 0, none⟩) n c, .int .i64 0]) ∧ w'.ownsRow w.heap.size t 1 (.slice (some ⟨g, 0, none⟩) n c) n (l.map (Value.int k)) ∧ Below w.heap.size w w'

theorem own_of_blk {w : World} {B g n : Nat} {t : TypeId} {cs : List Value} (h : Blk w g t cs) (hB : B ≤ g) (hn : cs.length = n) (hm : n ≤ maxLen) : w.ownsRow B t 1 (.slice (some ⟨g, 0, none⟩) n n) n cs :=
  ⟨by omega, .inr ⟨g, n, _, rfl, hB, h, Nat.le_refl _, hm, by simp [hn], by rw [Nat.mul_one, ← hn]; simp⟩⟩

set_option maxHeartbeats 2000000 in
theorem codes_bad (A : Option Addr) (n c : Nat) (l : List Int) (w : World) (hl : Ints w A .i64 l) (hn : l.length = n) (hn2 : n ≤ 9223372036854775807) (he : Hf.err l ≠ 0) :
    Calls Try.prog 17 #[.slice A n c] w (NoList (Hf.err l) w) := by
  have HC := counted_any A n c l w hl hn hn2
  obtain ⟨x, hx⟩ : ∃ x, x = Hf.err l := ⟨_, rfl⟩
  unfold CountedPost at HC
  rw [← hx] at he HC ⊢
  clear hx hl hn
  have he1 : (x != 0) = true := by simpa using he
  have HC2 := Lib.hid HC; clear HC
  go_enter Try.func17, Try.ntmps17
  go_wp2_with fail
  refine HC2.out.mono ?_
  rintro e w1 ⟨⟨m, rfl, _⟩, hB⟩
  have hsz := hB.size
  go_wp2_with (first | (refine wpList_store_rowTo rfl 91 (.tmp 4) (.tmp 15) rfl rfl w1.heap.size _ rfl rfl 91 _ (heap_alloc_new w1 _) (by rw [infoArr]; simp [Hf.counts_len]) (by simp [Hf.counts_len]) (counts_one _) ?_; rw [World.setRow_alloc_new]))
  go_ret2
  exact ⟨rfl, hB.alloc hsz _⟩

set_option maxHeartbeats 4000000 in
theorem codes_ok (A : Option Addr) (n c : Nat) (l : List Int) (w : World) (hl : Ints w A .i64 l) (hn : l.length = n) (he : Hf.err l = 0) :
    Calls Try.prog 17 #[.slice A n c] w (NewInts .i64 3 (Hf.codeList l) n w) := by
  obtain ⟨hr0, hn3, hin⟩ := Hf.err_room he
  have HC := counted_any A n c l w hl hn (by omega)
  unfold CountedPost at HC
  rw [he] at HC
  have HC2 := Lib.hid HC; clear HC
  have HL := Lib.hid hl; have HN := Lib.hid hn; have HIN := Lib.hid hin; clear hl hn hin
  have hn4 : n ≤ 320 := by have := HN.out; omega
  clear hn3
  have hmk := mkInts n (by omega)
  go_enter Try.func17, Try.ntmps17
  go_wp2_with fail
  refine HC2.out.mono ?_
  rintro e w1 ⟨⟨m, rfl, hm⟩, hB⟩
  obtain rfl : l = m := (hm trivial).symm
  clear hm
  have hsz := hB.size
  go_wp2_with (first | (refine wpList_store_rowTo rfl 91 (.tmp 4) (.tmp 15) rfl rfl w1.heap.size _ rfl rfl 91 _ (heap_alloc_new w1 _) (by rw [infoArr]; simp [Hf.counts_len]) (by simp [Hf.counts_len]) (counts_one _) ?_; rw [World.setRow_alloc_new]))
  have HST := Lib.hid (Hf.start_le l hr0)
  go_loopw [7, 8] (fun v i wr => ∃ k : Nat, 1 ≤ k ∧ k ≤ 15 ∧ i = .int .i64 k ∧ v = .int .i64 (Hf.start l k) ∧ Blk wr w1.heap.size 91 (Hf.counts l) ∧ Blk wr (w1.heap.size + 1) 91 (Hf.starts l k) ∧ Below w.heap.size w wr ∧ Hid (wr.heap.size = w1.heap.size + 2)) (fun _ i _ => 16 - (intOf i).toNat)
  case atStart => 
    refine ⟨1, by omega, by omega, rfl, by simp [Hf.start], blk_alloc2_old w1 _ _ (Hf.counts l), blk_alloc2_new w1 _ _ (Hf.starts l 1), ?_, ?_⟩
    · exact (hB.alloc hsz _).alloc (by simp; omega) _
    · show _ = _; simp
  case round =>
    obtain ⟨k, hk1, hk2, rfl, rfl, hb0, hb1, hB2, hz⟩ := hrel
    have HB0 := Lib.hid hb0; have HB1 := Lib.hid hb1; clear hb0 hb1
    by_cases hlt : k < 15
    · have hc := HB0.out.cell k
      rw [Hf.counts_get _ _ (by omega)] at hc
      have q1 := Hf.start_nonneg l k
      have q2 := Hf.cnt_nonneg l k
      have q3 : Hf.start l k + Hf.cnt l k ≤ 32768 := by
        have h := HST.out (k - 1) (by omega)
        rw [show k - 1 + 1 = k from by omega] at h
        have h1 : (2 : Nat) ^ k ≤ 2 ^ 15 := Nat.pow_le_pow_right (by omega) (by omega)
        have h2 : ((2 ^ k : Nat) : Int) ≤ ((2 ^ 15 : Nat) : Int) := by exact_mod_cast h1
        simp at h2; omega
      have hd : wr.cell? ⟨w1.heap.size + 1, k + 1, none⟩ = some (.int .i64 0) := by
        rw [HB1.out.cell, Hf.starts_get _ _ _ (by omega), if_neg (by omega)]
      have hf := HB1.out.frozen (k + 1)
      go_wp2
      go_roundw
      case rel =>
        have e1 : (Hf.start l k + Hf.cnt l k) * 2 = Hf.start l (k + 1) := by rw [Hf.start_succ l k (by omega)]; omega
        rw [e1]
        refine ⟨k + 1, by omega, by omega, by go_num, rfl, HB0.out.far (by simp) _, ?_, hB2.setCell (by simp; omega) _, ?_⟩
        · rw [← Hf.starts_set l k (by omega)]; exact HB1.out.set_ _ _
        · show _ = _; simpa using hz.out
      case measure => simp [intOf]; omega
    · obtain rfl : k = 15 := by omega
      go_wp2
      obtain ⟨wo, rfl⟩ : ∃ wo : World, wo = wr := ⟨_, rfl⟩
      have hz1 : w1.heap.size + 1 < wo.heap.size := by have := hz.out; omega
      rw [Hf.nexts_nil] at HB1
      go_loopw [39] (fun i wr => ∃ k : Nat, k ≤ n ∧ i = .int .i64 k ∧ Blk wr (w1.heap.size + 1) 91 (Hf.nexts l (l.take k)) ∧ Blk wr wo.heap.size 3 (Hf.outTo l n k) ∧ Below w.heap.size w wr) (fun i _ => n - (intOf i).toNat)
      case atStart =>
        refine ⟨0, by omega, rfl, (HB1.out).alloc _, ?_, hB2.alloc hB2.size _⟩
        rw [Hf.outTo_zero]; exact Blk.new _ _ _
      case round =>
        obtain ⟨k, hk, rfl, hb1, hb2, hB3⟩ := hrel
        have HB1 := Lib.hid hb1; have HB2 := Lib.hid hb2; clear hb1 hb2
        by_cases hlt2 : k < n
        · obtain ⟨x, hx⟩ : ∃ x, l[k]? = some x := ⟨_, List.getElem?_eq_getElem (by rw [HN.out]; exact hlt2)⟩
          have hxr := HIN.out x (List.mem_of_getElem? hx)
          have hts : l.take (k + 1) = l.take k ++ [x] := by rw [List.take_add_one, hx]; rfl
          have hgd : l.getD k 0 = x := by simp [List.getD, hx]
          obtain ⟨ad, rfl, hc0⟩ := HL.out k (.int .i64 x) (by simp [hx])
          have hc := (hB3.cell (block_lt_of_cell hc0)).trans hc0
          have HTS := Lib.hid hts; have HGD := Lib.hid hgd; clear hts hgd hx hc0
          obtain ⟨m, rfl⟩ := Int.eq_ofNat_of_zero_le hxr.1
          by_cases hm0 : 0 < m
          · have hm1 : m < 16 := by omega
            have hcn := HB1.out.cell m
            rw [Hf.nexts_get _ _ _ hm1 hm0] at hcn
            have hfn := HB1.out.frozen m
            have hfo := HB2.out.frozen k
            have hco := HB2.out.cell k
            rw [List.getElem?_eq_getElem (by rw [Hf.outTo_len l n k hk]; exact hlt2)] at hco
            have q1 := Hf.start_nonneg l m
            have q2 := Hf.cnt_nonneg (l.take k) m
            have q4 : Hf.cnt (l.take k) m ≤ 320 := by have := Hf.cnt_le (l.take k) m; have : (l.take k).length ≤ k := List.length_take_le _ _; omega
            have q3 : Hf.start l m ≤ 32768 := by
              have h := HST.out (m - 1) (by omega)
              rw [show m - 1 + 1 = m from by omega] at h
              have h1 : (2 : Nat) ^ m ≤ 2 ^ 15 := Nat.pow_le_pow_right (by omega) (by omega)
              have h2 : ((2 ^ m : Nat) : Int) ≤ ((2 ^ 15 : Nat) : Int) := by exact_mod_cast h1
              have := Hf.cnt_nonneg l m
              simp at h2; omega
            clear hxr
            go_wp2
            go_roundw
            case rel =>
              refine ⟨k + 1, by omega, by go_num, ?_, ?_, (hB3.setCell (by have := hB2.size; simp; omega) _).setCell (by simp; omega) _⟩
              · rw [HTS.out, ← Hf.nexts_set l _ m hm1 hm0]; exact (HB1.out.far (by simp; omega) _).set_ _ _
              · have hc : Hf.codeOf l (l.take k) (l.getD k 0) = Hf.start l m + Hf.cnt (l.take k) m := by
                  rw [HGD.out]; unfold Hf.codeOf; rw [if_neg (by omega)]; simp
                rw [← Hf.outTo_set l n k hlt2, hc]; exact (HB2.out.set_ _ _).far (by simp; omega) _
            case measure => simp [intOf]; omega
          · obtain rfl : m = 0 := by omega
            clear hxr hm0
            go_wp2
            go_roundw
            case rel =>
              refine ⟨k + 1, by omega, by go_num, ?_, ?_, hB3⟩
              · rw [HTS.out]; have h := HB1.out; rw [← Hf.nexts_zero] at h; exact h
              · rw [← Hf.outTo_same l n k hlt2 (by rw [HGD.out]; rfl)]; exact HB2.out
            case measure => simp [intOf]; omega
        · obtain rfl : k = n := by omega
          go_wp2
          go_ret2
          refine ⟨wo.heap.size, k, rfl, ?_, hB3⟩
          have h := HB2.out
          rw [Hf.outTo_end] at h
          have h2 : Hf.codesTo l k = Hf.codeList l := by unfold Hf.codeList; rw [HN.out]
          rw [h2] at h
          exact own_of_blk h hB2.size (by rw [← h2]; simp [Hf.codesTo_len]) (by unfold maxLen; omega)
end Go.Proofs.Ytoejmjhfecppcaa
