/- Contracts of the reference's Bits and Texts. -/
import Derived.Test.YtoejmjhfecppcaaHuffO
import Derived.Test.YtoejmjhfecppcaaHuffJ
namespace Go.Proofs.Ytoejmjhfecppcaa
open Go.RowKit
/-- a text -/
abbrev str (l : List UInt8) : Value := .string ⟨l.toArray⟩
theorem str_append (l m : List UInt8) : (⟨l.toArray⟩ : ByteArray) ++ ⟨m.toArray⟩ = ⟨(l ++ m).toArray⟩ := by
  apply ByteArray.ext
  simp [ByteArray.data_append]
theorem str_snoc (l : List UInt8) (c : UInt8) : Value.string ({ data := l.toArray } ++ { data := #[c] }) = str (l ++ [c]) := congrArg Value.string (str_append l [c])
theorem str_cons (l : List UInt8) (c : UInt8) : Value.string ({ data := #[c] } ++ { data := l.toArray }) = str (c :: l) := congrArg Value.string (str_append [c] l)
namespace Hf
/-- the first n bits -/
def bitTo (bs : List Int) (n : Nat) : List UInt8 := (List.range n).map fun i => if bitAt bs i = 1 then 49 else 48
theorem bitTo_succ (bs : List Int) (n : Nat) : bitTo bs (n + 1) = bitTo bs n ++ [if bitAt bs n = 1 then 49 else 48] := by simp [bitTo, List.range_succ]
theorem bitTo_all (bs : List Int) : bitTo bs (8 * bs.length) = bitStr bs 0 := by simp [bitTo, bitStr]
end Hf
set_option maxHeartbeats 1000000 in
theorem refBits_any (A : Option Addr) (n c : Nat) (bs : List Int) (w : World) (h : Ints w A .u8 bs) (hr : ∀ x ∈ bs, 0 ≤ x ∧ x ≤ 255) (hn : bs.length = n) (hm : n ≤ 60) :
    Calls Try.prog 22 #[.slice A n c] w fun e w' => e = .returned (str (Hf.bitStr bs 0)) ∧ w = w' := by
  have HL := Lib.hid h; have HN := Lib.hid hn; have HR := Lib.hid hr; clear h hn hr
  obtain ⟨R, hR⟩ : ∃ R, R = Hf.bitStr bs 0 := ⟨_, rfl⟩
  rw [← hR]
  have HRR := Lib.hid hR; clear hR
  go_enter Try.func22, Try.ntmps22
  go_wp2_with fail
  go_loop [3, 4] (fun s i => ∃ k : Nat, k ≤ n ∧ i = .int .i64 k ∧ s = str (Hf.bitTo bs (8 * k))) (fun _ i => n - (intOf i).toNat)
  case atStart => exact ⟨0, by omega, rfl, rfl⟩
  case round =>
    obtain ⟨k, hk, rfl, rfl⟩ := hrel
    by_cases hlt : k < n
    · obtain ⟨x, hx⟩ : ∃ x, bs[k]? = some x := ⟨_, List.getElem?_eq_getElem (by rw [HN.out]; exact hlt)⟩
      obtain ⟨ad, rfl, hcx⟩ := HL.out k (.int .u8 x) (by simp [hx])
      obtain ⟨hx0, hx1⟩ := HR.out x (List.mem_of_getElem? hx)
      have HX := Lib.hid hx; clear hx
      go_wp2_with fail
      go_loop [3, 5, 6] (fun s v j => ∃ m : Nat, m ≤ 8 ∧ j = .int .i64 m ∧ s = str (Hf.bitTo bs (8 * k + m)) ∧ v = .int .i64 (x / 2 ^ m)) (fun _ _ j => 8 - (intOf j).toNat)
      case atStart => exact ⟨0, by omega, rfl, rfl, by simp⟩
      case round =>
        obtain ⟨m, hm8, rfl, rfl, rfl⟩ := hrel
        by_cases hlm : m < 8
        · have hbit : Hf.bitAt bs (8 * k + m) = x / 2 ^ m % 2 := by
            unfold Hf.bitAt
            rw [show (8 * k + m) / 8 = k from by omega, show (8 * k + m) % 8 = m from by omega]
            simp [List.getD, HX.out]
          have hdv := Hf.ediv_pow_succ x m
          obtain ⟨y, hy⟩ : ∃ y, y = x / 2 ^ m := ⟨_, rfl⟩
          have hy0 : 0 ≤ y := by rw [hy]; exact Int.ediv_nonneg hx0 (Int.le_of_lt (Int.pow_pos (by omega)))
          have hy1 : y ≤ 255 := by rw [hy]; have := Int.ediv_le_self (2 ^ m) hx0; omega
          rw [← hy] at hbit ⊢
          have hy2 : x / 2 ^ (m + 1) = y / 2 := by
            rw [hy, Int.pow_succ, Int.ediv_ediv_of_nonneg (Int.le_of_lt (Int.pow_pos (by omega)))]
          have HB := Lib.hid hbit; have HY := Lib.hid hy2; clear hbit hy hy2 hdv
          have hs := Hf.bitTo_succ bs (8 * k + m)
          rw [HB.out] at hs
          have HS := Lib.hid hs; clear hs
          have hlen : (Hf.bitTo bs (8 * k + m)).length ≤ 1000 := by simp [Hf.bitTo]; omega
          by_cases h1 : y % 2 = 1
          · have hb : (y % 2 == 1) = true := by simpa using h1
            have H1 := Lib.hid h1
            go_wp2_with fail
            go_round
            case measure => simp [intOf]; omega
            case rel => refine ⟨m + 1, by omega, by go_num, ?_, by rw [HY.out]⟩; rw [str_snoc, ← Nat.add_assoc, HS.out, if_pos H1.out]
          · have hb : (y % 2 == 1) = false := by simpa using h1
            have H1 := Lib.hid h1
            go_wp2_with fail
            go_round
            case measure => simp [intOf]; omega
            case rel => refine ⟨m + 1, by omega, by go_num, ?_, by rw [HY.out]⟩; rw [str_snoc, ← Nat.add_assoc, HS.out, if_neg H1.out]
        · obtain rfl : m = 8 := by omega
          go_wp2_with fail
          refine ⟨⟨k + 1, by omega, by go_num, by rw [Nat.mul_add]⟩, by simp [intOf]; omega⟩
    · obtain rfl : k = n := by omega
      go_wp2_with fail
      go_ret
      refine ⟨?_, rfl⟩
      rw [HRR.out, ← Hf.bitTo_all, HN.out]; rfl
theorem infoStr : (Try.prog.info? 9).map (fun i => (i.zero, i.size, i.bytes)) = some (some (.string ⟨#[]⟩), 1, 16) := by kernel_rfl
/-- a list of texts -/
def Strs (w : World) (A : Option Addr) (T : List (List UInt8)) : Prop := Cells w A (T.map str)
def OwnStrs (T : List (List UInt8)) (n : Nat) (w : World) (e : Ending) (w' : World) : Prop :=
  ∃ v, e = .returned v ∧ w'.ownsRow w.heap.size 9 1 v n (T.map str) ∧ Below w.heap.size w w'

namespace Hf
theorem texts_succ (l : List Int) (k : Nat) : (List.range (k + 1)).map (textOf l) = (List.range k).map (textOf l) ++ [textOf l k] := by simp [List.range_succ]
end Hf

set_option maxHeartbeats 2000000 in
theorem refTexts_any (A : Option Addr) (n c : Nat) (l : List Int) (w : World) (hl : Ints w A .i64 l) (hn : l.length = n) (he : Hf.err l = 0) :
    Calls Try.prog 21 #[.slice A n c] w (OwnStrs (Hf.texts l) n w) := by
  obtain ⟨hr0, hn3, hin⟩ := Hf.err_room he
  have HNUM := Lib.hid (numbers_any A n c l w hl hn he)
  have HL := Lib.hid hl; have HN := Lib.hid hn; have HIN := Lib.hid hin; have HST := Lib.hid (Hf.start_le l hr0); clear hl hn hin hr0 he
  have hn4 : n ≤ 320 := by have := HN.out; omega
  clear hn3
  obtain ⟨R, hR⟩ : ∃ R, R = Hf.texts l := ⟨_, rfl⟩
  rw [← hR]
  have HR := Lib.hid hR; clear hR
  go_enter Try.func21, Try.ntmps21
  go_wp2_with fail
  refine HNUM.out.mono ?_
  rintro e w1 ⟨v, rfl, hown, hB1⟩
  obtain ⟨AN, cN, rfl, hcN, _⟩ := own_cells hown
  have HCN := Lib.hid hcN; have HB1 := Lib.hid hB1; clear hcN hown hB1
  go_wp2_with fail
  go_loopw [4, 5] (fun ts i wr => ∃ (k q : Nat) (v : Value), k ≤ n ∧ i = .int .i64 k ∧ v = ts ∧ wr.ownsRow w1.heap.size 9 1 v q (((List.range k).map (Hf.textOf l)).map str) ∧ Below w1.heap.size w1 wr) (fun _ i _ => n - (intOf i).toNat)
  case atStart => exact ⟨0, 0, _, by omega, rfl, rfl, World.ownsRow_nil _ _ _ _, Below.refl _ _⟩
  case round =>
    obtain ⟨k, q, v, hk, rfl, rfl, hown, hB⟩ := hrel
    have HO := Lib.hid hown; clear hown
    have hsz := hB.size
    have hq : q = k := by have := HO.out.1; simpa using this.symm
    by_cases hlt : k < n
    · obtain ⟨x, hx⟩ : ∃ x, l[k]? = some x := ⟨_, List.getElem?_eq_getElem (by rw [HN.out]; exact hlt)⟩
      have hxr := HIN.out x (List.mem_of_getElem? hx)
      have hgd : l.getD k 0 = x := by simp [List.getD, hx]
      obtain ⟨y, hy⟩ : ∃ y, y = Hf.codeOf l (l.take k) (l.getD k 0) := ⟨_, rfl⟩
      have hyk : (Hf.codeList l)[k]? = some y := by
        unfold Hf.codeList Hf.codesTo
        rw [List.getElem?_map, List.getElem?_range (by rw [HN.out]; exact hlt), hy]; rfl
      have htx : Hf.textOf l k = Hf.text x.toNat y := by unfold Hf.textOf; rw [← hy, hgd]
      have hy0 : 0 ≤ y ∧ y ≤ 65536 := by
        rw [hy, hgd]
        unfold Hf.codeOf
        by_cases h0 : x ≤ 0
        · rw [if_pos h0]; omega
        · rw [if_neg h0]
          have h1 := HST.out (x.toNat - 1) (by omega)
          rw [show x.toNat - 1 + 1 = x.toNat from by omega] at h1
          have h2 : (2 : Nat) ^ x.toNat ≤ 2 ^ 15 := Nat.pow_le_pow_right (by omega) (by omega)
          have h3 : ((2 ^ x.toNat : Nat) : Int) ≤ ((2 ^ 15 : Nat) : Int) := by exact_mod_cast h2
          simp at h3
          have h4 := Hf.start_nonneg l x.toNat
          have h5 := Hf.cnt_take_le l k x.toNat
          have h6 := Hf.cnt_nonneg (l.take k) x.toNat
          omega
      obtain ⟨hy0, hy1⟩ := hy0
      obtain ⟨ad, rfl, hc0⟩ := HL.out k (.int .i64 x) (by simp [hx])
      obtain ⟨adN, rfl, hc1⟩ := HCN.out k (.int .i64 y) (by simp [hyk])
      have hcx := ((HB1.out.trans (hB.mono HB1.out.size)).cell (block_lt_of_cell hc0)).trans hc0
      have hcy := (hB.cell (block_lt_of_cell hc1)).trans hc1
      have HTX := Lib.hid htx; have HQ := Lib.hid hq; clear hx hgd hy hyk htx hc0 hc1 hq
      obtain ⟨hx0, hx1⟩ := hxr
      obtain ⟨wo, rfl⟩ : ∃ wo : World, wo = wr := ⟨_, rfl⟩
      go_wp2_with fail
      go_loop [6, 7, 8] (fun s c j => ∃ m : Nat, (m : Int) ≤ x ∧ j = .int .i64 m ∧ s = str (Hf.text m y) ∧ c = .int .i64 (y / 2 ^ m)) (fun _ _ j => x.toNat - (intOf j).toNat)
      case atStart => exact ⟨0, by omega, rfl, rfl, by simp⟩
      case round =>
        obtain ⟨m, hmx, rfl, rfl, rfl⟩ := hrel
        by_cases hlm : (m : Int) < x
        · obtain ⟨z, hz⟩ : ∃ z, z = y / 2 ^ m := ⟨_, rfl⟩
          have hz0 : 0 ≤ z := by rw [hz]; exact Int.ediv_nonneg hy0 (Int.le_of_lt (Int.pow_pos (by omega)))
          have hz1 : z ≤ 65536 := by rw [hz]; have := Int.ediv_le_self (2 ^ m) hy0; omega
          have hz2 : y / 2 ^ (m + 1) = z / 2 := by
            rw [hz, Int.pow_succ, Int.ediv_ediv_of_nonneg (Int.le_of_lt (Int.pow_pos (by omega)))]
          have hs := Hf.text_cons m y
          rw [← hz] at hs ⊢
          have HZ := Lib.hid hz2; have HS := Lib.hid hs; clear hz hz2 hs
          have hlen : (Hf.text m y).length ≤ 1000 := by rw [Hf.text_len]; omega
          by_cases h1 : z % 2 = 1
          · have H1 := Lib.hid h1
            go_wp2_with fail
            go_round
            case measure => simp [intOf]; omega
            case rel => refine ⟨m + 1, by omega, by go_num, ?_, by rw [HZ.out]⟩; rw [str_cons, HS.out, if_pos H1.out]
          · have H1 := Lib.hid h1
            go_wp2_with fail
            go_round
            case measure => simp [intOf]; omega
            case rel => refine ⟨m + 1, by omega, by go_num, ?_, by rw [HZ.out]⟩; rw [str_cons, HS.out, if_neg H1.out]
        · have htm : Hf.text m y = Hf.textOf l k := by rw [HTX.out]; congr 1; omega
          rw [htm]
          have HTM := Lib.hid htm; clear htm
          go_wp2_with (first | (at_builtin; refine wpList_app1s wo rfl (.tmp 38) (.tmp 40) 48 rfl w1.heap.size 9 (.string ⟨#[]⟩) 16 Try.underlying48 infoStr rfl v q _ rfl HO.out (str (Hf.textOf l k)) rfl rfl (by have := HQ.out; omega) (by omega) hsz ?_; intro g2 c2 w2 hown2 hg2; have HO2 := Lib.hid hown2; have HG2 := Lib.hid hg2; clear hown2 hg2))
          have hB4 := Below_own hB HO.out HG2.out (Nat.le_refl _) hsz
          go_roundw
          case rel => exact ⟨k + 1, q + 1, _, by omega, by go_num, rfl, by rw [Hf.texts_succ, List.map_append]; exact HO2.out, hB4⟩
          case measure => simp [intOf]; omega
    · obtain rfl : k = n := by omega
      obtain rfl := hq
      go_wp2_with fail
      go_ret
      refine ⟨v, rfl, ?_, HB1.out.trans (hB.mono HB1.out.size)⟩
      have h := HO.out
      rw [← HN.out] at h
      rw [HR.out, ← HN.out]
      exact ⟨h.1, h.2.imp id fun ⟨g, c, cur, h1, h2, h3⟩ => ⟨g, c, cur, h1, Nat.le_trans HB1.out.size h2, h3⟩⟩
end Go.Proofs.Ytoejmjhfecppcaa
