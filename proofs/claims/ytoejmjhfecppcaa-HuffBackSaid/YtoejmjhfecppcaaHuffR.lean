/- The law HuffReads. -/
import Derived.Test.YtoejmjhfecppcaaHuffQ
import Derived.Test.YtoejmjhfecppcaaHuffK
namespace Go.Proofs.Ytoejmjhfecppcaa
open Go.RowKit
theorem Strs.grown {w w' : World} {r pos : Nat} {A : Option Addr} {T : List (List UInt8)} {bs : List Int} (h : Strs w A T) (hb : BitsAt w r bs pos) (hg : w.grownBy w' (some r)) : Strs w' A T := by
  obtain ⟨A', c, h1, _⟩ := hb
  refine Cells.grown h hg (Cells.apart h h1 ?_)
  intro v hv hc
  obtain ⟨x, _, rfl⟩ := List.mem_map.1 hv
  simp at hc
theorem str_drop (l : List UInt8) (n : Nat) : ({ data := l.toArray } : ByteArray).extract n l.length = ⟨(l.drop n).toArray⟩ := by
  apply ByteArray.ext
  simp [ByteArray.data_extract]
  exact List.take_of_length_le (by simp)

set_option maxRecDepth 100000 in
set_option maxHeartbeats 4000000 in
theorem huffReads_walk (A : Option Addr) (n c : Nat) (l : List Int) (A2 : Option Addr) (m c2 : Nat) (bs : List Int) (w : World) (hl : Ints w A .i64 l) (hn : l.length = n) (hn2 : n ≤ 9223372036854775807)
    (hb : Ints w A2 .u8 bs) (hm : bs.length = m) (hm2 : m ≤ 9223372036854775807) (hr : ∀ x ∈ bs, 0 ≤ x ∧ x ≤ 255) :
    Calls Try.prog 6 #[.slice A n c, .slice A2 m c2] w (True_ w) := by
  have HL := Lib.hid hl; have HN := Lib.hid hn; have HBS := Lib.hid hb; have HM := Lib.hid hm; have HR := Lib.hid hr
  clear hl hn hb hm hr
  by_cases h1 : 320 < n
  · go_enter Try.func6, Try.ntmps6
    go_wp2_with fail
    refine (lives14 _).mono ?_
    rintro e w2 ⟨rfl, hB⟩
    go_wp2_with fail
    go_ret
    exact ⟨rfl, hB⟩
  · by_cases h2 : 60 < m
    · go_enter Try.func6, Try.ntmps6
      go_wp2_with fail
      refine (lives14 _).mono ?_
      rintro e w2 ⟨rfl, hB⟩
      go_wp2_with fail
      go_ret
      exact ⟨rfl, hB⟩
    · have hs := sound_any A n c l w HL.out HN.out hn2
      by_cases he : Hf.err l = 0
      · rw [he] at hs
        have HS := Lib.hid hs; have HE := Lib.hid he; clear hs he
        go_enter Try.func6, Try.ntmps6
        go_wp2_with fail
        refine HS.out.mono ?_
        rintro e w1 ⟨rfl, rfl⟩
        go_wp2_with fail
        refine (new_ok A n c l _ HL.out HN.out HE.out).mono ?_
        rintro e w1 ⟨g, rfl, htab, hg1, hB1⟩
        have HB1 := Lib.hid hB1; have HT1 := Lib.hid htab.read; clear hB1 htab
        go_wp2_with fail
        refine (refTexts_any A n c l _ (Cells.below HL.out HB1.out) HN.out HE.out).mono ?_
        rintro e w2 ⟨v, rfl, hown, hB2⟩
        obtain ⟨AT, cT, rfl, hcT, _⟩ := own_cells hown
        have HB2 := Lib.hid (HB1.out.trans (hB2.mono HB1.out.size)); have HCT := Lib.hid hcT; have HT2 := Lib.hid (HT1.out.below hB2); clear hB2 hcT hown
        go_wp2_with fail
        refine (refBits_any A2 m c2 bs _ (Cells.below HBS.out HB2.out) HR.out HM.out (by omega)).mono ?_
        rintro e w3 ⟨rfl, rfl⟩
        go_wp2_with fail
        refine (read_any A2 m c2 bs _ (Cells.below HBS.out HB2.out) HR.out HM.out (by omega)).mono ?_
        rintro e w3 ⟨rfl, hbits, hB3⟩
        have HT3 := Lib.hid (HT2.out.below hB3)
        have HCT3 := Lib.hid (show Strs w3 AT (Hf.texts l) from Cells.below HCT.out hB3)
        have HB3 := Lib.hid (HB2.out.trans (hB3.mono HB2.out.size)); have HBT := Lib.hid hbits
        have hsz : w.heap.size ≤ w2.heap.size := HB2.out.size
        clear hB3 hbits
        go_wp2_with fail
        go_loopw [8, 10] (fun s i wr => ∃ k pos : Nat, k ≤ 500 ∧ i = .int .i64 k ∧ s = str (Hf.bitStr bs pos) ∧ BitsAt wr w2.heap.size bs pos ∧ TabR wr g l ∧ Strs wr AT (Hf.texts l) ∧ Below w.heap.size w wr) (fun _ i _ => 500 - (intOf i).toNat)
        case atStart => exact ⟨0, 0, by omega, rfl, rfl, HBT.out, HT3.out, HCT3.out, HB3.out⟩
        case round =>
          obtain ⟨k, pos, hk, rfl, rfl, hbt, htr, hst, hB4⟩ := hrel
          have HBT := Lib.hid hbt; have HTR := Lib.hid htr; have HST := Lib.hid hst; have HB4 := Lib.hid hB4; clear hbt htr hst hB4
          by_cases hlt : k < 500
          · have hpos : pos ≤ 8 * bs.length := by obtain ⟨_, _, _, _, _, h, _⟩ := HBT.out; exact h
            have hnx := next_any g w2.heap.size l bs pos wr HTR.out HBT.out HE.out
            have hrf := fun wz (hz : Strs wz AT (Hf.texts l)) => refNext_any AT n cT (Hf.texts l) (Hf.bitStr bs pos) wz hz (by simp [Hf.texts, HN.out]) (by omega) (by rw [Hf.bitStr_len, HM.out]; omega)
            rw [Hf.ref_next l bs pos HE.out hpos] at hrf
            obtain ⟨R, hR⟩ : ∃ R, R = Hf.next l bs pos := ⟨_, rfl⟩
            rw [← hR] at hnx hrf
            clear hR
            obtain ⟨s, f, q⟩ := R
            have HNX := Lib.hid hnx; have HRF := Lib.hid hrf; clear hnx hrf
            go_wp2_with fail
            refine HNX.out.mono ?_
            rintro e w4 ⟨rfl, hbt2, hg4⟩
            have HBT2 := Lib.hid hbt2
            have HST2 := Lib.hid (HST.out.grown HBT.out hg4)
            have HTR2 := Lib.hid (HTR.out.grown HBT.out.blk.choose_spec hg4)
            have HB5 := Lib.hid (below_of_grown HB4.out hg4 hsz HB4.out.size)
            clear hbt2 hg4
            go_wp2_with fail
            refine (HRF.out _ HST2.out).mono ?_
            rintro e w5 ⟨rfl, nq, rfl⟩
            have hq : pos + q ≤ 8 * bs.length := by obtain ⟨_, _, _, _, _, h, _⟩ := HBT2.out; exact h
            by_cases hf : f = 0
            · subst hf
              have hqi : (q : Int) ≤ (Hf.bitStr bs pos).length := by rw [Hf.bitStr_len]; omega
              have hql : (Hf.bitStr bs pos).length ≤ 480 := by rw [Hf.bitStr_len, HM.out]; omega
              go_wp2_with fail
              go_roundw
              case rel =>
                refine ⟨k + 1, pos + q, by omega, by go_num, ?_, HBT2.out, HTR2.out, HST2.out, Below_drewN HB5.out nq⟩
                rw [← Hf.bitStr_drop]
                exact congrArg Value.string (str_drop _ q)
              case measure => simp [intOf]; omega
            · have hf1 : (f == 0) = false := by simpa using hf
              have hf2 : (f != 0) = true := by simpa using hf
              go_wp2_with fail
              refine (lives14 _).mono ?_
              rintro e w6 ⟨rfl, hB6⟩
              go_wp2_with fail
              go_ret
              exact ⟨rfl, (Below_drewN HB5.out nq).trans (hB6.mono HB5.out.size)⟩
          · obtain rfl : k = 500 := by omega
            go_wp2_with fail
            refine (lives14 _).mono ?_
            rintro e w6 ⟨rfl, hB6⟩
            go_wp2_with fail
            go_ret
            exact ⟨rfl, HB4.out.trans (hB6.mono HB4.out.size)⟩
      · obtain ⟨E, hE⟩ : ∃ E, E = Hf.err l := ⟨_, rfl⟩
        rw [← hE] at hs he
        have hE2 : (E != 0) = true := by simpa using he
        have HS := Lib.hid hs; clear hs hE he
        go_enter Try.func6, Try.ntmps6
        go_wp2_with fail
        refine HS.out.mono ?_
        rintro e w1 ⟨rfl, rfl⟩
        go_wp2_with fail
        refine (lives14 _).mono ?_
        rintro e w2 ⟨rfl, hB⟩
        go_wp2_with fail
        go_ret
        exact ⟨rfl, hB⟩
end Go.Proofs.Ytoejmjhfecppcaa
