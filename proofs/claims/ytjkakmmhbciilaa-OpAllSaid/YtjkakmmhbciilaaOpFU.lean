/- squealref07: words. -/
import Derived.Test.YtjkakmmhbciilaaOpFR
namespace Go.Proofs.Ytjkakmmhbciilaa
set_option linter.unusedSimpArgs false
set_option linter.unusedVariables false
open Go.RowKit
/-- a text's words -/
def wordsGo : List UInt8 → List (List UInt8) → List UInt8 → List (List UInt8)
  | [], l, w => l ++ [w]
  | ch :: r, l, w => if (ch = 32 ∧ l.length = 0) ∨ (ch = 44 ∧ 0 < l.length) then wordsGo r (l ++ [w]) [] else wordsGo r l (w ++ [ch])
def wordsS (s : List UInt8) : List (List UInt8) := wordsGo s [] []
def strs (l : List (List UInt8)) : List Value := l.map fun t => .string ⟨t.toArray⟩
theorem infoStrT : (Try.prog.info? 9).map (fun i => (i.zero, i.size, i.bytes)) = some (some (.string ⟨#[]⟩), 1, 16) := by kernel_rfl
theorem str_index (s : List UInt8) (k : Nat) (ch : UInt8) (h : s[k]? = some ch) (u : World) : (Instr.index 9 (.string ⟨s.toArray⟩) (.int .i64 (k : Int))).run Try.prog u = .ok (.int .u8 (ch.toNat : Nat)) u := by
  have hk : k < s.length := by
    rcases Nat.lt_or_ge k s.length with h1 | h1
    · exact h1
    · rw [List.getElem?_eq_none h1] at h; cases h
  have e : (({ data := s.toArray } : ByteArray)[k]?) = some ch := by
    rw [getElem?_pos (h := by simpa [ByteArray.size] using hk)]
    rw [List.getElem?_eq_getElem hk] at h
    injection h with h
    rw [← h]
    rfl
  simp [Instr.index, asIntOf, run_underlying Try.underlying9, e]
theorem own_sl {w : World} {base n : Nat} {e : TypeId} {v : Value} {xs : List Value} (h : w.ownsRow base e 1 v n xs) : ∃ (K : Option Addr) (c : Nat), v = .slice K n c := by
  rcases h.2 with ⟨rfl, rfl⟩ | ⟨g, c, cur, rfl, _, _, h2, _⟩
  · exact ⟨none, 0, rfl⟩
  · exact ⟨_, c, rfl⟩
/-- what holds ahead of each letter -/
def WdR (s : List UInt8) (R : List (List UInt8)) (w : World) (sl u : Value) (k : Nat) (wr : World) : Prop :=
  ∃ (l : List (List UInt8)) (t : List UInt8), u = .string ⟨t.toArray⟩ ∧ t.length ≤ k ∧ l.length ≤ k ∧ wr.ownsRow w.heap.size 9 1 sl l.length (strs l) ∧ Below w.heap.size w wr ∧ ((k ≤ s.length ∧ wordsGo (s.drop k) l t = R) ∨ (k = s.length + 1 ∧ l = R))
set_option maxRecDepth 100000 in
set_option maxHeartbeats 8000000 in
theorem words_any (s : List UInt8) (w : World) (hs : s.length ≤ 100) :
    Calls Try.prog 55 #[.string ⟨s.toArray⟩] w fun e w' => ∃ sl, e = .returned sl ∧ w'.ownsRow w.heap.size 9 1 sl (wordsS s).length (strs (wordsS s)) ∧ Below w.heap.size w w' := by
  obtain ⟨R, hR⟩ : ∃ R, R = wordsS s := ⟨_, rfl⟩
  rw [← hR]
  have HR := Lib.hid hR; clear hR
  go_enter Try.func55, Try.ntmps55
  go_wp2_with fail
  go_loopw [3, 4, 5] (fun a u i wr => ∃ k : Nat, i = .int .i64 k ∧ WdR s R w a u k wr) (fun _ _ i _ => s.length + 2 - (intOf i).toNat)
  case atStart => exact ⟨0, rfl, [], [], rfl, Nat.le_refl _, Nat.le_refl _, World.ownsRow_nil _ _ _ _, Below.refl _ _, .inl ⟨by omega, HR.out.symm⟩⟩
  case round =>
    obtain ⟨k, rfl, l, t, rfl, ht, hl, ho, hb, hc⟩ := hrel
    obtain ⟨K, cv, rfl⟩ := own_sl ho
    obtain ⟨m, hm⟩ : ∃ m, m = l.length := ⟨_, rfl⟩
    have HM := Lib.hid hm
    rw [← hm] at ho hl ⊢
    have HO := Lib.hid ho
    have HB := Lib.hid hb
    rcases hc with ⟨hk, hw⟩ | ⟨rfl, hw⟩
    · by_cases hkl : k = s.length
      · subst hkl
        have HW : Hid (l ++ [t] = R) := by
          rw [List.drop_length] at hw
          exact hw
        clear hw ho hb hm hk
        go_wp2_with (first
          | (at_builtin; refine wpList_appL wr (by rfl) (.tmp 38) (.tmp 40) 52 (by rfl) w.heap.size 9 (.string ⟨#[]⟩) 1 16 Try.underlying52 infoStrT rfl (by decide) (.slice K m cv) m (strs l) (by rfl) HO.out _ 1 (by rfl) (by rfl) (by simp [Value.oneCell']) (by decide) (by omega) (by decide) HB.out.size ?_; intro g2 c2 w2 ho2 hg2 hx2; have HO2 := Lib.hid ho2; have HB2 : Hid (Below w.heap.size w w2) := Lib.hid (Below_own HB.out HO.out hg2 (Nat.le_refl _) HB.out.size); clear ho2 hg2 hx2))
        go_roundw
        case rel =>
          refine ⟨s.length + 1, by go_num, R, [], rfl, by simp, ?_, ?_, HB2.out, .inr ⟨rfl, rfl⟩⟩
          · rw [← HW.out, List.length_append, ← HM.out]; simp; try omega
          · have := HO2.out
            rw [← HW.out, List.length_append, ← HM.out, strs, List.map_append]
            exact this
        case measure => simp [intOf]
      · obtain ⟨ch, hch⟩ : ∃ ch, s[k]? = some ch := ⟨_, List.getElem?_eq_getElem (by omega)⟩
        have hix := str_index s k ch hch
        have hdr : s.drop k = ch :: s.drop (k + 1) := by
          rw [List.drop_eq_getElem_cons (by omega)]
          rw [List.getElem?_eq_getElem (by omega)] at hch
          injection hch with hch
          rw [hch]
        rw [hdr, wordsGo] at hw
        have hk2 : k < s.length := by omega
        have hxe : (({ data := s.toArray } : ByteArray).extract k (k + 1)) = ⟨#[ch]⟩ := by
          rw [ByteArray.ext_iff]
          simp [ByteArray.data_extract, hdr]
        have hke : ((k : Int) == (s.length : Int)) = false := by simp; omega
        have hks : (k : Int) < s.length := by omega
        have hk3 : (k : Int) + 1 ≤ s.length := by omega
        have tz : ¬ 9223372036854775807 < t.length + 1 := by omega
        by_cases hc : (ch = 32 ∧ l.length = 0) ∨ (ch = 44 ∧ 0 < l.length)
        · rw [if_pos hc] at hw
          rcases hc with ⟨rfl, h0⟩ | ⟨rfl, h0⟩
          · have hm1 : ((m : Int) == 0) = true := by simp; omega
            have hm0 : ¬ ((0 : Int) < m) := by omega
            have HW : Hid (wordsGo (s.drop (k + 1)) (l ++ [t]) [] = R) := hw
            clear hw ho hb hm hch hdr
            go_wp2_with (first
              | (at_builtin; refine wpList_appL wr (by rfl) (.tmp 38) (.tmp 40) 52 (by rfl) w.heap.size 9 (.string ⟨#[]⟩) 1 16 Try.underlying52 infoStrT rfl (by decide) (.slice K m cv) m (strs l) (by rfl) HO.out _ 1 (by rfl) (by rfl) (by simp [Value.oneCell']) (by decide) (by omega) (by decide) HB.out.size ?_; intro g2 c2 w2 ho2 hg2 hx2; have HO2 := Lib.hid ho2; have HB2 : Hid (Below w.heap.size w w2) := Lib.hid (Below_own HB.out HO.out hg2 (Nat.le_refl _) HB.out.size); clear ho2 hg2 hx2))
            go_roundw
            case rel =>
              refine ⟨k + 1, by go_num, l ++ [t], [], rfl, by simp, by rw [List.length_append, ← HM.out]; simp; omega, ?_, HB2.out, .inl ⟨by omega, HW.out⟩⟩
              have := HO2.out
              rw [List.length_append, ← HM.out, strs, List.map_append]
              exact this
            case measure => simp [intOf]; omega
          · have hm0 : (0 : Int) < m := by omega
            have hm1 : ((m : Int) == 0) = false := by simp; omega
            have HW : Hid (wordsGo (s.drop (k + 1)) (l ++ [t]) [] = R) := hw
            clear hw ho hb hm hch hdr
            go_wp2_with (first
              | (at_builtin; refine wpList_appL wr (by rfl) (.tmp 38) (.tmp 40) 52 (by rfl) w.heap.size 9 (.string ⟨#[]⟩) 1 16 Try.underlying52 infoStrT rfl (by decide) (.slice K m cv) m (strs l) (by rfl) HO.out _ 1 (by rfl) (by rfl) (by simp [Value.oneCell']) (by decide) (by omega) (by decide) HB.out.size ?_; intro g2 c2 w2 ho2 hg2 hx2; have HO2 := Lib.hid ho2; have HB2 : Hid (Below w.heap.size w w2) := Lib.hid (Below_own HB.out HO.out hg2 (Nat.le_refl _) HB.out.size); clear ho2 hg2 hx2))
            go_roundw
            case rel =>
              refine ⟨k + 1, by go_num, l ++ [t], [], rfl, by simp, by rw [List.length_append, ← HM.out]; simp; omega, ?_, HB2.out, .inl ⟨by omega, HW.out⟩⟩
              have := HO2.out
              rw [List.length_append, ← HM.out, strs, List.map_append]
              exact this
            case measure => simp [intOf]; omega
        · rw [if_neg hc] at hw
          by_cases h32 : ch = 32
          · have hm1 : ((m : Int) == 0) = false := by
              have : ¬ l.length = 0 := fun e => hc (.inl ⟨h32, e⟩)
              simp; omega
            have hm0 : (0 : Int) < m := by
              have : ¬ l.length = 0 := fun e => hc (.inl ⟨h32, e⟩)
              omega
            have n32 : (((ch.toNat : Nat) : Int) == 32) = true := by rw [h32]; rfl
            have n44 : (((ch.toNat : Nat) : Int) == 44) = false := by rw [h32]; rfl
            clear hc h32
            have HW : Hid (wordsGo (s.drop (k + 1)) l (t ++ [ch]) = R) := hw
            clear hw ho hb hm hch hdr
            go_wp2_with fail
            go_roundw
            case rel =>
              refine ⟨k + 1, by go_num, l, t ++ [ch], ?_, by simp; omega, by rw [← HM.out]; omega, by rw [← HM.out]; exact HO.out, HB.out, .inl ⟨by omega, HW.out⟩⟩
              exact congrArg Value.string (app_data t [ch])
            case measure => simp [intOf]; omega
          · have n32 : (((ch.toNat : Nat) : Int) == 32) = false := by
              simp only [beq_eq_false_iff_ne]
              intro e
              exact h32 (UInt8.toNat.inj (by have : ch.toNat = 32 := by omega
                                             rw [this]; rfl))
            by_cases h44 : ch = 44
            · have n44 : (((ch.toNat : Nat) : Int) == 44) = true := by rw [h44]; rfl
              have hm0 : ¬ ((0 : Int) < m) := by
                have : ¬ 0 < l.length := fun e => hc (.inr ⟨h44, e⟩)
                omega
              clear hc h44 h32
              have HW : Hid (wordsGo (s.drop (k + 1)) l (t ++ [ch]) = R) := hw
              clear hw ho hb hm hch hdr
              go_wp2_with fail
              go_roundw
              case rel =>
                refine ⟨k + 1, by go_num, l, t ++ [ch], ?_, by simp; omega, by rw [← HM.out]; omega, by rw [← HM.out]; exact HO.out, HB.out, .inl ⟨by omega, HW.out⟩⟩
                exact congrArg Value.string (app_data t [ch])
              case measure => simp [intOf]; omega
            · have n44 : (((ch.toNat : Nat) : Int) == 44) = false := by
                simp only [beq_eq_false_iff_ne]
                intro e
                exact h44 (UInt8.toNat.inj (by have : ch.toNat = 44 := by omega
                                               rw [this]; rfl))
              clear hc h44 h32
              have HW : Hid (wordsGo (s.drop (k + 1)) l (t ++ [ch]) = R) := hw
              clear hw ho hb hm hch hdr
              go_wp2_with fail
              go_roundw
              case rel =>
                refine ⟨k + 1, by go_num, l, t ++ [ch], ?_, by simp; omega, by rw [← HM.out]; omega, by rw [← HM.out]; exact HO.out, HB.out, .inl ⟨by omega, HW.out⟩⟩
                exact congrArg Value.string (app_data t [ch])
              case measure => simp [intOf]; omega
    · have HW := Lib.hid hw
      clear hw ho hb
      go_wp2_with fail
      go_ret
      refine ⟨_, rfl, ?_, HB.out⟩
      rw [← HW.out, ← HM.out]
      exact HO.out
end Go.Proofs.Ytjkakmmhbciilaa
