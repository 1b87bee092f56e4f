/- The contract of the reference's Sound. -/
import Derived.Test.YtoejmjhfecppcaaHuffD
namespace Go.Proofs.Ytoejmjhfecppcaa
open Go.RowKit
namespace Hf
/-- the room that lengths up to j take, in units of length j -/
def kraft (j : Nat) : List Int → Int
  | [] => 0
  | x :: l => (if 0 < x ∧ x ≤ j then 2 ^ (j - x.toNat) else 0) + kraft j l
theorem kraft_append (j : Nat) (l m : List Int) : kraft j (l ++ m) = kraft j l + kraft j m := by
  induction l with
  | nil => simp [kraft]
  | cons x l ih => simp only [List.cons_append, kraft, ih]; omega
theorem cnt_cons (x : Int) (l : List Int) (k : Nat) : cnt (x :: l) k = (if x = k then 1 else 0) + cnt l k := by
  unfold cnt
  rw [List.filter_cons]
  by_cases h : x = (k : Int)
  · simp [h]; omega
  · simp [h]
theorem kraft_succ (j : Nat) (l : List Int) : kraft (j + 1) l = 2 * kraft j l + cnt l (j + 1) := by
  induction l with
  | nil => simp [kraft, cnt]
  | cons x l ih =>
    rw [kraft, kraft, cnt_cons, ih]
    by_cases h0 : 0 < x
    · by_cases h1 : x ≤ j
      · rw [if_pos ⟨h0, by omega⟩, if_pos ⟨h0, h1⟩, if_neg (by omega), show j + 1 - x.toNat = (j - x.toNat) + 1 from by omega, Int.pow_succ]
        omega
      · by_cases h2 : x = ((j + 1 : Nat) : Int)
        · rw [if_pos ⟨h0, by omega⟩, if_neg (by omega), if_pos h2, show j + 1 - x.toNat = 0 from by omega]
          simp; omega
        · rw [if_neg (by omega), if_neg (by omega), if_neg h2]; omega
    · rw [if_neg (by omega), if_neg (by omega), if_neg (by omega)]; omega
theorem room_kraft (l : List Int) (j : Nat) : room l j = 2 ^ j - kraft j l := by
  induction j with
  | zero =>
    have : kraft 0 l = 0 := by
      induction l with
      | nil => rfl
      | cons x l ih => rw [kraft, ih, if_neg (by omega)]; rfl
    rw [this]; simp [room]
  | succ j ih => rw [room, ih, kraft_succ, Int.pow_succ]; omega
/-- how many lengths are above nought -/
def pos : List Int → Int
  | [] => 0
  | x :: l => (if 0 < x then 1 else 0) + pos l
theorem pos_append (l m : List Int) : pos (l ++ m) = pos l + pos m := by
  induction l with
  | nil => simp [pos]
  | cons x l ih => simp only [List.cons_append, pos, ih]; omega
theorem pos_codes (l : List Int) (h : inRange l) : pos l = codes l := by
  unfold codes
  induction l with
  | nil => simp [pos, cnt]
  | cons x l ih =>
    have h1 := h x (by simp)
    have h2 := ih (fun y hy => h y (by simp [hy]))
    rw [pos, h2, cnt_cons, List.length_cons]
    by_cases h3 : x = 0
    · subst h3; simp; omega
    · rw [if_pos (by omega), if_neg (by omega)]; omega
theorem pos_range (l : List Int) : 0 ≤ pos l ∧ pos l ≤ l.length := by
  induction l with
  | nil => simp [pos]
  | cons x l ih => simp only [pos, List.length_cons]; split <;> omega
theorem pow15 (x : Int) (h : 0 < x) (h2 : x ≤ 15) : (1 : Int) ≤ 2 ^ (15 - x.toNat) ∧ (2 : Int) ^ (15 - x.toNat) ≤ 16384 := by
  have h1 : (2 : Nat) ^ (15 - x.toNat) ≤ 2 ^ 14 := Nat.pow_le_pow_right (by omega) (by omega)
  have h3 : (1 : Nat) ≤ 2 ^ (15 - x.toNat) := Nat.one_le_two_pow
  have h4 : ((2 ^ (15 - x.toNat) : Nat) : Int) ≤ ((2 ^ 14 : Nat) : Int) := by exact_mod_cast h1
  have h5 : ((1 : Nat) : Int) ≤ ((2 ^ (15 - x.toNat) : Nat) : Int) := by exact_mod_cast h3
  simp at h4 h5
  exact ⟨by omega, h4⟩
theorem kraft_range (l : List Int) : 0 ≤ kraft 15 l ∧ kraft 15 l ≤ 16384 * pos l := by
  induction l with
  | nil => simp [kraft, pos]
  | cons x l ih =>
    rw [kraft, pos]
    by_cases h : 0 < x ∧ x ≤ 15
    · have := pow15 x h.1 h.2
      have e : ((15 : Nat) : Int) = 15 := rfl
      rw [e, if_pos h, if_pos h.1]; omega
    · have e : ((15 : Nat) : Int) = 15 := rfl
      rw [e, if_neg h]; split <;> omega
theorem err_sound (l : List Int) (h : inRange l) (h3 : l.length ≤ 320) : err l = if kraft 15 l = 32768 ∨ pos l = 0 ∨ (pos l = 1 ∧ cnt l 1 = 1) then 0 else 4 := by
  have hr := room_kraft l 15
  have hk := kraft_range l
  have hp := pos_range l
  rw [show (2 : Int) ^ 15 = 32768 from rfl] at hr
  unfold err
  rw [if_neg (by omega), if_neg (fun x => x h), ← pos_codes l h, hr]
  by_cases c1 : kraft 15 l = 32768
  · rw [if_neg (by omega), if_neg (by omega), if_pos (.inl c1)]
  · by_cases c2 : pos l = 0
    · rw [if_neg (by omega), if_neg (by omega), if_pos (.inr (.inl c2))]
    · by_cases c3 : pos l = 1 ∧ cnt l 1 = 1
      · rw [if_neg (by omega), if_neg (by omega), if_pos (.inr (.inr c3))]
      · have hc : ¬ (kraft 15 l = 32768 ∨ pos l = 0 ∨ (pos l = 1 ∧ cnt l 1 = 1)) := fun c => by
          rcases c with c | c | c
          · exact c1 c
          · exact c2 c
          · exact c3 c
        by_cases c4 : 32768 - kraft 15 l < 0
        · rw [if_pos c4, if_neg hc]
        · rw [if_neg c4, if_pos, if_neg hc]
          refine ⟨by omega, by omega, ?_⟩
          by_cases c5 : pos l = 1
          · exact .inr fun c => c3 ⟨c5, c⟩
          · exact .inl (by omega)
end Hf

set_option maxHeartbeats 4000000 in
theorem sound_any (A : Option Addr) (n c : Nat) (l : List Int) (w : World) (hl : Ints w A .i64 l) (hn : l.length = n) (hn2 : n ≤ 9223372036854775807) :
    Calls Try.prog 19 #[.slice A n c] w fun e w' => e = .returned (.int .i64 (Hf.err l)) ∧ w = w' := by
  obtain ⟨E, hE⟩ : ∃ E, E = Hf.err l := ⟨_, rfl⟩
  rw [← hE]
  have HE := Lib.hid hE
  have HN := Lib.hid hn; clear hn hE
  by_cases h320 : 320 < n
  · have hE1 : E = 1 := by rw [HE.out]; unfold Hf.err; rw [if_pos (by rw [HN.out]; exact h320)]
    have HE1 := Lib.hid hE1; clear hE1
    go_enter Try.func19, Try.ntmps19
    go_wp2_with fail
    go_ret
    exact ⟨by rw [HE1.out]; rfl, rfl⟩
  · have hd : decide ((320 : Int) < n) = false := by simp; omega
    have HL := Lib.hid hl; clear hl
    go_enter Try.func19, Try.ntmps19
    go_wp2_with fail
    go_loop [3, 4, 5, 6] (fun s c o i => ∃ k : Nat, k ≤ n ∧ i = .int .i64 k ∧ (∃ S : Int, s = .int .i64 S ∧ Hid (S = Hf.kraft 15 (l.take k)) ∧ 0 ≤ S ∧ S ≤ 16384 * k) ∧ (∃ C : Int, c = .int .i64 C ∧ Hid (C = Hf.pos (l.take k)) ∧ 0 ≤ C ∧ C ≤ k) ∧ (∃ O : Int, o = .int .i64 O ∧ Hid (O = Hf.cnt (l.take k) 1) ∧ 0 ≤ O ∧ O ≤ k) ∧ Hid (Hf.inRange (l.take k))) (fun _ _ _ i => n - (intOf i).toNat)
    case atStart => exact ⟨0, by omega, rfl, ⟨0, rfl, rfl, by omega, by omega⟩, ⟨0, rfl, rfl, by omega, by omega⟩, ⟨0, rfl, rfl, by omega, by omega⟩, fun x hx => by cases hx⟩
    case round =>
      obtain ⟨k, hk, rfl, ⟨S, rfl, HS, hs0, hs1⟩, ⟨C, rfl, HC, hc0, hc1⟩, ⟨O, rfl, HO, ho0, ho1⟩, HIN⟩ := hrel
      by_cases hlt : k < n
      · obtain ⟨x, hx⟩ : ∃ x, l[k]? = some x := ⟨_, List.getElem?_eq_getElem (by rw [HN.out]; exact hlt)⟩
        obtain ⟨ad, rfl, hcx⟩ := HL.out k (.int .i64 x) (by simp [hx])
        have hts : l.take (k + 1) = l.take k ++ [x] := by rw [List.take_add_one, hx]; rfl
        have HX := Lib.hid hx; have HTS := Lib.hid hts; clear hx hts
        by_cases hr : 0 ≤ x ∧ x ≤ 15
        · have HIN2 : Hid (Hf.inRange (l.take (k + 1))) := fun y hy => by
            rw [HTS.out] at hy
            rcases List.mem_append.1 hy with h | h
            · exact HIN.out y h
            · simp at h; omega
          obtain ⟨hr0, hr1⟩ := hr
          by_cases hx0 : 0 < x
          · go_wp2_with fail
            go_loop [7, 8] (fun v i => ∃ j : Nat, (j : Int) ≤ x ∧ i = .int .i64 j ∧ v = .int .i64 (2 ^ (15 - j)) ) (fun _ i => x.toNat - (intOf i).toNat)
            case atStart => exact ⟨0, by omega, rfl, rfl⟩
            case round =>
              obtain ⟨j, hj, rfl, rfl⟩ := hrel
              have hp0 : (1 : Int) ≤ 2 ^ (15 - j) ∧ (2 : Int) ^ (15 - j) ≤ 32768 := by
                have h1 : (2 : Nat) ^ (15 - j) ≤ 2 ^ 15 := Nat.pow_le_pow_right (by omega) (by omega)
                have h3 : (1 : Nat) ≤ 2 ^ (15 - j) := Nat.one_le_two_pow
                have h4 : ((2 ^ (15 - j) : Nat) : Int) ≤ ((2 ^ 15 : Nat) : Int) := by exact_mod_cast h1
                have h5 : ((1 : Nat) : Int) ≤ ((2 ^ (15 - j) : Nat) : Int) := by exact_mod_cast h3
                simp at h4 h5
                exact ⟨by omega, h4⟩
              obtain ⟨V, hV⟩ : ∃ V : Int, V = 2 ^ (15 - j) := ⟨_, rfl⟩
              rw [← hV] at hp0 ⊢
              obtain ⟨hp1, hp2⟩ := hp0
              have HV := Lib.hid hV; clear hV
              by_cases hjx : (j : Int) < x
              · go_wp2_with fail
                go_round
                case rel => exact ⟨j + 1, by omega, by go_num, by
                  rw [HV.out, show 15 - j = (15 - (j + 1)) + 1 from by omega, Int.pow_succ]; congr 1; omega⟩
                case measure => simp [intOf]; omega
              · have hV2 : Hid (V = 2 ^ (15 - x.toNat)) := by show _ = _; rw [HV.out]; congr 1; omega
                have hV3 : V ≤ 16384 := by rw [hV2.out]; exact (Hf.pow15 x hx0 hr1).2
                have hS2 : Hid (S + V = Hf.kraft 15 (l.take (k + 1))) := by
                  show _ = _
                  rw [HTS.out, Hf.kraft_append, ← HS.out, Hf.kraft, if_pos ⟨hx0, by omega⟩, hV2.out]; simp [Hf.kraft]
                have hC2 : Hid (C + 1 = Hf.pos (l.take (k + 1))) := by
                  show _ = _
                  rw [HTS.out, Hf.pos_append, ← HC.out, Hf.pos, if_pos hx0]; simp [Hf.pos]
                by_cases hx1 : x = 1
                · have hxb : (x == 1) = true := by simpa using hx1
                  have hO2 : Hid (O + 1 = Hf.cnt (l.take (k + 1)) 1) := by
                    show _ = _
                    rw [HTS.out, Hf.cnt_snoc, ← HO.out, if_pos (show x = ((1 : Nat) : Int) from hx1)]
                  clear hx1
                  go_wp2_with fail
                  go_round
                  case rel => exact ⟨k + 1, by omega, by go_num, ⟨_, rfl, hS2, by omega, by omega⟩, ⟨_, rfl, hC2, by omega, by omega⟩, ⟨_, rfl, hO2, by omega, by omega⟩, HIN2⟩
                  case measure => simp [intOf]; omega
                · have hxb : (x == 1) = false := by simpa using hx1
                  have hO2 : Hid (O = Hf.cnt (l.take (k + 1)) 1) := by
                    show _ = _
                    rw [HTS.out, Hf.cnt_snoc, ← HO.out, if_neg (show ¬ x = ((1 : Nat) : Int) from hx1)]; omega
                  clear hx1
                  go_wp2_with fail
                  go_round
                  case rel => exact ⟨k + 1, by omega, by go_num, ⟨_, rfl, hS2, by omega, by omega⟩, ⟨_, rfl, hC2, by omega, by omega⟩, ⟨_, rfl, hO2, by omega, by omega⟩, HIN2⟩
                  case measure => simp [intOf]; omega
          · have hS2 : Hid (S = Hf.kraft 15 (l.take (k + 1))) := by
              show _ = _
              rw [HTS.out, Hf.kraft_append, ← HS.out, Hf.kraft, if_neg (by omega)]; simp [Hf.kraft]
            have hC2 : Hid (C = Hf.pos (l.take (k + 1))) := by
              show _ = _
              rw [HTS.out, Hf.pos_append, ← HC.out, Hf.pos, if_neg hx0]; simp [Hf.pos]
            have hO2 : Hid (O = Hf.cnt (l.take (k + 1)) 1) := by
              show _ = _
              rw [HTS.out, Hf.cnt_snoc, ← HO.out, if_neg (by omega)]; omega
            have hxb : (x == 1) = false := by simp; omega
            go_wp2_with fail
            go_round
            case rel => exact ⟨k + 1, by omega, by go_num, ⟨_, rfl, hS2, by omega, by omega⟩, ⟨_, rfl, hC2, by omega, by omega⟩, ⟨_, rfl, hO2, by omega, by omega⟩, HIN2⟩
            case measure => simp [intOf]; omega
        · have hE1 : E = 1 := by
            rw [HE.out]; unfold Hf.err; rw [if_neg (by have := HN.out; omega), if_pos (fun h => hr (h x (List.mem_of_getElem? HX.out)))]
          have HE1 := Lib.hid hE1; clear hE1
          by_cases hx0 : x < 0
          all_goals
            go_wp2_with fail
            go_ret
            exact ⟨by rw [HE1.out]; rfl, rfl⟩
      · have hkn : l.take k = l := List.take_of_length_le (by rw [HN.out]; omega)
        rw [hkn] at HS HC HO HIN
        have hfin := Hf.err_sound l HIN.out (by rw [HN.out]; omega)
        rw [← HE.out, ← HS.out, ← HC.out, ← HO.out] at hfin
        have HF := Lib.hid hfin; clear hfin hkn
        have key : (Hid (E = 0) ∧ ((S == 32768) = true ∨ (S == 32768) = false ∧ ((C == 0) = true ∨ (C == 0) = false ∧ (C == 1) = true ∧ (O == 1) = true))) ∨ (Hid (E = 4) ∧ (S == 32768) = false ∧ (C == 0) = false ∧ ((C == 1) = false ∨ (C == 1) = true ∧ (O == 1) = false)) := by
          by_cases c : S = 32768 ∨ C = 0 ∨ (C = 1 ∧ O = 1)
          · refine .inl ⟨by show _ = _; rw [HF.out, if_pos c], ?_⟩
            by_cases c1 : S = 32768
            · exact .inl (by simpa using c1)
            · refine .inr ⟨by simpa using c1, ?_⟩
              by_cases c2 : C = 0
              · exact .inl (by simpa using c2)
              · have c3 : C = 1 ∧ O = 1 := by rcases c with c | c | c <;> first | exact absurd c c1 | exact absurd c c2 | exact c
                exact .inr ⟨by simpa using c2, by simpa using c3.1, by simpa using c3.2⟩
          · refine .inr ⟨by show _ = _; rw [HF.out, if_neg c], ?_, ?_, ?_⟩
            · simp; omega
            · simp; omega
            · by_cases c1 : C = 1
              · exact .inr ⟨by simpa using c1, by simp; omega⟩
              · exact .inl (by simpa using c1)
        rcases key with ⟨HEE, c1 | ⟨c1, c2 | ⟨c2, c3, c4⟩⟩⟩ | ⟨HEE, c1, c2, c3 | ⟨c3, c4⟩⟩
        all_goals
          go_wp2_with fail
          go_ret
          exact ⟨by rw [HEE.out]; rfl, rfl⟩
end Go.Proofs.Ytoejmjhfecppcaa
