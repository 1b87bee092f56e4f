/- squealref07: indexed. -/
import Derived.Test.YtjkakmmhbciilaaOpFU
import Derived.Test.YtjkakmmhbciilaaOpFS
namespace Go.Proofs.Ytjkakmmhbciilaa
set_option linter.unusedSimpArgs false
set_option linter.unusedVariables false
open Go.RowKit Go.Sort
/-- a word with an index -/
def wordX (nm w : List UInt8) : List UInt8 := if w = [104, 108] then nm else if w = [104] then nm ++ w else if w = [108] then nm ++ w else w
/-- words put together, from number k on -/
def joinGo (nm : List UInt8) : List (List UInt8) → Nat → List UInt8 → List UInt8
  | [], _, out => out
  | w :: r, k, out => joinGo nm r (k + 1) (if k = 1 then out ++ [32] ++ wordX nm w else out ++ [44] ++ wordX nm w)
/-- a text with an index -/
def indexedS (t : List UInt8) (ix c d : Int) : List UInt8 :=
  if Mi.hasS t [40, 104, 108, 41] = true then swapS t [40, 104, 108, 41] (awayS ix d)
  else if c = 235 then t
  else joinGo (ixn ix) ((wordsS t).drop 1) 1 ((wordsS t).getD 0 [])
theorem wordsGo_lens : ∀ (s : List UInt8) (l : List (List UInt8)) (t : List UInt8) (n : Nat), (∀ x ∈ l, x.length ≤ n) → t.length + s.length ≤ n → (∀ x ∈ wordsGo s l t, x.length ≤ n) ∧ 0 < (wordsGo s l t).length ∧ (wordsGo s l t).length ≤ l.length + s.length + 1
  | [], l, t, n, hl, ht => by
    refine ⟨fun x hx => ?_, by simp [wordsGo], by simp [wordsGo]⟩
    simp only [wordsGo, List.mem_append, List.mem_singleton] at hx
    rcases hx with hx | rfl
    · exact hl x hx
    · simpa using ht
  | ch :: r, l, t, n, hl, ht => by
    rw [wordsGo]
    simp only [List.length_cons] at ht
    split
    · have h := wordsGo_lens r (l ++ [t]) [] n (fun x hx => by
        rcases List.mem_append.1 hx with hx | hx
        · exact hl x hx
        · rw [List.mem_singleton] at hx; rw [hx]; omega) (by simp; omega)
      refine ⟨h.1, h.2.1, Nat.le_trans h.2.2 (by simp; try omega)⟩
    · have h := wordsGo_lens r l (t ++ [ch]) n hl (by simp; omega)
      exact ⟨h.1, h.2.1, Nat.le_trans h.2.2 (by simp; try omega)⟩
theorem own_slice6 {w : World} {base n : Nat} {e : TypeId} {v : Value} {xs : List Value} (h : w.ownsRow base e 1 v n xs) (h0 : 0 < n) : ∃ (g c : Nat), v = .slice (some ⟨g, 0, none⟩) n c ∧ n ≤ c ∧ c ≤ 9223372036854775807 ∧ Cells w (some ⟨g, 0, none⟩) xs := by
  rcases h.2 with ⟨rfl, rfl⟩ | ⟨g, c, cur, rfl, _, _, h2, h3, _⟩
  · omega
  · exact ⟨g, c, rfl, h2, Nat.le_trans h3 (by decide), fun i v hi => ⟨_, rfl, h.cells (g := g) rfl i v hi⟩⟩
theorem str_cell {w : World} {g : Nat} {l : List (List UInt8)} {i : Nat} {x : List UInt8} (h : Cells w (some ⟨g, 0, none⟩) (strs l)) (hx : l[i]? = some x) : w.cell? ⟨g, i, none⟩ = some (.string ⟨x.toArray⟩) := by
  obtain ⟨ad, e, hc⟩ := h i (.string ⟨x.toArray⟩) (by unfold strs; rw [List.getElem?_map, hx]; rfl)
  injection e with e
  subst e
  rw [← hc]
  have hadd : (⟨g, 0, none⟩ : Addr).add i = ⟨g, i, none⟩ := by unfold Addr.add; split <;> simp_all
  rw [hadd]
theorem wordX_len (nm w : List UInt8) : (wordX nm w).length ≤ nm.length + w.length := by
  unfold wordX
  split
  · omega
  · split
    · simp
    · split
      · simp
      · omega
set_option maxRecDepth 100000 in
set_option maxHeartbeats 16000000 in
theorem indexed_any (t : List UInt8) (s ix c d n ln : Int) (hd : B8 d) (tl : t.length ≤ 20) :
    Gives 29 #[.string ⟨t.toArray⟩, .agg #[.int .i64 s, .int .i64 ix, .int .u8 c, .int .u8 d, .int .u16 n, .int .i64 ln]] (.string ⟨(indexedS t ix c d).toArray⟩) := by
  intro w
  have HH := Lib.hid (fun w => has_any t [40, 104, 108, 41] w (by omega) (by decide) (by decide))
  have HB0 := Lib.hid (Blk.new w 29 [.int .i64 s, .int .i64 ix, .int .u8 c, .int .u8 d, .int .u16 n, .int .i64 ln])
  cases hh : Mi.hasS t [40, 104, 108, 41] with
  | true =>
    have HR : Hid (indexedS t ix c d = swapS t [40, 104, 108, 41] (awayS ix d)) := by show _ = _; unfold indexedS; rw [if_pos hh]
    rw [hh] at HH
    have al := awayS_len ix d
    have HA := Lib.hid (fun w => away7_any ix d w hd)
    obtain ⟨A, hA⟩ : ∃ A, A = awayS ix d := ⟨_, rfl⟩
    rw [← hA] at HR al HA
    have HS := Lib.hid (fun w => swap_any t [40, 104, 108, 41] A w (by omega) (by decide) (by omega) (by decide))
    obtain ⟨R, hRR⟩ : ∃ R, R = swapS t [40, 104, 108, 41] A := ⟨_, rfl⟩
    rw [← hRR] at HR HS
    clear hh hA hRR
    go_enter Try.func29, Try.ntmps29
    go_wp2_with (first
      | (go_at_call 38; refine (HH.out _).mono ?_; rintro e w' ⟨rfl, rfl⟩)
      | (go_at_call 34; refine (HA.out _).mono ?_; rintro e w' ⟨rfl, rfl⟩)
      | (go_at_call 54; refine (HS.out _).mono ?_; rintro e w1 ⟨rfl, hb1⟩))
    go_ret
    exact ⟨by rw [HR.out]; rfl, (below_box _ _).trans (hb1.mono (by simp))⟩
  | false =>
    rw [hh] at HH
    by_cases hc : c = 235
    · have HR : Hid (indexedS t ix c d = t) := by show _ = _; unfold indexedS; rw [if_neg (by rw [hh]; decide), if_pos hc]
      subst hc
      clear hh
      go_enter Try.func29, Try.ntmps29
      go_wp2_with (first
        | (go_at_call 38; refine (HH.out _).mono ?_; rintro e w' ⟨rfl, rfl⟩))
      go_ret
      exact ⟨by rw [HR.out]; rfl, below_box _ _⟩
    · have hcb : (c == 235) = false := by simp [hc]
      obtain ⟨R, hRR⟩ : ∃ R, R = indexedS t ix c d := ⟨_, rfl⟩
      have hR : R = joinGo (ixn ix) ((wordsS t).drop 1) 1 ((wordsS t).getD 0 []) := by rw [hRR]; unfold indexedS; rw [if_neg (by rw [hh]; decide), if_neg hc]
      rw [← hRR]
      have HW := Lib.hid (fun w => words_any t w (by omega))
      obtain ⟨hwl, hw0, hwn⟩ := wordsGo_lens t [] [] 20 (by simp) (by simpa using tl)
      obtain ⟨l, hl⟩ : ∃ l, l = wordsS t := ⟨_, rfl⟩
      have hl' : l = wordsGo t [] [] := hl
      rw [← hl'] at hwl hw0 hwn
      rw [← hl] at hR HW
      have hnl : l.length ≤ 21 := by simp at hwn; omega
      have HI := Lib.hid (fun w => name7_any ix w)
      have il := ixn_len ix
      obtain ⟨nm, hnm⟩ : ∃ nm, nm = ixn ix := ⟨_, rfl⟩
      rw [← hnm] at HI il hR
      have nm2 : (nm == [104]) = false := by
        rw [beq_eq_false_iff_ne]; intro e; rw [e] at il; simp at il
      have nm3 : (nm == [108]) = false := by
        rw [beq_eq_false_iff_ne]; intro e; rw [e] at il; simp at il
      have HR := Lib.hid hR
      have HWL := Lib.hid hwl
      obtain ⟨m, hm⟩ : ∃ m, m = l.length := ⟨_, rfl⟩
      have HM := Lib.hid hm
      rw [← hm] at HW hw0 hnl
      obtain ⟨x0, hx0⟩ : ∃ x0, l[0]? = some x0 := ⟨_, List.getElem?_eq_getElem (by omega)⟩
      have HX0 := Lib.hid hx0
      have x0l : x0.length ≤ 20 := hwl _ (List.mem_of_getElem? hx0)
      have H0 : Hid (l.getD 0 [] = x0) := by show _ = _; rw [List.getD_eq_getElem?_getD, hx0]; rfl
      clear hh hl hl' hnm hR hRR hwl hwn hx0 hm hc
      go_enter Try.func29, Try.ntmps29
      go_wp2_with (first
        | (go_at_call 38; refine (HH.out _).mono ?_; rintro e w' ⟨rfl, rfl⟩)
        | (go_at_call 55; refine (HW.out _).mono ?_; rintro e w1 ⟨sl, rfl, ho, hb1⟩; obtain ⟨g, cv, rfl, hcv, hcv2, hcl⟩ := own_slice6 ho hw0; have hx := str_cell hcl HX0.out; have HCL := Lib.hid hcl; have HB1 := Lib.hid (HB0.out.below_ hb1); have c1 := HB1.out.cell 1; have BB1 := Lib.hid ((below_box _ _).trans (hb1.mono (by simp))); clear ho hb1 hcl))
      go_loop [6, 7, 8] (fun o i _ => ∃ (k : Nat) (out : List UInt8), i = .int .i64 k ∧ o = .string ⟨out.toArray⟩ ∧ 1 ≤ k ∧ k ≤ m ∧ out.length ≤ 30 * k ∧ Hid (joinGo nm (l.drop k) k out = R)) (fun _ i _ => m - (intOf i).toNat)
      case atStart => exact ⟨1, x0, rfl, rfl, by omega, by omega, by omega, by have := HR.out; rw [H0.out] at this; exact this.symm⟩
      case round =>
        obtain ⟨k, out, rfl, rfl, hk1, hk, hol, hj⟩ := hrel
        by_cases hlt : k < m
        · obtain ⟨x, hxk⟩ : ∃ x, l[k]? = some x := ⟨_, List.getElem?_eq_getElem (by have := HM.out; omega)⟩
          have hcx := str_cell HCL.out hxk
          have xl : x.length ≤ 20 := HWL.out _ (List.mem_of_getElem? hxk)
          have hdr : l.drop k = x :: l.drop (k + 1) := by
            rw [List.drop_eq_getElem_cons (by have := HM.out; omega)]
            rw [List.getElem?_eq_getElem (by have := HM.out; omega)] at hxk
            injection hxk with hxk
            rw [hxk]
          have hj2 := hj.out
          rw [hdr, joinGo] at hj2
          have hk32 : (k : Int) < m := by omega
          have o1 : out.length ≤ 700 := by omega
          by_cases w1' : x = [104, 108]
          · subst w1'
            have hX : wordX nm [104, 108] = nm := by unfold wordX; rw [if_pos rfl]
            by_cases hk0 : k = 1
            · subst hk0
              have HJ : Hid (joinGo nm (l.drop (1 + 1)) (1 + 1) (out ++ [32] ++ nm) = R) := by
                show _ = _
                rw [if_pos rfl, hX] at hj2
                exact hj2
              clear hj2 hdr hxk hX hj
              go_wp2_with (first
                | (go_at_call 35; refine (HI.out _).mono ?_; rintro e w' ⟨rfl, rfl⟩))
              go_round
              case rel =>
                refine ⟨1 + 1, out ++ [32] ++ nm, by first | rfl | go_num, ?_, by omega, by omega, by simp only [List.length_append, List.length_cons, List.length_nil]; omega, HJ⟩
                exact congrArg Value.string (by first | rfl | (simp only [← app_data]; done) | (simp only [← app_data]; rfl) | (simp only [app_data, List.append_assoc, List.cons_append, List.nil_append]))
              case measure => simp [intOf]; try omega
            · have hkb : ((k : Int) == 1) = false := by simp; omega
              have HJ : Hid (joinGo nm (l.drop (k + 1)) (k + 1) (out ++ [44] ++ nm) = R) := by
                show _ = _
                rw [if_neg hk0, hX] at hj2
                exact hj2
              clear hj2 hdr hxk hX hj
              go_wp2_with (first
                | (go_at_call 35; refine (HI.out _).mono ?_; rintro e w' ⟨rfl, rfl⟩))
              go_round
              case rel =>
                refine ⟨k + 1, out ++ [44] ++ nm, by first | rfl | go_num, ?_, by omega, by omega, by simp only [List.length_append, List.length_cons, List.length_nil]; omega, HJ⟩
                exact congrArg Value.string (by first | rfl | (simp only [← app_data]; done) | (simp only [← app_data]; rfl) | (simp only [app_data, List.append_assoc, List.cons_append, List.nil_append]))
              case measure => simp [intOf]; try omega
          by_cases w2' : x = [104]
          · subst w2'
            have hX : wordX nm [104] = nm ++ [104] := by unfold wordX; rw [if_neg (by decide), if_pos rfl]
            by_cases hk0 : k = 1
            · subst hk0
              have HJ : Hid (joinGo nm (l.drop (1 + 1)) (1 + 1) (out ++ [32] ++ (nm ++ [104])) = R) := by
                show _ = _
                rw [if_pos rfl, hX] at hj2
                exact hj2
              clear hj2 hdr hxk hX hj
              go_wp2_with (first
                | (go_at_call 35; refine (HI.out _).mono ?_; rintro e w' ⟨rfl, rfl⟩))
              go_round
              case rel =>
                refine ⟨1 + 1, out ++ [32] ++ (nm ++ [104]), by first | rfl | go_num, ?_, by omega, by omega, by simp only [List.length_append, List.length_cons, List.length_nil]; omega, HJ⟩
                exact congrArg Value.string (by first | rfl | (simp only [← app_data]; done) | (simp only [← app_data]; rfl) | (simp only [app_data, List.append_assoc, List.cons_append, List.nil_append]))
              case measure => simp [intOf]; try omega
            · have hkb : ((k : Int) == 1) = false := by simp; omega
              have HJ : Hid (joinGo nm (l.drop (k + 1)) (k + 1) (out ++ [44] ++ (nm ++ [104])) = R) := by
                show _ = _
                rw [if_neg hk0, hX] at hj2
                exact hj2
              clear hj2 hdr hxk hX hj
              go_wp2_with (first
                | (go_at_call 35; refine (HI.out _).mono ?_; rintro e w' ⟨rfl, rfl⟩))
              go_round
              case rel =>
                refine ⟨k + 1, out ++ [44] ++ (nm ++ [104]), by first | rfl | go_num, ?_, by omega, by omega, by simp only [List.length_append, List.length_cons, List.length_nil]; omega, HJ⟩
                exact congrArg Value.string (by first | rfl | (simp only [← app_data]; done) | (simp only [← app_data]; rfl) | (simp only [app_data, List.append_assoc, List.cons_append, List.nil_append]))
              case measure => simp [intOf]; try omega
          by_cases w3' : x = [108]
          · subst w3'
            have hX : wordX nm [108] = nm ++ [108] := by unfold wordX; rw [if_neg (by decide), if_neg (by decide), if_pos rfl]
            by_cases hk0 : k = 1
            · subst hk0
              have HJ : Hid (joinGo nm (l.drop (1 + 1)) (1 + 1) (out ++ [32] ++ (nm ++ [108])) = R) := by
                show _ = _
                rw [if_pos rfl, hX] at hj2
                exact hj2
              clear hj2 hdr hxk hX hj
              go_wp2_with (first
                | (go_at_call 35; refine (HI.out _).mono ?_; rintro e w' ⟨rfl, rfl⟩))
              go_round
              case rel =>
                refine ⟨1 + 1, out ++ [32] ++ (nm ++ [108]), by first | rfl | go_num, ?_, by omega, by omega, by simp only [List.length_append, List.length_cons, List.length_nil]; omega, HJ⟩
                exact congrArg Value.string (by first | rfl | (simp only [← app_data]; done) | (simp only [← app_data]; rfl) | (simp only [app_data, List.append_assoc, List.cons_append, List.nil_append]))
              case measure => simp [intOf]; try omega
            · have hkb : ((k : Int) == 1) = false := by simp; omega
              have HJ : Hid (joinGo nm (l.drop (k + 1)) (k + 1) (out ++ [44] ++ (nm ++ [108])) = R) := by
                show _ = _
                rw [if_neg hk0, hX] at hj2
                exact hj2
              clear hj2 hdr hxk hX hj
              go_wp2_with (first
                | (go_at_call 35; refine (HI.out _).mono ?_; rintro e w' ⟨rfl, rfl⟩))
              go_round
              case rel =>
                refine ⟨k + 1, out ++ [44] ++ (nm ++ [108]), by first | rfl | go_num, ?_, by omega, by omega, by simp only [List.length_append, List.length_cons, List.length_nil]; omega, HJ⟩
                exact congrArg Value.string (by first | rfl | (simp only [← app_data]; done) | (simp only [← app_data]; rfl) | (simp only [app_data, List.append_assoc, List.cons_append, List.nil_append]))
              case measure => simp [intOf]; try omega
          · have hX : wordX nm x = x := by unfold wordX; rw [if_neg w1', if_neg w2', if_neg w3']
            have v1 : (x == [104, 108]) = false := by simpa using w1'
            have v2 : (x == [104]) = false := by simpa using w2'
            have v3 : (x == [108]) = false := by simpa using w3'
            by_cases hk0 : k = 1
            · subst hk0
              have HJ : Hid (joinGo nm (l.drop (1 + 1)) (1 + 1) (out ++ [32] ++ x) = R) := by
                show _ = _
                rw [if_pos rfl, hX] at hj2
                exact hj2
              clear hj2 hdr hxk hX hj
              go_wp2_with (first
                | (go_at_call 35; refine (HI.out _).mono ?_; rintro e w' ⟨rfl, rfl⟩))
              go_round
              case rel =>
                refine ⟨1 + 1, out ++ [32] ++ x, by first | rfl | go_num, ?_, by omega, by omega, by simp only [List.length_append, List.length_cons, List.length_nil]; omega, HJ⟩
                exact congrArg Value.string (by first | rfl | (simp only [← app_data]; done) | (simp only [← app_data]; rfl) | (simp only [app_data, List.append_assoc, List.cons_append, List.nil_append]))
              case measure => simp [intOf]; try omega
            · have hkb : ((k : Int) == 1) = false := by simp; omega
              have HJ : Hid (joinGo nm (l.drop (k + 1)) (k + 1) (out ++ [44] ++ x) = R) := by
                show _ = _
                rw [if_neg hk0, hX] at hj2
                exact hj2
              clear hj2 hdr hxk hX hj
              go_wp2_with (first
                | (go_at_call 35; refine (HI.out _).mono ?_; rintro e w' ⟨rfl, rfl⟩))
              go_round
              case rel =>
                refine ⟨k + 1, out ++ [44] ++ x, by first | rfl | go_num, ?_, by omega, by omega, by simp only [List.length_append, List.length_cons, List.length_nil]; omega, HJ⟩
                exact congrArg Value.string (by first | rfl | (simp only [← app_data]; done) | (simp only [← app_data]; rfl) | (simp only [app_data, List.append_assoc, List.cons_append, List.nil_append]))
              case measure => simp [intOf]; try omega
        · obtain rfl : k = m := by omega
          have HJ : Hid (out = R) := by
            have := hj.out
            rw [List.drop_of_length_le (by have := HM.out; omega)] at this
            exact this
          clear hj
          have hk32 : ¬ ((k : Int) < k) := by omega
          go_wp2_with fail
          go_ret
          exact ⟨by rw [HJ.out]; rfl, BB1.out⟩
end Go.Proofs.Ytjkakmmhbciilaa
