/- rle.Times. -/
import Derived.Test.YtbemlmpajnklpaaRleB
import Derived.OwnWalk
namespace Go.Proofs.Ytbemlmpajnklpaa
set_option linter.unusedSimpArgs false
set_option linter.unusedVariables false
open Go.RowKit
namespace Rl
theorem steps_len (rate : Int) : ∀ (l : List Int) (n was : Int), (steps rate n was l).length = l.length
  | [], _, _ => rfl
  | k :: t, n, was => by simp [steps, steps_len rate t]
theorem div_parts (N rate : Int) (h1 : 1 ≤ rate) : N / rate * 3500000 + N % rate * 3500000 / rate = N * 3500000 / rate := by
  have e : N * 3500000 = N % rate * 3500000 + rate * (N / rate * 3500000) := by
    have := Int.emod_add_mul_ediv N rate
    calc N * 3500000 = (N % rate + rate * (N / rate)) * 3500000 := by rw [this]
      _ = _ := by rw [Int.add_mul, Int.mul_assoc]
  rw [e, Int.add_mul_ediv_left _ _ (by omega)]
  omega
theorem div_le (N rate : Int) (h0 : 0 ≤ N) (h1 : 1 ≤ rate) : 0 ≤ N / rate ∧ N / rate ≤ N := ⟨Int.ediv_nonneg h0 (by omega), Int.ediv_le_self _ h0⟩
theorem scan_cons (left k : Int) (t : List Int) (h : scan left (k :: t) = false) : 0 ≤ k ∧ k ≤ 4294967295 ∧ k ≤ left ∧ clamp k = k ∧ scan (left - k) t = false := by
  simp only [scan, Bool.or_eq_false_iff] at h
  obtain ⟨h1, h2⟩ := h
  unfold badK at h1
  simp at h1
  obtain ⟨a, b, c⟩ := h1
  have e : clamp k = k := by unfold clamp; rw [if_neg (by omega), if_neg (by omega)]
  rw [e] at c h2
  exact ⟨a, b, by omega, e, h2⟩
/-- all that is handed back -/
def okT (rate : Int) (l : List Int) : Prop := 1 ≤ rate ∧ rate ≤ 16777215 ∧ scan 274877906944 l = false
end Rl
theorem infoInt : (Try.prog.info? 3).map (fun i => (i.zero, i.size, i.bytes)) = some (some (.int .i64 0), 1, 8) := by kernel_rfl
/-- a list of numbers and an error are handed back -/
def ListP (l : List Int) (w : World) (e : Ending) (w' : World) : Prop := ∃ (B : Option Addr) (c : Nat), e = .returned (.tuple #[.slice B l.length c, .int .i64 0]) ∧ l.length ≤ c ∧ Cells w' B (l.map (.int .i64 ·)) ∧ Below w.heap.size w w'
theorem own_slice2 {w : World} {base n : Nat} {e : TypeId} {v : Value} {xs : List Value} (h : w.ownsRow base e 1 v n xs) : ∃ (B : Option Addr) (c : Nat), v = .slice B n c ∧ Cells w B xs ∧ n ≤ c := by
  rcases h.2 with ⟨rfl, rfl⟩ | ⟨g, c, cur, rfl, _, _, h2, _⟩
  · have hx : xs = [] := List.eq_nil_of_length_eq_zero (by simpa using h.1)
    subst hx
    exact ⟨none, 0, rfl, fun i v hi => by simp at hi, by have := h.1; simp at this; omega⟩
  · exact ⟨_, c, rfl, fun i v hi => ⟨_, rfl, h.cells (g := g) rfl i v hi⟩, h2⟩
def NoListP (x : Int) (w : World) (e : Ending) (w' : World) : Prop := e = .returned (.tuple #[.slice none 0 0, .int .i64 x]) ∧ Below w.heap.size w w'
set_option maxHeartbeats 1000000 in
theorem times_rate (A : Option Addr) (n c : Nat) (rate : Int) (w : World) (hr : rate < 1 ∨ 16777215 < rate) :
    Calls Try.prog 6 #[.slice A n c, .int .i64 rate] w (NoListP 5 w) := by
  rcases hr with hr | hr
  · go_enter Try.func6, Try.ntmps6
    go_wp2_with fail
    go_ret2
    exact ⟨rfl, Below.refl _ _⟩
  · go_enter Try.func6, Try.ntmps6
    go_wp2_with fail
    go_ret2
    exact ⟨rfl, Below.refl _ _⟩
set_option maxHeartbeats 1000000 in
theorem times_bad (A : Option Addr) (n c : Nat) (rate : Int) (l : List Int) (w : World) (hl : Ints w A .i64 l) (hn : l.length = n) (hn1 : n ≤ 1000) (hr1 : 1 ≤ rate) (hr2 : rate ≤ 16777215) (hs : Rl.scan 274877906944 l = true) :
    Calls Try.prog 6 #[.slice A n c, .int .i64 rate] w (NoListP 5 w) := by
  have hmf : ∀ (fn : Fn) (first cap : Array Value) (u : World), (Instr.makeFunc fn first cap).run Try.prog u = .ok (.func fn first cap) u := fun _ _ _ _ => rfl
  have hB0 : Below w.heap.size w (w.alloc (.cells #[.int .i64 274877906944] 3)) := (Below.refl _ w).alloc (Nat.le_refl _) _
  have hC := contains_any w.heap.size A n c 274877906944 l (w.alloc (.cells #[.int .i64 274877906944] 3)) (hl.below hB0) hn hn1 (fun ad h => by
    cases l with
    | nil => exact .inl rfl
    | cons x l =>
      obtain ⟨ad', h', hc⟩ := hl 0 (.int .i64 x) rfl
      have : ad = ad' := by rw [h] at h'; injection h'
      subst this
      have := block_lt_of_cell hc
      rw [block_of_add] at this
      exact .inr (by omega)) (Blk.new w _ [.int .i64 274877906944]) (by decide) (by decide)
  rw [hs] at hC
  have HC := Lib.hid hC
  have HB0 := Lib.hid hB0
  clear hl hn hC hB0 hs
  go_enter Try.func6, Try.ntmps6
  go_wp2_with (first
    | (go_at_call 12; refine (HC.out).mono ?_; rintro e w2 ⟨rfl, hg⟩))
  go_ret2
  exact ⟨rfl, below_of_grown HB0.out hg (Nat.le_refl _) HB0.out.size⟩
set_option maxRecDepth 100000 in
set_option maxHeartbeats 4000000 in
theorem times_ok (A : Option Addr) (n c : Nat) (rate : Int) (l : List Int) (w : World) (hl : Ints w A .i64 l) (hn : l.length = n) (hn1 : n ≤ 1000) (hr1 : 1 ≤ rate) (hr2 : rate ≤ 16777215) (hs : Rl.scan 274877906944 l = false) :
    Calls Try.prog 6 #[.slice A n c, .int .i64 rate] w (ListP (Rl.steps rate 0 0 l) w) := by
  obtain ⟨i0, hi, hz0, hz1, hz2⟩ := info_parts infoInt
  have hmf : ∀ (fn : Fn) (first cap : Array Value) (u : World), (Instr.makeFunc fn first cap).run Try.prog u = .ok (.func fn first cap) u := fun _ _ _ _ => rfl
  have hB0 : Below w.heap.size w (w.alloc (.cells #[.int .i64 274877906944] 3)) := (Below.refl _ w).alloc (Nat.le_refl _) _
  have hC := contains_any w.heap.size A n c 274877906944 l (w.alloc (.cells #[.int .i64 274877906944] 3)) (hl.below hB0) hn hn1 (fun ad h => by
    cases l with
    | nil => exact .inl rfl
    | cons x l =>
      obtain ⟨ad', h', hc⟩ := hl 0 (.int .i64 x) rfl
      have : ad = ad' := by rw [h] at h'; injection h'
      subst this
      have := block_lt_of_cell hc
      rw [block_of_add] at this
      exact .inr (by omega)) (Blk.new w _ [.int .i64 274877906944]) (by decide) (by decide)
  rw [hs] at hC
  have HC := Lib.hid hC
  have HB0 := Lib.hid hB0
  have HL := Lib.hid hl; have HN := Lib.hid hn; have HSC := Lib.hid hs
  have HI := Lib.hid hi; have HZ0 := Lib.hid hz0; have HZ1 := Lib.hid hz1; have HZ2 := Lib.hid hz2
  obtain ⟨R, hR⟩ : ∃ R, R = Rl.steps rate 0 0 l := ⟨_, rfl⟩
  have HR : Hid (R.length = n) := by show _ = _; rw [hR, Rl.steps_len]; exact hn
  rw [← hR]
  have HRE := Lib.hid hR
  clear hl hn hC hB0 hs hi hz0 hz1 hz2 hR
  go_enter Try.func6, Try.ntmps6
  go_wp2_with (first
    | (go_at_call 12; refine (HC.out).mono ?_; rintro e w2 ⟨rfl, hg⟩; have HB2 := Lib.hid (below_of_grown HB0.out hg (Nat.le_refl _) HB0.out.size); have hsz2 := HB2.out.size; clear hg)
    | (at_make; refine wpList_make_own _ rfl _ _ 22 rfl w.heap.size 3 i0 (.int .i64 0) 1 Try.underlying22 HI.out HZ0.out HZ1.out .i64 .i64 _ n rfl rfl rfl (by rw [HZ2.out]; omega) (by unfold maxLen; omega) hsz2 ?_; intro w3 hown0 hgrow0; have HB3 := Lib.hid (HB2.out.grown hgrow0 hsz2 (fun k hk => by cases hk)); have HO3 := Lib.hid hown0; clear hown0 hgrow0))
  go_loopw [7, 8, 9, 27] (fun v nn ww i wr => ∃ (k : Nat) (N W : Int) (v' : Value) (D : List Int), k ≤ n ∧ i = .int .i64 k ∧ nn = .int .i64 N ∧ ww = .int .i64 W ∧ v' = v ∧ 0 ≤ N ∧ N ≤ 274877906944 ∧ 0 ≤ W ∧ W ≤ 962072674304000000 ∧ Hid (wr.ownsRow w.heap.size 3 1 v' k (D.map (.int .i64 ·))) ∧ Hid (Below w.heap.size w wr) ∧ Hid (R = D ++ Rl.steps rate N W (l.drop k)) ∧ Hid (D.length = k) ∧ Hid (Rl.scan (274877906944 - N) (l.drop k) = false)) (fun _ _ _ i _ => n - (intOf i).toNat)
  case atStart => exact ⟨0, 0, 0, _, [], by omega, rfl, rfl, rfl, rfl, by omega, by omega, by omega, by omega, HO3.out, HB3.out, by show _ = _; rw [HRE.out]; rfl, rfl, HSC.out⟩
  case round =>
    obtain ⟨k, N, W, v, D, hk, rfl, rfl, rfl, rfl, N0, N1, W0, W1, HO, HB, HD, HDL, HS⟩ := hrel
    have hsz := HB.out.size
    by_cases hlt : k < n
    · obtain ⟨x, hx⟩ : ∃ x, l[k]? = some x := ⟨_, List.getElem?_eq_getElem (by rw [HN.out]; exact hlt)⟩
      obtain ⟨ad, rfl, hc0⟩ := HL.out k (.int .i64 x) (by simp [hx])
      have hc := (HB.out.cell (block_lt_of_cell hc0)).trans hc0
      have hdrop : l.drop k = x :: l.drop (k + 1) := by
        rw [List.drop_eq_getElem_cons (by rw [HN.out]; exact hlt)]
        rw [List.getElem?_eq_getElem (by rw [HN.out]; exact hlt)] at hx
        injection hx with hx
        rw [hx]
      have hs := HS.out
      rw [hdrop] at hs
      obtain ⟨x0, x1, x2, x3, x4⟩ := Rl.scan_cons _ _ _ hs
      obtain ⟨F, hF⟩ : ∃ F, F = (N + x) * 3500000 / rate := ⟨_, rfl⟩
      have HD2 : Hid (R = D ++ ((F - W) :: Rl.steps rate (N + x) F (l.drop (k + 1)))) := by
        show _ = _
        rw [HD.out, hdrop, hF]
        rfl
      have hF0 : 0 ≤ F ∧ F ≤ (N + x) * 3500000 := by rw [hF]; exact Rl.div_le _ _ (by omega) hr1
      obtain ⟨F0, F1⟩ := hF0
      have HS2 : Hid (Rl.scan (274877906944 - (N + x)) (l.drop (k + 1)) = false) := by
        show _ = _
        rw [show 274877906944 - (N + x) = 274877906944 - N - x by omega]
        exact x4
      have hdp := Rl.div_parts (N + x) rate hr1
      rw [← hF] at hdp
      have hq := Rl.div_le (N + x) rate (by omega) hr1
      have hm0 : 0 ≤ (N + x) % rate := Int.emod_nonneg _ (by omega)
      have hm1 : (N + x) % rate < rate := Int.emod_lt_of_pos _ (by omega)
      have t1 : (N + x).tdiv rate = (N + x) / rate := Int.tdiv_eq_ediv_of_nonneg (by omega)
      have t2 : (N + x).tmod rate = (N + x) % rate := Int.tmod_eq_emod_of_nonneg (by omega)
      have t3 : ((N + x) % rate * 3500000).tdiv rate = (N + x) % rate * 3500000 / rate := Int.tdiv_eq_ediv_of_nonneg (by omega)
      have hp := Rl.div_le ((N + x) % rate * 3500000) rate (by omega) hr1
      obtain ⟨q, hq'⟩ : ∃ q, q = (N + x) / rate := ⟨_, rfl⟩
      obtain ⟨m, hm'⟩ : ∃ q, q = (N + x) % rate := ⟨_, rfl⟩
      obtain ⟨p, hp'⟩ : ∃ q, q = m * 3500000 / rate := ⟨_, rfl⟩
      rw [← hq'] at hdp hq t1
      rw [← hm'] at hdp hm0 hm1 t2 t3 hp
      rw [← hp'] at hdp hp t3
      obtain ⟨q0, q1⟩ := hq
      obtain ⟨p0, p1⟩ := hp
      have rz : (rate == 0) = false := by simp; omega
      have DP := Lib.hid hdp; have XQ := Lib.hid hq'; have XM := Lib.hid hm'; have XP := Lib.hid hp'; have XF := Lib.hid hF
      have w1 : IntKind.i64.wrap q = q := by rw [IntKind.wrap_i64]; omega
      have w2 : IntKind.i64.wrap (q * 3500000) = q * 3500000 := by rw [IntKind.wrap_i64]; omega
      have w4 : IntKind.i64.wrap m = m := by rw [IntKind.wrap_i64]; omega
      have w5 : IntKind.i64.wrap (m * 3500000) = m * 3500000 := by rw [IntKind.wrap_i64]; omega
      have w6 : IntKind.i64.wrap p = p := by rw [IntKind.wrap_i64]; omega
      have w7 : IntKind.i64.wrap (q * 3500000 + p) = F := by rw [hdp, IntKind.wrap_i64]; omega
      clear hx hc0 hdrop hs x3 x4 hF hdp hq' hm' hp'
      go_wp2_with fail
      go_quiet (fail)
      clear w1 w2 w4 w5 w6 w7 t1 t2 t3
      have w8 : IntKind.i64.wrap (F - W) = F - W := by rw [IntKind.wrap_i64]; omega
      go_wp2_with (first
        | (at_builtin; refine wpList_appL _ rfl (.tmp 45) (.tmp 49) 22 rfl w.heap.size 3 (.int .i64 0) 1 8 Try.underlying22 infoInt rfl (by decide) v k _ rfl (ownsRow_drewN HO.out _) #[.int .i64 (F - W)] 1 rfl rfl (by simp [Value.oneCell']) (by decide) (by omega) (by decide) hsz ?_; intro g2 c2 w4 hown2 hg2 _; have HB4 := Lib.hid (Below_own (Below_drewN HB.out _) (ownsRow_drewN HO.out _) hg2 (Nat.le_refl _) hsz); have HO4 := Lib.hid hown2; clear hown2 hg2))
      go_roundw
      case rel => exact ⟨k + 1, N + x, F, _, D ++ [F - W], by omega, by go_num, rfl, rfl, rfl, by omega, by omega, F0, by omega, by show _; rw [List.map_append]; exact HO4.out, HB4.out, by show _ = _; rw [HD2.out]; simp, by show _ = _; rw [List.length_append, HDL.out]; rfl, HS2.out⟩
      case measure => simp [intOf]; omega
    · obtain rfl : k = n := by omega
      have HF : Hid (R = D) := by
        show _ = _
        rw [HD.out, List.drop_of_length_le (by rw [HN.out]; omega)]
        simp [Rl.steps]
      go_wp2_with fail
      go_ret2
      obtain ⟨B, c', rfl, hcells, hlc⟩ := own_slice2 HO.out
      rw [HF.out]
      exact ⟨B, c', by rw [HDL.out]; rfl, by rw [HDL.out]; exact hlc, hcells, HB.out⟩
end Go.Proofs.Ytbemlmpajnklpaa
