/- The law InflateBack: its own body. -/
import Derived.Test.YtcjdeinmmokdgaaInfU
import Derived.Deep.DeepCutAuto
namespace Go.Proofs.Ytcjdeinmmokdgaa
set_option linter.unusedSimpArgs false
set_option linter.unusedVariables false
open Go.RowKit
theorem iback_long (A A2 : Option Addr) (n c m c2 : Nat) (x0 : Int) (w : World) (h : 70000 < n ∨ 1000 < m) : Calls Try.prog 4 #[.slice A n c, .slice A2 m c2, .int .i64 x0] w (Yes w) := by
  have HL := Lib.hid (fun u => lives15 u)
  by_cases h1 : 70000 < n
  · have h2 : (70000 : Int) < n := by omega
    clear h
    go_enter Try.func4, Try.ntmps4
    go_wp2_with (first
      | (go_at_call 7; refine (HL.out _).mono ?_; rintro e w1 ⟨rfl, hb1⟩; have HB1 := Lib.hid hb1; clear hb1))
    go_ret
    exact ⟨rfl, HB1.out⟩
  · have h2 : ¬ ((70000 : Int) < n) := by omega
    have h4 : decide ((70000 : Int) < n) = false := by simpa using h2
    have h3 : (1000 : Int) < m := by omega
    clear h
    go_enter Try.func4, Try.ntmps4
    go_wp2_with (first
      | (go_at_call 7; refine (HL.out _).mono ?_; rintro e w1 ⟨rfl, hb1⟩; have HB1 := Lib.hid hb1; clear hb1))
    go_ret
    exact ⟨rfl, HB1.out⟩
theorem ints_take0 {w : World} {A : Option Addr} {kd : IntKind} {l : List Int} (h : Ints w A kd l) (k : Nat) : Ints w A kd (l.take k) := fun i v hi => by
  refine h i v ?_
  rw [List.getElem?_map, List.getElem?_take] at hi
  rw [List.getElem?_map]
  split at hi
  · exact hi
  · cases hi
def InfE (k : Int) (w : World) (e : Ending) (w' : World) : Prop := e = .returned (.tuple #[.slice none 0 0, .int .i64 0, .int .i64 k]) ∧ Below w.heap.size w w'
def InfO (out : List Int) (n : Nat) (w : World) (e : Ending) (w' : World) : Prop := ∃ K c, e = .returned (.tuple #[.slice K out.length c, .int .i64 n, .int .i64 0]) ∧ Ints w' K .u8 out ∧ Below w.heap.size w w'
theorem infP_err {k : Int} {w : World} {e : Ending} {w' : World} (h : InfP (.err k) w e w') : InfE k w e w' := ⟨h.2.1, h.1⟩
theorem infP_ok {out : List Int} {n : Nat} {w : World} {e : Ending} {w' : World} (h : InfP (.ok out n) w e w') : InfO out n w e w' := by
  obtain ⟨hb, v, he, ho⟩ := h
  obtain ⟨K, c, rfl, hc, -⟩ := own_slice3 ho
  exact ⟨K, c, he, hc, hb⟩
set_option maxRecDepth 100000 in
set_option maxHeartbeats 8000000 in
theorem iback_any (A A2 : Option Addr) (n c m c2 : Nat) (bs more : List Int) (x0 : Int) (w : World) (h : Ints w A .u8 bs) (hr : ∀ x ∈ bs, 0 ≤ x ∧ x ≤ 255) (hn : bs.length = n) (hnc : n ≤ c) (hc : c ≤ 9223372036854775807) (hA : A = none → n = 0 ∧ c = 0)
    (h' : Ints w A2 .u8 more) (hr' : ∀ x ∈ more, 0 ≤ x ∧ x ≤ 255) (hm : more.length = m) (hA2 : A2 = none → m = 0 ∧ c2 = 0) (hn6 : n ≤ 70000) (hm1 : m ≤ 1000) :
    Calls Try.prog 4 #[.slice A n c, .slice A2 m c2, .int .i64 x0] w (Yes w) := by
  have HLV := Lib.hid (fun u => lives15 u)
  have HBS := Lib.hid h
  have HMO := Lib.hid h'
  have HP := Lib.hid (store_two A n c bs w h hn hnc hc hn6 hA)
  obtain ⟨F, hF⟩ : ∃ F, F = Hf.stored 2 bs := ⟨_, rfl⟩
  obtain ⟨N, hN⟩ : ∃ N, N = F.length := ⟨_, rfl⟩
  rw [← hF] at HP
  have hNv : N = if bs.length ≤ 65535 then bs.length + 5 else bs.length + 10 := by rw [hN, hF]; exact Hf.stored_len bs (by omega)
  have hFr : ∀ x ∈ F, 0 ≤ x ∧ x ≤ 255 := by rw [hF]; exact Hf.byts_stored bs hr (by omega)
  have hNb : n + 5 ≤ N ∧ N ≤ n + 10 := by
    split at hNv <;> omega
  obtain ⟨hN1, hN2⟩ := hNb
  have HFL : Hid (F.length = N) := hN.symm
  have HNN := Lib.hid hn
  have HMM := Lib.hid hm
  have HA2 := Lib.hid hA2
  have hall : ∀ x ∈ F ++ more, 0 ≤ x ∧ x ≤ 255 := fun x hx => by
    rcases List.mem_append.1 hx with hx | hx
    · exact hFr x hx
    · exact hr' x hx
  have HY := Lib.hid (fun u g cc (hi : Ints u (some ⟨g, 0, none⟩) .u8 (F ++ more)) (hcc : N + m ≤ cc) (hg : g < u.heap.size) => (inflate_any (some ⟨g, 0, none⟩) (N + m) cc (F ++ more) n 2 u hi hall (by rw [List.length_append]; omega) hcc (by omega) (fun ad e => by injection e with e; rw [← e]; exact hg) (by omega) (by omega) (by rw [hF, Hf.inf_stored bs more (by omega) n (by omega)]; intro e; cases e)).mono fun e w' h => by
    rw [hF, Hf.inf_stored bs more (by omega) n (by omega)] at h
    exact infP_ok h)
  rw [← hF, ← hN] at HY
  have HZ := Lib.hid (fun u g cc (h0 : 0 < n) (hi : Ints u (some ⟨g, 0, none⟩) .u8 (F ++ more)) (hcc : N + m ≤ cc) (hg : g < u.heap.size) => (inflate_any (some ⟨g, 0, none⟩) (N + m) cc (F ++ more) ((n : Int) - 1) 2 u hi hall (by rw [List.length_append]; omega) hcc (by omega) (fun ad e => by injection e with e; rw [← e]; exact hg) (by omega) (by omega) (by rw [hF, ← hn, Hf.inf_stored_long bs more (by omega) (by omega)]; intro e; cases e)).mono fun e w' h => by
    rw [hF, ← hn, Hf.inf_stored_long bs more (by omega) (by omega)] at h
    exact infP_err h)
  have HC := Lib.hid (fun u g (k : Nat) cc (hi : Ints u (some ⟨g, 0, none⟩) .u8 F) (hk : k < N) (hcc : N ≤ cc) (hg : g < u.heap.size) => (inflate_any (some ⟨g, 0, none⟩) k cc (F.take k) n 2 u (ints_take0 hi k) (fun x hx => hFr x (List.mem_of_mem_take hx)) (by rw [List.length_take]; omega) (by omega) (by omega) (fun ad e => by injection e with e; rw [← e]; exact hg) (by omega) (by omega) (by rw [hF, ← hn, Hf.inf_stored_cut bs k (by omega) (by rw [← hF, ← hN]; exact hk)]; intro e; cases e)).mono fun e w' h => by
    rw [hF, ← hn, Hf.inf_stored_cut bs k (by omega) (by rw [← hF, ← hN]; exact hk)] at h
    exact infP_err h)
  have h60 : ¬ ((70000 : Int) < n) := by omega
  have h10 : ¬ ((1000 : Int) < m) := by omega
  have HNE : Hid ((N : Int) = n + 5 * (((n : Int) - 1) / 65535 + 1) ∨ n = 0) := by
    show _ ∨ _
    by_cases h0 : n = 0
    · exact .inr h0
    · left
      split at hNv <;> omega
  have HN0 : Hid (n = 0 → N = 5) := fun h0 => by split at hNv <;> omega
  clear h hr hn h' hr' hm hA hA2 hN hF hNv hFr hall
  go_enter Try.func4, Try.ntmps4
  go_upto_region 9 with (first
    | (go_at_call 8
       refine (HY.out w3 g3 c3 HI3.out HC3.out HBK3.out.lt).mono ?_
       rintro e w4 ⟨K4, c4, rfl, hi4, hb4⟩
       rw [HNN.out]
       have HBB4 : Hid (Below w1.heap.size w1 w4) := HBB3.out.trans (hb4.mono HBB3.out.size)
       have HB4 := Lib.hid (HB1.out.trans (HBB4.out.mono HB1.out.size))
       have hcv1 := conv_ints w4 K4 n c4 bs hi4 HNN.out
       have hcv2 := conv_ints w4 A n c bs (Cells.below HBS.out HB4.out) HNN.out
       have HI4 := Lib.hid (Cells.below HI1.out HBB4.out)
       have HI34 := Lib.hid (Cells.below HI3.out hb4)
       have HG34 : Hid (g3 < w4.heap.size) := Nat.lt_of_lt_of_le HBK3.out.lt hb4.size
       clear hi4 hb4)
    | (at_builtin
       refine wpList_appAny w2 (by rfl) (.tmp 31) (.tmp 32) 22 (by rfl) w1.heap.size 5 (.int .u8 0) 1 Try.underlying22 infoByte rfl _ N (F.map (.int .u8)) (by rfl) HO2.out A2 m c2 (more.map (.int .u8)) (by rfl) (by rw [List.length_map]; exact HMM.out) (Cells.below HMO.out HB2.out) HA2.out (fun u hu => by obtain ⟨x, -, rfl⟩ := List.mem_map.1 hu; rfl) (by unfold maxLen; omega) (by omega) HBB2.out.size ?_
       intro v3 w3 ho3 hg3
       have HBB3 : Hid (Below w1.heap.size w1 w3) := Below_own HBB2.out HO2.out hg3 (Nat.le_refl _) HBB2.out.size
       obtain ⟨g3, c3, rfl, -⟩ := ho3.form (by omega)
       obtain ⟨ys, hb3, hc3⟩ := own_blk ho3
       have HBK3 := Lib.hid hb3
       have HC3 := Lib.hid hc3
       have HI3 : Hid (Ints w3 (some ⟨g3, 0, none⟩) .u8 (F ++ more)) := ints_of_blk (ys := ys) (by rw [List.map_append]; exact hb3)
       clear ho3 hg3 hb3 hc3)
    | (at_builtin
       refine wpList_appAny w1 (by rfl) (.tmp 29) (.tmp 30) 22 (by rfl) w1.heap.size 5 (.int .u8 0) 1 Try.underlying22 infoByte rfl (.slice none 0 0) 0 [] (by rfl) (World.ownsRow_nil _ _ _ _) (some ⟨g, 0, none⟩) N c1 (F.map (.int .u8)) (by rfl) (by rw [List.length_map]; exact HFL.out) HI1.out (fun h => by cases h) (fun u hu => by obtain ⟨x, -, rfl⟩ := List.mem_map.1 hu; rfl) (by unfold maxLen; omega) (by omega) (Nat.le_refl _) ?_
       intro v2 w2 ho2 hg2
       rw [Nat.zero_add, List.nil_append] at ho2
       have HO2 := Lib.hid ho2
       have HBB2 : Hid (Below w1.heap.size w1 w2) := Below_own (Below.refl _ _) (World.ownsRow_nil w1 w1.heap.size 5 1) hg2 (Nat.le_refl _) (Nat.le_refl _)
       have HB2 := Lib.hid (HB1.out.trans (HBB2.out.mono HB1.out.size))
       clear ho2 hg2)
    | (go_at_call 9
       refine HP.out.mono ?_
       rintro e w1 ⟨v1, rfl, ho1, hb1⟩
       rw [HFL.out] at ho1
       obtain ⟨g, c1, rfl, -⟩ := ho1.form (by omega)
       obtain ⟨ys, hblk, hcc⟩ := own_blk ho1
       have HI1 := Lib.hid (ints_of_blk hblk)
       have HCC := Lib.hid hcc
       have HGL : Hid (g < w1.heap.size) := (ho1.lt g rfl).2
       have HB1 := Lib.hid hb1
       clear ho1 hblk hcc hb1))
  by_cases hn0 : 0 < n
  · have hn1 : (1 : Int) ≤ n := by omega
    go_upto_region 13 with (first
      | (go_at_call 8
         refine (HZ.out w4 g3 c3 hn0 HI34.out HC3.out HG34.out).mono ?_
         rintro e w5 ⟨rfl, hb5⟩
         have HB5 := Lib.hid (HB4.out.trans (hb5.mono HB4.out.size))
         have HI5 := Lib.hid (Cells.below HI4.out hb5)
         have HG5 : Hid (g < w5.heap.size) := Nat.lt_of_lt_of_le (Nat.lt_of_lt_of_le HGL.out HBB4.out.size) hb5.size
         clear hb5))
    have hcc1 := HCC.out
    go_cut [15, 16, 17] (fun a b d wx => a = .slice none 0 0 ∧ b = .int .i64 0 ∧ d = .int .i64 2 ∧ Below w.heap.size w wx)
    case first =>
      go_wp2_with (first
        | (go_at_call 8
           refine (HC.out w5 g _ c1 HI5.out (by omega) HCC.out HG5.out).mono ?_
           rintro e w6 ⟨rfl, hb6⟩
           have HB6 := Lib.hid (HB5.out.trans (hb6.mono HB5.out.size))
           clear hb6))
      all_goals
        go_meet
        exact ⟨rfl, rfl, rfl, HB6.out⟩
    case rest =>
      obtain ⟨rfl, rfl, rfl, hb6⟩ := hcut
      have HB6 := Lib.hid hb6
      clear hb6
      go_wp2_with (first
        | (go_at_call 7; refine (HLV.out _).mono ?_; rintro e w7 ⟨rfl, hb7⟩; have HB7 := Lib.hid (HB6.out.trans (hb7.mono HB6.out.size)); clear hb7))
      all_goals first
        | (exfalso; rcases HNE.out with h | h <;> omega)
        | (go_ret; exact ⟨rfl, HB7.out⟩)
  · obtain rfl : n = 0 := by omega
    obtain rfl : N = 5 := HN0.out rfl
    have HB5 := HB4
    have HI5 := HI4
    have HG5 : Hid (g < w4.heap.size) := Nat.lt_of_lt_of_le HGL.out HBB4.out.size
    go_upto_region 13 with fail
    have hcc1 := HCC.out
    go_cut [15, 16, 17] (fun a b d wx => a = .slice none 0 0 ∧ b = .int .i64 0 ∧ d = .int .i64 2 ∧ Below w.heap.size w wx)
    case first =>
      go_wp2_with (first
        | (go_at_call 8
           refine (HC.out w4 g _ c1 HI5.out (by omega) HCC.out HG5.out).mono ?_
           rintro e w6 ⟨rfl, hb6⟩
           have HB6 := Lib.hid (HB5.out.trans (hb6.mono HB5.out.size))
           clear hb6))
      all_goals
        go_meet
        exact ⟨rfl, rfl, rfl, HB6.out⟩
    case rest =>
      obtain ⟨rfl, rfl, rfl, hb6⟩ := hcut
      have HB6 := Lib.hid hb6
      clear hb6
      go_wp2_with (first
        | (go_at_call 7; refine (HLV.out _).mono ?_; rintro e w7 ⟨rfl, hb7⟩; have HB7 := Lib.hid (HB6.out.trans (hb7.mono HB6.out.size)); clear hb7))
      all_goals first
        | (exfalso; rcases HNE.out with h | h <;> omega)
        | (go_ret; exact ⟨rfl, HB7.out⟩)
end Go.Proofs.Ytcjdeinmmokdgaa
