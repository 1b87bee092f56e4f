/- rle.plain, rle.Runs: of nothing; of packed bytes. -/
import Derived.Test.YtbemlmpajnklpaaRleH
import Derived.Test.YtbemlmpajnklpaaZlbP
namespace Go.Proofs.Ytbemlmpajnklpaa
set_option linter.unusedSimpArgs false
set_option linter.unusedVariables false
open Go.RowKit
set_option maxHeartbeats 2000000 in
theorem plain_empty (A : Option Addr) (c : Nat) (w : World) : Calls Try.prog 15 #[.slice A 0 c] w (ListP [] w) := by
  have HR : Hid (Rdr (w.alloc (.cells #[.slice A 0 c, .int .i64 0, .pointer none] 57)) w.heap.size A 0 c 0) := Blk.new w _ [.slice A 0 c, .int .i64 0, .pointer none]
  have HL := Lib.hid (fun u (hu : Rdr u w.heap.size A 0 c 0) => wireLeft_ok w.heap.size A 0 c 0 u hu (Nat.le_refl _) (by omega))
  have HBD := Lib.hid (fun u (hu : Rdr u w.heap.size A 0 c 0) => wireBad_ok w.heap.size A 0 c 0 u hu)
  have HL0 : Hid (∀ u, Rdr u w.heap.size A 0 c 0 → Calls Try.prog 21 #[.pointer (some ⟨w.heap.size, 0, none⟩)] u fun e u' => e = .returned (.int .i64 0) ∧ Drew u u') := fun u hu => (HL.out u hu).mono fun e u' h => by simpa using h
  clear HL
  go_enter Try.func15, Try.ntmps15
  go_wp2_with (first
    | (go_at_call 20; refine (wireRead_any _ _ _ _).mono ?_; rintro e w1 ⟨rfl, rfl⟩))
  go_loopw [5] (fun v wr => v = .slice none 0 0 ∧ Hid (Rdr wr w.heap.size A 0 c 0) ∧ Hid (Below w.heap.size w wr)) (fun _ _ => 0)
  case atStart => exact ⟨rfl, HR.out, (Below.refl _ w).alloc (Nat.le_refl _) _⟩
  case round =>
    obtain ⟨rfl, HR1, HB1⟩ := hrel
    go_wp2_with (first
      | (go_at_call 21; refine (HL0.out wr HR1.out).mono ?_; rintro e w3 ⟨rfl, q3, rfl⟩)
      | (go_at_call 23; refine (HBD.out _ (HR1.out.drewN q3)).mono ?_; rintro e w4 ⟨rfl, rfl⟩))
    go_ret2
    exact ⟨none, 0, rfl, Nat.le_refl _, fun i v hi => by simp at hi, Below_drewN HB1.out q3⟩
theorem plain_all (A : Option Addr) (n c m : Nat) (l : List Int) (w : World) (hl : Ints w A .u8 (Rl.spell l)) (hn : (Rl.spell l).length = n) (hc : n ≤ c) (hm : l.length = m) (hm1 : m ≤ 1000) (hmay : Rl.May l) :
    Calls Try.prog 15 #[.slice A n c] w (ListP l w) := by
  have hn1 : n ≤ 5000 := by have := Rl.spell_len l; omega
  cases l with
  | nil =>
    have hn0 : n = 0 := by rw [← hn]; rfl
    subst hn0
    exact plain_empty A c w
  | cons x t =>
    obtain ⟨y, hy⟩ : ∃ y, (Rl.spell (x :: t))[0]? = some y := by
      refine ⟨_, List.getElem?_eq_getElem ?_⟩
      simp only [Rl.spell, List.length_append]
      unfold Rl.spell1
      split <;> simp <;> omega
    obtain ⟨ad, rfl, hc0⟩ := hl 0 (.int .u8 y) (by rw [List.getElem?_map, hy]; rfl)
    have := block_lt_of_cell hc0
    rw [block_of_add] at this
    exact plain_spelled ad n c m (x :: t) w hl hn hc hm hm1 hn1 hmay this
theorem runs_all (A : Option Addr) (n c m : Nat) (l : List Int) (w : World) (hl : Ints w A .u8 (Rl.spell l)) (hn : (Rl.spell l).length = n) (hc : n ≤ c) (hm : l.length = m) (hm1 : m ≤ 1000) (hmay : Rl.May l) :
    Calls Try.prog 10 #[.int .i64 1, .slice A n c] w (ListP l w) := by
  have HC := Lib.hid (plain_all A n c m l w hl hn hc hm hm1 hmay)
  clear hl hn hm hmay
  go_enter Try.func10, Try.ntmps10
  go_wp2_with (first
    | (go_at_call 15; refine (HC.out).mono ?_; rintro e w2 ⟨B, c2, rfl, h1, h2, h3⟩; have H1 := Lib.hid h1; have H2 := Lib.hid h2; have H3 := Lib.hid h3; clear h1 h2 h3))
  go_ret2
  exact ⟨B, c2, rfl, H1.out, H2.out, H3.out⟩
theorem spell_byts (l : List Int) (h : Rl.May l) : ∀ x ∈ Rl.spell l, 0 ≤ x ∧ x ≤ 255 := by
  induction l with
  | nil => intro x hx; cases hx
  | cons y t ih =>
    intro x hx
    simp only [Rl.spell, List.mem_append] at hx
    rcases hx with hx | hx
    · have := Rl.spell1_byts y (h y (by simp)) x hx
      exact this
    · exact ih (fun z hz => h z (by simp [hz])) x hx
set_option maxRecDepth 100000 in
set_option maxHeartbeats 4000000 in
theorem runs_packed (g N c m : Nat) (l : List Int) (w : World) (h : Ints w (some ⟨g, 0, none⟩) .u8 (Zl.pack (Rl.spell l))) (hN : (Zl.pack (Rl.spell l)).length = N) (hc : N ≤ c) (hm : l.length = m) (hm1 : m ≤ 1000) (hmay : Rl.May l) (hg : g < w.heap.size) :
    Calls Try.prog 10 #[.int .i64 2, .slice (some ⟨g, 0, none⟩) N c] w (ListP l w) := by
  have hsl := Rl.spell_len l
  obtain ⟨S, hS⟩ : ∃ S, S = Rl.spell l := ⟨_, rfl⟩
  have hNl := hN
  rw [Zl.pack_length] at hNl
  have hF : Zl.pack (Rl.spell l) = 120 :: 1 :: ((Zl.pack (Rl.spell l)).drop 2 ++ []) := by rw [List.append_nil]; rfl
  rw [hF] at h
  have HU := Lib.hid (heads_yes g N c 120 1 (Rl.spell l) [] w h (spell_byts l hmay) (fun x hx => by cases hx) (by omega) (by omega) (by omega) (by omega) (by omega) (by simp; omega) (by omega) hc hg 1048576 (by omega) (by omega) (by decide))
  rw [hNl] at HU
  have HP := Lib.hid (fun u K n2 cc (hi : Ints u K .u8 (Rl.spell l)) (hn2 : (Rl.spell l).length = n2) (hcc : n2 ≤ cc) => plain_all K n2 cc m l u hi hn2 hcc hm hm1 hmay)
  rw [← hS] at HU HP
  obtain ⟨n2, hn2⟩ : ∃ n2, n2 = S.length := ⟨_, rfl⟩
  have HN2 := Lib.hid hn2
  clear h hN hm hmay hF hNl hsl hS hn2
  go_enter Try.func10, Try.ntmps10
  go_wp2_with (first
    | (go_at_call 16
       refine HU.out.mono ?_
       rintro e w1 ⟨K1, c1, rfl, hc1, hi1, hb1⟩
       rw [← HN2.out]
       rw [← HN2.out] at hc1
       have HC1 := Lib.hid hc1
       have HI1 := Lib.hid hi1
       have HB1 := Lib.hid hb1
       clear hc1 hi1 hb1)
    | (go_at_call 15; refine (HP.out w1 K1 n2 c1 HI1.out HN2.out.symm HC1.out).mono ?_; rintro e w2 ⟨B, c2, rfl, h1, h2, h3⟩; have H1 := Lib.hid h1; have H2 := Lib.hid h2; have H3 := Lib.hid (HB1.out.trans (h3.mono HB1.out.size)); clear h1 h2 h3))
  go_ret2
  exact ⟨B, c2, rfl, H1.out, H2.out, H3.out⟩
end Go.Proofs.Ytbemlmpajnklpaa
