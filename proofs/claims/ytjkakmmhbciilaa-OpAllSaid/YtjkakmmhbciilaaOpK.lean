/- Package op: Read behind 221, or 253. -/
import Derived.Test.YtjkakmmhbciilaaOpJ
namespace Go.Proofs.Ytjkakmmhbciilaa
set_option linter.unusedSimpArgs false
set_option linter.unusedVariables false
open Go.RowKit
set_option maxHeartbeats 1000000 in
theorem read_pre_short (ad : Addr) (cap : Nat) (ix v : Int) (w : World) (hlt : ad.block < w.heap.size) (c0 : w.cell? ad = some (.int .u8 v)) (hv : v = 221 ∧ ix = 1 ∨ v = 253 ∧ ix = 2) :
    Calls Try.prog 9 #[.slice (some ad) 1 cap] w (Reads (In.z, false) w) := by
  rcases hv with ⟨rfl, rfl⟩ | ⟨rfl, rfl⟩
  all_goals
    go_enter Try.func9, Try.ntmps9
    go_wp2_with fail
    refine bodyPost_ret (v := .tuple #[.agg #[.int .i64 0, .int .i64 0, .int .u8 0, .int .u8 0, .int .u16 0, .int .i64 0], .bool false]) (by simp [results, Try.results9, go_sem]) rfl ⟨rfl, ?_⟩
    repeat (with_reducible refine Below.setCell ?_ (by simp) _)
    exact (Below.refl _ _).alloc (Nat.le_refl _) _
set_option maxHeartbeats 2000000 in
theorem read_pre_alone (ad : Addr) (n cap : Nat) (ix v x : Int) (w : World) (hlt : ad.block < w.heap.size) (c0 : w.cell? ad = some (.int .u8 v)) (c1 : w.cell? ⟨ad.block, ad.off + 1, none⟩ = some (.int .u8 x)) (hcap : n ≤ cap) (hcap2 : cap ≤ 9223372036854775807) (h2 : 2 ≤ n)
    (hv : v = 221 ∧ ix = 1 ∨ v = 253 ∧ ix = 2) (hx : x = 221 ∨ x = 237 ∨ x = 253) : Calls Try.prog 9 #[.slice (some ad) n cap] w (Reads (⟨4, ix, 0, 0, 0, 1⟩, true) w) := by
  rcases hv with ⟨rfl, rfl⟩ | ⟨rfl, rfl⟩
  · rcases hx with rfl | rfl | rfl
    all_goals
      go_enter Try.func9, Try.ntmps9
      go_wp2_with fail
      refine bodyPost_ret (v := .tuple #[.agg #[.int .i64 4, .int .i64 1, .int .u8 0, .int .u8 0, .int .u16 0, .int .i64 1], .bool true]) (by simp [results, Try.results9, go_sem]) rfl ⟨rfl, ?_⟩
      repeat (with_reducible refine Below.setCell ?_ (by simp) _)
      exact (Below.refl _ _).alloc (Nat.le_refl _) _
  · rcases hx with rfl | rfl | rfl
    all_goals
      go_enter Try.func9, Try.ntmps9
      go_wp2_with fail
      refine bodyPost_ret (v := .tuple #[.agg #[.int .i64 4, .int .i64 2, .int .u8 0, .int .u8 0, .int .u16 0, .int .i64 1], .bool true]) (by simp [results, Try.results9, go_sem]) rfl ⟨rfl, ?_⟩
      repeat (with_reducible refine Below.setCell ?_ (by simp) _)
      exact (Below.refl _ _).alloc (Nat.le_refl _) _
set_option maxHeartbeats 2000000 in
theorem read_pre_cb_short (ad : Addr) (n cap : Nat) (ix v : Int) (w : World) (hlt : ad.block < w.heap.size) (c0 : w.cell? ad = some (.int .u8 v)) (c1 : w.cell? ⟨ad.block, ad.off + 1, none⟩ = some (.int .u8 203)) (hcap : n ≤ cap) (hcap2 : cap ≤ 9223372036854775807) (h2 : 2 ≤ n) (h4 : n < 4)
    (hv : v = 221 ∧ ix = 1 ∨ v = 253 ∧ ix = 2) : Calls Try.prog 9 #[.slice (some ad) n cap] w (Reads (In.z, false) w) := by
  rcases hv with ⟨rfl, rfl⟩ | ⟨rfl, rfl⟩
  all_goals
    go_enter Try.func9, Try.ntmps9
    go_wp2_with fail
    refine bodyPost_ret (v := .tuple #[.agg #[.int .i64 0, .int .i64 0, .int .u8 0, .int .u8 0, .int .u16 0, .int .i64 0], .bool false]) (by simp [results, Try.results9, go_sem]) rfl ⟨rfl, ?_⟩
    repeat (with_reducible refine Below.setCell ?_ (by simp) _)
    exact (Below.refl _ _).alloc (Nat.le_refl _) _
set_option maxHeartbeats 2000000 in
theorem read_pre_cb (ad : Addr) (n cap : Nat) (ix v d c : Int) (w : World) (hlt : ad.block < w.heap.size) (c0 : w.cell? ad = some (.int .u8 v)) (c1 : w.cell? ⟨ad.block, ad.off + 1, none⟩ = some (.int .u8 203)) (c2 : w.cell? ⟨ad.block, ad.off + 2, none⟩ = some (.int .u8 d)) (c3 : w.cell? ⟨ad.block, ad.off + 3, none⟩ = some (.int .u8 c))
    (hcap : n ≤ cap) (hcap2 : cap ≤ 9223372036854775807) (h4 : 4 ≤ n)
    (hv : v = 221 ∧ ix = 1 ∨ v = 253 ∧ ix = 2) : Calls Try.prog 9 #[.slice (some ad) n cap] w (Reads (⟨3, ix, c, d, 0, 4⟩, true) w) := by
  rcases hv with ⟨rfl, rfl⟩ | ⟨rfl, rfl⟩
  · go_enter Try.func9, Try.ntmps9
    go_wp2_with fail
    go_region
    all_goals
      go_wp2_with fail
      refine bodyPost_ret (v := .tuple #[.agg #[.int .i64 3, .int .i64 1, .int .u8 c, .int .u8 d, .int .u16 0, .int .i64 4], .bool true]) (by simp [results, Try.results9, go_sem]) rfl ⟨rfl, ?_⟩
      repeat (with_reducible refine Below.setCell ?_ (by simp) _)
      first | exact ((Below.refl _ _).alloc (Nat.le_refl _) _).drew | exact (Below.refl _ _).alloc (Nat.le_refl _) _
  · go_enter Try.func9, Try.ntmps9
    go_wp2_with fail
    go_region
    all_goals
      go_wp2_with fail
      refine bodyPost_ret (v := .tuple #[.agg #[.int .i64 3, .int .i64 2, .int .u8 c, .int .u8 d, .int .u16 0, .int .i64 4], .bool true]) (by simp [results, Try.results9, go_sem]) rfl ⟨rfl, ?_⟩
      repeat (with_reducible refine Below.setCell ?_ (by simp) _)
      first | exact ((Below.refl _ _).alloc (Nat.le_refl _) _).drew | exact (Below.refl _ _).alloc (Nat.le_refl _) _
set_option maxHeartbeats 6000000 in
theorem read_pre_plain (ad : Addr) (n cap : Nat) (ix v : Int) (l : List Int) (w : World) (h : Bys w ad n cap l) (h1 : 2 ≤ n) (h0 : l.getD 0 0 = v) (hv : v = 221 ∧ ix = 1 ∨ v = 253 ∧ ix = 2) (h2 : ¬ (l.getD 1 0 = 221 ∨ l.getD 1 0 = 237 ∨ l.getD 1 0 = 253)) (h3 : l.getD 1 0 ≠ 203) :
    Calls Try.prog 9 #[.slice (some ad) n cap] w (Reads (tailS l ⟨0, ix, l.getD 1 0, 0, 0, 0⟩ 2 (Mi.argsS (l.getD 1 0)).toNat) w) := by
  have hlt := h.lt (by omega)
  obtain ⟨c0, -, _⟩ := h.at0 (by omega)
  rw [h0] at c0
  obtain ⟨c1, b0⟩ := h.at_ 0 (by omega)
  simp only [Nat.zero_add] at c1
  have ran := argsS_ran _ b0.1 b0.2
  have hA := fun w' => args_any (l.getD 1 0) w' b0.1 b0.2
  have hix : 0 < ix := by omega
  have hT := fun (w' : World) (hB : Below w.heap.size w w') => tailB_any ad n cap l (l.getD 1 0) ix (Mi.argsS (l.getD 1 0)) w' (h.below hB) h1 hix b0.1 b0.2 ran.1 ran.2
  obtain ⟨R, hR⟩ : ∃ R, R = tailS l ⟨0, ix, l.getD 1 0, 0, 0, 0⟩ 2 (Mi.argsS (l.getD 1 0)).toNat := ⟨_, rfl⟩
  rw [← hR]
  simp only [← hR] at hT
  clear hR
  obtain ⟨⟨s, i, c, d, m, ln⟩, ok⟩ := R
  obtain ⟨a, ha⟩ : ∃ a, a = Mi.argsS (l.getD 1 0) := ⟨_, rfl⟩
  simp only [← ha] at hT hA
  obtain ⟨y, hy⟩ : ∃ y, y = l.getD 1 0 := ⟨_, rfl⟩
  rw [← hy] at c1 h2 h3
  simp only [← hy] at hT hA
  have HA := Lib.hid hA
  have HT : Hid (∀ w', Below w.heap.size w w' → Calls Try.prog 19 #[.slice (some ad) n cap, .agg #[.int .i64 0, .int .i64 ix, .int .u8 y, .int .u8 0, .int .u16 0, .int .i64 0], .int .i64 2, .int .i64 a] w' (ReadsL s i c d m ln ok w')) := hT
  have k1 : (y == 221) = false := by simp; intro e; exact h2 (.inl e)
  have k2 : (y == 237) = false := by simp; intro e; exact h2 (.inr (.inl e))
  have k3 : (y == 253) = false := by simp; intro e; exact h2 (.inr (.inr e))
  have k4 : (y == 203) = false := by simp [h3]
  clear hT h b0 hy ha hA ran h2 h3 h0 hix
  rcases hv with ⟨rfl, rfl⟩ | ⟨rfl, rfl⟩
  all_goals
    go_enter Try.func9, Try.ntmps9
    go_wp2_with fail
    go_region_with (first
      | (go_at_call 14; refine (HA.out _).mono ?_; rintro e w' ⟨rfl, rfl⟩)
      | (go_at_call 19; refine (HT.out _ (((Below.refl _ _).alloc (Nat.le_refl _) _).drew)).mono ?_; rintro e w' ⟨rfl, hb⟩; obtain ⟨hc, hf⟩ := bcell hb))
    all_goals
      go_wp2_with fail
      refine bodyPost_ret (v := .tuple #[.agg #[.int .i64 s, .int .i64 i, .int .u8 c, .int .u8 d, .int .u16 m, .int .i64 ln], .bool ok]) (by simp [results, Try.results9, go_sem, hc]) rfl ⟨rfl, ?_⟩
      repeat (with_reducible refine Below.setCell ?_ (by simp) _)
      exact (((Below.refl _ w).alloc (Nat.le_refl _) _).drew).trans (hb.mono (by simp))
/-- Read, whole -/
theorem read_any (ad : Addr) (n cap : Nat) (l : List Int) (w : World) (h : Bys w ad n cap l) : Calls Try.prog 9 #[.slice (some ad) n cap] w (Reads (readS l) w) := by
  have hn := h.len
  unfold readS
  by_cases k0 : n = 0
  · subst k0
    rw [if_pos hn]
    exact read_0 _ _ _
  rw [if_neg (by omega)]
  obtain ⟨c0, b0, _⟩ := h.at0 (by omega)
  have hlt := h.lt (by omega)
  by_cases k1 : l.getD 0 0 = 203 ∨ l.getD 0 0 = 237
  · rw [if_pos k1]
    exact read_second ad n cap l w h (by omega) k1
  rw [if_neg k1]
  by_cases k2 : l.getD 0 0 = 221 ∨ l.getD 0 0 = 253
  · obtain ⟨ix, hix⟩ : ∃ ix : Int, l.getD 0 0 = 221 ∧ ix = 1 ∨ l.getD 0 0 = 253 ∧ ix = 2 := by
      rcases k2 with k | k
      · exact ⟨1, .inl ⟨k, rfl⟩⟩
      · exact ⟨2, .inr ⟨k, rfl⟩⟩
    have e : (if l.getD 0 0 = 221 then preS l 1 else if l.getD 0 0 = 253 then preS l 2 else tailS l ⟨0, 0, l.getD 0 0, 0, 0, 0⟩ 1 (Mi.argsS (l.getD 0 0)).toNat) = preS l ix := by
      rcases hix with ⟨k, rfl⟩ | ⟨k, rfl⟩
      · rw [if_pos k]
      · rw [if_neg (by omega), if_pos k]
    rw [e]
    unfold preS
    by_cases m2 : n < 2
    · obtain rfl : n = 1 := by omega
      rw [if_pos (by omega)]
      exact read_pre_short ad cap ix _ w hlt c0 hix
    rw [if_neg (by omega)]
    obtain ⟨c1, b1⟩ := h.at_ 0 (by omega)
    by_cases m3 : l.getD 1 0 = 221 ∨ l.getD 1 0 = 237 ∨ l.getD 1 0 = 253
    · rw [if_pos m3]
      exact read_pre_alone ad n cap ix _ _ w hlt c0 c1 h.capLe h.capMax (by omega) hix m3
    rw [if_neg m3]
    by_cases m4 : l.getD 1 0 = 203
    · rw [if_pos m4]
      simp only [Nat.zero_add] at c1
      rw [m4] at c1
      by_cases m5 : n < 4
      · rw [if_pos (by omega)]
        exact read_pre_cb_short ad n cap ix _ w hlt c0 c1 h.capLe h.capMax (by omega) m5 hix
      · rw [if_neg (by omega)]
        obtain ⟨c2, b2⟩ := h.at_ 1 (by omega)
        obtain ⟨c3, b3⟩ := h.at_ 2 (by omega)
        exact read_pre_cb ad n cap ix _ _ _ w hlt c0 c1 c2 c3 h.capLe h.capMax (by omega) hix
    rw [if_neg m4]
    exact read_pre_plain ad n cap ix _ l w h (by omega) rfl hix m3 m4
  · have h3 : l.getD 0 0 ≠ 221 := fun k => k2 (.inl k)
    have h4 : l.getD 0 0 ≠ 253 := fun k => k2 (.inr k)
    rw [if_neg h3, if_neg h4]
    exact read_plain ad n cap l w h (by omega) k1 h3 h4
end Go.Proofs.Ytjkakmmhbciilaa
