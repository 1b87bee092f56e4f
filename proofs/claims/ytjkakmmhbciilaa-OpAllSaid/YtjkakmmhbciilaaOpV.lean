/- squealref07.Read, whole. -/
import Derived.Test.YtjkakmmhbciilaaOpL
import Derived.Test.YtjkakmmhbciilaaOpM
import Derived.Test.YtjkakmmhbciilaaOpK
namespace Go.Proofs.Ytjkakmmhbciilaa
set_option linter.unusedSimpArgs false
set_option linter.unusedVariables false
open Go.RowKit
set_option maxRecDepth 100000 in
set_option maxHeartbeats 4000000 in
theorem ref_0 (A : Option Addr) (cap : Nat) (w : World) : Calls Try.prog 10 #[.slice A 0 cap] w (Reads (In.z, false) w) := by
  go_enter Try.func10, Try.ntmps10
  go_wp2_with fail
  refine bodyPost_ret (v := .tuple #[.agg #[.int .i64 0, .int .i64 0, .int .u8 0, .int .u8 0, .int .u16 0, .int .i64 0], .bool false]) (by simp [results, Try.results10, go_sem]) rfl ⟨rfl, ?_⟩
  repeat (with_reducible refine Below.setCell ?_ (by simp) _)
  exact (Below.refl _ _).alloc (Nat.le_refl _) _
set_option maxRecDepth 100000 in
set_option maxHeartbeats 4000000 in
/-- one byte alone: 203, 237, 221, or 253 -/
theorem ref_short (ad : Addr) (cap : Nat) (v : Int) (w : World) (hlt : ad.block < w.heap.size) (c0 : w.cell? ad = some (.int .u8 v)) (hv : v = 203 ∨ v = 237 ∨ v = 221 ∨ v = 253) :
    Calls Try.prog 10 #[.slice (some ad) 1 cap] w (Reads (In.z, false) w) := by
  rcases hv with rfl | rfl | rfl | rfl
  all_goals
    go_enter Try.func10, Try.ntmps10
    go_wp2_with fail
    refine bodyPost_ret (v := .tuple #[.agg #[.int .i64 0, .int .i64 0, .int .u8 0, .int .u8 0, .int .u16 0, .int .i64 0], .bool false]) (by simp [results, Try.results10, go_sem]) rfl ⟨rfl, ?_⟩
    repeat (with_reducible refine Below.setCell ?_ (by simp) _)
    exact (Below.refl _ _).alloc (Nat.le_refl _) _
set_option maxRecDepth 100000 in
set_option maxHeartbeats 4000000 in
theorem ref_cb (ad : Addr) (n cap : Nat) (x : Int) (w : World) (hlt : ad.block < w.heap.size) (c0 : w.cell? ad = some (.int .u8 203)) (c1 : w.cell? ⟨ad.block, ad.off + 1, none⟩ = some (.int .u8 x)) (hcap : n ≤ cap) (hcap2 : cap ≤ 9223372036854775807) (h2 : 2 ≤ n) :
    Calls Try.prog 10 #[.slice (some ad) n cap] w (Reads (⟨1, 0, x, 0, 0, 2⟩, true) w) := by
  go_enter Try.func10, Try.ntmps10
  go_wp2_with fail
  refine bodyPost_ret (v := .tuple #[.agg #[.int .i64 1, .int .i64 0, .int .u8 x, .int .u8 0, .int .u16 0, .int .i64 2], .bool true]) (by simp [results, Try.results10, go_sem]) rfl ⟨rfl, ?_⟩
  repeat (with_reducible refine Below.setCell ?_ (by simp) _)
  exact (Below.refl _ _).alloc (Nat.le_refl _) _
set_option maxRecDepth 100000 in
set_option maxHeartbeats 4000000 in
theorem ref_ed (ad : Addr) (n cap : Nat) (x : Int) (w : World) (hlt : ad.block < w.heap.size) (c0 : w.cell? ad = some (.int .u8 237)) (c1 : w.cell? ⟨ad.block, ad.off + 1, none⟩ = some (.int .u8 x)) (hx : B8 x) (hcap : n ≤ cap) (hcap2 : cap ≤ 9223372036854775807) (h2 : 2 ≤ n)
    (hk : ¬ (x / 64 = 1 ∧ x % 8 = 3)) : Calls Try.prog 10 #[.slice (some ad) n cap] w (Reads (⟨2, 0, x, 0, 0, 2⟩, true) w) := by
  obtain ⟨x0, x1⟩ := hx
  have kk : x < 64 ∨ 128 ≤ x ∨ (64 ≤ x ∧ x < 128 ∧ x % 8 ≠ 3) := by omega
  clear hk
  rcases kk with kk | kk | ⟨k1, k2, k3⟩
  · go_enter Try.func10, Try.ntmps10
    go_wp2_with fail
    refine bodyPost_ret (v := .tuple #[.agg #[.int .i64 2, .int .i64 0, .int .u8 x, .int .u8 0, .int .u16 0, .int .i64 2], .bool true]) (by simp [results, Try.results10, go_sem]) rfl ⟨rfl, ?_⟩
    repeat (with_reducible refine Below.setCell ?_ (by simp) _)
    exact (Below.refl _ _).alloc (Nat.le_refl _) _
  · go_enter Try.func10, Try.ntmps10
    go_wp2_with fail
    refine bodyPost_ret (v := .tuple #[.agg #[.int .i64 2, .int .i64 0, .int .u8 x, .int .u8 0, .int .u16 0, .int .i64 2], .bool true]) (by simp [results, Try.results10, go_sem]) rfl ⟨rfl, ?_⟩
    repeat (with_reducible refine Below.setCell ?_ (by simp) _)
    exact (Below.refl _ _).alloc (Nat.le_refl _) _
  · have kb : (x % 8 == 3) = false := by simp [k3]
    clear k3
    go_enter Try.func10, Try.ntmps10
    go_wp2_with fail
    refine bodyPost_ret (v := .tuple #[.agg #[.int .i64 2, .int .i64 0, .int .u8 x, .int .u8 0, .int .u16 0, .int .i64 2], .bool true]) (by simp [results, Try.results10, go_sem]) rfl ⟨rfl, ?_⟩
    repeat (with_reducible refine Below.setCell ?_ (by simp) _)
    exact (Below.refl _ _).alloc (Nat.le_refl _) _
set_option maxRecDepth 100000 in
set_option maxHeartbeats 4000000 in
theorem ref_ed_n (ad : Addr) (n cap : Nat) (x : Int) (w : World) (hlt : ad.block < w.heap.size) (c0 : w.cell? ad = some (.int .u8 237)) (c1 : w.cell? ⟨ad.block, ad.off + 1, none⟩ = some (.int .u8 x)) (hcap : n ≤ cap) (hcap2 : cap ≤ 9223372036854775807) (h2 : 2 ≤ n) (h4 : n < 4)
    (k1 : 64 ≤ x) (k2 : x < 128) (k3 : (x % 8 == 3) = true) : Calls Try.prog 10 #[.slice (some ad) n cap] w (Reads (In.z, false) w) := by
  go_enter Try.func10, Try.ntmps10
  go_wp2_with fail
  refine bodyPost_ret (v := .tuple #[.agg #[.int .i64 0, .int .i64 0, .int .u8 0, .int .u8 0, .int .u16 0, .int .i64 0], .bool false]) (by simp [results, Try.results10, go_sem]) rfl ⟨rfl, ?_⟩
  repeat (with_reducible refine Below.setCell ?_ (by simp) _)
  exact (Below.refl _ _).alloc (Nat.le_refl _) _
set_option maxRecDepth 100000 in
set_option maxHeartbeats 4000000 in
theorem ref_ed_2 (ad : Addr) (n cap : Nat) (x p q : Int) (w : World) (hlt : ad.block < w.heap.size) (c0 : w.cell? ad = some (.int .u8 237)) (c1 : w.cell? ⟨ad.block, ad.off + 1, none⟩ = some (.int .u8 x)) (c2 : w.cell? ⟨ad.block, ad.off + 2, none⟩ = some (.int .u8 p)) (c3 : w.cell? ⟨ad.block, ad.off + 3, none⟩ = some (.int .u8 q))
    (hp : B8 p) (hq : B8 q) (hcap : n ≤ cap) (hcap2 : cap ≤ 9223372036854775807) (h4 : 4 ≤ n)
    (k1 : 64 ≤ x) (k2 : x < 128) (k3 : (x % 8 == 3) = true) : Calls Try.prog 10 #[.slice (some ad) n cap] w (Reads (⟨2, 0, x, 0, p + 256 * q, 4⟩, true) w) := by
  obtain ⟨p0, p1⟩ := hp
  obtain ⟨q0, q1⟩ := hq
  have e2 : IntKind.i64.wrap (256 * q) = 256 * q := by rw [IntKind.wrap_i64]; omega
  have e3 : IntKind.i64.wrap (p + 256 * q) = p + 256 * q := by rw [IntKind.wrap_i64]; omega
  have e4 : IntKind.u16.wrap (p + 256 * q) = p + 256 * q := by rw [IntKind.wrap_u16]; omega
  go_enter Try.func10, Try.ntmps10
  go_wp2_with fail
  go_region
  all_goals
    go_wp2_with fail
    refine bodyPost_ret (v := .tuple #[.agg #[.int .i64 2, .int .i64 0, .int .u8 x, .int .u8 0, .int .u16 (p + 256 * q), .int .i64 4], .bool true]) (by simp [results, Try.results10, go_sem]) rfl ⟨rfl, ?_⟩
    repeat (with_reducible refine Below.setCell ?_ (by simp) _)
    first | exact ((Below.refl _ _).alloc (Nat.le_refl _) _).drew | exact (Below.refl _ _).alloc (Nat.le_refl _) _
set_option maxRecDepth 100000 in
set_option maxHeartbeats 4000000 in
theorem ref_alone (ad : Addr) (n cap : Nat) (ix v x : Int) (w : World) (hlt : ad.block < w.heap.size) (c0 : w.cell? ad = some (.int .u8 v)) (c1 : w.cell? ⟨ad.block, ad.off + 1, none⟩ = some (.int .u8 x)) (hcap : n ≤ cap) (hcap2 : cap ≤ 9223372036854775807) (h2 : 2 ≤ n)
    (hv : v = 221 ∧ ix = 1 ∨ v = 253 ∧ ix = 2) (hx : x = 221 ∨ x = 237 ∨ x = 253) : Calls Try.prog 10 #[.slice (some ad) n cap] w (Reads (⟨4, ix, 0, 0, 0, 1⟩, true) w) := by
  rcases hv with ⟨rfl, rfl⟩ | ⟨rfl, rfl⟩
  · rcases hx with rfl | rfl | rfl
    all_goals
      go_enter Try.func10, Try.ntmps10
      go_wp2_with fail
      refine bodyPost_ret (v := .tuple #[.agg #[.int .i64 4, .int .i64 1, .int .u8 0, .int .u8 0, .int .u16 0, .int .i64 1], .bool true]) (by simp [results, Try.results10, go_sem]) rfl ⟨rfl, ?_⟩
      repeat (with_reducible refine Below.setCell ?_ (by simp) _)
      exact (Below.refl _ _).alloc (Nat.le_refl _) _
  · rcases hx with rfl | rfl | rfl
    all_goals
      go_enter Try.func10, Try.ntmps10
      go_wp2_with fail
      refine bodyPost_ret (v := .tuple #[.agg #[.int .i64 4, .int .i64 2, .int .u8 0, .int .u8 0, .int .u16 0, .int .i64 1], .bool true]) (by simp [results, Try.results10, go_sem]) rfl ⟨rfl, ?_⟩
      repeat (with_reducible refine Below.setCell ?_ (by simp) _)
      exact (Below.refl _ _).alloc (Nat.le_refl _) _
set_option maxRecDepth 100000 in
set_option maxHeartbeats 4000000 in
theorem ref_precb_n (ad : Addr) (n cap : Nat) (ix v : Int) (w : World) (hlt : ad.block < w.heap.size) (c0 : w.cell? ad = some (.int .u8 v)) (c1 : w.cell? ⟨ad.block, ad.off + 1, none⟩ = some (.int .u8 203)) (hcap : n ≤ cap) (hcap2 : cap ≤ 9223372036854775807) (h2 : 2 ≤ n) (h4 : n < 4)
    (hv : v = 221 ∧ ix = 1 ∨ v = 253 ∧ ix = 2) : Calls Try.prog 10 #[.slice (some ad) n cap] w (Reads (In.z, false) w) := by
  rcases hv with ⟨rfl, rfl⟩ | ⟨rfl, rfl⟩
  all_goals
    go_enter Try.func10, Try.ntmps10
    go_wp2_with fail
    refine bodyPost_ret (v := .tuple #[.agg #[.int .i64 0, .int .i64 0, .int .u8 0, .int .u8 0, .int .u16 0, .int .i64 0], .bool false]) (by simp [results, Try.results10, go_sem]) rfl ⟨rfl, ?_⟩
    repeat (with_reducible refine Below.setCell ?_ (by simp) _)
    exact (Below.refl _ _).alloc (Nat.le_refl _) _
set_option maxRecDepth 100000 in
set_option maxHeartbeats 4000000 in
theorem ref_precb (ad : Addr) (n cap : Nat) (ix v d c : Int) (w : World) (hlt : ad.block < w.heap.size) (c0 : w.cell? ad = some (.int .u8 v)) (c1 : w.cell? ⟨ad.block, ad.off + 1, none⟩ = some (.int .u8 203)) (c2 : w.cell? ⟨ad.block, ad.off + 2, none⟩ = some (.int .u8 d)) (c3 : w.cell? ⟨ad.block, ad.off + 3, none⟩ = some (.int .u8 c))
    (hcap : n ≤ cap) (hcap2 : cap ≤ 9223372036854775807) (h4 : 4 ≤ n)
    (hv : v = 221 ∧ ix = 1 ∨ v = 253 ∧ ix = 2) : Calls Try.prog 10 #[.slice (some ad) n cap] w (Reads (⟨3, ix, c, d, 0, 4⟩, true) w) := by
  rcases hv with ⟨rfl, rfl⟩ | ⟨rfl, rfl⟩
  · go_enter Try.func10, Try.ntmps10
    go_wp2_with fail
    go_region
    all_goals
      go_wp2_with fail
      refine bodyPost_ret (v := .tuple #[.agg #[.int .i64 3, .int .i64 1, .int .u8 c, .int .u8 d, .int .u16 0, .int .i64 4], .bool true]) (by simp [results, Try.results10, go_sem]) rfl ⟨rfl, ?_⟩
      repeat (with_reducible refine Below.setCell ?_ (by simp) _)
      first | exact ((Below.refl _ _).alloc (Nat.le_refl _) _).drew | exact (Below.refl _ _).alloc (Nat.le_refl _) _
  · go_enter Try.func10, Try.ntmps10
    go_wp2_with fail
    go_region
    all_goals
      go_wp2_with fail
      refine bodyPost_ret (v := .tuple #[.agg #[.int .i64 3, .int .i64 2, .int .u8 c, .int .u8 d, .int .u16 0, .int .i64 4], .bool true]) (by simp [results, Try.results10, go_sem]) rfl ⟨rfl, ?_⟩
      repeat (with_reducible refine Below.setCell ?_ (by simp) _)
      first | exact ((Below.refl _ _).alloc (Nat.le_refl _) _).drew | exact (Below.refl _ _).alloc (Nat.le_refl _) _
end Go.Proofs.Ytjkakmmhbciilaa
