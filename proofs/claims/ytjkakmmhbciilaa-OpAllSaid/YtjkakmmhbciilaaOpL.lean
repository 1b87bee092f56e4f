/- squealref07.Read: plain codes. -/
import Derived.Test.YtjkakmmhbciilaaOpJ
import Derived.Test.YtjkakmmhbciilaaOpE
import Derived.BigRegion
namespace Go.Proofs.Ytjkakmmhbciilaa
set_option linter.unusedSimpArgs false
set_option linter.unusedVariables false
open Go.RowKit
set_option maxRecDepth 100000 in
set_option maxHeartbeats 8000000 in
theorem refE_0 (ad : Addr) (n cap : Nat) (y : Int) (w : World) (hlt : ad.block < w.heap.size) (hcap : n ≤ cap) (hcap2 : cap ≤ 9223372036854775807) (y0 : 0 ≤ y) (y1 : y ≤ 255) (c0 : w.cell? ad = some (.int .u8 y)) (k1 : (y == 203) = false) (k2 : (y == 237) = false) (k3 : (y == 221) = false) (k4 : (y == 253) = false) (ha : Mi.args7 y = 0) (hn : 1 ≤ n) :
    Calls Try.prog 10 #[.slice (some ad) n cap] w (Reads (⟨0, 0, y, 0, 0, 1⟩, true) w) := by
  have HA := Lib.hid (fun w' => args7_any y w' y0 y1)
  rw [ha] at HA
  clear ha
  go_enter Try.func10, Try.ntmps10
  go_wp2_with (first
    | (go_at_call 15; refine (HA.out _).mono ?_; rintro e w2 ⟨rfl, hb2⟩; obtain ⟨hc2, hf2⟩ := bcell hb2; have hq2 := (fun o => hc2 w.heap.size o (by simp; try omega)); have hr2 := (fun o => hc2 ad.block o (by simp; omega)); have hy : w.heap.size + 1 < w2.heap.size := (by have := hb2.size; simp at this; omega); have hy2 : w.heap.size < w2.heap.size := (by omega); have hy3 : ad.block < w2.heap.size := (by omega)))
  refine bodyPost_ret (v := .tuple #[.agg #[.int .i64 0, .int .i64 0, .int .u8 y, .int .u8 0, .int .u16 0, .int .i64 1], .bool true]) (by simp [results, Try.results10, go_sem, hq2]) rfl ⟨rfl, ?_⟩
  repeat (with_reducible refine Below.setCell ?_ (by simp) _)
  refine Below.trans ?_ (hb2.mono (by simp; omega))
  repeat (with_reducible refine Below.setCell ?_ (by simp) _)
  exact ((Below.refl _ _).alloc (Nat.le_refl _) _).alloc (by simp) _
set_option maxRecDepth 100000 in
set_option maxHeartbeats 8000000 in
theorem refE_1 (ad : Addr) (n cap : Nat) (y p : Int) (w : World) (hlt : ad.block < w.heap.size) (hcap : n ≤ cap) (hcap2 : cap ≤ 9223372036854775807) (y0 : 0 ≤ y) (y1 : y ≤ 255) (c0 : w.cell? ad = some (.int .u8 y)) (k1 : (y == 203) = false) (k2 : (y == 237) = false) (k3 : (y == 221) = false) (k4 : (y == 253) = false) (cp : w.cell? ⟨ad.block, ad.off + 1, none⟩ = some (.int .u8 p)) (bp : B8 p) (ha : Mi.args7 y = 1) (hn : 2 ≤ n) :
    Calls Try.prog 10 #[.slice (some ad) n cap] w (Reads (⟨0, 0, y, 0, p, 2⟩, true) w) := by
  have HA := Lib.hid (fun w' => args7_any y w' y0 y1)
  rw [ha] at HA
  clear ha
  obtain ⟨p0, p1⟩ := bp
  have e1 : IntKind.u16.wrap p = p := by rw [IntKind.wrap_u16]; omega
  go_enter Try.func10, Try.ntmps10
  go_wp2_with (first
    | (go_at_call 15; refine (HA.out _).mono ?_; rintro e w2 ⟨rfl, hb2⟩; obtain ⟨hc2, hf2⟩ := bcell hb2; have hq2 := (fun o => hc2 w.heap.size o (by simp; try omega)); have hr2 := (fun o => hc2 ad.block o (by simp; omega)); have hy : w.heap.size + 1 < w2.heap.size := (by have := hb2.size; simp at this; omega); have hy2 : w.heap.size < w2.heap.size := (by omega); have hy3 : ad.block < w2.heap.size := (by omega)))
  refine bodyPost_ret (v := .tuple #[.agg #[.int .i64 0, .int .i64 0, .int .u8 y, .int .u8 0, .int .u16 p, .int .i64 2], .bool true]) (by simp [results, Try.results10, go_sem, hq2]) rfl ⟨rfl, ?_⟩
  repeat (with_reducible refine Below.setCell ?_ (by simp) _)
  refine Below.trans ?_ (hb2.mono (by simp; omega))
  repeat (with_reducible refine Below.setCell ?_ (by simp) _)
  exact ((Below.refl _ _).alloc (Nat.le_refl _) _).alloc (by simp) _
set_option maxRecDepth 100000 in
set_option maxHeartbeats 8000000 in
theorem refE_1n (ad : Addr) (n cap : Nat) (y : Int) (w : World) (hlt : ad.block < w.heap.size) (hcap : n ≤ cap) (hcap2 : cap ≤ 9223372036854775807) (y0 : 0 ≤ y) (y1 : y ≤ 255) (c0 : w.cell? ad = some (.int .u8 y)) (k1 : (y == 203) = false) (k2 : (y == 237) = false) (k3 : (y == 221) = false) (k4 : (y == 253) = false) (ha : Mi.args7 y = 1) (hn : 1 ≤ n) (hn2 : n < 2) :
    Calls Try.prog 10 #[.slice (some ad) n cap] w (Reads (In.z, false) w) := by
  have HA := Lib.hid (fun w' => args7_any y w' y0 y1)
  rw [ha] at HA
  clear ha
  go_enter Try.func10, Try.ntmps10
  go_wp2_with (first
    | (go_at_call 15; refine (HA.out _).mono ?_; rintro e w2 ⟨rfl, hb2⟩; obtain ⟨hc2, hf2⟩ := bcell hb2; have hq2 := (fun o => hc2 w.heap.size o (by simp; try omega)); have hr2 := (fun o => hc2 ad.block o (by simp; omega)); have hy : w.heap.size + 1 < w2.heap.size := (by have := hb2.size; simp at this; omega); have hy2 : w.heap.size < w2.heap.size := (by omega); have hy3 : ad.block < w2.heap.size := (by omega)))
  refine bodyPost_ret (v := .tuple #[.agg #[.int .i64 0, .int .i64 0, .int .u8 0, .int .u8 0, .int .u16 0, .int .i64 0], .bool false]) (by simp [results, Try.results10, go_sem, hq2]) rfl ⟨rfl, ?_⟩
  repeat (with_reducible refine Below.setCell ?_ (by simp) _)
  refine Below.trans ?_ (hb2.mono (by simp; omega))
  repeat (with_reducible refine Below.setCell ?_ (by simp) _)
  exact ((Below.refl _ _).alloc (Nat.le_refl _) _).alloc (by simp) _
set_option maxRecDepth 100000 in
set_option maxHeartbeats 8000000 in
theorem refE_2 (ad : Addr) (n cap : Nat) (y p q : Int) (w : World) (hlt : ad.block < w.heap.size) (hcap : n ≤ cap) (hcap2 : cap ≤ 9223372036854775807) (y0 : 0 ≤ y) (y1 : y ≤ 255) (c0 : w.cell? ad = some (.int .u8 y)) (k1 : (y == 203) = false) (k2 : (y == 237) = false) (k3 : (y == 221) = false) (k4 : (y == 253) = false) (cp : w.cell? ⟨ad.block, ad.off + 1, none⟩ = some (.int .u8 p)) (bp : B8 p) (cq : w.cell? ⟨ad.block, ad.off + 2, none⟩ = some (.int .u8 q)) (bq : B8 q) (ha : Mi.args7 y = 2) (hn : 3 ≤ n) :
    Calls Try.prog 10 #[.slice (some ad) n cap] w (Reads (⟨0, 0, y, 0, (p + 256 * q), 3⟩, true) w) := by
  have HA := Lib.hid (fun w' => args7_any y w' y0 y1)
  rw [ha] at HA
  clear ha
  obtain ⟨p0, p1⟩ := bp
  obtain ⟨q0, q1⟩ := bq
  have e1 : IntKind.u16.wrap p = p := by rw [IntKind.wrap_u16]; omega
  have e2 : IntKind.i64.wrap (256 * q) = 256 * q := by rw [IntKind.wrap_i64]; omega
  have e3 : IntKind.i64.wrap (p + 256 * q) = p + 256 * q := by rw [IntKind.wrap_i64]; omega
  have e4 : IntKind.u16.wrap (p + 256 * q) = p + 256 * q := by rw [IntKind.wrap_u16]; omega
  go_enter Try.func10, Try.ntmps10
  go_wp2_with (first
    | (go_at_call 15; refine (HA.out _).mono ?_; rintro e w2 ⟨rfl, hb2⟩; obtain ⟨hc2, hf2⟩ := bcell hb2; have hq2 := (fun o => hc2 w.heap.size o (by simp; try omega)); have hr2 := (fun o => hc2 ad.block o (by simp; omega)); have hy : w.heap.size + 1 < w2.heap.size := (by have := hb2.size; simp at this; omega); have hy2 : w.heap.size < w2.heap.size := (by omega); have hy3 : ad.block < w2.heap.size := (by omega)))
  have hx : (w2.setCell ⟨w.heap.size + 1, 4, none⟩ (.int .u16 p)).cell? ⟨w.heap.size + 1, 4, none⟩ = some (.int .u16 p) := World.cell?_setCell_same (u := .int .u16 0) _ _ _ ((hc2 (w.heap.size + 1) 4 (by simp)).trans (by simp))
  go_region
  all_goals
    go_wp2_with fail
    refine bodyPost_ret (v := .tuple #[.agg #[.int .i64 0, .int .i64 0, .int .u8 y, .int .u8 0, .int .u16 (p + 256 * q), .int .i64 3], .bool true]) (by simp [results, Try.results10, go_sem, hq2]) rfl ⟨rfl, ?_⟩
    repeat (with_reducible refine Below.setCell ?_ (by simp) _)
    refine Below.drew ?_
    repeat (with_reducible refine Below.setCell ?_ (by simp) _)
    refine Below.trans ?_ (hb2.mono (by simp; omega))
    repeat (with_reducible refine Below.setCell ?_ (by simp) _)
    exact ((Below.refl _ _).alloc (Nat.le_refl _) _).alloc (by simp) _
set_option maxRecDepth 100000 in
set_option maxHeartbeats 8000000 in
theorem refE_2n (ad : Addr) (n cap : Nat) (y : Int) (w : World) (hlt : ad.block < w.heap.size) (hcap : n ≤ cap) (hcap2 : cap ≤ 9223372036854775807) (y0 : 0 ≤ y) (y1 : y ≤ 255) (c0 : w.cell? ad = some (.int .u8 y)) (k1 : (y == 203) = false) (k2 : (y == 237) = false) (k3 : (y == 221) = false) (k4 : (y == 253) = false) (ha : Mi.args7 y = 2) (hn : 1 ≤ n) (hn2 : n < 3) :
    Calls Try.prog 10 #[.slice (some ad) n cap] w (Reads (In.z, false) w) := by
  have HA := Lib.hid (fun w' => args7_any y w' y0 y1)
  rw [ha] at HA
  clear ha
  go_enter Try.func10, Try.ntmps10
  go_wp2_with (first
    | (go_at_call 15; refine (HA.out _).mono ?_; rintro e w2 ⟨rfl, hb2⟩; obtain ⟨hc2, hf2⟩ := bcell hb2; have hq2 := (fun o => hc2 w.heap.size o (by simp; try omega)); have hr2 := (fun o => hc2 ad.block o (by simp; omega)); have hy : w.heap.size + 1 < w2.heap.size := (by have := hb2.size; simp at this; omega); have hy2 : w.heap.size < w2.heap.size := (by omega); have hy3 : ad.block < w2.heap.size := (by omega)))
  refine bodyPost_ret (v := .tuple #[.agg #[.int .i64 0, .int .i64 0, .int .u8 0, .int .u8 0, .int .u16 0, .int .i64 0], .bool false]) (by simp [results, Try.results10, go_sem, hq2]) rfl ⟨rfl, ?_⟩
  repeat (with_reducible refine Below.setCell ?_ (by simp) _)
  refine Below.trans ?_ (hb2.mono (by simp; omega))
  repeat (with_reducible refine Below.setCell ?_ (by simp) _)
  exact ((Below.refl _ _).alloc (Nat.le_refl _) _).alloc (by simp) _
end Go.Proofs.Ytjkakmmhbciilaa
