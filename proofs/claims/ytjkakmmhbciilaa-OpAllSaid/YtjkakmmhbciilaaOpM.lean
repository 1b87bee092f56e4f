/- squealref07.Read: codes behind 221, or 253. -/
import Derived.Test.YtjkakmmhbciilaaOpJ
import Derived.Test.YtjkakmmhbciilaaOpE
import Derived.BigRegion
namespace Go.Proofs.Ytjkakmmhbciilaa
set_option linter.unusedSimpArgs false
set_option linter.unusedVariables false
open Go.RowKit
set_option maxRecDepth 100000 in
set_option maxHeartbeats 8000000 in
theorem refB_0 (ad : Addr) (n cap : Nat) (y v ix : Int) (w : World) (hlt : ad.block < w.heap.size) (hcap : n ≤ cap) (hcap2 : cap ≤ 9223372036854775807) (y0 : 0 ≤ y) (y1 : y ≤ 255) (c0 : w.cell? ad = some (.int .u8 v)) (c1 : w.cell? ⟨ad.block, ad.off + 1, none⟩ = some (.int .u8 y)) (k1 : (y == 221) = false) (k2 : (y == 237) = false) (k3 : (y == 253) = false) (k4 : (y == 203) = false) (hv : v = 221 ∧ ix = 1 ∨ v = 253 ∧ ix = 2) (hm : Mi.mem7 y = false) (ha : Mi.args7 y = 0) (hn : 2 ≤ n) :
    Calls Try.prog 10 #[.slice (some ad) n cap] w (Reads (⟨0, ix, y, 0, 0, 2⟩, true) w) := by
  have HA := Lib.hid (fun w' => args7_any y w' y0 y1)
  rw [ha] at HA
  clear ha
  have HM := Lib.hid (fun w' => mem7_any y w' y0 y1)
  rw [hm] at HM
  clear hm
  rcases hv with ⟨rfl, rfl⟩ | ⟨rfl, rfl⟩
  · go_enter Try.func10, Try.ntmps10
    go_wp2_with (first
      | (go_at_call 17; refine (HM.out _).mono ?_; rintro e w1 ⟨rfl, hb⟩; obtain ⟨hc, hf⟩ := bcell hb; have hq := (fun o => hc w.heap.size o (by first | omega | (simp; omega) | simp)); have hr := (fun o => hc ad.block o (by first | omega | (simp; omega))); have hz : w.heap.size + 1 < w1.heap.size := (by have := hb.size; (try simp at this); omega); have hz2 : w.heap.size < w1.heap.size := (by omega); have hz3 : ad.block < w1.heap.size := (by omega))
      | (go_at_call 15; refine (HA.out _).mono ?_; rintro e w2 ⟨rfl, hb2⟩; obtain ⟨hc2, hf2⟩ := bcell hb2; have hq2 := (fun o => hc2 w.heap.size o (by first | omega | (simp; omega) | simp)); have hr2 := (fun o => hc2 ad.block o (by first | omega | (simp; omega))); have hy : w.heap.size + 1 < w2.heap.size := (by have := hb2.size; (try simp at this); omega); have hy2 : w.heap.size < w2.heap.size := (by omega); have hy3 : ad.block < w2.heap.size := (by omega)))
    refine bodyPost_ret (v := .tuple #[.agg #[.int .i64 0, .int .i64 1, .int .u8 y, .int .u8 0, .int .u16 0, .int .i64 2], .bool true]) (by simp [results, Try.results10, go_sem, hq, hq2]) rfl ⟨rfl, ?_⟩
    repeat (with_reducible refine Below.setCell ?_ (by simp) _)
    refine Below.trans ?_ (hb2.mono (by first | omega | (simp; omega)))
    repeat (with_reducible refine Below.setCell ?_ (by simp) _)
    refine Below.trans ?_ (hb.mono (by first | omega | (simp; omega)))
    repeat (with_reducible refine Below.setCell ?_ (by simp) _)
    exact ((Below.refl _ _).alloc (Nat.le_refl _) _).alloc (by simp) _
  · go_enter Try.func10, Try.ntmps10
    go_wp2_with (first
      | (go_at_call 17; refine (HM.out _).mono ?_; rintro e w1 ⟨rfl, hb⟩; obtain ⟨hc, hf⟩ := bcell hb; have hq := (fun o => hc w.heap.size o (by first | omega | (simp; omega) | simp)); have hr := (fun o => hc ad.block o (by first | omega | (simp; omega))); have hz : w.heap.size + 1 < w1.heap.size := (by have := hb.size; (try simp at this); omega); have hz2 : w.heap.size < w1.heap.size := (by omega); have hz3 : ad.block < w1.heap.size := (by omega))
      | (go_at_call 15; refine (HA.out _).mono ?_; rintro e w2 ⟨rfl, hb2⟩; obtain ⟨hc2, hf2⟩ := bcell hb2; have hq2 := (fun o => hc2 w.heap.size o (by first | omega | (simp; omega) | simp)); have hr2 := (fun o => hc2 ad.block o (by first | omega | (simp; omega))); have hy : w.heap.size + 1 < w2.heap.size := (by have := hb2.size; (try simp at this); omega); have hy2 : w.heap.size < w2.heap.size := (by omega); have hy3 : ad.block < w2.heap.size := (by omega)))
    refine bodyPost_ret (v := .tuple #[.agg #[.int .i64 0, .int .i64 2, .int .u8 y, .int .u8 0, .int .u16 0, .int .i64 2], .bool true]) (by simp [results, Try.results10, go_sem, hq, hq2]) rfl ⟨rfl, ?_⟩
    repeat (with_reducible refine Below.setCell ?_ (by simp) _)
    refine Below.trans ?_ (hb2.mono (by first | omega | (simp; omega)))
    repeat (with_reducible refine Below.setCell ?_ (by simp) _)
    refine Below.trans ?_ (hb.mono (by first | omega | (simp; omega)))
    repeat (with_reducible refine Below.setCell ?_ (by simp) _)
    exact ((Below.refl _ _).alloc (Nat.le_refl _) _).alloc (by simp) _
set_option maxRecDepth 100000 in
set_option maxHeartbeats 8000000 in
theorem refB_1 (ad : Addr) (n cap : Nat) (y v ix p : Int) (w : World) (hlt : ad.block < w.heap.size) (hcap : n ≤ cap) (hcap2 : cap ≤ 9223372036854775807) (y0 : 0 ≤ y) (y1 : y ≤ 255) (c0 : w.cell? ad = some (.int .u8 v)) (c1 : w.cell? ⟨ad.block, ad.off + 1, none⟩ = some (.int .u8 y)) (k1 : (y == 221) = false) (k2 : (y == 237) = false) (k3 : (y == 253) = false) (k4 : (y == 203) = false) (hv : v = 221 ∧ ix = 1 ∨ v = 253 ∧ ix = 2) (hm : Mi.mem7 y = false) (cp : w.cell? ⟨ad.block, ad.off + 2, none⟩ = some (.int .u8 p)) (bp : B8 p) (ha : Mi.args7 y = 1) (hn : 3 ≤ n) :
    Calls Try.prog 10 #[.slice (some ad) n cap] w (Reads (⟨0, ix, y, 0, p, 3⟩, true) w) := by
  have HA := Lib.hid (fun w' => args7_any y w' y0 y1)
  rw [ha] at HA
  clear ha
  have HM := Lib.hid (fun w' => mem7_any y w' y0 y1)
  rw [hm] at HM
  clear hm
  obtain ⟨p0, p1⟩ := bp
  have e1 : IntKind.u16.wrap p = p := by rw [IntKind.wrap_u16]; omega
  rcases hv with ⟨rfl, rfl⟩ | ⟨rfl, rfl⟩
  · go_enter Try.func10, Try.ntmps10
    go_wp2_with (first
      | (go_at_call 17; refine (HM.out _).mono ?_; rintro e w1 ⟨rfl, hb⟩; obtain ⟨hc, hf⟩ := bcell hb; have hq := (fun o => hc w.heap.size o (by first | omega | (simp; omega) | simp)); have hr := (fun o => hc ad.block o (by first | omega | (simp; omega))); have hz : w.heap.size + 1 < w1.heap.size := (by have := hb.size; (try simp at this); omega); have hz2 : w.heap.size < w1.heap.size := (by omega); have hz3 : ad.block < w1.heap.size := (by omega))
      | (go_at_call 15; refine (HA.out _).mono ?_; rintro e w2 ⟨rfl, hb2⟩; obtain ⟨hc2, hf2⟩ := bcell hb2; have hq2 := (fun o => hc2 w.heap.size o (by first | omega | (simp; omega) | simp)); have hr2 := (fun o => hc2 ad.block o (by first | omega | (simp; omega))); have hy : w.heap.size + 1 < w2.heap.size := (by have := hb2.size; (try simp at this); omega); have hy2 : w.heap.size < w2.heap.size := (by omega); have hy3 : ad.block < w2.heap.size := (by omega)))
    refine bodyPost_ret (v := .tuple #[.agg #[.int .i64 0, .int .i64 1, .int .u8 y, .int .u8 0, .int .u16 p, .int .i64 3], .bool true]) (by simp [results, Try.results10, go_sem, hq, hq2]) rfl ⟨rfl, ?_⟩
    repeat (with_reducible refine Below.setCell ?_ (by simp) _)
    refine Below.trans ?_ (hb2.mono (by first | omega | (simp; omega)))
    repeat (with_reducible refine Below.setCell ?_ (by simp) _)
    refine Below.trans ?_ (hb.mono (by first | omega | (simp; omega)))
    repeat (with_reducible refine Below.setCell ?_ (by simp) _)
    exact ((Below.refl _ _).alloc (Nat.le_refl _) _).alloc (by simp) _
  · go_enter Try.func10, Try.ntmps10
    go_wp2_with (first
      | (go_at_call 17; refine (HM.out _).mono ?_; rintro e w1 ⟨rfl, hb⟩; obtain ⟨hc, hf⟩ := bcell hb; have hq := (fun o => hc w.heap.size o (by first | omega | (simp; omega) | simp)); have hr := (fun o => hc ad.block o (by first | omega | (simp; omega))); have hz : w.heap.size + 1 < w1.heap.size := (by have := hb.size; (try simp at this); omega); have hz2 : w.heap.size < w1.heap.size := (by omega); have hz3 : ad.block < w1.heap.size := (by omega))
      | (go_at_call 15; refine (HA.out _).mono ?_; rintro e w2 ⟨rfl, hb2⟩; obtain ⟨hc2, hf2⟩ := bcell hb2; have hq2 := (fun o => hc2 w.heap.size o (by first | omega | (simp; omega) | simp)); have hr2 := (fun o => hc2 ad.block o (by first | omega | (simp; omega))); have hy : w.heap.size + 1 < w2.heap.size := (by have := hb2.size; (try simp at this); omega); have hy2 : w.heap.size < w2.heap.size := (by omega); have hy3 : ad.block < w2.heap.size := (by omega)))
    refine bodyPost_ret (v := .tuple #[.agg #[.int .i64 0, .int .i64 2, .int .u8 y, .int .u8 0, .int .u16 p, .int .i64 3], .bool true]) (by simp [results, Try.results10, go_sem, hq, hq2]) rfl ⟨rfl, ?_⟩
    repeat (with_reducible refine Below.setCell ?_ (by simp) _)
    refine Below.trans ?_ (hb2.mono (by first | omega | (simp; omega)))
    repeat (with_reducible refine Below.setCell ?_ (by simp) _)
    refine Below.trans ?_ (hb.mono (by first | omega | (simp; omega)))
    repeat (with_reducible refine Below.setCell ?_ (by simp) _)
    exact ((Below.refl _ _).alloc (Nat.le_refl _) _).alloc (by simp) _
set_option maxRecDepth 100000 in
set_option maxHeartbeats 8000000 in
theorem refB_1n (ad : Addr) (n cap : Nat) (y v ix : Int) (w : World) (hlt : ad.block < w.heap.size) (hcap : n ≤ cap) (hcap2 : cap ≤ 9223372036854775807) (y0 : 0 ≤ y) (y1 : y ≤ 255) (c0 : w.cell? ad = some (.int .u8 v)) (c1 : w.cell? ⟨ad.block, ad.off + 1, none⟩ = some (.int .u8 y)) (k1 : (y == 221) = false) (k2 : (y == 237) = false) (k3 : (y == 253) = false) (k4 : (y == 203) = false) (hv : v = 221 ∧ ix = 1 ∨ v = 253 ∧ ix = 2) (hm : Mi.mem7 y = false) (ha : Mi.args7 y = 1) (hn : 2 ≤ n) (hn2 : n < 3) :
    Calls Try.prog 10 #[.slice (some ad) n cap] w (Reads (In.z, false) w) := by
  have HA := Lib.hid (fun w' => args7_any y w' y0 y1)
  rw [ha] at HA
  clear ha
  have HM := Lib.hid (fun w' => mem7_any y w' y0 y1)
  rw [hm] at HM
  clear hm
  rcases hv with ⟨rfl, rfl⟩ | ⟨rfl, rfl⟩
  · go_enter Try.func10, Try.ntmps10
    go_wp2_with (first
      | (go_at_call 17; refine (HM.out _).mono ?_; rintro e w1 ⟨rfl, hb⟩; obtain ⟨hc, hf⟩ := bcell hb; have hq := (fun o => hc w.heap.size o (by first | omega | (simp; omega) | simp)); have hr := (fun o => hc ad.block o (by first | omega | (simp; omega))); have hz : w.heap.size + 1 < w1.heap.size := (by have := hb.size; (try simp at this); omega); have hz2 : w.heap.size < w1.heap.size := (by omega); have hz3 : ad.block < w1.heap.size := (by omega))
      | (go_at_call 15; refine (HA.out _).mono ?_; rintro e w2 ⟨rfl, hb2⟩; obtain ⟨hc2, hf2⟩ := bcell hb2; have hq2 := (fun o => hc2 w.heap.size o (by first | omega | (simp; omega) | simp)); have hr2 := (fun o => hc2 ad.block o (by first | omega | (simp; omega))); have hy : w.heap.size + 1 < w2.heap.size := (by have := hb2.size; (try simp at this); omega); have hy2 : w.heap.size < w2.heap.size := (by omega); have hy3 : ad.block < w2.heap.size := (by omega)))
    refine bodyPost_ret (v := .tuple #[.agg #[.int .i64 0, .int .i64 0, .int .u8 0, .int .u8 0, .int .u16 0, .int .i64 0], .bool false]) (by simp [results, Try.results10, go_sem, hq, hq2]) rfl ⟨rfl, ?_⟩
    repeat (with_reducible refine Below.setCell ?_ (by simp) _)
    refine Below.trans ?_ (hb2.mono (by first | omega | (simp; omega)))
    repeat (with_reducible refine Below.setCell ?_ (by simp) _)
    refine Below.trans ?_ (hb.mono (by first | omega | (simp; omega)))
    repeat (with_reducible refine Below.setCell ?_ (by simp) _)
    exact ((Below.refl _ _).alloc (Nat.le_refl _) _).alloc (by simp) _
  · go_enter Try.func10, Try.ntmps10
    go_wp2_with (first
      | (go_at_call 17; refine (HM.out _).mono ?_; rintro e w1 ⟨rfl, hb⟩; obtain ⟨hc, hf⟩ := bcell hb; have hq := (fun o => hc w.heap.size o (by first | omega | (simp; omega) | simp)); have hr := (fun o => hc ad.block o (by first | omega | (simp; omega))); have hz : w.heap.size + 1 < w1.heap.size := (by have := hb.size; (try simp at this); omega); have hz2 : w.heap.size < w1.heap.size := (by omega); have hz3 : ad.block < w1.heap.size := (by omega))
      | (go_at_call 15; refine (HA.out _).mono ?_; rintro e w2 ⟨rfl, hb2⟩; obtain ⟨hc2, hf2⟩ := bcell hb2; have hq2 := (fun o => hc2 w.heap.size o (by first | omega | (simp; omega) | simp)); have hr2 := (fun o => hc2 ad.block o (by first | omega | (simp; omega))); have hy : w.heap.size + 1 < w2.heap.size := (by have := hb2.size; (try simp at this); omega); have hy2 : w.heap.size < w2.heap.size := (by omega); have hy3 : ad.block < w2.heap.size := (by omega)))
    refine bodyPost_ret (v := .tuple #[.agg #[.int .i64 0, .int .i64 0, .int .u8 0, .int .u8 0, .int .u16 0, .int .i64 0], .bool false]) (by simp [results, Try.results10, go_sem, hq, hq2]) rfl ⟨rfl, ?_⟩
    repeat (with_reducible refine Below.setCell ?_ (by simp) _)
    refine Below.trans ?_ (hb2.mono (by first | omega | (simp; omega)))
    repeat (with_reducible refine Below.setCell ?_ (by simp) _)
    refine Below.trans ?_ (hb.mono (by first | omega | (simp; omega)))
    repeat (with_reducible refine Below.setCell ?_ (by simp) _)
    exact ((Below.refl _ _).alloc (Nat.le_refl _) _).alloc (by simp) _
set_option maxRecDepth 100000 in
set_option maxHeartbeats 8000000 in
theorem refB_2 (ad : Addr) (n cap : Nat) (y v ix p q : Int) (w : World) (hlt : ad.block < w.heap.size) (hcap : n ≤ cap) (hcap2 : cap ≤ 9223372036854775807) (y0 : 0 ≤ y) (y1 : y ≤ 255) (c0 : w.cell? ad = some (.int .u8 v)) (c1 : w.cell? ⟨ad.block, ad.off + 1, none⟩ = some (.int .u8 y)) (k1 : (y == 221) = false) (k2 : (y == 237) = false) (k3 : (y == 253) = false) (k4 : (y == 203) = false) (hv : v = 221 ∧ ix = 1 ∨ v = 253 ∧ ix = 2) (hm : Mi.mem7 y = false) (cp : w.cell? ⟨ad.block, ad.off + 2, none⟩ = some (.int .u8 p)) (bp : B8 p) (cq : w.cell? ⟨ad.block, ad.off + 3, none⟩ = some (.int .u8 q)) (bq : B8 q) (ha : Mi.args7 y = 2) (hn : 4 ≤ n) :
    Calls Try.prog 10 #[.slice (some ad) n cap] w (Reads (⟨0, ix, y, 0, (p + 256 * q), 4⟩, true) w) := by
  have HA := Lib.hid (fun w' => args7_any y w' y0 y1)
  rw [ha] at HA
  clear ha
  have HM := Lib.hid (fun w' => mem7_any y w' y0 y1)
  rw [hm] at HM
  clear hm
  obtain ⟨p0, p1⟩ := bp
  obtain ⟨q0, q1⟩ := bq
  have e1 : IntKind.u16.wrap p = p := by rw [IntKind.wrap_u16]; omega
  have e2 : IntKind.i64.wrap (256 * q) = 256 * q := by rw [IntKind.wrap_i64]; omega
  have e3 : IntKind.i64.wrap (p + 256 * q) = p + 256 * q := by rw [IntKind.wrap_i64]; omega
  have e4 : IntKind.u16.wrap (p + 256 * q) = p + 256 * q := by rw [IntKind.wrap_u16]; omega
  rcases hv with ⟨rfl, rfl⟩ | ⟨rfl, rfl⟩
  · go_enter Try.func10, Try.ntmps10
    go_wp2_with (first
      | (go_at_call 17; refine (HM.out _).mono ?_; rintro e w1 ⟨rfl, hb⟩; obtain ⟨hc, hf⟩ := bcell hb; have hq := (fun o => hc w.heap.size o (by first | omega | (simp; omega) | simp)); have hr := (fun o => hc ad.block o (by first | omega | (simp; omega))); have hz : w.heap.size + 1 < w1.heap.size := (by have := hb.size; (try simp at this); omega); have hz2 : w.heap.size < w1.heap.size := (by omega); have hz3 : ad.block < w1.heap.size := (by omega))
      | (go_at_call 15; refine (HA.out _).mono ?_; rintro e w2 ⟨rfl, hb2⟩; obtain ⟨hc2, hf2⟩ := bcell hb2; have hq2 := (fun o => hc2 w.heap.size o (by first | omega | (simp; omega) | simp)); have hr2 := (fun o => hc2 ad.block o (by first | omega | (simp; omega))); have hy : w.heap.size + 1 < w2.heap.size := (by have := hb2.size; (try simp at this); omega); have hy2 : w.heap.size < w2.heap.size := (by omega); have hy3 : ad.block < w2.heap.size := (by omega)))
    have hs := (fun o => hc (w.heap.size + 1) o (by simp))
    have hv0 : w2.cell? ⟨w.heap.size + 1, 0, none⟩ = some (.int .i64 0) := (hc2 (w.heap.size + 1) 0 (by first | omega | (simp; omega) | simp)).trans (by simp [hs])
    have hv1 : w2.cell? ⟨w.heap.size + 1, 1, none⟩ = some (.int .i64 1) := (hc2 (w.heap.size + 1) 1 (by first | omega | (simp; omega) | simp)).trans (by simp [hs])
    have hv2 : w2.cell? ⟨w.heap.size + 1, 2, none⟩ = some (.int .u8 y) := (hc2 (w.heap.size + 1) 2 (by first | omega | (simp; omega) | simp)).trans (by simp [hs])
    have hv3 : w2.cell? ⟨w.heap.size + 1, 3, none⟩ = some (.int .u8 0) := (hc2 (w.heap.size + 1) 3 (by first | omega | (simp; omega) | simp)).trans (by simp [hs])
    have hv4 : w2.cell? ⟨w.heap.size + 1, 4, none⟩ = some (.int .u16 0) := (hc2 (w.heap.size + 1) 4 (by first | omega | (simp; omega) | simp)).trans (by simp [hs])
    have hv5 : w2.cell? ⟨w.heap.size + 1, 5, none⟩ = some (.int .i64 2) := (hc2 (w.heap.size + 1) 5 (by first | omega | (simp; omega) | simp)).trans (by simp [hs])
    have hx : (w2.setCell ⟨w.heap.size + 1, 4, none⟩ (.int .u16 p)).cell? ⟨w.heap.size + 1, 4, none⟩ = some (.int .u16 p) := World.cell?_setCell_same _ _ _ hv4
    have hx5 : ((w2.setCell ⟨w.heap.size + 1, 4, none⟩ (.int .u16 p)).setCell ⟨w.heap.size + 1, 4, none⟩ (.int .u16 (p + 256 * q))).cell? ⟨w.heap.size + 1, 5, none⟩ = some (.int .i64 2) := by rw [World.cell?_setCell_other _ _ _ _ (by simp), World.cell?_setCell_other _ _ _ _ (by simp)]; exact hv5
    go_region
    all_goals
      go_wp2_with fail
      refine bodyPost_ret (v := .tuple #[.agg #[.int .i64 0, .int .i64 1, .int .u8 y, .int .u8 0, .int .u16 (p + 256 * q), .int .i64 4], .bool true]) (by simp [results, Try.results10, go_sem, hq, hq2]) rfl ⟨rfl, ?_⟩
      repeat (with_reducible refine Below.setCell ?_ (by simp) _)
      refine Below.drew ?_
      repeat (with_reducible refine Below.setCell ?_ (by simp) _)
      refine Below.trans ?_ (hb2.mono (by first | omega | (simp; omega)))
      repeat (with_reducible refine Below.setCell ?_ (by simp) _)
      refine Below.trans ?_ (hb.mono (by first | omega | (simp; omega)))
      repeat (with_reducible refine Below.setCell ?_ (by simp) _)
      exact ((Below.refl _ _).alloc (Nat.le_refl _) _).alloc (by simp) _
  · go_enter Try.func10, Try.ntmps10
    go_wp2_with (first
      | (go_at_call 17; refine (HM.out _).mono ?_; rintro e w1 ⟨rfl, hb⟩; obtain ⟨hc, hf⟩ := bcell hb; have hq := (fun o => hc w.heap.size o (by first | omega | (simp; omega) | simp)); have hr := (fun o => hc ad.block o (by first | omega | (simp; omega))); have hz : w.heap.size + 1 < w1.heap.size := (by have := hb.size; (try simp at this); omega); have hz2 : w.heap.size < w1.heap.size := (by omega); have hz3 : ad.block < w1.heap.size := (by omega))
      | (go_at_call 15; refine (HA.out _).mono ?_; rintro e w2 ⟨rfl, hb2⟩; obtain ⟨hc2, hf2⟩ := bcell hb2; have hq2 := (fun o => hc2 w.heap.size o (by first | omega | (simp; omega) | simp)); have hr2 := (fun o => hc2 ad.block o (by first | omega | (simp; omega))); have hy : w.heap.size + 1 < w2.heap.size := (by have := hb2.size; (try simp at this); omega); have hy2 : w.heap.size < w2.heap.size := (by omega); have hy3 : ad.block < w2.heap.size := (by omega)))
    have hs := (fun o => hc (w.heap.size + 1) o (by simp))
    have hv0 : w2.cell? ⟨w.heap.size + 1, 0, none⟩ = some (.int .i64 0) := (hc2 (w.heap.size + 1) 0 (by first | omega | (simp; omega) | simp)).trans (by simp [hs])
    have hv1 : w2.cell? ⟨w.heap.size + 1, 1, none⟩ = some (.int .i64 2) := (hc2 (w.heap.size + 1) 1 (by first | omega | (simp; omega) | simp)).trans (by simp [hs])
    have hv2 : w2.cell? ⟨w.heap.size + 1, 2, none⟩ = some (.int .u8 y) := (hc2 (w.heap.size + 1) 2 (by first | omega | (simp; omega) | simp)).trans (by simp [hs])
    have hv3 : w2.cell? ⟨w.heap.size + 1, 3, none⟩ = some (.int .u8 0) := (hc2 (w.heap.size + 1) 3 (by first | omega | (simp; omega) | simp)).trans (by simp [hs])
    have hv4 : w2.cell? ⟨w.heap.size + 1, 4, none⟩ = some (.int .u16 0) := (hc2 (w.heap.size + 1) 4 (by first | omega | (simp; omega) | simp)).trans (by simp [hs])
    have hv5 : w2.cell? ⟨w.heap.size + 1, 5, none⟩ = some (.int .i64 2) := (hc2 (w.heap.size + 1) 5 (by first | omega | (simp; omega) | simp)).trans (by simp [hs])
    have hx : (w2.setCell ⟨w.heap.size + 1, 4, none⟩ (.int .u16 p)).cell? ⟨w.heap.size + 1, 4, none⟩ = some (.int .u16 p) := World.cell?_setCell_same _ _ _ hv4
    have hx5 : ((w2.setCell ⟨w.heap.size + 1, 4, none⟩ (.int .u16 p)).setCell ⟨w.heap.size + 1, 4, none⟩ (.int .u16 (p + 256 * q))).cell? ⟨w.heap.size + 1, 5, none⟩ = some (.int .i64 2) := by rw [World.cell?_setCell_other _ _ _ _ (by simp), World.cell?_setCell_other _ _ _ _ (by simp)]; exact hv5
    go_region
    all_goals
      go_wp2_with fail
      refine bodyPost_ret (v := .tuple #[.agg #[.int .i64 0, .int .i64 2, .int .u8 y, .int .u8 0, .int .u16 (p + 256 * q), .int .i64 4], .bool true]) (by simp [results, Try.results10, go_sem, hq, hq2]) rfl ⟨rfl, ?_⟩
      repeat (with_reducible refine Below.setCell ?_ (by simp) _)
      refine Below.drew ?_
      repeat (with_reducible refine Below.setCell ?_ (by simp) _)
      refine Below.trans ?_ (hb2.mono (by first | omega | (simp; omega)))
      repeat (with_reducible refine Below.setCell ?_ (by simp) _)
      refine Below.trans ?_ (hb.mono (by first | omega | (simp; omega)))
      repeat (with_reducible refine Below.setCell ?_ (by simp) _)
      exact ((Below.refl _ _).alloc (Nat.le_refl _) _).alloc (by simp) _
set_option maxRecDepth 100000 in
set_option maxHeartbeats 8000000 in
theorem refB_2n (ad : Addr) (n cap : Nat) (y v ix : Int) (w : World) (hlt : ad.block < w.heap.size) (hcap : n ≤ cap) (hcap2 : cap ≤ 9223372036854775807) (y0 : 0 ≤ y) (y1 : y ≤ 255) (c0 : w.cell? ad = some (.int .u8 v)) (c1 : w.cell? ⟨ad.block, ad.off + 1, none⟩ = some (.int .u8 y)) (k1 : (y == 221) = false) (k2 : (y == 237) = false) (k3 : (y == 253) = false) (k4 : (y == 203) = false) (hv : v = 221 ∧ ix = 1 ∨ v = 253 ∧ ix = 2) (hm : Mi.mem7 y = false) (ha : Mi.args7 y = 2) (hn : 2 ≤ n) (hn2 : n < 4) :
    Calls Try.prog 10 #[.slice (some ad) n cap] w (Reads (In.z, false) w) := by
  have HA := Lib.hid (fun w' => args7_any y w' y0 y1)
  rw [ha] at HA
  clear ha
  have HM := Lib.hid (fun w' => mem7_any y w' y0 y1)
  rw [hm] at HM
  clear hm
  rcases hv with ⟨rfl, rfl⟩ | ⟨rfl, rfl⟩
  · go_enter Try.func10, Try.ntmps10
    go_wp2_with (first
      | (go_at_call 17; refine (HM.out _).mono ?_; rintro e w1 ⟨rfl, hb⟩; obtain ⟨hc, hf⟩ := bcell hb; have hq := (fun o => hc w.heap.size o (by first | omega | (simp; omega) | simp)); have hr := (fun o => hc ad.block o (by first | omega | (simp; omega))); have hz : w.heap.size + 1 < w1.heap.size := (by have := hb.size; (try simp at this); omega); have hz2 : w.heap.size < w1.heap.size := (by omega); have hz3 : ad.block < w1.heap.size := (by omega))
      | (go_at_call 15; refine (HA.out _).mono ?_; rintro e w2 ⟨rfl, hb2⟩; obtain ⟨hc2, hf2⟩ := bcell hb2; have hq2 := (fun o => hc2 w.heap.size o (by first | omega | (simp; omega) | simp)); have hr2 := (fun o => hc2 ad.block o (by first | omega | (simp; omega))); have hy : w.heap.size + 1 < w2.heap.size := (by have := hb2.size; (try simp at this); omega); have hy2 : w.heap.size < w2.heap.size := (by omega); have hy3 : ad.block < w2.heap.size := (by omega)))
    refine bodyPost_ret (v := .tuple #[.agg #[.int .i64 0, .int .i64 0, .int .u8 0, .int .u8 0, .int .u16 0, .int .i64 0], .bool false]) (by simp [results, Try.results10, go_sem, hq, hq2]) rfl ⟨rfl, ?_⟩
    repeat (with_reducible refine Below.setCell ?_ (by simp) _)
    refine Below.trans ?_ (hb2.mono (by first | omega | (simp; omega)))
    repeat (with_reducible refine Below.setCell ?_ (by simp) _)
    refine Below.trans ?_ (hb.mono (by first | omega | (simp; omega)))
    repeat (with_reducible refine Below.setCell ?_ (by simp) _)
    exact ((Below.refl _ _).alloc (Nat.le_refl _) _).alloc (by simp) _
  · go_enter Try.func10, Try.ntmps10
    go_wp2_with (first
      | (go_at_call 17; refine (HM.out _).mono ?_; rintro e w1 ⟨rfl, hb⟩; obtain ⟨hc, hf⟩ := bcell hb; have hq := (fun o => hc w.heap.size o (by first | omega | (simp; omega) | simp)); have hr := (fun o => hc ad.block o (by first | omega | (simp; omega))); have hz : w.heap.size + 1 < w1.heap.size := (by have := hb.size; (try simp at this); omega); have hz2 : w.heap.size < w1.heap.size := (by omega); have hz3 : ad.block < w1.heap.size := (by omega))
      | (go_at_call 15; refine (HA.out _).mono ?_; rintro e w2 ⟨rfl, hb2⟩; obtain ⟨hc2, hf2⟩ := bcell hb2; have hq2 := (fun o => hc2 w.heap.size o (by first | omega | (simp; omega) | simp)); have hr2 := (fun o => hc2 ad.block o (by first | omega | (simp; omega))); have hy : w.heap.size + 1 < w2.heap.size := (by have := hb2.size; (try simp at this); omega); have hy2 : w.heap.size < w2.heap.size := (by omega); have hy3 : ad.block < w2.heap.size := (by omega)))
    refine bodyPost_ret (v := .tuple #[.agg #[.int .i64 0, .int .i64 0, .int .u8 0, .int .u8 0, .int .u16 0, .int .i64 0], .bool false]) (by simp [results, Try.results10, go_sem, hq, hq2]) rfl ⟨rfl, ?_⟩
    repeat (with_reducible refine Below.setCell ?_ (by simp) _)
    refine Below.trans ?_ (hb2.mono (by first | omega | (simp; omega)))
    repeat (with_reducible refine Below.setCell ?_ (by simp) _)
    refine Below.trans ?_ (hb.mono (by first | omega | (simp; omega)))
    repeat (with_reducible refine Below.setCell ?_ (by simp) _)
    exact ((Below.refl _ _).alloc (Nat.le_refl _) _).alloc (by simp) _
set_option maxRecDepth 100000 in
set_option maxHeartbeats 8000000 in
theorem refC_0 (ad : Addr) (n cap : Nat) (y v ix dd : Int) (w : World) (hlt : ad.block < w.heap.size) (hcap : n ≤ cap) (hcap2 : cap ≤ 9223372036854775807) (y0 : 0 ≤ y) (y1 : y ≤ 255) (c0 : w.cell? ad = some (.int .u8 v)) (c1 : w.cell? ⟨ad.block, ad.off + 1, none⟩ = some (.int .u8 y)) (k1 : (y == 221) = false) (k2 : (y == 237) = false) (k3 : (y == 253) = false) (k4 : (y == 203) = false) (hv : v = 221 ∧ ix = 1 ∨ v = 253 ∧ ix = 2) (hm : Mi.mem7 y = true) (cd : w.cell? ⟨ad.block, ad.off + 2, none⟩ = some (.int .u8 dd)) (ha : Mi.args7 y = 0) (hn : 3 ≤ n) :
    Calls Try.prog 10 #[.slice (some ad) n cap] w (Reads (⟨0, ix, y, dd, 0, 3⟩, true) w) := by
  have HA := Lib.hid (fun w' => args7_any y w' y0 y1)
  rw [ha] at HA
  clear ha
  have HM := Lib.hid (fun w' => mem7_any y w' y0 y1)
  rw [hm] at HM
  clear hm
  rcases hv with ⟨rfl, rfl⟩ | ⟨rfl, rfl⟩
  · go_enter Try.func10, Try.ntmps10
    go_wp2_with (first
      | (go_at_call 17; refine (HM.out _).mono ?_; rintro e w1 ⟨rfl, hb⟩; obtain ⟨hc, hf⟩ := bcell hb; have hq := (fun o => hc w.heap.size o (by first | omega | (simp; omega) | simp)); have hr := (fun o => hc ad.block o (by first | omega | (simp; omega))); have hz : w.heap.size + 1 < w1.heap.size := (by have := hb.size; (try simp at this); omega); have hz2 : w.heap.size < w1.heap.size := (by omega); have hz3 : ad.block < w1.heap.size := (by omega))
      | (go_at_call 15; refine (HA.out _).mono ?_; rintro e w2 ⟨rfl, hb2⟩; obtain ⟨hc2, hf2⟩ := bcell hb2; have hq2 := (fun o => hc2 w.heap.size o (by first | omega | (simp; omega) | simp)); have hr2 := (fun o => hc2 ad.block o (by first | omega | (simp; omega))); have hy : w.heap.size + 1 < w2.heap.size := (by have := hb2.size; (try simp at this); omega); have hy2 : w.heap.size < w2.heap.size := (by omega); have hy3 : ad.block < w2.heap.size := (by omega); have hs := (fun o => hc (w.heap.size + 1) o (by simp)); have hv0 : w2.cell? ⟨w.heap.size + 1, 0, none⟩ = some (.int .i64 0) := (hc2 (w.heap.size + 1) 0 (by first | omega | (simp; omega) | simp)).trans (by simp [go_sem, hs]); have hv1 : w2.cell? ⟨w.heap.size + 1, 1, none⟩ = some (.int .i64 1) := (hc2 (w.heap.size + 1) 1 (by first | omega | (simp; omega) | simp)).trans (by simp [go_sem, hs]); have hv2 : w2.cell? ⟨w.heap.size + 1, 2, none⟩ = some (.int .u8 y) := (hc2 (w.heap.size + 1) 2 (by first | omega | (simp; omega) | simp)).trans (by simp [go_sem, hs]); have hv3 : w2.cell? ⟨w.heap.size + 1, 3, none⟩ = some (.int .u8 dd) := (hc2 (w.heap.size + 1) 3 (by first | omega | (simp; omega) | simp)).trans (by simp [go_sem, hs]); have hv4 : w2.cell? ⟨w.heap.size + 1, 4, none⟩ = some (.int .u16 0) := (hc2 (w.heap.size + 1) 4 (by first | omega | (simp; omega) | simp)).trans (by simp [go_sem, hs]); have hv5 : w2.cell? ⟨w.heap.size + 1, 5, none⟩ = some (.int .i64 3) := (hc2 (w.heap.size + 1) 5 (by first | omega | (simp; omega) | simp)).trans (by simp [go_sem, hs]); clear hc2))
    refine bodyPost_ret (v := .tuple #[.agg #[.int .i64 0, .int .i64 1, .int .u8 y, .int .u8 dd, .int .u16 0, .int .i64 3], .bool true]) (by simp [results, Try.results10, go_sem, hq, hq2]) rfl ⟨rfl, ?_⟩
    repeat (with_reducible refine Below.setCell ?_ (by simp) _)
    refine Below.trans ?_ (hb2.mono (by first | omega | (simp; omega)))
    repeat (with_reducible refine Below.setCell ?_ (by simp) _)
    refine Below.trans ?_ (hb.mono (by first | omega | (simp; omega)))
    repeat (with_reducible refine Below.setCell ?_ (by simp) _)
    exact ((Below.refl _ _).alloc (Nat.le_refl _) _).alloc (by simp) _
  · go_enter Try.func10, Try.ntmps10
    go_wp2_with (first
      | (go_at_call 17; refine (HM.out _).mono ?_; rintro e w1 ⟨rfl, hb⟩; obtain ⟨hc, hf⟩ := bcell hb; have hq := (fun o => hc w.heap.size o (by first | omega | (simp; omega) | simp)); have hr := (fun o => hc ad.block o (by first | omega | (simp; omega))); have hz : w.heap.size + 1 < w1.heap.size := (by have := hb.size; (try simp at this); omega); have hz2 : w.heap.size < w1.heap.size := (by omega); have hz3 : ad.block < w1.heap.size := (by omega))
      | (go_at_call 15; refine (HA.out _).mono ?_; rintro e w2 ⟨rfl, hb2⟩; obtain ⟨hc2, hf2⟩ := bcell hb2; have hq2 := (fun o => hc2 w.heap.size o (by first | omega | (simp; omega) | simp)); have hr2 := (fun o => hc2 ad.block o (by first | omega | (simp; omega))); have hy : w.heap.size + 1 < w2.heap.size := (by have := hb2.size; (try simp at this); omega); have hy2 : w.heap.size < w2.heap.size := (by omega); have hy3 : ad.block < w2.heap.size := (by omega); have hs := (fun o => hc (w.heap.size + 1) o (by simp)); have hv0 : w2.cell? ⟨w.heap.size + 1, 0, none⟩ = some (.int .i64 0) := (hc2 (w.heap.size + 1) 0 (by first | omega | (simp; omega) | simp)).trans (by simp [go_sem, hs]); have hv1 : w2.cell? ⟨w.heap.size + 1, 1, none⟩ = some (.int .i64 2) := (hc2 (w.heap.size + 1) 1 (by first | omega | (simp; omega) | simp)).trans (by simp [go_sem, hs]); have hv2 : w2.cell? ⟨w.heap.size + 1, 2, none⟩ = some (.int .u8 y) := (hc2 (w.heap.size + 1) 2 (by first | omega | (simp; omega) | simp)).trans (by simp [go_sem, hs]); have hv3 : w2.cell? ⟨w.heap.size + 1, 3, none⟩ = some (.int .u8 dd) := (hc2 (w.heap.size + 1) 3 (by first | omega | (simp; omega) | simp)).trans (by simp [go_sem, hs]); have hv4 : w2.cell? ⟨w.heap.size + 1, 4, none⟩ = some (.int .u16 0) := (hc2 (w.heap.size + 1) 4 (by first | omega | (simp; omega) | simp)).trans (by simp [go_sem, hs]); have hv5 : w2.cell? ⟨w.heap.size + 1, 5, none⟩ = some (.int .i64 3) := (hc2 (w.heap.size + 1) 5 (by first | omega | (simp; omega) | simp)).trans (by simp [go_sem, hs]); clear hc2))
    refine bodyPost_ret (v := .tuple #[.agg #[.int .i64 0, .int .i64 2, .int .u8 y, .int .u8 dd, .int .u16 0, .int .i64 3], .bool true]) (by simp [results, Try.results10, go_sem, hq, hq2]) rfl ⟨rfl, ?_⟩
    repeat (with_reducible refine Below.setCell ?_ (by simp) _)
    refine Below.trans ?_ (hb2.mono (by first | omega | (simp; omega)))
    repeat (with_reducible refine Below.setCell ?_ (by simp) _)
    refine Below.trans ?_ (hb.mono (by first | omega | (simp; omega)))
    repeat (with_reducible refine Below.setCell ?_ (by simp) _)
    exact ((Below.refl _ _).alloc (Nat.le_refl _) _).alloc (by simp) _
set_option maxRecDepth 100000 in
set_option maxHeartbeats 8000000 in
theorem refC_1 (ad : Addr) (n cap : Nat) (y v ix dd p : Int) (w : World) (hlt : ad.block < w.heap.size) (hcap : n ≤ cap) (hcap2 : cap ≤ 9223372036854775807) (y0 : 0 ≤ y) (y1 : y ≤ 255) (c0 : w.cell? ad = some (.int .u8 v)) (c1 : w.cell? ⟨ad.block, ad.off + 1, none⟩ = some (.int .u8 y)) (k1 : (y == 221) = false) (k2 : (y == 237) = false) (k3 : (y == 253) = false) (k4 : (y == 203) = false) (hv : v = 221 ∧ ix = 1 ∨ v = 253 ∧ ix = 2) (hm : Mi.mem7 y = true) (cd : w.cell? ⟨ad.block, ad.off + 2, none⟩ = some (.int .u8 dd)) (cp : w.cell? ⟨ad.block, ad.off + 3, none⟩ = some (.int .u8 p)) (bp : B8 p) (ha : Mi.args7 y = 1) (hn : 4 ≤ n) :
    Calls Try.prog 10 #[.slice (some ad) n cap] w (Reads (⟨0, ix, y, dd, p, 4⟩, true) w) := by
  have HA := Lib.hid (fun w' => args7_any y w' y0 y1)
  rw [ha] at HA
  clear ha
  have HM := Lib.hid (fun w' => mem7_any y w' y0 y1)
  rw [hm] at HM
  clear hm
  obtain ⟨p0, p1⟩ := bp
  have e1 : IntKind.u16.wrap p = p := by rw [IntKind.wrap_u16]; omega
  rcases hv with ⟨rfl, rfl⟩ | ⟨rfl, rfl⟩
  · go_enter Try.func10, Try.ntmps10
    go_wp2_with (first
      | (go_at_call 17; refine (HM.out _).mono ?_; rintro e w1 ⟨rfl, hb⟩; obtain ⟨hc, hf⟩ := bcell hb; have hq := (fun o => hc w.heap.size o (by first | omega | (simp; omega) | simp)); have hr := (fun o => hc ad.block o (by first | omega | (simp; omega))); have hz : w.heap.size + 1 < w1.heap.size := (by have := hb.size; (try simp at this); omega); have hz2 : w.heap.size < w1.heap.size := (by omega); have hz3 : ad.block < w1.heap.size := (by omega))
      | (go_at_call 15; refine (HA.out _).mono ?_; rintro e w2 ⟨rfl, hb2⟩; obtain ⟨hc2, hf2⟩ := bcell hb2; have hq2 := (fun o => hc2 w.heap.size o (by first | omega | (simp; omega) | simp)); have hr2 := (fun o => hc2 ad.block o (by first | omega | (simp; omega))); have hy : w.heap.size + 1 < w2.heap.size := (by have := hb2.size; (try simp at this); omega); have hy2 : w.heap.size < w2.heap.size := (by omega); have hy3 : ad.block < w2.heap.size := (by omega); have hs := (fun o => hc (w.heap.size + 1) o (by simp)); have hv0 : w2.cell? ⟨w.heap.size + 1, 0, none⟩ = some (.int .i64 0) := (hc2 (w.heap.size + 1) 0 (by first | omega | (simp; omega) | simp)).trans (by simp [go_sem, hs]); have hv1 : w2.cell? ⟨w.heap.size + 1, 1, none⟩ = some (.int .i64 1) := (hc2 (w.heap.size + 1) 1 (by first | omega | (simp; omega) | simp)).trans (by simp [go_sem, hs]); have hv2 : w2.cell? ⟨w.heap.size + 1, 2, none⟩ = some (.int .u8 y) := (hc2 (w.heap.size + 1) 2 (by first | omega | (simp; omega) | simp)).trans (by simp [go_sem, hs]); have hv3 : w2.cell? ⟨w.heap.size + 1, 3, none⟩ = some (.int .u8 dd) := (hc2 (w.heap.size + 1) 3 (by first | omega | (simp; omega) | simp)).trans (by simp [go_sem, hs]); have hv4 : w2.cell? ⟨w.heap.size + 1, 4, none⟩ = some (.int .u16 0) := (hc2 (w.heap.size + 1) 4 (by first | omega | (simp; omega) | simp)).trans (by simp [go_sem, hs]); have hv5 : w2.cell? ⟨w.heap.size + 1, 5, none⟩ = some (.int .i64 3) := (hc2 (w.heap.size + 1) 5 (by first | omega | (simp; omega) | simp)).trans (by simp [go_sem, hs]); clear hc2))
    refine bodyPost_ret (v := .tuple #[.agg #[.int .i64 0, .int .i64 1, .int .u8 y, .int .u8 dd, .int .u16 p, .int .i64 4], .bool true]) (by simp [results, Try.results10, go_sem, hq, hq2]) rfl ⟨rfl, ?_⟩
    repeat (with_reducible refine Below.setCell ?_ (by simp) _)
    refine Below.trans ?_ (hb2.mono (by first | omega | (simp; omega)))
    repeat (with_reducible refine Below.setCell ?_ (by simp) _)
    refine Below.trans ?_ (hb.mono (by first | omega | (simp; omega)))
    repeat (with_reducible refine Below.setCell ?_ (by simp) _)
    exact ((Below.refl _ _).alloc (Nat.le_refl _) _).alloc (by simp) _
  · go_enter Try.func10, Try.ntmps10
    go_wp2_with (first
      | (go_at_call 17; refine (HM.out _).mono ?_; rintro e w1 ⟨rfl, hb⟩; obtain ⟨hc, hf⟩ := bcell hb; have hq := (fun o => hc w.heap.size o (by first | omega | (simp; omega) | simp)); have hr := (fun o => hc ad.block o (by first | omega | (simp; omega))); have hz : w.heap.size + 1 < w1.heap.size := (by have := hb.size; (try simp at this); omega); have hz2 : w.heap.size < w1.heap.size := (by omega); have hz3 : ad.block < w1.heap.size := (by omega))
      | (go_at_call 15; refine (HA.out _).mono ?_; rintro e w2 ⟨rfl, hb2⟩; obtain ⟨hc2, hf2⟩ := bcell hb2; have hq2 := (fun o => hc2 w.heap.size o (by first | omega | (simp; omega) | simp)); have hr2 := (fun o => hc2 ad.block o (by first | omega | (simp; omega))); have hy : w.heap.size + 1 < w2.heap.size := (by have := hb2.size; (try simp at this); omega); have hy2 : w.heap.size < w2.heap.size := (by omega); have hy3 : ad.block < w2.heap.size := (by omega); have hs := (fun o => hc (w.heap.size + 1) o (by simp)); have hv0 : w2.cell? ⟨w.heap.size + 1, 0, none⟩ = some (.int .i64 0) := (hc2 (w.heap.size + 1) 0 (by first | omega | (simp; omega) | simp)).trans (by simp [go_sem, hs]); have hv1 : w2.cell? ⟨w.heap.size + 1, 1, none⟩ = some (.int .i64 2) := (hc2 (w.heap.size + 1) 1 (by first | omega | (simp; omega) | simp)).trans (by simp [go_sem, hs]); have hv2 : w2.cell? ⟨w.heap.size + 1, 2, none⟩ = some (.int .u8 y) := (hc2 (w.heap.size + 1) 2 (by first | omega | (simp; omega) | simp)).trans (by simp [go_sem, hs]); have hv3 : w2.cell? ⟨w.heap.size + 1, 3, none⟩ = some (.int .u8 dd) := (hc2 (w.heap.size + 1) 3 (by first | omega | (simp; omega) | simp)).trans (by simp [go_sem, hs]); have hv4 : w2.cell? ⟨w.heap.size + 1, 4, none⟩ = some (.int .u16 0) := (hc2 (w.heap.size + 1) 4 (by first | omega | (simp; omega) | simp)).trans (by simp [go_sem, hs]); have hv5 : w2.cell? ⟨w.heap.size + 1, 5, none⟩ = some (.int .i64 3) := (hc2 (w.heap.size + 1) 5 (by first | omega | (simp; omega) | simp)).trans (by simp [go_sem, hs]); clear hc2))
    refine bodyPost_ret (v := .tuple #[.agg #[.int .i64 0, .int .i64 2, .int .u8 y, .int .u8 dd, .int .u16 p, .int .i64 4], .bool true]) (by simp [results, Try.results10, go_sem, hq, hq2]) rfl ⟨rfl, ?_⟩
    repeat (with_reducible refine Below.setCell ?_ (by simp) _)
    refine Below.trans ?_ (hb2.mono (by first | omega | (simp; omega)))
    repeat (with_reducible refine Below.setCell ?_ (by simp) _)
    refine Below.trans ?_ (hb.mono (by first | omega | (simp; omega)))
    repeat (with_reducible refine Below.setCell ?_ (by simp) _)
    exact ((Below.refl _ _).alloc (Nat.le_refl _) _).alloc (by simp) _
set_option maxRecDepth 100000 in
set_option maxHeartbeats 8000000 in
theorem refC_1n (ad : Addr) (n cap : Nat) (y v ix dd : Int) (w : World) (hlt : ad.block < w.heap.size) (hcap : n ≤ cap) (hcap2 : cap ≤ 9223372036854775807) (y0 : 0 ≤ y) (y1 : y ≤ 255) (c0 : w.cell? ad = some (.int .u8 v)) (c1 : w.cell? ⟨ad.block, ad.off + 1, none⟩ = some (.int .u8 y)) (k1 : (y == 221) = false) (k2 : (y == 237) = false) (k3 : (y == 253) = false) (k4 : (y == 203) = false) (hv : v = 221 ∧ ix = 1 ∨ v = 253 ∧ ix = 2) (hm : Mi.mem7 y = true) (cd : w.cell? ⟨ad.block, ad.off + 2, none⟩ = some (.int .u8 dd)) (ha : Mi.args7 y = 1) (hn : 3 ≤ n) (hn2 : n < 4) :
    Calls Try.prog 10 #[.slice (some ad) n cap] w (Reads (In.z, false) w) := by
  have HA := Lib.hid (fun w' => args7_any y w' y0 y1)
  rw [ha] at HA
  clear ha
  have HM := Lib.hid (fun w' => mem7_any y w' y0 y1)
  rw [hm] at HM
  clear hm
  rcases hv with ⟨rfl, rfl⟩ | ⟨rfl, rfl⟩
  · go_enter Try.func10, Try.ntmps10
    go_wp2_with (first
      | (go_at_call 17; refine (HM.out _).mono ?_; rintro e w1 ⟨rfl, hb⟩; obtain ⟨hc, hf⟩ := bcell hb; have hq := (fun o => hc w.heap.size o (by first | omega | (simp; omega) | simp)); have hr := (fun o => hc ad.block o (by first | omega | (simp; omega))); have hz : w.heap.size + 1 < w1.heap.size := (by have := hb.size; (try simp at this); omega); have hz2 : w.heap.size < w1.heap.size := (by omega); have hz3 : ad.block < w1.heap.size := (by omega))
      | (go_at_call 15; refine (HA.out _).mono ?_; rintro e w2 ⟨rfl, hb2⟩; obtain ⟨hc2, hf2⟩ := bcell hb2; have hq2 := (fun o => hc2 w.heap.size o (by first | omega | (simp; omega) | simp)); have hr2 := (fun o => hc2 ad.block o (by first | omega | (simp; omega))); have hy : w.heap.size + 1 < w2.heap.size := (by have := hb2.size; (try simp at this); omega); have hy2 : w.heap.size < w2.heap.size := (by omega); have hy3 : ad.block < w2.heap.size := (by omega); have hs := (fun o => hc (w.heap.size + 1) o (by simp)); have hv0 : w2.cell? ⟨w.heap.size + 1, 0, none⟩ = some (.int .i64 0) := (hc2 (w.heap.size + 1) 0 (by first | omega | (simp; omega) | simp)).trans (by simp [go_sem, hs]); have hv1 : w2.cell? ⟨w.heap.size + 1, 1, none⟩ = some (.int .i64 1) := (hc2 (w.heap.size + 1) 1 (by first | omega | (simp; omega) | simp)).trans (by simp [go_sem, hs]); have hv2 : w2.cell? ⟨w.heap.size + 1, 2, none⟩ = some (.int .u8 y) := (hc2 (w.heap.size + 1) 2 (by first | omega | (simp; omega) | simp)).trans (by simp [go_sem, hs]); have hv3 : w2.cell? ⟨w.heap.size + 1, 3, none⟩ = some (.int .u8 dd) := (hc2 (w.heap.size + 1) 3 (by first | omega | (simp; omega) | simp)).trans (by simp [go_sem, hs]); have hv4 : w2.cell? ⟨w.heap.size + 1, 4, none⟩ = some (.int .u16 0) := (hc2 (w.heap.size + 1) 4 (by first | omega | (simp; omega) | simp)).trans (by simp [go_sem, hs]); have hv5 : w2.cell? ⟨w.heap.size + 1, 5, none⟩ = some (.int .i64 3) := (hc2 (w.heap.size + 1) 5 (by first | omega | (simp; omega) | simp)).trans (by simp [go_sem, hs]); clear hc2))
    refine bodyPost_ret (v := .tuple #[.agg #[.int .i64 0, .int .i64 0, .int .u8 0, .int .u8 0, .int .u16 0, .int .i64 0], .bool false]) (by simp [results, Try.results10, go_sem, hq, hq2]) rfl ⟨rfl, ?_⟩
    repeat (with_reducible refine Below.setCell ?_ (by simp) _)
    refine Below.trans ?_ (hb2.mono (by first | omega | (simp; omega)))
    repeat (with_reducible refine Below.setCell ?_ (by simp) _)
    refine Below.trans ?_ (hb.mono (by first | omega | (simp; omega)))
    repeat (with_reducible refine Below.setCell ?_ (by simp) _)
    exact ((Below.refl _ _).alloc (Nat.le_refl _) _).alloc (by simp) _
  · go_enter Try.func10, Try.ntmps10
    go_wp2_with (first
      | (go_at_call 17; refine (HM.out _).mono ?_; rintro e w1 ⟨rfl, hb⟩; obtain ⟨hc, hf⟩ := bcell hb; have hq := (fun o => hc w.heap.size o (by first | omega | (simp; omega) | simp)); have hr := (fun o => hc ad.block o (by first | omega | (simp; omega))); have hz : w.heap.size + 1 < w1.heap.size := (by have := hb.size; (try simp at this); omega); have hz2 : w.heap.size < w1.heap.size := (by omega); have hz3 : ad.block < w1.heap.size := (by omega))
      | (go_at_call 15; refine (HA.out _).mono ?_; rintro e w2 ⟨rfl, hb2⟩; obtain ⟨hc2, hf2⟩ := bcell hb2; have hq2 := (fun o => hc2 w.heap.size o (by first | omega | (simp; omega) | simp)); have hr2 := (fun o => hc2 ad.block o (by first | omega | (simp; omega))); have hy : w.heap.size + 1 < w2.heap.size := (by have := hb2.size; (try simp at this); omega); have hy2 : w.heap.size < w2.heap.size := (by omega); have hy3 : ad.block < w2.heap.size := (by omega); have hs := (fun o => hc (w.heap.size + 1) o (by simp)); have hv0 : w2.cell? ⟨w.heap.size + 1, 0, none⟩ = some (.int .i64 0) := (hc2 (w.heap.size + 1) 0 (by first | omega | (simp; omega) | simp)).trans (by simp [go_sem, hs]); have hv1 : w2.cell? ⟨w.heap.size + 1, 1, none⟩ = some (.int .i64 2) := (hc2 (w.heap.size + 1) 1 (by first | omega | (simp; omega) | simp)).trans (by simp [go_sem, hs]); have hv2 : w2.cell? ⟨w.heap.size + 1, 2, none⟩ = some (.int .u8 y) := (hc2 (w.heap.size + 1) 2 (by first | omega | (simp; omega) | simp)).trans (by simp [go_sem, hs]); have hv3 : w2.cell? ⟨w.heap.size + 1, 3, none⟩ = some (.int .u8 dd) := (hc2 (w.heap.size + 1) 3 (by first | omega | (simp; omega) | simp)).trans (by simp [go_sem, hs]); have hv4 : w2.cell? ⟨w.heap.size + 1, 4, none⟩ = some (.int .u16 0) := (hc2 (w.heap.size + 1) 4 (by first | omega | (simp; omega) | simp)).trans (by simp [go_sem, hs]); have hv5 : w2.cell? ⟨w.heap.size + 1, 5, none⟩ = some (.int .i64 3) := (hc2 (w.heap.size + 1) 5 (by first | omega | (simp; omega) | simp)).trans (by simp [go_sem, hs]); clear hc2))
    refine bodyPost_ret (v := .tuple #[.agg #[.int .i64 0, .int .i64 0, .int .u8 0, .int .u8 0, .int .u16 0, .int .i64 0], .bool false]) (by simp [results, Try.results10, go_sem, hq, hq2]) rfl ⟨rfl, ?_⟩
    repeat (with_reducible refine Below.setCell ?_ (by simp) _)
    refine Below.trans ?_ (hb2.mono (by first | omega | (simp; omega)))
    repeat (with_reducible refine Below.setCell ?_ (by simp) _)
    refine Below.trans ?_ (hb.mono (by first | omega | (simp; omega)))
    repeat (with_reducible refine Below.setCell ?_ (by simp) _)
    exact ((Below.refl _ _).alloc (Nat.le_refl _) _).alloc (by simp) _
set_option maxRecDepth 100000 in
set_option maxHeartbeats 8000000 in
theorem refC_2 (ad : Addr) (n cap : Nat) (y v ix dd p q : Int) (w : World) (hlt : ad.block < w.heap.size) (hcap : n ≤ cap) (hcap2 : cap ≤ 9223372036854775807) (y0 : 0 ≤ y) (y1 : y ≤ 255) (c0 : w.cell? ad = some (.int .u8 v)) (c1 : w.cell? ⟨ad.block, ad.off + 1, none⟩ = some (.int .u8 y)) (k1 : (y == 221) = false) (k2 : (y == 237) = false) (k3 : (y == 253) = false) (k4 : (y == 203) = false) (hv : v = 221 ∧ ix = 1 ∨ v = 253 ∧ ix = 2) (hm : Mi.mem7 y = true) (cd : w.cell? ⟨ad.block, ad.off + 2, none⟩ = some (.int .u8 dd)) (cp : w.cell? ⟨ad.block, ad.off + 3, none⟩ = some (.int .u8 p)) (bp : B8 p) (cq : w.cell? ⟨ad.block, ad.off + 4, none⟩ = some (.int .u8 q)) (bq : B8 q) (ha : Mi.args7 y = 2) (hn : 5 ≤ n) :
    Calls Try.prog 10 #[.slice (some ad) n cap] w (Reads (⟨0, ix, y, dd, (p + 256 * q), 5⟩, true) w) := by
  have HA := Lib.hid (fun w' => args7_any y w' y0 y1)
  rw [ha] at HA
  clear ha
  have HM := Lib.hid (fun w' => mem7_any y w' y0 y1)
  rw [hm] at HM
  clear hm
  obtain ⟨p0, p1⟩ := bp
  obtain ⟨q0, q1⟩ := bq
  have e1 : IntKind.u16.wrap p = p := by rw [IntKind.wrap_u16]; omega
  have e2 : IntKind.i64.wrap (256 * q) = 256 * q := by rw [IntKind.wrap_i64]; omega
  have e3 : IntKind.i64.wrap (p + 256 * q) = p + 256 * q := by rw [IntKind.wrap_i64]; omega
  have e4 : IntKind.u16.wrap (p + 256 * q) = p + 256 * q := by rw [IntKind.wrap_u16]; omega
  rcases hv with ⟨rfl, rfl⟩ | ⟨rfl, rfl⟩
  · go_enter Try.func10, Try.ntmps10
    go_wp2_with (first
      | (go_at_call 17; refine (HM.out _).mono ?_; rintro e w1 ⟨rfl, hb⟩; obtain ⟨hc, hf⟩ := bcell hb; have hq := (fun o => hc w.heap.size o (by first | omega | (simp; omega) | simp)); have hr := (fun o => hc ad.block o (by first | omega | (simp; omega))); have hz : w.heap.size + 1 < w1.heap.size := (by have := hb.size; (try simp at this); omega); have hz2 : w.heap.size < w1.heap.size := (by omega); have hz3 : ad.block < w1.heap.size := (by omega))
      | (go_at_call 15; refine (HA.out _).mono ?_; rintro e w2 ⟨rfl, hb2⟩; obtain ⟨hc2, hf2⟩ := bcell hb2; have hq2 := (fun o => hc2 w.heap.size o (by first | omega | (simp; omega) | simp)); have hr2 := (fun o => hc2 ad.block o (by first | omega | (simp; omega))); have hy : w.heap.size + 1 < w2.heap.size := (by have := hb2.size; (try simp at this); omega); have hy2 : w.heap.size < w2.heap.size := (by omega); have hy3 : ad.block < w2.heap.size := (by omega); have hs := (fun o => hc (w.heap.size + 1) o (by simp)); have hv0 : w2.cell? ⟨w.heap.size + 1, 0, none⟩ = some (.int .i64 0) := (hc2 (w.heap.size + 1) 0 (by first | omega | (simp; omega) | simp)).trans (by simp [go_sem, hs]); have hv1 : w2.cell? ⟨w.heap.size + 1, 1, none⟩ = some (.int .i64 1) := (hc2 (w.heap.size + 1) 1 (by first | omega | (simp; omega) | simp)).trans (by simp [go_sem, hs]); have hv2 : w2.cell? ⟨w.heap.size + 1, 2, none⟩ = some (.int .u8 y) := (hc2 (w.heap.size + 1) 2 (by first | omega | (simp; omega) | simp)).trans (by simp [go_sem, hs]); have hv3 : w2.cell? ⟨w.heap.size + 1, 3, none⟩ = some (.int .u8 dd) := (hc2 (w.heap.size + 1) 3 (by first | omega | (simp; omega) | simp)).trans (by simp [go_sem, hs]); have hv4 : w2.cell? ⟨w.heap.size + 1, 4, none⟩ = some (.int .u16 0) := (hc2 (w.heap.size + 1) 4 (by first | omega | (simp; omega) | simp)).trans (by simp [go_sem, hs]); have hv5 : w2.cell? ⟨w.heap.size + 1, 5, none⟩ = some (.int .i64 3) := (hc2 (w.heap.size + 1) 5 (by first | omega | (simp; omega) | simp)).trans (by simp [go_sem, hs]); clear hc2))
    have hx : (w2.setCell ⟨w.heap.size + 1, 4, none⟩ (.int .u16 p)).cell? ⟨w.heap.size + 1, 4, none⟩ = some (.int .u16 p) := World.cell?_setCell_same _ _ _ hv4
    have hx5 : ((w2.setCell ⟨w.heap.size + 1, 4, none⟩ (.int .u16 p)).setCell ⟨w.heap.size + 1, 4, none⟩ (.int .u16 (p + 256 * q))).cell? ⟨w.heap.size + 1, 5, none⟩ = some (.int .i64 3) := by rw [World.cell?_setCell_other _ _ _ _ (by simp), World.cell?_setCell_other _ _ _ _ (by simp)]; exact hv5
    go_region
    all_goals
      go_wp2_with fail
      refine bodyPost_ret (v := .tuple #[.agg #[.int .i64 0, .int .i64 1, .int .u8 y, .int .u8 dd, .int .u16 (p + 256 * q), .int .i64 5], .bool true]) (by simp [results, Try.results10, go_sem, hq, hq2]) rfl ⟨rfl, ?_⟩
      repeat (with_reducible refine Below.setCell ?_ (by simp) _)
      refine Below.drew ?_
      repeat (with_reducible refine Below.setCell ?_ (by simp) _)
      refine Below.trans ?_ (hb2.mono (by first | omega | (simp; omega)))
      repeat (with_reducible refine Below.setCell ?_ (by simp) _)
      refine Below.trans ?_ (hb.mono (by first | omega | (simp; omega)))
      repeat (with_reducible refine Below.setCell ?_ (by simp) _)
      exact ((Below.refl _ _).alloc (Nat.le_refl _) _).alloc (by simp) _
  · go_enter Try.func10, Try.ntmps10
    go_wp2_with (first
      | (go_at_call 17; refine (HM.out _).mono ?_; rintro e w1 ⟨rfl, hb⟩; obtain ⟨hc, hf⟩ := bcell hb; have hq := (fun o => hc w.heap.size o (by first | omega | (simp; omega) | simp)); have hr := (fun o => hc ad.block o (by first | omega | (simp; omega))); have hz : w.heap.size + 1 < w1.heap.size := (by have := hb.size; (try simp at this); omega); have hz2 : w.heap.size < w1.heap.size := (by omega); have hz3 : ad.block < w1.heap.size := (by omega))
      | (go_at_call 15; refine (HA.out _).mono ?_; rintro e w2 ⟨rfl, hb2⟩; obtain ⟨hc2, hf2⟩ := bcell hb2; have hq2 := (fun o => hc2 w.heap.size o (by first | omega | (simp; omega) | simp)); have hr2 := (fun o => hc2 ad.block o (by first | omega | (simp; omega))); have hy : w.heap.size + 1 < w2.heap.size := (by have := hb2.size; (try simp at this); omega); have hy2 : w.heap.size < w2.heap.size := (by omega); have hy3 : ad.block < w2.heap.size := (by omega); have hs := (fun o => hc (w.heap.size + 1) o (by simp)); have hv0 : w2.cell? ⟨w.heap.size + 1, 0, none⟩ = some (.int .i64 0) := (hc2 (w.heap.size + 1) 0 (by first | omega | (simp; omega) | simp)).trans (by simp [go_sem, hs]); have hv1 : w2.cell? ⟨w.heap.size + 1, 1, none⟩ = some (.int .i64 2) := (hc2 (w.heap.size + 1) 1 (by first | omega | (simp; omega) | simp)).trans (by simp [go_sem, hs]); have hv2 : w2.cell? ⟨w.heap.size + 1, 2, none⟩ = some (.int .u8 y) := (hc2 (w.heap.size + 1) 2 (by first | omega | (simp; omega) | simp)).trans (by simp [go_sem, hs]); have hv3 : w2.cell? ⟨w.heap.size + 1, 3, none⟩ = some (.int .u8 dd) := (hc2 (w.heap.size + 1) 3 (by first | omega | (simp; omega) | simp)).trans (by simp [go_sem, hs]); have hv4 : w2.cell? ⟨w.heap.size + 1, 4, none⟩ = some (.int .u16 0) := (hc2 (w.heap.size + 1) 4 (by first | omega | (simp; omega) | simp)).trans (by simp [go_sem, hs]); have hv5 : w2.cell? ⟨w.heap.size + 1, 5, none⟩ = some (.int .i64 3) := (hc2 (w.heap.size + 1) 5 (by first | omega | (simp; omega) | simp)).trans (by simp [go_sem, hs]); clear hc2))
    have hx : (w2.setCell ⟨w.heap.size + 1, 4, none⟩ (.int .u16 p)).cell? ⟨w.heap.size + 1, 4, none⟩ = some (.int .u16 p) := World.cell?_setCell_same _ _ _ hv4
    have hx5 : ((w2.setCell ⟨w.heap.size + 1, 4, none⟩ (.int .u16 p)).setCell ⟨w.heap.size + 1, 4, none⟩ (.int .u16 (p + 256 * q))).cell? ⟨w.heap.size + 1, 5, none⟩ = some (.int .i64 3) := by rw [World.cell?_setCell_other _ _ _ _ (by simp), World.cell?_setCell_other _ _ _ _ (by simp)]; exact hv5
    go_region
    all_goals
      go_wp2_with fail
      refine bodyPost_ret (v := .tuple #[.agg #[.int .i64 0, .int .i64 2, .int .u8 y, .int .u8 dd, .int .u16 (p + 256 * q), .int .i64 5], .bool true]) (by simp [results, Try.results10, go_sem, hq, hq2]) rfl ⟨rfl, ?_⟩
      repeat (with_reducible refine Below.setCell ?_ (by simp) _)
      refine Below.drew ?_
      repeat (with_reducible refine Below.setCell ?_ (by simp) _)
      refine Below.trans ?_ (hb2.mono (by first | omega | (simp; omega)))
      repeat (with_reducible refine Below.setCell ?_ (by simp) _)
      refine Below.trans ?_ (hb.mono (by first | omega | (simp; omega)))
      repeat (with_reducible refine Below.setCell ?_ (by simp) _)
      exact ((Below.refl _ _).alloc (Nat.le_refl _) _).alloc (by simp) _
set_option maxRecDepth 100000 in
set_option maxHeartbeats 8000000 in
theorem refC_2n (ad : Addr) (n cap : Nat) (y v ix dd : Int) (w : World) (hlt : ad.block < w.heap.size) (hcap : n ≤ cap) (hcap2 : cap ≤ 9223372036854775807) (y0 : 0 ≤ y) (y1 : y ≤ 255) (c0 : w.cell? ad = some (.int .u8 v)) (c1 : w.cell? ⟨ad.block, ad.off + 1, none⟩ = some (.int .u8 y)) (k1 : (y == 221) = false) (k2 : (y == 237) = false) (k3 : (y == 253) = false) (k4 : (y == 203) = false) (hv : v = 221 ∧ ix = 1 ∨ v = 253 ∧ ix = 2) (hm : Mi.mem7 y = true) (cd : w.cell? ⟨ad.block, ad.off + 2, none⟩ = some (.int .u8 dd)) (ha : Mi.args7 y = 2) (hn : 3 ≤ n) (hn2 : n < 5) :
    Calls Try.prog 10 #[.slice (some ad) n cap] w (Reads (In.z, false) w) := by
  have HA := Lib.hid (fun w' => args7_any y w' y0 y1)
  rw [ha] at HA
  clear ha
  have HM := Lib.hid (fun w' => mem7_any y w' y0 y1)
  rw [hm] at HM
  clear hm
  rcases hv with ⟨rfl, rfl⟩ | ⟨rfl, rfl⟩
  · go_enter Try.func10, Try.ntmps10
    go_wp2_with (first
      | (go_at_call 17; refine (HM.out _).mono ?_; rintro e w1 ⟨rfl, hb⟩; obtain ⟨hc, hf⟩ := bcell hb; have hq := (fun o => hc w.heap.size o (by first | omega | (simp; omega) | simp)); have hr := (fun o => hc ad.block o (by first | omega | (simp; omega))); have hz : w.heap.size + 1 < w1.heap.size := (by have := hb.size; (try simp at this); omega); have hz2 : w.heap.size < w1.heap.size := (by omega); have hz3 : ad.block < w1.heap.size := (by omega))
      | (go_at_call 15; refine (HA.out _).mono ?_; rintro e w2 ⟨rfl, hb2⟩; obtain ⟨hc2, hf2⟩ := bcell hb2; have hq2 := (fun o => hc2 w.heap.size o (by first | omega | (simp; omega) | simp)); have hr2 := (fun o => hc2 ad.block o (by first | omega | (simp; omega))); have hy : w.heap.size + 1 < w2.heap.size := (by have := hb2.size; (try simp at this); omega); have hy2 : w.heap.size < w2.heap.size := (by omega); have hy3 : ad.block < w2.heap.size := (by omega); have hs := (fun o => hc (w.heap.size + 1) o (by simp)); have hv0 : w2.cell? ⟨w.heap.size + 1, 0, none⟩ = some (.int .i64 0) := (hc2 (w.heap.size + 1) 0 (by first | omega | (simp; omega) | simp)).trans (by simp [go_sem, hs]); have hv1 : w2.cell? ⟨w.heap.size + 1, 1, none⟩ = some (.int .i64 1) := (hc2 (w.heap.size + 1) 1 (by first | omega | (simp; omega) | simp)).trans (by simp [go_sem, hs]); have hv2 : w2.cell? ⟨w.heap.size + 1, 2, none⟩ = some (.int .u8 y) := (hc2 (w.heap.size + 1) 2 (by first | omega | (simp; omega) | simp)).trans (by simp [go_sem, hs]); have hv3 : w2.cell? ⟨w.heap.size + 1, 3, none⟩ = some (.int .u8 dd) := (hc2 (w.heap.size + 1) 3 (by first | omega | (simp; omega) | simp)).trans (by simp [go_sem, hs]); have hv4 : w2.cell? ⟨w.heap.size + 1, 4, none⟩ = some (.int .u16 0) := (hc2 (w.heap.size + 1) 4 (by first | omega | (simp; omega) | simp)).trans (by simp [go_sem, hs]); have hv5 : w2.cell? ⟨w.heap.size + 1, 5, none⟩ = some (.int .i64 3) := (hc2 (w.heap.size + 1) 5 (by first | omega | (simp; omega) | simp)).trans (by simp [go_sem, hs]); clear hc2))
    refine bodyPost_ret (v := .tuple #[.agg #[.int .i64 0, .int .i64 0, .int .u8 0, .int .u8 0, .int .u16 0, .int .i64 0], .bool false]) (by simp [results, Try.results10, go_sem, hq, hq2]) rfl ⟨rfl, ?_⟩
    repeat (with_reducible refine Below.setCell ?_ (by simp) _)
    refine Below.trans ?_ (hb2.mono (by first | omega | (simp; omega)))
    repeat (with_reducible refine Below.setCell ?_ (by simp) _)
    refine Below.trans ?_ (hb.mono (by first | omega | (simp; omega)))
    repeat (with_reducible refine Below.setCell ?_ (by simp) _)
    exact ((Below.refl _ _).alloc (Nat.le_refl _) _).alloc (by simp) _
  · go_enter Try.func10, Try.ntmps10
    go_wp2_with (first
      | (go_at_call 17; refine (HM.out _).mono ?_; rintro e w1 ⟨rfl, hb⟩; obtain ⟨hc, hf⟩ := bcell hb; have hq := (fun o => hc w.heap.size o (by first | omega | (simp; omega) | simp)); have hr := (fun o => hc ad.block o (by first | omega | (simp; omega))); have hz : w.heap.size + 1 < w1.heap.size := (by have := hb.size; (try simp at this); omega); have hz2 : w.heap.size < w1.heap.size := (by omega); have hz3 : ad.block < w1.heap.size := (by omega))
      | (go_at_call 15; refine (HA.out _).mono ?_; rintro e w2 ⟨rfl, hb2⟩; obtain ⟨hc2, hf2⟩ := bcell hb2; have hq2 := (fun o => hc2 w.heap.size o (by first | omega | (simp; omega) | simp)); have hr2 := (fun o => hc2 ad.block o (by first | omega | (simp; omega))); have hy : w.heap.size + 1 < w2.heap.size := (by have := hb2.size; (try simp at this); omega); have hy2 : w.heap.size < w2.heap.size := (by omega); have hy3 : ad.block < w2.heap.size := (by omega); have hs := (fun o => hc (w.heap.size + 1) o (by simp)); have hv0 : w2.cell? ⟨w.heap.size + 1, 0, none⟩ = some (.int .i64 0) := (hc2 (w.heap.size + 1) 0 (by first | omega | (simp; omega) | simp)).trans (by simp [go_sem, hs]); have hv1 : w2.cell? ⟨w.heap.size + 1, 1, none⟩ = some (.int .i64 2) := (hc2 (w.heap.size + 1) 1 (by first | omega | (simp; omega) | simp)).trans (by simp [go_sem, hs]); have hv2 : w2.cell? ⟨w.heap.size + 1, 2, none⟩ = some (.int .u8 y) := (hc2 (w.heap.size + 1) 2 (by first | omega | (simp; omega) | simp)).trans (by simp [go_sem, hs]); have hv3 : w2.cell? ⟨w.heap.size + 1, 3, none⟩ = some (.int .u8 dd) := (hc2 (w.heap.size + 1) 3 (by first | omega | (simp; omega) | simp)).trans (by simp [go_sem, hs]); have hv4 : w2.cell? ⟨w.heap.size + 1, 4, none⟩ = some (.int .u16 0) := (hc2 (w.heap.size + 1) 4 (by first | omega | (simp; omega) | simp)).trans (by simp [go_sem, hs]); have hv5 : w2.cell? ⟨w.heap.size + 1, 5, none⟩ = some (.int .i64 3) := (hc2 (w.heap.size + 1) 5 (by first | omega | (simp; omega) | simp)).trans (by simp [go_sem, hs]); clear hc2))
    refine bodyPost_ret (v := .tuple #[.agg #[.int .i64 0, .int .i64 0, .int .u8 0, .int .u8 0, .int .u16 0, .int .i64 0], .bool false]) (by simp [results, Try.results10, go_sem, hq, hq2]) rfl ⟨rfl, ?_⟩
    repeat (with_reducible refine Below.setCell ?_ (by simp) _)
    refine Below.trans ?_ (hb2.mono (by first | omega | (simp; omega)))
    repeat (with_reducible refine Below.setCell ?_ (by simp) _)
    refine Below.trans ?_ (hb.mono (by first | omega | (simp; omega)))
    repeat (with_reducible refine Below.setCell ?_ (by simp) _)
    exact ((Below.refl _ _).alloc (Nat.le_refl _) _).alloc (by simp) _
set_option maxRecDepth 100000 in
set_option maxHeartbeats 8000000 in
theorem refC_n (ad : Addr) (cap : Nat) (y v ix : Int) (w : World) (hlt : ad.block < w.heap.size) (hcap2 : cap ≤ 9223372036854775807) (y0 : 0 ≤ y) (y1 : y ≤ 255) (c0 : w.cell? ad = some (.int .u8 v)) (c1 : w.cell? ⟨ad.block, ad.off + 1, none⟩ = some (.int .u8 y)) (k1 : (y == 221) = false) (k2 : (y == 237) = false) (k3 : (y == 253) = false) (k4 : (y == 203) = false) (hv : v = 221 ∧ ix = 1 ∨ v = 253 ∧ ix = 2) (hm : Mi.mem7 y = true) :
    Calls Try.prog 10 #[.slice (some ad) 2 cap] w (Reads (In.z, false) w) := by
  have HM := Lib.hid (fun w' => mem7_any y w' y0 y1)
  rw [hm] at HM
  clear hm
  rcases hv with ⟨rfl, rfl⟩ | ⟨rfl, rfl⟩
  all_goals
    go_enter Try.func10, Try.ntmps10
    go_wp2_with (first
      | (go_at_call 17; refine (HM.out _).mono ?_; rintro e w1 ⟨rfl, hb⟩; obtain ⟨hc, hf⟩ := bcell hb; have hq := (fun o => hc w.heap.size o (by first | omega | (simp; omega) | simp)); have hr := (fun o => hc ad.block o (by first | omega | (simp; omega))); have hz : w.heap.size + 1 < w1.heap.size := (by have := hb.size; (try simp at this); omega); have hz2 : w.heap.size < w1.heap.size := (by omega); have hz3 : ad.block < w1.heap.size := (by omega)))
    refine bodyPost_ret (v := .tuple #[.agg #[.int .i64 0, .int .i64 0, .int .u8 0, .int .u8 0, .int .u16 0, .int .i64 0], .bool false]) (by simp [results, Try.results10, go_sem, hq]) rfl ⟨rfl, ?_⟩
    repeat (with_reducible refine Below.setCell ?_ (by simp) _)
    refine Below.trans ?_ (hb.mono (by first | omega | (simp; omega)))
    repeat (with_reducible refine Below.setCell ?_ (by simp) _)
    exact ((Below.refl _ _).alloc (Nat.le_refl _) _).alloc (by simp) _
end Go.Proofs.Ytjkakmmhbciilaa
