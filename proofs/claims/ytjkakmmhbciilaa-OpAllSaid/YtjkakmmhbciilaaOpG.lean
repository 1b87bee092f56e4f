/- Package op: tail, case by case. -/
import Derived.Test.YtjkakmmhbciilaaOpF
namespace Go.Proofs.Ytjkakmmhbciilaa
set_option linter.unusedSimpArgs false
set_option linter.unusedVariables false
open Go.RowKit
theorem at_cell {w : World} {A : Option Addr} {l : List Int} {n j : Nat} (hl : Ints w A .u8 l) (hn : l.length = n) (hb : ∀ x ∈ l, B8 x) (hj : j < n) :
    ∃ ad, A = some ad ∧ w.cell? (ad.add j) = some (.int .u8 (l.getD j 0)) ∧ B8 (l.getD j 0) ∧ ad.block < w.heap.size := by
  have e : l[j]? = some (l.getD j 0) := by simp [List.getD, List.getElem?_eq_getElem (show j < l.length by omega)]
  obtain ⟨ad, rfl, hc⟩ := hl j (.int .u8 (l.getD j 0)) (by rw [List.getElem?_map, e]; rfl)
  refine ⟨ad, rfl, hc, hb _ (List.mem_of_getElem? e), ?_⟩
  have := block_lt_of_cell hc
  rwa [block_of_add] at this
set_option maxHeartbeats 1000000 in
theorem tailA_0 (ad : Addr) (n cap : Nat) (c : Int) (w : World) (hlt : ad.block < w.heap.size) (hcap : n ≤ cap) (hcap2 : cap ≤ 9223372036854775807) (hn : 1 ≤ n) :
    Calls Try.prog 19 #[.slice (some ad) n cap, .agg #[.int .i64 0, .int .i64 0, .int .u8 c, .int .u8 0, .int .u16 0, .int .i64 0], .int .i64 1, .int .i64 0] w (Reads (⟨0, 0, c, 0, 0, 1⟩, true) w) := by
  by_cases hcc : cap = 1
  · subst hcc
    obtain rfl : n = 1 := by omega
    go_enter Try.func19, Try.ntmps19
    go_wp2_with (first
        | (go_at_call 40; refine (operand_0 _ _ _).mono ?_; rintro e w' ⟨rfl, rfl⟩))
    refine bodyPost_ret (v := .tuple #[.agg #[.int .i64 0, .int .i64 0, .int .u8 c, .int .u8 0, .int .u16 0, .int .i64 1], .bool true]) (by simp [results, Try.results19, go_sem]) rfl ⟨rfl, ?_⟩
    repeat' first | exact Below.refl _ _ | exact Nat.le_refl _ | refine Below.setCell ?_ ?_ _ | refine Below.alloc ?_ ?_ _ | (simp; done)
  · have hcc2 : ¬ (1 = cap) := fun h => hcc h.symm
    go_enter Try.func19, Try.ntmps19
    go_wp2_with (first
        | (go_at_call 40; refine (operand_0 _ _ _).mono ?_; rintro e w' ⟨rfl, rfl⟩))
    refine bodyPost_ret (v := .tuple #[.agg #[.int .i64 0, .int .i64 0, .int .u8 c, .int .u8 0, .int .u16 0, .int .i64 1], .bool true]) (by simp [results, Try.results19, go_sem]) rfl ⟨rfl, ?_⟩
    repeat' first | exact Below.refl _ _ | exact Nat.le_refl _ | refine Below.setCell ?_ ?_ _ | refine Below.alloc ?_ ?_ _ | (simp; done)
set_option maxHeartbeats 1000000 in
theorem tailA_1 (ad : Addr) (n cap : Nat) (c x : Int) (w : World) (hlt : ad.block < w.heap.size) (hx : w.cell? ⟨ad.block, ad.off + 1, none⟩ = some (.int .u8 x)) (hbx : B8 x) (hcap : n ≤ cap) (hcap2 : cap ≤ 9223372036854775807) (hn : 2 ≤ n) :
    Calls Try.prog 19 #[.slice (some ad) n cap, .agg #[.int .i64 0, .int .i64 0, .int .u8 c, .int .u8 0, .int .u16 0, .int .i64 0], .int .i64 1, .int .i64 1] w (Reads (⟨0, 0, c, 0, x, 2⟩, true) w) := by
  have HO := Lib.hid (fun (cc : Nat) (w' : World) (hB : Below w.heap.size w w') => operand_1 ⟨ad.block, ad.off + 1, none⟩ cc x w' ((hB.cell (p := ⟨ad.block, ad.off + 1, none⟩) hlt).trans hx) hbx)
  go_enter Try.func19, Try.ntmps19
  go_wp2_with (first
      | (go_at_call 40; refine (HO.out _ _ (by repeat' first | exact Below.refl _ _ | exact Nat.le_refl _ | refine Below.setCell ?_ ?_ _ | refine Below.alloc ?_ ?_ _ | (simp; done))).mono ?_; rintro e w' ⟨rfl, rfl⟩))
  refine bodyPost_ret (v := .tuple #[.agg #[.int .i64 0, .int .i64 0, .int .u8 c, .int .u8 0, .int .u16 x, .int .i64 2], .bool true]) (by simp [results, Try.results19, go_sem]) rfl ⟨rfl, ?_⟩
  repeat' first | exact Below.refl _ _ | exact Nat.le_refl _ | refine Below.setCell ?_ ?_ _ | refine Below.alloc ?_ ?_ _ | (simp; done)
set_option maxHeartbeats 1000000 in
theorem tailA_1n (ad : Addr) (n cap : Nat) (c : Int) (w : World) (hlt : ad.block < w.heap.size) (hcap : n ≤ cap) (hcap2 : cap ≤ 9223372036854775807) (hn : 1 ≤ n) (hn2 : n < 2) :
    Calls Try.prog 19 #[.slice (some ad) n cap, .agg #[.int .i64 0, .int .i64 0, .int .u8 c, .int .u8 0, .int .u16 0, .int .i64 0], .int .i64 1, .int .i64 1] w (Reads (In.z, false) w) := by
  go_enter Try.func19, Try.ntmps19
  go_wp2_with fail
  refine bodyPost_ret (v := .tuple #[.agg #[.int .i64 0, .int .i64 0, .int .u8 0, .int .u8 0, .int .u16 0, .int .i64 0], .bool false]) (by simp [results, Try.results19, go_sem]) rfl ⟨rfl, ?_⟩
  repeat' first | exact Below.refl _ _ | exact Nat.le_refl _ | refine Below.setCell ?_ ?_ _ | refine Below.alloc ?_ ?_ _ | (simp; done)
set_option maxHeartbeats 1000000 in
theorem tailA_2 (ad : Addr) (n cap : Nat) (c x y : Int) (w : World) (hlt : ad.block < w.heap.size) (hx : w.cell? ⟨ad.block, ad.off + 1, none⟩ = some (.int .u8 x)) (hbx : B8 x) (hy : w.cell? ⟨ad.block, ad.off + 2, none⟩ = some (.int .u8 y)) (hby : B8 y) (hcap : n ≤ cap) (hcap2 : cap ≤ 9223372036854775807) (hn : 3 ≤ n) :
    Calls Try.prog 19 #[.slice (some ad) n cap, .agg #[.int .i64 0, .int .i64 0, .int .u8 c, .int .u8 0, .int .u16 0, .int .i64 0], .int .i64 1, .int .i64 2] w (Reads (⟨0, 0, c, 0, (x + 256 * y), 3⟩, true) w) := by
  have HO := Lib.hid (fun (cc : Nat) (w' : World) (hB : Below w.heap.size w w') => operand_2 ⟨ad.block, ad.off + 1, none⟩ cc x y w' ((hB.cell (p := ⟨ad.block, ad.off + 1, none⟩) hlt).trans hx) ((hB.cell (p := ⟨ad.block, ad.off + 2, none⟩) hlt).trans hy) hbx hby)
  go_enter Try.func19, Try.ntmps19
  go_wp2_with (first
      | (go_at_call 40; refine (HO.out _ _ (by repeat' first | exact Below.refl _ _ | exact Nat.le_refl _ | refine Below.setCell ?_ ?_ _ | refine Below.alloc ?_ ?_ _ | (simp; done))).mono ?_; rintro e w' ⟨rfl, rfl⟩))
  refine bodyPost_ret (v := .tuple #[.agg #[.int .i64 0, .int .i64 0, .int .u8 c, .int .u8 0, .int .u16 (x + 256 * y), .int .i64 3], .bool true]) (by simp [results, Try.results19, go_sem]) rfl ⟨rfl, ?_⟩
  repeat' first | exact Below.refl _ _ | exact Nat.le_refl _ | refine Below.setCell ?_ ?_ _ | refine Below.alloc ?_ ?_ _ | (simp; done)
set_option maxHeartbeats 1000000 in
theorem tailA_2n (ad : Addr) (n cap : Nat) (c : Int) (w : World) (hlt : ad.block < w.heap.size) (hcap : n ≤ cap) (hcap2 : cap ≤ 9223372036854775807) (hn : 1 ≤ n) (hn2 : n < 3) :
    Calls Try.prog 19 #[.slice (some ad) n cap, .agg #[.int .i64 0, .int .i64 0, .int .u8 c, .int .u8 0, .int .u16 0, .int .i64 0], .int .i64 1, .int .i64 2] w (Reads (In.z, false) w) := by
  go_enter Try.func19, Try.ntmps19
  go_wp2_with fail
  refine bodyPost_ret (v := .tuple #[.agg #[.int .i64 0, .int .i64 0, .int .u8 0, .int .u8 0, .int .u16 0, .int .i64 0], .bool false]) (by simp [results, Try.results19, go_sem]) rfl ⟨rfl, ?_⟩
  repeat' first | exact Below.refl _ _ | exact Nat.le_refl _ | refine Below.setCell ?_ ?_ _ | refine Below.alloc ?_ ?_ _ | (simp; done)
set_option maxHeartbeats 1000000 in
theorem tailB_0 (ad : Addr) (n cap : Nat) (c ix : Int) (w : World) (hlt : ad.block < w.heap.size) (hix : 0 < ix) (h0 : 0 ≤ c) (hc : c ≤ 255) (hm : Mi.memS c = false) (hcap : n ≤ cap) (hcap2 : cap ≤ 9223372036854775807) (hn : 2 ≤ n) :
    Calls Try.prog 19 #[.slice (some ad) n cap, .agg #[.int .i64 0, .int .i64 ix, .int .u8 c, .int .u8 0, .int .u16 0, .int .i64 0], .int .i64 2, .int .i64 0] w (Reads (⟨0, ix, c, 0, 0, 2⟩, true) w) := by
  by_cases hcc : cap = 2
  · subst hcc
    obtain rfl : n = 2 := by omega
    have HM := Lib.hid (fun w' => mem_any c w' h0 hc)
    rw [hm] at HM
    clear hm
    go_enter Try.func19, Try.ntmps19
    go_wp2_with (first
        | (go_at_call 40; refine (operand_0 _ _ _).mono ?_; rintro e w' ⟨rfl, rfl⟩)
        | (go_at_call 16; refine (HM.out _).mono ?_; rintro e w' ⟨rfl, rfl⟩))
    refine bodyPost_ret (v := .tuple #[.agg #[.int .i64 0, .int .i64 ix, .int .u8 c, .int .u8 0, .int .u16 0, .int .i64 2], .bool true]) (by simp [results, Try.results19, go_sem]) rfl ⟨rfl, ?_⟩
    repeat' first | exact Below.refl _ _ | exact Nat.le_refl _ | refine Below.setCell ?_ ?_ _ | refine Below.alloc ?_ ?_ _ | (simp; done)
  · have hcc2 : ¬ (2 = cap) := fun h => hcc h.symm
    have HM := Lib.hid (fun w' => mem_any c w' h0 hc)
    rw [hm] at HM
    clear hm
    go_enter Try.func19, Try.ntmps19
    go_wp2_with (first
        | (go_at_call 40; refine (operand_0 _ _ _).mono ?_; rintro e w' ⟨rfl, rfl⟩)
        | (go_at_call 16; refine (HM.out _).mono ?_; rintro e w' ⟨rfl, rfl⟩))
    refine bodyPost_ret (v := .tuple #[.agg #[.int .i64 0, .int .i64 ix, .int .u8 c, .int .u8 0, .int .u16 0, .int .i64 2], .bool true]) (by simp [results, Try.results19, go_sem]) rfl ⟨rfl, ?_⟩
    repeat' first | exact Below.refl _ _ | exact Nat.le_refl _ | refine Below.setCell ?_ ?_ _ | refine Below.alloc ?_ ?_ _ | (simp; done)
set_option maxHeartbeats 1000000 in
theorem tailB_1 (ad : Addr) (n cap : Nat) (c ix x : Int) (w : World) (hlt : ad.block < w.heap.size) (hix : 0 < ix) (h0 : 0 ≤ c) (hc : c ≤ 255) (hm : Mi.memS c = false) (hx : w.cell? ⟨ad.block, ad.off + 2, none⟩ = some (.int .u8 x)) (hbx : B8 x) (hcap : n ≤ cap) (hcap2 : cap ≤ 9223372036854775807) (hn : 3 ≤ n) :
    Calls Try.prog 19 #[.slice (some ad) n cap, .agg #[.int .i64 0, .int .i64 ix, .int .u8 c, .int .u8 0, .int .u16 0, .int .i64 0], .int .i64 2, .int .i64 1] w (Reads (⟨0, ix, c, 0, x, 3⟩, true) w) := by
  have HO := Lib.hid (fun (cc : Nat) (w' : World) (hB : Below w.heap.size w w') => operand_1 ⟨ad.block, ad.off + 2, none⟩ cc x w' ((hB.cell (p := ⟨ad.block, ad.off + 2, none⟩) hlt).trans hx) hbx)
  have HM := Lib.hid (fun w' => mem_any c w' h0 hc)
  rw [hm] at HM
  clear hm
  go_enter Try.func19, Try.ntmps19
  go_wp2_with (first
      | (go_at_call 40; refine (HO.out _ _ (by repeat' first | exact Below.refl _ _ | exact Nat.le_refl _ | refine Below.setCell ?_ ?_ _ | refine Below.alloc ?_ ?_ _ | (simp; done))).mono ?_; rintro e w' ⟨rfl, rfl⟩)
      | (go_at_call 16; refine (HM.out _).mono ?_; rintro e w' ⟨rfl, rfl⟩))
  refine bodyPost_ret (v := .tuple #[.agg #[.int .i64 0, .int .i64 ix, .int .u8 c, .int .u8 0, .int .u16 x, .int .i64 3], .bool true]) (by simp [results, Try.results19, go_sem]) rfl ⟨rfl, ?_⟩
  repeat' first | exact Below.refl _ _ | exact Nat.le_refl _ | refine Below.setCell ?_ ?_ _ | refine Below.alloc ?_ ?_ _ | (simp; done)
set_option maxHeartbeats 1000000 in
theorem tailB_1n (ad : Addr) (n cap : Nat) (c ix : Int) (w : World) (hlt : ad.block < w.heap.size) (hix : 0 < ix) (h0 : 0 ≤ c) (hc : c ≤ 255) (hm : Mi.memS c = false) (hcap : n ≤ cap) (hcap2 : cap ≤ 9223372036854775807) (hn : 2 ≤ n) (hn2 : n < 3) :
    Calls Try.prog 19 #[.slice (some ad) n cap, .agg #[.int .i64 0, .int .i64 ix, .int .u8 c, .int .u8 0, .int .u16 0, .int .i64 0], .int .i64 2, .int .i64 1] w (Reads (In.z, false) w) := by
  have HM := Lib.hid (fun w' => mem_any c w' h0 hc)
  rw [hm] at HM
  clear hm
  go_enter Try.func19, Try.ntmps19
  go_wp2_with (first
      | (go_at_call 16; refine (HM.out _).mono ?_; rintro e w' ⟨rfl, rfl⟩))
  refine bodyPost_ret (v := .tuple #[.agg #[.int .i64 0, .int .i64 0, .int .u8 0, .int .u8 0, .int .u16 0, .int .i64 0], .bool false]) (by simp [results, Try.results19, go_sem]) rfl ⟨rfl, ?_⟩
  repeat' first | exact Below.refl _ _ | exact Nat.le_refl _ | refine Below.setCell ?_ ?_ _ | refine Below.alloc ?_ ?_ _ | (simp; done)
set_option maxHeartbeats 1000000 in
theorem tailB_2 (ad : Addr) (n cap : Nat) (c ix x y : Int) (w : World) (hlt : ad.block < w.heap.size) (hix : 0 < ix) (h0 : 0 ≤ c) (hc : c ≤ 255) (hm : Mi.memS c = false) (hx : w.cell? ⟨ad.block, ad.off + 2, none⟩ = some (.int .u8 x)) (hbx : B8 x) (hy : w.cell? ⟨ad.block, ad.off + 3, none⟩ = some (.int .u8 y)) (hby : B8 y) (hcap : n ≤ cap) (hcap2 : cap ≤ 9223372036854775807) (hn : 4 ≤ n) :
    Calls Try.prog 19 #[.slice (some ad) n cap, .agg #[.int .i64 0, .int .i64 ix, .int .u8 c, .int .u8 0, .int .u16 0, .int .i64 0], .int .i64 2, .int .i64 2] w (Reads (⟨0, ix, c, 0, (x + 256 * y), 4⟩, true) w) := by
  have HO := Lib.hid (fun (cc : Nat) (w' : World) (hB : Below w.heap.size w w') => operand_2 ⟨ad.block, ad.off + 2, none⟩ cc x y w' ((hB.cell (p := ⟨ad.block, ad.off + 2, none⟩) hlt).trans hx) ((hB.cell (p := ⟨ad.block, ad.off + 3, none⟩) hlt).trans hy) hbx hby)
  have HM := Lib.hid (fun w' => mem_any c w' h0 hc)
  rw [hm] at HM
  clear hm
  go_enter Try.func19, Try.ntmps19
  go_wp2_with (first
      | (go_at_call 40; refine (HO.out _ _ (by repeat' first | exact Below.refl _ _ | exact Nat.le_refl _ | refine Below.setCell ?_ ?_ _ | refine Below.alloc ?_ ?_ _ | (simp; done))).mono ?_; rintro e w' ⟨rfl, rfl⟩)
      | (go_at_call 16; refine (HM.out _).mono ?_; rintro e w' ⟨rfl, rfl⟩))
  refine bodyPost_ret (v := .tuple #[.agg #[.int .i64 0, .int .i64 ix, .int .u8 c, .int .u8 0, .int .u16 (x + 256 * y), .int .i64 4], .bool true]) (by simp [results, Try.results19, go_sem]) rfl ⟨rfl, ?_⟩
  repeat' first | exact Below.refl _ _ | exact Nat.le_refl _ | refine Below.setCell ?_ ?_ _ | refine Below.alloc ?_ ?_ _ | (simp; done)
set_option maxHeartbeats 1000000 in
theorem tailB_2n (ad : Addr) (n cap : Nat) (c ix : Int) (w : World) (hlt : ad.block < w.heap.size) (hix : 0 < ix) (h0 : 0 ≤ c) (hc : c ≤ 255) (hm : Mi.memS c = false) (hcap : n ≤ cap) (hcap2 : cap ≤ 9223372036854775807) (hn : 2 ≤ n) (hn2 : n < 4) :
    Calls Try.prog 19 #[.slice (some ad) n cap, .agg #[.int .i64 0, .int .i64 ix, .int .u8 c, .int .u8 0, .int .u16 0, .int .i64 0], .int .i64 2, .int .i64 2] w (Reads (In.z, false) w) := by
  have HM := Lib.hid (fun w' => mem_any c w' h0 hc)
  rw [hm] at HM
  clear hm
  go_enter Try.func19, Try.ntmps19
  go_wp2_with (first
      | (go_at_call 16; refine (HM.out _).mono ?_; rintro e w' ⟨rfl, rfl⟩))
  refine bodyPost_ret (v := .tuple #[.agg #[.int .i64 0, .int .i64 0, .int .u8 0, .int .u8 0, .int .u16 0, .int .i64 0], .bool false]) (by simp [results, Try.results19, go_sem]) rfl ⟨rfl, ?_⟩
  repeat' first | exact Below.refl _ _ | exact Nat.le_refl _ | refine Below.setCell ?_ ?_ _ | refine Below.alloc ?_ ?_ _ | (simp; done)
set_option maxHeartbeats 1000000 in
theorem tailC_0 (ad : Addr) (n cap : Nat) (c ix dd : Int) (w : World) (hlt : ad.block < w.heap.size) (hix : 0 < ix) (h0 : 0 ≤ c) (hc : c ≤ 255) (hm : Mi.memS c = true) (hd : w.cell? ⟨ad.block, ad.off + 2, none⟩ = some (.int .u8 dd)) (hdd : B8 dd) (hcap : n ≤ cap) (hcap2 : cap ≤ 9223372036854775807) (hn : 3 ≤ n) :
    Calls Try.prog 19 #[.slice (some ad) n cap, .agg #[.int .i64 0, .int .i64 ix, .int .u8 c, .int .u8 0, .int .u16 0, .int .i64 0], .int .i64 2, .int .i64 0] w (Reads (⟨0, ix, c, dd, 0, 3⟩, true) w) := by
  by_cases hcc : cap = 3
  · subst hcc
    obtain rfl : n = 3 := by omega
    have HM := Lib.hid (fun w' => mem_any c w' h0 hc)
    rw [hm] at HM
    clear hm
    go_enter Try.func19, Try.ntmps19
    go_wp2_with (first
        | (go_at_call 40; refine (operand_0 _ _ _).mono ?_; rintro e w' ⟨rfl, rfl⟩)
        | (go_at_call 16; refine (HM.out _).mono ?_; rintro e w' ⟨rfl, rfl⟩))
    refine bodyPost_ret (v := .tuple #[.agg #[.int .i64 0, .int .i64 ix, .int .u8 c, .int .u8 dd, .int .u16 0, .int .i64 3], .bool true]) (by simp [results, Try.results19, go_sem]) rfl ⟨rfl, ?_⟩
    repeat' first | exact Below.refl _ _ | exact Nat.le_refl _ | refine Below.setCell ?_ ?_ _ | refine Below.alloc ?_ ?_ _ | (simp; done)
  · have hcc2 : ¬ (3 = cap) := fun h => hcc h.symm
    have HM := Lib.hid (fun w' => mem_any c w' h0 hc)
    rw [hm] at HM
    clear hm
    go_enter Try.func19, Try.ntmps19
    go_wp2_with (first
        | (go_at_call 40; refine (operand_0 _ _ _).mono ?_; rintro e w' ⟨rfl, rfl⟩)
        | (go_at_call 16; refine (HM.out _).mono ?_; rintro e w' ⟨rfl, rfl⟩))
    refine bodyPost_ret (v := .tuple #[.agg #[.int .i64 0, .int .i64 ix, .int .u8 c, .int .u8 dd, .int .u16 0, .int .i64 3], .bool true]) (by simp [results, Try.results19, go_sem]) rfl ⟨rfl, ?_⟩
    repeat' first | exact Below.refl _ _ | exact Nat.le_refl _ | refine Below.setCell ?_ ?_ _ | refine Below.alloc ?_ ?_ _ | (simp; done)
set_option maxHeartbeats 1000000 in
theorem tailC_1 (ad : Addr) (n cap : Nat) (c ix dd x : Int) (w : World) (hlt : ad.block < w.heap.size) (hix : 0 < ix) (h0 : 0 ≤ c) (hc : c ≤ 255) (hm : Mi.memS c = true) (hd : w.cell? ⟨ad.block, ad.off + 2, none⟩ = some (.int .u8 dd)) (hdd : B8 dd) (hx : w.cell? ⟨ad.block, ad.off + 3, none⟩ = some (.int .u8 x)) (hbx : B8 x) (hcap : n ≤ cap) (hcap2 : cap ≤ 9223372036854775807) (hn : 4 ≤ n) :
    Calls Try.prog 19 #[.slice (some ad) n cap, .agg #[.int .i64 0, .int .i64 ix, .int .u8 c, .int .u8 0, .int .u16 0, .int .i64 0], .int .i64 2, .int .i64 1] w (Reads (⟨0, ix, c, dd, x, 4⟩, true) w) := by
  have HO := Lib.hid (fun (cc : Nat) (w' : World) (hB : Below w.heap.size w w') => operand_1 ⟨ad.block, ad.off + 3, none⟩ cc x w' ((hB.cell (p := ⟨ad.block, ad.off + 3, none⟩) hlt).trans hx) hbx)
  have HM := Lib.hid (fun w' => mem_any c w' h0 hc)
  rw [hm] at HM
  clear hm
  go_enter Try.func19, Try.ntmps19
  go_wp2_with (first
      | (go_at_call 40; refine (HO.out _ _ (by repeat' first | exact Below.refl _ _ | exact Nat.le_refl _ | refine Below.setCell ?_ ?_ _ | refine Below.alloc ?_ ?_ _ | (simp; done))).mono ?_; rintro e w' ⟨rfl, rfl⟩)
      | (go_at_call 16; refine (HM.out _).mono ?_; rintro e w' ⟨rfl, rfl⟩))
  refine bodyPost_ret (v := .tuple #[.agg #[.int .i64 0, .int .i64 ix, .int .u8 c, .int .u8 dd, .int .u16 x, .int .i64 4], .bool true]) (by simp [results, Try.results19, go_sem]) rfl ⟨rfl, ?_⟩
  repeat' first | exact Below.refl _ _ | exact Nat.le_refl _ | refine Below.setCell ?_ ?_ _ | refine Below.alloc ?_ ?_ _ | (simp; done)
set_option maxHeartbeats 1000000 in
theorem tailC_1n (ad : Addr) (n cap : Nat) (c ix dd : Int) (w : World) (hlt : ad.block < w.heap.size) (hix : 0 < ix) (h0 : 0 ≤ c) (hc : c ≤ 255) (hm : Mi.memS c = true) (hd : w.cell? ⟨ad.block, ad.off + 2, none⟩ = some (.int .u8 dd)) (hdd : B8 dd) (hcap : n ≤ cap) (hcap2 : cap ≤ 9223372036854775807) (hn : 3 ≤ n) (hn2 : n < 4) :
    Calls Try.prog 19 #[.slice (some ad) n cap, .agg #[.int .i64 0, .int .i64 ix, .int .u8 c, .int .u8 0, .int .u16 0, .int .i64 0], .int .i64 2, .int .i64 1] w (Reads (In.z, false) w) := by
  have HM := Lib.hid (fun w' => mem_any c w' h0 hc)
  rw [hm] at HM
  clear hm
  go_enter Try.func19, Try.ntmps19
  go_wp2_with (first
      | (go_at_call 16; refine (HM.out _).mono ?_; rintro e w' ⟨rfl, rfl⟩))
  refine bodyPost_ret (v := .tuple #[.agg #[.int .i64 0, .int .i64 0, .int .u8 0, .int .u8 0, .int .u16 0, .int .i64 0], .bool false]) (by simp [results, Try.results19, go_sem]) rfl ⟨rfl, ?_⟩
  repeat' first | exact Below.refl _ _ | exact Nat.le_refl _ | refine Below.setCell ?_ ?_ _ | refine Below.alloc ?_ ?_ _ | (simp; done)
set_option maxHeartbeats 1000000 in
theorem tailC_2 (ad : Addr) (n cap : Nat) (c ix dd x y : Int) (w : World) (hlt : ad.block < w.heap.size) (hix : 0 < ix) (h0 : 0 ≤ c) (hc : c ≤ 255) (hm : Mi.memS c = true) (hd : w.cell? ⟨ad.block, ad.off + 2, none⟩ = some (.int .u8 dd)) (hdd : B8 dd) (hx : w.cell? ⟨ad.block, ad.off + 3, none⟩ = some (.int .u8 x)) (hbx : B8 x) (hy : w.cell? ⟨ad.block, ad.off + 4, none⟩ = some (.int .u8 y)) (hby : B8 y) (hcap : n ≤ cap) (hcap2 : cap ≤ 9223372036854775807) (hn : 5 ≤ n) :
    Calls Try.prog 19 #[.slice (some ad) n cap, .agg #[.int .i64 0, .int .i64 ix, .int .u8 c, .int .u8 0, .int .u16 0, .int .i64 0], .int .i64 2, .int .i64 2] w (Reads (⟨0, ix, c, dd, (x + 256 * y), 5⟩, true) w) := by
  have HO := Lib.hid (fun (cc : Nat) (w' : World) (hB : Below w.heap.size w w') => operand_2 ⟨ad.block, ad.off + 3, none⟩ cc x y w' ((hB.cell (p := ⟨ad.block, ad.off + 3, none⟩) hlt).trans hx) ((hB.cell (p := ⟨ad.block, ad.off + 4, none⟩) hlt).trans hy) hbx hby)
  have HM := Lib.hid (fun w' => mem_any c w' h0 hc)
  rw [hm] at HM
  clear hm
  go_enter Try.func19, Try.ntmps19
  go_wp2_with (first
      | (go_at_call 40; refine (HO.out _ _ (by repeat' first | exact Below.refl _ _ | exact Nat.le_refl _ | refine Below.setCell ?_ ?_ _ | refine Below.alloc ?_ ?_ _ | (simp; done))).mono ?_; rintro e w' ⟨rfl, rfl⟩)
      | (go_at_call 16; refine (HM.out _).mono ?_; rintro e w' ⟨rfl, rfl⟩))
  refine bodyPost_ret (v := .tuple #[.agg #[.int .i64 0, .int .i64 ix, .int .u8 c, .int .u8 dd, .int .u16 (x + 256 * y), .int .i64 5], .bool true]) (by simp [results, Try.results19, go_sem]) rfl ⟨rfl, ?_⟩
  repeat' first | exact Below.refl _ _ | exact Nat.le_refl _ | refine Below.setCell ?_ ?_ _ | refine Below.alloc ?_ ?_ _ | (simp; done)
set_option maxHeartbeats 1000000 in
theorem tailC_2n (ad : Addr) (n cap : Nat) (c ix dd : Int) (w : World) (hlt : ad.block < w.heap.size) (hix : 0 < ix) (h0 : 0 ≤ c) (hc : c ≤ 255) (hm : Mi.memS c = true) (hd : w.cell? ⟨ad.block, ad.off + 2, none⟩ = some (.int .u8 dd)) (hdd : B8 dd) (hcap : n ≤ cap) (hcap2 : cap ≤ 9223372036854775807) (hn : 3 ≤ n) (hn2 : n < 5) :
    Calls Try.prog 19 #[.slice (some ad) n cap, .agg #[.int .i64 0, .int .i64 ix, .int .u8 c, .int .u8 0, .int .u16 0, .int .i64 0], .int .i64 2, .int .i64 2] w (Reads (In.z, false) w) := by
  have HM := Lib.hid (fun w' => mem_any c w' h0 hc)
  rw [hm] at HM
  clear hm
  go_enter Try.func19, Try.ntmps19
  go_wp2_with (first
      | (go_at_call 16; refine (HM.out _).mono ?_; rintro e w' ⟨rfl, rfl⟩))
  refine bodyPost_ret (v := .tuple #[.agg #[.int .i64 0, .int .i64 0, .int .u8 0, .int .u8 0, .int .u16 0, .int .i64 0], .bool false]) (by simp [results, Try.results19, go_sem]) rfl ⟨rfl, ?_⟩
  repeat' first | exact Below.refl _ _ | exact Nat.le_refl _ | refine Below.setCell ?_ ?_ _ | refine Below.alloc ?_ ?_ _ | (simp; done)
set_option maxHeartbeats 1000000 in
theorem tailD_0 (ad : Addr) (n cap : Nat) (c : Int) (w : World) (hlt : ad.block < w.heap.size) (hcap : n ≤ cap) (hcap2 : cap ≤ 9223372036854775807) (hn : 2 ≤ n) :
    Calls Try.prog 19 #[.slice (some ad) n cap, .agg #[.int .i64 2, .int .i64 0, .int .u8 c, .int .u8 0, .int .u16 0, .int .i64 0], .int .i64 2, .int .i64 0] w (Reads (⟨2, 0, c, 0, 0, 2⟩, true) w) := by
  by_cases hcc : cap = 2
  · subst hcc
    obtain rfl : n = 2 := by omega
    go_enter Try.func19, Try.ntmps19
    go_wp2_with (first
        | (go_at_call 40; refine (operand_0 _ _ _).mono ?_; rintro e w' ⟨rfl, rfl⟩))
    refine bodyPost_ret (v := .tuple #[.agg #[.int .i64 2, .int .i64 0, .int .u8 c, .int .u8 0, .int .u16 0, .int .i64 2], .bool true]) (by simp [results, Try.results19, go_sem]) rfl ⟨rfl, ?_⟩
    repeat' first | exact Below.refl _ _ | exact Nat.le_refl _ | refine Below.setCell ?_ ?_ _ | refine Below.alloc ?_ ?_ _ | (simp; done)
  · have hcc2 : ¬ (2 = cap) := fun h => hcc h.symm
    go_enter Try.func19, Try.ntmps19
    go_wp2_with (first
        | (go_at_call 40; refine (operand_0 _ _ _).mono ?_; rintro e w' ⟨rfl, rfl⟩))
    refine bodyPost_ret (v := .tuple #[.agg #[.int .i64 2, .int .i64 0, .int .u8 c, .int .u8 0, .int .u16 0, .int .i64 2], .bool true]) (by simp [results, Try.results19, go_sem]) rfl ⟨rfl, ?_⟩
    repeat' first | exact Below.refl _ _ | exact Nat.le_refl _ | refine Below.setCell ?_ ?_ _ | refine Below.alloc ?_ ?_ _ | (simp; done)
set_option maxHeartbeats 1000000 in
theorem tailD_2 (ad : Addr) (n cap : Nat) (c x y : Int) (w : World) (hlt : ad.block < w.heap.size) (hx : w.cell? ⟨ad.block, ad.off + 2, none⟩ = some (.int .u8 x)) (hbx : B8 x) (hy : w.cell? ⟨ad.block, ad.off + 3, none⟩ = some (.int .u8 y)) (hby : B8 y) (hcap : n ≤ cap) (hcap2 : cap ≤ 9223372036854775807) (hn : 4 ≤ n) :
    Calls Try.prog 19 #[.slice (some ad) n cap, .agg #[.int .i64 2, .int .i64 0, .int .u8 c, .int .u8 0, .int .u16 0, .int .i64 0], .int .i64 2, .int .i64 2] w (Reads (⟨2, 0, c, 0, (x + 256 * y), 4⟩, true) w) := by
  have HO := Lib.hid (fun (cc : Nat) (w' : World) (hB : Below w.heap.size w w') => operand_2 ⟨ad.block, ad.off + 2, none⟩ cc x y w' ((hB.cell (p := ⟨ad.block, ad.off + 2, none⟩) hlt).trans hx) ((hB.cell (p := ⟨ad.block, ad.off + 3, none⟩) hlt).trans hy) hbx hby)
  go_enter Try.func19, Try.ntmps19
  go_wp2_with (first
      | (go_at_call 40; refine (HO.out _ _ (by repeat' first | exact Below.refl _ _ | exact Nat.le_refl _ | refine Below.setCell ?_ ?_ _ | refine Below.alloc ?_ ?_ _ | (simp; done))).mono ?_; rintro e w' ⟨rfl, rfl⟩))
  refine bodyPost_ret (v := .tuple #[.agg #[.int .i64 2, .int .i64 0, .int .u8 c, .int .u8 0, .int .u16 (x + 256 * y), .int .i64 4], .bool true]) (by simp [results, Try.results19, go_sem]) rfl ⟨rfl, ?_⟩
  repeat' first | exact Below.refl _ _ | exact Nat.le_refl _ | refine Below.setCell ?_ ?_ _ | refine Below.alloc ?_ ?_ _ | (simp; done)
set_option maxHeartbeats 1000000 in
theorem tailD_2n (ad : Addr) (n cap : Nat) (c : Int) (w : World) (hlt : ad.block < w.heap.size) (hcap : n ≤ cap) (hcap2 : cap ≤ 9223372036854775807) (hn : 2 ≤ n) (hn2 : n < 4) :
    Calls Try.prog 19 #[.slice (some ad) n cap, .agg #[.int .i64 2, .int .i64 0, .int .u8 c, .int .u8 0, .int .u16 0, .int .i64 0], .int .i64 2, .int .i64 2] w (Reads (In.z, false) w) := by
  go_enter Try.func19, Try.ntmps19
  go_wp2_with fail
  refine bodyPost_ret (v := .tuple #[.agg #[.int .i64 0, .int .i64 0, .int .u8 0, .int .u8 0, .int .u16 0, .int .i64 0], .bool false]) (by simp [results, Try.results19, go_sem]) rfl ⟨rfl, ?_⟩
  repeat' first | exact Below.refl _ _ | exact Nat.le_refl _ | refine Below.setCell ?_ ?_ _ | refine Below.alloc ?_ ?_ _ | (simp; done)
set_option maxHeartbeats 1000000 in
theorem tailC_n (ad : Addr) (cap a : Nat) (c ix : Int) (w : World) (hix : 0 < ix) (h0 : 0 ≤ c) (hc : c ≤ 255) (hm : Mi.memS c = true) :
    Calls Try.prog 19 #[.slice (some ad) 2 cap, .agg #[.int .i64 0, .int .i64 ix, .int .u8 c, .int .u8 0, .int .u16 0, .int .i64 0], .int .i64 2, .int .i64 a] w (Reads (In.z, false) w) := by
  have HM := Lib.hid (fun w' => mem_any c w' h0 hc)
  rw [hm] at HM
  clear hm
  go_enter Try.func19, Try.ntmps19
  go_wp2_with (first
    | (go_at_call 16; refine (HM.out _).mono ?_; rintro e w' ⟨rfl, rfl⟩))
  refine bodyPost_ret (v := .tuple #[.agg #[.int .i64 0, .int .i64 0, .int .u8 0, .int .u8 0, .int .u16 0, .int .i64 0], .bool false]) (by simp [results, Try.results19, go_sem]) rfl ⟨rfl, ?_⟩
  repeat' first | exact Below.refl _ _ | exact Nat.le_refl _ | refine Below.setCell ?_ ?_ _ | refine Below.alloc ?_ ?_ _ | (simp; done)
end Go.Proofs.Ytjkakmmhbciilaa
