/- cpu: the bus that never holds. -/
import Derived.Test.YtbhpmnhlmeglcaaGreatCpuH
namespace Go.Proofs.YtbhpmnhlmeglcaaGreat
set_option linter.unusedSimpArgs false
set_option linter.unusedVariables false
open Go.RowKit
/-- a bus: its bytes, its time, its line -/
structure Fl where
  (m : List Int) (t : Int) (line : Bool)
/-- a bus stands in block h; what its ports have to tell is pv, what they did av -/
structure FlAt (w : World) (h : Nat) (pv av : Value) (f : Fl) : Prop where
  blk : Blk w h 37 (f.m.map (.int .u8) ++ [pv, av, .int .u64 f.t, .bool f.line])
  len : f.m.length = 65536
theorem FlAt.byte {w : World} {h : Nat} {pv av : Value} {f : Fl} (hf : FlAt w h pv av f) (a : Nat) (ha : a < 65536) : w.cell? ⟨h, a, none⟩ = some (.int .u8 (f.m.getD a 0)) := by
  have h1 : a < f.m.length := by rw [hf.len]; exact ha
  rw [hf.blk.cell a, List.getElem?_append_left (by simpa using h1), List.getElem?_map, List.getElem?_eq_getElem h1]
  simp [List.getD, List.getElem?_eq_getElem h1]
theorem FlAt.tail {w : World} {h : Nat} {pv av : Value} {f : Fl} (hf : FlAt w h pv av f) (j k : Nat) (hk : k = 65536 + j) : w.cell? ⟨h, k, none⟩ = [pv, av, .int .u64 f.t, .bool f.line][j]? := by
  subst hk
  have h1 : (f.m.map (Value.int .u8)).length = 65536 := by rw [List.length_map]; exact hf.len
  rw [hf.blk.cell, List.getElem?_append_right (by rw [h1]; exact Nat.le_add_right _ _), h1, Nat.add_sub_cancel_left]
theorem FlAt.ch {p : Nat → Prop} {w w' : World} {h : Nat} {pv av : Value} {f : Fl} (hf : FlAt w h pv av f) (hc : Ch p w w') (hn : ¬ p h) : FlAt w' h pv av f := ⟨hc.blk hf.blk hn, hf.len⟩
def Fl.put (f : Fl) (a : Nat) (v : Int) : Fl := { f with m := f.m.set a v }
theorem FlAt.put {w : World} {h : Nat} {pv av : Value} {f : Fl} (hf : FlAt w h pv av f) (a : Nat) (ha : a < 65536) (v : Int) : FlAt (w.setCell ⟨h, a, none⟩ (.int .u8 v)) h pv av (f.put a v) := by
  refine ⟨?_, by show (f.m.set a v).length = _; rw [List.length_set]; exact hf.len⟩
  have := hf.blk.set_ a (.int .u8 v)
  have e : (f.m.map (Value.int .u8) ++ [pv, av, .int .u64 f.t, .bool f.line]).set a (.int .u8 v) = (f.m.set a v).map (Value.int .u8) ++ [pv, av, .int .u64 f.t, .bool f.line] := by
    rw [List.set_append_left _ _ (by rw [List.length_map, hf.len]; exact ha), List.map_set]
  rw [e] at this
  exact this
set_option maxRecDepth 100000 in
theorem fl_read (h : Nat) (pv av : Value) (f : Fl) (a : Nat) (w : World) (hf : FlAt w h pv av f) (ha : a < 65536) :
    Calls Tryz.prog 177 #[.pointer (some ⟨h, 0, none⟩), .int .u16 a] w fun e w' => e = .returned (.int .u8 (f.m.getD a 0)) ∧ w' = w := by
  have hc := hf.byte a ha
  have ha2 : (a : Int) < 65536 := by omega
  obtain ⟨v, hv⟩ : ∃ v, v = f.m.getD a 0 := ⟨_, rfl⟩
  rw [← hv] at hc ⊢
  clear hv hf
  go_enter Tryz.func177, Tryz.ntmps177
  go_wp2
  go_ret
  exact ⟨rfl, rfl⟩
set_option maxRecDepth 100000 in
theorem fl_write (h : Nat) (pv av : Value) (f : Fl) (a : Nat) (v : Int) (w : World) (hf : FlAt w h pv av f) (ha : a < 65536) :
    Calls Tryz.prog 178 #[.pointer (some ⟨h, 0, none⟩), .int .u16 a, .int .u8 v] w fun e w' => e = .returned (.tuple #[]) ∧ FlAt w' h pv av (f.put a v) ∧ Only h w w' := by
  have hc := hf.byte a ha
  have hz := hf.blk.frozen a
  have ha2 : (a : Int) < 65536 := by omega
  obtain ⟨x, hx⟩ : ∃ x, x = f.m.getD a 0 := ⟨_, rfl⟩
  rw [← hx] at hc
  have HF := Lib.hid hf
  clear hx hf
  go_enter Tryz.func178, Tryz.ntmps178
  go_wp2
  exact bodyPost_end (results_none rfl _ _ _) rfl ⟨rfl, HF.out.put a ha v, Only.set h a w _⟩
theorem fl_hold (h : Nat) (k a j : Int) (w : World) : Calls Tryz.prog 173 #[.pointer (some ⟨h, 0, none⟩), .int .i64 k, .int .u16 a, .int .i64 j] w fun e w' => e = .returned (.int .i64 0) ∧ w' = w := by
  go_enter Tryz.func173, Tryz.ntmps173
  go_wp2
  go_ret
  exact ⟨rfl, rfl⟩
set_option maxRecDepth 100000 in
theorem fl_int (h : Nat) (pv av : Value) (f : Fl) (w : World) (hf : FlAt w h pv av f) : Calls Tryz.prog 175 #[.pointer (some ⟨h, 0, none⟩)] w fun e w' => e = .returned (.bool f.line) ∧ w' = w := by
  have hc : w.cell? ⟨h, 65539, none⟩ = some (.bool f.line) := hf.tail 3 65539 rfl
  clear hf
  go_enter Tryz.func175, Tryz.ntmps175
  go_wp2
  go_ret
  exact ⟨rfl, rfl⟩
end Go.Proofs.YtbhpmnhlmeglcaaGreat
