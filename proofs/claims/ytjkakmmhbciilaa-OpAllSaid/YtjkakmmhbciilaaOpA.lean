/- The tables of the document's answers: texts of the plain codes; bits of bytes. -/
import Derived.Test.YtjkakmmhbciilaaRows
import Derived.Test.YtjkakmmhbciilaaMemC
import Derived.Test.YtjkakmmhbciilaaBits
import Derived.Laws.IdiomStrings
namespace Go.Proofs.Ytjkakmmhbciilaa
set_option linter.unusedSimpArgs false
set_option linter.unusedVariables false
open Go.RowKit
namespace Mi
def regsL : List (List UInt8) := [[98],
  [99],
  [100],
  [101],
  [104],
  [108],
  [40, 104, 108, 41],
  [97]]
def opsL : List (List UInt8) := [[97, 100, 100, 32, 97, 44],
  [97, 100, 99, 32, 97, 44],
  [115, 117, 98, 32],
  [115, 98, 99, 32, 97, 44],
  [97, 110, 100, 32],
  [120, 111, 114, 32],
  [111, 114, 32],
  [99, 112, 32]]
def firstL : List (List UInt8) := [[110, 111, 112],
  [108, 100, 32, 98, 99, 44, 87],
  [108, 100, 32, 40, 98, 99, 41, 44, 97],
  [105, 110, 99, 32, 98, 99],
  [105, 110, 99, 32, 98],
  [100, 101, 99, 32, 98],
  [108, 100, 32, 98, 44, 78],
  [114, 108, 99, 97],
  [101, 120, 32, 97, 102, 44, 97, 102, 39],
  [97, 100, 100, 32, 104, 108, 44, 98, 99],
  [108, 100, 32, 97, 44, 40, 98, 99, 41],
  [100, 101, 99, 32, 98, 99],
  [105, 110, 99, 32, 99],
  [100, 101, 99, 32, 99],
  [108, 100, 32, 99, 44, 78],
  [114, 114, 99, 97],
  [100, 106, 110, 122, 32, 69],
  [108, 100, 32, 100, 101, 44, 87],
  [108, 100, 32, 40, 100, 101, 41, 44, 97],
  [105, 110, 99, 32, 100, 101],
  [105, 110, 99, 32, 100],
  [100, 101, 99, 32, 100],
  [108, 100, 32, 100, 44, 78],
  [114, 108, 97],
  [106, 114, 32, 69],
  [97, 100, 100, 32, 104, 108, 44, 100, 101],
  [108, 100, 32, 97, 44, 40, 100, 101, 41],
  [100, 101, 99, 32, 100, 101],
  [105, 110, 99, 32, 101],
  [100, 101, 99, 32, 101],
  [108, 100, 32, 101, 44, 78],
  [114, 114, 97],
  [106, 114, 32, 110, 122, 44, 69],
  [108, 100, 32, 104, 108, 44, 87],
  [108, 100, 32, 40, 87, 41, 44, 104, 108],
  [105, 110, 99, 32, 104, 108],
  [105, 110, 99, 32, 104],
  [100, 101, 99, 32, 104],
  [108, 100, 32, 104, 44, 78],
  [100, 97, 97],
  [106, 114, 32, 122, 44, 69],
  [97, 100, 100, 32, 104, 108, 44, 104, 108],
  [108, 100, 32, 104, 108, 44, 40, 87, 41],
  [100, 101, 99, 32, 104, 108],
  [105, 110, 99, 32, 108],
  [100, 101, 99, 32, 108],
  [108, 100, 32, 108, 44, 78],
  [99, 112, 108],
  [106, 114, 32, 110, 99, 44, 69],
  [108, 100, 32, 115, 112, 44, 87],
  [108, 100, 32, 40, 87, 41, 44, 97],
  [105, 110, 99, 32, 115, 112],
  [105, 110, 99, 32, 40, 104, 108, 41],
  [100, 101, 99, 32, 40, 104, 108, 41],
  [108, 100, 32, 40, 104, 108, 41, 44, 78],
  [115, 99, 102],
  [106, 114, 32, 99, 44, 69],
  [97, 100, 100, 32, 104, 108, 44, 115, 112],
  [108, 100, 32, 97, 44, 40, 87, 41],
  [100, 101, 99, 32, 115, 112],
  [105, 110, 99, 32, 97],
  [100, 101, 99, 32, 97],
  [108, 100, 32, 97, 44, 78],
  [99, 99, 102]]
def lastL : List (List UInt8) := [[114, 101, 116, 32, 110, 122],
  [112, 111, 112, 32, 98, 99],
  [106, 112, 32, 110, 122, 44, 87],
  [106, 112, 32, 87],
  [99, 97, 108, 108, 32, 110, 122, 44, 87],
  [112, 117, 115, 104, 32, 98, 99],
  [97, 100, 100, 32, 97, 44, 78],
  [114, 115, 116, 32, 36, 48, 48],
  [114, 101, 116, 32, 122],
  [114, 101, 116],
  [106, 112, 32, 122, 44, 87],
  [],
  [99, 97, 108, 108, 32, 122, 44, 87],
  [99, 97, 108, 108, 32, 87],
  [97, 100, 99, 32, 97, 44, 78],
  [114, 115, 116, 32, 36, 48, 56],
  [114, 101, 116, 32, 110, 99],
  [112, 111, 112, 32, 100, 101],
  [106, 112, 32, 110, 99, 44, 87],
  [111, 117, 116, 32, 40, 78, 41, 44, 97],
  [99, 97, 108, 108, 32, 110, 99, 44, 87],
  [112, 117, 115, 104, 32, 100, 101],
  [115, 117, 98, 32, 78],
  [114, 115, 116, 32, 36, 49, 48],
  [114, 101, 116, 32, 99],
  [101, 120, 120],
  [106, 112, 32, 99, 44, 87],
  [105, 110, 32, 97, 44, 40, 78, 41],
  [99, 97, 108, 108, 32, 99, 44, 87],
  [99, 97, 108, 108, 32, 87],
  [115, 98, 99, 32, 97, 44, 78],
  [114, 115, 116, 32, 36, 49, 56],
  [114, 101, 116, 32, 112, 111],
  [112, 111, 112, 32, 104, 108],
  [106, 112, 32, 112, 111, 44, 87],
  [101, 120, 32, 40, 115, 112, 41, 44, 104, 108],
  [99, 97, 108, 108, 32, 112, 111, 44, 87],
  [112, 117, 115, 104, 32, 104, 108],
  [97, 110, 100, 32, 78],
  [114, 115, 116, 32, 36, 50, 48],
  [114, 101, 116, 32, 112, 101],
  [106, 112, 32, 104, 108],
  [106, 112, 32, 112, 101, 44, 87],
  [101, 120, 32, 100, 101, 44, 104, 108],
  [99, 97, 108, 108, 32, 112, 101, 44, 87],
  [99, 97, 108, 108, 32, 87],
  [120, 111, 114, 32, 78],
  [114, 115, 116, 32, 36, 50, 56],
  [114, 101, 116, 32, 112],
  [112, 111, 112, 32, 97, 102],
  [106, 112, 32, 112, 44, 87],
  [100, 105],
  [99, 97, 108, 108, 32, 112, 44, 87],
  [112, 117, 115, 104, 32, 97, 102],
  [111, 114, 32, 78],
  [114, 115, 116, 32, 36, 51, 48],
  [114, 101, 116, 32, 109],
  [108, 100, 32, 115, 112, 44, 104, 108],
  [106, 112, 32, 109, 44, 87],
  [101, 105],
  [99, 97, 108, 108, 32, 109, 44, 87],
  [99, 97, 108, 108, 32, 87],
  [99, 112, 32, 78],
  [114, 115, 116, 32, 36, 51, 56]]
end Mi
/-- a table is handed back, in new memory -/
def Table (l : List Value) (w : World) (e : Ending) (w' : World) : Prop := ∃ c, e = .returned (.slice (some ⟨w.heap.size, 0, none⟩) l.length c) ∧ Cells w' (some ⟨w.heap.size, 0, none⟩) l ∧ Below w.heap.size w w'
theorem table_new {w : World} {cs : Array Value} {T : TypeId} {c : Nat} {n : Nat} (hn : n = cs.size) : Table cs.toList w (.returned (.slice (some ⟨w.heap.size, 0, none⟩) n c)) (w.alloc (.cells cs T)) := by
  refine ⟨c, by rw [hn]; simp, fun i v hi => ⟨_, rfl, ?_⟩, (Below.refl _ _).alloc (Nat.le_refl _) _⟩
  have e : (⟨w.heap.size, 0, none⟩ : Addr).add i = ⟨w.heap.size, i, none⟩ := by simp [Addr.add]; intro h; exact h.symm
  rw [e]
  have h := World.cell?_alloc_mark w cs T (0, 0) i
  refine h.trans ?_
  simpa using hi

set_option maxRecDepth 100000 in
set_option maxHeartbeats 1000000 in
theorem regs_table (w : World) : Calls Try.prog 32 #[] w (Table (Mi.regsL.map (fun s => Value.string ⟨s.toArray⟩)) w) := by
  go_enter Try.func32, Try.ntmps32
  go_wp2_with fail
  go_ret
  exact table_new rfl

set_option maxRecDepth 100000 in
set_option maxHeartbeats 1000000 in
theorem operations_table (w : World) : Calls Try.prog 53 #[] w (Table (Mi.opsL.map (fun s => Value.string ⟨s.toArray⟩)) w) := by
  go_enter Try.func53, Try.ntmps53
  go_wp2_with fail
  go_ret
  exact table_new rfl

set_option maxRecDepth 100000 in
set_option maxHeartbeats 1000000 in
theorem first_table (w : World) : Calls Try.prog 51 #[] w (Table (Mi.firstL.map (fun s => Value.string ⟨s.toArray⟩)) w) := by
  go_enter Try.func51, Try.ntmps51
  go_wp2_with fail
  go_ret
  exact table_new rfl

set_option maxRecDepth 100000 in
set_option maxHeartbeats 1000000 in
theorem last_table (w : World) : Calls Try.prog 52 #[] w (Table (Mi.lastL.map (fun s => Value.string ⟨s.toArray⟩)) w) := by
  go_enter Try.func52, Try.ntmps52
  go_wp2_with fail
  go_ret
  exact table_new rfl

theorem u8_and_mask (x : Int) (h0 : 0 ≤ x) (h1 : x ≤ 255) (k : Nat) (hk : k ≤ 8) : bits .and .u8 x ((2 ^ k - 1 : Nat) : Int) = x % ((2 ^ k : Nat) : Int) := by
  obtain ⟨n, rfl⟩ := Int.eq_ofNat_of_zero_le h0
  have hp : 2 ^ k ≤ 2 ^ 8 := Nat.pow_le_pow_right (by omega) hk
  rw [u8_and_nat n (2 ^ k - 1) (by omega) (by omega), Nat.and_two_pow_sub_one_eq_mod]
  omega
theorem u8_and_7 (x : Int) (h0 : 0 ≤ x) (h1 : x ≤ 255) : bits .and .u8 x 7 = x % 8 := u8_and_mask x h0 h1 3 (by omega)
theorem u8_and_3 (x : Int) (h0 : 0 ≤ x) (h1 : x ≤ 255) : bits .and .u8 x 3 = x % 4 := u8_and_mask x h0 h1 2 (by omega)
theorem u8_and_1 (x : Int) (h0 : 0 ≤ x) (h1 : x ≤ 255) : bits .and .u8 x 1 = x % 2 := u8_and_mask x h0 h1 1 (by omega)
end Go.Proofs.Ytjkakmmhbciilaa
