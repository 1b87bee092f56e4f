/- wave: the edges of a part, read out of a wave's block. -/
import Derived.Test.YtiiipklbbajadaaWirA
import Derived.Test.YtiiipklbbajadaaBits
import Derived.Deep.DrawnRows
namespace Go.Proofs.Ytiiipklbbajadaa
set_option linter.unusedSimpArgs false
set_option linter.unusedVariables false
open Go.RowKit
/-- a block's numbers -/
structure WB where
  id : Int
  pa : Int
  pi : Int
  s1 : Int
  s2 : Int
  ze : Int
  on : Int
  to : Int
  co : Int
  us : Int
  ra : Int
  pk : Int
/-- a block's cells -/
def WB.cells (B : WB) (d t i p s r : Value) : List Value := [.int .i64 B.id, .int .i64 B.pa, .int .i64 B.pi, .int .i64 B.s1, .int .i64 B.s2, .int .i64 B.ze, .int .i64 B.on, .int .i64 B.to, .int .i64 B.co, .int .i64 B.us, .int .i64 B.ra, .int .i64 B.pk, d, t, i, p, s, r]
/-- a wave's block: its own block's numbers and data -/
structure WvAt (u : World) (g : Nat) (B : WB) (A : Option Addr) (n c : Nat) (D : List Int) : Prop where
  nums : ∀ j v, j < 12 → (B.cells .nilIface .nilIface .nilIface .nilIface .nilIface .nilIface)[j]? = some v → u.cell? ⟨g, j, none⟩ = some v
  data : u.cell? ⟨g, 12, none⟩ = some (.slice A n c)
  ints : Ints u A .u8 D
  len : D.length = n
  byts : Byts D
theorem WvAt.below {u u' : World} {g : Nat} {B : WB} {A : Option Addr} {n c : Nat} {D : List Int} (h : WvAt u g B A n c D) (hb : Below u.heap.size u u') : WvAt u' g B A n c D :=
  ⟨fun j v hj hv => (hb.cell (block_lt_of_cell (h.nums j v hj hv))).trans (h.nums j v hj hv), (hb.cell (block_lt_of_cell h.data)).trans h.data, Cells.below h.ints hb, h.len, h.byts⟩
theorem WvAt.drewN {u : World} {g : Nat} {B : WB} {A : Option Addr} {n c : Nat} {D : List Int} (h : WvAt u g B A n c D) (q : Nat) : WvAt (u.drewN q) g B A n c D := h.below (Below_drewN (Below.refl _ u) q)
theorem below_al1 (w : World) (o : Obj) : Below w.heap.size w (w.alloc o) := (Below.refl _ w).alloc (Nat.le_refl _) _
def edgeV (x : Int × Int) : Value := .agg #[.int .i64 x.1, .int .i64 x.2]
def EdgeP (x : Int × Int) (u : World) (e : Ending) (u' : World) : Prop := e = .returned (edgeV x) ∧ Below u.heap.size u u'
theorem infoEdge : (Try.prog.info? 37).map (·.size) = some 2 := by kernel_rfl
theorem edge_end (u : World) (x y : Int) (q : Nat) : EdgeP (x, y) u (.returned (.agg #[.int .i64 x, .int .i64 y])) ((u.alloc (.cells #[.int .i64 x, .int .i64 y] 37)).drewN q) :=
  ⟨rfl, Below_drewN (below_al1 u _) q⟩
theorem wv_lead (g : Nat) (B : WB) (A : Option Addr) (n c : Nat) (D : List Int) (k : Int) (u : World) (h : WvAt u g B A n c D) :
    Calls Try.prog 16 #[.pointer (some ⟨g, 0, none⟩), .int .i64 k] u (EdgeP (0, B.pi) u) := by
  have H := Lib.hid (h.below (below_al1 u (.cells #[.int .i64 0, .int .i64 0] 37)))
  have h2 : (u.alloc (.cells #[.int .i64 0, .int .i64 0] 37)).cell? ⟨g, 2, none⟩ = some (.int .i64 B.pi) := H.out.nums 2 _ (by decide) rfl
  clear h
  go_enter Try.func16, Try.ntmps16
  go_wp2_with fail
  exact bodyPost_ret (results_cell_row rfl _ _ u.heap.size 37 _ (0, 0) _ rfl (heap_alloc_new _ _) Try.underlying37 rfl infoEdge) rfl ⟨rfl, below_al1 u _⟩
theorem wv_tone (g : Nat) (B : WB) (A : Option Addr) (n c : Nat) (D : List Int) (k : Int) (u : World) (h : WvAt u g B A n c D) :
    Calls Try.prog 20 #[.pointer (some ⟨g, 0, none⟩), .int .i64 k] u (EdgeP (0, B.to) u) := by
  have H := Lib.hid (h.below (below_al1 u (.cells #[.int .i64 0, .int .i64 0] 37)))
  have h7 : (u.alloc (.cells #[.int .i64 0, .int .i64 0] 37)).cell? ⟨g, 7, none⟩ = some (.int .i64 B.to) := H.out.nums 7 _ (by decide) rfl
  clear h
  go_enter Try.func20, Try.ntmps20
  go_wp2_with fail
  exact bodyPost_ret (results_cell_row rfl _ _ u.heap.size 37 _ (0, 0) _ rfl (heap_alloc_new _ _) Try.underlying37 rfl infoEdge) rfl ⟨rfl, below_al1 u _⟩
theorem wv_sync (g : Nat) (B : WB) (A : Option Addr) (n c : Nat) (D : List Int) (k : Int) (u : World) (h : WvAt u g B A n c D) :
    Calls Try.prog 17 #[.pointer (some ⟨g, 0, none⟩), .int .i64 k] u (EdgeP (if k = 0 then (0, B.s1) else (0, B.s2)) u) := by
  have H := Lib.hid (h.below (below_al1 u (.cells #[.int .i64 0, .int .i64 0] 37)))
  have h3 : (u.alloc (.cells #[.int .i64 0, .int .i64 0] 37)).cell? ⟨g, 3, none⟩ = some (.int .i64 B.s1) := H.out.nums 3 _ (by decide) rfl
  have h4 : (u.alloc (.cells #[.int .i64 0, .int .i64 0] 37)).cell? ⟨g, 4, none⟩ = some (.int .i64 B.s2) := H.out.nums 4 _ (by decide) rfl
  clear h
  by_cases hk : k = 0
  · subst hk
    rw [if_pos rfl]
    go_enter Try.func17, Try.ntmps17
    go_wp2_with fail
    exact bodyPost_ret (results_cell_row rfl _ _ u.heap.size 37 _ (0, 0) _ rfl (heap_alloc_new _ _) Try.underlying37 rfl infoEdge) rfl ⟨rfl, below_al1 u _⟩
  · have hk2 : (k == 0) = false := by simpa using hk
    rw [if_neg hk]
    clear hk
    go_enter Try.func17, Try.ntmps17
    go_wp2_with fail
    exact bodyPost_ret (results_cell_row rfl _ _ u.heap.size 37 _ (0, 0) _ rfl (heap_alloc_new _ _) Try.underlying37 rfl infoEdge) rfl ⟨rfl, below_al1 u _⟩
theorem wv_rest (g : Nat) (B : WB) (A : Option Addr) (n c : Nat) (D : List Int) (k : Int) (u : World) (h : WvAt u g B A n c D) (hr : 0 ≤ B.pa ∧ B.pa ≤ 70000) :
    Calls Try.prog 32 #[.pointer (some ⟨g, 0, none⟩), .int .i64 k] u (EdgeP (if k = 0 then (0, 3500) else (2, (B.pa - 1) * 3500)) u) := by
  have H := Lib.hid (h.below (below_al1 u (.cells #[.int .i64 0, .int .i64 0] 37)))
  have h1 : (u.alloc (.cells #[.int .i64 0, .int .i64 0] 37)).cell? ⟨g, 1, none⟩ = some (.int .i64 B.pa) := H.out.nums 1 _ (by decide) rfl
  have w1 : IntKind.i64.wrap (B.pa - 1) = B.pa - 1 := by rw [IntKind.wrap_i64]; omega
  have w2 : IntKind.i64.wrap ((B.pa - 1) * 3500) = (B.pa - 1) * 3500 := by rw [IntKind.wrap_i64]; omega
  clear h
  by_cases hk : k = 0
  · subst hk
    rw [if_pos rfl]
    go_enter Try.func32, Try.ntmps32
    go_wp2_with fail
    exact bodyPost_ret (results_cell_row rfl _ _ u.heap.size 37 _ (0, 0) _ rfl (heap_alloc_new _ _) Try.underlying37 rfl infoEdge) rfl ⟨rfl, below_al1 u _⟩
  · have hk2 : (k == 0) = false := by simpa using hk
    rw [if_neg hk]
    clear hk
    go_enter Try.func32, Try.ntmps32
    go_wp2_with fail
    exact bodyPost_ret (results_cell_row rfl _ _ u.heap.size 37 _ (0, 0) _ rfl (heap_alloc_new _ _) Try.underlying37 rfl infoEdge) rfl ⟨rfl, below_al1 u _⟩
end Go.Proofs.Ytiiipklbbajadaa
