/- wave: Len and At, over any parts. -/
import Derived.Test.YtiiipklbbajadaaWavB
import Derived.Deep.MidRow
namespace Go.Proofs.Ytiiipklbbajadaa
set_option linter.unusedSimpArgs false
set_option linter.unusedVariables false
open Go.RowKit
/-- some of a block's edges: how many, by which method, each of them -/
structure Part where
  many : Int
  fn : Nat
  edge : Nat → Int × Int
def Part.cells (g : Nat) (p : Part) : List Value := [.int .i64 p.many, .func (.func p.fn) #[.pointer (some ⟨g, 0, none⟩)] #[]]
def PartsAt (u : World) (g : Nat) (ps : List Part) : Prop := ∃ (H : Option Addr) (h c : Nat), u.cell? ⟨g, 19, none⟩ = some (.slice H ps.length c) ∧ (ps.length = 0 ∨ H = some ⟨h, 0, none⟩) ∧ ∀ i p, ps[i]? = some p → u.rangeAt h (i * 2) (p.cells g)
theorem rangeAt_bel {w w' : World} {b o : Nat} {cs : List Value} (h : w.rangeAt b o cs) (hb : Below w.heap.size w w') : w'.rangeAt b o cs := fun j v hv => (hb.cell (block_lt_of_cell (h j v hv))).trans (h j v hv)
theorem PartsAt.below {u u' : World} {g : Nat} {ps : List Part} (h : PartsAt u g ps) (hb : Below u.heap.size u u') : PartsAt u' g ps := by
  obtain ⟨H, b, c, h1, h2, h3⟩ := h
  exact ⟨H, b, c, (hb.cell (block_lt_of_cell h1)).trans h1, h2, fun i p hi => rangeAt_bel (h3 i p hi) hb⟩
/-- the parts' numbers are not great -/
def Few (ps : List Part) : Prop := ps.length ≤ 8 ∧ ∀ p ∈ ps, 0 ≤ p.many ∧ p.many ≤ 1099511627776
namespace Wv
def len : List Part → Int
  | [] => 0
  | p :: t => p.many + len t
theorem len_append (a b : List Part) : len (a ++ b) = len a + len b := by
  induction a with
  | nil => simp [len]
  | cons p a ih => simp only [List.cons_append, len, ih]; omega
theorem len_take (ps : List Part) (j : Nat) (p : Part) (h : ps[j]? = some p) : len (ps.take (j + 1)) = len (ps.take j) + p.many := by
  rw [List.take_add_one, h, len_append]
  simp [len]
theorem len_range (ps : List Part) (h : ∀ p ∈ ps, 0 ≤ p.many ∧ p.many ≤ 1099511627776) : 0 ≤ len ps ∧ len ps ≤ 1099511627776 * ps.length := by
  induction ps with
  | nil => simp [len]
  | cons p t ih =>
    have h1 := h p (by simp)
    have h2 := ih fun q hq => h q (List.mem_cons_of_mem _ hq)
    simp only [len, List.length_cons]
    omega
/-- the edge of a number -/
def at_ : List Part → Int → Option (Int × Int)
  | [], _ => none
  | p :: t, k => if k < p.many then some (p.edge k.toNat) else at_ t (k - p.many)
end Wv
theorem infoPart : (Try.prog.info? 53).map (·.size) = some 2 := by kernel_rfl
set_option maxHeartbeats 2000000 in
theorem wv_len (g : Nat) (ps : List Part) (u : World) (h : PartsAt u g ps) (hf : Few ps) :
    Calls Try.prog 8 #[.pointer (some ⟨g, 0, none⟩)] u fun e u' => e = .returned (.int .i64 (Wv.len ps)) ∧ Below u.heap.size u u' := by
  obtain ⟨H, b, c, hc, hH, hr⟩ := h
  obtain ⟨n, hn⟩ : ∃ n, n = ps.length := ⟨_, rfl⟩
  rw [← hn] at hc hH
  have HN := Lib.hid hn; have HR := Lib.hid hr; have HF := Lib.hid hf
  have hn8 : n ≤ 8 := by rw [hn]; exact hf.1
  clear hn hr hf
  go_enter Try.func8, Try.ntmps8
  go_wp2_with fail
  go_loopw [3, 5, 13] (fun v _ idx wr => ∃ j : Nat, j ≤ n ∧ v = .int .i64 (Wv.len (ps.take j)) ∧ idx = .int .i64 j ∧ Hid (Below u.heap.size u wr)) (fun _ _ idx _ => n - (intOf idx).toNat)
  case atStart => exact ⟨0, by omega, rfl, rfl, Below.refl _ _⟩
  case round =>
    obtain ⟨j, hj, rfl, rfl, HB⟩ := hrel
    by_cases hlt : j < n
    · obtain ⟨p, hp⟩ : ∃ p, ps[j]? = some p := ⟨_, List.getElem?_eq_getElem (by rw [← HN.out]; exact hlt)⟩
      have HP := Lib.hid hp
      have HRG := Lib.hid (rangeAt_bel (HR.out j p hp) HB.out)
      have hH2 : H = some ⟨b, 0, none⟩ := by rcases hH with h | h; omega; exact h
      subst hH2
      have hm := HF.out.2 p (List.mem_of_getElem? hp)
      have hl := Wv.len_range (ps.take j) fun q hq => HF.out.2 q (List.mem_of_mem_take hq)
      have hlj : (ps.take j).length ≤ 8 := by rw [List.length_take]; omega
      have HS := Lib.hid (Wv.len_take ps j p hp)
      obtain ⟨V, hV⟩ : ∃ V, V = Wv.len (ps.take j) := ⟨_, rfl⟩
      rw [← hV] at hl HS ⊢
      obtain ⟨m, hm'⟩ : ∃ m, m = p.many := ⟨_, rfl⟩
      obtain ⟨R, hR⟩ : ∃ R, R = p.cells g := ⟨_, rfl⟩
      have HRL : Hid (some 2 = some R.toArray.size) := by show _ = _; rw [hR]; rfl
      have HSZ : Hid (R.toArray.size = 2) := by show _ = _; rw [hR]; rfl
      have HR1 : Hid (R.toArray.all (·.oneCell') = true) := by
        refine all_oneCell_toArray fun v hv => ?_
        rw [hR] at hv
        simp only [Part.cells, List.mem_cons, List.not_mem_nil, or_false] at hv
        rcases hv with rfl | rfl <;> rfl
      obtain ⟨u1, hu1⟩ : ∃ u, u = wr.alloc (.cells R.toArray 53) := ⟨_, rfl⟩
      have HU := Lib.hid hu1
      have HBU := Lib.hid (show Below u.heap.size u u1 by rw [hu1]; exact HB.out.alloc HB.out.size _)
      have c0 : u1.cell? ⟨wr.heap.size, 0, none⟩ = some (.int .i64 m) := by rw [hu1, hR, hm']; exact (Blk.new wr 53 (p.cells g)).cell 0
      rw [← hm'] at HS hm
      rw [← hR] at HRG
      have w1 : IntKind.i64.wrap (V + m) = V + m := by rw [IntKind.wrap_i64]; omega
      clear hp hm' hV hl hm hlj hu1 hR
      go_wp2_with (first
        | (refine wpList_load_mid rfl 53 (.tmp 15) rfl b (j * 2) rfl _ _ HRG.out Try.underlying53 rfl (infoPart.trans HRL.out) ?_)
        | (refine wpList_store_rowTo rfl 53 (.tmp 5) (.tmp 16) rfl rfl wr.heap.size _ rfl rfl 53 _ (heap_alloc_new wr _) (infoPart.trans HRL.out) (by rw [HSZ.out]; rfl) HR1.out ?_; rw [World.setRow_alloc_new, ← HU.out]))
      go_roundw
      case rel => exact ⟨j + 1, by omega, by rw [HS.out], rfl, HBU.out⟩
      case measure => simp [intOf]; omega
    · obtain rfl : n = j := by omega
      have HT : Hid (Wv.len (ps.take n) = Wv.len ps) := by show _ = _; rw [HN.out, List.take_length]
      go_wp2_with fail
      go_ret
      exact ⟨by rw [← HT.out]; rfl, HB.out⟩
end Go.Proofs.Ytiiipklbbajadaa
