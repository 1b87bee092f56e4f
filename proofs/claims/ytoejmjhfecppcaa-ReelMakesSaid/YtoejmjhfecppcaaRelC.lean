/- Package reel: lives; Gaps. -/
import Derived.Test.YtoejmjhfecppcaaRelB
namespace Go.Proofs.Ytoejmjhfecppcaa
set_option linter.unusedSimpArgs false
set_option linter.unusedVariables false
open Go.RowKit
def Yes (w : World) (e : Ending) (w' : World) : Prop := e = .returned (.bool true) ∧ Below w.heap.size w w'
set_option maxRecDepth 100000 in
set_option maxHeartbeats 2000000 in
theorem lives26 (w : World) : Calls Try.prog 11 #[] w (Yes w) := by
  go_enter Try.func11, Try.ntmps11
  go_wp2_with fail
  refine (exact_five w).mono ?_
  rintro e w1 ⟨gb, cb, gt, ct, rfl, hb, c0, c9, c18, c31, l1⟩
  have glt : gb < w1.heap.size := block_lt_of_cell c0
  have tlt : gt < w1.heap.size := block_lt_of_cell l1
  have HB := Lib.hid hb
  clear hb
  go_wp2_with fail
  go_ret
  exact ⟨rfl, (((Below.refl _ w).alloc (Nat.le_refl _) _).trans (HB.out.mono (by simp))).alloc (by have := HB.out.size; simp at this; omega) _⟩
/-- where the edges have got to -/
def atS (a : Int) (l : List Int) (k : Nat) : Int := if k = 0 then a else l.getD (k - 1) 0
def stepS (a x : Int) : Bool := decide (a < x ∧ x - a ≤ 4294967295)
/-- each edge, so many, is behind the one ahead -/
def okS (a : Int) (l : List Int) : Nat → Bool
  | 0 => true
  | k + 1 => okS a l k && stepS (atS a l k) (l.getD k 0)
def gapS (a : Int) (l : List Int) : Nat → List Int
  | 0 => []
  | k + 1 => gapS a l k ++ [l.getD k 0 - atS a l k]
theorem atS_succ (a : Int) (l : List Int) (k : Nat) : atS a l (k + 1) = l.getD k 0 := by simp [atS]
theorem okS_less (a : Int) (l : List Int) (n : Nat) (h : okS a l n = true) : ∀ k, k ≤ n → okS a l k = true := by
  induction n with
  | zero => intro k hk; obtain rfl : k = 0 := by omega
            rfl
  | succ n ih =>
    intro k hk
    by_cases e : k = n + 1
    · subst e; exact h
    · have h2 : okS a l n = true := by
        simp only [okS, Bool.and_eq_true] at h
        exact h.1
      exact ih h2 k (by omega)
theorem gapS_len (a : Int) (l : List Int) (k : Nat) : (gapS a l k).length = k := by
  induction k with
  | zero => rfl
  | succ k ih => simp [gapS, ih]
theorem infoU32 : (Try.prog.info? 36).map (fun i => (i.zero, i.size, i.bytes)) = some (some (.int .u32 0), 1, 4) := by kernel_rfl
def U64 (x : Int) : Prop := 0 ≤ x ∧ x ≤ 18446744073709551615
theorem atS_u64 {a : Int} {l : List Int} (ha : U64 a) (hl : ∀ x ∈ l, U64 x) (k : Nat) : U64 (atS a l k) := by
  unfold atS
  split
  · exact ha
  · by_cases h : k - 1 < l.length
    · rw [List.getD_eq_getElem?_getD, List.getElem?_eq_getElem h]
      exact hl _ (List.getElem_mem h)
    · rw [List.getD_eq_getElem?_getD, List.getElem?_eq_none (by omega)]
      exact ⟨by decide, by decide⟩
theorem sub_u64 {a x : Int} (ha : U64 a) (hx : U64 x) (h : a < x) : IntKind.u64.wrap (x - a) = x - a := by
  obtain ⟨a0, a1⟩ := ha
  obtain ⟨x0, x1⟩ := hx
  rw [IntKind.wrap_u64]
  omega
/-- what Gaps hands back -/
def Gaps (a : Int) (l : List Int) (n : Nat) (w : World) (e : Ending) (w' : World) : Prop :=
  if okS a l n = true then ∃ v : Value, e = .returned (.tuple #[v, .int .i64 0]) ∧ w'.ownsRow w.heap.size 36 1 v n ((gapS a l n).map (.int .u32 ·)) ∧ Below w.heap.size w w'
  else e = .returned (.tuple #[.slice none 0 0, .int .i64 5]) ∧ Below w.heap.size w w'
set_option maxHeartbeats 4000000 in
theorem gaps_any (a : Int) (A : Option Addr) (n cap : Nat) (l : List Int) (w : World) (ha : U64 a) (hl : Ints w A .u64 l) (hn : l.length = n) (hu : ∀ x ∈ l, U64 x) (hn1 : n ≤ 1000) (hcap : n ≤ cap) :
    Calls Try.prog 15 #[.int .u64 a, .slice A n cap] w (Gaps a l n w) := by
  have HL := Lib.hid hl; have HN := Lib.hid hn
  have HU := Lib.hid (fun k => atS_u64 ha hu k)
  have HA := Lib.hid ha; have HLU := Lib.hid hu
  clear hl hn ha hu
  go_enter Try.func15, Try.ntmps15
  go_wp2_with fail
  go_loopw [0, 6, 11] (fun f v i u => ∃ (k : Nat) (v' : Value), k ≤ n ∧ i = .int .i64 k ∧ f = .int .u64 (atS a l k) ∧ v' = v ∧ Hid (okS a l k = true) ∧ u.ownsRow w.heap.size 36 1 v' k ((gapS a l k).map (.int .u32 ·)) ∧ Below w.heap.size w u) (fun _ _ i _ => n - (intOf i).toNat)
  case atStart => exact ⟨0, _, by omega, rfl, rfl, rfl, rfl, World.ownsRow_nil _ _ _ _, Below.refl _ _⟩
  case round =>
    obtain ⟨k, v, hk, rfl, rfl, rfl, HK, ho, hB⟩ := hrel
    have HO := Lib.hid ho; have HB := Lib.hid hB
    have hsz := hB.size
    clear ho
    by_cases hlt : k < n
    · obtain ⟨x, hx⟩ : ∃ x, l[k]? = some x := ⟨_, List.getElem?_eq_getElem (by rw [HN.out]; exact hlt)⟩
      obtain ⟨ad, rfl, hc0⟩ := HL.out k (.int .u64 x) (by simp [hx])
      have hc := (hB.cell (block_lt_of_cell hc0)).trans hc0
      have hgd : l.getD k 0 = x := by simp [List.getD, hx]
      have HGD := Lib.hid hgd
      have HX := Lib.hid (HLU.out x (List.mem_of_getElem? hx))
      have HAT := Lib.hid (HU.out k)
      have HNX := Lib.hid (atS_succ a l k)
      obtain ⟨y, hy⟩ : ∃ y, y = atS a l k := ⟨_, rfl⟩
      rw [← hy] at HAT ⊢
      have HY := Lib.hid hy
      clear hx hgd hc0 hB hy
      by_cases h1 : y < x
      · have e1 := sub_u64 HAT.out HX.out h1
        have h2 : ¬ x ≤ y := by omega
        have d0 : 0 ≤ x - y := by omega
        clear h1
        by_cases h3 : x - y ≤ 4294967295
        · have h4 : ¬ 4294967295 < x - y := by omega
          have e2 : IntKind.u32.wrap (x - y) = x - y := by rw [IntKind.wrap_u32]; omega
          have HK2 : Hid (okS a l (k + 1) = true) := by
            show (okS a l k && stepS (atS a l k) (l.getD k 0)) = true
            rw [HK.out, ← HY.out, HGD.out]
            simp [stepS]
            omega
          have HG2 : Hid (gapS a l (k + 1) = gapS a l k ++ [x - y]) := by
            show gapS a l k ++ [l.getD k 0 - atS a l k] = _
            rw [HGD.out, ← HY.out]
          clear h3 d0
          go_wp2_with (first
            | (at_builtin; refine wpList_appL _ rfl (.tmp 24) (.tmp 29) 22 rfl w.heap.size 36 (.int .u32 0) 1 4 Try.underlying22 infoU32 rfl (by decide) v k _ rfl HO.out #[.int .u32 (x - y)] 1 rfl rfl (by simp [Value.oneCell']) (by decide) (by omega) (by decide) hsz ?_; intro g2 c2 w4 hown2 hg2 _; have HB4 := Lib.hid (Below_own HB.out HO.out hg2 (Nat.le_refl _) hsz); have HO4 := Lib.hid hown2; clear hown2 hg2))
          go_roundw
          case rel => exact ⟨k + 1, _, by omega, by go_num, by rw [HNX.out, HGD.out], rfl, HK2, by rw [HG2.out, List.map_append]; exact HO4.out, HB4.out⟩
          case measure => simp [intOf]; omega
        · have h4 : 4294967295 < x - y := by omega
          have HF : Hid (okS a l n ≠ true) := fun e => by
            have := okS_less a l n e (k + 1) (by omega)
            simp only [okS, Bool.and_eq_true] at this
            rw [← HY.out, HGD.out] at this
            simp [stepS] at this
            omega
          clear h3
          go_wp2_with fail
          go_ret2
          unfold Gaps
          rw [if_neg HF.out]
          exact ⟨rfl, HB.out⟩
      · have h2 : x ≤ y := by omega
        have HF : Hid (okS a l n ≠ true) := fun e => by
          have := okS_less a l n e (k + 1) (by omega)
          simp only [okS, Bool.and_eq_true] at this
          rw [← HY.out, HGD.out] at this
          simp [stepS] at this
          omega
        clear h1
        go_wp2_with fail
        go_ret2
        unfold Gaps
        rw [if_neg HF.out]
        exact ⟨rfl, HB.out⟩
    · obtain rfl : k = n := by omega
      go_wp2_with fail
      go_ret2
      unfold Gaps
      rw [if_pos HK.out]
      exact ⟨v, rfl, HO.out, HB.out⟩
end Go.Proofs.Ytoejmjhfecppcaa
