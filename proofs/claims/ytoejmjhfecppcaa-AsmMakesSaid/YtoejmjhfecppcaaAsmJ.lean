/- A program that is put together: light; lives; calls on nothing. -/
import Derived.Test.YtoejmjhfecppcaaAsmI
namespace Go.Proofs.Ytoejmjhfecppcaa
set_option linter.unusedSimpArgs false
set_option linter.unusedVariables false
open Go.RowKit Go.Maps Go.Sort
def OpsAt (w : World) (A : Option Addr) (L : List OpL) : Prop := ∀ i o, L[i]? = some o → ∃ ad Ab cb, A = some ad ∧ w.cell? (ad.add (i * 4)) = some (.int .i64 o.kind) ∧
  w.cell? ⟨(ad.add (i * 4)).block, (ad.add (i * 4)).off + 1, none⟩ = some (.int .i64 o.num) ∧ w.cell? ⟨(ad.add (i * 4)).block, (ad.add (i * 4)).off + 2, none⟩ = some (.string o.name) ∧
  w.cell? ⟨(ad.add (i * 4)).block, (ad.add (i * 4)).off + 3, none⟩ = some (.slice Ab o.b.length cb) ∧ Ints w Ab .u8 o.b ∧ (Ab = none → o.b.length = 0 ∧ cb = 0)
theorem OpsAt.below {w w' : World} {A : Option Addr} {L : List OpL} (h : OpsAt w A L) (hb : Below w.heap.size w w') : OpsAt w' A L := fun i o hi => by
  obtain ⟨ad, Ab, cb, e, h0, h1, h2, h3, h4, h5⟩ := h i o hi
  exact ⟨ad, Ab, cb, e, cell_below hb h0, cell_below hb h1, cell_below hb h2, cell_below hb h3, h4.below hb, h5⟩
def okLen (n : Nat) : Bool := decide (n ≤ 3000 ∨ n = 65000)
def lightL (L : List OpL) : Bool := decide (L.length ≤ 100) && L.all fun o => okLen o.b.length
theorem lightL_len {L : List OpL} (h : lightL L = true) : L.length ≤ 100 := by unfold lightL at h; simp at h; exact h.1
theorem lightL_op {L : List OpL} (h : lightL L = true) {o : OpL} (ho : o ∈ L) : o.b.length ≤ 65000 := by
  unfold lightL okLen at h
  simp at h
  have := h.2 o ho
  omega
set_option maxRecDepth 100000 in
set_option maxHeartbeats 4000000 in
theorem light28 (A : Option Addr) (n c : Nat) (L : List OpL) (w : World) (h : OpsAt w A L) (hn : L.length = n) :
    Calls Try.prog 30 #[.slice A n c] w fun e w' => e = .returned (.bool (lightL L)) ∧ w = w' := by
  have H := Lib.hid h; have HN := Lib.hid hn
  clear h hn
  go_enter Try.func30, Try.ntmps30
  by_cases h100 : n ≤ 100
  · have h1 : ¬ (100 : Int) < n := by omega
    go_wp2_with fail
    go_loopw [3] (fun i wr => ∃ k : Nat, k ≤ n ∧ i = .int .i64 k ∧ wr = w ∧ Hid (∀ j o, j < k → L[j]? = some o → okLen o.b.length = true)) (fun i _ => n - (intOf i).toNat)
    case atStart => exact ⟨0, by omega, rfl, rfl, Lib.hid (fun j o hj => by omega)⟩
    case round =>
      obtain ⟨k, hk, rfl, rfl, HA⟩ := hrel
      by_cases hlt : k < n
      · have hlt2 : (k : Int) < n := by omega
        obtain ⟨o, ho⟩ : ∃ o, L[k]? = some o := ⟨_, List.getElem?_eq_getElem (by have := HN.out; omega)⟩
        obtain ⟨ad, Ab, cb, rfl, c0, c1, c2, c3, hl, hnil⟩ := H.out k o ho
        have HO := Lib.hid ho
        clear ho hl hnil c0 c1 c2
        obtain ⟨m, hm⟩ : ∃ m, m = o.b.length := ⟨_, rfl⟩
        have HM := Lib.hid hm
        rw [← hm] at c3
        clear hm
        by_cases h3 : m ≤ 3000
        · have h3i : ¬ (3000 : Int) < m := by omega
          go_wp2_with fail
          go_roundw
          case rel => exact ⟨k + 1, by omega, by go_num, trivial, Lib.hid (fun j x hj hx => by
            by_cases e : j = k
            · subst e; rw [HO.out] at hx; injection hx with hx; subst hx; unfold okLen; rw [← HM.out]; simp; omega
            · exact HA.out j x (by omega) hx)⟩
          case measure => simp [intOf]; omega
        · have h3i : (3000 : Int) < m := by omega
          by_cases h4 : m = 65000
          · have h4i : (m : Int) = 65000 := by omega
            go_wp2_with fail
            go_roundw
            case rel => exact ⟨k + 1, by omega, by go_num, trivial, Lib.hid (fun j x hj hx => by
              by_cases e : j = k
              · subst e; rw [HO.out] at hx; injection hx with hx; subst hx; unfold okLen; rw [← HM.out]; simp; omega
              · exact HA.out j x (by omega) hx)⟩
            case measure => simp [intOf]; omega
          · have h4i : ¬ (m : Int) = 65000 := by omega
            go_wp2_with fail
            go_ret
            have e : lightL L = false := by
              unfold lightL
              rw [Bool.and_eq_false_iff]
              right
              rw [List.all_eq_false]
              exact ⟨o, List.mem_of_getElem? HO.out, by unfold okLen; rw [← HM.out]; simp; omega⟩
            rw [e]
            exact ⟨rfl, rfl⟩
      · obtain rfl : k = n := by omega
        go_wp2_with fail
        go_ret
        have e : lightL L = true := by
          unfold lightL
          rw [Bool.and_eq_true]
          refine ⟨by simp [HN.out]; omega, List.all_eq_true.2 fun o ho => ?_⟩
          obtain ⟨j, hj, rfl⟩ := List.getElem_of_mem ho
          exact HA.out j _ (by have := HN.out; omega) (List.getElem?_eq_getElem hj)
        rw [e]
        exact ⟨rfl, rfl⟩
  · have h1 : (100 : Int) < n := by omega
    go_wp2_with fail
    go_ret
    have e : lightL L = false := by unfold lightL; rw [HN.out]; simp; omega
    rw [e]
    exact ⟨rfl, rfl⟩
end Go.Proofs.Ytoejmjhfecppcaa
