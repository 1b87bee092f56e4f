/- A program that is put together: New; the law's calls. -/
import Derived.Test.YtnkjmmbhjhmgdaaAsmG
namespace Go.Proofs.Ytnkjmmbhjhmgdaa
set_option linter.unusedSimpArgs false
set_option linter.unusedVariables false
open Go.RowKit Go.Maps Go.Sort
def newD (org : Int) : AsmD := { org := org, out := [], mks := fun _ => none, td := [], e := 0 }
set_option maxHeartbeats 1000000 in
theorem asm_new (org : Int) (h0 : 0 ≤ org) (h1 : org ≤ 65535) (w : World) : Calls Try.prog 10 #[.int .u16 org] w fun e w' => ∃ P M, e = .returned (.pointer (some ⟨P, 0, none⟩)) ∧ AsmS w.heap.size P M 0 w' (newD org) ∧ Below w.heap.size w w' := by
  have hmm := @run_makeMap Try.prog
  have e1 : IntKind.i64.wrap org = org := by rw [IntKind.wrap_i64]; omega
  go_enter Try.func10, Try.ntmps10
  go_wp2_with fail
  go_ret
  refine ⟨_, w.heap.size, rfl, ?_, ?_⟩
  · exact ⟨⟨.slice none 0 0, .slice none 0 0, (by have h := Blk.new (w.alloc (.map #[] 0)) 54 (asmCells org (.slice none 0 0) w.heap.size (.slice none 0 0) 0); rw [World.size_alloc] at h; exact h), World.ownsRow_nil _ _ _ _, World.ownsRow_nil _ _ _ _⟩, ⟨.map [], (World.ownsMap_made w _ _ _).alloc _, MapIs.empty⟩, by omega, Nat.le_refl _⟩
  · exact ((Below.refl _ w).alloc (Nat.le_refl _) _).alloc (by simp) _
/-- all that is known of a state -/
structure AsmI (d : AsmD) (T : Nat) : Prop where
  ok : AsmOk d T
  td : AsmTd d
theorem AsmI.new {org : Int} (h0 : 0 ≤ org) (h1 : org ≤ 65535) : AsmI (newD org) 0 :=
  ⟨⟨h0, h1, by simp [newD]; omega, fun x hx => by simp [newD] at hx, by simp [newD]⟩, ⟨fun _ x hx => by simp [newD] at hx, fun x hx => by simp [newD] at hx, fun s v h => by simp [newD] at h⟩⟩
theorem AsmI.mono {d : AsmD} {T T' : Nat} (h : AsmI d T) (hT : T ≤ T') : AsmI d T' := ⟨⟨h.ok.org0, h.ok.org1, h.ok.top, h.ok.byte, Nat.le_trans h.ok.told hT⟩, h.td⟩
theorem AsmTd.bytesF {d : AsmD} (h : AsmTd d) (l : List Int) : AsmTd (bytesF d l) := by
  unfold Go.Proofs.Ytnkjmmbhjhmgdaa.bytesF
  split
  · exact h
  · split
    · exact ⟨fun he => by simp at he, h.name, h.mark⟩
    · refine ⟨fun he x hx => ?_, h.name, h.mark⟩
      have := h.place he x hx
      simp only [List.length_append]
      omega
theorem AsmI.bytesF {d : AsmD} {T : Nat} (h : AsmI d T) {l : List Int} (hl : ∀ x ∈ l, 0 ≤ x ∧ x ≤ 255) : AsmI (bytesF d l) T := ⟨h.ok.bytesF hl, h.td.bytesF l⟩
theorem AsmI.markF {d : AsmD} {T : Nat} (h : AsmI d T) (s : ByteArray) : AsmI (markF d s) T := by
  refine ⟨h.ok.markF s, ?_⟩
  unfold Go.Proofs.Ytnkjmmbhjhmgdaa.markF
  split
  · exact h.td
  · split
    · exact ⟨fun he => by simp at he, h.td.name, h.td.mark⟩
    · refine ⟨h.td.place, h.td.name, fun t v hv => ?_⟩
      simp only [] at hv
      split at hv
      · injection hv with hv
        subst hv
        have := h.ok.org0
        have := h.ok.top
        unfold AsmD.here
        omega
      · exact h.td.mark t v hv
theorem bytesF_len {d : AsmD} {l : List Int} (h : (bytesF d l).e = 0) : (bytesF d l).out.length = d.out.length + l.length := by
  unfold bytesF at h ⊢
  split at h
  · rename_i he; exact absurd h he
  · rename_i he
    rw [if_neg he]
    split at h
    · simp at h
    · rename_i h5
      rw [if_neg h5]
      simp
theorem AsmI.fillF {d : AsmD} {T : Nat} (h : AsmI d T) (s : ByteArray) (hs : s.size ≤ maxLen) (near : Bool) {code : List Int} (hl : ∀ x ∈ code, 0 ≤ x ∧ x ≤ 255) : AsmI (fillF d s near code) (T + 1) := by
  refine ⟨h.ok.fillF s near hl, ?_⟩
  unfold Go.Proofs.Ytnkjmmbhjhmgdaa.fillF
  split
  · exact h.td
  · rename_i he
    have k := h.td.bytesF (code ++ if near then [0] else [0, 0])
    refine ⟨fun he2 x hx => ?_, fun x hx => ?_, k.mark⟩
    · rcases List.mem_append.1 hx with hx | hx
      · exact k.place he2 x hx
      · simp at hx
        subst hx
        simp only [] at he2 ⊢
        have hl2 := bytesF_len he2
        rw [hl2]
        cases near <;> simp <;> omega
    · rcases List.mem_append.1 hx with hx | hx
      · exact k.name x hx
      · simp at hx
        subst hx
        exact hs
theorem AsmI.nextF {d : AsmD} {T : Nat} (h : AsmI d T) : AsmI (nextF d) T := ⟨h.ok.nextF, h.td.bytesF _⟩
theorem AsmI.fold {T : Nat} : ∀ (R : List (List Int)) {d : AsmD}, AsmI d T → (∀ l ∈ R, ∀ x ∈ l, 0 ≤ x ∧ x ≤ 255) → AsmI (R.foldl Go.Proofs.Ytnkjmmbhjhmgdaa.bytesF d) T
  | [], d, h, _ => h
  | l :: R, d, h, hR => AsmI.fold R (h.bytesF (hR l (by simp))) (fun m hm => hR m (by simp [hm]))
theorem rounds_byte : ∀ (f : Nat) (n : Int), ∀ l ∈ (rounds f n).1, ∀ x ∈ l, 0 ≤ x ∧ x ≤ 255
  | 0, n, l, hl => by simp [rounds] at hl
  | f + 1, n, l, hl => by
    simp only [rounds] at hl
    split at hl
    · simp at hl
    · rename_i h
      simp only [List.mem_cons] at hl
      rcases hl with rfl | hl
      · intro x hx
        unfold roundB roundK at hx
        simp at hx
        omega
      · exact rounds_byte f _ l hl
theorem zeros_byte (k : Int) : ∀ x ∈ zerosL k, 0 ≤ x ∧ x ≤ 255 := fun x hx => by
  unfold zerosL at hx
  have := List.eq_of_mem_replicate hx
  omega
theorem six_byte : ∀ x ∈ ([6, 0] : List Int), 0 ≤ x ∧ x ≤ 255 := fun x hx => by simp at hx; omega
theorem AsmI.restF {d : AsmD} {T : Nat} (h : AsmI d T) (m : Int) : AsmI (restF d m) T := by
  unfold Go.Proofs.Ytnkjmmbhjhmgdaa.restF
  split
  · exact (h.nextF.bytesF six_byte).bytesF (zeros_byte _)
  · split
    · exact h.nextF.bytesF (zeros_byte _)
    · split
      · exact (h.bytesF six_byte).bytesF (zeros_byte _)
      · exact h.bytesF (zeros_byte _)
theorem AsmI.delayF {d : AsmD} {T : Nat} (h : AsmI d T) (n : Int) : AsmI (delayF d n) T := by
  unfold Go.Proofs.Ytnkjmmbhjhmgdaa.delayF
  split
  · exact h
  · split
    · exact ⟨⟨h.ok.org0, h.ok.org1, h.ok.top, h.ok.byte, h.ok.told⟩, ⟨fun he => by simp at he, h.td.name, h.td.mark⟩⟩
    · exact (AsmI.fold _ h (rounds_byte _ _)).restF _
end Go.Proofs.Ytnkjmmbhjhmgdaa
