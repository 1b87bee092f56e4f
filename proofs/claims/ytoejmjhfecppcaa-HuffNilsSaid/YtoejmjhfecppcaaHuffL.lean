/- The law HuffNils. -/
import Derived.Test.YtoejmjhfecppcaaHuffK
namespace Go.Proofs.Ytoejmjhfecppcaa
open Go.RowKit

theorem ints_none (w : World) (k : IntKind) : Ints w none k [] := fun i v hi => by simp at hi

theorem next_empty : Hf.next [] [1] 0 = (0, 4, 0) := by
  unfold Hf.next Hf.nextGo
  rw [if_pos (by decide)]
theorem next_none (g r : Nat) (w : World) (hT : TabR w g []) (hB : BitsAt w r [1] 0) : Calls Try.prog 24 #[.pointer (some ⟨g, 0, none⟩), .pointer (some ⟨r, 0, none⟩)] w (NextPost r [1] 0 (0, 4, 0) w) := by
  have h := next_any g r [] [1] 0 w hT hB (by decide)
  rw [next_empty] at h
  exact h
set_option maxHeartbeats 2000000 in
theorem huffNils_walk (n : Int) (w : World) : Calls Try.prog 8 #[.int .i64 n] w (True_ w) := by
  have HNX := Lib.hid next_none
  go_enter Try.func8, Try.ntmps8
  go_wp2_with fail
  refine (align_nil _).mono ?_
  rintro e w1 ⟨rfl, rfl⟩
  go_wp2_with fail
  refine (take_nil _ _).mono ?_
  rintro e w1 ⟨rfl, rfl⟩
  go_wp2_with fail
  refine (bytes_nil _ _).mono ?_
  rintro e w1 ⟨rfl, rfl⟩
  go_wp2_with fail
  refine (read_any none 0 0 [] _ (ints_none _ _) (fun x hx => by cases hx) rfl (by omega)).mono ?_
  rintro e w1 ⟨rfl, _, hB1⟩
  have HB1 := Lib.hid hB1; clear hB1
  go_wp2_with fail
  refine (next_nil _ _).mono ?_
  rintro e w2 ⟨rfl, rfl⟩
  go_wp2_with fail
  refine (new_ok none 0 0 [] _ (ints_none _ _) rfl (by decide)).mono ?_
  rintro e w2 ⟨g, rfl, htab, hg, hB2⟩
  have HT := Lib.hid htab.read; clear htab
  have HB2 := Lib.hid (HB1.out.trans (hB2.mono HB1.out.size)); clear hB2
  go_wp2_with fail
  refine (next_nil2 _ _).mono ?_
  rintro e w3 ⟨rfl, rfl⟩
  go_wp2_with fail
  refine (read_any _ 1 1 [1] _ (cells_new _ _ _) (fun x hx => by simp at hx; omega) rfl (by omega)).mono ?_
  rintro e w3 ⟨rfl, hbits, hB3⟩
  have HB3' := (Below.refl _ _).alloc (Nat.le_refl _) _ |>.trans (hB3.mono (by simp))
  rw [World.size_alloc] at hbits
  have HT3 := Lib.hid (TabR.below HT.out HB3')
  have HB3 := Lib.hid (HB2.out.trans (HB3'.mono HB2.out.size)); have HBT := Lib.hid hbits; clear hB3 hbits HB3'
  go_wp2_with fail
  refine (HNX.out g _ _ HT3.out HBT.out).mono ?_
  rintro e w4 ⟨rfl, _, hg4⟩
  have HB4 := Lib.hid (below_of_grown HB3.out hg4 (by have := HB2.out.size; simp; omega) HB3.out.size); clear hg4
  go_wp2_with fail
  refine (at_nil _).mono ?_
  rintro e w5 ⟨rfl, rfl⟩
  go_wp2_with fail
  refine (lives14 _).mono ?_
  rintro e w5 ⟨rfl, hB5⟩
  go_wp2_with fail
  go_ret
  exact ⟨rfl, HB4.out.trans (hB5.mono HB4.out.size)⟩
end Go.Proofs.Ytoejmjhfecppcaa
