/- Contracts of huff.Bits: left, one, At, Align, Read. -/
import Derived.Test.YtoejmjhfecppcaaRows
import Derived.Test.YtoejmjhfecppcaaMemB
namespace Go.Proofs.Ytoejmjhfecppcaa
open Go.RowKit

namespace Hf
/-- bit i of bytes -/
def bitAt (bs : List Int) (i : Nat) : Int := (bs.getD (i / 8) 0 / 2 ^ (i % 8)) % 2
theorem bitAt_range (bs : List Int) (i : Nat) : 0 ≤ bitAt bs i ∧ bitAt bs i ≤ 1 := by unfold bitAt; omega
end Hf
theorem and_one_u8 (x : Int) (h0 : 0 ≤ x) (h1 : x ≤ 255) : bits .and .u8 x 1 = x % 2 := by
  rw [u8_and x 1 h0 (by omega) (by omega) (by omega)]
  have : x.toNat &&& (1 : Int).toNat = x.toNat % 2 := Nat.and_two_pow_sub_one_eq_mod x.toNat 1
  rw [this]; omega
theorem grownBy_refl (w : World) (r : Option Nat) : w.grownBy w r := ⟨rfl, rfl, rfl, Nat.le_refl _, fun _ _ _ => rfl⟩
theorem grownBy_trans {w w' w'' : World} {r : Option Nat} (h : w.grownBy w' r) (h' : w'.grownBy w'' r) : w.grownBy w'' r :=
  ⟨h'.os.trans h.os, h'.tape.trans h.tape, h'.output.trans h.output, Nat.le_trans h.size h'.size, fun k hk hr => (h'.block k (Nat.lt_of_lt_of_le hk h.size) hr).trans (h.block k hk hr)⟩
theorem grownBy_drewN {w w' : World} {r : Option Nat} (h : w.grownBy w' r) (n : Nat) : w.grownBy (w'.drewN n) r := ⟨h.os, h.tape, h.output, h.size, h.block⟩
theorem grownBy_setCell {w w' : World} {g : Nat} (h : w.grownBy w' (some g)) (i : Nat) (v : Value) : w.grownBy (w'.setCell ⟨g, i, none⟩ v) (some g) :=
  ⟨h.os, h.tape, h.output, by simpa using h.size, fun k hk hr => (Below.heap_setCell w' ⟨g, i, none⟩ v k (fun e => hr (by rw [e]))).trans (h.block k hk hr)⟩
theorem grownBy_below {w w' : World} {r : Option Nat} (h : Below w.heap.size w w') : w.grownBy w' r := ⟨h.os, h.tape, h.output, h.size, fun k hk _ => h.block k hk⟩
theorem below_of_grown {B : Nat} {a w w' : World} {g : Nat} (h : Below B a w) (hg : w.grownBy w' (some g)) (hB : B ≤ g) (hs : B ≤ w.heap.size) : Below B a w' :=
  h.grown hg hs (fun k hk => by have : k = g := by simpa using hk.symm
                                omega)
theorem Cells.grown {w w' : World} {r : Nat} {A : Option Addr} {l : List Value} (h : Cells w A l) (hg : w.grownBy w' (some r)) (hne : ∀ ad, A = some ad → l = [] ∨ ad.block ≠ r) : Cells w' A l := fun i v hi => by
  obtain ⟨ad, e, hc⟩ := h i v hi
  refine ⟨ad, e, ?_⟩
  have hb : (ad.add i).block ≠ r := by
    rw [block_of_add]
    rcases hne ad e with h1 | h1
    · subst h1; simp at hi
    · exact h1
  have hlt := block_lt_of_cell hc
  rw [← hc]
  unfold World.cell?
  rw [hg.block _ hlt (by intro e; exact hb (by simpa using e))]
/-- a list of values none of which lies in a block: it lies elsewhere -/
theorem Cells.apart {w : World} {r : Nat} {t : TypeId} {cs : List Value} {A : Option Addr} {l : List Value} (h : Cells w A l) (hb : Blk w r t cs) (hd : ∀ v ∈ l, v ∉ cs) : ∀ ad, A = some ad → l = [] ∨ ad.block ≠ r := by
  intro ad e
  cases l with
  | nil => exact .inl rfl
  | cons v l =>
    refine .inr fun he => ?_
    obtain ⟨ad', e', hc⟩ := h 0 v rfl
    have : ad = ad' := by rw [e] at e'; injection e'
    subst this
    have hc2 : w.cell? ⟨r, ad.off, ad.spot⟩ = some v := by rw [← he]; simpa [Addr.add] using hc
    unfold World.cell? at hc2
    unfold Blk at hb
    simp only [hb] at hc2
    split at hc2
    · cases hc2
    · exact hd v (by simp) (by
        have := List.mem_of_getElem? (l := cs) (i := ad.off) (a := v) (by simpa using hc2)
        exact this)

/-- block r is a reader of the bits of bs, of which so many were taken -/
def BitsAt (w : World) (r : Nat) (bs : List Int) (pos : Nat) : Prop :=
  ∃ A c, Blk w r 98 [.slice A bs.length c, .int .i64 pos] ∧ Ints w A .u8 bs ∧ (∀ x ∈ bs, 0 ≤ x ∧ x ≤ 255) ∧ pos ≤ 8 * bs.length ∧ bs.length ≤ 140737488355328
theorem BitsAt.drewN {w : World} {r : Nat} {bs : List Int} {pos : Nat} (h : BitsAt w r bs pos) (n : Nat) : BitsAt (w.drewN n) r bs pos := h
theorem BitsAt.below {w w' : World} {r : Nat} {bs : List Int} {pos : Nat} (h : BitsAt w r bs pos) (hb : Below w.heap.size w w') : BitsAt w' r bs pos := by
  obtain ⟨A, c, h1, h2, h3⟩ := h
  exact ⟨A, c, h1.below_ hb, h2.below hb, h3⟩
theorem BitsAt.set {w : World} {r : Nat} {bs : List Int} {pos : Nat} (h : BitsAt w r bs pos) (q : Nat) (hq : q ≤ 8 * bs.length) : BitsAt (w.setCell ⟨r, 1, none⟩ (.int .i64 q)) r bs q := by
  obtain ⟨A, c, h1, h2, h3, h4, h5⟩ := h
  refine ⟨A, c, h1.set_ 1 _, ?_, h3, hq, h5⟩
  refine Cells.grown h2 (grownBy_setCell (grownBy_refl w _) 1 _) (Cells.apart h2 h1 ?_)
  intro v hv hc
  obtain ⟨x, _, rfl⟩ := List.mem_map.1 hv
  simp at hc

set_option maxHeartbeats 400000 in
theorem left_any (r : Nat) (bs : List Int) (pos : Nat) (w : World) (h : BitsAt w r bs pos) :
    Calls Try.prog 44 #[.pointer (some ⟨r, 0, none⟩)] w fun e w' => e = .returned (.int .i64 ((8 * bs.length - pos : Nat) : Int)) ∧ Drew w w' := by
  obtain ⟨A, c, hb, _, _, hp, hn⟩ := h
  obtain ⟨n, hn2⟩ : ∃ n, n = bs.length := ⟨_, rfl⟩
  rw [← hn2] at hb hp hn ⊢
  clear hn2
  have hc0 : w.cell? ⟨r, 0, none⟩ = some (.slice A n c) := hb.cell 0
  have hc1 : w.cell? ⟨r, 1, none⟩ = some (.int .i64 pos) := hb.cell 1
  have HB := Lib.hid hb; clear hb
  go_enter Try.func44, Try.ntmps44
  go_wp2
  go_quiet (fail)
  go_wp2
  go_ret
  have e : ((8 * n - pos : Nat) : Int) = 8 * n - pos := by omega
  rw [e]
  exact ⟨rfl, _, rfl⟩

set_option maxHeartbeats 400000 in
theorem one_any (r : Nat) (bs : List Int) (pos : Nat) (w : World) (h : BitsAt w r bs pos) (hlt : pos < 8 * bs.length) :
    Calls Try.prog 45 #[.pointer (some ⟨r, 0, none⟩)] w fun e w' => e = .returned (.int .i64 (Hf.bitAt bs pos)) ∧ BitsAt w' r bs (pos + 1) ∧ w.grownBy w' (some r) := by
  have HH := Lib.hid h
  obtain ⟨A, c, hb, hi, hr, _, hn⟩ := h
  obtain ⟨x, hx⟩ : ∃ x, bs[pos / 8]? = some x := ⟨_, List.getElem?_eq_getElem (by omega)⟩
  obtain ⟨ad, rfl, hc2⟩ := hi (pos / 8) (.int .u8 x) (by simp [hx])
  obtain ⟨hx0, hx1⟩ := hr x (List.mem_of_getElem? hx)
  have hbit : Hf.bitAt bs pos = x / 2 ^ (pos % 8) % 2 := by unfold Hf.bitAt; simp [List.getD, hx]
  have hpw : (1 : Int) ≤ 2 ^ (pos % 8) := by have : (1 : Nat) ≤ 2 ^ (pos % 8) := Nat.one_le_two_pow
                                             exact_mod_cast this
  have hd0 : 0 ≤ x / 2 ^ (pos % 8) := Int.ediv_nonneg hx0 (by omega)
  have hd1 : x / 2 ^ (pos % 8) ≤ 255 := by
    have := Int.ediv_le_self (2 ^ (pos % 8)) hx0
    omega
  have HBIT := Lib.hid hbit
  obtain ⟨n, hn2⟩ : ∃ n, Hid (n = bs.length) := ⟨_, Lib.hid rfl⟩
  rw [← hn2.out] at hb hn hlt
  have hc0 : w.cell? ⟨r, 0, none⟩ = some (.slice (some ad) n c) := hb.cell 0
  have hc1 : w.cell? ⟨r, 1, none⟩ = some (.int .i64 pos) := hb.cell 1
  have hf1 := hb.frozen 1
  have HB := Lib.hid hb; clear hb hi hr hx hbit
  have h2 : (pos : Int) / 8 < n := by omega
  have h3 : 0 ≤ (pos : Int) / 8 := by omega
  have h4 : 0 ≤ (pos : Int) % 8 := by omega
  go_enter Try.func45, Try.ntmps45
  go_wp2
  go_quiet (fail)
  go_wp2
  go_ret
  refine ⟨?_, ?_, ?_⟩
  · rw [HBIT.out]
    have e := and_one_u8 _ hd0 hd1
    show Ending.returned (Value.int IntKind.i64 (wrap64 (bits BinOp.and IntKind.u8 (x / 2 ^ (pos % 8)) 1))) = _
    rw [e, IntWalk.wrap64_in _ (by omega)]
  · exact (HH.out.set (pos + 1) (by rw [← hn2.out]; omega)).drewN _
  · exact grownBy_drewN (grownBy_setCell (grownBy_refl w _) 1 _) _

set_option maxHeartbeats 400000 in
theorem at_any (r : Nat) (bs : List Int) (pos : Nat) (w : World) (h : BitsAt w r bs pos) :
    Calls Try.prog 26 #[.pointer (some ⟨r, 0, none⟩)] w fun e w' => e = .returned (.int .i64 (((pos + 7) / 8 : Nat) : Int)) ∧ Drew w w' := by
  obtain ⟨A, c, hb, _, _, hp, hn⟩ := h
  have hc1 : w.cell? ⟨r, 1, none⟩ = some (.int .i64 pos) := hb.cell 1
  have hp2 : pos ≤ 1125899906842624 := by omega
  clear hb hp hn
  go_enter Try.func26, Try.ntmps26
  go_wp2
  go_ret
  have e : (((pos + 7) / 8 : Nat) : Int) = (pos + 7) / 8 := by omega
  rw [e]
  refine ⟨?_, 0, rfl⟩
  show Ending.returned (Value.int IntKind.i64 (((pos : Int) + 8 - 1) / 8)) = _
  congr 3
  omega
theorem at_nil (w : World) :
    Calls Try.prog 26 #[.pointer none] w fun e w' => e = .returned (.int .i64 0) ∧ w = w' := by
  go_enter Try.func26, Try.ntmps26
  go_wp2
  go_ret
  exact ⟨rfl, rfl⟩
theorem align_nil (w : World) :
    Calls Try.prog 27 #[.pointer none] w fun e w' => e = .returned (.tuple #[]) ∧ w = w' := by
  go_enter Try.func27, Try.ntmps27
  go_wp2
  go_end0
  exact ⟨rfl, rfl⟩
set_option maxHeartbeats 400000 in
theorem align_any (r : Nat) (bs : List Int) (pos : Nat) (w : World) (h : BitsAt w r bs pos) :
    Calls Try.prog 27 #[.pointer (some ⟨r, 0, none⟩)] w fun e w' => e = .returned (.tuple #[]) ∧ BitsAt w' r bs ((pos + 7) / 8 * 8) ∧ w.grownBy w' (some r) := by
  have HH := Lib.hid h
  obtain ⟨A, c, hb, _, _, hp, hn⟩ := h
  have hc1 : w.cell? ⟨r, 1, none⟩ = some (.int .i64 pos) := hb.cell 1
  have hf1 := hb.frozen 1
  have hp2 : pos ≤ 1125899906842624 := by omega
  have HP := Lib.hid hp
  clear hb hp hn
  go_enter Try.func27, Try.ntmps27
  go_wp2
  go_end0
  have e : ((pos : Int) + 8 - 1) / 8 * 8 = (((pos + 7) / 8 * 8 : Nat) : Int) := by omega
  rw [e]
  refine ⟨rfl, HH.out.set _ (by have := HP.out; omega), grownBy_setCell (grownBy_refl w _) 1 _⟩
set_option maxHeartbeats 400000 in
theorem read_any (A : Option Addr) (n c : Nat) (bs : List Int) (w : World) (h : Ints w A .u8 bs) (hr : ∀ x ∈ bs, 0 ≤ x ∧ x ≤ 255) (hn : bs.length = n) (hm : n ≤ 140737488355328) :
    Calls Try.prog 23 #[.slice A n c] w fun e w' => e = .returned (.pointer (some ⟨w.heap.size, 0, none⟩)) ∧ BitsAt w' w.heap.size bs 0 ∧ Below w.heap.size w w' := by
  have HN := Lib.hid hn; clear hn
  go_enter Try.func23, Try.ntmps23
  go_wp2
  go_ret
  refine ⟨rfl, ⟨A, c, ?_, ?_, hr, by omega, by rw [HN.out]; exact hm⟩, (Below.refl _ _).alloc (Nat.le_refl _) _⟩
  · rw [HN.out]; exact Blk.new w _ [_, _]
  · exact Cells.below h ((Below.refl _ _).alloc (Nat.le_refl _) _)
theorem take_nil (n : Int) (w : World) :
    Calls Try.prog 28 #[.pointer none, .int .i64 n] w fun e w' => e = .returned (.tuple #[.int .i64 0, .bool false]) ∧ w = w' := by
  go_enter Try.func28, Try.ntmps28
  go_wp2_with fail
  go_ret2
  exact ⟨rfl, rfl⟩
theorem bytes_nil (n : Int) (w : World) :
    Calls Try.prog 29 #[.pointer none, .int .i64 n] w fun e w' => e = .returned (.tuple #[.slice none 0 0, .bool false]) ∧ w = w' := by
  go_enter Try.func29, Try.ntmps29
  go_wp2_with (first | (go_at_call 27; refine (align_nil _).mono ?_; rintro e w' ⟨rfl, rfl⟩))
  go_ret2
  exact ⟨rfl, rfl⟩
theorem next_nil (v : Option Addr) (w : World) :
    Calls Try.prog 24 #[.pointer none, .pointer v] w fun e w' => e = .returned (.tuple #[.int .i64 0, .int .i64 1]) ∧ w = w' := by
  go_enter Try.func24, Try.ntmps24
  go_wp2_with fail
  go_ret2
  exact ⟨rfl, rfl⟩
theorem next_nil2 (a : Addr) (w : World) :
    Calls Try.prog 24 #[.pointer (some a), .pointer none] w fun e w' => e = .returned (.tuple #[.int .i64 0, .int .i64 1]) ∧ w = w' := by
  go_enter Try.func24, Try.ntmps24
  go_wp2_with fail
  go_ret2
  exact ⟨rfl, rfl⟩
end Go.Proofs.Ytoejmjhfecppcaa
