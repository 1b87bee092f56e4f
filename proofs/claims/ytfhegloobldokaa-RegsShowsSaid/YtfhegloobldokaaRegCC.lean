/- squealref06.Show. -/
import Derived.Test.YtfhegloobldokaaRegBB
import Derived.BigQuiet
namespace Go.Proofs.Ytfhegloobldokaa
set_option linter.unusedSimpArgs false
set_option linter.unusedVariables false
open Go.RowKit
theorem same_of {P : Program} {f : FuncId} {args : Array Value} {w : World} {v : Value} (h : Calls P f args w fun e w' => e = .returned v ∧ w = w') : Calls P f args w fun e w' => e = .returned v ∧ w' = w := h.mono fun _ _ ⟨h1, h2⟩ => ⟨h1, h2.symm⟩
theorem show_flat (r : Rg) : r.show = [65, 70, 61] ++ hx 4 (r.a * 256 + r.f) ++ ([32, 66, 67, 61] ++ hx 4 (r.b * 256 + r.c)) ++ ([32, 68, 69, 61] ++ hx 4 (r.d * 256 + r.e)) ++ ([32, 72, 76, 61] ++ hx 4 (r.h * 256 + r.l)) ++
    [32, 73, 88, 61] ++ hx 4 r.ix ++ [32, 73, 89, 61] ++ hx 4 r.iy ++ [32, 83, 80, 61] ++ hx 4 r.sp ++ [32, 80, 67, 61] ++ hx 4 r.pc ++ [32, 73, 61] ++ hx 2 r.i ++ [32, 82, 61] ++ hx 2 r.r := by
  simp [Rg.show, Rg.pieces, Lib.join_cons, Lib.joinTail]
theorem quiet_more {P : Program} {f : FuncId} {args : Array Value} {w : World} {a n : Nat} {v : Value} (h : Calls P f args (w.drewN (a + n)) fun e w' => e = .returned v ∧ w' = w.drewN (a + n)) :
    Calls P f args (w.drewN (a + n)) fun e w'' => e = .returned v ∧ ∃ m, w'' = w.drewN (a + m) := h.mono fun _ _ ⟨he, hm⟩ => ⟨he, n, hm⟩
theorem digits_4 (x : Int) (s : List UInt8) (hs : s = hx 4 x) (w : World) (h0 : 0 ≤ x) (h1 : x ≤ 1000000) :
    Calls Try.prog 44 #[.int .i64 x, .int .i64 4] w fun e w' => e = .returned (.string ⟨s.toArray⟩) ∧ w = w' := digits_any 4 x s hs w h0 h1 (by omega)
theorem digits_2 (x : Int) (s : List UInt8) (hs : s = hx 2 x) (w : World) (h0 : 0 ≤ x) (h1 : x ≤ 1000000) :
    Calls Try.prog 44 #[.int .i64 x, .int .i64 2] w fun e w' => e = .returned (.string ⟨s.toArray⟩) ∧ w = w' := digits_any 2 x s hs w h0 h1 (by omega)
/-- what a round of the loop holds -/
def HeldN (LD : Nat → World → Result Value) (W : World) (gr gn : Nat) (C : Array Value) (r : Rg) (w' : World) : Prop :=
  Below W.heap.size W w' ∧ (w'.cell? ⟨gn, 0, none⟩ = some (.string ⟨#[32, 66, 67, 61]⟩) ∧ w'.cell? ⟨gn, 1, none⟩ = some (.string ⟨#[32, 68, 69, 61]⟩) ∧ w'.cell? ⟨gn, 2, none⟩ = some (.string ⟨#[32, 72, 76, 61]⟩)) ∧ w'.heap[gr]? = some (.cells C 24 (0, 0)) ∧ LD gr w' = .ok (.agg C) w'
theorem HeldN.below {LD : Nat → World → Result Value} (hl : IsLD LD) {W w w' : World} {gr gn : Nat} {C : Array Value} {r : Rg} (hs : C.size = 30) (hb : Below w.heap.size w w') (x : HeldN LD W gr gn C r w) : HeldN LD W gr gn C r w' := by
  have k' : ∀ (a : Addr) (v : Value), w.cell? a = some v → w'.cell? a = some v := fun a v hc => (hb.cell (block_lt_of_cell hc)).trans hc
  obtain ⟨hB, ⟨n0, n1, n2⟩, h1, _⟩ := x
  exact ⟨hB.trans (hb.mono hB.size), ⟨k' _ _ n0, k' _ _ n1, k' _ _ n2⟩, row_keep hb h1, LD_of hl hs (row_keep hb h1)⟩
theorem HeldN.drew {LD : Nat → World → Result Value} (hl : IsLD LD) {W w : World} {gr gn : Nat} {C : Array Value} {r : Rg} (hs : C.size = 30) (x : HeldN LD W gr gn C r w) : HeldN LD W gr gn C r w.drew := HeldN.below hl hs (Below.refl _ w).drew x
set_option maxRecDepth 100000 in
set_option maxHeartbeats 8000000 in
theorem refShow_any (r : Rg) (C : Array Value) (hC : C = r.cells.toArray) (w : World) (hr : r.Ok) :
    Calls Try.prog 16 #[.agg C] w fun e w' => e = .returned (.string ⟨r.show.toArray⟩) ∧ Below w.heap.size w w' := by
  have hsz : C.size = 30 := by rw [hC]; exact r.size
  have hone : C.all (·.oneCell') = true := by rw [hC]; exact r.one
  have HINF := Lib.hid (info_of hsz); have HONE := Lib.hid hone
  have HSH := Lib.hid (show_flat r)
  obtain ⟨s1, h1⟩ : ∃ s, s = hx 4 (r.a * 256 + r.f) := ⟨_, rfl⟩
  obtain ⟨s2, h2⟩ : ∃ s, s = hx 4 (r.b * 256 + r.c) := ⟨_, rfl⟩
  obtain ⟨s3, h3⟩ : ∃ s, s = hx 4 (r.d * 256 + r.e) := ⟨_, rfl⟩
  obtain ⟨s4, h4⟩ : ∃ s, s = hx 4 (r.h * 256 + r.l) := ⟨_, rfl⟩
  obtain ⟨s5, h5⟩ : ∃ s, s = hx 4 r.ix := ⟨_, rfl⟩
  obtain ⟨s6, h6⟩ : ∃ s, s = hx 4 r.iy := ⟨_, rfl⟩
  obtain ⟨s7, h7⟩ : ∃ s, s = hx 4 r.sp := ⟨_, rfl⟩
  obtain ⟨s8, h8⟩ : ∃ s, s = hx 4 r.pc := ⟨_, rfl⟩
  obtain ⟨s9, h9⟩ : ∃ s, s = hx 2 r.i := ⟨_, rfl⟩
  obtain ⟨s10, h10⟩ : ∃ s, s = hx 2 r.r := ⟨_, rfl⟩
  rw [← h1, ← h2, ← h3, ← h4, ← h5, ← h6, ← h7, ← h8, ← h9, ← h10] at HSH
  have l1 : s1.length = 4 := by rw [h1, hx_len]
  have l2 : s2.length = 4 := by rw [h2, hx_len]
  have l3 : s3.length = 4 := by rw [h3, hx_len]
  have l4 : s4.length = 4 := by rw [h4, hx_len]
  have l5 : s5.length = 4 := by rw [h5, hx_len]
  have l6 : s6.length = 4 := by rw [h6, hx_len]
  have l7 : s7.length = 4 := by rw [h7, hx_len]
  have l8 : s8.length = 4 := by rw [h8, hx_len]
  have l9 : s9.length = 2 := by rw [h9, hx_len]
  have l10 : s10.length = 2 := by rw [h10, hx_len]
  have ra := hr.a; have rf := hr.f; have ri := hr.i; have rr := hr.r'
  have rx := hr.ix; have ry := hr.iy; have rs := hr.sp; have rp := hr.pc
  have rbc := b16_of hr.b hr.c; have rde := b16_of hr.d hr.e; have rhl := b16_of hr.h hr.l; have raf := b16_of hr.a hr.f
  unfold B8 at ra rf ri rr
  unfold B16 at rx ry rs rp rbc rde rhl raf
  have S1 := Lib.hid (fun w => digits_4 _ s1 h1 w (by omega) (by omega))
  have S2 := Lib.hid (fun w => digits_4 _ s2 h2 w (by omega) (by omega))
  have S3 := Lib.hid (fun w => digits_4 _ s3 h3 w (by omega) (by omega))
  have S4 := Lib.hid (fun w => digits_4 _ s4 h4 w (by omega) (by omega))
  have S5 := Lib.hid (fun w => digits_4 _ s5 h5 w (by omega) (by omega))
  have S6 := Lib.hid (fun w => digits_4 _ s6 h6 w (by omega) (by omega))
  have S7 := Lib.hid (fun w => digits_4 _ s7 h7 w (by omega) (by omega))
  have S8 := Lib.hid (fun w => digits_4 _ s8 h8 w (by omega) (by omega))
  have S9 := Lib.hid (fun w => digits_2 _ s9 h9 w (by omega) (by omega))
  have S10 := Lib.hid (fun w => digits_2 _ s10 h10 w (by omega) (by omega))
  have e256 : 256 * r.a = r.a * 256 := by omega
  have HE : Hid (256 * r.a + r.f = r.a * 256 + r.f) := by show _ = _; omega
  clear h1 h2 h3 h4 h5 h6 h7 h8 h9 h10 hone e256
  have HC := Lib.hid hC
  have HP : Hid (∀ (k x : Int) (he : r.pair k 0 = x) (u : World), Calls Try.prog 22 #[.agg C, .int .i64 k, .int .i64 0] u fun e u' => e = .returned (.int .u16 x) ∧ Below u.heap.size u u') := fun k x he u => by
    rw [← he]
    exact refPair_any r hr C hC k 0 u
  have P0 := Lib.hid (show r.pair 0 0 = r.b * 256 + r.c by simp [Rg.pair])
  have P1 := Lib.hid (show r.pair 1 0 = r.d * 256 + r.e by simp [Rg.pair])
  have P2 := Lib.hid (show r.pair 2 0 = r.h * 256 + r.l by simp [Rg.pair])
  have b0 : Blk (w.alloc (.cells C 24)) w.heap.size 24 r.cells := by rw [hC]; exact Blk.new w _ _
  have HB0 : Hid (Below w.heap.size w (w.alloc (.cells C 24))) := (Below.refl _ w).alloc (Nat.le_refl _) _
  obtain ⟨w1, hw1⟩ : ∃ w1, w1 = w.alloc (.cells C 24) := ⟨_, rfl⟩
  rw [← hw1] at b0 HB0
  have sz1 : w.heap.size < w1.heap.size := by rw [hw1]; simp
  have HW1 := Lib.hid hw1
  have BR := Lib.hid b0
  have HSZ := Lib.hid hsz
  have c0 : (w.alloc (.cells C 24)).cell? ⟨w.heap.size, 0, none⟩ = some (.int .u8 r.a) := by rw [← hw1]; exact b0.cell 0
  have c1 : (w.alloc (.cells C 24)).cell? ⟨w.heap.size, 1, none⟩ = some (.int .u8 r.f) := by rw [← hw1]; exact b0.cell 1
  clear hsz
  obtain ⟨pre, hp0, hp1, hp2, hp3⟩ : ∃ pre : Nat → List UInt8, pre 0 = [65, 70, 61] ++ s1 ∧ pre 1 = pre 0 ++ [32, 66, 67, 61] ++ s2 ∧ pre 2 = pre 1 ++ [32, 68, 69, 61] ++ s3 ∧ pre 3 = pre 2 ++ [32, 72, 76, 61] ++ s4 :=
    ⟨fun k => match k with | 0 => _ | 1 => _ | 2 => _ | _ => _, rfl, rfl, rfl, rfl⟩
  have HSF : Hid (r.show = pre 3 ++ [32, 73, 88, 61] ++ s5 ++ [32, 73, 89, 61] ++ s6 ++ [32, 83, 80, 61] ++ s7 ++ [32, 80, 67, 61] ++ s8 ++ [32, 73, 61] ++ s9 ++ [32, 82, 61] ++ s10) := by
    show _ = _
    rw [HSH.out, hp3, hp2, hp1, hp0]
    simp
  have P0' := Lib.hid hp0; have P1' := Lib.hid hp1; have P2' := Lib.hid hp2; have P3' := Lib.hid hp3
  clear hp0 hp1 hp2 hp3 hC b0
  have q1 : ¬ 9223372036854775807 < 3 + s1.length := by omega
  have q2 : ¬ 9223372036854775804 < s1.length := by omega
  have L1 := Lib.hid l1
  have M2 : s2.length ≤ 4 := by omega
  have M3 : s3.length ≤ 4 := by omega
  have M4 : s4.length ≤ 4 := by omega
  have M5 : s5.length ≤ 4 := by omega
  have M6 : s6.length ≤ 4 := by omega
  have M7 : s7.length ≤ 4 := by omega
  have M8 : s8.length ≤ 4 := by omega
  have M9 : s9.length ≤ 4 := by omega
  have M10 : s10.length ≤ 4 := by omega
  clear l1 l2 l3 l4 l5 l6 l7 l8 l9 l10
  obtain ⟨LD, hl⟩ := some_LD
  have HLD := Lib.hid hl
  obtain ⟨w2, hw2⟩ : ∃ w2, w2 = w1.alloc (.cells #[.string ⟨#[32, 66, 67, 61]⟩, .string ⟨#[32, 68, 69, 61]⟩, .string ⟨#[32, 72, 76, 61]⟩] 9) := ⟨_, rfl⟩
  have hH : w1.heap.size = w.heap.size + 1 := by rw [hw1]; simp
  have hN : Blk w2 (w.heap.size + 1) 9 [.string ⟨#[32, 66, 67, 61]⟩, .string ⟨#[32, 68, 69, 61]⟩, .string ⟨#[32, 72, 76, 61]⟩] := by
    rw [← hH, hw2]
    exact Blk.new w1 _ _
  have hB2 : Below w1.heap.size w1 w2 := by rw [hw2]; exact (Below.refl _ w1).alloc (Nat.le_refl _) _
  have hR2 : w2.heap[w.heap.size]? = some (.cells C 24 (0, 0)) := row_keep hB2 (by have h := BR.out; unfold Blk at h; rw [← HC.out] at h; exact h)
  have H2 : Hid (HeldN LD w2 w.heap.size (w.heap.size + 1) C r w2) := ⟨Below.refl _ _, ⟨hN.cell 0, hN.cell 1, hN.cell 2⟩, hR2, LD_of hl HSZ.out hR2⟩
  have HB2 := Lib.hid (HB0.out.trans (hB2.mono (by omega)))
  have HW2 := Lib.hid hw2
  have hN3 : ∀ u : World, (loadVar 24 ⟨w.heap.size, 0, none⟩).run Try.prog u = LD w.heap.size u := fun u => HLD.out _ u
  simp [go_sem, loadVar] at hN3
  have HN3 := Lib.hid hN3
  have HW1 := Lib.hid hw1
  clear hw1 hw2 hH hN hB2 hR2 hl hN3
  go_enter Try.func16, Try.ntmps16
  go_wp2_with (first
    | (go_at_call 44; rw [HE.out]; refine (S1.out _).mono ?_; rintro e w' ⟨rfl, rfl⟩))
  rw [← HW1.out, ← HW2.out]
  clear c0 c1 q1 q2
  go_loopw [3, 5] (fun t i wr => ∃ (k : Nat) (B : ByteArray), k ≤ 3 ∧ i = .int .i64 k ∧ t = .string B ∧ Hid (B = ⟨(pre k).toArray⟩) ∧ B.size ≤ 10 + 10 * k ∧ Hid (HeldN LD w2 w.heap.size (w.heap.size + 1) C r wr)) (fun _ i _ => 3 - (intOf i).toNat)
  case atStart => exact ⟨0, _, by omega, rfl, rfl, by show _ = _; rw [P0'.out, ← app_data], by rw [ByteArray.size_append']; simp [ByteArray.size]; have := L1.out; omega, H2⟩
  case round =>
    obtain ⟨k, B, hk, rfl, rfl, HBk, hB, h9⟩ := hrel
    have kk : k = 0 ∨ k = 1 ∨ k = 2 ∨ k = 3 := by omega
    rcases kk with rfl | rfl | rfl | rfl
    · have g1 : ¬ 9223372036854775803 < B.size := by omega
      have g2 : ¬ 9223372036854775807 < B.size + 4 + s2.length := by omega
      have g3 : ¬ 9223372036854775807 < B.size + 4 := by omega
      have g4 : IntKind.i64.wrap (r.b * 256 + r.c) = r.b * 256 + r.c := by rw [IntKind.wrap_i64]; omega
      have a1 : ∀ u : World, (Op.stringOp .add B ⟨#[32, 66, 67, 61]⟩).run Try.prog u = .ok (.string (B ++ ⟨#[32, 66, 67, 61]⟩)) u := fun u => run_string_add_sum u _ _ (by show B.size + 4 ≤ _; omega)
      have a2 : ∀ u : World, (Op.stringOp .add (B ++ ⟨#[32, 66, 67, 61]⟩) ⟨s2.toArray⟩).run Try.prog u = .ok (.string (B ++ ⟨#[32, 66, 67, 61]⟩ ++ ⟨s2.toArray⟩)) u := fun u => run_string_add_sum u _ _ (by rw [ByteArray.size_append']; show B.size + 4 + s2.length ≤ _; omega)
      have hN3 := HN3.out
      have h9 := h9.out
      unfold HeldN at h9
      go_wp2_with fail
      go_region_held3 (fun w' => Below w2.heap.size w2 w' ∧ (w'.cell? ⟨w.heap.size + 1, 0, none⟩ = some (.string ⟨#[32, 66, 67, 61]⟩) ∧ w'.cell? ⟨w.heap.size + 1, 1, none⟩ = some (.string ⟨#[32, 68, 69, 61]⟩) ∧ w'.cell? ⟨w.heap.size + 1, 2, none⟩ = some (.string ⟨#[32, 72, 76, 61]⟩)) ∧ w'.heap[w.heap.size]? = some (.cells C 24 (0, 0)) ∧ LD w.heap.size w' = .ok (.agg C) w')
        (first | assumption | (refine HeldN.drew (r := r) HLD.out HSZ.out ?_; assumption) | exact HeldN.below (r := r) HLD.out HSZ.out ‹Below _ _ _› ‹_›)
        (first
          | (go_at_call 22; (with_reducible refine (HP.out 0 _ P0.out _).mono ?_); rintro e w6 ⟨rfl, hb6⟩)
          | (go_at_call 44; (with_reducible refine (S2.out _).mono ?_); rintro e w7 ⟨rfl, rfl⟩))
      rename_i hS9
      go_wp2_with fail
      go_roundw
      case rel => exact ⟨1, _, by omega, by go_num, rfl, by show _ = _; rw [HBk.out, P1'.out, ← app_data, ← app_data], by rw [ByteArray.size_append', ByteArray.size_append']; show B.size + 4 + s2.length ≤ _; omega, hS9⟩
      case measure => simp [intOf]
    · have g1 : ¬ 9223372036854775803 < B.size := by omega
      have g2 : ¬ 9223372036854775807 < B.size + 4 + s3.length := by omega
      have g3 : ¬ 9223372036854775807 < B.size + 4 := by omega
      have g4 : IntKind.i64.wrap (r.d * 256 + r.e) = r.d * 256 + r.e := by rw [IntKind.wrap_i64]; omega
      have a1 : ∀ u : World, (Op.stringOp .add B ⟨#[32, 68, 69, 61]⟩).run Try.prog u = .ok (.string (B ++ ⟨#[32, 68, 69, 61]⟩)) u := fun u => run_string_add_sum u _ _ (by show B.size + 4 ≤ _; omega)
      have a2 : ∀ u : World, (Op.stringOp .add (B ++ ⟨#[32, 68, 69, 61]⟩) ⟨s3.toArray⟩).run Try.prog u = .ok (.string (B ++ ⟨#[32, 68, 69, 61]⟩ ++ ⟨s3.toArray⟩)) u := fun u => run_string_add_sum u _ _ (by rw [ByteArray.size_append']; show B.size + 4 + s3.length ≤ _; omega)
      have hN3 := HN3.out
      have h9 := h9.out
      unfold HeldN at h9
      go_wp2_with fail
      go_region_held3 (fun w' => Below w2.heap.size w2 w' ∧ (w'.cell? ⟨w.heap.size + 1, 0, none⟩ = some (.string ⟨#[32, 66, 67, 61]⟩) ∧ w'.cell? ⟨w.heap.size + 1, 1, none⟩ = some (.string ⟨#[32, 68, 69, 61]⟩) ∧ w'.cell? ⟨w.heap.size + 1, 2, none⟩ = some (.string ⟨#[32, 72, 76, 61]⟩)) ∧ w'.heap[w.heap.size]? = some (.cells C 24 (0, 0)) ∧ LD w.heap.size w' = .ok (.agg C) w')
        (first | assumption | (refine HeldN.drew (r := r) HLD.out HSZ.out ?_; assumption) | exact HeldN.below (r := r) HLD.out HSZ.out ‹Below _ _ _› ‹_›)
        (first
          | (go_at_call 22; (with_reducible refine (HP.out 1 _ P1.out _).mono ?_); rintro e w6 ⟨rfl, hb6⟩)
          | (go_at_call 44; (with_reducible refine (S3.out _).mono ?_); rintro e w7 ⟨rfl, rfl⟩))
      rename_i hS9
      go_wp2_with fail
      go_roundw
      case rel => exact ⟨2, _, by omega, by go_num, rfl, by show _ = _; rw [HBk.out, P2'.out, ← app_data, ← app_data], by rw [ByteArray.size_append', ByteArray.size_append']; show B.size + 4 + s3.length ≤ _; omega, hS9⟩
      case measure => simp [intOf]
    · have g1 : ¬ 9223372036854775803 < B.size := by omega
      have g2 : ¬ 9223372036854775807 < B.size + 4 + s4.length := by omega
      have g3 : ¬ 9223372036854775807 < B.size + 4 := by omega
      have g4 : IntKind.i64.wrap (r.h * 256 + r.l) = r.h * 256 + r.l := by rw [IntKind.wrap_i64]; omega
      have a1 : ∀ u : World, (Op.stringOp .add B ⟨#[32, 72, 76, 61]⟩).run Try.prog u = .ok (.string (B ++ ⟨#[32, 72, 76, 61]⟩)) u := fun u => run_string_add_sum u _ _ (by show B.size + 4 ≤ _; omega)
      have a2 : ∀ u : World, (Op.stringOp .add (B ++ ⟨#[32, 72, 76, 61]⟩) ⟨s4.toArray⟩).run Try.prog u = .ok (.string (B ++ ⟨#[32, 72, 76, 61]⟩ ++ ⟨s4.toArray⟩)) u := fun u => run_string_add_sum u _ _ (by rw [ByteArray.size_append']; show B.size + 4 + s4.length ≤ _; omega)
      have hN3 := HN3.out
      have h9 := h9.out
      unfold HeldN at h9
      go_wp2_with fail
      go_region_held3 (fun w' => Below w2.heap.size w2 w' ∧ (w'.cell? ⟨w.heap.size + 1, 0, none⟩ = some (.string ⟨#[32, 66, 67, 61]⟩) ∧ w'.cell? ⟨w.heap.size + 1, 1, none⟩ = some (.string ⟨#[32, 68, 69, 61]⟩) ∧ w'.cell? ⟨w.heap.size + 1, 2, none⟩ = some (.string ⟨#[32, 72, 76, 61]⟩)) ∧ w'.heap[w.heap.size]? = some (.cells C 24 (0, 0)) ∧ LD w.heap.size w' = .ok (.agg C) w')
        (first | assumption | (refine HeldN.drew (r := r) HLD.out HSZ.out ?_; assumption) | exact HeldN.below (r := r) HLD.out HSZ.out ‹Below _ _ _› ‹_›)
        (first
          | (go_at_call 22; (with_reducible refine (HP.out 2 _ P2.out _).mono ?_); rintro e w6 ⟨rfl, hb6⟩)
          | (go_at_call 44; (with_reducible refine (S4.out _).mono ?_); rintro e w7 ⟨rfl, rfl⟩))
      rename_i hS9
      go_wp2_with fail
      go_roundw
      case rel => exact ⟨3, _, by omega, by go_num, rfl, by show _ = _; rw [HBk.out, P3'.out, ← app_data, ← app_data], by rw [ByteArray.size_append', ByteArray.size_append']; show B.size + 4 + s4.length ≤ _; omega, hS9⟩
      case measure => simp [intOf]
    · have h9 := h9.out
      have hBe := HB2.out.trans (h9.1.mono HB2.out.size)
      have hbr : Blk wr w.heap.size 24 r.cells := by have h := h9.2.2.1; rw [HC.out] at h; exact h
      have c19 : wr.cell? ⟨w.heap.size, 19, none⟩ = some (.int .u16 r.ix) := hbr.cell 19
      have c20 : wr.cell? ⟨w.heap.size, 20, none⟩ = some (.int .u16 r.iy) := hbr.cell 20
      have c21 : wr.cell? ⟨w.heap.size, 21, none⟩ = some (.int .u16 r.sp) := hbr.cell 21
      have c22 : wr.cell? ⟨w.heap.size, 22, none⟩ = some (.int .u16 r.pc) := hbr.cell 22
      have c16 : wr.cell? ⟨w.heap.size, 16, none⟩ = some (.int .u8 r.i) := hbr.cell 16
      have c17 : wr.cell? ⟨w.heap.size, 17, none⟩ = some (.int .u8 r.r) := hbr.cell 17
      have HBE := Lib.hid hBe
      clear h9 hBe hbr
      have g1 : ¬ 9223372036854775803 < B.size := by omega
      have g2 : ¬ 9223372036854775807 < B.size + 4 + s5.length := by omega
      have g3 : ¬ 9223372036854775803 < B.size + 4 + s5.length := by omega
      have g4 : ¬ 9223372036854775807 < B.size + 4 + s5.length + 4 + s6.length := by omega
      have g5 : ¬ 9223372036854775803 < B.size + 4 + s5.length + 4 + s6.length := by omega
      have g6 : ¬ 9223372036854775807 < B.size + 4 + s5.length + 4 + s6.length + 4 + s7.length := by omega
      have g7 : ¬ 9223372036854775803 < B.size + 4 + s5.length + 4 + s6.length + 4 + s7.length := by omega
      have g8 : ¬ 9223372036854775807 < B.size + 4 + s5.length + 4 + s6.length + 4 + s7.length + 4 + s8.length := by omega
      go_wp2_with fail
      go_quiet ((first
        | (go_at_call_of 44 r.ix; exact Calls.quiet_of_same (same_of (S5.out _)))
        | (go_at_call_of 44 r.iy; exact Calls.quiet_of_same (same_of (S6.out _)))
        | (go_at_call_of 44 r.sp; exact Calls.quiet_of_same (same_of (S7.out _)))
        | (go_at_call_of 44 r.pc; exact Calls.quiet_of_same (same_of (S8.out _)))))
      go_wp2_with fail
      obtain ⟨B2, hB2⟩ : ∃ B2 : ByteArray, B2 = B ++ ⟨#[32, 73, 88, 61]⟩ ++ ⟨s5.toArray⟩ ++ ⟨#[32, 73, 89, 61]⟩ ++ ⟨s6.toArray⟩ ++ ⟨#[32, 83, 80, 61]⟩ ++ ⟨s7.toArray⟩ ++ ⟨#[32, 80, 67, 61]⟩ ++ ⟨s8.toArray⟩ := ⟨_, rfl⟩
      rw [← hB2]
      have hs2 : B2.size ≤ 100 := by
        rw [hB2]
        simp only [ByteArray.size_append']
        show B.size + 4 + s5.length + 4 + s6.length + 4 + s7.length + 4 + s8.length ≤ 100
        omega
      have HFF : Hid (B2 ++ ⟨#[32, 73, 61]⟩ ++ ⟨s9.toArray⟩ ++ ⟨#[32, 82, 61]⟩ ++ ⟨s10.toArray⟩ = ⟨r.show.toArray⟩) := by
        show _ = _
        rw [hB2, HBk.out, HSF.out]
        simp only [← app_data]
      clear hB2 g1 g2 g3 g4 g5 g6 g7 g8
      have g1 : ¬ 9223372036854775804 < B2.size := by omega
      have g0 : ¬ 9223372036854775807 < B2.size + 3 := by omega
      have g2 : ¬ 9223372036854775807 < B2.size + 3 + s9.length := by omega
      have g3 : ¬ 9223372036854775804 < B2.size + 3 + s9.length := by omega
      have g4 : ¬ 9223372036854775807 < B2.size + 3 + s9.length + 3 := by omega
      have g5 : ¬ 9223372036854775807 < B2.size + 3 + s9.length + 3 + s10.length := by omega
      go_quiet ((first
        | (go_at_call_of 44 r.i; exact quiet_more (same_of (S9.out _)))
        | (go_at_call_of 44 r.r; exact quiet_more (same_of (S10.out _)))))
      go_wp2_with fail
      go_ret
      exact ⟨by rw [← HFF.out]; rfl, by first | exact Below_drewN HBE.out _ | exact Below_drewN (Below_drewN HBE.out _) _⟩
end Go.Proofs.Ytfhegloobldokaa
