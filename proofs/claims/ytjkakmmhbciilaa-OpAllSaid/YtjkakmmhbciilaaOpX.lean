/- The law OpReads: its own body. -/
import Derived.Test.YtjkakmmhbciilaaOpW
import Derived.Deep.RegionHeld3
namespace Go.Proofs.Ytjkakmmhbciilaa
set_option linter.unusedSimpArgs false
set_option linter.unusedVariables false
open Go.RowKit
/-- two blocks of one instruction, in a world that has grown -/
def Six2 (W : World) (g h : Nat) (s i c d m ln : Int) (w : World) : Prop := Below W.heap.size W w ∧ (w.cell? ⟨g, 0, none⟩ = some (.int .i64 s) ∧ w.cell? ⟨g, 1, none⟩ = some (.int .i64 i) ∧ w.cell? ⟨g, 2, none⟩ = some (.int .u8 c) ∧ w.cell? ⟨g, 3, none⟩ = some (.int .u8 d) ∧ w.cell? ⟨g, 4, none⟩ = some (.int .u16 m) ∧ w.cell? ⟨g, 5, none⟩ = some (.int .i64 ln)) ∧ (w.cell? ⟨h, 0, none⟩ = some (.int .i64 s) ∧ w.cell? ⟨h, 1, none⟩ = some (.int .i64 i) ∧ w.cell? ⟨h, 2, none⟩ = some (.int .u8 c) ∧ w.cell? ⟨h, 3, none⟩ = some (.int .u8 d) ∧ w.cell? ⟨h, 4, none⟩ = some (.int .u16 m) ∧ w.cell? ⟨h, 5, none⟩ = some (.int .i64 ln))
theorem Six2.below {W w w' : World} {g h : Nat} {s i c d m ln : Int} (hb : Below w.heap.size w w') (x : Six2 W g h s i c d m ln w) : Six2 W g h s i c d m ln w' := by
  obtain ⟨hB, ⟨a0, a1, a2, a3, a4, a5⟩, b0, b1, b2, b3, b4, b5⟩ := x
  have k : ∀ (a : Addr) (v : Value), w.cell? a = some v → w'.cell? a = some v := fun a v hc => (hb.cell (block_lt_of_cell hc)).trans hc
  exact ⟨hB.trans (hb.mono hB.size), ⟨k _ _ a0, k _ _ a1, k _ _ a2, k _ _ a3, k _ _ a4, k _ _ a5⟩, k _ _ b0, k _ _ b1, k _ _ b2, k _ _ b3, k _ _ b4, k _ _ b5⟩
theorem Six2.drew {W w : World} {g h : Nat} {s i c d m ln : Int} (x : Six2 W g h s i c d m ln w) : Six2 W g h s i c d m ln w.drew := Six2.below (Below.refl _ w).drew x
set_option maxHeartbeats 1000000 in
theorem plain_same (s i c d m ln : Int) (w : World) : Calls Try.prog 11 #[.agg #[.int .i64 s, .int .i64 i, .int .u8 c, .int .u8 d, .int .u16 m, .int .i64 ln]] w fun e w' => e = .returned (.agg #[.int .i64 s, .int .i64 i, .int .u8 c, .int .u8 d, .int .u16 m, .int .i64 ln]) ∧ Below w.heap.size w w' := by
  go_enter Try.func11, Try.ntmps11
  go_wp2_with fail
  refine bodyPost_ret (v := .agg #[.int .i64 s, .int .i64 i, .int .u8 c, .int .u8 d, .int .u16 m, .int .i64 ln]) (by simp [results, Try.results11, go_sem]) rfl ⟨rfl, ?_⟩
  repeat (with_reducible refine Below.setCell ?_ (by simp) _)
  exact ((Below.refl _ _).alloc (Nat.le_refl _) _).alloc (by simp) _
/-- both readings, of any bytes, nil or not -/
theorem reads_both (A : Option Addr) (n cap : Nat) (l : List Int) (w : World) (hl : Ints w A .u8 l) (hn : l.length = n) (hb : ∀ x ∈ l, B8 x) (hcap : n ≤ cap) (hmax : cap ≤ 9223372036854775807) :
    Calls Try.prog 9 #[.slice A n cap] w (Reads (readS l) w) ∧ Calls Try.prog 10 #[.slice A n cap] w (Reads (readS l) w) := by
  by_cases k : n = 0
  · subst k
    have e : readS l = (In.z, false) := by unfold readS; rw [if_pos hn]
    rw [e]
    exact ⟨read_0 _ _ _, ref_0 _ _ _⟩
  · obtain ⟨ad, rfl, -, -, -⟩ := at_cell (j := 0) hl hn hb (by omega)
    exact ⟨read_any ad n cap l w ⟨hl, hn, hb, hcap, hmax⟩, refRead_any ad n cap l w ⟨hl, hn, hb, hcap, hmax⟩⟩
set_option maxHeartbeats 4000000 in
theorem opReads_any (A : Option Addr) (n cap : Nat) (l : List Int) (w : World) (hl : Ints w A .u8 l) (hn : l.length = n) (hb : ∀ x ∈ l, B8 x) (hcap : n ≤ cap) (hmax : cap ≤ 9223372036854775807) :
    Calls Try.prog 3 #[.slice A n cap] w (Yes w) := by
  have HL := Lib.hid lives07
  have h2 := fun (w' : World) (hB : Below w.heap.size w w') => reads_both A n cap l w' (hl.below hB) hn hb hcap hmax
  obtain ⟨R, hR⟩ : ∃ R, R = readS l := ⟨_, rfl⟩
  simp only [← hR] at h2
  obtain ⟨⟨s, i, c, d, m, ln⟩, ok⟩ := R
  have HR1 : Hid (∀ w', Below w.heap.size w w' → Calls Try.prog 9 #[.slice A n cap] w' (ReadsL s i c d m ln ok w')) := fun w' hB => (h2 w' hB).1
  have HR2 : Hid (∀ w', Below w.heap.size w w' → Calls Try.prog 10 #[.slice A n cap] w' (ReadsL s i c d m ln ok w')) := fun w' hB => (h2 w' hB).2
  have HP := Lib.hid (fun w => plain_same s i c d m ln w)
  clear h2 hR hl hn hb
  by_cases k : (1000 : Int) < n
  · go_enter Try.func3, Try.ntmps3
    go_wp2_with (first
      | (go_at_call 8; refine (HL.out _).mono ?_; rintro e w3 ⟨rfl, hb3⟩))
    go_ret
    exact ⟨rfl, hb3⟩
  go_enter Try.func3, Try.ntmps3
  go_wp2_with fail
  refine (HR1.out _ (Below.refl _ _)).mono ?_
  rintro e w1 ⟨rfl, hb1⟩
  have b1 : Blk (w1.alloc (.cells #[.int .i64 s, .int .i64 i, .int .u8 c, .int .u8 d, .int .u16 m, .int .i64 ln] 26)) w1.heap.size 26 [.int .i64 s, .int .i64 i, .int .u8 c, .int .u8 d, .int .u16 m, .int .i64 ln] := Blk.new w1 _ _
  have e1 : Below w.heap.size w (w1.alloc (.cells #[.int .i64 s, .int .i64 i, .int .u8 c, .int .u8 d, .int .u16 m, .int .i64 ln] 26)) := hb1.alloc hb1.size _
  have B1 := Lib.hid b1; have E1 := Lib.hid e1
  clear b1 e1 hb1
  go_wp2_with fail
  refine (HR2.out _ E1.out).mono ?_
  rintro e w2 ⟨rfl, hb2⟩
  have b2 := B1.out.below_ hb2
  have e2 := E1.out.trans (hb2.mono E1.out.size)
  clear hb2 B1 E1
  have b3 : Blk (w2.alloc (.cells #[.int .i64 s, .int .i64 i, .int .u8 c, .int .u8 d, .int .u16 m, .int .i64 ln] 29)) w2.heap.size 29 [.int .i64 s, .int .i64 i, .int .u8 c, .int .u8 d, .int .u16 m, .int .i64 ln] := Blk.new w2 _ _
  have b4 := b2.below_ ((Below.refl _ w2).alloc (Nat.le_refl _) (.cells #[.int .i64 s, .int .i64 i, .int .u8 c, .int .u8 d, .int .u16 m, .int .i64 ln] 29))
  have e4 := e2.alloc e2.size (.cells #[.int .i64 s, .int .i64 i, .int .u8 c, .int .u8 d, .int .u16 m, .int .i64 ln] 29)
  have h9 : Six2 w w1.heap.size w2.heap.size s i c d m ln (w2.alloc (.cells #[.int .i64 s, .int .i64 i, .int .u8 c, .int .u8 d, .int .u16 m, .int .i64 ln] 29)) := ⟨e4, six b4, six b3⟩
  clear b2 e2 b3 b4 e4
  go_wp2_with fail
  unfold Six2 at h9
  go_region_held3 (fun w' => Below w.heap.size w w' ∧ (w'.cell? ⟨w1.heap.size, 0, none⟩ = some (.int .i64 s) ∧ w'.cell? ⟨w1.heap.size, 1, none⟩ = some (.int .i64 i) ∧ w'.cell? ⟨w1.heap.size, 2, none⟩ = some (.int .u8 c) ∧ w'.cell? ⟨w1.heap.size, 3, none⟩ = some (.int .u8 d) ∧ w'.cell? ⟨w1.heap.size, 4, none⟩ = some (.int .u16 m) ∧ w'.cell? ⟨w1.heap.size, 5, none⟩ = some (.int .i64 ln)) ∧ (w'.cell? ⟨w2.heap.size, 0, none⟩ = some (.int .i64 s) ∧ w'.cell? ⟨w2.heap.size, 1, none⟩ = some (.int .i64 i) ∧ w'.cell? ⟨w2.heap.size, 2, none⟩ = some (.int .u8 c) ∧ w'.cell? ⟨w2.heap.size, 3, none⟩ = some (.int .u8 d) ∧ w'.cell? ⟨w2.heap.size, 4, none⟩ = some (.int .u16 m) ∧ w'.cell? ⟨w2.heap.size, 5, none⟩ = some (.int .i64 ln))) (first | assumption | (refine Six2.drew ?_; assumption) | exact Six2.below ‹Below _ _ _› ‹_›)
    (first
      | (go_at_call 11; refine (HP.out _).mono ?_; rintro e w3 ⟨rfl, hb3⟩)
      | (go_at_call 8; refine (HL.out _).mono ?_; rintro e w4 ⟨rfl, hb4⟩))
  all_goals
    rename_i hS9
    have hB9 := hS9.1
    clear hS9
    go_wp2_with fail
    go_ret
    exact ⟨rfl, hB9⟩
end Go.Proofs.Ytjkakmmhbciilaa
