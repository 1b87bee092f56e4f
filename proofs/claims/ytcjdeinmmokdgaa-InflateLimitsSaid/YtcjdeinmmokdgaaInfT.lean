/- inflate: the chapter's example, whole; lives. -/
import Derived.Test.YtcjdeinmmokdgaaInfR
import Derived.Test.YtcjdeinmmokdgaaStr
import Derived.Deep.QuietTactic
import Derived.BigQuiet
namespace Go.Proofs.Ytcjdeinmmokdgaa
set_option linter.unusedSimpArgs false
set_option linter.unusedVariables false
open Go.RowKit
set_option maxRecDepth 100000 in
set_option maxHeartbeats 8000000 in
theorem inflate_ex (A : Option Addr) (c : Nat) (w : World) (h : Ints w A .u8 exB) (hc : 3 ≤ c) (hA : ∀ ad, A = some ad → ad.block < w.heap.size) :
    Calls Try.prog 8 #[.slice A 3 c, .int .i64 9] w (InfP (.ok [97] 3) w) := by
  have HRD := Lib.hid (read_any A 3 c exB w h (by decide) rfl (by omega) hc)
  have HA := Lib.hid hA
  clear h hA
  go_enter Try.func8, Try.ntmps8
  go_wp2_with (first
    | (go_at_call 13; refine HRD.out.mono ?_; rintro e w1 ⟨rfl, hb1, hg1⟩; have HB1 := Lib.hid hb1; have HG1 := Lib.hid hg1; clear hb1 hg1))
  have HU1 : Hid (Un (w1.alloc (.cells #[.pointer (some ⟨w.heap.size, 0, none⟩), .slice none 0 0, .int .i64 9] 36)) w1.heap.size w.heap.size A c exB 0 (.slice none 0 0) [] 9 (w1.heap.size + 1)) := by
    have hlt := HB1.out.1.lt
    exact ⟨Blk.new w1 _ [_, _, _], HB1.out.below ((Below.refl _ w1).alloc (Nat.le_refl _) _), World.ownsRow_nil _ _ _ _, by omega, by omega, by omega, fun ad e => by
      have := HA.out ad e
      have := HG1.out.size
      exact ⟨by omega, by omega, by omega⟩, by simp⟩
  have HBE : Hid (Below w.heap.size w (w1.alloc (.cells #[.pointer (some ⟨w.heap.size, 0, none⟩), .slice none 0 0, .int .i64 9] 36))) := HG1.out.alloc HG1.out.size _
  have hUW := HU1.out.hB
  have hRlt : w.heap.size < w1.heap.size := HB1.out.1.lt
  have HRW := Lib.hid hRlt
  clear hUW hRlt
  go_loopg [] 1 (fun g wr => ∃ v, Un wr w1.heap.size w.heap.size A c exB 0 v [] 9 (w1.heap.size + 1) ∧ KeptU (w1.heap.size + 1) w1.heap.size w.heap.size (w1.alloc (.cells #[.pointer (some ⟨w.heap.size, 0, none⟩), .slice none 0 0, .int .i64 9] 36)) wr)
  case atStart => exact ⟨_, HU1.out, KeptU.refl _ _ _ _⟩
  case round =>
    obtain ⟨v, hu, hk⟩ := hrel
    have HK0 : Hid (Below w.heap.size w wr) := hk.below HBE.out (by have := HRW.out; omega) (Nat.le_refl _) (by have := HRW.out; omega) HBE.out.size
    have HU := Lib.hid hu
    clear hu hk
    have HT1 := Lib.hid (utake_good w1.heap.size w.heap.size A c exB 0 1 v [] 9 _ wr HU.out (by omega) (by decide) 1 (by decide))
    have HT2 := Lib.hid (fun u (hu : Un u w1.heap.size w.heap.size A c exB 1 v [] 9 (w1.heap.size + 1)) => utake_good w1.heap.size w.heap.size A c exB 1 2 v [] 9 _ u hu (by omega) (by decide) 1 (by decide))
    have HS := Lib.hid (fun u (hu : Un u w1.heap.size w.heap.size A c exB 3 v [] 9 (w1.heap.size + 1)) => block_ex w1.heap.size w.heap.size A c v _ u hu)
    go_wp2_with (first
      | (go_at_call 15; refine (HS.out _ HU3.out).mono ?_; rintro e w4 ⟨rfl, ⟨v4, hu4⟩, hg4⟩; have HU4 := Lib.hid hu4; have HK4 : Hid (KeptU (w1.heap.size + 1) w1.heap.size w.heap.size wr w4) := (KeptU.of_grown HG3.out).trans hg4; have u41 : w4.cell? ⟨w1.heap.size, 1, none⟩ = some v4 := hu4.blk.cell 1; have u40 : w4.cell? ⟨w1.heap.size, 0, none⟩ = some (.pointer (some ⟨w.heap.size, 0, none⟩)) := hu4.blk.cell 0; clear hu4 hg4)
      | (go_at_call 14; refine (HT2.out _ HU2.out).mono ?_; rintro e w3 ⟨rfl, hu3, hg3⟩; have HU3 := Lib.hid hu3; have HG3 := Lib.hid (grownBy_trans HG2.out hg3); clear hu3 hg3)
      | (go_at_call 14; refine HT1.out.mono ?_; rintro e w2 ⟨rfl, hu2, hg2⟩; have HU2 := Lib.hid hu2; have HG2 := Lib.hid hg2; clear hu2 hg2))
    go_quiet ((go_at_call 16; exact Calls.quiet_of_same ((at_any w.heap.size A c exB 18 _ (HU4.out.bits.drewN _)).mono fun e w' ⟨h1, h2⟩ => ⟨h1, h2.symm⟩)))
    go_wp2
    go_ret3
    exact ⟨Below_drewN (HK4.out.below HK0.out (by have := HRW.out; omega) (Nat.le_refl _) (by have := HRW.out; omega) HK0.out.size) _, v4, rfl, own_base HU4.out.own (by have := HRW.out; omega)⟩
def Yes (w : World) (e : Ending) (w' : World) : Prop := e = .returned (.bool true) ∧ Below w.heap.size w w'
theorem txt_97 : txt8 [97] = ⟨#[97]⟩ := by rfl
set_option maxHeartbeats 4000000 in
theorem lives15 (w : World) : Calls Try.prog 7 #[] w (Yes w) := by
  have hi : Ints (w.alloc (.cells #[.int .u8 75, .int .u8 4, .int .u8 0] 5)) (some ⟨w.heap.size, 0, none⟩) .u8 exB := ints_of_blk0 (Blk.new w 5 [.int .u8 75, .int .u8 4, .int .u8 0])
  have HI := Lib.hid hi
  clear hi
  go_enter Try.func7, Try.ntmps7
  go_wp2_with (first
    | (go_at_call 8
       refine (inflate_ex (some ⟨w.heap.size, 0, none⟩) 3 _ HI.out (by omega) (fun ad e => by injection e with e; rw [← e]; simp)).mono ?_
       rintro e w1 ⟨hb1, v1, rfl, ho1⟩
       obtain ⟨K1, c1, rfl, hc1, -⟩ := own_slice3 ho1
       have hcv : (convert 22 9 (.slice K1 1 c1)).run Try.prog w1 = .ok (.string ⟨#[97]⟩) w1 := conv_ints w1 K1 1 c1 [97] hc1 rfl
       simp only [List.length_cons, List.length_nil, Nat.zero_add]
       have HB1 : Hid (Below w.heap.size w w1) := ((Below.refl _ w).alloc (Nat.le_refl _) _).trans (hb1.mono (by simp))
       clear hb1 ho1 hc1))
  go_ret
  exact ⟨rfl, HB1.out⟩
end Go.Proofs.Ytcjdeinmmokdgaa
