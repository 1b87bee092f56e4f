/- The laws of stage 6: lives; RegsNils. -/
import Derived.Test.YtfhegloobldokaaRegD
namespace Go.Proofs.Ytfhegloobldokaa
set_option linter.unusedSimpArgs false
set_option linter.unusedVariables false
open Go.RowKit
def Yes (w : World) (e : Ending) (w' : World) : Prop := e = .returned (.bool true) ∧ Below w.heap.size w w'
/-- no register has anything -/
def rz : Rg := ⟨0, 0, 0, 0, 0, 0, 0, 0, 0, 0, 0, 0, 0, 0, 0, 0, 0, 0, 0, 0, 0, 0, 0, 0, false, false, false, false, 0, 0⟩
theorem rz_ok : rz.Ok := by constructor <;> exact ⟨by decide, by decide⟩
theorem rz_show : rz.show = [65, 70, 61, 48, 48, 48, 48, 32, 66, 67, 61, 48, 48, 48, 48, 32, 68, 69, 61, 48, 48, 48, 48, 32, 72, 76, 61, 48, 48, 48, 48, 32, 73, 88, 61, 48, 48, 48, 48, 32, 73, 89, 61, 48, 48, 48, 48, 32, 83, 80, 61, 48, 48, 48, 48, 32, 80, 67, 61, 48, 48, 48, 48, 32, 73, 61, 48, 48, 32, 82, 61, 48, 48] := by decide +kernel
def lifeS : List UInt8 := [65, 70, 61, 48, 48, 48, 48, 32, 66, 67, 61, 48, 48, 48, 48, 32, 68, 69, 61, 48, 48, 48, 48, 32, 72, 76, 61, 48, 48, 48, 48, 32, 73, 88, 61, 48, 48, 48, 48, 32, 73, 89, 61, 48, 48, 48, 48, 32, 83, 80, 61, 48, 48, 48, 48, 32, 80, 67, 61, 48, 48, 48, 48, 32, 73, 61, 48, 48, 32, 82, 61, 48, 48]
theorem show_zero (g : Nat) (w : World) (s : List UInt8) (hs : s = lifeS) (hb : Blk w g 24 rz.cells) :
    Calls Try.prog 15 #[.pointer (some ⟨g, 0, none⟩)] w fun e w' => e = .returned (.string ⟨s.toArray⟩) ∧ Below w.heap.size w w' := by
  have h := show_any rz _ g w hb rz_ok
  rw [rz_show] at h
  rw [hs]
  exact h
theorem new_zero (w : World) : Blk (w.alloc (.cells #[.int .u8 0, .int .u8 0, .int .u8 0, .int .u8 0, .int .u8 0, .int .u8 0, .int .u8 0, .int .u8 0, .int .u8 0, .int .u8 0, .int .u8 0, .int .u8 0, .int .u8 0, .int .u8 0, .int .u8 0, .int .u8 0, .int .u8 0, .int .u8 0, .int .u8 0, .int .u16 0, .int .u16 0, .int .u16 0, .int .u16 0, .int .u16 0, .bool false, .bool false, .bool false, .bool false, .int .u8 0, .int .u8 0] 24)) w.heap.size 24 rz.cells := Blk.new w _ _
/-- Show of registers just made -/
def ShowNew (s : List UInt8) : Prop := ∀ w : World, Calls Try.prog 15 #[.pointer (some ⟨w.heap.size, 0, none⟩)] (w.alloc (.cells #[.int .u8 0, .int .u8 0, .int .u8 0, .int .u8 0, .int .u8 0, .int .u8 0, .int .u8 0, .int .u8 0, .int .u8 0, .int .u8 0, .int .u8 0, .int .u8 0, .int .u8 0, .int .u8 0, .int .u8 0, .int .u8 0, .int .u8 0, .int .u8 0, .int .u8 0, .int .u16 0, .int .u16 0, .int .u16 0, .int .u16 0, .int .u16 0, .bool false, .bool false, .bool false, .bool false, .int .u8 0, .int .u8 0] 24)) fun e w' => e = .returned (.string ⟨s.toArray⟩) ∧ Below w.heap.size w w'
theorem show_new (s : List UInt8) (hs : s = lifeS) : ShowNew s := fun w =>
  (show_zero w.heap.size _ s hs (new_zero w)).mono fun e w' ⟨h1, h2⟩ => ⟨h1, ((Below.refl _ w).alloc (Nat.le_refl _) _).trans (h2.mono (by simp))⟩
theorem infoRegs : (Try.prog.info? 24).map (·.size) = some 30 := by kernel_rfl
theorem zero_one : (#[.int .u8 0, .int .u8 0, .int .u8 0, .int .u8 0, .int .u8 0, .int .u8 0, .int .u8 0, .int .u8 0, .int .u8 0, .int .u8 0, .int .u8 0, .int .u8 0, .int .u8 0, .int .u8 0, .int .u8 0, .int .u8 0, .int .u8 0, .int .u8 0, .int .u8 0, .int .u16 0, .int .u16 0, .int .u16 0, .int .u16 0, .int .u16 0, .bool false, .bool false, .bool false, .bool false, .int .u8 0, .int .u8 0] : Array Value).all (·.oneCell') = true := by kernel_rfl
set_option maxRecDepth 100000 in
set_option maxHeartbeats 1000000 in
theorem lives06 (w : World) : Calls Try.prog 18 #[] w (Yes w) := by
  obtain ⟨s, hs⟩ : ∃ s, s = lifeS := ⟨_, rfl⟩
  have HS := Lib.hid (show_new s hs)
  have HSS := Lib.hid (show (s == lifeS) = true from by rw [hs]; decide)
  clear hs
  go_enter Try.func18, Try.ntmps18
  go_wp2_with (first
    | (refine wpList_store_rowTo rfl 24 (.tmp 1) (.tmp 2) rfl rfl w.heap.size _ rfl rfl 24 _ (heap_alloc_new w _) infoRegs rfl zero_one ?_; rw [World.setRow_alloc_new])
    | (go_at_call 15; refine (HS.out w).mono ?_; rintro e w' ⟨rfl, hb⟩; have hss := HSS.out))
  go_ret
  refine ⟨?_, hb⟩
  show Ending.returned (.bool (s == lifeS)) = _
  rw [hss]
end Go.Proofs.Ytfhegloobldokaa
