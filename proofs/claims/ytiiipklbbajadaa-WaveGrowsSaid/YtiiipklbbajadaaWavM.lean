/- wave: the example. -/
import Derived.Test.YtiiipklbbajadaaWavL
namespace Go.Proofs.Ytiiipklbbajadaa
set_option linter.unusedSimpArgs false
set_option linter.unusedVariables false
open Go.RowKit
def Yes (w : World) (e : Ending) (w' : World) : Prop := e = .returned (.bool true) ∧ Below w.heap.size w w'
theorem ints_of_blk0' {w : World} {g : Nat} {t : TypeId} {k : IntKind} {l : List Int} (h : Blk w g t (l.map (.int k))) : Ints w (some ⟨g, 0, none⟩) k l := fun i v hi => ⟨_, rfl, by rw [Addr.add_mid, Nat.zero_add]; exact (h.cell i).trans hi⟩
def exWB : WB := ⟨16, 0, 0, 0, 0, 0, 0, 0, 0, 0, 0, 0⟩
set_option maxRecDepth 100000 in
set_option maxHeartbeats 2000000 in
theorem lives23 (w : World) : Calls Try.prog 6 #[] w (Yes w) := by
  have hi : Ints (w.alloc (.cells #[.int .u8 255] 5)) (some ⟨w.heap.size, 0, none⟩) .u8 [255] := ints_of_blk0' (Blk.new w 5 [.int .u8 255])
  obtain ⟨w1, hw1⟩ : ∃ w1, w1 = w.alloc (.cells #[.int .u8 255] 5) := ⟨_, rfl⟩
  rw [← hw1] at hi
  have HW1 := Lib.hid hw1
  have HB1 : Hid (Below w.heap.size w w1) := by show Below _ _ _; rw [hw1]; exact below_al1 w _
  have hs1 : w1.heap.size = w.heap.size + 1 := by rw [hw1]; simp
  have HN : Hid (Calls Try.prog 7 #[.agg #[.int .i64 16, .int .i64 0, .int .i64 0, .int .i64 0, .int .i64 0, .int .i64 0, .int .i64 0, .int .i64 0, .int .i64 0, .int .i64 0, .int .i64 0, .int .i64 0, .slice (some ⟨w.heap.size, 0, none⟩) 1 1, .slice none 0 0, .slice none 0 0, .slice none 0 0, .slice none 0 0, .slice none 0 0]] w1 (NewP 0 0 0 (WvPost w1 (exWB.usual [255]) nilS nilS nilS nilS nilS (some ⟨w.heap.size, 0, none⟩) 1 1 [255] (ps17 (exWB.usual [255]) 1 [255])) w1)) :=
    Lib.hid (new16 exWB nilS nilS nilS nilS nilS one5_nil (some ⟨w.heap.size, 0, none⟩) 1 1 [255] w1 hi rfl (by intro x hx; simp at hx; omega) (by decide) rfl)
  clear hi hw1
  have hv : newV (w1.heap.size + 1) 0 0 0 = .tuple #[.pointer (some ⟨w1.heap.size + 1, 0, none⟩), .int .i64 0] := rfl
  obtain ⟨g, hg⟩ : ∃ g, g = w1.heap.size + 1 := ⟨_, rfl⟩
  rw [← hg] at hv
  have HG := Lib.hid hg
  have HL : Hid (Wv.len (ps17 (exWB.usual [255]) 1 [255]) = 3241) := by show _ = _; rfl
  have HAT : Hid (Wv.at_ (ps17 (exWB.usual [255]) 1 [255]) 3240 = some (0, 1710)) := by show _ = _; rfl
  clear hg
  have hav : atV (some (0, 1710)) = .tuple #[.agg #[.int .i64 0, .int .i64 1710], .bool true] := rfl
  go_enter Try.func6, Try.ntmps6
  go_upto_region 1 with fail
  go_wp2_with (first
    | (go_at_call 8
       refine (wv_len g _ _ (HR3.out.below (below_al1 w3 _)).parts HR3.out.few).mono ?_; rintro e w4 ⟨rfl, hb4⟩; rw [HL.out]; have HE := Lib.hid ((Blk.new w3 37 [.int .i64 0, .int .i64 1710]).below_ hb4); have e0 := HE.out.cell 0; have e1 := HE.out.cell 1; have HB5 : Hid (Below w3.heap.size w3 w4) := Lib.hid ((below_al1 w3 _).trans (hb4.mono (by simp))); clear hb4)
    | (go_at_call 9
       refine (wv_at g _ 3240 _ HR2.out.parts HR2.out.few HR2.out.told (by decide) (by decide)).mono ?_; rintro e w3 ⟨rfl, hb3⟩; rw [HAT.out, hav]; have HR3 := Lib.hid (HR2.out.below hb3); have HB3 := Lib.hid hb3; clear hb3)
    | (go_at_call 7
       rw [← HW1.out]
       refine HN.out.mono ?_; rintro e w2 ⟨rfl, hp2, hb2⟩; rw [← HG.out, hv]; have HR2 : Hid (WvR w2 g (ps17 (exWB.usual [255]) 1 [255])) := Lib.hid (by rw [HG.out]; exact WvS.ready17 hp2 (by decide) (by decide) (by decide)); have HB2 := Lib.hid (HB1.out.trans (hb2.mono HB1.out.size)); clear hp2 hb2))
  go_ret
  exact ⟨rfl, HB2.out.trans ((HB3.out.mono HB2.out.size).trans (HB5.out.mono (Nat.le_trans HB2.out.size HB3.out.size)))⟩
end Go.Proofs.Ytiiipklbbajadaa
