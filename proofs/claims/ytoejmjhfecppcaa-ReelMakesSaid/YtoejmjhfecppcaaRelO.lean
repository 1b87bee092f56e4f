/- Reel in general: the start of reel.long. -/
import Derived.Test.YtoejmjhfecppcaaRelN
namespace Go.Proofs.Ytoejmjhfecppcaa
set_option linter.unusedSimpArgs false
set_option linter.unusedVariables false
open Go.RowKit Go.Sort
theorem LgS.start (W : World) : LgS W ((((((W.alloc (.cells zeroBlk.toArray 87)).alloc (.cells #[.int .i64 65535] 3)).alloc (.cells #[.int .i64 65535] 3)).alloc (.cells #[.int .i64 0, .slice (some ⟨W.heap.size + 1, 0, none⟩) 1 1, .int .i64 1, .slice (some ⟨W.heap.size + 1 + 1, 0, none⟩) 1 1] 113)).alloc (.cells #[.int .i64 0, .int .i64 1] 115)).alloc (.cells (lgCells 0 (.slice (some ⟨W.heap.size + 1 + 1 + 1, 0, none⟩) 2 2) (.slice (some ⟨W.heap.size + 1 + 1 + 1 + 1, 0, none⟩) 1 1)).toArray 87))
    (W.heap.size + 1 + 1 + 1 + 1 + 1) 0 (.slice (some ⟨W.heap.size + 1 + 1 + 1, 0, none⟩) 2 2) (.slice (some ⟨W.heap.size + 1 + 1 + 1 + 1, 0, none⟩) 1 1) [(0, [65535]), (1, [65535])] [(0, 1)] := by
  obtain ⟨a, ha⟩ : ∃ a, a = W.alloc (.cells zeroBlk.toArray 87) := ⟨_, rfl⟩
  have sa : a.heap.size = W.heap.size + 1 := by rw [ha]; simp
  have fa : Blk a W.heap.size 87 zeroBlk := by rw [ha]; exact Blk.new W _ _
  have xa : Below W.heap.size W a := by rw [ha]; exact (Below.refl _ _).alloc (Nat.le_refl _) _
  rw [← ha]
  obtain ⟨b, hb⟩ : ∃ b, b = a.alloc (.cells #[.int .i64 65535] 3) := ⟨_, rfl⟩
  have sb : b.heap.size = W.heap.size + 1 + 1 := by rw [hb]; simp [sa]
  have fb : Blk b (W.heap.size + 1) 3 [.int .i64 65535] := by rw [hb, ← sa]; exact Blk.new a _ _
  have xb : Below a.heap.size a b := by rw [hb]; exact (Below.refl _ _).alloc (Nat.le_refl _) _
  rw [← hb]
  obtain ⟨c, hc⟩ : ∃ c, c = b.alloc (.cells #[.int .i64 65535] 3) := ⟨_, rfl⟩
  have sc : c.heap.size = W.heap.size + 1 + 1 + 1 := by rw [hc]; simp [sb]
  have fc : Blk c (W.heap.size + 1 + 1) 3 [.int .i64 65535] := by rw [hc, ← sb]; exact Blk.new b _ _
  have xc : Below b.heap.size b c := by rw [hc]; exact (Below.refl _ _).alloc (Nat.le_refl _) _
  rw [← hc]
  obtain ⟨d, hd⟩ : ∃ d, d = c.alloc (.cells #[.int .i64 0, .slice (some ⟨W.heap.size + 1, 0, none⟩) 1 1, .int .i64 1, .slice (some ⟨W.heap.size + 1 + 1, 0, none⟩) 1 1] 113) := ⟨_, rfl⟩
  have sd : d.heap.size = W.heap.size + 1 + 1 + 1 + 1 := by rw [hd]; simp [sc]
  have fd : Blk d (W.heap.size + 1 + 1 + 1) 113 [.int .i64 0, .slice (some ⟨W.heap.size + 1, 0, none⟩) 1 1, .int .i64 1, .slice (some ⟨W.heap.size + 1 + 1, 0, none⟩) 1 1] := by rw [hd, ← sc]; exact Blk.new c _ _
  have xd : Below c.heap.size c d := by rw [hd]; exact (Below.refl _ _).alloc (Nat.le_refl _) _
  rw [← hd]
  obtain ⟨e, he⟩ : ∃ e, e = d.alloc (.cells #[.int .i64 0, .int .i64 1] 115) := ⟨_, rfl⟩
  have se : e.heap.size = W.heap.size + 1 + 1 + 1 + 1 + 1 := by rw [he]; simp [sd]
  have fe : Blk e (W.heap.size + 1 + 1 + 1 + 1) 115 [.int .i64 0, .int .i64 1] := by rw [he, ← sd]; exact Blk.new d _ _
  have xe : Below d.heap.size d e := by rw [he]; exact (Below.refl _ _).alloc (Nat.le_refl _) _
  rw [← he]
  obtain ⟨f, hf⟩ : ∃ f, f = e.alloc (.cells (lgCells 0 (.slice (some ⟨W.heap.size + 1 + 1 + 1, 0, none⟩) 2 2) (.slice (some ⟨W.heap.size + 1 + 1 + 1 + 1, 0, none⟩) 1 1)).toArray 87) := ⟨_, rfl⟩
  have ff : Blk f (W.heap.size + 1 + 1 + 1 + 1 + 1) 87 (lgCells 0 (.slice (some ⟨W.heap.size + 1 + 1 + 1, 0, none⟩) 2 2) (.slice (some ⟨W.heap.size + 1 + 1 + 1 + 1, 0, none⟩) 1 1)) := by rw [hf, ← se]; exact Blk.new e _ _
  have xf : Below e.heap.size e f := by rw [hf]; exact (Below.refl _ _).alloc (Nat.le_refl _) _
  rw [← hf]
  have yd : Below d.heap.size d f := xe.trans (xf.mono (by omega))
  have yc : Below c.heap.size c f := xd.trans (yd.mono (by omega))
  have yb : Below b.heap.size b f := xc.trans (yc.mono (by omega))
  have ya : Below a.heap.size a f := xb.trans (yb.mono (by omega))
  have gd := fd.below_ yd
  have ge := fe.below_ xf
  refine ⟨fa.below_ ya, ff, by omega, ⟨[.int .i64 0, .slice (some ⟨W.heap.size + 1, 0, none⟩) 1 1, .int .i64 1, .slice (some ⟨W.heap.size + 1 + 1, 0, none⟩) 1 1], ⟨rfl, .inr ⟨_, 2, _, rfl, by omega, gd, by decide, by decide, rfl, rfl⟩⟩, ⟨_, _, _, rfl, ⟨_, _, rfl, rfl, rfl, fb.below_ yb⟩, ⟨_, _, _, rfl, ⟨_, _, rfl, rfl, rfl, fc.below_ yc⟩, rfl⟩⟩⟩, ⟨rfl, .inr ⟨_, 1, _, rfl, by omega, ge, by decide, by decide, rfl, rfl⟩⟩, xa.trans (ya.mono (by omega))⟩
end Go.Proofs.Ytoejmjhfecppcaa
