/- The laws of stage 16: lives; what Unpack does with two other bytes ahead. -/
import Derived.Test.YtcjdeinmmokdgaaZlbC
import Derived.Test.YtcjdeinmmokdgaaStr
namespace Go.Proofs.Ytcjdeinmmokdgaa
set_option linter.unusedSimpArgs false
set_option linter.unusedVariables false
open Go.RowKit
def Yes (w : World) (e : Ending) (w' : World) : Prop := e = .returned (.bool true) ∧ Below w.heap.size w w'
set_option maxHeartbeats 4000000 in
theorem lives16 (w : World) : Calls Try.prog 10 #[] w (Yes w) := by
  have HP := Lib.hid (pack_any none 0 0 [] w (fun i v hi => by simp at hi) (fun x hx => by cases hx) rfl (Nat.le_refl _) (by omega) (by omega) (fun _ => ⟨rfl, rfl⟩))
  have hl : Zl.pack [] = [120, 1, 1, 0, 0, 255, 255, 0, 0, 0, 1] := by decide
  have HL := Lib.hid hl
  clear hl
  go_enter Try.func10, Try.ntmps10
  go_wp2_with (first
    | (go_at_call 11
       refine HP.out.mono ?_
       rintro e w1 ⟨g, c1, rfl, ho1, hb1⟩
       obtain ⟨ys, hblk, -⟩ := own_blk ho1
       have hcv := conv_ints w1 (some ⟨g, 0, none⟩) _ c1 _ (ints_of_blk hblk) rfl
       rw [HL.out] at hcv ⊢
       have HB1 := Lib.hid hb1
       have hcv2 : (convert 22 9 (.slice (some ⟨g, 0, none⟩) 11 c1)).run Try.prog w1 = .ok (.string ⟨#[120, 1, 1, 0, 0, 255, 255, 0, 0, 0, 1]⟩) w1 := hcv
       clear hcv ho1 hblk hb1))
  go_ret
  exact ⟨rfl, HB1.out⟩
namespace Zl
theorem be4_of (S : Int) (h0 : 0 ≤ S) (h1 : S ≤ 4294967295) (more : List Int) : be (tail4 S ++ more) 4 = S := by
  simp only [be, tail4, List.cons_append, List.getD_cons_zero, List.getD_cons_succ]
  omega
theorem pack_length (bs : List Int) : (pack bs).length = bs.length + 11 := by
  simp [pack, Hf.hdr, tail4]
theorem inf_pack (a d : Int) (bs more : List Int) (lim : Int) (hn : bs.length ≤ 65535) (hl : (bs.length : Int) ≤ lim) : Hf.inf 1 ((a :: d :: ((pack bs).drop 2 ++ more)).drop 2) 0 [] lim = .ok bs (5 + bs.length) := by
  have h := Hf.inf_one 0 [] bs (tail4 (Ad.of bs) ++ more) 1 bs.length [] lim (Nat.le_refl _) hn rfl
  have e : ((a :: d :: ((pack bs).drop 2 ++ more)).drop 2) = [] ++ (Hf.hdr 1 bs.length ++ (bs ++ (tail4 (Ad.of bs) ++ more))) := by
    simp [pack, List.append_assoc]
  rw [e]
  have h2 : ¬ (lim - (([] : List Int).length : Int) < bs.length) := by simp; omega
  rw [if_neg h2, if_pos rfl] at h
  simpa using h
theorem be_pack (a d : Int) (bs more : List Int) : be ((a :: d :: ((pack bs).drop 2 ++ more)).drop (2 + (5 + bs.length))) 4 = Ad.of bs := by
  have e : ((a :: d :: ((pack bs).drop 2 ++ more)).drop (2 + (5 + bs.length))) = tail4 (Ad.of bs) ++ more := by
    have e1 : (a :: d :: ((pack bs).drop 2 ++ more)) = ([a, d] ++ Hf.hdr 1 bs.length ++ bs) ++ (tail4 (Ad.of bs) ++ more) := by
      simp [pack, List.append_assoc]
    have e2 : 2 + (5 + bs.length) = ([a, d] ++ Hf.hdr 1 bs.length ++ bs).length := by simp [Hf.hdr]; omega
    rw [e1, e2, List.drop_left]
  rw [e]
  exact be4_of _ (Ad.of_range bs).1 (Ad.of_range bs).2 more
end Zl
end Go.Proofs.Ytcjdeinmmokdgaa
