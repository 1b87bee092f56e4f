/- wire.Put; what a tape's writer writes: numbers. -/
import Derived.Test.YtokidpajialgbaaSpLA
namespace Go.Proofs.Ytokidpajialgbaa
set_option linter.unusedSimpArgs false
set_option linter.unusedVariables false
open Go.RowKit
/-- the lowest bytes of a number -/
def leB (x : Int) : Nat → List Int
  | 0 => []
  | k + 1 => leB x k ++ [x / 256 ^ k % 256]
theorem leB_len (x : Int) : ∀ k, (leB x k).length = k
  | 0 => rfl
  | k + 1 => by simp [leB, leB_len x k]
theorem div_pow (x : Int) (k : Nat) : x / 256 ^ k / 256 = x / 256 ^ (k + 1) := by
  rw [Int.pow_succ, Int.ediv_ediv_of_nonneg (by exact Int.le_of_lt (Int.pow_pos (by decide)))]
theorem grown_chain {w w1 w2 : World} {r : Option Nat} {g : Nat} (h : w.grownBy w1 r) (h' : w1.grownBy w2 (some g)) (hg : r = some g ∨ w.heap.size ≤ g) : w.grownBy w2 r := by
  rcases hg with rfl | hg
  · exact grownBy_trans h h'
  · exact ⟨h'.os.trans h.os, h'.tape.trans h.tape, h'.output.trans h.output, Nat.le_trans h.size h'.size, fun k hk hn => (h'.block k (Nat.lt_of_lt_of_le hk h.size) (fun e => by injection e with e; omega)).trans (h.block k hk hn)⟩
/-- the row of bytes that comes of more of them -/
def PutP (base n : Nat) (xs : List Value) (news : List Int) (v : Value) (w : World) (e : Ending) (w' : World) : Prop :=
  ∃ v', e = .returned v' ∧ RowM w' base v' (n + news.length) (xs ++ news.map (.int .u8)) ∧ w.grownBy w' v.ownBlock ∧ (v'.ownBlock = v.ownBlock ∨ ∀ g, v'.ownBlock = some g → w.heap.size ≤ g)
theorem infoByteS : (Try.prog.info? 5).map (fun i => (i.zero, i.size, i.bytes)) = some (some (.int .u8 0), 1, 1) := by kernel_rfl
set_option maxRecDepth 100000 in
set_option maxHeartbeats 4000000 in
theorem put_any (K base n : Nat) (v : Value) (xs : List Value) (x : Int) (w : World) (ho : RowM w base v n xs) (hs : base ≤ w.heap.size) (hn : n ≤ 100000000) (hK : 1 ≤ K ∧ K ≤ 4) (hx : (Lit.int .i64 x).wf = true) :
    Calls Try.prog 53 #[v, .int .i64 K, .int .i64 x] w (PutP base n xs (leB x K) v w) := by
  have HO := Lib.hid ho
  have HS := Lib.hid hs
  have hx' : -9223372036854775808 ≤ x ∧ x ≤ 9223372036854775807 := by simp [Lit.wf, IntKind.min, IntKind.max, IntKind.bits, IntKind.signed] at hx; omega
  have HX := Lib.hid hx'
  obtain ⟨k1, k2⟩ := hK
  have k3 : ¬ (K : Int) < 1 := by omega
  have k4 : ¬ (4 : Int) < K := by omega
  clear ho hs hx hx'
  go_enter Try.func53, Try.ntmps53
  go_wp2_with fail
  go_loopw [0, 2, 15] (fun o y i wr => ∃ k : Nat, k ≤ K ∧ i = .int .i64 (k : Nat) ∧ y = .int .i64 (x / 256 ^ k) ∧ Hid (RowM wr base o (n + k) (xs ++ (leB x k).map (.int .u8))) ∧ Hid (w.grownBy wr v.ownBlock) ∧ Hid (o.ownBlock = v.ownBlock ∨ ∀ g, o.ownBlock = some g → w.heap.size ≤ g)) (fun _ _ i _ => K - (intOf i).toNat)
  case atStart => exact ⟨0, Nat.zero_le _, rfl, by simp, Lib.hid (by simpa [leB] using HO.out), Lib.hid (grownBy_refl w _), Lib.hid (.inl rfl)⟩
  case round =>
    obtain ⟨k, hk, rfl, rfl, HOW, HGW, HVW⟩ := hrel
    have HSZ : Hid (base ≤ wr.heap.size) := Lib.hid (Nat.le_trans HS.out HGW.out.size)
    obtain ⟨y, hy⟩ : ∃ y, y = x / 256 ^ k := ⟨_, rfl⟩
    have HY := Lib.hid hy
    rw [← hy]
    clear hy
    by_cases hlt : k < K
    · have hlt2 : (k : Int) < K := by omega
      have v1 : IntKind.u8.wrap y = y % 256 := IntKind.wrap_u8 _
      have v2 : IntKind.i64.wrap ((k : Int) + 1) = ((k + 1 : Nat) : Int) := by rw [IntKind.wrap_i64]; omega
      go_wp2_with (first
        | (at_builtin
           refine wpList_appM (by rfl) (.tmp 17) (.tmp 20) (by rfl) base infoByteS u0 _ _ (by rfl) HOW.out _ 1 (by rfl) (by rfl) (by simp [Value.oneCell']) (by decide) (by omega) HSZ.out ?_
           intro g1 c1 w1 ho1 hg1 hx1
           have HO1 := Lib.hid ho1
           have HG1 := Lib.hid hg1
           have HX1 := Lib.hid hx1
           clear ho1 hg1 hx1))
      go_roundw
      case rel =>
        have hgg : w.grownBy w1 v.ownBlock := by
          rcases HVW.out with h | h
          · rw [← h]; exact grownBy_trans (by rw [h]; exact HGW.out) HG1.out
          · cases hu : u0.ownBlock with
            | none => have hg := HG1.out; rw [hu] at hg; exact ⟨hg.os.trans HGW.out.os, hg.tape.trans HGW.out.tape, hg.output.trans HGW.out.output, Nat.le_trans HGW.out.size hg.size, fun j hj hn => (hg.block j (Nat.lt_of_lt_of_le hj HGW.out.size) (by simp)).trans (HGW.out.block j hj hn)⟩
            | some g => have hg := HG1.out; rw [hu] at hg; exact grown_chain HGW.out hg (.inr (h g hu))
        refine ⟨k + 1, by omega, by go_num, ?_, ?_, Lib.hid hgg, ?_⟩
        · rw [HY.out, ← div_pow]
        · have ho := HO1.out
          rw [HY.out] at ho
          show Hid (RowM _ _ _ _ _)
          simp only [leB, List.map_append, ← List.append_assoc]
          exact Lib.hid (RowM.own ho)
        · rcases HX1.out with h | h
          · rcases HVW.out with h2 | h2
            · exact Lib.hid (.inl (show some g1 = _ from h.symm.trans h2))
            · exact Lib.hid (.inr (fun g hg => h2 g (by rw [h]; exact hg)))
          · exact Lib.hid (.inr (fun g hg => by
              have : g = g1 := (Option.some.inj hg).symm
              have := HGW.out.size
              omega))
      case measure => simp [intOf]; omega
    · obtain rfl : k = K := by omega
      have hlt2 : ¬ (k : Int) < k := by omega
      go_wp2_with fail
      go_ret
      exact ⟨_, rfl, by rw [leB_len]; exact HOW.out, HGW.out, HVW.out⟩
end Go.Proofs.Ytokidpajialgbaa
