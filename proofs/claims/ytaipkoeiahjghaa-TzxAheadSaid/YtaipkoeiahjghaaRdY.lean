/- tzx.Parse of bytes without a tape's head. -/
import Derived.Test.YtaipkoeiahjghaaRdX
import Derived.Test.YtaipkoeiahjghaaRdT
namespace Go.Proofs.Ytaipkoeiahjghaa
set_option linter.unusedSimpArgs false
set_option linter.unusedVariables false
open Go.RowKit
theorem infoTapeR : (Try.prog.info? 43).map (·.size) = some 3 := by kernel_rfl
/-- what a tape's bytes come to, in memory -/
def ParsP (L : List Int) (w : World) (e : Ending) (w' : World) : Prop := Below w.heap.size w w' ∧ match Rd.parseD L with
  | .fault E p => ∃ f, e = .returned (.tuple #[.agg #[.int .i64 0, .int .i64 0, .slice none 0 0], .iface 48 (.pointer (some ⟨f, 0, none⟩))]) ∧ Blk w' f 51 [.int .i64 E, .int .i64 p]
  | .tape maj min l => ∃ bl X cs, e = .returned (.tuple #[.agg #[.int .i64 maj, .int .i64 min, bl], Value.nilIface]) ∧ w'.ownsRow w.heap.size 30 18 bl l.length cs ∧ TBs w' X cs l
/-- a fault at once: how a call ends -/
theorem fault_end {L : List Int} {w : World} {E : Int} (h : Rd.parseD L = .fault E 0) : ParsP L w (.returned (.tuple #[.agg #[.int .i64 0, .int .i64 0, .slice none 0 0], .iface 48 (.pointer (some ⟨w.heap.size + 1, 0, none⟩))])) ((w.alloc (.cells #[.int .i64 0, .int .i64 0, .slice none 0 0] 43)).alloc (.cells #[.int .i64 E, .int .i64 0] 51)) := by
  refine ⟨((Below.refl _ w).alloc (Nat.le_refl _) _).alloc (by simp) _, ?_⟩
  rw [h]
  exact ⟨_, rfl, blk_alloc2_new w _ _ [.int .i64 E, .int .i64 0]⟩
set_option maxRecDepth 100000 in
set_option maxHeartbeats 2000000 in
theorem parse_long (A : Option Addr) (n c : Nat) (L : List Int) (w : World) (hn : L.length = n) (h : 1048576 < n) :
    Calls Try.prog 15 #[.slice A n c] w (ParsP L w) := by
  have hP : Rd.parseD L = .fault 8 0 := by unfold Rd.parseD; rw [if_pos (by omega)]
  have HP := Lib.hid hP
  have h2 : (1048576 : Int) < n := by omega
  clear hP hn h
  go_enter Try.func15, Try.ntmps15
  go_wp2_with fail
  exact bodyPost_ret (results_row_tmp rfl rfl (blk_alloc2_old w _ 43 [.int .i64 0, .int .i64 0, .slice none 0 0]) Try.underlying43 rfl infoTapeR rfl) rfl (fault_end HP.out)
set_option maxRecDepth 100000 in
set_option maxHeartbeats 2000000 in
theorem parse_short (A : Option Addr) (n c : Nat) (L : List Int) (w : World) (hn : L.length = n) (h : n < 8) :
    Calls Try.prog 15 #[.slice A n c] w (ParsP L w) := by
  have hP : Rd.parseD L = .fault 3 0 := by unfold Rd.parseD; rw [if_neg (by omega), if_pos (.inl (by omega))]
  have HP := Lib.hid hP
  have h2 : (n : Int) < 8 := by omega
  have h3 : ¬ (1048576 : Int) < n := by omega
  clear hP hn h
  go_enter Try.func15, Try.ntmps15
  go_wp2_with fail
  exact bodyPost_ret (results_row_tmp rfl rfl (blk_alloc2_old w _ 43 [.int .i64 0, .int .i64 0, .slice none 0 0]) Try.underlying43 rfl infoTapeR rfl) rfl (fault_end HP.out)
set_option maxRecDepth 100000 in
set_option maxHeartbeats 2000000 in
theorem parse_unsigned (A : Option Addr) (n c : Nat) (L : List Int) (w : World) (hi : Ints w A .u8 L) (hb : Byts L) (hn : L.length = n) (h8 : 8 ≤ n) (h20 : n ≤ 1048576) (hc : n ≤ c) (h : L.take 8 ≠ Rd.sign8) :
    Calls Try.prog 15 #[.slice A n c] w (ParsP L w) := by
  have hP : Rd.parseD L = .fault 3 0 := by unfold Rd.parseD; rw [if_neg (by omega), if_pos (.inr h)]
  have HP := Lib.hid hP
  have h2 : ¬ (n : Int) < 8 := by omega
  have h3 : ¬ (1048576 : Int) < n := by omega
  have hl8 : (L.take 8).length = 8 := by rw [List.length_take]; omega
  obtain ⟨X, hX⟩ : ∃ X, X = txt8 (L.take 8) := ⟨_, rfl⟩
  have hcmp := txt8_cmp (L.take 8) [90, 88, 84, 97, 112, 101, 33, 26] (fun x hx => hb x (List.mem_of_mem_take hx))
  rw [decide_eq_false (show ¬ L.take 8 = ([90, 88, 84, 97, 112, 101, 33, 26] : List UInt8).map fun u => (u.toNat : Int) from fun e => h (e.trans rfl)), ← hX] at hcmp
  have hcv := conv_ints (w.alloc (.cells #[.int .i64 0, .int .i64 0, .slice none 0 0] 43)) A 8 c (L.take 8) (ints_take (hi.below ((Below.refl _ w).alloc (Nat.le_refl _) _)) 8) hl8
  rw [← hX] at hcv
  have h88 : (8 : Nat) ≤ c := by omega
  clear hP hn h hX hl8 hb hi
  go_enter Try.func15, Try.ntmps15
  go_wp2_with fail
  exact bodyPost_ret (results_row_tmp rfl rfl (blk_alloc2_old w _ 43 [.int .i64 0, .int .i64 0, .slice none 0 0]) Try.underlying43 rfl infoTapeR rfl) rfl (fault_end HP.out)
end Go.Proofs.Ytaipkoeiahjghaa
