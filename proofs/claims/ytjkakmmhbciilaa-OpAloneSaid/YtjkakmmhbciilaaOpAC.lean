/- The law OpAlone: its own body. -/
import Derived.Test.YtjkakmmhbciilaaOpAB
namespace Go.Proofs.Ytjkakmmhbciilaa
set_option linter.unusedSimpArgs false
set_option linter.unusedVariables false
open Go.RowKit
theorem below_of_none {w w' : World} (h : w.grownBy w' (Value.slice none 0 0).ownBlock) : Below w.heap.size w w' := ⟨h.os, h.tape, h.output, h.size, fun k hk => h.block k hk (by simp [Value.ownBlock])⟩
set_option maxHeartbeats 2000000 in
theorem alone_long (A : Option Addr) (n cap : Nat) (A2 : Option Addr) (n2 c2 : Nat) (w : World) (h : (1000 : Int) < n ∨ (1000 : Int) < n2) : Calls Try.prog 7 #[.slice A n cap, .slice A2 n2 c2] w (Yes w) := by
  have HL := Lib.hid lives07
  by_cases k : (1000 : Int) < n
  · clear h
    go_enter Try.func7, Try.ntmps7
    go_wp2_with (first
      | (go_at_call 8; refine (HL.out _).mono ?_; rintro e w3 ⟨rfl, hb3⟩))
    go_ret
    exact ⟨rfl, hb3⟩
  · have k2 : (1000 : Int) < n2 := by omega
    clear h
    go_enter Try.func7, Try.ntmps7
    go_wp2_with (first
      | (go_at_call 8; refine (HL.out _).mono ?_; rintro e w3 ⟨rfl, hb3⟩))
    go_ret
    exact ⟨rfl, hb3⟩
set_option maxHeartbeats 2000000 in
theorem alone_no (A : Option Addr) (n cap : Nat) (A2 : Option Addr) (n2 c2 : Nat) (w : World) (k1 : ¬ (1000 : Int) < n) (k2 : ¬ (1000 : Int) < n2) (hn : n < 4)
    (h : Calls Try.prog 9 #[.slice A n cap] w (ReadsL 0 0 0 0 0 0 false w)) : Calls Try.prog 7 #[.slice A n cap, .slice A2 n2 c2] w (Yes w) := by
  have HL := Lib.hid lives07
  have H := Lib.hid h
  clear h
  go_enter Try.func7, Try.ntmps7
  go_wp2_with (first
    | (go_at_call 9; refine H.out.mono ?_; rintro e w1 ⟨rfl, hb1⟩)
    | (go_at_call 8; refine (HL.out _).mono ?_; rintro e w3 ⟨rfl, hb3⟩))
  go_ret
  exact ⟨rfl, (hb1.alloc hb1.size _).trans (hb3.mono (by have := hb1.size; simp; omega))⟩
set_option maxHeartbeats 4000000 in
theorem alone_four (ad : Addr) (n cap : Nat) (l : List Int) (A2 : Option Addr) (n2 c2 : Nat) (l2 : List Int) (i s2 i2 c2' d2 m2 ln2 : Int) (ok2 : Bool) (w : World) (k1 : ¬ (1000 : Int) < n) (k2 : ¬ (1000 : Int) < n2) (hpn : 0 + 1 ≤ n) (h : Byt w (some ad) n cap l) (h2 : Byt w A2 n2 c2 l2)
    (hr : Calls Try.prog 9 #[.slice (some ad) n cap] w (ReadsL 4 i 0 0 0 1 true w))
    (hr2 : ∀ w' A' n' c', Byt w' A' n' c' (l.take 1 ++ l2) → Calls Try.prog 9 #[.slice A' n' c'] w' (ReadsL s2 i2 c2' d2 m2 ln2 ok2 w')) : Calls Try.prog 7 #[.slice (some ad) n cap, .slice A2 n2 c2] w (Yes w) := by
  obtain ⟨p, rfl⟩ : ∃ p, p = 0 := ⟨0, rfl⟩
  have HL := Lib.hid lives07
  have hcap := h.capLe
  have hlen := h.len
  have hq : 1 ≤ n := hpn
  have htake := h.take 1 hq (by simp)
  have H := Lib.hid hr
  have HN := Lib.hid h; have HM := Lib.hid h2; have HTK := Lib.hid htake
  have hn2 : n2 ≤ 1000 := by omega
  have hmx : n ≤ 1000 := by omega
  have HLN := Lib.hid hlen
  clear hr h h2 htake hlen
  go_enter Try.func7, Try.ntmps7
  go_wp2_with fail
  refine H.out.mono ?_
  rintro e w1 ⟨rfl, hb1⟩
  have b1 : Blk (w1.alloc (.cells #[.int .i64 4, .int .i64 i, .int .u8 0, .int .u8 0, .int .u16 0, .int .i64 1] 26)) w1.heap.size 26 [.int .i64 4, .int .i64 i, .int .u8 0, .int .u8 0, .int .u16 0, .int .i64 1] := Blk.new w1 _ _
  have e1 : Below w.heap.size w (w1.alloc (.cells #[.int .i64 4, .int .i64 i, .int .u8 0, .int .u8 0, .int .u16 0, .int .i64 1] 26)) := hb1.alloc hb1.size _
  have HB1 := Lib.hid b1; have E1 := Lib.hid e1
  have C1 := Lib.hid (HTK.out.below e1).cells
  clear b1 e1 hb1
  go_wp2_with (first
    | (at_builtin; have gA := ho1; refine wpList_appAny _ rfl (.tmp 59) (.tmp 60) 22 rfl (w1.alloc (.cells #[.int .i64 4, .int .i64 i, .int .u8 0, .int .u8 0, .int .u16 0, .int .i64 1] 26)).heap.size 5 (.int .u8 0) 1 Try.underlying22 infoU8 (by decide) v1 _ _ rfl ho1.out A2 n2 c2 (l2.map (.int .u8 ·)) rfl (by rw [List.length_map]; exact HM.out.len) ((HM.out.below (E1.out.trans (B12.out.mono E1.out.size))).cells) HM.out.nil HM.out.one (by unfold maxLen; omega) (by omega) B12.out.size ?_; intro v2 w3 ho2 hg2; have B13 := Lib.hid (Below_own B12.out ho1.out hg2 (Nat.le_refl _) B12.out.size); obtain ⟨g3, cc3, rfl, -, -⟩ := ho2.form (by omega); have HO3 := Lib.hid ho2; clear ho2 hg2 gA)
    | (at_builtin; refine wpList_appAny _ rfl (.tmp 54) (.tmp 58) 22 rfl (w1.alloc (.cells #[.int .i64 4, .int .i64 i, .int .u8 0, .int .u8 0, .int .u16 0, .int .i64 1] 26)).heap.size 5 (.int .u8 0) 1 Try.underlying22 infoU8 (by decide) (.slice none 0 0) 0 [] rfl (World.ownsRow_nil _ _ _ _) (some ad) 1 cap ((l.take 1).map (.int .u8 ·)) rfl (by rw [List.length_map]; exact HTK.out.len) C1.out (fun e => by cases e) HTK.out.one (by unfold maxLen; omega) (by omega) (Nat.le_refl _) ?_; intro v1 w2 ho1 hg1; have B12 := Lib.hid (below_of_none hg1); replace ho1 := Lib.hid ho1; clear hg1))
  have y3 : Byt w3 (some ⟨g3, 0, none⟩) (0 + 1 + n2) cc3 (l.take 1 ++ l2) := Byt.own (by have := HO3.out; rw [List.nil_append, ← List.map_append] at this; exact this) (fun x hx => by
    rcases List.mem_append.1 hx with hx | hx
    · exact HTK.out.bs x hx
    · exact HM.out.bs x hx)
  refine (hr2 _ _ _ _ y3).mono ?_
  rintro e w4 ⟨rfl, hb4⟩
  have HS := Lib.hid (fun w => show_alone i 0 w)
  have tl : (([112, 114, 101, 102, 105, 120, 32] ++ ixn i).length : Int) = 9 := by rw [List.length_append, ixn_len]; rfl
  obtain ⟨t, ht⟩ : ∃ t, t = [112, 114, 101, 102, 105, 120, 32] ++ ixn i := ⟨_, rfl⟩
  rw [← ht] at HS tl
  have tb : ((t.length : Int) == 9) = true := by rw [tl]; rfl
  have X4 := Lib.hid ((Below.refl _ (w4)).alloc (Nat.le_refl _) (.cells #[.int .i64 s2, .int .i64 i2, .int .u8 c2', .int .u8 d2, .int .u16 m2, .int .i64 ln2] 26))
  have Q4 := Lib.hid ((((HB1.out.below_ B13.out).below_ hb4)).below_ X4.out)
  have E4 := Lib.hid (((E1.out.trans (B13.out.mono E1.out.size)).trans (hb4.mono (Nat.le_trans E1.out.size B13.out.size))).trans (X4.out.mono (Nat.le_trans E1.out.size (Nat.le_trans B13.out.size hb4.size))))
  obtain ⟨q0, q1, q2, q3, q4, q5⟩ := six Q4.out
  clear tl ht hb4 y3 hr2
  go_wp2_with (first
    | (go_at_call 12; refine (HS.out _).mono ?_; rintro e w5 ⟨rfl, hb5⟩)
    | (go_at_call 8; refine (HL.out _).mono ?_; rintro e w6 ⟨rfl, hb6⟩))
  go_ret
  exact ⟨rfl, (E4.out.trans (hb5.mono E4.out.size)).trans (hb6.mono (Nat.le_trans E4.out.size hb5.size))⟩
end Go.Proofs.Ytjkakmmhbciilaa
