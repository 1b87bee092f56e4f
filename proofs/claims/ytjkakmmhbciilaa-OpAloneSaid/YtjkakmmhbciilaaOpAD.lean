/- The law OpAlone: its own body. -/
import Derived.Test.YtjkakmmhbciilaaOpAC
namespace Go.Proofs.Ytjkakmmhbciilaa
set_option linter.unusedSimpArgs false
set_option linter.unusedVariables false
open Go.RowKit
set_option maxHeartbeats 4000000 in
theorem alone_ok (ad : Addr) (n cap : Nat) (l : List Int) (A2 : Option Addr) (n2 c2 : Nat) (l2 : List Int) (s i c d m s3 i3 c3 d3 m3 ln3 : Int) (q p : Nat) (w : World) (k1 : ¬ (1000 : Int) < n) (k2 : ¬ (1000 : Int) < n2) (hqp : q = p + 1) (hp4 : q ≤ 4) (hs4 : (s == 4) = false) (hpn : q ≤ n) (h : Byt w (some ad) n cap l) (h2 : Byt w A2 n2 c2 l2)
    (hr : Calls Try.prog 9 #[.slice (some ad) n cap] w (ReadsL s i c d m (q : Int) true w))
    (hr2 : ∀ w' A' n' c', Byt w' A' n' c' (l.take q ++ l2) → Calls Try.prog 9 #[.slice A' n' c'] w' (ReadsL s i c d m (q : Int) true w'))
    (hr3 : ∀ w' A' n' c', Byt w' A' n' c' (l.take p) → Calls Try.prog 9 #[.slice A' n' c'] w' (ReadsL s3 i3 c3 d3 m3 ln3 false w')) : Calls Try.prog 7 #[.slice (some ad) n cap, .slice A2 n2 c2] w (Yes w) := by
  have htk := Lib.hid (h.take p (by omega) (by simp))
  have H3 := Lib.hid hr3
  have j1 : (1 : Int) ≤ q := by omega
  have j2 : (q : Int) ≤ 4 := by omega
  have j3 : ((q : Int) - 1).toNat = p := by omega
  have j4 : (q : Int) - 1 ≤ cap := by have := h.capLe; omega
  clear hr3 hqp
  have HL := Lib.hid lives07
  have hcap := h.capLe
  have hlen := h.len
  have hq : q ≤ n := hpn
  have htake := h.take (q) hq (by simp)
  have H := Lib.hid hr
  have HN := Lib.hid h; have HM := Lib.hid h2; have HTK := Lib.hid htake
  have hn2 : n2 ≤ 1000 := by omega
  have hmx : n ≤ 1000 := by omega
  have HLN := Lib.hid hlen
  clear hr h h2 htake hlen
  go_enter Try.func7, Try.ntmps7
  go_wp2_with fail
  refine H.out.mono ?_
  rintro e w1 ⟨rfl, hb1⟩
  have b1 : Blk (w1.alloc (.cells #[.int .i64 s, .int .i64 i, .int .u8 c, .int .u8 d, .int .u16 m, .int .i64 (q : Int)] 26)) w1.heap.size 26 [.int .i64 s, .int .i64 i, .int .u8 c, .int .u8 d, .int .u16 m, .int .i64 (q : Int)] := Blk.new w1 _ _
  have e1 : Below w.heap.size w (w1.alloc (.cells #[.int .i64 s, .int .i64 i, .int .u8 c, .int .u8 d, .int .u16 m, .int .i64 (q : Int)] 26)) := hb1.alloc hb1.size _
  have HB1 := Lib.hid b1; have E1 := Lib.hid e1
  have C1 := Lib.hid (HTK.out.below e1).cells
  clear b1 e1 hb1
  go_wp2_with (first
    | (at_builtin; have gA := ho1; refine wpList_appAny _ rfl (.tmp 59) (.tmp 60) 22 rfl (w1.alloc (.cells #[.int .i64 s, .int .i64 i, .int .u8 c, .int .u8 d, .int .u16 m, .int .i64 (q : Int)] 26)).heap.size 5 (.int .u8 0) 1 Try.underlying22 infoU8 (by decide) v1 _ _ rfl ho1.out A2 n2 c2 (l2.map (.int .u8 ·)) rfl (by rw [List.length_map]; exact HM.out.len) ((HM.out.below (E1.out.trans (B12.out.mono E1.out.size))).cells) HM.out.nil HM.out.one (by unfold maxLen; omega) (by omega) B12.out.size ?_; intro v2 w3 ho2 hg2; have B13 := Lib.hid (Below_own B12.out ho1.out hg2 (Nat.le_refl _) B12.out.size); obtain ⟨g3, cc3, rfl, -, -⟩ := ho2.form (by omega); have HO3 := Lib.hid ho2; clear ho2 hg2 gA)
    | (at_builtin; refine wpList_appAny _ rfl (.tmp 54) (.tmp 58) 22 rfl (w1.alloc (.cells #[.int .i64 s, .int .i64 i, .int .u8 c, .int .u8 d, .int .u16 m, .int .i64 (q : Int)] 26)).heap.size 5 (.int .u8 0) 1 Try.underlying22 infoU8 (by decide) (.slice none 0 0) 0 [] rfl (World.ownsRow_nil _ _ _ _) (some ad) q cap ((l.take q).map (.int .u8 ·)) rfl (by rw [List.length_map]; exact HTK.out.len) C1.out (fun e => by cases e) HTK.out.one (by unfold maxLen; omega) (by omega) (Nat.le_refl _) ?_; intro v1 w2 ho1 hg1; have B12 := Lib.hid (below_of_none hg1); replace ho1 := Lib.hid ho1; clear hg1))
  have y3 : Byt w3 (some ⟨g3, 0, none⟩) (0 + q + n2) cc3 (l.take q ++ l2) := Byt.own (by have := HO3.out; rw [List.nil_append, ← List.map_append] at this; exact this) (fun x hx => by
    rcases List.mem_append.1 hx with hx | hx
    · exact HTK.out.bs x hx
    · exact HM.out.bs x hx)
  rw [Nat.zero_add] at y3
  refine (hr2 _ _ _ _ y3).mono ?_
  rintro e w4 ⟨rfl, hb4⟩
  have X4 := Lib.hid ((Below.refl _ (w4)).alloc (Nat.le_refl _) (.cells #[.int .i64 s, .int .i64 i, .int .u8 c, .int .u8 d, .int .u16 m, .int .i64 (q : Int)] 26))
  have Q4 := Lib.hid ((((HB1.out.below_ B13.out).below_ hb4)).below_ X4.out)
  have S4 : Hid (Blk (w4.alloc (.cells #[.int .i64 s, .int .i64 i, .int .u8 c, .int .u8 d, .int .u16 m, .int .i64 (q : Int)] 26)) w4.heap.size 26 [.int .i64 s, .int .i64 i, .int .u8 c, .int .u8 d, .int .u16 m, .int .i64 (q : Int)]) := Blk.new w4 _ _
  have E4 := Lib.hid (((E1.out.trans (B13.out.mono E1.out.size)).trans (hb4.mono (Nat.le_trans E1.out.size B13.out.size))).trans (X4.out.mono (Nat.le_trans E1.out.size (Nat.le_trans B13.out.size hb4.size))))
  obtain ⟨q0, q1, q2, q3, q4, q5⟩ := six Q4.out
  clear hb4 y3 hr2
  go_wp2_with fail
  refine (H3.out _ _ _ _ (htk.out.below E4.out)).mono ?_
  rintro e w5 ⟨rfl, hb5⟩
  have X6 := Lib.hid ((Below.refl _ (w5)).alloc (Nat.le_refl _) (.cells #[.int .i64 s3, .int .i64 i3, .int .u8 c3, .int .u8 d3, .int .u16 m3, .int .i64 ln3] 26))
  have Q6 := Lib.hid ((Q4.out.below_ hb5).below_ X6.out)
  have S6 := Lib.hid ((S4.out.below_ hb5).below_ X6.out)
  have E6 := Lib.hid ((E4.out.trans (hb5.mono E4.out.size)).trans (X6.out.mono (Nat.le_trans E4.out.size hb5.size)))
  clear hb5 q0 q1 q2 q3 q4 q5
  obtain ⟨q0, q1, q2, q3, q4, q5⟩ := six Q6.out
  obtain ⟨t0, t1, t2, t3, t4, t5⟩ := six S6.out
  go_wp2_with (first
    | (go_at_call 8; refine (HL.out _).mono ?_; rintro e w6 ⟨rfl, hb6⟩))
  go_ret
  exact ⟨rfl, E6.out.trans (hb6.mono E6.out.size)⟩
end Go.Proofs.Ytjkakmmhbciilaa

