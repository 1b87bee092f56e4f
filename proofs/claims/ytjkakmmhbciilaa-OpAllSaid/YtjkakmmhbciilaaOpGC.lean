/- The law OpAll: its own body. -/
import Derived.Test.YtjkakmmhbciilaaOpGB
import Derived.Test.YtjkakmmhbciilaaOpGA
import Derived.Test.YtjkakmmhbciilaaMemE
import Derived.Laws.StructEq
import Derived.Deep.DeepCutAuto
namespace Go.Proofs.Ytjkakmmhbciilaa
set_option linter.unusedSimpArgs false
set_option linter.unusedVariables false
open Go.RowKit Go.Sort
/-- the bytes ahead of a code -/
def PreR (w : World) (b : Value) (wx : World) : Prop :=
  ∃ (A : Option Addr) (n cap : Nat) (l : List Int), b = .slice A n cap ∧ l.length = n ∧ n ≤ 2 ∧ Ints wx A .u8 l ∧ (∀ x ∈ l, B8 x) ∧ (A = none → n = 0 ∧ cap = 0) ∧ Below w.heap.size w wx
theorem ints_blk {w : World} {g : Nat} {l : List Int} (h : Blk w g 5 (l.map (.int .u8))) : Ints w (some ⟨g, 0, none⟩) .u8 l := fun i v hi => by
  refine ⟨_, rfl, ?_⟩
  have hadd : (⟨g, 0, none⟩ : Addr).add i = ⟨g, i, none⟩ := by unfold Addr.add; split <;> simp_all
  rw [hadd, h.cell, hi]
theorem PreR.mk {w wx : World} {g n : Nat} (l : List Int) (h : Blk wx g 5 (l.map (.int .u8))) (hl : l.length = n) (hn : n ≤ 2) (hb : ∀ x ∈ l, B8 x) (hB : Below w.heap.size w wx) : PreR w (.slice (some ⟨g, 0, none⟩) n n) wx :=
  ⟨_, n, n, l, rfl, hl, hn, ints_blk h, hb, fun e => (by cases e), hB⟩
def o1 (x : Int) : Obj := .cells #[.int .u8 x] 5
def o2 (x y : Int) : Obj := .cells #[.int .u8 x, .int .u8 y] 5
theorem pre7 (w u : World) (O : Obj) (hB : Below w.heap.size w u) :
    ∀ W, W = ((((((u.alloc (o1 203)).alloc (o1 237)).alloc (o1 221)).alloc (o1 253)).alloc (o2 221 203)).alloc (o2 253 203)).alloc O →
    PreR w (.slice none 0 0) W ∧ PreR w (.slice (some ⟨u.heap.size, 0, none⟩) 1 1) W ∧ PreR w (.slice (some ⟨u.heap.size + 1, 0, none⟩) 1 1) W ∧ PreR w (.slice (some ⟨u.heap.size + 1 + 1, 0, none⟩) 1 1) W ∧ PreR w (.slice (some ⟨u.heap.size + 1 + 1 + 1, 0, none⟩) 1 1) W ∧ PreR w (.slice (some ⟨u.heap.size + 1 + 1 + 1 + 1, 0, none⟩) 2 2) W ∧ PreR w (.slice (some ⟨u.heap.size + 1 + 1 + 1 + 1 + 1, 0, none⟩) 2 2) W := by
  rintro W rfl
  have h1 := hB.size
  have hBW : Below w.heap.size w (((((((u.alloc (o1 203)).alloc (o1 237)).alloc (o1 221)).alloc (o1 253)).alloc (o2 221 203)).alloc (o2 253 203)).alloc O) :=
    ((((((hB.alloc (by omega) _).alloc (by simp; omega) _).alloc (by simp; omega) _).alloc (by simp; omega) _).alloc (by simp; omega) _).alloc (by simp; omega) _).alloc (by simp; omega) _
  refine ⟨⟨none, 0, 0, [], rfl, rfl, by omega, fun i v hi => by simp at hi, fun x hx => by (cases hx), fun _ => ⟨rfl, rfl⟩, hBW⟩, ?_, ?_, ?_, ?_, ?_, ?_⟩
  · exact PreR.mk [203] (((((((Blk.new u _ [.int .u8 203]).alloc _).alloc _).alloc _).alloc _).alloc _).alloc _) rfl (by omega) (by intro x hx; rw [List.mem_singleton] at hx; rw [hx]; exact ⟨by decide, by decide⟩) hBW
  · have := ((((((Blk.new (u.alloc (o1 203)) 5 [.int .u8 237]).alloc (o1 221)).alloc (o1 253)).alloc (o2 221 203)).alloc (o2 253 203)).alloc O)
    simp only [World.size_alloc] at this
    exact PreR.mk [237] this rfl (by omega) (by intro x hx; rw [List.mem_singleton] at hx; rw [hx]; exact ⟨by decide, by decide⟩) hBW
  · have := (((((Blk.new ((u.alloc (o1 203)).alloc (o1 237)) 5 [.int .u8 221]).alloc (o1 253)).alloc (o2 221 203)).alloc (o2 253 203)).alloc O)
    simp only [World.size_alloc] at this
    exact PreR.mk [221] this rfl (by omega) (by intro x hx; rw [List.mem_singleton] at hx; rw [hx]; exact ⟨by decide, by decide⟩) hBW
  · have := ((((Blk.new (((u.alloc (o1 203)).alloc (o1 237)).alloc (o1 221)) 5 [.int .u8 253]).alloc (o2 221 203)).alloc (o2 253 203)).alloc O)
    simp only [World.size_alloc] at this
    exact PreR.mk [253] this rfl (by omega) (by intro x hx; rw [List.mem_singleton] at hx; rw [hx]; exact ⟨by decide, by decide⟩) hBW
  · have := (((Blk.new ((((u.alloc (o1 203)).alloc (o1 237)).alloc (o1 221)).alloc (o1 253)) 5 [.int .u8 221, .int .u8 203]).alloc (o2 253 203)).alloc O)
    simp only [World.size_alloc] at this
    exact PreR.mk [221, 203] this rfl (by omega) (by intro x hx; simp only [List.mem_cons, List.not_mem_nil, or_false] at hx; rcases hx with rfl | rfl <;> exact ⟨by decide, by decide⟩) hBW
  · have := ((Blk.new (((((u.alloc (o1 203)).alloc (o1 237)).alloc (o1 221)).alloc (o1 253)).alloc (o2 221 203)) 5 [.int .u8 253, .int .u8 203]).alloc O)
    simp only [World.size_alloc] at this
    exact PreR.mk [253, 203] this rfl (by omega) (by intro x hx; simp only [List.mem_cons, List.not_mem_nil, or_false] at hx; rcases hx with rfl | rfl <;> exact ⟨by decide, by decide⟩) hBW
theorem own_ints {w : World} {base n g c : Nat} {xs : List Value} (L : List Int) (h : w.ownsRow base 5 1 (.slice (some ⟨g, 0, none⟩) n c) n xs) (h0 : 0 < n) (hx : xs = L.map (.int .u8)) : Ints w (some ⟨g, 0, none⟩) .u8 L ∧ n ≤ c ∧ c ≤ 9223372036854775807 := by
  obtain ⟨g2, c2, e, h1, h2, h3⟩ := own_slice6 h h0
  injection e with e1 e2 e3
  injection e1 with e1
  injection e1 with e1
  subst e1 e3
  rw [hx] at h3
  exact ⟨h3, h1, h2⟩
/-- both readings of some bytes, and both texts -/
structure Both (n : Nat) (L : List Int) (s i c d m ln pc : Int) (t : List UInt8) : Prop where
  r1 : ∀ u g cc, Ints u (some ⟨g, 0, none⟩) .u8 L → n ≤ cc → cc ≤ 9223372036854775807 → Calls Try.prog 9 #[.slice (some ⟨g, 0, none⟩) n cc] u (ReadsL s i c d m ln true u)
  r2 : ∀ u g cc, Ints u (some ⟨g, 0, none⟩) .u8 L → n ≤ cc → cc ≤ 9223372036854775807 → Calls Try.prog 10 #[.slice (some ⟨g, 0, none⟩) n cc] u (ReadsL s i c d m ln true u)
  s1 : Gives 12 #[.agg #[.int .i64 s, .int .i64 i, .int .u8 c, .int .u8 d, .int .u16 m, .int .i64 ln], .int .u16 pc] (.string ⟨t.toArray⟩)
  s2 : Gives 13 #[.agg #[.int .i64 s, .int .i64 i, .int .u8 c, .int .u8 d, .int .u16 m, .int .i64 ln], .int .u16 pc] (.string ⟨t.toArray⟩)
  ne : t ≠ []
  pl : Gives 11 #[.agg #[.int .i64 s, .int .i64 i, .int .u8 c, .int .u8 d, .int .u16 m, .int .i64 ln]] (.agg #[.int .i64 s, .int .i64 i, .int .u8 c, .int .u8 d, .int .u16 m, .int .i64 ln])
theorem both_any (L : List Int) (n : Nat) (hn : L.length = n) (h4 : 4 ≤ n) (hb : ∀ x ∈ L, B8 x) (pc : Int) (hp : B16 pc) : ∃ s i c d m ln t, Both n L s i c d m ln pc t := by
  obtain ⟨s, i, c, d, m, ln, hR, hr, hs⟩ := readS_good hb pc hp (by omega)
  refine ⟨s, i, c, d, m, ln, showS s i c d m ln pc, ⟨fun u g cc hi h1 h2 => ?_, fun u g cc hi h1 h2 => ?_, show_any s i c d m ln pc hr, ?_, showS_ne s i c d m ln pc hr.c0 hr.c1 hs, fun w => plain_same s i c d m ln w⟩⟩
  · have := (reads_both (some ⟨g, 0, none⟩) n cc L u hi hn hb h1 h2).1
    rw [hR] at this
    exact this
  · have := (reads_both (some ⟨g, 0, none⟩) n cc L u hi hn hb h1 h2).2
    rw [hR] at this
    exact this
  · rw [show_same s i c d m ln pc hr]
    exact show7_any s i c d m ln pc hr
set_option maxRecDepth 100000 in
set_option maxHeartbeats 16000000 in
theorem oall_any (n d pc : Int) (w : World) (hn : B16 n) (hd : B8 d) (hp : B16 pc) : Calls Try.prog 6 #[.int .u16 n, .int .u8 d, .int .u16 pc] w (Yes w) := by
  obtain ⟨n0, n1⟩ := hn
  obtain ⟨d0, d1⟩ := hd
  have HPC := Lib.hid hp
  clear hp
  go_enter Try.func6, Try.ntmps6
  go_wp2_with fail
  go_loopw [7] (fun i wx => ∃ k : Nat, k ≤ 7 ∧ i = .int .i64 k ∧ Below w.heap.size w wx) (fun i _ => 7 - (intOf i).toNat)
  case atStart => exact ⟨0, by omega, rfl, Below.refl _ _⟩
  case round =>
    obtain ⟨k, hk, rfl, hb⟩ := hrel
    have HB := Lib.hid hb
    clear hb
    by_cases hlt : k < 7
    · have hk7 : (k : Int) < 7 := by omega
      go_upto_region 4 with fail
      go_cut [8] (fun b wx => PreR w b wx)
      case first =>
        have kk : k = 0 ∨ k = 1 ∨ k = 2 ∨ k = 3 ∨ k = 4 ∨ k = 5 ∨ k = 6 := by omega
        clear hk hlt hk7
        rcases kk with rfl | rfl | rfl | rfl | rfl | rfl | rfl
        all_goals
          go_wp2_with fail
          go_meet
          have h7 := pre7 w wr (.cells #[.slice none 0 0, .slice (some ⟨wr.heap.size, 0, none⟩) 1 1, .slice (some ⟨wr.heap.size + 1, 0, none⟩) 1 1, .slice (some ⟨wr.heap.size + 1 + 1, 0, none⟩) 1 1, .slice (some ⟨wr.heap.size + 1 + 1 + 1, 0, none⟩) 1 1, .slice (some ⟨wr.heap.size + 1 + 1 + 1 + 1, 0, none⟩) 2 2, .slice (some ⟨wr.heap.size + 1 + 1 + 1 + 1 + 1, 0, none⟩) 2 2] 22) HB.out _ rfl
          first | exact h7.1 | exact h7.2.1 | exact h7.2.2.1 | exact h7.2.2.2.1 | exact h7.2.2.2.2.1 | exact h7.2.2.2.2.2.1 | exact h7.2.2.2.2.2.2
      case rest =>
        obtain ⟨A, m, cap, l0, rfl, hl0, hm2, hi0, hb0, hA, hB⟩ := hcut
        have HI0 := Lib.hid hi0
        have HL0 := Lib.hid hl0
        have HBY := Lib.hid hb0
        have HA := Lib.hid hA
        have HBC := Lib.hid hB
        clear hi0 hl0 hb0 hA hB
        go_wp2_with fail
        go_loopw [9] (fun i wy => ∃ c : Nat, c ≤ 256 ∧ i = .int .i64 c ∧ Below wc.heap.size wc wy) (fun i _ => 256 - (intOf i).toNat)
        case atStart => exact ⟨0, by omega, rfl, Below.refl _ _⟩
        case round =>
          obtain ⟨c, hc, rfl, hby⟩ := hrel
          have HY := Lib.hid hby
          clear hby
          by_cases hcl : c < 256
          · have hc256 : (c : Int) < 256 := by omega
            have u1 : IntKind.u8.wrap (c : Int) = c := by rw [IntKind.wrap_u8]; omega
            have u2 : IntKind.i64.wrap n = n := by rw [IntKind.wrap_i64]; omega
            have u3 : Int.tmod n 256 = n % 256 := Int.tmod_eq_emod_of_nonneg n0
            have u4 : Int.tdiv n 256 = n / 256 := Int.tdiv_eq_ediv_of_nonneg n0
            have u5 : IntKind.u8.wrap (n % 256) = n % 256 := by rw [IntKind.wrap_u8]; omega
            have u6 : IntKind.u8.wrap (n / 256) = n / 256 := by rw [IntKind.wrap_u8]; omega
            have u7 : IntKind.i64.wrap (n / 256) = n / 256 := by rw [IntKind.wrap_i64]; omega
            have lo0 : 0 ≤ n % 256 := by omega
            have lo1 : n % 256 ≤ 255 := by omega
            have hi0 : 0 ≤ n / 256 := by omega
            have hi1 : n / 256 ≤ 255 := by omega
            obtain ⟨lo, hlo⟩ : ∃ x, x = n % 256 := ⟨_, rfl⟩
            obtain ⟨hi, hhi⟩ : ∃ x, x = n / 256 := ⟨_, rfl⟩
            rw [← hlo] at u3 u5 lo0 lo1
            rw [← hhi] at u4 u6 u7 hi0 hi1
            clear hlo hhi
            by_cases k5 : 5 ≤ k
            · have k6 : (5 : Int) ≤ k := by omega
              obtain ⟨s, i, e, b, q, ln, t, hbo⟩ := both_any ((l0 ++ [d]) ++ [(c : Int), lo, hi, d]) (m + 1 + 4) (by simp; have := HL0.out; omega) (by omega) (by
                intro x hx
                simp only [List.mem_append, List.mem_cons, List.not_mem_nil, or_false] at hx
                rcases hx with (hx | hx) | (hx | hx | hx | hx)
                all_goals first | exact HBY.out x hx | (subst hx; exact ⟨by omega, by omega⟩)) pc HPC.out
              have HBO := Lib.hid hbo
              have tne := hbo.ne
              have te1 : (t == []) = false := by simpa using tne
              have te2 : t.isEmpty = false := by simpa using tne
              clear hbo
              go_wp2_with (first
                | (at_builtin
                   refine wpList_appAny wr (by rfl) (.tmp 33) (.tmp 34) 22 (by rfl) wr.heap.size 5 (.int .u8 0) 1 Try.underlying22 infoU8 rfl (.slice none 0 0) 0 [] (by rfl) (World.ownsRow_nil _ _ _ _) A m cap (l0.map (.int .u8)) (by rfl) (by rw [List.length_map]; exact HL0.out) (HI0.out.below HY.out) HA.out (fun u hu => by obtain ⟨x, -, rfl⟩ := List.mem_map.1 hu; rfl) (by unfold maxLen; omega) (by omega) (Nat.le_refl _) ?_
                   intro v2 w2 ho2 hg2
                   rw [Nat.zero_add, List.nil_append] at ho2
                   have HO2 := Lib.hid ho2
                   have HB2 : Hid (Below wr.heap.size wr w2) := Below_own (Below.refl _ _) (World.ownsRow_nil wr wr.heap.size 5 1) hg2 (Nat.le_refl _) (Nat.le_refl _)
                   clear ho2 hg2)
                | (at_builtin
                   refine wpList_appL w2 (by rfl) (.tmp 38) (.tmp 40) 22 (by rfl) wr.heap.size 5 (.int .u8 0) 1 1 Try.underlying22 infoU8 rfl (by decide) v2 m (l0.map (.int .u8)) (by rfl) HO2.out _ 1 (by rfl) (by rfl) (by simp [Value.oneCell']) (by decide) (by omega) (by decide) HB2.out.size ?_
                   intro g3 c3 w3 ho3 hg3 hx3
                   have HO3 := Lib.hid ho3
                   have HB3 : Hid (Below wr.heap.size wr w3) := Below_own HB2.out HO2.out hg3 (Nat.le_refl _) HB2.out.size
                   clear ho3 hg3 hx3)
                | (at_builtin
                   refine wpList_appL w3 (by rfl) (.tmp 42) (.tmp 54) 22 (by rfl) wr.heap.size 5 (.int .u8 0) 1 1 Try.underlying22 infoU8 rfl (by decide) (.slice (some ⟨g3, 0, none⟩) (m + 1) c3) (m + 1) (_) (by rfl) HO3.out _ 4 (by rfl) (by rfl) (by simp [Value.oneCell']) (by decide) (by omega) (by decide) HB3.out.size ?_
                   intro g4 c4 w4 ho4 hg4 hx4
                   obtain ⟨hi4, hc4, hc5⟩ := own_ints ((l0 ++ [d]) ++ [(c : Int), lo, hi, d]) ho4 (by omega) (by simp)
                   have HI4 := Lib.hid hi4
                   have HB4 : Hid (Below wr.heap.size wr w4) := Below_own HB3.out HO3.out hg4 (Nat.le_refl _) HB3.out.size
                   clear ho4 hg4 hx4 hi4))
              refine (HBO.out.r1 w4 g4 c4 HI4.out hc4 hc5).mono ?_
              rintro _ w5 ⟨rfl, hb5⟩
              have HI5 := Lib.hid (HI4.out.below hb5)
              have hB5 : Below wr.heap.size wr (w5.alloc (.cells #[.int .i64 s, .int .i64 i, .int .u8 e, .int .u8 b, .int .u16 q, .int .i64 ln] 26)) := (HB4.out.trans (hb5.mono HB4.out.size)).alloc (HB4.out.trans (hb5.mono HB4.out.size)).size _
              have HB5 := Lib.hid hB5
              have HI6 := Lib.hid (HI5.out.below ((Below.refl _ w5).alloc (Nat.le_refl _) (.cells #[.int .i64 s, .int .i64 i, .int .u8 e, .int .u8 b, .int .u16 q, .int .i64 ln] 26)))
              have HK5 := Lib.hid (Blk.new w5 26 [.int .i64 s, .int .i64 i, .int .u8 e, .int .u8 b, .int .u16 q, .int .i64 ln])
              clear hb5 hB5
              go_wp2_with fail
              refine (HBO.out.r2 _ g4 c4 HI6.out hc4 hc5).mono ?_
              rintro _ w6 ⟨rfl, hb6⟩
              have HK6 := Lib.hid ((HK5.out.below_ hb6).alloc (.cells #[.int .i64 s, .int .i64 i, .int .u8 e, .int .u8 b, .int .u16 q, .int .i64 ln] 29))
              have HK7 := Lib.hid (Blk.new w6 29 [.int .i64 s, .int .i64 i, .int .u8 e, .int .u8 b, .int .u16 q, .int .i64 ln])
              have hB6 := HB5.out.trans (hb6.mono HB5.out.size)
              have HB6 : Hid (Below wr.heap.size wr (w6.alloc (.cells #[.int .i64 s, .int .i64 i, .int .u8 e, .int .u8 b, .int .u16 q, .int .i64 ln] 29))) := Lib.hid (hB6.alloc hB6.size _)
              obtain ⟨k0, k1, k2, k3, k4, k5'⟩ := cells6 HK6.out
              obtain ⟨m0, m1, m2, m3, m4, m5⟩ := cells6 HK7.out
              clear hb6 hB6
              go_wp2_with fail
              refine wp_region_quiet_below (by kernel_rfl) (by kernel_rfl) ?_
              repeat (quiet_step (first | (go_at_call 12; exact HBO.out.s1.q) | (go_at_call 13; exact HBO.out.s2.q) | (go_at_call 11; exact HBO.out.pl.q)))
              refine wpQuiet_nil ?_
              intro _ hwq
              obtain ⟨⟨dq, osq⟩, hwr⟩ := hwq
              subst hwr
              go_wp2
              go_roundw
              case rel => exact ⟨c + 1, by omega, by go_num, HY.out.trans ((below_quiet _ _ _ _ HB6.out).mono HY.out.size)⟩
              case measure => simp [intOf]; omega
            · have k6 : ¬ ((5 : Int) ≤ k) := by omega
              obtain ⟨s, i, e, b, q, ln, t, hbo⟩ := both_any (l0 ++ [(c : Int), lo, hi, d]) (m + 4) (by simp; have := HL0.out; omega) (by omega) (by
                intro x hx
                simp only [List.mem_append, List.mem_cons, List.not_mem_nil, or_false] at hx
                rcases hx with hx | (hx | hx | hx | hx)
                all_goals first | exact HBY.out x hx | (subst hx; exact ⟨by omega, by omega⟩)) pc HPC.out
              have HBO := Lib.hid hbo
              have tne := hbo.ne
              have te1 : (t == []) = false := by simpa using tne
              have te2 : t.isEmpty = false := by simpa using tne
              clear hbo
              go_wp2_with (first
                | (at_builtin
                   refine wpList_appAny wr (by rfl) (.tmp 33) (.tmp 34) 22 (by rfl) wr.heap.size 5 (.int .u8 0) 1 Try.underlying22 infoU8 rfl (.slice none 0 0) 0 [] (by rfl) (World.ownsRow_nil _ _ _ _) A m cap (l0.map (.int .u8)) (by rfl) (by rw [List.length_map]; exact HL0.out) (HI0.out.below HY.out) HA.out (fun u hu => by obtain ⟨x, -, rfl⟩ := List.mem_map.1 hu; rfl) (by unfold maxLen; omega) (by omega) (Nat.le_refl _) ?_
                   intro v2 w2 ho2 hg2
                   rw [Nat.zero_add, List.nil_append] at ho2
                   have HO2 := Lib.hid ho2
                   have HB2 : Hid (Below wr.heap.size wr w2) := Below_own (Below.refl _ _) (World.ownsRow_nil wr wr.heap.size 5 1) hg2 (Nat.le_refl _) (Nat.le_refl _)
                   clear ho2 hg2)
                | (at_builtin
                   refine wpList_appL w2 (by rfl) (.tmp 42) (.tmp 54) 22 (by rfl) wr.heap.size 5 (.int .u8 0) 1 1 Try.underlying22 infoU8 rfl (by decide) v2 m (l0.map (.int .u8)) (by rfl) HO2.out _ 4 (by rfl) (by rfl) (by simp [Value.oneCell']) (by decide) (by omega) (by decide) HB2.out.size ?_
                   intro g4 c4 w4 ho4 hg4 hx4
                   obtain ⟨hi4, hc4, hc5⟩ := own_ints (l0 ++ [(c : Int), lo, hi, d]) ho4 (by omega) (by simp)
                   have HI4 := Lib.hid hi4
                   have HB4 : Hid (Below wr.heap.size wr w4) := Below_own HB2.out HO2.out hg4 (Nat.le_refl _) HB2.out.size
                   clear ho4 hg4 hx4 hi4))
              refine (HBO.out.r1 w4 g4 c4 HI4.out hc4 hc5).mono ?_
              rintro _ w5 ⟨rfl, hb5⟩
              have HI5 := Lib.hid (HI4.out.below hb5)
              have hB5 : Below wr.heap.size wr (w5.alloc (.cells #[.int .i64 s, .int .i64 i, .int .u8 e, .int .u8 b, .int .u16 q, .int .i64 ln] 26)) := (HB4.out.trans (hb5.mono HB4.out.size)).alloc (HB4.out.trans (hb5.mono HB4.out.size)).size _
              have HB5 := Lib.hid hB5
              have HI6 := Lib.hid (HI5.out.below ((Below.refl _ w5).alloc (Nat.le_refl _) (.cells #[.int .i64 s, .int .i64 i, .int .u8 e, .int .u8 b, .int .u16 q, .int .i64 ln] 26)))
              have HK5 := Lib.hid (Blk.new w5 26 [.int .i64 s, .int .i64 i, .int .u8 e, .int .u8 b, .int .u16 q, .int .i64 ln])
              clear hb5 hB5
              go_wp2_with fail
              refine (HBO.out.r2 _ g4 c4 HI6.out hc4 hc5).mono ?_
              rintro _ w6 ⟨rfl, hb6⟩
              have HK6 := Lib.hid ((HK5.out.below_ hb6).alloc (.cells #[.int .i64 s, .int .i64 i, .int .u8 e, .int .u8 b, .int .u16 q, .int .i64 ln] 29))
              have HK7 := Lib.hid (Blk.new w6 29 [.int .i64 s, .int .i64 i, .int .u8 e, .int .u8 b, .int .u16 q, .int .i64 ln])
              have hB6 := HB5.out.trans (hb6.mono HB5.out.size)
              have HB6 : Hid (Below wr.heap.size wr (w6.alloc (.cells #[.int .i64 s, .int .i64 i, .int .u8 e, .int .u8 b, .int .u16 q, .int .i64 ln] 29))) := Lib.hid (hB6.alloc hB6.size _)
              obtain ⟨k0, k1, k2, k3, k4, k5'⟩ := cells6 HK6.out
              obtain ⟨m0, m1, m2, m3, m4, m5⟩ := cells6 HK7.out
              clear hb6 hB6
              go_wp2_with fail
              refine wp_region_quiet_below (by kernel_rfl) (by kernel_rfl) ?_
              repeat (quiet_step (first | (go_at_call 12; exact HBO.out.s1.q) | (go_at_call 13; exact HBO.out.s2.q) | (go_at_call 11; exact HBO.out.pl.q)))
              refine wpQuiet_nil ?_
              intro _ hwq
              obtain ⟨⟨dq, osq⟩, hwr⟩ := hwq
              subst hwr
              go_wp2
              go_roundw
              case rel => exact ⟨c + 1, by omega, by go_num, HY.out.trans ((below_quiet _ _ _ _ HB6.out).mono HY.out.size)⟩
              case measure => simp [intOf]; omega
          · obtain rfl : c = 256 := by omega
            go_wp2_with fail
            go_roundw
            case rel => exact ⟨k + 1, by omega, by go_num, HBC.out.trans (HY.out.mono HBC.out.size)⟩
            case measure => simp [intOf]; omega
    · have hk7 : ¬ ((k : Int) < 7) := by omega
      have HL := Lib.hid (fun u => lives07 u)
      go_wp2_with (first
        | (go_at_call 8; refine (HL.out _).mono ?_; rintro e w1 ⟨rfl, hb1⟩))
      go_ret
      exact ⟨rfl, HB.out.trans (hb1.mono HB.out.size)⟩
end Go.Proofs.Ytjkakmmhbciilaa
