/- tzx.Parse of any bytes; lives. -/
import Derived.Test.YtaipkoeiahjghaaRdZ
import Derived.Test.YtaipkoeiahjghaaTzxL
import Derived.Deep.RegionWith
import Derived.ArgAppend
import Derived.Deep.RegionLawGrows
import Derived.Lib.SmallJoins
namespace Go.Proofs.Ytaipkoeiahjghaa
set_option linter.unusedSimpArgs false
set_option linter.unusedVariables false
open Go.RowKit
theorem parse_any (A : Option Addr) (n c : Nat) (L : List Int) (w : World) (hi : Ints w A .u8 L) (hb : Byts L) (hn : L.length = n) (hc : n ≤ c) : Calls Try.prog 15 #[.slice A n c] w (ParsP L w) := by
  rcases Nat.lt_or_ge 1048576 n with h1 | h1
  · exact parse_long A n c L w hn h1
  rcases Nat.lt_or_ge n 8 with h2 | h2
  · exact parse_short A n c L w hn h2
  by_cases h3 : L.take 8 = Rd.sign8
  · obtain ⟨v, h4⟩ : ∃ v, L[0]? = some v := ⟨_, List.getElem?_eq_getElem (by omega)⟩
    obtain ⟨ad, rfl, hcell⟩ := hi 0 (.int .u8 v) (by simp [h4])
    exact parse_signed ad n c L w hi hb hn h2 h1 hc (block_lt_of_cell hcell) h3
  · exact parse_unsigned A n c L w hi hb hn h2 h1 hc h3
theorem parseD10 : Rd.parseD head10 = .tape 1 20 [] := by kernel_rfl
theorem parseD11 : Rd.parseD (head10 ++ [37]) = .fault 6 10 := by kernel_rfl
theorem pz10 (a : Nat) (w : World) (h : Ints w (some ⟨a, 0, none⟩) .u8 head10) : Calls Try.prog 15 #[.slice (some ⟨a, 0, none⟩) 10 10] w fun e w' => ∃ B d, e = .returned (.tuple #[.agg #[.int .i64 1, .int .i64 20, .slice B 0 d], Value.nilIface]) ∧ Below w.heap.size w w' :=
  (parse_any (some ⟨a, 0, none⟩) 10 10 head10 w h (by intro x hx; simp [head10] at hx; omega) rfl (by decide)).mono fun e w' ⟨hb, h⟩ => by
    rw [parseD10] at h
    obtain ⟨bl, X, cs, rfl, ho, -⟩ := h
    obtain ⟨B, d, rfl⟩ := own_form ho
    exact ⟨B, d, rfl, hb⟩
theorem pz11 (a c : Nat) (w : World) (h : Ints w (some ⟨a, 0, none⟩) .u8 (head10 ++ [37])) (hc : 11 ≤ c) : Calls Try.prog 15 #[.slice (some ⟨a, 0, none⟩) 11 c] w fun e w' => ∃ F, e = .returned (.tuple #[.agg #[.int .i64 0, .int .i64 0, .slice none 0 0], .iface 48 (.pointer (some ⟨F, 0, none⟩))]) ∧ Below w.heap.size w w' ∧ Blk w' F 51 [.int .i64 6, .int .i64 10] :=
  (parse_any (some ⟨a, 0, none⟩) 11 c (head10 ++ [37]) w h (by intro x hx; simp [head10] at hx; omega) rfl hc).mono fun e w' ⟨hb, h⟩ => by
    rw [parseD11] at h
    obtain ⟨F, rfl, hf⟩ := h
    exact ⟨F, rfl, hb, hf⟩
theorem infoByteZ : (Try.prog.info? 5).map (fun i => (i.zero, i.size, i.bytes)) = some (some (.int .u8 0), 1, 1) := by kernel_rfl
def Yes (w : World) (e : Ending) (w' : World) : Prop := e = .returned (.bool true) ∧ Below w.heap.size w w'
theorem head_is (w : World) : Calls Try.prog 17 #[] w fun e w' => ∃ a, e = .returned (.slice (some ⟨a, 0, none⟩) 10 10) ∧ Ints w' (some ⟨a, 0, none⟩) .u8 head10 ∧ Below w.heap.size w w' ∧ a < w'.heap.size :=
  (head_any w).mono fun e w' ⟨h1, h2⟩ => ⟨w.heap.size, h1, by rw [h2]; exact head_ints w, by rw [h2]; exact (Below.refl _ w).alloc (Nat.le_refl _) _, by rw [h2]; simp⟩
theorem wpList_app11 (w : World) {ops : Array Oper} {rest : List Oper} {o : Oper} {a : Act} {Q : Exit → Act → World → Prop}
    (hg : o.guard = none) (s x : Operand) (hop : o.op = Op.call { callee := Callee.builtin Builtin.append, args := #[s, x], argTypes := #[25, 25] })
    (b g : Nat) (hs : a.eval s = .slice (some ⟨b, 0, none⟩) 10 10) (hx : a.eval x = .slice (some ⟨g, 0, none⟩) 1 1) (hb : Ints w (some ⟨b, 0, none⟩) .u8 head10) (hc : w.cell? ⟨g, 0, none⟩ = some (.int .u8 37))
    (hK : ∀ b' c w', Ints w' (some ⟨b', 0, none⟩) .u8 (head10 ++ [37]) → b' < w'.heap.size → 11 ≤ c → Below w.heap.size w w' → wpList Try.prog ops Q rest (a.put o.dst (.slice (some ⟨b', 0, none⟩) 11 c)) w') :
    wpList Try.prog ops Q (o :: rest) a w := by
  obtain ⟨i0, hi0, hz0, hz1, hz2⟩ := info_parts infoByteZ
  refine wpList_append_grows w hg s x 25 hop 5 i0 (.int .u8 0) 1 1 Try.underlying25 hi0 hz0 hz1 hz2 rfl (by decide) (some ⟨b, 0, none⟩) 10 10 (head10.map (.int .u8)) hs (by simp) rfl ?_ ⟨g, 0, none⟩ 1 1 [.int .u8 37] hx rfl ?_ (by simp [Value.oneCell']) (by decide) (by unfold maxLen; decide) (by decide) ?_
  · intro ad e j u hj
    injection e with e
    subst e
    obtain ⟨ad', e', h⟩ := hb j u hj
    injection e' with e'
    subst e'
    exact h
  · intro j u hj
    match j, hj with
    | 0, hj =>
      simp at hj
      subst hj
      exact hc
    | j + 1, hj => simp at hj
  · intro v' w' ho hgr
    obtain ⟨b', c, rfl⟩ := Joins.ownsRow_form ho (by decide)
    have hcells := ho.cells (g := b') rfl
    have hlt := ho.lt b' rfl
    have hcap : 11 ≤ c := by
      rcases ho.2 with ⟨_, h0⟩ | ⟨g', cap, cs, hv, h2, h3, h4, h5⟩
      · omega
      · injection hv with _ _ hv; omega
    refine hK b' c w' (fun i v hi => ⟨_, rfl, hcells i v (by simpa [head10] using hi)⟩) hlt.2 hcap ⟨hgr.os, hgr.tape, hgr.output, hgr.size, fun k hk => hgr.block k hk (by simp)⟩
set_option maxHeartbeats 4000000 in
theorem lives19 (w : World) : Calls Try.prog 6 #[] w (Yes w) := by
  go_enter Try.func6, Try.ntmps6
  go_wp2_with (first
    | (go_at_call 16; refine (why_fault F5 6 10 _ HF5.out).mono ?_; rintro e w6 ⟨rfl, q6, rfl⟩)
    | (go_at_call 15
       refine (pz11 _ _ _ HI4.out HC4.out).mono ?_
       rintro e w5 ⟨F5, rfl, hb5, hf5⟩
       have HB5 := Lib.hid (HB4.out.trans (hb5.mono HB4.out.size))
       have HV5 := Lib.hid ((HV4.out.below_ hb5).alloc (.cells #[.int .i64 0, .int .i64 0, .slice none 0 0] 43))
       have HF5 : Hid (Blk (w5.alloc (.cells #[.int .i64 0, .int .i64 0, .slice none 0 0] 43)) F5 51 [.int .i64 6, .int .i64 10]) := hf5.alloc _
       have v50 := fun q => (HV5.out.drewN q).cell 0
       have v51 := fun q => (HV5.out.drewN q).cell 1
       have v52 := fun q => (HV5.out.drewN q).cell 2
       clear hb5 hf5)
    | (at_builtin
       refine wpList_app11 _ rfl (.tmp 13) (.tmp 14) rfl a3 w3.heap.size rfl rfl (HI3.out.below ((Below.refl _ w3).alloc (Nat.le_refl _) _)) ((Blk.new w3 _ [.int .u8 37]).cell 0) ?_
       intro b4 c4 w4 hi4 ha4 hc4 hb4
       have HI4 := Lib.hid hi4
       have HA4 := Lib.hid ha4
       have HC4 := Lib.hid hc4
       have hb3 : Below w3.heap.size w3 w4 := ((Below.refl _ w3).alloc (Nat.le_refl _) _).trans (hb4.mono (by simp))
       have HB4 := Lib.hid (HB3.out.trans (hb3.mono HB3.out.size))
       have HV4 := Lib.hid (HV3.out.below_ hb3)
       clear hi4 ha4 hc4 hb4 hb3)
    | (go_at_call 17
       have hb23 := HB2.out.alloc HB2.out.size (.cells #[.int .i64 1, .int .i64 20, .slice B2 0 d2] 43)
       refine (head_is (w2.alloc (.cells #[.int .i64 1, .int .i64 20, .slice B2 0 d2] 43))).mono ?_
       rintro e w3 ⟨a3, rfl, hi3, hb3, ha3⟩
       have HI3 := Lib.hid hi3
       have HV3 := Lib.hid ((Blk.new w2 43 [.int .i64 1, .int .i64 20, .slice B2 0 d2]).below_ hb3)
       have HB3 := Lib.hid (hb23.trans (hb3.mono hb23.size))
       clear hi3 ha3 hb3 hb23)
    | (go_at_call 15
       refine (pz10 _ _ HI1.out).mono ?_
       rintro e w2 ⟨B2, d2, rfl, hb2⟩
       have HB2 := Lib.hid (HB1.out.trans (hb2.mono HB1.out.size))
       clear hb2)
    | (go_at_call 17
       refine (head_is _).mono ?_
       rintro e w1 ⟨a1, rfl, hi1, hb1, ha1⟩
       have HI1 := Lib.hid hi1
       have HA1 := Lib.hid ha1
       have HB1 : Hid (Below w.heap.size w w1) := hb1
       clear hi1 ha1 hb1))
  go_ret
  exact ⟨rfl, Below_drewN (HB5.out.alloc HB5.out.size _) q6⟩
end Go.Proofs.Ytaipkoeiahjghaa
