/- The law RleBack: its own body. -/
import Derived.Test.YtbemlmpajnklpaaRleJ
import Derived.Deep.DeepCutAuto
namespace Go.Proofs.Ytbemlmpajnklpaa
set_option linter.unusedSimpArgs false
set_option linter.unusedVariables false
open Go.RowKit
theorem own_blk0 {w : World} {B n c g : Nat} {t : TypeId} {xs : List Value} (h : w.ownsRow B t 1 (.slice (some ⟨g, 0, none⟩) n c) n xs) : ∃ ys, Blk w g t (xs ++ ys) ∧ n ≤ c := by
  rcases h.2 with ⟨h1, _⟩ | ⟨g', c', cur, hv, _, hb, hc, _, hs, ht⟩
  · cases h1
  · injection hv with ha hb' hc'
    injection ha with ha
    injection ha with ha
    subst ha hc'
    rw [Nat.mul_one] at ht
    refine ⟨cur.toList.drop n, ?_, hc⟩
    show w.heap[g]? = _
    rw [hb, ← ht, List.take_append_drop]
theorem ints_of_blk1 {w : World} {g : Nat} {t : TypeId} {k : IntKind} {l : List Int} {ys : List Value} (h : Blk w g t (l.map (Value.int k) ++ ys)) : Ints w (some ⟨g, 0, none⟩) k l := fun i v hi => by
  refine ⟨_, rfl, ?_⟩
  have hadd : (⟨g, 0, none⟩ : Addr).add i = ⟨g, i, none⟩ := by unfold Addr.add; split <;> simp_all
  have hlt : i < (l.map (Value.int k)).length := (List.getElem?_eq_some_iff.1 hi).1
  rw [hadd, h.cell, List.getElem?_append_left hlt, hi]
def SpellO (l : List Int) (w : World) (e : Ending) (w' : World) : Prop :=
  ∃ v, e = .returned (.tuple #[v, .int .i64 0]) ∧ w'.ownsRow w.heap.size 5 1 v (Rl.spell l).length ((Rl.spell l).map (.int .u8)) ∧ Below w.heap.size w w'
theorem spell_ok (A : Option Addr) (n c : Nat) (l : List Int) (w : World) (hl : Ints w A .i64 l) (hn : l.length = n) (hn1 : n ≤ 1000) (hm : Rl.May l) :
    Calls Try.prog 9 #[.slice A n c] w (SpellO l w) := (spell_any A n c l w hl hn hn1).mono fun e w' h => (h.resolve_right (fun h => h.1 hm)).2
theorem spell_bad (A : Option Addr) (n c : Nat) (l : List Int) (w : World) (hl : Ints w A .i64 l) (hn : l.length = n) (hn1 : n ≤ 1000) (hm : ¬ Rl.May l) :
    Calls Try.prog 9 #[.slice A n c] w (NoListP 5 w) := (spell_any A n c l w hl hn hn1).mono fun e w' h => (h.resolve_left (fun h => hm h.1)).2
theorem rback_long (A : Option Addr) (n c : Nat) (rate : Int) (w : World) (h : 1000 < n) : Calls Try.prog 4 #[.slice A n c, .int .i64 rate] w (Yes w) := by
  have HL := Lib.hid (lives21 w)
  have h2 : (1000 : Int) < n := by omega
  clear h
  go_enter Try.func4, Try.ntmps4
  go_wp2_with (first
    | (go_at_call 5; refine HL.out.mono ?_; rintro e w1 ⟨rfl, hb1⟩; have HB1 := Lib.hid hb1; clear hb1))
  go_ret
  exact ⟨rfl, HB1.out⟩
set_option maxRecDepth 100000 in
set_option maxHeartbeats 8000000 in
theorem rback_any (A : Option Addr) (n c : Nat) (l : List Int) (rate : Int) (w : World) (hl : Ints w A .i64 l) (hn : l.length = n) (hn1 : n ≤ 1000) :
    Calls Try.prog 4 #[.slice A n c, .int .i64 rate] w (Yes w) := by
  have HLV := Lib.hid lives21
  have HL := Lib.hid hl
  have HN := Lib.hid hn
  have HSP := Lib.hid (spell_ok A n c l w hl hn hn1)
  have HSB := Lib.hid (spell_bad A n c l w hl hn hn1)
  have h1000 : ¬ ((1000 : Int) < n) := by omega
  clear hl hn
  go_enter Try.func4, Try.ntmps4
  go_wp2_with fail
  go_loop [5, 6, 7] (fun r s i => ∃ k : Nat, k ≤ n ∧ i = .int .i64 (k : Nat) ∧ r = .bool (Rl.rightB (l.take k)) ∧ s = .int .i64 (Rl.sumR (l.take k))) (fun _ _ i => n - (intOf i).toNat)
  case atStart => exact ⟨0, Nat.zero_le _, rfl, rfl, rfl⟩
  case round =>
    obtain ⟨k, hk, rfl, rfl, rfl⟩ := hrel
    have hsr := Rl.sumR_range (l.take k)
    have hs1 : (l.take k).length ≤ 1000 := by rw [List.length_take]; omega
    by_cases hlt : k < n
    · have hkl : k < l.length := by rw [HN.out]; exact hlt
      obtain ⟨x, hx⟩ : ∃ x, x = l[k] := ⟨_, rfl⟩
      obtain ⟨ad, rfl, hc⟩ := HL.out k (.int .i64 x) (by rw [List.getElem?_map, List.getElem?_eq_getElem hkl, hx]; rfl)
      have HR1 : Hid (Rl.rightB (l.take (k + 1)) = (Rl.rightB (l.take k) && Rl.okR x)) := by show _ = _; rw [List.take_succ_eq_append_getElem hkl, hx, Rl.rightB_snoc]
      have HS1 : Hid (Rl.sumR (l.take (k + 1)) = Rl.sumR (l.take k) + if Rl.okR x then x else 0) := by show _ = _; rw [List.take_succ_eq_append_getElem hkl, hx, Rl.sumR_snoc]
      have hkn : (k : Int) < n := by omega
      obtain ⟨s, hs⟩ : ∃ s, s = Rl.sumR (l.take k) := ⟨_, rfl⟩
      obtain ⟨r, hr⟩ : ∃ r, r = Rl.rightB (l.take k) := ⟨_, rfl⟩
      rw [← hs] at hsr HS1 ⊢
      rw [← hr] at HR1 ⊢
      obtain ⟨s0, s1⟩ := hsr
      have s2 : s ≤ 4294967295000 := by omega
      clear hkl hx hs hr hs1 s1
      by_cases x1 : x < 1
      · have hok : Rl.okR x = false := by simp [Rl.okR]; omega
        have HOK := Lib.hid hok
        clear hok
        go_wp2
        go_round
        case rel => exact ⟨k + 1, by omega, by go_num, by rw [HR1.out, HOK.out, Bool.and_false], by rw [HS1.out, HOK.out]; simp⟩
        case measure => simp [intOf]; omega
      · have d1 : decide (x < 1) = false := by simpa using x1
        by_cases x2 : 4294967295 < x
        · have hok : Rl.okR x = false := by simp [Rl.okR]; omega
          have HOK := Lib.hid hok
          clear hok
          go_wp2
          go_round
          case rel => exact ⟨k + 1, by omega, by go_num, by rw [HR1.out, HOK.out, Bool.and_false], by rw [HS1.out, HOK.out]; simp⟩
          case measure => simp [intOf]; omega
        · have hok : Rl.okR x = true := by simp [Rl.okR]; omega
          have HOK := Lib.hid hok
          clear hok
          go_wp2
          go_round
          case rel => exact ⟨k + 1, by omega, by go_num, by rw [HR1.out, HOK.out, Bool.and_true], by rw [HS1.out, HOK.out]; simp⟩
          case measure => simp [intOf]; omega
    · obtain rfl : k = n := by omega
      have htk : l.take k = l := List.take_of_length_le (by rw [HN.out]; exact Nat.le_refl _)
      rw [htk] at hsr ⊢
      clear htk hs1 hk hlt
      have hs9 : l.length ≤ 1000 := by rw [HN.out]; exact hn1
      obtain ⟨s, hs⟩ : ∃ s, s = Rl.sumR l := ⟨_, rfl⟩
      rw [← hs] at hsr ⊢
      obtain ⟨s0, s1⟩ := hsr
      have s2 : s ≤ 4294967295000 := by omega
      have HSS := Lib.hid hs
      clear hs s1 hs9
      by_cases hmay : Rl.May l
      · have hrb := (Rl.rightB_iff l).2 hmay
        rw [hrb]
        clear hrb
        have HMAY := Lib.hid hmay
        have hsl := Rl.spell_len l
        obtain ⟨m1, hm1⟩ : ∃ m1, m1 = (Rl.spell l).length := ⟨_, rfl⟩
        obtain ⟨NP, hNP⟩ : ∃ NP, NP = (Zl.pack (Rl.spell l)).length := ⟨_, rfl⟩
        have hm5 : m1 ≤ 5000 := by have := HN.out; omega
        have HM1 := Lib.hid hm1
        have HNP := Lib.hid hNP
        have HR1 := Lib.hid (fun u K cc (hi : Ints u K .u8 (Rl.spell l)) (hcc : m1 ≤ cc) => runs_all K m1 cc k l u hi hm1.symm hcc HN.out hn1 hmay)
        have HPK := Lib.hid (fun u K cc (hi : Ints u K .u8 (Rl.spell l)) (hcc : m1 ≤ cc) (hc2 : cc ≤ 9223372036854775807) (hK : K = none → m1 = 0 ∧ cc = 0) => pack_any K m1 cc (Rl.spell l) u hi (spell_byts l hmay) hm1.symm hcc hc2 (by omega) hK)
        have HR2 := Lib.hid (fun u g cc (hi : Ints u (some ⟨g, 0, none⟩) .u8 (Zl.pack (Rl.spell l))) (hcc : NP ≤ cc) (hg : g < u.heap.size) => runs_packed g NP cc k l u hi hNP.symm hcc HN.out hn1 hmay hg)
        have HSM := Lib.hid (fun u B d d2 (ha : Ints u B .i64 l) (hb : Ints u A .i64 l) => same_any B A k d d2 l u ha hb HN.out hn1)
        clear hmay hsl hm1 hNP
        go_upto_region 17 with (first
          | (go_at_call 8
             refine (HSM.out _ B4 c4 c (Cells.drewN HC4.out q5) (Cells.drewN HL4.out q5)).mono ?_
             rintro e w6 ⟨rfl, q6, rfl⟩)
          | (go_at_call 8
             refine (HSM.out _ B2 c2 c HC24.out HL4.out).mono ?_
             rintro e w5 ⟨rfl, q5, rfl⟩)
          | (go_at_call 10
             refine (HR2.out w3 g3 c3 HI3.out HX3.out HG3.out).mono ?_
             rintro e w4 ⟨B4, c4, rfl, h1, h2, h3⟩
             rw [HN.out]
             have HB4 := Lib.hid (HB3.out.trans (h3.mono HB3.out.size))
             have HC4 := Lib.hid h2
             have HC24 := Lib.hid (Cells.below HC23.out h3)
             have HL4 := Lib.hid (Cells.below HL.out HB4.out)
             clear h1 h2 h3)
          | (go_at_call 11
             refine (HPK.out w2 K1 c1 (Cells.below HC1.out HB12.out) HX1.out.1 HX1.out.2 HN1.out).mono ?_
             rintro e w3 ⟨g3, c3, rfl, ho3, hb3⟩
             obtain ⟨ys, hblk, hcc⟩ := own_blk0 ho3
             rw [← HNP.out] at hcc ⊢
             have HI3 : Hid (Ints w3 (some ⟨g3, 0, none⟩) .u8 (Zl.pack (Rl.spell l))) := ints_of_blk1 hblk
             have HX3 := Lib.hid hcc
             have HG3 : Hid (g3 < w3.heap.size) := (ho3.lt g3 rfl).2
             have HB3 := Lib.hid (HB2.out.trans (hb3.mono HB2.out.size))
             have HC23 := Lib.hid (Cells.below HC2.out hb3)
             clear ho3 hblk hcc hb3)
          | (go_at_call 10
             refine (HR1.out w1 K1 c1 HC1.out HX1.out.1).mono ?_
             rintro e w2 ⟨B2, c2, rfl, h1, h2, h3⟩
             rw [HN.out]
             have HB12 := Lib.hid h3
             have HB2 := Lib.hid (HB1.out.trans (h3.mono HB1.out.size))
             have HC2 := Lib.hid h2
             clear h1 h2 h3)
          | (go_at_call 9
             refine (HSP.out HMAY.out).mono ?_
             rintro e w1 ⟨v1, rfl, ho1, hb1⟩
             obtain ⟨K1, c1, rfl, hc1, hnn, hx1, hx2⟩ := own_slice4 ho1
             rw [← HM1.out] at hnn hx1 ⊢
             have HC1 : Hid (Ints w1 K1 .u8 (Rl.spell l)) := hc1
             have HN1 := Lib.hid hnn
             have HX1 := Lib.hid (And.intro hx1 hx2)
             have HB1 := Lib.hid hb1
             clear ho1 hb1 hc1 hnn hx1 hx2))
        by_cases r1 : rate < 1
        · go_wp2_with (first
            | (go_at_call 5; refine (HLV.out _).mono ?_; rintro e w8 ⟨rfl, hb8⟩; have HB8 := Lib.hid ((Below_drewN HB4.out _).trans (hb8.mono (Below_drewN HB4.out _).size)); clear hb8))
          go_ret
          exact ⟨rfl, HB8.out⟩
        · have d1 : decide (rate < 1) = false := by simpa using r1
          by_cases r2 : 16777215 < rate
          · go_wp2_with (first
              | (go_at_call 5; refine (HLV.out _).mono ?_; rintro e w8 ⟨rfl, hb8⟩; have HB8 := Lib.hid ((Below_drewN HB4.out _).trans (hb8.mono (Below_drewN HB4.out _).size)); clear hb8))
            go_ret
            exact ⟨rfl, HB8.out⟩
          · have d2 : decide (16777215 < rate) = false := by simpa using r2
            by_cases r3 : 274877906944 < s
            · go_wp2_with (first
                | (go_at_call 5; refine (HLV.out _).mono ?_; rintro e w8 ⟨rfl, hb8⟩; have HB8 := Lib.hid ((Below_drewN HB4.out _).trans (hb8.mono (Below_drewN HB4.out _).size)); clear hb8))
              go_ret
              exact ⟨rfl, HB8.out⟩
            · have d3 : decide (274877906944 < s) = false := by simpa using r3
              have hsc : Rl.scan 274877906944 l = false := Rl.scan_ok l HMAY.out _ (by have := HSS.out; omega)
              have HT := Lib.hid (fun u (hu : Below w.heap.size w u) => times_ok A k c rate l u (Cells.below HL.out hu) HN.out hn1 (by omega) (by omega) hsc)
              have HPT := Lib.hid (Rl.steps_part rate (by omega) l HMAY.out (by have := HSS.out; omega))
              have HPS := Lib.hid (Rl.steps_pos rate (by omega) l HMAY.out)
              have hRl := Rl.steps_len rate l 0 0
              obtain ⟨R, hR⟩ : ∃ R, R = Rl.steps rate 0 0 l := ⟨_, rfl⟩
              rw [← hR] at HT HPT HPS hRl
              rw [HN.out] at hRl
              have HRL := Lib.hid hRl
              clear hsc hR hRl
              go_wp2_with (first
                | (go_at_call 6
                   refine (HT.out _ (Below_drewN HB4.out _)).mono ?_
                   rintro e w7 ⟨B7, c7, rfl, h1, h2, h3⟩
                   rw [HRL.out]
                   have HC7 := Lib.hid h2
                   have HB7 := Lib.hid ((Below_drewN HB4.out _).trans (h3.mono (Below_drewN HB4.out _).size))
                   clear h1 h2 h3))
              go_loop [16, 17] (fun a i => ∃ j : Nat, j ≤ k ∧ i = .int .i64 (j : Nat) ∧ a = .int .i64 (R.take j).sum) (fun _ i => k - (intOf i).toNat)
              case atStart => exact ⟨0, Nat.zero_le _, rfl, by simp⟩
              case round =>
                obtain ⟨j, hj, rfl, rfl⟩ := hrel
                obtain ⟨-, p0, p1⟩ := HPT.out j (by have := HN.out; omega)
                by_cases hjk : j < k
                · have hjl : j < R.length := by rw [HRL.out]; exact hjk
                  obtain ⟨x, hx⟩ : ∃ x, x = R[j] := ⟨_, rfl⟩
                  obtain ⟨ad7, rfl, hc7⟩ := HC7.out j (.int .i64 x) (by rw [List.getElem?_map, List.getElem?_eq_getElem hjl, hx]; rfl)
                  have hx0 := HPS.out x (by rw [hx]; exact List.getElem_mem hjl)
                  have hst : (R.take (j + 1)).sum = (R.take j).sum + x := by rw [List.take_succ_eq_append_getElem hjl, hx, Rl.sum_snoc]
                  obtain ⟨-, -, p2⟩ := HPT.out (j + 1) (by have := HN.out; omega)
                  rw [hst] at p2
                  have HST := Lib.hid hst
                  have hjk2 : (j : Int) < k := by omega
                  have hxn : ¬ (x < 0) := by omega
                  obtain ⟨z, hz⟩ : ∃ z, z = (R.take j).sum := ⟨_, rfl⟩
                  rw [← hz] at p0 p1 p2 HST ⊢
                  clear hjl hx hst hz
                  go_wp2
                  go_round
                  case rel => exact ⟨j + 1, by omega, by go_num, by rw [HST.out]⟩
                  case measure => simp [intOf]; omega
                · obtain rfl : j = k := by omega
                  have hfin := (HPT.out j (by have := HN.out; omega)).1
                  have htl : l.take j = l := List.take_of_length_le (by rw [HN.out]; exact Nat.le_refl _)
                  rw [htl, ← HSS.out] at hfin
                  obtain ⟨z, hz⟩ : ∃ z, z = (R.take j).sum := ⟨_, rfl⟩
                  rw [← hz] at p0 p1 hfin ⊢
                  have hq : ((z : Int) == s * 3500000 / rate) = true := by rw [hfin]; simp [Rl.upTo]
                  clear hfin htl hz hjk
                  go_wp2_with (first
                    | (go_at_call 5; refine (HLV.out _).mono ?_; rintro e w8 ⟨rfl, hb8⟩; have HB8 := Lib.hid (HB7.out.trans (hb8.mono HB7.out.size)); clear hb8))
                  go_ret
                  exact ⟨rfl, HB8.out⟩
      · have hrb : Rl.rightB l = false := by
          cases hb : Rl.rightB l with
          | false => rfl
          | true => exact absurd ((Rl.rightB_iff l).1 hb) hmay
        rw [hrb]
        have HMAY := Lib.hid hmay
        clear hrb hmay
        go_wp2_with (first
          | (go_at_call 9
             refine (HSB.out HMAY.out).mono ?_
             rintro e w1 ⟨rfl, hb1⟩
             have HB1 := Lib.hid hb1
             clear hb1)
          | (go_at_call 5; refine (HLV.out _).mono ?_; rintro e w3 ⟨rfl, hb3⟩; have HB3 := Lib.hid (HB1.out.trans (hb3.mono HB1.out.size)); clear hb3))
        go_ret
        exact ⟨rfl, HB3.out⟩
end Go.Proofs.Ytbemlmpajnklpaa
