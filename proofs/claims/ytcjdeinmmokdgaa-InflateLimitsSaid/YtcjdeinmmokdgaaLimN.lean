/- inflate.Inflate of any bytes: the walk. -/
import Derived.Test.YtcjdeinmmokdgaaLimM
namespace Go.Proofs.Ytcjdeinmmokdgaa
set_option linter.unusedSimpArgs false
set_option linter.unusedVariables false
open Go.RowKit
/-- bytes were unpacked, or not -/
def InfU (R : Except Int (List Int × Nat)) (w : World) (e : Ending) (w' : World) : Prop :=
  Below w.heap.size w w' ∧ match R with
    | .ok (out, q) => ∃ v, e = .returned (.tuple #[v, .int .i64 ((q + 7) / 8 : Nat), .int .i64 0]) ∧ w'.ownsRow w.heap.size 5 1 v out.length (out.map (.int .u8))
    | .error k => e = .returned (.tuple #[.slice none 0 0, .int .i64 0, .int .i64 k]) ∧ k ≠ 0
/-- what holds ahead of a block -/
def RndU (R : Except Int (List Int × Nat)) (U r : Nat) (A : Option Addr) (c : Nat) (bs : List Int) (lim : Int) (B : Nat) (wE : World) (g : Nat) (wr : World) : Prop :=
  ∃ p out v, R = Uf.inflM lim g out bs p ∧ 8 * bs.length < p + g ∧ Un wr U r A c bs p v out lim B ∧ KeptU B U r wE wr ∧ (out.length : Int) ≤ lim
namespace Uf
theorem infl_end1 {lim : Int} {f : Nat} {out bs : List Int} {p : Nat} (h : ¬ p + 1 ≤ 8 * bs.length) : inflM lim (f + 1) out bs p = .error 2 := by
  rw [inflM, bindM, takeM_err h]
theorem infl_end2 {lim : Int} {f : Nat} {out bs : List Int} {p : Nat} (h : p + 1 ≤ 8 * bs.length) (h2 : ¬ p + 1 + 2 ≤ 8 * bs.length) : inflM lim (f + 1) out bs p = .error 2 := by
  rw [inflM, bindM, takeM_ok h]
  simp only
  rw [bindM, takeM_err h2]
theorem infl_err1 {lim : Int} {f : Nat} {out bs : List Int} {p : Nat} {k : Int} (h : p + 1 ≤ 8 * bs.length) (h2 : p + 1 + 2 ≤ 8 * bs.length) (hb : blockM lim (Hf.takeVal bs (p + 1) 2) out bs (p + 1 + 2) = .error k) : inflM lim (f + 1) out bs p = .error k := by
  rw [inflM, bindM, takeM_ok h]
  simp only
  rw [bindM, takeM_ok h2]
  simp only
  rw [bindM, hb]
theorem infl_next {lim : Int} {f : Nat} {out bs o : List Int} {p q : Nat} (h : p + 1 ≤ 8 * bs.length) (h2 : p + 1 + 2 ≤ 8 * bs.length) (hb : blockM lim (Hf.takeVal bs (p + 1) 2) out bs (p + 1 + 2) = .ok (o, q)) :
    inflM lim (f + 1) out bs p = if Hf.takeVal bs p 1 = 1 then .ok (o, q) else inflM lim f o bs q := by
  rw [inflM, bindM, takeM_ok h]
  simp only
  rw [bindM, takeM_ok h2]
  simp only
  rw [bindM, hb]
  simp only
  split
  · rfl
  · rfl
end Uf
set_option maxRecDepth 100000 in
set_option maxHeartbeats 16000000 in
theorem inflate_all (A : Option Addr) (n c : Nat) (bs : List Int) (lim : Int) (w : World) (h : Ints w A .u8 bs) (hr : ∀ x ∈ bs, 0 ≤ x ∧ x ≤ 255) (hn : bs.length = n) (hc : n ≤ c) (hm : n ≤ 2000) (hA : ∀ ad, A = some ad → ad.block < w.heap.size) (hl0 : 0 ≤ lim) (hl : lim ≤ 1048576) :
    Calls Try.prog 8 #[.slice A n c, .int .i64 lim] w (InfU (Uf.infl bs lim) w) := by
  obtain ⟨R, hR⟩ : ∃ R, R = Uf.infl bs lim := ⟨_, rfl⟩
  rw [← hR]
  unfold Uf.infl at hR
  have hlen : 8 * bs.length < Uf.fuel := by show _ < 100000; omega
  obtain ⟨F, HF⟩ : ∃ F, F = Uf.fuel := ⟨_, rfl⟩
  rw [← HF] at hR
  have HFF := Lib.hid HF
  have HLEN := Lib.hid hlen
  have hlF : 8 * bs.length < F := by rw [HF]; exact hlen
  have HLF := Lib.hid hlF
  have HR := Lib.hid hR
  have HN := Lib.hid hn
  have HRD := Lib.hid (read_any A n c bs w h hr hn (by omega) (by omega))
  have hl1 : ¬ (lim < 0) := by omega
  have HA := Lib.hid hA
  clear h hn hR hA HF hlen hlF hr
  go_enter Try.func8, Try.ntmps8
  go_wp2_with (first
    | (go_at_call 13; refine HRD.out.mono ?_; rintro e w1 ⟨rfl, hb1, hg1⟩; have HB1 := Lib.hid hb1; have HG1 := Lib.hid hg1; clear hb1 hg1))
  have HU1 : Hid (Un (w1.alloc (.cells #[.pointer (some ⟨w.heap.size, 0, none⟩), .slice none 0 0, .int .i64 lim] 36)) w1.heap.size w.heap.size A c bs 0 (.slice none 0 0) [] lim (w1.heap.size + 1)) := by
    have hlt := HB1.out.1.lt
    exact ⟨Blk.new w1 _ [_, _, _], HB1.out.below ((Below.refl _ w1).alloc (Nat.le_refl _) _), World.ownsRow_nil _ _ _ _, by omega, by omega, by omega, fun ad e => by
      have := HA.out ad e
      have := HG1.out.size
      exact ⟨by omega, by omega, by omega⟩, by simp⟩
  have HBE : Hid (Below w.heap.size w (w1.alloc (.cells #[.pointer (some ⟨w.heap.size, 0, none⟩), .slice none 0 0, .int .i64 lim] 36))) := HG1.out.alloc HG1.out.size _
  have hUW := HU1.out.hB
  have hRlt : w.heap.size < w1.heap.size := HB1.out.1.lt
  have HRW := Lib.hid hRlt
  clear hUW hRlt
  go_loopg [] F (fun g wr => RndU R w1.heap.size w.heap.size A c bs lim (w1.heap.size + 1) (w1.alloc (.cells #[.pointer (some ⟨w.heap.size, 0, none⟩), .slice none 0 0, .int .i64 lim] 36)) g wr)
  case atStart => exact ⟨0, [], _, HR.out, by have := HLF.out; omega, HU1.out, KeptU.refl _ _ _ _, by simpa using hl0⟩
  case round =>
    obtain ⟨p, out, v, hR, hpg, hu, hk, ho⟩ := hrel
    obtain ⟨f, rfl⟩ : ∃ f, gk = f + 1 := ⟨gk - 1, by have := hu.bits.2.2.2.1; omega⟩
    have HK0 : Hid (Below w.heap.size w wr) := hk.below HBE.out (by have := HRW.out; omega) (Nat.le_refl _) (by have := HRW.out; omega) HBE.out.size
    have HKU := Lib.hid hk
    have HU := Lib.hid hu
    have HO := Lib.hid ho
    have HPG := Lib.hid hpg
    by_cases c1 : p + 1 ≤ 8 * bs.length
    · by_cases c2 : p + 1 + 2 ≤ 8 * bs.length
      · have hkr := Hf.takeVal_range bs (p + 1) 2
        have HT1 := Lib.hid (utake_good w1.heap.size w.heap.size A c bs p 1 v out lim _ wr hu (by omega) c1 _ rfl)
        have HT2 := Lib.hid (fun u (hu : Un u w1.heap.size w.heap.size A c bs (p + 1) v out lim (w1.heap.size + 1)) => utake_good w1.heap.size w.heap.size A c bs (p + 1) 2 v out lim _ u hu (by omega) c2 _ rfl)
        have HS := Lib.hid (fun u (hu : Un u w1.heap.size w.heap.size A c bs (p + 1 + 2) v out lim (w1.heap.size + 1)) => ublock_any _ hkr.1 hkr.2 w1.heap.size w.heap.size A c bs (p + 1 + 2) v out lim _ u hu ho (by omega) HLEN.out (by omega))
        cases hbm : Uf.blockM lim (Hf.takeVal bs (p + 1) 2) out bs (p + 1 + 2) with
        | error k =>
          rw [Uf.infl_err1 c1 c2 hbm] at hR
          rw [hbm] at HS
          obtain ⟨K, hK⟩ : ∃ K, K = Hf.takeVal bs (p + 1) 2 := ⟨_, rfl⟩
          obtain ⟨X, hX⟩ : ∃ X, X = Hf.takeVal bs p 1 := ⟨_, rfl⟩
          rw [← hK] at HT2 HS
          rw [← hX] at HT1
          have HR1 := Lib.hid hR
          clear hR hu hk ho hpg hkr hbm hK hX c1 c2
          go_wp2_with (first
            | (go_at_call 15; refine (HS.out _ HU3.out).mono ?_; rintro e w4 ⟨hg4, rfl, hk0⟩; have HK4 : Hid (KeptU (w1.heap.size + 1) w1.heap.size w.heap.size wr w4) := (KeptU.of_grown HG3.out).trans hg4; clear hg4)
            | (go_at_call 14; refine (HT2.out _ HU2.out).mono ?_; rintro e w3 ⟨rfl, hu3, hg3⟩; have HU3 := Lib.hid hu3; have HG3 := Lib.hid (grownBy_trans HG2.out hg3); clear hu3 hg3)
            | (go_at_call 14; refine HT1.out.mono ?_; rintro e w2 ⟨rfl, hu2, hg2⟩; have HU2 := Lib.hid hu2; have HG2 := Lib.hid hg2; clear hu2 hg2))
          go_ret3
          refine ⟨HK4.out.below HK0.out (by have := HRW.out; omega) (Nat.le_refl _) (by have := HRW.out; omega) HK0.out.size, ?_⟩
          rw [HR1.out]
          exact ⟨rfl, hk0⟩
        | ok x1 =>
          obtain ⟨o, q⟩ := x1
          rw [Uf.infl_next c1 c2 hbm] at hR
          have hst := (Uf.stable_block _ _ _ bs (p + 1 + 2) o q (by omega) hbm).1
          have hfo := Uf.fit_block lim _ out ho bs (p + 1 + 2) o q hbm
          have HFO : Hid ((o.length : Int) ≤ lim) := hfo
          rw [hbm] at HS
          obtain ⟨K, hK⟩ : ∃ K, K = Hf.takeVal bs (p + 1) 2 := ⟨_, rfl⟩
          obtain ⟨X, hX⟩ : ∃ X, X = Hf.takeVal bs p 1 := ⟨_, rfl⟩
          rw [← hK] at HT2 HS
          rw [← hX] at HT1 hR
          have HPQ := Lib.hid (show 8 * bs.length < q + f by omega)
          clear hu hk ho hpg hkr hbm hK hX c1 c2 hst hfo
          by_cases c3 : X = 1
          · rw [if_pos c3] at hR
            have HR1 := Lib.hid hR
            clear hR
            go_wp2_with (first
              | (go_at_call 15; refine (HS.out _ HU3.out).mono ?_; rintro e w4 ⟨hg4, rfl, ⟨v4, hu4⟩⟩; have HU4 := Lib.hid hu4; have HK4 : Hid (KeptU (w1.heap.size + 1) w1.heap.size w.heap.size wr w4) := (KeptU.of_grown HG3.out).trans hg4; have u41 : w4.cell? ⟨w1.heap.size, 1, none⟩ = some v4 := hu4.blk.cell 1; have u40 : w4.cell? ⟨w1.heap.size, 0, none⟩ = some (.pointer (some ⟨w.heap.size, 0, none⟩)) := hu4.blk.cell 0; clear hu4 hg4)
              | (go_at_call 14; refine (HT2.out _ HU2.out).mono ?_; rintro e w3 ⟨rfl, hu3, hg3⟩; have HU3 := Lib.hid hu3; have HG3 := Lib.hid (grownBy_trans HG2.out hg3); clear hu3 hg3)
              | (go_at_call 14; refine HT1.out.mono ?_; rintro e w2 ⟨rfl, hu2, hg2⟩; have HU2 := Lib.hid hu2; have HG2 := Lib.hid hg2; clear hu2 hg2))
            go_quiet ((go_at_call 16; exact Calls.quiet_of_same ((at_any w.heap.size A c bs q _ (HU4.out.bits.drewN _)).mono fun e w' ⟨h1, h2⟩ => ⟨h1, h2.symm⟩)))
            go_wp2
            go_ret3
            refine ⟨Below_drewN (HK4.out.below HK0.out (by have := HRW.out; omega) (Nat.le_refl _) (by have := HRW.out; omega) HK0.out.size) _, ?_⟩
            rw [HR1.out]
            exact ⟨v4, rfl, own_base HU4.out.own (by have := HRW.out; omega)⟩
          · rw [if_neg c3] at hR
            have HR1 := Lib.hid hR
            have hx : (X == 1) = false := by simpa using c3
            clear hR
            go_wp2_with (first
              | (go_at_call 15; refine (HS.out _ HU3.out).mono ?_; rintro e w4 ⟨hg4, rfl, ⟨v4, hu4⟩⟩; have HU4 := Lib.hid hu4; have HK4 : Hid (KeptU (w1.heap.size + 1) w1.heap.size w.heap.size wr w4) := (KeptU.of_grown HG3.out).trans hg4; clear hu4 hg4)
              | (go_at_call 14; refine (HT2.out _ HU2.out).mono ?_; rintro e w3 ⟨rfl, hu3, hg3⟩; have HU3 := Lib.hid hu3; have HG3 := Lib.hid (grownBy_trans HG2.out hg3); clear hu3 hg3)
              | (go_at_call 14; refine HT1.out.mono ?_; rintro e w2 ⟨rfl, hu2, hg2⟩; have HU2 := Lib.hid hu2; have HG2 := Lib.hid hg2; clear hu2 hg2))
            go_roundg f
            case rel => exact ⟨q, o, v4, HR1.out, HPQ.out, HU4.out, HKU.out.trans HK4.out, HFO.out⟩
            case measure => exact Nat.lt_succ_self _
      · rw [Uf.infl_end2 c1 c2] at hR
        have HR1 := Lib.hid hR
        have HT1 := Lib.hid (utake_good w1.heap.size w.heap.size A c bs p 1 v out lim _ wr hu (by omega) c1 _ rfl)
        have HT2 := Lib.hid (fun u (hu : Un u w1.heap.size w.heap.size A c bs (p + 1) v out lim (w1.heap.size + 1)) => utake_bad w1.heap.size w.heap.size A c bs (p + 1) 2 v out lim _ u hu (by omega) (by omega))
        obtain ⟨X, hX⟩ : ∃ X, X = Hf.takeVal bs p 1 := ⟨_, rfl⟩
        rw [← hX] at HT1
        clear hR hu hk ho hpg hX c1 c2
        go_wp2_with (first
          | (go_at_call 14; refine (HT2.out _ HU2.out).mono ?_; rintro e w3 ⟨rfl, hg3⟩; have HG3 := Lib.hid (grownBy_trans HG2.out hg3); clear hg3)
          | (go_at_call 14; refine HT1.out.mono ?_; rintro e w2 ⟨rfl, hu2, hg2⟩; have HU2 := Lib.hid hu2; have HG2 := Lib.hid hg2; clear hu2 hg2))
        go_ret3
        refine ⟨(KeptU.of_grown (B := w1.heap.size + 1) (U := w1.heap.size) HG3.out).below HK0.out (by have := HRW.out; omega) (Nat.le_refl _) (by have := HRW.out; omega) HK0.out.size, ?_⟩
        rw [HR1.out]
        exact ⟨rfl, by decide⟩
    · rw [Uf.infl_end1 c1] at hR
      have HR1 := Lib.hid hR
      have HT := Lib.hid (utake_bad w1.heap.size w.heap.size A c bs p 1 v out lim _ wr hu (by omega) (by omega))
      clear hR hu hk ho hpg c1
      go_wp2_with (first
        | (go_at_call 14; refine HT.out.mono ?_; rintro e w2 ⟨rfl, hg2⟩; have HG2 := Lib.hid hg2; clear hg2))
      go_ret3
      refine ⟨(KeptU.of_grown (B := w1.heap.size + 1) (U := w1.heap.size) HG2.out).below HK0.out (by have := HRW.out; omega) (Nat.le_refl _) (by have := HRW.out; omega) HK0.out.size, ?_⟩
      rw [HR1.out]
      exact ⟨rfl, by decide⟩
end Go.Proofs.Ytcjdeinmmokdgaa
