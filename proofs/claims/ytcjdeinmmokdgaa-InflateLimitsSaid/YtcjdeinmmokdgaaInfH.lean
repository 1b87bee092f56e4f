/- inflate.Inflate of stored blocks: the walk. -/
import Derived.Test.YtcjdeinmmokdgaaInfG
import Derived.Outline
import Derived.Deep.QuietTactic
import Derived.BigQuiet
import Derived.Deep.RegionHeld3
namespace Go.Proofs.Ytcjdeinmmokdgaa
set_option linter.unusedSimpArgs false
set_option linter.unusedVariables false
open Go.RowKit
/-- what holds ahead of a block -/
def Rnd (R : Hf.Inf) (U r : Nat) (A : Option Addr) (c : Nat) (bs : List Int) (lim : Int) (B : Nat) (wE : World) (g : Nat) (wr : World) : Prop :=
  ∃ q out v, R = Hf.inf g bs q out lim ∧ Un wr U r A c bs (8 * q) v out lim B ∧ KeptU B U r wE wr ∧ (out.length : Int) ≤ lim
def TakeE (r : Nat) (u : World) (e : Ending) (w' : World) : Prop := e = .returned (.tuple #[.int .i64 0, .int .i64 2]) ∧ u.grownBy w' (some r)
def TakeG (U r : Nat) (A : Option Addr) (c : Nat) (bs : List Int) (p : Nat) (x : Int) (v : Value) (out : List Int) (lim : Int) (B : Nat) (u : World) (e : Ending) (w' : World) : Prop := e = .returned (.tuple #[.int .i64 x, .int .i64 0]) ∧ Un w' U r A c bs p v out lim B ∧ u.grownBy w' (some r)
theorem utake_bad (U r : Nat) (A : Option Addr) (c : Nat) (bs : List Int) (pos n : Nat) (v : Value) (out : List Int) (lim : Int) (B : Nat) (w : World) (h : Un w U r A c bs pos v out lim B) (hn : n ≤ 24) (hb : 8 * bs.length < pos + n) :
    Calls Try.prog 14 #[.pointer (some ⟨U, 0, none⟩), .int .i64 n] w (TakeE r w) := (utake_any U r A c bs pos n v out lim B w h hn).mono fun e w' ⟨g1, g2⟩ => by
  rw [if_neg (by omega)] at g2
  exact ⟨g2.1, g1⟩
theorem utake_good (U r : Nat) (A : Option Addr) (c : Nat) (bs : List Int) (pos n : Nat) (v : Value) (out : List Int) (lim : Int) (B : Nat) (w : World) (h : Un w U r A c bs pos v out lim B) (hn : n ≤ 24) (hb : pos + n ≤ 8 * bs.length) (x : Int) (hx : Hf.takeVal bs pos n = x) :
    Calls Try.prog 14 #[.pointer (some ⟨U, 0, none⟩), .int .i64 n] w (TakeG U r A c bs (pos + n) x v out lim B w) := (utake_any U r A c bs pos n v out lim B w h hn).mono fun e w' ⟨g1, g2⟩ => by
  rw [if_pos hb, hx] at g2
  exact ⟨g2.1, g2.2, g1⟩
set_option maxRecDepth 100000 in
set_option maxHeartbeats 8000000 in
theorem inflate_any (A : Option Addr) (n c : Nat) (bs : List Int) (lim : Int) (f : Nat) (w : World) (h : Ints w A .u8 bs) (hr : ∀ x ∈ bs, 0 ≤ x ∧ x ≤ 255) (hn : bs.length = n) (hc : n ≤ c) (hm : n ≤ 2000000) (hA : ∀ ad, A = some ad → ad.block < w.heap.size) (hl0 : 0 ≤ lim) (hl : lim ≤ 1048576) (hno : Hf.inf f bs 0 [] lim ≠ .no) :
    Calls Try.prog 8 #[.slice A n c, .int .i64 lim] w (InfP (Hf.inf f bs 0 [] lim) w) := by
  obtain ⟨R, hR⟩ : ∃ R, R = Hf.inf f bs 0 [] lim := ⟨_, rfl⟩
  rw [← hR] at hno ⊢
  have HR := Lib.hid hR
  have HNO := Lib.hid hno
  have HN := Lib.hid hn
  have HRD := Lib.hid (read_any A n c bs w h hr hn (by omega) (by omega))
  have hl1 : ¬ (lim < 0) := by omega
  have HA := Lib.hid hA
  clear h hn hR hno hA
  go_enter Try.func8, Try.ntmps8
  go_wp2_with (first
    | (go_at_call 13; refine HRD.out.mono ?_; rintro e w1 ⟨rfl, hb1, hg1⟩; have HB1 := Lib.hid hb1; have HG1 := Lib.hid hg1; clear hb1 hg1))
  have HU1 : Hid (Un (w1.alloc (.cells #[.pointer (some ⟨w.heap.size, 0, none⟩), .slice none 0 0, .int .i64 lim] 36)) w1.heap.size w.heap.size A c bs (8 * 0) (.slice none 0 0) [] lim (w1.heap.size + 1)) := by
    have hlt := HB1.out.1.lt
    exact ⟨Blk.new w1 _ [_, _, _], HB1.out.below ((Below.refl _ w1).alloc (Nat.le_refl _) _), World.ownsRow_nil _ _ _ _, by omega, by omega, by omega, fun ad e => by
      have := HA.out ad e
      have := HG1.out.size
      exact ⟨by omega, by omega, by omega⟩, by simp⟩
  have HBE : Hid (Below w.heap.size w (w1.alloc (.cells #[.pointer (some ⟨w.heap.size, 0, none⟩), .slice none 0 0, .int .i64 lim] 36))) := HG1.out.alloc HG1.out.size _
  have hUW := HU1.out.hB
  have hRlt : w.heap.size < w1.heap.size := HB1.out.1.lt
  have HRW := Lib.hid hRlt
  clear hUW hRlt
  go_loopg [] f (fun g wr => Rnd R w1.heap.size w.heap.size A c bs lim (w1.heap.size + 1) (w1.alloc (.cells #[.pointer (some ⟨w.heap.size, 0, none⟩), .slice none 0 0, .int .i64 lim] 36)) g wr)
  case atStart => exact ⟨0, [], _, HR.out, HU1.out, KeptU.refl _ _ _ _, by simpa using hl0⟩
  case round =>
    obtain ⟨q, out, v, hR, hu, hk, ho⟩ := hrel
    have HK0 : Hid (Below w.heap.size w wr) := hk.below HBE.out (by have := HRW.out; omega) (Nat.le_refl _) (by have := HRW.out; omega) HBE.out.size
    have HKU := Lib.hid hk
    have HU := Lib.hid hu
    have HO := Lib.hid ho
    obtain ⟨g, hg, hcs⟩ := Hf.inf_cases gk bs q out lim (by rw [← hR]; exact HNO.out)
    have HGK := Lib.hid hg
    rw [← hR] at hcs
    clear hR hu hk ho hg
    rcases hcs with ⟨c1, hR⟩ | ⟨c1, c2, k, c3, hR⟩ | ⟨c1, c2, c3, c4, c5, c6, hlast⟩
    · have HR1 := Lib.hid hR
      have HT := Lib.hid (utake_bad w1.heap.size w.heap.size A c bs (8 * q) 1 v out lim _ wr HU.out (by omega) (by omega))
      clear hR c1
      go_wp2_with (first
        | (go_at_call 14; refine HT.out.mono ?_; rintro e w2 ⟨rfl, hg2⟩; have HG2 := Lib.hid hg2; clear hg2))
      go_ret3
      refine ⟨(KeptU.of_grown (B := w1.heap.size + 1) (U := w1.heap.size) HG2.out).below HK0.out (by have := HRW.out; omega) (Nat.le_refl _) (by have := HRW.out; omega) HK0.out.size, ?_⟩
      rw [HR1.out]
      exact ⟨rfl, by decide⟩
    · have HR1 := Lib.hid hR
      have hk0 := storeErr_ne c3
      have HKN : Hid (k ≠ 0) := by show _ ≠ _; omega
      have hk1 : ((k : Int) == 0) = false := by simpa using HKN.out
      have hk2 : ((k : Int) != 0) = true := by simpa using HKN.out
      have HT1 := Lib.hid (utake_good w1.heap.size w.heap.size A c bs (8 * q) 1 v out lim _ wr HU.out (by omega) (by omega) _ (Hf.take1 bs q))
      have HT2 := Lib.hid (fun u (hu : Un u w1.heap.size w.heap.size A c bs (8 * q + 1) v out lim (w1.heap.size + 1)) => utake_good w1.heap.size w.heap.size A c bs (8 * q + 1) 2 v out lim _ u hu (by omega) (by omega) 0 (by rw [Hf.take2, c2]))
      have HS := Lib.hid (fun u (hu : Un u w1.heap.size w.heap.size A c bs (8 * q + 1 + 2) v out lim (w1.heap.size + 1)) => ublock0 w1.heap.size u (ustore_err w1.heap.size w.heap.size A c bs q v out lim k _ u hu c3 (by have := HO.out; omega) hl0 (by omega)) (fun e u h => ⟨_, h.1⟩))
      clear hR c1 c2 c3 hk0
      go_wp2_with (first
        | (go_at_call 15; refine (HS.out _ HU3.out).mono ?_; rintro e w4 ⟨rfl, hg4⟩; have HK4 : Hid (KeptU (w1.heap.size + 1) w1.heap.size w.heap.size wr w4) := (KeptU.of_grown HG3.out).trans hg4; clear hg4)
        | (go_at_call 14; refine (HT2.out _ HU2.out).mono ?_; rintro e w3 ⟨rfl, hu3, hg3⟩; have HU3 := Lib.hid hu3; have HG3 := Lib.hid (grownBy_trans HG2.out hg3); clear hu3 hg3)
        | (go_at_call 14; refine HT1.out.mono ?_; rintro e w2 ⟨rfl, hu2, hg2⟩; have HU2 := Lib.hid hu2; have HG2 := Lib.hid hg2; clear hu2 hg2))
      go_ret3
      refine ⟨HK4.out.below HK0.out (by have := HRW.out; omega) (Nat.le_refl _) (by have := HRW.out; omega) HK0.out.size, ?_⟩
      rw [HR1.out]
      exact ⟨rfl, HKN.out⟩
    · have HT1 := Lib.hid (utake_good w1.heap.size w.heap.size A c bs (8 * q) 1 v out lim _ wr HU.out (by omega) (by omega) _ (Hf.take1 bs q))
      have HT2 := Lib.hid (fun u (hu : Un u w1.heap.size w.heap.size A c bs (8 * q + 1) v out lim (w1.heap.size + 1)) => utake_good w1.heap.size w.heap.size A c bs (8 * q + 1) 2 v out lim _ u hu (by omega) (by omega) 0 (by rw [Hf.take2, c2]))
      have HS := Lib.hid (fun u (hu : Un u w1.heap.size w.heap.size A c bs (8 * q + 1 + 2) v out lim (w1.heap.size + 1)) => ublock0 w1.heap.size u (ustore_fine w1.heap.size w.heap.size A c bs q v out lim _ u hu c3 c4 c5 c6 (by have := HO.out; omega) (by omega)) (fun e u h => ⟨_, h.1⟩))
      have HLEN : Hid (((out ++ (bs.drop (q + 5)).take (Hf.le16 bs (q + 1)).toNat).length : Int) ≤ lim) := by
        show _ ≤ _
        have := HO.out
        have := (Hf.le16_range bs hr (q + 1)).1
        simp
        omega
      obtain ⟨p, hp⟩ : ∃ p, p = q + 5 + (Hf.le16 bs (q + 1)).toNat := ⟨_, rfl⟩
      obtain ⟨out2, hout2⟩ : ∃ o, o = out ++ (bs.drop (q + 5)).take (Hf.le16 bs (q + 1)).toNat := ⟨_, rfl⟩
      rw [← hp, ← hout2] at hlast HS
      rw [← hout2] at HLEN
      have HR4 := Lib.hid hr
      clear c1 c2 c3 c4 c5 c6 hp hout2 hr
      rcases hlast with ⟨h1, hR⟩ | ⟨h1, hR⟩
      · have HR1 := Lib.hid hR
        rw [h1] at HT1
        clear hR h1
        go_wp2_with (first
        | (go_at_call 15; refine (HS.out _ HU3.out).mono ?_; rintro e w4 ⟨rfl, ⟨v4, hu4⟩, hg4⟩; have HU4 := Lib.hid hu4; have HK4 : Hid (KeptU (w1.heap.size + 1) w1.heap.size w.heap.size wr w4) := (KeptU.of_grown HG3.out).trans hg4; have u41 : w4.cell? ⟨w1.heap.size, 1, none⟩ = some v4 := hu4.blk.cell 1; have u40 : w4.cell? ⟨w1.heap.size, 0, none⟩ = some (.pointer (some ⟨w.heap.size, 0, none⟩)) := hu4.blk.cell 0; clear hu4 hg4)
        | (go_at_call 14; refine (HT2.out _ HU2.out).mono ?_; rintro e w3 ⟨rfl, hu3, hg3⟩; have HU3 := Lib.hid hu3; have HG3 := Lib.hid (grownBy_trans HG2.out hg3); clear hu3 hg3)
        | (go_at_call 14; refine HT1.out.mono ?_; rintro e w2 ⟨rfl, hu2, hg2⟩; have HU2 := Lib.hid hu2; have HG2 := Lib.hid hg2; clear hu2 hg2))
        go_quiet ((go_at_call 16; exact Calls.quiet_of_same ((at_any w.heap.size A c bs (8 * p) _ (HU4.out.bits.drewN _)).mono fun e w' ⟨h1, h2⟩ => ⟨h1, h2.symm⟩)))
        go_wp2
        go_ret3
        have e8 : (((8 * p + 7) / 8 : Nat) : Int) = p := by omega
        refine ⟨Below_drewN (HK4.out.below HK0.out (by have := HRW.out; omega) (Nat.le_refl _) (by have := HRW.out; omega) HK0.out.size) _, ?_⟩
        rw [HR1.out]
        refine ⟨v4, ?_, own_base HU4.out.own (by have := HRW.out; omega)⟩
        rw [e8]
        rfl
      · have HR1 := Lib.hid hR
        have hx : ((bs.getD q 0 % 2 : Int) == 1) = false := by simpa using h1
        obtain ⟨y, hy⟩ : ∃ y, y = bs.getD q 0 % 2 := ⟨_, rfl⟩
        rw [← hy] at HT1 hx
        clear hR h1 hy
        go_wp2_with (first
        | (go_at_call 15; refine (HS.out _ HU3.out).mono ?_; rintro e w4 ⟨rfl, ⟨v4, hu4⟩, hg4⟩; have HU4 := Lib.hid hu4; have HK4 : Hid (KeptU (w1.heap.size + 1) w1.heap.size w.heap.size wr w4) := (KeptU.of_grown HG3.out).trans hg4; clear hu4 hg4)
        | (go_at_call 14; refine (HT2.out _ HU2.out).mono ?_; rintro e w3 ⟨rfl, hu3, hg3⟩; have HU3 := Lib.hid hu3; have HG3 := Lib.hid (grownBy_trans HG2.out hg3); clear hu3 hg3)
        | (go_at_call 14; refine HT1.out.mono ?_; rintro e w2 ⟨rfl, hu2, hg2⟩; have HU2 := Lib.hid hu2; have HG2 := Lib.hid hg2; clear hu2 hg2))
        go_roundg g
        case rel => exact ⟨p, out2, v4, HR1.out, HU4.out, HKU.out.trans HK4.out, HLEN.out⟩
        case measure => rw [HGK.out]; exact Nat.lt_succ_self _
end Go.Proofs.Ytcjdeinmmokdgaa
