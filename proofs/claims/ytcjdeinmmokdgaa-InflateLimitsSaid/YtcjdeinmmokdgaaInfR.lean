/- inflate: the chapter's example. -/
import Derived.Test.YtcjdeinmmokdgaaInfQ
namespace Go.Proofs.Ytcjdeinmmokdgaa
set_option linter.unusedSimpArgs false
set_option linter.unusedVariables false
open Go.RowKit
/-- the example's bytes -/
def exB : List Int := [75, 4, 0]
theorem ex_next1 : Hf.next Hf.usualL exB 3 = (97, 0, 8) := by decide +kernel
theorem ex_next2 : Hf.next Hf.usualL exB 11 = (256, 0, 7) := by decide +kernel
theorem TabR.bits {w w' : World} {g r : Nat} {l : List Int} {cs : List Value} (h : TabR w g l) (hr : Blk w r 47 cs) (hg : w.grownBy w' (some r)) : TabR w' g l := h.grown hr hg
def ExR (U r : Nat) (A : Option Addr) (c : Nat) (B gt : Nat) (w : World) (g : Nat) (wr : World) : Prop :=
  ∃ p out v, ((g = 1 ∧ p = 3 ∧ out = []) ∨ (g = 0 ∧ p = 11 ∧ out = [97])) ∧ Un wr U r A c exB p v out 9 B ∧ TabR wr gt Hf.usualL ∧ KeptU B U r w wr
set_option maxRecDepth 100000 in
set_option maxHeartbeats 4000000 in
theorem coded_ex (U r : Nat) (A : Option Addr) (c : Nat) (v : Value) (B gt gd : Nat) (w : World) (h : Un w U r A c exB 3 v [] 9 B) (hT : TabR w gt Hf.usualL) :
    Calls Try.prog 24 #[.pointer (some ⟨U, 0, none⟩), .pointer (some ⟨gt, 0, none⟩), .pointer (some ⟨gd, 0, none⟩)] w (StoreP U r A c exB 18 [97] 9 B w) := by
  have HH := Lib.hid h
  have HT := Lib.hid hT
  clear h hT
  go_enter Try.func24, Try.ntmps24
  go_wp2_with fail
  go_loopg [] 1 (fun g wr => ExR U r A c B gt w g wr)
  case atStart => exact ⟨3, [], v, .inl ⟨rfl, rfl, rfl⟩, HH.out, HT.out, KeptU.refl _ _ _ _⟩
  case round =>
    obtain ⟨p, out, v1, hcs, hu, ht, hk⟩ := hrel
    have HU := Lib.hid hu
    have HTR := Lib.hid ht
    have HK := Lib.hid hk
    have u0 : wr.cell? ⟨U, 0, none⟩ = some (.pointer (some ⟨r, 0, none⟩)) := hu.blk.cell 0
    clear hu ht hk
    rcases hcs with ⟨rfl, rfl, rfl⟩ | ⟨rfl, rfl, rfl⟩
    · have hnx := next_any gt r A c Hf.usualL exB 3 wr HTR.out HU.out.bits Hf.err_usualL
      rw [ex_next1] at hnx
      have HNX := Lib.hid hnx
      clear hnx
      go_wp2_with (first
        | (go_at_call 34
           refine (put_ok U r A c exB 11 v1 [] 9 B 97 w1 HU1.out (by simp) (by omega)).mono ?_
           rintro e w2 ⟨rfl, ⟨v2, hu2⟩, hk2, ht2⟩
           have HU2 := Lib.hid hu2
           have HK2 := Lib.hid (HK1.out.trans hk2)
           have HT2 := Lib.hid (ht2 _ _ HT1.out)
           clear hu2 hk2 ht2)
        | (go_at_call 33
           refine HNX.out.mono ?_
           rintro e w1 ⟨rfl, hb1, hg1⟩
           have HU1 := Lib.hid (HU.out.step hg1 hb1)
           have HK1 := Lib.hid (HK.out.trans (KeptU.of_grown hg1))
           have HT1 := Lib.hid (HTR.out.bits HU.out.bits.1 hg1)
           clear hb1 hg1))
      go_roundg 0
      case rel => exact ⟨11, [97], v2, .inr ⟨rfl, rfl, rfl⟩, HU2.out, HT2.out, HK2.out⟩
      case measure => omega
    · have hnx := next_any gt r A c Hf.usualL exB 11 wr HTR.out HU.out.bits Hf.err_usualL
      rw [ex_next2] at hnx
      have HNX := Lib.hid hnx
      clear hnx
      go_wp2_with (first
        | (go_at_call 33
           refine HNX.out.mono ?_
           rintro e w1 ⟨rfl, hb1, hg1⟩
           have HU1 := Lib.hid (HU.out.step hg1 hb1)
           have HK1 := Lib.hid (HK.out.trans (KeptU.of_grown hg1))
           clear hb1 hg1))
      go_ret
      exact ⟨rfl, ⟨v1, HU1.out⟩, HK1.out⟩
theorem un_below {w w' : World} {U r : Nat} {A : Option Addr} {c : Nat} {bs : List Int} {p : Nat} {v : Value} {out : List Int} {lim : Int} {B : Nat} (h : Un w U r A c bs p v out lim B) (hb : Below w.heap.size w w') : Un w' U r A c bs p v out lim B :=
  ⟨h.blk.below_ hb, h.bits.below hb, h.own.kept (grownBy_below (r := none) hb) (by cases hv : v.ownBlock with
    | none => exact .inl rfl
    | some k => exact .inr (by simp)), h.hr, h.hU, h.hrU, h.hA, Nat.le_trans h.hB hb.size⟩
theorem KeptU.of_below {B U r : Nat} {w w' : World} (hb : Below w.heap.size w w') : KeptU B U r w w' := ⟨hb.os, hb.tape, hb.output, hb.size, fun k hk _ _ _ => hb.block k hk⟩
set_option maxRecDepth 100000 in
set_option maxHeartbeats 4000000 in
theorem block_ex (U r : Nat) (A : Option Addr) (c : Nat) (v : Value) (B : Nat) (w : World) (h : Un w U r A c exB 3 v [] 9 B) :
    Calls Try.prog 15 #[.pointer (some ⟨U, 0, none⟩), .int .i64 1] w (StoreP U r A c exB 18 [97] 9 B w) := by
  have HH := Lib.hid h
  clear h
  go_enter Try.func15, Try.ntmps15
  go_wp2_with (first
    | (go_at_call 24
       refine (coded_ex U r A c v B gt gt2 w3 (un_below HH.out HB3.out) (TabR.below HT2.out HB23.out)).mono ?_
       rintro e w4 ⟨rfl, hu4, hk4⟩
       have HU4 := Lib.hid hu4
       have HK4 := Lib.hid ((KeptU.of_below (B := B) (U := U) (r := r) HB3.out).trans hk4)
       clear hu4 hk4)
    | (go_at_call 23
       refine (new_ok (some ⟨gd, 0, none⟩) 32 32 Hf.usualD w2 (Cells.below HID.out HB12.out) (by decide +kernel) Hf.err_usualD).mono ?_
       rintro e w3 ⟨gt2, rfl, ht3, hg3, hb3⟩
       have HB23 := Lib.hid hb3
       have HB3 := Lib.hid (HB2.out.trans (hb3.mono HB2.out.size))
       clear ht3 hg3 hb3)
    | (go_at_call 23
       refine (new_ok (some ⟨gl, 0, none⟩) 288 288 Hf.usualL w1 HIL.out (by decide +kernel) Hf.err_usualL).mono ?_
       rintro e w2 ⟨gt, rfl, ht2, hg2, hb2⟩
       have HT2 := Lib.hid (Tab.read ht2)
       have HB12 := Lib.hid hb2
       have HB2 := Lib.hid (HB1.out.trans (hb2.mono HB1.out.size))
       clear ht2 hg2 hb2)
    | (go_at_call 22
       refine (usual_any w).mono ?_
       rintro e w1 ⟨gl, gd, rfl, hil, hid, hb1⟩
       have HIL := Lib.hid hil
       have HID := Lib.hid hid
       have HB1 := Lib.hid hb1
       clear hil hid hb1))
  go_ret
  exact ⟨rfl, HU4.out, HK4.out⟩
end Go.Proofs.Ytcjdeinmmokdgaa
