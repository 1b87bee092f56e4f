/- inflate's unpacker: any block. -/
import Derived.Test.YtcjdeinmmokdgaaLimL
namespace Go.Proofs.Ytcjdeinmmokdgaa
set_option linter.unusedSimpArgs false
set_option linter.unusedVariables false
open Go.RowKit
theorem BlkQ.ret {R : Except Int (List Int × Nat)} {U r : Nat} {A : Option Addr} {c : Nat} {bs : List Int} {lim : Int} {B : Nat} {w : World} {e : Ending} {w' : World} (h : BlkQ R U r A c bs lim B w e w') : ∃ x, e = .returned (.int .i64 x) := by
  cases R with
  | ok x => exact ⟨_, h.2.1⟩
  | error k => exact ⟨_, h.2.1⟩
theorem BlkQ.from {R : Except Int (List Int × Nat)} {U r : Nat} {A : Option Addr} {c : Nat} {bs : List Int} {lim : Int} {B : Nat} {w w1 : World} {e : Ending} {w' : World} (h : BlkQ R U r A c bs lim B w1 e w') (hk : KeptU B U r w w1) : BlkQ R U r A c bs lim B w e w' := ⟨hk.trans h.1, h.2⟩
theorem Uf.block1 {lim : Int} {out bs : List Int} {p : Nat} : Uf.blockM lim 1 out bs p = Uf.codedM lim Hf.usualL Hf.usualD Uf.fuel out bs p := by
  unfold Uf.blockM; rw [if_neg (by decide), if_pos rfl]
theorem Uf.block2 {lim : Int} {out bs : List Int} {p : Nat} : Uf.blockM lim 2 out bs p = Uf.bindM Uf.tablesM (fun x => Uf.codedM lim x.1 x.2 Uf.fuel out) bs p := by
  unfold Uf.blockM; rw [if_neg (by decide), if_neg (by decide), if_pos rfl]
theorem Uf.block3 {lim : Int} {out bs : List Int} {p : Nat} : Uf.blockM lim 3 out bs p = .error 4 := by
  unfold Uf.blockM; rw [if_neg (by decide), if_neg (by decide), if_neg (by decide)]; rfl
set_option maxRecDepth 100000 in
set_option maxHeartbeats 16000000 in
theorem ublock1_any (U r : Nat) (A : Option Addr) (c : Nat) (bs : List Int) (p : Nat) (v : Value) (out : List Int) (lim : Int) (B : Nat) (w : World) (h : Un w U r A c bs p v out lim B)
    (hfit : (out.length : Int) ≤ lim) (hl2 : lim ≤ 2000000) (hlen : 8 * bs.length < Uf.fuel) :
    Calls Try.prog 15 #[.pointer (some ⟨U, 0, none⟩), .int .i64 1] w (BlkQ (Uf.blockM lim 1 out bs p) U r A c bs lim B w) := by
  rw [Uf.block1]
  have HC := Lib.hid (fun (u : World) gl gd (hu : Un u U r A c bs p v out lim B) (h1 : TabR u gl Hf.usualL) (h2 : TabR u gd Hf.usualD) => ucoded_any Hf.usualL Hf.usualD gl gd U r A c bs p v out lim B u hu hfit hl2 h1 Hf.err_usualL h2 Hf.err_usualD hlen)
  obtain ⟨R, hR⟩ : ∃ R, R = Uf.codedM lim Hf.usualL Hf.usualD Uf.fuel out bs p := ⟨_, rfl⟩
  rw [← hR] at HC ⊢
  have HH := Lib.hid h
  clear h hR hfit hl2 hlen
  go_enter Try.func15, Try.ntmps15
  go_wp2_with (first
    | (go_at_call 24
       refine (HC.out w3 gt gt2 (un_below HH.out HB3.out) (TabR.below HT2.out HB23.out) HT3.out).mono ?_
       intro e w4 hq
       have HQ := Lib.hid (BlkQ.from hq.toQ (KeptU.of_below HB3.out))
       obtain ⟨xx, rfl⟩ := hq.toQ.ret
       clear hq)
    | (go_at_call 23
       refine (new_ok (some ⟨gd, 0, none⟩) 32 32 Hf.usualD w2 (Cells.below HID.out HB12.out) (by decide +kernel) Hf.err_usualD).mono ?_
       rintro e w3 ⟨gt2, rfl, ht3, hg3, hb3⟩
       have HT3 := Lib.hid (Tab.read ht3)
       have HB23 := Lib.hid hb3
       have HB3 := Lib.hid (HB2.out.trans (hb3.mono HB2.out.size))
       clear ht3 hg3 hb3)
    | (go_at_call 23
       refine (new_ok (some ⟨gl, 0, none⟩) 288 288 Hf.usualL w1 HIL.out (by decide +kernel) Hf.err_usualL).mono ?_
       rintro e w2 ⟨gt, rfl, ht2, hg2, hb2⟩
       have HT2 := Lib.hid (Tab.read ht2)
       have HB12 := Lib.hid hb2
       have HB2 := Lib.hid (HB1.out.trans (hb2.mono HB1.out.size))
       clear ht2 hg2 hb2)
    | (go_at_call 22
       refine (usual_any w).mono ?_
       rintro e w1 ⟨gl, gd, rfl, hil, hid, hb1⟩
       have HIL := Lib.hid hil
       have HID := Lib.hid hid
       have HB1 := Lib.hid hb1
       clear hil hid hb1))
  go_ret
  exact HQ.out
set_option maxRecDepth 100000 in
set_option maxHeartbeats 16000000 in
theorem ublock2_any (U r : Nat) (A : Option Addr) (c : Nat) (bs : List Int) (p : Nat) (v : Value) (out : List Int) (lim : Int) (B : Nat) (w : World) (h : Un w U r A c bs p v out lim B)
    (hfit : (out.length : Int) ≤ lim) (hl2 : lim ≤ 2000000) (hlen : 8 * bs.length < Uf.fuel) :
    Calls Try.prog 15 #[.pointer (some ⟨U, 0, none⟩), .int .i64 2] w (BlkQ (Uf.blockM lim 2 out bs p) U r A c bs lim B w) := by
  rw [Uf.block2, Uf.bindM]
  have HTB := utables_any U r A c bs p v out lim B w h hlen (uahead_any U r A c bs p v out lim B w h)
  cases htm : Uf.tablesM bs p with
  | error k =>
    rw [htm] at HTB
    have HTB := Lib.hid HTB
    clear h htm
    simp only
    go_enter Try.func15, Try.ntmps15
    go_wp2_with (first
      | (go_at_call 25; refine HTB.out.mono ?_; rintro e w1 ⟨hg1, x, y, rfl, hk⟩; have HG1 := Lib.hid hg1; clear hg1))
    go_ret
    exact ⟨KeptU.of_grown HG1.out, rfl, hk⟩
  | ok x1 =>
    obtain ⟨⟨la, ld⟩, q⟩ := x1
    rw [htm] at HTB
    simp only
    have HC := Lib.hid (fun (u : World) gl gd (hu : Un u U r A c bs q v out lim B) (h1 : TabR u gl la) (e1 : Hf.err la = 0) (h2 : TabR u gd ld) (e2 : Hf.err ld = 0) => ucoded_any la ld gl gd U r A c bs q v out lim B u hu hfit hl2 h1 e1 h2 e2 hlen)
    obtain ⟨R, hR⟩ : ∃ R, R = Uf.codedM lim la ld Uf.fuel out bs q := ⟨_, rfl⟩
    rw [← hR] at HC ⊢
    have HTB := Lib.hid HTB
    have HH := Lib.hid h
    clear h hR hfit hl2 hlen htm
    go_enter Try.func15, Try.ntmps15
    go_wp2_with (first
      | (go_at_call 24
         refine (HC.out w1 ga gd (HH.out.step HG1.out HB1.out) HT1.out E1.out HT2.out E2.out).mono ?_
         intro e w4 hq
         have HQ := Lib.hid (BlkQ.from hq.toQ (KeptU.of_grown HG1.out))
         obtain ⟨xx, rfl⟩ := hq.toQ.ret
         clear hq)
      | (go_at_call 25; refine HTB.out.mono ?_; rintro e w1 ⟨hg1, hb1, ga, gd, rfl, ht1, ht2, e1, e2⟩; have HG1 := Lib.hid hg1; have HB1 := Lib.hid hb1; have HT1 := Lib.hid ht1; have HT2 := Lib.hid ht2; have E1 := Lib.hid e1; have E2 := Lib.hid e2; clear hg1 hb1 ht1 ht2 e1 e2))
    go_ret
    exact HQ.out
theorem ublock3_any (U r : Nat) (A : Option Addr) (c : Nat) (bs : List Int) (p : Nat) (v : Value) (out : List Int) (lim : Int) (B : Nat) (w : World) (h : Un w U r A c bs p v out lim B) :
    Calls Try.prog 15 #[.pointer (some ⟨U, 0, none⟩), .int .i64 3] w (BlkQ (Uf.blockM lim 3 out bs p) U r A c bs lim B w) := by
  rw [Uf.block3]
  clear h
  go_enter Try.func15, Try.ntmps15
  go_wp2_with fail
  go_ret
  exact ⟨KeptU.refl _ _ _ _, rfl, by decide⟩
theorem ublock_any (kind : Int) (h0 : 0 ≤ kind) (h4 : kind < 4) (U r : Nat) (A : Option Addr) (c : Nat) (bs : List Int) (p : Nat) (v : Value) (out : List Int) (lim : Int) (B : Nat) (w : World) (h : Un w U r A c bs p v out lim B)
    (hfit : (out.length : Int) ≤ lim) (hl2 : lim ≤ 2000000) (hlen : 8 * bs.length < Uf.fuel) (hbl : 0 < bs.length) :
    Calls Try.prog 15 #[.pointer (some ⟨U, 0, none⟩), .int .i64 kind] w (BlkQ (Uf.blockM lim kind out bs p) U r A c bs lim B w) := by
  obtain rfl | rfl | rfl | rfl : kind = 0 ∨ kind = 1 ∨ kind = 2 ∨ kind = 3 := by omega
  · have e : Uf.blockM lim 0 out bs p = Uf.storeM lim out bs p := by unfold Uf.blockM; rw [if_pos rfl]
    rw [e]
    exact ublock0 U w (ustore_any U r A c bs p v out lim B w h hfit hl2 hbl) fun e u h => h.ret
  · exact ublock1_any U r A c bs p v out lim B w h hfit hl2 hlen
  · exact ublock2_any U r A c bs p v out lim B w h hfit hl2 hlen
  · exact ublock3_any U r A c bs p v out lim B w h
end Go.Proofs.Ytcjdeinmmokdgaa
