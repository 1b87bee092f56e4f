/- inflate's unpacker: a row of lengths. -/
import Derived.Test.YtcjdeinmmokdgaaLimI
namespace Go.Proofs.Ytcjdeinmmokdgaa
set_option linter.unusedSimpArgs false
set_option linter.unusedVariables false
open Go.RowKit
theorem infoIntT : (Try.prog.info? 3).map (fun i => (i.zero, i.size, i.bytes)) = some (some (.int .i64 0), 1, 8) := by kernel_rfl
theorem BitsAt.other {w w' : World} {r : Nat} {A : Option Addr} {c : Nat} {bs : List Int} {p : Nat} {ob : Option Nat} (h : BitsAt w r A c bs p) (hg : w.grownBy w' ob) (hr : some r ≠ ob) (hA : ∀ ad, A = some ad → some ad.block ≠ ob) : BitsAt w' r A c bs p := by
  refine ⟨h.1.grown hg hr, fun i x hi => ?_, h.2.2⟩
  obtain ⟨ad, e, hc⟩ := h.2.1 i x hi
  refine ⟨ad, e, ?_⟩
  rw [← hc]
  exact World.cell?_of_block (hg.block _ (block_lt_of_cell hc) (by rw [block_of_add]; exact hA ad e))
theorem grown_new {w0 w w' : World} {x ob : Option Nat} (h : w0.grownBy w x) (hg : w.grownBy w' ob) (ho : ∀ k, ob = some k → w0.heap.size ≤ k) : w0.grownBy w' x :=
  ⟨hg.os.trans h.os, hg.tape.trans h.tape, hg.output.trans h.output, Nat.le_trans h.size hg.size, fun k hk hne => (hg.block k (Nat.lt_of_lt_of_le hk h.size) (fun e => by have := ho k e.symm; omega)).trans (h.block k hk hne)⟩
/-- where the lengths are read: the row so far lies behind -/
structure Lw (w : World) (wr : World) (U r : Nat) (A : Option Addr) (c : Nat) (bs : List Int) (p : Nat) (sl : Value) (a : List Int) : Prop where
  bits : BitsAt wr r A c bs p
  own : wr.ownsRow w.heap.size 3 1 sl a.length (a.map (.int .i64))
  grown : w.grownBy wr (some r)
theorem Lw.step {w w1 w2 : World} {U r : Nat} {A : Option Addr} {c : Nat} {bs : List Int} {p p2 : Nat} {sl : Value} {a : List Int} (h : Lw w w1 U r A c bs p sl a) (hr : r < w.heap.size) (hg : w1.grownBy w2 (some r)) (hb : BitsAt w2 r A c bs p2) : Lw w w2 U r A c bs p2 sl a :=
  ⟨hb, h.own.kept hg (by
    cases hv : sl.ownBlock with
    | none => exact .inl rfl
    | some k => right; intro e; injection e with e; have := (h.own.lt k hv).1; omega), h.grown.trans hg⟩
theorem Lw.app {w w1 w2 : World} {U r : Nat} {A : Option Addr} {c : Nat} {bs : List Int} {p : Nat} {sl sl2 : Value} {a a2 : List Int} (h : Lw w w1 U r A c bs p sl a) (hr : r < w.heap.size) (hA : ∀ ad, A = some ad → ad.block < w.heap.size)
    (hg : w1.grownBy w2 sl.ownBlock) (ho : w2.ownsRow w.heap.size 3 1 sl2 a2.length (a2.map (.int .i64))) : Lw w w2 U r A c bs p sl2 a2 :=
  ⟨h.bits.other hg (own_ne h.own hr) (fun ad e => own_ne h.own (hA ad e)), ho, grown_new h.grown hg (fun k e => (h.own.lt k e).1)⟩
theorem Lw.last {w wr : World} {U r : Nat} {A : Option Addr} {c : Nat} {bs : List Int} {p : Nat} {K : Option Addr} {cv : Nat} {a : List Int} (h : Lw w wr U r A c bs p (.slice K a.length cv) a) (h0 : 0 < a.length) :
    ∃ ad, K = some ad ∧ wr.cell? (ad.add (a.length - 1)) = some (.int .i64 (a.getD (a.length - 1) 0)) := by
  obtain ⟨K2, c2, e, hcl, -⟩ := own_slice3 h.own
  injection e with e1 e2 e3
  subst e1
  exact hcl (a.length - 1) _ (by rw [List.getElem?_map, List.getElem?_eq_getElem (by omega), List.getD_eq_getElem?_getD, List.getElem?_eq_getElem (by omega)]; rfl)
/-- lengths were read, or not -/
def LenP (R : Except Int (List Int × Nat)) (U r : Nat) (A : Option Addr) (c : Nat) (bs : List Int) (w : World) (e : Ending) (w' : World) : Prop :=
  w.grownBy w' (some r) ∧ match R with
    | .ok (a, q) => ∃ sl, e = .returned (.tuple #[sl, .int .i64 0]) ∧ Lw w w' U r A c bs q sl a
    | .error k => ∃ y, e = .returned (.tuple #[y, .int .i64 k]) ∧ k ≠ 0
namespace Uf
theorem lengths_done {t a bs : List Int} {many p g : Nat} (h : many ≤ a.length) : lengthsM t many (g + 1) a bs p = .ok (a, p) := by rw [lengthsM, if_pos h]; rfl
theorem lengths_err {t a bs : List Int} {many p g : Nat} {s er : Int} {k : Nat} (h : ¬ many ≤ a.length) (hn : Hf.next t bs p = (s, er, k)) (he : er ≠ 0) : lengthsM t many (g + 1) a bs p = .error er := by
  rw [lengthsM, if_neg h, bindM]; unfold nextM; rw [hn]; simp only; rw [if_neg he]
/-- so many times the same -/
def repM (t : List Int) (many g : Nat) (a : List Int) (nb : Nat) (least x : Int) : M (List Int) := bindM (takeM nb) fun n => if (many : Int) - a.length < n + least then failM 4 else lengthsM t many g (a ++ List.replicate (n + least).toNat x)
theorem lengths_next {t a bs : List Int} {many p g : Nat} {s : Int} {k : Nat} (h : ¬ many ≤ a.length) (hn : Hf.next t bs p = (s, 0, k)) : lengthsM t many (g + 1) a bs p =
    (if s < 16 then lengthsM t many g (a ++ [s]) else if s = 16 then (if a.length = 0 then failM 4 else repM t many g a 2 3 (a.getD (a.length - 1) 0)) else if s = 17 then repM t many g a 3 3 0 else repM t many g a 7 11 0) bs (p + k) := by
  rw [lengthsM, if_neg h, bindM]; unfold nextM; rw [hn]; rfl
end Uf
/-- what holds ahead of a length -/
def LnR (R : Except Int (List Int × Nat)) (t : List Int) (many : Nat) (U r : Nat) (A : Option Addr) (c : Nat) (bs : List Int) (w : World) (g : Nat) (sl : Value) (wr : World) : Prop :=
  ∃ p a, R = Uf.lengthsM t many g a bs p ∧ 8 * bs.length < p + g ∧ a.length ≤ many ∧ Lw w wr U r A c bs p sl a
set_option maxRecDepth 100000 in
set_option maxHeartbeats 16000000 in
theorem ulengths_any (t : List Int) (many : Nat) (gt U r : Nat) (A : Option Addr) (c : Nat) (bs : List Int) (p : Nat) (v : Value) (out : List Int) (lim : Int) (B : Nat) (w : World) (h : Un w U r A c bs p v out lim B)
    (hT : TabR w gt t) (het : Hf.err t = 0) (hmany : many ≤ 320) (hlen : 8 * bs.length < Uf.fuel) :
    Calls Try.prog 37 #[.pointer (some ⟨U, 0, none⟩), .pointer (some ⟨gt, 0, none⟩), .int .i64 many] w (LenP (Uf.lengthsM t many Uf.fuel [] bs p) U r A c bs w) := by
  obtain ⟨-, hn3, -⟩ := Hf.err_room het
  obtain ⟨R, HR⟩ : ∃ R, R = Uf.lengthsM t many Uf.fuel [] bs p := ⟨_, rfl⟩
  rw [← HR]
  obtain ⟨F, HF⟩ : ∃ F, F = Uf.fuel := ⟨_, rfl⟩
  rw [← HF] at HR hlen
  have HRR := Lib.hid HR
  have HH := Lib.hid h
  have HTL := Lib.hid hT
  have hlen2 : 8 * bs.length < p + F := by omega
  have hrs : r < w.heap.size := Nat.lt_of_lt_of_le h.hr h.hB
  have HRS := Lib.hid hrs
  have HAS := Lib.hid (fun ad (e : A = some ad) => Nat.lt_of_lt_of_le (h.hA ad e).1 h.hB)
  clear h hT HR HF hlen hrs
  go_enter Try.func37, Try.ntmps37
  go_wp2_with fail
  go_loopg [8] F (fun g sl wr => LnR R t many U r A c bs w g sl wr)
  case atStart => exact ⟨p, [], HRR.out, hlen2, by simp, HH.out.bits, World.ownsRow_nil _ _ _ _, grownBy_refl _ _⟩
  case round =>
    obtain ⟨p1, a, hR, hpg, hal, hw⟩ := hrel
    obtain ⟨f, rfl⟩ : ∃ f, gk = f + 1 := ⟨gk - 1, by have := hw.bits.2.2.2.1; omega⟩
    obtain ⟨K, cv, rfl, hcl, hKn⟩ := own_slice3 hw.own
    obtain ⟨m, hm⟩ : ∃ m, m = a.length := ⟨_, rfl⟩
    have HM := Lib.hid hm
    rw [← hm]
    by_cases c0 : many ≤ m
    · rw [Uf.lengths_done (by omega)] at hR
      have HR2 := Lib.hid hR
      have HW := Lib.hid hw
      clear hR hw hcl hm
      go_wp2
      go_ret2
      rw [HR2.out]
      exact ⟨HW.out.grown, _, rfl, (by rw [HM.out]; exact HW.out)⟩
    · obtain ⟨s, er, k, hn⟩ : ∃ s er k, Hf.next t bs p1 = (s, er, k) := Uf.triple _
      have hs0 : 0 ≤ s := by have := Uf.next_nonneg t bs p1; rw [hn] at this; exact this
      have hs1 : s ≤ 320 := by have := Uf.next_le t bs p1; rw [hn] at this; simp only at this; omega
      have hu1 : Un wr U r A c bs p1 v out lim B := HH.out.step hw.grown hw.bits
      have HNX := next_any gt r A c t bs p1 wr (HTL.out.bits HH.out.bits.1 hw.grown) hw.bits het
      rw [hn] at HNX
      have HNX := Lib.hid HNX
      have HW := Lib.hid hw
      have u0 : wr.cell? ⟨U, 0, none⟩ = some (.pointer (some ⟨r, 0, none⟩)) := hu1.blk.cell 0
      clear hu1
      by_cases c1 : er = 0
      · subst c1
        have hk1 : 1 ≤ k := by have := Uf.next_pos t bs p1 (by rw [hn]); rw [hn] at this; exact this
        rw [Uf.lengths_next (by omega) hn] at hR
        by_cases c2 : s < 16
        · rw [if_pos c2] at hR
          have HR2 := Lib.hid hR
          clear hR hw hcl hn hm
          go_wp2_with (first
            | (at_builtin; refine wpList_appL w1 (by rfl) (.tmp 33) (.tmp 35) 51 (by rfl) w.heap.size 3 (.int .i64 0) 1 8 Try.underlying51 infoIntT rfl (by decide) (.slice K m cv) m (a.map (.int .i64)) (by rfl) HO1.out _ 1 (by rfl) (by rfl) (by simp [Value.oneCell']) (by decide) (by omega) (by decide) hz1 ?_; intro g2 c2 w2 ho2 hg2 hx2; have HW2 : Hid (Lw w w2 U r A c bs (p1 + k) (.slice (some ⟨g2, 0, none⟩) (m + 1) c2) (a ++ [s])) := Lib.hid (HW1.out.app HRS.out HAS.out (by rw [← HM.out]; exact hg2) (by rw [List.length_append, ← HM.out, List.map_append]; exact ho2)); clear ho2 hg2 hx2)
            | (go_at_call 33; refine HNX.out.mono ?_; rintro e w1 ⟨rfl, hb1, hg1⟩; have HW1 := Lib.hid (HW.out.step HRS.out hg1 hb1); have HU2 := Lib.hid (HH.out.step HW1.out.grown hb1); have hz1 : w.heap.size ≤ w1.heap.size := HW1.out.grown.size; have HO1 : Hid (w1.ownsRow w.heap.size 3 1 (.slice K m cv) m (a.map (.int .i64))) := (by rw [HM.out]; exact Lib.hid HW1.out.own); clear hb1 hg1))
          go_roundg f
          case rel => exact ⟨p1 + k, a ++ [s], HR2.out, by omega, by have := HM.out; simp; omega, HW2.out⟩
          case measure => omega
        rw [if_neg c2] at hR
        by_cases c3 : s = 16
        · rw [if_pos c3] at hR
          subst c3
          by_cases c4 : m = 0
          · rw [if_pos (by omega)] at hR
            have HR2 := Lib.hid (show R = .error 4 from hR)
            clear hR hw hcl hn hm
            go_wp2_with (first
              | (go_at_call 33; refine HNX.out.mono ?_; rintro e w1 ⟨rfl, hb1, hg1⟩; have HW1 := Lib.hid (HW.out.step HRS.out hg1 hb1); have HU2 := Lib.hid (HH.out.step HW1.out.grown hb1); have hz1 : w.heap.size ≤ w1.heap.size := HW1.out.grown.size; have HO1 : Hid (w1.ownsRow w.heap.size 3 1 (.slice K m cv) m (a.map (.int .i64))) := (by rw [HM.out]; exact Lib.hid HW1.out.own); clear hb1 hg1))
            go_ret2
            rw [HR2.out]
            exact ⟨HW1.out.grown, _, rfl, by decide⟩
          · rw [if_neg (by omega)] at hR
            obtain ⟨x, hx⟩ : ∃ x, x = a.getD (a.length - 1) 0 := ⟨_, rfl⟩
            rw [← hx] at hR
            obtain ⟨j, hj⟩ : ∃ j, j = m - 1 := ⟨_, rfl⟩
            have hj2 : (m : Int) - 1 = j := by omega
            have hwj : IntKind.i64.wrap (j : Int) = j := by rw [IntKind.wrap_i64]; omega
            have hjm : j < m := by omega
            obtain ⟨ad, rfl, -⟩ := hw.last (by omega)
            have HX := Lib.hid hx
            have HJ := Lib.hid hj
            clear hx hj
            by_cases ct : p1 + k + 2 ≤ 8 * bs.length
            · obtain ⟨y, hy⟩ : ∃ y, y = Hf.takeVal bs (p1 + k) 2 := ⟨_, rfl⟩
              have hyr := Hf.takeVal_range bs (p1 + k) 2
              rw [← hy] at hyr
              have hyr : 0 ≤ y ∧ y < 128 := ⟨hyr.1, by have := hyr.2; simp at this; omega⟩
              obtain ⟨y0, y1⟩ := hyr
              have HT : Hid (∀ w1, Un w1 U r A c bs (p1 + k) v out lim B → Calls Try.prog 14 #[.pointer (some ⟨U, 0, none⟩), .int .i64 2] w1 (TakeG U r A c bs (p1 + k + 2) y v out lim B w1)) := fun w1 h1 => utake_good U r A c bs (p1 + k) 2 v out lim B w1 h1 (by omega) ct _ hy.symm
              rw [Uf.repM, Uf.bindM, Uf.takeM_ok ct] at hR
              simp only at hR
              rw [← hy] at hR
              obtain ⟨N, hN⟩ : ∃ N : Nat, y + 3 = N := ⟨(y + 3).toNat, by omega⟩
              rw [hN] at hR
              have hwN : IntKind.i64.wrap (N : Int) = N := by rw [IntKind.wrap_i64]; omega
              have hN9 : N ≤ 200 := by omega
              by_cases cf : (many : Int) - m < N
              · rw [if_pos (by rw [← HM.out]; exact cf)] at hR
                have HR2 := Lib.hid (show R = .error 4 from hR)
                clear hR hw hcl hn hy hm
                go_wp2_with (first
                  | (go_at_call 14; refine (HT.out w1 HU2.out).mono ?_; rintro e w2 ⟨rfl, hu2, hg2⟩; have HG2 := Lib.hid (HW1.out.grown.trans hg2); clear hu2 hg2)
                  | (go_at_call 33; refine HNX.out.mono ?_; rintro e w1 ⟨rfl, hb1, hg1⟩; have HW1 := Lib.hid (HW.out.step HRS.out hg1 hb1); have HU2 := Lib.hid (HH.out.step HW1.out.grown hb1); have hz1 : w.heap.size ≤ w1.heap.size := HW1.out.grown.size; have HO1 : Hid (w1.ownsRow w.heap.size 3 1 (.slice (some ad) m cv) m (a.map (.int .i64))) := (by rw [HM.out]; exact Lib.hid HW1.out.own); obtain ⟨ad', e', hl1⟩ := HW1.out.last (by rw [← HM.out]; omega); have hl2 : w1.cell? (ad.add j) = some (.int .i64 x) := (by injection e' with e'; rw [e', HX.out, HJ.out, HM.out]; exact hl1); clear hl1 e'; clear hb1 hg1))
                go_ret2
                rw [HR2.out]
                exact ⟨HG2.out, _, rfl, by decide⟩
              · rw [if_neg (by rw [← HM.out]; exact cf), Int.toNat_natCast] at hR
                have HR2 := Lib.hid hR
                clear hR hw hcl hn hy hm
                go_wp2_with (first
                  | (go_at_call 14; refine (HT.out w1 HU2.out).mono ?_; rintro e w2 ⟨rfl, hu2, hg2⟩; have HW2 := Lib.hid (HW1.out.step HRS.out hg2 hu2.bits); clear hu2 hg2)
                  | (go_at_call 33; refine HNX.out.mono ?_; rintro e w1 ⟨rfl, hb1, hg1⟩; have HW1 := Lib.hid (HW.out.step HRS.out hg1 hb1); have HU2 := Lib.hid (HH.out.step HW1.out.grown hb1); have hz1 : w.heap.size ≤ w1.heap.size := HW1.out.grown.size; have HO1 : Hid (w1.ownsRow w.heap.size 3 1 (.slice (some ad) m cv) m (a.map (.int .i64))) := (by rw [HM.out]; exact Lib.hid HW1.out.own); obtain ⟨ad', e', hl1⟩ := HW1.out.last (by rw [← HM.out]; omega); have hl2 : w1.cell? (ad.add j) = some (.int .i64 x) := (by injection e' with e'; rw [e', HX.out, HJ.out, HM.out]; exact hl1); clear hl1 e'; clear hb1 hg1))
                go_loopw [8, 71] (fun sl iv w3 => ∃ i : Nat, iv = .int .i64 i ∧ i ≤ N ∧ Lw w w3 U r A c bs (p1 + k + 2) sl (a ++ List.replicate i x)) (fun _ iv _ => N - (intOf iv).toNat)
                case atStart => exact ⟨0, rfl, by omega, by simpa [HM.out] using HW2.out⟩
                case round =>
                  obtain ⟨i, rfl, hiN, hw3⟩ := hrel
                  have hlr : (a ++ List.replicate i x).length = m + i := by have := HM.out; simp; omega
                  obtain ⟨K2, c2, rfl, -, -⟩ := own_slice3 hw3.own
                  have HW3 := Lib.hid hw3
                  have hz3 : w.heap.size ≤ wr.heap.size := hw3.grown.size
                  have HO3 : Hid (wr.ownsRow w.heap.size 3 1 (.slice K2 (m + i : Nat) c2) (m + i) ((a ++ List.replicate i x).map (.int .i64))) := by rw [← hlr]; exact Lib.hid hw3.own
                  rw [hlr]
                  have HLR := Lib.hid hlr
                  clear hw3 hlr
                  by_cases hi : i < N
                  · go_wp2_with (first
                      | (at_builtin; refine wpList_appL wr (by rfl) (.tmp 73) (.tmp 75) 51 (by rfl) w.heap.size 3 (.int .i64 0) 1 8 Try.underlying51 infoIntT rfl (by decide) (.slice K2 (m + i) c2) (m + i) ((a ++ List.replicate i x).map (.int .i64)) (by rfl) HO3.out _ 1 (by rfl) (by rfl) (by simp [Value.oneCell']) (by decide) (by omega) (by decide) hz3 ?_; intro g4 c4 w4 ho4 hg4 hx4; have HW4 : Hid (Lw w w4 U r A c bs (p1 + k + 2) (.slice (some ⟨g4, 0, none⟩) (m + i + 1) c4) (a ++ List.replicate (i + 1) x)) := Lib.hid (HW3.out.app HRS.out HAS.out (by have e : (a ++ List.replicate i x).length = m + i := (by simp; exact HM.out.symm); rw [e]; exact hg4) (by have e : (a ++ List.replicate (i + 1) x).length = m + i + 1 := (by have := HM.out; simp; omega); rw [e, List.replicate_succ', ← List.append_assoc, List.map_append]; exact ho4)); clear ho4 hg4 hx4))
                    go_roundw
                    case rel => exact ⟨i + 1, by first | rfl | (congr 1; omega), by omega, HW4.out⟩
                    case measure => simp [intOf]; omega
                  · have hie : i = N := by omega
                    subst hie
                    go_wp2_with fail
                    go_roundg f
                    case rel => exact ⟨p1 + k + 2, _, HR2.out, by omega, by have := HM.out; simp; omega, (by have h := HW3.out; rw [HLR.out] at h; exact h)⟩
                    case measure => omega
            · rw [Uf.repM, Uf.bindM, Uf.takeM_err ct] at hR
              have HR2 := Lib.hid (show R = .error 2 from hR)
              have HT : Hid (∀ w1, Un w1 U r A c bs (p1 + k) v out lim B → Calls Try.prog 14 #[.pointer (some ⟨U, 0, none⟩), .int .i64 2] w1 (TakeE r w1)) := fun w1 h1 => utake_bad U r A c bs (p1 + k) 2 v out lim B w1 h1 (by omega) (by omega)
              clear hR hw hcl hn hm
              go_wp2_with (first
                | (go_at_call 14; refine (HT.out w1 HU2.out).mono ?_; rintro e w2 ⟨rfl, hg2⟩; have HG2 := Lib.hid (HW1.out.grown.trans hg2); clear hg2)
                | (go_at_call 33; refine HNX.out.mono ?_; rintro e w1 ⟨rfl, hb1, hg1⟩; have HW1 := Lib.hid (HW.out.step HRS.out hg1 hb1); have HU2 := Lib.hid (HH.out.step HW1.out.grown hb1); have hz1 : w.heap.size ≤ w1.heap.size := HW1.out.grown.size; have HO1 : Hid (w1.ownsRow w.heap.size 3 1 (.slice (some ad) m cv) m (a.map (.int .i64))) := (by rw [HM.out]; exact Lib.hid HW1.out.own); obtain ⟨ad', e', hl1⟩ := HW1.out.last (by rw [← HM.out]; omega); have hl2 : w1.cell? (ad.add j) = some (.int .i64 x) := (by injection e' with e'; rw [e', HX.out, HJ.out, HM.out]; exact hl1); clear hl1 e'; clear hb1 hg1))
              go_ret2
              rw [HR2.out]
              exact ⟨HG2.out, _, rfl, by decide⟩
        rw [if_neg c3] at hR
        by_cases c5 : s = 17
        · rw [if_pos c5] at hR
          subst c5
          obtain ⟨x, hx⟩ : ∃ x : Int, x = 0 := ⟨_, rfl⟩
          subst hx
          by_cases ct : p1 + k + 3 ≤ 8 * bs.length
          · obtain ⟨y, hy⟩ : ∃ y, y = Hf.takeVal bs (p1 + k) 3 := ⟨_, rfl⟩
            have hyr := Hf.takeVal_range bs (p1 + k) 3
            rw [← hy] at hyr
            have hyr : 0 ≤ y ∧ y < 128 := ⟨hyr.1, by have := hyr.2; simp at this; omega⟩
            obtain ⟨y0, y1⟩ := hyr
            have HT : Hid (∀ w1, Un w1 U r A c bs (p1 + k) v out lim B → Calls Try.prog 14 #[.pointer (some ⟨U, 0, none⟩), .int .i64 3] w1 (TakeG U r A c bs (p1 + k + 3) y v out lim B w1)) := fun w1 h1 => utake_good U r A c bs (p1 + k) 3 v out lim B w1 h1 (by omega) ct _ hy.symm
            rw [Uf.repM, Uf.bindM, Uf.takeM_ok ct] at hR
            simp only at hR
            rw [← hy] at hR
            obtain ⟨N, hN⟩ : ∃ N : Nat, y + 3 = N := ⟨(y + 3).toNat, by omega⟩
            rw [hN] at hR
            have hwN : IntKind.i64.wrap (N : Int) = N := by rw [IntKind.wrap_i64]; omega
            have hN9 : N ≤ 200 := by omega
            by_cases cf : (many : Int) - m < N
            · rw [if_pos (by rw [← HM.out]; exact cf)] at hR
              have HR2 := Lib.hid (show R = .error 4 from hR)
              clear hR hw hcl hn hy hm
              go_wp2_with (first
                | (go_at_call 14; refine (HT.out w1 HU2.out).mono ?_; rintro e w2 ⟨rfl, hu2, hg2⟩; have HG2 := Lib.hid (HW1.out.grown.trans hg2); clear hu2 hg2)
                | (go_at_call 33; refine HNX.out.mono ?_; rintro e w1 ⟨rfl, hb1, hg1⟩; have HW1 := Lib.hid (HW.out.step HRS.out hg1 hb1); have HU2 := Lib.hid (HH.out.step HW1.out.grown hb1); have hz1 : w.heap.size ≤ w1.heap.size := HW1.out.grown.size; have HO1 : Hid (w1.ownsRow w.heap.size 3 1 (.slice K m cv) m (a.map (.int .i64))) := (by rw [HM.out]; exact Lib.hid HW1.out.own); clear hb1 hg1))
              go_ret2
              rw [HR2.out]
              exact ⟨HG2.out, _, rfl, by decide⟩
            · rw [if_neg (by rw [← HM.out]; exact cf), Int.toNat_natCast] at hR
              have HR2 := Lib.hid hR
              clear hR hw hcl hn hy hm
              go_wp2_with (first
                | (go_at_call 14; refine (HT.out w1 HU2.out).mono ?_; rintro e w2 ⟨rfl, hu2, hg2⟩; have HW2 := Lib.hid (HW1.out.step HRS.out hg2 hu2.bits); clear hu2 hg2)
                | (go_at_call 33; refine HNX.out.mono ?_; rintro e w1 ⟨rfl, hb1, hg1⟩; have HW1 := Lib.hid (HW.out.step HRS.out hg1 hb1); have HU2 := Lib.hid (HH.out.step HW1.out.grown hb1); have hz1 : w.heap.size ≤ w1.heap.size := HW1.out.grown.size; have HO1 : Hid (w1.ownsRow w.heap.size 3 1 (.slice K m cv) m (a.map (.int .i64))) := (by rw [HM.out]; exact Lib.hid HW1.out.own); clear hb1 hg1))
              go_loopw [8, 71] (fun sl iv w3 => ∃ i : Nat, iv = .int .i64 i ∧ i ≤ N ∧ Lw w w3 U r A c bs (p1 + k + 3) sl (a ++ List.replicate i (0 : Int))) (fun _ iv _ => N - (intOf iv).toNat)
              case atStart => exact ⟨0, rfl, by omega, by simpa [HM.out] using HW2.out⟩
              case round =>
                obtain ⟨i, rfl, hiN, hw3⟩ := hrel
                have hlr : (a ++ List.replicate i (0 : Int)).length = m + i := by have := HM.out; simp; omega
                obtain ⟨K2, c2, rfl, -, -⟩ := own_slice3 hw3.own
                have HW3 := Lib.hid hw3
                have hz3 : w.heap.size ≤ wr.heap.size := hw3.grown.size
                have HO3 : Hid (wr.ownsRow w.heap.size 3 1 (.slice K2 (m + i : Nat) c2) (m + i) ((a ++ List.replicate i (0 : Int)).map (.int .i64))) := by rw [← hlr]; exact Lib.hid hw3.own
                rw [hlr]
                have HLR := Lib.hid hlr
                clear hw3 hlr
                by_cases hi : i < N
                · go_wp2_with (first
                    | (at_builtin; refine wpList_appL wr (by rfl) (.tmp 73) (.tmp 75) 51 (by rfl) w.heap.size 3 (.int .i64 0) 1 8 Try.underlying51 infoIntT rfl (by decide) (.slice K2 (m + i) c2) (m + i) ((a ++ List.replicate i (0 : Int)).map (.int .i64)) (by rfl) HO3.out _ 1 (by rfl) (by rfl) (by simp [Value.oneCell']) (by decide) (by omega) (by decide) hz3 ?_; intro g4 c4 w4 ho4 hg4 hx4; have HW4 : Hid (Lw w w4 U r A c bs (p1 + k + 3) (.slice (some ⟨g4, 0, none⟩) (m + i + 1) c4) (a ++ List.replicate (i + 1) (0 : Int))) := Lib.hid (HW3.out.app HRS.out HAS.out (by have e : (a ++ List.replicate i (0 : Int)).length = m + i := (by simp; exact HM.out.symm); rw [e]; exact hg4) (by have e : (a ++ List.replicate (i + 1) (0 : Int)).length = m + i + 1 := (by have := HM.out; simp; omega); rw [e, List.replicate_succ', ← List.append_assoc, List.map_append]; exact ho4)); clear ho4 hg4 hx4))
                  go_roundw
                  case rel => exact ⟨i + 1, by first | rfl | (congr 1; omega), by omega, HW4.out⟩
                  case measure => simp [intOf]; omega
                · have hie : i = N := by omega
                  subst hie
                  go_wp2_with fail
                  go_roundg f
                  case rel => exact ⟨p1 + k + 3, _, HR2.out, by omega, by have := HM.out; simp; omega, (by have h := HW3.out; rw [HLR.out] at h; exact h)⟩
                  case measure => omega
          · rw [Uf.repM, Uf.bindM, Uf.takeM_err ct] at hR
            have HR2 := Lib.hid (show R = .error 2 from hR)
            have HT : Hid (∀ w1, Un w1 U r A c bs (p1 + k) v out lim B → Calls Try.prog 14 #[.pointer (some ⟨U, 0, none⟩), .int .i64 3] w1 (TakeE r w1)) := fun w1 h1 => utake_bad U r A c bs (p1 + k) 3 v out lim B w1 h1 (by omega) (by omega)
            clear hR hw hcl hn hm
            go_wp2_with (first
              | (go_at_call 14; refine (HT.out w1 HU2.out).mono ?_; rintro e w2 ⟨rfl, hg2⟩; have HG2 := Lib.hid (HW1.out.grown.trans hg2); clear hg2)
              | (go_at_call 33; refine HNX.out.mono ?_; rintro e w1 ⟨rfl, hb1, hg1⟩; have HW1 := Lib.hid (HW.out.step HRS.out hg1 hb1); have HU2 := Lib.hid (HH.out.step HW1.out.grown hb1); have hz1 : w.heap.size ≤ w1.heap.size := HW1.out.grown.size; have HO1 : Hid (w1.ownsRow w.heap.size 3 1 (.slice K m cv) m (a.map (.int .i64))) := (by rw [HM.out]; exact Lib.hid HW1.out.own); clear hb1 hg1))
            go_ret2
            rw [HR2.out]
            exact ⟨HG2.out, _, rfl, by decide⟩
        · rw [if_neg c5] at hR
          obtain ⟨x, hx⟩ : ∃ x : Int, x = 0 := ⟨_, rfl⟩
          subst hx
          by_cases ct : p1 + k + 7 ≤ 8 * bs.length
          · obtain ⟨y, hy⟩ : ∃ y, y = Hf.takeVal bs (p1 + k) 7 := ⟨_, rfl⟩
            have hyr := Hf.takeVal_range bs (p1 + k) 7
            rw [← hy] at hyr
            have hyr : 0 ≤ y ∧ y < 128 := ⟨hyr.1, by have := hyr.2; simp at this; omega⟩
            obtain ⟨y0, y1⟩ := hyr
            have HT : Hid (∀ w1, Un w1 U r A c bs (p1 + k) v out lim B → Calls Try.prog 14 #[.pointer (some ⟨U, 0, none⟩), .int .i64 7] w1 (TakeG U r A c bs (p1 + k + 7) y v out lim B w1)) := fun w1 h1 => utake_good U r A c bs (p1 + k) 7 v out lim B w1 h1 (by omega) ct _ hy.symm
            rw [Uf.repM, Uf.bindM, Uf.takeM_ok ct] at hR
            simp only at hR
            rw [← hy] at hR
            obtain ⟨N, hN⟩ : ∃ N : Nat, y + 11 = N := ⟨(y + 11).toNat, by omega⟩
            rw [hN] at hR
            have hwN : IntKind.i64.wrap (N : Int) = N := by rw [IntKind.wrap_i64]; omega
            have hN9 : N ≤ 200 := by omega
            by_cases cf : (many : Int) - m < N
            · rw [if_pos (by rw [← HM.out]; exact cf)] at hR
              have HR2 := Lib.hid (show R = .error 4 from hR)
              clear hR hw hcl hn hy hm
              go_wp2_with (first
                | (go_at_call 14; refine (HT.out w1 HU2.out).mono ?_; rintro e w2 ⟨rfl, hu2, hg2⟩; have HG2 := Lib.hid (HW1.out.grown.trans hg2); clear hu2 hg2)
                | (go_at_call 33; refine HNX.out.mono ?_; rintro e w1 ⟨rfl, hb1, hg1⟩; have HW1 := Lib.hid (HW.out.step HRS.out hg1 hb1); have HU2 := Lib.hid (HH.out.step HW1.out.grown hb1); have hz1 : w.heap.size ≤ w1.heap.size := HW1.out.grown.size; have HO1 : Hid (w1.ownsRow w.heap.size 3 1 (.slice K m cv) m (a.map (.int .i64))) := (by rw [HM.out]; exact Lib.hid HW1.out.own); clear hb1 hg1))
              go_ret2
              rw [HR2.out]
              exact ⟨HG2.out, _, rfl, by decide⟩
            · rw [if_neg (by rw [← HM.out]; exact cf), Int.toNat_natCast] at hR
              have HR2 := Lib.hid hR
              clear hR hw hcl hn hy hm
              go_wp2_with (first
                | (go_at_call 14; refine (HT.out w1 HU2.out).mono ?_; rintro e w2 ⟨rfl, hu2, hg2⟩; have HW2 := Lib.hid (HW1.out.step HRS.out hg2 hu2.bits); clear hu2 hg2)
                | (go_at_call 33; refine HNX.out.mono ?_; rintro e w1 ⟨rfl, hb1, hg1⟩; have HW1 := Lib.hid (HW.out.step HRS.out hg1 hb1); have HU2 := Lib.hid (HH.out.step HW1.out.grown hb1); have hz1 : w.heap.size ≤ w1.heap.size := HW1.out.grown.size; have HO1 : Hid (w1.ownsRow w.heap.size 3 1 (.slice K m cv) m (a.map (.int .i64))) := (by rw [HM.out]; exact Lib.hid HW1.out.own); clear hb1 hg1))
              go_loopw [8, 71] (fun sl iv w3 => ∃ i : Nat, iv = .int .i64 i ∧ i ≤ N ∧ Lw w w3 U r A c bs (p1 + k + 7) sl (a ++ List.replicate i (0 : Int))) (fun _ iv _ => N - (intOf iv).toNat)
              case atStart => exact ⟨0, rfl, by omega, by simpa [HM.out] using HW2.out⟩
              case round =>
                obtain ⟨i, rfl, hiN, hw3⟩ := hrel
                have hlr : (a ++ List.replicate i (0 : Int)).length = m + i := by have := HM.out; simp; omega
                obtain ⟨K2, c2, rfl, -, -⟩ := own_slice3 hw3.own
                have HW3 := Lib.hid hw3
                have hz3 : w.heap.size ≤ wr.heap.size := hw3.grown.size
                have HO3 : Hid (wr.ownsRow w.heap.size 3 1 (.slice K2 (m + i : Nat) c2) (m + i) ((a ++ List.replicate i (0 : Int)).map (.int .i64))) := by rw [← hlr]; exact Lib.hid hw3.own
                rw [hlr]
                have HLR := Lib.hid hlr
                clear hw3 hlr
                by_cases hi : i < N
                · go_wp2_with (first
                    | (at_builtin; refine wpList_appL wr (by rfl) (.tmp 73) (.tmp 75) 51 (by rfl) w.heap.size 3 (.int .i64 0) 1 8 Try.underlying51 infoIntT rfl (by decide) (.slice K2 (m + i) c2) (m + i) ((a ++ List.replicate i (0 : Int)).map (.int .i64)) (by rfl) HO3.out _ 1 (by rfl) (by rfl) (by simp [Value.oneCell']) (by decide) (by omega) (by decide) hz3 ?_; intro g4 c4 w4 ho4 hg4 hx4; have HW4 : Hid (Lw w w4 U r A c bs (p1 + k + 7) (.slice (some ⟨g4, 0, none⟩) (m + i + 1) c4) (a ++ List.replicate (i + 1) (0 : Int))) := Lib.hid (HW3.out.app HRS.out HAS.out (by have e : (a ++ List.replicate i (0 : Int)).length = m + i := (by simp; exact HM.out.symm); rw [e]; exact hg4) (by have e : (a ++ List.replicate (i + 1) (0 : Int)).length = m + i + 1 := (by have := HM.out; simp; omega); rw [e, List.replicate_succ', ← List.append_assoc, List.map_append]; exact ho4)); clear ho4 hg4 hx4))
                  go_roundw
                  case rel => exact ⟨i + 1, by first | rfl | (congr 1; omega), by omega, HW4.out⟩
                  case measure => simp [intOf]; omega
                · have hie : i = N := by omega
                  subst hie
                  go_wp2_with fail
                  go_roundg f
                  case rel => exact ⟨p1 + k + 7, _, HR2.out, by omega, by have := HM.out; simp; omega, (by have h := HW3.out; rw [HLR.out] at h; exact h)⟩
                  case measure => omega
          · rw [Uf.repM, Uf.bindM, Uf.takeM_err ct] at hR
            have HR2 := Lib.hid (show R = .error 2 from hR)
            have HT : Hid (∀ w1, Un w1 U r A c bs (p1 + k) v out lim B → Calls Try.prog 14 #[.pointer (some ⟨U, 0, none⟩), .int .i64 7] w1 (TakeE r w1)) := fun w1 h1 => utake_bad U r A c bs (p1 + k) 7 v out lim B w1 h1 (by omega) (by omega)
            clear hR hw hcl hn hm
            go_wp2_with (first
              | (go_at_call 14; refine (HT.out w1 HU2.out).mono ?_; rintro e w2 ⟨rfl, hg2⟩; have HG2 := Lib.hid (HW1.out.grown.trans hg2); clear hg2)
              | (go_at_call 33; refine HNX.out.mono ?_; rintro e w1 ⟨rfl, hb1, hg1⟩; have HW1 := Lib.hid (HW.out.step HRS.out hg1 hb1); have HU2 := Lib.hid (HH.out.step HW1.out.grown hb1); have hz1 : w.heap.size ≤ w1.heap.size := HW1.out.grown.size; have HO1 : Hid (w1.ownsRow w.heap.size 3 1 (.slice K m cv) m (a.map (.int .i64))) := (by rw [HM.out]; exact Lib.hid HW1.out.own); clear hb1 hg1))
            go_ret2
            rw [HR2.out]
            exact ⟨HG2.out, _, rfl, by decide⟩
      · rw [Uf.lengths_err (by omega) hn c1] at hR
        have HR2 := Lib.hid hR
        clear hR hw hcl hn hm
        go_wp2_with (first
          | (go_at_call 33; refine HNX.out.mono ?_; rintro e w1 ⟨rfl, hb1, hg1⟩; have HW1 := Lib.hid (HW.out.step HRS.out hg1 hb1); have HU2 := Lib.hid (HH.out.step HW1.out.grown hb1); have hz1 : w.heap.size ≤ w1.heap.size := HW1.out.grown.size; have HO1 : Hid (w1.ownsRow w.heap.size 3 1 (.slice K m cv) m (a.map (.int .i64))) := (by rw [HM.out]; exact Lib.hid HW1.out.own); clear hb1 hg1))
        go_ret2
        rw [HR2.out]
        exact ⟨HW1.out.grown, _, rfl, c1⟩
end Go.Proofs.Ytcjdeinmmokdgaa
