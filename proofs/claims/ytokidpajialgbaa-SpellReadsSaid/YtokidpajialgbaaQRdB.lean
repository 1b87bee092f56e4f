/- wire.Reader in whatever state: what reads. -/
import Derived.Test.YtokidpajialgbaaQG16
namespace Go.Proofs.Ytokidpajialgbaa
set_option linter.unusedSimpArgs false
set_option linter.unusedVariables false
open Go.RowKit
/-- the next bytes: where they lie -/
def NextP (R : Nat) (A : Addr) (n c : Nat) (L : List Int) (w : World) (l : List Int) (s : Rd.St) (e : Ending) (w' : World) : Prop :=
  ∃ (B : Option Addr) (d : Nat), e = .returned (.slice B l.length d) ∧ Ints w' B .u8 l ∧ (B = none → l.length = 0 ∧ d = 0) ∧ RdIs w' R A n c L s ∧ w.grownBy w' (some R)
theorem RdIs.moved {w w' : World} {R k : Nat} {A : Addr} {n c j q : Nat} {L : List Int} (h : RdIs w R A n c L ⟨k, none⟩) (hk : k + j ≤ n) (ht : w' = (w.drewN q).setCell ⟨R, 1, none⟩ (.int .i64 ((k : Int) + j))) : RdIs w' R A n c L ⟨k + j, none⟩ ∧ w.grownBy w' (some R) := by
  have hT : Took R k j w w' := ⟨q, ht⟩
  have hg := took_grown hT
  obtain ⟨bv, h1, h2⟩ := h.rdr
  obtain rfl : bv = .pointer none := h2
  have := took_rdr hT h1
  have hlt := h.lt
  exact ⟨⟨⟨_, this, rfl⟩, Cells.grown h.ints hg (fun ad e => .inr (by injection e with e; rw [← e]; omega)), h.len, h.byt, h.lt, h.cap, h.big, hk⟩, hg⟩
theorem rdNext (R : Nat) (A : Addr) (n c : Nat) (L : List Int) (s : Rd.St) (j : Nat) (w : World) (h : RdIs w R A n c L s) (hj : j ≤ 1099511627776) :
    Calls Try.prog 63 #[.pointer (some ⟨R, 0, none⟩), .int .i64 j] w (NextP R A n c L w (Rd.nextM j L s).1 (Rd.nextM j L s).2) := by
  have hlen := h.len
  have hb := h.big
  have hcap := h.cap
  have hkn := h.le
  have HL := Lib.hid (rdLeft R A n c L s w h)
  have HLD := Lib.hid (fun q => h.below (Below_drewN (Below.refl _ w) q))
  obtain ⟨k, bad⟩ := s
  cases bad with
  | some q =>
    obtain ⟨E, p⟩ := q
    have H := Lib.hid h
    obtain ⟨⟨bv, h1, f, hbv, -⟩, -⟩ := h
    subst hbv
    have c2 : w.cell? ⟨R, 2, none⟩ = some (.pointer (some ⟨f, 0, none⟩)) := h1.cell 2
    clear h1 HL HLD
    go_enter Try.func63, Try.ntmps63
    go_wp2_with fail
    go_ret
    exact ⟨none, 0, rfl, fun i v hi => by simp [Rd.nextM] at hi, fun _ => ⟨rfl, rfl⟩, H.out, grownBy_refl w _⟩
  | none =>
    have hkn' : k ≤ n := hkn
    by_cases hjl : n - k < j
    · have hM : Rd.nextM j L ⟨k, none⟩ = ([], ⟨k, some (2, (k : Int))⟩) := by
        show (if L.length - k < j then _ else _) = _
        rw [hlen, if_pos hjl]
      rw [hM]
      have hlv : (Rd.left n ⟨k, none⟩ : Int) = ((n - k : Nat) : Int) := rfl
      rw [hlv] at HL
      have hgt : ((n - k : Nat) : Int) < j := by omega
      have HF := Lib.hid (fun q => rdFail R A n c L ⟨k, none⟩ 2 k (w.drewN q) (HLD.out q) (by decide))
      obtain ⟨⟨bv, h1, hbv⟩, -⟩ := h
      obtain rfl : bv = .pointer none := hbv
      have c1 : w.cell? ⟨R, 1, none⟩ = some (.int .i64 k) := h1.cell 1
      have c2 : w.cell? ⟨R, 2, none⟩ = some (.pointer none) := h1.cell 2
      clear h1 hM hlv HLD
      go_enter Try.func63, Try.ntmps63
      go_wp2_with (first
        | (go_at_call 34; refine HL.out.mono ?_; rintro e w2 ⟨rfl, q, rfl⟩)
        | (go_at_call 35; refine (HF.out q).mono ?_; rintro e w3 ⟨rfl, hr3, hg3⟩; have HR3 := Lib.hid hr3; have HG3 := Lib.hid hg3; clear hr3 hg3))
      go_ret
      exact ⟨none, 0, rfl, fun i v hi => by simp at hi, fun _ => ⟨rfl, rfl⟩, HR3.out, grownBy_trans (grownBy_drewN (grownBy_refl w _) q) HG3.out⟩
    · have hle : k + j ≤ n := by omega
      have hM : Rd.nextM j L ⟨k, none⟩ = ((L.drop k).take j, ⟨k + j, none⟩) := by
        show (if L.length - k < j then _ else _) = _
        rw [hlen, if_neg hjl]
      have hll : ((L.drop k).take j).length = j := by rw [List.length_take, List.length_drop]; omega
      rw [hM]
      rcases Nat.eq_zero_or_pos j with rfl | hj1
      · have hlv : (Rd.left n ⟨k, none⟩ : Int) = ((n - k : Nat) : Int) := rfl
        rw [hlv] at HL
        have hng : ¬ (((n - k : Nat) : Int) < 0) := by omega
        have H := Lib.hid h
        obtain ⟨⟨bv, h1, hbv⟩, -⟩ := h
        obtain rfl : bv = .pointer none := hbv
        have c0 : w.cell? ⟨R, 0, none⟩ = some (.slice (some A) n c) := h1.cell 0
        have c1 : w.cell? ⟨R, 1, none⟩ = some (.int .i64 k) := h1.cell 1
        have c2 : w.cell? ⟨R, 2, none⟩ = some (.pointer none) := h1.cell 2
        have f1 : w.frozen? ⟨R, 1, none⟩ = false := h1.frozen 1
        have HLL := Lib.hid hll
        clear h1 hM hlv HLD hll
        have w1 : IntKind.i64.wrap (k : Int) = (k : Int) := by rw [IntKind.wrap_i64]; omega
        by_cases hck : c = k
        · go_enter Try.func63, Try.ntmps63
          go_wp2_with (first
            | (go_at_call 34; refine HL.out.mono ?_; rintro e w2 ⟨rfl, q, rfl⟩))
          go_quiet (fail)
          go_wp2_with fail
          go_ret
          obtain ⟨a1, a2⟩ := H.out.moved (j := 0) (q := q + nq) hle (by simp; rfl)
          exact ⟨some A, 0, by simp, fun i v hi => by simp at hi, (fun e => by cases e), a1, a2⟩
        · go_enter Try.func63, Try.ntmps63
          go_wp2_with (first
            | (go_at_call 34; refine HL.out.mono ?_; rintro e w2 ⟨rfl, q, rfl⟩))
          go_quiet (fail)
          go_wp2_with fail
          go_ret
          obtain ⟨a1, a2⟩ := H.out.moved (j := 0) (q := q + nq) hle (by simp; rfl)
          exact ⟨some (A.add k), c - k, by simp, fun i v hi => by simp at hi, (fun e => by cases e), a1, a2⟩
      · have H := Lib.hid h
        obtain ⟨⟨bv, h1, hbv⟩, hi, -⟩ := h
        obtain rfl : bv = .pointer none := hbv
        refine (wireNext_ok R A n c k j w h1 hj1 hle (by omega) hcap).mono ?_
        rintro e w' ⟨rfl, q, hq⟩
        obtain ⟨a1, a2⟩ := H.out.moved hle hq
        exact ⟨_, _, by rw [hll], ints_take (ints_drop a1.ints k) j, (fun e => by cases e), a1, a2⟩
theorem byts_next {L : List Int} (hb : Byts L) (j : Nat) (s : Rd.St) : Byts (Rd.nextM j L s).1 := by
  unfold Rd.nextM
  split
  · intro x hx; simp at hx
  · split
    · intro x hx; simp at hx
    · intro x hx; exact hb x (List.mem_of_mem_drop (List.mem_of_mem_take hx))
theorem len_next (L : List Int) (j : Nat) (s : Rd.St) : (Rd.nextM j L s).1.length ≤ j := by
  unfold Rd.nextM
  split
  · simp
  · split
    · simp
    · simp [List.length_take]; omega
theorem number_nil (B : Option Addr) (n d : Nat) (w : World) (hn : n = 0) : Calls Try.prog 64 #[.slice B n d] w fun e w' => e = .returned (.int .i64 0) ∧ w = w' := by
  subst hn
  go_enter Try.func64, Try.ntmps64
  go_wp2_with fail
  go_loopw [3, 8] (fun v i wr => i = .int .i64 0 ∧ v = .int .i64 0 ∧ w = wr) (fun _ i _ => 0)
  case atStart => exact ⟨rfl, rfl, rfl⟩
  case round =>
    obtain ⟨rfl, rfl, rfl⟩ := hrel
    go_wp2_with fail
    go_ret
    exact ⟨rfl, rfl⟩
theorem number_opt (B : Option Addr) (d : Nat) (l : List Int) (w : World) (hi : Ints w B .u8 l) (hn : B = none → l.length = 0 ∧ d = 0) (h4 : l.length ≤ 4) (hb : Byts l) :
    Calls Try.prog 64 #[.slice B l.length d] w fun e w' => e = .returned (.int .i64 (leVal l)) ∧ w = w' := by
  cases B with
  | none =>
    have h0 := (hn rfl).1
    have : l = [] := List.eq_nil_of_length_eq_zero h0
    subst this
    exact number_nil none 0 d w rfl
  | some B => exact wireNumber_any B l.length d l w hi rfl h4 hb
theorem rdNumber (R : Nat) (A : Addr) (n c : Nat) (L : List Int) (s : Rd.St) (j : Nat) (w : World) (h : RdIs w R A n c L s) (hj : 1 ≤ j) (hj4 : j ≤ 4) :
    Calls Try.prog 33 #[.pointer (some ⟨R, 0, none⟩), .int .i64 j] w (RdP R A n c L w (Rd.num j L s).2 (.int .i64 (Rd.num j L s).1)) := by
  have HN := Lib.hid (rdNext R A n c L s j w h (by omega))
  have HBY := Lib.hid (byts_next h.byt j s)
  have HLE := Lib.hid (len_next L j s)
  obtain ⟨l, s', hM⟩ : ∃ l s', Rd.nextM j L s = (l, s') := ⟨_, _, rfl⟩
  rw [show Rd.num j L s = (leVal l, s') by unfold Rd.num Rd.bind Rd.ret; rw [hM]]
  rw [hM] at HN HBY HLE
  have HBY2 : Hid (Byts l) := HBY
  have HLE2 : Hid (l.length ≤ j) := HLE
  clear h hM HBY HLE
  go_enter Try.func33, Try.ntmps33
  go_wp2_with (first
    | (go_at_call 63; refine HN.out.mono ?_; rintro e w2 ⟨B, d, rfl, hi2, hn2, hr2, hg2⟩; have HI2 := Lib.hid hi2; have HN2 := Lib.hid hn2; have HR2 := Lib.hid hr2; have HG2 := Lib.hid hg2; clear hi2 hn2 hr2 hg2)
    | (go_at_call 64; refine (number_opt B d l w2 HI2.out HN2.out (Nat.le_trans HLE2.out hj4) HBY2.out).mono ?_; rintro e w3 ⟨rfl, rfl⟩))
  go_ret
  exact ⟨rfl, HR2.out, HG2.out⟩
theorem rdSigned (R : Nat) (A : Addr) (n c : Nat) (L : List Int) (s : Rd.St) (w : World) (h : RdIs w R A n c L s) :
    Calls Try.prog 97 #[.pointer (some ⟨R, 0, none⟩)] w (RdP R A n c L w (Rd.signed L s).2 (.int .i64 (Rd.signed L s).1)) := by
  have HN := Lib.hid (rdNumber R A n c L s 2 w h (by omega) (by omega))
  have hv : 0 ≤ (Rd.num 2 L s).1 ∧ (Rd.num 2 L s).1 < 65536 := by
    have h1 := leVal_range _ (byts_next h.byt 2 s)
    have h2 := len_next L 2 s
    have h3 : (256 : Int) ^ (Rd.nextM 2 L s).1.length ≤ 65536 := by
      have : (Rd.nextM 2 L s).1.length = 0 ∨ (Rd.nextM 2 L s).1.length = 1 ∨ (Rd.nextM 2 L s).1.length = 2 := by omega
      rcases this with e | e | e <;> rw [e] <;> decide
    exact ⟨h1.1, Int.lt_of_lt_of_le h1.2 h3⟩
  obtain ⟨v, s', hM⟩ : ∃ v s', Rd.num 2 L s = (v, s') := ⟨_, _, rfl⟩
  rw [show Rd.signed L s = (if 32768 ≤ v then v - 65536 else v, s') by unfold Rd.signed Rd.bind Rd.ret; rw [hM]]
  rw [hM] at HN hv
  obtain ⟨hv0, hv1⟩ : 0 ≤ v ∧ v < 65536 := hv
  clear h hM
  have w1 : IntKind.i64.wrap (v - 65536) = v - 65536 := by rw [IntKind.wrap_i64]; omega
  go_enter Try.func97, Try.ntmps97
  by_cases hh : 32768 ≤ v
  · go_wp2_with (first
      | (go_at_call 33; refine HN.out.mono ?_; rintro e w2 ⟨rfl, hr2, hg2⟩; have HR2 := Lib.hid hr2; have HG2 := Lib.hid hg2; clear hr2 hg2))
    go_ret
    exact ⟨by simp [if_pos hh], HR2.out, HG2.out⟩
  · go_wp2_with (first
      | (go_at_call 33; refine HN.out.mono ?_; rintro e w2 ⟨rfl, hr2, hg2⟩; have HR2 := Lib.hid hr2; have HG2 := Lib.hid hg2; clear hr2 hg2))
    go_ret
    exact ⟨by first | rfl | simp, HR2.out, HG2.out⟩
end Go.Proofs.Ytokidpajialgbaa
