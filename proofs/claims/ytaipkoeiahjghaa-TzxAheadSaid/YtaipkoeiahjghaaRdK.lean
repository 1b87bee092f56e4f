/- tzx.parser: level, samples, glued. -/
import Derived.Test.YtaipkoeiahjghaaRdJ
import Derived.Test.YtaipkoeiahjghaaStr
namespace Go.Proofs.Ytaipkoeiahjghaa
set_option linter.unusedSimpArgs false
set_option linter.unusedVariables false
open Go.RowKit
namespace Rd
def levelM : RM Int := bind (fixed 1) fun _ L s1 => bind (num 1) (fun u => bind (if 1 < u then failM 4 s1.k else ret ()) fun _ => ret u) L s1
def gluedM : RM (List Int) := fun L s => bind (take 9) (fun d _ s1 => match s1.bad with
  | some _ => (d, s1)
  | none => if d.take 7 = [88, 84, 97, 112, 101, 33, 26] then (d, s1) else (d, fail s1 3 s.k)) L s
/-- pause, rate, pack, count, data -/
def samplesM (at_ : Int) : RM (Int × Int × Int × Int × List Int) := bind (num 4) fun n => bind (num 2) fun p => bind (num 3) fun r => bind (num 1) fun k => bind (num 4) fun c =>
  if n - 10 < 0 then bind (failM 4 at_) fun _ => ret (p, r, k, c, []) else bind (take (n - 10)) fun d => ret (p, r, k, c, d)
end Rd
def OneP (R P b : Nat) (A : Addr) (n c : Nat) (L : List Int) (cs : List Value) (w : World) (s : Rd.St) (e : Ending) (w' : World) : Prop :=
  e = .returned (.tuple #[]) ∧ Fill w' R P b A n c L s cs ∧ Grew2 R b w w'
set_option maxRecDepth 100000 in
set_option maxHeartbeats 4000000 in
theorem tzLevel (P R b : Nat) (A : Addr) (n c : Nat) (L : List Int) (s : Rd.St) (cs : List Value) (w : World) (h : Fill w R P b A n c L s cs) (hcs : cs.length = 18) :
    Calls Try.prog 44 #[.pointer (some ⟨P, 0, none⟩), .pointer (some ⟨b, 0, none⟩)] w (OneP R P b A n c L (cs.set 9 (.int .i64 (Rd.levelM L s).1)) w (Rd.levelM L s).2) := by
  have HN1 := Lib.hid (tzFixed P R A n c L s 1 w h.rd h.par h.pr)
  obtain ⟨x, s1, hM1⟩ : ∃ x s1, Rd.fixed 1 L s = (x, s1) := ⟨_, _, rfl⟩
  rw [hM1] at HN1
  have HA := Lib.hid (fun u (hu : RdIs u R A n c L s1) => rdAt R A n c L s1 u hu)
  have HN2 := Lib.hid (fun u (hu : RdIs u R A n c L s1) => rdNumber R A n c L s1 1 u hu (by omega) (by omega))
  obtain ⟨y, s2, hM2⟩ : ∃ y s2, Rd.num 1 L s1 = (y, s2) := ⟨_, _, rfl⟩
  rw [hM2] at HN2
  have HF := Lib.hid (fun u (hu : RdIs u R A n c L s2) => rdFail R A n c L s2 4 s1.k u hu (by decide))
  obtain ⟨s3, hs3⟩ : ∃ s3, s3 = if 1 < y then Rd.fail s2 4 s1.k else s2 := ⟨_, rfl⟩
  have hT : Rd.levelM L s = (y, s3) := by
    unfold Rd.levelM
    simp only [Rd.bind, Rd.ret, hM1, hM2]
    rw [hs3]
    by_cases h1 : 1 < y
    · rw [if_pos h1, if_pos h1]; rfl
    · rw [if_neg h1, if_neg h1]; rfl
  rw [hT]
  have H := Lib.hid h
  have p0 := h.par
  have HCS := Lib.hid hcs
  have HS3 := Lib.hid hs3
  clear h hM1 hM2 hT hcs hs3
  by_cases h1 : 1 < y
  · have hs3 : s3 = Rd.fail s2 4 s1.k := by rw [HS3.out, if_pos h1]
    subst hs3
    go_enter Try.func44, Try.ntmps44
    go_wp2_with (first
      | (go_at_call 43; refine HN1.out.mono ?_; rintro e w1 ⟨rfl, hr1, hg1⟩; have HF1 := Lib.hid (H.out.step hr1 hg1); have HG1 := Lib.hid hg1; have p1 := HF1.out.par; clear hr1 hg1)
      | (go_at_call 26; refine (HA.out w1 HF1.out.rd).mono ?_; rintro e w2 ⟨rfl, rfl⟩)
      | (go_at_call 23; refine (HN2.out w1 HF1.out.rd).mono ?_; rintro e w2 ⟨rfl, hr2, hg2⟩; have HF2 := Lib.hid (HF1.out.step hr2 hg2); have HG2 := Lib.hid (grownBy_trans HG1.out hg2); have p2 := HF2.out.par; obtain ⟨v9, b9⟩ := HF2.out.cell 9 (by rw [HCS.out]; decide); have f9 := HF2.out.blk.frozen 9; have HF3 := Lib.hid (HF2.out.set_ 9 (.int .i64 y)); have p3 := HF3.out.par; clear hr2 hg2)
      | (go_at_call 25; refine (HF.out _ HF3.out.rd).mono ?_; rintro e w4 ⟨rfl, hr4, hg4⟩; have HF4 := Lib.hid (HF3.out.step hr4 hg4); have HG4 := Lib.hid (((grew2_of HG2.out (b := b)).set_ 9 _).trans (grew2_of hg4)); clear hr4 hg4))
    go_end0
    exact ⟨rfl, HF4.out, HG4.out⟩
  · have hs3 : s3 = s2 := by rw [HS3.out, if_neg h1]
    subst hs3
    go_enter Try.func44, Try.ntmps44
    go_wp2_with (first
      | (go_at_call 43; refine HN1.out.mono ?_; rintro e w1 ⟨rfl, hr1, hg1⟩; have HF1 := Lib.hid (H.out.step hr1 hg1); have HG1 := Lib.hid hg1; have p1 := HF1.out.par; clear hr1 hg1)
      | (go_at_call 26; refine (HA.out w1 HF1.out.rd).mono ?_; rintro e w2 ⟨rfl, rfl⟩)
      | (go_at_call 23; refine (HN2.out w1 HF1.out.rd).mono ?_; rintro e w2 ⟨rfl, hr2, hg2⟩; have HF2 := Lib.hid (HF1.out.step hr2 hg2); have HG2 := Lib.hid (grownBy_trans HG1.out hg2); have p2 := HF2.out.par; obtain ⟨v9, b9⟩ := HF2.out.cell 9 (by rw [HCS.out]; decide); have f9 := HF2.out.blk.frozen 9; have HF3 := Lib.hid (HF2.out.set_ 9 (.int .i64 y)); have p3 := HF3.out.par; clear hr2 hg2))
    go_end0
    exact ⟨rfl, HF3.out, (grew2_of HG2.out (b := b)).set_ 9 _⟩
theorem txt8_toList (l : List Int) : (txt8 l).toList = l.map (fun x => UInt8.ofNat x.toNat) := by rw [ByteArray.toList_eq]; simp [txt8]
theorem bytes_eq_iff : ∀ (l : List Int) (m : List UInt8), Byts l → (l.map (fun x => UInt8.ofNat x.toNat) = m ↔ l = m.map fun u => (u.toNat : Int))
  | [], [], _ => by simp
  | [], y :: m, _ => by simp
  | x :: l, [], _ => by simp
  | x :: l, y :: m, h => by
    have ih := bytes_eq_iff l m (fun z hz => h z (by simp [hz]))
    obtain ⟨x0, x1⟩ := h x (by simp)
    have hx : UInt8.ofNat x.toNat = y ↔ x = (y.toNat : Int) := by
      constructor
      · intro e; rw [← e]; simp; omega
      · intro e; rw [e]; simp
    rw [List.map_cons, List.map_cons, List.cons_eq_cons, List.cons_eq_cons, hx, ih]
theorem txt8_cmp (l : List Int) (m : List UInt8) (h : Byts l) : ((txt8 l).toList == m) = decide (l = m.map fun u => (u.toNat : Int)) := by
  rw [txt8_toList]
  have h1 := bytes_eq_iff l m h
  by_cases h2 : l = m.map fun u => (u.toNat : Int)
  · rw [decide_eq_true h2, beq_iff_eq]; exact h1.2 h2
  · rw [decide_eq_false h2]
    exact beq_false_of_ne fun e => h2 (h1.1 e)
def DatP (R P b : Nat) (A : Addr) (n c : Nat) (L : List Int) (cs : List Value) (w : World) (l : List Int) (s : Rd.St) (e : Ending) (w' : World) : Prop :=
  e = .returned (.tuple #[]) ∧ ∃ d, Fill w' R P b A n c L s (cs.set 12 d) ∧ RowOf w' w.heap.size d .u8 l ∧ Grew2 R b w w'
theorem blk_set_cell {w : World} {b : Nat} {t : TypeId} {cs : List Value} {i : Nat} {u : Value} (h : Blk w b t (cs.set i u)) (hi : i < cs.length) : w.cell? ⟨b, i, none⟩ = some u := by
  rw [h.cell i]
  simp [hi]
set_option maxRecDepth 100000 in
set_option maxHeartbeats 4000000 in
theorem tzGlued (P R b : Nat) (A : Addr) (n c : Nat) (L : List Int) (s : Rd.St) (cs : List Value) (w : World) (h : Fill w R P b A n c L s cs) (hcs : cs.length = 18) :
    Calls Try.prog 46 #[.pointer (some ⟨P, 0, none⟩), .pointer (some ⟨b, 0, none⟩)] w (DatP R P b A n c L cs w (Rd.gluedM L s).1 (Rd.gluedM L s).2) := by
  have HA := Lib.hid (rdAt R A n c L s w h.rd)
  have HN1 := Lib.hid (rdTake R A n c L s 9 w h.rd (by omega))
  obtain ⟨d, s1, hM1⟩ : ∃ d s1, Rd.take 9 L s = (d, s1) := ⟨_, _, rfl⟩
  rw [hM1] at HN1
  have HBYT : Hid (Byts d) := by have := take_byts h.rd.byt 9 s; rw [hM1] at this; exact this
  have hd9 : s1.bad = none → d.length = 9 := by
    have hlen := h.rd.len
    have hle := h.rd.le
    intro hb
    have e : Rd.take 9 L s = Rd.nextM 9 L s := rfl
    rw [e] at hM1
    unfold Rd.nextM at hM1
    split at hM1
    · rename_i q hq
      injection hM1 with _ h2
      rw [← h2, hq] at hb; cases hb
    · split at hM1
      · injection hM1 with _ h2
        rw [← h2] at hb; cases hb
      · injection hM1 with h1 _
        rw [← h1, List.length_take, List.length_drop]; omega
  have HD9 := Lib.hid hd9
  obtain ⟨T, hT⟩ : ∃ T, T = Rd.gluedM L s := ⟨_, rfl⟩
  have hT2 : T = match s1.bad with
      | some _ => (d, s1)
      | none => if d.take 7 = [88, 84, 97, 112, 101, 33, 26] then (d, s1) else (d, Rd.fail s1 3 s.k) := by
    rw [hT]
    unfold Rd.gluedM
    simp only [Rd.bind, hM1]
  have HT := Lib.hid hT2
  rw [← hT]
  have H := Lib.hid h
  have p0 := h.par
  have hbl := h.blk.lt
  have HCS := Lib.hid hcs
  clear h hM1 hT hT2 hcs hd9
  obtain ⟨kk, bad⟩ := s1
  cases bad with
  | some q =>
    have hT3 : T = (d, ⟨kk, some q⟩) := HT.out
    rw [hT3]
    clear HT hT3
    go_enter Try.func46, Try.ntmps46
    go_wp2_with (first
      | (go_at_call 26; refine HA.out.mono ?_; rintro e w2 ⟨rfl, rfl⟩)
      | (go_at_call 22; refine HN1.out.mono ?_; rintro e w1 ⟨v, rfl, hv1, hr1, hg1⟩; obtain ⟨B, dd, rfl⟩ := own_form hv1; have HF1 := Lib.hid (H.out.step hr1 hg1); have HG1 := Lib.hid hg1; have HV1 := Lib.hid hv1; have p1 := HF1.out.par; obtain ⟨v12, b12⟩ := HF1.out.cell 12 (by rw [HCS.out]; decide); have f12 := HF1.out.blk.frozen 12; have HF2 := Lib.hid (HF1.out.set_ 12 (.slice B d.length dd)); have p2 := HF2.out.par; have HBD := Lib.hid (rdBad R A n c L _ _ HF2.out.rd); clear hr1 hg1 hv1)
      | (go_at_call 50; refine HBD.out.mono ?_; rintro e w3 ⟨rfl, rfl⟩))
    go_end0
    exact ⟨rfl, _, HF2.out, HV1.out.setCell (by omega), (grew2_of HG1.out (b := b)).set_ 12 _⟩
  | none =>
    have hd9 := HD9.out rfl
    have hl7 : (d.take 7).length = 7 := by rw [List.length_take]; omega
    have HL7 := Lib.hid hl7
    have HD := Lib.hid hd9
    obtain ⟨X, hX⟩ : ∃ X, X = txt8 (d.take 7) := ⟨_, rfl⟩
    have HX := Lib.hid hX
    clear hd9 hl7 hX HD9
    have hbx : Byts (d.take 7) := fun x hx => HBYT.out x (List.mem_of_mem_take hx)
    have hcmp := txt8_cmp (d.take 7) [88, 84, 97, 112, 101, 33, 26] hbx
    rw [← HX.out] at hcmp
    by_cases hq : d.take 7 = [88, 84, 97, 112, 101, 33, 26]
    · rw [decide_eq_true (show d.take 7 = ([88, 84, 97, 112, 101, 33, 26] : List UInt8).map fun u => (u.toNat : Int) by rw [hq]; rfl)] at hcmp
      have hT3 : T = (d, ⟨kk, none⟩) := by rw [HT.out]; simp only [if_pos hq]
      rw [hT3]
      clear hT3 hq hbx
      go_enter Try.func46, Try.ntmps46
      go_wp2_with (first
        | (go_at_call 26; refine HA.out.mono ?_; rintro e w2 ⟨rfl, rfl⟩)
        | (go_at_call 22; refine HN1.out.mono ?_; rintro e w1 ⟨v, rfl, hv1, hr1, hg1⟩; obtain ⟨B, dd, rfl, hdd⟩ := own_form2 hv1; rw [HD.out] at hdd; have HF1 := Lib.hid (H.out.step hr1 hg1); have HG1 := Lib.hid hg1; have HV1 := Lib.hid hv1; have p1 := HF1.out.par; obtain ⟨v12, b12⟩ := HF1.out.cell 12 (by rw [HCS.out]; decide); have f12 := HF1.out.blk.frozen 12; have HF2 := Lib.hid (HF1.out.set_ 12 (.slice B d.length dd)); have p2 := HF2.out.par; have HV2 := Lib.hid (HV1.out.setCell (b := b) (i := 12) (u := .slice B d.length dd) (by omega)); have c12 := blk_set_cell HF2.out.blk (by rw [HCS.out]; decide); have hcv := conv_ints _ B 7 dd (d.take 7) (ints_take HV2.out.ints 7) HL7.out; rw [← HX.out] at hcv; rw [HD.out] at c12 hcv; rw [HD.out]; have HBD := Lib.hid (rdBad R A n c L _ _ HF2.out.rd); clear hr1 hg1 hv1)
        | (go_at_call 50; rw [← HD.out]; refine HBD.out.mono ?_; rintro e w3 ⟨rfl, rfl⟩; rw [HD.out]))
      go_end0
      rw [← HD.out]
      exact ⟨rfl, _, HF2.out, HV2.out, (grew2_of HG1.out (b := b)).set_ 12 _⟩
    · rw [decide_eq_false (show ¬ d.take 7 = ([88, 84, 97, 112, 101, 33, 26] : List UInt8).map fun u => (u.toNat : Int) from fun e => hq (e.trans rfl))] at hcmp
      have hT3 : T = (d, Rd.fail ⟨kk, none⟩ 3 s.k) := by rw [HT.out]; simp only [if_neg hq]
      rw [hT3]
      clear hT3 hq hbx
      go_enter Try.func46, Try.ntmps46
      go_wp2_with (first
        | (go_at_call 26; refine HA.out.mono ?_; rintro e w2 ⟨rfl, rfl⟩)
        | (go_at_call 22; refine HN1.out.mono ?_; rintro e w1 ⟨v, rfl, hv1, hr1, hg1⟩; obtain ⟨B, dd, rfl, hdd⟩ := own_form2 hv1; rw [HD.out] at hdd; have HF1 := Lib.hid (H.out.step hr1 hg1); have HG1 := Lib.hid hg1; have HV1 := Lib.hid hv1; have p1 := HF1.out.par; obtain ⟨v12, b12⟩ := HF1.out.cell 12 (by rw [HCS.out]; decide); have f12 := HF1.out.blk.frozen 12; have HF2 := Lib.hid (HF1.out.set_ 12 (.slice B d.length dd)); have p2 := HF2.out.par; have HV2 := Lib.hid (HV1.out.setCell (b := b) (i := 12) (u := .slice B d.length dd) (by omega)); have c12 := blk_set_cell HF2.out.blk (by rw [HCS.out]; decide); have hcv := conv_ints _ B 7 dd (d.take 7) (ints_take HV2.out.ints 7) HL7.out; rw [← HX.out] at hcv; rw [HD.out] at c12 hcv; rw [HD.out]; have HBD := Lib.hid (rdBad R A n c L _ _ HF2.out.rd); clear hr1 hg1 hv1)
        | (go_at_call 50; rw [← HD.out]; refine HBD.out.mono ?_; rintro e w3 ⟨rfl, rfl⟩; rw [HD.out])
        | (go_at_call 25; rw [← HD.out]; refine (rdFail R A n c L _ 3 s.k _ HF2.out.rd (by decide)).mono ?_; rintro e w4 ⟨rfl, hr4, hg4⟩; have HF4 := Lib.hid (HF2.out.step hr4 hg4); have HG4 := Lib.hid (((grew2_of HG1.out (b := b)).set_ 12 (.slice B d.length dd)).trans (grew2_of hg4)); have HV4 := Lib.hid (HV2.out.grown hg4 (by have := H.out.lt; omega)); clear hr4 hg4))
      go_end0
      exact ⟨rfl, _, HF4.out, HV4.out, HG4.out⟩
end Go.Proofs.Ytaipkoeiahjghaa
