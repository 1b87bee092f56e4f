/- tzx.parser: general: its numbers. -/
import Derived.Test.YtokidpajialgbaaQG33
namespace Go.Proofs.Ytokidpajialgbaa
set_option linter.unusedSimpArgs false
set_option linter.unusedVariables false
open Go.RowKit
namespace Rd
def manyI (n : Int) : Int := if n = 0 then 256 else n
/-- what a generalised block holds -/
structure Gen where
  pa : Int
  pi : Int
  sy : Int
  co : Int
  ze : Int
  on : Int
  pil : List (Int × List Int)
  syl : List (Int × List Int)
  rl : List (Int × Int)
  dat : List Int
def genA (ma pi sy : Int) : RM (List (Int × List Int) × List (Int × Int)) := if 0 < ma then bind (symbolsM (manyI sy).toNat pi) fun p => bind (repsM ma.toNat (manyI sy)) fun r => ret (p, r) else ret ([], [])
def genB (co ze on : Int) : RM (List (Int × List Int) × List Int) := if 0 < co then bind (symbolsM (manyI on).toNat ze) fun p => bind (streamM co.toNat (manyI on)) fun d => ret (p, d) else ret ([], [])
def generalM (at_ : Int) : RM Gen := bind (num 4) fun q L s1 => bind (num 2) (fun pa => bind (num 4) fun ma => bind (num 1) fun pi => bind (num 1) fun sy => bind (num 4) fun co => bind (num 1) fun ze => bind (num 1) fun on =>
  bind (genA ma pi sy) fun a => bind (genB co ze on) fun b _ s => (⟨pa, pi, sy, co, ze, on, a.1, b.1, a.2, b.2⟩, if (s.k : Int) - s1.k = q then s else fail s 4 at_)) L s1
end Rd
/-- the cells of a generalised block -/
def gl (id pa pi sy ze on co : Int) (d P S r : Value) : List Value := [.int .i64 id, .int .i64 pa, .int .i64 pi, .int .i64 sy, .int .i64 0, .int .i64 ze, .int .i64 on, .int .i64 0, .int .i64 co, .int .i64 0, .int .i64 0, .int .i64 0, d, .slice none 0 0, .slice none 0 0, P, S, r]
def nilS : Value := .slice none 0 0
def GenP (R P b : Nat) (A : Addr) (n c : Nat) (L : List Int) (id : Int) (w : World) (g : Rd.Gen) (s : Rd.St) (e : Ending) (w' : World) : Prop :=
  e = .returned (.tuple #[]) ∧ ∃ d p y r, Fill w' R P b A n c L s (gl id g.pa g.pi g.sy g.ze g.on g.co d p y r) ∧ RowOf w' w.heap.size d .u8 g.dat ∧ SymsOf w' w.heap.size 48 .i64 p g.pil ∧ SymsOf w' w.heap.size 48 .i64 y g.syl ∧ RepsOf w' w.heap.size r g.rl ∧ Grew2 R b w w'
theorem manyI_nat {n : Int} (h0 : 0 ≤ n) (h1 : n < 256) : ∃ M : Nat, Rd.manyI n = M ∧ M ≤ 256 ∧ (Rd.manyI n).toNat = M := by
  refine ⟨(Rd.manyI n).toNat, ?_, ?_, rfl⟩ <;> (unfold Rd.manyI; split <;> omega)
/-- rows of another's memory stay -/
theorem SymsOf.setCell {w : World} {base b i : Nat} {e : TypeId} {k : IntKind} {v u : Value} {l : List (Int × List Int)} (h : SymsOf w base e k v l) (hb : b < base) : SymsOf (w.setCell ⟨b, i, none⟩ u) base e k v l := h.grown (grownBy_setCell (grownBy_refl w _) i u) hb
theorem RepsOf.setCell {w : World} {base b i : Nat} {v u : Value} {l : List (Int × Int)} (h : RepsOf w base v l) (hb : b < base) : RepsOf (w.setCell ⟨b, i, none⟩ u) base v l := own_grown h (grownBy_setCell (grownBy_refl w _) i u) hb
theorem RepsOf.grown {w w' : World} {base r : Nat} {v : Value} {l : List (Int × Int)} (h : RepsOf w base v l) (hg : w.grownBy w' (some r)) (hr : r < base) : RepsOf w' base v l := own_grown h hg hr
theorem RepsOf.mono {w : World} {base base' : Nat} {v : Value} {l : List (Int × Int)} (h : RepsOf w base v l) (hb : base' ≤ base) : RepsOf w base' v l := own_mono h hb
theorem reps_nil (w : World) (base : Nat) : RepsOf w base (.slice none 0 0) [] := World.ownsRow_nil _ _ _ _
theorem syms_form {w : World} {base : Nat} {e : TypeId} {k : IntKind} {v : Value} {l : List (Int × List Int)} (h : SymsOf w base e k v l) : ∃ B d, v = .slice B l.length d := by
  obtain ⟨cs, h1, _⟩ := h
  exact own_form h1
set_option maxRecDepth 100000 in
set_option maxHeartbeats 8000000 in
theorem tzGeneral (P R b : Nat) (A : Addr) (n c : Nat) (L : List Int) (s : Rd.St) (id at_ : Int) (w : World) (h : Fill w R P b A n c L s (gl id 0 0 0 0 0 0 nilS nilS nilS nilS)) :
    Calls Try.prog 93 #[.pointer (some ⟨P, 0, none⟩), .pointer (some ⟨b, 0, none⟩), .int .i64 at_] w (GenP R P b A n c L id w (Rd.generalM at_ L s).1 (Rd.generalM at_ L s).2) := by
  have hby := h.rd.byt
  have HN0 := Lib.hid (rdNumber R A n c L s 4 w h.rd (by omega) (by omega))
  obtain ⟨hq0, hq1⟩ := num_range hby 4 s (by omega)
  obtain ⟨q, s1, hM1⟩ : ∃ q s1, Rd.num 4 L s = (q, s1) := ⟨_, _, rfl⟩
  rw [hM1] at HN0 hq0 hq1
  have HA1 := Lib.hid (fun u (hu : RdIs u R A n c L s1) => rdAt R A n c L s1 u hu)
  have HN1 := Lib.hid (fun u (hu : RdIs u R A n c L s1) => rdNumber R A n c L s1 2 u hu (by omega) (by omega))
  obtain ⟨pa, s2, hM2⟩ : ∃ x s2, Rd.num 2 L s1 = (x, s2) := ⟨_, _, rfl⟩
  rw [hM2] at HN1
  have HN2 := Lib.hid (fun u (hu : RdIs u R A n c L s2) => rdNumber R A n c L s2 4 u hu (by omega) (by omega))
  obtain ⟨hma0, hma1⟩ := num_range hby 4 s2 (by omega)
  obtain ⟨ma, s3, hM3⟩ : ∃ y s3, Rd.num 4 L s2 = (y, s3) := ⟨_, _, rfl⟩
  rw [hM3] at HN2 hma0 hma1
  have HN3 := Lib.hid (fun u (hu : RdIs u R A n c L s3) => rdNumber R A n c L s3 1 u hu (by omega) (by omega))
  obtain ⟨hpi0, hpi1⟩ := num_range hby 1 s3 (by omega)
  obtain ⟨pi, s4, hM4⟩ : ∃ z s4, Rd.num 1 L s3 = (z, s4) := ⟨_, _, rfl⟩
  rw [hM4] at HN3 hpi0 hpi1
  have HN4 := Lib.hid (fun u (hu : RdIs u R A n c L s4) => rdNumber R A n c L s4 1 u hu (by omega) (by omega))
  obtain ⟨hsy0, hsy1⟩ := num_range hby 1 s4 (by omega)
  obtain ⟨sy, s5, hM5⟩ : ∃ m t, Rd.num 1 L s4 = (m, t) := ⟨_, _, rfl⟩
  rw [hM5] at HN4 hsy0 hsy1
  have HN5 := Lib.hid (fun u (hu : RdIs u R A n c L s5) => rdNumber R A n c L s5 4 u hu (by omega) (by omega))
  obtain ⟨hco0, hco1⟩ := num_range hby 4 s5 (by omega)
  obtain ⟨co, s6, hM6⟩ : ∃ m t, Rd.num 4 L s5 = (m, t) := ⟨_, _, rfl⟩
  rw [hM6] at HN5 hco0 hco1
  have HN6 := Lib.hid (fun u (hu : RdIs u R A n c L s6) => rdNumber R A n c L s6 1 u hu (by omega) (by omega))
  obtain ⟨hze0, hze1⟩ := num_range hby 1 s6 (by omega)
  obtain ⟨ze, s7, hM7⟩ : ∃ m t, Rd.num 1 L s6 = (m, t) := ⟨_, _, rfl⟩
  rw [hM7] at HN6 hze0 hze1
  have HN7 := Lib.hid (fun u (hu : RdIs u R A n c L s7) => rdNumber R A n c L s7 1 u hu (by omega) (by omega))
  obtain ⟨hon0, hon1⟩ := num_range hby 1 s7 (by omega)
  obtain ⟨on, s8, hM8⟩ : ∃ m t, Rd.num 1 L s7 = (m, t) := ⟨_, _, rfl⟩
  rw [hM8] at HN7 hon0 hon1
  simp only at hq0 hq1 hma0 hma1 hpi0 hpi1 hsy0 hsy1 hco0 hco1 hze0 hze1 hon0 hon1
  have hq : q < 4294967296 := hq1
  have hma : ma < 4294967296 := hma1
  have hco : co < 4294967296 := hco1
  have hpi : pi < 256 := hpi1
  have hsy : sy < 256 := hsy1
  have hze : ze < 256 := hze1
  have hon : on < 256 := hon1
  obtain ⟨T, hT⟩ : ∃ T, T = Rd.generalM at_ L s := ⟨_, rfl⟩
  obtain ⟨GA, hGA⟩ : ∃ GA, GA = Rd.genA ma pi sy L s8 := ⟨_, rfl⟩
  obtain ⟨GB, hGB⟩ : ∃ GB, GB = Rd.genB co ze on L GA.2 := ⟨_, rfl⟩
  have hT2 : T = (⟨pa, pi, sy, co, ze, on, GA.1.1, GB.1.1, GA.1.2, GB.1.2⟩, if (GB.2.k : Int) - s1.k = q then GB.2 else Rd.fail GB.2 4 at_) := by
    rw [hT, hGB, hGA]
    unfold Rd.generalM
    simp only [Rd.bind, hM1, hM2, hM3, hM4, hM5, hM6, hM7, hM8]
  have HT := Lib.hid hT2
  have HGA := Lib.hid hGA
  have HGB := Lib.hid hGB
  rw [← hT]
  have H := Lib.hid h
  have p0 := h.par
  have hpb := h.pb
  have hbl := h.blk.lt
  clear h hby hM1 hM2 hM3 hM4 hM5 hM6 hM7 hM8 hT hT2 hGA hGB hq1 hma1 hco1 hpi1 hsy1 hze1 hon1
  go_enter Try.func93, Try.ntmps93
  go_upto_region 4 with (first
    | (go_at_call_of 33 (Value.pointer (some ⟨R, 0, none⟩)); refine HN0.out.mono ?_; rintro e w1 ⟨rfl, hr1, hg1⟩; have HF1 := Lib.hid (H.out.step hr1 hg1); have HG1 := Lib.hid hg1; have p1 := HF1.out.par; clear hr1 hg1 HN0)
    | (go_at_call 36; refine (HA1.out w1 HF1.out.rd).mono ?_; rintro e w2 ⟨rfl, rfl⟩)
    | (go_at_call_of 33 (Value.int .i64 2); refine (HN1.out w1 HF1.out.rd).mono ?_; rintro e w2 ⟨rfl, hr2, hg2⟩; have HF2 := Lib.hid (HF1.out.step hr2 hg2); have HG2 := Lib.hid (grownBy_trans HG1.out hg2); have p2 := HF2.out.par; have b1 := HF2.out.blk.cell 1; simp only [gl, List.getElem?_cons_succ, List.getElem?_cons_zero] at b1; have f1 := HF2.out.blk.frozen 1; have HF3 := Lib.hid (HF2.out.set_ 1 (.int .i64 pa)); have HG3 := Lib.hid ((grew2_of HG2.out (b := b)).set_ 1 (.int .i64 pa)); have p3 := HF3.out.par; clear hr2 hg2)
    | (go_at_call 33; refine (HN2.out _ HF3.out.rd).mono ?_; rintro e w4 ⟨rfl, hr4, hg4⟩; have HF4 := Lib.hid (HF3.out.step hr4 hg4); have HG4 := Lib.hid (HG3.out.trans (grew2_of hg4)); have p4 := HF4.out.par; clear hr4 hg4))
  go_region_held3 (fun w' => w'.cell? ⟨P, 0, none⟩ = some (.pointer (some ⟨R, 0, none⟩))) (first | exact p4 | exact p5 | exact p6 | exact set_far p6 hpb | exact set_far (set_far p6 hpb) hpb)
    (first
      | (go_at_call 33; refine (HN4.out w5 HF5.out.rd).mono ?_; rintro e w6 ⟨rfl, hr6, hg6⟩; have HF6 := Lib.hid (HF5.out.step hr6 hg6); have HG6 := Lib.hid (HG5.out.trans (grew2_of hg6)); have p6 := HF6.out.par; have c2 := HF6.out.blk.cell 2; have c3 := HF6.out.blk.cell 3; simp only [gl, List.set_cons_succ, List.set_cons_zero, List.getElem?_cons_succ, List.getElem?_cons_zero] at c2 c3; have g2 := HF6.out.blk.frozen 2; have g3 := HF6.out.blk.frozen 3; clear hr6 hg6)
      | (go_at_call 33; refine (HN3.out _ (HF4.out.rd.below ((Below.refl _ w4).drew))).mono ?_; rintro e w5 ⟨rfl, hr5, hg0⟩; have hg5 := grownBy_of_drew hg0; have HF5 := Lib.hid (HF4.out.step hr5 hg5); have HG5 := Lib.hid (HG4.out.trans (grew2_of hg5)); have p5 := HF5.out.par; clear hr5 hg5 hg0))
  obtain ⟨wA, hwA⟩ : ∃ wA, wA = (w6.setCell ⟨b, 2, none⟩ (.int .i64 pi)).setCell ⟨b, 3, none⟩ (.int .i64 sy) := ⟨_, rfl⟩
  rw [← hwA]
  have HFA : Hid (Fill wA R P b A n c L s5 (gl id pa pi sy 0 0 0 nilS nilS nilS nilS)) := by show Fill _ _ _ _ _ _ _ _ _ _; rw [hwA]; exact (HF6.out.set_ 2 _).set_ 3 _
  have HGA' : Hid (Grew2 R b w wA) := by show Grew2 _ _ _ _; rw [hwA]; exact (HG6.out.set_ 2 _).set_ 3 _
  clear hwA
  have pA := HFA.out.par
  go_upto_region 6 with (first
    | (go_at_call 33; refine (HN5.out _ HFA.out.rd).mono ?_; rintro e w7 ⟨rfl, hr7, hg7⟩; have HF7 := Lib.hid (HFA.out.step hr7 hg7); have HG7 := Lib.hid (HGA'.out.trans (grew2_of hg7)); have p7 := HF7.out.par; have c8 := HF7.out.blk.cell 8; simp only [gl, List.getElem?_cons_succ, List.getElem?_cons_zero] at c8; have g8 := HF7.out.blk.frozen 8; clear hr7 hg7))
  obtain ⟨wB, hwB⟩ : ∃ wB, wB = w7.setCell ⟨b, 8, none⟩ (.int .i64 co) := ⟨_, rfl⟩
  rw [← hwB]
  have HFB : Hid (Fill wB R P b A n c L s6 (gl id pa pi sy 0 0 co nilS nilS nilS nilS)) := by show Fill _ _ _ _ _ _ _ _ _ _; rw [hwB]; exact HF7.out.set_ 8 _
  have HGB' : Hid (Grew2 R b w wB) := by show Grew2 _ _ _ _; rw [hwB]; exact HG7.out.set_ 8 _
  clear hwB
  have pB := HFB.out.par
  go_region_held3 (fun w' => w'.cell? ⟨P, 0, none⟩ = some (.pointer (some ⟨R, 0, none⟩))) (first | exact pB | exact p8 | exact p9 | exact set_far p9 hpb | exact set_far (set_far p9 hpb) hpb)
    (first
      | (go_at_call 33; refine (HN7.out w8 HF8.out.rd).mono ?_; rintro e w9 ⟨rfl, hr6, hg6⟩; have HF9 := Lib.hid (HF8.out.step hr6 hg6); have HG9 := Lib.hid (HG8.out.trans (grew2_of hg6)); have p9 := HF9.out.par; have c5 := HF9.out.blk.cell 5; have c6 := HF9.out.blk.cell 6; simp only [gl, List.getElem?_cons_succ, List.getElem?_cons_zero] at c5 c6; have g5 := HF9.out.blk.frozen 5; have g6 := HF9.out.blk.frozen 6; clear hr6 hg6)
      | (go_at_call 33; refine (HN6.out _ (HFB.out.rd.below ((Below.refl _ wB).drew))).mono ?_; rintro e w8 ⟨rfl, hr5, hg0⟩; have hg5 := grownBy_of_drew hg0; have HF8 := Lib.hid (HFB.out.step hr5 hg5); have HG8 := Lib.hid (HGB'.out.trans (grew2_of hg5)); have p8 := HF8.out.par; clear hr5 hg5 hg0))
  obtain ⟨wC, hwC⟩ : ∃ wC, wC = (w9.setCell ⟨b, 5, none⟩ (.int .i64 ze)).setCell ⟨b, 6, none⟩ (.int .i64 on) := ⟨_, rfl⟩
  rw [← hwC]
  have HFC : Hid (Fill wC R P b A n c L s8 (gl id pa pi sy ze on co nilS nilS nilS nilS)) := by show Fill _ _ _ _ _ _ _ _ _ _; rw [hwC]; exact (HF9.out.set_ 5 _).set_ 6 _
  have HGC' : Hid (Grew2 R b w wC) := by show Grew2 _ _ _ _; rw [hwC]; exact (HG9.out.set_ 5 _).set_ 6 _
  clear hwC
  go_upto_region 7 with fail
  go_cut [73] (fun t wx => Hid (t = .bool (decide (0 < ma))) ∧ wC = wx)
  case first =>
    go_wp2_with fail
    go_meet
    exact ⟨Lib.hid rfl, rfl⟩
  case rest =>
    obtain ⟨HTT, rfl⟩ := hcut
    go_wp2_with fail
    obtain rfl := HTT.out
    go_cut [] (fun wx => ∃ pv rv, Hid (Fill wx R P b A n c L GA.2 (gl id pa pi sy ze on co nilS pv nilS rv)) ∧ Hid (SymsOf wx w.heap.size 48 .i64 pv GA.1.1) ∧ Hid (RepsOf wx w.heap.size rv GA.1.2) ∧ Hid (Grew2 R b w wx))
    case first =>
      have hbR : b ≠ R := by have := HFC.out.lt; omega
      have HBG := Lib.hid (fun (u u' : World) (i : Nat) (v : Value) (h1 : u.cell? ⟨b, i, none⟩ = some v) (hg : u.grownBy u' (some R)) => par_grown h1 hbR hg)
      by_cases hpos : 0 < ma
      · go_wp2_with fail
        obtain ⟨M, hM, hM1, hM2⟩ := manyI_nat hsy0 hsy
        obtain ⟨m, rfl⟩ := Int.eq_ofNat_of_zero_le hma0
        obtain ⟨y, rfl⟩ := Int.eq_ofNat_of_zero_le hpi0
        have HMA := Lib.hid (fun u => many_any sy u)
        have hMI : (if sy = 0 then (256 : Int) else sy) = (M : Int) := hM
        rw [hMI] at HMA
        have HSY := Lib.hid (fun u (hu : RdIs u R A n c L s8) hp => tzSymbols P R A n c L s8 M y u hu hp HFC.out.pr (by omega) (by omega))
        obtain ⟨pl, s9, hX1⟩ : ∃ pl s9, Rd.symbolsM M y L s8 = (pl, s9) := ⟨_, _, rfl⟩
        rw [hX1] at HSY
        have HRP := Lib.hid (fun u (hu : RdIs u R A n c L s9) hp => tzReps P R A n c L s9 m M u hu hp HFC.out.pr (by omega))
        obtain ⟨rl, s10, hX2⟩ : ∃ rl s10, Rd.repsM m M L s9 = (rl, s10) := ⟨_, _, rfl⟩
        rw [hX2] at HRP
        have hGA : GA = ((pl, rl), s10) := by
          rw [HGA.out]
          unfold Rd.genA
          rw [if_pos hpos, hM2, hM]
          simp only [Rd.bind, Rd.ret, Int.toNat_natCast, hX1, hX2]
        have HGA2 := Lib.hid hGA
        have b2 := HFC.out.blk.cell 2
        have b3 := HFC.out.blk.cell 3
        simp only [gl, List.getElem?_cons_succ, List.getElem?_cons_zero] at b2 b3
        clear hX1 hX2 hGA hM hM2 hMI
        go_region_held3 (fun w' => w'.cell? ⟨b, 2, none⟩ = some (.int .i64 y) ∧ w'.cell? ⟨b, 3, none⟩ = some (.int .i64 sy)) (first | exact ⟨b2, b3⟩ | exact ⟨e2, e3⟩ | exact ⟨d2, d3⟩)
          (first
            | (go_at_call 68; refine (HMA.out _).mono ?_; rintro e w10 ⟨rfl, rfl⟩)
            | (go_at_call 111; refine (HSY.out _ (HFC.out.rd.below ((Below.refl _ wC).drew)) HFC.out.par).mono ?_; rintro e w11 ⟨v, rfl, hv, hr, hg0⟩; have hg := grownBy_of_drew hg0; obtain ⟨B, dd, rfl⟩ := syms_form hv; have HF11 := Lib.hid (HFC.out.step hr hg); have HG11 := Lib.hid (HGC'.out.trans (grew2_of hg)); have HV11 := Lib.hid (hv.mono HGC'.out.size); have e2 := HBG.out _ _ _ _ b2 hg; have e3 := HBG.out _ _ _ _ b3 hg; have HF12 := Lib.hid (HF11.out.set_ 15 (.slice B pl.length dd)); have HG12 := Lib.hid (HG11.out.set_ 15 (.slice B pl.length dd)); have HV12 := Lib.hid (HV11.out.setCell (i := 15) (u := .slice B pl.length dd) hbl); have d2 := HF12.out.blk.cell 2; have d3 := HF12.out.blk.cell 3; simp only [gl, List.set_cons_succ, List.set_cons_zero, List.getElem?_cons_succ, List.getElem?_cons_zero] at d2 d3; have c15 := HF11.out.blk.cell 15; simp only [gl, List.getElem?_cons_succ, List.getElem?_cons_zero] at c15; have g15 := HF11.out.blk.frozen 15; clear hr hg hg0 hv))
        obtain ⟨wD, hwD⟩ : ∃ wD, wD = w11.setCell ⟨b, 15, none⟩ (.slice B pl.length dd) := ⟨_, rfl⟩
        rw [← hwD] at HF12 HG12 HV12 d2 d3 ⊢
        clear hwD
        go_wp2_with (first
          | (go_at_call 68; refine (HMA.out _).mono ?_; rintro e w12 ⟨rfl, rfl⟩)
          | (go_at_call 112; refine (HRP.out wD HF12.out.rd HF12.out.par).mono ?_; rintro e w13 ⟨v, rfl, hv, hr, hg⟩; obtain ⟨C, cc, rfl⟩ := own_form hv; have HF13 := Lib.hid (HF12.out.step hr hg); have HG13 := Lib.hid (HG12.out.trans (grew2_of hg)); have HV13 := Lib.hid (HV12.out.grown hg (by have := HF12.out.lt; omega)); have HW13 := Lib.hid (RepsOf.mono hv HG12.out.size); have c17 := HF13.out.blk.cell 17; simp only [gl, List.set_cons_succ, List.set_cons_zero, List.getElem?_cons_succ, List.getElem?_cons_zero] at c17; have g17 := HF13.out.blk.frozen 17; clear hr hg hv))
        go_meet
        rw [HGA2.out]
        exact ⟨_, _, HF13.out.set_ 17 _, HV13.out.setCell hbl, HW13.out.setCell hbl, HG13.out.set_ 17 _⟩
      · have hGA : GA = (([], []), s8) := by
          rw [HGA.out]
          unfold Rd.genA
          rw [if_neg hpos]
          rfl
        have HGA2 := Lib.hid hGA
        clear hGA
        go_wp2_with fail
        go_meet
        rw [HGA2.out]
        exact ⟨_, _, HFC.out, syms_nil _ _ _ _, reps_nil _ _, HGC'.out⟩
    case rest =>
      obtain ⟨pv, rv, HFD, HPV, HRV, HGD⟩ := hcut
      obtain ⟨wd, rfl⟩ : ∃ wd : World, wd = wc := ⟨_, rfl⟩
      have b8 := HFD.out.blk.cell 8
      simp only [gl, List.getElem?_cons_succ, List.getElem?_cons_zero] at b8
      have hbR : b ≠ R := by have := HFD.out.lt; omega
      have HBG := Lib.hid (fun (u u' : World) (i : Nat) (v : Value) (h1 : u.cell? ⟨b, i, none⟩ = some v) (hg : u.grownBy u' (some R)) => par_grown h1 hbR hg)
      go_upto_region 10 with fail
      go_cut [103] (fun t wx => Hid (t = .bool (decide (0 < co))) ∧ wd = wx)
      case first =>
        go_wp2_with fail
        go_meet
        exact ⟨Lib.hid rfl, rfl⟩
      case rest =>
        obtain ⟨HTT2, rfl⟩ := hcut
        go_wp2_with fail
        obtain rfl := HTT2.out
        go_cut [] (fun wx => ∃ dv sv, Hid (Fill wx R P b A n c L GB.2 (gl id pa pi sy ze on co dv pv sv rv)) ∧ Hid (RowOf wx w.heap.size dv .u8 GB.1.2) ∧ Hid (SymsOf wx w.heap.size 48 .i64 sv GB.1.1) ∧ Hid (SymsOf wx w.heap.size 48 .i64 pv GA.1.1) ∧ Hid (RepsOf wx w.heap.size rv GA.1.2) ∧ Hid (Grew2 R b w wx))
        case first =>
          by_cases hpos : 0 < co
          · go_wp2_with fail
            obtain ⟨M, hM, hM1, hM2⟩ := manyI_nat hon0 hon
            obtain ⟨m, rfl⟩ := Int.eq_ofNat_of_zero_le hco0
            obtain ⟨y, rfl⟩ := Int.eq_ofNat_of_zero_le hze0
            have HMA := Lib.hid (fun u => many_any on u)
            have hMI : (if on = 0 then (256 : Int) else on) = (M : Int) := hM
            rw [hMI] at HMA
            have HSY := Lib.hid (fun u (hu : RdIs u R A n c L GA.2) hp => tzSymbols P R A n c L GA.2 M y u hu hp HFD.out.pr (by omega) (by omega))
            obtain ⟨sl, s11, hX1⟩ : ∃ pl s9, Rd.symbolsM M y L GA.2 = (pl, s9) := ⟨_, _, rfl⟩
            rw [hX1] at HSY
            have HST := Lib.hid (fun u (hu : RdIs u R A n c L s11) hp => tzStream P R A n c L s11 m M u hu hp HFD.out.pr (by omega) (by omega))
            obtain ⟨dl, s12, hX2⟩ : ∃ rl s10, Rd.streamM m M L s11 = (rl, s10) := ⟨_, _, rfl⟩
            rw [hX2] at HST
            have hGB : GB = ((sl, dl), s12) := by
              rw [HGB.out]
              unfold Rd.genB
              rw [if_pos hpos, hM2, hM]
              simp only [Rd.bind, Rd.ret, Int.toNat_natCast, hX1, hX2]
            have HGB2 := Lib.hid hGB
            have b5 := HFD.out.blk.cell 5
            have b6 := HFD.out.blk.cell 6
            simp only [gl, List.getElem?_cons_succ, List.getElem?_cons_zero] at b5 b6
            clear hX1 hX2 hGB hM hM2 hMI
            go_region_held3 (fun w' => w'.cell? ⟨b, 5, none⟩ = some (.int .i64 y) ∧ w'.cell? ⟨b, 6, none⟩ = some (.int .i64 on)) (first | exact ⟨b5, b6⟩ | exact ⟨e5, e6⟩ | exact ⟨d5, d6⟩)
              (first
                | (go_at_call 68; refine (HMA.out _).mono ?_; rintro e w10 ⟨rfl, rfl⟩)
                | (go_at_call 111; refine (HSY.out _ (HFD.out.rd.below ((Below.refl _ wd).drew)) HFD.out.par).mono ?_; rintro e w11 ⟨v, rfl, hv, hr, hg0⟩; have hg := grownBy_of_drew hg0; obtain ⟨B, dd, rfl⟩ := syms_form hv; have HF11 := Lib.hid (HFD.out.step hr hg); have HG11 := Lib.hid (HGD.out.trans (grew2_of hg)); have hRw : R < w.heap.size := (by have := HFD.out.lt; omega); have HS11 := Lib.hid (hv.mono HGD.out.size); have HP11 := Lib.hid (HPV.out.grown hg hRw); have HR11 := Lib.hid (HRV.out.grown hg hRw); have e5 := HBG.out _ _ _ _ b5 hg; have e6 := HBG.out _ _ _ _ b6 hg; have HF12 := Lib.hid (HF11.out.set_ 16 (.slice B sl.length dd)); have HG12 := Lib.hid (HG11.out.set_ 16 (.slice B sl.length dd)); have HS12 := Lib.hid (HS11.out.setCell (i := 16) (u := .slice B sl.length dd) hbl); have HP12 := Lib.hid (HP11.out.setCell (i := 16) (u := .slice B sl.length dd) hbl); have HR12 := Lib.hid (HR11.out.setCell (i := 16) (u := .slice B sl.length dd) hbl); have d5 := HF12.out.blk.cell 5; have d6 := HF12.out.blk.cell 6; have d8 := HF12.out.blk.cell 8; simp only [gl, List.set_cons_succ, List.set_cons_zero, List.getElem?_cons_succ, List.getElem?_cons_zero] at d5 d6 d8; have c16 := HF11.out.blk.cell 16; simp only [gl, List.getElem?_cons_succ, List.getElem?_cons_zero] at c16; have g16 := HF11.out.blk.frozen 16; clear hr hg hg0 hv))
            obtain ⟨wD, hwD⟩ : ∃ wD, wD = w11.setCell ⟨b, 16, none⟩ (.slice B sl.length dd) := ⟨_, rfl⟩
            rw [← hwD] at HF12 HG12 HS12 HP12 HR12 d5 d6 d8 ⊢
            clear hwD
            go_wp2_with fail
            go_region_held3 (fun w' => w'.cell? ⟨b, 8, none⟩ = some (.int .i64 m) ∧ w'.cell? ⟨b, 6, none⟩ = some (.int .i64 on)) (first | exact ⟨d8, d6⟩ | exact ⟨h8, h6⟩ | exact ⟨k8, k6⟩)
              (first
                | (go_at_call 68; refine (HMA.out _).mono ?_; rintro e w12 ⟨rfl, rfl⟩)
                | (go_at_call 113; refine (HST.out _ (HF12.out.rd.below ((Below.refl _ wD).drew)) HF12.out.par).mono ?_; rintro e w13 ⟨v, rfl, hv, hr, hg0⟩; have hg := grownBy_of_drew hg0; obtain ⟨C, cc, rfl⟩ := own_form hv; have HF13 := Lib.hid (HF12.out.step hr hg); have HG13 := Lib.hid (HG12.out.trans (grew2_of hg)); have HV13 := Lib.hid (hv.mono HG12.out.size); have HS13 := Lib.hid (HS12.out.grown hg hRw); have HP13 := Lib.hid (HP12.out.grown hg hRw); have HR13 := Lib.hid (HR12.out.grown hg hRw); have h8 := HBG.out _ _ _ _ d8 hg; have h6 := HBG.out _ _ _ _ d6 hg; have HF14 := Lib.hid (HF13.out.set_ 12 (.slice C dl.length cc)); have k8 := HF14.out.blk.cell 8; have k6 := HF14.out.blk.cell 6; simp only [gl, List.set_cons_succ, List.set_cons_zero, List.getElem?_cons_succ, List.getElem?_cons_zero] at k8 k6; have c12 := HF13.out.blk.cell 12; simp only [gl, List.set_cons_succ, List.set_cons_zero, List.getElem?_cons_succ, List.getElem?_cons_zero] at c12; have g12 := HF13.out.blk.frozen 12; clear hr hg hg0 hv))
            go_wp2_with fail
            go_meet
            rw [HGB2.out]
            exact ⟨_, _, HF14.out, HV13.out.setCell hbl, HS13.out.setCell hbl, HP13.out.setCell hbl, HR13.out.setCell hbl, HG13.out.set_ 12 _⟩
          · have hGB : GB = (([], []), GA.2) := by
              rw [HGB.out]
              unfold Rd.genB
              rw [if_neg hpos]
              rfl
            have HGB2 := Lib.hid hGB
            clear hGB
            go_wp2_with fail
            go_meet
            rw [HGB2.out]
            exact ⟨_, _, HFD.out, row_nil _ _ _, syms_nil _ _ _ _, HPV.out, HRV.out, HGD.out⟩
        case rest =>
          obtain ⟨dv, sv, HFE, HDE, HSE, HPE, HRE, HGE⟩ := hcut
          obtain ⟨we, rfl⟩ : ∃ we : World, we = wc := ⟨_, rfl⟩
          obtain ⟨s13, hs13⟩ : ∃ s13, s13 = GB.2 := ⟨_, rfl⟩
          rw [← hs13] at HFE
          have HS13 := Lib.hid hs13
          have pE := HFE.out.par
          have hle := HFE.out.rd.le
          have hle1 := HF1.out.rd.le
          have hbig := HFE.out.rd.big
          have HATE := Lib.hid (rdAt R A n c L s13 we HFE.out.rd)
          clear hs13
          by_cases hc : (s13.k : Int) - s1.k = q
          · have hT3 : T = (⟨pa, pi, sy, co, ze, on, GA.1.1, GB.1.1, GA.1.2, GB.1.2⟩, s13) := by rw [HT.out, ← HS13.out, if_pos hc]
            have HT3 := Lib.hid hT3
            have hc2 : ((s13.k : Int) - s1.k == q) = true := by simpa using hc
            clear hT3 hc
            go_wp2_with (first
              | (go_at_call 36; refine HATE.out.mono ?_; rintro e w14 ⟨rfl, rfl⟩))
            go_end0
            rw [HT3.out]
            exact ⟨rfl, _, _, _, _, HFE.out, HDE.out, HPE.out, HSE.out, HRE.out, HGE.out⟩
          · have hT3 : T = (⟨pa, pi, sy, co, ze, on, GA.1.1, GB.1.1, GA.1.2, GB.1.2⟩, Rd.fail s13 4 at_) := by rw [HT.out, ← HS13.out, if_neg hc]
            have HT3 := Lib.hid hT3
            have hc2 : ((s13.k : Int) - s1.k == q) = false := by simpa using hc
            have HFL := Lib.hid (rdFail R A n c L s13 4 at_ we HFE.out.rd (by decide))
            have hRw : R < w.heap.size := by have := HFE.out.lt; omega
            clear hT3 hc
            go_wp2_with (first
              | (go_at_call 36; refine HATE.out.mono ?_; rintro e w14 ⟨rfl, rfl⟩)
              | (go_at_call 35; refine HFL.out.mono ?_; rintro e w15 ⟨rfl, hr, hg⟩; have HFF := Lib.hid (HFE.out.step hr hg); have HGF := Lib.hid (HGE.out.trans (grew2_of hg)); have HDF := Lib.hid (HDE.out.grown hg hRw); have HPF := Lib.hid (HPE.out.grown hg hRw); have HSF := Lib.hid (HSE.out.grown hg hRw); have HRF := Lib.hid (HRE.out.grown hg hRw); clear hr hg))
            go_end0
            rw [HT3.out]
            exact ⟨rfl, _, _, _, _, HFF.out, HDF.out, HPF.out, HSF.out, HRF.out, HGF.out⟩
end Go.Proofs.Ytokidpajialgbaa
