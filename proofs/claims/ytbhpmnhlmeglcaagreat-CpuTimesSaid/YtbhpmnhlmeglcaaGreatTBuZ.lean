/- cpu: a code's steps, in plain Lean: one rule a step, one a code. -/
import Derived.Test.YtbhpmnhlmeglcaaGreatTBuY
namespace Go.Proofs.YtbhpmnhlmeglcaaGreat
set_option linter.unusedSimpArgs false
set_option linter.unusedVariables false
open Go.RowKit
/-- what of a processor its steps go by -/
structure Co where
  (r : Rg) (lo hi ea : Int) (wrote : Bool)
def Co.cp (k : Co) (code ix : Int) : Cp := ⟨k.r, [], 0, code, ix, 0, false, k.lo, k.hi, k.ea, 0, k.wrote, false, 0, false, 0, 0, 0, 0, 0, false⟩
/-- a processor between two steps of a code: what comes is l -/
structure Cp.Is0 (c : Cp) (code ix : Int) (l : List Stp) (k : Co) : Prop where
  r : c.r = k.r
  lo : c.lo = k.lo
  hi : c.hi = k.hi
  ea : c.ea = k.ea
  wrote : c.wrote = k.wrote
  code : c.code = code
  ix : c.ix = ix
  second : c.second = 0
  ahead : c.ahead = false
  nmi : c.nmi = false
  held : c.held = false
  t0 : 0 ≤ c.t ∧ c.t ≤ 100
  n0 : 0 ≤ c.n ∧ c.n ≤ 100
  pos : ∃ i : Nat, c.at_ = i ∧ c.steps.drop i = l
theorem Cp.Is0.goto {c : Cp} {code ix : Int} {s : Stp} {l : List Stp} {k : Co} (h : c.Is0 code ix (s :: l) k) : ∃ i : Nat, c.at_ = i ∧ c.steps[i]? = some s ∧ i + 1 ≤ c.steps.length ∧ (c.goto (i + 1 : Nat)).Is0 code ix l k := by
  obtain ⟨i, hi, hd⟩ := h.pos
  have h0 : c.steps[i]? = some s := by
    have := congrArg (·[0]?) hd
    simpa using this
  have h1 : c.steps.drop (i + 1) = l := by
    have := congrArg (List.drop 1) hd
    rw [List.drop_drop] at this
    simpa using this
  exact ⟨i, hi, h0, (List.getElem?_eq_some_iff.1 h0).1, ⟨h.r, h.lo, h.hi, h.ea, h.wrote, h.code, h.ix, h.second, h.ahead, h.nmi, h.held, h.t0, h.n0, i + 1, rfl, h1⟩⟩
theorem Cp.Is0.byteV {c : Cp} {code ix : Int} {l : List Stp} {k : Co} (h : c.Is0 code ix l k) (wh : Int) : c.byteV wh = (k.cp code ix).byteV wh := by
  simp only [Cp.byteV, Cp.pushed, Co.cp, h.r, h.lo, h.hi, h.code, h.ix]
  rfl
theorem Cp.Is0.metV {c : Cp} {code ix : Int} {l : List Stp} {k : Co} (h : c.Is0 code ix l k) (wh : Int) : c.metV wh = (k.cp code ix).metV wh := by
  simp only [Cp.metV, Co.cp, h.r, h.lo, h.hi, h.code, h.ix]
  rfl
def Rg.placed (r : Rg) (p : Int) : Rg := if p = 0 then { r with pc := (r.pc + 1) % 65536 } else if p = 4 then { r with sp := (r.sp + 1) % 65536 } else if p = 5 then { r with sp := (r.sp - 1) % 65536 } else r
def Co.placed (k : Co) (p : Int) : Co := { k with r := k.r.placed p }
def Co.addr (k : Co) (p : Int) : Int := (k.cp 0 0).placeV p
theorem Cp.Is0.placeV {c : Cp} {code ix : Int} {l : List Stp} {k : Co} (h : c.Is0 code ix l k) (p : Int) (hp : p ≠ 9) (hp' : 0 ≤ p ∧ p ≤ 9) : c.placeV p = k.addr p := by
  have hpp : p = 0 ∨ p = 1 ∨ p = 2 ∨ p = 3 ∨ p = 4 ∨ p = 5 ∨ p = 6 ∨ p = 7 ∨ p = 8 := by omega
  rcases hpp with rfl | rfl | rfl | rfl | rfl | rfl | rfl | rfl | rfl
  all_goals simp [Cp.placeV, Co.addr, Co.cp, h.r, h.ea]
theorem Cp.Is0.placeC {c : Cp} {code ix : Int} {l : List Stp} {k : Co} (h : c.Is0 code ix l k) (p : Int) : (c.placeC p).Is0 code ix l (k.placed p) := by
  unfold Cp.placeC Co.placed Rg.placed
  by_cases h0 : p = 0
  · rw [if_pos h0, if_pos h0]
    exact ⟨by simp only [h.r], h.lo, h.hi, h.ea, h.wrote, h.code, h.ix, h.second, h.ahead, h.nmi, h.held, h.t0, h.n0, h.pos⟩
  rw [if_neg h0, if_neg h0]
  by_cases h4 : p = 4
  · rw [if_pos h4, if_pos h4]
    exact ⟨by simp only [h.r], h.lo, h.hi, h.ea, h.wrote, h.code, h.ix, h.second, h.ahead, h.nmi, h.held, h.t0, h.n0, h.pos⟩
  rw [if_neg h4, if_neg h4]
  by_cases h5 : p = 5
  · rw [if_pos h5, if_pos h5]
    exact ⟨by simp only [h.r], h.lo, h.hi, h.ea, h.wrote, h.code, h.ix, h.second, h.ahead, h.nmi, h.held, h.t0, h.n0, h.pos⟩
  rw [if_neg h5, if_neg h5]
  exact h
theorem Cp.Is0.told {c : Cp} {code ix : Int} {l : List Stp} {k : Co} (h : c.Is0 code ix l k) (w : Int) (p : Bool) : (c.told w p).Is0 code ix l k := ⟨h.r, h.lo, h.hi, h.ea, h.wrote, h.code, h.ix, h.second, h.ahead, h.nmi, h.held, h.t0, h.n0, h.pos⟩
theorem Cp.Is0.outs {c : Cp} {code ix : Int} {l : List Stp} {k : Co} (h : c.Is0 code ix l k) (v : Int) : (c.outs v).Is0 code ix l k := ⟨h.r, h.lo, h.hi, h.ea, h.wrote, h.code, h.ix, h.second, h.ahead, h.nmi, h.held, h.t0, h.n0, h.pos⟩
theorem Cp.Is0.start {c : Cp} {code ix : Int} {l : List Stp} {k : Co} (h : c.Is0 code ix l k) (kd a n : Int) (hn : 0 ≤ n ∧ n ≤ 100) : (c.start kd a n).Is0 code ix l k := ⟨h.r, h.lo, h.hi, h.ea, h.wrote, h.code, h.ix, h.second, h.ahead, h.nmi, rfl, ⟨Int.le_refl _, by show (0 : Int) ≤ 100; decide⟩, hn, h.pos⟩
theorem Cp.Is0.at {c : Cp} {code ix : Int} {l : List Stp} {k : Co} (h : c.Is0 code ix l k) (t : Int) (ht : 0 ≤ t ∧ t ≤ 100) : (c.at t).Is0 code ix l k := ⟨h.r, h.lo, h.hi, h.ea, h.wrote, h.code, h.ix, h.second, h.ahead, h.nmi, rfl, ht, h.n0, h.pos⟩
def Co.latch (k : Co) (wh v : Int) : Co := if wh = 1 then { k with hi := v } else { k with lo := v }
theorem Cp.Is0.latch {c : Cp} {code ix : Int} {l : List Stp} {k : Co} (h : c.Is0 code ix l k) (v : Int) : (c.latch v).Is0 code ix l (k.latch c.what v) := by
  unfold Cp.latch Co.latch
  split
  · exact ⟨h.r, h.lo, rfl, h.ea, h.wrote, h.code, h.ix, h.second, h.ahead, h.nmi, h.held, h.t0, h.n0, h.pos⟩
  · exact ⟨h.r, rfl, h.hi, h.ea, h.wrote, h.code, h.ix, h.second, h.ahead, h.nmi, h.held, h.t0, h.n0, h.pos⟩
theorem Cp.Is0.cycle {c : Cp} {code ix : Int} {l : List Stp} {k : Co} (h : c.Is0 code ix l k) (kd p wh n : Int) (hn : 0 ≤ n ∧ n ≤ 100) : (c.cycle (kd, p, wh, n)).Is0 code ix l (k.placed p) := by
  have h1 := (h.placeC p).told wh (kd == 3)
  unfold Cp.cycle
  simp only []
  repeat' split
  · exact h1.start _ _ _ hn
  · exact h1.start _ _ _ hn
  · exact (h1.outs _).start _ _ _ hn
  · exact (h1.outs _).start _ _ _ hn
  · exact h1.start _ _ _ hn
/-- what comes of a processor whose cycle has ended: another one, so many T-states later, between two codes -/
def After (c : Cp) (f : Fl) (n : Nat) (c2 : Cp) (f2 : Fl) : Prop := ∃ c1, NextTo c c1 ∧ ((n = 0 ∧ c1.kind = -1 ∧ c1 = c2 ∧ f2 = f.inc) ∨ (c1.kind ≠ -1 ∧ Run n c1 f.inc c2 f2))
/-- between two codes -/
structure Cp.Rest (c : Cp) (r : Rg) : Prop where
  calm : c.Calm
  r : c.r = r
  kind : c.kind = -1
  ahead : c.ahead = false
/-- the rest of a code: so many T-states, and what is left -/
def Ex (code ix : Int) (l : List Stp) (k : Co) (f : Fl) (n : Nat) (r2 : Rg) (f2 : Fl) : Prop := ∀ c, c.Ok → c.Is0 code ix l k → ∃ c2, c2.Rest r2 ∧ After c f n c2 f2
def Co.stop (k : Co) : Rg := { k.r with q := if k.wrote then k.r.f else 0 }
theorem ex_stop (code ix : Int) (k : Co) (f : Fl) : Ex code ix [] k f 0 k.stop f.inc := fun c ho h => by
  obtain ⟨i, hi, hd⟩ := h.pos
  have hl : (c.steps.length : Int) ≤ c.at_ := by
    have := List.drop_eq_nil_iff.1 hd
    omega
  have hr : c.stop.r = k.stop := by show ({ c.r with q := if c.wrote then c.r.f else 0 } : Rg) = _; rw [h.r, h.wrote]; rfl
  have hq : B8 (if c.wrote then c.r.f else 0) := by split; exact ho.r.f; exact ⟨by decide, by decide⟩
  refine ⟨c.stop, ⟨⟨⟨{ ho.r with q := hq }, ho.code, ho.lo, ho.hi, ho.ea, ho.out, ho.addr, ho.at0, ho.at1, ho.len⟩, h.held, h.nmi, h.t0, h.n0⟩, hr, rfl, h.ahead⟩, c.stop, ⟨ho, .inr ⟨h.second, 1, NextN.stop 0 c hl h.ahead⟩⟩, .inl ⟨rfl, rfl, rfl, rfl⟩⟩
/-- what a work makes of it -/
def WorkIs (wh code ix : Int) (k k' : Co) : Prop := ∀ c l, c.Ok → c.Is0 code ix l k → ∃ c', WorkOk wh c c' ∧ c'.Is0 code ix l k'
theorem after_next {c cw : Cp} {f f2 : Fl} {n : Nat} {c2 : Cp} (ho : c.Ok) (hs : c.second = 0) (hw : cw.second = 0) (hn : ∀ K c1, NextN K cw c1 → NextN (K + 1) c c1) (ha : After cw f n c2 f2) : After c f n c2 f2 := by
  obtain ⟨c1, ⟨hoc, h1⟩, h2⟩ := ha
  rcases h1 with ⟨h1, -⟩ | ⟨-, K, h1⟩
  · omega
  · exact ⟨c1, ⟨ho, .inr ⟨hs, K + 1, hn K c1 h1⟩⟩, h2⟩
theorem ex_work {wh code ix a m : Int} {l : List Stp} {k k' : Co} {f f2 : Fl} {n : Nat} {r2 : Rg} (hw : WorkIs wh code ix k k') (he : Ex code ix l k' f n r2 f2) : Ex code ix ((5, a, wh, m) :: l) k f n r2 f2 := fun c ho h => by
  obtain ⟨i, hi, hst, hle, hg⟩ := h.goto
  obtain ⟨c', h1, h2⟩ := hw _ _ (ok_goto ho (i + 1) hle) hg
  obtain ⟨c2, h3, h4⟩ := he c' h1.1 h2
  exact ⟨c2, h3, after_next ho h.second h2.second (fun K c1 hK => NextN.work K c c' c1 i a wh m hi hst h1 hK) h4⟩
theorem ex_met {wh code ix a m : Int} {l : List Stp} {k : Co} {f f2 : Fl} {n : Nat} {r2 : Rg} (hk : wh = 0 ∨ (wh = 1 ∧ 4 ≤ code / 8 % 8) ∨ wh = 2 ∨ wh = 3) (hm : (k.cp code ix).metV wh = true) (he : Ex code ix l k f n r2 f2) : Ex code ix ((6, a, wh, m) :: l) k f n r2 f2 := fun c ho h => by
  obtain ⟨i, hi, hst, hle, hg⟩ := h.goto
  obtain ⟨c2, h3, h4⟩ := he _ (ok_goto ho (i + 1) hle) hg
  refine ⟨c2, h3, after_next ho h.second hg.second (fun K c1 hK => NextN.met K c c1 i a wh m hi hst ?_ (by rw [hg.metV]; exact hm) hK) h4⟩
  unfold metK
  rw [h.code]
  exact hk
theorem ex_unmet {wh code ix a m : Int} {l : List Stp} {k : Co} {f f2 : Fl} {n : Nat} {r2 : Rg} (hk : wh = 0 ∨ (wh = 1 ∧ 4 ≤ code / 8 % 8) ∨ wh = 2 ∨ wh = 3) (hm : (k.cp code ix).metV wh = false) (he : Ex code ix [] k f n r2 f2) : Ex code ix ((6, a, wh, m) :: l) k f n r2 f2 := fun c ho h => by
  obtain ⟨i, hi, hst, hle, hg⟩ := h.goto
  have hz : (c.goto c.steps.length).Is0 code ix [] k := ⟨h.r, h.lo, h.hi, h.ea, h.wrote, h.code, h.ix, h.second, h.ahead, h.nmi, h.held, h.t0, h.n0, c.steps.length, rfl, List.drop_length⟩
  obtain ⟨c2, h3, h4⟩ := he _ (ok_goto ho c.steps.length (Nat.le_refl _)) hz
  refine ⟨c2, h3, after_next ho h.second hz.second (fun K c1 hK => NextN.unmet K c c1 i a wh m hi hst ?_ (by rw [hg.metV]; exact hm) hK) h4⟩
  unfold metK
  rw [h.code]
  exact hk
/-- a cycle of m T-states -/
theorem after_cycle {c cyc d : Cp} {f f1 f2 : Fl} {m : Nat} {n : Nat} {c2 : Cp} (hn : NextTo c cyc) (hc : cyc.Calm) (hl : f.line = false) (hk : cyc.kind ≠ -1) (h4 : cyc.kind ≠ 4) (ht : cyc.t = 0) (hm : cyc.n = m) (hm1 : 1 ≤ m)
    (hfin : ∀ c1, NextTo d c1 → FinTo (cyc.at cyc.n) (f.incs m) c1 f1) (ha : After d f1 n c2 f2) : After c f (m + n) c2 f2 := by
  obtain ⟨c1, h1, h2⟩ := ha
  obtain ⟨j, rfl⟩ : ∃ j, m = j + 1 := ⟨m - 1, by omega⟩
  have hfin' : FinTo (cyc.at cyc.n) (f.inc.incs j) c1 f1 := by rw [incs_succ]; exact hfin c1 h1
  refine ⟨cyc, hn, .inr ⟨hk, ?_⟩⟩
  rcases h2 with ⟨rfl, hk1, rfl, rfl⟩ | ⟨hk1, hr⟩
  · exact run_last j cyc c1 f.inc f1 hc hl hk h4 (by rw [ht, hm]; omega) hfin' hk1
  · exact run_cycle j n cyc c1 c2 f.inc f1 f2 hc hl hk h4 (by rw [ht, hm]; omega) hfin' hk1 hr
theorem cycle1 (c : Cp) (p wh n : Int) : c.cycle (1, p, wh, n) = ((c.placeC p).told wh false).start 1 (c.placeV p) n := rfl
theorem cycle2 (c : Cp) (p wh n : Int) : c.cycle (2, p, wh, n) = (((c.placeC p).told wh false).outs (((c.placeC p).told wh false).byteV wh)).start 2 (c.placeV p) n := rfl
theorem cycle0 (c : Cp) (p wh n : Int) : c.cycle (0, p, wh, n) = ((c.placeC p).told wh false).start 4 (c.placeV p) n := rfl
theorem cycle4 (c : Cp) (p wh n : Int) : c.cycle (4, p, wh, n) = (((c.placeC p).told wh false).outs (((c.placeC p).told wh false).byteV wh)).start 3 (c.placeV p) n := rfl
theorem cycle3 (c : Cp) (p wh n : Int) : c.cycle (3, p, wh, n) = ((c.placeC p).told wh true).start 3 (c.placeV p) n := rfl
theorem ex_read {code ix p wh : Int} {m : Nat} {l : List Stp} {k : Co} {f f2 : Fl} {n : Nat} {r2 : Rg} (v : Int) (hp : 0 ≤ p ∧ p ≤ 8) (hm : 1 ≤ m ∧ m ≤ 100) (hl : f.line = false) (hv : f.m.getD (k.addr p).toNat 0 = v) (hb : B8 v)
    (he : Ex code ix l ((k.placed p).latch wh v) (f.incs m) n r2 f2) : Ex code ix ((1, p, wh, (m : Int)) :: l) k f (m + n) r2 f2 := fun c ho h => by
  obtain ⟨i, hi, hst, hle, hg⟩ := h.goto
  have hog := ok_goto ho (i + 1) hle
  have hcy := hg.cycle 1 p wh m ⟨by omega, by omega⟩
  have hca := calm_cycle hog hg.nmi (1, p, wh, (m : Int)) ⟨by show (0 : Int) ≤ (m : Int); omega, by show (m : Int) ≤ 100; omega⟩
  have hnx := next_cycle ho h.second i hi 1 p wh m hst (by decide) ⟨hp.1, by omega⟩ (by intro h; omega)
  generalize hy : (c.goto (i + 1 : Nat)).cycle (1, p, wh, (m : Int)) = y at hcy hca hnx
  have hy1 : y.kind = 1 := by rw [← hy]; rfl
  have hyt : y.t = 0 := by rw [← hy]; rfl
  have hyn : y.n = m := by rw [← hy]; rfl
  have hyw : y.what = wh := by rw [← hy]; rfl
  have hya : y.addr = k.addr p := by rw [← hy, cycle1]; exact hg.placeV p (by omega) ⟨hp.1, by omega⟩
  have hd := (hcy.at y.n (by rw [hyn]; omega)).latch v
  rw [show (y.at y.n).what = wh from hyw] at hd
  obtain ⟨c2, h3, h4⟩ := he _ (ok_latch (ok_at hca.ok _) v hb) hd
  refine ⟨c2, h3, after_cycle hnx hca hl (by rw [hy1]; decide) (by rw [hy1]; decide) hyt hyn hm.1 (fun c1 hc1 => ?_) h4⟩
  refine FinTo.read _ c1 _ hy1 ?_
  rw [incs_m, show (y.at y.n).addr = k.addr p from hya, hv]
  exact hc1
theorem ex_write {code ix p wh : Int} {m : Nat} {l : List Stp} {k : Co} {f f2 : Fl} {n : Nat} {r2 : Rg} (hp : 0 ≤ p ∧ p ≤ 8) (hm : 1 ≤ m ∧ m ≤ 100) (hl : f.line = false) (hb : byteK wh)
    (he : Ex code ix l (k.placed p) ((f.incs m).put (k.addr p).toNat (((k.placed p).cp code ix).byteV wh)) n r2 f2) : Ex code ix ((2, p, wh, (m : Int)) :: l) k f (m + n) r2 f2 := fun c ho h => by
  obtain ⟨i, hi, hst, hle, hg⟩ := h.goto
  have hog := ok_goto ho (i + 1) hle
  have hcy := hg.cycle 2 p wh m ⟨by omega, by omega⟩
  have hca := calm_cycle hog hg.nmi (2, p, wh, (m : Int)) ⟨by show (0 : Int) ≤ (m : Int); omega, by show (m : Int) ≤ 100; omega⟩
  have hnx := next_cycle ho h.second i hi 2 p wh m hst (by decide) ⟨hp.1, by omega⟩ (fun _ => hb)
  generalize hy : (c.goto (i + 1 : Nat)).cycle (2, p, wh, (m : Int)) = y at hcy hca hnx
  have hy1 : y.kind = 2 := by rw [← hy]; rfl
  have hyt : y.t = 0 := by rw [← hy]; rfl
  have hyn : y.n = m := by rw [← hy]; rfl
  have hya : y.addr = k.addr p := by rw [← hy, cycle2]; exact hg.placeV p (by omega) ⟨hp.1, by omega⟩
  have hyo : y.out = ((k.placed p).cp code ix).byteV wh := by rw [← hy, cycle2]; exact ((hg.placeC p).told wh false).byteV wh
  have hd := hcy.at y.n (by rw [hyn]; omega)
  obtain ⟨c2, h3, h4⟩ := he _ (ok_at hca.ok _) hd
  refine ⟨c2, h3, after_cycle hnx hca hl (by rw [hy1]; decide) (by rw [hy1]; decide) hyt hyn hm.1 (fun c1 hc1 => ?_) h4⟩
  have := FinTo.write (y.at y.n) c1 (f.incs m) hy1 hc1
  rw [show (y.at y.n).addr = k.addr p from hya, show (y.at y.n).out = _ from hyo] at this
  exact this
theorem ex_out {code ix p wh : Int} {m : Nat} {l : List Stp} {k : Co} {f f2 : Fl} {n : Nat} {r2 : Rg} (hp : 0 ≤ p ∧ p ≤ 8) (hm : 1 ≤ m ∧ m ≤ 100) (hl : f.line = false) (hb : byteK wh) (hac : f.acts.length < 1000000000)
    (he : Ex code ix l (k.placed p) ((f.incs m).act true (k.addr p) (((k.placed p).cp code ix).byteV wh)) n r2 f2) : Ex code ix ((4, p, wh, (m : Int)) :: l) k f (m + n) r2 f2 := fun c ho h => by
  obtain ⟨i, hi, hst, hle, hg⟩ := h.goto
  have hog := ok_goto ho (i + 1) hle
  have hcy := hg.cycle 4 p wh m ⟨by omega, by omega⟩
  have hca := calm_cycle hog hg.nmi (4, p, wh, (m : Int)) ⟨by show (0 : Int) ≤ (m : Int); omega, by show (m : Int) ≤ 100; omega⟩
  have hnx := next_cycle ho h.second i hi 4 p wh m hst (by decide) ⟨hp.1, by omega⟩ (fun _ => hb)
  generalize hy : (c.goto (i + 1 : Nat)).cycle (4, p, wh, (m : Int)) = y at hcy hca hnx
  have hy1 : y.kind = 3 := by rw [← hy]; rfl
  have hyp : y.port = false := by rw [← hy]; rfl
  have hyt : y.t = 0 := by rw [← hy]; rfl
  have hyn : y.n = m := by rw [← hy]; rfl
  have hya : y.addr = k.addr p := by rw [← hy, cycle4]; exact hg.placeV p (by omega) ⟨hp.1, by omega⟩
  have hyo : y.out = ((k.placed p).cp code ix).byteV wh := by rw [← hy, cycle4]; exact ((hg.placeC p).told wh false).byteV wh
  have hd := hcy.at y.n (by rw [hyn]; omega)
  obtain ⟨c2, h3, h4⟩ := he _ (ok_at hca.ok _) hd
  refine ⟨c2, h3, after_cycle hnx hca hl (by rw [hy1]; decide) (by rw [hy1]; decide) hyt hyn hm.1 (fun c1 hc1 => ?_) h4⟩
  have := FinTo.outp (y.at y.n) c1 (f.incs m) hy1 hyp (by rw [incs_acts]; exact hac) hc1
  rw [show (y.at y.n).addr = k.addr p from hya, show (y.at y.n).out = _ from hyo] at this
  exact this
theorem ex_in {code ix p wh : Int} {m : Nat} {l : List Stp} {k : Co} {f f2 : Fl} {n : Nat} {r2 : Rg} (hp : 0 ≤ p ∧ p ≤ 8) (hm : 1 ≤ m ∧ m ≤ 100) (hl : f.line = false) (hac : f.acts.length < 1000000000)
    (he : Ex code ix l ((k.placed p).latch wh 255) ((f.incs m).act false (k.addr p) 255) n r2 f2) : Ex code ix ((3, p, wh, (m : Int)) :: l) k f (m + n) r2 f2 := fun c ho h => by
  obtain ⟨i, hi, hst, hle, hg⟩ := h.goto
  have hog := ok_goto ho (i + 1) hle
  have hcy := hg.cycle 3 p wh m ⟨by omega, by omega⟩
  have hca := calm_cycle hog hg.nmi (3, p, wh, (m : Int)) ⟨by show (0 : Int) ≤ (m : Int); omega, by show (m : Int) ≤ 100; omega⟩
  have hnx := next_cycle ho h.second i hi 3 p wh m hst (by decide) ⟨hp.1, by omega⟩ (by intro h; omega)
  generalize hy : (c.goto (i + 1 : Nat)).cycle (3, p, wh, (m : Int)) = y at hcy hca hnx
  have hy1 : y.kind = 3 := by rw [← hy]; rfl
  have hyp : y.port = true := by rw [← hy]; rfl
  have hyt : y.t = 0 := by rw [← hy]; rfl
  have hyn : y.n = m := by rw [← hy]; rfl
  have hyw : y.what = wh := by rw [← hy]; rfl
  have hya : y.addr = k.addr p := by rw [← hy, cycle3]; exact hg.placeV p (by omega) ⟨hp.1, by omega⟩
  have hd := (hcy.at y.n (by rw [hyn]; omega)).latch 255
  rw [show (y.at y.n).what = wh from hyw] at hd
  obtain ⟨c2, h3, h4⟩ := he _ (ok_latch (ok_at hca.ok _) 255 ⟨by decide, by decide⟩) hd
  refine ⟨c2, h3, after_cycle hnx hca hl (by rw [hy1]; decide) (by rw [hy1]; decide) hyt hyn hm.1 (fun c1 hc1 => ?_) h4⟩
  have := FinTo.inp (y.at y.n) c1 (f.incs m) hy1 hyp (by rw [incs_acts]; exact hac) hc1
  rw [show (y.at y.n).addr = k.addr p from hya] at this
  exact this
/-- a wait of m T-states -/
theorem run_wait : ∀ (j : Nat) (c : Cp) (f f2 : Fl) (n : Nat) (c2 : Cp), c.Calm → f.line = false → c.kind = 4 → c.n = (j + 1 : Nat) → (∀ y : Cp, y = { c with wait := 0, held := false, t := 0, n := 0 } → After y (f.incs j) n c2 f2) → Run (j + 1 + n) c f c2 f2
  | 0, c, f, f2, n, c2, hc, hl, h4, hn, ha => by
    obtain ⟨c1, h1, h2⟩ := ha _ rfl
    have ei : c.inn = c := by unfold Cp.inn; rw [if_neg (by rw [h4]; decide)]
    have e0 : (c.n - 1 : Int) = 0 := by rw [hn]; rfl
    have ea : c.adv = { c with wait := 0, held := false, t := 0, n := 0 } := by unfold Cp.adv; rw [if_pos h4, e0]
    have ht : TickTo c f c1 f := by
      right
      rw [ei, ea]
      exact ⟨rfl, FinTo.idle _ c1 f (.inl h4) h1⟩
    rcases h2 with ⟨rfl, hk1, rfl, rfl⟩ | ⟨hk1, hr⟩
    · exact Run.last c c1 f f hc hl ht hk1
    · rw [show 0 + 1 + n = n + 1 by omega]
      exact Run.more n c c1 c2 f f f2 hc hl ht hk1 hr
  | j + 1, c, f, f2, n, c2, hc, hl, h4, hn, ha => by
    have ei : c.inn = c := by unfold Cp.inn; rw [if_neg (by rw [h4]; decide)]
    have e0 : (c.n - 1 : Int) = (j + 1 : Nat) := by rw [hn]; omega
    have ea : c.adv = { c with wait := 0, held := false, t := 0, n := (j + 1 : Nat) } := by unfold Cp.adv; rw [if_pos h4, e0]
    have hn0 := hc.n0
    rw [show j + 1 + 1 + n = (j + 1 + n) + 1 by omega]
    refine Run.more _ c { c with wait := 0, held := false, t := 0, n := (j + 1 : Nat) } c2 f f f2 hc hl ?_ (by rw [h4]; decide) ?_
    · left
      rw [ei, ea]
      exact ⟨by show (0 : Int) ≠ (j + 1 : Nat); omega, rfl, rfl⟩
    · refine run_wait j _ f.inc f2 n c2 ⟨⟨hc.ok.r, hc.ok.code, hc.ok.lo, hc.ok.hi, hc.ok.ea, hc.ok.out, hc.ok.addr, hc.ok.at0, hc.ok.at1, hc.ok.len⟩, rfl, hc.nmi, ⟨Int.le_refl _, by show (0 : Int) ≤ 100; decide⟩, ⟨by show (0 : Int) ≤ (j + 1 : Nat); omega, by show ((j + 1 : Nat) : Int) ≤ 100; omega⟩⟩ hl h4 rfl ?_
      intro y hy
      rw [incs_succ]
      exact ha y hy
theorem ex_wait {code ix p wh : Int} {m : Nat} {l : List Stp} {k : Co} {f f2 : Fl} {n : Nat} {r2 : Rg} (hp : 0 ≤ p ∧ p ≤ 9) (hm : 1 ≤ m ∧ m ≤ 100) (hl : f.line = false)
    (he : Ex code ix l (k.placed p) (f.incs m) n r2 f2) : Ex code ix ((0, p, wh, (m : Int)) :: l) k f (m + n) r2 f2 := fun c ho h => by
  obtain ⟨i, hi, hst, hle, hg⟩ := h.goto
  have hog := ok_goto ho (i + 1) hle
  have hcy := hg.cycle 0 p wh m ⟨by omega, by omega⟩
  have hca := calm_cycle hog hg.nmi (0, p, wh, (m : Int)) ⟨by show (0 : Int) ≤ (m : Int); omega, by show (m : Int) ≤ 100; omega⟩
  have hnx := next_cycle ho h.second i hi 0 p wh m hst (by decide) hp (by intro h; omega)
  generalize hy : (c.goto (i + 1 : Nat)).cycle (0, p, wh, (m : Int)) = y at hcy hca hnx
  have hy1 : y.kind = 4 := by rw [← hy]; rfl
  have hyn : y.n = m := by rw [← hy]; rfl
  obtain ⟨z, hz⟩ : ∃ z : Cp, z = { y with wait := 0, held := false, t := 0, n := 0 } := ⟨_, rfl⟩
  have hz0 : z.Is0 code ix l (k.placed p) := by rw [hz]; exact ⟨hcy.r, hcy.lo, hcy.hi, hcy.ea, hcy.wrote, hcy.code, hcy.ix, hcy.second, hcy.ahead, hcy.nmi, rfl, ⟨Int.le_refl _, by show (0 : Int) ≤ 100; decide⟩, ⟨Int.le_refl _, by show (0 : Int) ≤ 100; decide⟩, hcy.pos⟩
  have hzo : z.Ok := by rw [hz]; exact ⟨hca.ok.r, hca.ok.code, hca.ok.lo, hca.ok.hi, hca.ok.ea, hca.ok.out, hca.ok.addr, hca.ok.at0, hca.ok.at1, hca.ok.len⟩
  obtain ⟨c2, h3, h4⟩ := he z hzo hz0
  obtain ⟨j, rfl⟩ : ∃ j, m = j + 1 := ⟨m - 1, by omega⟩
  refine ⟨c2, h3, y, hnx, .inr ⟨by rw [hy1]; decide, ?_⟩⟩
  refine run_wait j y f.inc f2 n c2 hca hl hy1 hyn (fun x hx => ?_)
  rw [hx, ← hz, incs_succ]
  exact h4
/-- an instruction: so many T-states, from these registers to those -/
def Ins (n : Nat) (r : Rg) (f : Fl) (r2 : Rg) (f2 : Fl) : Prop := ∀ c : Cp, c.Rest r → ∃ c2 : Cp, c2.Rest r2 ∧ Run n c f c2 f2
/-- registers behind a code's fetch -/
def Rg.fetched (r : Rg) : Rg := { r with hold := false, r := r.r / 128 * 128 + (r.r + 1) % 128, pc := (r.pc + 1) % 65536, pre := 0 }
theorem fetch_rest {c : Cp} {r : Rg} {f f2 : Fl} {n : Nat} {c2 c1 : Cp} (h : c.Rest r) (hl : f.line = false) (hf : FetchTo (f.m.getD r.pc.toNat 0) (K1 c) c1) (hk1 : c1.kind ≠ -1) (ha : After c1 (f.incs 3) n c2 f2) : Run (4 + n) c f c2 f2 := by
  obtain ⟨c3, h1, h2⟩ := ha
  have hfin : FinTo (c.begun.at 4) (f.incs 3) c3 (f.incs 3) := by
    refine FinTo.fetch _ c1 c3 _ rfl ?_ (.inr ⟨hk1, h1⟩)
    rw [incs_m, show (c.begun.at 4).addr = r.pc by rw [← h.r]; rfl]
    exact hf
  rcases h2 with ⟨rfl, hk3, rfl, rfl⟩ | ⟨hk3, hr⟩
  · have hb := calm_begun h.calm
    refine Run.more 3 c (c.begun.at 1) c3 f f _ h.calm hl (tick_begin c f h.kind) (by show (0 : Int) ≠ -1; decide) ?_
    exact run_last 2 (c.begun.at 1) c3 f.inc _ (calm_at hb 1 (by omega)) hl (by show (0 : Int) ≠ -1; decide) (by show (0 : Int) ≠ 4; decide) (by show (1 : Int) + 2 + 1 = 4; decide) hfin hk3
  · exact run_fetch n c c3 c2 f _ f2 h.calm hl h.kind hfin hk3 hr
/-- a plain code -/
theorem ins_plain {r r2 : Rg} {f f2 : Fl} {n : Nat} (code : Int) (hk : B8 code) (hl : f.line = false) (hh : r.halt = false) (hm : f.m.getD r.pc.toNat 0 = code) (h4 : code ≠ 221 ∧ code ≠ 253 ∧ code ≠ 237 ∧ code ≠ 203) (hlen : (Mi.programS 0 r.pre code).length ≤ 64)
    (he : ∀ lo hi ea, B8 lo → B8 hi → B16 ea → Ex code r.pre (Mi.programS 0 r.pre code) ⟨r.fetched, lo, hi, if r.pre = 0 then r.fetched.pair 2 0 else ea, false⟩ (f.incs 3) n r2 f2) : Ins (4 + n) r f r2 f2 := fun c h => by
  have ho : (K1 c).Ok := ok_at (ok_begun h.calm.ok) 4
  have hcr : c.r = r := h.r
  have hp : (K1 c).r.pre = r.pre := by show c.r.pre = _; rw [hcr]
  have hI : ((K1 c).inc0.program 0 r.pre code).Is0 code r.pre (Mi.programS 0 r.pre code) ⟨r.fetched, c.lo, c.hi, if r.pre = 0 then r.fetched.pair 2 0 else c.ea, false⟩ := by
    have e : (K1 c).inc0.r = r.fetched := by show _ = _; rw [← hcr]; rfl
    exact ⟨e, rfl, rfl, by show (if r.pre = 0 then (K1 c).inc0.r.pair 2 0 else c.ea) = _; rw [e], rfl, rfl, rfl, rfl, h.ahead, h.calm.nmi, rfl, ⟨by show (0 : Int) ≤ 4; decide, by show (4 : Int) ≤ 100; decide⟩, ⟨by show (0 : Int) ≤ 4; decide, by show (4 : Int) ≤ 100; decide⟩, 0, rfl, rfl⟩
  obtain ⟨c2, h1, h2⟩ := he c.lo c.hi c.ea h.calm.ok.lo h.calm.ok.hi h.calm.ok.ea _ (ok_program (ok_inc0c ho) 0 r.pre code hk hlen) hI
  refine ⟨c2, h1, fetch_rest h hl ?_ (by show (0 : Int) ≠ -1; decide) h2⟩
  rw [hm]
  intro g sv w hat
  have := cp_fetchPlain g sv (K1 c) code w hat ho hk (by show c.r.halt = false; rw [hcr]; exact hh) rfl h4
  rw [hp] at this
  exact this
/-- a code behind 237 or 203: s is the kind of it -/
theorem ins_second {r r2 : Rg} {f f2 : Fl} {n : Nat} (pre s code : Int) (hs : (pre = 237 ∧ s = 2) ∨ (pre = 203 ∧ s = 1 ∧ r.pre = 0)) (hk : B8 code) (hr : r.Ok) (hl : f.line = false) (hh : r.halt = false) (hm : f.m.getD r.pc.toNat 0 = pre) (hm2 : f.m.getD ((r.pc + 1) % 65536).toNat 0 = code) (hlen : (Mi.programS s 0 code).length ≤ 64)
    (he : ∀ lo hi, B8 lo → B8 hi → Ex code 0 (Mi.programS s 0 code) ⟨r.fetched.fetched, lo, hi, r.fetched.fetched.pair 2 0, false⟩ (f.incs 7) n r2 f2) : Ins (8 + n) r f r2 f2 := fun c h => by
  have ho : (K1 c).Ok := ok_at (ok_begun h.calm.ok) 4
  have hcr : c.r = r := h.r
  obtain ⟨d, hd⟩ : ∃ d : Cp, d = { (K1 c).inc0 with second := s } := ⟨_, rfl⟩
  have hdo : d.Ok := by rw [hd]; exact ⟨ok_inc0 ho, ho.code, ho.lo, ho.hi, ho.ea, ho.out, ho.addr, ho.at0, ho.at1, ho.len⟩
  have hdr : d.r = r.fetched := by rw [hd, ← hcr]; rfl
  have hdn : d.nmi = false := by rw [hd]; exact h.calm.nmi
  have hds : d.second = s := by rw [hd]
  have hda : d.ahead = false := by rw [hd]; exact h.ahead
  have hdk : d.kind = 0 := by rw [hd]; rfl
  have hdlo : d.lo = c.lo ∧ d.hi = c.hi ∧ d.wrote = false := by rw [hd]; exact ⟨rfl, rfl, rfl⟩
  have hs0 : 0 < s := by rcases hs with ⟨-, h⟩ | ⟨-, h, -⟩ <;> omega
  have hfet : FetchTo (f.m.getD r.pc.toNat 0) (K1 c) d := by
    rw [hm]
    intro g sv w hat
    rcases hs with ⟨rfl, rfl⟩ | ⟨rfl, rfl, hp⟩
    · rw [hd]; exact cp_fetchEd g sv (K1 c) 237 w hat ho ⟨by decide, by decide⟩ (by show c.r.halt = false; rw [hcr]; exact hh) rfl rfl
    · rw [hd]; exact cp_fetchCb g sv (K1 c) 203 w hat ho ⟨by decide, by decide⟩ (by show c.r.halt = false; rw [hcr]; exact hh) rfl (by show c.r.pre = 0; rw [hcr]; exact hp) rfl
  -- the second fetch
  obtain ⟨y, hy⟩ : ∃ y : Cp, y = d.start 0 d.r.pc 4 := ⟨_, rfl⟩
  have hyo : y.Ok := by rw [hy]; exact ⟨hdo.r, hdo.code, hdo.lo, hdo.hi, hdo.ea, hdo.out, hdo.r.pc, hdo.at0, hdo.at1, hdo.len⟩
  have hyc : y.Calm := by rw [hy]; exact ⟨by rw [← hy]; exact hyo, rfl, hdn, ⟨Int.le_refl _, by show (0 : Int) ≤ 100; decide⟩, ⟨by show (0 : Int) ≤ 4; decide, by show (4 : Int) ≤ 100; decide⟩⟩
  obtain ⟨z, hz⟩ : ∃ z : Cp, z = { (y.at 4).inc with second := 0 }.program s 0 code := ⟨_, rfl⟩
  have e : ({ (y.at 4).inc with second := 0 } : Cp).r = r.fetched.fetched := by
    show ({ y.r.tick with pc := (y.r.pc + 1) % 65536 } : Rg) = _
    have : y.r = r.fetched := by rw [hy]; exact hdr
    rw [this]
    rfl
  have hzo : z.Ok := by
    have h1 : ({ (y.at 4).inc with second := 0 } : Cp).Ok := ⟨ok_inc (ok_at hyo 4), hyo.code, hyo.lo, hyo.hi, hyo.ea, hyo.out, hyo.addr, hyo.at0, hyo.at1, hyo.len⟩
    rw [hz]; exact ok_program h1 s 0 code hk hlen
  have hzI : z.Is0 code 0 (Mi.programS s 0 code) ⟨r.fetched.fetched, c.lo, c.hi, r.fetched.fetched.pair 2 0, false⟩ := by
    have hyl : y.lo = c.lo ∧ y.hi = c.hi ∧ y.wrote = false ∧ y.ahead = false ∧ y.nmi = false ∧ y.n = 4 := by rw [hy]; exact ⟨hdlo.1, hdlo.2.1, hdlo.2.2, hda, hdn, rfl⟩
    rw [hz]
    exact ⟨e, hyl.1, hyl.2.1, by show ({ (y.at 4).inc with second := 0 } : Cp).r.pair 2 0 = _; rw [e], hyl.2.2.1, rfl, rfl, rfl, hyl.2.2.2.1, hyl.2.2.2.2.1, rfl, ⟨by show (0 : Int) ≤ 4; decide, by show (4 : Int) ≤ 100; decide⟩, ⟨by show (0 : Int) ≤ y.n; rw [hyl.2.2.2.2.2]; decide, by show y.n ≤ 100; rw [hyl.2.2.2.2.2]; decide⟩, 0, rfl, rfl⟩
  obtain ⟨c2, h1, h2⟩ := he c.lo c.hi h.calm.ok.lo h.calm.ok.hi z hzo hzI
  refine ⟨c2, h1, ?_⟩
  rw [show 8 + n = 4 + (4 + n) by omega]
  refine fetch_rest h hl hfet (by rw [hdk]; decide) ?_
  have hnx : NextTo d y := ⟨hdo, .inl ⟨by rw [hds]; exact hs0, hy⟩⟩
  have hyk : y.kind = 0 := by rw [hy]; rfl
  have h2' : After z ((f.incs 3).incs 4) n c2 f2 := h2
  refine after_cycle (m := 4) hnx hyc (by rw [incs_line]; exact hl) (by rw [hyk]; decide) (by rw [hyk]; decide) (by rw [hy]; rfl) (by rw [hy]; rfl) (by decide) (fun c1 hc1 => ?_) h2'
  have hn4 : y.n = 4 := by rw [hy]; rfl
  rw [hn4]
  refine FinTo.fetch _ z c1 _ hyk ?_ (.inr ⟨by rw [hz]; show y.kind ≠ -1; rw [hyk]; decide, hc1⟩)
  have hya : (y.at 4).addr = (r.pc + 1) % 65536 := by rw [hy]; show d.r.pc = _; rw [hdr]; rfl
  rw [incs_m, incs_m, hya, hm2]
  intro g sv w hat
  have hsec : (y.at 4).second = s := by rw [hy]; exact hds
  have := cp_fetchSecond g sv (y.at 4) code w hat (ok_at hyo 4) hk (by rw [hy]; show d.r.halt = false; rw [hdr]; exact hh) (by rw [hsec]; exact hs0)
  rw [hsec] at this
  rw [hz]
  exact this
end Go.Proofs.YtbhpmnhlmeglcaaGreat
