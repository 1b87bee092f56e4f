/- ldir, in plain Lean; a processor's copy; two arrays of bytes compared. -/
import Derived.Test.YtbhpmnhlmeglcaaGreatBuCA
import Derived.Test.YtbhpmnhlmeglcaaGreatBuU
import Derived.ChangeKeysEq
import Derived.Deep.RegionLaw
import Derived.Deep.WholeRow
namespace Go.Proofs.YtbhpmnhlmeglcaaGreat
set_option linter.unusedSimpArgs false
set_option linter.unusedVariables false
open Go.RowKit
theorem p176 : Mi.programS 2 0 176 = [(1, 1, 0, 3), (2, 3, 0, 3), (0, 9, 0, 2), (5, 0, 52, 0), (6, 0, 3, 0), (0, 9, 0, 5), (5, 0, 57, 0)] := by decide +kernel
def Co.as (k : Co) (code ix : Int) (f : Cp → Cp) (wr : Bool) : Co := ⟨(f (k.cp code ix)).r, k.lo, k.hi, k.ea, wr⟩
theorem workIs_copy (code ix : Int) (k : Co) : WorkIs 52 code ix k (k.as code ix Cp.copied true) := fun c l ho h => by
  refine ⟨c.copied, workOk_copy c ho, ?_⟩
  have hr : c.copied.r = (k.cp code ix).copied.r := by
    simp only [Cp.copied, Cp.setF, Cp.copied3, Cp.withR, Cp.copied2, Cp.copied1, h.r, h.code, h.lo]
    rfl
  exact ⟨hr, h.lo, h.hi, h.ea, rfl, h.code, h.ix, h.second, h.ahead, h.nmi, h.held, h.t0, h.n0, h.pos⟩
theorem workIs_back (code ix : Int) (k : Co) : WorkIs 57 code ix k (k.as code ix Cp.backed true) := fun c l ho h => by
  refine ⟨c.backed, workOk_back c ho, ?_⟩
  have hr : c.backed.r = (k.cp code ix).backed.r := by
    simp only [Cp.backed, Cp.setF, Cp.withR, h.r]
    rfl
  exact ⟨hr, h.lo, h.hi, h.ea, rfl, h.code, h.ix, h.second, h.ahead, h.nmi, h.held, h.t0, h.n0, h.pos⟩
theorem pair0_put0 (r : Rg) (v : Int) (hv : B16 v) : (r.putPair 0 0 v).pair 0 0 = v := by
  show v / 256 * 256 + v % 256 = v; omega
theorem pair1_put1 (r : Rg) (v : Int) (hv : B16 v) : (r.putPair 1 0 v).pair 1 0 = v := by
  show v / 256 * 256 + v % 256 = v; omega
theorem pair2_put2 (r : Rg) (v : Int) (hv : B16 v) : (r.putPair 2 0 v).pair 2 0 = v := by
  show v / 256 * 256 + v % 256 = v; omega
/-- what ldir leaves -/
structure LdirTo (r r2 : Rg) (go : Bool) : Prop where
  bc : r2.pair 0 0 = (r.pair 0 0 - 1) % 65536
  de : r2.pair 1 0 = (r.pair 1 0 + 1) % 65536
  hl : r2.pair 2 0 = (r.pair 2 0 + 1) % 65536
  pc : r2.pc = if go then r.pc else ((r.pc + 1) % 65536 + 1) % 65536
  halt : r2.halt = r.halt
  pre : r2.pre = 0
theorem copied_pairs (k : Co) : (k.as 176 0 Cp.copied true).r.pair 0 0 = (k.r.pair 0 0 - 1) % 65536 ∧ (k.as 176 0 Cp.copied true).r.pair 1 0 = (k.r.pair 1 0 + 1) % 65536 ∧ (k.as 176 0 Cp.copied true).r.pair 2 0 = (k.r.pair 2 0 + 1) % 65536 ∧ (k.as 176 0 Cp.copied true).r.pc = k.r.pc ∧ (k.as 176 0 Cp.copied true).r.halt = k.r.halt ∧ (k.as 176 0 Cp.copied true).r.pre = k.r.pre := by
  obtain ⟨v0, h0⟩ : ∃ v, v = (k.r.pair 0 0 - 1) % 65536 := ⟨_, rfl⟩
  obtain ⟨v1, h1⟩ : ∃ v, v = (k.r.pair 1 0 + 1) % 65536 := ⟨_, rfl⟩
  obtain ⟨v2, h2⟩ : ∃ v, v = (k.r.pair 2 0 + 1) % 65536 := ⟨_, rfl⟩
  have e : ∃ F, (k.as 176 0 Cp.copied true).r = { ((k.r.putPair 0 0 v0).putPair 1 0 v1).putPair 2 0 v2 with f := F } := ⟨_, by rw [h0, h1, h2]; rfl⟩
  obtain ⟨F, e⟩ := e
  rw [e, ← h0, ← h1, ← h2]
  refine ⟨?_, ?_, ?_, rfl, rfl, rfl⟩
  · show v0 / 256 * 256 + v0 % 256 = v0; omega
  · show v1 / 256 * 256 + v1 % 256 = v1; omega
  · show v2 / 256 * 256 + v2 % 256 = v2; omega
/-- the bus behind so many T-states -/
theorem incs_add (f : Fl) (a : Nat) : ∀ b, (f.incs a).incs b = f.incs (a + b)
  | 0 => rfl
  | b + 1 => by show ((f.incs a).incs b).inc = _; rw [incs_add f a b]; rfl
theorem ins_ldir (r : Rg) (f : Fl) (hr : r.Ok) (hl : f.line = false) (hh : r.halt = false) (hm : f.m.getD r.pc.toNat 0 = 237) (hm2 : f.m.getD ((r.pc + 1) % 65536).toNat 0 = 176) (v : Int) (hv : f.m.getD (r.pair 2 0).toNat 0 = v) (hb : B8 v) :
    ∃ r2 f2, Ins (if r.pair 0 0 = 1 then 16 else 21) r f r2 f2 ∧ LdirTo r r2 (decide (r.pair 0 0 ≠ 1)) ∧ f2.m = f.m.set (r.pair 1 0).toNat v ∧ f2.line = false ∧ f2.acts = f.acts := by
  have hbc := pair_b16 hr 0 0
  obtain ⟨rf, hrf⟩ : ∃ rf, rf = r.fetched.fetched := ⟨_, rfl⟩
  have hpair : ∀ k, rf.pair k 0 = r.pair k 0 := fun k => by rw [hrf]; rfl
  have hrpc : rf.pc = ((r.pc + 1) % 65536 + 1) % 65536 := by rw [hrf]; rfl
  have hrh : rf.halt = r.halt ∧ rf.pre = 0 := by rw [hrf]; exact ⟨rfl, rfl⟩
  obtain ⟨K, hK⟩ : ∃ K : Int → Int → Co, K = fun lo hi => ⟨rf, lo, hi, rf.pair 2 0, false⟩ := ⟨_, rfl⟩
  obtain ⟨g1, hg1⟩ : ∃ g1, g1 = (f.incs 7).incs 3 := ⟨_, rfl⟩
  obtain ⟨g2, hg2⟩ : ∃ g2, g2 = (g1.incs 3).put (r.pair 1 0).toNat v := ⟨_, rfl⟩
  obtain ⟨g3, hg3⟩ : ∃ g3, g3 = g2.incs 2 := ⟨_, rfl⟩
  have l1 : g1.line = false := by rw [hg1, incs_line, incs_line]; exact hl
  have l2 : g2.line = false := by rw [hg2]; show (g1.incs 3).line = false; rw [incs_line]; exact l1
  have l3 : g3.line = false := by rw [hg3, incs_line]; exact l2
  have m3 : g3.m = f.m.set (r.pair 1 0).toNat v := by rw [hg3, incs_m, hg2]; show (g1.incs 3).m.set _ _ = _; rw [incs_m, hg1, incs_m, incs_m]
  have a3 : g3.acts = f.acts := by rw [hg3, incs_acts, hg2]; show (g1.incs 3).acts = _; rw [incs_acts, hg1, incs_acts, incs_acts]
  -- the registers behind the copy
  obtain ⟨rc, hrc⟩ : ∃ rc : Rg, ∀ lo hi : Int, (((K lo hi).latch 0 v).as 176 0 Cp.copied true).r = rc := ⟨((K 0 0).latch 0 v |>.as 176 0 Cp.copied true).r, fun lo hi => by rw [hK]; rfl⟩
  have hcp := fun lo hi => copied_pairs ((K lo hi).latch 0 v)
  have hKr : ∀ lo hi, ((K lo hi).latch 0 v).r = rf := fun lo hi => by rw [hK]; rfl
  have hrc0 : rc.pair 0 0 = (r.pair 0 0 - 1) % 65536 ∧ rc.pair 1 0 = (r.pair 1 0 + 1) % 65536 ∧ rc.pair 2 0 = (r.pair 2 0 + 1) % 65536 ∧ rc.pc = ((r.pc + 1) % 65536 + 1) % 65536 ∧ rc.halt = r.halt ∧ rc.pre = 0 := by
    have := hcp 0 0
    rw [hrc, hKr, hpair, hpair, hpair, hrpc, hrh.1, hrh.2] at this
    exact this
  have hmid : ∀ n r2 f2, (∀ lo hi, Ex 176 0 [(6, 0, 3, 0), (0, 9, 0, 5), (5, 0, 57, 0)] ⟨rc, v, hi, rf.pair 2 0, true⟩ g3 n r2 f2) → Ins (8 + (3 + (3 + (2 + n)))) r f r2 f2 := fun n r2 f2 he => by
    refine ins_second 237 2 176 (.inl ⟨rfl, rfl⟩) ⟨by decide, by decide⟩ hr hl hh hm hm2 (by rw [p176]; decide) (fun lo hi hlo hhi => ?_)
    rw [p176, ← hrf]
    have e0 : (⟨rf, lo, hi, rf.pair 2 0, false⟩ : Co) = K lo hi := by rw [hK]
    rw [e0]
    have ea : (K lo hi).addr 1 = r.pair 2 0 := by rw [hK]; exact hpair 2
    refine ex_read (m := 3) v (by decide) (by decide) (by rw [incs_line]; exact hl) (by rw [incs_m, ea]; exact hv) hb ?_
    rw [← hg1]
    have ek : ((K lo hi).placed 1).latch 0 v = (K lo hi).latch 0 v := rfl
    rw [ek]
    refine ex_write (m := 3) (by decide) (by decide) l1 (.inl rfl) ?_
    have eb : ((((K lo hi).latch 0 v).placed 3).cp 176 0).byteV 0 = v := rfl
    have ed : ((K lo hi).latch 0 v).addr 3 = r.pair 1 0 := by rw [hK]; exact hpair 1
    rw [eb, ed, ← hg2]
    refine ex_wait (m := 2) (by decide) (by decide) l2 ?_
    rw [← hg3]
    refine ex_work (workIs_copy 176 0 _) ?_
    have e2 : ((((K lo hi).latch 0 v).placed 3).placed 9).as 176 0 Cp.copied true = ⟨rc, v, hi, rf.pair 2 0, true⟩ := by
      have := hrc lo hi
      rw [← this, hK]
      rfl
    rw [e2]
    exact he lo hi
  by_cases h1 : r.pair 0 0 = 1
  · rw [if_pos h1]
    refine ⟨{ rc with q := rc.f }, g3.inc, ?_, ⟨hrc0.1, hrc0.2.1, hrc0.2.2.1, ?_, hrc0.2.2.2.2.1, hrc0.2.2.2.2.2⟩, m3, l3, a3⟩
    · refine hmid 0 _ _ (fun lo hi => ?_)
      refine ex_unmet (.inr (.inr (.inr rfl))) ?_ (ex_stop 176 0 _ g3)
      show (rc.pair 0 0 != 0) = false
      rw [hrc0.1, h1]; decide
    · rw [show decide (r.pair 0 0 ≠ 1) = false by simpa using h1]
      exact hrc0.2.2.2.1
  · rw [if_neg h1]
    obtain ⟨hb0, hb1⟩ := hbc
    have hne : (rc.pair 0 0 != 0) = true := by rw [hrc0.1]; simp; omega
    obtain ⟨rb, hrb⟩ : ∃ rb : Rg, rb = ((⟨rc, v, 0, rf.pair 2 0, true⟩ : Co).cp 176 0).backed.r := ⟨_, rfl⟩
    have hrb0 : rb.pair 0 0 = rc.pair 0 0 ∧ rb.pair 1 0 = rc.pair 1 0 ∧ rb.pair 2 0 = rc.pair 2 0 ∧ rb.pc = (rc.pc - 2) % 65536 ∧ rb.halt = rc.halt ∧ rb.pre = rc.pre := by rw [hrb]; exact ⟨rfl, rfl, rfl, rfl, rfl, rfl⟩
    refine ⟨{ rb with q := rb.f }, (g3.incs 5).inc, ?_, ⟨hrb0.1.trans hrc0.1, hrb0.2.1.trans hrc0.2.1, hrb0.2.2.1.trans hrc0.2.2.1, ?_, hrb0.2.2.2.2.1.trans hrc0.2.2.2.2.1, hrb0.2.2.2.2.2.trans hrc0.2.2.2.2.2⟩, by show (g3.incs 5).m = _; rw [incs_m]; exact m3, by show (g3.incs 5).line = _; rw [incs_line]; exact l3, by show (g3.incs 5).acts = _; rw [incs_acts]; exact a3⟩
    · refine hmid 5 _ _ (fun lo hi => ?_)
      refine ex_met (.inr (.inr (.inr rfl))) hne ?_
      refine ex_wait (m := 5) (n := 0) (by decide) (by decide) l3 ?_
      refine ex_work (workIs_back 176 0 _) ?_
      have : Co.stop ((Co.placed ⟨rc, v, hi, rf.pair 2 0, true⟩ 9).as 176 0 Cp.backed true) = { rb with q := rb.f } := by rw [hrb]; rfl
      rw [← this]
      exact ex_stop 176 0 _ _
    · rw [show decide (r.pair 0 0 ≠ 1) = true by simpa using h1]
      show rb.pc = _
      rw [hrb0.2.2.2.1, hrc0.2.2.2.1, if_pos rfl]
      obtain ⟨p0, p1⟩ := hr.pc
      omega
theorem eqItems_u8 {P : Program} {e : TypeId} (hu : P.underlying e = some (.int .u8)) (d : Nat) (xs : Array Value) (hx : ∀ i, i < xs.size → ∃ n, xs[i]? = some (.int .u8 n)) (w : World) : ∀ l : List Nat, (∀ i ∈ l, i < xs.size) → (Op.eqItems (d + 1) e 1 xs xs l).run P w = .ok true w
  | [], _ => by simp [Op.eqItems]
  | i :: l, h => by
    obtain ⟨n, hn⟩ := hx i (h i (by simp))
    have ha : isAgg e = isAgg e := rfl
    have hp : (part e xs (i * 1)).run P w = .ok (.int .u8 n) w := by
      rw [Nat.mul_one]
      unfold part isAgg
      simp only [Sem.run_bind, run_underlying hu, Result.andThen_ok, Sem.run_pure, hn, Bool.false_eq_true, if_false]
    simp only [Op.eqItems, Sem.run_bind, hp, Result.andThen_ok, run_equalIn_int w d e .u8 .u8 n n hu]
    simp
    exact eqItems_u8 hu d xs hx w l (fun j hj => h j (by simp [hj]))
theorem under_bytes : Tryz.prog.underlying 32 = some (.array 65536 5) := Tryz.underlying32
theorem guard_bytes : Tryz.prog.eqGuardType Tryz.prog.depth 32 = false := by kernel_rfl
theorem info_u8 : ∃ i, Tryz.prog.info? 5 = some i := by
  have h : (Tryz.prog.info? 5).isSome = true := by kernel_rfl
  exact Option.isSome_iff_exists.1 h
theorem cells_u8 : Tryz.prog.cellsOf 5 = 1 := by kernel_rfl
/-- an array of bytes is itself -/
theorem eq_bytes (x y : Operand) (l : List Int) (hl : l.length = 65536) (u : World) : (do eqGuard .eql 32 x y (.agg (l.map (Value.int .u8)).toArray) (.agg (l.map (Value.int .u8)).toArray); binOp .eql 32 (.agg (l.map (Value.int .u8)).toArray) (.agg (l.map (Value.int .u8)).toArray) : Sem Value).run Tryz.prog u = .ok (.bool true) u := by
  obtain ⟨xs, hxs⟩ : ∃ xs, xs = (l.map (Value.int .u8)).toArray := ⟨_, rfl⟩
  rw [← hxs]
  have hx : ∀ i, i < xs.size → ∃ n, xs[i]? = some (.int .u8 n) := fun i hi => by
    rw [hxs] at hi ⊢
    simp at hi
    exact ⟨l[i], by simp [hi]⟩
  have hs : xs.size = 65536 := by rw [hxs]; simp [hl]
  obtain ⟨i, hi⟩ := info_u8
  have he : (Op.equal 32 (.agg xs) (.agg xs)).run Tryz.prog u = .ok true u := by
    show (Op.equalIn (9999 + 1) 32 (.agg xs) (.agg xs)).run Tryz.prog u = _
    rw [run_equalIn_array u 9999 xs xs under_bytes hi, cells_u8]
    exact eqItems_u8 Tryz.underlying5 9998 xs hx u _ (fun j hj => by rw [hs]; exact List.mem_range.1 hj)
  simp only [eqGuard, binOp, Sem.run_bind, run_program, guard_bytes, Result.andThen_ok, Sem.run_pure, Bool.not_true, Bool.not_false, Bool.false_eq_true, if_false, if_true, he]
end Go.Proofs.YtbhpmnhlmeglcaaGreat
