/- cpu: any plain code's steps end, in one of its numbers of T-states. -/
import Derived.Test.YtbhpmnhlmeglcaaGreatTCtA
import Derived.Test.YtbhpmnhlmeglcaaGreatTBuZ
import Derived.Test.YtbhpmnhlmeglcaaGreatTRefZ
namespace Go.Proofs.YtbhpmnhlmeglcaaGreat
set_option linter.unusedSimpArgs false
set_option linter.unusedVariables false
open Go.RowKit
/-- the T-states that steps may take -/
def outsS : List Stp → List Nat
  | [] => [0]
  | s :: l => if s.1 ≤ 4 then (outsS l).map (s.2.2.2.toNat + ·) else if s.1 = 6 then 0 :: outsS l else outsS l
def okS (code : Int) (s : Stp) : Bool :=
  if s.1 = 0 then decide (0 ≤ s.2.1 ∧ s.2.1 ≤ 9 ∧ 1 ≤ s.2.2.2 ∧ s.2.2.2 ≤ 100)
  else if s.1 = 1 ∨ s.1 = 3 then decide (0 ≤ s.2.1 ∧ s.2.1 ≤ 8 ∧ 1 ≤ s.2.2.2 ∧ s.2.2.2 ≤ 100)
  else if s.1 = 2 ∨ s.1 = 4 then decide (0 ≤ s.2.1 ∧ s.2.1 ≤ 8 ∧ 1 ≤ s.2.2.2 ∧ s.2.2.2 ≤ 100 ∧ 0 ≤ s.2.2.1 ∧ s.2.2.1 ≤ 13 ∧ s.2.2.1 ≠ 5)
  else if s.1 = 5 then decide (0 ≤ s.2.2.1 ∧ s.2.2.1 ≤ 35 ∧ s.2.2.1 ≠ 18)
  else if s.1 = 6 then decide (s.2.2.1 = 0 ∨ (s.2.2.1 = 1 ∧ 4 ≤ code / 8 % 8) ∨ s.2.2.1 = 2 ∨ s.2.2.1 = 3)
  else false
/-- a bus on which a code may run -/
structure FOk (f : Fl) (n : Nat) : Prop where
  m : ∀ i : Nat, B8 (f.m.getD i 0)
  line : f.line = false
  acts : f.acts.length ≤ n
theorem FOk.incs {f : Fl} {n : Nat} (h : FOk f n) (m : Nat) : FOk (f.incs m) n := ⟨by rw [incs_m]; exact h.m, by rw [incs_line]; exact h.line, by rw [incs_acts]; exact h.acts⟩
theorem FOk.put {f : Fl} {n : Nat} (h : FOk f n) (a : Nat) (v : Int) (hv : B8 v) : FOk (f.put a v) n := ⟨fun i => by
  show B8 ((f.m.set a v).getD i 0)
  have hz : B8 0 := ⟨by decide, by decide⟩
  by_cases ha : a = i
  · subst ha
    by_cases hl : a < f.m.length
    · rw [show (f.m.set a v).getD a 0 = v from by simp [List.getD, List.getElem?_set, hl]]; exact hv
    · rw [show (f.m.set a v).getD a 0 = 0 from by simp [List.getD, List.getElem?_set, hl]]; exact hz
  · rw [show (f.m.set a v).getD i 0 = f.m.getD i 0 from by simp [List.getD, List.getElem?_set, ha]]; exact h.m i, h.line, h.acts⟩
theorem FOk.act {f : Fl} {n : Nat} (h : FOk f n) (o : Bool) (p v : Int) : FOk (f.act o p v) (n + 1) := ⟨h.m, h.line, by show (f.acts ++ [_]).length ≤ _; rw [List.length_append]; exact Nat.succ_le_succ h.acts⟩
theorem FOk.mono {f : Fl} {n m : Nat} (h : FOk f n) (hm : n ≤ m) : FOk f m := ⟨h.m, h.line, Nat.le_trans h.acts hm⟩
theorem inc_t (f : Fl) (h0 : 0 ≤ f.t) (h1 : f.t < 1000000) : f.inc.t = f.t + 1 := by
  show IntKind.u64.wrap (f.t + 1) = _
  rw [IntKind.wrap_u64]; omega
theorem incs_t (f : Fl) : ∀ n : Nat, 0 ≤ f.t → f.t + n ≤ 100000 → (f.incs n).t = f.t + n
  | 0, _, _ => by show f.t = f.t + 0; omega
  | n + 1, h0, h1 => by
    have ih := incs_t f n h0 (by omega)
    show (f.incs n).inc.t = _
    rw [inc_t _ (by omega) (by omega), ih]
    omega
theorem Co.Ok.placed {k : Co} (h : k.Ok) (p : Int) : (k.placed p).Ok := by
  refine ⟨?_, h.lo, h.hi, h.ea⟩
  show (k.r.placed p).Ok
  unfold Rg.placed
  repeat' split
  · exact { h.r with pc := b16_mod _ }
  · exact { h.r with sp := b16_mod _ }
  · exact { h.r with sp := b16_mod _ }
  · exact h.r
theorem Co.Ok.latch {k : Co} (h : k.Ok) (wh v : Int) (hv : B8 v) : (k.latch wh v).Ok := by
  unfold Co.latch
  split
  · exact ⟨h.r, h.lo, hv, h.ea⟩
  · exact ⟨h.r, hv, h.hi, h.ea⟩
theorem ex_all (code : Int) (hc : B8 code) : ∀ (l : List Stp) (k : Co) (f : Fl) (N : Nat), (∀ s ∈ l, okS code s = true) → k.Ok → FOk f N → N + l.length ≤ 1000000 → ∃ n ∈ outsS l, ∃ r2 f2, Ex code 0 l k f n r2 f2 ∧ (0 ≤ f.t → f.t + n + 1 ≤ 100000 → f2.t = f.t + n + 1)
  | [], k, f, N, _, hk, hf, _ => ⟨0, List.mem_singleton.2 rfl, _, _, ex_stop code 0 k f, fun h0 h1 => by rw [inc_t f h0 (by omega)]; omega⟩
  | (kd, p, wh, n) :: l, k, f, N, hs, hk, hf, hN => by
    have hs0 : okS code (kd, p, wh, n) = true := hs _ (List.mem_cons_self)
    have hsl : ∀ s ∈ l, okS code s = true := fun s hm => hs s (List.mem_cons_of_mem _ hm)
    have hN1 : N + l.length ≤ 1000000 ∧ N + 1 + l.length ≤ 1000000 := by rw [List.length_cons] at hN; omega
    have ha : f.acts.length < 1000000000 := by have := hf.acts; omega
    unfold okS at hs0
    simp only at hs0
    have hout : ∀ (m : Nat), n = m → (kd ≤ 4) → ∀ j ∈ outsS l, m + j ∈ outsS ((kd, p, wh, n) :: l) := by
      intro m hm hkd j hj
      show m + j ∈ (if kd ≤ 4 then (outsS l).map (n.toNat + ·) else _)
      rw [if_pos hkd]
      exact List.mem_map.2 ⟨j, hj, by rw [hm]; rfl⟩
    by_cases h0 : kd = 0
    · subst h0
      rw [if_pos rfl] at hs0
      obtain ⟨g1, g2, g3, g4⟩ := of_decide_eq_true hs0
      obtain ⟨m, rfl⟩ : ∃ m : Nat, n = m := ⟨n.toNat, by omega⟩
      obtain ⟨j, hj, r2, f2, he, ht⟩ := ex_all code hc l (k.placed p) (f.incs m) N hsl (hk.placed p) (hf.incs m) hN1.1
      refine ⟨m + j, hout m rfl (by decide) j hj, r2, f2, ex_wait ⟨g1, g2⟩ ⟨by omega, by omega⟩ hf.line he, fun t0 t1 => ?_⟩
      have e := incs_t f m t0 (by omega)
      rw [ht (by omega) (by omega), e]; omega
    rw [if_neg h0] at hs0
    by_cases h1 : kd = 1
    · subst h1
      rw [if_pos (.inl rfl)] at hs0
      obtain ⟨g1, g2, g3, g4⟩ := of_decide_eq_true hs0
      obtain ⟨m, rfl⟩ : ∃ m : Nat, n = m := ⟨n.toNat, by omega⟩
      obtain ⟨j, hj, r2, f2, he, ht⟩ := ex_all code hc l ((k.placed p).latch wh (f.m.getD (k.addr p).toNat 0)) (f.incs m) N hsl ((hk.placed p).latch _ _ (hf.m _)) (hf.incs m) hN1.1
      refine ⟨m + j, hout m rfl (by decide) j hj, r2, f2, ex_read _ ⟨g1, g2⟩ ⟨by omega, by omega⟩ hf.line rfl (hf.m _) he, fun t0 t1 => ?_⟩
      have e := incs_t f m t0 (by omega)
      rw [ht (by omega) (by omega), e]; omega
    by_cases h3 : kd = 3
    · subst h3
      rw [if_pos (.inr rfl)] at hs0
      obtain ⟨g1, g2, g3, g4⟩ := of_decide_eq_true hs0
      obtain ⟨m, rfl⟩ : ∃ m : Nat, n = m := ⟨n.toNat, by omega⟩
      obtain ⟨j, hj, r2, f2, he, ht⟩ := ex_all code hc l ((k.placed p).latch wh 255) ((f.incs m).act false (k.addr p) 255) (N + 1) hsl ((hk.placed p).latch _ _ ⟨by decide, by decide⟩) ((hf.incs m).act _ _ _) hN1.2
      refine ⟨m + j, hout m rfl (by decide) j hj, r2, f2, ex_in ⟨g1, g2⟩ ⟨by omega, by omega⟩ hf.line ha he, fun t0 t1 => ?_⟩
      have e : ((f.incs m).act false (k.addr p) 255).t = f.t + m := incs_t f m t0 (by omega)
      rw [ht (by omega) (by omega), e]; omega
    rw [if_neg (by omega)] at hs0
    by_cases h2 : kd = 2
    · subst h2
      rw [if_pos (.inl rfl)] at hs0
      obtain ⟨g1, g2, g3, g4, g5, g6, g7⟩ := of_decide_eq_true hs0
      obtain ⟨m, rfl⟩ : ∃ m : Nat, n = m := ⟨n.toNat, by omega⟩
      have hb : byteK wh := by unfold byteK; omega
      obtain ⟨j, hj, r2, f2, he, ht⟩ := ex_all code hc l (k.placed p) ((f.incs m).put (k.addr p).toNat (((k.placed p).cp code 0).byteV wh)) N hsl (hk.placed p) ((hf.incs m).put _ _ (byteV_b8 ((hk.placed p).cp hc 0) wh)) hN1.1
      refine ⟨m + j, hout m rfl (by decide) j hj, r2, f2, ex_write ⟨g1, g2⟩ ⟨by omega, by omega⟩ hf.line hb he, fun t0 t1 => ?_⟩
      have e : ((f.incs m).put (k.addr p).toNat (((k.placed p).cp code 0).byteV wh)).t = f.t + m := incs_t f m t0 (by omega)
      rw [ht (by omega) (by omega), e]; omega
    by_cases h4 : kd = 4
    · subst h4
      rw [if_pos (.inr rfl)] at hs0
      obtain ⟨g1, g2, g3, g4, g5, g6, g7⟩ := of_decide_eq_true hs0
      obtain ⟨m, rfl⟩ : ∃ m : Nat, n = m := ⟨n.toNat, by omega⟩
      have hb : byteK wh := by unfold byteK; omega
      obtain ⟨j, hj, r2, f2, he, ht⟩ := ex_all code hc l (k.placed p) ((f.incs m).act true (k.addr p) (((k.placed p).cp code 0).byteV wh)) (N + 1) hsl (hk.placed p) ((hf.incs m).act _ _ _) hN1.2
      refine ⟨m + j, hout m rfl (by decide) j hj, r2, f2, ex_out ⟨g1, g2⟩ ⟨by omega, by omega⟩ hf.line hb ha he, fun t0 t1 => ?_⟩
      have e : ((f.incs m).act true (k.addr p) (((k.placed p).cp code 0).byteV wh)).t = f.t + m := incs_t f m t0 (by omega)
      rw [ht (by omega) (by omega), e]; omega
    rw [if_neg (by omega)] at hs0
    by_cases h5 : kd = 5
    · subst h5
      rw [if_pos rfl] at hs0
      obtain ⟨k', hw⟩ := work_each wh code (of_decide_eq_true hs0) k
      obtain ⟨j, hj, r2, f2, he, ht⟩ := ex_all code hc l k' f N hsl (hw.ok hc hk) hf hN1.1
      exact ⟨j, by show j ∈ outsS l; exact hj, r2, f2, ex_work hw he, ht⟩
    rw [if_neg h5] at hs0
    by_cases h6 : kd = 6
    · subst h6
      rw [if_pos rfl] at hs0
      have hm := of_decide_eq_true hs0
      cases hmet : (k.cp code 0).metV wh with
      | true =>
        obtain ⟨j, hj, r2, f2, he, ht⟩ := ex_all code hc l k f N hsl hk hf hN1.1
        exact ⟨j, List.mem_cons_of_mem _ hj, r2, f2, ex_met hm hmet he, ht⟩
      | false => exact ⟨0, List.mem_cons_self, _, _, ex_unmet hm hmet (ex_stop code 0 k f), fun t0 t1 => by rw [inc_t f t0 (by omega)]; omega⟩
    · rw [if_neg h6] at hs0; cases hs0
def goodC (c : Nat) : Bool := c == 203 || c == 221 || c == 237 || c == 253 || ((Mi.programS 0 0 c).all (okS c) && decide ((Mi.programS 0 0 c).length ≤ 64) && (outsS (Mi.programS 0 0 c)).all (fun n => (((4 + n : Nat) : Int) == 4 + Mi.time8 0 false c true || ((4 + n : Nat) : Int) == 4 + Mi.time8 0 false c false) && decide (n ≤ 100)))
set_option maxRecDepth 100000 in
theorem good_all : ∀ c < 256, goodC c = true := by decide +kernel
/-- a plain code, of one processor -/
theorem run_plain {c : Cp} {r r2 : Rg} {f f2 : Fl} {n : Nat} (code : Int) (h : c.Rest r) (hk : B8 code) (hl : f.line = false) (hh : r.halt = false) (hm : f.m.getD r.pc.toNat 0 = code) (h4 : code ≠ 221 ∧ code ≠ 253 ∧ code ≠ 237 ∧ code ≠ 203) (hlen : (Mi.programS 0 r.pre code).length ≤ 64)
    (he : Ex code r.pre (Mi.programS 0 r.pre code) ⟨r.fetched, c.lo, c.hi, if r.pre = 0 then r.fetched.pair 2 0 else c.ea, false⟩ (f.incs 3) n r2 f2) : ∃ c2 : Cp, c2.Rest r2 ∧ Run (4 + n) c f c2 f2 := by
  have ho : (K1 c).Ok := ok_at (ok_begun h.calm.ok) 4
  have hcr : c.r = r := h.r
  have hp : (K1 c).r.pre = r.pre := by show c.r.pre = _; rw [hcr]
  have hI : ((K1 c).inc0.program 0 r.pre code).Is0 code r.pre (Mi.programS 0 r.pre code) ⟨r.fetched, c.lo, c.hi, if r.pre = 0 then r.fetched.pair 2 0 else c.ea, false⟩ := by
    have e : (K1 c).inc0.r = r.fetched := by show _ = _; rw [← hcr]; rfl
    exact ⟨e, rfl, rfl, by show (if r.pre = 0 then (K1 c).inc0.r.pair 2 0 else c.ea) = _; rw [e], rfl, rfl, rfl, rfl, h.ahead, h.calm.nmi, rfl, ⟨by show (0 : Int) ≤ 4; decide, by show (4 : Int) ≤ 100; decide⟩, ⟨by show (0 : Int) ≤ 4; decide, by show (4 : Int) ≤ 100; decide⟩, 0, rfl, rfl⟩
  obtain ⟨c2, h1, h2⟩ := he _ (ok_program (ok_inc0c ho) 0 r.pre code hk hlen) hI
  refine ⟨c2, h1, fetch_rest h hl ?_ (by show (0 : Int) ≠ -1; decide) h2⟩
  rw [hm]
  intro g sv w hat
  have := cp_fetchPlain g sv (K1 c) code w hat ho hk (by show c.r.halt = false; rw [hcr]; exact hh) rfl h4
  rw [hp] at this
  exact this
/-- any plain code, at any place -/
theorem run_any (c : Cp) (r : Rg) (f : Fl) (code : Int) (h : c.Rest r) (hh : r.halt = false) (hp : r.pre = 0) (hf : FOk f 0) (hm : f.m.getD r.pc.toNat 0 = code) (h4 : code ≠ 221 ∧ code ≠ 253 ∧ code ≠ 237 ∧ code ≠ 203) (ht : f.t = 0) :
    ∃ (n : Nat) (r2 : Rg) (f2 : Fl) (c2 : Cp), n ≤ 104 ∧ ((n : Int) = 4 + Mi.time8 0 false code true ∨ (n : Int) = 4 + Mi.time8 0 false code false) ∧ c2.Rest r2 ∧ Run n c f c2 f2 ∧ f2.t = n := by
  have hc : B8 code := by rw [← hm]; exact hf.m _
  have hr : r.Ok := by rw [← h.r]; exact h.calm.ok.r
  obtain ⟨c0, rfl⟩ : ∃ c0 : Nat, code = c0 := ⟨code.toNat, by have := hc.1; omega⟩
  have hg := good_all c0 (by have := hc.2; omega)
  unfold goodC at hg
  simp only [Bool.or_eq_true, Bool.and_eq_true, beq_iff_eq, List.all_eq_true, decide_eq_true_iff] at hg
  rcases hg with (((hg | hg) | hg) | hg) | ⟨⟨h1, h2⟩, h3⟩
  · omega
  · omega
  · omega
  · omega
  have z8 : B8 0 := ⟨by decide, by decide⟩
  have hfe : r.fetched.Ok := { hr with r' := by have h := hr.r'; obtain ⟨h0, h1⟩ := h; exact ⟨by show 0 ≤ r.r / 128 * 128 + (r.r + 1) % 128; omega, by show r.r / 128 * 128 + (r.r + 1) % 128 ≤ 255; omega⟩, pc := b16_mod _, pre := z8 }
  obtain ⟨n, hn, r2, f2, he, htt⟩ := ex_all c0 hc (Mi.programS 0 0 c0) ⟨r.fetched, c.lo, c.hi, r.fetched.pair 2 0, false⟩ (f.incs 3) 0 h1 ⟨hfe, h.calm.ok.lo, h.calm.ok.hi, pair_b16 hfe 2 0⟩ (hf.incs 3) (by omega)
  obtain ⟨h5, hn2⟩ := h3 n hn
  have e := incs_t f 3 (by omega) (by omega)
  obtain ⟨c2, h6, h7⟩ := run_plain (c0 : Int) h hc hf.line hh hm h4 (by rw [hp]; exact h2) (by rw [hp]; exact he)
  exact ⟨4 + n, r2, f2, c2, by omega, h5, h6, h7, by rw [htt (by omega) (by omega), e, ht]; omega⟩
end Go.Proofs.YtbhpmnhlmeglcaaGreat
