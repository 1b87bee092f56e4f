/- cpu: on to the next cycle, or the end. -/
import Derived.Test.YtbhpmnhlmeglcaaGreatCpuF
namespace Go.Proofs.YtbhpmnhlmeglcaaGreat
set_option linter.unusedSimpArgs false
set_option linter.unusedVariables false
open Go.RowKit
theorem CpAt.below {w w' : World} {g : Nat} {sv : Value} {c : Cp} (h : CpAt w g sv c) (hb : Below w.heap.size w w') : CpAt w' g sv c := ⟨h.blk.below_ hb, own_keepC h.own fun k hk => hb.block k (sv_lt h hk)⟩
theorem below_al1C (w : World) (o : Obj) : Below w.heap.size w (w.alloc o) := (Below.refl _ w).alloc (Nat.le_refl _) _
/-- what a work does -/
def WorkOk (k : Int) (c c' : Cp) : Prop := c'.Ok ∧ ∀ (g : Nat) (sv : Value) (w : World), CpAt w g sv c → Calls Tryz.prog 40 #[.pointer (some ⟨g, 0, none⟩), .int .i64 k] w (Done (.tuple #[]) g w sv c')
def Cp.goto (c : Cp) (i : Int) : Cp := { c with at_ := i }
def Cp.stop (c : Cp) : Cp := { c with r := { c.r with q := if c.wrote then c.r.f else 0 }, kind := -1 }
def Cp.noAhead (c : Cp) : Cp := { c with ahead := false }
theorem ok_goto {c : Cp} (h : c.Ok) (i : Nat) (hi : i ≤ c.steps.length) : (c.goto i).Ok := ⟨h.r, h.code, h.lo, h.hi, h.ea, h.out, h.addr, Int.natCast_nonneg i, (by show (i : Int) ≤ c.steps.length; omega), h.len⟩
/-- may a condition be asked? -/
def metK (c : Cp) (k : Int) : Prop := k = 0 ∨ (k = 1 ∧ 4 ≤ c.code / 8 % 8) ∨ k = 2 ∨ k = 3
/-- what comes of the steps from here on, in at most so many rounds -/
inductive NextN : Nat → Cp → Cp → Prop
  | stop (k : Nat) (c : Cp) : (c.steps.length : Int) ≤ c.at_ → c.ahead = false → NextN (k + 1) c c.stop
  | ahead (k : Nat) (c c2 : Cp) : (c.steps.length : Int) ≤ c.at_ → c.ahead = true → (c.noAhead.program 3 c.ix c.hi).Ok → NextN k (c.noAhead.program 3 c.ix c.hi) c2 → NextN (k + 1) c c2
  | cycle (k : Nat) (c : Cp) (i : Nat) (kd at_ wh n : Int) : c.at_ = i → c.steps[i]? = some (kd, at_, wh, n) → 0 ≤ kd ∧ kd ≤ 4 → 0 ≤ at_ ∧ at_ ≤ 9 → (kd = 2 ∨ kd = 4 → byteK wh) → NextN (k + 1) c ((c.goto (i + 1 : Nat)).cycle (kd, at_, wh, n))
  | work (k : Nat) (c c1 c2 : Cp) (i : Nat) (a wh n : Int) : c.at_ = i → c.steps[i]? = some (5, a, wh, n) → WorkOk wh (c.goto (i + 1 : Nat)) c1 → NextN k c1 c2 → NextN (k + 1) c c2
  | met (k : Nat) (c c2 : Cp) (i : Nat) (a wh n : Int) : c.at_ = i → c.steps[i]? = some (6, a, wh, n) → metK c wh → (c.goto (i + 1 : Nat)).metV wh = true → NextN k (c.goto (i + 1 : Nat)) c2 → NextN (k + 1) c c2
  | unmet (k : Nat) (c c2 : Cp) (i : Nat) (a wh n : Int) : c.at_ = i → c.steps[i]? = some (6, a, wh, n) → metK c wh → (c.goto (i + 1 : Nat)).metV wh = false → NextN k (c.goto c.steps.length) c2 → NextN (k + 1) c c2
/-- an empty step in new memory -/
def st0 : Obj := .cells #[.int .i64 0, .int .i64 0, .int .i64 0, .int .i64 0] 65
theorem blk_st0 (w : World) (q : Nat) : Blk ((w.drewN q).alloc (.cells #[.int .i64 0, .int .i64 0, .int .i64 0, .int .i64 0] 65)) w.heap.size 65 [.int .i64 0, .int .i64 0, .int .i64 0, .int .i64 0] := Blk.new (w.drewN q) 65 [.int .i64 0, .int .i64 0, .int .i64 0, .int .i64 0]
theorem flat_get (l : List Stp) (i : Nat) (s : Stp) (hi : l[i]? = some s) (j : Nat) (v : Value) (hv : (stp s)[j]? = some v) : (flat l)[i * 4 + j]? = some v := by
  have hj : j < 4 := by
    rcases Nat.lt_or_ge j 4 with h | h
    · exact h
    · rw [List.getElem?_eq_none (by simp [stp]; omega)] at hv; cases hv
  unfold flat
  induction l generalizing i with
  | nil => simp at hi
  | cons q l ih =>
    rw [List.flatMap_cons]
    cases i with
    | zero =>
      have : q = s := by simpa using hi
      subst this
      rw [List.getElem?_append_left (by simp [stp]; omega), ← hv]
      congr 1
      omega
    | succ i =>
      rw [List.getElem?_append_right (by simp [stp]; omega), ← ih i (by simpa using hi)]
      congr 1
      simp [stp]
      omega
/-- the steps' cells -/
theorem CpAt.step {w : World} {g : Nat} {sv : Value} {c : Cp} (h : CpAt w g sv c) {i : Nat} {s : Stp} (hi : c.steps[i]? = some s) : ∃ b cap, sv = .slice (some ⟨b, 0, none⟩) c.steps.length cap ∧ i < c.steps.length ∧ c.steps.length ≤ cap ∧ ∀ j v, (stp s)[j]? = some v → w.cell? ⟨b, i * 4 + j, none⟩ = some v := by
  have hlt : i < c.steps.length := (List.getElem?_eq_some_iff.1 hi).1
  rcases h.own.2 with ⟨_, h0⟩ | ⟨b, cap, cur, rfl, _, _, h1, _⟩
  · omega
  · refine ⟨b, cap, rfl, hlt, h1, fun j v hv => ?_⟩
    have := h.own.cells (g := b) rfl (i * 4 + j) v (flat_get _ i s hi j v hv)
    rwa [Addr.add_mid, Nat.zero_add] at this
set_option maxRecDepth 100000 in
set_option maxHeartbeats 8000000 in
theorem cp_next (g : Nat) (sv : Value) (c cf : Cp) (K : Nat) (w : World) (h : CpAt w g sv c) (ho : c.Ok) (hs : c.second = 0) (hN : NextN K c cf) :
    Calls Tryz.prog 32 #[.pointer (some ⟨g, 0, none⟩)] w (Done (.tuple #[]) g w sv cf) := by
  have hb := h.blk
  have c34 : w.cell? ⟨g, 34, none⟩ = some (.int .i64 0) := by rw [← hs]; exact hb.cell 34
  have H := Lib.hid h; have HO := Lib.hid ho; have HN := Lib.hid hN
  clear h hb ho hs hN
  go_enter Tryz.func32, Tryz.ntmps32
  go_wp2
  go_loopg [] K (fun k wr => ∃ c1 sv1, CpAt wr g sv1 c1 ∧ c1.Ok ∧ NextN k c1 cf ∧ SvTo w sv sv1 ∧ Ch (CpP g sv) w wr)
  case atStart => exact ⟨c, sv, H.out, HO.out, HN.out, .inl rfl, Ch.refl _ _⟩
  case round =>
    obtain ⟨c1, sv1, h1, ho1, hn1, hs1, hc1⟩ := hrel
    obtain ⟨A, cap, rfl, -, hle, -⟩ := own_form h1.own
    have H1 := Lib.hid h1; have HO1 := Lib.hid ho1; have HS1 := Lib.hid hs1; have HC1 := Lib.hid hc1
    have hb1 := h1.blk
    obtain ⟨n, hn⟩ : ∃ n, n = c1.steps.length := ⟨_, rfl⟩
    have e31 : wr.cell? ⟨g, 31, none⟩ = some (.int .i64 c1.at_) := hb1.cell 31
    have e30 : wr.cell? ⟨g, 30, none⟩ = some (.slice A n cap) := by rw [hn]; exact hb1.cell 30
    have e35 : wr.cell? ⟨g, 35, none⟩ = some (.bool c1.ahead) := hb1.cell 35
    have HB1 := Lib.hid hb1
    have HNL := Lib.hid hn
    clear h1 ho1 hs1 hc1 hb1 hle
    cases hn1 with
    | stop k _ hge hah =>
      rw [← hn] at hge
      rw [hah] at e35
      clear hah hn
      have e18 : wr.cell? ⟨g, 18, none⟩ = some (.int .u8 c1.r.q) := HB1.out.cell 18
      have y18 := HB1.out.frozen 18
      have e40 : wr.cell? ⟨g, 40, none⟩ = some (.bool c1.wrote) := HB1.out.cell 40
      have e1 : wr.cell? ⟨g, 1, none⟩ = some (.int .u8 c1.r.f) := HB1.out.cell 1
      have e42 : wr.cell? ⟨g, 42, none⟩ = some (.int .i64 c1.kind) := HB1.out.cell 42
      have y42 := HB1.out.frozen 42
      go_wp2_with fail
      go_quiet (fail)
      have hwr : c1.wrote = true ∨ c1.wrote = false := by cases c1.wrote <;> simp
      rcases hwr with hwr | hwr
      · rw [hwr] at e40
        go_wp2
        refine bodyPost_end (results_none rfl _ _ _) rfl ⟨rfl, CpTo.step HS1.out HC1.out (H1.out.only (c' := c1.stop) ?_ ?_ ?_)⟩
        · exact (((Drew.only ⟨_, rfl⟩).trans (Only.set g 18 _ _)).trans (Only.set g 18 _ _)).trans (Only.set g 42 _ _)
        · have := (((HB1.out.drewN nq).set_ 18 (.int .u8 0)).set_ 18 (.int .u8 c1.r.f)).set_ 42 (.int .i64 (-1))
          have he : c1.stop.r.q = c1.r.f := by simp [Cp.stop, hwr]
          unfold Cp.cells Rg.cells
          rw [he]
          exact this
        · rfl
      · rw [hwr] at e40
        go_wp2
        refine bodyPost_end (results_none rfl _ _ _) rfl ⟨rfl, CpTo.step HS1.out HC1.out (H1.out.only (c' := c1.stop) ?_ ?_ ?_)⟩
        · exact ((Drew.only ⟨_, rfl⟩).trans (Only.set g 18 _ _)).trans (Only.set g 42 _ _)
        · have := ((HB1.out.drewN nq).set_ 18 (.int .u8 0)).set_ 42 (.int .i64 (-1))
          have he : c1.stop.r.q = 0 := by simp [Cp.stop, hwr]
          unfold Cp.cells Rg.cells
          rw [he]
          exact this
        · rfl
    | ahead k _ c2 hge hah hok hn2 =>
      rw [← hn] at hge
      rw [hah] at e35
      clear hah hn
      have y35 := HB1.out.frozen 35
      have HOK := Lib.hid hok; have HN2 := Lib.hid hn2
      clear hok hn2
      go_wp2_with fail
      go_quiet (fail)
      go_wp2_with fail
      generalize hw2 : World.setCell _ _ _ = w2
      have HO2 : Hid (Only g wr w2) := by show Only _ _ _; rw [← hw2]; exact (Drew.only ⟨_, rfl⟩).trans (Only.set g 35 _ _)
      have H2 : Hid (CpAt w2 g (.slice A c1.steps.length cap) c1.noAhead) := Lib.hid (H1.out.turn HO2.out (by rw [← hw2]; exact (HB1.out.drewN nq).set_ 35 _) rfl)
      clear hw2 e31 e30 e35 y35
      have k33 : w2.cell? ⟨g, 33, none⟩ = some (.int .i64 c1.ix) := H2.out.blk.cell 33
      have k37 : w2.cell? ⟨g, 37, none⟩ = some (.int .u8 c1.hi) := H2.out.blk.cell 37
      go_still_tail 9, (by kernel_rfl)
      change wpList _ _ _ _ _ w2.drew
      obtain ⟨w3, hw3⟩ : ∃ w3, w3 = w2.drew := ⟨_, rfl⟩
      rw [← hw3]
      have hd3 : Drew w2 w3 := ⟨1, hw3⟩
      have HO3 := Lib.hid (Drew.only (g := g) hd3)
      have H3 : Hid (CpAt w3 g (.slice A c1.steps.length cap) c1.noAhead) := Lib.hid (H2.out.turn HO3.out (hd_blk hd3 H2.out.blk) rfl)
      clear hw3 hd3
      go_wp2_with (first
        | (go_at_call 39; refine (cp_program g _ c1.noAhead 3 c1.ix c1.hi _ H3.out HO1.out.r HO1.out.hi).mono ?_; rintro e w4 ⟨rfl, h4⟩))
      go_roundg k
      case measure => omega
      case rel =>
        obtain ⟨sv4, h5, h6, h7⟩ := CpTo.step HS1.out ((HC1.out.trans (HO2.out.cpp (sv := sv)) (fun _ _ h => h) fun _ _ h => h).trans (HO3.out.cpp (sv := sv)) (fun _ _ h => h) fun _ _ h => h) h4
        exact ⟨_, sv4, h5, HOK.out, HN2.out, h6, h7⟩
    | cycle k _ i kd at_ wh m hi hst hkd hat hby =>
      obtain ⟨b, cap2, hsv, hil, hcap, hcs⟩ := H1.out.step hst
      injection hsv with hA _ hcap2
      subst hA hcap2
      rw [hi] at e31
      rw [← hn] at hil hcap
      have s0 : wr.cell? ⟨b, i * 4, none⟩ = some (.int .i64 kd) := hcs 0 _ rfl
      have s1 : wr.cell? ⟨b, i * 4 + 1, none⟩ = some (.int .i64 at_) := hcs 1 _ rfl
      have s2 : wr.cell? ⟨b, i * 4 + 2, none⟩ = some (.int .i64 wh) := hcs 2 _ rfl
      have s3 : wr.cell? ⟨b, i * 4 + 3, none⟩ = some (.int .i64 m) := hcs 3 _ rfl
      have hltI : (i : Int) < n := by omega
      have hnge : ¬ (n : Int) ≤ i := by omega
      have n0 := fun q => (blk_st0 wr q).cell 0
      have n1 := fun q => (blk_st0 wr q).cell 1
      have n2 := fun q => (blk_st0 wr q).cell 2
      have n3 := fun q => (blk_st0 wr q).cell 3
      have m0 := fun q => (blk_st0 wr q).frozen 0
      have m1 := fun q => (blk_st0 wr q).frozen 1
      have m2 := fun q => (blk_st0 wr q).frozen 2
      have m3 := fun q => (blk_st0 wr q).frozen 3
      have old : ∀ q (p : Addr) v, wr.cell? p = some v → ((wr.drewN q).alloc (.cells #[.int .i64 0, .int .i64 0, .int .i64 0, .int .i64 0] 65)).cell? p = some v := fun q p v hp => ((below_al1C (wr.drewN q) _).cell (block_lt_of_cell hp)).trans hp
      have a31 := fun q => old q _ _ e31
      have a30 := fun q => old q _ _ e30
      have t0 := fun q => old q _ _ s0
      have t1 := fun q => old q _ _ s1
      have t2 := fun q => old q _ _ s2
      have t3 := fun q => old q _ _ s3
      have HI := Lib.hid hi
      have HN62 : Hid (i < 64) := Lib.hid (by have := HO1.out.len; omega)
      clear hcs hn hi hcap old
      go_wp2_with fail
      go_quiet (fail)
      go_wp2_with fail
      go_region
      generalize hw2 : World.setCell (World.setCell (World.setCell (World.setCell _ _ _) _ _) _ _) _ _ = w2
      have HX : Hid (Blk w2 wr.heap.size 65 [.int .i64 kd, .int .i64 at_, .int .i64 wh, .int .i64 m]) := by
        show Blk _ _ _ _
        rw [← hw2]
        exact ((((blk_st0 wr _).set_ 0 _).set_ 1 _).set_ 2 _).set_ 3 _
      have HBL : Hid (Below wr.heap.size wr w2) := by
        show Below _ _ _
        rw [← hw2]
        repeat (with_reducible refine Below.setCell ?_ (by simp) _)
        exact (Below_drewN (Below.refl _ wr) (nq + 1)).trans (below_al1C (wr.drewN (nq + 1)) _)
      clear hw2 n0 n1 n2 n3 m0 m1 m2 m3 a31 a30 t0 t1 t2 t3 s0 s1 s2 s3 e31 e30 e35
      have H2 := Lib.hid (H1.out.below HBL.out)
      have HC2 : Hid (Ch (CpP g sv) w w2) := Lib.hid (HC1.out.trans (Below.ch (p := CpP g sv) HBL.out) (fun _ _ h => h) fun _ _ h => h)
      have hbg : wr.heap.size ≠ g := fun e => new_ne H1.out (.inl e)
      have k31 : w2.cell? ⟨g, 31, none⟩ = some (.int .i64 i) := by rw [← HI.out]; exact H2.out.blk.cell 31
      have y31 := H2.out.blk.frozen 31
      have HO3 : Hid (Only g w2 (w2.setCell ⟨g, 31, none⟩ (.int .i64 ((i : Int) + 1)))) := Lib.hid (Only.set g 31 w2 _)
      have H3 : Hid (CpAt (w2.setCell ⟨g, 31, none⟩ (.int .i64 ((i : Int) + 1))) g (.slice (some ⟨b, 0, none⟩) c1.steps.length cap) (c1.goto (i + 1 : Nat))) := Lib.hid (H2.out.turn HO3.out (H2.out.blk.set_ 31 _) rfl)
      have HX3 : Hid (Blk (w2.setCell ⟨g, 31, none⟩ (.int .i64 ((i : Int) + 1))) wr.heap.size 65 [.int .i64 kd, .int .i64 at_, .int .i64 wh, .int .i64 m]) := Lib.hid (HO3.out.blk hbg HX.out)
      have q0 : w2.cell? ⟨wr.heap.size, 0, none⟩ = some (.int .i64 kd) := HX.out.cell 0
      have q2 : w2.cell? ⟨wr.heap.size, 2, none⟩ = some (.int .i64 wh) := HX.out.cell 2
      have W1 : IntKind.i64.wrap ((i : Int) + 1) = i + 1 := by rw [IntKind.wrap_i64]; have := HN62.out; omega
      have q1 : w2.cell? ⟨wr.heap.size, 1, none⟩ = some (.int .i64 at_) := HX.out.cell 1
      have q3 : w2.cell? ⟨wr.heap.size, 3, none⟩ = some (.int .i64 m) := HX.out.cell 3
      have HOG : Hid (c1.goto (i + 1 : Nat)).Ok := Lib.hid (ok_goto HO1.out (i + 1) (by rw [← HNL.out]; omega))
      have kd5 : (kd == 5) = false := by simp; omega
      have kd6 : (kd == 6) = false := by simp; omega
      go_wp2_with (first
        | (go_at_call 42; refine (cp_cycle g _ _ kd at_ wh m _ H3.out HOG.out hat hkd hby).mono ?_; rintro e w4 ⟨rfl, h4⟩))
      refine bodyPost_end (results_none rfl _ _ _) rfl ⟨rfl, CpTo.step HS1.out (HC2.out.trans (HO3.out.cpp (sv := sv)) (fun _ _ h => h) fun _ _ h => h) h4⟩
    | work k _ c3 c2 i at_ wh m hi hst hw hn2 =>
      obtain ⟨b, cap2, hsv, hil, hcap, hcs⟩ := H1.out.step hst
      injection hsv with hA _ hcap2
      subst hA hcap2
      rw [hi] at e31
      rw [← hn] at hil hcap
      have s0 : wr.cell? ⟨b, i * 4, none⟩ = some (.int .i64 5) := hcs 0 _ rfl
      have s1 : wr.cell? ⟨b, i * 4 + 1, none⟩ = some (.int .i64 at_) := hcs 1 _ rfl
      have s2 : wr.cell? ⟨b, i * 4 + 2, none⟩ = some (.int .i64 wh) := hcs 2 _ rfl
      have s3 : wr.cell? ⟨b, i * 4 + 3, none⟩ = some (.int .i64 m) := hcs 3 _ rfl
      have hltI : (i : Int) < n := by omega
      have hnge : ¬ (n : Int) ≤ i := by omega
      have n0 := fun q => (blk_st0 wr q).cell 0
      have n1 := fun q => (blk_st0 wr q).cell 1
      have n2 := fun q => (blk_st0 wr q).cell 2
      have n3 := fun q => (blk_st0 wr q).cell 3
      have m0 := fun q => (blk_st0 wr q).frozen 0
      have m1 := fun q => (blk_st0 wr q).frozen 1
      have m2 := fun q => (blk_st0 wr q).frozen 2
      have m3 := fun q => (blk_st0 wr q).frozen 3
      have old : ∀ q (p : Addr) v, wr.cell? p = some v → ((wr.drewN q).alloc (.cells #[.int .i64 0, .int .i64 0, .int .i64 0, .int .i64 0] 65)).cell? p = some v := fun q p v hp => ((below_al1C (wr.drewN q) _).cell (block_lt_of_cell hp)).trans hp
      have a31 := fun q => old q _ _ e31
      have a30 := fun q => old q _ _ e30
      have t0 := fun q => old q _ _ s0
      have t1 := fun q => old q _ _ s1
      have t2 := fun q => old q _ _ s2
      have t3 := fun q => old q _ _ s3
      have HI := Lib.hid hi
      have HN62 : Hid (i < 64) := Lib.hid (by have := HO1.out.len; omega)
      clear hcs hn hi hcap old
      go_wp2_with fail
      go_quiet (fail)
      go_wp2_with fail
      go_region
      generalize hw2 : World.setCell (World.setCell (World.setCell (World.setCell _ _ _) _ _) _ _) _ _ = w2
      have HX : Hid (Blk w2 wr.heap.size 65 [.int .i64 5, .int .i64 at_, .int .i64 wh, .int .i64 m]) := by
        show Blk _ _ _ _
        rw [← hw2]
        exact ((((blk_st0 wr _).set_ 0 _).set_ 1 _).set_ 2 _).set_ 3 _
      have HBL : Hid (Below wr.heap.size wr w2) := by
        show Below _ _ _
        rw [← hw2]
        repeat (with_reducible refine Below.setCell ?_ (by simp) _)
        exact (Below_drewN (Below.refl _ wr) (nq + 1)).trans (below_al1C (wr.drewN (nq + 1)) _)
      clear hw2 n0 n1 n2 n3 m0 m1 m2 m3 a31 a30 t0 t1 t2 t3 s0 s1 s2 s3 e31 e30 e35
      have H2 := Lib.hid (H1.out.below HBL.out)
      have HC2 : Hid (Ch (CpP g sv) w w2) := Lib.hid (HC1.out.trans (Below.ch (p := CpP g sv) HBL.out) (fun _ _ h => h) fun _ _ h => h)
      have hbg : wr.heap.size ≠ g := fun e => new_ne H1.out (.inl e)
      have k31 : w2.cell? ⟨g, 31, none⟩ = some (.int .i64 i) := by rw [← HI.out]; exact H2.out.blk.cell 31
      have y31 := H2.out.blk.frozen 31
      have HO3 : Hid (Only g w2 (w2.setCell ⟨g, 31, none⟩ (.int .i64 ((i : Int) + 1)))) := Lib.hid (Only.set g 31 w2 _)
      have H3 : Hid (CpAt (w2.setCell ⟨g, 31, none⟩ (.int .i64 ((i : Int) + 1))) g (.slice (some ⟨b, 0, none⟩) c1.steps.length cap) (c1.goto (i + 1 : Nat))) := Lib.hid (H2.out.turn HO3.out (H2.out.blk.set_ 31 _) rfl)
      have HX3 : Hid (Blk (w2.setCell ⟨g, 31, none⟩ (.int .i64 ((i : Int) + 1))) wr.heap.size 65 [.int .i64 5, .int .i64 at_, .int .i64 wh, .int .i64 m]) := Lib.hid (HO3.out.blk hbg HX.out)
      have q0 : w2.cell? ⟨wr.heap.size, 0, none⟩ = some (.int .i64 5) := HX.out.cell 0
      have q2 : w2.cell? ⟨wr.heap.size, 2, none⟩ = some (.int .i64 wh) := HX.out.cell 2
      have W1 : IntKind.i64.wrap ((i : Int) + 1) = i + 1 := by rw [IntKind.wrap_i64]; have := HN62.out; omega
      have HW := Lib.hid hw; have HN2 := Lib.hid hn2
      clear hw hn2
      go_wp2_with (first
        | (go_at_call 40; refine (HW.out.2 g _ _ H3.out).mono ?_; rintro e w4 ⟨rfl, h4⟩))
      go_roundg k
      case measure => omega
      case rel =>
        obtain ⟨sv4, h5, h6, h7⟩ := CpTo.step HS1.out (HC2.out.trans (HO3.out.cpp (sv := sv)) (fun _ _ h => h) fun _ _ h => h) h4
        exact ⟨c3, sv4, h5, HW.out.1, HN2.out, h6, h7⟩
    | met k _ c2 i at_ wh m hi hst hmk hm hn2 =>
      obtain ⟨b, cap2, hsv, hil, hcap, hcs⟩ := H1.out.step hst
      injection hsv with hA _ hcap2
      subst hA hcap2
      rw [hi] at e31
      rw [← hn] at hil hcap
      have s0 : wr.cell? ⟨b, i * 4, none⟩ = some (.int .i64 6) := hcs 0 _ rfl
      have s1 : wr.cell? ⟨b, i * 4 + 1, none⟩ = some (.int .i64 at_) := hcs 1 _ rfl
      have s2 : wr.cell? ⟨b, i * 4 + 2, none⟩ = some (.int .i64 wh) := hcs 2 _ rfl
      have s3 : wr.cell? ⟨b, i * 4 + 3, none⟩ = some (.int .i64 m) := hcs 3 _ rfl
      have hltI : (i : Int) < n := by omega
      have hnge : ¬ (n : Int) ≤ i := by omega
      have n0 := fun q => (blk_st0 wr q).cell 0
      have n1 := fun q => (blk_st0 wr q).cell 1
      have n2 := fun q => (blk_st0 wr q).cell 2
      have n3 := fun q => (blk_st0 wr q).cell 3
      have m0 := fun q => (blk_st0 wr q).frozen 0
      have m1 := fun q => (blk_st0 wr q).frozen 1
      have m2 := fun q => (blk_st0 wr q).frozen 2
      have m3 := fun q => (blk_st0 wr q).frozen 3
      have old : ∀ q (p : Addr) v, wr.cell? p = some v → ((wr.drewN q).alloc (.cells #[.int .i64 0, .int .i64 0, .int .i64 0, .int .i64 0] 65)).cell? p = some v := fun q p v hp => ((below_al1C (wr.drewN q) _).cell (block_lt_of_cell hp)).trans hp
      have a31 := fun q => old q _ _ e31
      have a30 := fun q => old q _ _ e30
      have t0 := fun q => old q _ _ s0
      have t1 := fun q => old q _ _ s1
      have t2 := fun q => old q _ _ s2
      have t3 := fun q => old q _ _ s3
      have HI := Lib.hid hi
      have HN62 : Hid (i < 64) := Lib.hid (by have := HO1.out.len; omega)
      clear hcs hn hi hcap old
      go_wp2_with fail
      go_quiet (fail)
      go_wp2_with fail
      go_region
      generalize hw2 : World.setCell (World.setCell (World.setCell (World.setCell _ _ _) _ _) _ _) _ _ = w2
      have HX : Hid (Blk w2 wr.heap.size 65 [.int .i64 6, .int .i64 at_, .int .i64 wh, .int .i64 m]) := by
        show Blk _ _ _ _
        rw [← hw2]
        exact ((((blk_st0 wr _).set_ 0 _).set_ 1 _).set_ 2 _).set_ 3 _
      have HBL : Hid (Below wr.heap.size wr w2) := by
        show Below _ _ _
        rw [← hw2]
        repeat (with_reducible refine Below.setCell ?_ (by simp) _)
        exact (Below_drewN (Below.refl _ wr) (nq + 1)).trans (below_al1C (wr.drewN (nq + 1)) _)
      clear hw2 n0 n1 n2 n3 m0 m1 m2 m3 a31 a30 t0 t1 t2 t3 s0 s1 s2 s3 e31 e30 e35
      have H2 := Lib.hid (H1.out.below HBL.out)
      have HC2 : Hid (Ch (CpP g sv) w w2) := Lib.hid (HC1.out.trans (Below.ch (p := CpP g sv) HBL.out) (fun _ _ h => h) fun _ _ h => h)
      have hbg : wr.heap.size ≠ g := fun e => new_ne H1.out (.inl e)
      have k31 : w2.cell? ⟨g, 31, none⟩ = some (.int .i64 i) := by rw [← HI.out]; exact H2.out.blk.cell 31
      have y31 := H2.out.blk.frozen 31
      have HO3 : Hid (Only g w2 (w2.setCell ⟨g, 31, none⟩ (.int .i64 ((i : Int) + 1)))) := Lib.hid (Only.set g 31 w2 _)
      have H3 : Hid (CpAt (w2.setCell ⟨g, 31, none⟩ (.int .i64 ((i : Int) + 1))) g (.slice (some ⟨b, 0, none⟩) c1.steps.length cap) (c1.goto (i + 1 : Nat))) := Lib.hid (H2.out.turn HO3.out (H2.out.blk.set_ 31 _) rfl)
      have HX3 : Hid (Blk (w2.setCell ⟨g, 31, none⟩ (.int .i64 ((i : Int) + 1))) wr.heap.size 65 [.int .i64 6, .int .i64 at_, .int .i64 wh, .int .i64 m]) := Lib.hid (HO3.out.blk hbg HX.out)
      have q0 : w2.cell? ⟨wr.heap.size, 0, none⟩ = some (.int .i64 6) := HX.out.cell 0
      have q2 : w2.cell? ⟨wr.heap.size, 2, none⟩ = some (.int .i64 wh) := HX.out.cell 2
      have W1 : IntKind.i64.wrap ((i : Int) + 1) = i + 1 := by rw [IntKind.wrap_i64]; have := HN62.out; omega
      have HN2 := Lib.hid hn2
      have HOG : Hid (c1.goto (i + 1 : Nat)).Ok := Lib.hid (ok_goto HO1.out (i + 1) (by rw [← HNL.out]; omega))
      have HMT := Lib.hid (fun w h => cp_met g (.slice (some ⟨b, 0, none⟩) c1.steps.length cap) (c1.goto (i + 1 : Nat)) wh w h HOG.out hmk)
      rw [hm] at HMT
      clear hn2 hm hmk
      go_wp2_with (first
        | (go_at_call 41; refine (HMT.out _ H3.out).mono ?_; rintro e w4 ⟨rfl, h4⟩))
      go_roundg k
      case measure => omega
      case rel =>
        obtain ⟨sv4, h5, h6, h7⟩ := CpTo.step HS1.out (HC2.out.trans (HO3.out.cpp (sv := sv)) (fun _ _ h => h) fun _ _ h => h) (H3.out.drew h4)
        exact ⟨_, sv4, h5, HOG.out, HN2.out, h6, h7⟩
    | unmet k _ c2 i at_ wh m hi hst hmk hm hn2 =>
      obtain ⟨b, cap2, hsv, hil, hcap, hcs⟩ := H1.out.step hst
      injection hsv with hA _ hcap2
      subst hA hcap2
      rw [hi] at e31
      rw [← hn] at hil hcap
      have s0 : wr.cell? ⟨b, i * 4, none⟩ = some (.int .i64 6) := hcs 0 _ rfl
      have s1 : wr.cell? ⟨b, i * 4 + 1, none⟩ = some (.int .i64 at_) := hcs 1 _ rfl
      have s2 : wr.cell? ⟨b, i * 4 + 2, none⟩ = some (.int .i64 wh) := hcs 2 _ rfl
      have s3 : wr.cell? ⟨b, i * 4 + 3, none⟩ = some (.int .i64 m) := hcs 3 _ rfl
      have hltI : (i : Int) < n := by omega
      have hnge : ¬ (n : Int) ≤ i := by omega
      have n0 := fun q => (blk_st0 wr q).cell 0
      have n1 := fun q => (blk_st0 wr q).cell 1
      have n2 := fun q => (blk_st0 wr q).cell 2
      have n3 := fun q => (blk_st0 wr q).cell 3
      have m0 := fun q => (blk_st0 wr q).frozen 0
      have m1 := fun q => (blk_st0 wr q).frozen 1
      have m2 := fun q => (blk_st0 wr q).frozen 2
      have m3 := fun q => (blk_st0 wr q).frozen 3
      have old : ∀ q (p : Addr) v, wr.cell? p = some v → ((wr.drewN q).alloc (.cells #[.int .i64 0, .int .i64 0, .int .i64 0, .int .i64 0] 65)).cell? p = some v := fun q p v hp => ((below_al1C (wr.drewN q) _).cell (block_lt_of_cell hp)).trans hp
      have a31 := fun q => old q _ _ e31
      have a30 := fun q => old q _ _ e30
      have t0 := fun q => old q _ _ s0
      have t1 := fun q => old q _ _ s1
      have t2 := fun q => old q _ _ s2
      have t3 := fun q => old q _ _ s3
      have HI := Lib.hid hi
      have HN62 : Hid (i < 64) := Lib.hid (by have := HO1.out.len; omega)
      clear hcs hn hi hcap old
      go_wp2_with fail
      go_quiet (fail)
      go_wp2_with fail
      go_region
      generalize hw2 : World.setCell (World.setCell (World.setCell (World.setCell _ _ _) _ _) _ _) _ _ = w2
      have HX : Hid (Blk w2 wr.heap.size 65 [.int .i64 6, .int .i64 at_, .int .i64 wh, .int .i64 m]) := by
        show Blk _ _ _ _
        rw [← hw2]
        exact ((((blk_st0 wr _).set_ 0 _).set_ 1 _).set_ 2 _).set_ 3 _
      have HBL : Hid (Below wr.heap.size wr w2) := by
        show Below _ _ _
        rw [← hw2]
        repeat (with_reducible refine Below.setCell ?_ (by simp) _)
        exact (Below_drewN (Below.refl _ wr) (nq + 1)).trans (below_al1C (wr.drewN (nq + 1)) _)
      clear hw2 n0 n1 n2 n3 m0 m1 m2 m3 a31 a30 t0 t1 t2 t3 s0 s1 s2 s3 e31 e30 e35
      have H2 := Lib.hid (H1.out.below HBL.out)
      have HC2 : Hid (Ch (CpP g sv) w w2) := Lib.hid (HC1.out.trans (Below.ch (p := CpP g sv) HBL.out) (fun _ _ h => h) fun _ _ h => h)
      have hbg : wr.heap.size ≠ g := fun e => new_ne H1.out (.inl e)
      have k31 : w2.cell? ⟨g, 31, none⟩ = some (.int .i64 i) := by rw [← HI.out]; exact H2.out.blk.cell 31
      have y31 := H2.out.blk.frozen 31
      have HO3 : Hid (Only g w2 (w2.setCell ⟨g, 31, none⟩ (.int .i64 ((i : Int) + 1)))) := Lib.hid (Only.set g 31 w2 _)
      have H3 : Hid (CpAt (w2.setCell ⟨g, 31, none⟩ (.int .i64 ((i : Int) + 1))) g (.slice (some ⟨b, 0, none⟩) c1.steps.length cap) (c1.goto (i + 1 : Nat))) := Lib.hid (H2.out.turn HO3.out (H2.out.blk.set_ 31 _) rfl)
      have HX3 : Hid (Blk (w2.setCell ⟨g, 31, none⟩ (.int .i64 ((i : Int) + 1))) wr.heap.size 65 [.int .i64 6, .int .i64 at_, .int .i64 wh, .int .i64 m]) := Lib.hid (HO3.out.blk hbg HX.out)
      have q0 : w2.cell? ⟨wr.heap.size, 0, none⟩ = some (.int .i64 6) := HX.out.cell 0
      have q2 : w2.cell? ⟨wr.heap.size, 2, none⟩ = some (.int .i64 wh) := HX.out.cell 2
      have W1 : IntKind.i64.wrap ((i : Int) + 1) = i + 1 := by rw [IntKind.wrap_i64]; have := HN62.out; omega
      have HN2 := Lib.hid hn2
      have HOG : Hid (c1.goto (i + 1 : Nat)).Ok := Lib.hid (ok_goto HO1.out (i + 1) (by rw [← HNL.out]; omega))
      have HMT := Lib.hid (fun w h => cp_met g (.slice (some ⟨b, 0, none⟩) c1.steps.length cap) (c1.goto (i + 1 : Nat)) wh w h HOG.out hmk)
      rw [hm] at HMT
      clear hn2 hm hmk
      go_wp2_with (first
        | (go_at_call 41; refine (HMT.out _ H3.out).mono ?_; rintro e w4 ⟨rfl, h4⟩
           have hb4 := hd_blk h4 H3.out.blk
           have f30 : w4.cell? ⟨g, 30, none⟩ = some (.slice (some ⟨b, 0, none⟩) n cap) := by rw [HNL.out]; exact hb4.cell 30
           have f31 : w4.cell? ⟨g, 31, none⟩ = some (.int .i64 ((i + 1 : Nat) : Int)) := hb4.cell 31
           have x31 := hb4.frozen 31
           have H4 : Hid (Only g (w2.setCell ⟨g, 31, none⟩ (.int .i64 ((i : Int) + 1))) (w4.setCell ⟨g, 31, none⟩ (.int .i64 n))) := Lib.hid ((Drew.only h4).trans (Only.set g 31 w4 _))
           have H5 : Hid (CpAt (w4.setCell ⟨g, 31, none⟩ (.int .i64 n)) g (.slice (some ⟨b, 0, none⟩) c1.steps.length cap) (c1.goto c1.steps.length)) := Lib.hid (H3.out.turn H4.out (by have := hb4.set_ 31 (.int .i64 (n : Int)); rw [HNL.out] at this ⊢; exact this) rfl)
           clear h4 hb4))
      go_roundg k
      case measure => omega
      case rel =>
        exact ⟨_, _, H5.out, ok_goto HO1.out _ (Nat.le_refl _), HN2.out, HS1.out, (HC2.out.trans (HO3.out.cpp (sv := sv)) (fun _ _ h => h) fun _ _ h => h).trans (H4.out.cpp (sv := sv)) (fun _ _ h => h) fun _ _ h => h⟩
end Go.Proofs.YtbhpmnhlmeglcaaGreat
