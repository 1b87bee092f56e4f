/- cpu: a processor as plain data; start, latch, Done. -/
import Derived.Test.YtbhpmnhlmeglcaaGreatCrI
import Derived.Test.YtbhpmnhlmeglcaaGreatCrV
import Derived.Test.YtbhpmnhlmeglcaaGreatMicG
namespace Go.Proofs.YtbhpmnhlmeglcaaGreat
set_option linter.unusedSimpArgs false
set_option linter.unusedVariables false
open Go.RowKit
/-- a processor -/
structure Cp where
  (r : Rg) (steps : List Stp) (at_ code ix second : Int) (ahead : Bool) (lo hi ea out : Int) (wrote nmi : Bool) (kind : Int) (port : Bool) (what addr n t wait : Int) (held : Bool)
def Cp.tail (c : Cp) (sv : Value) : List Value :=
  [sv, .int .i64 c.at_, .int .u8 c.code, .int .i64 c.ix, .int .i64 c.second, .bool c.ahead, .int .u8 c.lo, .int .u8 c.hi, .int .u16 c.ea, .int .u8 c.out, .bool c.wrote, .bool c.nmi, .int .i64 c.kind, .bool c.port, .int .i64 c.what, .int .u16 c.addr, .int .i64 c.n, .int .i64 c.t, .int .i64 c.wait, .bool c.held]
def Cp.cells (c : Cp) (sv : Value) : List Value := c.r.cells ++ c.tail sv
/-- its numbers fit -/
structure Cp.Ok (c : Cp) : Prop where
  (r : c.r.Ok) (code : B8 c.code) (lo : B8 c.lo) (hi : B8 c.hi) (ea : B16 c.ea) (out : B8 c.out) (addr : B16 c.addr) (at0 : 0 ≤ c.at_) (at1 : c.at_ ≤ c.steps.length) (len : c.steps.length ≤ 64)
theorem own_keepC {w w' : World} {base : Nat} {e : TypeId} {size n : Nat} {v : Value} {xs : List Value} (h : w.ownsRow base e size v n xs) (hk : ∀ k, v.ownBlock = some k → w'.heap[k]? = w.heap[k]?) : w'.ownsRow base e size v n xs := by
  refine ⟨h.1, ?_⟩
  rcases h.2 with e1 | ⟨k, cap, cur, e1, hle, hh, rest⟩
  · exact .inl e1
  · exact .inr ⟨k, cap, cur, e1, hle, (hk k (by rw [e1]; rfl)).trans hh, rest⟩
/-- a processor stands in block g, its steps where sv leads -/
structure CpAt (w : World) (g : Nat) (sv : Value) (c : Cp) : Prop where
  blk : Blk w g 46 (c.cells sv)
  own : w.ownsRow 0 65 4 sv c.steps.length (flat c.steps)
/-- nothing but some blocks has turned -/
structure Ch (p : Nat → Prop) (w w' : World) : Prop where
  os : w'.os = w.os
  tape : w'.tape = w.tape
  output : w'.output = w.output
  size : w.heap.size ≤ w'.heap.size
  block : ∀ k, k < w.heap.size → ¬ p k → w'.heap[k]? = w.heap[k]?
theorem Ch.refl (p : Nat → Prop) (w : World) : Ch p w w := ⟨rfl, rfl, rfl, Nat.le_refl _, fun _ _ _ => rfl⟩
theorem Ch.trans {p q r : Nat → Prop} {a b c : World} (h : Ch p a b) (k : Ch q b c) (hp : ∀ i, i < a.heap.size → p i → r i) (hq : ∀ i, i < a.heap.size → q i → r i) : Ch r a c :=
  ⟨k.os.trans h.os, k.tape.trans h.tape, k.output.trans h.output, Nat.le_trans h.size k.size, fun i hi hn => (k.block i (Nat.lt_of_lt_of_le hi h.size) fun hc => hn (hq i hi hc)).trans (h.block i hi fun hc => hn (hp i hi hc))⟩
theorem Ch.mono {p q : Nat → Prop} {a b : World} (h : Ch p a b) (hp : ∀ i, i < a.heap.size → p i → q i) : Ch q a b := ⟨h.os, h.tape, h.output, h.size, fun i hi hn => h.block i hi fun hc => hn (hp i hi hc)⟩
theorem Only.ch {g : Nat} {w w' : World} (h : Only g w w') : Ch (fun k => k = g) w w' := ⟨h.os, h.tape, h.output, by rw [h.size]; exact Nat.le_refl _, fun k _ hk => h.block k hk⟩
theorem Below.ch {p : Nat → Prop} {w w' : World} (h : Below w.heap.size w w') : Ch p w w' := ⟨h.os, h.tape, h.output, h.size, fun k hk _ => h.block k hk⟩
theorem Drew.ch {p : Nat → Prop} {w w' : World} (h : Drew w w') : Ch p w w' := by
  obtain ⟨n, rfl⟩ := h
  exact ⟨rfl, rfl, rfl, Nat.le_refl _, fun _ _ _ => rfl⟩
theorem Ch.blk {p : Nat → Prop} {w w' : World} {g : Nat} {t : TypeId} {cs : List Value} (h : Ch p w w') (hb : Blk w g t cs) (hn : ¬ p g) : Blk w' g t cs := (h.block g hb.lt hn).trans hb
theorem Ch.drew {p : Nat → Prop} {w w' : World} (h : Ch p w w') : Ch p w w'.drew := ⟨h.os, h.tape, h.output, h.size, h.block⟩
/-- what may turn when a processor does something -/
def CpP (g : Nat) (sv : Value) (k : Nat) : Prop := k = g ∨ sv.ownBlock = some k
/-- the steps lie where they lay, or in new memory -/
def SvTo (w : World) (sv sv' : Value) : Prop := sv'.ownBlock = sv.ownBlock ∨ ∀ b, sv'.ownBlock = some b → w.heap.size ≤ b
/-- the processor is now this one -/
def CpTo (g : Nat) (w : World) (sv : Value) (c : Cp) (w' : World) : Prop := ∃ sv', CpAt w' g sv' c ∧ SvTo w sv sv' ∧ Ch (CpP g sv) w w'
theorem SvTo.trans {w w1 : World} {a b c : Value} (h : SvTo w a b) (k : SvTo w1 b c) (hs : w.heap.size ≤ w1.heap.size) : SvTo w a c := by
  rcases k with k | k
  · rcases h with h | h
    · exact .inl (k.trans h)
    · exact .inr fun x hx => h x (by rw [← k]; exact hx)
  · exact .inr fun x hx => Nat.le_trans hs (k x hx)
theorem SvTo.place {w : World} {a b : Value} {g i : Nat} (h : SvTo w a b) (hi : i < w.heap.size) (hp : CpP g b i) : CpP g a i := by
  rcases hp with hp | hp
  · exact .inl hp
  · rcases h with h | h
    · exact .inr (by rw [← h]; exact hp)
    · exact absurd (h i hp) (by omega)
theorem CpTo.trans {g : Nat} {w w1 w2 : World} {sv : Value} {c1 c2 : Cp} (h : CpTo g w sv c1 w1) (k : ∀ sv1, CpAt w1 g sv1 c1 → CpTo g w1 sv1 c2 w2) : CpTo g w sv c2 w2 := by
  obtain ⟨sv1, h1, h2, h3⟩ := h
  obtain ⟨sv2, k1, k2, k3⟩ := k sv1 h1
  exact ⟨sv2, k1, h2.trans k2 h3.size, h3.trans k3 (fun i _ hp => hp) fun i hi hp => h2.place hi hp⟩
theorem sv_ne {w : World} {g : Nat} {sv : Value} {c : Cp} (h : CpAt w g sv c) : sv.ownBlock ≠ some g := fun e => by
  obtain ⟨cur, hc⟩ : ∃ cur, w.heap[g]? = some (.cells cur 65 (0, 0)) := by
    rcases h.own.2 with ⟨hv, _⟩ | ⟨b, cap, cur, hv, _, hb, _⟩
    · rw [hv] at e; cases e
    · rw [hv] at e
      have : b = g := by injection e
      subst this
      exact ⟨cur, hb⟩
  have hb := h.blk
  unfold Blk at hb
  rw [hc] at hb
  injection hb with hb
  injection hb with _ hb _
  exact absurd hb (by decide)
/-- what a write into the processor's own block leaves -/
theorem CpAt.only {w w' : World} {g : Nat} {sv : Value} {c c' : Cp} (h : CpAt w g sv c) (ho : Only g w w') (hb : Blk w' g 46 (c'.cells sv)) (hs : c'.steps = c.steps) : CpTo g w sv c' w' := by
  refine ⟨sv, ⟨hb, ?_⟩, .inl rfl, ho.ch.mono fun i _ hi => .inl hi⟩
  rw [hs]
  exact own_keepC h.own fun k hk => ho.block k fun e => sv_ne h (by rw [hk, e])
def Done (v : Value) (g : Nat) (w : World) (sv : Value) (c : Cp) (e : Ending) (w' : World) : Prop := e = .returned v ∧ CpTo g w sv c w'
theorem Done.at {v : Value} {g : Nat} {w : World} {sv : Value} {c c' : Cp} {w' : World} (h : CpAt w g sv c) (ho : Only g w w') (hb : Blk w' g 46 (c'.cells sv)) (hs : c'.steps = c.steps) : Done v g w sv c' (.returned v) w' := ⟨rfl, h.only ho hb hs⟩
set_option maxHeartbeats 1000000 in
theorem cp_done (g : Nat) (sv : Value) (c : Cp) (w : World) (h : CpAt w g sv c) : Calls Tryz.prog 13 #[.pointer (some ⟨g, 0, none⟩)] w fun e w' => e = .returned (.bool (c.kind == -1)) ∧ w' = w := by
  have hb := h.blk
  have c42 : w.cell? ⟨g, 42, none⟩ = some (.int .i64 c.kind) := hb.cell 42
  clear h hb
  go_enter Tryz.func13, Tryz.ntmps13
  go_wp2
  go_ret
  exact ⟨rfl, rfl⟩
def Cp.start (c : Cp) (kind addr n : Int) : Cp := { c with kind := kind, addr := addr, n := n, t := 0, held := false }
set_option maxRecDepth 100000 in
set_option maxHeartbeats 2000000 in
theorem cp_start (g : Nat) (sv : Value) (c : Cp) (k a n : Int) (w : World) (h : CpAt w g sv c) :
    Calls Tryz.prog 29 #[.pointer (some ⟨g, 0, none⟩), .int .i64 k, .int .u16 a, .int .i64 n] w (Done (.tuple #[]) g w sv (c.start k a n)) := by
  have hb := h.blk
  have c42 : w.cell? ⟨g, 42, none⟩ = some (.int .i64 c.kind) := hb.cell 42
  have c45 : w.cell? ⟨g, 45, none⟩ = some (.int .u16 c.addr) := hb.cell 45
  have c46 : w.cell? ⟨g, 46, none⟩ = some (.int .i64 c.n) := hb.cell 46
  have c47 : w.cell? ⟨g, 47, none⟩ = some (.int .i64 c.t) := hb.cell 47
  have c49 : w.cell? ⟨g, 49, none⟩ = some (.bool c.held) := hb.cell 49
  have z42 := hb.frozen 42
  have z45 := hb.frozen 45
  have z46 := hb.frozen 46
  have z47 := hb.frozen 47
  have z49 := hb.frozen 49
  have H := Lib.hid h; have HB := Lib.hid hb
  clear h hb
  go_enter Tryz.func29, Tryz.ntmps29
  go_wp2
  refine bodyPost_end (results_none rfl _ _ _) rfl ?_
  exact Done.at H.out (((((Only.set g 42 w _).trans (Only.set g 45 _ _)).trans (Only.set g 46 _ _)).trans (Only.set g 47 _ _)).trans (Only.set g 49 _ _)) (((((HB.out.set_ 42 _).set_ 45 _).set_ 46 _).set_ 47 _).set_ 49 _) rfl
def Cp.latch (c : Cp) (v : Int) : Cp := if c.what = 1 then { c with hi := v } else { c with lo := v }
set_option maxHeartbeats 2000000 in
theorem cp_latch (g : Nat) (sv : Value) (c : Cp) (v : Int) (w : World) (h : CpAt w g sv c) :
    Calls Tryz.prog 31 #[.pointer (some ⟨g, 0, none⟩), .int .u8 v] w (Done (.tuple #[]) g w sv (c.latch v)) := by
  have hb := h.blk
  have c44 : w.cell? ⟨g, 44, none⟩ = some (.int .i64 c.what) := hb.cell 44
  have c36 : w.cell? ⟨g, 36, none⟩ = some (.int .u8 c.lo) := hb.cell 36
  have c37 : w.cell? ⟨g, 37, none⟩ = some (.int .u8 c.hi) := hb.cell 37
  have z36 := hb.frozen 36
  have z37 := hb.frozen 37
  have H := Lib.hid h; have HB := Lib.hid hb
  clear h hb
  unfold Cp.latch
  by_cases hw : c.what = 1
  · rw [if_pos hw]
    have hw2 : (c.what == 1) = true := by rw [hw]; rfl
    clear hw
    go_enter Tryz.func31, Tryz.ntmps31
    go_wp2
    refine bodyPost_end (results_none rfl _ _ _) rfl ?_
    exact Done.at H.out (Only.set g 37 w _) (HB.out.set_ 37 _) rfl
  · rw [if_neg hw]
    have hw2 : (c.what == 1) = false := by simpa using hw
    clear hw
    go_enter Tryz.func31, Tryz.ntmps31
    go_wp2
    refine bodyPost_end (results_none rfl _ _ _) rfl ?_
    exact Done.at H.out (Only.set g 36 w _) (HB.out.set_ 36 _) rfl
end Go.Proofs.YtbhpmnhlmeglcaaGreat
