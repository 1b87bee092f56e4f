/- Texts that are laid together: CpuZ. -/
import Derived.Test.YtbhpmnhlmeglcaaGreatTReg
import Derived.Test.YtbhpmnhlmeglcaaGreatTMicG
import Derived.Deep.DeepCutAuto
import Derived.BigRegion
namespace Go.Proofs.YtbhpmnhlmeglcaaGreat
set_option linter.unusedSimpArgs false
set_option linter.unusedVariables false
open Go.RowKit
/-- a processor -/
structure Cp where
  (r : Rg) (steps : List Stp) (at_ code ix second : Int) (ahead : Bool) (lo hi ea out : Int) (wrote nmi : Bool) (kind : Int) (port : Bool) (what addr n t wait : Int) (held : Bool)
def Cp.tail (c : Cp) (sv : Value) : List Value :=
  [sv, .int .i64 c.at_, .int .u8 c.code, .int .i64 c.ix, .int .i64 c.second, .bool c.ahead, .int .u8 c.lo, .int .u8 c.hi, .int .u16 c.ea, .int .u8 c.out, .bool c.wrote, .bool c.nmi, .int .i64 c.kind, .bool c.port, .int .i64 c.what, .int .u16 c.addr, .int .i64 c.n, .int .i64 c.t, .int .i64 c.wait, .bool c.held]
def Cp.cells (c : Cp) (sv : Value) : List Value := c.r.cells ++ c.tail sv
/-- its numbers fit -/
structure Cp.Ok (c : Cp) : Prop where
  (r : c.r.Ok) (code : B8 c.code) (lo : B8 c.lo) (hi : B8 c.hi) (ea : B16 c.ea) (out : B8 c.out) (addr : B16 c.addr) (at0 : 0 ≤ c.at_) (at1 : c.at_ ≤ c.steps.length) (len : c.steps.length ≤ 64)
theorem own_keepC {w w' : World} {base : Nat} {e : TypeId} {size n : Nat} {v : Value} {xs : List Value} (h : w.ownsRow base e size v n xs) (hk : ∀ k, v.ownBlock = some k → w'.heap[k]? = w.heap[k]?) : w'.ownsRow base e size v n xs := by
  refine ⟨h.1, ?_⟩
  rcases h.2 with e1 | ⟨k, cap, cur, e1, hle, hh, rest⟩
  · exact .inl e1
  · exact .inr ⟨k, cap, cur, e1, hle, (hk k (by rw [e1]; rfl)).trans hh, rest⟩
/-- a processor stands in block g, its steps where sv leads -/
structure CpAt (w : World) (g : Nat) (sv : Value) (c : Cp) : Prop where
  blk : Blk w g 46 (c.cells sv)
  own : w.ownsRow 0 65 4 sv c.steps.length (flat c.steps)
/-- nothing but some blocks has turned -/
structure Ch (p : Nat → Prop) (w w' : World) : Prop where
  os : w'.os = w.os
  tape : w'.tape = w.tape
  output : w'.output = w.output
  size : w.heap.size ≤ w'.heap.size
  block : ∀ k, k < w.heap.size → ¬ p k → w'.heap[k]? = w.heap[k]?
theorem Ch.refl (p : Nat → Prop) (w : World) : Ch p w w := ⟨rfl, rfl, rfl, Nat.le_refl _, fun _ _ _ => rfl⟩
theorem Ch.trans {p q r : Nat → Prop} {a b c : World} (h : Ch p a b) (k : Ch q b c) (hp : ∀ i, i < a.heap.size → p i → r i) (hq : ∀ i, i < a.heap.size → q i → r i) : Ch r a c :=
  ⟨k.os.trans h.os, k.tape.trans h.tape, k.output.trans h.output, Nat.le_trans h.size k.size, fun i hi hn => (k.block i (Nat.lt_of_lt_of_le hi h.size) fun hc => hn (hq i hi hc)).trans (h.block i hi fun hc => hn (hp i hi hc))⟩
theorem Ch.mono {p q : Nat → Prop} {a b : World} (h : Ch p a b) (hp : ∀ i, i < a.heap.size → p i → q i) : Ch q a b := ⟨h.os, h.tape, h.output, h.size, fun i hi hn => h.block i hi fun hc => hn (hp i hi hc)⟩
theorem Only.ch {g : Nat} {w w' : World} (h : Only g w w') : Ch (fun k => k = g) w w' := ⟨h.os, h.tape, h.output, by rw [h.size]; exact Nat.le_refl _, fun k _ hk => h.block k hk⟩
theorem Below.ch {p : Nat → Prop} {w w' : World} (h : Below w.heap.size w w') : Ch p w w' := ⟨h.os, h.tape, h.output, h.size, fun k hk _ => h.block k hk⟩
theorem Drew.ch {p : Nat → Prop} {w w' : World} (h : Drew w w') : Ch p w w' := by
  obtain ⟨n, rfl⟩ := h
  exact ⟨rfl, rfl, rfl, Nat.le_refl _, fun _ _ _ => rfl⟩
theorem Ch.blk {p : Nat → Prop} {w w' : World} {g : Nat} {t : TypeId} {cs : List Value} (h : Ch p w w') (hb : Blk w g t cs) (hn : ¬ p g) : Blk w' g t cs := (h.block g hb.lt hn).trans hb
theorem Ch.drew {p : Nat → Prop} {w w' : World} (h : Ch p w w') : Ch p w w'.drew := ⟨h.os, h.tape, h.output, h.size, h.block⟩
/-- what may turn when a processor does something -/
def CpP (g : Nat) (sv : Value) (k : Nat) : Prop := k = g ∨ sv.ownBlock = some k
/-- the steps lie where they lay, or in new memory -/
def SvTo (w : World) (sv sv' : Value) : Prop := sv'.ownBlock = sv.ownBlock ∨ ∀ b, sv'.ownBlock = some b → w.heap.size ≤ b
/-- the processor is now this one -/
def CpTo (g : Nat) (w : World) (sv : Value) (c : Cp) (w' : World) : Prop := ∃ sv', CpAt w' g sv' c ∧ SvTo w sv sv' ∧ Ch (CpP g sv) w w'
theorem SvTo.trans {w w1 : World} {a b c : Value} (h : SvTo w a b) (k : SvTo w1 b c) (hs : w.heap.size ≤ w1.heap.size) : SvTo w a c := by
  rcases k with k | k
  · rcases h with h | h
    · exact .inl (k.trans h)
    · exact .inr fun x hx => h x (by rw [← k]; exact hx)
  · exact .inr fun x hx => Nat.le_trans hs (k x hx)
theorem SvTo.place {w : World} {a b : Value} {g i : Nat} (h : SvTo w a b) (hi : i < w.heap.size) (hp : CpP g b i) : CpP g a i := by
  rcases hp with hp | hp
  · exact .inl hp
  · rcases h with h | h
    · exact .inr (by rw [← h]; exact hp)
    · exact absurd (h i hp) (by omega)
theorem CpTo.trans {g : Nat} {w w1 w2 : World} {sv : Value} {c1 c2 : Cp} (h : CpTo g w sv c1 w1) (k : ∀ sv1, CpAt w1 g sv1 c1 → CpTo g w1 sv1 c2 w2) : CpTo g w sv c2 w2 := by
  obtain ⟨sv1, h1, h2, h3⟩ := h
  obtain ⟨sv2, k1, k2, k3⟩ := k sv1 h1
  exact ⟨sv2, k1, h2.trans k2 h3.size, h3.trans k3 (fun i _ hp => hp) fun i hi hp => h2.place hi hp⟩
theorem sv_ne {w : World} {g : Nat} {sv : Value} {c : Cp} (h : CpAt w g sv c) : sv.ownBlock ≠ some g := fun e => by
  obtain ⟨cur, hc⟩ : ∃ cur, w.heap[g]? = some (.cells cur 65 (0, 0)) := by
    rcases h.own.2 with ⟨hv, _⟩ | ⟨b, cap, cur, hv, _, hb, _⟩
    · rw [hv] at e; cases e
    · rw [hv] at e
      have : b = g := by injection e
      subst this
      exact ⟨cur, hb⟩
  have hb := h.blk
  unfold Blk at hb
  rw [hc] at hb
  injection hb with hb
  injection hb with _ hb _
  exact absurd hb (by decide)
/-- what a write into the processor's own block leaves -/
theorem CpAt.only {w w' : World} {g : Nat} {sv : Value} {c c' : Cp} (h : CpAt w g sv c) (ho : Only g w w') (hb : Blk w' g 46 (c'.cells sv)) (hs : c'.steps = c.steps) : CpTo g w sv c' w' := by
  refine ⟨sv, ⟨hb, ?_⟩, .inl rfl, ho.ch.mono fun i _ hi => .inl hi⟩
  rw [hs]
  exact own_keepC h.own fun k hk => ho.block k fun e => sv_ne h (by rw [hk, e])
def Done (v : Value) (g : Nat) (w : World) (sv : Value) (c : Cp) (e : Ending) (w' : World) : Prop := e = .returned v ∧ CpTo g w sv c w'
theorem Done.at {v : Value} {g : Nat} {w : World} {sv : Value} {c c' : Cp} {w' : World} (h : CpAt w g sv c) (ho : Only g w w') (hb : Blk w' g 46 (c'.cells sv)) (hs : c'.steps = c.steps) : Done v g w sv c' (.returned v) w' := ⟨rfl, h.only ho hb hs⟩
set_option maxHeartbeats 1000000 in
theorem cp_done (g : Nat) (sv : Value) (c : Cp) (w : World) (h : CpAt w g sv c) : Calls Tryz.prog 13 #[.pointer (some ⟨g, 0, none⟩)] w fun e w' => e = .returned (.bool (c.kind == -1)) ∧ w' = w := by
  have hb := h.blk
  have c42 : w.cell? ⟨g, 42, none⟩ = some (.int .i64 c.kind) := hb.cell 42
  clear h hb
  go_enter Tryz.func13, Tryz.ntmps13
  go_wp2
  go_ret
  exact ⟨rfl, rfl⟩
def Cp.start (c : Cp) (kind addr n : Int) : Cp := { c with kind := kind, addr := addr, n := n, t := 0, held := false }
set_option maxRecDepth 100000 in
set_option maxHeartbeats 2000000 in
theorem cp_start (g : Nat) (sv : Value) (c : Cp) (k a n : Int) (w : World) (h : CpAt w g sv c) :
    Calls Tryz.prog 29 #[.pointer (some ⟨g, 0, none⟩), .int .i64 k, .int .u16 a, .int .i64 n] w (Done (.tuple #[]) g w sv (c.start k a n)) := by
  have hb := h.blk
  have c42 : w.cell? ⟨g, 42, none⟩ = some (.int .i64 c.kind) := hb.cell 42
  have c45 : w.cell? ⟨g, 45, none⟩ = some (.int .u16 c.addr) := hb.cell 45
  have c46 : w.cell? ⟨g, 46, none⟩ = some (.int .i64 c.n) := hb.cell 46
  have c47 : w.cell? ⟨g, 47, none⟩ = some (.int .i64 c.t) := hb.cell 47
  have c49 : w.cell? ⟨g, 49, none⟩ = some (.bool c.held) := hb.cell 49
  have z42 := hb.frozen 42
  have z45 := hb.frozen 45
  have z46 := hb.frozen 46
  have z47 := hb.frozen 47
  have z49 := hb.frozen 49
  have H := Lib.hid h; have HB := Lib.hid hb
  clear h hb
  go_enter Tryz.func29, Tryz.ntmps29
  go_wp2
  refine bodyPost_end (results_none rfl _ _ _) rfl ?_
  exact Done.at H.out (((((Only.set g 42 w _).trans (Only.set g 45 _ _)).trans (Only.set g 46 _ _)).trans (Only.set g 47 _ _)).trans (Only.set g 49 _ _)) (((((HB.out.set_ 42 _).set_ 45 _).set_ 46 _).set_ 47 _).set_ 49 _) rfl
def Cp.latch (c : Cp) (v : Int) : Cp := if c.what = 1 then { c with hi := v } else { c with lo := v }
set_option maxHeartbeats 2000000 in
theorem cp_latch (g : Nat) (sv : Value) (c : Cp) (v : Int) (w : World) (h : CpAt w g sv c) :
    Calls Tryz.prog 31 #[.pointer (some ⟨g, 0, none⟩), .int .u8 v] w (Done (.tuple #[]) g w sv (c.latch v)) := by
  have hb := h.blk
  have c44 : w.cell? ⟨g, 44, none⟩ = some (.int .i64 c.what) := hb.cell 44
  have c36 : w.cell? ⟨g, 36, none⟩ = some (.int .u8 c.lo) := hb.cell 36
  have c37 : w.cell? ⟨g, 37, none⟩ = some (.int .u8 c.hi) := hb.cell 37
  have z36 := hb.frozen 36
  have z37 := hb.frozen 37
  have H := Lib.hid h; have HB := Lib.hid hb
  clear h hb
  unfold Cp.latch
  by_cases hw : c.what = 1
  · rw [if_pos hw]
    have hw2 : (c.what == 1) = true := by rw [hw]; rfl
    clear hw
    go_enter Tryz.func31, Tryz.ntmps31
    go_wp2
    refine bodyPost_end (results_none rfl _ _ _) rfl ?_
    exact Done.at H.out (Only.set g 37 w _) (HB.out.set_ 37 _) rfl
  · rw [if_neg hw]
    have hw2 : (c.what == 1) = false := by simpa using hw
    clear hw
    go_enter Tryz.func31, Tryz.ntmps31
    go_wp2
    refine bodyPost_end (results_none rfl _ _ _) rfl ?_
    exact Done.at H.out (Only.set g 36 w _) (HB.out.set_ 36 _) rfl
end Go.Proofs.YtbhpmnhlmeglcaaGreat
namespace Go.Proofs.YtbhpmnhlmeglcaaGreat
set_option linter.unusedSimpArgs false
set_option linter.unusedVariables false
open Go.RowKit
theorem CpAt.drew {w w' : World} {g : Nat} {sv : Value} {c : Cp} (h : CpAt w g sv c) (hd : Drew w w') : CpTo g w sv c w' := by
  obtain ⟨n, rfl⟩ := hd
  exact ⟨sv, ⟨h.blk.drewN n, own_keepC h.own fun k _ => rfl⟩, .inl rfl, ⟨rfl, rfl, rfl, Nat.le_refl _, fun _ _ _ => rfl⟩⟩
theorem CpAt.same {w : World} {g : Nat} {sv : Value} {c : Cp} (h : CpAt w g sv c) : CpTo g w sv c w := ⟨sv, h, .inl rfl, Ch.refl _ _⟩
/-- a step's place, and what it does to the processor -/
def Cp.placeV (c : Cp) (p : Int) : Int :=
  if p = 0 then c.r.pc else if p = 1 then c.ea else if p = 2 then c.r.pair 0 0 else if p = 3 then c.r.pair 1 0 else if p = 4 then c.r.sp else if p = 5 then (c.r.sp - 1) % 65536 else if p = 6 then c.r.sp else if p = 7 then c.r.wz else if p = 8 then c.r.i * 256 + c.r.r else c.addr
def Cp.placeC (c : Cp) (p : Int) : Cp :=
  if p = 0 then { c with r := { c.r with pc := (c.r.pc + 1) % 65536 } } else if p = 4 then { c with r := { c.r with sp := (c.r.sp + 1) % 65536 } } else if p = 5 then { c with r := { c.r with sp := (c.r.sp - 1) % 65536 } } else c
set_option maxHeartbeats 2000000 in
theorem cp_place0 (g : Nat) (sv : Value) (c : Cp) (w : World) (h : CpAt w g sv c) (ho : c.Ok) :
    Calls Tryz.prog 52 #[.pointer (some ⟨g, 0, none⟩), .int .i64 0] w (Done (.int .u16 (c.placeV 0)) g w sv (c.placeC 0)) := by
  have hb := h.blk
  have HO := Lib.hid ho
  have c22 : w.cell? ⟨g, 22, none⟩ = some (.int .u16 c.r.pc) := hb.cell 22
  have z22 := hb.frozen 22
  have hr := ho.r.pc
  obtain ⟨h0, h1⟩ := hr
  obtain ⟨x, hx⟩ : ∃ x, x = (c.r.pc + 1) % 65536 := ⟨_, rfl⟩
  have e1 : IntKind.u16.wrap (c.r.pc + 1) = x := by rw [IntKind.wrap_u16, hx]
  have e2 : IntKind.u16.wrap (x - 1) = c.r.pc := by rw [IntKind.wrap_u16, hx]; omega
  have hv : c.placeV 0 = c.r.pc := by simp [Cp.placeV]
  have hc : c.placeC 0 = { c with r := { c.r with pc := x } } := by rw [hx]; simp [Cp.placeC]
  rw [hv, hc]
  clear hv hc hx h0 h1 ho
  have H := Lib.hid h; have HB := Lib.hid hb
  clear h hb
  go_enter Tryz.func52, Tryz.ntmps52
  go_wp2
  go_ret
  exact Done.at H.out (Only.set g 22 w _) (HB.out.set_ 22 _) rfl
set_option maxHeartbeats 2000000 in
theorem cp_place1 (g : Nat) (sv : Value) (c : Cp) (w : World) (h : CpAt w g sv c) (ho : c.Ok) :
    Calls Tryz.prog 52 #[.pointer (some ⟨g, 0, none⟩), .int .i64 1] w (Done (.int .u16 (c.placeV 1)) g w sv (c.placeC 1)) := by
  have hb := h.blk
  have HO := Lib.hid ho
  have c38 : w.cell? ⟨g, 38, none⟩ = some (.int .u16 c.ea) := hb.cell 38
  have hv : c.placeV 1 = c.ea := by simp [Cp.placeV]
  have hc : c.placeC 1 = c := by simp [Cp.placeC]
  rw [hv, hc]
  clear hv hc ho
  have H := Lib.hid h; have HB := Lib.hid hb
  clear h hb
  go_enter Tryz.func52, Tryz.ntmps52
  go_wp2
  go_ret
  exact ⟨rfl, H.out.same⟩
set_option maxHeartbeats 2000000 in
theorem cp_place2 (g : Nat) (sv : Value) (c : Cp) (w : World) (h : CpAt w g sv c) (ho : c.Ok) :
    Calls Tryz.prog 52 #[.pointer (some ⟨g, 0, none⟩), .int .i64 2] w (Done (.int .u16 (c.placeV 2)) g w sv (c.placeC 2)) := by
  have hb := h.blk
  have HO := Lib.hid ho
  have hv : c.placeV 2 = c.r.pair 0 0 := by simp [Cp.placeV]
  have hc : c.placeC 2 = c := by simp [Cp.placeC]
  rw [hv, hc]
  clear hv hc ho
  have H := Lib.hid h; have HB := Lib.hid hb
  clear h hb
  go_enter Tryz.func52, Tryz.ntmps52
  go_wp2_with (first
    | (go_at_call 44; refine (pair_any c.r 46 (c.tail sv) g 0 0 _ HB.out HO.out.r).mono ?_; rintro e w' ⟨rfl, hd⟩))
  go_ret
  exact ⟨rfl, H.out.drew hd⟩
set_option maxHeartbeats 2000000 in
theorem cp_place3 (g : Nat) (sv : Value) (c : Cp) (w : World) (h : CpAt w g sv c) (ho : c.Ok) :
    Calls Tryz.prog 52 #[.pointer (some ⟨g, 0, none⟩), .int .i64 3] w (Done (.int .u16 (c.placeV 3)) g w sv (c.placeC 3)) := by
  have hb := h.blk
  have HO := Lib.hid ho
  have hv : c.placeV 3 = c.r.pair 1 0 := by simp [Cp.placeV]
  have hc : c.placeC 3 = c := by simp [Cp.placeC]
  rw [hv, hc]
  clear hv hc ho
  have H := Lib.hid h; have HB := Lib.hid hb
  clear h hb
  go_enter Tryz.func52, Tryz.ntmps52
  go_wp2_with (first
    | (go_at_call 44; refine (pair_any c.r 46 (c.tail sv) g 1 0 _ HB.out HO.out.r).mono ?_; rintro e w' ⟨rfl, hd⟩))
  go_ret
  exact ⟨rfl, H.out.drew hd⟩
set_option maxHeartbeats 2000000 in
theorem cp_place4 (g : Nat) (sv : Value) (c : Cp) (w : World) (h : CpAt w g sv c) (ho : c.Ok) :
    Calls Tryz.prog 52 #[.pointer (some ⟨g, 0, none⟩), .int .i64 4] w (Done (.int .u16 (c.placeV 4)) g w sv (c.placeC 4)) := by
  have hb := h.blk
  have HO := Lib.hid ho
  have c21 : w.cell? ⟨g, 21, none⟩ = some (.int .u16 c.r.sp) := hb.cell 21
  have z21 := hb.frozen 21
  have hr := ho.r.sp
  obtain ⟨h0, h1⟩ := hr
  obtain ⟨x, hx⟩ : ∃ x, x = (c.r.sp + 1) % 65536 := ⟨_, rfl⟩
  have e1 : IntKind.u16.wrap (c.r.sp + 1) = x := by rw [IntKind.wrap_u16, hx]
  have e2 : IntKind.u16.wrap (x - 1) = c.r.sp := by rw [IntKind.wrap_u16, hx]; omega
  have hv : c.placeV 4 = c.r.sp := by simp [Cp.placeV]
  have hc : c.placeC 4 = { c with r := { c.r with sp := x } } := by rw [hx]; simp [Cp.placeC]
  rw [hv, hc]
  clear hv hc hx h0 h1 ho
  have H := Lib.hid h; have HB := Lib.hid hb
  clear h hb
  go_enter Tryz.func52, Tryz.ntmps52
  go_wp2
  go_ret
  exact Done.at H.out (Only.set g 21 w _) (HB.out.set_ 21 _) rfl
set_option maxHeartbeats 2000000 in
theorem cp_place5 (g : Nat) (sv : Value) (c : Cp) (w : World) (h : CpAt w g sv c) (ho : c.Ok) :
    Calls Tryz.prog 52 #[.pointer (some ⟨g, 0, none⟩), .int .i64 5] w (Done (.int .u16 (c.placeV 5)) g w sv (c.placeC 5)) := by
  have hb := h.blk
  have HO := Lib.hid ho
  have c21 : w.cell? ⟨g, 21, none⟩ = some (.int .u16 c.r.sp) := hb.cell 21
  have z21 := hb.frozen 21
  obtain ⟨x, hx⟩ : ∃ x, x = (c.r.sp - 1) % 65536 := ⟨_, rfl⟩
  have e1 : IntKind.u16.wrap (c.r.sp - 1) = x := by rw [IntKind.wrap_u16, hx]
  have hv : c.placeV 5 = x := by rw [hx]; simp [Cp.placeV]
  have hc : c.placeC 5 = { c with r := { c.r with sp := x } } := by rw [hx]; simp [Cp.placeC]
  rw [hv, hc]
  clear hv hc hx ho
  have H := Lib.hid h; have HB := Lib.hid hb
  clear h hb
  go_enter Tryz.func52, Tryz.ntmps52
  go_wp2
  go_ret
  exact Done.at H.out (Only.set g 21 w _) (HB.out.set_ 21 _) rfl
set_option maxHeartbeats 2000000 in
theorem cp_place6 (g : Nat) (sv : Value) (c : Cp) (w : World) (h : CpAt w g sv c) (ho : c.Ok) :
    Calls Tryz.prog 52 #[.pointer (some ⟨g, 0, none⟩), .int .i64 6] w (Done (.int .u16 (c.placeV 6)) g w sv (c.placeC 6)) := by
  have hb := h.blk
  have HO := Lib.hid ho
  have c21 : w.cell? ⟨g, 21, none⟩ = some (.int .u16 c.r.sp) := hb.cell 21
  have hv : c.placeV 6 = c.r.sp := by simp [Cp.placeV]
  have hc : c.placeC 6 = c := by simp [Cp.placeC]
  rw [hv, hc]
  clear hv hc ho
  have H := Lib.hid h; have HB := Lib.hid hb
  clear h hb
  go_enter Tryz.func52, Tryz.ntmps52
  go_wp2
  go_ret
  exact ⟨rfl, H.out.same⟩
set_option maxHeartbeats 2000000 in
theorem cp_place7 (g : Nat) (sv : Value) (c : Cp) (w : World) (h : CpAt w g sv c) (ho : c.Ok) :
    Calls Tryz.prog 52 #[.pointer (some ⟨g, 0, none⟩), .int .i64 7] w (Done (.int .u16 (c.placeV 7)) g w sv (c.placeC 7)) := by
  have hb := h.blk
  have HO := Lib.hid ho
  have c23 : w.cell? ⟨g, 23, none⟩ = some (.int .u16 c.r.wz) := hb.cell 23
  have hv : c.placeV 7 = c.r.wz := by simp [Cp.placeV]
  have hc : c.placeC 7 = c := by simp [Cp.placeC]
  rw [hv, hc]
  clear hv hc ho
  have H := Lib.hid h; have HB := Lib.hid hb
  clear h hb
  go_enter Tryz.func52, Tryz.ntmps52
  go_wp2
  go_ret
  exact ⟨rfl, H.out.same⟩
set_option maxHeartbeats 2000000 in
theorem cp_place8 (g : Nat) (sv : Value) (c : Cp) (w : World) (h : CpAt w g sv c) (ho : c.Ok) :
    Calls Tryz.prog 52 #[.pointer (some ⟨g, 0, none⟩), .int .i64 8] w (Done (.int .u16 (c.placeV 8)) g w sv (c.placeC 8)) := by
  have hb := h.blk
  have HO := Lib.hid ho
  have hv : c.placeV 8 = c.r.i * 256 + c.r.r := by simp [Cp.placeV]
  have hc : c.placeC 8 = c := by simp [Cp.placeC]
  rw [hv, hc]
  clear hv hc ho
  have H := Lib.hid h; have HB := Lib.hid hb
  clear h hb
  go_enter Tryz.func52, Tryz.ntmps52
  go_wp2_with (first
    | (go_at_call 87; refine (ir_any c.r 46 (c.tail sv) g _ HB.out HO.out.r).mono ?_; rintro e w' ⟨rfl, hd⟩))
  go_ret
  exact ⟨rfl, H.out.drew hd⟩
set_option maxHeartbeats 2000000 in
theorem cp_place9 (g : Nat) (sv : Value) (c : Cp) (w : World) (h : CpAt w g sv c) (ho : c.Ok) :
    Calls Tryz.prog 52 #[.pointer (some ⟨g, 0, none⟩), .int .i64 9] w (Done (.int .u16 (c.placeV 9)) g w sv (c.placeC 9)) := by
  have hb := h.blk
  have HO := Lib.hid ho
  have c45 : w.cell? ⟨g, 45, none⟩ = some (.int .u16 c.addr) := hb.cell 45
  have hv : c.placeV 9 = c.addr := by simp [Cp.placeV]
  have hc : c.placeC 9 = c := by simp [Cp.placeC]
  rw [hv, hc]
  clear hv hc ho
  have H := Lib.hid h; have HB := Lib.hid hb
  clear h hb
  go_enter Tryz.func52, Tryz.ntmps52
  go_wp2
  go_ret
  exact ⟨rfl, H.out.same⟩
theorem cp_place (g : Nat) (sv : Value) (c : Cp) (p : Int) (w : World) (h : CpAt w g sv c) (ho : c.Ok) (hp : 0 ≤ p ∧ p ≤ 9) :
    Calls Tryz.prog 52 #[.pointer (some ⟨g, 0, none⟩), .int .i64 p] w (Done (.int .u16 (c.placeV p)) g w sv (c.placeC p)) := by
  have hk : p = 0 ∨ p = 1 ∨ p = 2 ∨ p = 3 ∨ p = 4 ∨ p = 5 ∨ p = 6 ∨ p = 7 ∨ p = 8 ∨ p = 9 := by omega
  rcases hk with rfl | rfl | rfl | rfl | rfl | rfl | rfl | rfl | rfl | rfl
  · exact cp_place0 g sv c w h ho
  · exact cp_place1 g sv c w h ho
  · exact cp_place2 g sv c w h ho
  · exact cp_place3 g sv c w h ho
  · exact cp_place4 g sv c w h ho
  · exact cp_place5 g sv c w h ho
  · exact cp_place6 g sv c w h ho
  · exact cp_place7 g sv c w h ho
  · exact cp_place8 g sv c w h ho
  · exact cp_place9 g sv c w h ho
end Go.Proofs.YtbhpmnhlmeglcaaGreat
namespace Go.Proofs.YtbhpmnhlmeglcaaGreat
set_option linter.unusedSimpArgs false
set_option linter.unusedVariables false
open Go.RowKit
set_option maxHeartbeats 400000 in
theorem cpu_x (c : Int) (w : World) (hc : B8 c) : Calls Tryz.prog 116 #[.int .u8 c] w fun e w' => e = .returned (.int .i64 (c / 64)) ∧ w = w' := by
  obtain ⟨h0, h1⟩ := hc
  skip
  go_enter Tryz.func116, Tryz.ntmps116
  go_wp2
  go_ret
  exact ⟨rfl, rfl⟩
set_option maxHeartbeats 400000 in
theorem cpu_y (c : Int) (w : World) (hc : B8 c) : Calls Tryz.prog 49 #[.int .u8 c] w fun e w' => e = .returned (.int .i64 (c / 8 % 8)) ∧ w = w' := by
  obtain ⟨h0, h1⟩ := hc
  have e := u8_and_7 (c / 8) (by omega) (by omega)
  go_enter Tryz.func49, Tryz.ntmps49
  go_wp2
  go_ret
  exact ⟨rfl, rfl⟩
set_option maxHeartbeats 400000 in
theorem cpu_z (c : Int) (w : World) (hc : B8 c) : Calls Tryz.prog 50 #[.int .u8 c] w fun e w' => e = .returned (.int .i64 (c % 8)) ∧ w = w' := by
  obtain ⟨h0, h1⟩ := hc
  have e := u8_and_7 c (by omega) (by omega)
  go_enter Tryz.func50, Tryz.ntmps50
  go_wp2
  go_ret
  exact ⟨rfl, rfl⟩
set_option maxHeartbeats 400000 in
theorem cpu_p (c : Int) (w : World) (hc : B8 c) : Calls Tryz.prog 66 #[.int .u8 c] w fun e w' => e = .returned (.int .i64 (c / 16 % 4)) ∧ w = w' := by
  obtain ⟨h0, h1⟩ := hc
  have e := u8_and_3 (c / 16) (by omega) (by omega)
  go_enter Tryz.func66, Tryz.ntmps66
  go_wp2
  go_ret
  exact ⟨rfl, rfl⟩
theorem pair_b16 {r : Rg} (h : r.Ok) (k ix : Int) : B16 (r.pair k ix) := by
  obtain ⟨a1, a2⟩ := h.b; obtain ⟨b1, b2⟩ := h.c; obtain ⟨c1, c2⟩ := h.d; obtain ⟨d1, d2⟩ := h.e; obtain ⟨e1, e2⟩ := h.h; obtain ⟨f1, f2⟩ := h.l; obtain ⟨g1, g2⟩ := h.ix; obtain ⟨i1, i2⟩ := h.iy; obtain ⟨j1, j2⟩ := h.sp
  unfold Rg.pair B16
  split
  · omega
  · split
    · omega
    · split
      · split
        · omega
        · split <;> omega
      · split <;> omega
def Cp.pushed (c : Cp) : Int := if c.code / 16 % 4 = 3 then c.r.a * 256 + c.r.f else c.r.pair (c.code / 16 % 4) c.ix
theorem pushed_b16 {c : Cp} (h : c.Ok) : B16 c.pushed := by
  unfold Cp.pushed
  split
  · obtain ⟨a1, a2⟩ := h.r.a; obtain ⟨b1, b2⟩ := h.r.f
    exact ⟨by omega, by omega⟩
  · exact pair_b16 h.r _ _
set_option maxHeartbeats 2000000 in
theorem cp_pushed (g : Nat) (sv : Value) (c : Cp) (w : World) (h : CpAt w g sv c) (ho : c.Ok) :
    Calls Tryz.prog 88 #[.pointer (some ⟨g, 0, none⟩)] w fun e w' => e = .returned (.int .u16 c.pushed) ∧ Drew w w' := by
  have hb := h.blk
  have HO := Lib.hid ho
  have c32 : w.cell? ⟨g, 32, none⟩ = some (.int .u8 c.code) := hb.cell 32
  have c33 : w.cell? ⟨g, 33, none⟩ = some (.int .i64 c.ix) := hb.cell 33
  have HB := Lib.hid hb
  obtain ⟨P, hP⟩ : ∃ P, P = c.pushed := ⟨_, rfl⟩
  rw [← hP]
  unfold Cp.pushed at hP
  have hk := ho.code
  by_cases h3 : c.code / 16 % 4 = 3
  · rw [if_pos h3] at hP
    have e3 : (c.code / 16 % 4 == 3) = true := by rw [h3]; rfl
    subst hP
    clear h hb h3 ho
    go_enter Tryz.func88, Tryz.ntmps88
    go_wp2_with (first
      | (go_at_call 66; refine (cpu_p _ _ hk).mono ?_; rintro e w' ⟨rfl, rfl⟩)
      | (go_at_call 136; refine (af_any c.r 46 (c.tail sv) g _ HB.out HO.out.r).mono ?_; rintro e w' ⟨rfl, hd⟩))
    go_ret
    exact ⟨rfl, hd⟩
  · rw [if_neg h3] at hP
    have e3 : (c.code / 16 % 4 == 3) = false := by simpa using h3
    subst hP
    clear h hb h3 ho
    go_enter Tryz.func88, Tryz.ntmps88
    go_wp2_with (first
      | (go_at_call 66; refine (cpu_p _ _ hk).mono ?_; rintro e w' ⟨rfl, rfl⟩))
    go_quiet (first
      | (go_at_call 66; exact Calls.quiet_of_same (same_swap (cpu_p _ _ hk)))
      | (go_at_call 44; exact Calls.quiet_of (pair_any c.r 46 (c.tail sv) g _ _ _ (HB.out.drewN _) HO.out.r)))
    go_wp2_with fail
    go_ret
    exact ⟨rfl, _, rfl⟩
def Cp.byteV (c : Cp) (k : Int) : Int :=
  if k = 0 then c.lo else if k = 1 then c.hi else if k = 2 then c.r.a else if k = 3 then c.r.pair 2 c.ix / 256 else if k = 4 then c.r.pair 2 c.ix % 256 else if k = 6 then c.r.byte (c.code % 8) 0 else if k = 7 then c.r.pc / 256 else if k = 8 then c.r.pc % 256 else
  if k = 9 then c.r.pair (c.code / 16 % 4) 0 / 256 else if k = 10 then c.r.pair (c.code / 16 % 4) 0 % 256 else if k = 11 then c.pushed / 256 else if k = 12 then c.pushed % 256 else c.r.byte (c.code / 8 % 8) 0
def ByteP (v : Int) (w : World) (e : Ending) (w' : World) : Prop := e = .returned (.int .u8 v) ∧ Drew w w'
set_option maxHeartbeats 2000000 in
theorem cp_byte0 (g : Nat) (sv : Value) (c : Cp) (w : World) (h : CpAt w g sv c) (ho : c.Ok) :
    Calls Tryz.prog 53 #[.pointer (some ⟨g, 0, none⟩), .int .i64 0] w (ByteP (c.byteV 0) w) := by
  have hb := h.blk
  have HO := Lib.hid ho
  have H := Lib.hid h
  have c36 : w.cell? ⟨g, 36, none⟩ = some (.int .u8 c.lo) := hb.cell 36
  have HB := Lib.hid hb
  have hk := ho.code
  have hpc := ho.r.pc
  have hv : c.byteV 0 = c.lo := by simp [Cp.byteV]
  rw [hv]
  clear h hb ho hv
  go_enter Tryz.func53, Tryz.ntmps53
  go_wp2_with (first
    | (go_at_call 66; refine (cpu_p _ _ hk).mono ?_; rintro e w' ⟨rfl, rfl⟩)
    | (go_at_call 49; refine (cpu_y _ _ hk).mono ?_; rintro e w' ⟨rfl, rfl⟩)
    | (go_at_call 50; refine (cpu_z _ _ hk).mono ?_; rintro e w' ⟨rfl, rfl⟩)
    | (go_at_call 88; refine (cp_pushed g sv c _ H.out HO.out).mono ?_; rintro e w' ⟨rfl, hd⟩)
    | (go_at_call 44; refine (pair_any c.r 46 (c.tail sv) g _ _ _ HB.out HO.out.r).mono ?_; rintro e w' ⟨rfl, hd⟩)
    | (go_at_call 77; refine (byte_any c.r 46 (c.tail sv) g _ _ _ HB.out HO.out.r).mono ?_; rintro e w' ⟨rfl, hd⟩)
    | (go_at_call 76; refine (wideHi_any _ _ (by first | exact hpc | exact pair_b16 HO.out.r _ _ | exact pushed_b16 HO.out)).mono ?_; rintro e w2 ⟨rfl, rfl⟩)
    | (go_at_call 70; refine (wideLo_any _ _ (by first | exact hpc | exact pair_b16 HO.out.r _ _ | exact pushed_b16 HO.out)).mono ?_; rintro e w2 ⟨rfl, rfl⟩))
  go_ret
  exact ⟨rfl, 0, rfl⟩
set_option maxHeartbeats 2000000 in
theorem cp_byte1 (g : Nat) (sv : Value) (c : Cp) (w : World) (h : CpAt w g sv c) (ho : c.Ok) :
    Calls Tryz.prog 53 #[.pointer (some ⟨g, 0, none⟩), .int .i64 1] w (ByteP (c.byteV 1) w) := by
  have hb := h.blk
  have HO := Lib.hid ho
  have H := Lib.hid h
  have c37 : w.cell? ⟨g, 37, none⟩ = some (.int .u8 c.hi) := hb.cell 37
  have HB := Lib.hid hb
  have hk := ho.code
  have hpc := ho.r.pc
  have hv : c.byteV 1 = c.hi := by simp [Cp.byteV]
  rw [hv]
  clear h hb ho hv
  go_enter Tryz.func53, Tryz.ntmps53
  go_wp2_with (first
    | (go_at_call 66; refine (cpu_p _ _ hk).mono ?_; rintro e w' ⟨rfl, rfl⟩)
    | (go_at_call 49; refine (cpu_y _ _ hk).mono ?_; rintro e w' ⟨rfl, rfl⟩)
    | (go_at_call 50; refine (cpu_z _ _ hk).mono ?_; rintro e w' ⟨rfl, rfl⟩)
    | (go_at_call 88; refine (cp_pushed g sv c _ H.out HO.out).mono ?_; rintro e w' ⟨rfl, hd⟩)
    | (go_at_call 44; refine (pair_any c.r 46 (c.tail sv) g _ _ _ HB.out HO.out.r).mono ?_; rintro e w' ⟨rfl, hd⟩)
    | (go_at_call 77; refine (byte_any c.r 46 (c.tail sv) g _ _ _ HB.out HO.out.r).mono ?_; rintro e w' ⟨rfl, hd⟩)
    | (go_at_call 76; refine (wideHi_any _ _ (by first | exact hpc | exact pair_b16 HO.out.r _ _ | exact pushed_b16 HO.out)).mono ?_; rintro e w2 ⟨rfl, rfl⟩)
    | (go_at_call 70; refine (wideLo_any _ _ (by first | exact hpc | exact pair_b16 HO.out.r _ _ | exact pushed_b16 HO.out)).mono ?_; rintro e w2 ⟨rfl, rfl⟩))
  go_ret
  exact ⟨rfl, 0, rfl⟩
set_option maxHeartbeats 2000000 in
theorem cp_byte2 (g : Nat) (sv : Value) (c : Cp) (w : World) (h : CpAt w g sv c) (ho : c.Ok) :
    Calls Tryz.prog 53 #[.pointer (some ⟨g, 0, none⟩), .int .i64 2] w (ByteP (c.byteV 2) w) := by
  have hb := h.blk
  have HO := Lib.hid ho
  have H := Lib.hid h
  have c0 : w.cell? ⟨g, 0, none⟩ = some (.int .u8 c.r.a) := hb.cell 0
  have HB := Lib.hid hb
  have hk := ho.code
  have hpc := ho.r.pc
  have hv : c.byteV 2 = c.r.a := by simp [Cp.byteV]
  rw [hv]
  clear h hb ho hv
  go_enter Tryz.func53, Tryz.ntmps53
  go_wp2_with (first
    | (go_at_call 66; refine (cpu_p _ _ hk).mono ?_; rintro e w' ⟨rfl, rfl⟩)
    | (go_at_call 49; refine (cpu_y _ _ hk).mono ?_; rintro e w' ⟨rfl, rfl⟩)
    | (go_at_call 50; refine (cpu_z _ _ hk).mono ?_; rintro e w' ⟨rfl, rfl⟩)
    | (go_at_call 88; refine (cp_pushed g sv c _ H.out HO.out).mono ?_; rintro e w' ⟨rfl, hd⟩)
    | (go_at_call 44; refine (pair_any c.r 46 (c.tail sv) g _ _ _ HB.out HO.out.r).mono ?_; rintro e w' ⟨rfl, hd⟩)
    | (go_at_call 77; refine (byte_any c.r 46 (c.tail sv) g _ _ _ HB.out HO.out.r).mono ?_; rintro e w' ⟨rfl, hd⟩)
    | (go_at_call 76; refine (wideHi_any _ _ (by first | exact hpc | exact pair_b16 HO.out.r _ _ | exact pushed_b16 HO.out)).mono ?_; rintro e w2 ⟨rfl, rfl⟩)
    | (go_at_call 70; refine (wideLo_any _ _ (by first | exact hpc | exact pair_b16 HO.out.r _ _ | exact pushed_b16 HO.out)).mono ?_; rintro e w2 ⟨rfl, rfl⟩))
  go_ret
  exact ⟨rfl, 0, rfl⟩
set_option maxHeartbeats 2000000 in
theorem cp_byte3 (g : Nat) (sv : Value) (c : Cp) (w : World) (h : CpAt w g sv c) (ho : c.Ok) :
    Calls Tryz.prog 53 #[.pointer (some ⟨g, 0, none⟩), .int .i64 3] w (ByteP (c.byteV 3) w) := by
  have hb := h.blk
  have HO := Lib.hid ho
  have H := Lib.hid h
  have c33 : w.cell? ⟨g, 33, none⟩ = some (.int .i64 c.ix) := hb.cell 33
  have HB := Lib.hid hb
  have hk := ho.code
  have hpc := ho.r.pc
  have hv : c.byteV 3 = c.r.pair 2 c.ix / 256 := by simp [Cp.byteV]
  rw [hv]
  clear h hb ho hv
  go_enter Tryz.func53, Tryz.ntmps53
  go_wp2_with (first
    | (go_at_call 66; refine (cpu_p _ _ hk).mono ?_; rintro e w' ⟨rfl, rfl⟩)
    | (go_at_call 49; refine (cpu_y _ _ hk).mono ?_; rintro e w' ⟨rfl, rfl⟩)
    | (go_at_call 50; refine (cpu_z _ _ hk).mono ?_; rintro e w' ⟨rfl, rfl⟩)
    | (go_at_call 88; refine (cp_pushed g sv c _ H.out HO.out).mono ?_; rintro e w' ⟨rfl, hd⟩)
    | (go_at_call 44; refine (pair_any c.r 46 (c.tail sv) g _ _ _ HB.out HO.out.r).mono ?_; rintro e w' ⟨rfl, hd⟩)
    | (go_at_call 77; refine (byte_any c.r 46 (c.tail sv) g _ _ _ HB.out HO.out.r).mono ?_; rintro e w' ⟨rfl, hd⟩)
    | (go_at_call 76; refine (wideHi_any _ _ (by first | exact hpc | exact pair_b16 HO.out.r _ _ | exact pushed_b16 HO.out)).mono ?_; rintro e w2 ⟨rfl, rfl⟩)
    | (go_at_call 70; refine (wideLo_any _ _ (by first | exact hpc | exact pair_b16 HO.out.r _ _ | exact pushed_b16 HO.out)).mono ?_; rintro e w2 ⟨rfl, rfl⟩))
  go_ret
  exact ⟨rfl, hd⟩
set_option maxHeartbeats 2000000 in
theorem cp_byte4 (g : Nat) (sv : Value) (c : Cp) (w : World) (h : CpAt w g sv c) (ho : c.Ok) :
    Calls Tryz.prog 53 #[.pointer (some ⟨g, 0, none⟩), .int .i64 4] w (ByteP (c.byteV 4) w) := by
  have hb := h.blk
  have HO := Lib.hid ho
  have H := Lib.hid h
  have c33 : w.cell? ⟨g, 33, none⟩ = some (.int .i64 c.ix) := hb.cell 33
  have HB := Lib.hid hb
  have hk := ho.code
  have hpc := ho.r.pc
  have hv : c.byteV 4 = c.r.pair 2 c.ix % 256 := by simp [Cp.byteV]
  rw [hv]
  clear h hb ho hv
  go_enter Tryz.func53, Tryz.ntmps53
  go_wp2_with (first
    | (go_at_call 66; refine (cpu_p _ _ hk).mono ?_; rintro e w' ⟨rfl, rfl⟩)
    | (go_at_call 49; refine (cpu_y _ _ hk).mono ?_; rintro e w' ⟨rfl, rfl⟩)
    | (go_at_call 50; refine (cpu_z _ _ hk).mono ?_; rintro e w' ⟨rfl, rfl⟩)
    | (go_at_call 88; refine (cp_pushed g sv c _ H.out HO.out).mono ?_; rintro e w' ⟨rfl, hd⟩)
    | (go_at_call 44; refine (pair_any c.r 46 (c.tail sv) g _ _ _ HB.out HO.out.r).mono ?_; rintro e w' ⟨rfl, hd⟩)
    | (go_at_call 77; refine (byte_any c.r 46 (c.tail sv) g _ _ _ HB.out HO.out.r).mono ?_; rintro e w' ⟨rfl, hd⟩)
    | (go_at_call 76; refine (wideHi_any _ _ (by first | exact hpc | exact pair_b16 HO.out.r _ _ | exact pushed_b16 HO.out)).mono ?_; rintro e w2 ⟨rfl, rfl⟩)
    | (go_at_call 70; refine (wideLo_any _ _ (by first | exact hpc | exact pair_b16 HO.out.r _ _ | exact pushed_b16 HO.out)).mono ?_; rintro e w2 ⟨rfl, rfl⟩))
  go_ret
  exact ⟨rfl, hd⟩
set_option maxHeartbeats 2000000 in
theorem cp_byte6 (g : Nat) (sv : Value) (c : Cp) (w : World) (h : CpAt w g sv c) (ho : c.Ok) :
    Calls Tryz.prog 53 #[.pointer (some ⟨g, 0, none⟩), .int .i64 6] w (ByteP (c.byteV 6) w) := by
  have hb := h.blk
  have HO := Lib.hid ho
  have H := Lib.hid h
  have c32 : w.cell? ⟨g, 32, none⟩ = some (.int .u8 c.code) := hb.cell 32
  have HB := Lib.hid hb
  have hk := ho.code
  have hpc := ho.r.pc
  have hv : c.byteV 6 = c.r.byte (c.code % 8) 0 := by simp [Cp.byteV]
  rw [hv]
  clear h hb ho hv
  go_enter Tryz.func53, Tryz.ntmps53
  go_wp2_with (first
    | (go_at_call 66; refine (cpu_p _ _ hk).mono ?_; rintro e w' ⟨rfl, rfl⟩)
    | (go_at_call 49; refine (cpu_y _ _ hk).mono ?_; rintro e w' ⟨rfl, rfl⟩)
    | (go_at_call 50; refine (cpu_z _ _ hk).mono ?_; rintro e w' ⟨rfl, rfl⟩)
    | (go_at_call 88; refine (cp_pushed g sv c _ H.out HO.out).mono ?_; rintro e w' ⟨rfl, hd⟩)
    | (go_at_call 44; refine (pair_any c.r 46 (c.tail sv) g _ _ _ HB.out HO.out.r).mono ?_; rintro e w' ⟨rfl, hd⟩)
    | (go_at_call 77; refine (byte_any c.r 46 (c.tail sv) g _ _ _ HB.out HO.out.r).mono ?_; rintro e w' ⟨rfl, hd⟩)
    | (go_at_call 76; refine (wideHi_any _ _ (by first | exact hpc | exact pair_b16 HO.out.r _ _ | exact pushed_b16 HO.out)).mono ?_; rintro e w2 ⟨rfl, rfl⟩)
    | (go_at_call 70; refine (wideLo_any _ _ (by first | exact hpc | exact pair_b16 HO.out.r _ _ | exact pushed_b16 HO.out)).mono ?_; rintro e w2 ⟨rfl, rfl⟩))
  go_ret
  exact ⟨rfl, 0, hd.symm⟩
set_option maxHeartbeats 2000000 in
theorem cp_byte7 (g : Nat) (sv : Value) (c : Cp) (w : World) (h : CpAt w g sv c) (ho : c.Ok) :
    Calls Tryz.prog 53 #[.pointer (some ⟨g, 0, none⟩), .int .i64 7] w (ByteP (c.byteV 7) w) := by
  have hb := h.blk
  have HO := Lib.hid ho
  have H := Lib.hid h
  have c22 : w.cell? ⟨g, 22, none⟩ = some (.int .u16 c.r.pc) := hb.cell 22
  have HB := Lib.hid hb
  have hk := ho.code
  have hpc := ho.r.pc
  have hv : c.byteV 7 = c.r.pc / 256 := by simp [Cp.byteV]
  rw [hv]
  clear h hb ho hv
  go_enter Tryz.func53, Tryz.ntmps53
  go_wp2_with (first
    | (go_at_call 66; refine (cpu_p _ _ hk).mono ?_; rintro e w' ⟨rfl, rfl⟩)
    | (go_at_call 49; refine (cpu_y _ _ hk).mono ?_; rintro e w' ⟨rfl, rfl⟩)
    | (go_at_call 50; refine (cpu_z _ _ hk).mono ?_; rintro e w' ⟨rfl, rfl⟩)
    | (go_at_call 88; refine (cp_pushed g sv c _ H.out HO.out).mono ?_; rintro e w' ⟨rfl, hd⟩)
    | (go_at_call 44; refine (pair_any c.r 46 (c.tail sv) g _ _ _ HB.out HO.out.r).mono ?_; rintro e w' ⟨rfl, hd⟩)
    | (go_at_call 77; refine (byte_any c.r 46 (c.tail sv) g _ _ _ HB.out HO.out.r).mono ?_; rintro e w' ⟨rfl, hd⟩)
    | (go_at_call 76; refine (wideHi_any _ _ (by first | exact hpc | exact pair_b16 HO.out.r _ _ | exact pushed_b16 HO.out)).mono ?_; rintro e w2 ⟨rfl, rfl⟩)
    | (go_at_call 70; refine (wideLo_any _ _ (by first | exact hpc | exact pair_b16 HO.out.r _ _ | exact pushed_b16 HO.out)).mono ?_; rintro e w2 ⟨rfl, rfl⟩))
  go_ret
  exact ⟨rfl, 0, rfl⟩
set_option maxHeartbeats 2000000 in
theorem cp_byte8 (g : Nat) (sv : Value) (c : Cp) (w : World) (h : CpAt w g sv c) (ho : c.Ok) :
    Calls Tryz.prog 53 #[.pointer (some ⟨g, 0, none⟩), .int .i64 8] w (ByteP (c.byteV 8) w) := by
  have hb := h.blk
  have HO := Lib.hid ho
  have H := Lib.hid h
  have c22 : w.cell? ⟨g, 22, none⟩ = some (.int .u16 c.r.pc) := hb.cell 22
  have HB := Lib.hid hb
  have hk := ho.code
  have hpc := ho.r.pc
  have hv : c.byteV 8 = c.r.pc % 256 := by simp [Cp.byteV]
  rw [hv]
  clear h hb ho hv
  go_enter Tryz.func53, Tryz.ntmps53
  go_wp2_with (first
    | (go_at_call 66; refine (cpu_p _ _ hk).mono ?_; rintro e w' ⟨rfl, rfl⟩)
    | (go_at_call 49; refine (cpu_y _ _ hk).mono ?_; rintro e w' ⟨rfl, rfl⟩)
    | (go_at_call 50; refine (cpu_z _ _ hk).mono ?_; rintro e w' ⟨rfl, rfl⟩)
    | (go_at_call 88; refine (cp_pushed g sv c _ H.out HO.out).mono ?_; rintro e w' ⟨rfl, hd⟩)
    | (go_at_call 44; refine (pair_any c.r 46 (c.tail sv) g _ _ _ HB.out HO.out.r).mono ?_; rintro e w' ⟨rfl, hd⟩)
    | (go_at_call 77; refine (byte_any c.r 46 (c.tail sv) g _ _ _ HB.out HO.out.r).mono ?_; rintro e w' ⟨rfl, hd⟩)
    | (go_at_call 76; refine (wideHi_any _ _ (by first | exact hpc | exact pair_b16 HO.out.r _ _ | exact pushed_b16 HO.out)).mono ?_; rintro e w2 ⟨rfl, rfl⟩)
    | (go_at_call 70; refine (wideLo_any _ _ (by first | exact hpc | exact pair_b16 HO.out.r _ _ | exact pushed_b16 HO.out)).mono ?_; rintro e w2 ⟨rfl, rfl⟩))
  go_ret
  exact ⟨rfl, 0, rfl⟩
set_option maxHeartbeats 2000000 in
theorem cp_byte9 (g : Nat) (sv : Value) (c : Cp) (w : World) (h : CpAt w g sv c) (ho : c.Ok) :
    Calls Tryz.prog 53 #[.pointer (some ⟨g, 0, none⟩), .int .i64 9] w (ByteP (c.byteV 9) w) := by
  have hb := h.blk
  have HO := Lib.hid ho
  have H := Lib.hid h
  have c32 : w.cell? ⟨g, 32, none⟩ = some (.int .u8 c.code) := hb.cell 32
  have HB := Lib.hid hb
  have hk := ho.code
  have hpc := ho.r.pc
  have hv : c.byteV 9 = c.r.pair (c.code / 16 % 4) 0 / 256 := by simp [Cp.byteV]
  rw [hv]
  clear h hb ho hv
  go_enter Tryz.func53, Tryz.ntmps53
  go_wp2_with (first
    | (go_at_call 66; refine (cpu_p _ _ hk).mono ?_; rintro e w' ⟨rfl, rfl⟩)
    | (go_at_call 49; refine (cpu_y _ _ hk).mono ?_; rintro e w' ⟨rfl, rfl⟩)
    | (go_at_call 50; refine (cpu_z _ _ hk).mono ?_; rintro e w' ⟨rfl, rfl⟩)
    | (go_at_call 88; refine (cp_pushed g sv c _ H.out HO.out).mono ?_; rintro e w' ⟨rfl, hd⟩)
    | (go_at_call 44; refine (pair_any c.r 46 (c.tail sv) g _ _ _ HB.out HO.out.r).mono ?_; rintro e w' ⟨rfl, hd⟩)
    | (go_at_call 77; refine (byte_any c.r 46 (c.tail sv) g _ _ _ HB.out HO.out.r).mono ?_; rintro e w' ⟨rfl, hd⟩)
    | (go_at_call 76; refine (wideHi_any _ _ (by first | exact hpc | exact pair_b16 HO.out.r _ _ | exact pushed_b16 HO.out)).mono ?_; rintro e w2 ⟨rfl, rfl⟩)
    | (go_at_call 70; refine (wideLo_any _ _ (by first | exact hpc | exact pair_b16 HO.out.r _ _ | exact pushed_b16 HO.out)).mono ?_; rintro e w2 ⟨rfl, rfl⟩))
  go_ret
  exact ⟨rfl, hd⟩
set_option maxHeartbeats 2000000 in
theorem cp_byte10 (g : Nat) (sv : Value) (c : Cp) (w : World) (h : CpAt w g sv c) (ho : c.Ok) :
    Calls Tryz.prog 53 #[.pointer (some ⟨g, 0, none⟩), .int .i64 10] w (ByteP (c.byteV 10) w) := by
  have hb := h.blk
  have HO := Lib.hid ho
  have H := Lib.hid h
  have c32 : w.cell? ⟨g, 32, none⟩ = some (.int .u8 c.code) := hb.cell 32
  have HB := Lib.hid hb
  have hk := ho.code
  have hpc := ho.r.pc
  have hv : c.byteV 10 = c.r.pair (c.code / 16 % 4) 0 % 256 := by simp [Cp.byteV]
  rw [hv]
  clear h hb ho hv
  go_enter Tryz.func53, Tryz.ntmps53
  go_wp2_with (first
    | (go_at_call 66; refine (cpu_p _ _ hk).mono ?_; rintro e w' ⟨rfl, rfl⟩)
    | (go_at_call 49; refine (cpu_y _ _ hk).mono ?_; rintro e w' ⟨rfl, rfl⟩)
    | (go_at_call 50; refine (cpu_z _ _ hk).mono ?_; rintro e w' ⟨rfl, rfl⟩)
    | (go_at_call 88; refine (cp_pushed g sv c _ H.out HO.out).mono ?_; rintro e w' ⟨rfl, hd⟩)
    | (go_at_call 44; refine (pair_any c.r 46 (c.tail sv) g _ _ _ HB.out HO.out.r).mono ?_; rintro e w' ⟨rfl, hd⟩)
    | (go_at_call 77; refine (byte_any c.r 46 (c.tail sv) g _ _ _ HB.out HO.out.r).mono ?_; rintro e w' ⟨rfl, hd⟩)
    | (go_at_call 76; refine (wideHi_any _ _ (by first | exact hpc | exact pair_b16 HO.out.r _ _ | exact pushed_b16 HO.out)).mono ?_; rintro e w2 ⟨rfl, rfl⟩)
    | (go_at_call 70; refine (wideLo_any _ _ (by first | exact hpc | exact pair_b16 HO.out.r _ _ | exact pushed_b16 HO.out)).mono ?_; rintro e w2 ⟨rfl, rfl⟩))
  go_ret
  exact ⟨rfl, hd⟩
set_option maxHeartbeats 2000000 in
theorem cp_byte11 (g : Nat) (sv : Value) (c : Cp) (w : World) (h : CpAt w g sv c) (ho : c.Ok) :
    Calls Tryz.prog 53 #[.pointer (some ⟨g, 0, none⟩), .int .i64 11] w (ByteP (c.byteV 11) w) := by
  have hb := h.blk
  have HO := Lib.hid ho
  have H := Lib.hid h

  have HB := Lib.hid hb
  have hk := ho.code
  have hpc := ho.r.pc
  have hv : c.byteV 11 = c.pushed / 256 := by simp [Cp.byteV]
  rw [hv]
  clear h hb ho hv
  go_enter Tryz.func53, Tryz.ntmps53
  go_wp2_with (first
    | (go_at_call 66; refine (cpu_p _ _ hk).mono ?_; rintro e w' ⟨rfl, rfl⟩)
    | (go_at_call 49; refine (cpu_y _ _ hk).mono ?_; rintro e w' ⟨rfl, rfl⟩)
    | (go_at_call 50; refine (cpu_z _ _ hk).mono ?_; rintro e w' ⟨rfl, rfl⟩)
    | (go_at_call 88; refine (cp_pushed g sv c _ H.out HO.out).mono ?_; rintro e w' ⟨rfl, hd⟩)
    | (go_at_call 44; refine (pair_any c.r 46 (c.tail sv) g _ _ _ HB.out HO.out.r).mono ?_; rintro e w' ⟨rfl, hd⟩)
    | (go_at_call 77; refine (byte_any c.r 46 (c.tail sv) g _ _ _ HB.out HO.out.r).mono ?_; rintro e w' ⟨rfl, hd⟩)
    | (go_at_call 76; refine (wideHi_any _ _ (by first | exact hpc | exact pair_b16 HO.out.r _ _ | exact pushed_b16 HO.out)).mono ?_; rintro e w2 ⟨rfl, rfl⟩)
    | (go_at_call 70; refine (wideLo_any _ _ (by first | exact hpc | exact pair_b16 HO.out.r _ _ | exact pushed_b16 HO.out)).mono ?_; rintro e w2 ⟨rfl, rfl⟩))
  go_ret
  exact ⟨rfl, hd⟩
set_option maxHeartbeats 2000000 in
theorem cp_byte12 (g : Nat) (sv : Value) (c : Cp) (w : World) (h : CpAt w g sv c) (ho : c.Ok) :
    Calls Tryz.prog 53 #[.pointer (some ⟨g, 0, none⟩), .int .i64 12] w (ByteP (c.byteV 12) w) := by
  have hb := h.blk
  have HO := Lib.hid ho
  have H := Lib.hid h

  have HB := Lib.hid hb
  have hk := ho.code
  have hpc := ho.r.pc
  have hv : c.byteV 12 = c.pushed % 256 := by simp [Cp.byteV]
  rw [hv]
  clear h hb ho hv
  go_enter Tryz.func53, Tryz.ntmps53
  go_wp2_with (first
    | (go_at_call 66; refine (cpu_p _ _ hk).mono ?_; rintro e w' ⟨rfl, rfl⟩)
    | (go_at_call 49; refine (cpu_y _ _ hk).mono ?_; rintro e w' ⟨rfl, rfl⟩)
    | (go_at_call 50; refine (cpu_z _ _ hk).mono ?_; rintro e w' ⟨rfl, rfl⟩)
    | (go_at_call 88; refine (cp_pushed g sv c _ H.out HO.out).mono ?_; rintro e w' ⟨rfl, hd⟩)
    | (go_at_call 44; refine (pair_any c.r 46 (c.tail sv) g _ _ _ HB.out HO.out.r).mono ?_; rintro e w' ⟨rfl, hd⟩)
    | (go_at_call 77; refine (byte_any c.r 46 (c.tail sv) g _ _ _ HB.out HO.out.r).mono ?_; rintro e w' ⟨rfl, hd⟩)
    | (go_at_call 76; refine (wideHi_any _ _ (by first | exact hpc | exact pair_b16 HO.out.r _ _ | exact pushed_b16 HO.out)).mono ?_; rintro e w2 ⟨rfl, rfl⟩)
    | (go_at_call 70; refine (wideLo_any _ _ (by first | exact hpc | exact pair_b16 HO.out.r _ _ | exact pushed_b16 HO.out)).mono ?_; rintro e w2 ⟨rfl, rfl⟩))
  go_ret
  exact ⟨rfl, hd⟩
set_option maxHeartbeats 2000000 in
theorem cp_byte13 (g : Nat) (sv : Value) (c : Cp) (w : World) (h : CpAt w g sv c) (ho : c.Ok) :
    Calls Tryz.prog 53 #[.pointer (some ⟨g, 0, none⟩), .int .i64 13] w (ByteP (c.byteV 13) w) := by
  have hb := h.blk
  have HO := Lib.hid ho
  have H := Lib.hid h
  have c32 : w.cell? ⟨g, 32, none⟩ = some (.int .u8 c.code) := hb.cell 32
  have HB := Lib.hid hb
  have hk := ho.code
  have hpc := ho.r.pc
  have hv : c.byteV 13 = c.r.byte (c.code / 8 % 8) 0 := by simp [Cp.byteV]
  rw [hv]
  clear h hb ho hv
  go_enter Tryz.func53, Tryz.ntmps53
  go_wp2_with (first
    | (go_at_call 66; refine (cpu_p _ _ hk).mono ?_; rintro e w' ⟨rfl, rfl⟩)
    | (go_at_call 49; refine (cpu_y _ _ hk).mono ?_; rintro e w' ⟨rfl, rfl⟩)
    | (go_at_call 50; refine (cpu_z _ _ hk).mono ?_; rintro e w' ⟨rfl, rfl⟩)
    | (go_at_call 88; refine (cp_pushed g sv c _ H.out HO.out).mono ?_; rintro e w' ⟨rfl, hd⟩)
    | (go_at_call 44; refine (pair_any c.r 46 (c.tail sv) g _ _ _ HB.out HO.out.r).mono ?_; rintro e w' ⟨rfl, hd⟩)
    | (go_at_call 77; refine (byte_any c.r 46 (c.tail sv) g _ _ _ HB.out HO.out.r).mono ?_; rintro e w' ⟨rfl, hd⟩)
    | (go_at_call 76; refine (wideHi_any _ _ (by first | exact hpc | exact pair_b16 HO.out.r _ _ | exact pushed_b16 HO.out)).mono ?_; rintro e w2 ⟨rfl, rfl⟩)
    | (go_at_call 70; refine (wideLo_any _ _ (by first | exact hpc | exact pair_b16 HO.out.r _ _ | exact pushed_b16 HO.out)).mono ?_; rintro e w2 ⟨rfl, rfl⟩))
  go_ret
  exact ⟨rfl, 0, hd.symm⟩
theorem cp_byte (g : Nat) (sv : Value) (c : Cp) (k : Int) (w : World) (h : CpAt w g sv c) (ho : c.Ok) (hk : k = 0 ∨ k = 1 ∨ k = 2 ∨ k = 3 ∨ k = 4 ∨ k = 6 ∨ k = 7 ∨ k = 8 ∨ k = 9 ∨ k = 10 ∨ k = 11 ∨ k = 12 ∨ k = 13) :
    Calls Tryz.prog 53 #[.pointer (some ⟨g, 0, none⟩), .int .i64 k] w (ByteP (c.byteV k) w) := by
  rcases hk with rfl | rfl | rfl | rfl | rfl | rfl | rfl | rfl | rfl | rfl | rfl | rfl | rfl
  · exact cp_byte0 g sv c w h ho
  · exact cp_byte1 g sv c w h ho
  · exact cp_byte2 g sv c w h ho
  · exact cp_byte3 g sv c w h ho
  · exact cp_byte4 g sv c w h ho
  · exact cp_byte6 g sv c w h ho
  · exact cp_byte7 g sv c w h ho
  · exact cp_byte8 g sv c w h ho
  · exact cp_byte9 g sv c w h ho
  · exact cp_byte10 g sv c w h ho
  · exact cp_byte11 g sv c w h ho
  · exact cp_byte12 g sv c w h ho
  · exact cp_byte13 g sv c w h ho
end Go.Proofs.YtbhpmnhlmeglcaaGreat
namespace Go.Proofs.YtbhpmnhlmeglcaaGreat
set_option linter.unusedSimpArgs false
set_option linter.unusedVariables false
open Go.RowKit
/-- is a bit of F set? -/
def hasV (f m : Int) : Bool := bits .and .u8 f m != 0
theorem has_any (f m : Int) (w : World) : Calls Tryz.prog 51 #[.int .u8 f, .int .u8 m] w fun e w' => e = .returned (.bool (hasV f m)) ∧ w' = w := by
  unfold hasV
  go_enter Tryz.func51, Tryz.ntmps51
  go_wp2
  go_ret
  exact ⟨rfl, rfl⟩
def condV (f k : Int) : Bool := if k = 0 then !hasV f 64 else if k = 1 then hasV f 64 else if k = 2 then !hasV f 1 else if k = 3 then hasV f 1 else if k = 4 then !hasV f 4 else if k = 5 then hasV f 4 else if k = 6 then !hasV f 128 else if k = 7 then hasV f 128 else false
set_option maxHeartbeats 2000000 in
theorem cond_any (f k : Int) (w : World) (hk : 0 ≤ k ∧ k ≤ 7) : Calls Tryz.prog 48 #[.int .u8 f, .int .i64 k] w fun e w' => e = .returned (.bool (condV f k)) ∧ w' = w := by
  have hk2 : k = 0 ∨ k = 1 ∨ k = 2 ∨ k = 3 ∨ k = 4 ∨ k = 5 ∨ k = 6 ∨ k = 7 := by omega
  obtain ⟨R, hR⟩ : ∃ R, R = condV f k := ⟨_, rfl⟩
  rw [← hR]
  unfold condV at hR
  have HH := Lib.hid (fun m w => has_any f m w)
  rcases hk2 with rfl | rfl | rfl | rfl | rfl | rfl | rfl | rfl
  all_goals
    simp at hR
    clear hk
    go_enter Tryz.func48, Tryz.ntmps48
    go_wp2_with (first
      | (go_at_call 51; refine (HH.out _ _).mono ?_; rintro e w' ⟨rfl, rfl⟩))
    go_ret
    exact ⟨by rw [hR]; simp, rfl⟩
theorem hd_blk {w w' : World} {g : Nat} {t : TypeId} {cs : List Value} (hd : Drew w w') (h : Blk w g t cs) : Blk w' g t cs := by
  obtain ⟨m, rfl⟩ := hd
  exact h.drewN m
def Cp.metV (c : Cp) (k : Int) : Bool :=
  if k = 0 then condV c.r.f (c.code / 8 % 8) else if k = 1 then condV c.r.f (c.code / 8 % 8 - 4) else if k = 2 then c.r.b != 0 else
  if c.code % 8 = 0 then c.r.pair 0 0 != 0 else if c.code % 8 = 1 then c.r.pair 0 0 != 0 && !hasV c.r.f 64 else c.r.b != 0
def MetP (v : Bool) (w : World) (e : Ending) (w' : World) : Prop := e = .returned (.bool v) ∧ Drew w w'
set_option maxHeartbeats 2000000 in
theorem cp_met0 (g : Nat) (sv : Value) (c : Cp) (w : World) (h : CpAt w g sv c) (ho : c.Ok) :
    Calls Tryz.prog 41 #[.pointer (some ⟨g, 0, none⟩), .int .i64 0] w (MetP (c.metV 0) w) := by
  have hb := h.blk
  have HO := Lib.hid ho
  have c1 : w.cell? ⟨g, 1, none⟩ = some (.int .u8 c.r.f) := hb.cell 1
  have c32 : w.cell? ⟨g, 32, none⟩ = some (.int .u8 c.code) := hb.cell 32
  have HB := Lib.hid hb
  have hk := ho.code
  have hv : c.metV 0 = condV c.r.f (c.code / 8 % 8) := by simp [Cp.metV]
  have hy : 0 ≤ c.code / 8 % 8 ∧ c.code / 8 % 8 ≤ 7 := by omega
  rw [hv]
  clear hv
  clear h hb ho
  go_enter Tryz.func41, Tryz.ntmps41
  go_wp2_with fail
  go_quiet (first
      | (go_at_call 49; exact Calls.quiet_of_same (same_swap (cpu_y _ _ hk)))
      | (go_at_call 48; exact Calls.quiet_of_same (cond_any _ _ _ hy)))
  go_wp2_with fail
  go_ret
  exact ⟨rfl, _, rfl⟩
set_option maxHeartbeats 2000000 in
theorem cp_met1 (g : Nat) (sv : Value) (c : Cp) (w : World) (h : CpAt w g sv c) (ho : c.Ok) (h4 : 4 ≤ c.code / 8 % 8) :
    Calls Tryz.prog 41 #[.pointer (some ⟨g, 0, none⟩), .int .i64 1] w (MetP (c.metV 1) w) := by
  have hb := h.blk
  have HO := Lib.hid ho
  have c1 : w.cell? ⟨g, 1, none⟩ = some (.int .u8 c.r.f) := hb.cell 1
  have c32 : w.cell? ⟨g, 32, none⟩ = some (.int .u8 c.code) := hb.cell 32
  have HB := Lib.hid hb
  have hk := ho.code
  have hv : c.metV 1 = condV c.r.f (c.code / 8 % 8 - 4) := by simp [Cp.metV]
  have hy : 0 ≤ c.code / 8 % 8 - 4 ∧ c.code / 8 % 8 - 4 ≤ 7 := by omega
  have w1 : IntKind.i64.wrap (c.code / 8 % 8 - 4) = c.code / 8 % 8 - 4 := by rw [IntKind.wrap_i64]; omega
  rw [hv]
  clear hv
  clear h hb ho
  go_enter Tryz.func41, Tryz.ntmps41
  go_wp2_with fail
  go_quiet (first
      | (go_at_call 49; exact Calls.quiet_of_same (same_swap (cpu_y _ _ hk)))
      | (go_at_call 48; exact Calls.quiet_of_same (cond_any _ _ _ hy)))
  go_wp2_with fail
  go_ret
  exact ⟨rfl, _, rfl⟩
set_option maxHeartbeats 2000000 in
theorem cp_met2 (g : Nat) (sv : Value) (c : Cp) (w : World) (h : CpAt w g sv c) (ho : c.Ok) :
    Calls Tryz.prog 41 #[.pointer (some ⟨g, 0, none⟩), .int .i64 2] w (MetP (c.metV 2) w) := by
  have hb := h.blk
  have HO := Lib.hid ho
  have c2 : w.cell? ⟨g, 2, none⟩ = some (.int .u8 c.r.b) := hb.cell 2
  have HB := Lib.hid hb
  have hk := ho.code
  have hv : c.metV 2 = (c.r.b != 0) := by simp [Cp.metV]
  rw [hv]
  clear hv
  clear h hb ho
  go_enter Tryz.func41, Tryz.ntmps41
  go_wp2
  go_ret
  exact ⟨rfl, 0, rfl⟩
set_option maxHeartbeats 2000000 in
theorem cp_met30 (g : Nat) (sv : Value) (c : Cp) (w : World) (h : CpAt w g sv c) (ho : c.Ok) (hz : c.code % 8 = 0) :
    Calls Tryz.prog 41 #[.pointer (some ⟨g, 0, none⟩), .int .i64 3] w (MetP (c.metV 3) w) := by
  have hb := h.blk
  have HO := Lib.hid ho
  have c32 : w.cell? ⟨g, 32, none⟩ = some (.int .u8 c.code) := hb.cell 32
  have HB := Lib.hid hb
  have hk := ho.code
  have hv : c.metV 3 = (c.r.pair 0 0 != 0) := by simp [Cp.metV, hz]
  have hz2 : (c.code % 8 == 0) = true := by rw [hz]; rfl
  rw [hv]
  clear hv hz
  clear h hb ho
  go_enter Tryz.func41, Tryz.ntmps41
  go_wp2_with (first
    | (go_at_call 50; refine (cpu_z _ _ hk).mono ?_; rintro e w' ⟨rfl, rfl⟩)
    | (go_at_call 51; refine (has_any _ _ _).mono ?_; rintro e w2 ⟨rfl, rfl⟩)
    | (go_at_call 44; refine (pair_any c.r 46 (c.tail sv) g 0 0 _ HB.out HO.out.r).mono ?_; rintro e w9 ⟨rfl, hd⟩; have hb9 : Blk w9 g 46 (c.cells sv) := (hd_blk hd HB.out); have c19 : w9.cell? ⟨g, 1, none⟩ = some (.int .u8 c.r.f) := hb9.cell 1))
  all_goals
    go_ret
    exact ⟨rfl, hd⟩
set_option maxHeartbeats 2000000 in
theorem cp_met31 (g : Nat) (sv : Value) (c : Cp) (w : World) (h : CpAt w g sv c) (ho : c.Ok) (hz : c.code % 8 = 1) :
    Calls Tryz.prog 41 #[.pointer (some ⟨g, 0, none⟩), .int .i64 3] w (MetP (c.metV 3) w) := by
  have hb := h.blk
  have HO := Lib.hid ho
  have c32 : w.cell? ⟨g, 32, none⟩ = some (.int .u8 c.code) := hb.cell 32
  have HB := Lib.hid hb
  have hk := ho.code
  have hv : c.metV 3 = (c.r.pair 0 0 != 0 && !hasV c.r.f 64) := by simp [Cp.metV, hz]
  have hz2 : (c.code % 8 == 1) = true := by rw [hz]; rfl
  have hz3 : (c.code % 8 == 0) = false := by rw [hz]; rfl
  obtain ⟨V, hV⟩ : ∃ V, V = (c.r.pair 0 0 != 0 && !hasV c.r.f 64) := ⟨_, rfl⟩
  have HVV := Lib.hid hV
  rw [hv, ← hV]
  clear hv hz hV
  clear h hb ho
  go_enter Tryz.func41, Tryz.ntmps41
  go_wp2_with (first
    | (go_at_call 50; refine (cpu_z _ _ hk).mono ?_; rintro e w' ⟨rfl, rfl⟩)
    | (go_at_call 51; refine (has_any _ _ _).mono ?_; rintro e w2 ⟨rfl, rfl⟩)
    | (go_at_call 44; refine (pair_any c.r 46 (c.tail sv) g 0 0 _ HB.out HO.out.r).mono ?_; rintro e w9 ⟨rfl, hd⟩; have hb9 : Blk w9 g 46 (c.cells sv) := (hd_blk hd HB.out); have c19 : w9.cell? ⟨g, 1, none⟩ = some (.int .u8 c.r.f) := hb9.cell 1))
  all_goals
    go_ret
    exact ⟨by rw [HVV.out]; simp_all, hd⟩
set_option maxHeartbeats 2000000 in
theorem cp_met32 (g : Nat) (sv : Value) (c : Cp) (w : World) (h : CpAt w g sv c) (ho : c.Ok) (hz : c.code % 8 ≠ 0 ∧ c.code % 8 ≠ 1) :
    Calls Tryz.prog 41 #[.pointer (some ⟨g, 0, none⟩), .int .i64 3] w (MetP (c.metV 3) w) := by
  have hb := h.blk
  have HO := Lib.hid ho
  have c32 : w.cell? ⟨g, 32, none⟩ = some (.int .u8 c.code) := hb.cell 32
  have c2 : w.cell? ⟨g, 2, none⟩ = some (.int .u8 c.r.b) := hb.cell 2
  have HB := Lib.hid hb
  have hk := ho.code
  have hv : c.metV 3 = (c.r.b != 0) := by simp [Cp.metV, hz.1, hz.2]
  have hz2 : (c.code % 8 == 1) = false := by simp [hz.2]
  have hz3 : (c.code % 8 == 0) = false := by simp [hz.1]
  rw [hv]
  clear hv hz
  clear h hb ho
  go_enter Tryz.func41, Tryz.ntmps41
  go_wp2_with (first
    | (go_at_call 50; refine (cpu_z _ _ hk).mono ?_; rintro e w' ⟨rfl, rfl⟩)
    | (go_at_call 51; refine (has_any _ _ _).mono ?_; rintro e w2 ⟨rfl, rfl⟩)
    | (go_at_call 44; refine (pair_any c.r 46 (c.tail sv) g 0 0 _ HB.out HO.out.r).mono ?_; rintro e w9 ⟨rfl, hd⟩; have hb9 : Blk w9 g 46 (c.cells sv) := (hd_blk hd HB.out); have c19 : w9.cell? ⟨g, 1, none⟩ = some (.int .u8 c.r.f) := hb9.cell 1))
  go_ret
  exact ⟨rfl, 0, rfl⟩
theorem cp_met (g : Nat) (sv : Value) (c : Cp) (k : Int) (w : World) (h : CpAt w g sv c) (ho : c.Ok) (hk : k = 0 ∨ (k = 1 ∧ 4 ≤ c.code / 8 % 8) ∨ k = 2 ∨ k = 3) :
    Calls Tryz.prog 41 #[.pointer (some ⟨g, 0, none⟩), .int .i64 k] w (MetP (c.metV k) w) := by
  rcases hk with rfl | ⟨rfl, h4⟩ | rfl | rfl
  · exact cp_met0 g sv c w h ho
  · exact cp_met1 g sv c w h ho h4
  · exact cp_met2 g sv c w h ho
  · by_cases h0 : c.code % 8 = 0
    · exact cp_met30 g sv c w h ho h0
    · by_cases h1 : c.code % 8 = 1
      · exact cp_met31 g sv c w h ho h1
      · exact cp_met32 g sv c w h ho ⟨h0, h1⟩
end Go.Proofs.YtbhpmnhlmeglcaaGreat
namespace Go.Proofs.YtbhpmnhlmeglcaaGreat
set_option linter.unusedSimpArgs false
set_option linter.unusedVariables false
open Go.RowKit
theorem sv_lt {w : World} {g : Nat} {sv : Value} {c : Cp} (h : CpAt w g sv c) {k : Nat} (hk : sv.ownBlock = some k) : k < w.heap.size := (h.own.lt k hk).2
theorem CpAt.alloc {w : World} {g : Nat} {sv : Value} {c : Cp} (h : CpAt w g sv c) (o : Obj) : CpAt (w.alloc o) g sv c := ⟨h.blk.alloc o, h.own.alloc o⟩
theorem new_ne {w : World} {g : Nat} {sv : Value} {c : Cp} (h : CpAt w g sv c) : ¬ CpP g sv w.heap.size := fun hp => by
  rcases hp with hp | hp
  · have := h.blk.lt; omega
  · have := sv_lt h hp; omega
theorem CpTo.alloc {w w' : World} {g : Nat} {sv : Value} {c : Cp} {o : Obj} (h : CpTo g (w.alloc o) sv c w') : CpTo g w sv c w' := by
  obtain ⟨sv', h1, h2, h3⟩ := h
  refine ⟨sv', h1, ?_, ?_⟩
  · rcases h2 with h2 | h2
    · exact .inl h2
    · exact .inr fun b hb => by have := h2 b hb; simp at this; omega
  · have : Ch (CpP g sv) w (w.alloc o) := Below.ch ((Below.refl _ w).alloc (Nat.le_refl _) _)
    exact this.trans h3 (fun _ _ h => h) fun _ _ h => h
theorem CpTo.step {g : Nat} {w w1 w2 : World} {sv sv1 : Value} {c2 : Cp} (h2 : SvTo w sv sv1) (h3 : Ch (CpP g sv) w w1) (k : CpTo g w1 sv1 c2 w2) : CpTo g w sv c2 w2 := by
  obtain ⟨sv2, k1, k2, k3⟩ := k
  exact ⟨sv2, k1, h2.trans k2 h3.size, h3.trans k3 (fun i _ hp => hp) fun i hi hp => h2.place hi hp⟩
theorem Only.cpp {g : Nat} {sv : Value} {w w' : World} (h : Only g w w') : Ch (CpP g sv) w w' := h.ch.mono fun i _ hi => .inl hi
theorem Drew.only {g : Nat} {w w' : World} (h : Drew w w') : Only g w w' := by
  obtain ⟨n, rfl⟩ := h
  exact ⟨rfl, rfl, rfl, rfl, fun _ _ => rfl⟩
theorem CpAt.turn {w w' : World} {g : Nat} {sv : Value} {c c' : Cp} (h : CpAt w g sv c) (ho : Only g w w') (hb : Blk w' g 46 (c'.cells sv)) (hs : c'.steps = c.steps) : CpAt w' g sv c' := by
  refine ⟨hb, ?_⟩
  rw [hs]
  exact own_keepC h.own fun k hk => ho.block k fun e => sv_ne h (by rw [hk, e])
def Cp.told (c : Cp) (w : Int) (p : Bool) : Cp := { c with what := w, port := p }
def Cp.outs (c : Cp) (v : Int) : Cp := { c with out := v }
def Cp.cycle (c : Cp) (s : Stp) : Cp :=
  let d := (c.placeC s.2.1).told s.2.2.1 (s.1 == 3)
  let a := c.placeV s.2.1
  if s.1 = 0 then d.start 4 a s.2.2.2 else if s.1 = 1 then d.start 1 a s.2.2.2 else if s.1 = 2 then (d.outs (d.byteV s.2.2.1)).start 2 a s.2.2.2 else if s.1 = 4 then (d.outs (d.byteV s.2.2.1)).start 3 a s.2.2.2 else d.start 3 a s.2.2.2
theorem b16_mod (x : Int) : B16 (x % 65536) := ⟨by omega, by omega⟩
theorem ok_place {c : Cp} (h : c.Ok) (p : Int) : (c.placeC p).Ok := by
  unfold Cp.placeC
  split
  · exact ⟨{ h.r with pc := b16_mod _ }, h.code, h.lo, h.hi, h.ea, h.out, h.addr, h.at0, h.at1, h.len⟩
  · split
    · exact ⟨{ h.r with sp := b16_mod _ }, h.code, h.lo, h.hi, h.ea, h.out, h.addr, h.at0, h.at1, h.len⟩
    · split
      · exact ⟨{ h.r with sp := b16_mod _ }, h.code, h.lo, h.hi, h.ea, h.out, h.addr, h.at0, h.at1, h.len⟩
      · exact h
theorem ok_told {c : Cp} (h : c.Ok) (w : Int) (p : Bool) : (c.told w p).Ok := ⟨h.r, h.code, h.lo, h.hi, h.ea, h.out, h.addr, h.at0, h.at1, h.len⟩
def byteK (k : Int) : Prop := k = 0 ∨ k = 1 ∨ k = 2 ∨ k = 3 ∨ k = 4 ∨ k = 6 ∨ k = 7 ∨ k = 8 ∨ k = 9 ∨ k = 10 ∨ k = 11 ∨ k = 12 ∨ k = 13
theorem CpAt.to {w w' : World} {g : Nat} {sv : Value} {c : Cp} (h : CpTo g w sv c w') : ∃ sv', CpAt w' g sv' c ∧ SvTo w sv sv' ∧ Ch (CpP g sv) w w' := h
set_option maxRecDepth 100000 in
set_option maxHeartbeats 4000000 in
theorem cp_cycle (g : Nat) (sv : Value) (c : Cp) (kd at_ wh n : Int) (w : World) (h : CpAt w g sv c) (ho : c.Ok) (ha : 0 ≤ at_ ∧ at_ ≤ 9) (hk : 0 ≤ kd ∧ kd ≤ 4) (hb : kd = 2 ∨ kd = 4 → byteK wh) :
    Calls Tryz.prog 42 #[.pointer (some ⟨g, 0, none⟩), .agg #[.int .i64 kd, .int .i64 at_, .int .i64 wh, .int .i64 n]] w (Done (.tuple #[]) g w sv (c.cycle (kd, at_, wh, n))) := by
  have H := Lib.hid h; have HO := Lib.hid ho; have HA := Lib.hid ha; have HBK := Lib.hid hb
  obtain ⟨d, hd⟩ : ∃ d, d = (c.placeC at_).told wh (kd == 3) := ⟨_, rfl⟩
  obtain ⟨a, hda⟩ : ∃ a, a = c.placeV at_ := ⟨_, rfl⟩
  have HE : Hid (c.cycle (kd, at_, wh, n) = if kd = 0 then d.start 4 a n else if kd = 1 then d.start 1 a n else if kd = 2 then (d.outs (d.byteV wh)).start 2 a n else if kd = 4 then (d.outs (d.byteV wh)).start 3 a n else d.start 3 a n) := by show _ = _; rw [hd, hda]; rfl
  have HD := Lib.hid hd; have HDA := Lib.hid hda
  have HOD : Hid d.Ok := by show d.Ok; rw [hd]; exact ok_told (ok_place ho _) _ _
  obtain ⟨R, hR⟩ : ∃ R, R = c.cycle (kd, at_, wh, n) := ⟨_, rfl⟩
  rw [← hR] at HE ⊢
  obtain ⟨w0, hw0⟩ : ∃ w0, w0 = w.alloc (.cells #[.int .i64 kd, .int .i64 at_, .int .i64 wh, .int .i64 n] 65) := ⟨_, rfl⟩
  have HW0 := Lib.hid hw0
  have HB0 : Hid (Blk w0 w.heap.size 65 [.int .i64 kd, .int .i64 at_, .int .i64 wh, .int .i64 n]) := by show Blk _ _ _ _; rw [hw0]; exact Blk.new w _ [_, _, _, _]
  have HA0 : Hid (CpAt w0 g sv c) := by show CpAt _ _ _ _; rw [hw0]; exact h.alloc _
  have HNP := Lib.hid (new_ne h)
  have cc1 : (w.alloc (.cells #[.int .i64 kd, .int .i64 at_, .int .i64 wh, .int .i64 n] 65)).cell? ⟨w.heap.size, 1, none⟩ = some (.int .i64 at_) := by rw [← hw0]; exact HB0.out.cell 1
  clear h ho ha hb hd hda hR hw0
  go_enter Tryz.func42, Tryz.ntmps42
  go_upto_region 2 with (first
    | (go_at_call 52; rw [← HW0.out]; refine (cp_place g sv c at_ _ HA0.out HO.out HA.out).mono ?_; rintro e w1 ⟨rfl, hto⟩; have HTO := Lib.hid hto; clear hto))
  obtain ⟨sv1, hh1, hs1, hc1⟩ := HTO.out
  have HB1 := Lib.hid (hc1.blk HB0.out HNP.out)
  have H1 := Lib.hid hh1; have HS1 := Lib.hid hs1
  have HC1 := Lib.hid hc1
  clear cc1 hs1 hc1
  have b0 : w1.cell? ⟨w.heap.size, 0, none⟩ = some (.int .i64 kd) := HB1.out.cell 0
  have b2 : w1.cell? ⟨w.heap.size, 2, none⟩ = some (.int .i64 wh) := HB1.out.cell 2
  obtain ⟨wh0, hwh0⟩ : ∃ v, w1.cell? ⟨g, 44, none⟩ = some v := ⟨_, hh1.blk.cell 44⟩
  obtain ⟨po0, hpo0⟩ : ∃ v, w1.cell? ⟨g, 43, none⟩ = some v := ⟨_, hh1.blk.cell 43⟩
  have z44 := hh1.blk.frozen 44
  have z43 := hh1.blk.frozen 43
  clear hh1
  go_region
  generalize hw2 : World.drew _ = w2
  have HO12 : Hid (Only g w1 w2) := by show Only _ _ _; rw [← hw2]; exact ((Only.set g 44 w1 _).trans (Only.set g 43 _ _)).drew
  have HSP : Hid (d.steps = (c.placeC at_).steps) := by show _ = _; rw [HD.out]; rfl
  have H2 : Hid (CpAt w2 g sv1 d) := by
    show CpAt _ _ _ _
    refine H1.out.turn HO12.out ?_ HSP.out
    rw [← hw2, HD.out]
    exact ((H1.out.blk.set_ 44 _).set_ 43 _).drew
  have hbg : w.heap.size ≠ g := fun e => HNP.out (.inl e)
  have HB2 : Hid (Blk w2 w.heap.size 65 [.int .i64 kd, .int .i64 at_, .int .i64 wh, .int .i64 n]) := Lib.hid (HO12.out.blk hbg HB1.out)
  clear hw2 b0 b2 hwh0 hpo0 z44 z43
  have b0 : w2.cell? ⟨w.heap.size, 0, none⟩ = some (.int .i64 kd) := HB2.out.cell 0
  have b2 : w2.cell? ⟨w.heap.size, 2, none⟩ = some (.int .i64 wh) := HB2.out.cell 2
  have b3 : w2.cell? ⟨w.heap.size, 3, none⟩ = some (.int .i64 n) := HB2.out.cell 3
  have d39 : w2.cell? ⟨g, 39, none⟩ = some (.int .u8 d.out) := H2.out.blk.cell 39
  have z39 := H2.out.blk.frozen 39
  have HC2 : Hid (Ch (CpP g sv) w0 w2) := Lib.hid (HC1.out.trans (HO12.out.cpp (sv := sv)) (fun _ _ h => h) fun _ _ h => h)
  rw [← HDA.out]
  have hkk : kd = 0 ∨ kd = 1 ∨ kd = 2 ∨ kd = 3 ∨ kd = 4 := by omega
  clear hk
  rcases hkk with rfl | rfl | rfl | rfl | rfl
  all_goals
    simp at HE
    go_wp2_with (first
      | (go_at_call 29; refine (cp_start g sv1 _ _ _ _ _ H3.out).mono ?_; rintro e w5 ⟨rfl, h5⟩; have H5 : Hid (CpTo g w0 sv R w5) := Lib.hid (by rw [HE.out]; exact CpTo.step HS1.out (HC2.out.trans (HO23.out.cpp (sv := sv)) (fun _ _ h => h) fun _ _ h => h) h5); clear h5)
      | (go_at_call 29; refine (cp_start g sv1 d _ _ _ _ H2.out).mono ?_; rintro e w5 ⟨rfl, h5⟩; have H5 : Hid (CpTo g w0 sv R w5) := Lib.hid (by rw [HE.out]; exact CpTo.step HS1.out HC2.out h5); clear h5)
      | (go_at_call 53; refine (cp_byte g sv1 d wh _ H2.out HOD.out (HBK.out (by decide))).mono ?_; rintro e w3 ⟨rfl, hd3⟩
         have HD3 := Lib.hid hd3
         have c39 : w3.cell? ⟨g, 39, none⟩ = some (.int .u8 d.out) := (hd_blk hd3 H2.out.blk).cell 39
         have y39 := (hd_blk hd3 H2.out.blk).frozen 39
         have e3 : w3.cell? ⟨w.heap.size, 3, none⟩ = some (.int .i64 n) := (hd_blk hd3 HB2.out).cell 3
         have HO23 : Hid (Only g w2 (w3.setCell ⟨g, 39, none⟩ (.int .u8 (d.byteV wh)))) := Lib.hid ((Drew.only hd3).trans (Only.set g 39 w3 _))
         have H3 : Hid (CpAt (w3.setCell ⟨g, 39, none⟩ (.int .u8 (d.byteV wh))) g sv1 (d.outs (d.byteV wh))) := Lib.hid (H2.out.turn HO23.out ((hd_blk hd3 H2.out.blk).set_ 39 _) rfl)
         clear hd3))
  all_goals
    have hf := H5.out
    rw [HW0.out] at hf
    exact bodyPost_end (results_none rfl _ _ _) rfl ⟨rfl, hf.alloc⟩
end Go.Proofs.YtbhpmnhlmeglcaaGreat
namespace Go.Proofs.YtbhpmnhlmeglcaaGreat
set_option linter.unusedSimpArgs false
set_option linter.unusedVariables false
open Go.RowKit
theorem own_form {w : World} {base : Nat} {e : TypeId} {size n : Nat} {v : Value} {xs : List Value} (h : w.ownsRow base e size v n xs) : ∃ A c, v = .slice A n c ∧ (A = none → n = 0 ∧ c = 0) ∧ n ≤ c ∧ c ≤ maxLen := by
  rcases h.2 with ⟨rfl, rfl⟩ | ⟨g, cap, cur, rfl, -, -, h1, h2, -⟩
  · exact ⟨none, 0, rfl, fun _ => ⟨rfl, rfl⟩, Nat.le_refl _, Nat.zero_le _⟩
  · exact ⟨_, _, rfl, (fun h => by cases h), h1, h2⟩
/-- the first none of a list -/
theorem own_none {w : World} {base : Nat} {e : TypeId} {size n c : Nat} {A : Option Addr} {xs : List Value} (h : w.ownsRow base e size (.slice A n c) n xs) : w.ownsRow base e size (.slice A 0 c) 0 [] := by
  refine ⟨by simp, ?_⟩
  rcases h.2 with ⟨h1, h2⟩ | ⟨g, cap, cur, h1, h2, h3, h4, h5, h6, h7⟩
  · injection h1 with h1 h2 h3
    subst h1 h3
    exact .inl ⟨rfl, rfl⟩
  · injection h1 with h1 h8 h9
    subst h1 h9
    exact .inr ⟨g, c, cur, rfl, h2, h3, Nat.zero_le _, h5, h6, by simp⟩
def Cp.program (c : Cp) (set ix code : Int) : Cp := { c with code := code, ix := ix, at_ := 0, steps := Mi.programS set ix code, ea := if ix = 0 then c.r.pair 2 0 else c.ea }
def Cp.prog1 (c : Cp) (ix code : Int) : Cp := { c with code := code, ix := ix, at_ := 0 }
theorem ownBlock_zero (A : Option Addr) (n m c : Nat) : (Value.slice A n c).ownBlock = (Value.slice A m c).ownBlock := by cases A <;> rfl
set_option maxRecDepth 100000 in
set_option maxHeartbeats 4000000 in
theorem cp_program (g : Nat) (sv : Value) (c : Cp) (set ix code : Int) (w : World) (h : CpAt w g sv c) (hr : c.r.Ok) (hk : B8 code) :
    Calls Tryz.prog 39 #[.pointer (some ⟨g, 0, none⟩), .int .i64 set, .int .i64 ix, .int .u8 code] w (Done (.tuple #[]) g w sv (c.program set ix code)) := by
  obtain ⟨A, cap, rfl, hA, hle, hm⟩ := own_form h.own
  have hb := h.blk
  have c32 : w.cell? ⟨g, 32, none⟩ = some (.int .u8 c.code) := hb.cell 32
  have c33 : w.cell? ⟨g, 33, none⟩ = some (.int .i64 c.ix) := hb.cell 33
  have c31 : w.cell? ⟨g, 31, none⟩ = some (.int .i64 c.at_) := hb.cell 31
  have c30 : w.cell? ⟨g, 30, none⟩ = some ((.slice A c.steps.length cap)) := hb.cell 30
  have z32 := hb.frozen 32
  have z33 := hb.frozen 33
  have z31 := hb.frozen 31
  have z30 := hb.frozen 30
  have z38 := hb.frozen 38
  have HO1 : Hid (Only g w (((w.setCell ⟨g, 32, none⟩ (.int .u8 code)).setCell ⟨g, 33, none⟩ (.int .i64 ix)).setCell ⟨g, 31, none⟩ (.int .i64 0))) := ((Only.set g 32 w _).trans (Only.set g 33 _ _)).trans (Only.set g 31 _ _)
  have H1 : Hid (CpAt (((w.setCell ⟨g, 32, none⟩ (.int .u8 code)).setCell ⟨g, 33, none⟩ (.int .i64 ix)).setCell ⟨g, 31, none⟩ (.int .i64 0)) g (.slice A c.steps.length cap) (c.prog1 ix code)) := Lib.hid (h.turn HO1.out (((hb.set_ 32 _).set_ 33 _).set_ 31 _) rfl)
  obtain ⟨n, hn⟩ : ∃ n, n = c.steps.length := ⟨_, rfl⟩
  have HL := Lib.hid hn; have HM := Lib.hid hm; have HR := Lib.hid hr; have HK := Lib.hid hk
  rw [← hn] at c30 H1 hle ⊢
  have hmm : n ≤ cap := hle
  clear h hb hn hA hr hk
  go_enter Tryz.func39, Tryz.ntmps39
  go_upto_region 1 with fail
  generalize hw1 : World.setCell (World.setCell (World.setCell w _ _) _ _) _ _ = w1 at H1 HO1 ⊢
  have e30 : w1.cell? ⟨g, 30, none⟩ = some (.slice A n cap) := H1.out.blk.cell 30
  clear hw1 c32 c33 c31 c30 z32 z33 z31 z30 z38
  have hnon := own_none (by have := H1.out.own; rw [show (c.prog1 ix code).steps.length = n from HL.out.symm] at this; exact this)
  have HN := Lib.hid hnon
  clear hnon
  have HNE := Lib.hid (sv_ne H1.out)
  go_upto_region 2 with (first
    | (go_at_call 43
       refine (program_any set ix code 0 0 _ [] w1 HN.out (Nat.zero_le _) (by simp) HK.out.1 HK.out.2).mono ?_
       rintro e w2 ⟨v2, rfl, hst⟩
       obtain ⟨n2, ho2⟩ := hst.own
       rw [List.nil_append] at ho2
       have hn2 : n2 = (Mi.programS set ix code).length := by have := ho2.1; rw [flat_len] at this; omega
       obtain ⟨A2, c2, rfl, -, -, -⟩ := own_form ho2
       have HO2 := Lib.hid ho2
       have HN2 := Lib.hid hn2
       have HG2 := Lib.hid hst.grown
       have HP2 := Lib.hid hst.place
       have hbk : Blk w2 g 46 ((c.prog1 ix code).cells (.slice A n cap)) := H1.out.blk.grown hst.grown (fun e => HNE.out ((ownBlock_zero A n 0 cap).trans e.symm))
       have HBK := Lib.hid hbk
       have f30 : w2.cell? ⟨g, 30, none⟩ = some (.slice A n cap) := hbk.cell 30
       have y30 := hbk.frozen 30
       clear hst ho2 hn2 hbk))
  generalize hw3 : World.setCell w2 _ _ = w3
  have HSV : Hid (SvTo w1 (.slice A n cap) (.slice A2 n2 c2)) := by
    show SvTo _ _ _
    rcases HP2.out with h | h
    · exact .inl (h.trans (ownBlock_zero A 0 n cap))
    · exact .inr h
  have HCH : Hid (Ch (CpP g (.slice A n cap)) w1 w3) := by
    show Ch _ _ _
    rw [← hw3]
    have h1 : Ch (CpP g (.slice A n cap)) w1 w2 := ⟨HG2.out.os, HG2.out.tape, HG2.out.output, HG2.out.size, fun k hk hp => HG2.out.block k hk fun e => hp (.inr ((ownBlock_zero A n 0 cap).trans e.symm))⟩
    exact h1.trans (Only.set g 30 w2 _).cpp (fun _ _ h => h) fun _ _ h => h
  have H3 : Hid (CpAt w3 g (.slice A2 n2 c2) { c.prog1 ix code with steps := Mi.programS set ix code }) := by
    show CpAt _ _ _ _
    refine ⟨by rw [← hw3]; exact HBK.out.set_ 30 _, ?_⟩
    show w3.ownsRow _ _ _ _ (Mi.programS set ix code).length (flat (Mi.programS set ix code))
    rw [← HN2.out, ← hw3]
    refine own_keepC HO2.out fun k hk => (Only.set g 30 w2 _).block k fun e => ?_
    subst e
    rcases HP2.out with h | h
    · exact HNE.out ((ownBlock_zero A n 0 cap).trans (h.symm.trans hk))
    · have := h _ hk
      have := H1.out.blk.lt
      omega
  clear hw3 f30 y30 HBK HG2 HP2 HO2 HN
  have e33 : w3.cell? ⟨g, 33, none⟩ = some (.int .i64 ix) := H3.out.blk.cell 33
  have y33 := H3.out.blk.frozen 33
  have e38 : w3.cell? ⟨g, 38, none⟩ = some (.int .u16 c.ea) := H3.out.blk.cell 38
  have y38 := H3.out.blk.frozen 38
  have HFIN : Hid (∀ w5, CpTo g w3 (.slice A2 n2 c2) (c.program set ix code) w5 → CpTo g w (.slice A n cap) (c.program set ix code) w5) := Lib.hid (fun w5 h5 => CpTo.step (sv1 := .slice A n cap) (.inl rfl) HO1.out.cpp (CpTo.step HSV.out HCH.out h5))
  have HX : Hid (∀ w5, Only g w3 w5 → Blk w5 g 46 ((c.program set ix code).cells (.slice A2 n2 c2)) → CpTo g w3 (.slice A2 n2 c2) (c.program set ix code) w5) := Lib.hid (fun w5 h1 h2 => H3.out.only h1 h2 rfl)
  have hset : (set == 3) = true ∨ (set == 3) = false := by cases (set == 3) <;> simp
  have hixx : ix = 0 ∨ ix ≠ 0 := by omega
  rcases hset with hset | hset <;> rcases hixx with hix | hix
  · have hi2 : (ix == 0) = true := by rw [hix]; rfl
    have he : (c.program set ix code).ea = c.r.pair 2 0 := by simp [Cp.program, hix]
    have HEA := Lib.hid he
    clear hix he
    have H33 : Hid (Blk (w3.setCell ⟨g, 33, none⟩ (.int .i64 ix)) g 46 ({ c.prog1 ix code with steps := Mi.programS set ix code }.cells (.slice A2 n2 c2))) := Lib.hid (H3.out.blk.set_ 33 (.int .i64 ix))
    have HPR := Lib.hid (fun w (hb : Blk w g 46 ({ c.prog1 ix code with steps := Mi.programS set ix code }.cells (.slice A2 n2 c2))) => pair_any c.r 46 _ g 2 0 w hb HR.out)
    go_wp2_with (first
      | (go_at_call 44; refine (HPR.out _ H33.out).mono ?_; rintro e w4 ⟨rfl, hd4⟩; have HD4 := Lib.hid hd4; have hb4 := hd_blk hd4 H33.out; have g38 : w4.cell? ⟨g, 38, none⟩ = some (.int .u16 c.ea) := hb4.cell 38; have x38 := hb4.frozen 38; have HB4 := Lib.hid hb4; clear hd4 hb4))
    refine bodyPost_end (results_none rfl _ _ _) rfl ⟨rfl, HFIN.out _ (HX.out _ (((Only.set g 33 w3 _).trans HD4.out.only).trans (Only.set g 38 _ _)) ?_)⟩
    have := HB4.out.set_ 38 (.int .u16 (c.r.pair 2 0))
    unfold Cp.cells Cp.tail
    rw [HEA.out]
    exact this
  · have hi2 : (ix == 0) = false := by simpa using hix
    go_wp2
    refine bodyPost_end (results_none rfl _ _ _) rfl ⟨rfl, HFIN.out _ (HX.out _ (Only.set g 33 w3 _) ?_)⟩
    have := H3.out.blk.set_ 33 (.int .i64 ix)
    have he : (c.program set ix code).ea = c.ea := by simp [Cp.program, hix]
    unfold Cp.cells Cp.tail
    rw [he]
    exact this
  · have hi2 : (ix == 0) = true := by rw [hix]; rfl
    have he : (c.program set ix code).ea = c.r.pair 2 0 := by simp [Cp.program, hix]
    have HEA := Lib.hid he
    clear hix he
    have HPR := Lib.hid (fun w (hb : Blk w g 46 ({ c.prog1 ix code with steps := Mi.programS set ix code }.cells (.slice A2 n2 c2))) => pair_any c.r 46 _ g 2 0 w hb HR.out)
    go_wp2_with (first
      | (go_at_call 44; refine (HPR.out _ H3.out.blk).mono ?_; rintro e w4 ⟨rfl, hd4⟩; have HD4 := Lib.hid hd4; have hb4 := hd_blk hd4 H3.out.blk; have g38 : w4.cell? ⟨g, 38, none⟩ = some (.int .u16 c.ea) := hb4.cell 38; have x38 := hb4.frozen 38; have HB4 := Lib.hid hb4; clear hd4 hb4))
    refine bodyPost_end (results_none rfl _ _ _) rfl ⟨rfl, HFIN.out _ (HX.out _ (HD4.out.only.trans (Only.set g 38 _ _)) ?_)⟩
    have := HB4.out.set_ 38 (.int .u16 (c.r.pair 2 0))
    unfold Cp.cells Cp.tail
    rw [HEA.out]
    exact this
  · have hi2 : (ix == 0) = false := by simpa using hix
    go_wp2
    refine bodyPost_end (results_none rfl _ _ _) rfl ⟨rfl, HFIN.out _ (HX.out _ (Only.refl g w3) ?_)⟩
    have he : (c.program set ix code).ea = c.ea := by simp [Cp.program, hix]
    unfold Cp.cells Cp.tail
    rw [he]
    exact H3.out.blk
end Go.Proofs.YtbhpmnhlmeglcaaGreat
namespace Go.Proofs.YtbhpmnhlmeglcaaGreat
set_option linter.unusedSimpArgs false
set_option linter.unusedVariables false
open Go.RowKit
theorem CpAt.below {w w' : World} {g : Nat} {sv : Value} {c : Cp} (h : CpAt w g sv c) (hb : Below w.heap.size w w') : CpAt w' g sv c := ⟨h.blk.below_ hb, own_keepC h.own fun k hk => hb.block k (sv_lt h hk)⟩
theorem below_al1C (w : World) (o : Obj) : Below w.heap.size w (w.alloc o) := (Below.refl _ w).alloc (Nat.le_refl _) _
/-- what a work does -/
def WorkOk (k : Int) (c c' : Cp) : Prop := c'.Ok ∧ ∀ (g : Nat) (sv : Value) (w : World), CpAt w g sv c → Calls Tryz.prog 40 #[.pointer (some ⟨g, 0, none⟩), .int .i64 k] w (Done (.tuple #[]) g w sv c')
def Cp.goto (c : Cp) (i : Int) : Cp := { c with at_ := i }
def Cp.stop (c : Cp) : Cp := { c with r := { c.r with q := if c.wrote then c.r.f else 0 }, kind := -1 }
def Cp.noAhead (c : Cp) : Cp := { c with ahead := false }
theorem ok_goto {c : Cp} (h : c.Ok) (i : Nat) (hi : i ≤ c.steps.length) : (c.goto i).Ok := ⟨h.r, h.code, h.lo, h.hi, h.ea, h.out, h.addr, Int.natCast_nonneg i, (by show (i : Int) ≤ c.steps.length; omega), h.len⟩
/-- may a condition be asked? -/
def metK (c : Cp) (k : Int) : Prop := k = 0 ∨ (k = 1 ∧ 4 ≤ c.code / 8 % 8) ∨ k = 2 ∨ k = 3
/-- what comes of the steps from here on, in at most so many rounds -/
inductive NextN : Nat → Cp → Cp → Prop
  | stop (k : Nat) (c : Cp) : (c.steps.length : Int) ≤ c.at_ → c.ahead = false → NextN (k + 1) c c.stop
  | ahead (k : Nat) (c c2 : Cp) : (c.steps.length : Int) ≤ c.at_ → c.ahead = true → (c.noAhead.program 3 c.ix c.hi).Ok → NextN k (c.noAhead.program 3 c.ix c.hi) c2 → NextN (k + 1) c c2
  | cycle (k : Nat) (c : Cp) (i : Nat) (kd at_ wh n : Int) : c.at_ = i → c.steps[i]? = some (kd, at_, wh, n) → 0 ≤ kd ∧ kd ≤ 4 → 0 ≤ at_ ∧ at_ ≤ 9 → (kd = 2 ∨ kd = 4 → byteK wh) → NextN (k + 1) c ((c.goto (i + 1 : Nat)).cycle (kd, at_, wh, n))
  | work (k : Nat) (c c1 c2 : Cp) (i : Nat) (a wh n : Int) : c.at_ = i → c.steps[i]? = some (5, a, wh, n) → WorkOk wh (c.goto (i + 1 : Nat)) c1 → NextN k c1 c2 → NextN (k + 1) c c2
  | met (k : Nat) (c c2 : Cp) (i : Nat) (a wh n : Int) : c.at_ = i → c.steps[i]? = some (6, a, wh, n) → metK c wh → (c.goto (i + 1 : Nat)).metV wh = true → NextN k (c.goto (i + 1 : Nat)) c2 → NextN (k + 1) c c2
  | unmet (k : Nat) (c c2 : Cp) (i : Nat) (a wh n : Int) : c.at_ = i → c.steps[i]? = some (6, a, wh, n) → metK c wh → (c.goto (i + 1 : Nat)).metV wh = false → NextN k (c.goto c.steps.length) c2 → NextN (k + 1) c c2
/-- an empty step in new memory -/
def st0 : Obj := .cells #[.int .i64 0, .int .i64 0, .int .i64 0, .int .i64 0] 65
theorem blk_st0 (w : World) (q : Nat) : Blk ((w.drewN q).alloc (.cells #[.int .i64 0, .int .i64 0, .int .i64 0, .int .i64 0] 65)) w.heap.size 65 [.int .i64 0, .int .i64 0, .int .i64 0, .int .i64 0] := Blk.new (w.drewN q) 65 [.int .i64 0, .int .i64 0, .int .i64 0, .int .i64 0]
theorem flat_get (l : List Stp) (i : Nat) (s : Stp) (hi : l[i]? = some s) (j : Nat) (v : Value) (hv : (stp s)[j]? = some v) : (flat l)[i * 4 + j]? = some v := by
  have hj : j < 4 := by
    rcases Nat.lt_or_ge j 4 with h | h
    · exact h
    · rw [List.getElem?_eq_none (by simp [stp]; omega)] at hv; cases hv
  unfold flat
  induction l generalizing i with
  | nil => simp at hi
  | cons q l ih =>
    rw [List.flatMap_cons]
    cases i with
    | zero =>
      have : q = s := by simpa using hi
      subst this
      rw [List.getElem?_append_left (by simp [stp]; omega), ← hv]
      congr 1
      omega
    | succ i =>
      rw [List.getElem?_append_right (by simp [stp]; omega), ← ih i (by simpa using hi)]
      congr 1
      simp [stp]
      omega
/-- the steps' cells -/
theorem CpAt.step {w : World} {g : Nat} {sv : Value} {c : Cp} (h : CpAt w g sv c) {i : Nat} {s : Stp} (hi : c.steps[i]? = some s) : ∃ b cap, sv = .slice (some ⟨b, 0, none⟩) c.steps.length cap ∧ i < c.steps.length ∧ c.steps.length ≤ cap ∧ ∀ j v, (stp s)[j]? = some v → w.cell? ⟨b, i * 4 + j, none⟩ = some v := by
  have hlt : i < c.steps.length := (List.getElem?_eq_some_iff.1 hi).1
  rcases h.own.2 with ⟨_, h0⟩ | ⟨b, cap, cur, rfl, _, _, h1, _⟩
  · omega
  · refine ⟨b, cap, rfl, hlt, h1, fun j v hv => ?_⟩
    have := h.own.cells (g := b) rfl (i * 4 + j) v (flat_get _ i s hi j v hv)
    rwa [Addr.add_mid, Nat.zero_add] at this
set_option maxRecDepth 100000 in
set_option maxHeartbeats 8000000 in
theorem cp_next (g : Nat) (sv : Value) (c cf : Cp) (K : Nat) (w : World) (h : CpAt w g sv c) (ho : c.Ok) (hs : c.second = 0) (hN : NextN K c cf) :
    Calls Tryz.prog 32 #[.pointer (some ⟨g, 0, none⟩)] w (Done (.tuple #[]) g w sv cf) := by
  have hb := h.blk
  have c34 : w.cell? ⟨g, 34, none⟩ = some (.int .i64 0) := by rw [← hs]; exact hb.cell 34
  have H := Lib.hid h; have HO := Lib.hid ho; have HN := Lib.hid hN
  clear h hb ho hs hN
  go_enter Tryz.func32, Tryz.ntmps32
  go_wp2
  go_loopg [] K (fun k wr => ∃ c1 sv1, CpAt wr g sv1 c1 ∧ c1.Ok ∧ NextN k c1 cf ∧ SvTo w sv sv1 ∧ Ch (CpP g sv) w wr)
  case atStart => exact ⟨c, sv, H.out, HO.out, HN.out, .inl rfl, Ch.refl _ _⟩
  case round =>
    obtain ⟨c1, sv1, h1, ho1, hn1, hs1, hc1⟩ := hrel
    obtain ⟨A, cap, rfl, -, hle, -⟩ := own_form h1.own
    have H1 := Lib.hid h1; have HO1 := Lib.hid ho1; have HS1 := Lib.hid hs1; have HC1 := Lib.hid hc1
    have hb1 := h1.blk
    obtain ⟨n, hn⟩ : ∃ n, n = c1.steps.length := ⟨_, rfl⟩
    have e31 : wr.cell? ⟨g, 31, none⟩ = some (.int .i64 c1.at_) := hb1.cell 31
    have e30 : wr.cell? ⟨g, 30, none⟩ = some (.slice A n cap) := by rw [hn]; exact hb1.cell 30
    have e35 : wr.cell? ⟨g, 35, none⟩ = some (.bool c1.ahead) := hb1.cell 35
    have HB1 := Lib.hid hb1
    have HNL := Lib.hid hn
    clear h1 ho1 hs1 hc1 hb1 hle
    cases hn1 with
    | stop k _ hge hah =>
      rw [← hn] at hge
      rw [hah] at e35
      clear hah hn
      have e18 : wr.cell? ⟨g, 18, none⟩ = some (.int .u8 c1.r.q) := HB1.out.cell 18
      have y18 := HB1.out.frozen 18
      have e40 : wr.cell? ⟨g, 40, none⟩ = some (.bool c1.wrote) := HB1.out.cell 40
      have e1 : wr.cell? ⟨g, 1, none⟩ = some (.int .u8 c1.r.f) := HB1.out.cell 1
      have e42 : wr.cell? ⟨g, 42, none⟩ = some (.int .i64 c1.kind) := HB1.out.cell 42
      have y42 := HB1.out.frozen 42
      go_wp2_with fail
      go_quiet (fail)
      have hwr : c1.wrote = true ∨ c1.wrote = false := by cases c1.wrote <;> simp
      rcases hwr with hwr | hwr
      · rw [hwr] at e40
        go_wp2
        refine bodyPost_end (results_none rfl _ _ _) rfl ⟨rfl, CpTo.step HS1.out HC1.out (H1.out.only (c' := c1.stop) ?_ ?_ ?_)⟩
        · exact (((Drew.only ⟨_, rfl⟩).trans (Only.set g 18 _ _)).trans (Only.set g 18 _ _)).trans (Only.set g 42 _ _)
        · have := (((HB1.out.drewN nq).set_ 18 (.int .u8 0)).set_ 18 (.int .u8 c1.r.f)).set_ 42 (.int .i64 (-1))
          have he : c1.stop.r.q = c1.r.f := by simp [Cp.stop, hwr]
          unfold Cp.cells Rg.cells
          rw [he]
          exact this
        · rfl
      · rw [hwr] at e40
        go_wp2
        refine bodyPost_end (results_none rfl _ _ _) rfl ⟨rfl, CpTo.step HS1.out HC1.out (H1.out.only (c' := c1.stop) ?_ ?_ ?_)⟩
        · exact ((Drew.only ⟨_, rfl⟩).trans (Only.set g 18 _ _)).trans (Only.set g 42 _ _)
        · have := ((HB1.out.drewN nq).set_ 18 (.int .u8 0)).set_ 42 (.int .i64 (-1))
          have he : c1.stop.r.q = 0 := by simp [Cp.stop, hwr]
          unfold Cp.cells Rg.cells
          rw [he]
          exact this
        · rfl
    | ahead k _ c2 hge hah hok hn2 =>
      rw [← hn] at hge
      rw [hah] at e35
      clear hah hn
      have y35 := HB1.out.frozen 35
      have HOK := Lib.hid hok; have HN2 := Lib.hid hn2
      clear hok hn2
      go_wp2_with fail
      go_quiet (fail)
      go_wp2_with fail
      generalize hw2 : World.setCell _ _ _ = w2
      have HO2 : Hid (Only g wr w2) := by show Only _ _ _; rw [← hw2]; exact (Drew.only ⟨_, rfl⟩).trans (Only.set g 35 _ _)
      have H2 : Hid (CpAt w2 g (.slice A c1.steps.length cap) c1.noAhead) := Lib.hid (H1.out.turn HO2.out (by rw [← hw2]; exact (HB1.out.drewN nq).set_ 35 _) rfl)
      clear hw2 e31 e30 e35 y35
      have k33 : w2.cell? ⟨g, 33, none⟩ = some (.int .i64 c1.ix) := H2.out.blk.cell 33
      have k37 : w2.cell? ⟨g, 37, none⟩ = some (.int .u8 c1.hi) := H2.out.blk.cell 37
      go_still_tail 9, (by kernel_rfl)
      change wpList _ _ _ _ _ w2.drew
      obtain ⟨w3, hw3⟩ : ∃ w3, w3 = w2.drew := ⟨_, rfl⟩
      rw [← hw3]
      have hd3 : Drew w2 w3 := ⟨1, hw3⟩
      have HO3 := Lib.hid (Drew.only (g := g) hd3)
      have H3 : Hid (CpAt w3 g (.slice A c1.steps.length cap) c1.noAhead) := Lib.hid (H2.out.turn HO3.out (hd_blk hd3 H2.out.blk) rfl)
      clear hw3 hd3
      go_wp2_with (first
        | (go_at_call 39; refine (cp_program g _ c1.noAhead 3 c1.ix c1.hi _ H3.out HO1.out.r HO1.out.hi).mono ?_; rintro e w4 ⟨rfl, h4⟩))
      go_roundg k
      case measure => omega
      case rel =>
        obtain ⟨sv4, h5, h6, h7⟩ := CpTo.step HS1.out ((HC1.out.trans (HO2.out.cpp (sv := sv)) (fun _ _ h => h) fun _ _ h => h).trans (HO3.out.cpp (sv := sv)) (fun _ _ h => h) fun _ _ h => h) h4
        exact ⟨_, sv4, h5, HOK.out, HN2.out, h6, h7⟩
    | cycle k _ i kd at_ wh m hi hst hkd hat hby =>
      obtain ⟨b, cap2, hsv, hil, hcap, hcs⟩ := H1.out.step hst
      injection hsv with hA _ hcap2
      subst hA hcap2
      rw [hi] at e31
      rw [← hn] at hil hcap
      have s0 : wr.cell? ⟨b, i * 4, none⟩ = some (.int .i64 kd) := hcs 0 _ rfl
      have s1 : wr.cell? ⟨b, i * 4 + 1, none⟩ = some (.int .i64 at_) := hcs 1 _ rfl
      have s2 : wr.cell? ⟨b, i * 4 + 2, none⟩ = some (.int .i64 wh) := hcs 2 _ rfl
      have s3 : wr.cell? ⟨b, i * 4 + 3, none⟩ = some (.int .i64 m) := hcs 3 _ rfl
      have hltI : (i : Int) < n := by omega
      have hnge : ¬ (n : Int) ≤ i := by omega
      have n0 := fun q => (blk_st0 wr q).cell 0
      have n1 := fun q => (blk_st0 wr q).cell 1
      have n2 := fun q => (blk_st0 wr q).cell 2
      have n3 := fun q => (blk_st0 wr q).cell 3
      have m0 := fun q => (blk_st0 wr q).frozen 0
      have m1 := fun q => (blk_st0 wr q).frozen 1
      have m2 := fun q => (blk_st0 wr q).frozen 2
      have m3 := fun q => (blk_st0 wr q).frozen 3
      have old : ∀ q (p : Addr) v, wr.cell? p = some v → ((wr.drewN q).alloc (.cells #[.int .i64 0, .int .i64 0, .int .i64 0, .int .i64 0] 65)).cell? p = some v := fun q p v hp => ((below_al1C (wr.drewN q) _).cell (block_lt_of_cell hp)).trans hp
      have a31 := fun q => old q _ _ e31
      have a30 := fun q => old q _ _ e30
      have t0 := fun q => old q _ _ s0
      have t1 := fun q => old q _ _ s1
      have t2 := fun q => old q _ _ s2
      have t3 := fun q => old q _ _ s3
      have HI := Lib.hid hi
      have HN62 : Hid (i < 64) := Lib.hid (by have := HO1.out.len; omega)
      clear hcs hn hi hcap old
      go_wp2_with fail
      go_quiet (fail)
      go_wp2_with fail
      go_region
      generalize hw2 : World.setCell (World.setCell (World.setCell (World.setCell _ _ _) _ _) _ _) _ _ = w2
      have HX : Hid (Blk w2 wr.heap.size 65 [.int .i64 kd, .int .i64 at_, .int .i64 wh, .int .i64 m]) := by
        show Blk _ _ _ _
        rw [← hw2]
        exact ((((blk_st0 wr _).set_ 0 _).set_ 1 _).set_ 2 _).set_ 3 _
      have HBL : Hid (Below wr.heap.size wr w2) := by
        show Below _ _ _
        rw [← hw2]
        repeat (with_reducible refine Below.setCell ?_ (by simp) _)
        exact (Below_drewN (Below.refl _ wr) (nq + 1)).trans (below_al1C (wr.drewN (nq + 1)) _)
      clear hw2 n0 n1 n2 n3 m0 m1 m2 m3 a31 a30 t0 t1 t2 t3 s0 s1 s2 s3 e31 e30 e35
      have H2 := Lib.hid (H1.out.below HBL.out)
      have HC2 : Hid (Ch (CpP g sv) w w2) := Lib.hid (HC1.out.trans (Below.ch (p := CpP g sv) HBL.out) (fun _ _ h => h) fun _ _ h => h)
      have hbg : wr.heap.size ≠ g := fun e => new_ne H1.out (.inl e)
      have k31 : w2.cell? ⟨g, 31, none⟩ = some (.int .i64 i) := by rw [← HI.out]; exact H2.out.blk.cell 31
      have y31 := H2.out.blk.frozen 31
      have HO3 : Hid (Only g w2 (w2.setCell ⟨g, 31, none⟩ (.int .i64 ((i : Int) + 1)))) := Lib.hid (Only.set g 31 w2 _)
      have H3 : Hid (CpAt (w2.setCell ⟨g, 31, none⟩ (.int .i64 ((i : Int) + 1))) g (.slice (some ⟨b, 0, none⟩) c1.steps.length cap) (c1.goto (i + 1 : Nat))) := Lib.hid (H2.out.turn HO3.out (H2.out.blk.set_ 31 _) rfl)
      have HX3 : Hid (Blk (w2.setCell ⟨g, 31, none⟩ (.int .i64 ((i : Int) + 1))) wr.heap.size 65 [.int .i64 kd, .int .i64 at_, .int .i64 wh, .int .i64 m]) := Lib.hid (HO3.out.blk hbg HX.out)
      have q0 : w2.cell? ⟨wr.heap.size, 0, none⟩ = some (.int .i64 kd) := HX.out.cell 0
      have q2 : w2.cell? ⟨wr.heap.size, 2, none⟩ = some (.int .i64 wh) := HX.out.cell 2
      have W1 : IntKind.i64.wrap ((i : Int) + 1) = i + 1 := by rw [IntKind.wrap_i64]; have := HN62.out; omega
      have q1 : w2.cell? ⟨wr.heap.size, 1, none⟩ = some (.int .i64 at_) := HX.out.cell 1
      have q3 : w2.cell? ⟨wr.heap.size, 3, none⟩ = some (.int .i64 m) := HX.out.cell 3
      have HOG : Hid (c1.goto (i + 1 : Nat)).Ok := Lib.hid (ok_goto HO1.out (i + 1) (by rw [← HNL.out]; omega))
      have kd5 : (kd == 5) = false := by simp; omega
      have kd6 : (kd == 6) = false := by simp; omega
      go_wp2_with (first
        | (go_at_call 42; refine (cp_cycle g _ _ kd at_ wh m _ H3.out HOG.out hat hkd hby).mono ?_; rintro e w4 ⟨rfl, h4⟩))
      refine bodyPost_end (results_none rfl _ _ _) rfl ⟨rfl, CpTo.step HS1.out (HC2.out.trans (HO3.out.cpp (sv := sv)) (fun _ _ h => h) fun _ _ h => h) h4⟩
    | work k _ c3 c2 i at_ wh m hi hst hw hn2 =>
      obtain ⟨b, cap2, hsv, hil, hcap, hcs⟩ := H1.out.step hst
      injection hsv with hA _ hcap2
      subst hA hcap2
      rw [hi] at e31
      rw [← hn] at hil hcap
      have s0 : wr.cell? ⟨b, i * 4, none⟩ = some (.int .i64 5) := hcs 0 _ rfl
      have s1 : wr.cell? ⟨b, i * 4 + 1, none⟩ = some (.int .i64 at_) := hcs 1 _ rfl
      have s2 : wr.cell? ⟨b, i * 4 + 2, none⟩ = some (.int .i64 wh) := hcs 2 _ rfl
      have s3 : wr.cell? ⟨b, i * 4 + 3, none⟩ = some (.int .i64 m) := hcs 3 _ rfl
      have hltI : (i : Int) < n := by omega
      have hnge : ¬ (n : Int) ≤ i := by omega
      have n0 := fun q => (blk_st0 wr q).cell 0
      have n1 := fun q => (blk_st0 wr q).cell 1
      have n2 := fun q => (blk_st0 wr q).cell 2
      have n3 := fun q => (blk_st0 wr q).cell 3
      have m0 := fun q => (blk_st0 wr q).frozen 0
      have m1 := fun q => (blk_st0 wr q).frozen 1
      have m2 := fun q => (blk_st0 wr q).frozen 2
      have m3 := fun q => (blk_st0 wr q).frozen 3
      have old : ∀ q (p : Addr) v, wr.cell? p = some v → ((wr.drewN q).alloc (.cells #[.int .i64 0, .int .i64 0, .int .i64 0, .int .i64 0] 65)).cell? p = some v := fun q p v hp => ((below_al1C (wr.drewN q) _).cell (block_lt_of_cell hp)).trans hp
      have a31 := fun q => old q _ _ e31
      have a30 := fun q => old q _ _ e30
      have t0 := fun q => old q _ _ s0
      have t1 := fun q => old q _ _ s1
      have t2 := fun q => old q _ _ s2
      have t3 := fun q => old q _ _ s3
      have HI := Lib.hid hi
      have HN62 : Hid (i < 64) := Lib.hid (by have := HO1.out.len; omega)
      clear hcs hn hi hcap old
      go_wp2_with fail
      go_quiet (fail)
      go_wp2_with fail
      go_region
      generalize hw2 : World.setCell (World.setCell (World.setCell (World.setCell _ _ _) _ _) _ _) _ _ = w2
      have HX : Hid (Blk w2 wr.heap.size 65 [.int .i64 5, .int .i64 at_, .int .i64 wh, .int .i64 m]) := by
        show Blk _ _ _ _
        rw [← hw2]
        exact ((((blk_st0 wr _).set_ 0 _).set_ 1 _).set_ 2 _).set_ 3 _
      have HBL : Hid (Below wr.heap.size wr w2) := by
        show Below _ _ _
        rw [← hw2]
        repeat (with_reducible refine Below.setCell ?_ (by simp) _)
        exact (Below_drewN (Below.refl _ wr) (nq + 1)).trans (below_al1C (wr.drewN (nq + 1)) _)
      clear hw2 n0 n1 n2 n3 m0 m1 m2 m3 a31 a30 t0 t1 t2 t3 s0 s1 s2 s3 e31 e30 e35
      have H2 := Lib.hid (H1.out.below HBL.out)
      have HC2 : Hid (Ch (CpP g sv) w w2) := Lib.hid (HC1.out.trans (Below.ch (p := CpP g sv) HBL.out) (fun _ _ h => h) fun _ _ h => h)
      have hbg : wr.heap.size ≠ g := fun e => new_ne H1.out (.inl e)
      have k31 : w2.cell? ⟨g, 31, none⟩ = some (.int .i64 i) := by rw [← HI.out]; exact H2.out.blk.cell 31
      have y31 := H2.out.blk.frozen 31
      have HO3 : Hid (Only g w2 (w2.setCell ⟨g, 31, none⟩ (.int .i64 ((i : Int) + 1)))) := Lib.hid (Only.set g 31 w2 _)
      have H3 : Hid (CpAt (w2.setCell ⟨g, 31, none⟩ (.int .i64 ((i : Int) + 1))) g (.slice (some ⟨b, 0, none⟩) c1.steps.length cap) (c1.goto (i + 1 : Nat))) := Lib.hid (H2.out.turn HO3.out (H2.out.blk.set_ 31 _) rfl)
      have HX3 : Hid (Blk (w2.setCell ⟨g, 31, none⟩ (.int .i64 ((i : Int) + 1))) wr.heap.size 65 [.int .i64 5, .int .i64 at_, .int .i64 wh, .int .i64 m]) := Lib.hid (HO3.out.blk hbg HX.out)
      have q0 : w2.cell? ⟨wr.heap.size, 0, none⟩ = some (.int .i64 5) := HX.out.cell 0
      have q2 : w2.cell? ⟨wr.heap.size, 2, none⟩ = some (.int .i64 wh) := HX.out.cell 2
      have W1 : IntKind.i64.wrap ((i : Int) + 1) = i + 1 := by rw [IntKind.wrap_i64]; have := HN62.out; omega
      have HW := Lib.hid hw; have HN2 := Lib.hid hn2
      clear hw hn2
      go_wp2_with (first
        | (go_at_call 40; refine (HW.out.2 g _ _ H3.out).mono ?_; rintro e w4 ⟨rfl, h4⟩))
      go_roundg k
      case measure => omega
      case rel =>
        obtain ⟨sv4, h5, h6, h7⟩ := CpTo.step HS1.out (HC2.out.trans (HO3.out.cpp (sv := sv)) (fun _ _ h => h) fun _ _ h => h) h4
        exact ⟨c3, sv4, h5, HW.out.1, HN2.out, h6, h7⟩
    | met k _ c2 i at_ wh m hi hst hmk hm hn2 =>
      obtain ⟨b, cap2, hsv, hil, hcap, hcs⟩ := H1.out.step hst
      injection hsv with hA _ hcap2
      subst hA hcap2
      rw [hi] at e31
      rw [← hn] at hil hcap
      have s0 : wr.cell? ⟨b, i * 4, none⟩ = some (.int .i64 6) := hcs 0 _ rfl
      have s1 : wr.cell? ⟨b, i * 4 + 1, none⟩ = some (.int .i64 at_) := hcs 1 _ rfl
      have s2 : wr.cell? ⟨b, i * 4 + 2, none⟩ = some (.int .i64 wh) := hcs 2 _ rfl
      have s3 : wr.cell? ⟨b, i * 4 + 3, none⟩ = some (.int .i64 m) := hcs 3 _ rfl
      have hltI : (i : Int) < n := by omega
      have hnge : ¬ (n : Int) ≤ i := by omega
      have n0 := fun q => (blk_st0 wr q).cell 0
      have n1 := fun q => (blk_st0 wr q).cell 1
      have n2 := fun q => (blk_st0 wr q).cell 2
      have n3 := fun q => (blk_st0 wr q).cell 3
      have m0 := fun q => (blk_st0 wr q).frozen 0
      have m1 := fun q => (blk_st0 wr q).frozen 1
      have m2 := fun q => (blk_st0 wr q).frozen 2
      have m3 := fun q => (blk_st0 wr q).frozen 3
      have old : ∀ q (p : Addr) v, wr.cell? p = some v → ((wr.drewN q).alloc (.cells #[.int .i64 0, .int .i64 0, .int .i64 0, .int .i64 0] 65)).cell? p = some v := fun q p v hp => ((below_al1C (wr.drewN q) _).cell (block_lt_of_cell hp)).trans hp
      have a31 := fun q => old q _ _ e31
      have a30 := fun q => old q _ _ e30
      have t0 := fun q => old q _ _ s0
      have t1 := fun q => old q _ _ s1
      have t2 := fun q => old q _ _ s2
      have t3 := fun q => old q _ _ s3
      have HI := Lib.hid hi
      have HN62 : Hid (i < 64) := Lib.hid (by have := HO1.out.len; omega)
      clear hcs hn hi hcap old
      go_wp2_with fail
      go_quiet (fail)
      go_wp2_with fail
      go_region
      generalize hw2 : World.setCell (World.setCell (World.setCell (World.setCell _ _ _) _ _) _ _) _ _ = w2
      have HX : Hid (Blk w2 wr.heap.size 65 [.int .i64 6, .int .i64 at_, .int .i64 wh, .int .i64 m]) := by
        show Blk _ _ _ _
        rw [← hw2]
        exact ((((blk_st0 wr _).set_ 0 _).set_ 1 _).set_ 2 _).set_ 3 _
      have HBL : Hid (Below wr.heap.size wr w2) := by
        show Below _ _ _
        rw [← hw2]
        repeat (with_reducible refine Below.setCell ?_ (by simp) _)
        exact (Below_drewN (Below.refl _ wr) (nq + 1)).trans (below_al1C (wr.drewN (nq + 1)) _)
      clear hw2 n0 n1 n2 n3 m0 m1 m2 m3 a31 a30 t0 t1 t2 t3 s0 s1 s2 s3 e31 e30 e35
      have H2 := Lib.hid (H1.out.below HBL.out)
      have HC2 : Hid (Ch (CpP g sv) w w2) := Lib.hid (HC1.out.trans (Below.ch (p := CpP g sv) HBL.out) (fun _ _ h => h) fun _ _ h => h)
      have hbg : wr.heap.size ≠ g := fun e => new_ne H1.out (.inl e)
      have k31 : w2.cell? ⟨g, 31, none⟩ = some (.int .i64 i) := by rw [← HI.out]; exact H2.out.blk.cell 31
      have y31 := H2.out.blk.frozen 31
      have HO3 : Hid (Only g w2 (w2.setCell ⟨g, 31, none⟩ (.int .i64 ((i : Int) + 1)))) := Lib.hid (Only.set g 31 w2 _)
      have H3 : Hid (CpAt (w2.setCell ⟨g, 31, none⟩ (.int .i64 ((i : Int) + 1))) g (.slice (some ⟨b, 0, none⟩) c1.steps.length cap) (c1.goto (i + 1 : Nat))) := Lib.hid (H2.out.turn HO3.out (H2.out.blk.set_ 31 _) rfl)
      have HX3 : Hid (Blk (w2.setCell ⟨g, 31, none⟩ (.int .i64 ((i : Int) + 1))) wr.heap.size 65 [.int .i64 6, .int .i64 at_, .int .i64 wh, .int .i64 m]) := Lib.hid (HO3.out.blk hbg HX.out)
      have q0 : w2.cell? ⟨wr.heap.size, 0, none⟩ = some (.int .i64 6) := HX.out.cell 0
      have q2 : w2.cell? ⟨wr.heap.size, 2, none⟩ = some (.int .i64 wh) := HX.out.cell 2
      have W1 : IntKind.i64.wrap ((i : Int) + 1) = i + 1 := by rw [IntKind.wrap_i64]; have := HN62.out; omega
      have HN2 := Lib.hid hn2
      have HOG : Hid (c1.goto (i + 1 : Nat)).Ok := Lib.hid (ok_goto HO1.out (i + 1) (by rw [← HNL.out]; omega))
      have HMT := Lib.hid (fun w h => cp_met g (.slice (some ⟨b, 0, none⟩) c1.steps.length cap) (c1.goto (i + 1 : Nat)) wh w h HOG.out hmk)
      rw [hm] at HMT
      clear hn2 hm hmk
      go_wp2_with (first
        | (go_at_call 41; refine (HMT.out _ H3.out).mono ?_; rintro e w4 ⟨rfl, h4⟩))
      go_roundg k
      case measure => omega
      case rel =>
        obtain ⟨sv4, h5, h6, h7⟩ := CpTo.step HS1.out (HC2.out.trans (HO3.out.cpp (sv := sv)) (fun _ _ h => h) fun _ _ h => h) (H3.out.drew h4)
        exact ⟨_, sv4, h5, HOG.out, HN2.out, h6, h7⟩
    | unmet k _ c2 i at_ wh m hi hst hmk hm hn2 =>
      obtain ⟨b, cap2, hsv, hil, hcap, hcs⟩ := H1.out.step hst
      injection hsv with hA _ hcap2
      subst hA hcap2
      rw [hi] at e31
      rw [← hn] at hil hcap
      have s0 : wr.cell? ⟨b, i * 4, none⟩ = some (.int .i64 6) := hcs 0 _ rfl
      have s1 : wr.cell? ⟨b, i * 4 + 1, none⟩ = some (.int .i64 at_) := hcs 1 _ rfl
      have s2 : wr.cell? ⟨b, i * 4 + 2, none⟩ = some (.int .i64 wh) := hcs 2 _ rfl
      have s3 : wr.cell? ⟨b, i * 4 + 3, none⟩ = some (.int .i64 m) := hcs 3 _ rfl
      have hltI : (i : Int) < n := by omega
      have hnge : ¬ (n : Int) ≤ i := by omega
      have n0 := fun q => (blk_st0 wr q).cell 0
      have n1 := fun q => (blk_st0 wr q).cell 1
      have n2 := fun q => (blk_st0 wr q).cell 2
      have n3 := fun q => (blk_st0 wr q).cell 3
      have m0 := fun q => (blk_st0 wr q).frozen 0
      have m1 := fun q => (blk_st0 wr q).frozen 1
      have m2 := fun q => (blk_st0 wr q).frozen 2
      have m3 := fun q => (blk_st0 wr q).frozen 3
      have old : ∀ q (p : Addr) v, wr.cell? p = some v → ((wr.drewN q).alloc (.cells #[.int .i64 0, .int .i64 0, .int .i64 0, .int .i64 0] 65)).cell? p = some v := fun q p v hp => ((below_al1C (wr.drewN q) _).cell (block_lt_of_cell hp)).trans hp
      have a31 := fun q => old q _ _ e31
      have a30 := fun q => old q _ _ e30
      have t0 := fun q => old q _ _ s0
      have t1 := fun q => old q _ _ s1
      have t2 := fun q => old q _ _ s2
      have t3 := fun q => old q _ _ s3
      have HI := Lib.hid hi
      have HN62 : Hid (i < 64) := Lib.hid (by have := HO1.out.len; omega)
      clear hcs hn hi hcap old
      go_wp2_with fail
      go_quiet (fail)
      go_wp2_with fail
      go_region
      generalize hw2 : World.setCell (World.setCell (World.setCell (World.setCell _ _ _) _ _) _ _) _ _ = w2
      have HX : Hid (Blk w2 wr.heap.size 65 [.int .i64 6, .int .i64 at_, .int .i64 wh, .int .i64 m]) := by
        show Blk _ _ _ _
        rw [← hw2]
        exact ((((blk_st0 wr _).set_ 0 _).set_ 1 _).set_ 2 _).set_ 3 _
      have HBL : Hid (Below wr.heap.size wr w2) := by
        show Below _ _ _
        rw [← hw2]
        repeat (with_reducible refine Below.setCell ?_ (by simp) _)
        exact (Below_drewN (Below.refl _ wr) (nq + 1)).trans (below_al1C (wr.drewN (nq + 1)) _)
      clear hw2 n0 n1 n2 n3 m0 m1 m2 m3 a31 a30 t0 t1 t2 t3 s0 s1 s2 s3 e31 e30 e35
      have H2 := Lib.hid (H1.out.below HBL.out)
      have HC2 : Hid (Ch (CpP g sv) w w2) := Lib.hid (HC1.out.trans (Below.ch (p := CpP g sv) HBL.out) (fun _ _ h => h) fun _ _ h => h)
      have hbg : wr.heap.size ≠ g := fun e => new_ne H1.out (.inl e)
      have k31 : w2.cell? ⟨g, 31, none⟩ = some (.int .i64 i) := by rw [← HI.out]; exact H2.out.blk.cell 31
      have y31 := H2.out.blk.frozen 31
      have HO3 : Hid (Only g w2 (w2.setCell ⟨g, 31, none⟩ (.int .i64 ((i : Int) + 1)))) := Lib.hid (Only.set g 31 w2 _)
      have H3 : Hid (CpAt (w2.setCell ⟨g, 31, none⟩ (.int .i64 ((i : Int) + 1))) g (.slice (some ⟨b, 0, none⟩) c1.steps.length cap) (c1.goto (i + 1 : Nat))) := Lib.hid (H2.out.turn HO3.out (H2.out.blk.set_ 31 _) rfl)
      have HX3 : Hid (Blk (w2.setCell ⟨g, 31, none⟩ (.int .i64 ((i : Int) + 1))) wr.heap.size 65 [.int .i64 6, .int .i64 at_, .int .i64 wh, .int .i64 m]) := Lib.hid (HO3.out.blk hbg HX.out)
      have q0 : w2.cell? ⟨wr.heap.size, 0, none⟩ = some (.int .i64 6) := HX.out.cell 0
      have q2 : w2.cell? ⟨wr.heap.size, 2, none⟩ = some (.int .i64 wh) := HX.out.cell 2
      have W1 : IntKind.i64.wrap ((i : Int) + 1) = i + 1 := by rw [IntKind.wrap_i64]; have := HN62.out; omega
      have HN2 := Lib.hid hn2
      have HOG : Hid (c1.goto (i + 1 : Nat)).Ok := Lib.hid (ok_goto HO1.out (i + 1) (by rw [← HNL.out]; omega))
      have HMT := Lib.hid (fun w h => cp_met g (.slice (some ⟨b, 0, none⟩) c1.steps.length cap) (c1.goto (i + 1 : Nat)) wh w h HOG.out hmk)
      rw [hm] at HMT
      clear hn2 hm hmk
      go_wp2_with (first
        | (go_at_call 41; refine (HMT.out _ H3.out).mono ?_; rintro e w4 ⟨rfl, h4⟩
           have hb4 := hd_blk h4 H3.out.blk
           have f30 : w4.cell? ⟨g, 30, none⟩ = some (.slice (some ⟨b, 0, none⟩) n cap) := by rw [HNL.out]; exact hb4.cell 30
           have f31 : w4.cell? ⟨g, 31, none⟩ = some (.int .i64 ((i + 1 : Nat) : Int)) := hb4.cell 31
           have x31 := hb4.frozen 31
           have H4 : Hid (Only g (w2.setCell ⟨g, 31, none⟩ (.int .i64 ((i : Int) + 1))) (w4.setCell ⟨g, 31, none⟩ (.int .i64 n))) := Lib.hid ((Drew.only h4).trans (Only.set g 31 w4 _))
           have H5 : Hid (CpAt (w4.setCell ⟨g, 31, none⟩ (.int .i64 n)) g (.slice (some ⟨b, 0, none⟩) c1.steps.length cap) (c1.goto c1.steps.length)) := Lib.hid (H3.out.turn H4.out (by have := hb4.set_ 31 (.int .i64 (n : Int)); rw [HNL.out] at this ⊢; exact this) rfl)
           clear h4 hb4))
      go_roundg k
      case measure => omega
      case rel =>
        exact ⟨_, _, H5.out, ok_goto HO1.out _ (Nat.le_refl _), HN2.out, HS1.out, (HC2.out.trans (HO3.out.cpp (sv := sv)) (fun _ _ h => h) fun _ _ h => h).trans (H4.out.cpp (sv := sv)) (fun _ _ h => h) fun _ _ h => h⟩
end Go.Proofs.YtbhpmnhlmeglcaaGreat
namespace Go.Proofs.YtbhpmnhlmeglcaaGreat
set_option linter.unusedSimpArgs false
set_option linter.unusedVariables false
open Go.RowKit
def Rg.tick (r : Rg) : Rg := { r with r := r.r / 128 * 128 + (r.r + 1) % 128 }
/-- behind the count of R, and of PC -/
def Cp.ticked (c : Cp) : Cp := { c with r := c.r.tick }
def Cp.inc (c : Cp) : Cp := { c with r := { c.r.tick with pc := (c.r.pc + 1) % 65536 } }
def Cp.inc0 (c : Cp) : Cp := { c with r := { c.r.tick with pc := (c.r.pc + 1) % 65536, pre := 0 } }
theorem ok_tick {c : Cp} (h : c.Ok) : c.r.tick.Ok := { h.r with r' := by obtain ⟨a, b⟩ := h.r.r'; show B8 (c.r.r / 128 * 128 + (c.r.r + 1) % 128); exact ⟨by omega, by omega⟩ }
theorem ok_inc {c : Cp} (h : c.Ok) : c.inc.r.Ok := { ok_tick h with pc := b16_mod _ }
theorem ok_inc0 {c : Cp} (h : c.Ok) : c.inc0.r.Ok := { ok_tick h with pc := b16_mod _, pre := (show B8 0 from ⟨by decide, by decide⟩) }
theorem cp_tick (g : Nat) (sv : Value) (c : Cp) (w : World) (h : CpAt w g sv c) (ho : c.Ok) :
    Calls Tryz.prog 37 #[.pointer (some ⟨g, 0, none⟩)] w fun e w' => e = .returned (.tuple #[]) ∧ CpAt w' g sv c.ticked ∧ Only g w w' :=
  (tick_any c.r 46 (c.tail sv) g w h.blk ho.r.r').mono fun e w' ⟨h1, h2, h3⟩ => ⟨h1, h.turn h3 h2 rfl, h3⟩
set_option maxRecDepth 100000 in
set_option maxHeartbeats 4000000 in
theorem cp_fetchHalt (g : Nat) (sv : Value) (c : Cp) (code : Int) (w : World) (h : CpAt w g sv c) (ho : c.Ok) (hk : B8 code) (hh : c.r.halt = true) :
    Calls Tryz.prog 30 #[.pointer (some ⟨g, 0, none⟩), .int .u8 code] w (Done (.tuple #[]) g w sv c.ticked) := by
  have H := Lib.hid h; have HO := Lib.hid ho; have HK := Lib.hid hk
  have hpc := ho.r.pc
  have w1 : IntKind.u16.wrap (c.r.pc + 1) = (c.r.pc + 1) % 65536 := by rw [IntKind.wrap_u16]
  clear h ho hk
  go_enter Tryz.func30, Tryz.ntmps30
  go_wp2_with (first
    | (go_at_call 37; refine (cp_tick g sv c _ H.out HO.out).mono ?_; rintro e w1 ⟨rfl, h1, ho1⟩; have H1 := Lib.hid h1; have HO1 := Lib.hid ho1; have a26 : w1.cell? ⟨g, 26, none⟩ = some (.bool true) := (by rw [← hh]; exact h1.blk.cell 26); have a22 : w1.cell? ⟨g, 22, none⟩ = some (.int .u16 c.r.pc) := h1.blk.cell 22; have y22 := h1.blk.frozen 22; have a34 : w1.cell? ⟨g, 34, none⟩ = some (.int .i64 c.second) := h1.blk.cell 34; have y34 := h1.blk.frozen 34; have a29 : w1.cell? ⟨g, 29, none⟩ = some (.int .u8 c.r.pre) := h1.blk.cell 29; have y29 := h1.blk.frozen 29; have a42 : w1.cell? ⟨g, 42, none⟩ = some (.int .i64 c.kind) := h1.blk.cell 42; have y42 := h1.blk.frozen 42; have a27 : w1.cell? ⟨g, 27, none⟩ = some (.bool c.r.hold) := h1.blk.cell 27; have y27 := h1.blk.frozen 27; clear h1 ho1))
  refine bodyPost_end (results_none rfl _ _ _) rfl ⟨rfl, sv, H1.out, .inl rfl, HO1.out.cpp⟩
set_option maxRecDepth 100000 in
set_option maxHeartbeats 4000000 in
theorem cp_fetchPlain (g : Nat) (sv : Value) (c : Cp) (code : Int) (w : World) (h : CpAt w g sv c) (ho : c.Ok) (hk : B8 code) (hh : c.r.halt = false) (hs : c.second = 0) (hc : code ≠ 221 ∧ code ≠ 253 ∧ code ≠ 237 ∧ code ≠ 203) :
    Calls Tryz.prog 30 #[.pointer (some ⟨g, 0, none⟩), .int .u8 code] w (Done (.tuple #[]) g w sv (c.inc0.program 0 c.r.pre code)) := by
  have H := Lib.hid h; have HO := Lib.hid ho; have HK := Lib.hid hk
  have hpc := ho.r.pc
  have w1 : IntKind.u16.wrap (c.r.pc + 1) = (c.r.pc + 1) % 65536 := by rw [IntKind.wrap_u16]
  have e1 : (code == 221) = false := by simp [hc.1]
  have e2 : (code == 253) = false := by simp [hc.2.1]
  have e3 : (code == 237) = false := by simp [hc.2.2.1]
  have e4 : (code == 203) = false := by simp [hc.2.2.2]
  have w2 : IntKind.i64.wrap c.r.pre = c.r.pre := by obtain ⟨a, b⟩ := ho.r.pre; rw [IntKind.wrap_i64]; omega
  clear h ho hk hc
  go_enter Tryz.func30, Tryz.ntmps30
  go_wp2_with (first
    | (go_at_call 39
       have HO2 : Hid (Only g w1 ((w1.setCell ⟨g, 22, none⟩ (.int .u16 ((c.r.pc + 1) % 65536))).setCell ⟨g, 29, none⟩ (.int .u8 0))) := Lib.hid ((Only.set g 22 w1 _).trans (Only.set g 29 _ _))
       have H2 : Hid (CpAt ((w1.setCell ⟨g, 22, none⟩ (.int .u16 ((c.r.pc + 1) % 65536))).setCell ⟨g, 29, none⟩ (.int .u8 0)) g sv c.inc0) := Lib.hid (H1.out.turn HO2.out ((H1.out.blk.set_ 22 _).set_ 29 _) rfl)
       refine (cp_program g sv c.inc0 0 c.r.pre code _ H2.out (ok_inc0 HO.out) HK.out).mono ?_
       rintro e w3 ⟨rfl, h3⟩)
    | (go_at_call 37; refine (cp_tick g sv c _ H.out HO.out).mono ?_; rintro e w1 ⟨rfl, h1, ho1⟩; have H1 := Lib.hid h1; have HO1 := Lib.hid ho1; have a26 : w1.cell? ⟨g, 26, none⟩ = some (.bool false) := (by rw [← hh]; exact h1.blk.cell 26); have a22 : w1.cell? ⟨g, 22, none⟩ = some (.int .u16 c.r.pc) := h1.blk.cell 22; have y22 := h1.blk.frozen 22; have a34 : w1.cell? ⟨g, 34, none⟩ = some (.int .i64 0) := (by rw [← hs]; exact h1.blk.cell 34); have y34 := h1.blk.frozen 34; have a29 : w1.cell? ⟨g, 29, none⟩ = some (.int .u8 c.r.pre) := h1.blk.cell 29; have y29 := h1.blk.frozen 29; have a42 : w1.cell? ⟨g, 42, none⟩ = some (.int .i64 c.kind) := h1.blk.cell 42; have y42 := h1.blk.frozen 42; have a27 : w1.cell? ⟨g, 27, none⟩ = some (.bool c.r.hold) := h1.blk.cell 27; have y27 := h1.blk.frozen 27; clear h1 ho1))
  refine bodyPost_end (results_none rfl _ _ _) rfl ⟨rfl, CpTo.step (.inl rfl) ((HO1.out.trans HO2.out).cpp) h3⟩
set_option maxRecDepth 100000 in
set_option maxHeartbeats 4000000 in
theorem cp_fetchSecond (g : Nat) (sv : Value) (c : Cp) (code : Int) (w : World) (h : CpAt w g sv c) (ho : c.Ok) (hk : B8 code) (hh : c.r.halt = false) (hs : 0 < c.second) :
    Calls Tryz.prog 30 #[.pointer (some ⟨g, 0, none⟩), .int .u8 code] w (Done (.tuple #[]) g w sv ({ c.inc with second := 0 }.program c.second 0 code)) := by
  have H := Lib.hid h; have HO := Lib.hid ho; have HK := Lib.hid hk
  have hpc := ho.r.pc
  have w1 : IntKind.u16.wrap (c.r.pc + 1) = (c.r.pc + 1) % 65536 := by rw [IntKind.wrap_u16]
  have hs0 : ¬ c.second ≤ 0 := by omega
  clear h ho hk
  go_enter Tryz.func30, Tryz.ntmps30
  go_wp2_with (first
    | (go_at_call 39
       have HO2 : Hid (Only g w1 ((w1.setCell ⟨g, 22, none⟩ (.int .u16 ((c.r.pc + 1) % 65536))).setCell ⟨g, 34, none⟩ (.int .i64 0))) := Lib.hid ((Only.set g 22 w1 _).trans (Only.set g 34 _ _))
       have H2 : Hid (CpAt ((w1.setCell ⟨g, 22, none⟩ (.int .u16 ((c.r.pc + 1) % 65536))).setCell ⟨g, 34, none⟩ (.int .i64 0)) g sv { c.inc with second := 0 }) := Lib.hid (H1.out.turn HO2.out ((H1.out.blk.set_ 22 _).set_ 34 _) rfl)
       refine (cp_program g sv { c.inc with second := 0 } c.second 0 code _ H2.out (ok_inc HO.out) HK.out).mono ?_
       rintro e w3 ⟨rfl, h3⟩)
    | (go_at_call 37; refine (cp_tick g sv c _ H.out HO.out).mono ?_; rintro e w1 ⟨rfl, h1, ho1⟩; have H1 := Lib.hid h1; have HO1 := Lib.hid ho1; have a26 : w1.cell? ⟨g, 26, none⟩ = some (.bool false) := (by rw [← hh]; exact h1.blk.cell 26); have a22 : w1.cell? ⟨g, 22, none⟩ = some (.int .u16 c.r.pc) := h1.blk.cell 22; have y22 := h1.blk.frozen 22; have a34 : w1.cell? ⟨g, 34, none⟩ = some (.int .i64 c.second) := h1.blk.cell 34; have y34 := h1.blk.frozen 34; have a29 : w1.cell? ⟨g, 29, none⟩ = some (.int .u8 c.r.pre) := h1.blk.cell 29; have y29 := h1.blk.frozen 29; have a42 : w1.cell? ⟨g, 42, none⟩ = some (.int .i64 c.kind) := h1.blk.cell 42; have y42 := h1.blk.frozen 42; have a27 : w1.cell? ⟨g, 27, none⟩ = some (.bool c.r.hold) := h1.blk.cell 27; have y27 := h1.blk.frozen 27; clear h1 ho1))
  refine bodyPost_end (results_none rfl _ _ _) rfl ⟨rfl, CpTo.step (.inl rfl) ((HO1.out.trans HO2.out).cpp) h3⟩
set_option maxRecDepth 100000 in
set_option maxHeartbeats 4000000 in
theorem cp_fetchEd (g : Nat) (sv : Value) (c : Cp) (code : Int) (w : World) (h : CpAt w g sv c) (ho : c.Ok) (hk : B8 code) (hh : c.r.halt = false) (hs : c.second = 0) (hc : code = 237) :
    Calls Tryz.prog 30 #[.pointer (some ⟨g, 0, none⟩), .int .u8 code] w (Done (.tuple #[]) g w sv { c.inc0 with second := 2 }) := by
  have H := Lib.hid h; have HO := Lib.hid ho; have HK := Lib.hid hk
  have hpc := ho.r.pc
  have w1 : IntKind.u16.wrap (c.r.pc + 1) = (c.r.pc + 1) % 65536 := by rw [IntKind.wrap_u16]
  subst hc
  have w2 : IntKind.i64.wrap c.r.pre = c.r.pre := by obtain ⟨a, b⟩ := ho.r.pre; rw [IntKind.wrap_i64]; omega
  clear h ho hk
  go_enter Tryz.func30, Tryz.ntmps30
  go_wp2_with (first
    | (go_at_call 37; refine (cp_tick g sv c _ H.out HO.out).mono ?_; rintro e w1 ⟨rfl, h1, ho1⟩; have H1 := Lib.hid h1; have HO1 := Lib.hid ho1; have a26 : w1.cell? ⟨g, 26, none⟩ = some (.bool false) := (by rw [← hh]; exact h1.blk.cell 26); have a22 : w1.cell? ⟨g, 22, none⟩ = some (.int .u16 c.r.pc) := h1.blk.cell 22; have y22 := h1.blk.frozen 22; have a34 : w1.cell? ⟨g, 34, none⟩ = some (.int .i64 0) := (by rw [← hs]; exact h1.blk.cell 34); have y34 := h1.blk.frozen 34; have a29 : w1.cell? ⟨g, 29, none⟩ = some (.int .u8 c.r.pre) := h1.blk.cell 29; have y29 := h1.blk.frozen 29; have a42 : w1.cell? ⟨g, 42, none⟩ = some (.int .i64 c.kind) := h1.blk.cell 42; have y42 := h1.blk.frozen 42; have a27 : w1.cell? ⟨g, 27, none⟩ = some (.bool c.r.hold) := h1.blk.cell 27; have y27 := h1.blk.frozen 27; clear h1 ho1))
  refine bodyPost_end (results_none rfl _ _ _) rfl ⟨rfl, CpTo.step (.inl rfl) HO1.out.cpp (H1.out.only (((Only.set g 22 w1 _).trans (Only.set g 29 _ _)).trans (Only.set g 34 _ _)) (((H1.out.blk.set_ 22 _).set_ 29 _).set_ 34 _) rfl)⟩
set_option maxRecDepth 100000 in
set_option maxHeartbeats 4000000 in
theorem cp_fetchCb (g : Nat) (sv : Value) (c : Cp) (code : Int) (w : World) (h : CpAt w g sv c) (ho : c.Ok) (hk : B8 code) (hh : c.r.halt = false) (hs : c.second = 0) (hp : c.r.pre = 0) (hc : code = 203) :
    Calls Tryz.prog 30 #[.pointer (some ⟨g, 0, none⟩), .int .u8 code] w (Done (.tuple #[]) g w sv { c.inc0 with second := 1 }) := by
  have H := Lib.hid h; have HO := Lib.hid ho; have HK := Lib.hid hk
  have hpc := ho.r.pc
  have w1 : IntKind.u16.wrap (c.r.pc + 1) = (c.r.pc + 1) % 65536 := by rw [IntKind.wrap_u16]
  subst hc
  have w2 : IntKind.i64.wrap c.r.pre = c.r.pre := by obtain ⟨a, b⟩ := ho.r.pre; rw [IntKind.wrap_i64]; omega
  rw [hp] at w2
  clear h ho hk
  go_enter Tryz.func30, Tryz.ntmps30
  go_wp2_with (first
    | (go_at_call 37; refine (cp_tick g sv c _ H.out HO.out).mono ?_; rintro e w1 ⟨rfl, h1, ho1⟩; have H1 := Lib.hid h1; have HO1 := Lib.hid ho1; have a26 : w1.cell? ⟨g, 26, none⟩ = some (.bool false) := (by rw [← hh]; exact h1.blk.cell 26); have a22 : w1.cell? ⟨g, 22, none⟩ = some (.int .u16 c.r.pc) := h1.blk.cell 22; have y22 := h1.blk.frozen 22; have a34 : w1.cell? ⟨g, 34, none⟩ = some (.int .i64 0) := (by rw [← hs]; exact h1.blk.cell 34); have y34 := h1.blk.frozen 34; have a29 : w1.cell? ⟨g, 29, none⟩ = some (.int .u8 0) := (by rw [← hp]; exact h1.blk.cell 29); have y29 := h1.blk.frozen 29; have a42 : w1.cell? ⟨g, 42, none⟩ = some (.int .i64 c.kind) := h1.blk.cell 42; have y42 := h1.blk.frozen 42; have a27 : w1.cell? ⟨g, 27, none⟩ = some (.bool c.r.hold) := h1.blk.cell 27; have y27 := h1.blk.frozen 27; clear h1 ho1))
  refine bodyPost_end (results_none rfl _ _ _) rfl ⟨rfl, CpTo.step (.inl rfl) HO1.out.cpp (H1.out.only (((Only.set g 22 w1 _).trans (Only.set g 29 _ _)).trans (Only.set g 34 _ _)) (((H1.out.blk.set_ 22 _).set_ 29 _).set_ 34 _) rfl)⟩
end Go.Proofs.YtbhpmnhlmeglcaaGreat
