/- cpu: the steps of a code. -/
import Derived.Test.YtbhpmnhlmeglcaaGreatCpuE
namespace Go.Proofs.YtbhpmnhlmeglcaaGreat
set_option linter.unusedSimpArgs false
set_option linter.unusedVariables false
open Go.RowKit
theorem own_form {w : World} {base : Nat} {e : TypeId} {size n : Nat} {v : Value} {xs : List Value} (h : w.ownsRow base e size v n xs) : ∃ A c, v = .slice A n c ∧ (A = none → n = 0 ∧ c = 0) ∧ n ≤ c ∧ c ≤ maxLen := by
  rcases h.2 with ⟨rfl, rfl⟩ | ⟨g, cap, cur, rfl, -, -, h1, h2, -⟩
  · exact ⟨none, 0, rfl, fun _ => ⟨rfl, rfl⟩, Nat.le_refl _, Nat.zero_le _⟩
  · exact ⟨_, _, rfl, (fun h => by cases h), h1, h2⟩
/-- the first none of a list -/
theorem own_none {w : World} {base : Nat} {e : TypeId} {size n c : Nat} {A : Option Addr} {xs : List Value} (h : w.ownsRow base e size (.slice A n c) n xs) : w.ownsRow base e size (.slice A 0 c) 0 [] := by
  refine ⟨by simp, ?_⟩
  rcases h.2 with ⟨h1, h2⟩ | ⟨g, cap, cur, h1, h2, h3, h4, h5, h6, h7⟩
  · injection h1 with h1 h2 h3
    subst h1 h3
    exact .inl ⟨rfl, rfl⟩
  · injection h1 with h1 h8 h9
    subst h1 h9
    exact .inr ⟨g, c, cur, rfl, h2, h3, Nat.zero_le _, h5, h6, by simp⟩
def Cp.program (c : Cp) (set ix code : Int) : Cp := { c with code := code, ix := ix, at_ := 0, steps := Mi.programS set ix code, ea := if ix = 0 then c.r.pair 2 0 else c.ea }
def Cp.prog1 (c : Cp) (ix code : Int) : Cp := { c with code := code, ix := ix, at_ := 0 }
theorem ownBlock_zero (A : Option Addr) (n m c : Nat) : (Value.slice A n c).ownBlock = (Value.slice A m c).ownBlock := by cases A <;> rfl
set_option maxRecDepth 100000 in
set_option maxHeartbeats 4000000 in
theorem cp_program (g : Nat) (sv : Value) (c : Cp) (set ix code : Int) (w : World) (h : CpAt w g sv c) (hr : c.r.Ok) (hk : B8 code) :
    Calls Tryz.prog 39 #[.pointer (some ⟨g, 0, none⟩), .int .i64 set, .int .i64 ix, .int .u8 code] w (Done (.tuple #[]) g w sv (c.program set ix code)) := by
  obtain ⟨A, cap, rfl, hA, hle, hm⟩ := own_form h.own
  have hb := h.blk
  have c32 : w.cell? ⟨g, 32, none⟩ = some (.int .u8 c.code) := hb.cell 32
  have c33 : w.cell? ⟨g, 33, none⟩ = some (.int .i64 c.ix) := hb.cell 33
  have c31 : w.cell? ⟨g, 31, none⟩ = some (.int .i64 c.at_) := hb.cell 31
  have c30 : w.cell? ⟨g, 30, none⟩ = some ((.slice A c.steps.length cap)) := hb.cell 30
  have z32 := hb.frozen 32
  have z33 := hb.frozen 33
  have z31 := hb.frozen 31
  have z30 := hb.frozen 30
  have z38 := hb.frozen 38
  have HO1 : Hid (Only g w (((w.setCell ⟨g, 32, none⟩ (.int .u8 code)).setCell ⟨g, 33, none⟩ (.int .i64 ix)).setCell ⟨g, 31, none⟩ (.int .i64 0))) := ((Only.set g 32 w _).trans (Only.set g 33 _ _)).trans (Only.set g 31 _ _)
  have H1 : Hid (CpAt (((w.setCell ⟨g, 32, none⟩ (.int .u8 code)).setCell ⟨g, 33, none⟩ (.int .i64 ix)).setCell ⟨g, 31, none⟩ (.int .i64 0)) g (.slice A c.steps.length cap) (c.prog1 ix code)) := Lib.hid (h.turn HO1.out (((hb.set_ 32 _).set_ 33 _).set_ 31 _) rfl)
  obtain ⟨n, hn⟩ : ∃ n, n = c.steps.length := ⟨_, rfl⟩
  have HL := Lib.hid hn; have HM := Lib.hid hm; have HR := Lib.hid hr; have HK := Lib.hid hk
  rw [← hn] at c30 H1 hle ⊢
  have hmm : n ≤ cap := hle
  clear h hb hn hA hr hk
  go_enter Tryz.func39, Tryz.ntmps39
  go_upto_region 1 with fail
  generalize hw1 : World.setCell (World.setCell (World.setCell w _ _) _ _) _ _ = w1 at H1 HO1 ⊢
  have e30 : w1.cell? ⟨g, 30, none⟩ = some (.slice A n cap) := H1.out.blk.cell 30
  clear hw1 c32 c33 c31 c30 z32 z33 z31 z30 z38
  have hnon := own_none (by have := H1.out.own; rw [show (c.prog1 ix code).steps.length = n from HL.out.symm] at this; exact this)
  have HN := Lib.hid hnon
  clear hnon
  have HNE := Lib.hid (sv_ne H1.out)
  go_upto_region 2 with (first
    | (go_at_call 43
       refine (program_any set ix code 0 0 _ [] w1 HN.out (Nat.zero_le _) (by simp) HK.out.1 HK.out.2).mono ?_
       rintro e w2 ⟨v2, rfl, hst⟩
       obtain ⟨n2, ho2⟩ := hst.own
       rw [List.nil_append] at ho2
       have hn2 : n2 = (Mi.programS set ix code).length := by have := ho2.1; rw [flat_len] at this; omega
       obtain ⟨A2, c2, rfl, -, -, -⟩ := own_form ho2
       have HO2 := Lib.hid ho2
       have HN2 := Lib.hid hn2
       have HG2 := Lib.hid hst.grown
       have HP2 := Lib.hid hst.place
       have hbk : Blk w2 g 46 ((c.prog1 ix code).cells (.slice A n cap)) := H1.out.blk.grown hst.grown (fun e => HNE.out ((ownBlock_zero A n 0 cap).trans e.symm))
       have HBK := Lib.hid hbk
       have f30 : w2.cell? ⟨g, 30, none⟩ = some (.slice A n cap) := hbk.cell 30
       have y30 := hbk.frozen 30
       clear hst ho2 hn2 hbk))
  generalize hw3 : World.setCell w2 _ _ = w3
  have HSV : Hid (SvTo w1 (.slice A n cap) (.slice A2 n2 c2)) := by
    show SvTo _ _ _
    rcases HP2.out with h | h
    · exact .inl (h.trans (ownBlock_zero A 0 n cap))
    · exact .inr h
  have HCH : Hid (Ch (CpP g (.slice A n cap)) w1 w3) := by
    show Ch _ _ _
    rw [← hw3]
    have h1 : Ch (CpP g (.slice A n cap)) w1 w2 := ⟨HG2.out.os, HG2.out.tape, HG2.out.output, HG2.out.size, fun k hk hp => HG2.out.block k hk fun e => hp (.inr ((ownBlock_zero A n 0 cap).trans e.symm))⟩
    exact h1.trans (Only.set g 30 w2 _).cpp (fun _ _ h => h) fun _ _ h => h
  have H3 : Hid (CpAt w3 g (.slice A2 n2 c2) { c.prog1 ix code with steps := Mi.programS set ix code }) := by
    show CpAt _ _ _ _
    refine ⟨by rw [← hw3]; exact HBK.out.set_ 30 _, ?_⟩
    show w3.ownsRow _ _ _ _ (Mi.programS set ix code).length (flat (Mi.programS set ix code))
    rw [← HN2.out, ← hw3]
    refine own_keepC HO2.out fun k hk => (Only.set g 30 w2 _).block k fun e => ?_
    subst e
    rcases HP2.out with h | h
    · exact HNE.out ((ownBlock_zero A n 0 cap).trans (h.symm.trans hk))
    · have := h _ hk
      have := H1.out.blk.lt
      omega
  clear hw3 f30 y30 HBK HG2 HP2 HO2 HN
  have e33 : w3.cell? ⟨g, 33, none⟩ = some (.int .i64 ix) := H3.out.blk.cell 33
  have y33 := H3.out.blk.frozen 33
  have e38 : w3.cell? ⟨g, 38, none⟩ = some (.int .u16 c.ea) := H3.out.blk.cell 38
  have y38 := H3.out.blk.frozen 38
  have HFIN : Hid (∀ w5, CpTo g w3 (.slice A2 n2 c2) (c.program set ix code) w5 → CpTo g w (.slice A n cap) (c.program set ix code) w5) := Lib.hid (fun w5 h5 => CpTo.step (sv1 := .slice A n cap) (.inl rfl) HO1.out.cpp (CpTo.step HSV.out HCH.out h5))
  have HX : Hid (∀ w5, Only g w3 w5 → Blk w5 g 46 ((c.program set ix code).cells (.slice A2 n2 c2)) → CpTo g w3 (.slice A2 n2 c2) (c.program set ix code) w5) := Lib.hid (fun w5 h1 h2 => H3.out.only h1 h2 rfl)
  have hset : (set == 3) = true ∨ (set == 3) = false := by cases (set == 3) <;> simp
  have hixx : ix = 0 ∨ ix ≠ 0 := by omega
  rcases hset with hset | hset <;> rcases hixx with hix | hix
  · have hi2 : (ix == 0) = true := by rw [hix]; rfl
    have he : (c.program set ix code).ea = c.r.pair 2 0 := by simp [Cp.program, hix]
    have HEA := Lib.hid he
    clear hix he
    have H33 : Hid (Blk (w3.setCell ⟨g, 33, none⟩ (.int .i64 ix)) g 46 ({ c.prog1 ix code with steps := Mi.programS set ix code }.cells (.slice A2 n2 c2))) := Lib.hid (H3.out.blk.set_ 33 (.int .i64 ix))
    have HPR := Lib.hid (fun w (hb : Blk w g 46 ({ c.prog1 ix code with steps := Mi.programS set ix code }.cells (.slice A2 n2 c2))) => pair_any c.r 46 _ g 2 0 w hb HR.out)
    go_wp2_with (first
      | (go_at_call 44; refine (HPR.out _ H33.out).mono ?_; rintro e w4 ⟨rfl, hd4⟩; have HD4 := Lib.hid hd4; have hb4 := hd_blk hd4 H33.out; have g38 : w4.cell? ⟨g, 38, none⟩ = some (.int .u16 c.ea) := hb4.cell 38; have x38 := hb4.frozen 38; have HB4 := Lib.hid hb4; clear hd4 hb4))
    refine bodyPost_end (results_none rfl _ _ _) rfl ⟨rfl, HFIN.out _ (HX.out _ (((Only.set g 33 w3 _).trans HD4.out.only).trans (Only.set g 38 _ _)) ?_)⟩
    have := HB4.out.set_ 38 (.int .u16 (c.r.pair 2 0))
    unfold Cp.cells Cp.tail
    rw [HEA.out]
    exact this
  · have hi2 : (ix == 0) = false := by simpa using hix
    go_wp2
    refine bodyPost_end (results_none rfl _ _ _) rfl ⟨rfl, HFIN.out _ (HX.out _ (Only.set g 33 w3 _) ?_)⟩
    have := H3.out.blk.set_ 33 (.int .i64 ix)
    have he : (c.program set ix code).ea = c.ea := by simp [Cp.program, hix]
    unfold Cp.cells Cp.tail
    rw [he]
    exact this
  · have hi2 : (ix == 0) = true := by rw [hix]; rfl
    have he : (c.program set ix code).ea = c.r.pair 2 0 := by simp [Cp.program, hix]
    have HEA := Lib.hid he
    clear hix he
    have HPR := Lib.hid (fun w (hb : Blk w g 46 ({ c.prog1 ix code with steps := Mi.programS set ix code }.cells (.slice A2 n2 c2))) => pair_any c.r 46 _ g 2 0 w hb HR.out)
    go_wp2_with (first
      | (go_at_call 44; refine (HPR.out _ H3.out.blk).mono ?_; rintro e w4 ⟨rfl, hd4⟩; have HD4 := Lib.hid hd4; have hb4 := hd_blk hd4 H3.out.blk; have g38 : w4.cell? ⟨g, 38, none⟩ = some (.int .u16 c.ea) := hb4.cell 38; have x38 := hb4.frozen 38; have HB4 := Lib.hid hb4; clear hd4 hb4))
    refine bodyPost_end (results_none rfl _ _ _) rfl ⟨rfl, HFIN.out _ (HX.out _ (HD4.out.only.trans (Only.set g 38 _ _)) ?_)⟩
    have := HB4.out.set_ 38 (.int .u16 (c.r.pair 2 0))
    unfold Cp.cells Cp.tail
    rw [HEA.out]
    exact this
  · have hi2 : (ix == 0) = false := by simpa using hix
    go_wp2
    refine bodyPost_end (results_none rfl _ _ _) rfl ⟨rfl, HFIN.out _ (HX.out _ (Only.refl g w3) ?_)⟩
    have he : (c.program set ix code).ea = c.ea := by simp [Cp.program, hix]
    unfold Cp.cells Cp.tail
    rw [he]
    exact H3.out.blk
end Go.Proofs.YtbhpmnhlmeglcaaGreat
