/- A file's bytes are read as what was written: block by block. Written by gen_sppc.py. -/
import Derived.Test.YtokidpajialgbaaQSpPB
namespace Go.Proofs.Ytokidpajialgbaa
set_option linter.unusedSimpArgs false
set_option linter.unusedVariables false
namespace Rd
theorem fit_mem {m : Int} {l : List Int} (h : fitS m l = true) : ∀ x ∈ l, 0 ≤ x ∧ x ≤ m := fun x hx => by
  have := List.all_eq_true.1 h x hx
  simpa using this
theorem step_mem {l : List Int} (h : stepS l = true) : ∀ x ∈ l, -32768 ≤ x ∧ x < 32768 := fun x hx => by
  have := List.all_eq_true.1 h x hx
  simpa using this
theorem reads_sym (x : Int × List Int) (p : Int) (h1 : 0 ≤ x.1 ∧ x.1 ≤ 255) (h2 : (x.2.length : Int) = p) (h3 : ∀ y ∈ x.2, 0 ≤ y ∧ y ≤ 65535) : Reads (symM p) (symL x) x := by
  subst h2
  unfold symL
  exact Reads.bind (reads_num x.1 1 h1.1 (by simp; omega)) (Reads.bind0 (reads_numbers x.2 2 (by decide) fun y hy => by have := h3 y hy; simp; omega) (Reads.ret _))
theorem symB_spec {m : Int} {x : Int × List Int} (h : symB m x = true) : (0 ≤ x.1 ∧ x.1 ≤ 255) ∧ (x.2.length : Int) = m ∧ ∀ y ∈ x.2, 0 ≤ y ∧ y ≤ 65535 := by
  unfold symB at h
  simp only [Bool.and_eq_true] at h
  exact ⟨fit_one h.1, by simpa using h.2.1, fit_mem h.2.2⟩
theorem reads_symbols {many p : Int} {l : List (Int × List Int)} (h : symsB many p l = true) : Reads (symbolsM many.toNat p) (symsL l) l := by
  unfold symsB at h
  rw [Bool.and_eq_true] at h
  have hl : (l.length : Int) = many := by simpa using h.1
  have e : many.toNat = l.length := by omega
  rw [e]
  exact reads_loop (g := symL) l fun x hx => by
    obtain ⟨a, b, c⟩ := symB_spec (List.all_eq_true.1 h.2 x hx)
    exact reads_sym x p a b c
theorem reads_repM {below : Int} {x : Int × Int} (hb : below ≤ 256) (h : repB below x = true) : Reads (repM below) (repL x) x := by
  unfold repB at h
  rw [Bool.and_eq_true] at h
  have h1 := fit_one h.1; have h2 := fit_one h.2
  intro L rest k hd
  exact Reads.bind (f := fun x => bind (num 2) fun t => bind (if below ≤ x then failM 5 (k : Int) else ret ()) fun _ => ret (x, t)) (reads_num x.1 1 h1.1 (by simp; omega))
    (Reads.bind0 (f := fun t => bind (if below ≤ x.1 then failM 5 (k : Int) else ret ()) fun _ => ret (x.1, t)) (reads_num x.2 2 h2.1 (by simp; omega)) (by rw [if_neg (by omega)]; exact Reads.bind0 (Reads.ret ()) (Reads.ret x))) L rest k hd
theorem reads_reps {below : Int} {l : List (Int × Int)} (hb : below ≤ 256) (h : l.all (repB below) = true) : Reads (repsM l.length below) (repsL l) l :=
  reads_loop (g := repL) l fun x hx => reads_repM hb (List.all_eq_true.1 h x hx)
theorem reads_stream {below count : Int} {D : List Int} (hc : 0 ≤ count) (h : streamB D below count = true) : Reads (streamM count.toNat below) D D := by
  unfold streamB at h
  rw [Bool.and_eq_true] at h
  have hl : (D.length : Int) = ((Tz.few below : Int) * count + 8 - 1) / 8 := by simpa using h.1
  intro L rest k hd
  have e : ((((Tz.few below * count.toNat : Nat) : Int) + 8 - 1) / 8) = (D.length : Int) := by rw [hl]; push_cast; rw [Int.toNat_of_nonneg hc]
  unfold streamM Rd.bind
  rw [reads_take e.symm L rest k hd]
  simp only
  by_cases h0 : Tz.few below = 0
  · rw [if_pos h0]
  · rw [if_neg h0, if_neg ?_]
    have h2 := h.2
    rw [decide_eq_false h0, Bool.false_or] at h2
    intro h3
    rw [List.any_eq_true] at h3
    obtain ⟨i, hi, h4⟩ := h3
    have h5 := List.all_eq_true.1 h2 i hi
    simp at h4 h5
    omega
theorem reads_genA {B : TB} (h0 : 0 ≤ B.sync1 ∧ B.sync1 ≤ 255) (h : genPilotsB B = true) (h2 : B.reps.all (repB (manyN B.sync1)) = true) : Reads (genA (B.reps.length : Int) B.pilot B.sync1) (symsL B.pilots ++ repsL B.reps) (B.pilots, B.reps) := by
  unfold genA
  unfold genPilotsB at h
  split at h
  · rename_i hr
    have e1 : B.reps = [] := List.eq_nil_of_length_eq_zero hr
    have e2 : B.pilots = [] := List.eq_nil_of_length_eq_zero (by simpa using h)
    rw [e1, e2]
    simp [symsL, repsL]
    exact Reads.ret _
  · rename_i hr
    rw [if_pos (by omega)]
    have hr2 := reads_reps (manyN_le h0).2 h2
    refine Reads.bind (reads_symbols h) (Reads.bind0 ?_ (Reads.ret _))
    rw [show ((B.reps.length : Int)).toNat = B.reps.length by omega]
    exact hr2
theorem reads_genB {B : TB} (h0 : 0 ≤ B.count) (h : genSymsB B = true) : Reads (genB B.count B.zero B.one) (symsL B.syms ++ B.data) (B.syms, B.data) := by
  unfold genB
  unfold genSymsB at h
  split at h
  · rename_i hr
    rw [Bool.and_eq_true] at h
    have e1 : B.syms = [] := List.eq_nil_of_length_eq_zero (by simpa using h.1)
    have e2 : B.data = [] := List.eq_nil_of_length_eq_zero (by simpa using h.2)
    rw [e1, e2, if_neg (by omega)]
    simp [symsL]
    exact Reads.ret _
  · rename_i hr
    rw [Bool.and_eq_true] at h
    rw [if_pos (by omega)]
    exact Reads.bind (reads_symbols h.1) (Reads.bind0 (reads_stream h0 h.2) (Reads.ret _))
def genBody : RM Gen := bind (num 2) fun pa => bind (num 4) fun ma => bind (num 1) fun pi => bind (num 1) fun sy => bind (num 4) fun co => bind (num 1) fun ze => bind (num 1) fun on =>
  bind (genA ma pi sy) fun a => bind (genB co ze on) fun b => ret ⟨pa, pi, sy, co, ze, on, a.1, b.1, a.2, b.2⟩
theorem generalM_eq (at_ : Int) : generalM at_ = bind (num 4) fun q L s1 => ((genBody L s1).1, if ((genBody L s1).2.k : Int) - s1.k = q then (genBody L s1).2 else fail (genBody L s1).2 4 at_) := rfl
theorem reads_general {B : TB} (at_ : Int) (h : generalB B = true) : Reads (generalM at_) (leB ((genL B).length : Int) 4 ++ genL B) ⟨B.pause, B.pilot, B.sync1, B.count, B.zero, B.one, B.pilots, B.syms, B.reps, B.data⟩ := by
  have hW := general_W h
  have hss := symsL_len B.pilots; have hst := symsL_len B.syms
  unfold generalB at h
  simp only [Bool.and_eq_true] at h
  obtain ⟨h1, h2, h3, h4⟩ := h
  simp [genHeadB, fitS] at h1
  have hgl : (genL B).length ≤ 100000000 := by
    unfold genL
    simp only [List.length_append, leL_len, List.length_cons, List.length_nil, repsL_len]
    omega
  have hb : Reads genBody (genL B) ⟨B.pause, B.pilot, B.sync1, B.count, B.zero, B.one, B.pilots, B.syms, B.reps, B.data⟩ := by
    have e : genL B = leB B.pause 2 ++ (leB (B.reps.length : Int) 4 ++ (leB B.pilot 1 ++ (leB B.sync1 1 ++ (leB B.count 4 ++ (leB B.zero 1 ++ (leB B.one 1 ++ ((symsL B.pilots ++ repsL B.reps) ++ (symsL B.syms ++ B.data)))))))) := by
      unfold genL; simp [leL, List.append_assoc]
    rw [e]
    exact Reads.bind (reads_num _ 2 (by omega) (by simp; omega)) (Reads.bind (reads_num _ 4 (by omega) (by simp; omega)) (Reads.bind (reads_num _ 1 (by omega) (by simp; omega)) (Reads.bind (reads_num _ 1 (by omega) (by simp; omega)) (Reads.bind (reads_num _ 4 (by omega) (by simp; omega)) (Reads.bind (reads_num _ 1 (by omega) (by simp; omega)) (Reads.bind (reads_num _ 1 (by omega) (by simp; omega))
      (Reads.bind (reads_genA (by omega) h2 h3) (Reads.bind0 (reads_genB (by omega) h4) (Reads.ret _)))))))))
  rw [generalM_eq]
  intro L rest k hd
  refine Reads.bind (reads_num _ 4 (by omega) (by simp; omega)) ?_ L rest k hd
  intro L' rest' k' hd'
  simp only
  rw [hb L' rest' k' hd']
  simp only
  rw [if_pos (by push_cast; omega)]
theorem reads_pure2 (u p : Int) (d : List Int) (hu : 0 ≤ u ∧ u ≤ 255) (hp : 0 ≤ p ∧ p ≤ 65535) (hd : d.length ≤ 16777215) : Reads pureM (leB u 1 ++ (leB p 2 ++ (leB (d.length : Int) 3 ++ d))) (u, p, d) := by
  have h := reads_pure u p d hu hp hd
  simpa only [leL, List.flatMap_cons, List.flatMap_nil, List.append_nil] using h
theorem itemsL_len2 (K : Nat) (l : List (Int × List Int)) : (itemsL K l).length = 1 + (l.map fun x => x.2.length + (K + 1)).sum := by
  unfold itemsL
  rw [List.length_append, leB_len]
  congr 1
  induction l with
  | nil => rfl
  | cons x t ih => simp only [itemsT, List.flatMap_cons, List.length_append, List.map_cons, List.sum_cons] at ih ⊢; rw [ih]; simp [itemL, leB_len]; omega
theorem reads_itemsB {f : RM Int} {K : Nat} {id : Int} {l : List (Int × List Int)} (at_ : Int) (h : itemsB id l = true) (hf : ∀ x, itemB id x = true → Reads f (leB x.1 K) x.1) (hl : ∀ l, (itemsL K l).length = itemsN id l) : Reads (itemsM f at_) (leB ((itemsL K l).length : Int) 2 ++ itemsL K l) l := by
  unfold itemsB at h
  simp only [Bool.and_eq_true] at h
  have h1 := fit_one h.1
  have h2 : (itemsN id l : Int) ≤ 65535 := by simpa using h.2.2
  refine reads_items l at_ (fun x hx => hf x (List.all_eq_true.1 h.2.1 x hx)) (fun x hx => ?_) (by omega) (by rw [hl]; omega)
  have h3 := List.all_eq_true.1 h.2.1 x hx
  simp only [itemB, Bool.and_eq_true] at h3
  have := fit_one h3.1
  omega
theorem ok53_spec {B : TB} (h : ok53 B = true) : ∃ t, B.items = [(0, t)] ∧ (t.length : Int) = 16 ∧ (B.data.length : Int) ≤ 1048576 := by
  unfold ok53 at h
  split at h
  · rename_i x t e
    simp [fitS] at h
    exact ⟨t, by rw [e, h.1], by omega, by omega⟩
  · cases h
theorem Reads.to {α : Type} {m : RM α} {bs : List Int} {x y : α} (h : Reads m bs x) (e : y = x) : Reads m bs y := e ▸ h
/-- what stands behind the ID -/
def tailL (B : TB) : List Int := if isSnd B.id then sndL B else telL B
theorem reads_body_16 {B : TB} (at_ : Int) (hid : B.id = 16) (h : mayB B = true) : Reads (bodyM B.id at_) (tailL B) B := by
  obtain ⟨e, h1⟩ := may_16 hid h
  simp [fitS] at h1
  have e1 : tailL B = (leL 2 [B.pause] ++ (leB (B.data.length : Int) 2 ++ B.data)) := by unfold tailL; rw [hid]; show sndL B = _; unfold sndL; simp [hid]
  rw [e1, hid]
  try simp only [leL, List.flatMap_cons, List.flatMap_nil, List.append_nil, List.append_assoc]
  rw [show bodyM 16 at_ = bind (num 2) fun x1 => bind (dataM 2) fun x2 => ret ({ id := 16, pause := x1, data := x2 } : TB) by simp [bodyM, soundM, leadsM, tellsM]]
  refine Reads.to ?_ e
  exact Reads.bind (reads_num _ 2 (by omega) (by simp; omega)) (Reads.bind0 (reads_data _ 2 (by simp; omega)) (Reads.ret _))
theorem reads_body_17 {B : TB} (at_ : Int) (hid : B.id = 17) (h : mayB B = true) : Reads (bodyM B.id at_) (tailL B) B := by
  obtain ⟨e, h1⟩ := may_17 hid h
  simp [fitS] at h1
  have e1 : tailL B = (leL 2 [B.pilot, B.sync1, B.sync2, B.zero, B.one, B.count] ++ (leL 1 [B.used] ++ (leL 2 [B.pause] ++ (leB (B.data.length : Int) 3 ++ B.data)))) := by unfold tailL; rw [hid]; show sndL B = _; unfold sndL; simp [hid]
  rw [e1, hid]
  try simp only [leL, List.flatMap_cons, List.flatMap_nil, List.append_nil, List.append_assoc]
  rw [show bodyM 17 at_ = bind (num 2) fun x1 => bind (num 2) fun x2 => bind (num 2) fun x3 => bind (num 2) fun x4 => bind (num 2) fun x5 => bind (num 2) fun x6 => bind pureM fun x7 => ret ({ id := 17, pilot := x1, sync1 := x2, sync2 := x3, zero := x4, one := x5, count := x6, used := x7.1, pause := x7.2.1, data := x7.2.2 } : TB) by simp [bodyM, soundM, leadsM, tellsM]]
  refine Reads.to ?_ e
  exact Reads.bind (reads_num _ 2 (by omega) (by simp; omega)) (Reads.bind (reads_num _ 2 (by omega) (by simp; omega)) (Reads.bind (reads_num _ 2 (by omega) (by simp; omega)) (Reads.bind (reads_num _ 2 (by omega) (by simp; omega)) (Reads.bind (reads_num _ 2 (by omega) (by simp; omega)) (Reads.bind (reads_num _ 2 (by omega) (by simp; omega)) (Reads.bind0 (reads_pure2 _ _ _ (by omega) (by omega) (by omega)) (Reads.ret _)))))))
theorem reads_body_18 {B : TB} (at_ : Int) (hid : B.id = 18) (h : mayB B = true) : Reads (bodyM B.id at_) (tailL B) B := by
  obtain ⟨e, h1⟩ := may_18 hid h
  simp [fitS] at h1
  have e1 : tailL B = leL 2 [B.tone, B.count] := by unfold tailL; rw [hid]; show sndL B = _; unfold sndL; simp [hid]
  rw [e1, hid]
  try simp only [leL, List.flatMap_cons, List.flatMap_nil, List.append_nil, List.append_assoc]
  rw [show bodyM 18 at_ = bind (num 2) fun x1 => bind (num 2) fun x2 => ret ({ id := 18, tone := x1, count := x2 } : TB) by simp [bodyM, soundM, leadsM, tellsM]]
  refine Reads.to ?_ e
  exact Reads.bind (reads_num _ 2 (by omega) (by simp; omega)) (Reads.bind0 (reads_num _ 2 (by omega) (by simp; omega)) (Reads.ret _))
theorem reads_body_19 {B : TB} (at_ : Int) (hid : B.id = 19) (h : mayB B = true) : Reads (bodyM B.id at_) (tailL B) B := by
  obtain ⟨e, h1⟩ := may_19 hid h
  simp only [Bool.and_eq_true] at h1
  have h3 := fit_mem h1.2
  have h2 := fit_one h1.1
  have e1 : tailL B = (leL 1 [(B.times.length : Int)] ++ leL 2 B.times) := by unfold tailL; rw [hid]; show sndL B = _; unfold sndL; simp [hid]
  rw [e1, hid]
  try simp only [leL, List.flatMap_cons, List.flatMap_nil, List.append_nil, List.append_assoc]
  have hx : B.times.flatMap (fun x => leB x 2) = leL 2 B.times := rfl
  try rw [hx]
  rw [show bodyM 19 at_ = bind (num 1) fun x1 => bind (numbers x1 2) fun x2 => ret ({ id := 19, times := x2 } : TB) by simp [bodyM, soundM, leadsM, tellsM]]
  refine Reads.to ?_ e
  exact Reads.bind (reads_num _ 1 (by omega) (by simp; omega)) (Reads.bind0 (reads_numbers _ 2 (by decide) (fun y hy => by have := h3 y hy; simp; omega)) (Reads.ret _))
theorem reads_body_20 {B : TB} (at_ : Int) (hid : B.id = 20) (h : mayB B = true) : Reads (bodyM B.id at_) (tailL B) B := by
  obtain ⟨e, h1⟩ := may_20 hid h
  simp [fitS] at h1
  have e1 : tailL B = (leL 2 [B.zero, B.one] ++ (leL 1 [B.used] ++ (leL 2 [B.pause] ++ (leB (B.data.length : Int) 3 ++ B.data)))) := by unfold tailL; rw [hid]; show sndL B = _; unfold sndL; simp [hid]
  rw [e1, hid]
  try simp only [leL, List.flatMap_cons, List.flatMap_nil, List.append_nil, List.append_assoc]
  rw [show bodyM 20 at_ = bind (num 2) fun x1 => bind (num 2) fun x2 => bind pureM fun x3 => ret ({ id := 20, zero := x1, one := x2, used := x3.1, pause := x3.2.1, data := x3.2.2 } : TB) by simp [bodyM, soundM, leadsM, tellsM]]
  refine Reads.to ?_ e
  exact Reads.bind (reads_num _ 2 (by omega) (by simp; omega)) (Reads.bind (reads_num _ 2 (by omega) (by simp; omega)) (Reads.bind0 (reads_pure2 _ _ _ (by omega) (by omega) (by omega)) (Reads.ret _)))
theorem reads_body_21 {B : TB} (at_ : Int) (hid : B.id = 21) (h : mayB B = true) : Reads (bodyM B.id at_) (tailL B) B := by
  obtain ⟨e, h1⟩ := may_21 hid h
  simp [fitS] at h1
  have e1 : tailL B = (leL 2 [B.rate, B.pause] ++ (leL 1 [B.used] ++ (leB (B.data.length : Int) 3 ++ B.data))) := by unfold tailL; rw [hid]; show sndL B = _; unfold sndL; simp [hid]
  rw [e1, hid]
  try simp only [leL, List.flatMap_cons, List.flatMap_nil, List.append_nil, List.append_assoc]
  rw [show bodyM 21 at_ = bind (num 2) fun x1 => bind (num 2) fun x2 => bind (num 1) fun x3 => bind (dataM 3) fun x4 => ret ({ id := 21, rate := x1, pause := x2, used := x3, data := x4 } : TB) by simp [bodyM, soundM, leadsM, tellsM]]
  refine Reads.to ?_ e
  exact Reads.bind (reads_num _ 2 (by omega) (by simp; omega)) (Reads.bind (reads_num _ 2 (by omega) (by simp; omega)) (Reads.bind (reads_num _ 1 (by omega) (by simp; omega)) (Reads.bind0 (reads_data _ 3 (by simp; omega)) (Reads.ret _))))
theorem reads_body_24 {B : TB} (at_ : Int) (hid : B.id = 24) (h : mayB B = true) : Reads (bodyM B.id at_) (tailL B) B := by
  obtain ⟨e, h1⟩ := may_24 hid h
  simp [fitS] at h1
  have e1 : tailL B = (leL 4 [(B.data.length : Int) + 10] ++ (leL 2 [B.pause] ++ (leL 3 [B.rate] ++ (leL 1 [B.pack] ++ (leL 4 [B.count] ++ B.data))))) := by unfold tailL; rw [hid]; show sndL B = _; unfold sndL; simp [hid]
  rw [e1, hid]
  rw [show bodyM 24 at_ = bind (samplesM at_) fun x1 => ret ({ id := 24, pause := x1.1, rate := x1.2.1, pack := x1.2.2.1, count := x1.2.2.2.1, data := x1.2.2.2.2 } : TB) by simp [bodyM, soundM, leadsM, tellsM]]
  refine Reads.to ?_ e
  exact Reads.bind0 (reads_samples _ _ _ _ _ _ (by omega) (by omega) (by omega) (by omega) (by omega)) (Reads.ret _)
theorem reads_body_25 {B : TB} (at_ : Int) (hid : B.id = 25) (h : mayB B = true) : Reads (bodyM B.id at_) (tailL B) B := by
  obtain ⟨e, h1⟩ := may_25 hid h
  have e1 : tailL B = (leB ((genL B).length : Int) 4 ++ genL B) := by unfold tailL; rw [hid]; show sndL B = _; unfold sndL; simp [hid]
  rw [e1, hid]
  try simp only [leL, List.flatMap_cons, List.flatMap_nil, List.append_nil, List.append_assoc]
  rw [show bodyM 25 at_ = bind (generalM at_) fun x1 => ret ({ id := 25, pause := x1.pa, pilot := x1.pi, sync1 := x1.sy, count := x1.co, zero := x1.ze, one := x1.on, pilots := x1.pil, syms := x1.syl, reps := x1.rl, data := x1.dat } : TB) by simp [bodyM, soundM, leadsM, tellsM]]
  refine Reads.to ?_ e
  exact Reads.bind0 (reads_general _ h1) (Reads.ret _)
theorem reads_body_32 {B : TB} (at_ : Int) (hid : B.id = 32) (h : mayB B = true) : Reads (bodyM B.id at_) (tailL B) B := by
  obtain ⟨e, h1⟩ := may_32 hid h
  simp [fitS] at h1
  have e1 : tailL B = leL 2 [B.pause] := by unfold tailL; rw [hid]; show sndL B = _; unfold sndL; simp [hid]
  rw [e1, hid]
  try simp only [leL, List.flatMap_cons, List.flatMap_nil, List.append_nil, List.append_assoc]
  rw [show bodyM 32 at_ = bind (num 2) fun x1 => ret ({ id := 32, pause := x1 } : TB) by simp [bodyM, soundM, leadsM, tellsM]]
  refine Reads.to ?_ e
  exact Reads.bind0 (reads_num _ 2 (by omega) (by simp; omega)) (Reads.ret _)
theorem reads_body_34 {B : TB} (at_ : Int) (hid : B.id = 34) (h : mayB B = true) : Reads (bodyM B.id at_) (tailL B) B := by
  obtain ⟨e, h1⟩ := may_34 hid h
  have e1 : tailL B = [] := by unfold tailL; rw [hid]; show telL B = _; unfold telL; simp [hid]
  rw [e1, hid]
  try simp only [leL, List.flatMap_cons, List.flatMap_nil, List.append_nil, List.append_assoc]
  rw [show bodyM 34 at_ = ret ({ id := 34 } : TB) by simp [bodyM, soundM, leadsM, tellsM]]
  refine Reads.to ?_ e
  exact Reads.ret _
theorem reads_body_37 {B : TB} (at_ : Int) (hid : B.id = 37) (h : mayB B = true) : Reads (bodyM B.id at_) (tailL B) B := by
  obtain ⟨e, h1⟩ := may_37 hid h
  have e1 : tailL B = [] := by unfold tailL; rw [hid]; show telL B = _; unfold telL; simp [hid]
  rw [e1, hid]
  try simp only [leL, List.flatMap_cons, List.flatMap_nil, List.append_nil, List.append_assoc]
  rw [show bodyM 37 at_ = ret ({ id := 37 } : TB) by simp [bodyM, soundM, leadsM, tellsM]]
  refine Reads.to ?_ e
  exact Reads.ret _
theorem reads_body_39 {B : TB} (at_ : Int) (hid : B.id = 39) (h : mayB B = true) : Reads (bodyM B.id at_) (tailL B) B := by
  obtain ⟨e, h1⟩ := may_39 hid h
  have e1 : tailL B = [] := by unfold tailL; rw [hid]; show telL B = _; unfold telL; simp [hid]
  rw [e1, hid]
  try simp only [leL, List.flatMap_cons, List.flatMap_nil, List.append_nil, List.append_assoc]
  rw [show bodyM 39 at_ = ret ({ id := 39 } : TB) by simp [bodyM, soundM, leadsM, tellsM]]
  refine Reads.to ?_ e
  exact Reads.ret _
theorem reads_body_33 {B : TB} (at_ : Int) (hid : B.id = 33) (h : mayB B = true) : Reads (bodyM B.id at_) (tailL B) B := by
  obtain ⟨e, h1⟩ := may_33 hid h
  simp [fitS] at h1
  have e1 : tailL B = (leB (B.data.length : Int) 1 ++ B.data) := by unfold tailL; rw [hid]; show telL B = _; unfold telL; simp [hid]
  rw [e1, hid]
  try simp only [leL, List.flatMap_cons, List.flatMap_nil, List.append_nil, List.append_assoc]
  rw [show bodyM 33 at_ = bind (dataM 1) fun x1 => ret ({ id := 33, data := x1 } : TB) by simp [bodyM, soundM, leadsM, tellsM]]
  refine Reads.to ?_ e
  exact Reads.bind0 (reads_data _ 1 (by simp; omega)) (Reads.ret _)
theorem reads_body_48 {B : TB} (at_ : Int) (hid : B.id = 48) (h : mayB B = true) : Reads (bodyM B.id at_) (tailL B) B := by
  obtain ⟨e, h1⟩ := may_48 hid h
  simp [fitS] at h1
  have e1 : tailL B = (leB (B.data.length : Int) 1 ++ B.data) := by unfold tailL; rw [hid]; show telL B = _; unfold telL; simp [hid]
  rw [e1, hid]
  try simp only [leL, List.flatMap_cons, List.flatMap_nil, List.append_nil, List.append_assoc]
  rw [show bodyM 48 at_ = bind (dataM 1) fun x1 => ret ({ id := 48, data := x1 } : TB) by simp [bodyM, soundM, leadsM, tellsM]]
  refine Reads.to ?_ e
  exact Reads.bind0 (reads_data _ 1 (by simp; omega)) (Reads.ret _)
theorem reads_body_35 {B : TB} (at_ : Int) (hid : B.id = 35) (h : mayB B = true) : Reads (bodyM B.id at_) (tailL B) B := by
  obtain ⟨e, h1⟩ := may_35 hid h
  simp only [Bool.and_eq_true] at h1
  have h2 : B.times.length = 1 := by have := h1.1; simp at this; omega
  have h4 : Reads (signedM 1) (leL 2 B.times) B.times := by have h5 := reads_signedM B.times (step_mem h1.2); rwa [h2] at h5
  have e1 : tailL B = leL 2 B.times := by unfold tailL; rw [hid]; show telL B = _; unfold telL; simp [hid]
  rw [e1, hid]
  try simp only [leL, List.flatMap_cons, List.flatMap_nil, List.append_nil, List.append_assoc]
  have hx : B.times.flatMap (fun x => leB x 2) = leL 2 B.times := rfl
  try rw [hx]
  rw [show bodyM 35 at_ = bind (signedM 1) fun x1 => ret ({ id := 35, times := x1 } : TB) by simp [bodyM, soundM, leadsM, tellsM]]
  refine Reads.to ?_ e
  exact Reads.bind0 (h4) (Reads.ret _)
theorem reads_body_36 {B : TB} (at_ : Int) (hid : B.id = 36) (h : mayB B = true) : Reads (bodyM B.id at_) (tailL B) B := by
  obtain ⟨e, h1⟩ := may_36 hid h
  simp [fitS] at h1
  have e1 : tailL B = leL 2 [B.count] := by unfold tailL; rw [hid]; show telL B = _; unfold telL; simp [hid]
  rw [e1, hid]
  try simp only [leL, List.flatMap_cons, List.flatMap_nil, List.append_nil, List.append_assoc]
  rw [show bodyM 36 at_ = bind (num 2) fun x1 => ret ({ id := 36, count := x1 } : TB) by simp [bodyM, soundM, leadsM, tellsM]]
  refine Reads.to ?_ e
  exact Reads.bind0 (reads_num _ 2 (by omega) (by simp; omega)) (Reads.ret _)
theorem reads_body_38 {B : TB} (at_ : Int) (hid : B.id = 38) (h : mayB B = true) : Reads (bodyM B.id at_) (tailL B) B := by
  obtain ⟨e, h1⟩ := may_38 hid h
  simp only [Bool.and_eq_true] at h1
  have h2 := fit_one h1.1
  have h4 : Reads (signedM ((B.times.length : Int)).toNat) (leL 2 B.times) B.times := reads_signedM B.times (step_mem h1.2)
  have e1 : tailL B = (leL 2 [(B.times.length : Int)] ++ leL 2 B.times) := by unfold tailL; rw [hid]; show telL B = _; unfold telL; simp [hid]
  rw [e1, hid]
  try simp only [leL, List.flatMap_cons, List.flatMap_nil, List.append_nil, List.append_assoc]
  have hx : B.times.flatMap (fun x => leB x 2) = leL 2 B.times := rfl
  try rw [hx]
  rw [show bodyM 38 at_ = bind (num 2) fun x1 => bind (signedM x1.toNat) fun x2 => ret ({ id := 38, times := x2 } : TB) by simp [bodyM, soundM, leadsM, tellsM]]
  refine Reads.to ?_ e
  exact Reads.bind (reads_num _ 2 (by omega) (by simp; omega)) (Reads.bind0 (h4) (Reads.ret _))
theorem reads_body_40 {B : TB} (at_ : Int) (hid : B.id = 40) (h : mayB B = true) : Reads (bodyM B.id at_) (tailL B) B := by
  obtain ⟨e, h1⟩ := may_40 hid h
  have h4 := reads_itemsB (K := 2) (f := signed) at_ (id := 40) h1 (fun x h => by simp only [itemB, Bool.and_eq_true, if_true] at h; have := step_mem h.2 x.1 (by simp); exact reads_signed x.1 this.1 this.2) (fun l => by rw [itemsL_len2]; unfold itemsN; rw [show (fun x : Int × List Int => x.2.length + (2 + 1)) = itemN 40 from funext fun x => by simp [itemN]])
  have e1 : tailL B = (leB ((itemsL 2 B.items).length : Int) 2 ++ itemsL 2 B.items) := by unfold tailL; rw [hid]; show telL B = _; unfold telL; simp [hid]
  rw [e1, hid]
  try simp only [leL, List.flatMap_cons, List.flatMap_nil, List.append_nil, List.append_assoc]
  rw [show bodyM 40 at_ = bind (itemsM signed at_) fun x1 => ret ({ id := 40, items := x1 } : TB) by simp [bodyM, soundM, leadsM, tellsM]]
  refine Reads.to ?_ e
  exact Reads.bind0 (h4) (Reads.ret _)
theorem reads_body_42 {B : TB} (at_ : Int) (hid : B.id = 42) (h : mayB B = true) : Reads (bodyM B.id at_) (tailL B) B := by
  obtain ⟨e, h1⟩ := may_42 hid h
  simp [fitS] at h1
  have e1 : tailL B = leL 4 [0] := by unfold tailL; rw [hid]; show telL B = _; unfold telL; simp [hid]
  rw [e1, hid]
  try simp only [leL, List.flatMap_cons, List.flatMap_nil, List.append_nil, List.append_assoc]
  rw [show bodyM 42 at_ = bind (fixed 0) fun x1 => ret ({ id := 42 } : TB) by simp [bodyM, soundM, leadsM, tellsM]]
  refine Reads.to ?_ e
  exact Reads.bind0 (reads_fixed 0 (by decide) (by decide)) (Reads.ret _)
theorem reads_body_43 {B : TB} (at_ : Int) (hid : B.id = 43) (h : mayB B = true) : Reads (bodyM B.id at_) (tailL B) B := by
  obtain ⟨e, h1⟩ := may_43 hid h
  simp [fitS] at h1
  have e1 : tailL B = (leL 4 [1] ++ leL 1 [B.used]) := by unfold tailL; rw [hid]; show telL B = _; unfold telL; simp [hid]
  rw [e1, hid]
  rw [show bodyM 43 at_ = bind levelM fun x1 => ret ({ id := 43, used := x1 } : TB) by simp [bodyM, soundM, leadsM, tellsM]]
  refine Reads.to ?_ e
  exact Reads.bind0 (reads_level _ (by omega)) (Reads.ret _)
theorem reads_body_49 {B : TB} (at_ : Int) (hid : B.id = 49) (h : mayB B = true) : Reads (bodyM B.id at_) (tailL B) B := by
  obtain ⟨e, h1⟩ := may_49 hid h
  simp [fitS] at h1
  have e1 : tailL B = (leL 1 [B.count] ++ (leB (B.data.length : Int) 1 ++ B.data)) := by unfold tailL; rw [hid]; show telL B = _; unfold telL; simp [hid]
  rw [e1, hid]
  try simp only [leL, List.flatMap_cons, List.flatMap_nil, List.append_nil, List.append_assoc]
  rw [show bodyM 49 at_ = bind (num 1) fun x1 => bind (dataM 1) fun x2 => ret ({ id := 49, count := x1, data := x2 } : TB) by simp [bodyM, soundM, leadsM, tellsM]]
  refine Reads.to ?_ e
  exact Reads.bind (reads_num _ 1 (by omega) (by simp; omega)) (Reads.bind0 (reads_data _ 1 (by simp; omega)) (Reads.ret _))
theorem reads_body_50 {B : TB} (at_ : Int) (hid : B.id = 50) (h : mayB B = true) : Reads (bodyM B.id at_) (tailL B) B := by
  obtain ⟨e, h1⟩ := may_50 hid h
  have h4 := reads_itemsB (K := 1) (f := num 1) at_ (id := 50) h1 (fun x h => by simp only [itemB, Bool.and_eq_true] at h; have := fit_one h.2; exact reads_num x.1 1 this.1 (by simp; omega)) (fun l => by rw [itemsL_len2]; unfold itemsN; rw [show (fun x : Int × List Int => x.2.length + (1 + 1)) = itemN 50 from funext fun x => by simp [itemN]])
  have e1 : tailL B = (leB ((itemsL 1 B.items).length : Int) 2 ++ itemsL 1 B.items) := by unfold tailL; rw [hid]; show telL B = _; unfold telL; simp [hid]
  rw [e1, hid]
  try simp only [leL, List.flatMap_cons, List.flatMap_nil, List.append_nil, List.append_assoc]
  rw [show bodyM 50 at_ = bind (itemsM (num 1) at_) fun x1 => ret ({ id := 50, items := x1 } : TB) by simp [bodyM, soundM, leadsM, tellsM]]
  refine Reads.to ?_ e
  exact Reads.bind0 (h4) (Reads.ret _)
theorem reads_body_51 {B : TB} (at_ : Int) (hid : B.id = 51) (h : mayB B = true) : Reads (bodyM B.id at_) (tailL B) B := by
  obtain ⟨e, h1⟩ := may_51 hid h
  simp only [Bool.and_eq_true] at h1
  have h2 := fit_one h1.1
  have h6 : (B.times.length : Int) % 3 = 0 := by have := h1.2.1; simp at this; omega
  have h3 := fit_mem h1.2.2
  have h4 : Reads (numbers (3 * ((B.times.length : Int) / 3)) 1) (leL 1 B.times) B.times := by
    rw [show 3 * ((B.times.length : Int) / 3) = (B.times.length : Int) by omega]
    exact reads_numbers _ 1 (by decide) (fun y hy => by have := h3 y hy; simp; omega)
  have e1 : tailL B = (leL 1 [(B.times.length : Int) / 3] ++ leL 1 B.times) := by unfold tailL; rw [hid]; show telL B = _; unfold telL; simp [hid]
  rw [e1, hid]
  try simp only [leL, List.flatMap_cons, List.flatMap_nil, List.append_nil, List.append_assoc]
  have hx : B.times.flatMap (fun x => leB x 1) = leL 1 B.times := rfl
  try rw [hx]
  rw [show bodyM 51 at_ = bind (num 1) fun x1 => bind (numbers (3 * x1) 1) fun x2 => ret ({ id := 51, times := x2 } : TB) by simp [bodyM, soundM, leadsM, tellsM]]
  refine Reads.to ?_ e
  exact Reads.bind (reads_num _ 1 (by omega) (by simp; omega)) (Reads.bind0 (h4) (Reads.ret _))
theorem reads_body_52 {B : TB} (at_ : Int) (hid : B.id = 52) (h : mayB B = true) : Reads (bodyM B.id at_) (tailL B) B := by
  obtain ⟨e, h1⟩ := may_52 hid h
  simp [fitS] at h1
  have e1 : tailL B = B.data := by unfold tailL; rw [hid]; show telL B = _; unfold telL; simp [hid]
  rw [e1, hid]
  try simp only [leL, List.flatMap_cons, List.flatMap_nil, List.append_nil, List.append_assoc]
  rw [show bodyM 52 at_ = bind (take 8) fun x1 => ret ({ id := 52, data := x1 } : TB) by simp [bodyM, soundM, leadsM, tellsM]]
  refine Reads.to ?_ e
  exact Reads.bind0 (reads_take (by omega)) (Reads.ret _)
theorem reads_body_90 {B : TB} (at_ : Int) (hid : B.id = 90) (h : mayB B = true) : Reads (bodyM B.id at_) (tailL B) B := by
  obtain ⟨e, h1⟩ := may_90 hid h
  have h2 : (B.data.length : Int) = 9 := by unfold ok90 at h1; rw [Bool.and_eq_true] at h1; simpa using h1.1
  have h3 : B.data.take 7 = [88, 84, 97, 112, 101, 33, 26] := by unfold ok90 at h1; rw [Bool.and_eq_true] at h1; exact of_decide_eq_true h1.2
  have e1 : tailL B = B.data := by unfold tailL; rw [hid]; show telL B = _; unfold telL; simp [hid]
  rw [e1, hid]
  try simp only [leL, List.flatMap_cons, List.flatMap_nil, List.append_nil, List.append_assoc]
  rw [show bodyM 90 at_ = bind gluedM fun x1 => ret ({ id := 90, data := x1 } : TB) by simp [bodyM, soundM, leadsM, tellsM]]
  refine Reads.to ?_ e
  exact Reads.bind0 (reads_glued _ (by omega) h3) (Reads.ret _)
theorem reads_body_53 {B : TB} (at_ : Int) (hid : B.id = 53) (h : mayB B = true) : Reads (bodyM B.id at_) (tailL B) B := by
  obtain ⟨e, h1⟩ := may_53 hid h
  obtain ⟨t, e53, h5, h6⟩ := ok53_spec h1
  have e7 : text53 B = t := by unfold text53; rw [e53]
  rw [e53] at e
  have e1 : tailL B = (text53 B ++ (leB (B.data.length : Int) 4 ++ B.data)) := by unfold tailL; rw [hid]; show telL B = _; unfold telL; simp [hid]
  rw [e1, hid]
  rw [e7]
  try simp only [leL, List.flatMap_cons, List.flatMap_nil, List.append_nil, List.append_assoc]
  rw [show bodyM 53 at_ = bind (take 16) fun x1 => bind (dataM 4) fun x2 => ret ({ id := 53, items := [(0, x1)], data := x2 } : TB) by simp [bodyM, soundM, leadsM, tellsM]]
  refine Reads.to ?_ e
  exact Reads.bind (reads_take (by omega)) (Reads.bind0 (reads_data _ 4 (by simp; omega)) (Reads.ret _))
end Rd
end Go.Proofs.Ytokidpajialgbaa
