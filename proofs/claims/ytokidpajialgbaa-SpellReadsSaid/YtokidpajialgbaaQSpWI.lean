/- spell.out: sounds and tells over any block that may be. Written by gen_spwi.py. -/
import Derived.Test.YtokidpajialgbaaQSpWH
import Derived.Test.YtokidpajialgbaaQSpPA
namespace Go.Proofs.Ytokidpajialgbaa
set_option linter.unusedSimpArgs false
set_option linter.unusedVariables false
open Go.RowKit
def isSnd (id : Int) : Bool := decide (id = 16) || decide (id = 17) || decide (id = 18) || decide (id = 19) || decide (id = 20) || decide (id = 21) || decide (id = 24) || decide (id = 25) || decide (id = 32)
def sndL (B : TB) : List Int :=
  if B.id = 16 then (leL 2 [B.pause] ++ (leB (B.data.length : Int) 2 ++ B.data)) else
  if B.id = 17 then (leL 2 [B.pilot, B.sync1, B.sync2, B.zero, B.one, B.count] ++ (leL 1 [B.used] ++ (leL 2 [B.pause] ++ (leB (B.data.length : Int) 3 ++ B.data)))) else
  if B.id = 18 then leL 2 [B.tone, B.count] else
  if B.id = 19 then (leL 1 [(B.times.length : Int)] ++ leL 2 B.times) else
  if B.id = 20 then (leL 2 [B.zero, B.one] ++ (leL 1 [B.used] ++ (leL 2 [B.pause] ++ (leB (B.data.length : Int) 3 ++ B.data)))) else
  if B.id = 21 then (leL 2 [B.rate, B.pause] ++ (leL 1 [B.used] ++ (leB (B.data.length : Int) 3 ++ B.data))) else
  if B.id = 24 then (leL 4 [(B.data.length : Int) + 10] ++ (leL 2 [B.pause] ++ (leL 3 [B.rate] ++ (leL 1 [B.pack] ++ (leL 4 [B.count] ++ B.data))))) else
  if B.id = 25 then (leB ((genL B).length : Int) 4 ++ genL B) else
  if B.id = 32 then leL 2 [B.pause] else
  []
def telL (B : TB) : List Int :=
  if B.id = 34 then [] else
  if B.id = 37 then [] else
  if B.id = 39 then [] else
  if B.id = 33 then (leB (B.data.length : Int) 1 ++ B.data) else
  if B.id = 48 then (leB (B.data.length : Int) 1 ++ B.data) else
  if B.id = 35 then leL 2 B.times else
  if B.id = 36 then leL 2 [B.count] else
  if B.id = 38 then (leL 2 [(B.times.length : Int)] ++ leL 2 B.times) else
  if B.id = 40 then (leB ((itemsL 2 B.items).length : Int) 2 ++ itemsL 2 B.items) else
  if B.id = 42 then leL 4 [0] else
  if B.id = 43 then (leL 4 [1] ++ leL 1 [B.used]) else
  if B.id = 49 then (leL 1 [B.count] ++ (leB (B.data.length : Int) 1 ++ B.data)) else
  if B.id = 50 then (leB ((itemsL 1 B.items).length : Int) 2 ++ itemsL 1 B.items) else
  if B.id = 51 then (leL 1 [(B.times.length : Int) / 3] ++ leL 1 B.times) else
  if B.id = 52 then B.data else
  if B.id = 90 then B.data else
  if B.id = 53 then (text53 B ++ (leB (B.data.length : Int) 4 ++ B.data)) else
  (leB (B.data.length : Int) 4 ++ B.data)
/-- a block as bytes -/
def bytB (B : TB) : List Int := leB B.id 1 ++ if isSnd B.id then sndL B else telL B
theorem sounds_w (P base : Nat) (cs : List Value) (B : TB) (L : List Int) (w0 w : World) (v : Value) (hT : Tape0 w0 w base P) (h : TBV w0 cs B) (ho : OutS w P base v L) (hL : L.length + wB B ≤ 100000000) :
    Calls Try.prog 26 #[.pointer (some ⟨P, 0, none⟩), .agg cs.toArray] w (SoP (isSnd B.id) P base (L ++ sndL B) w v) := by
  by_cases h16 : B.id = 16
  · have e1 : isSnd B.id = true := by rw [h16]; rfl
    have e2 : sndL B = (leL 2 [B.pause] ++ (leB (B.data.length : Int) 2 ++ B.data)) := by unfold sndL; simp [h16]
    rw [e1, e2]; exact ws_16 P base cs B L w0 w v hT h ho hL h16
  by_cases h17 : B.id = 17
  · have e1 : isSnd B.id = true := by rw [h17]; rfl
    have e2 : sndL B = (leL 2 [B.pilot, B.sync1, B.sync2, B.zero, B.one, B.count] ++ (leL 1 [B.used] ++ (leL 2 [B.pause] ++ (leB (B.data.length : Int) 3 ++ B.data)))) := by unfold sndL; simp [h17]
    rw [e1, e2]; exact ws_17 P base cs B L w0 w v hT h ho hL h17
  by_cases h18 : B.id = 18
  · have e1 : isSnd B.id = true := by rw [h18]; rfl
    have e2 : sndL B = leL 2 [B.tone, B.count] := by unfold sndL; simp [h18]
    rw [e1, e2]; exact ws_18 P base cs B L w0 w v hT h ho hL h18
  by_cases h19 : B.id = 19
  · have e1 : isSnd B.id = true := by rw [h19]; rfl
    have e2 : sndL B = (leL 1 [(B.times.length : Int)] ++ leL 2 B.times) := by unfold sndL; simp [h19]
    rw [e1, e2]; exact ws_19 P base cs B L w0 w v hT h ho hL h19
  by_cases h20 : B.id = 20
  · have e1 : isSnd B.id = true := by rw [h20]; rfl
    have e2 : sndL B = (leL 2 [B.zero, B.one] ++ (leL 1 [B.used] ++ (leL 2 [B.pause] ++ (leB (B.data.length : Int) 3 ++ B.data)))) := by unfold sndL; simp [h20]
    rw [e1, e2]; exact ws_20 P base cs B L w0 w v hT h ho hL h20
  by_cases h21 : B.id = 21
  · have e1 : isSnd B.id = true := by rw [h21]; rfl
    have e2 : sndL B = (leL 2 [B.rate, B.pause] ++ (leL 1 [B.used] ++ (leB (B.data.length : Int) 3 ++ B.data))) := by unfold sndL; simp [h21]
    rw [e1, e2]; exact ws_21 P base cs B L w0 w v hT h ho hL h21
  by_cases h24 : B.id = 24
  · have e1 : isSnd B.id = true := by rw [h24]; rfl
    have e2 : sndL B = (leL 4 [(B.data.length : Int) + 10] ++ (leL 2 [B.pause] ++ (leL 3 [B.rate] ++ (leL 1 [B.pack] ++ (leL 4 [B.count] ++ B.data))))) := by unfold sndL; simp [h24]
    rw [e1, e2]; exact ws_24 P base cs B L w0 w v hT h ho hL h24
  by_cases h25 : B.id = 25
  · have e1 : isSnd B.id = true := by rw [h25]; rfl
    have e2 : sndL B = (leB ((genL B).length : Int) 4 ++ genL B) := by unfold sndL; simp [h25]
    rw [e1, e2]; exact ws_25 P base cs B L w0 w v hT h ho hL h25
  by_cases h32 : B.id = 32
  · have e1 : isSnd B.id = true := by rw [h32]; rfl
    have e2 : sndL B = leL 2 [B.pause] := by unfold sndL; simp [h32]
    rw [e1, e2]; exact ws_32 P base cs B L w0 w v hT h ho hL h32
  have e1 : isSnd B.id = false := by simp [isSnd]; omega
  have e2 : sndL B = [] := by unfold sndL; simp only [h16, h17, h18, h19, h20, h21, h24, h25, h32, if_false]
  rw [e1, e2]; exact ws_def P base cs B L w0 w v hT h ho hL (fun k hk => by simp only [List.mem_cons, List.not_mem_nil, or_false] at hk; omega)
theorem tells_w (P base : Nat) (cs : List Value) (B : TB) (L : List Int) (w0 w : World) (v : Value) (hT : Tape0 w0 w base P) (h : TBV w0 cs B) (ho : OutS w P base v L) (hL : L.length + wB B ≤ 100000000) (h53 : B.id = 53 → B.items.length = 1) :
    Calls Try.prog 27 #[.pointer (some ⟨P, 0, none⟩), .agg cs.toArray] w (WrP P base (L ++ telL B) w v) := by
  by_cases h34 : B.id = 34
  · have e2 : telL B = [] := by unfold telL; simp [h34]
    rw [e2]; exact wt_34 P base cs B L w0 w v hT h ho hL h34
  by_cases h37 : B.id = 37
  · have e2 : telL B = [] := by unfold telL; simp [h37]
    rw [e2]; exact wt_37 P base cs B L w0 w v hT h ho hL h37
  by_cases h39 : B.id = 39
  · have e2 : telL B = [] := by unfold telL; simp [h39]
    rw [e2]; exact wt_39 P base cs B L w0 w v hT h ho hL h39
  by_cases h33 : B.id = 33
  · have e2 : telL B = (leB (B.data.length : Int) 1 ++ B.data) := by unfold telL; simp [h33]
    rw [e2]; exact wt_33 P base cs B L w0 w v hT h ho hL h33
  by_cases h48 : B.id = 48
  · have e2 : telL B = (leB (B.data.length : Int) 1 ++ B.data) := by unfold telL; simp [h48]
    rw [e2]; exact wt_48 P base cs B L w0 w v hT h ho hL h48
  by_cases h35 : B.id = 35
  · have e2 : telL B = leL 2 B.times := by unfold telL; simp [h35]
    rw [e2]; exact wt_35 P base cs B L w0 w v hT h ho hL h35
  by_cases h36 : B.id = 36
  · have e2 : telL B = leL 2 [B.count] := by unfold telL; simp [h36]
    rw [e2]; exact wt_36 P base cs B L w0 w v hT h ho hL h36
  by_cases h38 : B.id = 38
  · have e2 : telL B = (leL 2 [(B.times.length : Int)] ++ leL 2 B.times) := by unfold telL; simp [h38]
    rw [e2]; exact wt_38 P base cs B L w0 w v hT h ho hL h38
  by_cases h40 : B.id = 40
  · have e2 : telL B = (leB ((itemsL 2 B.items).length : Int) 2 ++ itemsL 2 B.items) := by unfold telL; simp [h40]
    rw [e2]; exact wt_40 P base cs B L w0 w v hT h ho hL h40
  by_cases h42 : B.id = 42
  · have e2 : telL B = leL 4 [0] := by unfold telL; simp [h42]
    rw [e2]; exact wt_42 P base cs B L w0 w v hT h ho hL h42
  by_cases h43 : B.id = 43
  · have e2 : telL B = (leL 4 [1] ++ leL 1 [B.used]) := by unfold telL; simp [h43]
    rw [e2]; exact wt_43 P base cs B L w0 w v hT h ho hL h43
  by_cases h49 : B.id = 49
  · have e2 : telL B = (leL 1 [B.count] ++ (leB (B.data.length : Int) 1 ++ B.data)) := by unfold telL; simp [h49]
    rw [e2]; exact wt_49 P base cs B L w0 w v hT h ho hL h49
  by_cases h50 : B.id = 50
  · have e2 : telL B = (leB ((itemsL 1 B.items).length : Int) 2 ++ itemsL 1 B.items) := by unfold telL; simp [h50]
    rw [e2]; exact wt_50 P base cs B L w0 w v hT h ho hL h50
  by_cases h51 : B.id = 51
  · have e2 : telL B = (leL 1 [(B.times.length : Int) / 3] ++ leL 1 B.times) := by unfold telL; simp [h51]
    rw [e2]; exact wt_51 P base cs B L w0 w v hT h ho hL h51
  by_cases h52 : B.id = 52
  · have e2 : telL B = B.data := by unfold telL; simp [h52]
    rw [e2]; exact wt_52 P base cs B L w0 w v hT h ho hL h52
  by_cases h90 : B.id = 90
  · have e2 : telL B = B.data := by unfold telL; simp [h90]
    rw [e2]; exact wt_90 P base cs B L w0 w v hT h ho hL h90
  by_cases h53_ : B.id = 53
  · have e2 : telL B = (text53 B ++ (leB (B.data.length : Int) 4 ++ B.data)) := by unfold telL; simp [h53_]
    rw [e2]; exact wt_53 P base cs B L w0 w v hT h ho hL h53_ (h53 h53_)
  have e2 : telL B = (leB (B.data.length : Int) 4 ++ B.data) := by unfold telL; simp only [h34, h37, h39, h33, h48, h35, h36, h38, h40, h42, h43, h49, h50, h51, h52, h90, h53_, if_false]
  rw [e2]; exact wt_def P base cs B L w0 w v hT h ho hL (fun k hk => by simp only [List.mem_cons, List.not_mem_nil, or_false] at hk; omega)
theorem symsW_le {l : List (Int × List Int)} (h : ∀ x ∈ l, x.2.length ≤ 255) : symsW l ≤ l.length * 1024 := by
  induction l with
  | nil => simp [symsW]
  | cons x t ih =>
    have h1 := h x (by simp)
    have h2 := ih (fun y hy => h y (by simp [hy]))
    simp only [symsW, List.map_cons, List.sum_cons, List.length_cons] at h2 ⊢
    omega
theorem symsB_W {many m : Int} {l : List (Int × List Int)} (h : symsB many m l = true) (h1 : many ≤ 256) (h2 : m ≤ 255) : symsW l ≤ 262144 := by
  unfold symsB at h
  rw [Bool.and_eq_true] at h
  have h3 : (l.length : Int) = many := by simpa using h.1
  refine Nat.le_trans (symsW_le fun x hx => ?_) (by omega)
  have h4 := List.all_eq_true.1 h.2 x hx
  simp [symB] at h4
  omega
theorem manyN_le {n : Int} (h : 0 ≤ n ∧ n ≤ 255) : 1 ≤ manyN n ∧ manyN n ≤ 256 := by unfold manyN; split <;> omega
theorem symsW_nil {l : List (Int × List Int)} (h : l.length = 0) : symsW l = 0 := by rw [List.eq_nil_of_length_eq_zero h]; rfl
theorem general_W {B : TB} (h : generalB B = true) : symsW B.pilots ≤ 262144 ∧ symsW B.syms ≤ 262144 ∧ B.reps.length ≤ 1048576 ∧ B.data.length ≤ 1048576 := by
  unfold generalB at h
  simp only [Bool.and_eq_true] at h
  obtain ⟨h1, h2, h3, h4⟩ := h
  have h5 := h1
  simp [genHeadB, fitS] at h1
  refine ⟨?_, ?_, by omega, by omega⟩
  · unfold genPilotsB at h2
    split at h2
    · rw [symsW_nil (by simpa using h2)]; omega
    · exact symsB_W h2 (manyN_le (by omega)).2 (by omega)
  · unfold genSymsB at h4
    split at h4
    · rw [Bool.and_eq_true] at h4
      rw [symsW_nil (by simpa using h4.1)]; omega
    · rw [Bool.and_eq_true] at h4
      exact symsB_W h4.1 (manyN_le (by omega)).2 (by omega)
theorem itemsW_N (id : Int) (l : List (Int × List Int)) : itemsW l ≤ 4 * itemsN id l := by
  unfold itemsW itemsN
  have : (l.map fun x => 8 + x.2.length).sum ≤ 4 * (l.map (itemN id)).sum := by
    induction l with
    | nil => simp
    | cons x t ih => simp only [List.map_cons, List.sum_cons, itemN] at ih ⊢; split <;> omega
  omega
theorem items_W {id : Int} {l : List (Int × List Int)} (h : itemsB id l = true) : itemsW l ≤ 262140 ∧ l.length ≤ 255 := by
  unfold itemsB at h
  simp only [Bool.and_eq_true] at h
  have h1 := fit_one h.1
  have h2 : (itemsN id l : Int) ≤ 65535 := by simpa using h.2.2
  have := itemsW_N id l
  omega
theorem ok53_items {B : TB} (h : ok53 B = true) : B.items.length = 1 ∧ itemsW B.items ≤ 24 ∧ B.data.length ≤ 1048576 := by
  unfold ok53 at h
  split at h
  · rename_i x t e
    simp [fitS] at h
    rw [e]
    simp [itemsW]
    omega
  · cases h
theorem may_small {B : TB} (h : mayB B = true) : wB B ≤ 40000000 ∧ B.times.length ≤ 65535 ∧ B.items.length ≤ 255 ∧ (B.id = 53 → B.items.length = 1) := by
  by_cases h16 : B.id = 16
  · obtain ⟨e, h1⟩ := may_16 h16 h
    simp [fitS] at h1
    refine ⟨?_, ?_, ?_, fun e2 => by omega⟩ <;> rw [e] <;> simp [wB, symsW, itemsW] <;> omega
  by_cases h17 : B.id = 17
  · obtain ⟨e, h1⟩ := may_17 h17 h
    simp [fitS] at h1
    refine ⟨?_, ?_, ?_, fun e2 => by omega⟩ <;> rw [e] <;> simp [wB, symsW, itemsW] <;> omega
  by_cases h18 : B.id = 18
  · obtain ⟨e, h1⟩ := may_18 h18 h
    simp [fitS] at h1
    refine ⟨?_, ?_, ?_, fun e2 => by omega⟩ <;> rw [e] <;> simp [wB, symsW, itemsW] <;> omega
  by_cases h19 : B.id = 19
  · obtain ⟨e, h1⟩ := may_19 h19 h
    simp [fitS] at h1
    refine ⟨?_, ?_, ?_, fun e2 => by omega⟩ <;> rw [e] <;> simp [wB, symsW, itemsW] <;> omega
  by_cases h20 : B.id = 20
  · obtain ⟨e, h1⟩ := may_20 h20 h
    simp [fitS] at h1
    refine ⟨?_, ?_, ?_, fun e2 => by omega⟩ <;> rw [e] <;> simp [wB, symsW, itemsW] <;> omega
  by_cases h21 : B.id = 21
  · obtain ⟨e, h1⟩ := may_21 h21 h
    simp [fitS] at h1
    refine ⟨?_, ?_, ?_, fun e2 => by omega⟩ <;> rw [e] <;> simp [wB, symsW, itemsW] <;> omega
  by_cases h24 : B.id = 24
  · obtain ⟨e, h1⟩ := may_24 h24 h
    simp [fitS] at h1
    refine ⟨?_, ?_, ?_, fun e2 => by omega⟩ <;> rw [e] <;> simp [wB, symsW, itemsW] <;> omega
  by_cases h25 : B.id = 25
  · obtain ⟨e, h1⟩ := may_25 h25 h
    have h2 := general_W h1
    refine ⟨?_, ?_, ?_, fun e2 => by omega⟩ <;> rw [e] <;> simp [wB, symsW, itemsW] <;> simp [symsW] at h2 <;> omega
  by_cases h32 : B.id = 32
  · obtain ⟨e, h1⟩ := may_32 h32 h
    simp [fitS] at h1
    refine ⟨?_, ?_, ?_, fun e2 => by omega⟩ <;> rw [e] <;> simp [wB, symsW, itemsW] <;> omega
  by_cases h34 : B.id = 34
  · obtain ⟨e, h1⟩ := may_34 h34 h
    simp [fitS] at h1
    refine ⟨?_, ?_, ?_, fun e2 => by omega⟩ <;> rw [e] <;> simp [wB, symsW, itemsW] <;> omega
  by_cases h37 : B.id = 37
  · obtain ⟨e, h1⟩ := may_37 h37 h
    simp [fitS] at h1
    refine ⟨?_, ?_, ?_, fun e2 => by omega⟩ <;> rw [e] <;> simp [wB, symsW, itemsW] <;> omega
  by_cases h39 : B.id = 39
  · obtain ⟨e, h1⟩ := may_39 h39 h
    simp [fitS] at h1
    refine ⟨?_, ?_, ?_, fun e2 => by omega⟩ <;> rw [e] <;> simp [wB, symsW, itemsW] <;> omega
  by_cases h33 : B.id = 33
  · obtain ⟨e, h1⟩ := may_33 h33 h
    simp [fitS] at h1
    refine ⟨?_, ?_, ?_, fun e2 => by omega⟩ <;> rw [e] <;> simp [wB, symsW, itemsW] <;> omega
  by_cases h48 : B.id = 48
  · obtain ⟨e, h1⟩ := may_48 h48 h
    simp [fitS] at h1
    refine ⟨?_, ?_, ?_, fun e2 => by omega⟩ <;> rw [e] <;> simp [wB, symsW, itemsW] <;> omega
  by_cases h35 : B.id = 35
  · obtain ⟨e, h1⟩ := may_35 h35 h
    simp [fitS] at h1
    refine ⟨?_, ?_, ?_, fun e2 => by omega⟩ <;> rw [e] <;> simp [wB, symsW, itemsW] <;> omega
  by_cases h36 : B.id = 36
  · obtain ⟨e, h1⟩ := may_36 h36 h
    simp [fitS] at h1
    refine ⟨?_, ?_, ?_, fun e2 => by omega⟩ <;> rw [e] <;> simp [wB, symsW, itemsW] <;> omega
  by_cases h38 : B.id = 38
  · obtain ⟨e, h1⟩ := may_38 h38 h
    simp [fitS] at h1
    refine ⟨?_, ?_, ?_, fun e2 => by omega⟩ <;> rw [e] <;> simp [wB, symsW, itemsW] <;> omega
  by_cases h40 : B.id = 40
  · obtain ⟨e, h1⟩ := may_40 h40 h
    have h2 := items_W h1
    refine ⟨?_, ?_, ?_, fun e2 => by omega⟩ <;> rw [e] <;> simp [wB, symsW, itemsW] <;> simp [itemsW] at h2 <;> omega
  by_cases h42 : B.id = 42
  · obtain ⟨e, h1⟩ := may_42 h42 h
    simp [fitS] at h1
    refine ⟨?_, ?_, ?_, fun e2 => by omega⟩ <;> rw [e] <;> simp [wB, symsW, itemsW] <;> omega
  by_cases h43 : B.id = 43
  · obtain ⟨e, h1⟩ := may_43 h43 h
    simp [fitS] at h1
    refine ⟨?_, ?_, ?_, fun e2 => by omega⟩ <;> rw [e] <;> simp [wB, symsW, itemsW] <;> omega
  by_cases h49 : B.id = 49
  · obtain ⟨e, h1⟩ := may_49 h49 h
    simp [fitS] at h1
    refine ⟨?_, ?_, ?_, fun e2 => by omega⟩ <;> rw [e] <;> simp [wB, symsW, itemsW] <;> omega
  by_cases h50 : B.id = 50
  · obtain ⟨e, h1⟩ := may_50 h50 h
    have h2 := items_W h1
    refine ⟨?_, ?_, ?_, fun e2 => by omega⟩ <;> rw [e] <;> simp [wB, symsW, itemsW] <;> simp [itemsW] at h2 <;> omega
  by_cases h51 : B.id = 51
  · obtain ⟨e, h1⟩ := may_51 h51 h
    simp [fitS] at h1
    refine ⟨?_, ?_, ?_, fun e2 => by omega⟩ <;> rw [e] <;> simp [wB, symsW, itemsW] <;> omega
  by_cases h52 : B.id = 52
  · obtain ⟨e, h1⟩ := may_52 h52 h
    simp [fitS] at h1
    refine ⟨?_, ?_, ?_, fun e2 => by omega⟩ <;> rw [e] <;> simp [wB, symsW, itemsW] <;> omega
  by_cases h90 : B.id = 90
  · obtain ⟨e, h1⟩ := may_90 h90 h
    have h2 : (B.data.length : Int) = 9 := by unfold ok90 at h1; rw [Bool.and_eq_true] at h1; simpa using h1.1
    refine ⟨?_, ?_, ?_, fun e2 => by omega⟩ <;> rw [e] <;> simp [wB, symsW, itemsW] <;> omega
  by_cases h53 : B.id = 53
  · obtain ⟨e, h1⟩ := may_53 h53 h
    have h2 := ok53_items h1
    refine ⟨?_, ?_, ?_, fun e2 => h2.1⟩ <;> rw [e] <;> simp [wB, symsW, itemsW] <;> simp [itemsW] at h2 <;> omega
  obtain ⟨e, h1⟩ := may_def (fun k hk => by simp only [List.mem_cons, List.not_mem_nil, or_false] at hk; omega) h
  simp [fitS] at h1
  refine ⟨?_, ?_, ?_, fun e2 => by omega⟩ <;> rw [e] <;> simp [wB, symsW, itemsW] <;> omega
end Go.Proofs.Ytokidpajialgbaa
