/- The plain law: all calls. -/
import Derived.Test.YtnkjmmbhjhmgdaaAsmQ
namespace Go.Proofs.Ytnkjmmbhjhmgdaa
set_option linter.unusedSimpArgs false
set_option linter.unusedVariables false
open Go.RowKit Go.Maps Go.Sort
theorem Adds.ok {d d' : AsmD} {l : List Int} (h : Adds d d' l) (hl : d.here + l.length ≤ 65536) : d' = { d with out := d.out ++ l } := by
  rcases h with h | h
  · exact h.2
  · omega
theorem Adds.over {d d' : AsmD} {l : List Int} (h : Adds d d' l) (hl : 65536 < d.here + l.length) : d'.e = 8 ∧ d'.mks = d.mks := by
  rcases h with h | h
  · omega
  · exact h.2
/-- a call that fits -/
theorem call_ok {d : AsmD} {o : OpL} (he : d.e = 0) (hle : d.here ≤ 65536) (hmay : o.kind = 4 → mayB o.num = true) (hmk : o.kind = 1 → d.mks o.name.data.toList = none) (hfit : d.here + lenO o ≤ 65536) :
    callF d o = { d with out := d.out ++ preL o d.here, td := d.td ++ tdOf o d.out.length, mks := if o.kind = 1 then (fun t => if t = o.name.data.toList then some d.here else d.mks t) else d.mks } := by
  have hl := preL_len o d.here
  unfold callF
  by_cases k0 : o.kind = 0
  · have hp : preL o d.here = o.b := by unfold preL; rw [if_pos k0]
    rw [if_pos k0, (adds_bytes he hle o.b).ok (by rw [← hp, hl]; exact hfit), hp]
    unfold tdOf
    rw [if_neg (by omega), if_neg (by omega), if_neg (by omega)]
    simp
  · rw [if_neg k0]
    by_cases k1 : o.kind = 1
    · have hp : preL o d.here = [] := by unfold preL; rw [if_neg k0, if_neg (by omega), if_neg (by omega), if_neg (by omega)]
      have e1 : markF d o.name = { d with mks := fun t => if t = o.name.data.toList then some d.here else d.mks t } := by unfold markF; rw [if_neg (by omega), hmk k1]
      have e2 : tdOf o d.out.length = [] := by unfold tdOf; rw [if_neg (by omega), if_neg (by omega)]
      rw [if_pos k1, e1, hp, e2, if_pos k1]
      simp
    · rw [if_neg k1]
      by_cases k2 : o.kind = 2
      · have hp : preL o d.here = o.b ++ [0, 0] := by unfold preL; rw [if_neg k0, if_pos k2]
        rw [if_pos k2, hp, if_neg k1]
        unfold fillF
        rw [if_neg (by omega)]
        simp only [Bool.false_eq_true, if_false]
        rw [(adds_bytes he hle (o.b ++ [0, 0])).ok (by rw [← hp, hl]; exact hfit)]
        unfold tdOf
        rw [if_pos k2]
      · rw [if_neg k2]
        by_cases k3 : o.kind = 3
        · have hp : preL o d.here = [codeL o.b, 0] := by unfold preL; rw [if_neg k0, if_neg k2, if_pos k3]
          rw [if_pos k3, hp, if_neg k1]
          unfold fillF
          rw [if_neg (by omega)]
          simp only [if_true]
          rw [(adds_bytes he hle ([codeL o.b] ++ [0])).ok (by have : ([codeL o.b] ++ [0]) = preL o d.here := by rw [hp]; rfl
                                                              rw [this, hl]; exact hfit)]
          unfold tdOf
          rw [if_neg k2, if_pos k3]
          simp
        · rw [if_neg k3]
          by_cases k4 : o.kind = 4
          · have hp : preL o d.here = waitL o.num d.here := by unfold preL; rw [if_neg k0, if_neg k2, if_neg k3, if_pos k4]
            rw [if_pos k4, hp, if_neg k1, (adds_delay he hle (hmay k4)).ok (by rw [← hp, hl]; exact hfit)]
            unfold tdOf
            rw [if_neg k2, if_neg k3]
            simp
          · have hp : preL o d.here = [] := by unfold preL; rw [if_neg k0, if_neg k2, if_neg k3, if_neg k4]
            rw [if_neg k4, hp, if_neg k1]
            unfold tdOf
            rw [if_neg k2, if_neg k3]
            simp
/-- a call that does not -/
theorem call_over {d : AsmD} {o : OpL} (he : d.e = 0) (hle : d.here ≤ 65536) (hmay : o.kind = 4 → mayB o.num = true) (hfit : 65536 < d.here + lenO o) : (callF d o).e = 8 ∧ (callF d o).mks = d.mks := by
  have hl := preL_len o d.here
  unfold callF
  by_cases k0 : o.kind = 0
  · have hp : preL o d.here = o.b := by unfold preL; rw [if_pos k0]
    rw [if_pos k0]
    exact (adds_bytes he hle o.b).over (by rw [← hp, hl]; exact hfit)
  · rw [if_neg k0]
    by_cases k1 : o.kind = 1
    · exfalso
      have hp : preL o d.here = [] := by unfold preL; rw [if_neg k0, if_neg (by omega), if_neg (by omega), if_neg (by omega)]
      rw [hp] at hl
      simp at hl
      omega
    · rw [if_neg k1]
      by_cases k2 : o.kind = 2
      · have hp : preL o d.here = o.b ++ [0, 0] := by unfold preL; rw [if_neg k0, if_pos k2]
        rw [if_pos k2]
        unfold fillF
        rw [if_neg (by omega)]
        simp only [Bool.false_eq_true, if_false]
        exact (adds_bytes he hle (o.b ++ [0, 0])).over (by rw [← hp, hl]; exact hfit)
      · rw [if_neg k2]
        by_cases k3 : o.kind = 3
        · have hp : preL o d.here = [codeL o.b] ++ [0] := by unfold preL; rw [if_neg k0, if_neg k2, if_pos k3]; rfl
          rw [if_pos k3]
          unfold fillF
          rw [if_neg (by omega)]
          simp only [if_true]
          exact (adds_bytes he hle ([codeL o.b] ++ [0])).over (by rw [← hp, hl]; exact hfit)
        · rw [if_neg k3]
          by_cases k4 : o.kind = 4
          · have hp : preL o d.here = waitL o.num d.here := by unfold preL; rw [if_neg k0, if_neg k2, if_neg k3, if_pos k4]
            rw [if_pos k4]
            exact (adds_delay he hle (hmay k4)).over (by rw [← hp, hl]; exact hfit)
          · exfalso
            have hp : preL o d.here = [] := by unfold preL; rw [if_neg k0, if_neg k2, if_neg k3, if_neg k4]
            rw [hp] at hl
            simp at hl
            omega
theorem fold_bad : ∀ (L : List OpL) {d : AsmD}, d.e ≠ 0 → L.foldl callF d = d
  | [], d, _ => rfl
  | o :: L, d, h => by
    rw [List.foldl_cons, callF_bad h]
    exact fold_bad L h
/-- what comes of all calls -/
def After (org : Int) (d0 d : AsmD) (L : List OpL) (h : Int) (r : List (ByteArray × Int) × Int × Int) : Prop :=
  (r.2.2 = 0 ∧ d.out = d0.out ++ preAll L h ∧ d.td = d0.td ++ tdAll L d0.out.length ∧ Corr org d r.1 r.2.1) ∨
  (r.2.2 ≠ 0 ∧ d.e = r.2.2 ∧ (∀ t, d.mks t = lookM r.1 t) ∧ ZDist r.1)
theorem run_after {org : Int} : ∀ (L : List OpL) (d : AsmD) (Z : List (ByteArray × Int)) (h : Int), Corr org d Z h → After org d (L.foldl callF d) L h (run1 L Z h)
  | [], d, Z, h, hc => by
    left
    exact ⟨rfl, by simp [preAll], by simp [tdAll], hc⟩
  | o :: L, d, Z, h, hc => by
    have hhere : d.here = h := by unfold AsmD.here; exact hc.here
    rw [List.foldl_cons]
    simp only [run1]
    by_cases h1 : o.kind = 4 ∧ mayB o.num = false
    · rw [if_pos h1]
      have e1 : callF d o = { d with e := 5 } := by
        unfold callF delayF
        rw [if_neg (by omega), if_neg (by omega), if_neg (by omega), if_neg (by omega), if_pos h1.1, if_neg (by have := hc.e; omega), if_pos h1.2]
      rw [e1, fold_bad L (by simp)]
      right
      exact ⟨by simp, rfl, hc.mks, hc.dist⟩
    · rw [if_neg h1]
      have hmay : o.kind = 4 → mayB o.num = true := fun e => by cases hm : mayB o.num with | true => rfl | false => exact absurd ⟨e, hm⟩ h1
      by_cases h2 : o.kind = 1 ∧ memZ o.name Z = true
      · rw [if_pos h2]
        have hs : (d.mks o.name.data.toList).isSome = true := by rw [hc.mks, lookM_mem]; exact h2.2
        obtain ⟨y, hy⟩ := Option.isSome_iff_exists.1 hs
        have e1 : callF d o = { d with e := 4 } := by
          unfold callF markF
          rw [if_neg (by omega), if_pos h2.1, if_neg (by have := hc.e; omega), hy]
        rw [e1, fold_bad L (by simp)]
        right
        exact ⟨by simp, rfl, hc.mks, hc.dist⟩
      · rw [if_neg h2, bytesL_len]
        have hmf : o.kind = 1 → memZ o.name Z = false := fun e => by cases hm : memZ o.name Z with | false => rfl | true => exact absurd ⟨e, hm⟩ h2
        by_cases h3 : 65536 < h + (lenO o : Int)
        · rw [if_pos h3]
          have e1 := call_over (o := o) hc.e (by rw [hhere]; exact hc.le) hmay (by rw [hhere]; exact h3)
          rw [fold_bad L (by rw [e1.1]; decide)]
          have k1 : ¬ o.kind = 1 := fun k1 => by
            have hl := preL_len o 0
            have hp : preL o 0 = [] := by unfold preL; rw [if_neg (by omega), if_neg (by omega), if_neg (by omega), if_neg (by omega)]
            rw [hp] at hl
            simp at hl
            have := hc.le
            omega
          rw [if_neg k1]
          right
          exact ⟨by simp, e1.1, fun t => by rw [e1.2]; exact hc.mks t, hc.dist⟩
        · rw [if_neg h3]
          have hmk : o.kind = 1 → d.mks o.name.data.toList = none := fun e => by
            have := lookM_mem Z o.name
            rw [hmf e, ← hc.mks] at this
            cases hm : d.mks o.name.data.toList with
            | none => rfl
            | some y => rw [hm] at this; simp at this
          have e1 := call_ok (o := o) hc.e (by rw [hhere]; exact hc.le) hmay hmk (by rw [hhere]; omega)
          rw [hhere] at e1
          have hc2 : Corr org (callF d o) (if o.kind = 1 then Z ++ [(o.name, h)] else Z) (h + lenO o) := by
            rw [e1]
            refine ⟨hc.e, hc.org, ?_, by omega, fun t => ?_, ?_⟩
            · have := hc.here
              simp only [List.length_append, preL_len]
              omega
            · by_cases k1 : o.kind = 1
              · simp only [if_pos k1]
                rw [lookM_snoc Z o.name h (hmf k1), hc.mks]
              · simp only [if_neg k1]
                exact hc.mks t
            · by_cases k1 : o.kind = 1
              · rw [if_pos k1]; exact hc.dist.snoc h (hmf k1)
              · rw [if_neg k1]; exact hc.dist
          rcases run_after L (callF d o) _ _ hc2 with ⟨r1, r2, r3, r4⟩ | r
          · left
            refine ⟨r1, ?_, ?_, r4⟩
            · rw [r2, e1]; simp only [preAll, List.append_assoc]
            · rw [r3, e1]
              have hl2 : (d.out ++ preL o h).length = d.out.length + lenO o := by rw [List.length_append, preL_len]
              simp only [tdAll, List.append_assoc, hl2]
          · right; exact r
theorem set_at {α : Type} (A C : List α) (x v : α) : (A ++ x :: C).set A.length v = A ++ v :: C := by simp
theorem done_run {org : Int} {Z : List (ByteArray × Int)} {d : AsmD} (horg : d.org = org) (hmk : ∀ t, d.mks t = lookM Z t) (hd : ZDist Z) :
    ∀ (L : List OpL) (out : List Int), doneL d (tdAll L out.length) (out ++ preAll L (org + out.length)) = run2 org Z L out
  | [], out => by simp [tdAll, preAll, doneL, run2]
  | o :: L, out => by
    have hplain : ∀ (hp : preL o (org + out.length) = bytesL o (org + out.length) Z) (ht : tdOf o out.length = []) (k2 : ¬ o.kind = 2) (k3 : ¬ o.kind = 3), doneL d (tdAll (o :: L) out.length) (out ++ preAll (o :: L) (org + out.length)) = run2 org Z (o :: L) out := fun hp ht k2 k3 => by
      simp only [run2, tdAll, preAll]
      rw [if_neg (by omega), if_neg (by omega), ht, List.nil_append, ← List.append_assoc, hp]
      have hl : (out ++ bytesL o (org + out.length) Z).length = out.length + lenO o := by rw [List.length_append, bytesL_len]
      have := done_run horg hmk hd L (out ++ bytesL o (org + out.length) Z)
      rw [hl] at this
      rw [← this]
      congr 3
      push_cast
      omega
    by_cases k2 : o.kind = 2
    · have hp : preL o (org + out.length) = o.b ++ [0, 0] := by unfold preL; rw [if_neg (by omega), if_pos k2]
      have ht : tdOf o out.length = [(o.name, ((out.length + o.b.length : Nat) : Int), false)] := by unfold tdOf; rw [if_pos k2]
      have hbl : bytesL o (org + out.length) Z = o.b ++ [toZ o.name Z 0 % 256, toZ o.name Z 0 / 256 % 256] := by unfold bytesL; rw [if_neg (by omega), if_pos k2]
      have hlo : lenO o = o.b.length + 2 := by rw [← preL_len o (org + out.length), hp]; simp
      simp only [run2, tdAll, preAll, ht, hp, List.singleton_append, doneL]
      have hlm := lookM_mem Z o.name
      rw [hmk]
      cases hk : lookM Z o.name.data.toList with
      | none =>
        rw [hk] at hlm
        rw [if_pos ⟨.inl k2, by rw [← hlm]; rfl⟩]
      | some to =>
        rw [hk] at hlm
        have hto := toZ_look o.name Z 0 hd to hk
        rw [if_neg (fun e => by rw [← hlm] at e; simp at e), if_neg (by omega)]
        simp only [Bool.false_eq_true, if_false, Int.toNat_natCast]
        have e1 : out ++ (o.b ++ [0, 0] ++ preAll L (org + out.length + lenO o)) = (out ++ o.b) ++ 0 :: (0 :: preAll L (org + out.length + lenO o)) := by simp
        have l1 : out.length + o.b.length = (out ++ o.b).length := by simp
        rw [e1, l1, set_at]
        have e2 : (out ++ o.b) ++ (to % 256) :: (0 :: preAll L (org + out.length + lenO o)) = (out ++ o.b ++ [to % 256]) ++ 0 :: preAll L (org + out.length + lenO o) := by simp
        have l2 : (out ++ o.b).length + 1 = (out ++ o.b ++ [to % 256]).length := by simp; omega
        rw [e2, l2, set_at]
        have := done_run horg hmk hd L (out ++ bytesL o (org + out.length) Z)
        have hl : (out ++ bytesL o (org + out.length) Z).length = out.length + lenO o := by rw [List.length_append, bytesL_len]
        rw [hl] at this
        rw [← this, hbl, hto]
        have e3 : org + ((out.length + lenO o : Nat) : Int) = org + out.length + lenO o := by push_cast; omega
        rw [e3]
        simp
    · by_cases k3 : o.kind = 3
      · have hp : preL o (org + out.length) = [codeL o.b, 0] := by unfold preL; rw [if_neg (by omega), if_neg k2, if_pos k3]
        have ht : tdOf o out.length = [(o.name, ((out.length + 1 : Nat) : Int), true)] := by unfold tdOf; rw [if_neg k2, if_pos k3]
        have hbl : bytesL o (org + out.length) Z = [codeL o.b, (toZ o.name Z 0 - (org + out.length) - 2) % 256] := by unfold bytesL; rw [if_neg (by omega), if_neg k2, if_pos k3]
        have hlo : lenO o = 2 := by rw [← preL_len o (org + out.length), hp]; rfl
        simp only [run2, tdAll, preAll, ht, hp, List.singleton_append, doneL]
        have hlm := lookM_mem Z o.name
        rw [hmk]
        cases hk : lookM Z o.name.data.toList with
        | none =>
          rw [hk] at hlm
          rw [if_pos ⟨.inr k3, by rw [← hlm]; rfl⟩]
        | some to =>
          rw [hk] at hlm
          have hto := toZ_look o.name Z 0 hd to hk
          rw [if_neg (fun e => by rw [← hlm] at e; simp at e), hto, horg]
          simp only [if_true, Int.toNat_natCast]
          have ed : to - (org + ((out.length + 1 : Nat) : Int) + 1) = to - (org + out.length + 2) := by push_cast; omega
          rw [ed]
          by_cases hr : to - (org + out.length + 2) < -128 ∨ 127 < to - (org + out.length + 2)
          · rw [if_pos hr, if_pos ⟨k3, hr⟩]
          · rw [if_neg hr, if_neg (fun e => hr e.2)]
            have e1 : out ++ (codeL o.b :: 0 :: preAll L (org + out.length + lenO o)) = (out ++ [codeL o.b]) ++ 0 :: preAll L (org + out.length + lenO o) := by simp
            have l1 : out.length + 1 = (out ++ [codeL o.b]).length := by simp
            simp only [List.cons_append, List.nil_append]
            rw [e1, l1, set_at]
            have := done_run horg hmk hd L (out ++ bytesL o (org + out.length) Z)
            have hl : (out ++ bytesL o (org + out.length) Z).length = out.length + lenO o := by rw [List.length_append, bytesL_len]
            rw [hl] at this
            rw [← this, hbl, hto]
            have e3 : org + ((out.length + lenO o : Nat) : Int) = org + out.length + lenO o := by push_cast; omega
            have e4 : to - (org + out.length) - 2 = to - (org + out.length + 2) := by omega
            rw [e3, e4]
            simp
      · refine hplain ?_ ?_ k2 k3
        · unfold preL bytesL
          rw [if_neg k2, if_neg k3, if_neg k2, if_neg k3]
        · unfold tdOf
          rw [if_neg k2, if_neg k3]
/-- what is put together is the document's -/
theorem plain28 {org : Int} (h1 : org ≤ 65535) (L : List OpL) :
    doneF (L.foldl callF (newD org)) = ((runF org L).2.2.2, (runF org L).2.2.1) ∧ ((runF org L).2.2.2 = 0 → (L.foldl callF (newD org)).here = (runF org L).2.1) ∧
    (∀ t, (L.foldl callF (newD org)).mks t = lookM (runF org L).1 t) ∧ ZDist (runF org L).1 := by
  have hc : Corr org (newD org) [] org := ⟨rfl, rfl, by simp [newD], by omega, fun t => rfl, List.Pairwise.nil⟩
  obtain ⟨d, hd⟩ : ∃ d, d = L.foldl callF (newD org) := ⟨_, rfl⟩
  have ha := run_after L _ _ _ hc
  rw [← hd] at ha ⊢
  rcases ha with ⟨r1, r2, r3, r4⟩ | ⟨r1, r2, r3, r4⟩
  · have hr : runF org L = ((run1 L [] org).1, (run1 L [] org).2.1, (run2 org (run1 L [] org).1 L []).2, (run2 org (run1 L [] org).1 L []).1) := by
      unfold runF
      rw [if_neg (by rw [r1]; decide)]
    have hdone := done_run r4.org r4.mks r4.dist L []
    have hdn : doneF d = run2 org (run1 L [] org).1 L [] := by
      unfold doneF
      rw [if_neg (by have := r4.e; omega), r2, r3, ← hdone]
      simp [newD]
    rw [hr]
    exact ⟨by rw [hdn], fun _ => r4.here, r4.mks, r4.dist⟩
  · have hr : runF org L = ((run1 L [] org).1, (run1 L [] org).2.1, [], (run1 L [] org).2.2) := by
      unfold runF
      rw [if_pos r1]
    rw [hr]
    refine ⟨?_, fun e => absurd e r1, r3, r4⟩
    unfold doneF
    rw [if_pos (by rw [r2]; exact r1), r2]
end Go.Proofs.Ytnkjmmbhjhmgdaa
