/- inflate: put; the chapter's example. -/
import Derived.Test.YtcjdeinmmokdgaaInfP
namespace Go.Proofs.Ytcjdeinmmokdgaa
set_option linter.unusedSimpArgs false
set_option linter.unusedVariables false
open Go.RowKit
/-- a table stays where other kinds of blocks turn -/
theorem TabR.other {w w' : World} {g : Nat} {l : List Int} {r : Option Nat} (h : TabR w g l) (hr : ∀ k, r = some k → ∃ cur t, w.heap[k]? = some (.cells cur t (0, 0)) ∧ t ≠ 71 ∧ t ≠ 3) (hg : w.grownBy w' r) : TabR w' g l := by
  obtain ⟨A, c, h1, h2, h3⟩ := h
  have hne : ∀ ad, A = some ad → r ≠ some ad.block := fun ad e he => by
    obtain ⟨cur, hc⟩ := h3 ad e
    obtain ⟨cur2, t, hk, _, ht⟩ := hr _ he
    rw [hk] at hc
    injection hc with hc
    injection hc with _ hc
    exact ht hc
  have hg1 : r ≠ some g := fun he => by
    obtain ⟨cur2, t, hk, ht, _⟩ := hr _ he
    unfold Blk at h1
    rw [hk] at h1
    injection h1 with h1
    injection h1 with _ h1
    exact ht h1
  refine ⟨A, c, h1.grown hg (Ne.symm hg1), fun i v hi => ?_, fun ad e => ?_⟩
  · obtain ⟨ad, e, hc⟩ := h2 i v hi
    refine ⟨ad, e, ?_⟩
    rw [← hc]
    refine World.cell?_of_block (hg.block _ (block_lt_of_cell hc) ?_)
    rw [block_of_add]
    exact Ne.symm (hne ad e)
  · obtain ⟨cur, hc⟩ := h3 ad e
    exact ⟨cur, (hg.block _ (Array.getElem?_eq_some_iff.1 hc).1 (Ne.symm (hne ad e))).trans hc⟩
theorem TabR.own {w w' : World} {B g n : Nat} {l : List Int} {v : Value} {xs : List Value} (h : TabR w g l) (ho : w.ownsRow B 5 1 v n xs) (hg : w.grownBy w' v.ownBlock) : TabR w' g l := by
  refine h.other (fun k hk => ?_) hg
  rcases ho.2 with ⟨rfl, _⟩ | ⟨g', c, cur, rfl, _, hb, _⟩
  · cases hk
  · injection hk with hk
    subst hk
    exact ⟨cur, _, hb, by decide, by decide⟩
theorem TabR.setU {w : World} {U g : Nat} {l : List Int} {cs : List Value} (h : TabR w g l) (hU : Blk w U 36 cs) (i : Nat) (v : Value) : TabR (w.setCell ⟨U, i, none⟩ v) g l :=
  h.other (r := some U) (fun k hk => by injection hk with hk; subst hk; exact ⟨_, _, hU, by decide, by decide⟩) (grownBy_setCell (grownBy_refl w _) i v)
theorem TabR.drewN {w : World} {g : Nat} {l : List Int} (h : TabR w g l) (n : Nat) : TabR (w.drewN n) g l := h
theorem un_append {w w1 : World} {U r : Nat} {A : Option Addr} {c : Nat} {bs : List Int} {p : Nat} {v v1 : Value} {out out1 : List Int} {lim : Int} {B : Nat} (h : Un w U r A c bs p v out lim B) (hg : w.grownBy w1 v.ownBlock) (ho : w1.ownsRow B 5 1 v1 out1.length (out1.map (.int .u8))) :
    Un (w1.setCell ⟨U, 1, none⟩ v1) U r A c bs p v1 out1 lim B := by
  have hne : ∀ k, k < B → some k ≠ v.ownBlock := fun k hk => own_ne h.own hk
  refine ⟨(h.blk.grown hg (hne _ h.hU)).set_ 1 _, ?_, own_far ho h.hU, h.hr, h.hU, h.hrU, h.hA, ?_⟩
  · have hb := h.bits
    refine ⟨?_, ?_, hb.2.2⟩
    · exact (hb.1.grown hg (hne r h.hr)).far (by show r ≠ U; exact fun e => h.hrU e.symm) _
    · intro i x hi
      obtain ⟨ad, e, hc⟩ := hb.2.1 i x hi
      obtain ⟨q1, q2, q3⟩ := h.hA ad e
      refine ⟨ad, e, ?_⟩
      rw [← hc]
      rw [World.cell?_of_block (Below.heap_setCell w1 ⟨U, 1, none⟩ _ _ (by rw [block_of_add]; exact q3))]
      exact World.cell?_of_block (hg.block _ (block_lt_of_cell hc) (by rw [block_of_add]; exact hne _ q1))
  · have := hg.size
    have := h.hB
    simp
    omega
/-- a byte was put out -/
def PutP (U r : Nat) (A : Option Addr) (c : Nat) (bs : List Int) (p : Nat) (v : Value) (out : List Int) (lim : Int) (B : Nat) (x : Int) (w : World) (e : Ending) (w' : World) : Prop :=
  e = .returned (.int .i64 0) ∧ (∃ v', Un w' U r A c bs p v' (out ++ [x]) lim B) ∧ KeptU B U r w w' ∧ ∀ g l, TabR w g l → TabR w' g l
set_option maxRecDepth 100000 in
set_option maxHeartbeats 4000000 in
theorem put_ok (U r : Nat) (A : Option Addr) (c : Nat) (bs : List Int) (pos : Nat) (v : Value) (out : List Int) (lim : Int) (B : Nat) (x : Int) (w : World) (h : Un w U r A c bs pos v out lim B) (hl : (out.length : Int) < lim) (hl2 : lim ≤ 2000000) :
    Calls Try.prog 34 #[.pointer (some ⟨U, 0, none⟩), .int .u8 x] w (PutP U r A c bs pos v out lim B x w) := by
  obtain ⟨K, cv, rfl, -, hKn⟩ := own_slice3 h.own
  have HH := Lib.hid h
  obtain ⟨m, hm⟩ : ∃ m, m = out.length := ⟨_, rfl⟩
  have HM := Lib.hid hm
  rw [← hm] at hl
  have u1 : w.cell? ⟨U, 1, none⟩ = some (.slice K m cv) := by rw [hm]; exact h.blk.cell 1
  have u2 : w.cell? ⟨U, 2, none⟩ = some (.int .i64 lim) := h.blk.cell 2
  have f1 := h.blk.frozen 1
  have hm9 : (m : Int) ≤ 2000000 := by omega
  have hnl : ¬ (lim ≤ (m : Int)) := by omega
  clear h hm
  go_enter Try.func34, Try.ntmps34
  go_wp2
  go_quiet (fail)
  obtain ⟨wq, hwq⟩ : ∃ wq, wq = w.drewN nq := ⟨_, rfl⟩
  rw [← hwq]
  have HQ : Hid (Un wq U r A c bs pos (.slice K out.length cv) out lim B) := by show Un _ _ _ _ _ _ _ _ _ _ _; rw [hwq]; exact HH.out.drewN nq
  have HWQ := Lib.hid hwq
  clear hwq u1 u2 f1
  have u1 : wq.cell? ⟨U, 1, none⟩ = some (.slice K m cv) := by rw [HM.out]; exact HQ.out.blk.cell 1
  have HOQ : Hid (wq.ownsRow B 5 1 (.slice K m cv) m (out.map (.int .u8))) := by show World.ownsRow _ _ _ _ _ _ _; rw [HM.out]; exact HQ.out.own
  go_wp2_with (first
    | (at_builtin
       refine wpList_appL wq (by rfl) (.tmp 19) (.tmp 21) 22 (by rfl) B 5 (.int .u8 0) 1 1 Try.underlying22 infoByte rfl (by decide) (.slice K m cv) m (out.map (.int .u8)) (by rfl) HOQ.out _ 1 (by rfl) (by rfl) (by simp [Value.oneCell']) (by decide) (by omega) (by decide) HQ.out.hB ?_
       intro g1 c1 w1 ho1 hg1 hx1
       have HB1 := Lib.hid (HQ.out.blk.grown (by rw [← HM.out]; exact hg1) (own_ne HQ.out.own HQ.out.hU))
       have u11 := HB1.out.cell 1
       have f11 := HB1.out.frozen 1
       have HO1 := Lib.hid ho1
       have HG1 := Lib.hid hg1
       clear ho1 hg1 hx1))
  go_ret
  have hgq : wq.grownBy w1 (Value.slice K out.length cv).ownBlock := by have := HG1.out; rw [HM.out] at this; exact this
  have hoq : w1.ownsRow B 5 1 (.slice (some ⟨g1, 0, none⟩) (m + 1) c1) (out ++ [x]).length ((out ++ [x]).map (.int .u8)) := by
    have := HO1.out
    rw [List.length_append, ← HM.out, List.map_append]
    exact this
  have hwq := HWQ.out
  refine ⟨rfl, ⟨_, un_append HQ.out hgq hoq⟩, ((KeptU.refl B U r w).drewN nq).trans ?_, fun g l hT => ?_⟩
  · rw [← hwq]
    exact (KeptU.of_own HQ.out.own hgq).set 1 _
  · have h1 : TabR wq g l := by rw [hwq]; exact hT.drewN nq
    exact (h1.own HQ.out.own hgq).setU HB1.out 1 _
end Go.Proofs.Ytcjdeinmmokdgaa
