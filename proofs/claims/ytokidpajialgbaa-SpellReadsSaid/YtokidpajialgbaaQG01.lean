/- Texts that are laid together: G01. -/
import Derived.Test.YtokidpajialgbaaQG00
import Derived.Deep.MidRow
import Derived.Sort.AtCall
import Derived.Deep.DeepCutAuto
import Derived.Laws.AppendOwnNone
namespace Go.Proofs.Ytokidpajialgbaa
set_option linter.unusedSimpArgs false
set_option linter.unusedVariables false
open Go.RowKit
theorem infoBlkS : (Try.prog.info? 28).map (·.size) = some 18 := by kernel_rfl
theorem TBV.info {w : World} {cs : List Value} {B : TB} (h : TBV w cs B) : (Try.prog.info? 28).map (·.size) = some cs.length := by rw [infoBlkS, h.len]
set_option maxRecDepth 100000 in
set_option maxHeartbeats 4000000 in
theorem all_bool (v : Value) (l : List TB) (w : World) (h : BlksV w v l) : Calls Try.prog 12 #[v] w (BoolP w) := by
  obtain ⟨A, c, rfl, h1, h2, h3⟩ := h
  have HL := Lib.hid h3
  obtain ⟨n, hn⟩ : ∃ n, n = l.length := ⟨_, rfl⟩
  rw [← hn] at h1 ⊢
  have HN := Lib.hid hn
  have m0 : maxLen = 9223372036854775807 := rfl
  have hn2 : n ≤ 9223372036854775807 := by omega
  clear h1 h2 h3 hn m0
  go_enter Try.func12, Try.ntmps12
  go_upto_region 1 with fail
  go_cut [11] (fun t wx => ∃ b : Bool, Hid (t = .bool b) ∧ w = wx)
  case first =>
    by_cases k1 : (100 : Int) < n
    all_goals
      go_wp2_with fail
      go_meet
      exact ⟨_, Lib.hid rfl, rfl⟩
  case rest =>
    obtain ⟨bad, HT, rfl⟩ := hcut
    have ht := HT.out
    subst ht
    cases bad
    case true =>
      go_wp2_with fail
      go_ret
      exact ⟨⟨_, rfl⟩, Below.refl _ _⟩
    case false =>
      go_wp2_with fail
      go_loopw [3] (fun idx wr => ∃ (k : Nat), idx = .int .i64 k ∧ k ≤ n ∧ Hid (Below w.heap.size w wr)) (fun idx _ => n - (intOf idx).toNat)
      case atStart => exact ⟨0, rfl, Nat.zero_le _, Lib.hid (Below.refl _ _)⟩
      case round =>
        obtain ⟨k, rfl, hk, HB⟩ := hrel
        by_cases hlt : k < n
        · have hlt2 : (k : Int) < n := by omega
          obtain ⟨B, hB⟩ : ∃ x, l[k]? = some x := ⟨_, List.getElem?_eq_getElem (by rw [← HN.out]; exact hlt)⟩
          obtain ⟨g, o, cs, rfl, hr, ht⟩ := HL.out k B hB
          have HR : Hid (wr.rangeAt g (o + k * 18) cs) := Lib.hid (rangeBelow hr HB.out)
          have HT : Hid (TBV wr cs B) := Lib.hid (ht.below HB.out)
          have HI := Lib.hid ht.info
          have v2 : IntKind.i64.wrap ((k : Int) + 1) = ((k + 1 : Nat) : Int) := by rw [IntKind.wrap_i64]; omega
          clear hr ht hB
          go_wp2_with (first
            | (refine wpList_load_mid rfl 28 (.tmp 20) rfl g (o + k * 18) rfl cs _ HR.out Try.underlying28 rfl HI.out ?_)
            | (go_at_call 8; refine (light_bool cs B _ HT.out).mono ?_; rintro e w2 ⟨⟨b, rfl⟩, hb2⟩; have HB2 : Hid (Below w.heap.size w w2) := Lib.hid (HB.out.trans (hb2.mono HB.out.size)); clear hb2; cases b))
          · go_ret
            exact ⟨⟨_, rfl⟩, HB2.out⟩
          · go_roundw
            case rel => exact ⟨k + 1, by go_num, by omega, HB2⟩
            case measure => simp [intOf]; omega
        · have hlt2 : ¬ (k : Int) < n := by omega
          go_wp2_with fail
          go_ret
          exact ⟨⟨_, rfl⟩, HB.out⟩
end Go.Proofs.Ytokidpajialgbaa
namespace Go.Proofs.Ytokidpajialgbaa
set_option linter.unusedSimpArgs false
set_option linter.unusedVariables false
open Go.RowKit
theorem grownBy_refl (w : World) (r : Option Nat) : w.grownBy w r := ⟨rfl, rfl, rfl, Nat.le_refl _, fun _ _ _ => rfl⟩
theorem grownBy_trans {w w' w'' : World} {r : Option Nat} (h : w.grownBy w' r) (h' : w'.grownBy w'' r) : w.grownBy w'' r :=
  ⟨h'.os.trans h.os, h'.tape.trans h.tape, h'.output.trans h.output, Nat.le_trans h.size h'.size, fun k hk hr => (h'.block k (Nat.lt_of_lt_of_le hk h.size) hr).trans (h.block k hk hr)⟩
theorem grownBy_drewN {w w' : World} {r : Option Nat} (h : w.grownBy w' r) (n : Nat) : w.grownBy (w'.drewN n) r := ⟨h.os, h.tape, h.output, h.size, h.block⟩
theorem grownBy_setCell {w w' : World} {g : Nat} (h : w.grownBy w' (some g)) (i : Nat) (v : Value) : w.grownBy (w'.setCell ⟨g, i, none⟩ v) (some g) :=
  ⟨h.os, h.tape, h.output, by simpa using h.size, fun k hk hr => (Below.heap_setCell w' ⟨g, i, none⟩ v k (fun e => hr (by rw [e]))).trans (h.block k hk hr)⟩
theorem grownBy_below {w w' : World} {r : Option Nat} (h : Below w.heap.size w w') : w.grownBy w' r := ⟨h.os, h.tape, h.output, h.size, fun k hk _ => h.block k hk⟩
theorem below_of_grown {B : Nat} {a w w' : World} {g : Nat} (h : Below B a w) (hg : w.grownBy w' (some g)) (hB : B ≤ g) (hs : B ≤ w.heap.size) : Below B a w' :=
  h.grown hg hs (fun k hk => by have : k = g := by simpa using hk.symm
                                omega)
theorem Cells.grown {w w' : World} {r : Nat} {A : Option Addr} {l : List Value} (h : Cells w A l) (hg : w.grownBy w' (some r)) (hne : ∀ ad, A = some ad → l = [] ∨ ad.block ≠ r) : Cells w' A l := fun i v hi => by
  obtain ⟨ad, e, hc⟩ := h i v hi
  refine ⟨ad, e, ?_⟩
  have hb : (ad.add i).block ≠ r := by
    rw [block_of_add]
    rcases hne ad e with h1 | h1
    · subst h1; simp at hi
    · exact h1
  have hlt := block_lt_of_cell hc
  rw [← hc]
  unfold World.cell?
  rw [hg.block _ hlt (by intro e; exact hb (by simpa using e))]
/-- a list of values none of which lies in a block: it lies elsewhere -/
theorem Cells.apart {w : World} {r : Nat} {t : TypeId} {cs : List Value} {A : Option Addr} {l : List Value} (h : Cells w A l) (hb : Blk w r t cs) (hd : ∀ v ∈ l, v ∉ cs) : ∀ ad, A = some ad → l = [] ∨ ad.block ≠ r := by
  intro ad e
  cases l with
  | nil => exact .inl rfl
  | cons v l =>
    refine .inr fun he => ?_
    obtain ⟨ad', e', hc⟩ := h 0 v rfl
    have : ad = ad' := by rw [e] at e'; injection e'
    subst this
    have hc2 : w.cell? ⟨r, ad.off, ad.spot⟩ = some v := by rw [← he]; simpa [Addr.add] using hc
    unfold World.cell? at hc2
    unfold Blk at hb
    simp only [hb] at hc2
    split at hc2
    · cases hc2
    · exact hd v (by simp) (by
        have := List.mem_of_getElem? (l := cs) (i := ad.off) (a := v) (by simpa using hc2)
        exact this)

end Go.Proofs.Ytokidpajialgbaa
namespace Go.Proofs.Ytokidpajialgbaa
set_option linter.unusedSimpArgs false
set_option linter.unusedVariables false
open Go.RowKit
/-- a row of bytes, own, or full (then the next append moves it) -/
def RowM (w : World) (base : Nat) (v : Value) (n : Nat) (xs : List Value) : Prop :=
  w.ownsRow base 5 1 v n xs ∨ ∃ g fz, v = .slice (some ⟨g, 0, none⟩) n n ∧ base ≤ g ∧ w.heap[g]? = some (.cells xs.toArray 5 fz) ∧ xs.length = n ∧ n ≤ maxLen
theorem RowM.own {w : World} {base n : Nat} {v : Value} {xs : List Value} (h : w.ownsRow base 5 1 v n xs) : RowM w base v n xs := .inl h
theorem RowM.len {w : World} {base n : Nat} {v : Value} {xs : List Value} (h : RowM w base v n xs) : xs.length = n := by
  rcases h with h | ⟨g, fz, _, _, _, h, _⟩
  · have := h.1; omega
  · exact h
theorem RowM.lt {w : World} {base n : Nat} {v : Value} {xs : List Value} (h : RowM w base v n xs) : ∀ k, v.ownBlock = some k → base ≤ k ∧ k < w.heap.size := by
  rcases h with h | ⟨g, fz, rfl, h1, h2, _⟩
  · exact h.lt
  · intro k hk
    have : g = k := by simpa [Value.ownBlock] using hk
    subst this
    exact ⟨h1, (Array.getElem?_eq_some_iff.1 h2).1⟩
theorem RowM.keep {w w' : World} {base n : Nat} {v : Value} {xs : List Value} (h : RowM w base v n xs) (hk : ∀ g, v.ownBlock = some g → w'.heap[g]? = w.heap[g]?) : RowM w' base v n xs := by
  rcases h with h | ⟨g, fz, rfl, h1, h2, h3⟩
  · refine .inl ⟨h.1, ?_⟩
    rcases h.2 with h1 | ⟨g, c, cur, rfl, h2, h3, h4⟩
    · exact .inl h1
    · exact .inr ⟨g, c, cur, rfl, h2, (hk g rfl).trans h3, h4⟩
  · exact .inr ⟨g, fz, rfl, h1, (hk g rfl).trans h2, h3⟩
theorem RowM.form {w : World} {base n : Nat} {v : Value} {xs : List Value} (h : RowM w base v n xs) : ∃ A m c, v = .slice A m c := by
  rcases h with h | ⟨g, fz, rfl, _⟩
  · rcases h.2 with ⟨h1, _⟩ | ⟨g, c, cur, rfl, _⟩
    · exact ⟨_, _, _, h1⟩
    · exact ⟨_, _, _, rfl⟩
  · exact ⟨_, _, _, rfl⟩
theorem RowM.weak {w : World} {base base' n : Nat} {v : Value} {xs : List Value} (h : RowM w base v n xs) (hb : base' ≤ base) : RowM w base' v n xs := by
  rcases h with h | ⟨g, fz, rfl, h1, h2⟩
  · refine .inl ⟨h.1, ?_⟩
    rcases h.2 with h1 | ⟨g, c, cur, rfl, h2, h3⟩
    · exact .inl h1
    · exact .inr ⟨g, c, cur, rfl, Nat.le_trans hb h2, h3⟩
  · exact .inr ⟨g, fz, rfl, Nat.le_trans hb h1, h2⟩
theorem RowM.alloc {w : World} {base n : Nat} {v : Value} {xs : List Value} (h : RowM w base v n xs) (o : Obj) : RowM (w.alloc o) base v n xs :=
  h.keep (fun g hg => heap_alloc_old w o (h.lt g hg).2)
/-- what the row reads as -/
theorem RowM.ints {w : World} {base n : Nat} {v : Value} {l : List Int} (h : RowM w base v n (l.map (.int .u8))) : ∃ A c, v = .slice A n c ∧ n ≤ maxLen ∧ l.length = n ∧ Ints w A .u8 l := by
  rcases h with h | ⟨g, fz, rfl, h1, h2, h3, h4⟩
  · rcases h.2 with ⟨rfl, rfl⟩ | ⟨g, c, cur, rfl, h2, h3, h4, h5, h6⟩
    · have h0 : l = [] := by have := h.1; simp at this; exact this
      subst h0
      exact ⟨none, 0, rfl, by unfold maxLen; omega, rfl, fun i v hi => absurd hi (by simp)⟩
    · refine ⟨some ⟨g, 0, none⟩, c, rfl, Nat.le_trans h4 h5, by have := h.1; simpa using this, fun i v hi => ⟨_, rfl, h.cells rfl i v hi⟩⟩
  · refine ⟨_, n, rfl, h4, by simpa using h3, fun i v hi => ⟨_, rfl, ?_⟩⟩
    rw [Addr.add_mid, cell_of_row _ _ _ _ _ _ h2]
    simpa using hi
theorem wpList_appM {w : World} {ops : Array Oper} {rest : List Oper} {o : Oper} {a : Act} {Q : Exit → Act → World → Prop} (hgd : o.guard = none) (s x : Operand)
    (ho : o.op = .call { callee := .builtin .append, args := #[s, x], argTypes := #[22, 22] })
    (base : Nat) (hi : (Try.prog.info? 5).map (fun i => (i.zero, i.size, i.bytes)) = some (some (.int .u8 0), 1, 1))
    (v : Value) (n : Nat) (xs : List Value) (hs : a.eval s = v) (hown : RowM w base v n xs) (cs : Array Value) (m : Nat) (hx : a.eval x = .slice (some ⟨w.heap.size, 0, none⟩) m m) (hcs : cs.size = m) (hu : cs.all (·.oneCell') = true)
    (hm : 0 < m) (hbytes : n + m ≤ 140737488355328) (hbase : base ≤ w.heap.size)
    (h : ∀ g c w', w'.ownsRow base 5 1 (.slice (some ⟨g, 0, none⟩) (n + m) c) (n + m) (xs ++ cs.toList) → w.grownBy w' v.ownBlock → (v.ownBlock = some g ∨ w.heap.size ≤ g) → wpList Try.prog ops Q rest (a.put o.dst (.slice (some ⟨g, 0, none⟩) (n + m) c)) w') :
    wpList Try.prog ops Q (o :: rest) a (w.alloc (.cells cs 5)) := by
  rcases hown with hown | ⟨g, fz, rfl, h1, h2, h3, h4⟩
  · exact wpList_appL w hgd s x 22 ho base 5 (.int .u8 0) 1 1 Try.underlying22 hi rfl (by decide) v n xs hs hown cs m hx (by omega) hu hm (by omega) (by decide) hbase h
  · obtain ⟨i0, hi0, hz0, hz1, hz2⟩ := info_parts hi
    have h2' := (heap_alloc_old w (.cells cs 5) (Array.getElem?_eq_some_iff.1 h2).1).trans h2
    have hr := run_append_grow (P := Try.prog) (w.alloc (.cells cs 5)) 22 o.type 5 i0 (.int .u8 0) Try.underlying22 hi0 hz0 ⟨g, 0, none⟩ n n xs (by rw [hz1, h3, Nat.mul_one])
      (fun j u hj => by rw [Addr.add_mid, cell_of_row _ _ _ _ _ _ h2']; simpa using hj) ⟨w.heap.size, 0, none⟩ m m cs.toList (by rw [hz1]; simpa using hcs)
      (fun j u hj => by rw [Addr.add_mid, cell_of_row _ _ _ _ _ _ (heap_alloc_new w _)]; simpa using hj) (by omega) (by omega) (by rw [hz2]; exact growslice_fits (by omega) (by omega))
    refine wpList_plain hgd fun K hK => ?_
    unfold Oper.wp execOp
    simp only [ho, resolve, invoke, builtin, Sem.run_bind, Sem.run_pure, Result.andThen_ok, List.map_toArray, List.map_cons, List.map_nil, hs, hx, hr]
    have hge := grownCap_ge (w.alloc (.cells cs 5)) (n + m) n 5
    have hcm := grownCap_le_maxLen (w.alloc (.cells cs 5)) (n + m) n 5 (by unfold maxLen; omega)
    have hz3 : (Value.int IntKind.u8 0).cells.size = 1 := rfl
    refine hK _ _ (h _ _ _ ⟨by simp [h3, hcs], .inr ⟨_, _, _, rfl, ?_, heap_alloc_new _ _, hge, hcm, ?_, ?_⟩⟩ ⟨rfl, rfl, rfl, ?_, fun k hk _ => ?_⟩ (.inr (by simp)))
    · simp; omega
    · simp only [Array.size_append, List.size_toArray, size_zeroCells, hz3, h3, Array.length_toList, hcs]
      omega
    · simp only [Array.toList_append, List.append_assoc]
      rw [← List.append_assoc]
      have hl : (xs ++ cs.toList).length = (n + m) * 1 := by simp [h3, hcs]
      rw [← hl]
      exact List.take_left
    · simp; omega
    · exact (heap_alloc_old (w.alloc (.cells cs 5)).drew _ (by simp; omega)).trans (heap_alloc_old w _ hk)
end Go.Proofs.Ytokidpajialgbaa
namespace Go.Proofs.Ytokidpajialgbaa
set_option linter.unusedSimpArgs false
set_option linter.unusedVariables false
open Go.RowKit
/-- the lowest bytes of a number -/
def leB (x : Int) : Nat → List Int
  | 0 => []
  | k + 1 => leB x k ++ [x / 256 ^ k % 256]
theorem leB_len (x : Int) : ∀ k, (leB x k).length = k
  | 0 => rfl
  | k + 1 => by simp [leB, leB_len x k]
theorem div_pow (x : Int) (k : Nat) : x / 256 ^ k / 256 = x / 256 ^ (k + 1) := by
  rw [Int.pow_succ, Int.ediv_ediv_of_nonneg (by exact Int.le_of_lt (Int.pow_pos (by decide)))]
theorem grown_chain {w w1 w2 : World} {r : Option Nat} {g : Nat} (h : w.grownBy w1 r) (h' : w1.grownBy w2 (some g)) (hg : r = some g ∨ w.heap.size ≤ g) : w.grownBy w2 r := by
  rcases hg with rfl | hg
  · exact grownBy_trans h h'
  · exact ⟨h'.os.trans h.os, h'.tape.trans h.tape, h'.output.trans h.output, Nat.le_trans h.size h'.size, fun k hk hn => (h'.block k (Nat.lt_of_lt_of_le hk h.size) (fun e => by injection e with e; omega)).trans (h.block k hk hn)⟩
/-- the row of bytes that comes of more of them -/
def PutP (base n : Nat) (xs : List Value) (news : List Int) (v : Value) (w : World) (e : Ending) (w' : World) : Prop :=
  ∃ v', e = .returned v' ∧ RowM w' base v' (n + news.length) (xs ++ news.map (.int .u8)) ∧ w.grownBy w' v.ownBlock ∧ (v'.ownBlock = v.ownBlock ∨ ∀ g, v'.ownBlock = some g → w.heap.size ≤ g)
theorem infoByteS : (Try.prog.info? 5).map (fun i => (i.zero, i.size, i.bytes)) = some (some (.int .u8 0), 1, 1) := by kernel_rfl
set_option maxRecDepth 100000 in
set_option maxHeartbeats 4000000 in
theorem put_any (K base n : Nat) (v : Value) (xs : List Value) (x : Int) (w : World) (ho : RowM w base v n xs) (hs : base ≤ w.heap.size) (hn : n ≤ 100000000) (hK : 1 ≤ K ∧ K ≤ 4) (hx : (Lit.int .i64 x).wf = true) :
    Calls Try.prog 53 #[v, .int .i64 K, .int .i64 x] w (PutP base n xs (leB x K) v w) := by
  have HO := Lib.hid ho
  have HS := Lib.hid hs
  have hx' : -9223372036854775808 ≤ x ∧ x ≤ 9223372036854775807 := by simp [Lit.wf, IntKind.min, IntKind.max, IntKind.bits, IntKind.signed] at hx; omega
  have HX := Lib.hid hx'
  obtain ⟨k1, k2⟩ := hK
  have k3 : ¬ (K : Int) < 1 := by omega
  have k4 : ¬ (4 : Int) < K := by omega
  clear ho hs hx hx'
  go_enter Try.func53, Try.ntmps53
  go_wp2_with fail
  go_loopw [0, 2, 15] (fun o y i wr => ∃ k : Nat, k ≤ K ∧ i = .int .i64 (k : Nat) ∧ y = .int .i64 (x / 256 ^ k) ∧ Hid (RowM wr base o (n + k) (xs ++ (leB x k).map (.int .u8))) ∧ Hid (w.grownBy wr v.ownBlock) ∧ Hid (o.ownBlock = v.ownBlock ∨ ∀ g, o.ownBlock = some g → w.heap.size ≤ g)) (fun _ _ i _ => K - (intOf i).toNat)
  case atStart => exact ⟨0, Nat.zero_le _, rfl, by simp, Lib.hid (by simpa [leB] using HO.out), Lib.hid (grownBy_refl w _), Lib.hid (.inl rfl)⟩
  case round =>
    obtain ⟨k, hk, rfl, rfl, HOW, HGW, HVW⟩ := hrel
    have HSZ : Hid (base ≤ wr.heap.size) := Lib.hid (Nat.le_trans HS.out HGW.out.size)
    obtain ⟨y, hy⟩ : ∃ y, y = x / 256 ^ k := ⟨_, rfl⟩
    have HY := Lib.hid hy
    rw [← hy]
    clear hy
    by_cases hlt : k < K
    · have hlt2 : (k : Int) < K := by omega
      have v1 : IntKind.u8.wrap y = y % 256 := IntKind.wrap_u8 _
      have v2 : IntKind.i64.wrap ((k : Int) + 1) = ((k + 1 : Nat) : Int) := by rw [IntKind.wrap_i64]; omega
      go_wp2_with (first
        | (at_builtin
           refine wpList_appM (by rfl) (.tmp 17) (.tmp 20) (by rfl) base infoByteS u0 _ _ (by rfl) HOW.out _ 1 (by rfl) (by rfl) (by simp [Value.oneCell']) (by decide) (by omega) HSZ.out ?_
           intro g1 c1 w1 ho1 hg1 hx1
           have HO1 := Lib.hid ho1
           have HG1 := Lib.hid hg1
           have HX1 := Lib.hid hx1
           clear ho1 hg1 hx1))
      go_roundw
      case rel =>
        have hgg : w.grownBy w1 v.ownBlock := by
          rcases HVW.out with h | h
          · rw [← h]; exact grownBy_trans (by rw [h]; exact HGW.out) HG1.out
          · cases hu : u0.ownBlock with
            | none => have hg := HG1.out; rw [hu] at hg; exact ⟨hg.os.trans HGW.out.os, hg.tape.trans HGW.out.tape, hg.output.trans HGW.out.output, Nat.le_trans HGW.out.size hg.size, fun j hj hn => (hg.block j (Nat.lt_of_lt_of_le hj HGW.out.size) (by simp)).trans (HGW.out.block j hj hn)⟩
            | some g => have hg := HG1.out; rw [hu] at hg; exact grown_chain HGW.out hg (.inr (h g hu))
        refine ⟨k + 1, by omega, by go_num, ?_, ?_, Lib.hid hgg, ?_⟩
        · rw [HY.out, ← div_pow]
        · have ho := HO1.out
          rw [HY.out] at ho
          show Hid (RowM _ _ _ _ _)
          simp only [leB, List.map_append, ← List.append_assoc]
          exact Lib.hid (RowM.own ho)
        · rcases HX1.out with h | h
          · rcases HVW.out with h2 | h2
            · exact Lib.hid (.inl (show some g1 = _ from h.symm.trans h2))
            · exact Lib.hid (.inr (fun g hg => h2 g (by rw [h]; exact hg)))
          · exact Lib.hid (.inr (fun g hg => by
              have : g = g1 := (Option.some.inj hg).symm
              have := HGW.out.size
              omega))
      case measure => simp [intOf]; omega
    · obtain rfl : k = K := by omega
      have hlt2 : ¬ (k : Int) < k := by omega
      go_wp2_with fail
      go_ret
      exact ⟨_, rfl, by rw [leB_len]; exact HOW.out, HGW.out, HVW.out⟩
end Go.Proofs.Ytokidpajialgbaa
namespace Go.Proofs.Ytokidpajialgbaa
set_option linter.unusedSimpArgs false
set_option linter.unusedVariables false
open Go.RowKit
/-- a writer stands in block P; what it has written lies in its own row, not in block X -/
def OutAt (w : World) (P base : Nat) (X : Option Nat) (L : List Int) : Prop := ∃ v, Blk w P 60 [v] ∧ RowM w base v L.length (L.map (.int .u8)) ∧ v.ownBlock ≠ some P ∧ ∀ b, X = some b → v.ownBlock ≠ some b
theorem Below_ownM {B base n : Nat} {a w w' : World} {v : Value} {xs : List Value} (h : Below B a w) (ho : RowM w base v n xs) (hg : w.grownBy w' v.ownBlock) (hB : B ≤ base) (hs : base ≤ w.heap.size) : Below B a w' :=
  h.grown hg (by omega) (fun k hk => by have := (ho.lt k hk).1; omega)
theorem set_heap {w : World} {g i k : Nat} {v : Value} (hk : k < w.heap.size) (h : k ≠ g) : (w.setCell ⟨g, i, none⟩ v).heap[k]? = w.heap[k]? := (grownBy_setCell (grownBy_refl w (some g)) i v).block k hk (fun e => h (Option.some.inj e))
theorem OutAt.below {w w' : World} {P base : Nat} {X : Option Nat} {L : List Int} (h : OutAt w P base X L) (hb : Below w.heap.size w w') : OutAt w' P base X L := by
  obtain ⟨v, h1, h2, h3, h4⟩ := h
  exact ⟨v, h1.below_ hb, h2.keep (fun g hg => hb.block g (h2.lt g hg).2), h3, h4⟩
def NumP (B P base : Nat) (X : Option Nat) (L : List Int) (w : World) (e : Ending) (w' : World) : Prop := e = .returned (.tuple #[]) ∧ OutAt w' P base X L ∧ Below B w w'
/-- the bytes of numbers -/
def leL (K : Nat) (l : List Int) : List Int := l.flatMap (fun x => leB x K)
theorem leL_len (K : Nat) (l : List Int) : (leL K l).length = l.length * K := by
  induction l with
  | nil => simp [leL]
  | cons x t ih => simp only [leL, List.flatMap_cons, List.length_append, leB_len, List.length_cons] at ih ⊢; rw [ih, Nat.succ_mul]; omega
set_option maxRecDepth 100000 in
set_option maxHeartbeats 4000000 in
theorem num_any (K B P base n c : Nat) (A : Option Addr) (l L : List Int) (w : World) (X : Option Nat) (ho : OutAt w P base X L) (hl : Ints w A .i64 l) (hn : l.length = n) (hwf : ∀ x ∈ l, (Lit.int .i64 x).wf = true) (hX : ∀ ad, A = some ad → ad.block ≠ P ∧ (X = some ad.block ∨ ad.block < base))
    (hB : B ≤ base ∧ B ≤ P ∧ base ≤ w.heap.size ∧ P < w.heap.size) (hK : 1 ≤ K ∧ K ≤ 4) (hL : L.length + n * 4 ≤ 100000000) (hXw : ∀ b, X = some b → b < w.heap.size) :
    Calls Try.prog 25 #[.pointer (some ⟨P, 0, none⟩), .int .i64 K, .slice A n c] w (NumP B P base X (L ++ leL K l) w) := by
  have HO := Lib.hid ho; have HL := Lib.hid hl; have HN := Lib.hid hn; have HW := Lib.hid hwf; have HX := Lib.hid hX; have HXW := Lib.hid hXw
  obtain ⟨hB1, hB2, hB3, hB4⟩ := hB
  obtain ⟨hK1, hK2⟩ := hK
  clear ho hl hn hwf hX hXw
  go_enter Try.func25, Try.ntmps25
  go_wp2_with fail
  go_loopw [7, 10] (fun _ i wr => ∃ k : Nat, k ≤ n ∧ i = .int .i64 (k : Nat) ∧ Hid (OutAt wr P base X (L ++ leL K (l.take k))) ∧ Hid (Ints wr A .i64 l) ∧ Hid (Below B w wr)) (fun _ i _ => n - (intOf i).toNat)
  case atStart => exact ⟨0, Nat.zero_le _, rfl, Lib.hid (by simpa [leL] using HO.out), HL, Lib.hid (Below.refl _ _)⟩
  case round =>
    obtain ⟨k, hk, rfl, HOW, HLW, HBW⟩ := hrel
    by_cases hlt : k < n
    · have hlt2 : (k : Int) < n := by omega
      obtain ⟨x, hx⟩ : ∃ x, l[k]? = some x := ⟨_, List.getElem?_eq_getElem (by rw [HN.out]; exact hlt)⟩
      obtain ⟨ad, rfl, hc⟩ := HLW.out k (.int .i64 x) (by simp [hx])
      obtain ⟨v, h1, h2, h3, h4⟩ := HOW.out
      have hcp : wr.cell? ⟨P, 0, none⟩ = some v := h1.cell 0
      have v2 : IntKind.i64.wrap ((k : Int) + 1) = ((k + 1 : Nat) : Int) := by rw [IntKind.wrap_i64]; omega
      have HXX := Lib.hid hx
      have hsz := HBW.out.size
      have hll : (L ++ leL K (l.take k)).length ≤ 100000000 := by
        rw [List.length_append, leL_len, List.length_take, HN.out]
        have : min k n * K ≤ n * 4 := Nat.mul_le_mul (Nat.min_le_right _ _) hK2
        omega
      have HPU := Lib.hid (put_any K base _ v _ x wr h2 (Nat.le_trans hB3 hsz) hll ⟨hK1, hK2⟩ (HW.out x (List.mem_of_getElem? hx)))
      have HH1 := Lib.hid h1; have HH2 := Lib.hid h2; have HH3 := Lib.hid h3; have HH4 := Lib.hid h4
      clear hx h1 h2 h3 h4 hll
      go_wp2_with (first
        | (go_at_call 53
           refine HPU.out.mono ?_
           rintro e w1 ⟨v1, rfl, ho1, hg1, hv1⟩
           have HP1 : Hid (Blk w1 P 60 [v]) := Lib.hid (HH1.out.grown hg1 (fun e => HH3.out e.symm))
           have cp1 : w1.cell? ⟨P, 0, none⟩ = some v := HP1.out.cell 0
           have fp1 := HP1.out.frozen 0
           obtain ⟨sa, sm, sc, rfl⟩ := ho1.form
           have HO1 := Lib.hid ho1; have HG1 := Lib.hid hg1; have HV1 := Lib.hid hv1
           clear ho1 hg1 hv1))
      go_roundw
      case rel =>
        have hlk := HG1.out.size
        have hne1 : (Value.slice sa sm sc).ownBlock ≠ some P := by
          rcases HV1.out with h | h
          · rw [h]; exact HH3.out
          · intro e; have := h P e; omega
        have hrow : w1.grownBy (w1.setCell ⟨P, 0, none⟩ (.slice sa sm sc)) (some P) := grownBy_setCell (grownBy_refl w1 (some P)) 0 (.slice sa sm sc)
        have hbl : Below B w w1 := Below_ownM HBW.out HH2.out HG1.out hB1 (Nat.le_trans hB3 hsz)
        refine ⟨k + 1, by omega, by go_num, Lib.hid ⟨.slice sa sm sc, ?_, ?_, hne1, ?_⟩, Lib.hid ?_, Lib.hid (hbl.setCell hB2 _)⟩
        · exact HP1.out.set_ 0 (.slice sa sm sc)
        · have h2 := HO1.out.keep (w' := w1.setCell ⟨P, 0, none⟩ (.slice sa sm sc)) (fun g hg => set_heap (HO1.out.lt g hg).2 (fun e => hne1 (by rw [hg, e])))
          have e1 : L ++ leL K (l.take (k + 1)) = (L ++ leL K (l.take k)) ++ leB x K := by
            rw [List.take_add_one, HXX.out]
            unfold leL
            simp [List.flatMap_append]
          rw [e1, List.length_append, List.map_append]
          exact h2
        · intro b hb
          rcases HV1.out with h | h
          · rw [h]; exact HH4.out b hb
          · intro e
            have h5 := h b e
            have := HXW.out b hb
            omega
        · have hbk : ad.block < wr.heap.size := by have := block_lt_of_cell hc; rwa [block_of_add] at this
          have h5 : (w1.setCell ⟨P, 0, none⟩ (.slice sa sm sc)).heap[ad.block]? = wr.heap[ad.block]? := by
            rw [set_heap (by omega) (HX.out ad rfl).1]
            refine HG1.out.block _ hbk (fun e => ?_)
            rcases (HX.out ad rfl).2 with h | h
            · exact HH4.out _ h e.symm
            · have := (HH2.out.lt _ e.symm).1; omega
          intro j u hj
          obtain ⟨ad', e, hcj⟩ := HLW.out j u hj
          injection e with e
          subst e
          exact ⟨_, rfl, (World.cell?_of_block (by rw [block_of_add]; exact h5)).trans hcj⟩
      case measure => simp [intOf]; omega
    · obtain rfl : k = n := by omega
      have hlt2 : ¬ (k : Int) < k := by omega
      go_wp2_with fail
      refine bodyPost_end (results_none rfl _ _ _) rfl ⟨rfl, ?_, HBW.out⟩
      have := HOW.out
      rw [List.take_of_length_le (by rw [HN.out]; exact Nat.le_refl _)] at this
      exact this
end Go.Proofs.Ytokidpajialgbaa
namespace Go.Proofs.Ytokidpajialgbaa
set_option linter.unusedSimpArgs false
set_option linter.unusedVariables false
open Go.RowKit
theorem own_of_blk {w : World} {B g n : Nat} {t : TypeId} {cs : List Value} (h : Blk w g t cs) (hB : B ≤ g) (hn : cs.length = n) (hm : n ≤ maxLen) : w.ownsRow B t 1 (.slice (some ⟨g, 0, none⟩) n n) n cs :=
  ⟨by omega, .inr ⟨g, n, _, rfl, hB, h, Nat.le_refl _, hm, by simp [hn], by rw [Nat.mul_one, ← hn]; simp⟩⟩
/-- append of cells that may lie nowhere, onto a row of the call's own -/
theorem wpList_appAny {P : Program} (w : World) {ops : Array Oper} {rest : List Oper} {o : Oper} {a : Act} {Q : Exit → Act → World → Prop} (hgd : o.guard = none) (s x : Operand) (t : TypeId)
    (ho : o.op = .call { callee := .builtin .append, args := #[s, x], argTypes := #[t, t] })
    (base : Nat) (e : TypeId) (z : Value) (bytes : Nat) (ht : P.underlying t = some (.slice e)) (hi : (P.info? e).map (fun i => (i.zero, i.size, i.bytes)) = some (some z, 1, bytes)) (hzs : z.cells.size = 1)
    (v : Value) (n : Nat) (xs : List Value) (hs : a.eval s = v) (hown : w.ownsRow base e 1 v n xs) (A : Option Addr) (m c : Nat) (news : List Value) (hx : a.eval x = .slice A m c) (hl : news.length = m) (hc : Cells w A news) (hnil : A = none → m = 0 ∧ c = 0)
    (h1 : ∀ u ∈ news, u.oneCell' = true) (h63 : n + m ≤ maxLen) (hbytes : (n + m) * bytes ≤ 140737488355328) (hbase : base ≤ w.heap.size)
    (h : ∀ v' w', w'.ownsRow base e 1 v' (n + m) (xs ++ news) → w.grownBy w' v.ownBlock → wpList P ops Q rest (a.put o.dst v') w') : wpList P ops Q (o :: rest) a w := by
  obtain ⟨i0, hi0, hz0, hz1, hz2⟩ := info_parts hi
  cases A with
  | none =>
    obtain ⟨rfl, rfl⟩ := hnil rfl
    have hn : news = [] := List.eq_nil_of_length_eq_zero hl
    subst hn
    exact wpList_append_own_none hgd s x t ho base e i0 1 ht hi0 v n xs hs hown hx (h v w (by simpa using hown) ⟨rfl, rfl, rfl, Nat.le_refl _, fun _ _ _ => rfl⟩)
  | some ad =>
    refine wpList_append_own_at _ hgd s x t ho base e i0 z 1 bytes ht hi0 hz0 hz1 hz2 hzs (by decide) v n xs hs hown ad m c news hx (by omega) (fun j u hj => ?_) h1 h63 hbytes hbase (fun v' w' a1 a2 _ _ => h v' w' a1 a2)
    obtain ⟨ad', e1, e2⟩ := hc j u hj
    injection e1 with e1
    subst e1
    exact e2
end Go.Proofs.Ytokidpajialgbaa
