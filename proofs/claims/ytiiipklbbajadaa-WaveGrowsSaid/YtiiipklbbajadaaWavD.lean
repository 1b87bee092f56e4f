/- wave: At, over any parts. -/
import Derived.Test.YtiiipklbbajadaaWavC
namespace Go.Proofs.Ytiiipklbbajadaa
set_option linter.unusedSimpArgs false
set_option linter.unusedVariables false
open Go.RowKit
/-- what At hands back -/
def atV (x : Option (Int × Int)) : Value := match x with
  | none => .tuple #[.agg #[.int .i64 0, .int .i64 0], .bool false]
  | some y => .tuple #[.agg #[.int .i64 y.1, .int .i64 y.2], .bool true]
def AtP (x : Option (Int × Int)) (u : World) (e : Ending) (u' : World) : Prop := e = .returned (atV x) ∧ Below u.heap.size u u'
/-- each part's method tells its edges -/
def Told (u : World) (g : Nat) (ps : List Part) : Prop := ∀ p ∈ ps, (∀ (args : Array Value) (w : World), (callFunc p.fn args).run Try.prog w = .ok (.enter p.fn args) w) ∧ ∀ (k : Nat) (w : World), (k : Int) < p.many → Below u.heap.size u w → Calls Try.prog p.fn #[.pointer (some ⟨g, 0, none⟩), .int .i64 k] w (EdgeP (p.edge k) w)
theorem wv_at_none (k : Int) (u : World) : Calls Try.prog 9 #[.pointer none, .int .i64 k] u (AtP none u) := by
  go_enter Try.func9, Try.ntmps9
  go_wp2_with fail
  exact bodyPost_ret (results_row_tmp rfl rfl (heap_alloc_new u (.cells #[.int .i64 0, .int .i64 0] 37)) Try.underlying37 rfl infoEdge rfl) rfl ⟨rfl, below_al1 u _⟩
theorem wv_at_neg (g : Nat) (k : Int) (u : World) (hk : k < 0) : Calls Try.prog 9 #[.pointer (some ⟨g, 0, none⟩), .int .i64 k] u (AtP none u) := by
  go_enter Try.func9, Try.ntmps9
  go_wp2_with fail
  exact bodyPost_ret (results_row_tmp rfl rfl (heap_alloc_new u (.cells #[.int .i64 0, .int .i64 0] 37)) Try.underlying37 rfl infoEdge rfl) rfl ⟨rfl, below_al1 u _⟩
set_option maxHeartbeats 2000000 in
theorem wv_at (g : Nat) (ps : List Part) (k : Int) (u : World) (h : PartsAt u g ps) (hf : Few ps) (ht : Told u g ps) (hk : ¬ k < 0) (hk2 : k ≤ 9223372036854775807) :
    Calls Try.prog 9 #[.pointer (some ⟨g, 0, none⟩), .int .i64 k] u (AtP (Wv.at_ ps k) u) := by
  obtain ⟨w0, hw0⟩ : ∃ w0, w0 = u.alloc (.cells #[.int .i64 0, .int .i64 0] 37) := ⟨_, rfl⟩
  have HW0 := Lib.hid hw0
  have hb0 : Below u.heap.size u w0 := by rw [hw0]; exact below_al1 u _
  have HB0 := Lib.hid hb0
  have HE0 : Hid (Blk w0 u.heap.size 37 [.int .i64 0, .int .i64 0]) := by show Blk _ _ _ _; rw [hw0]; exact Blk.new u _ _
  obtain ⟨H, b, c, hc, hH, hr⟩ := h.below hb0
  obtain ⟨n, hn⟩ : ∃ n, n = ps.length := ⟨_, rfl⟩
  rw [← hn] at hc hH
  have HN := Lib.hid hn; have HR := Lib.hid hr; have HF := Lib.hid hf; have HT := Lib.hid ht; have HK := Lib.hid hk
  have hn8 : n ≤ 8 := by rw [hn]; exact hf.1
  rw [hw0] at hc
  clear hn hr hf ht hw0 hb0
  go_enter Try.func9, Try.ntmps9
  go_wp2_with fail
  rw [← HW0.out]
  have hk0 := HK.out
  clear hk hc
  go_loopw [1, 7, 20] (fun v _ idx wr => ∃ (j : Nat) (k' : Int), j ≤ n ∧ v = .int .i64 k' ∧ idx = .int .i64 j ∧ 0 ≤ k' ∧ k' ≤ 9223372036854775807 ∧ Hid (Wv.at_ ps k = Wv.at_ (ps.drop j) k') ∧ Hid (Below w0.heap.size w0 wr)) (fun _ _ idx _ => n - (intOf idx).toNat)
  case atStart => exact ⟨0, k, by omega, rfl, rfl, by omega, hk2, rfl, Below.refl _ _⟩
  case round =>
    obtain ⟨j, k', hj, rfl, rfl, hk0', hk1', HA, HB⟩ := hrel
    by_cases hlt : j < n
    · obtain ⟨p, hp⟩ : ∃ p, ps[j]? = some p := ⟨_, List.getElem?_eq_getElem (by rw [← HN.out]; exact hlt)⟩
      have HRG := Lib.hid (rangeAt_bel (HR.out j p hp) HB.out)
      have hH2 : H = some ⟨b, 0, none⟩ := by rcases hH with h | h; omega; exact h
      subst hH2
      have hpm := List.mem_of_getElem? hp
      have hm := HF.out.2 p hpm
      have HAD : Hid (Wv.at_ (ps.drop j) k' = if k' < p.many then some (p.edge k'.toNat) else Wv.at_ (ps.drop (j + 1)) (k' - p.many)) := by
        show _ = _
        rw [List.drop_eq_getElem_cons (by rw [← HN.out]; exact hlt)]
        have e : ps[j]'(by rw [← HN.out]; exact hlt) = p := by rw [List.getElem?_eq_getElem (by rw [← HN.out]; exact hlt)] at hp; exact Option.some.inj hp
        rw [e]
        rfl
      obtain ⟨R, hR⟩ : ∃ R, R = p.cells g := ⟨_, rfl⟩
      have HRL : Hid (some 2 = some R.toArray.size) := by show _ = _; rw [hR]; rfl
      have HSZ : Hid (R.toArray.size = 2) := by show _ = _; rw [hR]; rfl
      have HR1 : Hid (R.toArray.all (·.oneCell') = true) := by
        refine all_oneCell_toArray fun v hv => ?_
        rw [hR] at hv
        simp only [Part.cells, List.mem_cons, List.not_mem_nil, or_false] at hv
        rcases hv with rfl | rfl <;> rfl
      obtain ⟨u1, hu1⟩ : ∃ u, u = wr.alloc (.cells R.toArray 53) := ⟨_, rfl⟩
      have HU := Lib.hid hu1
      have HBU := Lib.hid (show Below w0.heap.size w0 u1 by rw [hu1]; exact HB.out.alloc HB.out.size _)
      have hbk : Blk u1 wr.heap.size 53 (p.cells g) := by rw [hu1, hR]; exact Blk.new wr 53 (p.cells g)
      have c0 : u1.cell? ⟨wr.heap.size, 0, none⟩ = some (.int .i64 p.many) := hbk.cell 0
      have c1 : u1.cell? ⟨wr.heap.size, 1, none⟩ = some (.func (.func p.fn) #[.pointer (some ⟨g, 0, none⟩)] #[]) := hbk.cell 1
      rw [← hR] at HRG
      obtain ⟨m, hm'⟩ : ∃ m, m = p.many := ⟨_, rfl⟩
      obtain ⟨fn, hfn⟩ : ∃ fn, fn = p.fn := ⟨_, rfl⟩
      have HC := Lib.hid (fun (k : Nat) (w : World) (h1 : (k : Int) < p.many) (h2 : Below u.heap.size u w) => (HT.out p hpm).2 k w h1 h2)
      have hrun := (HT.out p hpm).1
      rw [← hm'] at c0 hm HAD HC
      rw [← hfn] at c1 HC hrun
      clear hp hpm hm' hfn hu1 hR hbk
      by_cases hkm : k' < m
      · obtain ⟨q, rfl⟩ := Int.eq_ofNat_of_zero_le hk0'
        replace HC := Lib.hid (HC.out q u1 hkm (HB0.out.trans (HBU.out.mono HB0.out.size)))
        have HE1 := Lib.hid (HE0.out.below_ HBU.out)
        obtain ⟨x, y, hx⟩ : ∃ x y, p.edge q = (x, y) := ⟨_, _, rfl⟩
        have HX : Hid (Wv.at_ ps k = some (x, y)) := by show _ = _; rw [HA.out, HAD.out, if_pos hkm, ← hx]; rfl
        rw [hx] at HC
        replace HC : Hid (Calls Try.prog fn #[.pointer (some ⟨g, 0, none⟩), .int .i64 q] u1 fun e w' => e = .returned (.agg #[.int .i64 x, .int .i64 y]) ∧ Below u1.heap.size u1 w') := HC
        clear hx
        go_wp2_with (first
          | (refine wpList_load_mid rfl 53 (.tmp 22) rfl b (j * 2) rfl _ _ HRG.out Try.underlying53 rfl (infoPart.trans HRL.out) ?_)
          | (refine wpList_store_rowTo rfl 53 (.tmp 7) (.tmp 23) rfl rfl wr.heap.size _ rfl rfl 53 _ (heap_alloc_new wr _) (infoPart.trans HRL.out) (by rw [HSZ.out]; rfl) HR1.out ?_; rw [World.setRow_alloc_new, ← HU.out])
          | (refine HC.out.mono ?_; rintro e w2 ⟨rfl, hb2⟩; have HE2 := Lib.hid (HE1.out.below_ hb2); have e0 := HE2.out.cell 0; have e1 := HE2.out.cell 1; have f0 := HE2.out.frozen 0; have f1 := HE2.out.frozen 1; have HB2 := Lib.hid (HBU.out.trans (hb2.mono HBU.out.size)); clear hb2))
        have HS2 := Lib.hid ((HE2.out.set_ 0 (.int .i64 x)).set_ 1 (.int .i64 y))
        have hb := HB0.out.trans (HB2.out.mono HB0.out.size)
        refine bodyPost_ret (results_row_tmp rfl rfl HS2.out Try.underlying37 rfl infoEdge rfl) rfl ⟨?_, (hb.setCell (Nat.le_refl _) _).setCell (Nat.le_refl _) _⟩
        rw [HX.out]
        rfl
      · have HA2 : Hid (Wv.at_ ps k = Wv.at_ (ps.drop (j + 1)) (k' - m)) := by show _ = _; rw [HA.out, HAD.out, if_neg hkm]
        have w1 : IntKind.i64.wrap (k' - m) = k' - m := by rw [IntKind.wrap_i64]; omega
        go_wp2_with (first
          | (refine wpList_load_mid rfl 53 (.tmp 22) rfl b (j * 2) rfl _ _ HRG.out Try.underlying53 rfl (infoPart.trans HRL.out) ?_)
          | (refine wpList_store_rowTo rfl 53 (.tmp 7) (.tmp 23) rfl rfl wr.heap.size _ rfl rfl 53 _ (heap_alloc_new wr _) (infoPart.trans HRL.out) (by rw [HSZ.out]; rfl) HR1.out ?_; rw [World.setRow_alloc_new, ← HU.out]))
        go_roundw
        case rel => exact ⟨j + 1, k' - m, by omega, rfl, rfl, by omega, by omega, HA2, HBU.out⟩
        case measure => simp [intOf]; omega
    · obtain rfl : n = j := by omega
      have HX : Hid (Wv.at_ ps k = none) := by show _ = _; rw [HA.out, HN.out, List.drop_length]; rfl
      have HE1 := Lib.hid (HE0.out.below_ HB.out)
      have e0 := HE1.out.cell 0
      have e1 := HE1.out.cell 1
      have f0 := HE1.out.frozen 0
      have f1 := HE1.out.frozen 1
      go_wp2_with fail
      have HS2 := Lib.hid ((HE1.out.set_ 0 (.int .i64 0)).set_ 1 (.int .i64 0))
      have hb := HB0.out.trans (HB.out.mono HB0.out.size)
      refine bodyPost_ret (results_row_tmp rfl rfl HS2.out Try.underlying37 rfl infoEdge rfl) rfl ⟨?_, (hb.setCell (Nat.le_refl _) _).setCell (Nat.le_refl _) _⟩
      rw [HX.out]
      rfl
end Go.Proofs.Ytiiipklbbajadaa
