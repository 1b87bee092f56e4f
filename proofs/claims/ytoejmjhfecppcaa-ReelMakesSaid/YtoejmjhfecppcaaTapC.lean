/- Tapes in memory: rows of blocks; squealref19.SameTape on the same. -/
import Derived.Test.YtoejmjhfecppcaaTapB
import Derived.Deep.MidRow
namespace Go.Proofs.Ytoejmjhfecppcaa
set_option linter.unusedSimpArgs false
set_option linter.unusedVariables false
open Go.RowKit Go.Sort
/-- a slice of blocks -/
def SlB (w : World) (v : Value) (L : List BlkL) : Prop :=
  ∃ A n c, v = .slice A n c ∧ (L.length = n ∧ n ≤ 140737488355328) ∧ ∀ i B, L[i]? = some B → ∃ ad cs, A = some ad ∧ cs.length = 18 ∧ BlkV w cs B ∧ ∀ j x, cs[j]? = some x → w.cell? ((ad.add (i * 18)).add j) = some x
theorem SlB.below {w w' : World} {v : Value} {L : List BlkL} (h : SlB w v L) (hb : Below w.heap.size w w') : SlB w' v L := by
  obtain ⟨A, n, c, h1, h2, h3⟩ := h
  refine ⟨A, n, c, h1, h2, fun i B hi => ?_⟩
  obtain ⟨ad, cs, e, hl, hB, cj⟩ := h3 i B hi
  exact ⟨ad, cs, e, hl, hB.below hb, fun j x hx => cell_below hb (cj j x hx)⟩
theorem run_loadAt_list {P : Program} (w : World) (a : Addr) (ty : TypeId) (cs : List Value) (d : TypeDesc) (h : ∀ j x, cs[j]? = some x → w.cell? (a.add j) = some x)
    (hu : P.underlying ty = some d) (hd : d.isRow = true) (hi : (P.info? ty).map (·.size) = some cs.length) :
    (Instr.loadAt ty (.pointer (some a))).run P w = .ok (.agg cs.toArray) w := by
  have hl : (loadCells a cs.length).run P w = .ok cs.toArray w := run_loadCells_list (P := P) w a cs h
  cases hq : P.info? ty with
  | none => simp [hq] at hi
  | some i =>
    have hs : i.size = cs.length := by simpa [hq] using hi
    have hagg : (isAgg ty).run P w = .ok true w := by
      unfold isAgg
      rw [Sem.run_bind, run_underlying hu w]
      cases d <;> simp_all
    simp [Instr.loadAt, Instr.sureAddr, loadVar, Sem.run_bind, hagg, sizeOf, typeInfo, hq, hs, hl]
theorem wpQuiet_load {P : Program} {ops : Array Oper} {C : World → Prop} {Q : Act → Prop} {a : Act} {o : Oper} {rest : List Oper} (hg : o.guard = none) (ty : TypeId) (x : Operand) (ho : o.op = .load ty x)
    (p : Addr) (hx : a.eval x = .pointer (some p)) (v : Value) (hl : ∀ w, C w → (Instr.loadAt ty (.pointer (some p))).run P w = .ok v w) (h : wpQuiet P ops C Q rest (a.put o.dst v)) : wpQuiet P ops C Q (o :: rest) a := by
  have hw : Region.wanted o (yielded ops a.tmps) = true := by simp [Region.wanted, hg]
  simp only [wpQuiet, hw, if_true]
  refine ⟨v, fun w hc => ?_, h⟩
  have := hl w hc
  unfold Oper.quietAt execOp
  simp only [ho, hx, Sem.run_bind, this, Result.andThen_ok]
  simp [Oper.quietUpon, Sem.run_pure]
theorem load_block {W : World} {a : Addr} {cs : List Value} (hl : cs.length = 18) (h : ∀ j x, cs[j]? = some x → W.cell? (a.add j) = some x) : (Instr.loadAt 87 (.pointer (some a))).run Try.prog W = .ok (.agg cs.toArray) W :=
  run_loadAt_list W a _ cs (Try.prog.underlying 87).get! h (by kernel_rfl) (by kernel_rfl) (by rw [hl]; kernel_rfl)
set_option maxRecDepth 100000 in
set_option maxHeartbeats 16000000 in
theorem tape_same (a b : Int) (v v' : Value) (L : List BlkL) (w : World) (h : SlB w v L) (h' : SlB w v' L) : Calls Try.prog 14 #[.agg #[.int .i64 a, .int .i64 b, v], .agg #[.int .i64 a, .int .i64 b, v']] w fun e w' => e = .returned (.bool true) ∧ Below w.heap.size w w' := by
  obtain ⟨A, n, c, rfl, ⟨hn, hm⟩, hi⟩ := h
  obtain ⟨A', n', c', rfl, ⟨hn', hm'⟩, hi'⟩ := h'
  obtain rfl : n' = n := by omega
  have HI := Lib.hid hi
  have HI' := Lib.hid hi'
  have HN := Lib.hid hn
  have HW : Hid (Below w.heap.size w ((w.alloc (.cells #[.int .i64 a, .int .i64 b, .slice A n' c] 26)).alloc (.cells #[.int .i64 a, .int .i64 b, .slice A' n' c'] 26))) := Lib.hid (((Below.refl _ w).alloc (Nat.le_refl _) _).alloc (by simp) _)
  have HK0 := Lib.hid ((Blk.new w 26 [.int .i64 a, .int .i64 b, .slice A n' c]).alloc (.cells #[.int .i64 a, .int .i64 b, .slice A' n' c'] 26))
  have HK1 := Lib.hid (blk_alloc2_new w (.cells #[.int .i64 a, .int .i64 b, .slice A n' c] 26) 26 [.int .i64 a, .int .i64 b, .slice A' n' c'])
  clear hi hi' hn hn' hm'
  go_enter Try.func14, Try.ntmps14
  go_wp2_with fail
  obtain ⟨wz, hwz⟩ : ∃ u, u = ((w.alloc (.cells #[.int .i64 a, .int .i64 b, .slice A n' c] 26)).alloc (.cells #[.int .i64 a, .int .i64 b, .slice A' n' c'] 26)) := ⟨_, rfl⟩
  rw [← hwz] at HW HK0 HK1 ⊢
  clear hwz
  go_loopw [5] (fun i wr => ∃ k : Nat, k ≤ n' ∧ i = .int .i64 k ∧ Below wz.heap.size wz wr) (fun i _ => n' - (intOf i).toNat)
  case atStart => exact ⟨0, by omega, rfl, Below.refl _ _⟩
  case round =>
    obtain ⟨k, hk, rfl, hb⟩ := hrel
    have HBZ := Lib.hid hb
    have HB := Lib.hid (HW.out.trans (hb.mono HW.out.size))
    have a2 := (HK0.out.below_ hb).cell 2
    have b2 := (HK1.out.below_ hb).cell 2
    clear hb
    by_cases hlt : k < n'
    · have hlt2 : (k : Int) < n' := by omega
      obtain ⟨x, hx⟩ : ∃ x, L[k]? = some x := ⟨_, List.getElem?_eq_getElem (by have := HN.out; omega)⟩
      obtain ⟨ad, cs, rfl, hl, hB, cj⟩ := HI.out k x hx
      obtain ⟨ad', cs', rfl, hl', hB', cj'⟩ := HI'.out k x hx
      have HS := Lib.hid (fun u (hu : Below w.heap.size w u) => same_same cs cs' x u (hB.below hu) (hB'.below hu))
      have ld := fun d os => load_block (W := grow (redrawn wr d) os) hl (fun j x hx => cell_below (HB.out.trans ((below_regrown wr d os).mono HB.out.size)) (cj j x hx))
      have ld' := fun d os => load_block (W := grow (redrawn wr d) os) hl' (fun j x hx => cell_below (HB.out.trans ((below_regrown wr d os).mono HB.out.size)) (cj' j x hx))
      have ka2 := cell_regrown a2
      have kb2 := cell_regrown b2
      have HQ := Lib.hid (fun d os => Calls.regrown_of (HS.out (grow (redrawn wr d) os) (HB.out.trans ((below_regrown wr d os).mono HB.out.size))))
      clear cj cj' hx hB hB'
      go_wp2_with fail
      refine wp_region_quiet_below (by kernel_rfl) (by kernel_rfl) ?_
      iterate 4 (quiet_step (fail))
      refine wpQuiet_load rfl _ _ rfl (ad.add (k * 18)) rfl (.agg cs.toArray) (fun u hu => ?_) ?_
      · obtain ⟨p, rfl⟩ := hu
        exact ld _ _
      repeat (quiet_step (fail))
      refine wpQuiet_load rfl _ _ rfl (ad'.add (k * 18)) rfl (.agg cs'.toArray) (fun u hu => ?_) ?_
      · obtain ⟨p, rfl⟩ := hu
        exact ld' _ _
      repeat (quiet_step (first | (go_at_call 42; exact HQ.out _ _)))
      refine wpQuiet_nil ?_
      intro _ hwq
      obtain ⟨⟨dq, osq⟩, hwr⟩ := hwq
      subst hwr
      go_wp2
      go_roundw
      case rel => exact ⟨k + 1, by omega, by go_num, HBZ.out.trans ((below_regrown wr dq osq).mono HBZ.out.size)⟩
      case measure => simp [intOf]; omega
    · obtain rfl : k = n' := by omega
      go_wp2_with fail
      go_ret
      exact ⟨rfl, HB.out⟩
end Go.Proofs.Ytoejmjhfecppcaa
