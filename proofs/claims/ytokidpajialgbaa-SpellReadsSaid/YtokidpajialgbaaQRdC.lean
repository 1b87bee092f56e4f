/- wire.Reader in whatever state: Take, Numbers, End. -/
import Derived.Test.YtokidpajialgbaaQRdB
namespace Go.Proofs.Ytokidpajialgbaa
set_option linter.unusedSimpArgs false
set_option linter.unusedVariables false
open Go.RowKit
theorem infoU8r : (Try.prog.info? 5).map (fun i => (i.zero, i.size, i.bytes)) = some (some (.int .u8 0), 1, 1) := by kernel_rfl
theorem infoI64r : (Try.prog.info? 3).map (fun i => (i.zero, i.size, i.bytes)) = some (some (.int .i64 0), 1, 8) := by kernel_rfl
/-- an element's type -/
def tyOf : IntKind → TypeId
  | .u8 => 5
  | _ => 3
/-- a slice of numbers, of its own memory -/
def RowOf (w : World) (base : Nat) (v : Value) (k : IntKind) (l : List Int) : Prop := w.ownsRow base (tyOf k) 1 v l.length (l.map (.int k ·))
theorem row_of_own {w : World} {base n : Nat} {e : TypeId} {v : Value} {k : IntKind} {l : List Int} (h : w.ownsRow base e 1 v n (l.map (.int k ·))) (he : e = tyOf k) : RowOf w base v k l := by
  have hn : l.length = n := by have := h.1; simpa using this
  subst he; subst hn
  exact h
theorem row_nil (w : World) (base : Nat) (k : IntKind) : RowOf w base (.slice none 0 0) k [] := World.ownsRow_nil _ _ _ _
theorem own_one {w : World} {base n size : Nat} {e : TypeId} {v : Value} {xs : List Value} (h : w.ownsRow base e size v n xs) : v.oneCell' = true := by
  rcases h.2 with ⟨rfl, _⟩ | ⟨g, c, cur, rfl, _⟩ <;> rfl
theorem own_mono {w : World} {base base' n size : Nat} {e : TypeId} {v : Value} {xs : List Value} (h : w.ownsRow base e size v n xs) (hb : base' ≤ base) : w.ownsRow base' e size v n xs := by
  refine ⟨h.1, ?_⟩
  rcases h.2 with h1 | ⟨g, c, cur, h1, h2, h3⟩
  · exact .inl h1
  · exact .inr ⟨g, c, cur, h1, Nat.le_trans hb h2, h3⟩
theorem own_below {w w' : World} {base n size : Nat} {e : TypeId} {v : Value} {xs : List Value} (h : w.ownsRow base e size v n xs) (hb : Below w.heap.size w w') : w'.ownsRow base e size v n xs :=
  h.kept (row := none) (grownBy_below hb) (by cases hv : v.ownBlock with
    | none => exact .inl rfl
    | some g => exact .inr (by simp))
theorem own_grown {w w' : World} {base n size r : Nat} {e : TypeId} {v : Value} {xs : List Value} (h : w.ownsRow base e size v n xs) (hg : w.grownBy w' (some r)) (hr : r < base) : w'.ownsRow base e size v n xs :=
  h.kept hg (.inr (fun e => by have := (h.lt r e).1; omega))
/-- rows of two types lie apart -/
theorem own_apart2 {w w' : World} {b1 b2 n1 n2 s1 s2 : Nat} {e1 e2 : TypeId} {v1 v2 : Value} {xs1 xs2 : List Value} (h1 : w.ownsRow b1 e1 s1 v1 n1 xs1) (h2 : w.ownsRow b2 e2 s2 v2 n2 xs2) (hne : e1 ≠ e2) (hg : w.grownBy w' v2.ownBlock) : w'.ownsRow b1 e1 s1 v1 n1 xs1 := by
  refine h1.kept hg ?_
  rcases h2.2 with ⟨rfl, _⟩ | ⟨g, c, cur, rfl, _, e3, _⟩
  · cases hv : v1.ownBlock with
    | none => exact .inl rfl
    | some g => exact .inr (by simp [Value.ownBlock])
  · refine .inr fun e => ?_
    rcases h1.2 with ⟨rfl, _⟩ | ⟨g', c', cur', rfl, _, e4, _⟩
    · simp [Value.ownBlock] at e
    · have : g' = g := by simpa [Value.ownBlock] using e
      subst this
      rw [e3] at e4
      injection e4 with e4
      injection e4 with _ e4
      exact hne e4.symm
theorem RowOf.one {w : World} {base : Nat} {v : Value} {k : IntKind} {l : List Int} (h : RowOf w base v k l) : v.oneCell' = true := own_one h
theorem RowOf.mono {w : World} {base base' : Nat} {v : Value} {k : IntKind} {l : List Int} (h : RowOf w base v k l) (hb : base' ≤ base) : RowOf w base' v k l := own_mono h hb
theorem RowOf.below {w w' : World} {base : Nat} {v : Value} {k : IntKind} {l : List Int} (h : RowOf w base v k l) (hb : Below w.heap.size w w') : RowOf w' base v k l := own_below h hb
theorem RowOf.grown {w w' : World} {base r : Nat} {v : Value} {k : IntKind} {l : List Int} (h : RowOf w base v k l) (hg : w.grownBy w' (some r)) (hr : r < base) : RowOf w' base v k l := own_grown h hg hr
theorem RowOf.setCell {w : World} {base b i : Nat} {v u : Value} {k : IntKind} {l : List Int} (h : RowOf w base v k l) (hr : b < base) : RowOf (w.setCell ⟨b, i, none⟩ u) base v k l :=
  h.grown (grownBy_setCell (grownBy_refl w _) i u) hr
/-- bytes were taken: the reader alone has turned -/
def TakP (R : Nat) (A : Addr) (n c : Nat) (L : List Int) (w : World) (k : IntKind) (l : List Int) (s : Rd.St) (e : Ending) (w' : World) : Prop := ∃ v, e = .returned v ∧ RowOf w' w.heap.size v k l ∧ RdIs w' R A n c L s ∧ w.grownBy w' (some R)
theorem grownBy_trans_other {w w' w'' : World} {R g : Nat} (h : w.grownBy w' (some R)) (h' : w'.grownBy w'' (some g)) (hg : w.heap.size ≤ g) : w.grownBy w'' (some R) :=
  ⟨h'.os.trans h.os, h'.tape.trans h.tape, h'.output.trans h.output, Nat.le_trans h.size h'.size, fun k hk hr => (h'.block k (Nat.lt_of_lt_of_le hk h.size) (fun e => absurd (Option.some.inj e) (by omega))).trans (h.block k hk hr)⟩
theorem own_keptR {w w' : World} {base size n R : Nat} {e : TypeId} {v : Value} {xs : List Value} (h : w.ownsRow base e size v n xs) (hg : w.grownBy w' (some R)) (hR : R < base) : w'.ownsRow base e size v n xs :=
  h.kept hg (.inr (fun e => by have := (h.lt R e).1; omega))
theorem own_none_or {w : World} {base size n : Nat} {e : TypeId} {v : Value} {xs : List Value} (h : w.ownsRow base e size v n xs) : v.ownBlock = none ∨ ∃ g, v.ownBlock = some g ∧ base ≤ g ∧ ∃ c cur, v = .slice (some ⟨g, 0, none⟩) n c ∧ w.heap[g]? = some (.cells cur e (0, 0)) := by
  rcases h.2 with ⟨rfl, rfl⟩ | ⟨g, c, cur, rfl, hb, e3, _⟩
  · exact .inl rfl
  · exact .inr ⟨g, rfl, hb, c, cur, rfl, e3⟩
theorem below_of_none {w w' : World} (h : w.grownBy w' none) : Below w.heap.size w w' := ⟨h.os, h.tape, h.output, h.size, fun k hk => h.block k hk (by simp)⟩
/-- a row of the call's own grew: the reader stays -/
theorem RdIs.own {w w' : World} {R base size m : Nat} {A : Addr} {n c : Nat} {L : List Int} {s : Rd.St} {e : TypeId} {v : Value} {xs : List Value} (h : RdIs w R A n c L s) (ho : w.ownsRow base e size v m xs) (he : e ≠ 66) (hR : R < base) (hg : w.grownBy w' v.ownBlock) : RdIs w' R A n c L s := by
  rcases own_none_or ho with h1 | ⟨g, h1, h2, d, cur, rfl, h3⟩
  · rw [h1] at hg; exact h.below (below_of_none hg)
  · rw [h1] at hg; exact h.grownF (own_no_fault ho he) (by omega) hg
theorem grownBy_own {w w' w'' : World} {base size m R : Nat} {e : TypeId} {v : Value} {xs : List Value} (h : w.grownBy w' (some R)) (ho : w'.ownsRow base e size v m xs) (hB : w.heap.size ≤ base) (hg : w'.grownBy w'' v.ownBlock) : w.grownBy w'' (some R) := by
  rcases own_none_or ho with h1 | ⟨g, h1, h2, d, cur, rfl, h3⟩
  · rw [h1] at hg; exact grownBy_trans h (grownBy_below (below_of_none hg))
  · rw [h1] at hg; exact grownBy_trans_other h hg (by omega)
theorem rdTake (R : Nat) (A : Addr) (n c : Nat) (L : List Int) (s : Rd.St) (j : Int) (w : World) (h : RdIs w R A n c L s) (hj : j ≤ 1099511627776) :
    Calls Try.prog 32 #[.pointer (some ⟨R, 0, none⟩), .int .i64 j] w (TakP R A n c L w .u8 (Rd.take j L s).1 (Rd.take j L s).2) := by
  by_cases hn : j < 0
  · have HA := Lib.hid (rdAt R A n c L s w h)
    have HF := Lib.hid (rdFail R A n c L s 1 s.k w h (by decide))
    rw [show Rd.take j L s = ([], Rd.fail s 1 s.k) by unfold Rd.take; rw [if_pos hn]]
    clear h
    go_enter Try.func32, Try.ntmps32
    go_wp2_with (first
      | (go_at_call 36; refine HA.out.mono ?_; rintro e w2 ⟨rfl, rfl⟩)
      | (go_at_call 35; refine HF.out.mono ?_; rintro e w3 ⟨rfl, hr3, hg3⟩; have HR3 := Lib.hid hr3; have HG3 := Lib.hid hg3; clear hr3 hg3))
    go_ret
    exact ⟨_, rfl, row_nil _ _ _, HR3.out, HG3.out⟩
  · obtain ⟨m, rfl⟩ := Int.eq_ofNat_of_zero_le (show 0 ≤ j by omega)
    have hm : Rd.take (m : Int) L s = Rd.nextM m L s := by unfold Rd.take; rw [if_neg hn]; simp
    rw [hm]
    obtain ⟨w1, hw1⟩ : ∃ w1, w1 = w.alloc (.cells #[] 5) := ⟨_, rfl⟩
    have HW1 := Lib.hid hw1
    have hB : Below w.heap.size w w1 := by rw [hw1]; exact (Below.refl _ w).alloc (Nat.le_refl _) _
    have hRl := h.lt_
    have HN := Lib.hid (rdNext R A n c L s m w1 (h.below hB) (by omega))
    have hlen : (Rd.nextM m L s).1.length ≤ 1048576 := by
      have := h.big; have := h.len
      unfold Rd.nextM
      split
      · simp
      · split
        · simp
        · simp [List.length_take]; omega
    obtain ⟨l, s', hM⟩ : ∃ l s', Rd.nextM m L s = (l, s') := ⟨_, _, rfl⟩
    rw [hM] at HN hlen ⊢
    have hlen2 : l.length ≤ 1048576 := hlen
    have HO : Hid (w1.ownsRow w.heap.size 5 1 (.slice (some ⟨w.heap.size, 0, none⟩) 0 0) 0 []) := by
      show _
      rw [hw1]
      exact own_of_blk (Blk.new w 5 []) (Nat.le_refl _) rfl (by unfold maxLen; omega)
    have HB := Lib.hid hB
    have hs1 : w1.heap.size = w.heap.size + 1 := by rw [hw1]; simp
    have HRN : Hid ((Value.slice (some ⟨w.heap.size, 0, none⟩) 0 0).ownBlock ≠ some R) := by
      intro e
      have : w.heap.size = R := by simpa [Value.ownBlock] using e
      omega
    have hm1 : 0 + l.length ≤ maxLen := by unfold maxLen; omega
    have hm2 : (0 + l.length) * 1 ≤ 140737488355328 := by omega
    clear h hB hw1 hM hm hlen
    go_enter Try.func32, Try.ntmps32
    go_wp2_with (first
      | (go_at_call 63; rw [← HW1.out]; refine HN.out.mono ?_; rintro e w2 ⟨B, d, rfl, hi2, hn2, hr2, hg2⟩; have HI2 := Lib.hid hi2; have HN2 := Lib.hid hn2; have HR2 := Lib.hid hr2; have HG2 := Lib.hid hg2; have HO2 := Lib.hid (HO.out.kept hg2 (.inr HRN.out)); have hsz2 := hg2.size; clear hi2 hn2 hr2 hg2)
      | (at_builtin; refine wpList_appAny _ rfl (.tmp 11) (.tmp 14) 22 rfl w.heap.size 5 (.int .u8 0) 1 Try.underlying22 infoU8r rfl _ 0 [] rfl HO2.out B l.length d (l.map (.int .u8 ·)) rfl (by simp) HI2.out HN2.out (fun u hu => by obtain ⟨x, -, rfl⟩ := List.mem_map.1 hu; rfl) hm1 hm2 (by omega) ?_; intro v' w3 hown3 hg3; have HO3 := Lib.hid hown3; have HG3 : Hid (w2.grownBy w3 (some w.heap.size)) := hg3; clear hown3 hg3))
    go_ret
    have hg13 := grownBy_trans_other (grownBy_trans (grownBy_below HB.out) HG2.out) HG3.out (Nat.le_refl _)
    refine ⟨_, rfl, row_of_own (by have := HO3.out; rw [List.nil_append] at this; exact this) rfl, ?_, hg13⟩
    exact HR2.out.grownF (own_no_fault HO2.out (by decide)) (by omega) HG3.out
theorem Rd.rep_len {α : Type} (f : Rd.RM α) (m : Nat) (L : List Int) (s : Rd.St) : (Rd.rep f m L s).1.length = m := by
  induction m generalizing s with
  | zero => rfl
  | succ m ih => simp only [Rd.rep, Rd.bind, Rd.ret, List.length_cons, ih]
set_option maxHeartbeats 1000000 in
theorem rdNumbers (R : Nat) (A : Addr) (n c : Nat) (L : List Int) (s : Rd.St) (many : Int) (j : Nat) (w : World) (h : RdIs w R A n c L s) (hj : 1 ≤ j) (hj4 : j ≤ 4) (hm : many ≤ 1099511627776) :
    Calls Try.prog 91 #[.pointer (some ⟨R, 0, none⟩), .int .i64 many, .int .i64 j] w (TakP R A n c L w .i64 (Rd.numbers many j L s).1 (Rd.numbers many j L s).2) := by
  have HA := Lib.hid (fun (u : World) (hu : RdIs u R A n c L s) => rdAt R A n c L s u hu)
  have HLD := Lib.hid (fun q => h.below (Below_drewN (Below.refl _ w) q))
  have hbig := h.big
  have hRl := h.lt_
  by_cases hn : many < 0
  · have HF := Lib.hid (rdFail R A n c L s 1 s.k w h (by decide))
    rw [show Rd.numbers many j L s = ([], Rd.fail s 1 s.k) by unfold Rd.numbers; rw [if_pos hn]]
    have H := Lib.hid h
    clear h
    go_enter Try.func91, Try.ntmps91
    go_wp2_with (first
      | (go_at_call 36; refine (HA.out w H.out).mono ?_; rintro e w2 ⟨rfl, rfl⟩)
      | (go_at_call 35; refine HF.out.mono ?_; rintro e w3 ⟨rfl, hr3, hg3⟩; have HR3 := Lib.hid hr3; have HG3 := Lib.hid hg3; clear hr3 hg3))
    go_ret
    exact ⟨_, rfl, row_nil _ _ _, HR3.out, HG3.out⟩
  · obtain ⟨m, rfl⟩ := Int.eq_ofNat_of_zero_le (show 0 ≤ many by omega)
    have HL := Lib.hid (rdLeft R A n c L s w h)
    have hlen := h.len
    have hln : Rd.left n s ≤ 1048576 := by
      unfold Rd.left
      split <;> omega
    obtain ⟨lf, hlf⟩ : ∃ lf, lf = Rd.left n s := ⟨_, rfl⟩
    rw [← hlf] at HL hln
    obtain ⟨d, hd⟩ : ∃ d : Nat, (lf : Int) / j = d := ⟨lf / j, by simp⟩
    have hdl : d ≤ 1048576 := by
      have h1 : (lf : Int) / j ≤ lf := Int.ediv_le_self _ (by omega)
      omega
    have hj0 : ((j : Int) == 0) = false := by simp; omega
    by_cases hlm : d < m
    · rw [show Rd.numbers m j L s = ([], Rd.fail s 2 s.k) by unfold Rd.numbers; rw [if_neg hn, hlen, ← hlf, hd, if_pos (by omega)]]
      have HF := Lib.hid (fun q => rdFail R A n c L s 2 s.k _ (HLD.out q) (by decide))
      clear h hlf
      go_enter Try.func91, Try.ntmps91
      go_wp2_with (first
        | (go_at_call 34; refine HL.out.mono ?_; rintro e w2 ⟨rfl, q, rfl⟩)
        | (go_at_call 36; refine (HA.out _ (HLD.out q)).mono ?_; rintro e w2 ⟨rfl, rfl⟩)
        | (go_at_call 35; refine (HF.out q).mono ?_; rintro e w3 ⟨rfl, hr3, hg3⟩; have HR3 := Lib.hid hr3; have HG3 := Lib.hid hg3; clear hr3 hg3))
      go_ret
      exact ⟨_, rfl, row_nil _ _ _, HR3.out, grownBy_trans (grownBy_drewN (grownBy_refl w _) q) HG3.out⟩
    · have hml : m ≤ lf := by
        have h1 : (lf : Int) / j ≤ lf := Int.ediv_le_self _ (by omega)
        omega
      rw [show Rd.numbers m j L s = Rd.rep (Rd.num j) m L s by unfold Rd.numbers; rw [if_neg hn, hlen, ← hlf, hd, if_neg (by omega)]; simp]
      obtain ⟨T, hT⟩ : ∃ T, T = Rd.rep (Rd.num j) m L s := ⟨_, rfl⟩
      have HT := Lib.hid hT
      rw [← hT]
      clear h hlf hT
      go_enter Try.func91, Try.ntmps91
      go_wp2_with (first
        | (go_at_call 34; refine HL.out.mono ?_; rintro e w2 ⟨rfl, q, rfl⟩))
      go_loopw [7, 33] (fun v i wr => ∃ (k : Nat) (v' : Value) (acc : List Int) (sk : Rd.St), k ≤ m ∧ i = .int .i64 k ∧ v' = v ∧ Hid (wr.ownsRow w.heap.size 3 1 v' k (acc.map (.int .i64 ·))) ∧ Hid (RdIs wr R A n c L sk) ∧ Hid (w.grownBy wr (some R)) ∧ Hid (T = (acc ++ (Rd.rep (Rd.num j) (m - k) L sk).1, (Rd.rep (Rd.num j) (m - k) L sk).2))) (fun _ i _ => m - (intOf i).toNat)
      case atStart => exact ⟨0, _, [], s, by omega, rfl, rfl, World.ownsRow_nil _ _ _ _, HLD.out q, grownBy_drewN (grownBy_refl w _) q, HT.out⟩
      case round =>
        obtain ⟨k, v, acc, sk, hk, rfl, rfl, HO, HR, HG, HTk⟩ := hrel
        by_cases hlt : k < m
        · have HN := Lib.hid (rdNumber R A n c L sk j wr HR.out hj hj4)
          obtain ⟨x, hx⟩ : ∃ x, x = (Rd.num j L sk).1 := ⟨_, rfl⟩
          obtain ⟨sk', hsk⟩ : ∃ sk', sk' = (Rd.num j L sk).2 := ⟨_, rfl⟩
          rw [← hx, ← hsk] at HN
          have hsz := HG.out.size
          have HTn : Hid (T = ((acc ++ [x]) ++ (Rd.rep (Rd.num j) (m - (k + 1)) L sk').1, (Rd.rep (Rd.num j) (m - (k + 1)) L sk').2)) := by
            show _ = _
            rw [HTk.out, show m - k = (m - (k + 1)) + 1 by omega, hx, hsk]
            simp only [Rd.rep, Rd.bind, Rd.ret, List.append_assoc, List.singleton_append]
          clear hx hsk
          go_wp2_with (first
            | (go_at_call 33; refine HN.out.mono ?_; rintro e w2 ⟨rfl, hr2, hg2⟩; have HO2 := Lib.hid (own_keptR HO.out hg2 hRl); have HR2 := Lib.hid hr2; have HG2 := Lib.hid (grownBy_trans HG.out hg2); have hsz2 := hg2.size; clear hr2 hg2)
            | (at_builtin; refine wpList_appL _ rfl (.tmp 35) (.tmp 39) 23 rfl w.heap.size 3 (.int .i64 0) 1 8 Try.underlying23 infoI64r rfl (by decide) v k _ rfl HO2.out #[.int .i64 x] 1 rfl rfl (by simp [Value.oneCell']) (by decide) (by omega) (by decide) (by omega) ?_; intro g2 c2 w4 hown4 hg4 _; have HR4 := Lib.hid (HR2.out.own HO2.out (by decide) hRl hg4); have HG4 := Lib.hid (grownBy_own HG2.out HO2.out (Nat.le_refl _) hg4); have HO4 := Lib.hid hown4; clear hown4 hg4))
          go_roundw
          case rel => exact ⟨k + 1, _, acc ++ [x], sk', by omega, by go_num, rfl, by show World.ownsRow _ _ _ _ _ _ _; rw [List.map_append]; exact HO4.out, HR4.out, HG4.out, HTn.out⟩
          case measure => simp [intOf]; omega
        · obtain rfl : m = k := by omega
          go_wp2_with fail
          go_ret
          have hT := HTk.out
          rw [Nat.sub_self] at hT
          simp only [Rd.rep, Rd.ret, List.append_nil] at hT
          rw [hT]
          exact ⟨_, rfl, row_of_own HO.out rfl, HR.out, HG.out⟩
/-- what End tells -/
theorem rdEnd (R : Nat) (A : Addr) (n c : Nat) (L : List Int) (s : Rd.St) (w : World) (h : RdIs w R A n c L s) :
    Calls Try.prog 38 #[.pointer (some ⟨R, 0, none⟩)] w fun e w' => Below w.heap.size w w' ∧ match s.bad with
      | some (E, p) => ∃ f, e = .returned (.iface 64 (.pointer (some ⟨f, 0, none⟩))) ∧ Blk w' f 66 [.int .i64 E, .int .i64 p]
      | none => if s.k < n then ∃ f, e = .returned (.iface 64 (.pointer (some ⟨f, 0, none⟩))) ∧ Blk w' f 66 [.int .i64 4, .int .i64 s.k] else e = .returned Value.nilIface := by
  have hle := h.le
  obtain ⟨⟨bv, h1, h2⟩, -⟩ := h
  have c0 : w.cell? ⟨R, 0, none⟩ = some (.slice (some A) n c) := h1.cell 0
  have c1 : w.cell? ⟨R, 1, none⟩ = some (.int .i64 s.k) := h1.cell 1
  have c2 : w.cell? ⟨R, 2, none⟩ = some bv := h1.cell 2
  clear h1
  obtain ⟨k, bad⟩ := s
  cases bad with
  | some q =>
    obtain ⟨E, p⟩ := q
    obtain ⟨f, rfl, hf⟩ := h2
    have HF := Lib.hid hf
    clear hf
    go_enter Try.func38, Try.ntmps38
    go_wp2_with fail
    go_ret
    exact ⟨Below.refl _ _, f, rfl, HF.out⟩
  | none =>
    obtain rfl : bv = .pointer none := h2
    simp only at hle c1
    by_cases hkn : k < n
    · simp only [if_pos hkn]
      have hkn' : (k : Int) < n := by omega
      go_enter Try.func38, Try.ntmps38
      go_wp2_with fail
      go_quiet (fail)
      go_wp2_with fail
      go_ret
      exact ⟨(Below_drewN (Below.refl _ w) _).alloc (Nat.le_refl _) _, _, rfl, Blk.new (w.drewN _) _ [.int .i64 4, .int .i64 k]⟩
    · simp only [if_neg hkn]
      obtain rfl : n = k := by omega
      go_enter Try.func38, Try.ntmps38
      go_wp2_with fail
      go_quiet (fail)
      go_wp2_with fail
      go_ret
      exact ⟨Below_drewN (Below.refl _ w) _, rfl⟩
end Go.Proofs.Ytokidpajialgbaa
