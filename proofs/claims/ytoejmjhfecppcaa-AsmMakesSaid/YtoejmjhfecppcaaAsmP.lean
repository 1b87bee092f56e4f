/- The document's answer: Run. -/
import Derived.Test.YtoejmjhfecppcaaAsmO
import Derived.Deep.DeepCutAuto
namespace Go.Proofs.Ytoejmjhfecppcaa
set_option linter.unusedSimpArgs false
set_option linter.unusedVariables false
open Go.RowKit Go.Maps Go.Sort
theorem infoStr : (Try.prog.info? 9).map (fun i => (i.zero, i.size, i.bytes)) = some (some (.string ⟨#[]⟩), 1, 16) := by kernel_rfl
theorem infoIntP : (Try.prog.info? 3).map (fun i => (i.zero, i.size, i.bytes)) = some (some (.int .i64 0), 1, 8) := by kernel_rfl
theorem results_tmp6 {fn : Func} {t u v x y z : Tmp} (h : fn.results = #[.tmp t, .tmp u, .tmp v, .tmp x, .tmp y, .tmp z]) (tmps : Array Value) (P : Program) (w : World) :
    (results fn tmps).run P w = .ok (.tuple #[tmps.getD t undef, tmps.getD u undef, tmps.getD v undef, tmps.getD x undef, tmps.getD y undef, tmps.getD z undef]) w := by
  simp [results, h]
theorem memZ_false {s : ByteArray} {Z : List (ByteArray × Int)} (h : ∀ (j : Nat) z, Z[j]? = some z → ¬ z.1 = s) : memZ s Z = false := by
  unfold memZ
  rw [List.any_eq_false]
  intro z hz
  obtain ⟨j, hj, rfl⟩ := List.getElem_of_mem hz
  simpa using h j _ (List.getElem?_eq_getElem hj)
theorem memZ_true {s : ByteArray} {Z : List (ByteArray × Int)} {z : ByteArray × Int} (h : z ∈ Z) (hz : z.1 = s) : memZ s Z = true := by
  unfold memZ
  rw [List.any_eq_true]
  exact ⟨z, h, by simpa using hz⟩
/-- the rows of names and addresses in the making -/
structure NA (W u : World) (vn va : Value) (Z : List (ByteArray × Int)) : Prop where
  n : u.ownsRow W.heap.size 9 1 vn Z.length (Z.map fun z => .string z.1)
  a : u.ownsRow W.heap.size 3 1 va Z.length ((Z.map (·.2)).map (.int .i64 ·))
  below : Below W.heap.size W u
theorem NA.start (W : World) : NA W W (.slice none 0 0) (.slice none 0 0) [] := ⟨World.ownsRow_nil _ _ _ _, World.ownsRow_nil _ _ _ _, Below.refl _ _⟩
theorem NA.below_ {W u u' : World} {vn va : Value} {Z : List (ByteArray × Int)} (h : NA W u vn va Z) (hb : Below u.heap.size u u') : NA W u' vn va Z := ⟨own_below h.n hb, own_below h.a hb, h.below.trans (hb.mono h.below.size)⟩
/-- the row of names has grown -/
structure NB (W u : World) (vn va : Value) (Z : List (ByteArray × Int)) (x : ByteArray) : Prop where
  n : u.ownsRow W.heap.size 9 1 vn (Z.length + 1) ((Z.map fun z => .string z.1) ++ [.string x])
  a : u.ownsRow W.heap.size 3 1 va Z.length ((Z.map (·.2)).map (.int .i64 ·))
  below : Below W.heap.size W u
theorem NA.growN {W u u' : World} {vn va vn' : Value} {Z : List (ByteArray × Int)} {x : ByteArray} (h : NA W u vn va Z) (hown : u'.ownsRow W.heap.size 9 1 vn' (Z.length + 1) ((Z.map fun z => .string z.1) ++ [.string x])) (hg : u.grownBy u' vn.ownBlock) : NB W u' vn' va Z x :=
  ⟨hown, (own_apart h.n h.a (by decide)).kept h.a hg, Below_own h.below h.n hg (Nat.le_refl _) h.below.size⟩
theorem NB.growA {W u u' : World} {vn va va' : Value} {Z : List (ByteArray × Int)} {x : ByteArray} {y : Int} (h : NB W u vn va Z x) (hown : u'.ownsRow W.heap.size 3 1 va' (Z.length + 1) ((Z.map (·.2)).map (.int .i64 ·) ++ [.int .i64 y])) (hg : u.grownBy u' va.ownBlock) : NA W u' vn va' (Z ++ [(x, y)]) :=
  ⟨by rw [List.map_append, List.length_append]; exact (own_apart h.a h.n (by decide)).kept h.n hg, by rw [List.map_append, List.map_append, List.length_append]; exact hown, Below_own h.below h.a hg (Nat.le_refl _) h.below.size⟩
theorem NA.zs {W u : World} {An At : Option Addr} {n n' cn ct : Nat} {Z : List (ByteArray × Int)} (h : NA W u (.slice An n cn) (.slice At n' ct) Z) : ZsAt u An At Z := by
  have h1 := h.n; have h2 := h.a
  have e1 : n = Z.length := by obtain ⟨A, c, e, _⟩ := own_form h1; injection e
  have e2 : n' = Z.length := by obtain ⟨A, c, e, _⟩ := own_form h2; injection e
  subst e1; subst e2
  exact ⟨own_cells h1, own_cells h2⟩
theorem run_err {org : Int} {L : List OpL} {w u : World} {An At : Option Addr} {nz cn ct : Nat} {Z : List (ByteArray × Int)} {h er : Int} {told : Bool} (hz : ZsAt u An At Z) (hn : Z.length = nz) (hb : Below w.heap.size w u) (hr : runF org L = (Z, h, [], er)) :
    RunR org L w (.returned (.tuple #[.slice An nz cn, .slice At nz ct, .int .i64 h, .slice none 0 0, .int .i64 er, .bool told])) u := by
  refine ⟨An, At, none, nz, cn, ct, 0, 0, told, by rw [hr], by rw [hr]; exact hz, by rw [hr]; exact hn, by rw [hr]; exact fun i v hi => by simp at hi, by rw [hr]; rfl, fun _ => ⟨rfl, rfl⟩, hb⟩
theorem runF_err {org : Int} {L : List OpL} {Z : List (ByteArray × Int)} {h er : Int} (hr : run1 L [] org = (Z, h, er)) (he : er ≠ 0) : runF org L = (Z, h, [], er) := by
  unfold runF
  rw [hr, if_pos he]
theorem runF_ok {org : Int} {L : List OpL} {Z : List (ByteArray × Int)} {h : Int} {r : Int × List Int} (hr : run1 L [] org = (Z, h, 0)) (h2 : run2 org Z L [] = r) : runF org L = (Z, h, r.2, r.1) := by
  unfold runF
  rw [hr]
  simp [h2]
theorem ZsAt.nil (w : World) : ZsAt w none none [] := ⟨fun i v hi => by simp at hi, fun i v hi => by simp at hi⟩
set_option maxRecDepth 100000 in
set_option maxHeartbeats 32000000 in
theorem run28 (org : Int) (h0 : 0 ≤ org) (h1 : org ≤ 65535) (A : Option Addr) (n c : Nat) (L : List OpL) (w : World) (hL : OpsAt w A L) (hn : L.length = n) (hn1 : n ≤ 100) (hOK : ∀ x ∈ L, OpOk x) (hlen : ∀ x ∈ L, x.b.length ≤ 65000) :
    Calls Try.prog 34 #[.int .u16 org, .slice A n c] w (RunR org L w) := by
  have HL := Lib.hid hL; have HN := Lib.hid hn; have HOK := Lib.hid hOK; have HLEN := Lib.hid hlen
  have eo : IntKind.i64.wrap org = org := by rw [IntKind.wrap_i64]; omega
  clear hL hn hOK hlen
  go_enter Try.func34, Try.ntmps34
  go_wp2_with fail
  go_loopw [10, 11, 12, 13] (fun nv av hv iv u => ∃ (k : Nat) (Z : List (ByteArray × Int)) (h : Int) (vn va : Value), iv = .int .i64 k ∧ hv = .int .i64 h ∧ vn = nv ∧ va = av ∧ k ≤ n ∧ 0 ≤ h ∧ h ≤ 65536 ∧ Z.length ≤ k ∧ Hid (NA w u vn va Z) ∧ Hid (ZOk Z) ∧ Hid (run1 (L.drop k) Z h = run1 L [] org)) (fun _ _ _ iv _ => n - (intOf iv).toNat)
  case atStart => exact ⟨0, [], org, _, _, rfl, rfl, rfl, rfl, Nat.zero_le _, h0, by omega, by simp, Lib.hid (NA.start w), Lib.hid (fun z hz => by simp at hz), Lib.hid rfl⟩
  case round =>
    obtain ⟨k, Z, h, vn, va, rfl, rfl, rfl, rfl, hk, hh0, hh1, hZk, HNA, HZO, HR⟩ := hrel
    obtain ⟨An, cn, rfl, hAn, _⟩ := own_form HNA.out.n
    obtain ⟨At, ct, rfl, hAt, _⟩ := own_form HNA.out.a
    have hsz := HNA.out.below.size
    clear hAn hAt
    by_cases hlt : k < n
    · have hlti : (k : Int) < n := by omega
      obtain ⟨o, ho⟩ : ∃ o, L[k]? = some o := ⟨_, List.getElem?_eq_getElem (by have := HN.out; omega)⟩
      obtain ⟨ad, Ax, cx, rfl, x0, x1, x2, x3, hxl0, hxn⟩ := HL.out k o ho
      replace x0 := cell_below HNA.out.below x0
      replace x1 := cell_below HNA.out.below x1
      replace x2 := cell_below HNA.out.below x2
      replace x3 := cell_below HNA.out.below x3
      have HXC0 := Lib.hid hxl0
      have hxl := hxl0.below HNA.out.below
      clear hxl0
      have hkl : k < L.length := by have := HN.out; omega
      have HDR : Hid (run1 (o :: L.drop (k + 1)) Z h = run1 L [] org) := Lib.hid (by
        rw [← HR.out, List.drop_eq_getElem_cons hkl, (List.getElem?_eq_some_iff.1 ho).2])
      have HO := Lib.hid (HOK.out o (List.mem_of_getElem? ho))
      have hob := HLEN.out o (List.mem_of_getElem? ho)
      clear ho hkl HR
      obtain ⟨kd, nm, s, b⟩ := o
      simp only [] at x0 x1 x2 x3 hxl hxn hob HXC0
      go_upto_region 8 with fail
      obtain ⟨W1, hW1⟩ : ∃ u, u = wr.alloc (.cells #[.int .i64 kd, .int .i64 nm, .string s, .slice Ax b.length cx] 72) := ⟨_, rfl⟩
      have hb1 : Below wr.heap.size wr W1 := by rw [hW1]; exact below_alloc1 _ _
      have B1 : Hid (Blk W1 wr.heap.size 72 [.int .i64 kd, .int .i64 nm, .string s, .slice Ax b.length cx]) := Lib.hid (by rw [hW1]; exact Blk.new wr _ _)
      rw [← hW1]
      clear hW1
      have HNA1 := Lib.hid (HNA.out.below_ hb1)
      have HXL := Lib.hid (hxl.below hb1)
      have HXN := Lib.hid hxn
      have q0 : W1.cell? ⟨wr.heap.size, 0, none⟩ = some (.int .i64 kd) := B1.out.cell 0
      have q1 : W1.cell? ⟨wr.heap.size, 1, none⟩ = some (.int .i64 nm) := B1.out.cell 1
      have HXC : Hid (∀ u, Below w.heap.size w u → Ints u Ax .u8 b) := Lib.hid (fun u hb => (HXC0.out).below hb)
      obtain ⟨gx, hgx⟩ : ∃ gx, gx = wr.heap.size := ⟨_, rfl⟩
      rw [← hgx] at B1 q0 q1 ⊢
      clear hgx
      clear x0 x1 x2 x3 hxl hxn hb1 HNA
      go_cut [44] (fun t wx => Hid (t = .bool (decide (kd = 4 ∧ mayB nm = false))) ∧ W1 = wx)
      case first =>
        by_cases k4 : kd = 4
        · have HM := Lib.hid (May28 nm)
          cases hmb : mayB nm with
          | false =>
            rw [hmb] at HM
            go_wp2_with (first
              | (go_at_call 51; refine (HM.out _).mono ?_; rintro e w2 ⟨rfl, rfl⟩))
            go_meet
            exact ⟨Lib.hid (by simp [k4, hmb]), rfl⟩
          | true =>
            rw [hmb] at HM
            go_wp2_with (first
              | (go_at_call 51; refine (HM.out _).mono ?_; rintro e w2 ⟨rfl, rfl⟩))
            go_meet
            exact ⟨Lib.hid (by simp [hmb]), rfl⟩
        · go_wp2_with fail
          go_meet
          exact ⟨Lib.hid (by simp [k4]), rfl⟩
      case rest =>
        obtain ⟨HT, rfl⟩ := hcut
        go_wp2_with fail
        by_cases hbad : kd = 4 ∧ mayB nm = false
        · obtain rfl : u44 = .bool true := by rw [HT.out]; simp [hbad]
          go_wp2_with fail
          refine bodyPost_ret (results_tmp6 rfl _ _ _) rfl ?_
          exact run_err (HNA1.out.zs) rfl HNA1.out.below (runF_err (by rw [← HDR.out]; simp only [run1]; rw [if_pos hbad]) (by decide))
        · obtain rfl : u44 = .bool false := by rw [HT.out]; simp only [decide_eq_false hbad]
          have HMAY : Hid (kd = 4 → MayN nm) := Lib.hid (fun e => mayN_of (by cases hmb : mayB nm with | true => rfl | false => exact absurd ⟨e, hmb⟩ hbad))
          clear HT
          go_wp2_with fail
          go_loopw [15] (fun jv u => ∃ j : Nat, jv = .int .i64 j ∧ j ≤ Z.length ∧ Hid (∀ (i : Nat) z, i < j → Z[i]? = some z → kd = 1 → ¬ z.1 = s) ∧ Hid (Below W1.heap.size W1 u)) (fun jv _ => Z.length - (intOf jv).toNat)
          case atStart => exact ⟨0, rfl, Nat.zero_le _, Lib.hid (fun i z hi => by omega), Lib.hid (Below.refl _ _)⟩
          case round =>
            obtain ⟨j, rfl, hj, HNE, HBu⟩ := hrel
            have Bu := Lib.hid (B1.out.below_ HBu.out)
            have HNAu := Lib.hid (HNA1.out.below_ HBu.out)
            have HXLu := Lib.hid (HXL.out.below HBu.out)
            have hszu := HNAu.out.below.size
            have p0 : wr.cell? ⟨gx, 0, none⟩ = some (.int .i64 kd) := Bu.out.cell 0
            have p1 : wr.cell? ⟨gx, 1, none⟩ = some (.int .i64 nm) := Bu.out.cell 1
            have p2 : wr.cell? ⟨gx, 2, none⟩ = some (.string s) := Bu.out.cell 2
            have p3 : wr.cell? ⟨gx, 3, none⟩ = some (.slice Ax b.length cx) := Bu.out.cell 3
            clear q0 q1
            by_cases k1 : kd = 1
            · by_cases hlz : j < Z.length
              · have hlzi : (j : Int) < Z.length := by omega
                obtain ⟨z, hz⟩ : ∃ z, Z[j]? = some z := ⟨_, List.getElem?_eq_getElem hlz⟩
                obtain ⟨an, rfl, cn1⟩ := HNAu.out.zs.names j (.string z.1) (by rw [List.getElem?_map, hz]; rfl)
                have HZJ := Lib.hid hz
                obtain ⟨z1, z2⟩ := z
                simp only [] at cn1
                clear hz
                by_cases he : z1 = s
                · rw [he] at cn1
                  have HMT : Hid (memZ s Z = true) := Lib.hid (memZ_true (List.mem_of_getElem? HZJ.out) he)
                  clear he
                  go_wp2_with fail
                  go_quiet (fail)
                  go_wp2_with fail
                  refine bodyPost_ret (results_tmp6 rfl _ _ _) rfl ?_
                  exact run_err (ZsAt.below HNAu.out.zs (Below_drewN (Below.refl _ _) _)) rfl (Below_drewN HNAu.out.below _) (runF_err (by rw [← HDR.out]; simp only [run1]; rw [if_neg hbad, if_pos ⟨k1, HMT.out⟩]) (by decide))
                · have hne := ba_ne he
                  go_wp2_with fail
                  go_quiet (fail)
                  go_wp2_with fail
                  go_roundw
                  case rel => exact ⟨j + 1, by go_num, by omega, Lib.hid (fun i z hi hz hk => by
                    by_cases e : i = j
                    · subst e; rw [HZJ.out] at hz; injection hz with hz; subst hz; exact he
                    · exact HNE.out i z (by omega) hz hk), Lib.hid (Below_drewN HBu.out _)⟩
                  case measure => simp [intOf]; omega
              · have HMF : Hid (memZ s Z = false) := Lib.hid (memZ_false (fun i z hz => HNE.out i z (by have := (List.getElem?_eq_some_iff.1 hz).1; omega) hz k1))
                have hlzi : ¬ (j : Int) < Z.length := by omega
                have hZ100 : Z.length ≤ 100 := by omega
                subst k1
                go_upto_region 18 with (first
                  | (at_builtin; refine wpList_appL _ rfl (.tmp 72) (.tmp 75) 48 rfl w.heap.size 9 _ 1 16 Try.underlying48 infoStr rfl (by decide) _ Z.length _ rfl HNAu.out.n #[.string s] 1 rfl rfl (by simp [Value.oneCell']) (by decide) (by omega) (by decide) hszu ?_; intro g3 c3 w3 hown hg _; have HNB := Lib.hid (HNAu.out.growN hown hg); have Bn := Lib.hid (Bu.out.grown hg (own_ne_ty HNAu.out.n Bu.out (by decide))); have hsz3 := HNB.out.below.size; clear hown hg)
                  | (at_builtin; refine wpList_appL _ rfl (.tmp 77) (.tmp 79) 38 rfl w.heap.size 3 _ 1 8 Try.underlying38 infoIntP rfl (by decide) _ Z.length _ rfl HNB.out.a #[.int .i64 h] 1 rfl rfl (by simp [Value.oneCell']) (by decide) (by omega) (by decide) hsz3 ?_; intro g4 c4 w4 hown hg _; have HNC := Lib.hid (HNB.out.growA hown hg); have Bm := Lib.hid (Bn.out.grown hg (own_ne_ty HNB.out.a Bn.out (by decide))); have hsz4 := HNC.out.below.size; clear hown hg))
                have r0 : w4.cell? ⟨gx, 0, none⟩ = some (.int .i64 1) := Bm.out.cell 0
                have r1 : w4.cell? ⟨gx, 1, none⟩ = some (.int .i64 nm) := Bm.out.cell 1
                have r2 : w4.cell? ⟨gx, 2, none⟩ = some (.string s) := Bm.out.cell 2
                have r3 : w4.cell? ⟨gx, 3, none⟩ = some (.slice Ax b.length cx) := Bm.out.cell 3
                have HXL4 := Lib.hid (HXC.out _ HNC.out.below)
                clear p0 p1 p2 p3
                have HBY := Lib.hid (bytes28 ⟨1, nm, s, b⟩ Ax cx h none none 0 0 0 [] w4 HO.out HXL4.out HXN.out (by simp only []; omega) hh0 hh1 (fun e => by simp at e) (ZsAt.nil _) rfl (fun z hz => by simp at hz) (by omega))
                have hbl : bytesL ⟨1, nm, s, b⟩ h [] = [] := rfl
                rw [hbl] at HBY
                go_wp2_with (first
                  | (go_at_call 52; refine HBY.out.mono ?_; rintro e w5 ⟨A5, n5, c5, rfl, _, hn5, _, hb5⟩; obtain rfl : n5 = 0 := hn5.symm; have HNA5 := Lib.hid (HNC.out.below_ hb5); clear hn5 hb5))
                go_roundw
                case rel => exact ⟨k + 1, Z ++ [(s, h)], h, _, _, by go_num, rfl, by simp, by simp, by omega, hh0, hh1, by simp; omega, HNA5, Lib.hid (fun z hz => by
                  rcases List.mem_append.1 hz with hz | hz
                  · exact HZO.out z hz
                  · simp at hz; subst hz; exact ⟨hh0, hh1⟩), Lib.hid (by
                  rw [← HDR.out]
                  have hbl : bytesL ⟨1, nm, s, b⟩ h [] = [] := rfl
                  conv => rhs; simp only [run1]
                  rw [if_neg hbad, if_neg (by rw [HMF.out]; simp), hbl, if_neg (by simp; omega), if_pos trivial]
                  simp)⟩
                case measure => simp [intOf]; omega
            · obtain ⟨ln, hln⟩ : ∃ ln, ln = (bytesL ⟨kd, nm, s, b⟩ h []).length := ⟨_, rfl⟩
              have hln2 : ln ≤ 6000000 := by rw [hln, bytesL_len]; exact lenO_le (by simp only []; omega) HMAY.out
              have HLN := Lib.hid hln
              have HBY := Lib.hid (bytes28 ⟨kd, nm, s, b⟩ Ax cx h none none 0 0 0 [] wr HO.out HXLu.out HXN.out (by simp only []; omega) hh0 hh1 HMAY.out (ZsAt.nil _) rfl (fun z hz => by simp at hz) (by omega))
              clear hln
              have wl : IntKind.i64.wrap (h + (ln : Int)) = h + (ln : Int) := by rw [IntKind.wrap_i64]; omega
              by_cases hov : 65536 < h + (ln : Int)
              · by_cases hlz : j < Z.length
                · have hlzi : (j : Int) < Z.length := by omega
                  go_wp2_with (first
                    | (go_at_call 52; refine HBY.out.mono ?_; rintro e w5 ⟨A5, n5, c5, rfl, _, hn5, _, hb5⟩; obtain rfl : n5 = ln := (by rw [HLN.out]; exact hn5.symm); have HNA5 := Lib.hid (HNAu.out.below_ hb5); clear hn5 hb5))
                  refine bodyPost_ret (results_tmp6 rfl _ _ _) rfl ?_
                  exact run_err HNA5.out.zs rfl HNA5.out.below (runF_err (by rw [← HDR.out]; simp only [run1]; rw [if_neg hbad, if_neg (fun e => k1 e.1), if_pos (by rw [← HLN.out]; exact hov), if_neg k1]) (by decide))
                · have hlzi : ¬ (j : Int) < Z.length := by omega
                  go_wp2_with (first
                    | (go_at_call 52; refine HBY.out.mono ?_; rintro e w5 ⟨A5, n5, c5, rfl, _, hn5, _, hb5⟩; obtain rfl : n5 = ln := (by rw [HLN.out]; exact hn5.symm); have HNA5 := Lib.hid (HNAu.out.below_ hb5); clear hn5 hb5))
                  refine bodyPost_ret (results_tmp6 rfl _ _ _) rfl ?_
                  exact run_err HNA5.out.zs rfl HNA5.out.below (runF_err (by rw [← HDR.out]; simp only [run1]; rw [if_neg hbad, if_neg (fun e => k1 e.1), if_pos (by rw [← HLN.out]; exact hov), if_neg k1]) (by decide))
              · by_cases hlz : j < Z.length
                · have hlzi : (j : Int) < Z.length := by omega
                  go_wp2_with (first
                    | (go_at_call 52; refine HBY.out.mono ?_; rintro e w5 ⟨A5, n5, c5, rfl, _, hn5, _, hb5⟩; obtain rfl : n5 = ln := (by rw [HLN.out]; exact hn5.symm); have HNA5 := Lib.hid (HNAu.out.below_ hb5); clear hn5 hb5))
                  go_roundw
                  case rel => exact ⟨k + 1, Z, h + n5, _, _, by go_num, by go_num, rfl, rfl, by omega, by omega, by omega, by omega, HNA5, HZO, Lib.hid (by
                    rw [← HDR.out]
                    conv => rhs; simp only [run1]
                    rw [if_neg hbad, if_neg (fun e => k1 e.1), if_neg (by rw [← HLN.out]; omega), if_neg k1, ← HLN.out])⟩
                  case measure => simp [intOf]; omega
                · have hlzi : ¬ (j : Int) < Z.length := by omega
                  go_wp2_with (first
                    | (go_at_call 52; refine HBY.out.mono ?_; rintro e w5 ⟨A5, n5, c5, rfl, _, hn5, _, hb5⟩; obtain rfl : n5 = ln := (by rw [HLN.out]; exact hn5.symm); have HNA5 := Lib.hid (HNAu.out.below_ hb5); clear hn5 hb5))
                  go_roundw
                  case rel => exact ⟨k + 1, Z, h + n5, _, _, by go_num, by go_num, rfl, rfl, by omega, by omega, by omega, by omega, HNA5, HZO, Lib.hid (by
                    rw [← HDR.out]
                    conv => rhs; simp only [run1]
                    rw [if_neg hbad, if_neg (fun e => k1 e.1), if_neg (by rw [← HLN.out]; omega), if_neg k1, ← HLN.out])⟩
                  case measure => simp [intOf]; omega
    · obtain rfl : k = n := by omega
      have HRE : Hid (run1 L [] org = (Z, h, 0)) := Lib.hid (by
        rw [← HR.out, List.drop_eq_nil_of_le (by have := HN.out; omega)]
        rfl)
      clear hlt HR
      have hsum := run1_sum L [] org (by omega) (by rw [HRE.out])
      rw [HRE.out] at hsum
      have HSUM := Lib.hid hsum
      have HZS := Lib.hid HNA.out.zs
      have hZ100 : Z.length ≤ 1000 := by omega
      have HBW := Lib.hid HNA.out.below
      clear hsum
      clear HNA
      go_wp2_with fail
      obtain ⟨wS, rfl⟩ : ∃ wS : World, wS = wr := ⟨_, rfl⟩
      go_loopw [17, 18] (fun ov iv u => ∃ (j : Nat) (out : List Int) (vo : Value), iv = .int .i64 j ∧ vo = ov ∧ j ≤ k ∧ Hid (u.ownsRow wS.heap.size 5 1 vo out.length (out.map (.int .u8 ·))) ∧ Hid (Below wS.heap.size wS u) ∧ Hid (org + out.length + sumL (L.drop j) ≤ 65536) ∧ Hid (run2 org Z (L.drop j) out = run2 org Z L [])) (fun _ iv _ => k - (intOf iv).toNat)
      case atStart => exact ⟨0, [], _, rfl, rfl, Nat.zero_le _, Lib.hid (World.ownsRow_nil _ _ _ _), Lib.hid (Below.refl _ _), Lib.hid (by have := HSUM.out; simp; omega), Lib.hid rfl⟩
      case round =>
        obtain ⟨j, out, vo, rfl, rfl, hj, HOu, HBu, HSL, HR2⟩ := hrel
        obtain ⟨Ao, co, rfl, hAo, _⟩ := own_form HOu.out
        have HAo := Lib.hid hAo
        clear hAo
        have hszs := HBu.out.size
        have HBwr := Lib.hid (HBW.out.trans (HBu.out.mono hsz))
        by_cases hlt : j < k
        · have hlti : (j : Int) < k := by omega
          obtain ⟨o, ho⟩ : ∃ o, L[j]? = some o := ⟨_, List.getElem?_eq_getElem (by have := HN.out; omega)⟩
          obtain ⟨ad, Ax, cx, rfl, x0, x1, x2, x3, hxl0, hxn⟩ := HL.out j o ho
          replace x0 := cell_below HBwr.out x0
          replace x1 := cell_below HBwr.out x1
          replace x2 := cell_below HBwr.out x2
          replace x3 := cell_below HBwr.out x3
          have HXC0 := Lib.hid hxl0
          clear hxl0
          have hkl : j < L.length := by have := HN.out; omega
          have hdrop : L.drop j = o :: L.drop (j + 1) := by rw [List.drop_eq_getElem_cons hkl, (List.getElem?_eq_some_iff.1 ho).2]
          have HDR : Hid (run2 org Z (o :: L.drop (j + 1)) out = run2 org Z L []) := Lib.hid (by rw [← HR2.out, hdrop])
          have hsl : org + (out.length : Int) + lenO o + sumL (L.drop (j + 1)) ≤ 65536 := by
            have := HSL.out
            rw [hdrop] at this
            simp only [sumL, List.map_cons, List.sum_cons] at this ⊢
            omega
          have HO := Lib.hid (HOK.out o (List.mem_of_getElem? ho))
          have hob := HLEN.out o (List.mem_of_getElem? ho)
          have HMY := Lib.hid (run1_may L [] org HRE.out o (List.mem_of_getElem? ho))
          have HLO : Hid (∀ hh, (bytesL o hh Z).length = lenO o) := Lib.hid (fun hh => bytesL_len o hh Z)
          obtain ⟨lo, hlo⟩ : ∃ lo, lo = lenO o := ⟨_, rfl⟩
          rw [← hlo] at HLO hsl
          clear ho hkl hdrop HR2 HSL hlo
          obtain ⟨kd, nm, s, b⟩ := o
          simp only [] at x0 x1 x2 x3 hxn hob HXC0
          obtain ⟨p, hp⟩ : ∃ p, p = org + (out.length : Int) := ⟨_, rfl⟩
          have HP := Lib.hid hp
          have wp : IntKind.i64.wrap (org + (out.length : Int)) = p := by rw [IntKind.wrap_i64]; omega
          have p0 : 0 ≤ p := by omega
          have p1 : p ≤ 65536 := by omega
          have hpl : (out.length : Int) ≤ 65536 := by omega
          have hlo2 : lo ≤ 65536 := by omega
          go_upto_region 27 with fail
          obtain ⟨W1, hW1⟩ : ∃ u, u = wr.alloc (.cells #[.int .i64 kd, .int .i64 nm, .string s, .slice Ax b.length cx] 72) := ⟨_, rfl⟩
          have hb1 : Below wr.heap.size wr W1 := by rw [hW1]; exact below_alloc1 _ _
          have B1 : Hid (Blk W1 wr.heap.size 72 [.int .i64 kd, .int .i64 nm, .string s, .slice Ax b.length cx]) := Lib.hid (by rw [hW1]; exact Blk.new wr _ _)
          obtain ⟨gx, hgx⟩ : ∃ gx, gx = wr.heap.size := ⟨_, rfl⟩
          rw [← hW1]
          rw [← hgx] at B1 ⊢
          clear hW1 hgx
          have HO1 := Lib.hid (own_below HOu.out hb1)
          have HB1 := Lib.hid (HBu.out.trans (hb1.mono hszs))
          have HXN := Lib.hid hxn
          have q0 : W1.cell? ⟨gx, 0, none⟩ = some (.int .i64 kd) := B1.out.cell 0
          clear x0 x1 x2 x3 hxn hb1 HOu HBu HBwr
          obtain ⟨bl, hbl⟩ : ∃ bl, bl = bytesL ⟨kd, nm, s, b⟩ p Z := ⟨_, rfl⟩
          have HBL := Lib.hid hbl
          have hbll : bl.length = lo := by rw [hbl]; exact HLO.out p
          have HBLL := Lib.hid hbll
          have HBY : Hid (∀ u, Below wS.heap.size wS u → Calls Try.prog 52 #[.agg #[.int .i64 kd, .int .i64 nm, .string s, .slice Ax b.length cx], .int .i64 p, .slice An Z.length cn, .slice At Z.length ct] u (BytesR bl u)) := Lib.hid (fun u hb => by
            rw [hbl]
            exact bytes28 ⟨kd, nm, s, b⟩ Ax cx p An At Z.length cn ct Z u HO.out (HXC0.out.below (HBW.out.trans (hb.mono hsz))) HXN.out (by simp only []; omega) p0 p1 (fun e => HMY.out e) (HZS.out.below hb) rfl HZO.out hZ100)
          have HSTEP : Hid (run2 org Z (⟨kd, nm, s, b⟩ :: L.drop (j + 1)) out = if (kd = 2 ∨ kd = 3) ∧ memZ s Z = false then (10, []) else if kd = 3 ∧ (toZ s Z 0 - (p + 2) < -128 ∨ 127 < toZ s Z 0 - (p + 2)) then (5, []) else run2 org Z (L.drop (j + 1)) (out ++ bl)) := Lib.hid (by
            simp only [run2]
            rw [← hp, ← hbl])
          have HLEN2 : Hid (org + ((out ++ bl).length : Int) + sumL (L.drop (j + 1)) ≤ 65536) := Lib.hid (by rw [List.length_append, hbll]; omega)
          clear hbl hbll hp
          by_cases k23 : kd = 2 ∨ kd = 3
          · by_cases k2 : kd = 2
            · subst k2
              go_wp2_with fail
              go_loopw [20, 21, 22] (fun tv ov kv u => ∃ (i : Nat) (bt : Bool) (t : Int), kv = .int .i64 i ∧ tv = .bool bt ∧ ov = .int .i64 t ∧ i ≤ Z.length ∧ 0 ≤ t ∧ t ≤ 65536 ∧ Hid (toZ s (Z.drop i) t = toZ s Z 0) ∧ Hid ((bt || memZ s (Z.drop i)) = memZ s Z) ∧ Hid (Below W1.heap.size W1 u)) (fun _ _ kv _ => Z.length - (intOf kv).toNat)
              case atStart => exact ⟨0, false, 0, rfl, rfl, rfl, Nat.zero_le _, by omega, by omega, Lib.hid rfl, Lib.hid rfl, Lib.hid (Below.refl _ _)⟩
              case round =>
                obtain ⟨i, bt, t, rfl, rfl, rfl, hi, t0, t1, HTO, HME, HBu⟩ := hrel
                have Bu := Lib.hid (B1.out.below_ HBu.out)
                have hszw := HB1.out.size
                have HBS := Lib.hid (HB1.out.trans (HBu.out.mono hszw))
                have q0 : wr.cell? ⟨gx, 0, none⟩ = some (.int .i64 2) := Bu.out.cell 0
                have q1 : wr.cell? ⟨gx, 1, none⟩ = some (.int .i64 nm) := Bu.out.cell 1
                have q2 : wr.cell? ⟨gx, 2, none⟩ = some (.string s) := Bu.out.cell 2
                have q3 : wr.cell? ⟨gx, 3, none⟩ = some (.slice Ax b.length cx) := Bu.out.cell 3
                have HOx := Lib.hid (own_below HO1.out HBu.out)
                have HBx := HBS
                by_cases hlz : i < Z.length
                · have hlzi : (i : Int) < Z.length := by omega
                  obtain ⟨z, hz⟩ : ∃ z, Z[i]? = some z := ⟨_, List.getElem?_eq_getElem hlz⟩
                  obtain ⟨an, rfl, cn1⟩ := (HZS.out.names.below HBS.out) i (.string z.1) (by rw [List.getElem?_map, hz]; rfl)
                  obtain ⟨at_, rfl, ct1⟩ := (HZS.out.at_.below HBS.out) i (.int .i64 z.2) (by rw [List.getElem?_map, List.getElem?_map, hz]; rfl)
                  have hzb := HZO.out z (List.mem_of_getElem? hz)
                  have hdz : Z.drop i = z :: Z.drop (i + 1) := by rw [List.drop_eq_getElem_cons hlz, (List.getElem?_eq_some_iff.1 hz).2]
                  have HDZ1 : Hid (toZ s (Z.drop (i + 1)) (if z.1 = s then z.2 else t) = toZ s Z 0) := Lib.hid (by rw [← HTO.out, hdz]; rfl)
                  have HDZ2 : Hid ((bt || (decide (z.1 = s) || memZ s (Z.drop (i + 1)))) = memZ s Z) := Lib.hid (by rw [← HME.out, hdz]; rfl)
                  obtain ⟨z1, z2⟩ := z
                  obtain ⟨zb0, zb1⟩ := hzb
                  simp only [] at cn1 ct1 zb0 zb1 HDZ1 HDZ2
                  clear hz hdz
                  by_cases he : z1 = s
                  · have HD1 : Hid (toZ s (Z.drop (i + 1)) z2 = toZ s Z 0) := Lib.hid (by have := HDZ1.out; rw [if_pos he] at this; exact this)
                    have HD2 : Hid ((true || memZ s (Z.drop (i + 1))) = memZ s Z) := Lib.hid (by have := HDZ2.out; simp [he] at this ⊢; exact this)
                    rw [he] at cn1
                    clear he HDZ1 HDZ2
                    go_wp2_with fail
                    go_quiet (fail)
                    go_wp2_with fail
                    go_roundw
                    case rel => exact ⟨i + 1, true, z2, by go_num, rfl, rfl, by omega, zb0, zb1, HD1, HD2, Lib.hid (Below_drewN HBu.out _)⟩
                    case measure => simp [intOf]; omega
                  · have HD1 : Hid (toZ s (Z.drop (i + 1)) t = toZ s Z 0) := Lib.hid (by have := HDZ1.out; rw [if_neg he] at this; exact this)
                    have HD2 : Hid ((bt || memZ s (Z.drop (i + 1))) = memZ s Z) := Lib.hid (by have := HDZ2.out; simpa [he] using this)
                    have hne := ba_ne he
                    clear he HDZ1 HDZ2
                    go_wp2_with fail
                    go_quiet (fail)
                    go_wp2_with fail
                    go_roundw
                    case rel => exact ⟨i + 1, bt, t, by go_num, rfl, rfl, by omega, t0, t1, HD1, HD2, Lib.hid (Below_drewN HBu.out _)⟩
                    case measure => simp [intOf]; omega
                · obtain rfl : i = Z.length := by omega
                  have HTE : Hid (t = toZ s Z 0) := Lib.hid (by
                    have := HTO.out
                    rw [List.drop_length] at this
                    exact this)
                  have HMM : Hid (bt = memZ s Z) := Lib.hid (by
                    have := HME.out
                    rw [List.drop_length] at this
                    simpa [memZ] using this)
                  clear HTO HME
                  cases bt with
                  | false =>
                    go_wp2_with fail
                    refine bodyPost_ret (results_tmp6 rfl _ _ _) rfl ?_
                    exact run_err (HZS.out.below HBS.out) rfl (HBW.out.trans (HBS.out.mono hsz)) (runF_ok (r := (10, [])) HRE.out (by rw [← HDR.out, HSTEP.out, if_pos ⟨by omega, HMM.out.symm⟩]))
                  | true =>
                    have v1 : IntKind.i64.wrap (p + 2) = p + 2 := by rw [IntKind.wrap_i64]; omega
                    have v2 : IntKind.i64.wrap (t - (p + 2)) = t - (p + 2) := by rw [IntKind.wrap_i64]; omega
                    have HFIN : Hid (run2 org Z (⟨2, nm, s, b⟩ :: L.drop (j + 1)) out = run2 org Z (L.drop (j + 1)) (out ++ bl)) := Lib.hid (by rw [HSTEP.out, if_neg (fun e => by rw [← HMM.out] at e; exact absurd e.2 (by decide)), if_neg (fun e => absurd e.1 (by decide))])
                    have hszx := HBx.out.size
                    go_wp2_with (first
                      | (go_at_call 52; refine (HBY.out _ HBx.out).mono ?_; rintro e w5 ⟨A5, n5, c5, rfl, hi5, hn5, hnil5, hb5⟩; obtain rfl : n5 = lo := (by rw [← hn5]; exact HBLL.out); have HI5 := Lib.hid hi5; have HNL5 := Lib.hid hnil5; have HO5 := Lib.hid (own_below HOx.out hb5); have HB5 := Lib.hid (HBx.out.trans (hb5.mono hszx)); have hsz5 := HB5.out.size; clear hi5 hn5 hnil5 hb5)
                      | (at_builtin; refine wpList_appAny _ rfl (.tmp 157) (.tmp 166) 47 rfl wS.heap.size 5 (.int .u8 0) 1 Try.underlying47 infoU8 (by decide) _ out.length _ rfl HO5.out A5 n5 c5 (bl.map (.int .u8 ·)) rfl (by rw [List.length_map]; exact HBLL.out) HI5.out HNL5.out (by intro u hu; obtain ⟨x, _, rfl⟩ := List.mem_map.1 hu; rfl) (by unfold maxLen; omega) (by omega) hsz5 ?_; intro v6 w6 hown hg; have HB6 := Lib.hid (Below_own HB5.out HO5.out hg (Nat.le_refl _) hsz5); have HO6 := Lib.hid hown; clear hown hg))
                    go_roundw
                    case rel => exact ⟨j + 1, out ++ bl, _, by go_num, rfl, by omega, Lib.hid (by rw [List.map_append, List.length_append, HBLL.out]; exact HO6.out), HB6, HLEN2, Lib.hid (by rw [← HDR.out]; exact HFIN.out.symm)⟩
                    case measure => simp [intOf]; omega
            · obtain rfl : kd = 3 := by omega
              go_wp2_with fail
              go_loopw [20, 21, 22] (fun tv ov kv u => ∃ (i : Nat) (bt : Bool) (t : Int), kv = .int .i64 i ∧ tv = .bool bt ∧ ov = .int .i64 t ∧ i ≤ Z.length ∧ 0 ≤ t ∧ t ≤ 65536 ∧ Hid (toZ s (Z.drop i) t = toZ s Z 0) ∧ Hid ((bt || memZ s (Z.drop i)) = memZ s Z) ∧ Hid (Below W1.heap.size W1 u)) (fun _ _ kv _ => Z.length - (intOf kv).toNat)
              case atStart => exact ⟨0, false, 0, rfl, rfl, rfl, Nat.zero_le _, by omega, by omega, Lib.hid rfl, Lib.hid rfl, Lib.hid (Below.refl _ _)⟩
              case round =>
                obtain ⟨i, bt, t, rfl, rfl, rfl, hi, t0, t1, HTO, HME, HBu⟩ := hrel
                have Bu := Lib.hid (B1.out.below_ HBu.out)
                have hszw := HB1.out.size
                have HBS := Lib.hid (HB1.out.trans (HBu.out.mono hszw))
                have q0 : wr.cell? ⟨gx, 0, none⟩ = some (.int .i64 3) := Bu.out.cell 0
                have q1 : wr.cell? ⟨gx, 1, none⟩ = some (.int .i64 nm) := Bu.out.cell 1
                have q2 : wr.cell? ⟨gx, 2, none⟩ = some (.string s) := Bu.out.cell 2
                have q3 : wr.cell? ⟨gx, 3, none⟩ = some (.slice Ax b.length cx) := Bu.out.cell 3
                have HOx := Lib.hid (own_below HO1.out HBu.out)
                have HBx := HBS
                by_cases hlz : i < Z.length
                · have hlzi : (i : Int) < Z.length := by omega
                  obtain ⟨z, hz⟩ : ∃ z, Z[i]? = some z := ⟨_, List.getElem?_eq_getElem hlz⟩
                  obtain ⟨an, rfl, cn1⟩ := (HZS.out.names.below HBS.out) i (.string z.1) (by rw [List.getElem?_map, hz]; rfl)
                  obtain ⟨at_, rfl, ct1⟩ := (HZS.out.at_.below HBS.out) i (.int .i64 z.2) (by rw [List.getElem?_map, List.getElem?_map, hz]; rfl)
                  have hzb := HZO.out z (List.mem_of_getElem? hz)
                  have hdz : Z.drop i = z :: Z.drop (i + 1) := by rw [List.drop_eq_getElem_cons hlz, (List.getElem?_eq_some_iff.1 hz).2]
                  have HDZ1 : Hid (toZ s (Z.drop (i + 1)) (if z.1 = s then z.2 else t) = toZ s Z 0) := Lib.hid (by rw [← HTO.out, hdz]; rfl)
                  have HDZ2 : Hid ((bt || (decide (z.1 = s) || memZ s (Z.drop (i + 1)))) = memZ s Z) := Lib.hid (by rw [← HME.out, hdz]; rfl)
                  obtain ⟨z1, z2⟩ := z
                  obtain ⟨zb0, zb1⟩ := hzb
                  simp only [] at cn1 ct1 zb0 zb1 HDZ1 HDZ2
                  clear hz hdz
                  by_cases he : z1 = s
                  · have HD1 : Hid (toZ s (Z.drop (i + 1)) z2 = toZ s Z 0) := Lib.hid (by have := HDZ1.out; rw [if_pos he] at this; exact this)
                    have HD2 : Hid ((true || memZ s (Z.drop (i + 1))) = memZ s Z) := Lib.hid (by have := HDZ2.out; simp [he] at this ⊢; exact this)
                    rw [he] at cn1
                    clear he HDZ1 HDZ2
                    go_wp2_with fail
                    go_quiet (fail)
                    go_wp2_with fail
                    go_roundw
                    case rel => exact ⟨i + 1, true, z2, by go_num, rfl, rfl, by omega, zb0, zb1, HD1, HD2, Lib.hid (Below_drewN HBu.out _)⟩
                    case measure => simp [intOf]; omega
                  · have HD1 : Hid (toZ s (Z.drop (i + 1)) t = toZ s Z 0) := Lib.hid (by have := HDZ1.out; rw [if_neg he] at this; exact this)
                    have HD2 : Hid ((bt || memZ s (Z.drop (i + 1))) = memZ s Z) := Lib.hid (by have := HDZ2.out; simpa [he] using this)
                    have hne := ba_ne he
                    clear he HDZ1 HDZ2
                    go_wp2_with fail
                    go_quiet (fail)
                    go_wp2_with fail
                    go_roundw
                    case rel => exact ⟨i + 1, bt, t, by go_num, rfl, rfl, by omega, t0, t1, HD1, HD2, Lib.hid (Below_drewN HBu.out _)⟩
                    case measure => simp [intOf]; omega
                · obtain rfl : i = Z.length := by omega
                  have HTE : Hid (t = toZ s Z 0) := Lib.hid (by
                    have := HTO.out
                    rw [List.drop_length] at this
                    exact this)
                  have HMM : Hid (bt = memZ s Z) := Lib.hid (by
                    have := HME.out
                    rw [List.drop_length] at this
                    simpa [memZ] using this)
                  clear HTO HME
                  cases bt with
                  | false =>
                    go_wp2_with fail
                    refine bodyPost_ret (results_tmp6 rfl _ _ _) rfl ?_
                    exact run_err (HZS.out.below HBS.out) rfl (HBW.out.trans (HBS.out.mono hsz)) (runF_ok (r := (10, [])) HRE.out (by rw [← HDR.out, HSTEP.out, if_pos ⟨by omega, HMM.out.symm⟩]))
                  | true =>
                    have v1 : IntKind.i64.wrap (p + 2) = p + 2 := by rw [IntKind.wrap_i64]; omega
                    have v2 : IntKind.i64.wrap (t - (p + 2)) = t - (p + 2) := by rw [IntKind.wrap_i64]; omega
                    by_cases hd1 : t - (p + 2) < -128
                    · go_wp2_with fail
                      refine bodyPost_ret (results_tmp6 rfl _ _ _) rfl ?_
                      exact run_err (HZS.out.below HBS.out) rfl (HBW.out.trans (HBS.out.mono hsz)) (runF_ok (r := (5, [])) HRE.out (by rw [← HDR.out, HSTEP.out, if_neg (fun e => by rw [← HMM.out] at e; exact absurd e.2 (by decide)), if_pos ⟨trivial, by rw [← HTE.out]; exact .inl hd1⟩]))
                    · by_cases hd2 : 127 < t - (p + 2)
                      · go_wp2_with fail
                        refine bodyPost_ret (results_tmp6 rfl _ _ _) rfl ?_
                        exact run_err (HZS.out.below HBS.out) rfl (HBW.out.trans (HBS.out.mono hsz)) (runF_ok (r := (5, [])) HRE.out (by rw [← HDR.out, HSTEP.out, if_neg (fun e => by rw [← HMM.out] at e; exact absurd e.2 (by decide)), if_pos ⟨trivial, by rw [← HTE.out]; exact .inr hd2⟩]))
                      · have HFIN : Hid (run2 org Z (⟨3, nm, s, b⟩ :: L.drop (j + 1)) out = run2 org Z (L.drop (j + 1)) (out ++ bl)) := Lib.hid (by rw [HSTEP.out, if_neg (fun e => by rw [← HMM.out] at e; exact absurd e.2 (by decide)), if_neg (fun e => by rw [← HTE.out] at e; omega)])
                        have hszx := HBx.out.size
                        go_wp2_with (first
                          | (go_at_call 52; refine (HBY.out _ HBx.out).mono ?_; rintro e w5 ⟨A5, n5, c5, rfl, hi5, hn5, hnil5, hb5⟩; obtain rfl : n5 = lo := (by rw [← hn5]; exact HBLL.out); have HI5 := Lib.hid hi5; have HNL5 := Lib.hid hnil5; have HO5 := Lib.hid (own_below HOx.out hb5); have HB5 := Lib.hid (HBx.out.trans (hb5.mono hszx)); have hsz5 := HB5.out.size; clear hi5 hn5 hnil5 hb5)
                          | (at_builtin; refine wpList_appAny _ rfl (.tmp 157) (.tmp 166) 47 rfl wS.heap.size 5 (.int .u8 0) 1 Try.underlying47 infoU8 (by decide) _ out.length _ rfl HO5.out A5 n5 c5 (bl.map (.int .u8 ·)) rfl (by rw [List.length_map]; exact HBLL.out) HI5.out HNL5.out (by intro u hu; obtain ⟨x, _, rfl⟩ := List.mem_map.1 hu; rfl) (by unfold maxLen; omega) (by omega) hsz5 ?_; intro v6 w6 hown hg; have HB6 := Lib.hid (Below_own HB5.out HO5.out hg (Nat.le_refl _) hsz5); have HO6 := Lib.hid hown; clear hown hg))
                        go_roundw
                        case rel => exact ⟨j + 1, out ++ bl, _, by go_num, rfl, by omega, Lib.hid (by rw [List.map_append, List.length_append, HBLL.out]; exact HO6.out), HB6, HLEN2, Lib.hid (by rw [← HDR.out]; exact HFIN.out.symm)⟩
                        case measure => simp [intOf]; omega
          · have k2 : ¬ kd = 2 := by omega
            have k3 : ¬ kd = 3 := by omega
            have HFIN : Hid (run2 org Z (⟨kd, nm, s, b⟩ :: L.drop (j + 1)) out = run2 org Z (L.drop (j + 1)) (out ++ bl)) := Lib.hid (by rw [HSTEP.out, if_neg (fun e => k23 e.1), if_neg (fun e => k3 e.1)])
            have HOx := HO1; have HBx := HB1
            clear k23
            have k2b : (kd == 2) = false := by simpa using k2
            have k3b : (kd == 3) = false := by simpa using k3
            have q1 : W1.cell? ⟨gx, 1, none⟩ = some (.int .i64 nm) := B1.out.cell 1
            have q2 : W1.cell? ⟨gx, 2, none⟩ = some (.string s) := B1.out.cell 2
            have q3 : W1.cell? ⟨gx, 3, none⟩ = some (.slice Ax b.length cx) := B1.out.cell 3
            have hszx := HBx.out.size
            go_wp2_with (first
              | (go_at_call 52; refine (HBY.out _ HBx.out).mono ?_; rintro e w5 ⟨A5, n5, c5, rfl, hi5, hn5, hnil5, hb5⟩; obtain rfl : n5 = lo := (by rw [← hn5]; exact HBLL.out); have HI5 := Lib.hid hi5; have HNL5 := Lib.hid hnil5; have HO5 := Lib.hid (own_below HOx.out hb5); have HB5 := Lib.hid (HBx.out.trans (hb5.mono hszx)); have hsz5 := HB5.out.size; clear hi5 hn5 hnil5 hb5)
              | (at_builtin; refine wpList_appAny _ rfl (.tmp 157) (.tmp 166) 47 rfl wS.heap.size 5 (.int .u8 0) 1 Try.underlying47 infoU8 (by decide) _ out.length _ rfl HO5.out A5 n5 c5 (bl.map (.int .u8 ·)) rfl (by rw [List.length_map]; exact HBLL.out) HI5.out HNL5.out (by intro u hu; obtain ⟨x, _, rfl⟩ := List.mem_map.1 hu; rfl) (by unfold maxLen; omega) (by omega) hsz5 ?_; intro v6 w6 hown hg; have HB6 := Lib.hid (Below_own HB5.out HO5.out hg (Nat.le_refl _) hsz5); have HO6 := Lib.hid hown; clear hown hg))
            go_roundw
            case rel => exact ⟨j + 1, out ++ bl, _, by go_num, rfl, by omega, Lib.hid (by rw [List.map_append, List.length_append, HBLL.out]; exact HO6.out), HB6, HLEN2, Lib.hid (by rw [← HDR.out]; exact HFIN.out.symm)⟩
            case measure => simp [intOf]; omega
        · obtain rfl : j = k := by omega
          have hr : runF org L = (Z, h, out, 0) := by
            have hr2 : run2 org Z L [] = (0, out) := by
              rw [← HR2.out, List.drop_eq_nil_of_le (by have := HN.out; omega)]
              rfl
            rw [runF_ok HRE.out hr2]
          go_wp2_with fail
          refine bodyPost_ret (results_tmp6 rfl _ _ _) rfl ?_
          exact ⟨An, At, Ao, _, cn, ct, _, co, false, by rw [hr]; rfl, by rw [hr]; exact HZS.out.below HBu.out, by rw [hr], by rw [hr]; exact own_cells HOu.out, by rw [hr], HAo.out, HBwr.out⟩
end Go.Proofs.Ytoejmjhfecppcaa
