/- spell.out: sounds, branch by branch. Written by gen_spw2.py. -/
import Derived.Test.YtokidpajialgbaaQSpWE
import Derived.Test.YtokidpajialgbaaQUnt
namespace Go.Proofs.Ytokidpajialgbaa
set_option linter.unusedSimpArgs false
set_option linter.unusedVariables false
open Go.RowKit
/-- what a branch of sounds or tells stands on -/
structure WC (P base : Nat) (L : List Int) (w0 w : World) (v : Value) (cs : List Value) (B : TB) (bx : Nat) (wa : World) (Ad : Option Addr) (cd : Nat) (At : Option Addr) (ct : Nat) (Ai : Option Addr) (ci kd kt ki : Nat) : Prop where
  hbx : bx = w.heap.size
  hwa : wa = w.alloc (.cells cs.toArray 28)
  hba : Below w.heap.size w wa
  hs0 : OutS wa P base v L
  hT0 : Tape0 w0 wa base P
  cells : ∀ u x, OutK P wa v u x → u.cell? ⟨bx, 0, none⟩ = some (.int .i64 B.id) ∧ u.cell? ⟨bx, 1, none⟩ = some (.int .i64 B.pause) ∧ u.cell? ⟨bx, 2, none⟩ = some (.int .i64 B.pilot) ∧ u.cell? ⟨bx, 3, none⟩ = some (.int .i64 B.sync1) ∧ u.cell? ⟨bx, 4, none⟩ = some (.int .i64 B.sync2) ∧ u.cell? ⟨bx, 5, none⟩ = some (.int .i64 B.zero) ∧ u.cell? ⟨bx, 6, none⟩ = some (.int .i64 B.one) ∧ u.cell? ⟨bx, 7, none⟩ = some (.int .i64 B.tone) ∧ u.cell? ⟨bx, 8, none⟩ = some (.int .i64 B.count) ∧ u.cell? ⟨bx, 9, none⟩ = some (.int .i64 B.used) ∧ u.cell? ⟨bx, 10, none⟩ = some (.int .i64 B.rate) ∧ u.cell? ⟨bx, 11, none⟩ = some (.int .i64 B.pack) ∧ u.cell? ⟨bx, 12, none⟩ = some (.slice Ad kd cd) ∧ u.cell? ⟨bx, 13, none⟩ = some (.slice At kt ct) ∧ u.cell? ⟨bx, 14, none⟩ = some (.slice Ai ki ci) ∧ True
  blk : ∀ u x, OutK P wa v u x → Blk u bx 28 cs
  hib : (Try.prog.info? 28).map (·.size) = some cs.length
  ed : kd = B.data.length
  et : kt = B.times.length
  ei : ki = B.items.length
  hd1 : Ints w0 Ad .u8 B.data
  ht1 : Ints w0 At .i64 B.times
  ht4 : ∀ x ∈ B.times, (Lit.int .i64 x).wf = true
  hvi : PairsV w0 .u8 (.slice Ai ki ci) B.items
  hL : L.length + (100 + kd + 4 * kt + itemsW B.items) ≤ 100000000
  wf : ∀ x ∈ B.nums, (Lit.int .i64 x).wf = true
  it : ∀ i x, B.items[i]? = some x → (Lit.int .i64 x.1).wf = true ∧ ∃ (g o : Nat) (rv : Value), Ai = some ⟨g, o, none⟩ ∧ w0.rangeAt g (o + i * 2) [.int .i64 x.1, rv] ∧ RowV w0 .u8 rv x.2
theorem wctx {P base : Nat} {cs : List Value} {B : TB} {L : List Int} {w0 w : World} {v : Value} (hT : Tape0 w0 w base P) (h : TBV w0 cs B) (ho : OutS w P base v L) (hL : L.length + wB B ≤ 100000000) : ∃ bx wa Ad cd At ct Ai ci kd kt ki, WC P base L w0 w v cs B bx wa Ad cd At ct Ai ci kd kt ki := by
  have hA : Blk (w.alloc (.cells cs.toArray 28)) w.heap.size 28 cs := Blk.new w _ cs
  have hba : Below w.heap.size w (w.alloc (.cells cs.toArray 28)) := (Below.refl _ w).alloc (Nat.le_refl _) _
  have hbP : w.heap.size ≠ P := by have := ho.blk.lt; omega
  have hbo : v.ownBlock ≠ some w.heap.size := fun e => by have := (ho.row.lt _ e).2; omega
  have hlen := h.len
  obtain ⟨hwf, d, t, i, p_, s, r, hcs, hvd, hvt, hvi, hvp, hvs, hvr⟩ := h
  have hvi' := hvi
  obtain ⟨Ad, cd, rfl, hd1, hd2, hd3, hd4⟩ := hvd
  obtain ⟨At, ct, rfl, ht1, ht2, ht3, ht4⟩ := hvt
  obtain ⟨Ai, ci, rfl, hi1, hi2, hi3⟩ := hvi'
  refine ⟨w.heap.size, _, Ad, cd, At, ct, Ai, ci, _, _, _, rfl, rfl, hba, ho.fresh hba, hT.fresh hba, fun u x hu => ?_, fun u x hu => hu.blk hA hbP hbo, by rw [hlen]; exact infoBlkS, rfl, rfl, rfl, hd1, ht1, ht4, hvi, by unfold wB at hL; omega, hwf, hi3⟩
  have h := hu.blk hA hbP hbo
  rw [hcs] at h
  exact ⟨h.cell 0, h.cell 1, h.cell 2, h.cell 3, h.cell 4, h.cell 5, h.cell 6, h.cell 7, h.cell 8, h.cell 9, h.cell 10, h.cell 11, h.cell 12, h.cell 13, h.cell 14, trivial⟩
def SoP (b : Bool) (P base : Nat) (L : List Int) (w : World) (v : Value) (e : Ending) (w' : World) : Prop := e = .returned (.bool b) ∧ ∃ v', OutS w' P base v' L ∧ OutK P w v w' v'
def text53 (B : TB) : List Int := match B.items with | [] => [] | (_, t) :: _ => t
theorem if_wanted {o : Oper} {f : Nat → Option Bool} {X Y : Prop} (hg : o.guard = none) (h : X) : if Region.wanted o f = true then X else Y := by
  simp [Region.wanted, hg]; exact h
theorem wpOper_appR {w : World} {o : Oper} {a : Act} {K : Act → World → Prop} {Q : Exit → Act → World → Prop} (s x : Operand)
    (ho : o.op = .call { callee := .builtin .append, args := #[s, x], argTypes := #[22, 22] })
    (base n : Nat) (v : Value) (xs : List Value) (hs : a.eval s = v) (hown : RowM w base v n xs) (A : Option Addr) (m c : Nat) (l : List Int) (hx : a.eval x = .slice A m c) (hl : Ints w A .u8 l) (hm : l.length = m)
    (hbytes : n + m ≤ 140737488355328) (hbase : base ≤ w.heap.size)
    (h : ∀ v' w', RowM w' base v' (n + m) (xs ++ l.map (.int .u8)) → w.grownBy w' v.ownBlock → (v'.ownBlock = v.ownBlock ∨ ∀ g, v'.ownBlock = some g → w.heap.size ≤ g) → K (a.put o.dst v') w') :
    Oper.wp Try.prog o a w K Q := by
  obtain ⟨v', w', hr, h1, h2, h3⟩ := run_append_row base n v xs hown A m c l hl hm o.type hbytes hbase
  unfold Oper.wp execOp
  simp only [ho, resolve, invoke, builtin, Sem.run_bind, Sem.run_pure, Result.andThen_ok, List.map_toArray, List.map_cons, List.map_nil, hs, hx, hr]
  exact h v' w' h1 h2 h3
theorem wfK {x : Int} (h : -100000000 ≤ x ∧ x ≤ 1000000000) : (Lit.int .i64 x).wf = true := by simp [Lit.wf, IntKind.min, IntKind.max, IntKind.bits, IntKind.signed]; omega
set_option maxRecDepth 100000 in
set_option maxHeartbeats 4000000 in
theorem ws_16 (P base : Nat) (cs : List Value) (B : TB) (L : List Int) (w0 w : World) (v : Value) (hT : Tape0 w0 w base P) (h : TBV w0 cs B) (ho : OutS w P base v L) (hL : L.length + wB B ≤ 100000000) (hid : B.id = 16) :
    Calls Try.prog 26 #[.pointer (some ⟨P, 0, none⟩), .agg cs.toArray] w (SoP true P base (L ++ (leL 2 [B.pause] ++ (leB (B.data.length : Int) 2 ++ B.data))) w v) := by
  obtain ⟨bx, wa, Ad, cd, At, ct, Ai, ci, kd, kt, ki, C_⟩ := wctx hT h ho hL
  have C := Lib.hid C_
  have HBB := Lib.hid hL; have HTB := Lib.hid h
  have hx := C_.cells wa v (OutK.refl _ _ _)
  rw [hid] at hx
  obtain ⟨z0, z1, -, -, -, -, -, -, -, -, -, -, -, -, -, -⟩ := hx
  have HL := Lib.hid C_.hL
  have HS0 := Lib.hid C_.hs0; have HT0 := Lib.hid C_.hT0; have KK0 := Lib.hid (OutK.refl P wa v)
  clear C_ hT h ho hL
  go_enter Try.func26, Try.ntmps26
  go_upto_region 0 with fail
  refine wp_region_list ?_
  refine Great.wpList_boxTo rfl 28 (.tmp 1) rfl (some 3) rfl bx C.out.hbx.symm cs.toArray rfl ?_
  rw [← C.out.hwa]
  go_upto_region 4 with fail
  have HN0 := Lib.hid (num_new 2 P base 1 [B.pause] _ wa v _ rfl HS0.out rfl (by intro x hx; simp only [List.mem_cons, List.not_mem_nil, or_false] at hx; rcases hx with rfl <;> exact C.out.wf _ (by simp [TB.nums])) HT0.out.h3 (by decide) (by have h9 := HL.out; (try simp only [List.length_append, leL_len, leB_len, List.length_cons, List.length_nil, ← C.out.ed, ← C.out.et]); omega))
  go_upto_region 5 with (first
    | (go_at_call 25
       refine HN0.out.mono ?_
       rintro e w1 ⟨rfl, v1, hs, hk⟩
       have hKK1 := KK0.out.trans hk
       have hT1 := HT0.out.step HS0.out hk
       obtain ⟨-, -, -, -, -, -, -, -, -, -, -, -, z12, -, -, -⟩ := C.out.cells w1 v1 hKK1
       have KK1 := Lib.hid hKK1
       have HT1 := Lib.hid hT1
       have HS1 := Lib.hid hs
       clear hs hk hKK1 hT1))
  have HN1 := Lib.hid (data_w 2 P base kd cd Ad B.data _ w1 v1 HS1.out (Cells.below C.out.hd1 HT1.out.bel) C.out.ed.symm (HT1.out.off HS1.out C.out.hd1) HT1.out.h3 (by decide) (by have h9 := HL.out; (try simp only [List.length_append, leL_len, leB_len, List.length_cons, List.length_nil, ← C.out.ed, ← C.out.et]); omega))
  go_wp2_with (first
    | (go_at_call 54
       refine HN1.out.mono ?_
       rintro e w2 ⟨rfl, v2, hs, hk⟩
       have hKK2 := KK1.out.trans hk
       have hT2 := HT1.out.step HS1.out hk
       obtain ⟨-, -, -, -, -, -, -, -, -, -, -, -, -, -, -, -⟩ := C.out.cells w2 v2 hKK2
       have KK2 := Lib.hid hKK2
       have HT2 := Lib.hid hT2
       have HS2 := Lib.hid hs
       clear hs hk hKK2 hT2))
  go_ret
  exact ⟨rfl, v2, (by (try rw [← C.out.ed]); (try rw [← C.out.et]); first | exact HS2.out | simpa [List.append_assoc] using HS2.out), (OutK.fresh C.out.hba).trans KK2.out⟩
set_option maxRecDepth 100000 in
set_option maxHeartbeats 4000000 in
theorem ws_17 (P base : Nat) (cs : List Value) (B : TB) (L : List Int) (w0 w : World) (v : Value) (hT : Tape0 w0 w base P) (h : TBV w0 cs B) (ho : OutS w P base v L) (hL : L.length + wB B ≤ 100000000) (hid : B.id = 17) :
    Calls Try.prog 26 #[.pointer (some ⟨P, 0, none⟩), .agg cs.toArray] w (SoP true P base (L ++ (leL 2 [B.pilot, B.sync1, B.sync2, B.zero, B.one, B.count] ++ (leL 1 [B.used] ++ (leL 2 [B.pause] ++ (leB (B.data.length : Int) 3 ++ B.data))))) w v) := by
  obtain ⟨bx, wa, Ad, cd, At, ct, Ai, ci, kd, kt, ki, C_⟩ := wctx hT h ho hL
  have C := Lib.hid C_
  have HBB := Lib.hid hL; have HTB := Lib.hid h
  have hx := C_.cells wa v (OutK.refl _ _ _)
  rw [hid] at hx
  obtain ⟨z0, -, z2, z3, z4, z5, z6, -, z8, -, -, -, -, -, -, -⟩ := hx
  have HL := Lib.hid C_.hL
  have HS0 := Lib.hid C_.hs0; have HT0 := Lib.hid C_.hT0; have KK0 := Lib.hid (OutK.refl P wa v)
  clear C_ hT h ho hL
  go_enter Try.func26, Try.ntmps26
  go_upto_region 0 with fail
  refine wp_region_list ?_
  refine Great.wpList_boxTo rfl 28 (.tmp 1) rfl (some 3) rfl bx C.out.hbx.symm cs.toArray rfl ?_
  rw [← C.out.hwa]
  go_upto_region 7 with fail
  have HN0 := Lib.hid (num_new 2 P base 6 [B.pilot, B.sync1, B.sync2, B.zero, B.one, B.count] _ wa v _ rfl HS0.out rfl (by intro x hx; simp only [List.mem_cons, List.not_mem_nil, or_false] at hx; rcases hx with rfl | rfl | rfl | rfl | rfl | rfl <;> exact C.out.wf _ (by simp [TB.nums])) HT0.out.h3 (by decide) (by have h9 := HL.out; (try simp only [List.length_append, leL_len, leB_len, List.length_cons, List.length_nil, ← C.out.ed, ← C.out.et]); omega))
  go_upto_region 8 with (first
    | (go_at_call 25
       refine HN0.out.mono ?_
       rintro e w1 ⟨rfl, v1, hs, hk⟩
       have hKK1 := KK0.out.trans hk
       have hT1 := HT0.out.step HS0.out hk
       obtain ⟨-, -, -, -, -, -, -, -, -, z9, -, -, -, -, -, -⟩ := C.out.cells w1 v1 hKK1
       have KK1 := Lib.hid hKK1
       have HT1 := Lib.hid hT1
       have HS1 := Lib.hid hs
       clear hs hk hKK1 hT1))
  have HN1 := Lib.hid (num_new 1 P base 1 [B.used] _ w1 v1 _ rfl HS1.out rfl (by intro x hx; simp only [List.mem_cons, List.not_mem_nil, or_false] at hx; rcases hx with rfl <;> exact C.out.wf _ (by simp [TB.nums])) HT1.out.h3 (by decide) (by have h9 := HL.out; (try simp only [List.length_append, leL_len, leB_len, List.length_cons, List.length_nil, ← C.out.ed, ← C.out.et]); omega))
  go_upto_region 9 with (first
    | (go_at_call 25
       refine HN1.out.mono ?_
       rintro e w2 ⟨rfl, v2, hs, hk⟩
       have hKK2 := KK1.out.trans hk
       have hT2 := HT1.out.step HS1.out hk
       obtain ⟨-, z1, -, -, -, -, -, -, -, -, -, -, -, -, -, -⟩ := C.out.cells w2 v2 hKK2
       have KK2 := Lib.hid hKK2
       have HT2 := Lib.hid hT2
       have HS2 := Lib.hid hs
       clear hs hk hKK2 hT2))
  have HN2 := Lib.hid (num_new 2 P base 1 [B.pause] _ w2 v2 _ rfl HS2.out rfl (by intro x hx; simp only [List.mem_cons, List.not_mem_nil, or_false] at hx; rcases hx with rfl <;> exact C.out.wf _ (by simp [TB.nums])) HT2.out.h3 (by decide) (by have h9 := HL.out; (try simp only [List.length_append, leL_len, leB_len, List.length_cons, List.length_nil, ← C.out.ed, ← C.out.et]); omega))
  go_upto_region 10 with (first
    | (go_at_call 25
       refine HN2.out.mono ?_
       rintro e w3 ⟨rfl, v3, hs, hk⟩
       have hKK3 := KK2.out.trans hk
       have hT3 := HT2.out.step HS2.out hk
       obtain ⟨-, -, -, -, -, -, -, -, -, -, -, -, z12, -, -, -⟩ := C.out.cells w3 v3 hKK3
       have KK3 := Lib.hid hKK3
       have HT3 := Lib.hid hT3
       have HS3 := Lib.hid hs
       clear hs hk hKK3 hT3))
  have HN3 := Lib.hid (data_w 3 P base kd cd Ad B.data _ w3 v3 HS3.out (Cells.below C.out.hd1 HT3.out.bel) C.out.ed.symm (HT3.out.off HS3.out C.out.hd1) HT3.out.h3 (by decide) (by have h9 := HL.out; (try simp only [List.length_append, leL_len, leB_len, List.length_cons, List.length_nil, ← C.out.ed, ← C.out.et]); omega))
  go_wp2_with (first
    | (go_at_call 54
       refine HN3.out.mono ?_
       rintro e w4 ⟨rfl, v4, hs, hk⟩
       have hKK4 := KK3.out.trans hk
       have hT4 := HT3.out.step HS3.out hk
       obtain ⟨-, -, -, -, -, -, -, -, -, -, -, -, -, -, -, -⟩ := C.out.cells w4 v4 hKK4
       have KK4 := Lib.hid hKK4
       have HT4 := Lib.hid hT4
       have HS4 := Lib.hid hs
       clear hs hk hKK4 hT4))
  go_ret
  exact ⟨rfl, v4, (by (try rw [← C.out.ed]); (try rw [← C.out.et]); first | exact HS4.out | simpa [List.append_assoc] using HS4.out), (OutK.fresh C.out.hba).trans KK4.out⟩
set_option maxRecDepth 100000 in
set_option maxHeartbeats 4000000 in
theorem ws_18 (P base : Nat) (cs : List Value) (B : TB) (L : List Int) (w0 w : World) (v : Value) (hT : Tape0 w0 w base P) (h : TBV w0 cs B) (ho : OutS w P base v L) (hL : L.length + wB B ≤ 100000000) (hid : B.id = 18) :
    Calls Try.prog 26 #[.pointer (some ⟨P, 0, none⟩), .agg cs.toArray] w (SoP true P base (L ++ leL 2 [B.tone, B.count]) w v) := by
  obtain ⟨bx, wa, Ad, cd, At, ct, Ai, ci, kd, kt, ki, C_⟩ := wctx hT h ho hL
  have C := Lib.hid C_
  have HBB := Lib.hid hL; have HTB := Lib.hid h
  have hx := C_.cells wa v (OutK.refl _ _ _)
  rw [hid] at hx
  obtain ⟨z0, -, -, -, -, -, -, z7, z8, -, -, -, -, -, -, -⟩ := hx
  have HL := Lib.hid C_.hL
  have HS0 := Lib.hid C_.hs0; have HT0 := Lib.hid C_.hT0; have KK0 := Lib.hid (OutK.refl P wa v)
  clear C_ hT h ho hL
  go_enter Try.func26, Try.ntmps26
  go_upto_region 0 with fail
  refine wp_region_list ?_
  refine Great.wpList_boxTo rfl 28 (.tmp 1) rfl (some 3) rfl bx C.out.hbx.symm cs.toArray rfl ?_
  rw [← C.out.hwa]
  go_upto_region 12 with fail
  have HN0 := Lib.hid (num_new 2 P base 2 [B.tone, B.count] _ wa v _ rfl HS0.out rfl (by intro x hx; simp only [List.mem_cons, List.not_mem_nil, or_false] at hx; rcases hx with rfl | rfl <;> exact C.out.wf _ (by simp [TB.nums])) HT0.out.h3 (by decide) (by have h9 := HL.out; (try simp only [List.length_append, leL_len, leB_len, List.length_cons, List.length_nil, ← C.out.ed, ← C.out.et]); omega))
  go_wp2_with (first
    | (go_at_call 25
       refine HN0.out.mono ?_
       rintro e w1 ⟨rfl, v1, hs, hk⟩
       have hKK1 := KK0.out.trans hk
       have hT1 := HT0.out.step HS0.out hk
       obtain ⟨-, -, -, -, -, -, -, -, -, -, -, -, -, -, -, -⟩ := C.out.cells w1 v1 hKK1
       have KK1 := Lib.hid hKK1
       have HT1 := Lib.hid hT1
       have HS1 := Lib.hid hs
       clear hs hk hKK1 hT1))
  go_ret
  exact ⟨rfl, v1, (by (try rw [← C.out.ed]); (try rw [← C.out.et]); first | exact HS1.out | simpa [List.append_assoc] using HS1.out), (OutK.fresh C.out.hba).trans KK1.out⟩
set_option maxRecDepth 100000 in
set_option maxHeartbeats 4000000 in
theorem ws_19 (P base : Nat) (cs : List Value) (B : TB) (L : List Int) (w0 w : World) (v : Value) (hT : Tape0 w0 w base P) (h : TBV w0 cs B) (ho : OutS w P base v L) (hL : L.length + wB B ≤ 100000000) (hid : B.id = 19) :
    Calls Try.prog 26 #[.pointer (some ⟨P, 0, none⟩), .agg cs.toArray] w (SoP true P base (L ++ (leL 1 [(B.times.length : Int)] ++ leL 2 B.times)) w v) := by
  obtain ⟨bx, wa, Ad, cd, At, ct, Ai, ci, kd, kt, ki, C_⟩ := wctx hT h ho hL
  have C := Lib.hid C_
  have HBB := Lib.hid hL; have HTB := Lib.hid h
  have hx := C_.cells wa v (OutK.refl _ _ _)
  rw [hid] at hx
  obtain ⟨z0, -, -, -, -, -, -, -, -, -, -, -, -, z13, -, -⟩ := hx
  have HL := Lib.hid C_.hL
  have HS0 := Lib.hid C_.hs0; have HT0 := Lib.hid C_.hT0; have KK0 := Lib.hid (OutK.refl P wa v)
  clear C_ hT h ho hL
  go_enter Try.func26, Try.ntmps26
  go_upto_region 0 with fail
  refine wp_region_list ?_
  refine Great.wpList_boxTo rfl 28 (.tmp 1) rfl (some 3) rfl bx C.out.hbx.symm cs.toArray rfl ?_
  rw [← C.out.hwa]
  go_upto_region 14 with fail
  have HN0 := Lib.hid (num_new 1 P base 1 [(kt : Int)] _ wa v _ rfl HS0.out rfl (by intro x hx; simp only [List.mem_cons, List.not_mem_nil, or_false] at hx; subst hx; exact wfK (by have h := HL.out; omega)) HT0.out.h3 (by decide) (by have h9 := HL.out; (try simp only [List.length_append, leL_len, leB_len, List.length_cons, List.length_nil, ← C.out.ed, ← C.out.et]); omega))
  go_upto_region 15 with (first
    | (go_at_call 25
       refine HN0.out.mono ?_
       rintro e w1 ⟨rfl, v1, hs, hk⟩
       have hKK1 := KK0.out.trans hk
       have hT1 := HT0.out.step HS0.out hk
       obtain ⟨-, -, -, -, -, -, -, -, -, -, -, -, -, z13, -, -⟩ := C.out.cells w1 v1 hKK1
       have KK1 := Lib.hid hKK1
       have HT1 := Lib.hid hT1
       have HS1 := Lib.hid hs
       clear hs hk hKK1 hT1))
  have HN1 := Lib.hid (num_w 2 P base kt ct At B.times _ w1 v1 HS1.out (Cells.below C.out.ht1 HT1.out.bel) C.out.et.symm C.out.ht4 (HT1.out.off HS1.out C.out.ht1) HT1.out.h3 (by decide) (by have h9 := HL.out; (try simp only [List.length_append, leL_len, leB_len, List.length_cons, List.length_nil, ← C.out.ed, ← C.out.et]); omega))
  go_wp2_with (first
    | (go_at_call 25
       refine HN1.out.mono ?_
       rintro e w2 ⟨rfl, v2, hs, hk⟩
       have hKK2 := KK1.out.trans hk
       have hT2 := HT1.out.step HS1.out hk
       obtain ⟨-, -, -, -, -, -, -, -, -, -, -, -, -, -, -, -⟩ := C.out.cells w2 v2 hKK2
       have KK2 := Lib.hid hKK2
       have HT2 := Lib.hid hT2
       have HS2 := Lib.hid hs
       clear hs hk hKK2 hT2))
  go_ret
  exact ⟨rfl, v2, (by (try rw [← C.out.ed]); (try rw [← C.out.et]); first | exact HS2.out | simpa [List.append_assoc] using HS2.out), (OutK.fresh C.out.hba).trans KK2.out⟩
set_option maxRecDepth 100000 in
set_option maxHeartbeats 4000000 in
theorem ws_20 (P base : Nat) (cs : List Value) (B : TB) (L : List Int) (w0 w : World) (v : Value) (hT : Tape0 w0 w base P) (h : TBV w0 cs B) (ho : OutS w P base v L) (hL : L.length + wB B ≤ 100000000) (hid : B.id = 20) :
    Calls Try.prog 26 #[.pointer (some ⟨P, 0, none⟩), .agg cs.toArray] w (SoP true P base (L ++ (leL 2 [B.zero, B.one] ++ (leL 1 [B.used] ++ (leL 2 [B.pause] ++ (leB (B.data.length : Int) 3 ++ B.data))))) w v) := by
  obtain ⟨bx, wa, Ad, cd, At, ct, Ai, ci, kd, kt, ki, C_⟩ := wctx hT h ho hL
  have C := Lib.hid C_
  have HBB := Lib.hid hL; have HTB := Lib.hid h
  have hx := C_.cells wa v (OutK.refl _ _ _)
  rw [hid] at hx
  obtain ⟨z0, -, -, -, -, z5, z6, -, -, -, -, -, -, -, -, -⟩ := hx
  have HL := Lib.hid C_.hL
  have HS0 := Lib.hid C_.hs0; have HT0 := Lib.hid C_.hT0; have KK0 := Lib.hid (OutK.refl P wa v)
  clear C_ hT h ho hL
  go_enter Try.func26, Try.ntmps26
  go_upto_region 0 with fail
  refine wp_region_list ?_
  refine Great.wpList_boxTo rfl 28 (.tmp 1) rfl (some 3) rfl bx C.out.hbx.symm cs.toArray rfl ?_
  rw [← C.out.hwa]
  go_upto_region 17 with fail
  have HN0 := Lib.hid (num_new 2 P base 2 [B.zero, B.one] _ wa v _ rfl HS0.out rfl (by intro x hx; simp only [List.mem_cons, List.not_mem_nil, or_false] at hx; rcases hx with rfl | rfl <;> exact C.out.wf _ (by simp [TB.nums])) HT0.out.h3 (by decide) (by have h9 := HL.out; (try simp only [List.length_append, leL_len, leB_len, List.length_cons, List.length_nil, ← C.out.ed, ← C.out.et]); omega))
  go_upto_region 18 with (first
    | (go_at_call 25
       refine HN0.out.mono ?_
       rintro e w1 ⟨rfl, v1, hs, hk⟩
       have hKK1 := KK0.out.trans hk
       have hT1 := HT0.out.step HS0.out hk
       obtain ⟨-, -, -, -, -, -, -, -, -, z9, -, -, -, -, -, -⟩ := C.out.cells w1 v1 hKK1
       have KK1 := Lib.hid hKK1
       have HT1 := Lib.hid hT1
       have HS1 := Lib.hid hs
       clear hs hk hKK1 hT1))
  have HN1 := Lib.hid (num_new 1 P base 1 [B.used] _ w1 v1 _ rfl HS1.out rfl (by intro x hx; simp only [List.mem_cons, List.not_mem_nil, or_false] at hx; rcases hx with rfl <;> exact C.out.wf _ (by simp [TB.nums])) HT1.out.h3 (by decide) (by have h9 := HL.out; (try simp only [List.length_append, leL_len, leB_len, List.length_cons, List.length_nil, ← C.out.ed, ← C.out.et]); omega))
  go_upto_region 19 with (first
    | (go_at_call 25
       refine HN1.out.mono ?_
       rintro e w2 ⟨rfl, v2, hs, hk⟩
       have hKK2 := KK1.out.trans hk
       have hT2 := HT1.out.step HS1.out hk
       obtain ⟨-, z1, -, -, -, -, -, -, -, -, -, -, -, -, -, -⟩ := C.out.cells w2 v2 hKK2
       have KK2 := Lib.hid hKK2
       have HT2 := Lib.hid hT2
       have HS2 := Lib.hid hs
       clear hs hk hKK2 hT2))
  have HN2 := Lib.hid (num_new 2 P base 1 [B.pause] _ w2 v2 _ rfl HS2.out rfl (by intro x hx; simp only [List.mem_cons, List.not_mem_nil, or_false] at hx; rcases hx with rfl <;> exact C.out.wf _ (by simp [TB.nums])) HT2.out.h3 (by decide) (by have h9 := HL.out; (try simp only [List.length_append, leL_len, leB_len, List.length_cons, List.length_nil, ← C.out.ed, ← C.out.et]); omega))
  go_upto_region 20 with (first
    | (go_at_call 25
       refine HN2.out.mono ?_
       rintro e w3 ⟨rfl, v3, hs, hk⟩
       have hKK3 := KK2.out.trans hk
       have hT3 := HT2.out.step HS2.out hk
       obtain ⟨-, -, -, -, -, -, -, -, -, -, -, -, z12, -, -, -⟩ := C.out.cells w3 v3 hKK3
       have KK3 := Lib.hid hKK3
       have HT3 := Lib.hid hT3
       have HS3 := Lib.hid hs
       clear hs hk hKK3 hT3))
  have HN3 := Lib.hid (data_w 3 P base kd cd Ad B.data _ w3 v3 HS3.out (Cells.below C.out.hd1 HT3.out.bel) C.out.ed.symm (HT3.out.off HS3.out C.out.hd1) HT3.out.h3 (by decide) (by have h9 := HL.out; (try simp only [List.length_append, leL_len, leB_len, List.length_cons, List.length_nil, ← C.out.ed, ← C.out.et]); omega))
  go_wp2_with (first
    | (go_at_call 54
       refine HN3.out.mono ?_
       rintro e w4 ⟨rfl, v4, hs, hk⟩
       have hKK4 := KK3.out.trans hk
       have hT4 := HT3.out.step HS3.out hk
       obtain ⟨-, -, -, -, -, -, -, -, -, -, -, -, -, -, -, -⟩ := C.out.cells w4 v4 hKK4
       have KK4 := Lib.hid hKK4
       have HT4 := Lib.hid hT4
       have HS4 := Lib.hid hs
       clear hs hk hKK4 hT4))
  go_ret
  exact ⟨rfl, v4, (by (try rw [← C.out.ed]); (try rw [← C.out.et]); first | exact HS4.out | simpa [List.append_assoc] using HS4.out), (OutK.fresh C.out.hba).trans KK4.out⟩
set_option maxRecDepth 100000 in
set_option maxHeartbeats 4000000 in
theorem ws_21 (P base : Nat) (cs : List Value) (B : TB) (L : List Int) (w0 w : World) (v : Value) (hT : Tape0 w0 w base P) (h : TBV w0 cs B) (ho : OutS w P base v L) (hL : L.length + wB B ≤ 100000000) (hid : B.id = 21) :
    Calls Try.prog 26 #[.pointer (some ⟨P, 0, none⟩), .agg cs.toArray] w (SoP true P base (L ++ (leL 2 [B.rate, B.pause] ++ (leL 1 [B.used] ++ (leB (B.data.length : Int) 3 ++ B.data)))) w v) := by
  obtain ⟨bx, wa, Ad, cd, At, ct, Ai, ci, kd, kt, ki, C_⟩ := wctx hT h ho hL
  have C := Lib.hid C_
  have HBB := Lib.hid hL; have HTB := Lib.hid h
  have hx := C_.cells wa v (OutK.refl _ _ _)
  rw [hid] at hx
  obtain ⟨z0, z1, -, -, -, -, -, -, -, -, z10, -, -, -, -, -⟩ := hx
  have HL := Lib.hid C_.hL
  have HS0 := Lib.hid C_.hs0; have HT0 := Lib.hid C_.hT0; have KK0 := Lib.hid (OutK.refl P wa v)
  clear C_ hT h ho hL
  go_enter Try.func26, Try.ntmps26
  go_upto_region 0 with fail
  refine wp_region_list ?_
  refine Great.wpList_boxTo rfl 28 (.tmp 1) rfl (some 3) rfl bx C.out.hbx.symm cs.toArray rfl ?_
  rw [← C.out.hwa]
  go_upto_region 22 with fail
  have HN0 := Lib.hid (num_new 2 P base 2 [B.rate, B.pause] _ wa v _ rfl HS0.out rfl (by intro x hx; simp only [List.mem_cons, List.not_mem_nil, or_false] at hx; rcases hx with rfl | rfl <;> exact C.out.wf _ (by simp [TB.nums])) HT0.out.h3 (by decide) (by have h9 := HL.out; (try simp only [List.length_append, leL_len, leB_len, List.length_cons, List.length_nil, ← C.out.ed, ← C.out.et]); omega))
  go_upto_region 23 with (first
    | (go_at_call 25
       refine HN0.out.mono ?_
       rintro e w1 ⟨rfl, v1, hs, hk⟩
       have hKK1 := KK0.out.trans hk
       have hT1 := HT0.out.step HS0.out hk
       obtain ⟨-, -, -, -, -, -, -, -, -, z9, -, -, -, -, -, -⟩ := C.out.cells w1 v1 hKK1
       have KK1 := Lib.hid hKK1
       have HT1 := Lib.hid hT1
       have HS1 := Lib.hid hs
       clear hs hk hKK1 hT1))
  have HN1 := Lib.hid (num_new 1 P base 1 [B.used] _ w1 v1 _ rfl HS1.out rfl (by intro x hx; simp only [List.mem_cons, List.not_mem_nil, or_false] at hx; rcases hx with rfl <;> exact C.out.wf _ (by simp [TB.nums])) HT1.out.h3 (by decide) (by have h9 := HL.out; (try simp only [List.length_append, leL_len, leB_len, List.length_cons, List.length_nil, ← C.out.ed, ← C.out.et]); omega))
  go_upto_region 24 with (first
    | (go_at_call 25
       refine HN1.out.mono ?_
       rintro e w2 ⟨rfl, v2, hs, hk⟩
       have hKK2 := KK1.out.trans hk
       have hT2 := HT1.out.step HS1.out hk
       obtain ⟨-, -, -, -, -, -, -, -, -, -, -, -, z12, -, -, -⟩ := C.out.cells w2 v2 hKK2
       have KK2 := Lib.hid hKK2
       have HT2 := Lib.hid hT2
       have HS2 := Lib.hid hs
       clear hs hk hKK2 hT2))
  have HN2 := Lib.hid (data_w 3 P base kd cd Ad B.data _ w2 v2 HS2.out (Cells.below C.out.hd1 HT2.out.bel) C.out.ed.symm (HT2.out.off HS2.out C.out.hd1) HT2.out.h3 (by decide) (by have h9 := HL.out; (try simp only [List.length_append, leL_len, leB_len, List.length_cons, List.length_nil, ← C.out.ed, ← C.out.et]); omega))
  go_wp2_with (first
    | (go_at_call 54
       refine HN2.out.mono ?_
       rintro e w3 ⟨rfl, v3, hs, hk⟩
       have hKK3 := KK2.out.trans hk
       have hT3 := HT2.out.step HS2.out hk
       obtain ⟨-, -, -, -, -, -, -, -, -, -, -, -, -, -, -, -⟩ := C.out.cells w3 v3 hKK3
       have KK3 := Lib.hid hKK3
       have HT3 := Lib.hid hT3
       have HS3 := Lib.hid hs
       clear hs hk hKK3 hT3))
  go_ret
  exact ⟨rfl, v3, (by (try rw [← C.out.ed]); (try rw [← C.out.et]); first | exact HS3.out | simpa [List.append_assoc] using HS3.out), (OutK.fresh C.out.hba).trans KK3.out⟩
set_option maxRecDepth 100000 in
set_option maxHeartbeats 4000000 in
theorem ws_24 (P base : Nat) (cs : List Value) (B : TB) (L : List Int) (w0 w : World) (v : Value) (hT : Tape0 w0 w base P) (h : TBV w0 cs B) (ho : OutS w P base v L) (hL : L.length + wB B ≤ 100000000) (hid : B.id = 24) :
    Calls Try.prog 26 #[.pointer (some ⟨P, 0, none⟩), .agg cs.toArray] w (SoP true P base (L ++ (leL 4 [(B.data.length : Int) + 10] ++ (leL 2 [B.pause] ++ (leL 3 [B.rate] ++ (leL 1 [B.pack] ++ (leL 4 [B.count] ++ B.data)))))) w v) := by
  obtain ⟨bx, wa, Ad, cd, At, ct, Ai, ci, kd, kt, ki, C_⟩ := wctx hT h ho hL
  have C := Lib.hid C_
  have HBB := Lib.hid hL; have HTB := Lib.hid h
  have hx := C_.cells wa v (OutK.refl _ _ _)
  rw [hid] at hx
  obtain ⟨z0, -, -, -, -, -, -, -, -, -, -, -, z12, -, -, -⟩ := hx
  have HL := Lib.hid C_.hL
  have HS0 := Lib.hid C_.hs0; have HT0 := Lib.hid C_.hT0; have KK0 := Lib.hid (OutK.refl P wa v)
  clear C_ hT h ho hL
  go_enter Try.func26, Try.ntmps26
  go_upto_region 0 with fail
  refine wp_region_list ?_
  refine Great.wpList_boxTo rfl 28 (.tmp 1) rfl (some 3) rfl bx C.out.hbx.symm cs.toArray rfl ?_
  rw [← C.out.hwa]
  go_upto_region 26 with fail
  have HN0 := Lib.hid (num_new 4 P base 1 [(kd : Int) + 10] _ wa v _ rfl HS0.out rfl (by intro x hx; simp only [List.mem_cons, List.not_mem_nil, or_false] at hx; subst hx; exact wfK (by have h := HL.out; omega)) HT0.out.h3 (by decide) (by have h9 := HL.out; (try simp only [List.length_append, leL_len, leB_len, List.length_cons, List.length_nil, ← C.out.ed, ← C.out.et]); omega))
  have e10 : IntKind.i64.wrap ((kd : Int) + 10) = (kd : Int) + 10 := by rw [IntKind.wrap_i64]; have h := HL.out; omega
  go_upto_region 27 with (first
    | (go_at_call 25
       refine HN0.out.mono ?_
       rintro e w1 ⟨rfl, v1, hs, hk⟩
       have hKK1 := KK0.out.trans hk
       have hT1 := HT0.out.step HS0.out hk
       obtain ⟨-, z1, -, -, -, -, -, -, -, -, -, -, -, -, -, -⟩ := C.out.cells w1 v1 hKK1
       have KK1 := Lib.hid hKK1
       have HT1 := Lib.hid hT1
       have HS1 := Lib.hid hs
       clear hs hk hKK1 hT1))
  have HN1 := Lib.hid (num_new 2 P base 1 [B.pause] _ w1 v1 _ rfl HS1.out rfl (by intro x hx; simp only [List.mem_cons, List.not_mem_nil, or_false] at hx; rcases hx with rfl <;> exact C.out.wf _ (by simp [TB.nums])) HT1.out.h3 (by decide) (by have h9 := HL.out; (try simp only [List.length_append, leL_len, leB_len, List.length_cons, List.length_nil, ← C.out.ed, ← C.out.et]); omega))
  go_upto_region 28 with (first
    | (go_at_call 25
       refine HN1.out.mono ?_
       rintro e w2 ⟨rfl, v2, hs, hk⟩
       have hKK2 := KK1.out.trans hk
       have hT2 := HT1.out.step HS1.out hk
       obtain ⟨-, -, -, -, -, -, -, -, -, -, z10, -, -, -, -, -⟩ := C.out.cells w2 v2 hKK2
       have KK2 := Lib.hid hKK2
       have HT2 := Lib.hid hT2
       have HS2 := Lib.hid hs
       clear hs hk hKK2 hT2))
  have HN2 := Lib.hid (num_new 3 P base 1 [B.rate] _ w2 v2 _ rfl HS2.out rfl (by intro x hx; simp only [List.mem_cons, List.not_mem_nil, or_false] at hx; rcases hx with rfl <;> exact C.out.wf _ (by simp [TB.nums])) HT2.out.h3 (by decide) (by have h9 := HL.out; (try simp only [List.length_append, leL_len, leB_len, List.length_cons, List.length_nil, ← C.out.ed, ← C.out.et]); omega))
  go_upto_region 29 with (first
    | (go_at_call 25
       refine HN2.out.mono ?_
       rintro e w3 ⟨rfl, v3, hs, hk⟩
       have hKK3 := KK2.out.trans hk
       have hT3 := HT2.out.step HS2.out hk
       obtain ⟨-, -, -, -, -, -, -, -, -, -, -, z11, -, -, -, -⟩ := C.out.cells w3 v3 hKK3
       have KK3 := Lib.hid hKK3
       have HT3 := Lib.hid hT3
       have HS3 := Lib.hid hs
       clear hs hk hKK3 hT3))
  have HN3 := Lib.hid (num_new 1 P base 1 [B.pack] _ w3 v3 _ rfl HS3.out rfl (by intro x hx; simp only [List.mem_cons, List.not_mem_nil, or_false] at hx; rcases hx with rfl <;> exact C.out.wf _ (by simp [TB.nums])) HT3.out.h3 (by decide) (by have h9 := HL.out; (try simp only [List.length_append, leL_len, leB_len, List.length_cons, List.length_nil, ← C.out.ed, ← C.out.et]); omega))
  go_upto_region 30 with (first
    | (go_at_call 25
       refine HN3.out.mono ?_
       rintro e w4 ⟨rfl, v4, hs, hk⟩
       have hKK4 := KK3.out.trans hk
       have hT4 := HT3.out.step HS3.out hk
       obtain ⟨-, -, -, -, -, -, -, -, z8, -, -, -, -, -, -, -⟩ := C.out.cells w4 v4 hKK4
       have KK4 := Lib.hid hKK4
       have HT4 := Lib.hid hT4
       have HS4 := Lib.hid hs
       clear hs hk hKK4 hT4))
  have HN4 := Lib.hid (num_new 4 P base 1 [B.count] _ w4 v4 _ rfl HS4.out rfl (by intro x hx; simp only [List.mem_cons, List.not_mem_nil, or_false] at hx; rcases hx with rfl <;> exact C.out.wf _ (by simp [TB.nums])) HT4.out.h3 (by decide) (by have h9 := HL.out; (try simp only [List.length_append, leL_len, leB_len, List.length_cons, List.length_nil, ← C.out.ed, ← C.out.et]); omega))
  go_upto_region 31 with (first
    | (go_at_call 25
       refine HN4.out.mono ?_
       rintro e w5 ⟨rfl, v5, hs, hk⟩
       have hKK5 := KK4.out.trans hk
       have hT5 := HT4.out.step HS4.out hk
       obtain ⟨-, -, -, -, -, -, -, -, -, -, -, -, z12, -, -, -⟩ := C.out.cells w5 v5 hKK5
       have KK5 := Lib.hid hKK5
       have HT5 := Lib.hid hT5
       have HS5 := Lib.hid hs
       clear hs hk hKK5 hT5))
  have HI5 := Lib.hid (Cells.below C.out.hd1 HT5.out.bel)
  have c5 : w5.cell? ⟨P, 0, none⟩ = some v5 := HS5.out.blk.cell 0
  have hl5 : (((((L ++ leL 4 [(kd : Int) + 10]) ++ leL 2 [B.pause]) ++ leL 3 [B.rate]) ++ leL 1 [B.pack]) ++ leL 4 [B.count]).length + kd ≤ 140737488355328 := by have h9 := HL.out; (try simp only [List.length_append, leL_len, List.length_cons, List.length_nil]); omega
  refine until_start 7 (fun u => u.cell? ⟨P, 0, none⟩ = some v5 ∧ u.cell? ⟨bx, 12, none⟩ = some (.slice Ad kd cd)) (by kernel_rfl) ?_
  have hS : Hid ((fun u : World => u.cell? ⟨P, 0, none⟩ = some v5 ∧ u.cell? ⟨bx, 12, none⟩ = some (.slice Ad kd cd)) w5.drew) := Lib.hid ⟨c5, z12⟩
  refine until_take (i := 0) (v := ?_) rfl (by kernel_rfl) (by kernel_rfl) (by kernel_rfl) rfl (fun _ _ _ h => h) (fun _ => hS.out) (Or.inl ⟨by rfl, ?_⟩) ?_
  rotate_left
  · (intro u _; go_simp; try with_reducible rfl)
  try simp only [Act.put, List.setIfInBounds_toArray, List.set_cons_zero, List.set_cons_succ]
  refine until_take (i := 1) (v := ?_) rfl (by kernel_rfl) (by kernel_rfl) (by kernel_rfl) rfl (fun _ _ _ h => h) (fun _ => hS.out) (Or.inl ⟨by rfl, ?_⟩) ?_
  rotate_left
  · (intro u _; go_simp; try with_reducible rfl)
  try simp only [Act.put, List.setIfInBounds_toArray, List.set_cons_zero, List.set_cons_succ]
  refine until_take (i := 2) (v := ?_) rfl (by kernel_rfl) (by kernel_rfl) (by kernel_rfl) rfl (fun _ _ _ h => h) (fun _ => hS.out) (Or.inl ⟨by rfl, ?_⟩) ?_
  rotate_left
  · (intro u _; go_simp; try with_reducible rfl)
  try simp only [Act.put, List.setIfInBounds_toArray, List.set_cons_zero, List.set_cons_succ]
  refine until_take (i := 3) (v := ?_) rfl (by kernel_rfl) (by kernel_rfl) (by kernel_rfl) rfl (fun _ _ _ h => h) (fun _ => hS.out) (Or.inl ⟨by rfl, ?_⟩) ?_
  rotate_left
  · (intro u _; go_simp; try with_reducible rfl)
  try simp only [Act.put, List.setIfInBounds_toArray, List.set_cons_zero, List.set_cons_succ]
  refine until_take (i := 5) (v := ?_) rfl (by kernel_rfl) (by kernel_rfl) (by kernel_rfl) rfl (fun _ _ _ h => h) (fun _ => hS.out) (Or.inl ⟨by rfl, ?_⟩) ?_
  rotate_left
  · (intro u _; go_simp; try with_reducible rfl)
  try simp only [Act.put, List.setIfInBounds_toArray, List.set_cons_zero, List.set_cons_succ]
  refine until_load (i := 4) (v := ?_) [7] rfl (by kernel_rfl) (by kernel_rfl) (by kernel_rfl) (by kernel_rfl) (fun _ _ _ h => h) hS.out (Or.inl ⟨by rfl, ?_⟩) ?_
  rotate_left
  · (rintro u ⟨s1, s2⟩; go_simp; try with_reducible rfl)
  try simp only [Act.put, List.setIfInBounds_toArray, List.set_cons_zero, List.set_cons_succ]
  refine until_load (i := 6) (v := ?_) [7] rfl (by kernel_rfl) (by kernel_rfl) (by kernel_rfl) (by kernel_rfl) (fun _ _ _ h => h) hS.out (Or.inl ⟨by rfl, ?_⟩) ?_
  rotate_left
  · (rintro u ⟨s1, s2⟩; go_simp; try with_reducible rfl)
  try simp only [Act.put, List.setIfInBounds_toArray, List.set_cons_zero, List.set_cons_succ]
  have HSd := Lib.hid (HS5.out.fresh (Below.refl _ w5).drew)
  have HId : Hid (Ints w5.drew Ad .u8 B.data) := Lib.hid (Cells.below HI5.out (Below.refl _ w5).drew)
  have KKd : Hid (OutK P w5 v5 w5.drew v5) := Lib.hid (OutK.fresh (Below.refl _ w5).drew)
  refine until_ready (rs := [7]) (by kernel_rfl) (by simp) ?_
  refine AllUntil.cons rfl (fun K hK => ?_) AllUntil.nil
  refine if_wanted rfl ?_
  simp only [List.getElem_toArray, List.getElem_cons_succ, List.getElem_cons_zero, Act.put, List.setIfInBounds_toArray, List.set_cons_zero, List.set_cons_succ]
  refine wpOper_appR (.tmp 144) (.tmp 146) rfl base _ v5 _ rfl HSd.out.row Ad kd cd B.data rfl HId.out C.out.ed.symm hl5 HT5.out.h3 ?_
  intro va wb ha ga oa
  have hKd : OutK P w5.drew v5 wb va := OutK.grown ga oa
  have hpb : Blk wb P 60 [v5] := HSd.out.blk.grown ga (fun e => HSd.out.ne e.symm)
  have cp : wb.cell? ⟨P, 0, none⟩ = some v5 := hpb.cell 0
  have fp := hpb.frozen 0
  have hne : va.ownBlock ≠ some P := hKd.ne HSd.out.blk.lt HSd.out.ne
  obtain ⟨v6, hvn⟩ : ∃ x, x = va := ⟨_, rfl⟩
  obtain ⟨sa, sm, sc, rfl⟩ := ha.form
  obtain ⟨w6, hwn⟩ : ∃ x, x = wb.setCell ⟨P, 0, none⟩ (.slice sa sm sc) := ⟨_, rfl⟩
  have hs : OutS w6 P base v6 ((((((L ++ leL 4 [(kd : Int) + 10]) ++ leL 2 [B.pause]) ++ leL 3 [B.rate]) ++ leL 1 [B.pack]) ++ leL 4 [B.count]) ++ B.data) := by
    rw [hwn, hvn]
    refine ⟨hpb.set_ 0 (.slice sa sm sc), ?_, hne⟩
    have h2 := ha.keep (w' := wb.setCell ⟨P, 0, none⟩ (.slice sa sm sc)) (fun g hg => set_heap (ha.lt g hg).2 (fun e => hne (by rw [hg, e])))
    rw [← List.map_append] at h2
    rw [List.length_append, ← C.out.ed]
    exact h2
  have hk : OutK P w5 v5 w6 v6 := by rw [hwn, hvn]; exact KKd.out.trans (hKd.trans (OutK.set _ _ _ _ rfl))
  have HVN := Lib.hid hvn; have HWN := Lib.hid hwn
  clear ha ga oa hKd hpb hne hvn hwn hS
  refine hK.out _ _ (fun h => by simp at h) ?_
  clear hK K
  try simp only [Act.put, List.setIfInBounds_toArray, List.set_cons_zero, List.set_cons_succ]
  refine until_take (i := 8) (v := ?_) rfl (by kernel_rfl) (by kernel_rfl) (by kernel_rfl) rfl (fun _ _ _ h => h) (fun h => by simp at h) (Or.inl ⟨by rfl, ?_⟩) ?_
  rotate_left
  · (intro u _; go_simp; try with_reducible rfl)
  try simp only [Act.put, List.setIfInBounds_toArray, List.set_cons_zero, List.set_cons_succ]
  refine until_take (i := 9) (v := ?_) rfl (by kernel_rfl) (by kernel_rfl) (by kernel_rfl) rfl (fun _ _ _ h => h) (fun h => by simp at h) (Or.inl ⟨by rfl, ?_⟩) ?_
  rotate_left
  · (intro u _; go_simp; try with_reducible rfl)
  try simp only [Act.put, List.setIfInBounds_toArray, List.set_cons_zero, List.set_cons_succ]
  refine until_ready (rs := [10]) (by kernel_rfl) (by simp) ?_
  refine AllUntil.cons rfl (fun K hK => ?_) AllUntil.nil
  go_simp
  refine hK.out _ _ (fun h => by simp at h) ?_
  clear hK K
  try simp only [Act.put, List.setIfInBounds_toArray, List.set_cons_zero, List.set_cons_succ]
  refine until_done (by kernel_rfl) ?_ _
  rw [← HWN.out]
  have hKK6 := KK5.out.trans hk
  have hT6 := HT5.out.step HS5.out hk
  obtain ⟨-, -, -, -, -, -, -, -, -, -, -, -, -, -, -, -⟩ := C.out.cells w6 v6 hKK6
  have KK6 := Lib.hid hKK6
  have HT6 := Lib.hid hT6
  have HS6 := Lib.hid hs
  clear hs hk hKK6 hT6
  clear cp fp c5 HVN HWN
  go_wp2_with fail
  go_ret
  exact ⟨rfl, v6, (by (try rw [← C.out.ed]); (try rw [← C.out.et]); first | exact HS6.out | simpa [List.append_assoc] using HS6.out), (OutK.fresh C.out.hba).trans KK6.out⟩
set_option maxRecDepth 100000 in
set_option maxHeartbeats 4000000 in
theorem ws_25 (P base : Nat) (cs : List Value) (B : TB) (L : List Int) (w0 w : World) (v : Value) (hT : Tape0 w0 w base P) (h : TBV w0 cs B) (ho : OutS w P base v L) (hL : L.length + wB B ≤ 100000000) (hid : B.id = 25) :
    Calls Try.prog 26 #[.pointer (some ⟨P, 0, none⟩), .agg cs.toArray] w (SoP true P base (L ++ (leB ((genL B).length : Int) 4 ++ genL B)) w v) := by
  obtain ⟨bx, wa, Ad, cd, At, ct, Ai, ci, kd, kt, ki, C_⟩ := wctx hT h ho hL
  have C := Lib.hid C_
  have HBB := Lib.hid hL; have HTB := Lib.hid h
  have hx := C_.cells wa v (OutK.refl _ _ _)
  rw [hid] at hx
  obtain ⟨z0, -, -, -, -, -, -, -, -, -, -, -, -, -, -, -⟩ := hx
  have HL := Lib.hid C_.hL
  have HS0 := Lib.hid C_.hs0; have HT0 := Lib.hid C_.hT0; have KK0 := Lib.hid (OutK.refl P wa v)
  clear C_ hT h ho hL
  go_enter Try.func26, Try.ntmps26
  go_upto_region 0 with fail
  refine wp_region_list ?_
  refine Great.wpList_boxTo rfl 28 (.tmp 1) rfl (some 3) rfl bx C.out.hbx.symm cs.toArray rfl ?_
  rw [← C.out.hwa]
  go_upto_region 33 with fail
  have HN0 := Lib.hid (general_w P base cs B _ w0 wa v HT0.out HTB.out HS0.out HBB.out)
  go_wp2_with (first
    | (refine wpList_load_mid rfl 28 (.tmp 3) rfl bx 0 rfl cs _ (blkR (C.out.blk _ _ KK0.out)) Try.underlying28 rfl C.out.hib ?_)
    | (go_at_call 55
       refine HN0.out.mono ?_
       rintro e w1 ⟨rfl, v1, hs, hk⟩
       have hKK1 := KK0.out.trans hk
       have hT1 := HT0.out.step HS0.out hk
       obtain ⟨-, -, -, -, -, -, -, -, -, -, -, -, -, -, -, -⟩ := C.out.cells w1 v1 hKK1
       have KK1 := Lib.hid hKK1
       have HT1 := Lib.hid hT1
       have HS1 := Lib.hid hs
       clear hs hk hKK1 hT1))
  go_ret
  exact ⟨rfl, v1, (by (try rw [← C.out.ed]); (try rw [← C.out.et]); first | exact HS1.out | simpa [List.append_assoc] using HS1.out), (OutK.fresh C.out.hba).trans KK1.out⟩
set_option maxRecDepth 100000 in
set_option maxHeartbeats 4000000 in
theorem ws_32 (P base : Nat) (cs : List Value) (B : TB) (L : List Int) (w0 w : World) (v : Value) (hT : Tape0 w0 w base P) (h : TBV w0 cs B) (ho : OutS w P base v L) (hL : L.length + wB B ≤ 100000000) (hid : B.id = 32) :
    Calls Try.prog 26 #[.pointer (some ⟨P, 0, none⟩), .agg cs.toArray] w (SoP true P base (L ++ leL 2 [B.pause]) w v) := by
  obtain ⟨bx, wa, Ad, cd, At, ct, Ai, ci, kd, kt, ki, C_⟩ := wctx hT h ho hL
  have C := Lib.hid C_
  have HBB := Lib.hid hL; have HTB := Lib.hid h
  have hx := C_.cells wa v (OutK.refl _ _ _)
  rw [hid] at hx
  obtain ⟨z0, z1, -, -, -, -, -, -, -, -, -, -, -, -, -, -⟩ := hx
  have HL := Lib.hid C_.hL
  have HS0 := Lib.hid C_.hs0; have HT0 := Lib.hid C_.hT0; have KK0 := Lib.hid (OutK.refl P wa v)
  clear C_ hT h ho hL
  go_enter Try.func26, Try.ntmps26
  go_upto_region 0 with fail
  refine wp_region_list ?_
  refine Great.wpList_boxTo rfl 28 (.tmp 1) rfl (some 3) rfl bx C.out.hbx.symm cs.toArray rfl ?_
  rw [← C.out.hwa]
  go_upto_region 35 with fail
  have HN0 := Lib.hid (num_new 2 P base 1 [B.pause] _ wa v _ rfl HS0.out rfl (by intro x hx; simp only [List.mem_cons, List.not_mem_nil, or_false] at hx; rcases hx with rfl <;> exact C.out.wf _ (by simp [TB.nums])) HT0.out.h3 (by decide) (by have h9 := HL.out; (try simp only [List.length_append, leL_len, leB_len, List.length_cons, List.length_nil, ← C.out.ed, ← C.out.et]); omega))
  go_wp2_with (first
    | (go_at_call 25
       refine HN0.out.mono ?_
       rintro e w1 ⟨rfl, v1, hs, hk⟩
       have hKK1 := KK0.out.trans hk
       have hT1 := HT0.out.step HS0.out hk
       obtain ⟨-, -, -, -, -, -, -, -, -, -, -, -, -, -, -, -⟩ := C.out.cells w1 v1 hKK1
       have KK1 := Lib.hid hKK1
       have HT1 := Lib.hid hT1
       have HS1 := Lib.hid hs
       clear hs hk hKK1 hT1))
  go_ret
  exact ⟨rfl, v1, (by (try rw [← C.out.ed]); (try rw [← C.out.et]); first | exact HS1.out | simpa [List.append_assoc] using HS1.out), (OutK.fresh C.out.hba).trans KK1.out⟩
end Go.Proofs.Ytokidpajialgbaa
