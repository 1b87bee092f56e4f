/- AsmNils: the law's body. -/
import Derived.Test.YtoejmjhfecppcaaAsmK
namespace Go.Proofs.Ytoejmjhfecppcaa
set_option linter.unusedSimpArgs false
set_option linter.unusedVariables false
open Go.RowKit Go.Maps Go.Sort
def twice : ByteArray := ⟨#[116, 119, 105, 99, 101]⟩
theorem markF_twice (d : AsmD) (s : ByteArray) : (markF (markF d s) s).e ≠ 0 := by
  have key : ∀ d : AsmD, d.e ≠ 0 → markF d s = d := fun d h => by unfold markF; rw [if_pos h]
  by_cases he : d.e = 0
  · cases hm : d.mks s.data.toList with
    | some y =>
      have e1 : markF d s = { d with e := 4 } := by unfold markF; rw [if_neg (by omega), hm]
      rw [e1, key _ (by simp)]
      simp
    | none =>
      have e1 : markF d s = { d with mks := fun t => if t = s.data.toList then some d.here else d.mks t } := by unfold markF; rw [if_neg (by omega), hm]
      rw [e1]
      unfold markF
      rw [if_neg (by simp [he])]
      simp
  · rw [key d he, key d he]; exact he
theorem callF_bad {d : AsmD} (h : d.e ≠ 0) (o : OpL) : callF d o = d := by
  unfold callF bytesF markF fillF delayF
  simp [h]
theorem done_bad {d : AsmD} {w w' : World} {e : Ending} (hd : d.e ≠ 0) (h : DoneR d w e w') : e = .returned (.tuple #[.slice none 0 0, .int .i64 d.e]) ∧ Below w.heap.size w w' := by
  have e1 : doneF d = (d.e, []) := by unfold doneF; rw [if_pos hd]
  obtain ⟨h, hb⟩ := h
  rw [e1] at h
  rcases h with ⟨_, h⟩ | ⟨h, _⟩
  · exact ⟨h, hb⟩
  · exact absurd h hd
theorem ops_one {w : World} {g : Nat} {o : OpL} {Ab : Option Addr} {cb : Nat} (hb : Blk w g 72 [.int .i64 o.kind, .int .i64 o.num, .string o.name, .slice Ab o.b.length cb]) (hl : Ints w Ab .u8 o.b) (hn : Ab = none → o.b.length = 0 ∧ cb = 0) : OpsAt w (some ⟨g, 0, none⟩) [o] := fun i x hi => by
  cases i with
  | zero =>
    simp at hi
    subst hi
    exact ⟨_, Ab, cb, rfl, hb.cell 0, hb.cell 1, hb.cell 2, hb.cell 3, hl, hn⟩
  | succ i => simp at hi
set_option maxRecDepth 100000 in
set_option maxHeartbeats 16000000 in
theorem nils_any (A : Option Addr) (n c : Nat) (L : List OpL) (o : OpL) (Ab : Option Addr) (cb : Nat) (w : World) (hL : OpsAt w A L) (hn : L.length = n) (hOK : ∀ x ∈ L, OpOk x) (ho : OpOk o) (hl : Ints w Ab .u8 o.b) (hnil : Ab = none → o.b.length = 0 ∧ cb = 0) :
    Calls Try.prog 10 #[.slice A n c, opV o Ab cb] w (Yes w) := by
  have hb := below_alloc1 w (.cells #[.int .i64 o.kind, .int .i64 o.num, .string o.name, .slice Ab o.b.length cb] 72)
  have B0 : Blk (w.alloc (.cells #[.int .i64 o.kind, .int .i64 o.num, .string o.name, .slice Ab o.b.length cb] 72)) w.heap.size 72 [.int .i64 o.kind, .int .i64 o.num, .string o.name, .slice Ab o.b.length cb] := Blk.new w _ _
  obtain ⟨w1, hw1⟩ : ∃ u, u = w.alloc (.cells #[.int .i64 o.kind, .int .i64 o.num, .string o.name, .slice Ab o.b.length cb] 72) := ⟨_, rfl⟩
  rw [← hw1] at hb B0
  have HB1 := Lib.hid hb
  have HLb := Lib.hid hl
  have HLB := Lib.hid (hl.below hb)
  have HL := Lib.hid hL
  have HN := Lib.hid hn
  have HOK := Lib.hid hOK
  have HO := Lib.hid ho
  have HNIL := Lib.hid hnil
  have HW := Lib.hid hw1
  have HB0 := Lib.hid B0
  have HLV := Lib.hid lives28
  have b0 : w1.cell? ⟨w.heap.size, 0, none⟩ = some (.int .i64 o.kind) := B0.cell 0
  have b1 : w1.cell? ⟨w.heap.size, 1, none⟩ = some (.int .i64 o.num) := B0.cell 1
  have b2 : w1.cell? ⟨w.heap.size, 2, none⟩ = some (.string o.name) := B0.cell 2
  have b3 : w1.cell? ⟨w.heap.size, 3, none⟩ = some (.slice Ab o.b.length cb) := B0.cell 3
  clear hL hn hOK ho hl hnil hw1 B0 hb
  unfold opV
  go_enter Try.func10, Try.ntmps10
  go_upto_region 1 with fail
  rw [← HW.out]
  clear HW
  go_upto_region 7 with (first
    | (go_at_call 33; refine (call_nil o Ab cb w1 HLB.out).mono ?_; rintro e w2 ⟨rfl, hb2⟩; have HB12 := Lib.hid hb2; have HB2 := Lib.hid (HB1.out.trans (hb2.mono HB1.out.size)); clear hb2)
    | (go_at_call 35; refine (asm_Done_nil _).mono ?_; rintro e w3 ⟨rfl, rfl⟩)
    | (go_at_call 37; refine (asm_At_nil _ _).mono ?_; rintro e w3 ⟨rfl, rfl⟩)
    | (go_at_call 36; refine (asm_Here_nil _).mono ?_; rintro e w3 ⟨rfl, rfl⟩))
  have B2 := Lib.hid (HB0.out.below_ HB12.out)
  have q0 : w2.cell? ⟨w.heap.size, 0, none⟩ = some (.int .i64 o.kind) := B2.out.cell 0
  have q1 : w2.cell? ⟨w.heap.size, 1, none⟩ = some (.int .i64 o.num) := B2.out.cell 1
  have q2 : w2.cell? ⟨w.heap.size, 2, none⟩ = some (.string o.name) := B2.out.cell 2
  have q3 : w2.cell? ⟨w.heap.size, 3, none⟩ = some (.slice Ab o.b.length cb) := B2.out.cell 3
  have HL2 := Lib.hid (HL.out.below HB2.out)
  have HLo2 := Lib.hid (HLb.out.below HB2.out)
  have hw2 := HB2.out.size
  have hb20 := HB12.out.size
  have hlt2 : w.heap.size < w2.heap.size := B2.out.lt
  have hb3 := below_alloc1 w2 (.cells #[.int .i64 o.kind, .int .i64 o.num, .string o.name, .slice Ab o.b.length cb] 72)
  have HO2 : Hid (OpsAt (w2.alloc (.cells #[.int .i64 o.kind, .int .i64 o.num, .string o.name, .slice Ab o.b.length cb] 72)) (some ⟨w2.heap.size, 0, none⟩) [o]) := Lib.hid (ops_one (Blk.new w2 _ _) (HLo2.out.below hb3) HNIL.out)
  have HB3 := Lib.hid (HB2.out.trans (hb3.mono hw2))
  clear b0 b1 b2 b3 hb3
  cases hl1 : lightL L with
  | false =>
    go_wp2_with (first
      | (go_at_call_of 30 (Value.slice A n c); refine (light28 A n c L w2 HL2.out HN.out).mono ?_; rintro e w3 ⟨rfl, rfl⟩; rw [hl1])
      | (go_at_call 31; refine (HLV.out _).mono ?_; rintro e wz ⟨rfl, hbz⟩))
    go_ret
    exact ⟨rfl, HB2.out.trans (hbz.mono hw2)⟩
  | true =>
    cases hl2 : lightL [o] with
    | false =>
      go_wp2_with (first
        | (go_at_call_of 30 (Value.slice A n c); refine (light28 A n c L w2 HL2.out HN.out).mono ?_; rintro e w3 ⟨rfl, rfl⟩; rw [hl1])
        | (go_at_call_of 30 (Value.slice (some ⟨w2.heap.size, 0, none⟩) 1 1); refine (light28 (some ⟨w2.heap.size, 0, none⟩) 1 1 [o] _ HO2.out rfl).mono ?_; rintro e w4 ⟨rfl, rfl⟩; rw [hl2])
        | (go_at_call 31; refine (HLV.out _).mono ?_; rintro e wz ⟨rfl, hbz⟩))
      go_ret
      exact ⟨rfl, HB3.out.trans (hbz.mono HB3.out.size)⟩
    | true =>
      have hlen := lightL_len hl1
      have hn100 : n ≤ 100 := by have := HN.out; omega
      have hob : o.b.length ≤ 65000 := lightL_op hl2 (by simp)
      have HLL := Lib.hid hl1
      go_upto_region 9 with (first
        | (go_at_call_of 30 (Value.slice A n c); refine (light28 A n c L w2 HL2.out HN.out).mono ?_; rintro e w3 ⟨rfl, rfl⟩; rw [hl1])
        | (go_at_call_of 30 (Value.slice (some ⟨w2.heap.size, 0, none⟩) 1 1); refine (light28 (some ⟨w2.heap.size, 0, none⟩) 1 1 [o] _ HO2.out rfl).mono ?_; rintro e w4 ⟨rfl, rfl⟩; rw [hl2]))
      obtain ⟨w8, hw8⟩ : ∃ u, u = w2.alloc (.cells #[.int .i64 o.kind, .int .i64 o.num, .string o.name, .slice Ab o.b.length cb] 72) := ⟨_, rfl⟩
      have B8 : Hid (Blk w8 w.heap.size 72 [.int .i64 o.kind, .int .i64 o.num, .string o.name, .slice Ab o.b.length cb]) := Lib.hid (by rw [hw8]; exact B2.out.alloc _)
      rw [← hw8] at HB3 ⊢
      clear hw8 q0 q1 q2 q3 HO2
      have HL8 := Lib.hid (HL.out.below HB3.out)
      have HLo8 := Lib.hid (HLb.out.below HB3.out)
      have hlt8 : w.heap.size < w8.heap.size := B8.out.lt
      go_wp2_with (first
        | (go_at_call 32; refine (asm_new 0 (by omega) (by omega) w8).mono ?_; rintro e w9 ⟨P, M, rfl, h9, hb9⟩; have HS9 := Lib.hid h9; have HB9 := Lib.hid hb9; clear h9 hb9))
      go_loopw [11] (fun i u => ∃ (k : Nat) (d : AsmD), i = .int .i64 k ∧ k ≤ n ∧ Hid (AsmS w8.heap.size P M k u d) ∧ Hid (AsmI d k) ∧ Hid (Below w8.heap.size w8 u)) (fun i _ => n - (intOf i).toNat)
      case atStart => exact ⟨0, _, rfl, Nat.zero_le _, HS9, Lib.hid (AsmI.new (by omega) (by omega)), HB9⟩
      case round =>
        obtain ⟨k, d, rfl, hk, HS, HI, HB⟩ := hrel
        clear HS9 HB9
        by_cases hlt : k < n
        · have hlti : (k : Int) < n := by omega
          obtain ⟨x, hx⟩ : ∃ x, L[k]? = some x := ⟨_, List.getElem?_eq_getElem (by have := HN.out; omega)⟩
          obtain ⟨ad, Ax, cx, rfl, x0, x1, x2, x3, hxl, hxn⟩ := (HL8.out.below HB.out) k x hx
          have hxm := lightL_op HLL.out (List.mem_of_getElem? hx)
          have HXO := Lib.hid (HOK.out x (List.mem_of_getElem? hx))
          have HXL := Lib.hid hxl
          have HXN := Lib.hid hxn
          clear hx hxl hxn
          go_wp2_with (first
            | (go_at_call 33; refine (asm_call w8.heap.size P M k k d x Ax cx wr HS.out HI.out (by omega) (by omega) HXO.out HXL.out (by omega) HXN.out).mono ?_; rintro e wq ⟨rfl, hq, hbq⟩; have HQ := Lib.hid hq; have HBQ := Lib.hid (HB.out.trans hbq); clear hq hbq))
          go_roundw
          case rel => exact ⟨k + 1, callF d x, by go_num, by omega, HQ, Lib.hid (HI.out.callF HXO.out), HBQ⟩
          case measure => simp [intOf]; omega
        · obtain rfl : k = n := by omega
          clear hlt
          go_upto_region 15 with (first
            | (go_at_call 38; refine (asm_mark w8.heap.size P M k k d twice wr HS.out HI.out.ok (by decide) (by omega)).mono ?_; rintro e wa ⟨rfl, ha, hba⟩; have HSa := Lib.hid ha; have HBa := Lib.hid (HB.out.trans hba); clear ha hba))
          have HIa := Lib.hid (HI.out.markF twice)
          go_upto_region 16 with (first
            | (go_at_call 38; refine (asm_mark w8.heap.size P M (k + 1) k (markF d twice) twice wa HSa.out HIa.out.ok (by decide) (by omega)).mono ?_; rintro e wb ⟨rfl, hb, hbb⟩; have HSb := Lib.hid hb; have HBb := Lib.hid (HBa.out.trans hbb); clear hb hbb))
          have HIb := Lib.hid (HIa.out.markF twice)
          have he2 := markF_twice d twice
          obtain ⟨d2, hd2⟩ : ∃ d2, d2 = markF (markF d twice) twice := ⟨_, rfl⟩
          rw [← hd2] at HSb HIb he2
          have HE2 := Lib.hid he2
          obtain ⟨e2, hee⟩ : ∃ e2, e2 = d2.e := ⟨_, rfl⟩
          rw [← hee] at he2
          have HEE := Lib.hid hee
          clear hd2 hee HS HI HB HSa HIa
          go_upto_region 17 with (first
            | (go_at_call 35; refine (asm_Done w8.heap.size P M _ k d2 wb HSb.out HIb.out.ok (by omega) HIb.out.td).mono ?_; rintro e wc hc; obtain ⟨rfl, hbc⟩ := done_bad HE2.out hc; rw [← HEE.out]; have HSc := Lib.hid (HSb.out.below_ hbc); have HBc := Lib.hid (HBb.out.trans (HSb.out.toB hbc)); clear hc hbc))
          obtain ⟨hh, hhe⟩ : ∃ hh, hh = d2.here % 65536 := ⟨_, rfl⟩
          have HHE := Lib.hid hhe
          clear hhe
          go_upto_region 18 with (first
            | (go_at_call 36; refine (asm_Here w8.heap.size P M _ k d2 wc HSc.out HIb.out.ok).mono ?_; rintro e wd ⟨rfl, hbd⟩; rw [← HHE.out]; have HSd := Lib.hid (HSc.out.below_ hbd); have HBd := Lib.hid (HBc.out.trans (HSc.out.toB hbd)); clear hbd))
          have Bd := Lib.hid (B8.out.below_ HBd.out)
          have q0 : wd.cell? ⟨w.heap.size, 0, none⟩ = some (.int .i64 o.kind) := Bd.out.cell 0
          have q1 : wd.cell? ⟨w.heap.size, 1, none⟩ = some (.int .i64 o.num) := Bd.out.cell 1
          have q2 : wd.cell? ⟨w.heap.size, 2, none⟩ = some (.string o.name) := Bd.out.cell 2
          have q3 : wd.cell? ⟨w.heap.size, 3, none⟩ = some (.slice Ab o.b.length cb) := Bd.out.cell 3
          have HLod := Lib.hid (HLo8.out.below HBd.out)
          go_upto_region 19 with (first
            | (go_at_call 33; refine (asm_call w8.heap.size P M _ k d2 o Ab cb wd HSd.out HIb.out (by omega) (by omega) HO.out HLod.out (by omega) HNIL.out).mono ?_; rintro e wq ⟨rfl, hq, hbq⟩; rw [callF_bad HE2.out] at hq; have HQ := Lib.hid hq; have HBQ := Lib.hid (HBd.out.trans hbq); clear hq hbq))
          clear q0 q1 q2 q3
          go_upto_region 20 with (first
            | (go_at_call 35; refine (asm_Done w8.heap.size P M _ k d2 wq HQ.out HIb.out.ok (by omega) HIb.out.td).mono ?_; rintro e wy hc; obtain ⟨rfl, hbc⟩ := done_bad HE2.out hc; rw [← HEE.out]; have HSy := Lib.hid (HQ.out.below_ hbc); have HBy := Lib.hid (HBQ.out.trans (HQ.out.toB hbc)); clear hc hbc))
          go_wp2_with (first
            | (go_at_call 36; refine (asm_Here w8.heap.size P M _ k d2 wy HSy.out HIb.out.ok).mono ?_; rintro e wx ⟨rfl, hbd⟩; rw [← HHE.out]; have HBx := Lib.hid (HBy.out.trans (HSy.out.toB hbd)); clear hbd)
            | (go_at_call 31; refine (HLV.out _).mono ?_; rintro e wz ⟨rfl, hbz⟩))
          go_ret
          have he3 : (e2 != 0) = true := by simpa using he2
          refine ⟨?_, HB3.out.trans ((HBx.out.trans (hbz.mono HBx.out.size)).mono HB3.out.size)⟩
          show Ending.returned (.bool (e2 != 0)) = _
          rw [he3]
end Go.Proofs.Ytoejmjhfecppcaa
