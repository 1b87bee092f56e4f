/- Texts that are laid together: G20. -/
import Derived.Test.YtokidpajialgbaaQG19
import Derived.Deep.RegionWith
import Derived.Deep.DeepCutAuto
import Derived.Test.YtokidpajialgbaaQG16
namespace Go.Proofs.Ytokidpajialgbaa
set_option linter.unusedSimpArgs false
set_option linter.unusedVariables false
open Go.RowKit
namespace Rd
def repM (below : Int) : RM (Int × Int) := fun L s => bind (num 1) (fun x => bind (num 2) fun t => bind (if below ≤ x then failM 5 s.k else ret ()) fun _ => ret (x, t)) L s
def repsM (m : Nat) (below : Int) : RM (List (Int × Int)) := loop (repM below) m
end Rd
/-- a pair's cells -/
def repRow (p : Int × Int) : List Value := [.int .i64 p.1, .int .i64 p.2]
theorem infoRepR : (Try.prog.info? 88).map (fun i => (i.zero, i.size, i.bytes)) = some (some (.agg #[.int .i64 0, .int .i64 0]), 2, 16) := by kernel_rfl
theorem infoRepG : (Try.prog.info? 88).map (·.size) = some 2 := by kernel_rfl
theorem buildRep (u : World) (x t : Int) : (Instr.buildSlice 26 1 #[(0, .agg #[.int .i64 x, .int .i64 t])]).run Try.prog u = .ok (.slice (some ⟨u.heap.size, 0, none⟩) 1 1) (u.alloc (.cells #[.int .i64 x, .int .i64 t] 88)) := by
  obtain ⟨i0, hi, hz0, hz1, hz2⟩ := info_parts infoRepR
  refine run_buildSlice u 26 88 1 _ #[.int .i64 x, .int .i64 t] i0 _ Try.underlying26 hi hz0 (by rw [hz1]; decide) (by rw [hz1]; decide) ?_
  rw [hz1]
  kernel_rfl
/-- a slice of pairs of numbers, of its own memory -/
def RepsOf (w : World) (base : Nat) (v : Value) (l : List (Int × Int)) : Prop := w.ownsRow base 88 2 v l.length (l.flatMap repRow)
def RepP (R : Nat) (A : Addr) (n c : Nat) (L : List Int) (w : World) (l : List (Int × Int)) (s : Rd.St) (e : Ending) (w' : World) : Prop := ∃ v, e = .returned v ∧ RepsOf w' w.heap.size v l ∧ RdIs w' R A n c L s ∧ w.grownBy w' (some R)
theorem flat2_len (l : List (Int × Int)) : (l.flatMap repRow).length = l.length * 2 := by
  induction l with
  | nil => rfl
  | cons y l ih => simp only [List.flatMap_cons, List.length_append, List.length_cons, ih, repRow, List.length_nil]; omega
/-- one pair has been read: it lies in a variable -/
structure RepVar (w wr wx : World) (R P V : Nat) (A : Addr) (n c : Nat) (L : List Int) (s2 : Rd.St) (x t : Int) : Prop where
  blk : Blk wx V 88 [.int .i64 x, .int .i64 t]
  lo : w.heap.size ≤ V
  rd : RdIs wx R A n c L s2
  gr : wr.grownBy wx (some R)
  par : wx.cell? ⟨P, 0, none⟩ = some (.pointer (some ⟨R, 0, none⟩))
theorem RepVar.b0 {w wr wx : World} {R P V : Nat} {A : Addr} {n c : Nat} {L : List Int} {s2 : Rd.St} {x t : Int} (h : RepVar w wr wx R P V A n c L s2 x t) : wx.cell? ⟨V, 0, none⟩ = some (.int .i64 x) := h.blk.cell 0
theorem RepVar.b1 {w wr wx : World} {R P V : Nat} {A : Addr} {n c : Nat} {L : List Int} {s2 : Rd.St} {x t : Int} (h : RepVar w wr wx R P V A n c L s2 x t) : wx.cell? ⟨V, 1, none⟩ = some (.int .i64 t) := h.blk.cell 1
theorem RepVar.of_alloc {w wr w3 : World} {R P : Nat} {A : Addr} {n c : Nat} {L : List Int} {s2 : Rd.St} {x t : Int} (hr : RdIs w3 R A n c L s2) (hg : wr.grownBy w3 (some R)) (hp : w3.cell? ⟨P, 0, none⟩ = some (.pointer (some ⟨R, 0, none⟩))) (hw : w.heap.size ≤ w3.heap.size) : RepVar w wr (w3.alloc (.cells #[.int .i64 x, .int .i64 t] 88)) R P w3.heap.size A n c L s2 x t :=
  ⟨Blk.new w3 _ [.int .i64 x, .int .i64 t], hw, hr.below ((Below.refl _ _).alloc (Nat.le_refl _) _), grownBy_trans hg (grownBy_below ((Below.refl _ _).alloc (Nat.le_refl _) _)), cell_alloc hp _⟩
theorem RepVar.of_set {w wr w3 : World} {R P V : Nat} {A : Addr} {n c : Nat} {L : List Int} {s2 : Rd.St} {x t : Int} (hr : RdIs w3 R A n c L s2) (hg : wr.grownBy w3 (some R)) (hv : Blk w3 V 88 [.int .i64 0, .int .i64 0]) (hw : w.heap.size ≤ wr.heap.size ∧ wr.heap.size ≤ V) (hR : R < w.heap.size) (hp : w3.cell? ⟨P, 0, none⟩ = some (.pointer (some ⟨R, 0, none⟩))) (hP : P < w.heap.size) (_ : True) :
    RepVar w wr ((w3.setCell ⟨V, 0, none⟩ (.int .i64 x)).setCell ⟨V, 1, none⟩ (.int .i64 t)) R P V A n c L s2 x t := by
  have hg2 : w3.grownBy ((w3.setCell ⟨V, 0, none⟩ (.int .i64 x)).setCell ⟨V, 1, none⟩ (.int .i64 t)) (some V) := grownBy_setCell (grownBy_setCell (grownBy_refl w3 _) 0 _) 1 _
  exact ⟨(hv.set_ 0 _).set_ 1 _, by omega, hr.grown hv (by decide) (by omega) hg2, grownBy_trans_other hg hg2 hw.2, par_grown hp (by omega) hg2⟩
set_option maxRecDepth 100000 in
set_option maxHeartbeats 8000000 in
theorem tzReps (P R : Nat) (A : Addr) (n c : Nat) (L : List Int) (s : Rd.St) (m : Nat) (below : Int) (w : World) (h : RdIs w R A n c L s) (hP : w.cell? ⟨P, 0, none⟩ = some (.pointer (some ⟨R, 0, none⟩))) (hPR : P ≠ R) (hm : m ≤ 4294967295) :
    Calls Try.prog 112 #[.pointer (some ⟨P, 0, none⟩), .int .i64 m, .int .i64 below] w (RepP R A n c L w (Rd.repsM m below L s).1 (Rd.repsM m below L s).2) := by
  have HPG := Lib.hid (fun (u u' : World) (h1 : u.cell? ⟨P, 0, none⟩ = some (.pointer (some ⟨R, 0, none⟩))) (hg : u.grownBy u' (some R)) => par_grown h1 hPR hg)
  have hRl := h.lt_
  obtain ⟨T, hT⟩ : ∃ T, T = Rd.repsM m below L s := ⟨_, rfl⟩
  have HT : Hid (T = Rd.loop (Rd.repM below) m L s) := hT
  rw [← hT]
  have H := Lib.hid h
  have HP := Lib.hid hP
  have hPl : P < w.heap.size := block_lt_of_cell hP
  clear h hT hP
  go_enter Try.func112, Try.ntmps112
  go_wp2_with fail
  go_loopw [7, 8] (fun v i wr => ∃ (k : Nat) (v' : Value) (acc : List (Int × Int)) (sk : Rd.St), k ≤ m ∧ i = .int .i64 k ∧ v' = v ∧ Hid (wr.ownsRow w.heap.size 88 2 v' k (acc.flatMap repRow)) ∧ Hid (RdIs wr R A n c L sk) ∧ Hid (w.grownBy wr (some R)) ∧ Hid (wr.cell? ⟨P, 0, none⟩ = some (.pointer (some ⟨R, 0, none⟩))) ∧ Hid (T = (acc ++ (Rd.loop (Rd.repM below) (m - k) L sk).1, (Rd.loop (Rd.repM below) (m - k) L sk).2))) (fun _ i _ => m - (intOf i).toNat)
  case atStart => exact ⟨0, _, [], s, by omega, rfl, rfl, World.ownsRow_nil _ _ _ _, H.out, grownBy_refl w _, HP.out, HT.out⟩
  case round =>
    obtain ⟨k, v, acc, sk, hk, rfl, rfl, HO, HR, HG, HPk, HTk⟩ := hrel
    have p0 := HPk.out
    have HBD := Lib.hid (rdBad R A n c L sk wr HR.out)
    have HFIN : Hid (∀ (acc2 : List (Int × Int)) (sk : Rd.St), acc2 = acc → T = (acc2, sk) → RdIs wr R A n c L sk → RepP R A n c L w T.1 T.2 (.returned v) wr) := fun acc2 sk e hT hR => by
      subst e
      rw [hT]
      have hl : acc2.length = k := by
        have h1 := HO.out.1
        rw [flat2_len] at h1
        omega
      exact ⟨_, rfl, by unfold RepsOf; rw [hl]; exact HO.out, hR, HG.out⟩
    by_cases hlt : k < m
    · obtain ⟨kk, bad⟩ := sk
      cases bad with
      | some q =>
        have hT : T = (acc, ⟨kk, some q⟩) := by
          rw [HTk.out, show m - k = (m - (k + 1)) + 1 by omega]
          simp only [Rd.loop, List.append_nil]
        have HF := Lib.hid (HFIN.out acc _ rfl hT HR.out)
        clear hT
        go_wp2_with (first
          | (go_at_call 114; refine HBD.out.mono ?_; rintro e w1 ⟨rfl, rfl⟩))
        go_ret
        exact HF.out
      | none =>
        have HA := Lib.hid (rdAt R A n c L ⟨kk, none⟩ wr HR.out)
        have HN := Lib.hid (fun u (hu : RdIs u R A n c L ⟨kk, none⟩) => rdNumber R A n c L ⟨kk, none⟩ 1 u hu (by omega) (by omega))
        obtain ⟨x, hx⟩ : ∃ x, x = (Rd.num 1 L ⟨kk, none⟩).1 := ⟨_, rfl⟩
        obtain ⟨s1, hs1⟩ : ∃ s1, s1 = (Rd.num 1 L ⟨kk, none⟩).2 := ⟨_, rfl⟩
        rw [← hx, ← hs1] at HN
        have HN2 := Lib.hid (fun u (hu : RdIs u R A n c L s1) => rdNumber R A n c L s1 2 u hu (by omega) (by omega))
        obtain ⟨t, ht⟩ : ∃ t, t = (Rd.num 2 L s1).1 := ⟨_, rfl⟩
        obtain ⟨s2, hs2⟩ : ∃ s2, s2 = (Rd.num 2 L s1).2 := ⟨_, rfl⟩
        rw [← ht, ← hs2] at HN2
        have hsz := HG.out.size
        obtain ⟨s3, hs3⟩ : ∃ s3, s3 = if below ≤ x then Rd.fail s2 5 kk else s2 := ⟨_, rfl⟩
        have HS3 := Lib.hid hs3
        have HTn : Hid (T = ((acc ++ [(x, t)]) ++ (Rd.loop (Rd.repM below) (m - (k + 1)) L s3).1, (Rd.loop (Rd.repM below) (m - (k + 1)) L s3).2)) := by
          show _ = _
          rw [HTk.out, show m - k = (m - (k + 1)) + 1 by omega, hs3, ht, hs2, hx, hs1]
          simp only [Rd.loop, Rd.repM, Rd.bind, Rd.ret, List.append_assoc, List.singleton_append]
          split <;> rfl
        have HRd := Lib.hid (HR.out.below ((Below.refl _ wr).drew))
        have hRb := hRl
        have hbs := fun u => buildRep u x t
        clear hx hs1 ht hs2 hs3
        go_upto_region 6 with (first
          | (go_at_call 114; refine HBD.out.mono ?_; rintro e w1 ⟨rfl, rfl⟩)
          | (go_at_call 36; refine HA.out.mono ?_; rintro e w1 ⟨rfl, rfl⟩))
        go_cut [10] from 11 to 53 (fun y wx => ∃ V : Nat, y = .pointer (some ⟨V, 0, none⟩) ∧ RepVar w wr wx R P V A n c L s2 x t)
        case first =>
          have q0 := fun o => cell_alloc p0 o
          go_region_held3 (fun w' => w'.cell? ⟨P, 0, none⟩ = some (.pointer (some ⟨R, 0, none⟩))) (first | exact p0 | exact p2 | exact p3 | exact q0 _ | exact q2 _ | exact q3 _ | exact e3 _ (by omega) _ _) (first
            | (go_at_call_of 33 (Value.int .i64 1); refine (HN.out _ (by first | exact HRd.out | exact (HR.out.below ((Below.refl _ _).alloc (Nat.le_refl _) _)).below ((Below.refl _ _).drew))).mono ?_; rintro e w2 ⟨rfl, hr2, hg0⟩
               have hg2 : wr.grownBy w2 (some R) := by first | exact grownBy_of_drew hg0 | exact grownBy_of_alloc (grownBy_of_drew hg0)
               have p2 := HPG.out wr w2 p0 hg2
               have HR2 := Lib.hid hr2; have HG2 := Lib.hid hg2
               have hsz2 := hg2.size
               try have V2 : Blk w2 wr.heap.size 88 [.int .i64 0, .int .i64 0] := (Blk.new wr 88 [.int .i64 0, .int .i64 0]).grown (grownBy_of_drew hg0) (by intro e; simp at e; omega)
               have q2 := fun o => cell_alloc p2 o
               clear hr2 hg2 hg0)
            | (go_at_call_of 33 (Value.int .i64 2); refine (HN2.out _ (by first | exact HR2.out | exact HR2.out.below ((Below.refl _ _).alloc (Nat.le_refl _) _))).mono ?_; rintro e w3 ⟨rfl, hr3, hg0⟩
               have hg3 : w2.grownBy w3 (some R) := by first | exact hg0 | exact grownBy_of_alloc hg0
               have p3 := HPG.out w2 w3 p2 hg3
               have HR3 := Lib.hid hr3; have HG3 := Lib.hid (grownBy_trans HG2.out hg3)
               have hsz3 := hg3.size
               try have V3 : Blk w3 wr.heap.size 88 [.int .i64 0, .int .i64 0] := V2.grown hg3 (by intro e; simp at e; omega)
               try have V3 : Blk w3 w2.heap.size 88 [.int .i64 0, .int .i64 0] := (Blk.new w2 88 [.int .i64 0, .int .i64 0]).grown hg0 (by intro e; simp at e; omega)
               try have v30 := V3.cell 0
               try have v31 := V3.cell 1
               try have f30 := V3.frozen 0
               try have f31 := V3.frozen 1
               have q3 := fun o => cell_alloc p3 o
               have e3 : ∀ V, P ≠ V → ∀ u v, ((w3.setCell ⟨V, 0, none⟩ u).setCell ⟨V, 1, none⟩ v).cell? ⟨P, 0, none⟩ = some (.pointer (some ⟨R, 0, none⟩)) := fun V hV u v => ((World.cell?_of_block (Below.heap_setCell _ ⟨V, 1, none⟩ v P hV)).trans (World.cell?_of_block (Below.heap_setCell w3 ⟨V, 0, none⟩ u P hV))).trans p3
               clear hr3 hg3 hg0))
          all_goals
            go_wp2_with fail
            go_meet
            first
              | exact ⟨_, rfl, RepVar.of_alloc HR3.out HG3.out p3 (by omega)⟩
              | exact ⟨_, rfl, RepVar.of_set HR3.out HG3.out V3 (by omega) hRl p3 hPl trivial⟩
        case rest =>
          obtain ⟨V, rfl, hv⟩ := hcut
          have HVV := Lib.hid hv
          have HO4 := Lib.hid (own_keptR HO.out hv.gr hRl)
          have HG4 := Lib.hid (grownBy_trans HG.out hv.gr)
          have b0 := hv.b0
          have b1 := hv.b1
          have p4 := hv.par
          have hsz4 := hv.gr.size
          have HF := Lib.hid (rdFail R A n c L s2 5 kk _ hv.rd (by decide))
          clear hv
          by_cases hb : below ≤ x
          · have hs3 : s3 = Rd.fail s2 5 kk := by rw [HS3.out, if_pos hb]
            subst hs3
            go_wp2_with (first
              | (go_at_call 35; refine HF.out.mono ?_; rintro e w5 ⟨rfl, hr5, hg5⟩; have b05 : w5.cell? ⟨V, 0, none⟩ = some (.int .i64 x) := par_grown b0 (by have := HVV.out.lo; omega) hg5; have b15 : w5.cell? ⟨V, 1, none⟩ = some (.int .i64 t) := par_grown b1 (by have := HVV.out.lo; omega) hg5; have p5 := HPG.out _ _ p4 hg5; have HO5 := Lib.hid (own_keptR HO4.out hg5 hRl); have HR5 := Lib.hid hr5; have HG5 := Lib.hid (grownBy_trans HG4.out hg5); have hsz5 := hg5.size; clear hr5 hg5)
              | (at_builtin; refine wpList_appL _ rfl (.tmp 50) (.tmp 52) 26 rfl w.heap.size 88 _ 2 16 Try.underlying26 infoRepR rfl (by decide) v k _ rfl HO5.out #[.int .i64 x, .int .i64 t] 1 rfl rfl (by simp [Value.oneCell']) (by decide) (by omega) (by decide) (by omega) ?_; intro g2 c2 w6 hown6 hg6 _; have HR6 := Lib.hid (HR5.out.own HO5.out (by decide) hRl hg6); have HG6 := Lib.hid (grownBy_own HG5.out HO5.out (Nat.le_refl _) hg6); have HP6 := Lib.hid (par_own p5 HO5.out hg6 hPl); have HO6 := Lib.hid hown6; clear hown6 hg6))
            go_roundw
            case rel => exact ⟨k + 1, _, acc ++ [(x, t)], _, by omega, by go_num, rfl, by show World.ownsRow _ _ _ _ _ _ _; rw [List.flatMap_append]; exact HO6.out, HR6.out, HG6.out, HP6.out, HTn.out⟩
            case measure => simp [intOf]; omega
          · have hs3 : s3 = s2 := by rw [HS3.out, if_neg hb]
            subst hs3
            have HR5 := Lib.hid HVV.out.rd
            go_wp2_with (first
              | (at_builtin; refine wpList_appL _ rfl (.tmp 50) (.tmp 52) 26 rfl w.heap.size 88 _ 2 16 Try.underlying26 infoRepR rfl (by decide) v k _ rfl HO4.out #[.int .i64 x, .int .i64 t] 1 rfl rfl (by simp [Value.oneCell']) (by decide) (by omega) (by decide) (by omega) ?_; intro g2 c2 w6 hown6 hg6 _; have HR6 := Lib.hid (HR5.out.own HO4.out (by decide) hRl hg6); have HG6 := Lib.hid (grownBy_own HG4.out HO4.out (Nat.le_refl _) hg6); have HP6 := Lib.hid (par_own p4 HO4.out hg6 hPl); have HO6 := Lib.hid hown6; clear hown6 hg6))
            go_roundw
            case rel => exact ⟨k + 1, _, acc ++ [(x, t)], _, by omega, by go_num, rfl, by show World.ownsRow _ _ _ _ _ _ _; rw [List.flatMap_append]; exact HO6.out, HR6.out, HG6.out, HP6.out, HTn.out⟩
            case measure => simp [intOf]; omega
    · obtain rfl : m = k := by omega
      have hT := HTk.out
      rw [Nat.sub_self] at hT
      simp only [Rd.loop, Rd.ret, List.append_nil] at hT
      have HF := Lib.hid (HFIN.out acc _ rfl hT HR.out)
      clear hT
      go_wp2_with fail
      go_ret
      exact HF.out
end Go.Proofs.Ytokidpajialgbaa
namespace Go.Proofs.Ytokidpajialgbaa
set_option linter.unusedSimpArgs false
set_option linter.unusedVariables false
open Go.RowKit
theorem u8_and_one (x : Int) (h0 : 0 ≤ x) (h1 : x ≤ 255) : bits .and .u8 x 1 = x % 2 := by
  rw [u8_and x 1 h0 (by omega) (by omega) (by omega)]
  have : x.toNat &&& (1 : Int).toNat = x.toNat % 2 := Nat.and_two_pow_sub_one_eq_mod x.toNat 1
  rw [this]; omega
namespace Tz
/-- bit k of bytes, the highest one of each first -/
def bit (D : List Int) (k : Nat) : Int := D.getD (k / 8) 0 / 2 ^ (7 - k % 8) % 2
/-- so many bits from one on, as a number -/
def sym (D : List Int) (from_ : Nat) : Nat → Int
  | 0 => 0
  | k + 1 => 2 * sym D from_ k + bit D (from_ + k)
theorem bit_range (D : List Int) (k : Nat) : 0 ≤ bit D k ∧ bit D k ≤ 1 := by unfold bit; omega
theorem sym_range (D : List Int) (f k : Nat) : 0 ≤ sym D f k ∧ sym D f k < 2 ^ k := by
  induction k with
  | zero => simp [sym]
  | succ k ih =>
    have := bit_range D (f + k)
    simp only [sym, Int.pow_succ]
    omega
/-- how many bits tell one of so many -/
def Fewest (n : Int) (b : Nat) : Prop := (∀ j, j < b → 1 < n ∧ (2 : Int) ^ j < n) ∧ ¬ (1 < n ∧ (2 : Int) ^ b < n)
theorem fewest_one {n : Int} {a b : Nat} (ha : Fewest n a) (hb : Fewest n b) : a = b := by
  rcases Nat.lt_trichotomy a b with h | h | h
  · exact absurd (hb.1 a h) ha.2
  · exact h
  · exact absurd (ha.1 b h) hb.2
theorem or_bit (V b : Int) (v0 : 0 ≤ V) (v1 : V ≤ 1000) (b0 : 0 ≤ b) (b1 : b ≤ 1) : bits BinOp.or IntKind.i64 (V * 2) b = 2 * V + b := by
  obtain ⟨a, rfl⟩ := Int.eq_ofNat_of_zero_le v0
  obtain ⟨c, rfl⟩ := Int.eq_ofNat_of_zero_le b0
  have e : ((a : Int) * 2) = ((a * 2 : Nat) : Int) := by simp
  rw [e, i64_or_nat _ _ (by omega) (by omega)]
  have h := Nat.shiftLeft_add_eq_or_of_lt (show c < 2 ^ 1 by omega) a
  rw [Nat.shiftLeft_eq] at h
  have h2 : a * 2 ||| c = a * 2 + c := by simpa using h.symm
  rw [h2]
  simp
  omega
end Tz
/-- how many, as a number of symbols -/
theorem many_any (n : Int) (w : World) : Calls Try.prog 68 #[.int .i64 n] w fun e w' => e = .returned (.int .i64 (if n = 0 then 256 else n)) ∧ w = w' := by
  by_cases h : n = 0
  · subst h
    go_enter Try.func68, Try.ntmps68
    go_wp2_with fail
    go_ret
    exact ⟨rfl, rfl⟩
  · have hz : (n == 0) = false := by simpa using h
    rw [if_neg h]
    go_enter Try.func68, Try.ntmps68
    go_wp2_with fail
    go_ret
    exact ⟨rfl, rfl⟩
theorem refMany_any (n : Int) (w : World) : Calls Try.prog 107 #[.int .i64 n] w fun e w' => e = .returned (.int .i64 (if n = 0 then 256 else n)) ∧ w = w' := by
  by_cases h : n = 0
  · subst h
    go_enter Try.func107, Try.ntmps107
    go_wp2_with fail
    go_ret
    exact ⟨rfl, rfl⟩
  · have hz : (n == 0) = false := by simpa using h
    rw [if_neg h]
    go_enter Try.func107, Try.ntmps107
    go_wp2_with fail
    go_ret
    exact ⟨rfl, rfl⟩
theorem pow_wrap (b : Nat) (hb : b ≤ 21) : wrap64 ((2 : Int) ^ b) = 2 ^ b ∧ (1 : Int) ≤ 2 ^ b ∧ (2 : Int) ^ b ≤ 2097152 := by
  have h : (1 : Int) ≤ 2 ^ b ∧ (2 : Int) ^ b ≤ 2097152 := by
    constructor
    · have : (1 : Nat) ≤ 2 ^ b := Nat.one_le_two_pow
      exact_mod_cast this
    · have h1 : (2 : Nat) ^ b ≤ 2 ^ 21 := Nat.pow_le_pow_right (by decide) hb
      have h3 : (2 : Nat) ^ 21 = 2097152 := by decide
      rw [h3] at h1
      have h4 : ((2 ^ b : Nat) : Int) ≤ ((2097152 : Nat) : Int) := Int.ofNat_le.2 h1
      rw [Int.natCast_pow] at h4
      exact h4
  exact ⟨by unfold wrap64; omega, h⟩
theorem few_lt {n : Int} {b : Nat} (hn : n ≤ 1000000) (h : ∀ j, j < b → 1 < n ∧ (2 : Int) ^ j < n) : b ≤ 20 := by
  rcases Nat.lt_or_ge b 21 with h1 | h1
  · omega
  · have := (h 20 (by omega)).2
    have e : (2 : Int) ^ 20 = 1048576 := by decide
    omega
theorem bits_any (n : Int) (w : World) (hn : n ≤ 1000000) : Calls Try.prog 70 #[.int .i64 n] w fun e w' => ∃ b : Nat, e = .returned (.int .i64 b) ∧ Tz.Fewest n b ∧ w = w' := by
  go_enter Try.func70, Try.ntmps70
  go_wp2_with fail
  go_loopw [3] (fun b wr => ∃ (k : Nat), b = .int .i64 k ∧ Hid (∀ j, j < k → 1 < n ∧ (2 : Int) ^ j < n) ∧ w = wr) (fun b _ => 21 - (intOf b).toNat)
  case atStart => exact ⟨0, rfl, fun j hj => by omega, rfl⟩
  case round =>
    obtain ⟨k, rfl, HK, rfl⟩ := hrel
    have hk := few_lt hn HK.out
    obtain ⟨p1, p2, p3⟩ := pow_wrap k (by omega)
    by_cases h1 : 1 < n
    · by_cases h2 : (2 : Int) ^ k < n
      · have HK2 : Hid (∀ j, j < k + 1 → 1 < n ∧ (2 : Int) ^ j < n) := fun j hj => by
          rcases Nat.lt_or_ge j k with h | h
          · exact HK.out j h
          · obtain rfl : j = k := by omega
            exact ⟨h1, h2⟩
        go_wp2_with fail
        go_roundw
        case rel => exact ⟨k + 1, by go_num, HK2, trivial⟩
        case measure => simp [intOf]; omega
      · have HF : Hid (Tz.Fewest n k) := ⟨HK.out, fun h => h2 h.2⟩
        go_wp2_with fail
        go_ret
        exact ⟨k, rfl, HF.out, rfl⟩
    · have HF : Hid (Tz.Fewest n k) := ⟨HK.out, fun h => h1 h.1⟩
      go_wp2_with fail
      go_ret
      exact ⟨k, rfl, HF.out, rfl⟩
theorem refBits_any (n : Int) (w : World) (hn : n ≤ 1000000) : Calls Try.prog 108 #[.int .i64 n] w fun e w' => ∃ b : Nat, e = .returned (.int .i64 b) ∧ Tz.Fewest n b ∧ w = w' := by
  go_enter Try.func108, Try.ntmps108
  go_wp2_with fail
  go_loopw [3, 4] (fun b p wr => ∃ (k : Nat) (y : Int), b = .int .i64 k ∧ p = .int .i64 y ∧ Hid (y = 2 ^ k) ∧ Hid (∀ j, j < k → 1 < n ∧ (2 : Int) ^ j < n) ∧ w = wr) (fun b _ _ => 21 - (intOf b).toNat)
  case atStart => exact ⟨0, 1, rfl, rfl, rfl, fun j hj => by omega, rfl⟩
  case round =>
    obtain ⟨k, y, rfl, rfl, HY, HK, rfl⟩ := hrel
    have hk := few_lt hn HK.out
    obtain ⟨p1, p2, p3⟩ := pow_wrap k (by omega)
    rw [← HY.out] at p1 p2 p3
    have HY2 : Hid (2 * y = 2 ^ (k + 1)) := by show _ = _; rw [HY.out, Int.pow_succ]; omega
    by_cases h2 : y < n
    · have HK2 : Hid (∀ j, j < k + 1 → 1 < n ∧ (2 : Int) ^ j < n) := fun j hj => by
        rcases Nat.lt_or_ge j k with h | h
        · exact HK.out j h
        · obtain rfl : j = k := by omega
          exact ⟨by omega, by rw [← HY.out]; exact h2⟩
      go_wp2_with fail
      go_roundw
      case rel => exact ⟨k + 1, 2 * y, by go_num, rfl, HY2, HK2, trivial⟩
      case measure => simp [intOf]; omega
    · have HF : Hid (Tz.Fewest n k) := ⟨HK.out, fun h => h2 (by rw [HY.out]; exact h.2)⟩
      go_wp2_with fail
      go_ret
      exact ⟨k, rfl, HF.out, rfl⟩
end Go.Proofs.Ytokidpajialgbaa
