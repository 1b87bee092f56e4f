/- tzx.parser: data, fixed, signed. -/
import Derived.Test.YtaipkoeiahjghaaRdC
import Derived.Deep.RegionHeld3
namespace Go.Proofs.Ytaipkoeiahjghaa
set_option linter.unusedSimpArgs false
set_option linter.unusedVariables false
open Go.RowKit
namespace Rd
def dataM (j : Nat) : RM (List Int) := bind (num j) fun m => take m
def fixed (v : Int) : RM Unit := fun L s => bind (num 4) (fun m => if m = v then ret () else failM 4 s.k) L s
def signedM (m : Nat) : RM (List Int) := loop signed m
end Rd
theorem par_grown {w w' : World} {P R i : Nat} {v : Value} (h : w.cell? ⟨P, i, none⟩ = some v) (hPR : P ≠ R) (hg : w.grownBy w' (some R)) : w'.cell? ⟨P, i, none⟩ = some v := by
  rw [← h]
  unfold World.cell?
  rw [hg.block P (block_lt_of_cell h) (fun e => hPR (Option.some.inj e))]
theorem grownBy_of_drew {w w' : World} {r : Option Nat} (h : w.drew.grownBy w' r) : w.grownBy w' r := ⟨h.os, h.tape, h.output, h.size, h.block⟩
theorem pow256_le {a b : Nat} (h : a ≤ b) : (256 : Int) ^ a ≤ 256 ^ b := by
  have h0 : ∀ k : Nat, (0 : Int) < 256 ^ k := fun k => by
    induction k with
    | zero => decide
    | succ k ih => rw [Int.pow_succ]; omega
  obtain ⟨d, rfl⟩ := Nat.exists_eq_add_of_le h
  induction d with
  | zero => exact Int.le_refl _
  | succ d ih =>
    have h1 := h0 (a + d)
    have h2 := ih (by omega)
    rw [show a + (d + 1) = (a + d) + 1 from rfl, Int.pow_succ]
    omega
theorem par_own {w w' : World} {P i base size n : Nat} {u v : Value} {e : TypeId} {xs : List Value} (h : w.cell? ⟨P, i, none⟩ = some u) (ho : w.ownsRow base e size v n xs) (hg : w.grownBy w' v.ownBlock) (hP : P < base) : w'.cell? ⟨P, i, none⟩ = some u := by
  rw [← h]
  unfold World.cell?
  rw [hg.block P (block_lt_of_cell h) (fun e => by have := (ho.lt P e.symm).1; omega)]
theorem num_range {L : List Int} (hb : Byts L) (j : Nat) (s : Rd.St) (hj : j ≤ 4) : 0 ≤ (Rd.num j L s).1 ∧ (Rd.num j L s).1 < 256 ^ j := by
  have h1 := leVal_range _ (byts_next hb j s)
  have h2 := len_next L j s
  have h3 : (256 : Int) ^ (Rd.nextM j L s).1.length ≤ 256 ^ j := pow256_le h2
  exact ⟨h1.1, Int.lt_of_lt_of_le h1.2 h3⟩
theorem tzData (P R : Nat) (A : Addr) (n c : Nat) (L : List Int) (s : Rd.St) (j : Nat) (w : World) (h : RdIs w R A n c L s) (hP : w.cell? ⟨P, 0, none⟩ = some (.pointer (some ⟨R, 0, none⟩))) (hPR : P ≠ R) (hj : 1 ≤ j) (hj4 : j ≤ 4) :
    Calls Try.prog 34 #[.pointer (some ⟨P, 0, none⟩), .int .i64 j] w (TakP R A n c L w .u8 (Rd.dataM j L s).1 (Rd.dataM j L s).2) := by
  have HN := Lib.hid (fun (u : World) (hu : RdIs u R A n c L s) => rdNumber R A n c L s j u hu hj hj4)
  have HPG := Lib.hid (fun (u u' : World) (h1 : u.cell? ⟨P, 0, none⟩ = some (.pointer (some ⟨R, 0, none⟩))) (hg : u.grownBy u' (some R)) => par_grown h1 hPR hg)
  obtain ⟨hx0, hx1⟩ := num_range h.byt j s hj4
  have hx2 : (256 : Int) ^ j ≤ 4294967296 := pow256_le hj4
  obtain ⟨x, s', hM⟩ : ∃ x s', Rd.num j L s = (x, s') := ⟨_, _, rfl⟩
  rw [show Rd.dataM j L s = Rd.take x L s' by unfold Rd.dataM Rd.bind; rw [hM]]
  rw [hM] at HN hx0 hx1
  have hx3 : x ≤ 1099511627776 := by simp only at hx1; omega
  have HT := Lib.hid (fun (u : World) (hu : RdIs u R A n c L s') => rdTake R A n c L s' x u hu hx3)
  have H := Lib.hid h
  have p0 := hP
  clear h hM hx0 hx1
  go_enter Try.func34, Try.ntmps34
  go_wp2_with fail
  go_region_held3 (fun w' => w'.cell? ⟨P, 0, none⟩ = some (.pointer (some ⟨R, 0, none⟩))) (first | exact p0 | exact p1 | exact p2)
    (first
      | (go_at_call 23; refine (HN.out _ (H.out.below ((Below.refl _ w).drew))).mono ?_; rintro e w1 ⟨rfl, hr1, hg0⟩; have hg1 := grownBy_of_drew hg0; have p1 := HPG.out w w1 p0 hg1; have HR1 := Lib.hid hr1; have HG1 := Lib.hid hg1; clear hr1 hg1 hg0)
      | (go_at_call 22; refine (HT.out w1 HR1.out).mono ?_; rintro e w2 ⟨v, rfl, hv2, hr2, hg2⟩; have p2 := HPG.out _ w2 p1 hg2; have HV2 := Lib.hid hv2; have HR2 := Lib.hid hr2; have HG2 := Lib.hid hg2; clear hv2 hr2 hg2))
  all_goals
    go_wp2_with fail
    go_ret
    exact ⟨_, rfl, HV2.out.mono HG1.out.size, HR2.out, grownBy_trans HG1.out HG2.out⟩
theorem tzFixed (P R : Nat) (A : Addr) (n c : Nat) (L : List Int) (s : Rd.St) (v : Int) (w : World) (h : RdIs w R A n c L s) (hP : w.cell? ⟨P, 0, none⟩ = some (.pointer (some ⟨R, 0, none⟩))) (hPR : P ≠ R) :
    Calls Try.prog 43 #[.pointer (some ⟨P, 0, none⟩), .int .i64 v] w (RdP R A n c L w (Rd.fixed v L s).2 (.tuple #[])) := by
  have HA := Lib.hid (rdAt R A n c L s w h)
  have HN := Lib.hid (rdNumber R A n c L s 4 w h (by omega) (by omega))
  obtain ⟨x, s', hM⟩ : ∃ x s', Rd.num 4 L s = (x, s') := ⟨_, _, rfl⟩
  rw [hM] at HN
  by_cases hxv : x = v
  · rw [show (Rd.fixed v L s).2 = s' by unfold Rd.fixed Rd.bind; rw [hM]; simp only [if_pos hxv]; rfl]
    have hx2 : (x == v) = true := by simpa using hxv
    clear h hM
    subst hxv
    go_enter Try.func43, Try.ntmps43
    go_wp2_with (first
      | (go_at_call 26; refine HA.out.mono ?_; rintro e w1 ⟨rfl, rfl⟩)
      | (go_at_call 23; refine HN.out.mono ?_; rintro e w1 ⟨rfl, hr1, hg1⟩; have HR1 := Lib.hid hr1; have HG1 := Lib.hid hg1; clear hr1 hg1))
    go_end0
    exact ⟨rfl, HR1.out, HG1.out⟩
  · rw [show (Rd.fixed v L s).2 = Rd.fail s' 4 s.k by unfold Rd.fixed Rd.bind; rw [hM]; simp only [if_neg hxv]; rfl]
    have hx2 : (x == v) = false := by simpa using hxv
    have HF := Lib.hid (fun (u : World) (hu : RdIs u R A n c L s') => rdFail R A n c L s' 4 s.k u hu (by decide))
    have HPG := Lib.hid (fun (u' : World) (hg : w.grownBy u' (some R)) => par_grown hP hPR hg)
    clear h hM
    go_enter Try.func43, Try.ntmps43
    go_wp2_with (first
      | (go_at_call 26; refine HA.out.mono ?_; rintro e w1 ⟨rfl, rfl⟩)
      | (go_at_call 23; refine HN.out.mono ?_; rintro e w2 ⟨rfl, hr1, hg1⟩; have p1 := HPG.out _ hg1; have HR1 := Lib.hid hr1; have HG1 := Lib.hid hg1; clear hr1 hg1)
      | (go_at_call 25; refine (HF.out _ HR1.out).mono ?_; rintro e w3 ⟨rfl, hr2, hg2⟩; have HR2 := Lib.hid hr2; have HG2 := Lib.hid hg2; clear hr2 hg2))
    go_end0
    exact ⟨rfl, HR2.out, grownBy_trans HG1.out HG2.out⟩
set_option maxHeartbeats 1000000 in
theorem tzSigned (P R : Nat) (A : Addr) (n c : Nat) (L : List Int) (s : Rd.St) (m : Nat) (w : World) (h : RdIs w R A n c L s) (hP : w.cell? ⟨P, 0, none⟩ = some (.pointer (some ⟨R, 0, none⟩))) (hPR : P ≠ R) (hm : m ≤ 65535) :
    Calls Try.prog 39 #[.pointer (some ⟨P, 0, none⟩), .int .i64 m] w (TakP R A n c L w .i64 (Rd.signedM m L s).1 (Rd.signedM m L s).2) := by
  have HPG := Lib.hid (fun (u u' : World) (h1 : u.cell? ⟨P, 0, none⟩ = some (.pointer (some ⟨R, 0, none⟩))) (hg : u.grownBy u' (some R)) => par_grown h1 hPR hg)
  have hRl := h.lt_
  obtain ⟨T, hT⟩ : ∃ T, T = Rd.signedM m L s := ⟨_, rfl⟩
  have HT : Hid (T = Rd.loop Rd.signed m L s) := hT
  rw [← hT]
  have H := Lib.hid h
  have HP := Lib.hid hP
  have hPl : P < w.heap.size := block_lt_of_cell hP
  clear h hT hP
  go_enter Try.func39, Try.ntmps39
  go_wp2_with fail
  go_loopw [5, 6] (fun v i wr => ∃ (k : Nat) (v' : Value) (acc : List Int) (sk : Rd.St), k ≤ m ∧ i = .int .i64 k ∧ v' = v ∧ Hid (wr.ownsRow w.heap.size 3 1 v' k (acc.map (.int .i64 ·))) ∧ Hid (RdIs wr R A n c L sk) ∧ Hid (w.grownBy wr (some R)) ∧ Hid (wr.cell? ⟨P, 0, none⟩ = some (.pointer (some ⟨R, 0, none⟩))) ∧ Hid (T = (acc ++ (Rd.loop Rd.signed (m - k) L sk).1, (Rd.loop Rd.signed (m - k) L sk).2))) (fun _ i _ => m - (intOf i).toNat)
  case atStart => exact ⟨0, _, [], s, by omega, rfl, rfl, World.ownsRow_nil _ _ _ _, H.out, grownBy_refl w _, HP.out, HT.out⟩
  case round =>
    obtain ⟨k, v, acc, sk, hk, rfl, rfl, HO, HR, HG, HPk, HTk⟩ := hrel
    have p0 := HPk.out
    have HBD := Lib.hid (rdBad R A n c L sk wr HR.out)
    by_cases hlt : k < m
    · obtain ⟨kk, bad⟩ := sk
      cases bad with
      | some q =>
        have hT : T = (acc, ⟨kk, some q⟩) := by
          rw [HTk.out, show m - k = (m - (k + 1)) + 1 by omega]
          simp only [Rd.loop, List.append_nil]
        go_wp2_with (first
          | (go_at_call 50; refine HBD.out.mono ?_; rintro e w1 ⟨rfl, rfl⟩))
        go_ret
        rw [hT]
        exact ⟨_, rfl, row_of_own HO.out rfl, HR.out, HG.out⟩
      | none =>
        have HN := Lib.hid (rdSigned R A n c L ⟨kk, none⟩ wr HR.out)
        obtain ⟨x, hx⟩ : ∃ x, x = (Rd.signed L ⟨kk, none⟩).1 := ⟨_, rfl⟩
        obtain ⟨sk', hsk⟩ : ∃ sk', sk' = (Rd.signed L ⟨kk, none⟩).2 := ⟨_, rfl⟩
        rw [← hx, ← hsk] at HN
        have hsz := HG.out.size
        have HTn : Hid (T = ((acc ++ [x]) ++ (Rd.loop Rd.signed (m - (k + 1)) L sk').1, (Rd.loop Rd.signed (m - (k + 1)) L sk').2)) := by
          show _ = _
          rw [HTk.out, show m - k = (m - (k + 1)) + 1 by omega, hx, hsk]
          simp only [Rd.loop, Rd.bind, Rd.ret, List.append_assoc, List.singleton_append]
        clear hx hsk
        go_wp2_with (first
          | (go_at_call 50; refine HBD.out.mono ?_; rintro e w1 ⟨rfl, rfl⟩)
          | (go_at_call 42; refine HN.out.mono ?_; rintro e w2 ⟨rfl, hr2, hg2⟩; have p2 := HPG.out _ _ p0 hg2; have HO2 := Lib.hid (own_keptR HO.out hg2 hRl); have HR2 := Lib.hid hr2; have HG2 := Lib.hid (grownBy_trans HG.out hg2); have hsz2 := hg2.size; clear hr2 hg2)
          | (at_builtin; refine wpList_appL _ rfl (.tmp 20) (.tmp 26) 22 rfl w.heap.size 3 (.int .i64 0) 1 8 Try.underlying22 infoI64r rfl (by decide) v k _ rfl HO2.out #[.int .i64 x] 1 rfl rfl (by simp [Value.oneCell']) (by decide) (by omega) (by decide) (by omega) ?_; intro g2 c2 w4 hown4 hg4 _; have HR4 := Lib.hid (HR2.out.own HO2.out (by decide) hRl hg4); have HG4 := Lib.hid (grownBy_own HG2.out HO2.out (Nat.le_refl _) hg4); have HP4 := Lib.hid (par_own p2 HO2.out hg4 hPl); have HO4 := Lib.hid hown4; clear hown4 hg4))
        go_roundw
        case rel => exact ⟨k + 1, _, acc ++ [x], sk', by omega, by go_num, rfl, by show World.ownsRow _ _ _ _ _ _ _; rw [List.map_append]; exact HO4.out, HR4.out, HG4.out, HP4.out, HTn.out⟩
        case measure => simp [intOf]; omega
    · obtain rfl : m = k := by omega
      go_wp2_with fail
      go_ret
      have hT := HTk.out
      rw [Nat.sub_self] at hT
      simp only [Rd.loop, Rd.ret, List.append_nil] at hT
      rw [hT]
      exact ⟨_, rfl, row_of_own HO.out rfl, HR.out, HG.out⟩
end Go.Proofs.Ytaipkoeiahjghaa
