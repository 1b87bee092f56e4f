/- Texts that are laid together: G19. -/
import Derived.Test.YtokidpajialgbaaQRdC
import Derived.Deep.RegionHeld3
import Derived.Test.YtokidpajialgbaaQG00
import Derived.Deep.AppendLies
import Derived.Deep.RegionLaw
namespace Go.Proofs.Ytokidpajialgbaa
set_option linter.unusedSimpArgs false
set_option linter.unusedVariables false
open Go.RowKit
namespace Rd
def dataM (j : Nat) : RM (List Int) := bind (num j) fun m => take m
def fixed (v : Int) : RM Unit := fun L s => bind (num 4) (fun m => if m = v then ret () else failM 4 s.k) L s
def signedM (m : Nat) : RM (List Int) := loop signed m
end Rd
theorem par_grown {w w' : World} {P R i : Nat} {v : Value} (h : w.cell? ⟨P, i, none⟩ = some v) (hPR : P ≠ R) (hg : w.grownBy w' (some R)) : w'.cell? ⟨P, i, none⟩ = some v := by
  rw [← h]
  unfold World.cell?
  rw [hg.block P (block_lt_of_cell h) (fun e => hPR (Option.some.inj e))]
theorem grownBy_of_drew {w w' : World} {r : Option Nat} (h : w.drew.grownBy w' r) : w.grownBy w' r := ⟨h.os, h.tape, h.output, h.size, h.block⟩
theorem pow256_le {a b : Nat} (h : a ≤ b) : (256 : Int) ^ a ≤ 256 ^ b := by
  have h0 : ∀ k : Nat, (0 : Int) < 256 ^ k := fun k => by
    induction k with
    | zero => decide
    | succ k ih => rw [Int.pow_succ]; omega
  obtain ⟨d, rfl⟩ := Nat.exists_eq_add_of_le h
  induction d with
  | zero => exact Int.le_refl _
  | succ d ih =>
    have h1 := h0 (a + d)
    have h2 := ih (by omega)
    rw [show a + (d + 1) = (a + d) + 1 from rfl, Int.pow_succ]
    omega
theorem par_own {w w' : World} {P i base size n : Nat} {u v : Value} {e : TypeId} {xs : List Value} (h : w.cell? ⟨P, i, none⟩ = some u) (ho : w.ownsRow base e size v n xs) (hg : w.grownBy w' v.ownBlock) (hP : P < base) : w'.cell? ⟨P, i, none⟩ = some u := by
  rw [← h]
  unfold World.cell?
  rw [hg.block P (block_lt_of_cell h) (fun e => by have := (ho.lt P e.symm).1; omega)]
theorem num_range {L : List Int} (hb : Byts L) (j : Nat) (s : Rd.St) (hj : j ≤ 4) : 0 ≤ (Rd.num j L s).1 ∧ (Rd.num j L s).1 < 256 ^ j := by
  have h1 := leVal_range _ (byts_next hb j s)
  have h2 := len_next L j s
  have h3 : (256 : Int) ^ (Rd.nextM j L s).1.length ≤ 256 ^ j := pow256_le h2
  exact ⟨h1.1, Int.lt_of_lt_of_le h1.2 h3⟩
theorem tzData (P R : Nat) (A : Addr) (n c : Nat) (L : List Int) (s : Rd.St) (j : Nat) (w : World) (h : RdIs w R A n c L s) (hP : w.cell? ⟨P, 0, none⟩ = some (.pointer (some ⟨R, 0, none⟩))) (hPR : P ≠ R) (hj : 1 ≤ j) (hj4 : j ≤ 4) :
    Calls Try.prog 89 #[.pointer (some ⟨P, 0, none⟩), .int .i64 j] w (TakP R A n c L w .u8 (Rd.dataM j L s).1 (Rd.dataM j L s).2) := by
  have HN := Lib.hid (fun (u : World) (hu : RdIs u R A n c L s) => rdNumber R A n c L s j u hu hj hj4)
  have HPG := Lib.hid (fun (u u' : World) (h1 : u.cell? ⟨P, 0, none⟩ = some (.pointer (some ⟨R, 0, none⟩))) (hg : u.grownBy u' (some R)) => par_grown h1 hPR hg)
  obtain ⟨hx0, hx1⟩ := num_range h.byt j s hj4
  have hx2 : (256 : Int) ^ j ≤ 4294967296 := pow256_le hj4
  obtain ⟨x, s', hM⟩ : ∃ x s', Rd.num j L s = (x, s') := ⟨_, _, rfl⟩
  rw [show Rd.dataM j L s = Rd.take x L s' by unfold Rd.dataM Rd.bind; rw [hM]]
  rw [hM] at HN hx0 hx1
  have hx3 : x ≤ 1099511627776 := by simp only at hx1; omega
  have HT := Lib.hid (fun (u : World) (hu : RdIs u R A n c L s') => rdTake R A n c L s' x u hu hx3)
  have H := Lib.hid h
  have p0 := hP
  clear h hM hx0 hx1
  go_enter Try.func89, Try.ntmps89
  go_wp2_with fail
  go_region_held3 (fun w' => w'.cell? ⟨P, 0, none⟩ = some (.pointer (some ⟨R, 0, none⟩))) (first | exact p0 | exact p1 | exact p2)
    (first
      | (go_at_call 33; refine (HN.out _ (H.out.below ((Below.refl _ w).drew))).mono ?_; rintro e w1 ⟨rfl, hr1, hg0⟩; have hg1 := grownBy_of_drew hg0; have p1 := HPG.out w w1 p0 hg1; have HR1 := Lib.hid hr1; have HG1 := Lib.hid hg1; clear hr1 hg1 hg0)
      | (go_at_call 32; refine (HT.out w1 HR1.out).mono ?_; rintro e w2 ⟨v, rfl, hv2, hr2, hg2⟩; have p2 := HPG.out _ w2 p1 hg2; have HV2 := Lib.hid hv2; have HR2 := Lib.hid hr2; have HG2 := Lib.hid hg2; clear hv2 hr2 hg2))
  all_goals
    go_wp2_with fail
    go_ret
    exact ⟨_, rfl, HV2.out.mono HG1.out.size, HR2.out, grownBy_trans HG1.out HG2.out⟩
theorem tzFixed (P R : Nat) (A : Addr) (n c : Nat) (L : List Int) (s : Rd.St) (v : Int) (w : World) (h : RdIs w R A n c L s) (hP : w.cell? ⟨P, 0, none⟩ = some (.pointer (some ⟨R, 0, none⟩))) (hPR : P ≠ R) :
    Calls Try.prog 98 #[.pointer (some ⟨P, 0, none⟩), .int .i64 v] w (RdP R A n c L w (Rd.fixed v L s).2 (.tuple #[])) := by
  have HA := Lib.hid (rdAt R A n c L s w h)
  have HN := Lib.hid (rdNumber R A n c L s 4 w h (by omega) (by omega))
  obtain ⟨x, s', hM⟩ : ∃ x s', Rd.num 4 L s = (x, s') := ⟨_, _, rfl⟩
  rw [hM] at HN
  by_cases hxv : x = v
  · rw [show (Rd.fixed v L s).2 = s' by unfold Rd.fixed Rd.bind; rw [hM]; simp only [if_pos hxv]; rfl]
    have hx2 : (x == v) = true := by simpa using hxv
    clear h hM
    subst hxv
    go_enter Try.func98, Try.ntmps98
    go_wp2_with (first
      | (go_at_call 36; refine HA.out.mono ?_; rintro e w1 ⟨rfl, rfl⟩)
      | (go_at_call 33; refine HN.out.mono ?_; rintro e w1 ⟨rfl, hr1, hg1⟩; have HR1 := Lib.hid hr1; have HG1 := Lib.hid hg1; clear hr1 hg1))
    go_end0
    exact ⟨rfl, HR1.out, HG1.out⟩
  · rw [show (Rd.fixed v L s).2 = Rd.fail s' 4 s.k by unfold Rd.fixed Rd.bind; rw [hM]; simp only [if_neg hxv]; rfl]
    have hx2 : (x == v) = false := by simpa using hxv
    have HF := Lib.hid (fun (u : World) (hu : RdIs u R A n c L s') => rdFail R A n c L s' 4 s.k u hu (by decide))
    have HPG := Lib.hid (fun (u' : World) (hg : w.grownBy u' (some R)) => par_grown hP hPR hg)
    clear h hM
    go_enter Try.func98, Try.ntmps98
    go_wp2_with (first
      | (go_at_call 36; refine HA.out.mono ?_; rintro e w1 ⟨rfl, rfl⟩)
      | (go_at_call 33; refine HN.out.mono ?_; rintro e w2 ⟨rfl, hr1, hg1⟩; have p1 := HPG.out _ hg1; have HR1 := Lib.hid hr1; have HG1 := Lib.hid hg1; clear hr1 hg1)
      | (go_at_call 35; refine (HF.out _ HR1.out).mono ?_; rintro e w3 ⟨rfl, hr2, hg2⟩; have HR2 := Lib.hid hr2; have HG2 := Lib.hid hg2; clear hr2 hg2))
    go_end0
    exact ⟨rfl, HR2.out, grownBy_trans HG1.out HG2.out⟩
set_option maxHeartbeats 1000000 in
theorem tzSigned (P R : Nat) (A : Addr) (n c : Nat) (L : List Int) (s : Rd.St) (m : Nat) (w : World) (h : RdIs w R A n c L s) (hP : w.cell? ⟨P, 0, none⟩ = some (.pointer (some ⟨R, 0, none⟩))) (hPR : P ≠ R) (hm : m ≤ 65535) :
    Calls Try.prog 94 #[.pointer (some ⟨P, 0, none⟩), .int .i64 m] w (TakP R A n c L w .i64 (Rd.signedM m L s).1 (Rd.signedM m L s).2) := by
  have HPG := Lib.hid (fun (u u' : World) (h1 : u.cell? ⟨P, 0, none⟩ = some (.pointer (some ⟨R, 0, none⟩))) (hg : u.grownBy u' (some R)) => par_grown h1 hPR hg)
  have hRl := h.lt_
  obtain ⟨T, hT⟩ : ∃ T, T = Rd.signedM m L s := ⟨_, rfl⟩
  have HT : Hid (T = Rd.loop Rd.signed m L s) := hT
  rw [← hT]
  have H := Lib.hid h
  have HP := Lib.hid hP
  have hPl : P < w.heap.size := block_lt_of_cell hP
  clear h hT hP
  go_enter Try.func94, Try.ntmps94
  go_wp2_with fail
  go_loopw [5, 6] (fun v i wr => ∃ (k : Nat) (v' : Value) (acc : List Int) (sk : Rd.St), k ≤ m ∧ i = .int .i64 k ∧ v' = v ∧ Hid (wr.ownsRow w.heap.size 3 1 v' k (acc.map (.int .i64 ·))) ∧ Hid (RdIs wr R A n c L sk) ∧ Hid (w.grownBy wr (some R)) ∧ Hid (wr.cell? ⟨P, 0, none⟩ = some (.pointer (some ⟨R, 0, none⟩))) ∧ Hid (T = (acc ++ (Rd.loop Rd.signed (m - k) L sk).1, (Rd.loop Rd.signed (m - k) L sk).2))) (fun _ i _ => m - (intOf i).toNat)
  case atStart => exact ⟨0, _, [], s, by omega, rfl, rfl, World.ownsRow_nil _ _ _ _, H.out, grownBy_refl w _, HP.out, HT.out⟩
  case round =>
    obtain ⟨k, v, acc, sk, hk, rfl, rfl, HO, HR, HG, HPk, HTk⟩ := hrel
    have p0 := HPk.out
    have HBD := Lib.hid (rdBad R A n c L sk wr HR.out)
    by_cases hlt : k < m
    · obtain ⟨kk, bad⟩ := sk
      cases bad with
      | some q =>
        have hT : T = (acc, ⟨kk, some q⟩) := by
          rw [HTk.out, show m - k = (m - (k + 1)) + 1 by omega]
          simp only [Rd.loop, List.append_nil]
        go_wp2_with (first
          | (go_at_call 114; refine HBD.out.mono ?_; rintro e w1 ⟨rfl, rfl⟩))
        go_ret
        rw [hT]
        exact ⟨_, rfl, row_of_own HO.out rfl, HR.out, HG.out⟩
      | none =>
        have HN := Lib.hid (rdSigned R A n c L ⟨kk, none⟩ wr HR.out)
        obtain ⟨x, hx⟩ : ∃ x, x = (Rd.signed L ⟨kk, none⟩).1 := ⟨_, rfl⟩
        obtain ⟨sk', hsk⟩ : ∃ sk', sk' = (Rd.signed L ⟨kk, none⟩).2 := ⟨_, rfl⟩
        rw [← hx, ← hsk] at HN
        have hsz := HG.out.size
        have HTn : Hid (T = ((acc ++ [x]) ++ (Rd.loop Rd.signed (m - (k + 1)) L sk').1, (Rd.loop Rd.signed (m - (k + 1)) L sk').2)) := by
          show _ = _
          rw [HTk.out, show m - k = (m - (k + 1)) + 1 by omega, hx, hsk]
          simp only [Rd.loop, Rd.bind, Rd.ret, List.append_assoc, List.singleton_append]
        clear hx hsk
        go_wp2_with (first
          | (go_at_call 114; refine HBD.out.mono ?_; rintro e w1 ⟨rfl, rfl⟩)
          | (go_at_call 97; refine HN.out.mono ?_; rintro e w2 ⟨rfl, hr2, hg2⟩; have p2 := HPG.out _ _ p0 hg2; have HO2 := Lib.hid (own_keptR HO.out hg2 hRl); have HR2 := Lib.hid hr2; have HG2 := Lib.hid (grownBy_trans HG.out hg2); have hsz2 := hg2.size; clear hr2 hg2)
          | (at_builtin; refine wpList_appL _ rfl (.tmp 20) (.tmp 26) 23 rfl w.heap.size 3 (.int .i64 0) 1 8 Try.underlying23 infoI64r rfl (by decide) v k _ rfl HO2.out #[.int .i64 x] 1 rfl rfl (by simp [Value.oneCell']) (by decide) (by omega) (by decide) (by omega) ?_; intro g2 c2 w4 hown4 hg4 _; have HR4 := Lib.hid (HR2.out.own HO2.out (by decide) hRl hg4); have HG4 := Lib.hid (grownBy_own HG2.out HO2.out (Nat.le_refl _) hg4); have HP4 := Lib.hid (par_own p2 HO2.out hg4 hPl); have HO4 := Lib.hid hown4; clear hown4 hg4))
        go_roundw
        case rel => exact ⟨k + 1, _, acc ++ [x], sk', by omega, by go_num, rfl, by show World.ownsRow _ _ _ _ _ _ _; rw [List.map_append]; exact HO4.out, HR4.out, HG4.out, HP4.out, HTn.out⟩
        case measure => simp [intOf]; omega
    · obtain rfl : m = k := by omega
      go_wp2_with fail
      go_ret
      have hT := HTk.out
      rw [Nat.sub_self] at hT
      simp only [Rd.loop, Rd.ret, List.append_nil] at hT
      rw [hT]
      exact ⟨_, rfl, row_of_own HO.out rfl, HR.out, HG.out⟩
end Go.Proofs.Ytokidpajialgbaa
namespace Go.Proofs.Ytokidpajialgbaa
open Go.RowKit
theorem step_appL {P : Program} (w : World) {ops : Array Oper} {o : Oper} {a : Act} {K : Act → World → Prop} {Q : Exit → Act → World → Prop} {E : Prop} (hgd : o.guard = none) (s x : Operand) (t : TypeId)
    (ho : o.op = .call { callee := .builtin .append, args := #[s, x], argTypes := #[t, t] })
    (base : Nat) (e : TypeId) (z : Value) (size bytes : Nat) (ht : P.underlying t = some (.slice e)) (hi : (P.info? e).map (fun i => (i.zero, i.size, i.bytes)) = some (some z, size, bytes)) (hzs : z.cells.size = size) (hsz : 0 < size)
    (v : Value) (n : Nat) (xs : List Value) (hs : a.eval s = v) (hown : w.ownsRow base e size v n xs) (cs : Array Value) (m : Nat) (hx : a.eval x = .slice (some ⟨w.heap.size, 0, none⟩) m m) (hcs : cs.size = m * size) (hu : cs.all (·.oneCell') = true)
    (hm : 0 < m) (hbytes : (n + m) * bytes ≤ 140737488355328) (hb1 : 1 ≤ bytes) (hbase : base ≤ w.heap.size)
    (h : ∀ g c w', w'.ownsRow base e size (.slice (some ⟨g, 0, none⟩) (n + m) c) (n + m) (xs ++ cs.toList) → w.grownBy w' v.ownBlock → K (a.put o.dst (.slice (some ⟨g, 0, none⟩) (n + m) c)) w') :
    if Region.wanted o (yielded ops a.tmps) = true then Oper.wp P o a (w.alloc (.cells cs e)) K Q else E := by
  obtain ⟨i0, hi0, hz0, hz1, hz2⟩ := info_parts hi
  refine step_append_lies (w.alloc (.cells cs e)) hgd s x t ho base e i0 z size bytes ht hi0 hz0 hz1 hz2 hzs hsz v n xs hs (hown.alloc _) ⟨w.heap.size, 0, none⟩ m m cs.toList hx (by simpa using hcs) ?_ ?_ hm ?_ hbytes (by simp; omega) _ rfl ?_
  · intro j u hj
    rw [Addr.add_mid, cell_of_row _ _ _ _ _ _ (heap_alloc_new w _)]
    simpa using hj
  · intro u hu'
    obtain ⟨j, hj, rfl⟩ := List.getElem_of_mem hu'
    rw [Array.all_eq_true] at hu
    exact hu j (by simpa using hj)
  · have : n + m ≤ (n + m) * bytes := Nat.le_mul_of_pos_right _ hb1
    unfold maxLen; omega
  · intro g c w' h1 h2 _ _
    exact h g c w' h1 (grownBy_of_alloc h2)
end Go.Proofs.Ytokidpajialgbaa
namespace Go.Proofs.Ytokidpajialgbaa
set_option linter.unusedSimpArgs false
set_option linter.unusedVariables false
open Go.RowKit
/-- pairs of a number and a row of numbers -/
def SymRows (w : World) (base : Nat) (k : IntKind) : List Value → List (Int × List Int) → Prop
  | cs, [] => cs = []
  | cs, (x, p) :: l => ∃ r cs', cs = .int .i64 x :: r :: cs' ∧ RowOf w base r k p ∧ SymRows w base k cs' l
theorem SymRows.snoc {w : World} {base : Nat} {k : IntKind} {cs : List Value} {l : List (Int × List Int)} {x : Int} {r : Value} {p : List Int} (h : SymRows w base k cs l) (hr : RowOf w base r k p) : SymRows w base k (cs ++ [.int .i64 x, r]) (l ++ [(x, p)]) := by
  induction l generalizing cs with
  | nil => obtain rfl : cs = [] := h; exact ⟨r, [], rfl, hr, rfl⟩
  | cons y l ih =>
    obtain ⟨y, q⟩ := y
    obtain ⟨r', cs', rfl, h1, h2⟩ := h
    exact ⟨r', _, rfl, h1, ih h2⟩
theorem SymRows.map {w w' : World} {base base' : Nat} {k : IntKind} {cs : List Value} {l : List (Int × List Int)} (h : SymRows w base k cs l) (hk : ∀ r p, RowOf w base r k p → RowOf w' base' r k p) : SymRows w' base' k cs l := by
  induction l generalizing cs with
  | nil => exact h
  | cons y l ih =>
    obtain ⟨y, q⟩ := y
    obtain ⟨r', cs', rfl, h1, h2⟩ := h
    exact ⟨r', _, rfl, hk _ _ h1, ih h2⟩
theorem SymRows.len {w : World} {base : Nat} {k : IntKind} {cs : List Value} {l : List (Int × List Int)} (h : SymRows w base k cs l) : cs.length = l.length * 2 := by
  induction l generalizing cs with
  | nil => obtain rfl : cs = [] := h; rfl
  | cons y l ih =>
    obtain ⟨y, q⟩ := y
    obtain ⟨r', cs', rfl, h1, h2⟩ := h
    have := ih h2
    simp only [List.length_cons]; omega
/-- a slice of such pairs -/
def SymsOf (w : World) (base : Nat) (e : TypeId) (k : IntKind) (v : Value) (l : List (Int × List Int)) : Prop := ∃ cs, w.ownsRow base e 2 v l.length cs ∧ SymRows w base k cs l
section
variable {w w' : World} {base base' : Nat} {e : TypeId} {k : IntKind} {v : Value} {l : List (Int × List Int)}
theorem syms_nil (w : World) (base : Nat) (e : TypeId) (k : IntKind) : SymsOf w base e k (.slice none 0 0) [] := ⟨[], World.ownsRow_nil _ _ _ _, rfl⟩
theorem SymsOf.one (h : SymsOf w base e k v l) : v.oneCell' = true := by
  obtain ⟨cs, h, -⟩ := h
  exact own_one h
theorem SymsOf.mono (h : SymsOf w base e k v l) (hb : base' ≤ base) : SymsOf w base' e k v l := by
  obtain ⟨cs, h1, h2⟩ := h
  exact ⟨cs, own_mono h1 hb, h2.map fun r p hr => hr.mono hb⟩
theorem SymsOf.below (h : SymsOf w base e k v l) (hb : Below w.heap.size w w') : SymsOf w' base e k v l := by
  obtain ⟨cs, h1, h2⟩ := h
  exact ⟨cs, own_below h1 hb, h2.map fun r p hr => hr.below hb⟩
theorem SymsOf.grown {r : Nat} (h : SymsOf w base e k v l) (hg : w.grownBy w' (some r)) (hr : r < base) : SymsOf w' base e k v l := by
  obtain ⟨cs, h1, h2⟩ := h
  exact ⟨cs, own_grown h1 hg hr, h2.map fun q p hq => hq.grown hg hr⟩
end
theorem cell_alloc {w : World} {a : Addr} {v : Value} (h : w.cell? a = some v) (o : Obj) : (w.alloc o).cell? a = some v := (((Below.refl _ w).alloc (Nat.le_refl _) o).cell (block_lt_of_cell h)).trans h
end Go.Proofs.Ytokidpajialgbaa
namespace Go.Proofs.Ytokidpajialgbaa
set_option linter.unusedSimpArgs false
set_option linter.unusedVariables false
open Go.RowKit
namespace Rd
def symM (p : Int) : RM (Int × List Int) := bind (num 1) fun x => bind (numbers p 2) fun l => ret (x, l)
def symbolsM (m : Nat) (p : Int) : RM (List (Int × List Int)) := loop (symM p) m
end Rd
theorem infoSymR : (Try.prog.info? 48).map (fun i => (i.zero, i.size, i.bytes)) = some (some (.agg #[.int .i64 0, .slice none 0 0]), 2, 32) := by kernel_rfl
theorem buildSym (u : World) (x : Int) (r : Value) : (Instr.buildSlice 25 1 #[(0, .agg #[.int .i64 x, r])]).run Try.prog u = .ok (.slice (some ⟨u.heap.size, 0, none⟩) 1 1) (u.alloc (.cells #[.int .i64 x, r] 48)) := by
  obtain ⟨i0, hi, hz0, hz1, hz2⟩ := info_parts infoSymR
  refine run_buildSlice u 25 48 1 _ #[.int .i64 x, r] i0 _ Try.underlying25 hi hz0 (by rw [hz1]; decide) (by rw [hz1]; decide) ?_
  rw [hz1]
  kernel_rfl
theorem own_form {w : World} {base n size : Nat} {e : TypeId} {v : Value} {xs : List Value} (h : w.ownsRow base e size v n xs) : ∃ B d, v = .slice B n d := by
  rcases h.2 with ⟨rfl, rfl⟩ | ⟨g, c, cur, rfl, _⟩
  · exact ⟨none, 0, rfl⟩
  · exact ⟨_, _, rfl⟩
theorem own_form2 {w : World} {base n size : Nat} {e : TypeId} {v : Value} {xs : List Value} (h : w.ownsRow base e size v n xs) : ∃ B d, v = .slice B n d ∧ n ≤ d := by
  rcases h.2 with ⟨rfl, hx⟩ | ⟨g, c, cur, rfl, _, _, h2, _⟩
  · subst hx; exact ⟨none, 0, rfl, Nat.le_refl _⟩
  · exact ⟨_, _, rfl, h2⟩
theorem SymRows.kept_own {w w' : World} {base b n size : Nat} {e : TypeId} {k : IntKind} {cs ds : List Value} {l : List (Int × List Int)} {v : Value} (h : SymRows w base k cs l) (ho : w.ownsRow b e size v n ds) (he : tyOf k ≠ e) (hg : w.grownBy w' v.ownBlock) : SymRows w' base k cs l :=
  h.map fun r p hr => own_apart2 (e1 := tyOf k) hr ho he hg
/-- symbols were read -/
def SymsP (R : Nat) (A : Addr) (n c : Nat) (L : List Int) (w : World) (e_ : TypeId) (k : IntKind) (l : List (Int × List Int)) (s : Rd.St) (e : Ending) (w' : World) : Prop := ∃ v, e = .returned v ∧ SymsOf w' w.heap.size e_ k v l ∧ RdIs w' R A n c L s ∧ w.grownBy w' (some R)
set_option maxRecDepth 100000 in
set_option maxHeartbeats 4000000 in
theorem tzSymbols (P R : Nat) (A : Addr) (n c : Nat) (L : List Int) (s : Rd.St) (m p : Nat) (w : World) (h : RdIs w R A n c L s) (hP : w.cell? ⟨P, 0, none⟩ = some (.pointer (some ⟨R, 0, none⟩))) (hPR : P ≠ R) (hm : m ≤ 1000) (hp : p ≤ 65535) :
    Calls Try.prog 111 #[.pointer (some ⟨P, 0, none⟩), .int .i64 m, .int .i64 p] w (SymsP R A n c L w 48 .i64 (Rd.symbolsM m p L s).1 (Rd.symbolsM m p L s).2) := by
  have HPG := Lib.hid (fun (u u' : World) (h1 : u.cell? ⟨P, 0, none⟩ = some (.pointer (some ⟨R, 0, none⟩))) (hg : u.grownBy u' (some R)) => par_grown h1 hPR hg)
  have hRl := h.lt_
  obtain ⟨T, hT⟩ : ∃ T, T = Rd.symbolsM m p L s := ⟨_, rfl⟩
  have HT : Hid (T = Rd.loop (Rd.symM p) m L s) := hT
  rw [← hT]
  have H := Lib.hid h
  have HP := Lib.hid hP
  have hPl : P < w.heap.size := block_lt_of_cell hP
  clear h hT hP
  go_enter Try.func111, Try.ntmps111
  go_wp2_with fail
  go_loopw [7, 8] (fun v i wr => ∃ (k : Nat) (v' : Value) (acc : List (Int × List Int)) (cs : List Value) (sk : Rd.St), k ≤ m ∧ i = .int .i64 k ∧ v' = v ∧ Hid (wr.ownsRow w.heap.size 48 2 v' k cs) ∧ Hid (SymRows wr w.heap.size .i64 cs acc) ∧ Hid (RdIs wr R A n c L sk) ∧ Hid (w.grownBy wr (some R)) ∧ Hid (wr.cell? ⟨P, 0, none⟩ = some (.pointer (some ⟨R, 0, none⟩))) ∧ Hid (T = (acc ++ (Rd.loop (Rd.symM p) (m - k) L sk).1, (Rd.loop (Rd.symM p) (m - k) L sk).2))) (fun _ i _ => m - (intOf i).toNat)
  case atStart => exact ⟨0, _, [], [], s, by omega, rfl, rfl, World.ownsRow_nil _ _ _ _, rfl, H.out, grownBy_refl w _, HP.out, HT.out⟩
  case round =>
    obtain ⟨k, v, acc, cs, sk, hk, rfl, rfl, HO, HS, HR, HG, HPk, HTk⟩ := hrel
    have p0 := HPk.out
    have HBD := Lib.hid (rdBad R A n c L sk wr HR.out)
    have HFIN : Hid (∀ (acc : List (Int × List Int)) (sk : Rd.St), T = (acc, sk) → SymRows wr w.heap.size .i64 cs acc → RdIs wr R A n c L sk → SymsP R A n c L w 48 .i64 T.1 T.2 (.returned v) wr) := fun acc sk hT hS hR => by
      rw [hT]
      have hl : acc.length = k := by have := hS.len; have := HO.out.1; omega
      exact ⟨_, rfl, ⟨cs, by rw [hl]; exact HO.out, hS⟩, hR, HG.out⟩
    by_cases hlt : k < m
    · obtain ⟨kk, bad⟩ := sk
      cases bad with
      | some q =>
        have hT : T = (acc, ⟨kk, some q⟩) := by
          rw [HTk.out, show m - k = (m - (k + 1)) + 1 by omega]
          simp only [Rd.loop, List.append_nil]
        have HF := Lib.hid (HFIN.out acc _ hT HS.out HR.out)
        clear hT
        go_wp2_with (first
          | (go_at_call 114; refine HBD.out.mono ?_; rintro e w1 ⟨rfl, rfl⟩))
        go_ret
        exact HF.out
      | none =>
        have HN := Lib.hid (fun u (hu : RdIs u R A n c L ⟨kk, none⟩) => rdNumber R A n c L ⟨kk, none⟩ 1 u hu (by omega) (by omega))
        obtain ⟨x, hx⟩ : ∃ x, x = (Rd.num 1 L ⟨kk, none⟩).1 := ⟨_, rfl⟩
        obtain ⟨s1, hs1⟩ : ∃ s1, s1 = (Rd.num 1 L ⟨kk, none⟩).2 := ⟨_, rfl⟩
        rw [← hx, ← hs1] at HN
        have HN2 := Lib.hid (fun u (hu : RdIs u R A n c L s1) => rdNumbers R A n c L s1 p 2 u hu (by omega) (by omega) (by omega))
        obtain ⟨ps, hps⟩ : ∃ ps, ps = (Rd.numbers p 2 L s1).1 := ⟨_, rfl⟩
        obtain ⟨s2, hs2⟩ : ∃ s2, s2 = (Rd.numbers p 2 L s1).2 := ⟨_, rfl⟩
        rw [← hps, ← hs2] at HN2
        have hsz := HG.out.size
        have HTn : Hid (T = ((acc ++ [(x, ps)]) ++ (Rd.loop (Rd.symM p) (m - (k + 1)) L s2).1, (Rd.loop (Rd.symM p) (m - (k + 1)) L s2).2)) := by
          show _ = _
          rw [HTk.out, show m - k = (m - (k + 1)) + 1 by omega, hps, hs2, hx, hs1]
          simp only [Rd.loop, Rd.symM, Rd.bind, Rd.ret, List.append_assoc, List.singleton_append]
        have HRd := Lib.hid (HR.out.below ((Below.refl _ wr).drew))
        clear hx hs1 hps hs2
        go_wp2_with (first
          | (go_at_call 114; refine HBD.out.mono ?_; rintro e w1 ⟨rfl, rfl⟩))
        go_region_held3 (fun w' => w'.cell? ⟨P, 0, none⟩ = some (.pointer (some ⟨R, 0, none⟩))) (first | exact p0 | exact p2 | exact p3 | exact q3 _ | exact p4)
          (first
            | (go_at_call 33; refine (HN.out _ HRd.out).mono ?_; rintro e w2 ⟨rfl, hr2, hg0⟩; have hg2 := grownBy_of_drew hg0; have p2 := HPG.out wr w2 p0 hg2; have HO2 := Lib.hid (own_keptR HO.out hg2 hRl); have HS2 := Lib.hid (HS.out.map (w' := w2) (base' := w.heap.size) fun r p hr => hr.grown hg2 hRl); have HR2 := Lib.hid hr2; have HG2 := Lib.hid (grownBy_trans HG.out hg2); have hsz2 := hg2.size; clear hr2 hg2 hg0)
            | (go_at_call 91; refine (HN2.out w2 HR2.out).mono ?_; rintro e w3 ⟨r, rfl, hv3, hr3, hg3⟩; obtain ⟨B, d, rfl⟩ := own_form hv3; have p3 := HPG.out w2 w3 p2 hg3; have q3 := fun o => cell_alloc p3 o; have hbs := fun u => buildSym u x (.slice B ps.length d); have HO3 := Lib.hid (own_keptR HO2.out hg3 hRl); have HS3 := Lib.hid (HS2.out.map (w' := w3) (base' := w.heap.size) fun r p hr => hr.grown hg3 hRl); have HV3 := Lib.hid (hv3.mono (show w.heap.size ≤ w2.heap.size by omega)); have HR3 := Lib.hid hr3; have HG3 := Lib.hid (grownBy_trans HG2.out hg3); have hsz3 := hg3.size; clear hr3 hg3 hv3)
            | (refine step_appL w3 rfl (.tmp 22) (.tmp 35) 25 rfl w.heap.size 48 _ 2 32 Try.underlying25 infoSymR rfl (by decide) v k _ rfl HO3.out #[.int .i64 x, .slice B ps.length d] 1 rfl rfl (by simp [Value.oneCell']) (by decide) (by omega) (by decide) (by omega) ?_; intro g2 c2 w4 hown4 hg4; have p4 := par_own p3 HO3.out hg4 hPl; have HR4 := Lib.hid (HR3.out.own HO3.out (by decide) hRl hg4); have HG4 := Lib.hid (grownBy_own HG3.out HO3.out (Nat.le_refl _) hg4); have HS4 := Lib.hid ((HS3.out.snoc (x := x) HV3.out).kept_own HO3.out (by decide) hg4); have HO4 := Lib.hid hown4; clear hown4 hg4))
        all_goals
          go_wp2_with fail
          go_roundw
          case rel => exact ⟨k + 1, _, acc ++ [(x, ps)], _, s2, by omega, by go_num, rfl, HO4.out, HS4.out, HR4.out, HG4.out, p4, HTn.out⟩
          case measure => simp [intOf]; omega
    · obtain rfl : m = k := by omega
      have hT := HTk.out
      rw [Nat.sub_self] at hT
      simp only [Rd.loop, Rd.ret, List.append_nil] at hT
      have HF := Lib.hid (HFIN.out acc _ hT HS.out HR.out)
      clear hT
      go_wp2_with fail
      go_ret
      exact HF.out
end Go.Proofs.Ytokidpajialgbaa
