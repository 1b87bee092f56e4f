/- tzx.parser: symbols. -/
import Derived.Test.YtaipkoeiahjghaaRdE
namespace Go.Proofs.Ytaipkoeiahjghaa
set_option linter.unusedSimpArgs false
set_option linter.unusedVariables false
open Go.RowKit
namespace Rd
def symM (p : Int) : RM (Int × List Int) := bind (num 1) fun x => bind (numbers p 2) fun l => ret (x, l)
def symbolsM (m : Nat) (p : Int) : RM (List (Int × List Int)) := loop (symM p) m
end Rd
theorem infoSymR : (Try.prog.info? 85).map (fun i => (i.zero, i.size, i.bytes)) = some (some (.agg #[.int .i64 0, .slice none 0 0]), 2, 32) := by kernel_rfl
theorem buildSym (u : World) (x : Int) (r : Value) : (Instr.buildSlice 27 1 #[(0, .agg #[.int .i64 x, r])]).run Try.prog u = .ok (.slice (some ⟨u.heap.size, 0, none⟩) 1 1) (u.alloc (.cells #[.int .i64 x, r] 85)) := by
  obtain ⟨i0, hi, hz0, hz1, hz2⟩ := info_parts infoSymR
  refine run_buildSlice u 27 85 1 _ #[.int .i64 x, r] i0 _ Try.underlying27 hi hz0 (by rw [hz1]; decide) (by rw [hz1]; decide) ?_
  rw [hz1]
  kernel_rfl
theorem own_form {w : World} {base n size : Nat} {e : TypeId} {v : Value} {xs : List Value} (h : w.ownsRow base e size v n xs) : ∃ B d, v = .slice B n d := by
  rcases h.2 with ⟨rfl, rfl⟩ | ⟨g, c, cur, rfl, _⟩
  · exact ⟨none, 0, rfl⟩
  · exact ⟨_, _, rfl⟩
theorem own_form2 {w : World} {base n size : Nat} {e : TypeId} {v : Value} {xs : List Value} (h : w.ownsRow base e size v n xs) : ∃ B d, v = .slice B n d ∧ n ≤ d := by
  rcases h.2 with ⟨rfl, hx⟩ | ⟨g, c, cur, rfl, _, _, h2, _⟩
  · subst hx; exact ⟨none, 0, rfl, Nat.le_refl _⟩
  · exact ⟨_, _, rfl, h2⟩
theorem SymRows.kept_own {w w' : World} {base b n size : Nat} {e : TypeId} {k : IntKind} {cs ds : List Value} {l : List (Int × List Int)} {v : Value} (h : SymRows w base k cs l) (ho : w.ownsRow b e size v n ds) (he : tyOf k ≠ e) (hg : w.grownBy w' v.ownBlock) : SymRows w' base k cs l :=
  h.map fun r p hr => own_apart2 (e1 := tyOf k) hr ho he hg
/-- symbols were read -/
def SymsP (R : Nat) (A : Addr) (n c : Nat) (L : List Int) (w : World) (e_ : TypeId) (k : IntKind) (l : List (Int × List Int)) (s : Rd.St) (e : Ending) (w' : World) : Prop := ∃ v, e = .returned v ∧ SymsOf w' w.heap.size e_ k v l ∧ RdIs w' R A n c L s ∧ w.grownBy w' (some R)
set_option maxHeartbeats 4000000 in
theorem tzSymbols (P R : Nat) (A : Addr) (n c : Nat) (L : List Int) (s : Rd.St) (m p : Nat) (w : World) (h : RdIs w R A n c L s) (hP : w.cell? ⟨P, 0, none⟩ = some (.pointer (some ⟨R, 0, none⟩))) (hPR : P ≠ R) (hm : m ≤ 1000) (hp : p ≤ 65535) :
    Calls Try.prog 47 #[.pointer (some ⟨P, 0, none⟩), .int .i64 m, .int .i64 p] w (SymsP R A n c L w 85 .i64 (Rd.symbolsM m p L s).1 (Rd.symbolsM m p L s).2) := by
  have HPG := Lib.hid (fun (u u' : World) (h1 : u.cell? ⟨P, 0, none⟩ = some (.pointer (some ⟨R, 0, none⟩))) (hg : u.grownBy u' (some R)) => par_grown h1 hPR hg)
  have hRl := h.lt_
  obtain ⟨T, hT⟩ : ∃ T, T = Rd.symbolsM m p L s := ⟨_, rfl⟩
  have HT : Hid (T = Rd.loop (Rd.symM p) m L s) := hT
  rw [← hT]
  have H := Lib.hid h
  have HP := Lib.hid hP
  have hPl : P < w.heap.size := block_lt_of_cell hP
  clear h hT hP
  go_enter Try.func47, Try.ntmps47
  go_wp2_with fail
  go_loopw [7, 8] (fun v i wr => ∃ (k : Nat) (v' : Value) (acc : List (Int × List Int)) (cs : List Value) (sk : Rd.St), k ≤ m ∧ i = .int .i64 k ∧ v' = v ∧ Hid (wr.ownsRow w.heap.size 85 2 v' k cs) ∧ Hid (SymRows wr w.heap.size .i64 cs acc) ∧ Hid (RdIs wr R A n c L sk) ∧ Hid (w.grownBy wr (some R)) ∧ Hid (wr.cell? ⟨P, 0, none⟩ = some (.pointer (some ⟨R, 0, none⟩))) ∧ Hid (T = (acc ++ (Rd.loop (Rd.symM p) (m - k) L sk).1, (Rd.loop (Rd.symM p) (m - k) L sk).2))) (fun _ i _ => m - (intOf i).toNat)
  case atStart => exact ⟨0, _, [], [], s, by omega, rfl, rfl, World.ownsRow_nil _ _ _ _, rfl, H.out, grownBy_refl w _, HP.out, HT.out⟩
  case round =>
    obtain ⟨k, v, acc, cs, sk, hk, rfl, rfl, HO, HS, HR, HG, HPk, HTk⟩ := hrel
    have p0 := HPk.out
    have HBD := Lib.hid (rdBad R A n c L sk wr HR.out)
    have HFIN : Hid (∀ (acc : List (Int × List Int)) (sk : Rd.St), T = (acc, sk) → SymRows wr w.heap.size .i64 cs acc → RdIs wr R A n c L sk → SymsP R A n c L w 85 .i64 T.1 T.2 (.returned v) wr) := fun acc sk hT hS hR => by
      rw [hT]
      have hl : acc.length = k := by have := hS.len; have := HO.out.1; omega
      exact ⟨_, rfl, ⟨cs, by rw [hl]; exact HO.out, hS⟩, hR, HG.out⟩
    by_cases hlt : k < m
    · obtain ⟨kk, bad⟩ := sk
      cases bad with
      | some q =>
        have hT : T = (acc, ⟨kk, some q⟩) := by
          rw [HTk.out, show m - k = (m - (k + 1)) + 1 by omega]
          simp only [Rd.loop, List.append_nil]
        have HF := Lib.hid (HFIN.out acc _ hT HS.out HR.out)
        clear hT
        go_wp2_with (first
          | (go_at_call 50; refine HBD.out.mono ?_; rintro e w1 ⟨rfl, rfl⟩))
        go_ret
        exact HF.out
      | none =>
        have HN := Lib.hid (fun u (hu : RdIs u R A n c L ⟨kk, none⟩) => rdNumber R A n c L ⟨kk, none⟩ 1 u hu (by omega) (by omega))
        obtain ⟨x, hx⟩ : ∃ x, x = (Rd.num 1 L ⟨kk, none⟩).1 := ⟨_, rfl⟩
        obtain ⟨s1, hs1⟩ : ∃ s1, s1 = (Rd.num 1 L ⟨kk, none⟩).2 := ⟨_, rfl⟩
        rw [← hx, ← hs1] at HN
        have HN2 := Lib.hid (fun u (hu : RdIs u R A n c L s1) => rdNumbers R A n c L s1 p 2 u hu (by omega) (by omega) (by omega))
        obtain ⟨ps, hps⟩ : ∃ ps, ps = (Rd.numbers p 2 L s1).1 := ⟨_, rfl⟩
        obtain ⟨s2, hs2⟩ : ∃ s2, s2 = (Rd.numbers p 2 L s1).2 := ⟨_, rfl⟩
        rw [← hps, ← hs2] at HN2
        have hsz := HG.out.size
        have HTn : Hid (T = ((acc ++ [(x, ps)]) ++ (Rd.loop (Rd.symM p) (m - (k + 1)) L s2).1, (Rd.loop (Rd.symM p) (m - (k + 1)) L s2).2)) := by
          show _ = _
          rw [HTk.out, show m - k = (m - (k + 1)) + 1 by omega, hps, hs2, hx, hs1]
          simp only [Rd.loop, Rd.symM, Rd.bind, Rd.ret, List.append_assoc, List.singleton_append]
        have HRd := Lib.hid (HR.out.below ((Below.refl _ wr).drew))
        clear hx hs1 hps hs2
        go_wp2_with (first
          | (go_at_call 50; refine HBD.out.mono ?_; rintro e w1 ⟨rfl, rfl⟩))
        go_region_held3 (fun w' => w'.cell? ⟨P, 0, none⟩ = some (.pointer (some ⟨R, 0, none⟩))) (first | exact p0 | exact p2 | exact p3 | exact q3 _ | exact p4)
          (first
            | (go_at_call 23; refine (HN.out _ HRd.out).mono ?_; rintro e w2 ⟨rfl, hr2, hg0⟩; have hg2 := grownBy_of_drew hg0; have p2 := HPG.out wr w2 p0 hg2; have HO2 := Lib.hid (own_keptR HO.out hg2 hRl); have HS2 := Lib.hid (HS.out.map (w' := w2) (base' := w.heap.size) fun r p hr => hr.grown hg2 hRl); have HR2 := Lib.hid hr2; have HG2 := Lib.hid (grownBy_trans HG.out hg2); have hsz2 := hg2.size; clear hr2 hg2 hg0)
            | (go_at_call 36; refine (HN2.out w2 HR2.out).mono ?_; rintro e w3 ⟨r, rfl, hv3, hr3, hg3⟩; obtain ⟨B, d, rfl⟩ := own_form hv3; have p3 := HPG.out w2 w3 p2 hg3; have q3 := fun o => cell_alloc p3 o; have hbs := fun u => buildSym u x (.slice B ps.length d); have HO3 := Lib.hid (own_keptR HO2.out hg3 hRl); have HS3 := Lib.hid (HS2.out.map (w' := w3) (base' := w.heap.size) fun r p hr => hr.grown hg3 hRl); have HV3 := Lib.hid (hv3.mono (show w.heap.size ≤ w2.heap.size by omega)); have HR3 := Lib.hid hr3; have HG3 := Lib.hid (grownBy_trans HG2.out hg3); have hsz3 := hg3.size; clear hr3 hg3 hv3)
            | (refine step_appL w3 rfl (.tmp 22) (.tmp 35) 27 rfl w.heap.size 85 _ 2 32 Try.underlying27 infoSymR rfl (by decide) v k _ rfl HO3.out #[.int .i64 x, .slice B ps.length d] 1 rfl rfl (by simp [Value.oneCell']) (by decide) (by omega) (by decide) (by omega) ?_; intro g2 c2 w4 hown4 hg4; have p4 := par_own p3 HO3.out hg4 hPl; have HR4 := Lib.hid (HR3.out.own HO3.out (by decide) hRl hg4); have HG4 := Lib.hid (grownBy_own HG3.out HO3.out (Nat.le_refl _) hg4); have HS4 := Lib.hid ((HS3.out.snoc (x := x) HV3.out).kept_own HO3.out (by decide) hg4); have HO4 := Lib.hid hown4; clear hown4 hg4))
        all_goals
          go_wp2_with fail
          go_roundw
          case rel => exact ⟨k + 1, _, acc ++ [(x, ps)], _, s2, by omega, by go_num, rfl, HO4.out, HS4.out, HR4.out, HG4.out, p4, HTn.out⟩
          case measure => simp [intOf]; omega
    · obtain rfl : m = k := by omega
      have hT := HTk.out
      rw [Nat.sub_self] at hT
      simp only [Rd.loop, Rd.ret, List.append_nil] at hT
      have HF := Lib.hid (HFIN.out acc _ hT HS.out HR.out)
      clear hT
      go_wp2_with fail
      go_ret
      exact HF.out
end Go.Proofs.Ytaipkoeiahjghaa
