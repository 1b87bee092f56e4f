/- tzx.parser: items, by either of the two closures. Written by gen_rdi.py. -/
import Derived.Test.YtokidpajialgbaaQRdH
namespace Go.Proofs.Ytokidpajialgbaa
set_option linter.unusedSimpArgs false
set_option linter.unusedVariables false
open Go.RowKit
namespace Rd
def itemM (f : RM Int) : RM (Int × List Int) := bind f fun x => bind (dataM 1) fun l => ret (x, l)
def itemsM (f : RM Int) (at_ : Int) : RM (List (Int × List Int)) := bind (num 2) fun n L s1 => bind (num 1) (fun many => bind (loop (itemM f) many.toNat) fun l _ s3 => if (s3.k : Int) - s1.k = n then (l, s3) else (l, fail s3 4 at_)) L s1
end Rd
theorem infoItemR : (Try.prog.info? 46).map (fun i => (i.zero, i.size, i.bytes)) = some (some (.agg #[.int .i64 0, .slice none 0 0]), 2, 32) := by kernel_rfl
theorem infoItemS : (Try.prog.info? 46).map (·.size) = some 2 := by kernel_rfl
theorem buildItem (u : World) (x : Int) (r : Value) : (Instr.buildSlice 24 1 #[(0, .agg #[.int .i64 x, r])]).run Try.prog u = .ok (.slice (some ⟨u.heap.size, 0, none⟩) 1 1) (u.alloc (.cells #[.int .i64 x, r] 46)) := by
  obtain ⟨i0, hi, hz0, hz1, hz2⟩ := info_parts infoItemR
  refine run_buildSlice u 24 46 1 _ #[.int .i64 x, r] i0 _ Try.underlying24 hi hz0 (by rw [hz1]; decide) (by rw [hz1]; decide) ?_
  rw [hz1]
  kernel_rfl
theorem own_blk_ne {w w' : World} {V base size n : Nat} {e t : TypeId} {v : Value} {xs cs : List Value} (ho : w.ownsRow base e size v n xs) (hb : Blk w V t cs) (he : e ≠ t) (hg : w.grownBy w' (some V)) : w'.ownsRow base e size v n xs := by
  refine ho.kept hg ?_
  rcases ho.2 with ⟨rfl, _⟩ | ⟨g, c, cur, rfl, _, e3, _⟩
  · exact .inl rfl
  · refine .inr fun h => ?_
    have : g = V := by simpa [Value.ownBlock] using h
    subst this
    unfold Blk at hb
    rw [e3] at hb
    injection hb with hb
    injection hb with _ hb
    exact he hb
/-- an item's text has been stored -/
structure ItemIn (w u : World) (R P V : Nat) (A : Addr) (n c : Nat) (L : List Int) (sb : Rd.St) (v : Value) (k : Nat) (cs : List Value) (acc : List (Int × List Int)) (r : Value) (ps : List Int) : Prop where
  own : u.ownsRow w.heap.size 46 2 v k cs
  sy : SymRows u w.heap.size .u8 cs acc
  row : RowOf u w.heap.size r .u8 ps
  rd : RdIs u R A n c L sb
  gr : w.grownBy u (some R)
  par : u.cell? ⟨P, 0, none⟩ = some (.pointer (some ⟨R, 0, none⟩))
  clo : u.cell? ⟨V, 0, none⟩ = some (.pointer (some ⟨R, 0, none⟩))
theorem item_stored {w wr w5 : World} {R P V X : Nat} {A : Addr} {n c : Nat} {L : List Int} {sb : Rd.St} {v : Value} {k : Nat} {cs : List Value} {acc : List (Int × List Int)} {r : Value} {ps : List Int} {x : Int} {q : Value}
    (hx : Blk w5 X 46 [.int .i64 x, q]) (ho : w5.ownsRow w.heap.size 46 2 v k cs) (hl : ∀ g, v.ownBlock = some g → g < wr.heap.size) (hs : SymRows w5 w.heap.size .u8 cs acc) (hr : RowOf w5 w.heap.size r .u8 ps) (hrd : RdIs w5 R A n c L sb) (hg : w.grownBy w5 (some R))
    (hp : w5.cell? ⟨P, 0, none⟩ = some (.pointer (some ⟨R, 0, none⟩))) (hv : w5.cell? ⟨V, 0, none⟩ = some (.pointer (some ⟨R, 0, none⟩))) (hwX : w.heap.size ≤ X) (hX : wr.heap.size ≤ X) (hRl : R < w.heap.size) (hPl : P < w.heap.size) (hVl : V < w.heap.size) (u : Value) :
    ItemIn w (w5.setCell ⟨X, 1, none⟩ u) R P V A n c L sb v k cs acc r ps := by
  have hg2 : w5.grownBy (w5.setCell ⟨X, 1, none⟩ u) (some X) := grownBy_setCell (grownBy_refl w5 _) 1 u
  exact ⟨ho.kept hg2 (.inr fun e => by have := hl X e; omega), hs.map fun r p hr => own_blk_ne (e := 5) hr hx (by decide) hg2, own_blk_ne (e := 5) hr hx (by decide) hg2, hrd.grown hx (by decide) (by omega) hg2, grownBy_trans_other hg hg2 hwX, par_grown hp (by omega) hg2, par_grown hv (by omega) hg2⟩
theorem cloS (R V : Nat) (A : Addr) (n c : Nat) (L : List Int) (s : Rd.St) (w : World) (h : RdIs w R A n c L s) (hV : w.cell? ⟨V, 0, none⟩ = some (.pointer (some ⟨R, 0, none⟩))) :
    Calls Try.prog 96 #[.pointer (some ⟨V, 0, none⟩)] w (RdP R A n c L w (Rd.signed L s).2 (.int .i64 (Rd.signed L s).1)) := by
  have HN := Lib.hid (rdSigned R A n c L s w h)
  clear h
  go_enter Try.func96, Try.ntmps96
  go_wp2_with (first
    | (go_at_call 97; refine HN.out.mono ?_; rintro e w2 ⟨rfl, hr2, hg2⟩; have HR2 := Lib.hid hr2; have HG2 := Lib.hid hg2; clear hr2 hg2))
  go_ret
  exact ⟨rfl, HR2.out, HG2.out⟩
set_option maxRecDepth 100000 in
set_option maxHeartbeats 4000000 in
theorem tzItemsS (P R V : Nat) (A : Addr) (n c : Nat) (L : List Int) (s : Rd.St) (at_ : Int) (w : World) (h : RdIs w R A n c L s) (hP : w.cell? ⟨P, 0, none⟩ = some (.pointer (some ⟨R, 0, none⟩))) (hPR : P ≠ R) (hV : w.cell? ⟨V, 0, none⟩ = some (.pointer (some ⟨R, 0, none⟩))) (hVR : V ≠ R) :
    Calls Try.prog 95 #[.pointer (some ⟨P, 0, none⟩), .int .i64 at_, .func (.func 96) #[] #[.pointer (some ⟨V, 0, none⟩)]] w (SymsP R A n c L w 46 .u8 (Rd.itemsM Rd.signed at_ L s).1 (Rd.itemsM Rd.signed at_ L s).2) := by
  have HPG := Lib.hid (fun (u u' : World) (h1 : u.cell? ⟨P, 0, none⟩ = some (.pointer (some ⟨R, 0, none⟩))) (hg : u.grownBy u' (some R)) => par_grown h1 hPR hg)
  have HVG := Lib.hid (fun (u u' : World) (h1 : u.cell? ⟨V, 0, none⟩ = some (.pointer (some ⟨R, 0, none⟩))) (hg : u.grownBy u' (some R)) => par_grown h1 hVR hg)
  have hRl := h.lt_
  have hbig := h.big
  have hby := h.byt
  obtain ⟨T, hT⟩ : ∃ T, T = Rd.itemsM Rd.signed at_ L s := ⟨_, rfl⟩
  have HT0 := Lib.hid hT
  rw [← hT]
  have HN2 := Lib.hid (rdNumber R A n c L s 2 w h (by omega) (by omega))
  obtain ⟨hx0, hx1⟩ := num_range h.byt 2 s (by omega)
  obtain ⟨nn, s1, hM1⟩ : ∃ nn s1, Rd.num 2 L s = (nn, s1) := ⟨_, _, rfl⟩
  rw [hM1] at HN2 hx0 hx1
  simp only at hx0 hx1
  obtain ⟨hm0, hm1⟩ := num_range h.byt 1 s1 (by omega)
  obtain ⟨mm, s2, hM2⟩ : ∃ mm s2, Rd.num 1 L s1 = (mm, s2) := ⟨_, _, rfl⟩
  have HM2 := Lib.hid hM2
  rw [hM2] at hm0 hm1
  simp only at hm0 hm1
  obtain ⟨m, rfl⟩ := Int.eq_ofNat_of_zero_le hm0
  have hm : m ≤ 255 := by omega
  obtain ⟨U, hU⟩ : ∃ U, U = Rd.loop (Rd.itemM Rd.signed) m L s2 := ⟨_, rfl⟩
  have HU := Lib.hid hU
  have HT : Hid (T = if (U.2.k : Int) - s1.k = nn then (U.1, U.2) else (U.1, Rd.fail U.2 4 at_)) := by
    show _ = _
    rw [hT, hU]
    unfold Rd.itemsM
    simp only [Rd.bind, hM1, hM2, Int.toNat_natCast]
  have hnn : nn ≤ 65535 := by omega
  have H := Lib.hid h
  have HBY := Lib.hid hby
  have p0 := hP
  have v0 := hV
  have hPl : P < w.heap.size := block_lt_of_cell hP
  have hVl : V < w.heap.size := block_lt_of_cell hV
  clear h hT hP hV hM1 hM2 hU hby hm0 hm1 hx1
  go_enter Try.func95, Try.ntmps95
  go_wp2_with (first
    | (go_at_call_of 33 (Value.int .i64 2); refine HN2.out.mono ?_; rintro e w1 ⟨rfl, hr1, hg1⟩; have p1 := HPG.out _ _ p0 hg1; have v1 := HVG.out _ _ v0 hg1; have HR1 := Lib.hid hr1; have HG1 := Lib.hid hg1; have HA1 := Lib.hid (rdAt R A n c L s1 w1 hr1); have hN := rdNumber R A n c L s1 1 w1 hr1 (by omega) (by omega); rw [HM2.out] at hN; have HN1 := Lib.hid hN; clear hr1 hg1 hN)
    | (go_at_call 36; refine HA1.out.mono ?_; rintro e w2 ⟨rfl, rfl⟩)
    | (go_at_call_of 33 (Value.int .i64 1); refine HN1.out.mono ?_; rintro e w2 ⟨rfl, hr2, hg2⟩; have p2 := HPG.out _ _ p1 hg2; have v2 := HVG.out _ _ v1 hg2; have HR2 := Lib.hid hr2; have HG2 := Lib.hid (grownBy_trans HG1.out hg2); clear hr2 hg2))
  go_loopw [9, 10] (fun v i wr => ∃ (k : Nat) (v' : Value) (acc : List (Int × List Int)) (cs : List Value) (sk : Rd.St), k ≤ m ∧ i = .int .i64 ((m : Int) - k) ∧ v' = v ∧ Hid (wr.ownsRow w.heap.size 46 2 v' k cs) ∧ Hid (SymRows wr w.heap.size .u8 cs acc) ∧ Hid (RdIs wr R A n c L sk) ∧ Hid (w.grownBy wr (some R)) ∧ Hid (wr.cell? ⟨P, 0, none⟩ = some (.pointer (some ⟨R, 0, none⟩))) ∧ Hid (wr.cell? ⟨V, 0, none⟩ = some (.pointer (some ⟨R, 0, none⟩))) ∧ Hid (U = (acc ++ (Rd.loop (Rd.itemM Rd.signed) (m - k) L sk).1, (Rd.loop (Rd.itemM Rd.signed) (m - k) L sk).2))) (fun _ i _ => (intOf i).toNat)
  case atStart => exact ⟨0, _, [], [], s2, by omega, by simp, rfl, World.ownsRow_nil _ _ _ _, rfl, HR2.out, HG2.out, p2, v2, HU.out⟩
  case round =>
    obtain ⟨k, v, acc, cs, sk, hk, rfl, rfl, HO, HS, HR, HG, HPk, HVk, HUk⟩ := hrel
    have pk := HPk.out
    have vk := HVk.out
    have HBD := Lib.hid (rdBad R A n c L sk wr HR.out)
    have HAT := Lib.hid (rdAt R A n c L sk wr HR.out)
    have hsl := HR.out.le
    have hs1l := HR1.out.le
    have HFL := Lib.hid (rdFail R A n c L sk 4 at_ wr HR.out (by decide))
    have HFIN : Hid (∀ (acc2 : List (Int × List Int)) (sk2 : Rd.St), U = (acc2, sk2) → SymRows wr w.heap.size .u8 cs acc2 → sk2 = sk → if (sk.k : Int) - s1.k = nn then SymsP R A n c L w 46 .u8 T.1 T.2 (.returned v) wr else ∀ w', RdIs w' R A n c L (Rd.fail sk 4 at_) → wr.grownBy w' (some R) → SymsP R A n c L w 46 .u8 T.1 T.2 (.returned v) w') := fun acc2 sk2 hU hS e => by
      subst e
      have hl : acc2.length = k := by have := hS.len; have := HO.out.1; omega
      rw [HT.out, hU]
      split
      · exact ⟨_, rfl, ⟨cs, by rw [hl]; exact HO.out, hS⟩, HR.out, HG.out⟩
      · intro w' hr hg
        exact ⟨_, rfl, ⟨cs, by rw [hl]; exact own_grown HO.out hg hRl, hS.map fun r p hq => hq.grown hg hRl⟩, hr, grownBy_trans HG.out hg⟩
    by_cases hlt : k < m
    · obtain ⟨kk, bad⟩ := sk
      cases bad with
      | some q =>
        have hU2 : U = (acc, ⟨kk, some q⟩) := by
          rw [HUk.out, show m - k = (m - (k + 1)) + 1 by omega]
          simp only [Rd.loop, List.append_nil]
        have hF := HFIN.out acc _ hU2 HS.out rfl
        simp only at hsl hF
        by_cases hc : (kk : Int) - s1.k = nn
        · rw [if_pos hc] at hF
          have HF := Lib.hid hF
          have hc2 : ((kk : Int) - s1.k == nn) = true := by simpa using hc
          clear hU2 hF
          go_wp2_with (first
            | (go_at_call 114; refine HBD.out.mono ?_; rintro e w3 ⟨rfl, rfl⟩)
            | (go_at_call 36; refine HAT.out.mono ?_; rintro e w3 ⟨rfl, rfl⟩))
          go_ret
          exact HF.out
        · rw [if_neg hc] at hF
          have HF := Lib.hid hF
          have hc2 : ((kk : Int) - s1.k == nn) = false := by simpa using hc
          clear hU2 hF hc
          go_wp2_with (first
            | (go_at_call 114; refine HBD.out.mono ?_; rintro e w3 ⟨rfl, rfl⟩)
            | (go_at_call 36; refine HAT.out.mono ?_; rintro e w3 ⟨rfl, rfl⟩)
            | (go_at_call 35; refine HFL.out.mono ?_; rintro e w4 ⟨rfl, hr4, hg4⟩; have HE := Lib.hid (HF.out w4 hr4 hg4); clear hr4 hg4))
          go_ret
          exact HE.out
      | none =>
        have HN := Lib.hid (cloS R V A n c L ⟨kk, none⟩ wr HR.out vk)
        obtain ⟨x, hx⟩ : ∃ x, x = (Rd.signed L ⟨kk, none⟩).1 := ⟨_, rfl⟩
        obtain ⟨sa, hsa⟩ : ∃ sa, sa = (Rd.signed L ⟨kk, none⟩).2 := ⟨_, rfl⟩
        rw [← hx, ← hsa] at HN
        have HN3 := Lib.hid (fun u (hu : RdIs u R A n c L sa) (hp : u.cell? ⟨P, 0, none⟩ = some (.pointer (some ⟨R, 0, none⟩))) => tzData P R A n c L sa 1 u hu hp hPR (by omega) (by omega))
        obtain ⟨ps, hps⟩ : ∃ ps, ps = (Rd.dataM 1 L sa).1 := ⟨_, rfl⟩
        obtain ⟨sb, hsb⟩ : ∃ sb, sb = (Rd.dataM 1 L sa).2 := ⟨_, rfl⟩
        rw [← hps, ← hsb] at HN3
        have hsz := HG.out.size
        have HOL : Hid (∀ g, v.ownBlock = some g → g < wr.heap.size) := fun g e => (HO.out.lt g e).2
        have HUn : Hid (U = ((acc ++ [(x, ps)]) ++ (Rd.loop (Rd.itemM Rd.signed) (m - (k + 1)) L sb).1, (Rd.loop (Rd.itemM Rd.signed) (m - (k + 1)) L sb).2)) := by
          show _ = _
          rw [HUk.out, show m - k = (m - (k + 1)) + 1 by omega, hps, hsb, hx, hsa]
          simp only [Rd.loop, Rd.itemM, Rd.bind, Rd.ret, List.append_assoc, List.singleton_append]
        clear hx hsa hps hsb
        go_wp2_with (first
          | (go_at_call 114; refine HBD.out.mono ?_; rintro e w3 ⟨rfl, rfl⟩)
          | (go_at_call 96; refine HN.out.mono ?_; rintro e w3 ⟨rfl, hr3, hg3⟩; obtain ⟨w4, hw4⟩ : ∃ w4, w4 = w3.alloc (.cells #[.int .i64 x, .slice none 0 0] 46) := ⟨_, rfl⟩; have hb4 : Below w3.heap.size w3 w4 := (by rw [hw4]; exact (Below.refl _ w3).alloc (Nat.le_refl _) _); have p4 := cell_below (HPG.out _ _ pk hg3) hb4; have v4 := cell_below (HVG.out _ _ vk hg3) hb4; have HO4 := Lib.hid (own_below (own_keptR HO.out hg3 hRl) hb4); have HS4 := Lib.hid (HS.out.map (w' := w4) (base' := w.heap.size) fun r p hr => (hr.grown hg3 hRl).below hb4); have HR4 := Lib.hid (hr3.below hb4); have HG4 := Lib.hid (grownBy_trans (grownBy_trans HG.out hg3) (grownBy_below hb4)); have HX4 : Hid (Blk w4 w3.heap.size 46 [.int .i64 x, .slice none 0 0]) := (by show Blk _ _ _ _; rw [hw4]; exact Blk.new w3 _ [.int .i64 x, .slice none 0 0]); have HW4 := Lib.hid hw4; have hsz4 := HG4.out.size; have hszr := hg3.size; clear hr3 hg3 hw4 hb4)
          | (go_at_call 89; rw [← HW4.out]; refine (HN3.out w4 HR4.out p4).mono ?_; rintro e w5 ⟨r, rfl, hv5, hr5, hg5⟩; obtain ⟨B, d, rfl⟩ := own_form hv5; have p5 := HPG.out _ _ p4 hg5; have v5 := HVG.out _ _ v4 hg5; have hbs := fun u => buildItem u x (.slice B ps.length d); have HO5 := Lib.hid (own_keptR HO4.out hg5 hRl); have HS5 := Lib.hid (HS4.out.map (w' := w5) (base' := w.heap.size) fun r p hr => hr.grown hg5 hRl); have HV5 := Lib.hid (hv5.mono (show w.heap.size ≤ w4.heap.size by omega)); have HV5h := Lib.hid hv5; have HR5 := Lib.hid hr5; have HG5 := Lib.hid (grownBy_trans HG4.out hg5); have hx5 : Blk w5 w3.heap.size 46 [.int .i64 x, .slice none 0 0] := HX4.out.grown hg5 (by intro e; have := Option.some.inj e; omega); have x50 := hx5.cell 0; have x51 := hx5.cell 1; have f51 := hx5.frozen 1; have hsz5 := HG5.out.size; have HI := Lib.hid (item_stored hx5 HO5.out HOL.out HS5.out HV5.out HR5.out HG5.out p5 v5 (show w.heap.size ≤ w3.heap.size by omega) (show wr.heap.size ≤ w3.heap.size from hszr) hRl hPl hVl (.slice B ps.length d)); have hs5 : (w5.setCell ⟨w3.heap.size, 1, none⟩ (.slice B ps.length d)).heap.size = w5.heap.size := (by simp); have p6 := HI.out.par; have v6 := HI.out.clo; clear hr5 hg5 hv5 hx5)
          | (at_builtin; refine wpList_appL _ rfl (.tmp 45) (.tmp 47) 24 rfl w.heap.size 46 _ 2 32 Try.underlying24 infoItemR rfl (by decide) v k _ rfl HI.out.own #[.int .i64 x, .slice B ps.length d] 1 (by rw [hs5]; rfl) rfl (by simp [Value.oneCell']) (by decide) (by omega) (by decide) (by omega) ?_; intro g2 c2 w7 hown7 hg7 _; have HR7 := Lib.hid (HI.out.rd.own HI.out.own (by decide) hRl hg7); have HG7 := Lib.hid (grownBy_own HI.out.gr HI.out.own (Nat.le_refl _) hg7); have HP7 := Lib.hid (par_own p6 HI.out.own hg7 hPl); have HV7 := Lib.hid (par_own v6 HI.out.own hg7 hVl); have HS7 := Lib.hid ((HI.out.sy.snoc (x := x) HI.out.row).kept_own HI.out.own (by decide) hg7); have HO7 := Lib.hid hown7; clear hown7 hg7))
        go_roundw
        case rel => exact ⟨k + 1, _, acc ++ [(x, ps)], _, sb, by omega, by go_num, rfl, HO7.out, HS7.out, HR7.out, HG7.out, HP7.out, HV7.out, HUn.out⟩
        case measure => simp [intOf]; omega
    · obtain rfl : m = k := by omega
      have hU2 := HUk.out
      rw [Nat.sub_self] at hU2
      simp only [Rd.loop, Rd.ret, List.append_nil] at hU2
      have hF := HFIN.out acc _ hU2 HS.out rfl
      by_cases hc : (sk.k : Int) - s1.k = nn
      · rw [if_pos hc] at hF
        have HF := Lib.hid hF
        have hc2 : ((sk.k : Int) - s1.k == nn) = true := by simpa using hc
        clear hU2 hF
        go_wp2_with (first
          | (go_at_call 36; refine HAT.out.mono ?_; rintro e w3 ⟨rfl, rfl⟩))
        go_ret
        exact HF.out
      · rw [if_neg hc] at hF
        have HF := Lib.hid hF
        have hc2 : ((sk.k : Int) - s1.k == nn) = false := by simpa using hc
        clear hU2 hF hc
        go_wp2_with (first
          | (go_at_call 36; refine HAT.out.mono ?_; rintro e w3 ⟨rfl, rfl⟩)
          | (go_at_call 35; refine HFL.out.mono ?_; rintro e w4 ⟨rfl, hr4, hg4⟩; have HE := Lib.hid (HF.out w4 hr4 hg4); clear hr4 hg4))
        go_ret
        exact HE.out
theorem cloB (R V : Nat) (A : Addr) (n c : Nat) (L : List Int) (s : Rd.St) (w : World) (h : RdIs w R A n c L s) (hV : w.cell? ⟨V, 0, none⟩ = some (.pointer (some ⟨R, 0, none⟩))) :
    Calls Try.prog 100 #[.pointer (some ⟨V, 0, none⟩)] w (RdP R A n c L w ((Rd.num 1) L s).2 (.int .i64 ((Rd.num 1) L s).1)) := by
  have HN := Lib.hid (rdNumber R A n c L s 1 w h (by omega) (by omega))
  clear h
  go_enter Try.func100, Try.ntmps100
  go_wp2_with (first
    | (go_at_call 33; refine HN.out.mono ?_; rintro e w2 ⟨rfl, hr2, hg2⟩; have HR2 := Lib.hid hr2; have HG2 := Lib.hid hg2; clear hr2 hg2))
  go_ret
  exact ⟨rfl, HR2.out, HG2.out⟩
set_option maxRecDepth 100000 in
set_option maxHeartbeats 4000000 in
theorem tzItemsB (P R V : Nat) (A : Addr) (n c : Nat) (L : List Int) (s : Rd.St) (at_ : Int) (w : World) (h : RdIs w R A n c L s) (hP : w.cell? ⟨P, 0, none⟩ = some (.pointer (some ⟨R, 0, none⟩))) (hPR : P ≠ R) (hV : w.cell? ⟨V, 0, none⟩ = some (.pointer (some ⟨R, 0, none⟩))) (hVR : V ≠ R) :
    Calls Try.prog 95 #[.pointer (some ⟨P, 0, none⟩), .int .i64 at_, .func (.func 100) #[] #[.pointer (some ⟨V, 0, none⟩)]] w (SymsP R A n c L w 46 .u8 (Rd.itemsM (Rd.num 1) at_ L s).1 (Rd.itemsM (Rd.num 1) at_ L s).2) := by
  have HPG := Lib.hid (fun (u u' : World) (h1 : u.cell? ⟨P, 0, none⟩ = some (.pointer (some ⟨R, 0, none⟩))) (hg : u.grownBy u' (some R)) => par_grown h1 hPR hg)
  have HVG := Lib.hid (fun (u u' : World) (h1 : u.cell? ⟨V, 0, none⟩ = some (.pointer (some ⟨R, 0, none⟩))) (hg : u.grownBy u' (some R)) => par_grown h1 hVR hg)
  have hRl := h.lt_
  have hbig := h.big
  have hby := h.byt
  obtain ⟨T, hT⟩ : ∃ T, T = Rd.itemsM (Rd.num 1) at_ L s := ⟨_, rfl⟩
  have HT0 := Lib.hid hT
  rw [← hT]
  have HN2 := Lib.hid (rdNumber R A n c L s 2 w h (by omega) (by omega))
  obtain ⟨hx0, hx1⟩ := num_range h.byt 2 s (by omega)
  obtain ⟨nn, s1, hM1⟩ : ∃ nn s1, Rd.num 2 L s = (nn, s1) := ⟨_, _, rfl⟩
  rw [hM1] at HN2 hx0 hx1
  simp only at hx0 hx1
  obtain ⟨hm0, hm1⟩ := num_range h.byt 1 s1 (by omega)
  obtain ⟨mm, s2, hM2⟩ : ∃ mm s2, Rd.num 1 L s1 = (mm, s2) := ⟨_, _, rfl⟩
  have HM2 := Lib.hid hM2
  rw [hM2] at hm0 hm1
  simp only at hm0 hm1
  obtain ⟨m, rfl⟩ := Int.eq_ofNat_of_zero_le hm0
  have hm : m ≤ 255 := by omega
  obtain ⟨U, hU⟩ : ∃ U, U = Rd.loop (Rd.itemM (Rd.num 1)) m L s2 := ⟨_, rfl⟩
  have HU := Lib.hid hU
  have HT : Hid (T = if (U.2.k : Int) - s1.k = nn then (U.1, U.2) else (U.1, Rd.fail U.2 4 at_)) := by
    show _ = _
    rw [hT, hU]
    unfold Rd.itemsM
    simp only [Rd.bind, hM1, hM2, Int.toNat_natCast]
  have hnn : nn ≤ 65535 := by omega
  have H := Lib.hid h
  have HBY := Lib.hid hby
  have p0 := hP
  have v0 := hV
  have hPl : P < w.heap.size := block_lt_of_cell hP
  have hVl : V < w.heap.size := block_lt_of_cell hV
  clear h hT hP hV hM1 hM2 hU hby hm0 hm1 hx1
  go_enter Try.func95, Try.ntmps95
  go_wp2_with (first
    | (go_at_call_of 33 (Value.int .i64 2); refine HN2.out.mono ?_; rintro e w1 ⟨rfl, hr1, hg1⟩; have p1 := HPG.out _ _ p0 hg1; have v1 := HVG.out _ _ v0 hg1; have HR1 := Lib.hid hr1; have HG1 := Lib.hid hg1; have HA1 := Lib.hid (rdAt R A n c L s1 w1 hr1); have hN := rdNumber R A n c L s1 1 w1 hr1 (by omega) (by omega); rw [HM2.out] at hN; have HN1 := Lib.hid hN; clear hr1 hg1 hN)
    | (go_at_call 36; refine HA1.out.mono ?_; rintro e w2 ⟨rfl, rfl⟩)
    | (go_at_call_of 33 (Value.int .i64 1); refine HN1.out.mono ?_; rintro e w2 ⟨rfl, hr2, hg2⟩; have p2 := HPG.out _ _ p1 hg2; have v2 := HVG.out _ _ v1 hg2; have HR2 := Lib.hid hr2; have HG2 := Lib.hid (grownBy_trans HG1.out hg2); clear hr2 hg2))
  go_loopw [9, 10] (fun v i wr => ∃ (k : Nat) (v' : Value) (acc : List (Int × List Int)) (cs : List Value) (sk : Rd.St), k ≤ m ∧ i = .int .i64 ((m : Int) - k) ∧ v' = v ∧ Hid (wr.ownsRow w.heap.size 46 2 v' k cs) ∧ Hid (SymRows wr w.heap.size .u8 cs acc) ∧ Hid (RdIs wr R A n c L sk) ∧ Hid (w.grownBy wr (some R)) ∧ Hid (wr.cell? ⟨P, 0, none⟩ = some (.pointer (some ⟨R, 0, none⟩))) ∧ Hid (wr.cell? ⟨V, 0, none⟩ = some (.pointer (some ⟨R, 0, none⟩))) ∧ Hid (U = (acc ++ (Rd.loop (Rd.itemM (Rd.num 1)) (m - k) L sk).1, (Rd.loop (Rd.itemM (Rd.num 1)) (m - k) L sk).2))) (fun _ i _ => (intOf i).toNat)
  case atStart => exact ⟨0, _, [], [], s2, by omega, by simp, rfl, World.ownsRow_nil _ _ _ _, rfl, HR2.out, HG2.out, p2, v2, HU.out⟩
  case round =>
    obtain ⟨k, v, acc, cs, sk, hk, rfl, rfl, HO, HS, HR, HG, HPk, HVk, HUk⟩ := hrel
    have pk := HPk.out
    have vk := HVk.out
    have HBD := Lib.hid (rdBad R A n c L sk wr HR.out)
    have HAT := Lib.hid (rdAt R A n c L sk wr HR.out)
    have hsl := HR.out.le
    have hs1l := HR1.out.le
    have HFL := Lib.hid (rdFail R A n c L sk 4 at_ wr HR.out (by decide))
    have HFIN : Hid (∀ (acc2 : List (Int × List Int)) (sk2 : Rd.St), U = (acc2, sk2) → SymRows wr w.heap.size .u8 cs acc2 → sk2 = sk → if (sk.k : Int) - s1.k = nn then SymsP R A n c L w 46 .u8 T.1 T.2 (.returned v) wr else ∀ w', RdIs w' R A n c L (Rd.fail sk 4 at_) → wr.grownBy w' (some R) → SymsP R A n c L w 46 .u8 T.1 T.2 (.returned v) w') := fun acc2 sk2 hU hS e => by
      subst e
      have hl : acc2.length = k := by have := hS.len; have := HO.out.1; omega
      rw [HT.out, hU]
      split
      · exact ⟨_, rfl, ⟨cs, by rw [hl]; exact HO.out, hS⟩, HR.out, HG.out⟩
      · intro w' hr hg
        exact ⟨_, rfl, ⟨cs, by rw [hl]; exact own_grown HO.out hg hRl, hS.map fun r p hq => hq.grown hg hRl⟩, hr, grownBy_trans HG.out hg⟩
    by_cases hlt : k < m
    · obtain ⟨kk, bad⟩ := sk
      cases bad with
      | some q =>
        have hU2 : U = (acc, ⟨kk, some q⟩) := by
          rw [HUk.out, show m - k = (m - (k + 1)) + 1 by omega]
          simp only [Rd.loop, List.append_nil]
        have hF := HFIN.out acc _ hU2 HS.out rfl
        simp only at hsl hF
        by_cases hc : (kk : Int) - s1.k = nn
        · rw [if_pos hc] at hF
          have HF := Lib.hid hF
          have hc2 : ((kk : Int) - s1.k == nn) = true := by simpa using hc
          clear hU2 hF
          go_wp2_with (first
            | (go_at_call 114; refine HBD.out.mono ?_; rintro e w3 ⟨rfl, rfl⟩)
            | (go_at_call 36; refine HAT.out.mono ?_; rintro e w3 ⟨rfl, rfl⟩))
          go_ret
          exact HF.out
        · rw [if_neg hc] at hF
          have HF := Lib.hid hF
          have hc2 : ((kk : Int) - s1.k == nn) = false := by simpa using hc
          clear hU2 hF hc
          go_wp2_with (first
            | (go_at_call 114; refine HBD.out.mono ?_; rintro e w3 ⟨rfl, rfl⟩)
            | (go_at_call 36; refine HAT.out.mono ?_; rintro e w3 ⟨rfl, rfl⟩)
            | (go_at_call 35; refine HFL.out.mono ?_; rintro e w4 ⟨rfl, hr4, hg4⟩; have HE := Lib.hid (HF.out w4 hr4 hg4); clear hr4 hg4))
          go_ret
          exact HE.out
      | none =>
        have HN := Lib.hid (cloB R V A n c L ⟨kk, none⟩ wr HR.out vk)
        obtain ⟨x, hx⟩ : ∃ x, x = ((Rd.num 1) L ⟨kk, none⟩).1 := ⟨_, rfl⟩
        obtain ⟨sa, hsa⟩ : ∃ sa, sa = ((Rd.num 1) L ⟨kk, none⟩).2 := ⟨_, rfl⟩
        rw [← hx, ← hsa] at HN
        have HN3 := Lib.hid (fun u (hu : RdIs u R A n c L sa) (hp : u.cell? ⟨P, 0, none⟩ = some (.pointer (some ⟨R, 0, none⟩))) => tzData P R A n c L sa 1 u hu hp hPR (by omega) (by omega))
        obtain ⟨ps, hps⟩ : ∃ ps, ps = (Rd.dataM 1 L sa).1 := ⟨_, rfl⟩
        obtain ⟨sb, hsb⟩ : ∃ sb, sb = (Rd.dataM 1 L sa).2 := ⟨_, rfl⟩
        rw [← hps, ← hsb] at HN3
        have hsz := HG.out.size
        have HOL : Hid (∀ g, v.ownBlock = some g → g < wr.heap.size) := fun g e => (HO.out.lt g e).2
        have HUn : Hid (U = ((acc ++ [(x, ps)]) ++ (Rd.loop (Rd.itemM (Rd.num 1)) (m - (k + 1)) L sb).1, (Rd.loop (Rd.itemM (Rd.num 1)) (m - (k + 1)) L sb).2)) := by
          show _ = _
          rw [HUk.out, show m - k = (m - (k + 1)) + 1 by omega, hps, hsb, hx, hsa]
          simp only [Rd.loop, Rd.itemM, Rd.bind, Rd.ret, List.append_assoc, List.singleton_append]
        clear hx hsa hps hsb
        go_wp2_with (first
          | (go_at_call 114; refine HBD.out.mono ?_; rintro e w3 ⟨rfl, rfl⟩)
          | (go_at_call 100; refine HN.out.mono ?_; rintro e w3 ⟨rfl, hr3, hg3⟩; obtain ⟨w4, hw4⟩ : ∃ w4, w4 = w3.alloc (.cells #[.int .i64 x, .slice none 0 0] 46) := ⟨_, rfl⟩; have hb4 : Below w3.heap.size w3 w4 := (by rw [hw4]; exact (Below.refl _ w3).alloc (Nat.le_refl _) _); have p4 := cell_below (HPG.out _ _ pk hg3) hb4; have v4 := cell_below (HVG.out _ _ vk hg3) hb4; have HO4 := Lib.hid (own_below (own_keptR HO.out hg3 hRl) hb4); have HS4 := Lib.hid (HS.out.map (w' := w4) (base' := w.heap.size) fun r p hr => (hr.grown hg3 hRl).below hb4); have HR4 := Lib.hid (hr3.below hb4); have HG4 := Lib.hid (grownBy_trans (grownBy_trans HG.out hg3) (grownBy_below hb4)); have HX4 : Hid (Blk w4 w3.heap.size 46 [.int .i64 x, .slice none 0 0]) := (by show Blk _ _ _ _; rw [hw4]; exact Blk.new w3 _ [.int .i64 x, .slice none 0 0]); have HW4 := Lib.hid hw4; have hsz4 := HG4.out.size; have hszr := hg3.size; clear hr3 hg3 hw4 hb4)
          | (go_at_call 89; rw [← HW4.out]; refine (HN3.out w4 HR4.out p4).mono ?_; rintro e w5 ⟨r, rfl, hv5, hr5, hg5⟩; obtain ⟨B, d, rfl⟩ := own_form hv5; have p5 := HPG.out _ _ p4 hg5; have v5 := HVG.out _ _ v4 hg5; have hbs := fun u => buildItem u x (.slice B ps.length d); have HO5 := Lib.hid (own_keptR HO4.out hg5 hRl); have HS5 := Lib.hid (HS4.out.map (w' := w5) (base' := w.heap.size) fun r p hr => hr.grown hg5 hRl); have HV5 := Lib.hid (hv5.mono (show w.heap.size ≤ w4.heap.size by omega)); have HV5h := Lib.hid hv5; have HR5 := Lib.hid hr5; have HG5 := Lib.hid (grownBy_trans HG4.out hg5); have hx5 : Blk w5 w3.heap.size 46 [.int .i64 x, .slice none 0 0] := HX4.out.grown hg5 (by intro e; have := Option.some.inj e; omega); have x50 := hx5.cell 0; have x51 := hx5.cell 1; have f51 := hx5.frozen 1; have hsz5 := HG5.out.size; have HI := Lib.hid (item_stored hx5 HO5.out HOL.out HS5.out HV5.out HR5.out HG5.out p5 v5 (show w.heap.size ≤ w3.heap.size by omega) (show wr.heap.size ≤ w3.heap.size from hszr) hRl hPl hVl (.slice B ps.length d)); have hs5 : (w5.setCell ⟨w3.heap.size, 1, none⟩ (.slice B ps.length d)).heap.size = w5.heap.size := (by simp); have p6 := HI.out.par; have v6 := HI.out.clo; clear hr5 hg5 hv5 hx5)
          | (at_builtin; refine wpList_appL _ rfl (.tmp 45) (.tmp 47) 24 rfl w.heap.size 46 _ 2 32 Try.underlying24 infoItemR rfl (by decide) v k _ rfl HI.out.own #[.int .i64 x, .slice B ps.length d] 1 (by rw [hs5]; rfl) rfl (by simp [Value.oneCell']) (by decide) (by omega) (by decide) (by omega) ?_; intro g2 c2 w7 hown7 hg7 _; have HR7 := Lib.hid (HI.out.rd.own HI.out.own (by decide) hRl hg7); have HG7 := Lib.hid (grownBy_own HI.out.gr HI.out.own (Nat.le_refl _) hg7); have HP7 := Lib.hid (par_own p6 HI.out.own hg7 hPl); have HV7 := Lib.hid (par_own v6 HI.out.own hg7 hVl); have HS7 := Lib.hid ((HI.out.sy.snoc (x := x) HI.out.row).kept_own HI.out.own (by decide) hg7); have HO7 := Lib.hid hown7; clear hown7 hg7))
        go_roundw
        case rel => exact ⟨k + 1, _, acc ++ [(x, ps)], _, sb, by omega, by go_num, rfl, HO7.out, HS7.out, HR7.out, HG7.out, HP7.out, HV7.out, HUn.out⟩
        case measure => simp [intOf]; omega
    · obtain rfl : m = k := by omega
      have hU2 := HUk.out
      rw [Nat.sub_self] at hU2
      simp only [Rd.loop, Rd.ret, List.append_nil] at hU2
      have hF := HFIN.out acc _ hU2 HS.out rfl
      by_cases hc : (sk.k : Int) - s1.k = nn
      · rw [if_pos hc] at hF
        have HF := Lib.hid hF
        have hc2 : ((sk.k : Int) - s1.k == nn) = true := by simpa using hc
        clear hU2 hF
        go_wp2_with (first
          | (go_at_call 36; refine HAT.out.mono ?_; rintro e w3 ⟨rfl, rfl⟩))
        go_ret
        exact HF.out
      · rw [if_neg hc] at hF
        have HF := Lib.hid hF
        have hc2 : ((sk.k : Int) - s1.k == nn) = false := by simpa using hc
        clear hU2 hF hc
        go_wp2_with (first
          | (go_at_call 36; refine HAT.out.mono ?_; rintro e w3 ⟨rfl, rfl⟩)
          | (go_at_call 35; refine HFL.out.mono ?_; rintro e w4 ⟨rfl, hr4, hg4⟩; have HE := Lib.hid (HF.out w4 hr4 hg4); clear hr4 hg4))
        go_ret
        exact HE.out
end Go.Proofs.Ytokidpajialgbaa
