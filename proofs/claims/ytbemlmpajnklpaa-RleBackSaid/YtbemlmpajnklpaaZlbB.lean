/- zlib.Pack. -/
import Derived.Test.YtbemlmpajnklpaaZlbA
import Derived.Test.YtbemlmpajnklpaaInfI
namespace Go.Proofs.Ytbemlmpajnklpaa
set_option linter.unusedSimpArgs false
set_option linter.unusedVariables false
open Go.RowKit
theorem store_all (A : Option Addr) (n c : Nat) (bs : List Int) (w : World) (h : Ints w A .u8 bs) (hn : bs.length = n) (hnc : n ≤ c) (hc : c ≤ 9223372036854775807) (hm : n ≤ 65535) (hA : A = none → n = 0 ∧ c = 0) :
    Calls Try.prog 17 #[.slice A n c] w (StoredP (Hf.hdr 1 n ++ bs) w) := by
  cases A with
  | none =>
    obtain ⟨rfl, rfl⟩ := hA rfl
    obtain rfl : bs = [] := List.eq_nil_of_length_eq_zero hn
    exact store_nil w
  | some ad =>
    have := store_any ad n c bs 1 w h hn hnc (by omega) (by omega) hc
    rw [Hf.stored_last 1 bs (by omega) (by omega), hn] at this
    exact this
theorem own_below {w w' : World} {B n : Nat} {t : TypeId} {size : Nat} {v : Value} {xs : List Value} (h : w.ownsRow B t size v n xs) (hb : Below w.heap.size w w') : w'.ownsRow B t size v n xs :=
  h.kept (grownBy_below (r := none) hb) (by cases hv : v.ownBlock with
    | none => exact .inl rfl
    | some k => exact .inr (by simp))
namespace Zl
/-- a number's four bytes -/
def tail4 (s : Int) : List Int := [s / 16777216, s / 65536 % 256, s / 256 % 256, s % 256]
/-- bytes, packed -/
def pack (bs : List Int) : List Int := [120, 1] ++ (Hf.hdr 1 bs.length ++ bs) ++ tail4 (Ad.of bs)
end Zl
def PackP (bs : List Int) (w : World) (e : Ending) (w' : World) : Prop :=
  ∃ g c, e = .returned (.slice (some ⟨g, 0, none⟩) (Zl.pack bs).length c) ∧ w'.ownsRow w.heap.size 5 1 (.slice (some ⟨g, 0, none⟩) (Zl.pack bs).length c) (Zl.pack bs).length ((Zl.pack bs).map (.int .u8)) ∧ Below w.heap.size w w'
set_option maxRecDepth 100000 in
set_option maxHeartbeats 4000000 in
theorem pack_any (A : Option Addr) (n c : Nat) (bs : List Int) (w : World) (h : Ints w A .u8 bs) (hr : ∀ x ∈ bs, 0 ≤ x ∧ x ≤ 255) (hn : bs.length = n) (hnc : n ≤ c) (hc : c ≤ 9223372036854775807) (hm : n ≤ 65535) (hA : A = none → n = 0 ∧ c = 0) :
    Calls Try.prog 11 #[.slice A n c] w (PackP bs w) := by
  have HS := Lib.hid (fun u (hu : Below w.heap.size w u) => store_all A n c bs u (Cells.below h hu) hn hnc hc hm hA)
  have HO := Lib.hid (fun u gp (hu : Below w.heap.size w u) (hp : u.cell? ⟨gp, 0, none⟩ = some (.slice A n c)) => of_any gp A n c bs u hp (Cells.below h hu) hr hn hnc hc (by omega) hA)
  obtain ⟨L, hL⟩ : ∃ L, L = Hf.hdr 1 n ++ bs := ⟨_, rfl⟩
  obtain ⟨s, hs⟩ : ∃ s, s = Ad.of bs := ⟨_, rfl⟩
  rw [← hL] at HS
  rw [← hs] at HO
  have hs0 : 0 ≤ s := by rw [hs]; exact (Ad.of_range bs).1
  have hs1 : s ≤ 4294967295 := by rw [hs]; exact (Ad.of_range bs).2
  have HP : Hid (Zl.pack bs = [120, 1] ++ L ++ Zl.tail4 s) := by show _ = _; rw [hL, hs, ← hn]; rfl
  have hLl : L.length = n + 5 := by rw [hL]; simp [Hf.hdr, hn]
  have HLL := Lib.hid hLl
  obtain ⟨ll, hll⟩ : ∃ ll, ll = L.length := ⟨_, rfl⟩
  have HLK := Lib.hid hll
  have hl9 : ll ≤ 70000 := by omega
  clear h hr hn hL hs hLl hll hA
  go_enter Try.func11, Try.ntmps11
  go_wp2_with (first
    | (at_builtin
       refine wpList_appAny w1 (by rfl) (.tmp 6) (.tmp 8) 29 (by rfl) w.heap.size 5 (.int .u8 0) 1 Try.underlying29 infoByte rfl (.slice (some ⟨w.heap.size, 0, none⟩) 2 2) 2 [.int .u8 120, .int .u8 1] (by rfl) HO0.out K1 ll c1 (L.map (.int .u8)) (by rfl) (by rw [List.length_map]; exact HLK.out.symm) HC1.out HN1.out (fun u hu => by obtain ⟨x, -, rfl⟩ := List.mem_map.1 hu; rfl) (by unfold maxLen; omega) (by omega) HB1.out.size ?_
       intro v2 w2 ho2 hg2
       have HO2 := Lib.hid ho2
       have HB2 : Hid (Below w.heap.size w w2) := Below_own HB1.out HO0.out hg2 (Nat.le_refl _) HB1.out.size
       clear ho2 hg2)
    | (go_at_call 17
       refine (HS.out _ ((Below.refl _ w).alloc (Nat.le_refl _) _)).mono ?_
       rintro e w1 ⟨v1, rfl, ho1, hb1⟩
       obtain ⟨K1, c1, rfl, hc1, hn1⟩ := own_slice3 ho1
       have HB1 : Hid (Below w.heap.size w w1) := ((Below.refl _ w).alloc (Nat.le_refl _) _).trans (hb1.mono (by simp))
       have HO0 : Hid (w1.ownsRow w.heap.size 5 1 (.slice (some ⟨w.heap.size, 0, none⟩) 2 2) 2 [.int .u8 120, .int .u8 1]) := own_of_blk ((Blk.new w 5 [.int .u8 120, .int .u8 1]).below_ hb1) (Nat.le_refl _) rfl (by unfold maxLen; omega)
       have HC1 := Lib.hid hc1
       rw [← HLK.out] at hn1
       have HN1 := Lib.hid hn1
       rw [← HLK.out]
       clear ho1 hb1 hc1 hn1)
    | (go_at_call 18
       refine (HO.out _ w2.heap.size (HB2.out.alloc HB2.out.size _) ((Blk.new w2 _ [_]).cell 0)).mono ?_
       rintro e w3 ⟨rfl, hb3⟩
       have HB23 : Hid (Below w2.heap.size w2 w3) := ((Below.refl _ w2).alloc (Nat.le_refl _) _).trans (hb3.mono (by simp))
       have HB3 : Hid (Below w.heap.size w w3) := HB2.out.trans (HB23.out.mono HB2.out.size)
       clear hb3))
  obtain ⟨M, hM⟩ : ∃ M, M = [120, 1] ++ L := ⟨_, rfl⟩
  have HO3 : Hid (w3.ownsRow w.heap.size 5 1 v2 (2 + ll) (M.map (.int .u8))) := by
    show World.ownsRow _ _ _ _ _ _ _
    rw [hM]
    have := own_below HO2.out HB23.out
    simpa using this
  have HMM := Lib.hid hM
  obtain ⟨T, hT⟩ : ∃ T, T = Zl.tail4 s := ⟨_, rfl⟩
  have t0 : T.take 1 = T.take 0 ++ [s / 16777216] := by rw [hT]; rfl
  have t1 : T.take 2 = T.take 1 ++ [s / 65536 % 256] := by rw [hT]; rfl
  have t2 : T.take 3 = T.take 2 ++ [s / 256 % 256] := by rw [hT]; rfl
  have t3 : T.take 4 = T.take 3 ++ [s % 256] := by rw [hT]; rfl
  have T0 := Lib.hid t0
  have T1 := Lib.hid t1
  have T2 := Lib.hid t2
  have T3 := Lib.hid t3
  have TT : Hid (T.take 4 = Zl.tail4 s) := by show _ = _; rw [hT]; rfl
  clear hM hT t0 t1 t2 t3
  go_loopw [3, 13] (fun o i wr => ∃ k : Nat, k ≤ 4 ∧ i = .int .i64 k ∧ wr.ownsRow w.heap.size 5 1 o (2 + ll + k) ((M ++ T.take k).map (.int .u8)) ∧ Below w.heap.size w wr) (fun _ i _ => 4 - (intOf i).toNat)
  case atStart => exact ⟨0, by omega, rfl, by simpa using HO3.out, HB3.out⟩
  case round =>
    obtain ⟨k, hk, rfl, hown, hbel⟩ := hrel
    have HOW := Lib.hid hown
    have HBW := Lib.hid hbel
    clear hown hbel
    rcases (show k = 0 ∨ k = 1 ∨ k = 2 ∨ k = 3 ∨ k = 4 by omega) with rfl | rfl | rfl | rfl | rfl
    · go_wp2_with (first
        | (at_builtin
           refine wpList_appL wr (by rfl) (.tmp 16) (.tmp 23) 29 (by rfl) w.heap.size 5 (.int .u8 0) 1 1 Try.underlying29 infoByte rfl (by decide) u3 _ _ (by rfl) HOW.out _ 1 (by rfl) (by rfl) (by simp [Value.oneCell']) (by decide) (by omega) (by decide) HBW.out.size ?_
           intro g1 c1 w1 ho1 hg1 hx1
           have HO1 := Lib.hid ho1
           have HB1 : Hid (Below w.heap.size w w1) := Below_own HBW.out HOW.out hg1 (Nat.le_refl _) HBW.out.size
           clear ho1 hg1 hx1))
      go_roundw
      case rel =>
        refine ⟨1, by omega, by go_num, ?_, HB1.out⟩
        have ho := HO1.out
        rw [T0.out, ← List.append_assoc, List.map_append]
        simpa using ho
      case measure => simp [intOf]
    · go_wp2_with (first
        | (at_builtin
           refine wpList_appL wr (by rfl) (.tmp 16) (.tmp 23) 29 (by rfl) w.heap.size 5 (.int .u8 0) 1 1 Try.underlying29 infoByte rfl (by decide) u3 _ _ (by rfl) HOW.out _ 1 (by rfl) (by rfl) (by simp [Value.oneCell']) (by decide) (by omega) (by decide) HBW.out.size ?_
           intro g1 c1 w1 ho1 hg1 hx1
           have HO1 := Lib.hid ho1
           have HB1 : Hid (Below w.heap.size w w1) := Below_own HBW.out HOW.out hg1 (Nat.le_refl _) HBW.out.size
           clear ho1 hg1 hx1))
      go_roundw
      case rel =>
        refine ⟨2, by omega, by go_num, ?_, HB1.out⟩
        have ho := HO1.out
        rw [T1.out, ← List.append_assoc, List.map_append]
        simpa using ho
      case measure => simp [intOf]
    · go_wp2_with (first
        | (at_builtin
           refine wpList_appL wr (by rfl) (.tmp 16) (.tmp 23) 29 (by rfl) w.heap.size 5 (.int .u8 0) 1 1 Try.underlying29 infoByte rfl (by decide) u3 _ _ (by rfl) HOW.out _ 1 (by rfl) (by rfl) (by simp [Value.oneCell']) (by decide) (by omega) (by decide) HBW.out.size ?_
           intro g1 c1 w1 ho1 hg1 hx1
           have HO1 := Lib.hid ho1
           have HB1 : Hid (Below w.heap.size w w1) := Below_own HBW.out HOW.out hg1 (Nat.le_refl _) HBW.out.size
           clear ho1 hg1 hx1))
      go_roundw
      case rel =>
        refine ⟨3, by omega, by go_num, ?_, HB1.out⟩
        have ho := HO1.out
        rw [T2.out, ← List.append_assoc, List.map_append]
        simpa using ho
      case measure => simp [intOf]
    · go_wp2_with (first
        | (at_builtin
           refine wpList_appL wr (by rfl) (.tmp 16) (.tmp 23) 29 (by rfl) w.heap.size 5 (.int .u8 0) 1 1 Try.underlying29 infoByte rfl (by decide) u3 _ _ (by rfl) HOW.out _ 1 (by rfl) (by rfl) (by simp [Value.oneCell']) (by decide) (by omega) (by decide) HBW.out.size ?_
           intro g1 c1 w1 ho1 hg1 hx1
           have HO1 := Lib.hid ho1
           have HB1 : Hid (Below w.heap.size w w1) := Below_own HBW.out HOW.out hg1 (Nat.le_refl _) HBW.out.size
           clear ho1 hg1 hx1))
      go_roundw
      case rel =>
        refine ⟨4, by omega, by go_num, ?_, HB1.out⟩
        have ho := HO1.out
        rw [T3.out, ← List.append_assoc, List.map_append]
        simpa using ho
      case measure => simp [intOf]
    · go_wp2
      obtain ⟨g4, c4, hv4, -⟩ := HOW.out.form (by omega)
      subst hv4
      go_ret
      have hp := HP.out
      have hlen : (Zl.pack bs).length = 2 + ll + 4 := by rw [HP.out, HLK.out]; simp [Zl.tail4]; omega
      refine ⟨g4, c4, ?_, ?_, HBW.out⟩
      · rw [hlen]; rfl
      · rw [hlen]
        have ho := HOW.out
        rw [TT.out, HMM.out, ← HP.out] at ho
        exact ho
end Go.Proofs.Ytbemlmpajnklpaa
