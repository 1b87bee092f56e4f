/- rle.plain on runs that are spelled; lives. -/
import Derived.Test.YtbemlmpajnklpaaRleD
import Derived.Test.YtbemlmpajnklpaaWirA
namespace Go.Proofs.Ytbemlmpajnklpaa
set_option linter.unusedSimpArgs false
set_option linter.unusedVariables false
open Go.RowKit
theorem add_add' (a : Addr) (m n : Nat) : (a.add m).add n = a.add (m + n) := by
  unfold Addr.add
  by_cases h : m = 0 <;> by_cases h2 : n = 0 <;> simp [h, h2, Nat.add_assoc]
theorem ints_sub {w : World} {A : Addr} {k : IntKind} {l s : List Int} {p : Nat} (h : Ints w (some A) k l) (hs : s <+: l.drop p) : Ints w (some (A.add p)) k s := fun i v hi => by
  obtain ⟨t, ht⟩ := hs
  have hil : i < s.length := by
    have := (List.getElem?_eq_some_iff.1 hi).1
    simpa using this
  have e : (l.map (Value.int k))[p + i]? = some v := by
    rw [← List.getElem?_drop, ← List.map_drop, ← ht, List.map_append, List.getElem?_append_left (by simpa using hil)]
    exact hi
  obtain ⟨ad, e1, hc⟩ := h (p + i) v e
  injection e1 with e1
  subst e1
  exact ⟨_, rfl, by rw [add_add']; exact hc⟩
namespace Rl
/-- a run as bytes -/
def spell1 (x : Int) : List Int := if x ≤ 255 then [x] else [0, x % 256, x / 256 % 256, x / 65536 % 256, x / 16777216]
/-- runs as bytes -/
def spell : List Int → List Int
  | [] => []
  | x :: t => spell1 x ++ spell t
def May (l : List Int) : Prop := ∀ x ∈ l, 1 ≤ x ∧ x ≤ 4294967295
theorem spell1_byts (x : Int) (h : 1 ≤ x ∧ x ≤ 4294967295) : Byts (spell1 x) := by
  unfold spell1
  intro y hy
  split at hy
  · simp at hy; omega
  · simp at hy; omega
theorem spell_app (a b : List Int) : spell (a ++ b) = spell a ++ spell b := by
  induction a with
  | nil => rfl
  | cons x t ih => simp [spell, ih]
theorem four (x : Int) (h : 255 < x) (h2 : x ≤ 4294967295) : leVal [x % 256, x / 256 % 256, x / 65536 % 256, x / 16777216] = x := by
  simp only [leVal]
  omega
end Rl
/-- the length of a slice -/
def lenOf : Value → Nat
  | .slice _ n _ => n
  | _ => 0
theorem own_len {w : World} {base n : Nat} {e : TypeId} {v : Value} {xs : List Value} (h : w.ownsRow base e 1 v n xs) : lenOf v = n := by
  rcases h.2 with ⟨rfl, rfl⟩ | ⟨g, c, cur, rfl, _⟩ <;> rfl
/-- memory while runs are read -/
structure Rest (w u : World) (A : Addr) (n c : Nat) (L : List Int) (v : Value) (D : List Int) (p : Nat) : Prop where
  own : u.ownsRow (w.heap.size + 1) 3 1 v D.length (D.map (.int .i64 ·))
  below : Below w.heap.size w u
  rdr : Rdr u w.heap.size (some A) n c p
  ints : Ints u (some A) .u8 L
theorem Rest.drew {w u : World} {A : Addr} {n c : Nat} {L : List Int} {v : Value} {D : List Int} {p : Nat} (h : Rest w u A n c L v D p) (q : Nat) : Rest w (u.drewN q) A n c L v D p :=
  ⟨ownsRow_drewN h.own q, Below_drewN h.below q, h.rdr.drewN q, h.ints.drewN q⟩
theorem Rest.took {w u u' : World} {A : Addr} {n c : Nat} {L : List Int} {v : Value} {D : List Int} {p j : Nat} (h : Rest w u A n c L v D p) (ht : Took w.heap.size p j u u') (hA : A.block < w.heap.size) : Rest w u' A n c L v D (p + j) :=
  ⟨h.own.kept (took_grown ht) (.inr (Ne.symm (own_ne h.own (by omega)))), below_of_grown h.below (took_grown ht) (Nat.le_refl _) h.below.size, took_rdr ht h.rdr,
    Cells.grown h.ints (took_grown ht) (fun ad e => .inr (by injection e with e; subst e; omega))⟩
theorem Rest.more {w u u' : World} {A : Addr} {n c : Nat} {L : List Int} {v v' : Value} {D D' : List Int} {p : Nat} (h : Rest w u A n c L v D p) (hg : u.grownBy u' v.ownBlock) (ho : u'.ownsRow (w.heap.size + 1) 3 1 v' D'.length (D'.map (.int .i64 ·))) (hA : A.block < w.heap.size) : Rest w u' A n c L v' D' p :=
  ⟨ho, Below_own h.below h.own hg (by omega) h.rdr.lt, h.rdr.grown hg (own_ne h.own (by omega)),
    fun i x hi => by
      obtain ⟨ad, e, hc⟩ := h.ints i x hi
      injection e with e
      subst e
      refine ⟨_, rfl, ?_⟩
      rw [← hc]
      exact World.cell?_of_block (hg.block _ (block_lt_of_cell hc) (by rw [block_of_add]; exact own_ne h.own (by omega)))⟩
theorem Rest.num {w u : World} {A : Addr} {n c p j : Nat} {L : List Int} {v : Value} {D : List Int} (h : Rest w u A n c L v D p) (l : List Int) (hs : l <+: L.drop p) (hlj : l.length = j) (hb : Byts l) (hA : A.block < w.heap.size) (hj : 1 ≤ j) (hj4 : j ≤ 4) (hk : p + j ≤ n) (hn : n ≤ 5000) (hc : n ≤ c) :
    Calls Try.prog 22 #[.pointer (some ⟨w.heap.size, 0, none⟩), .int .i64 j] u fun e u' => e = .returned (.int .i64 (leVal l)) ∧ Rest w u' A n c L v D (p + j) :=
  (wireNum_ok w.heap.size A n c p j l u h.rdr (ints_sub h.ints hs) hlj hb (by omega) hj hj4 hk (by omega) hc).mono fun e u' ⟨h1, h2⟩ => ⟨h1, h.took h2 hA⟩
theorem Rest.left {w u : World} {A : Addr} {n c p : Nat} {L : List Int} {v : Value} {D : List Int} (h : Rest w u A n c L v D p) (hk : p ≤ n) (hn : n ≤ 5000) :
    Calls Try.prog 21 #[.pointer (some ⟨w.heap.size, 0, none⟩)] u fun e u' => e = .returned (.int .i64 ((n : Int) - p)) ∧ Rest w u' A n c L v D p :=
  (wireLeft_ok w.heap.size (some A) n c p u h.rdr hk (by omega)).mono fun e u' ⟨h1, q, h2⟩ => ⟨h1, by rw [h2]; exact h.drew q⟩
theorem Rest.bad {w u : World} {A : Addr} {n c p : Nat} {L : List Int} {v : Value} {D : List Int} (h : Rest w u A n c L v D p) :
    Calls Try.prog 23 #[.pointer (some ⟨w.heap.size, 0, none⟩)] u fun e u' => e = .returned (.bool false) ∧ u = u' :=
  wireBad_ok w.heap.size (some A) n c p u h.rdr
set_option maxRecDepth 100000 in
set_option maxHeartbeats 4000000 in
theorem plain_spelled (A : Addr) (n c m : Nat) (l : List Int) (w : World) (hl : Ints w (some A) .u8 (Rl.spell l)) (hn : (Rl.spell l).length = n) (hc : n ≤ c) (hm : l.length = m) (hm1 : m ≤ 1000) (hn1 : n ≤ 5000) (hmay : Rl.May l) (hA : A.block < w.heap.size) :
    Calls Try.prog 15 #[.slice (some A) n c] w (ListP l w) := by
  have HN := Lib.hid hn; have HM := Lib.hid hm; have HY := Lib.hid hmay
  have HS := Lib.hid (show Rest w (w.alloc (.cells #[.slice (some A) n c, .int .i64 0, .pointer none] 57)) A n c (Rl.spell l) (.slice none 0 0) [] 0 from
    ⟨World.ownsRow_nil _ _ _ _, (Below.refl _ w).alloc (Nat.le_refl _) _, Blk.new w _ [.slice (some A) n c, .int .i64 0, .pointer none], hl.below ((Below.refl _ w).alloc (Nat.le_refl _) _)⟩)
  clear hl hn hm hmay
  go_enter Try.func15, Try.ntmps15
  go_wp2_with (first
    | (go_at_call 20; refine (wireRead_any _ _ _ _).mono ?_; rintro e w2 ⟨rfl, rfl⟩))
  go_loopw [5, 6] (fun v x wr => ∃ (j p : Nat) (v' : Value) (D E : List Int), Hid (l = D ++ E) ∧ v' = v ∧ Hid (D.length = j) ∧ Hid ((Rl.spell D).length = p) ∧ p ≤ n ∧ j ≤ m ∧ Hid (Rest w wr A n c (Rl.spell l) v' D p)) (fun v _ _ => m - lenOf v)
  case atStart => exact ⟨0, 0, _, [], l, rfl, rfl, rfl, rfl, by omega, by omega, HS.out⟩
  case round =>
    obtain ⟨j, p, v, D, E, HDE, rfl, HJ, HP, hp, hj, HR⟩ := hrel
    cases E with
    | nil =>
      have hpn : p = n := by rw [← HP.out, ← HN.out, HDE.out]; simp
      subst hpn
      go_wp2_with (first
        | (go_at_call 21; refine (HR.out.left (Nat.le_refl _) hn1).mono ?_; rintro e w3 ⟨rfl, hr3⟩)
        | (go_at_call 23; refine (hr3.bad).mono ?_; rintro e w4 ⟨rfl, rfl⟩))
      go_ret2
      obtain ⟨B, c', rfl, hcells, hlc⟩ := own_slice2 hr3.own
      have e : l = D := by rw [HDE.out]; simp
      rw [e]
      exact ⟨B, c', rfl, hlc, hcells, hr3.below⟩
    | cons x E =>
      have hdrop : (Rl.spell l).drop p = Rl.spell1 x ++ Rl.spell E := by
        rw [HDE.out, Rl.spell_app, ← HP.out, List.drop_left]
        rfl
      have hx := HY.out x (by rw [HDE.out]; simp)
      have hpx : p + (Rl.spell1 x).length ≤ n := by
        rw [← HN.out, HDE.out, Rl.spell_app, List.length_append, HP.out]
        simp [Rl.spell]
      have hjm : j + 1 ≤ m := by
        rw [← HM.out, HDE.out, List.length_append, HJ.out]
        simp
      have HDE2 : Hid (l = (D ++ [x]) ++ E) := by show _ = _; rw [HDE.out]; simp
      have HP2 : Hid ((Rl.spell (D ++ [x])).length = p + (Rl.spell1 x).length) := by
        show _ = _
        rw [Rl.spell_app, List.length_append, HP.out]
        simp [Rl.spell]
      have HDR := Lib.hid hdrop
      have HJ2 : Hid ((D ++ [x]).length = j + 1) := by show _ = _; rw [List.length_append, HJ.out]; rfl
      have HLV : Hid (lenOf v = j) := by show _ = _; rw [own_len HR.out.own, HJ.out]
      have hdl : D.length ≤ 1000 := by rw [HJ.out]; omega
      obtain ⟨x0, x1⟩ := hx
      clear hdrop
      by_cases h5 : x ≤ 255
      · have e1 : Rl.spell1 x = [x] := by unfold Rl.spell1; rw [if_pos h5]
        rw [e1] at hpx HP2 HDR
        have hpn : p + 1 ≤ n := hpx
        have HNM := Lib.hid (fun u (h : Rest w u A n c (Rl.spell l) v D p) => h.num (j := 1) [x] (by rw [HDR.out]; exact List.prefix_append _ _) rfl (by intro y hy; simp at hy; omega) hA (by omega) (by omega) hpn hn1 hc)
        have hx0 : leVal [x] = x := by simp [leVal]
        rw [hx0] at HNM
        clear e1 hx0
        go_wp2_with (first
          | (go_at_call 21; refine (HR.out.left hp hn1).mono ?_; rintro e w3 ⟨rfl, hr3⟩)
          | (go_at_call 22; refine (HNM.out _ hr3).mono ?_; rintro e w4 ⟨rfl, hr4⟩; have hsz4 := hr4.rdr.lt)
          | (at_builtin; refine wpList_appL _ rfl (.tmp 25) (.tmp 27) 22 rfl (w.heap.size + 1) 3 (.int .i64 0) 1 8 Try.underlying22 infoInt rfl (by decide) v D.length _ rfl hr4.own #[.int .i64 x] 1 rfl rfl (by simp [Value.oneCell']) (by decide) (by omega) (by decide) hsz4 ?_; intro g2 c2 w5 hown2 hg2 _; have HR5 := Lib.hid (hr4.more (D' := D ++ [x]) hg2 (by rw [List.map_append, List.length_append]; exact hown2) hA); clear hown2 hg2))
        go_roundw
        case rel => exact ⟨j + 1, p + 1, _, D ++ [x], E, HDE2, rfl, HJ2, HP2, hpn, hjm, HR5.out⟩
        case measure =>
          have h1 := own_len HR5.out.own
          have h2 := HLV.out
          rw [HJ2.out] at h1
          first
            | (rw [h1, h2]; omega)
            | (simp only [lenOf] at h1 h2 ⊢; omega)
      · have e1 : Rl.spell1 x = [0] ++ [x % 256, x / 256 % 256, x / 65536 % 256, x / 16777216] := by unfold Rl.spell1; rw [if_neg h5]; rfl
        rw [e1] at hpx HP2 HDR
        have hpn : p + 1 + 4 ≤ n := by simpa [Nat.add_assoc] using hpx
        have HNM := Lib.hid (fun u (h : Rest w u A n c (Rl.spell l) v D p) => h.num (j := 1) [0] (by rw [HDR.out, List.append_assoc]; exact List.prefix_append _ _) rfl (by intro y hy; simp at hy; omega) hA (by omega) (by omega) (by omega) hn1 hc)
        have HNX := Lib.hid (fun u (h : Rest w u A n c (Rl.spell l) v D (p + 1)) => h.num (j := 4) [x % 256, x / 256 % 256, x / 65536 % 256, x / 16777216] (by rw [← List.drop_drop, HDR.out, List.append_assoc]; exact List.prefix_append _ _) rfl (by intro y hy; simp at hy; omega) hA (by omega) (by omega) hpn hn1 hc)
        have hx0 : leVal [0] = 0 := by simp [leVal]
        rw [hx0] at HNM
        rw [Rl.four x (by omega) x1] at HNX
        clear e1 hx0 hpx
        go_wp2_with (first
          | (go_at_call 21; refine (HR.out.left hp hn1).mono ?_; rintro e w3 ⟨rfl, hr3⟩)
          | (go_at_call 22; refine (HNX.out _ hr4).mono ?_; rintro e w6 ⟨rfl, hr6⟩; have hsz4 := hr6.rdr.lt)
          | (go_at_call 22; refine (HNM.out _ hr3).mono ?_; rintro e w4 ⟨rfl, hr4⟩)
          | (at_builtin; refine wpList_appL _ rfl (.tmp 25) (.tmp 27) 22 rfl (w.heap.size + 1) 3 (.int .i64 0) 1 8 Try.underlying22 infoInt rfl (by decide) v D.length _ rfl hr6.own #[.int .i64 x] 1 rfl rfl (by simp [Value.oneCell']) (by decide) (by omega) (by decide) hsz4 ?_; intro g2 c2 w5 hown2 hg2 _; have HR5 := Lib.hid (hr6.more (D' := D ++ [x]) hg2 (by rw [List.map_append, List.length_append]; exact hown2) hA); clear hown2 hg2))
        go_roundw
        case rel => exact ⟨j + 1, p + 1 + 4, _, D ++ [x], E, HDE2, rfl, HJ2, by show _ = _; rw [HP2.out]; simp [Nat.add_assoc], hpn, hjm, HR5.out⟩
        case measure =>
          have h1 := own_len HR5.out.own
          have h2 := HLV.out
          rw [HJ2.out] at h1
          first
            | (rw [h1, h2]; omega)
            | (simp only [lenOf] at h1 h2 ⊢; omega)
end Go.Proofs.Ytbemlmpajnklpaa
