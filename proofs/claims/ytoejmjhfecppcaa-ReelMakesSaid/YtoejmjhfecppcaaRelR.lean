/- Reel in general: shorts; the document's blocks as a list; the state of a tape in the making. -/
import Derived.Test.YtoejmjhfecppcaaRelQ
namespace Go.Proofs.Ytoejmjhfecppcaa
set_option linter.unusedSimpArgs false
set_option linter.unusedVariables false
open Go.RowKit Go.Sort
/-- how many at the front are short, so many at most -/
def shortsF : Nat → List Int → Nat
  | 0, _ => 0
  | _ + 1, [] => 0
  | m + 1, x :: l => if x ≤ 65535 then shortsF m l + 1 else 0
def shortsN (l : List Int) : Nat := shortsF 255 l
theorem shortsF_le (m : Nat) (l : List Int) : shortsF m l ≤ l.length ∧ shortsF m l ≤ m := by
  induction m generalizing l with
  | zero => simp [shortsF]
  | succ m ih =>
    cases l with
    | nil => simp [shortsF]
    | cons x l =>
      have := ih l
      simp only [shortsF]
      split <;> simp <;> omega
theorem shortsF_at (m : Nat) (l : List Int) (k : Nat) (hk : k ≤ l.length) (hm : k ≤ m) (hs : ∀ (j : Nat) (x : Int), j < k → l[j]? = some x → x ≤ 65535) (he : k = m ∨ k = l.length ∨ ∃ x, l[k]? = some x ∧ 65535 < x) : shortsF m l = k := by
  induction m generalizing l k with
  | zero => simp [shortsF]; omega
  | succ m ih =>
    cases l with
    | nil => simp [shortsF] at hk ⊢; omega
    | cons x l =>
      simp only [shortsF]
      cases k with
      | zero =>
        rcases he with h | h | ⟨y, h1, h2⟩
        · omega
        · simp at h
        · simp at h1; subst h1; rw [if_neg (by omega)]
      | succ k =>
        have h0 := hs 0 x (by omega) (by simp)
        rw [if_pos h0, ih l k (by simpa using hk) (by omega) (fun j y hj hy => hs (j + 1) y (by omega) (by simpa using hy)) (by
          rcases he with h | h | ⟨y, h1, h2⟩
          · exact .inl (by omega)
          · exact .inr (.inl (by simpa using h))
          · exact .inr (.inr ⟨y, by simpa using h1, h2⟩))]
set_option maxRecDepth 10000 in
set_option maxHeartbeats 1000000 in
theorem shorts_any (A : Option Addr) (n c : Nat) (l : List Int) (w : World) (hl : Ints w A .i64 l) (hn : l.length = n) (hm : n ≤ 140737488355328) :
    Calls Try.prog 39 #[.slice A n c] w fun e w' => e = .returned (.int .i64 (shortsN l)) ∧ w = w' := by
  have HL := Lib.hid hl; have HN := Lib.hid hn
  clear hl hn
  obtain ⟨S, hS⟩ : ∃ S, S = shortsN l := ⟨_, rfl⟩
  have HSN := Lib.hid hS
  rw [← hS]
  clear hS
  go_enter Try.func39, Try.ntmps39
  go_wp2_with fail
  go_loopw [3] (fun i wr => ∃ k : Nat, k ≤ n ∧ k ≤ 255 ∧ i = .int .i64 k ∧ wr = w ∧ Hid (∀ (j : Nat) (x : Int), j < k → l[j]? = some x → x ≤ 65535)) (fun i _ => n - (intOf i).toNat)
  case atStart => exact ⟨0, by omega, by omega, rfl, rfl, Lib.hid (fun j x hj => by omega)⟩
  case round =>
    obtain ⟨k, hk, h255, rfl, rfl, HS⟩ := hrel
    by_cases hlt : k < n
    · obtain ⟨x, hx⟩ : ∃ x, l[k]? = some x := ⟨_, List.getElem?_eq_getElem (by have := HN.out; omega)⟩
      obtain ⟨ad, rfl, ca⟩ := HL.out k (.int .i64 x) (by rw [List.getElem?_map, hx]; rfl)
      have HX := Lib.hid hx
      have hlt2 : (k : Int) < n := by omega
      clear hx
      by_cases h2 : k < 255
      · have h22 : (k : Int) < 255 := by omega
        by_cases h3 : x ≤ 65535
        · go_wp2_with fail
          go_roundw
          case rel => exact ⟨k + 1, by omega, by omega, by go_num, trivial, Lib.hid (fun j y hj hy => by
            by_cases e : j = k
            · subst e; rw [HX.out] at hy; injection hy with hy; omega
            · exact HS.out j y (by omega) hy)⟩
          case measure => simp [intOf]; omega
        · have h4 : 65535 < x := by omega
          go_wp2_with fail
          go_ret
          obtain rfl : S = k := by rw [HSN.out]; exact shortsF_at 255 l k (by have := HN.out; omega) h255 HS.out (.inr (.inr ⟨x, HX.out, h4⟩))
          exact ⟨rfl, rfl⟩
      · obtain rfl : k = 255 := by omega
        clear hlt2
        have h5 : (255 : Int) < n := by omega
        go_wp2_with fail
        go_ret
        obtain rfl : S = 255 := by rw [HSN.out]; exact shortsF_at 255 l 255 (by have := HN.out; omega) h255 HS.out (.inl rfl)
        exact ⟨rfl, rfl⟩
    · obtain rfl : k = n := by omega
      go_wp2_with fail
      go_ret
      obtain rfl : S = k := by rw [HSN.out]; exact shortsF_at 255 l k (by have := HN.out; omega) h255 HS.out (.inr (.inl HN.out.symm))
      exact ⟨rfl, rfl⟩
/-- where the block of number k begins -/
def posA (L : List Int) : Nat → Nat
  | 0 => 0
  | k + 1 => posA L k + max 1 (shortsN (L.drop (posA L k)))
def pulsB (t : List Int) : BlkL := { nums := [19, 0, 0, 0, 0, 0, 0, 0, 0, 0, 0, 0], data := [], times := t, items := [], pilots := [], syms := [], reps := [] }
def headB (u : Int) : BlkL := { nums := [43, 0, 0, 0, 0, 0, 0, 0, 0, u, 0, 0], data := [], times := [], items := [], pilots := [], syms := [], reps := [] }
def blkA (L : List Int) (k : Nat) : BlkL :=
  let s := shortsN (L.drop (posA L k))
  if s = 0 then longB (L.getD (posA L k) 0) else pulsB ((L.drop (posA L k)).take s)
def blksA (u : Int) (L : List Int) (k : Nat) : List BlkL := headB u :: (List.range k).map (blkA L)
theorem blksA_succ (u : Int) (L : List Int) (k : Nat) : blksA u L (k + 1) = blksA u L k ++ [blkA L k] := by simp [blksA, List.range_succ]
theorem blksA_len (u : Int) (L : List Int) (k : Nat) : (blksA u L k).length = k + 1 := by simp [blksA]
/-- a tape's blocks, cell by cell -/
def BlksC (u : World) : List BlkL → List Value → Prop
  | [], xs => xs = []
  | B :: P, xs => ∃ cs ys, xs = cs ++ ys ∧ cs.length = 18 ∧ BlkV (tmask u) cs B ∧ BlksC u P ys
theorem BlksC.keep {u u' : World} (hk : ∀ a v, (tmask u).cell? a = some v → (tmask u').cell? a = some v) : ∀ {P : List BlkL} {xs : List Value}, BlksC u P xs → BlksC u' P xs
  | [], _, h => h
  | _ :: _, _, ⟨cs, ys, e, hl, hb, h⟩ => ⟨cs, ys, e, hl, hb.keep hk, BlksC.keep hk h⟩
theorem BlksC.snoc {u : World} {B : BlkL} {cs : List Value} (hl : cs.length = 18) (hb : BlkV (tmask u) cs B) : ∀ {P : List BlkL} {xs : List Value}, BlksC u P xs → BlksC u (P ++ [B]) (xs ++ cs)
  | [], _, h => by subst h; exact ⟨cs, [], by simp, hl, hb, rfl⟩
  | _ :: _, _, ⟨ds, ys, e, hd, h0, h⟩ => by subst e; exact ⟨ds, _, by simp, hd, h0, BlksC.snoc hl hb h⟩
theorem BlksC.get {u : World} : ∀ {P : List BlkL} {xs : List Value}, BlksC u P xs → ∀ i B, P[i]? = some B → ∃ cs, cs.length = 18 ∧ BlkV (tmask u) cs B ∧ ∀ j x, cs[j]? = some x → xs[i * 18 + j]? = some x
  | [], _, _, i, x, h => by simp at h
  | y :: P, xs, ⟨ds, ys, e, hd, h0, h⟩, i, B, hi => by
    subst e
    cases i with
    | zero =>
      simp at hi; subst hi
      refine ⟨ds, hd, h0, fun j x hx => ?_⟩
      rw [Nat.zero_mul, Nat.zero_add, List.getElem?_append_left ((List.getElem?_eq_some_iff.1 hx).1)]
      exact hx
    | succ i =>
      simp at hi
      obtain ⟨cs, hc, hb, hx⟩ := BlksC.get h i B hi
      refine ⟨cs, hc, hb, fun j x hj => ?_⟩
      have := hx j x hj
      rw [List.getElem?_append_right (by omega), show (i + 1) * 18 + j - ds.length = i * 18 + j by omega]
      exact this
/-- the state of a tape in the making -/
structure XS (W u : World) (gt : Nat) (vb : Value) (Bs : List BlkL) : Prop where
  res : Blk u W.heap.size 26 [.int .i64 0, .int .i64 0, .slice none 0 0]
  tape : Blk u gt 26 [.int .i64 1, .int .i64 20, vb]
  gtLe : W.heap.size < gt
  row : ∃ xs, u.ownsRow W.heap.size 87 18 vb Bs.length xs ∧ BlksC u Bs xs
  below : Below W.heap.size W u
/-- its row of blocks has grown, the tape's own cells say nothing of it yet -/
structure XG (W u : World) (gt : Nat) (vb vb' : Value) (Bs : List BlkL) : Prop where
  res : Blk u W.heap.size 26 [.int .i64 0, .int .i64 0, .slice none 0 0]
  tape : Blk u gt 26 [.int .i64 1, .int .i64 20, vb]
  gtLe : W.heap.size < gt
  row : ∃ xs, u.ownsRow W.heap.size 87 18 vb' Bs.length xs ∧ BlksC u Bs xs
  below : Below W.heap.size W u
section
variable {W u w' : World} {gt : Nat} {vb : Value} {Bs : List BlkL}
theorem XS.size (h : XS W u gt vb Bs) : W.heap.size < u.heap.size := h.res.lt
theorem XS.below_ (h : XS W u gt vb Bs) (hb : Below u.heap.size u w') : XS W w' gt vb Bs := by
  obtain ⟨xp, h1, h2⟩ := h.row
  exact ⟨h.res.below_ hb, h.tape.below_ hb, h.gtLe, ⟨xp, own_below h1 hb, h2.keep (tmask_below hb)⟩, h.below.trans (hb.mono (Nat.le_of_lt h.size))⟩
theorem XS.grow (h : XS W u gt vb Bs) {B : BlkL} {cs xs : List Value} {vb' : Value} {n : Nat} (hp : u.ownsRow W.heap.size 87 18 vb Bs.length xs) (hc : BlksC u Bs xs) (hl : cs.length = 18) (hB : BlkV (tmask u) cs B) (hn : n = Bs.length + 1)
    (hown : w'.ownsRow W.heap.size 87 18 vb' n (xs ++ cs)) (hg : u.grownBy w' vb.ownBlock) : XG W w' gt vb vb' (Bs ++ [B]) := by
  subst hn
  exact ⟨h.res.grown hg (own_ne_ty hp h.res (by decide)), h.tape.grown hg (own_ne_ty hp h.tape (by decide)), h.gtLe,
    ⟨_, by rw [List.length_append]; exact hown, BlksC.snoc hl (hB.keep (tmask_grown hp (.inl rfl) hg)) (hc.keep (tmask_grown hp (.inl rfl) hg))⟩, Below_own h.below hp hg (Nat.le_refl _) (Nat.le_of_lt h.size)⟩
theorem XG.done {vb' : Value} (h : XG W u gt vb vb' Bs) : XS W (u.setCell ⟨gt, 2, none⟩ vb') gt vb' Bs := by
  obtain ⟨xp, h1, h2⟩ := h.row
  exact ⟨h.res.far (by simpa using Nat.ne_of_lt h.gtLe) _, h.tape.set_ 2 _, h.gtLe, ⟨xp, own_set h1 h.tape (by decide) _ _, h2.keep (tmask_set h.tape (.inr rfl) _ _)⟩, h.below.setCell (by simpa using Nat.le_of_lt h.gtLe) _⟩
end
/-- what the reader sees -/
theorem slB_of {u : World} {base : Nat} {vb : Value} {Bs : List BlkL} {xp : List Value} (h1 : u.ownsRow base 87 18 vb Bs.length xp) (h2 : BlksC u Bs xp) (hm : Bs.length ≤ 140737488355328) : SlB u vb Bs := by
  rcases h1.2 with ⟨e1, e2⟩ | ⟨g, cap, cur, e1, _⟩
  · refine ⟨none, 0, 0, e1, ⟨e2, by decide⟩, fun i x hi => ?_⟩
    rw [List.length_eq_zero_iff.1 e2] at hi
    simp at hi
  · subst e1
    refine ⟨_, _, _, rfl, ⟨rfl, hm⟩, fun i B hi => ?_⟩
    obtain ⟨cs, hl, hb, hx⟩ := h2.get i B hi
    refine ⟨_, cs, rfl, hl, hb.keep (tmask_keep u), fun j x hj => ?_⟩
    have := h1.cells (g := g) rfl _ x (hx j x hj)
    rw [Addr.add_mid, Nat.zero_add] at this
    rw [Addr.add_mid, Nat.zero_add, Addr.add_mid]
    exact this
theorem own_setRow {w : World} {base : Nat} {e t : TypeId} {size n g : Nat} {v : Value} {xs cs : List Value} (h : w.ownsRow base e size v n xs) (hb : Blk w g t cs) (hne : e ≠ t) (ys : Array Value) : (w.setRow g ys).ownsRow base e size v n xs := by
  refine ⟨h.1, ?_⟩
  rcases h.2 with e1 | ⟨k, cap, cur, e1, hle, hh, rest⟩
  · exact .inl e1
  · refine .inr ⟨k, cap, cur, e1, hle, ?_, rest⟩
    have hkg : k ≠ g := by
      have := own_ne_ty h hb hne
      intro hk
      apply this
      rw [e1, hk]
      rfl
    rw [← hh]
    exact setRow_other w g k ys hkg
theorem XS.slB {W u : World} {gt : Nat} {vb : Value} {Bs : List BlkL} (h : XS W u gt vb Bs) (hm : Bs.length ≤ 140737488355328) (ys : Array Value) : SlB (u.setRow W.heap.size ys) vb Bs := by
  obtain ⟨xp, h1, h2⟩ := h.row
  exact slB_of (own_setRow h1 h.res (by decide) ys) (h2.keep (tmask_setRow h.res (.inr rfl) ys)) hm
theorem add_add (ad : Addr) (m i : Nat) : (ad.add m).add i = ad.add (m + i) := by
  unfold Addr.add
  by_cases h1 : m = 0
  · subst h1; simp
  · by_cases h2 : i = 0
    · subst h2; simp [h1]
    · simp [h1, h2, Nat.add_assoc]
theorem Ints.drop {w : World} {A : Option Addr} {k : IntKind} {l : List Int} (h : Ints w A k l) (m : Nat) : Ints w (A.map (·.add m)) k (l.drop m) := fun i v hi => by
  rw [List.map_drop, List.getElem?_drop] at hi
  obtain ⟨ad, e, hc⟩ := h (m + i) v hi
  refine ⟨ad.add m, by rw [e]; rfl, ?_⟩
  rw [add_add ad m i]
  exact hc
theorem Ints.take {w : World} {A : Option Addr} {k : IntKind} {l : List Int} (h : Ints w A k l) (m : Nat) : Ints w A k (l.take m) := fun i v hi => by
  rw [List.map_take] at hi
  have hlt := (List.getElem?_eq_some_iff.1 hi).1
  rw [List.getElem?_take_of_lt (by simp at hlt; omega)] at hi
  exact h i v hi
end Go.Proofs.Ytoejmjhfecppcaa
