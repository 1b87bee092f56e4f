/- ZlibBack: what is cut, or spoilt: plain, and Unpack at it. -/
import Derived.Test.YtcjdeinmmokdgaaZlbE
namespace Go.Proofs.Ytcjdeinmmokdgaa
set_option linter.unusedSimpArgs false
set_option linter.unusedVariables false
open Go.RowKit
namespace Zl
/-- packed bytes, with any sum -/
def form (bs : List Int) (S : Int) : List Int := Hf.hdr 1 bs.length ++ bs ++ tail4 S
theorem pack_form (bs : List Int) : pack bs = 120 :: 1 :: form bs (Ad.of bs) := by simp [pack, form]
theorem form_length (bs : List Int) (S : Int) : (form bs S).length = bs.length + 9 := by simp [form, Hf.hdr, tail4]
theorem inf_form (a d S : Int) (bs more : List Int) (lim : Int) (hn : bs.length ≤ 65535) (hl : (bs.length : Int) ≤ lim) : Hf.inf 1 ((a :: d :: (form bs S ++ more)).drop 2) 0 [] lim = .ok bs (5 + bs.length) := by
  have h := Hf.inf_one 0 [] bs (tail4 S ++ more) 1 bs.length [] lim (Nat.le_refl _) hn rfl
  have e : ((a :: d :: (form bs S ++ more)).drop 2) = [] ++ (Hf.hdr 1 bs.length ++ (bs ++ (tail4 S ++ more))) := by
    simp [form, List.append_assoc]
  rw [e]
  have h2 : ¬ (lim - (([] : List Int).length : Int) < bs.length) := by simp; omega
  rw [if_neg h2, if_pos rfl] at h
  simpa using h
theorem be_form (a d S : Int) (bs more : List Int) (h0 : 0 ≤ S) (h1 : S ≤ 4294967295) : be ((a :: d :: (form bs S ++ more)).drop (2 + (5 + bs.length))) 4 = S := by
  have e : ((a :: d :: (form bs S ++ more)).drop (2 + (5 + bs.length))) = tail4 S ++ more := by
    have e1 : (a :: d :: (form bs S ++ more)) = ([a, d] ++ Hf.hdr 1 bs.length ++ bs) ++ (tail4 S ++ more) := by
      simp [form, List.append_assoc]
    have e2 : 2 + (5 + bs.length) = ([a, d] ++ Hf.hdr 1 bs.length ++ bs).length := by simp [Hf.hdr]; omega
    rw [e1, e2, List.drop_left]
  rw [e]
  exact be4_of _ h0 h1 more
theorem byts_form (bs : List Int) (S : Int) (h0 : 0 ≤ S) (h1 : S ≤ 4294967295) (hr : ∀ x ∈ bs, 0 ≤ x ∧ x ≤ 255) (hn : bs.length ≤ 65535) : ∀ x ∈ form bs S, 0 ≤ x ∧ x ≤ 255 := by
  intro x hx
  simp only [form, List.mem_cons, List.mem_append, Hf.hdr, tail4, List.not_mem_nil, or_false] at hx
  rcases hx with (h | h) | h
  · omega
  · exact hr x h
  · omega
theorem sum_set (bs : List Int) (k : Nat) (hk : k < bs.length) (y : Int) : (bs.set k y).sum = bs.sum - bs[k] + y := by
  induction bs generalizing k with
  | nil => simp at hk
  | cons x t ih =>
    cases k with
    | zero => simp; omega
    | succ k =>
      have := ih k (by simpa using hk)
      simp only [List.set_cons_succ, List.sum_cons, List.getElem_cons_succ, this]
      omega
theorem of_mod (l : List Int) : Ad.of l % 65536 = Ad.lo l := by
  have := Ad.lo_range l
  unfold Ad.of
  omega
/-- one byte another one: another sum -/
theorem of_spoilt (bs : List Int) (k : Nat) (hk : k < bs.length) (h0 : 0 ≤ bs[k]) (h1 : bs[k] ≤ 255) : Ad.of bs ≠ Ad.of (bs.set k ((bs[k] + 1) % 256)) := by
  intro h
  have h2 := of_mod bs
  rw [h, of_mod] at h2
  unfold Ad.lo at h2
  rw [Ad.run_fst, Ad.run_fst, sum_set bs k hk] at h2
  omega
theorem set_form (bs more : List Int) (S : Int) (k : Nat) (hk : k < bs.length) (y : Int) : (120 :: 1 :: (form bs S ++ more)).set (7 + k) y = 120 :: 1 :: (form (bs.set k y) S ++ more) := by
  have e : (120 :: 1 :: (form bs S ++ more)) = ([120, 1] ++ Hf.hdr 1 bs.length) ++ (bs ++ (tail4 S ++ more)) := by simp [form]
  have e2 : (120 :: 1 :: (form (bs.set k y) S ++ more)) = ([120, 1] ++ Hf.hdr 1 (bs.set k y).length) ++ (bs.set k y ++ (tail4 S ++ more)) := by simp [form]
  have e7 : 7 + k - (([120, 1] : List Int) ++ Hf.hdr 1 bs.length).length = k := by simp [Hf.hdr] <;> omega
  rw [e, e2, List.set_append_right _ _ (by simp [Hf.hdr] <;> omega), e7, List.set_append_left _ _ hk]
  simp
theorem get_form (bs more : List Int) (S : Int) (k : Nat) (hk : k < bs.length) : (120 :: 1 :: (form bs S ++ more))[7 + k]? = some bs[k] := by
  have e : (120 :: 1 :: (form bs S ++ more)) = ([120, 1] ++ Hf.hdr 1 bs.length) ++ (bs ++ (tail4 S ++ more)) := by simp [form]
  have e7 : 7 + k - (([120, 1] : List Int) ++ Hf.hdr 1 bs.length).length = k := by simp [Hf.hdr] <;> omega
  rw [e, List.getElem?_append_right (by simp [Hf.hdr] <;> omega), e7, List.getElem?_append_left hk, List.getElem?_eq_getElem hk]
theorem fits_usual : Fits 120 1 := by decide
/-- what comes of bytes that are cut -/
theorem inf_cut_form (bs : List Int) (S : Int) (k : Nat) (hn : bs.length ≤ 65535) (hk : k < bs.length + 5) : Hf.inf 1 ((form bs S).take k) 0 [] bs.length = .err 2 := by
  have h := Hf.inf_cut 0 [] bs 1 bs.length k [] bs.length (Nat.le_refl _) hn rfl (by omega) (by simp)
  have e : (form bs S).take k = [] ++ (Hf.hdr 1 bs.length ++ bs).take k := by
    unfold form
    rw [List.take_append_of_le_length (by simp [Hf.hdr]; omega), List.nil_append]
  rw [e]
  exact h
theorem inf_short_form (bs : List Int) (S : Int) (k : Nat) (hn : bs.length ≤ 65535) (hk : bs.length + 5 ≤ k) : Hf.inf 1 ((form bs S).take k) 0 [] bs.length = .ok bs (5 + bs.length) := by
  have h := Hf.inf_one 0 [] bs ((tail4 S).take (k - (bs.length + 5))) 1 bs.length [] bs.length (Nat.le_refl _) hn rfl
  have e : (form bs S).take k = [] ++ (Hf.hdr 1 bs.length ++ (bs ++ (tail4 S).take (k - (bs.length + 5)))) := by
    unfold form
    have hl : (Hf.hdr 1 bs.length ++ bs).length = bs.length + 5 := by simp [Hf.hdr]
    rw [List.take_append, List.take_of_length_le (by omega), hl, List.nil_append, List.append_assoc]
  rw [e]
  rw [if_neg (by simp), if_pos rfl] at h
  simpa using h
end Zl
theorem ints_take {w : World} {A : Option Addr} {kd : IntKind} {l : List Int} (h : Ints w A kd l) (k : Nat) : Ints w A kd (l.take k) := fun i v hi => by
  refine h i v ?_
  rw [List.getElem?_map, List.getElem?_take] at hi
  rw [List.getElem?_map]
  split at hi
  · exact hi
  · cases hi
/-- packed bytes, cut -/
theorem unpack_cut (g k c : Nat) (bs : List Int) (u : World) (h : Ints u (some ⟨g, 0, none⟩) .u8 (120 :: 1 :: Zl.form bs (Ad.of bs))) (hr : ∀ x ∈ bs, 0 ≤ x ∧ x ≤ 255) (hn : bs.length ≤ 65535) (hk : k < bs.length + 11) (hc : bs.length + 11 ≤ c) (hg : g < u.heap.size) :
    Calls Try.prog 12 #[.slice (some ⟨g, 0, none⟩) k c, .int .i64 bs.length] u (UnpE 2 u) := by
  have hb := Zl.byts_form bs (Ad.of bs) (Ad.of_range bs).1 (Ad.of_range bs).2 hr hn
  have hall : ∀ x ∈ 120 :: 1 :: Zl.form bs (Ad.of bs), 0 ≤ x ∧ x ≤ 255 := fun x hx => by
    rcases List.mem_cons.1 hx with rfl | hx
    · omega
    · rcases List.mem_cons.1 hx with rfl | hx
      · omega
      · exact hb x hx
  rcases Nat.lt_or_ge k 2 with h2 | h2
  · exact unpack_head _ k c bs.length 2 u (by omega) (by omega) (by decide) ((headed_short _ k c u h2).mono fun e w' ⟨h1, h3⟩ => ⟨h1, 0, by rw [← h3]; rfl⟩)
  · have hlen : ((120 :: 1 :: Zl.form bs (Ad.of bs)).take k).length = k := by simp [Zl.form_length]; omega
    have hd : ((120 :: 1 :: Zl.form bs (Ad.of bs)).take k).drop 2 = (Zl.form bs (Ad.of bs)).take (k - 2) := by
      obtain ⟨j, rfl⟩ : ∃ j, k = j + 2 := ⟨k - 2, by omega⟩
      simp
    have hH := heads_fine ⟨g, 0, none⟩ k c 120 1 _ u h (by omega) (by omega) (by omega) (by omega) h2 (by omega) (by omega) Zl.fits_usual
    rcases Nat.lt_or_ge (k - 2) (bs.length + 5) with h3 | h3
    · exact unpack_err ⟨g, 0, none⟩ k c _ 1 bs.length 2 u (ints_take h k) (fun x hx => hall x (List.mem_of_mem_take hx)) hlen h2 (by omega) (by omega) (by omega) hg (by omega) (by omega) hH (by rw [hd]; exact Zl.inf_cut_form bs _ _ hn h3)
    · exact unpack_short ⟨g, 0, none⟩ k c _ 1 bs.length bs (5 + bs.length) u (ints_take h k) (fun x hx => hall x (List.mem_of_mem_take hx)) hlen h2 (by omega) (by omega) (by omega) hg (by omega) (by omega) hH (by rw [hd]; exact Zl.inf_short_form bs _ _ hn h3) (by omega) (by omega)
/-- packed bytes, spoilt -/
theorem unpack_spoilt (g N c : Nat) (bs more : List Int) (S : Int) (u : World) (h : Ints u (some ⟨g, 0, none⟩) .u8 (120 :: 1 :: (Zl.form bs S ++ more))) (hr : ∀ x ∈ bs, 0 ≤ x ∧ x ≤ 255) (hm : ∀ x ∈ more, 0 ≤ x ∧ x ≤ 255) (hn : bs.length ≤ 65535) (hN : bs.length + 11 + more.length = N) (hN2 : N ≤ 1000000) (hc : N ≤ c) (hg : g < u.heap.size) (h0 : 0 ≤ S) (h1 : S ≤ 4294967295) (hS : S ≠ Ad.of bs) :
    Calls Try.prog 12 #[.slice (some ⟨g, 0, none⟩) N c, .int .i64 bs.length] u (UnpE 7 u) := by
  have hb := Zl.byts_form bs S h0 h1 hr hn
  have hall : ∀ x ∈ 120 :: 1 :: (Zl.form bs S ++ more), 0 ≤ x ∧ x ≤ 255 := fun x hx => by
    rcases List.mem_cons.1 hx with rfl | hx
    · omega
    · rcases List.mem_cons.1 hx with rfl | hx
      · omega
      · rcases List.mem_append.1 hx with hx | hx
        · exact hb x hx
        · exact hm x hx
  exact unpack_sum ⟨g, 0, none⟩ N c _ 1 bs.length bs (5 + bs.length) u h hall (by simp [Zl.form_length]; omega) (by omega) (by omega) hc hN2 hg (by omega) (by omega) (heads_fine _ N c 120 1 _ u h (by omega) (by omega) (by omega) (by omega) (by omega) hc (by omega) Zl.fits_usual) (Zl.inf_form 120 1 S bs more bs.length hn (Int.le_refl _)) (by omega) hr (by omega) (by rw [Zl.be_form 120 1 S bs more h0 h1]; exact hS)
end Go.Proofs.Ytcjdeinmmokdgaa
