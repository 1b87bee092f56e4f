/- A file's bytes are read as what was written: the plain law's words. -/
import Derived.Test.YtokidpajialgbaaQSpWI
import Derived.Test.YtokidpajialgbaaQG42
namespace Go.Proofs.Ytokidpajialgbaa
set_option linter.unusedSimpArgs false
set_option linter.unusedVariables false
theorem leVal_snoc (a : List Int) (y : Int) : leVal (a ++ [y]) = leVal a + 256 ^ a.length * y := by
  induction a with
  | nil => simp [leVal]
  | cons x t ih => simp only [List.cons_append, leVal, ih, List.length_cons, Int.pow_succ]; rw [Int.mul_add, Int.mul_comm (256 ^ t.length) 256, Int.mul_assoc]; omega
theorem leVal_leB (x : Int) (k : Nat) : leVal (leB x k) = x % 256 ^ k := by
  induction k with
  | zero => simp [leB, leVal]
  | succ k ih =>
    simp only [leB]
    rw [leVal_snoc, ih, leB_len, Int.pow_succ]
    have h1 := Int.emod_add_mul_ediv x (256 ^ k)
    have hp : (0 : Int) < 256 ^ k := Int.pow_pos (by decide)
    have h2 := Int.emod_add_mul_ediv (x / 256 ^ k) 256
    have h3 := Int.emod_nonneg x (show (256 : Int) ^ k ≠ 0 by omega)
    have h4 := Int.emod_lt_of_pos x hp
    have h5 : 0 ≤ x / 256 ^ k % 256 ∧ x / 256 ^ k % 256 < 256 := by omega
    generalize x / 256 ^ k = q at *
    generalize (256 : Int) ^ k = p at *
    generalize x % p = r at *
    have e : x = (r + p * (q % 256)) + (p * 256) * (q / 256) := by
      rw [← h1]
      conv => lhs; rw [← h2]
      rw [Int.mul_add, Int.mul_assoc]; omega
    have hb : 0 ≤ r + p * (q % 256) := Int.add_nonneg h3 (Int.mul_nonneg (by omega) h5.1)
    have hb2 : r + p * (q % 256) < p * 256 := by
      have : p * (q % 256) ≤ p * 255 := Int.mul_le_mul_of_nonneg_left (by omega) (by omega)
      have e2 : p * 256 = p * 255 + p := by rw [show (256 : Int) = 255 + 1 from rfl, Int.mul_add, Int.mul_one]
      omega
    conv => rhs; rw [e]
    rw [Int.add_mul_emod_self_left, Int.emod_eq_of_lt hb hb2]
theorem leVal_small (x : Int) (k : Nat) (h0 : 0 ≤ x) (h1 : x < 256 ^ k) : leVal (leB x k) = x := by rw [leVal_leB, Int.emod_eq_of_lt h0 h1]
namespace Rd
/-- bytes that are read so, whatever stands round them -/
def Reads {α : Type} (m : RM α) (bs : List Int) (x : α) : Prop := ∀ (L rest : List Int) (k : Nat), L.drop k = bs ++ rest → m L ⟨k, none⟩ = (x, ⟨k + bs.length, none⟩)
theorem Reads.ret {α : Type} (x : α) : Reads (Rd.ret x) [] x := fun L rest k h => rfl
theorem drop_next {L bs rest : List Int} {k : Nat} (h : L.drop k = bs ++ rest) : L.drop (k + bs.length) = rest := by
  rw [← List.drop_drop, h, List.drop_left]
theorem drop_len {L bs rest : List Int} {k : Nat} (h : L.drop k = bs ++ rest) : L.length - k = bs.length + rest.length := by
  have := congrArg List.length h
  simpa using this
theorem Reads.bind {α β : Type} {m : RM α} {f : α → RM β} {b1 b2 : List Int} {x : α} {y : β} (h1 : Reads m b1 x) (h2 : Reads (f x) b2 y) : Reads (Rd.bind m f) (b1 ++ b2) y := fun L rest k h => by
  have h3 := h1 L (b2 ++ rest) k (by rw [h, List.append_assoc])
  have h4 := h2 L rest (k + b1.length) (drop_next (by rw [h, List.append_assoc]))
  unfold Rd.bind
  rw [h3, h4, List.length_append, Nat.add_assoc]
theorem Reads.bind0 {α β : Type} {m : RM α} {f : α → RM β} {b : List Int} {x : α} {y : β} (h1 : Reads m b x) (h2 : Reads (f x) [] y) : Reads (Rd.bind m f) b y := by simpa using Reads.bind h1 h2
theorem reads_next {bs : List Int} {j : Nat} (hj : bs.length = j) : Reads (nextM j) bs bs := fun L rest k h => by
  have hl := drop_len h
  unfold nextM
  simp only
  rw [if_neg (by omega), h, ← hj, List.take_left]
theorem reads_num (x : Int) (j : Nat) (h0 : 0 ≤ x) (h1 : x < 256 ^ j) : Reads (num j) (leB x j) x := by
  have h := Reads.bind0 (f := fun l => Rd.ret (leVal l)) (reads_next (leB_len x j)) (Reads.ret _)
  rw [leVal_small x j h0 h1] at h
  exact h
theorem reads_signed (x : Int) (h0 : -32768 ≤ x) (h1 : x < 32768) : Reads signed (leB x 2) x := by
  have h := Reads.bind0 (f := fun l => Rd.ret (leVal l)) (reads_next (leB_len x 2)) (Reads.ret _)
  rw [leVal_leB] at h
  have h2 := Reads.bind0 (f := fun v => Rd.ret (if 32768 ≤ v then v - 65536 else v)) h (Reads.ret _)
  have e : (if 32768 ≤ x % 256 ^ 2 then x % 256 ^ 2 - 65536 else x % 256 ^ 2) = x := by
    have e2 : (256 : Int) ^ 2 = 65536 := by decide
    rw [e2]
    split <;> omega
  rw [e] at h2
  exact h2
theorem reads_take {bs : List Int} {j : Int} (hj : (bs.length : Int) = j) : Reads (take j) bs bs := fun L rest k h => by
  unfold take
  rw [if_neg (by omega)]
  exact reads_next (by omega) L rest k h
theorem reads_data (d : List Int) (K : Nat) (h : (d.length : Int) < 256 ^ K) : Reads (dataM K) (leB (d.length : Int) K ++ d) d :=
  Reads.bind (reads_num _ K (by omega) h) (reads_take rfl)
theorem Reads.unless {α : Type} {m : RM α} {bs : List Int} {x y : α} (h : Reads m bs x) : Reads (fun L s => match s.bad with | some _ => (y, s) | none => m L s) bs x := fun L rest k hd => h L rest k hd
theorem reads_loop {α : Type} {f : RM α} {g : α → List Int} : ∀ (l : List α), (∀ x ∈ l, Reads f (g x) x) → Reads (loop f l.length) (l.flatMap g) l
  | [], _ => Reads.ret []
  | x :: l, h => by
    simp only [List.flatMap_cons, List.length_cons, loop]
    exact Reads.unless (Reads.bind (h x (by simp)) (Reads.bind0 (reads_loop l fun y hy => h y (by simp [hy])) (Reads.ret _)))
theorem reads_rep {α : Type} {f : RM α} {g : α → List Int} : ∀ (l : List α), (∀ x ∈ l, Reads f (g x) x) → Reads (rep f l.length) (l.flatMap g) l
  | [], _ => Reads.ret []
  | x :: l, h => by
    simp only [List.flatMap_cons, List.length_cons, rep]
    exact Reads.bind (h x (by simp)) (Reads.bind0 (reads_rep l fun y hy => h y (by simp [hy])) (Reads.ret _))
theorem reads_numbers (l : List Int) (K : Nat) (hK : 1 ≤ K) (h : ∀ x ∈ l, 0 ≤ x ∧ x < 256 ^ K) : Reads (numbers l.length K) (leL K l) l := fun L rest k hd => by
  have hl := drop_len hd
  rw [leL_len] at hl
  unfold numbers
  rw [if_neg (by omega), if_neg ?_]
  · exact reads_rep (g := fun x => leB x K) l (fun x hx => reads_num x K (h x hx).1 (h x hx).2) L rest k hd
  · have e : left L.length ⟨k, none⟩ = l.length * K + rest.length := by unfold left; simp only; omega
    rw [e]
    have hp : (0 : Int) < K := by omega
    have := (Int.le_ediv_iff_mul_le (a := (l.length : Int)) (b := ((l.length * K + rest.length : Nat) : Int)) hp).2 (by push_cast; omega)
    omega
theorem reads_signedM (l : List Int) (h : ∀ x ∈ l, -32768 ≤ x ∧ x < 32768) : Reads (signedM l.length) (leL 2 l) l :=
  reads_loop (g := fun x => leB x 2) l fun x hx => reads_signed x (h x hx).1 (h x hx).2
theorem reads_fixed (v : Int) (h0 : 0 ≤ v) (h1 : v < 256 ^ 4) : Reads (fixed v) (leB v 4) () := fun L rest k hd => by
  have h := Reads.bind0 (f := fun m => if m = v then Rd.ret () else failM 4 (k : Int)) (reads_num v 4 h0 h1) (by rw [if_pos rfl]; exact Reads.ret ())
  exact h L rest k hd
theorem reads_item {f : RM Int} {K : Nat} (x : Int × List Int) (hf : Reads f (leB x.1 K) x.1) (h : x.2.length ≤ 255) : Reads (itemM f) (itemL K x) x := by
  unfold itemL
  exact Reads.bind hf (Reads.bind0 (reads_data x.2 1 (by simp; omega)) (Reads.ret _))
theorem reads_items {f : RM Int} {K : Nat} (l : List (Int × List Int)) (at_ : Int) (hf : ∀ x ∈ l, Reads f (leB x.1 K) x.1) (h : ∀ x ∈ l, x.2.length ≤ 255) (hl : l.length ≤ 255) (hn : (itemsL K l).length ≤ 65535) : Reads (itemsM f at_) (leB ((itemsL K l).length : Int) 2 ++ itemsL K l) l := fun L rest k hd => by
  have h1 := reads_num ((itemsL K l).length : Int) 2 (by omega) (by simp; omega) L (itemsL K l ++ rest) k (by rw [hd, List.append_assoc])
  have hd2 : L.drop (k + 2) = itemsL K l ++ rest := by
    have := drop_next (bs := leB ((itemsL K l).length : Int) 2) (by rw [hd, List.append_assoc])
    rwa [leB_len] at this
  have h2 : Reads (bind (num 1) (fun many => bind (loop (itemM f) many.toNat) fun l => ret l)) (itemsL K l) l := by
    unfold itemsL itemsT
    refine Reads.bind (x := (l.length : Int)) (reads_num _ 1 (by omega) (by simp; omega)) (Reads.bind0 ?_ (Reads.ret _))
    exact reads_loop (g := itemL K) l fun x hx => reads_item x (hf x hx) (h x hx)
  have h3 := h2 L rest (k + 2) hd2
  unfold itemsM
  unfold Rd.bind at h3 ⊢
  rw [h1]
  simp only [leB_len] at h3 ⊢
  unfold Rd.ret at h3
  try simp only at h3
  have e1 := congrArg Prod.fst h3
  have e2 := congrArg Prod.snd h3
  simp only at e1 e2
  rw [e1, e2]
  rw [if_pos (by push_cast; omega)]
  rw [List.length_append, leB_len, Nat.add_assoc]
theorem reads_pure (u p : Int) (d : List Int) (hu : 0 ≤ u ∧ u ≤ 255) (hp : 0 ≤ p ∧ p ≤ 65535) (hd : d.length ≤ 16777215) : Reads pureM (leL 1 [u] ++ (leL 2 [p] ++ (leB (d.length : Int) 3 ++ d))) (u, p, d) := by
  simp only [leL, List.flatMap_cons, List.flatMap_nil, List.append_nil]
  exact Reads.bind (reads_num u 1 hu.1 (by simp; omega)) (Reads.bind (reads_num p 2 hp.1 (by simp; omega)) (Reads.bind0 (reads_data d 3 (by simp; omega)) (Reads.ret _)))
theorem reads_level (u : Int) (hu : 0 ≤ u ∧ u ≤ 1) : Reads levelM (leL 4 [1] ++ leL 1 [u]) u := by
  simp only [leL, List.flatMap_cons, List.flatMap_nil, List.append_nil]
  refine Reads.bind (reads_fixed 1 (by decide) (by decide)) ?_
  intro L rest k hd
  exact Reads.bind0 (f := fun u => bind (if 1 < u then failM 4 (k : Int) else ret ()) fun _ => ret u) (reads_num u 1 hu.1 (by simp; omega)) (by rw [if_neg (by omega)]; exact Reads.bind0 (Reads.ret _) (Reads.ret _)) L rest k hd
theorem reads_glued (d : List Int) (h : d.length = 9) (hd : d.take 7 = [88, 84, 97, 112, 101, 33, 26]) : Reads gluedM d d := fun L rest k hk => by
  unfold gluedM Rd.bind
  rw [reads_take (j := 9) (by omega) L rest k hk]
  simp only
  rw [if_pos hd]
theorem reads_samples (at_ p r kk c : Int) (d : List Int) (hp : 0 ≤ p ∧ p ≤ 65535) (hr : 0 ≤ r ∧ r ≤ 16777215) (hk : 0 ≤ kk ∧ kk ≤ 255) (hc : 0 ≤ c ∧ c ≤ 4294967295) (hd : d.length ≤ 1048576) :
    Reads (samplesM at_) (leL 4 [(d.length : Int) + 10] ++ (leL 2 [p] ++ (leL 3 [r] ++ (leL 1 [kk] ++ (leL 4 [c] ++ d))))) (p, r, kk, c, d) := by
  simp only [leL, List.flatMap_cons, List.flatMap_nil, List.append_nil]
  refine Reads.bind (reads_num _ 4 (by omega) (by simp; omega)) (Reads.bind (reads_num p 2 hp.1 (by simp; omega)) (Reads.bind (reads_num r 3 hr.1 (by simp; omega)) (Reads.bind (reads_num kk 1 hk.1 (by simp; omega)) (Reads.bind (reads_num c 4 hc.1 (by simp; omega)) ?_))))
  rw [if_neg (by omega)]
  exact Reads.bind0 (reads_take (by omega)) (Reads.ret _)
end Rd
end Go.Proofs.Ytokidpajialgbaa
