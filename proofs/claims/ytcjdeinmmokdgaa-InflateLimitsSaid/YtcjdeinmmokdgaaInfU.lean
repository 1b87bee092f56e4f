/- InflateBack: what stored bytes are unpacked to: plain. -/
import Derived.Test.YtcjdeinmmokdgaaInfT
import Derived.Test.YtcjdeinmmokdgaaInfI
namespace Go.Proofs.Ytcjdeinmmokdgaa
set_option linter.unusedSimpArgs false
set_option linter.unusedVariables false
open Go.RowKit
namespace Hf
theorem stored_short (bs : List Int) (h : bs.length ≤ 65535) : stored 2 bs = hdr 1 bs.length ++ bs := stored_last 2 bs (by omega) h
theorem stored_long (bs : List Int) (q : Nat) (hq : q = 65535) (h : q < bs.length) (h2 : bs.length ≤ 70000) : stored 2 bs = hdr 0 q ++ (bs.take q ++ (hdr 1 (bs.length - q) ++ bs.drop q)) := by
  subst hq
  rw [stored_more 1 bs h, stored_last 1 (bs.drop 65535) (by omega) (by simp; omega), List.length_drop]
theorem stored_len (bs : List Int) (h2 : bs.length ≤ 70000) : (stored 2 bs).length = if bs.length ≤ 65535 then bs.length + 5 else bs.length + 10 := by
  by_cases h : bs.length ≤ 65535
  · rw [if_pos h, stored_short bs h]; simp [hdr]
  · obtain ⟨q, hq⟩ : ∃ q, q = 65535 := ⟨_, rfl⟩
    rw [if_neg h, stored_long bs q hq (by omega) h2]; simp [hdr]; omega
theorem two_pre (bs : List Int) (q : Nat) (h : q < bs.length) : (hdr 0 q ++ bs.take q).length = 5 + q := by simp [hdr]; omega
theorem inf_stored (bs more : List Int) (h2 : bs.length ≤ 70000) (lim : Int) (hl : (bs.length : Int) ≤ lim) : inf 2 (stored 2 bs ++ more) 0 [] lim = .ok bs (stored 2 bs).length := by
  by_cases h : bs.length ≤ 65535
  · have k := inf_one 1 [] bs more 1 bs.length [] lim (Nat.le_refl _) h rfl
    rw [if_neg (by simp; omega), if_pos rfl] at k
    rw [stored_len bs h2, if_pos h, stored_short bs h, List.append_assoc]
    simpa [Nat.add_comm] using k
  · obtain ⟨q, hq⟩ : ∃ q, q = 65535 := ⟨_, rfl⟩
    have h' : q < bs.length := by omega
    have k := inf_one 1 [] (bs.take q) (hdr 1 (bs.length - q) ++ (bs.drop q ++ more)) 0 q [] lim (by omega) (by omega) (by simp; omega)
    rw [if_neg (by simp; omega), if_neg (by omega)] at k
    have k2 := inf_one 0 (hdr 0 q ++ bs.take q) (bs.drop q) more 1 (bs.length - q) (bs.take q) lim (Nat.le_refl _) (by omega) (by simp)
    rw [two_pre bs q h', if_neg (by simp; omega), if_pos rfl, List.take_append_drop] at k2
    rw [stored_len bs h2, if_neg h, stored_long bs q hq h' h2]
    have e : hdr 0 q ++ (bs.take q ++ (hdr 1 (bs.length - q) ++ bs.drop q)) ++ more = [] ++ (hdr 0 q ++ (bs.take q ++ (hdr 1 (bs.length - q) ++ (bs.drop q ++ more)))) := by simp [List.append_assoc]
    have e2 : hdr 0 q ++ bs.take q ++ (hdr 1 (bs.length - q) ++ (bs.drop q ++ more)) = [] ++ (hdr 0 q ++ (bs.take q ++ (hdr 1 (bs.length - q) ++ (bs.drop q ++ more)))) := by simp [List.append_assoc]
    rw [e]
    rw [e2] at k2
    have k3 : inf 2 ([] ++ (hdr 0 q ++ (bs.take q ++ (hdr 1 (bs.length - q) ++ (bs.drop q ++ more))))) 0 [] lim = inf 1 ([] ++ (hdr 0 q ++ (bs.take q ++ (hdr 1 (bs.length - q) ++ (bs.drop q ++ more))))) (5 + q) (bs.take q) lim := by
      simpa using k
    rw [k3, k2, show 5 + q + 5 + (bs.length - q) = bs.length + 10 by omega]
theorem inf_stored_long (bs more : List Int) (h0 : 0 < bs.length) (h2 : bs.length ≤ 70000) : inf 2 (stored 2 bs ++ more) 0 [] ((bs.length : Int) - 1) = .err 8 := by
  by_cases h : bs.length ≤ 65535
  · have k := inf_one 1 [] bs more 1 bs.length [] ((bs.length : Int) - 1) (Nat.le_refl _) h rfl
    rw [if_pos (by simp; omega)] at k
    rw [stored_short bs h, List.append_assoc]
    simpa using k
  · obtain ⟨q, hq⟩ : ∃ q, q = 65535 := ⟨_, rfl⟩
    have h' : q < bs.length := by omega
    have k := inf_one 1 [] (bs.take q) (hdr 1 (bs.length - q) ++ (bs.drop q ++ more)) 0 q [] ((bs.length : Int) - 1) (by omega) (by omega) (by simp; omega)
    rw [if_neg (by simp; omega), if_neg (by omega)] at k
    have k2 := inf_one 0 (hdr 0 q ++ bs.take q) (bs.drop q) more 1 (bs.length - q) (bs.take q) ((bs.length : Int) - 1) (Nat.le_refl _) (by omega) (by simp)
    rw [two_pre bs q h', if_pos (by simp; omega)] at k2
    rw [stored_long bs q hq h' h2]
    have e : hdr 0 q ++ (bs.take q ++ (hdr 1 (bs.length - q) ++ bs.drop q)) ++ more = [] ++ (hdr 0 q ++ (bs.take q ++ (hdr 1 (bs.length - q) ++ (bs.drop q ++ more)))) := by simp [List.append_assoc]
    have e2 : hdr 0 q ++ bs.take q ++ (hdr 1 (bs.length - q) ++ (bs.drop q ++ more)) = [] ++ (hdr 0 q ++ (bs.take q ++ (hdr 1 (bs.length - q) ++ (bs.drop q ++ more)))) := by simp [List.append_assoc]
    rw [e]
    rw [e2] at k2
    rw [← k2]
    simpa using k
theorem inf_stored_cut (bs : List Int) (k : Nat) (h2 : bs.length ≤ 70000) (hk : k < (stored 2 bs).length) : inf 2 ((stored 2 bs).take k) 0 [] bs.length = .err 2 := by
  rw [stored_len bs h2] at hk
  by_cases h : bs.length ≤ 65535
  · rw [if_pos h] at hk
    have c := inf_cut 1 [] bs 1 bs.length k [] bs.length (Nat.le_refl _) h rfl (by omega) (by simp)
    rw [stored_short bs h]
    simpa using c
  · rw [if_neg h] at hk
    obtain ⟨q, hq⟩ : ∃ q, q = 65535 := ⟨_, rfl⟩
    have h' : q < bs.length := by omega
    rw [stored_long bs q hq h' h2]
    rcases Nat.lt_or_ge k (5 + q) with h3 | h3
    · have c := inf_cut 1 [] (bs.take q) 0 q k [] bs.length (by omega) (by omega) (by simp; omega) (by omega) (by simp; omega)
      rw [← List.append_assoc, List.take_append_of_le_length (by rw [two_pre bs q h']; omega)]
      simpa using c
    · have e : (hdr 0 q ++ (bs.take q ++ (hdr 1 (bs.length - q) ++ bs.drop q))).take k = (hdr 0 q ++ bs.take q) ++ (hdr 1 (bs.length - q) ++ bs.drop q).take (k - (5 + q)) := by
        rw [← List.append_assoc, List.take_append, two_pre bs q h', List.take_of_length_le (by rw [two_pre bs q h']; exact h3)]
      have e2 : (hdr 0 q ++ bs.take q) ++ (hdr 1 (bs.length - q) ++ bs.drop q).take (k - (5 + q)) = [] ++ (hdr 0 q ++ (bs.take q ++ (hdr 1 (bs.length - q) ++ bs.drop q).take (k - (5 + q)))) := by simp [List.append_assoc]
      have c := inf_one 1 [] (bs.take q) ((hdr 1 (bs.length - q) ++ bs.drop q).take (k - (5 + q))) 0 q [] bs.length (by omega) (by omega) (by simp; omega)
      rw [if_neg (by simp; omega), if_neg (by omega)] at c
      have c2 := inf_cut 0 (hdr 0 q ++ bs.take q) (bs.drop q) 1 (bs.length - q) (k - (5 + q)) (bs.take q) bs.length (Nat.le_refl _) (by omega) (by simp) (by omega) (by simp; omega)
      rw [two_pre bs q h', e2] at c2
      rw [e, e2, ← c2]
      simpa using c
theorem byts_stored (bs : List Int) (hr : ∀ x ∈ bs, 0 ≤ x ∧ x ≤ 255) (h2 : bs.length ≤ 70000) : ∀ x ∈ stored 2 bs, 0 ≤ x ∧ x ≤ 255 := by
  intro x hx
  by_cases h : bs.length ≤ 65535
  · rw [stored_short bs h] at hx
    simp only [hdr, List.mem_cons, List.mem_append, List.not_mem_nil, or_false] at hx
    rcases hx with h3 | h3
    · omega
    · exact hr x h3
  · obtain ⟨q, hq⟩ : ∃ q, q = 65535 := ⟨_, rfl⟩
    rw [stored_long bs q hq (by omega) h2] at hx
    simp only [hdr, List.mem_cons, List.mem_append, List.not_mem_nil, or_false] at hx
    rcases hx with h3 | h3 | h3 | h3
    · omega
    · exact hr x (List.mem_of_mem_take h3)
    · omega
    · exact hr x (List.mem_of_mem_drop h3)
end Hf
theorem store_two (A : Option Addr) (n c : Nat) (bs : List Int) (w : World) (h : Ints w A .u8 bs) (hn : bs.length = n) (hnc : n ≤ c) (hc : c ≤ 9223372036854775807) (hm : n ≤ 70000) (hA : A = none → n = 0 ∧ c = 0) :
    Calls Try.prog 9 #[.slice A n c] w (StoredP (Hf.stored 2 bs) w) := by
  cases A with
  | none =>
    obtain ⟨rfl, rfl⟩ := hA rfl
    obtain rfl : bs = [] := List.eq_nil_of_length_eq_zero hn
    exact store_nil w
  | some ad => exact store_any ad n c bs 2 w h hn hnc (by omega) (by omega) hc
end Go.Proofs.Ytcjdeinmmokdgaa
