/- zlib: packed bytes are unpacked (the parts of ZlbD, ZlbE that name no law). -/
import Derived.Test.YtbemlmpajnklpaaZlbC
namespace Go.Proofs.Ytbemlmpajnklpaa
set_option linter.unusedSimpArgs false
set_option linter.unusedVariables false
open Go.RowKit
namespace Zl
theorem be4_of (S : Int) (h0 : 0 ≤ S) (h1 : S ≤ 4294967295) (more : List Int) : be (tail4 S ++ more) 4 = S := by
  simp only [be, tail4, List.cons_append, List.getD_cons_zero, List.getD_cons_succ]
  omega
theorem pack_length (bs : List Int) : (pack bs).length = bs.length + 11 := by
  simp [pack, Hf.hdr, tail4]
theorem inf_pack (a d : Int) (bs more : List Int) (lim : Int) (hn : bs.length ≤ 65535) (hl : (bs.length : Int) ≤ lim) : Hf.inf 1 ((a :: d :: ((pack bs).drop 2 ++ more)).drop 2) 0 [] lim = .ok bs (5 + bs.length) := by
  have h := Hf.inf_one 0 [] bs (tail4 (Ad.of bs) ++ more) 1 bs.length [] lim (Nat.le_refl _) hn rfl
  have e : ((a :: d :: ((pack bs).drop 2 ++ more)).drop 2) = [] ++ (Hf.hdr 1 bs.length ++ (bs ++ (tail4 (Ad.of bs) ++ more))) := by
    simp [pack, List.append_assoc]
  rw [e]
  have h2 : ¬ (lim - (([] : List Int).length : Int) < bs.length) := by simp; omega
  rw [if_neg h2, if_pos rfl] at h
  simpa using h
theorem be_pack (a d : Int) (bs more : List Int) : be ((a :: d :: ((pack bs).drop 2 ++ more)).drop (2 + (5 + bs.length))) 4 = Ad.of bs := by
  have e : ((a :: d :: ((pack bs).drop 2 ++ more)).drop (2 + (5 + bs.length))) = tail4 (Ad.of bs) ++ more := by
    have e1 : (a :: d :: ((pack bs).drop 2 ++ more)) = ([a, d] ++ Hf.hdr 1 bs.length ++ bs) ++ (tail4 (Ad.of bs) ++ more) := by
      simp [pack, List.append_assoc]
    have e2 : 2 + (5 + bs.length) = ([a, d] ++ Hf.hdr 1 bs.length ++ bs).length := by simp [Hf.hdr]; omega
    rw [e1, e2, List.drop_left]
  rw [e]
  exact be4_of _ (Ad.of_range bs).1 (Ad.of_range bs).2 more
theorem byts_pack (a d : Int) (bs more : List Int) (a0 : 0 ≤ a) (a1 : a ≤ 255) (d0 : 0 ≤ d) (d1 : d ≤ 255) (hr : ∀ x ∈ bs, 0 ≤ x ∧ x ≤ 255) (hm : ∀ x ∈ more, 0 ≤ x ∧ x ≤ 255) (hn : bs.length ≤ 65535) : ∀ x ∈ a :: d :: ((pack bs).drop 2 ++ more), 0 ≤ x ∧ x ≤ 255 := by
  intro x hx
  have hs := Ad.of_range bs
  have e : (pack bs).drop 2 = Hf.hdr 1 bs.length ++ bs ++ tail4 (Ad.of bs) := by simp [pack]
  rw [e] at hx
  simp only [List.mem_cons, List.mem_append, Hf.hdr, tail4, List.not_mem_nil, or_false] at hx
  rcases hx with rfl | rfl | ((h | h) | h) | h
  · exact ⟨a0, a1⟩
  · exact ⟨d0, d1⟩
  · omega
  · exact hr x h
  · omega
  · exact hm x h
end Zl
theorem heads_fine (ad : Addr) (N c : Nat) (a d : Int) (R : List Int) (u : World) (h : Ints u (some ad) .u8 (a :: d :: R)) (a0 : 0 ≤ a) (a1 : a ≤ 255) (d0 : 0 ≤ d) (d1 : d ≤ 255) (hN : 2 ≤ N) (hc : N ≤ c) (hm : N ≤ 2000000) (hF : Zl.Fits a d) :
    Calls Try.prog 24 #[.slice (some ad) N c] u fun e w' => e = .returned (.int .i64 0) ∧ Drew u w' := by
  have c0 : u.cell? (ad.add 0) = some (.int .u8 a) := by obtain ⟨x, e, hc⟩ := h 0 _ rfl; injection e with e; rw [e]; exact hc
  have c1 : u.cell? (ad.add 1) = some (.int .u8 d) := by obtain ⟨x, e, hc⟩ := h 1 _ rfl; injection e with e; rw [e]; exact hc
  have := headed_any ad N c a d u hN hc hm c0 c1 a0 a1 d0 d1
  rwa [if_pos hF] at this
theorem heads_yes (g N c : Nat) (a d : Int) (bs more : List Int) (u : World) (h : Ints u (some ⟨g, 0, none⟩) .u8 (a :: d :: ((Zl.pack bs).drop 2 ++ more))) (hr : ∀ x ∈ bs, 0 ≤ x ∧ x ≤ 255) (hm : ∀ x ∈ more, 0 ≤ x ∧ x ≤ 255) (a0 : 0 ≤ a) (a1 : a ≤ 255) (d0 : 0 ≤ d) (d1 : d ≤ 255) (hn : bs.length ≤ 65535) (hN : bs.length + 11 + more.length = N) (hN2 : N ≤ 1000000) (hc : N ≤ c) (hg : g < u.heap.size) (lim : Int) (hl : lim ≤ 1048576) (hln : (bs.length : Int) ≤ lim) (hF : Zl.Fits a d) :
    Calls Try.prog 16 #[.slice (some ⟨g, 0, none⟩) N c, .int .i64 lim] u (UnpO bs (bs.length + 11) u) := by
  have hlen : (a :: d :: ((Zl.pack bs).drop 2 ++ more)).length = N := by simp [Zl.pack_length]; omega
  have := unpack_ok ⟨g, 0, none⟩ N c _ 1 lim bs (5 + bs.length) u h (Zl.byts_pack a d bs more a0 a1 d0 d1 hr hm hn) hlen (by omega) (by omega) hc hN2 hg (by omega) hl (heads_fine _ N c a d _ u h a0 a1 d0 d1 (by omega) hc (by omega) hF) (Zl.inf_pack a d bs more lim hn hln) (by omega) hr (by omega) (Zl.be_pack a d bs more)
  rw [show 6 + (5 + bs.length) = bs.length + 11 by omega] at this
  exact this
end Go.Proofs.Ytbemlmpajnklpaa
