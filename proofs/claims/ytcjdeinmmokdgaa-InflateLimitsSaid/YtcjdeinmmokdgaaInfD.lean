/- inflate's unpacker: a stored block. -/
import Derived.Test.YtcjdeinmmokdgaaInfC
import Derived.Deep.QuietTactic
import Derived.BigQuiet
namespace Go.Proofs.Ytcjdeinmmokdgaa
set_option linter.unusedSimpArgs false
set_option linter.unusedVariables false
open Go.RowKit
/-- what lies below B is as it was, but two blocks -/
structure KeptU (B U r : Nat) (w w' : World) : Prop where
  os : w'.os = w.os
  tape : w'.tape = w.tape
  output : w'.output = w.output
  size : w.heap.size ≤ w'.heap.size
  block : ∀ k, k < w.heap.size → k < B → k ≠ U → k ≠ r → w'.heap[k]? = w.heap[k]?
theorem KeptU.refl (B U r : Nat) (w : World) : KeptU B U r w w := ⟨rfl, rfl, rfl, Nat.le_refl _, fun _ _ _ _ _ => rfl⟩
theorem KeptU.trans {B U r : Nat} {w w' w'' : World} (h : KeptU B U r w w') (h' : KeptU B U r w' w'') : KeptU B U r w w'' :=
  ⟨h'.os.trans h.os, h'.tape.trans h.tape, h'.output.trans h.output, Nat.le_trans h.size h'.size, fun k hk hB h1 h2 => (h'.block k (Nat.lt_of_lt_of_le hk h.size) hB h1 h2).trans (h.block k hk hB h1 h2)⟩
theorem KeptU.of_grown {B U r : Nat} {w w' : World} (h : w.grownBy w' (some r)) : KeptU B U r w w' :=
  ⟨h.os, h.tape, h.output, h.size, fun k hk _ _ h2 => h.block k hk (by intro e; injection e with e; exact h2 e)⟩
theorem KeptU.of_own {B U r n size : Nat} {w w' : World} {e : TypeId} {v : Value} {xs : List Value} (ho : w.ownsRow B e size v n xs) (h : w.grownBy w' v.ownBlock) : KeptU B U r w w' :=
  ⟨h.os, h.tape, h.output, h.size, fun k hk hB _ _ => h.block k hk (fun e => by have := (ho.lt k e.symm).1; omega)⟩
theorem KeptU.set {B U r : Nat} {w w' : World} (h : KeptU B U r w w') (i : Nat) (v : Value) : KeptU B U r w (w'.setCell ⟨U, i, none⟩ v) :=
  ⟨h.os, h.tape, h.output, by simpa using h.size, fun k hk hB h1 h2 => (Below.heap_setCell w' ⟨U, i, none⟩ v k h1).trans (h.block k hk hB h1 h2)⟩
theorem KeptU.drewN {B U r : Nat} {w w' : World} (h : KeptU B U r w w') (n : Nat) : KeptU B U r w (w'.drewN n) := ⟨h.os, h.tape, h.output, h.size, h.block⟩
def StoreP (U r : Nat) (A : Option Addr) (c : Nat) (bs : List Int) (p : Nat) (out : List Int) (lim : Int) (B : Nat) (w : World) (e : Ending) (w' : World) : Prop :=
  e = .returned (.int .i64 0) ∧ (∃ v', Un w' U r A c bs p v' out lim B) ∧ KeptU B U r w w'
theorem own_far {w : World} {base size n g i : Nat} {e : TypeId} {v u : Value} {xs : List Value} (h : w.ownsRow base e size v n xs) (hg : g < base) : (w.setCell ⟨g, i, none⟩ u).ownsRow base e size v n xs :=
  h.kept (grownBy_setCell (grownBy_refl w (some g)) i u) (by
    cases hv : v.ownBlock with
    | none => exact .inl rfl
    | some k =>
      right
      intro e
      injection e with e
      have := (h.lt k hv).1
      omega)
set_option maxRecDepth 100000 in
set_option maxHeartbeats 4000000 in
theorem ustore_ok (U r : Nat) (A : Option Addr) (c : Nat) (bs : List Int) (pos q n : Nat) (v : Value) (out : List Int) (lim : Int) (B : Nat) (w : World) (h : Un w U r A c bs pos v out lim B) (hq : (pos + 7) / 8 = q)
    (h1 : Hf.takeVal bs (8 * q) 16 = n) (h2 : Hf.takeVal bs (8 * q + 16) 16 = 65535 - (n : Int)) (hn : n ≤ 65535) (ho : out.length ≤ 2000000) (hl : (n : Int) ≤ lim - out.length) (hl2 : lim ≤ 2000000) (hin : q + 4 + n ≤ bs.length) :
    Calls Try.prog 21 #[.pointer (some ⟨U, 0, none⟩)] w (StoreP U r A c bs (8 * (q + 4 + n)) (out ++ (bs.drop (q + 4)).take n) lim B w) := by
  obtain ⟨K, cv, rfl, -, hKn⟩ := own_slice3 h.own
  have HAL := Lib.hid (align_any r A c bs pos w h.bits)
  rw [hq, Nat.mul_comm q 8] at HAL
  have HT1 : Hid (∀ u, Un u U r A c bs (8 * q) (.slice K out.length cv) out lim B → Calls Try.prog 14 #[.pointer (some ⟨U, 0, none⟩), .int .i64 16] u fun e w' => e = .returned (.tuple #[.int .i64 n, .int .i64 0]) ∧ Un w' U r A c bs (8 * q + 16) (.slice K out.length cv) out lim B ∧ u.grownBy w' (some r)) := fun u hu =>
    (utake_any U r A c bs (8 * q) 16 _ out lim B u hu (by omega)).mono fun e w' ⟨g1, g2⟩ => by
      rw [if_pos (by omega), h1] at g2
      exact ⟨g2.1, g2.2, g1⟩
  have HT2 : Hid (∀ u, Un u U r A c bs (8 * q + 16) (.slice K out.length cv) out lim B → Calls Try.prog 14 #[.pointer (some ⟨U, 0, none⟩), .int .i64 16] u fun e w' => e = .returned (.tuple #[.int .i64 (65535 - (n : Int)), .int .i64 0]) ∧ Un w' U r A c bs (8 * (q + 4)) (.slice K out.length cv) out lim B ∧ u.grownBy w' (some r)) := fun u hu =>
    (utake_any U r A c bs (8 * q + 16) 16 _ out lim B u hu (by omega)).mono fun e w' ⟨g1, g2⟩ => by
      rw [if_pos (by omega), h2, show 8 * q + 16 + 16 = 8 * (q + 4) by omega] at g2
      exact ⟨g2.1, g2.2, g1⟩
  have HBY := Lib.hid (fun u (hu : BitsAt u r A c bs (8 * (q + 4))) => bytes_all r A c bs (q + 4) n u hu (by omega) (by omega) hin)
  have hx := xor_turned n hn
  have HH := Lib.hid h
  have HLEN : Hid (((bs.drop (q + 4)).take n).length = n) := by show _ = _; simp; omega
  have u0 : w.cell? ⟨U, 0, none⟩ = some (.pointer (some ⟨r, 0, none⟩)) := h.blk.cell 0
  obtain ⟨m, hm⟩ : ∃ m, m = out.length := ⟨_, rfl⟩
  have HM := Lib.hid hm
  rw [← hm] at hl ho
  have hnl : ¬ (lim - (m : Int) < (n : Int)) := by omega
  have hwl : wrap64 (lim - (m : Int)) = lim - (m : Int) := IntWalk.wrap64_in _ (by omega)
  clear h h1 h2 hq hm
  go_enter Try.func21, Try.ntmps21
  go_wp2_with (first
    | (go_at_call 30; refine HAL.out.mono ?_; rintro e w1 ⟨rfl, hb1, hg1⟩; have H1 := Lib.hid (HH.out.step hg1 hb1); have HK1 : Hid (KeptU B U r w w1) := KeptU.of_grown hg1; clear hb1 hg1)
    | (go_at_call 14; refine (HT2.out _ H2.out).mono ?_; rintro e w3 ⟨rfl, hu3, hg3⟩; have H3 := Lib.hid hu3; have HK3 : Hid (KeptU B U r w w3) := HK2.out.trans (KeptU.of_grown hg3); clear hu3 hg3)
    | (go_at_call 14; refine (HT1.out _ H1.out).mono ?_; rintro e w2 ⟨rfl, hu2, hg2⟩; have H2 := Lib.hid hu2; have HK2 : Hid (KeptU B U r w w2) := HK1.out.trans (KeptU.of_grown hg2); clear hu2 hg2))
  have u31 : w3.cell? ⟨U, 1, none⟩ = some (.slice K m cv) := by have := H3.out.blk.cell 1; rw [HM.out]; exact this
  have u32 : w3.cell? ⟨U, 2, none⟩ = some (.int .i64 lim) := H3.out.blk.cell 2
  have u30 : w3.cell? ⟨U, 0, none⟩ = some (.pointer (some ⟨r, 0, none⟩)) := H3.out.blk.cell 0
  go_quiet (fail)
  go_wp2_with (first
    | (at_builtin
       refine wpList_appAny w4 rfl (.tmp 63) (.tmp 64) 22 rfl B 5 (.int .u8 0) 1 Try.underlying22 infoByte rfl (.slice K m cv) m (out.map (.int .u8)) rfl HO4.out K4 n c4 (((bs.drop (q + 4)).take n).map (.int .u8 ·)) rfl (by rw [List.length_map]; exact HLEN.out) HC4.out HN4.out (fun u hu => by obtain ⟨x, -, rfl⟩ := List.mem_map.1 hu; rfl) (by unfold maxLen; omega) (by omega) HSZ.out ?_
       intro v5 w5 hown5 hg5
       obtain ⟨K5, c5, rfl, -, -⟩ := own_slice3 hown5
       have HB5 := Lib.hid (H4.out.blk.grown hg5 (own_ne HO4.out H4.out.hU))
       have u51 : w5.cell? ⟨U, 1, none⟩ = some (.slice K m cv) := by have := HB5.out.cell 1; rw [HM.out]; exact this
       have f51 := HB5.out.frozen 1
       have HO5 := Lib.hid hown5
       have HG5 := Lib.hid hg5
       clear hown5 hg5)
    | (go_at_call 31
       refine (HBY.out _ (H3.out.bits.drewN _)).mono ?_
       rintro e w4 ⟨v4, rfl, ho4, hb4, hg4⟩
       obtain ⟨K4, c4, rfl, hc4, hn4⟩ := own_slice3 ho4
       have HC4 := Lib.hid hc4
       have HN4 := Lib.hid hn4
       have H4 := Lib.hid ((H3.out.drewN _).step hg4 hb4)
       have HO4 : Hid (w4.ownsRow B 5 1 (.slice K m cv) m (out.map (.int .u8))) := by have := H4.out.own; show World.ownsRow _ _ _ _ _ _ _; rw [HM.out]; exact this
       have HSZ : Hid (B ≤ w4.heap.size) := H4.out.hB
       have HK4 : Hid (KeptU B U r w w4) := HK3.out.trans (KeptU.of_grown (grownBy_trans (grownBy_drewN (grownBy_refl w3 _) _) hg4))
       have u41 : w4.cell? ⟨U, 1, none⟩ = some (.slice K m cv) := by have := H4.out.blk.cell 1; rw [HM.out]; exact this
       clear ho4 hb4 hg4 hc4 hn4))
  go_ret
  have hk5 : KeptU B U r w w5 := HK4.out.trans (KeptU.of_own HO4.out HG5.out)
  have hlt2 := H4.out.hU
  refine ⟨rfl, ⟨_, HB5.out.set_ 1 _, ?_, ?_, H4.out.hr, H4.out.hU, H4.out.hrU, H4.out.hA, ?_⟩, hk5.set 1 _⟩
  · have hb := H4.out.bits
    have hg := HG5.out
    have hne : ∀ k, k < B → some k ≠ Value.ownBlock (.slice K m cv) := fun k hk e => by have := (HO4.out.lt k e.symm).1; omega
    refine ⟨?_, ?_, hb.2.2⟩
    · exact (hb.1.grown hg (hne r H4.out.hr)).far (by show r ≠ U; exact fun e => H4.out.hrU e.symm) _
    · intro i x hi
      obtain ⟨ad, e, hc⟩ := hb.2.1 i x hi
      obtain ⟨q1, q2, q3⟩ := H4.out.hA ad e
      refine ⟨ad, e, ?_⟩
      rw [← hc]
      rw [World.cell?_of_block (Below.heap_setCell w5 ⟨U, 1, none⟩ _ _ (by rw [block_of_add]; exact q3))]
      exact World.cell?_of_block (hg.block _ (block_lt_of_cell hc) (by rw [block_of_add]; exact hne _ q1))
  · have ho := own_far (i := 1) (u := .slice K5 (m + n) c5) HO5.out hlt2
    rw [← List.map_append] at ho
    rw [List.length_append, HLEN.out, ← HM.out]
    exact ho
  · have := HG5.out.size
    have := H4.out.hB
    simp
    omega
end Go.Proofs.Ytcjdeinmmokdgaa
