/- wave: New of blocks 16, 17, 20; the example. -/
import Derived.Test.YtiiipklbbajadaaWavK
import Derived.Test.YtiiipklbbajadaaWavI
namespace Go.Proofs.Ytiiipklbbajadaa
set_option linter.unusedSimpArgs false
set_option linter.unusedVariables false
open Go.RowKit
/-- a wave that is filled, ready to be asked -/
structure WvR (w : World) (g : Nat) (ps : List Part) : Prop where
  parts : PartsAt w g ps
  told : Told w g ps
  few : Few ps
theorem WvR.below {w w' : World} {g : Nat} {ps : List Part} (h : WvR w g ps) (hb : Below w.heap.size w w') : WvR w' g ps :=
  ⟨h.parts.below hb, fun p hp => ⟨(h.told p hp).1, fun k v hk hv => (h.told p hp).2 k v hk (hb.trans (hv.mono hb.size))⟩, h.few⟩
def ps17 (B : WB) (n : Nat) (D : List Int) : List Part := [Part.lead B, Part.sync B, Part.pulse B n D, Part.rest B]
def ps20 (B : WB) (n : Nat) (D : List Int) : List Part := [Part.pulse B n D, Part.rest B]
theorem told_sub {u : World} {g : Nat} {ps qs : List Part} (h : Told u g ps) (hs : ∀ p ∈ qs, p ∈ ps) : Told u g qs := fun p hp => h p (hs p hp)
theorem few17 (B : WB) (n : Nat) (D : List Int) (hn1 : n ≤ 1048576) (hp : 0 ≤ B.pa ∧ B.pa ≤ 70000) (hc : 0 ≤ B.co ∧ B.co ≤ 70000) : Few (ps17 B n D) := by
  refine ⟨by simp [ps17], fun p hpm => ?_⟩
  have := Wv.many_range n B.us
  simp only [ps17, List.mem_cons, List.not_mem_nil, or_false] at hpm
  rcases hpm with rfl | rfl | rfl | rfl
  · simp only [Part.lead]; omega
  · simp only [Part.sync]; omega
  · simp only [Part.pulse]; omega
  · simp only [Part.rest]; split <;> omega
theorem few20 (B : WB) (n : Nat) (D : List Int) (hn1 : n ≤ 1048576) (hp : 0 ≤ B.pa ∧ B.pa ≤ 70000) : Few (ps20 B n D) := by
  refine ⟨by simp [ps20], fun p hpm => ?_⟩
  have := Wv.many_range n B.us
  simp only [ps20, List.mem_cons, List.not_mem_nil, or_false] at hpm
  rcases hpm with rfl | rfl
  · simp only [Part.pulse]; omega
  · simp only [Part.rest]; split <;> omega
theorem WvS.ready17 {u : World} {g : Nat} {B : WB} {t i p s r l : Value} {A : Option Addr} {n c : Nat} {D : List Int} (h : WvS u g B t i p s r l A n c D (ps17 B n D)) (hn1 : n ≤ 1048576) (hp : 0 ≤ B.pa ∧ B.pa ≤ 70000) (hc : 0 ≤ B.co ∧ B.co ≤ 70000) : WvR u g (ps17 B n D) :=
  ⟨h.parts, told_usual h.at_ hn1 hp, few17 B n D hn1 hp hc⟩
theorem WvS.ready20 {u : World} {g : Nat} {B : WB} {t i p s r l : Value} {A : Option Addr} {n c : Nat} {D : List Int} (h : WvS u g B t i p s r l A n c D (ps20 B n D)) (hn1 : n ≤ 1048576) (hp : 0 ≤ B.pa ∧ B.pa ≤ 70000) : WvR u g (ps20 B n D) :=
  ⟨h.parts, told_sub (told_usual h.at_ hn1 hp) (by simp [ps20]), few20 B n D hn1 hp⟩
/-- a block's other cells are of one cell each -/
def One5 (t i p s r : Value) : Prop := t.oneCell' = true ∧ i.oneCell' = true ∧ p.oneCell' = true ∧ s.oneCell' = true ∧ r.oneCell' = true
theorem stdIn_of (B : WB) (t i p s r : Value) (A : Option Addr) (n c : Nat) (h5 : One5 t i p s r) : StdIn (B.cells (.slice A n c) t i p s r) A n c := by
  obtain ⟨h1, h2, h3, h4, h5⟩ := h5
  refine ⟨rfl, fun v hv => ?_, rfl⟩
  simp only [WB.cells, List.mem_cons, List.not_mem_nil, or_false] at hv
  rcases hv with rfl | rfl | rfl | rfl | rfl | rfl | rfl | rfl | rfl | rfl | rfl | rfl | rfl | rfl | rfl | rfl | rfl | rfl <;> first | rfl | assumption
def WB.usual (B : WB) (D : List Int) : WB := { B with pi := 2168, s1 := 667, s2 := 735, ze := 855, on := 1710, us := 8, co := if 128 ≤ D.getD 0 0 then 3223 else 8063 }
theorem std_usual (B : WB) (D : List Int) (t i p s r d : Value) : stdCells (B.cells d t i p s r) (if 128 ≤ D.getD 0 0 then 3223 else 8063) = (B.usual D).cells d t i p s r := rfl
def WvPost (u : World) (B : WB) (t i p s r : Value) (A : Option Addr) (n c : Nat) (D : List Int) (ps : List Part) (w : World) : Prop := WvS w (u.heap.size + 1) B t i p s r (.slice none 0 0) A n c D ps
theorem wvs_new {u w : World} {B : WB} {t i p s r : Value} {A : Option Addr} {n c : Nat} {D : List Int} (hk : Blk w (u.heap.size + 1) 48 (B.cells (.slice A n c) t i p s r ++ nil2)) (hi : Ints u A .u8 D) (hn : D.length = n) (hb : Byts D) (hbw : Below u.heap.size u w) :
    WvS w (u.heap.size + 1) B t i p s r (.slice none 0 0) A n c D [] :=
  ⟨⟨.slice none 0 0, hk, World.ownsRow_nil _ _ _ _⟩, hi.below hbw, fun ad e hd => by have := ints_old hi ad e hd; omega, hn, hb⟩
theorem new16 (B : WB) (t i p s r : Value) (h5 : One5 t i p s r) (A : Option Addr) (n c : Nat) (D : List Int) (u : World) (hi : Ints u A .u8 D) (hn : D.length = n) (hb : Byts D) (hn1 : n ≤ 1048576) (hid : B.id = 16) :
    Calls Try.prog 7 #[.agg (B.cells (.slice A n c) t i p s r).toArray] u (NewP 0 B.co B.pa (WvPost u (B.usual D) t i p s r A n c D (ps17 (B.usual D) n D)) u) := by
  refine wv_new16 _ A n c D (stdIn_of B t i p s r A n c h5) B.co B.pa 0 (by rw [← hid]; rfl) rfl rfl u hi hn _ fun w hk hbw => ?_
  rw [std_usual] at hk
  exact wv_fill17 (u.heap.size + 1) (B.usual D) t i p s r _ A n c D w (wvs_new hk hi hn hb hbw) hn1 (.inl hid)
theorem new17 (B : WB) (t i p s r : Value) (A : Option Addr) (n c : Nat) (D : List Int) (u : World) (hi : Ints u A .u8 D) (hn : D.length = n) (hb : Byts D) (hn1 : n ≤ 1048576) (hid : B.id = 17) :
    Calls Try.prog 7 #[.agg (B.cells (.slice A n c) t i p s r).toArray] u (NewP 0 B.co B.pa (WvPost u B t i p s r A n c D (ps17 B n D)) u) := by
  refine wv_new _ rfl B.id B.co B.pa 0 rfl rfl rfl (by rw [hid]; rfl) u _ ?_
  exact wv_fill17 (u.heap.size + 1) B t i p s r _ A n c D _ (wvs_new (blk_alloc2_new u _ _ _) hi hn hb (((Below.refl _ u).alloc (Nat.le_refl _) _).alloc (by simp) _)) hn1 (.inr hid)
theorem new20 (B : WB) (t i p s r : Value) (A : Option Addr) (n c : Nat) (D : List Int) (u : World) (hi : Ints u A .u8 D) (hn : D.length = n) (hb : Byts D) (hn1 : n ≤ 1048576) (hid : B.id = 20) :
    Calls Try.prog 7 #[.agg (B.cells (.slice A n c) t i p s r).toArray] u (NewP 0 B.co B.pa (WvPost u B t i p s r A n c D (ps20 B n D)) u) := by
  refine wv_new _ rfl B.id B.co B.pa 0 rfl rfl rfl (by rw [hid]; rfl) u _ ?_
  exact wv_fill20 (u.heap.size + 1) B t i p s r _ A n c D _ (wvs_new (blk_alloc2_new u _ _ _) hi hn hb (((Below.refl _ u).alloc (Nat.le_refl _) _).alloc (by simp) _)) hn1 hid
def nilS : Value := .slice none 0 0
theorem one5_nil : One5 nilS nilS nilS nilS nilS := ⟨rfl, rfl, rfl, rfl, rfl⟩
end Go.Proofs.Ytiiipklbbajadaa
