/- A ROM that is put together: calls, one behind the other. -/
import Derived.Test.YtnkjmmbhjhmgdaaAsmIP
import Derived.Deep.DeepCutAuto
namespace Go.Proofs.Ytnkjmmbhjhmgdaa
set_option linter.unusedSimpArgs false
set_option linter.unusedVariables false
open Go.RowKit Go.Maps Go.Sort
/-- a program of which so many calls were made -/
structure RomS (B P M : Nat) (L : List OpL) (w : World) : Prop where
  s : AsmS B P M L.length w (L.foldl callF (newD 0))
  i : AsmI (L.foldl callF (newD 0)) L.length
def RomR (B P M : Nat) (L : List OpL) (w : World) (e : Ending) (w' : World) : Prop := e = .returned (.tuple #[]) ∧ RomS B P M L w' ∧ Frm B w w'
def byteV (v : Value) : Bool := match v with
  | .int .u8 x => decide (0 ≤ x ∧ x ≤ 255)
  | _ => false
def numV (v : Value) : Int := match v with
  | .int _ x => x
  | _ => 0
def lz (Z : Array Value) : List Int := Z.toList.map numV
theorem lz_byte {Z : Array Value} (h : Z.all byteV = true) : ∀ x ∈ lz Z, 0 ≤ x ∧ x ≤ 255 := fun x hx => by
  unfold lz at hx
  obtain ⟨v, hv, rfl⟩ := List.mem_map.1 hx
  have hb := Array.all_eq_true_iff_forall_mem.1 h v (by simpa using hv)
  unfold byteV at hb
  split at hb
  · simpa [numV] using hb
  · simp at hb
theorem lz_map {Z : Array Value} (h : Z.all byteV = true) : Z = ((lz Z).map (.int .u8 ·)).toArray := by
  apply Array.toList_inj.1
  unfold lz
  rw [List.toList_toArray, List.map_map]
  symm
  rw [List.map_congr_left (g := id)]
  · simp
  · intro v hv
    have hb := Array.all_eq_true_iff_forall_mem.1 h v (by simpa using hv)
    unfold byteV at hb
    split at hb
    · simp [numV]
    · simp at hb
theorem lz_len (Z : Array Value) : (lz Z).length = Z.size := by simp [lz]
def opBytes (l : List Int) : OpL := ⟨0, 0, ⟨#[]⟩, l⟩
def opMark (s : ByteArray) : OpL := ⟨1, 0, s, []⟩
def opTo (s : ByteArray) (l : List Int) : OpL := ⟨2, 0, s, l⟩
def opNear (s : ByteArray) (x : Int) : OpL := ⟨3, 0, s, [x]⟩
def opDelay (n : Int) : OpL := ⟨4, n, ⟨#[]⟩, []⟩
section
variable {B P M : Nat} {L : List OpL} {w : World}
theorem RomS.below_ {w' : World} (h : RomS B P M L w) (hb : Below w.heap.size w w') : RomS B P M L w' := ⟨h.s.below_ hb, h.i⟩
theorem RomS.add {o : OpL} {d' : AsmD} {nm : Nat} {e : Ending} {w' : World} (h : RomS B P M L w) (hd : callF (L.foldl callF (newD 0)) o = d') (hi : AsmI d' (L.length + 1)) (hn : nm ≤ L.length + 1) (hr : AsmR B P M nm d' w e w') : RomR B P M (L ++ [o]) w e w' := by
  obtain ⟨h1, h2, h3⟩ := hr
  have e1 : (L ++ [o]).foldl callF (newD 0) = d' := by rw [List.foldl_append]; exact hd
  have e2 : (L ++ [o]).length = L.length + 1 := by simp
  exact ⟨h1, ⟨by rw [e1, e2]; exact h2.mono hn, by rw [e1, e2]; exact hi⟩, h3⟩
theorem rom_bytes (h : RomS B P M L w) (Z : Array Value) (n : Nat) (hn : Z.size = n) (hb : Z.all byteV = true) (hm : n ≤ 1000000) :
    Calls Try.prog 11 #[.pointer (some ⟨P, 0, none⟩), .slice (some ⟨w.heap.size, 0, none⟩) n n] (w.alloc (.cells Z 5)) (RomR B P M (L ++ [opBytes (lz Z)]) w) := by
  have hz := lz_map hb
  have h1 := asm_bytes_new B P M L.length L.length _ n (lz Z) w h.s h.i.ok (by rw [lz_len, hn]) (by omega)
  rw [← hz] at h1
  exact h1.mono fun e w' hr => h.add (o := opBytes (lz Z)) (by simp [callF, opBytes]) ((h.i.bytesF (lz_byte hb)).mono (Nat.le_succ _)) (Nat.le_succ _) hr
theorem rom_mark (h : RomS B P M L w) (s : ByteArray) (hs : s.size ≤ maxLen) (hL : L.length ≤ 900) :
    Calls Try.prog 14 #[.pointer (some ⟨P, 0, none⟩), .string s] w (RomR B P M (L ++ [opMark s]) w) :=
  (asm_mark B P M L.length L.length _ s w h.s h.i.ok hs (by omega)).mono fun e w' hr => h.add (o := opMark s) (by simp [callF, opMark]) ((h.i.markF s).mono (Nat.le_succ _)) (Nat.le_refl _) hr
theorem rom_to (h : RomS B P M L w) (s : ByteArray) (hs : s.size ≤ maxLen) (hL : L.length ≤ 900) (Z : Array Value) (n : Nat) (hn : Z.size = n) (hb : Z.all byteV = true) (hm : n ≤ 1000000) :
    Calls Try.prog 12 #[.pointer (some ⟨P, 0, none⟩), .string s, .slice (some ⟨w.heap.size, 0, none⟩) n n] (w.alloc (.cells Z 5)) (RomR B P M (L ++ [opTo s (lz Z)]) w) := by
  have hz := lz_map hb
  have hbl := below_alloc1 w (.cells ((lz Z).map (Value.int .u8 ·)).toArray 5)
  have h1 := asm_to B P M L.length L.length _ s (some ⟨w.heap.size, 0, none⟩) n n (lz Z) _ (h.s.below_ hbl) h.i.ok (by omega) (ints_of_blk (Blk.new w 5 ((lz Z).map (.int .u8 ·)))) (by rw [lz_len, hn]) (by omega) (fun e => by cases e)
  rw [← hz] at h1
  refine h1.mono fun e w' hr => ?_
  have h2 := h.s.toB (below_alloc1 w (.cells Z 5))
  exact h.add (o := opTo s (lz Z)) (by simp [callF, opTo]) (h.i.fillF s hs false (lz_byte hb)) (Nat.le_succ _) ⟨hr.1, hr.2.1, h2.trans hr.2.2⟩
theorem rom_near (h : RomS B P M L w) (s : ByteArray) (hs : s.size ≤ maxLen) (hL : L.length ≤ 900) (x : Int) (h0 : 0 ≤ x) (h1 : x ≤ 255) :
    Calls Try.prog 15 #[.pointer (some ⟨P, 0, none⟩), .string s, .int .u8 x] w (RomR B P M (L ++ [opNear s x]) w) :=
  (asm_near B P M L.length L.length _ s x w h.s h.i.ok (by omega)).mono fun e w' hr => h.add (o := opNear s x) (by simp [callF, opNear, codeL]) (h.i.fillF s hs true (fun y hy => by simp at hy; omega)) (Nat.le_succ _) hr
theorem rom_delay (h : RomS B P M L w) (n : Int) (h0 : -9223372036854775808 ≤ n) (h1 : n ≤ 9223372036854775807) :
    Calls Try.prog 35 #[.pointer (some ⟨P, 0, none⟩), .int .i64 n] w (RomR B P M (L ++ [opDelay n]) w) :=
  (asm_delay B P M L.length L.length _ n w h.s h.i.ok h0 h1).mono fun e w' hr => h.add (o := opDelay n) (by simp [callF, opDelay]) ((h.i.delayF n).mono (Nat.le_succ _)) (Nat.le_succ _) hr
end
end Go.Proofs.Ytnkjmmbhjhmgdaa
