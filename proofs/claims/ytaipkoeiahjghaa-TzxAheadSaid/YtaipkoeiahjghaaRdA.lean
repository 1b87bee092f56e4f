/- wire.Reader in whatever state: the state as plain data, and the reader's methods that only tell or fail. -/
import Derived.Test.YtaipkoeiahjghaaWirA
import Derived.Test.YtaipkoeiahjghaaMemE
namespace Go.Proofs.Ytaipkoeiahjghaa
set_option linter.unusedSimpArgs false
set_option linter.unusedVariables false
open Go.RowKit
namespace Rd
/-- a reader's place, and its fault -/
structure St where
  k : Nat
  bad : Option (Int × Int)
/-- what reads bytes -/
abbrev RM (α : Type) := List Int → St → α × St
def ret {α : Type} (a : α) : RM α := fun _ s => (a, s)
def bind {α β : Type} (m : RM α) (f : α → RM β) : RM β := fun L s => f (m L s).1 L (m L s).2
def fail (s : St) (E p : Int) : St := match s.bad with
  | none => ⟨s.k, some (E, p)⟩
  | some _ => s
def left (n : Nat) (s : St) : Nat := match s.bad with
  | none => n - s.k
  | some _ => 0
def failM (E p : Int) : RM Unit := fun _ s => ((), fail s E p)
def nextM (j : Nat) : RM (List Int) := fun L s => match s.bad with
  | some _ => ([], s)
  | none => if L.length - s.k < j then ([], ⟨s.k, some (2, (s.k : Int))⟩) else ((L.drop s.k).take j, ⟨s.k + j, none⟩)
def num (j : Nat) : RM Int := bind (nextM j) fun l => ret (leVal l)
def signed : RM Int := bind (num 2) fun v => ret (if 32768 ≤ v then v - 65536 else v)
def take (j : Int) : RM (List Int) := fun L s => if j < 0 then ([], fail s 1 s.k) else nextM j.toNat L s
/-- so many, as long as there is no fault -/
def loop {α : Type} (f : RM α) : Nat → RM (List α)
  | 0 => ret []
  | m + 1 => fun L s => match s.bad with
    | some _ => ([], s)
    | none => bind f (fun x => bind (loop f m) fun l => ret (x :: l)) L s
/-- so many -/
def rep {α : Type} (f : RM α) : Nat → RM (List α)
  | 0 => ret []
  | m + 1 => bind f fun x => bind (rep f m) fun l => ret (x :: l)
def numbers (many : Int) (j : Nat) : RM (List Int) := fun L s =>
  if many < 0 then ([], fail s 1 s.k) else if (left L.length s : Int) / j < many then ([], fail s 2 s.k) else rep (num j) many.toNat L s
end Rd
/-- a fault's pointer -/
def BadAt (w : World) (v : Value) : Option (Int × Int) → Prop
  | none => v = .pointer none
  | some (E, p) => ∃ f, v = .pointer (some ⟨f, 0, none⟩) ∧ Blk w f 51 [.int .i64 E, .int .i64 p]
/-- a reader of the bytes L -/
structure RdIs (w : World) (R : Nat) (A : Addr) (n c : Nat) (L : List Int) (s : Rd.St) : Prop where
  rdr : ∃ bv, Blk w R 71 [.slice (some A) n c, .int .i64 s.k, bv] ∧ BadAt w bv s.bad
  ints : Ints w (some A) .u8 L
  len : L.length = n
  byt : Byts L
  lt : A.block < R
  cap : n ≤ c
  big : n ≤ 1048576
  le : s.k ≤ n
theorem blk_ne {w : World} {g h : Nat} {t u : TypeId} {cs ds : List Value} (a : Blk w g t cs) (b : Blk w h u ds) (hn : t ≠ u) : g ≠ h := fun e => by
  subst e
  unfold Blk at a b
  rw [a] at b
  injection b with b
  injection b with _ b
  exact hn b
theorem add_add (A : Addr) (k i : Nat) : (A.add k).add i = A.add (k + i) := by
  unfold Addr.add
  by_cases h1 : k = 0
  · simp [h1]
  · by_cases h2 : i = 0
    · simp [h1, h2]
    · simp [h1, h2, Nat.add_assoc]
theorem ints_drop {w : World} {A : Addr} {kd : IntKind} {L : List Int} (h : Ints w (some A) kd L) (k : Nat) : Ints w (some (A.add k)) kd (L.drop k) := fun i v hi => by
  obtain ⟨ad, e, hc⟩ := h (k + i) v (by simpa [List.getElem?_map, List.getElem?_drop] using hi)
  injection e with e
  subst e
  exact ⟨_, rfl, by rw [add_add]; exact hc⟩
theorem ints_take {w : World} {A : Option Addr} {kd : IntKind} {L : List Int} (h : Ints w A kd L) (k : Nat) : Ints w A kd (L.take k) := fun i v hi => by
  refine h i v ?_
  simp only [List.getElem?_map, List.getElem?_take] at hi ⊢
  split at hi
  · exact hi
  · simp at hi
theorem BadAt.grown {w w' : World} {R : Nat} {v : Value} {b : Option (Int × Int)} {t : TypeId} {cs : List Value} (h : BadAt w v b) (hR : Blk w R t cs) (ht : t ≠ 51) (hg : w.grownBy w' (some R)) : BadAt w' v b := by
  cases b with
  | none => exact h
  | some q =>
    obtain ⟨E, p⟩ := q
    obtain ⟨f, e1, e2⟩ := h
    exact ⟨f, e1, e2.grown hg (by have := blk_ne hR e2 ht; intro e; exact this (by simpa using e.symm))⟩
theorem BadAt.below {w w' : World} {v : Value} {b : Option (Int × Int)} (h : BadAt w v b) (hb : Below w.heap.size w w') : BadAt w' v b := by
  cases b with
  | none => exact h
  | some q =>
    obtain ⟨E, p⟩ := q
    obtain ⟨f, e1, e2⟩ := h
    exact ⟨f, e1, e2.below_ hb⟩
theorem RdIs.below {w w' : World} {R : Nat} {A : Addr} {n c : Nat} {L : List Int} {s : Rd.St} (h : RdIs w R A n c L s) (hb : Below w.heap.size w w') : RdIs w' R A n c L s := by
  obtain ⟨bv, h1, h2⟩ := h.rdr
  exact ⟨⟨bv, h1.below_ hb, h2.below hb⟩, h.ints.below hb, h.len, h.byt, h.lt, h.cap, h.big, h.le⟩
/-- another block has grown: one of another type -/
theorem RdIs.grown {w w' : World} {R b : Nat} {A : Addr} {n c : Nat} {L : List Int} {s : Rd.St} {t : TypeId} {cs : List Value} (h : RdIs w R A n c L s) (hb : Blk w b t cs) (ht : t ≠ 51) (hR : R < b) (hg : w.grownBy w' (some b)) : RdIs w' R A n c L s := by
  obtain ⟨bv, h1, h2⟩ := h.rdr
  have := h.lt
  exact ⟨⟨bv, h1.grown hg (by intro e; simp at e; omega), h2.grown hb ht hg⟩, Cells.grown h.ints hg (fun ad e => .inr (by injection e with e; rw [← e]; omega)), h.len, h.byt, h.lt, h.cap, h.big, h.le⟩
/-- a block has grown in which no fault lies -/
theorem RdIs.grownF {w w' : World} {R b : Nat} {A : Addr} {n c : Nat} {L : List Int} {s : Rd.St} (h : RdIs w R A n c L s) (hb : ∀ cs, ¬ Blk w b 51 cs) (hR : R < b) (hg : w.grownBy w' (some b)) : RdIs w' R A n c L s := by
  obtain ⟨bv, h1, h2⟩ := h.rdr
  have := h.lt
  refine ⟨⟨bv, h1.grown hg (by intro e; simp at e; omega), ?_⟩, Cells.grown h.ints hg (fun ad e => .inr (by injection e with e; rw [← e]; omega)), h.len, h.byt, h.lt, h.cap, h.big, h.le⟩
  obtain ⟨k, bad⟩ := s
  cases bad with
  | none => exact h2
  | some q =>
    obtain ⟨E, p⟩ := q
    obtain ⟨f, e1, e2⟩ := h2
    exact ⟨f, e1, e2.grown hg (by intro e; have : f = b := by simpa using e
                                  exact hb _ (this ▸ e2))⟩
theorem own_no_fault {w : World} {base size n g d : Nat} {e : TypeId} {xs : List Value} (h : w.ownsRow base e size (.slice (some ⟨g, 0, none⟩) n d) n xs) (he : e ≠ 51) : ∀ cs, ¬ Blk w g 51 cs := fun cs hb => by
  rcases h.2 with ⟨e1, _⟩ | ⟨g', c, cur, e1, _, e3, _⟩
  · cases e1
  · injection e1 with e1
    injection e1 with e1
    injection e1 with e1
    subst e1
    unfold Blk at hb
    rw [e3] at hb
    injection hb with hb
    injection hb with _ hb
    exact he hb
theorem RdIs.setCell {w : World} {R b i : Nat} {A : Addr} {n c : Nat} {L : List Int} {s : Rd.St} {t : TypeId} {cs : List Value} {u : Value} (h : RdIs w R A n c L s) (hb : Blk w b t cs) (ht : t ≠ 51) (hR : R < b) : RdIs (w.setCell ⟨b, i, none⟩ u) R A n c L s :=
  h.grown hb ht hR (grownBy_setCell (grownBy_refl w _) i u)
theorem RdIs.lt_ {w : World} {R : Nat} {A : Addr} {n c : Nat} {L : List Int} {s : Rd.St} (h : RdIs w R A n c L s) : R < w.heap.size := by
  obtain ⟨bv, h1, h2⟩ := h.rdr
  exact h1.lt
/-- the reader alone has turned, or memory has grown -/
def RdP (R : Nat) (A : Addr) (n c : Nat) (L : List Int) (w : World) (s : Rd.St) (v : Value) (e : Ending) (w' : World) : Prop := e = .returned v ∧ RdIs w' R A n c L s ∧ w.grownBy w' (some R)
theorem rdBad (R : Nat) (A : Addr) (n c : Nat) (L : List Int) (s : Rd.St) (w : World) (h : RdIs w R A n c L s) :
    Calls Try.prog 50 #[.pointer (some ⟨R, 0, none⟩)] w fun e w' => e = .returned (.bool s.bad.isSome) ∧ w = w' := by
  obtain ⟨⟨bv, h1, h2⟩, -⟩ := h
  have c2 : w.cell? ⟨R, 2, none⟩ = some bv := h1.cell 2
  obtain ⟨k, bad⟩ := s
  cases bad with
  | none =>
    obtain rfl : bv = .pointer none := h2
    clear h1
    go_enter Try.func50, Try.ntmps50
    go_wp2_with fail
    go_ret
    exact ⟨rfl, rfl⟩
  | some q =>
    obtain ⟨E, p⟩ := q
    obtain ⟨f, rfl, -⟩ := h2
    clear h1
    go_enter Try.func50, Try.ntmps50
    go_wp2_with fail
    go_ret
    exact ⟨rfl, rfl⟩
theorem rdAt (R : Nat) (A : Addr) (n c : Nat) (L : List Int) (s : Rd.St) (w : World) (h : RdIs w R A n c L s) :
    Calls Try.prog 26 #[.pointer (some ⟨R, 0, none⟩)] w fun e w' => e = .returned (.int .i64 s.k) ∧ w = w' := by
  obtain ⟨⟨bv, h1, h2⟩, -⟩ := h
  have c1 : w.cell? ⟨R, 1, none⟩ = some (.int .i64 s.k) := h1.cell 1
  clear h1 h2
  go_enter Try.func26, Try.ntmps26
  go_wp2_with fail
  go_ret
  exact ⟨rfl, rfl⟩
theorem rdLeft (R : Nat) (A : Addr) (n c : Nat) (L : List Int) (s : Rd.St) (w : World) (h : RdIs w R A n c L s) :
    Calls Try.prog 24 #[.pointer (some ⟨R, 0, none⟩)] w fun e w' => e = .returned (.int .i64 (Rd.left n s)) ∧ Drew w w' := by
  obtain ⟨⟨bv, h1, h2⟩, -, -, -, -, -, hb, hk⟩ := h
  obtain ⟨k, bad⟩ := s
  cases bad with
  | none =>
    obtain rfl : bv = .pointer none := h2
    refine (wireLeft_ok R (some A) n c k w h1 hk (by omega)).mono ?_
    rintro e w' ⟨rfl, hd⟩
    exact ⟨by rw [show (Rd.left n ⟨k, none⟩ : Int) = n - k from by show ((n - k : Nat) : Int) = _; simp at hk; omega], hd⟩
  | some q =>
    obtain ⟨E, p⟩ := q
    obtain ⟨f, rfl, -⟩ := h2
    have c2 : w.cell? ⟨R, 2, none⟩ = some (.pointer (some ⟨f, 0, none⟩)) := h1.cell 2
    clear h1
    go_enter Try.func24, Try.ntmps24
    go_wp2_with fail
    go_ret
    exact ⟨rfl, 0, rfl⟩
theorem rdFail (R : Nat) (A : Addr) (n c : Nat) (L : List Int) (s : Rd.St) (E p : Int) (w : World) (h : RdIs w R A n c L s) (hE : (E == 0) = false) :
    Calls Try.prog 25 #[.pointer (some ⟨R, 0, none⟩), .int .i64 E, .int .i64 p] w (RdP R A n c L w (Rd.fail s E p) (.tuple #[])) := by
  obtain ⟨⟨bv, h1, h2⟩, hi, hl, hby, hlt, hc, hb, hk⟩ := h
  obtain ⟨k, bad⟩ := s
  cases bad with
  | none =>
    obtain rfl : bv = .pointer none := h2
    have c2 : w.cell? ⟨R, 2, none⟩ = some (.pointer none) := h1.cell 2
    have f2 : w.frozen? ⟨R, 2, none⟩ = false := h1.frozen 2
    have hRl := h1.lt
    have HB := Lib.hid h1; have HI := Lib.hid hi
    clear h1 hi
    go_enter Try.func25, Try.ntmps25
    go_wp2_with fail
    go_end0
    obtain ⟨u, hu⟩ : ∃ u, u = w.setCell ⟨R, 2, none⟩ (.pointer (some ⟨w.heap.size, 0, none⟩)) := ⟨_, rfl⟩
    have hus : u.heap.size = w.heap.size := by rw [hu]; simp
    have hg0 : w.grownBy u (some R) := by rw [hu]; exact grownBy_setCell (grownBy_refl w _) 2 _
    have hB : Below u.heap.size u (u.alloc (.cells #[.int .i64 E, .int .i64 p] 51)) := (Below.refl _ u).alloc (Nat.le_refl _) _
    have hg : w.grownBy (u.alloc (.cells #[.int .i64 E, .int .i64 p] 51)) (some R) := grownBy_trans hg0 (grownBy_below hB)
    have hR : Blk u R 71 [.slice (some A) n c, .int .i64 k, .pointer (some ⟨w.heap.size, 0, none⟩)] := by rw [hu]; exact HB.out.set_ 2 _
    have hF := Blk.new u 51 [.int .i64 E, .int .i64 p]
    rw [hus] at hF
    rw [← hu]
    refine ⟨rfl, ⟨⟨_, hR.below_ hB, w.heap.size, rfl, hF⟩, ?_, hl, hby, hlt, hc, hb, hk⟩, hg⟩
    exact Cells.grown HI.out hg (fun ad e => .inr (by injection e with e; rw [← e]; omega))
  | some q =>
    obtain ⟨E', p'⟩ := q
    obtain ⟨f, rfl, hf⟩ := h2
    have c2 : w.cell? ⟨R, 2, none⟩ = some (.pointer (some ⟨f, 0, none⟩)) := h1.cell 2
    have HB := Lib.hid h1; have HI := Lib.hid hi; have HF := Lib.hid hf
    clear h1 hi hf
    go_enter Try.func25, Try.ntmps25
    go_wp2_with fail
    go_end0
    exact ⟨rfl, ⟨⟨_, HB.out, f, rfl, HF.out⟩, HI.out, hl, hby, hlt, hc, hb, hk⟩, grownBy_refl w _⟩
end Go.Proofs.Ytaipkoeiahjghaa
