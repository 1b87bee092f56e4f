/- A block of a tape, as plain data and in memory. Written by gen_rdn.py. -/
import Derived.Test.YtaipkoeiahjghaaRdL
import Derived.Test.YtaipkoeiahjghaaRdM
namespace Go.Proofs.Ytaipkoeiahjghaa
set_option linter.unusedSimpArgs false
set_option linter.unusedVariables false
open Go.RowKit
/-- a block of a tape -/
structure TB where
  id : Int := 0
  pause : Int := 0
  pilot : Int := 0
  sync1 : Int := 0
  sync2 : Int := 0
  zero : Int := 0
  one : Int := 0
  tone : Int := 0
  count : Int := 0
  used : Int := 0
  rate : Int := 0
  pack : Int := 0
  data : List Int := []
  times : List Int := []
  items : List (Int × List Int) := []
  pilots : List (Int × List Int) := []
  syms : List (Int × List Int) := []
  reps : List (Int × Int) := []
/-- its cells, over its six slices -/
def TB.cells (B : TB) (d t i p s r : Value) : List Value := [.int .i64 B.id, .int .i64 B.pause, .int .i64 B.pilot, .int .i64 B.sync1, .int .i64 B.sync2, .int .i64 B.zero, .int .i64 B.one, .int .i64 B.tone, .int .i64 B.count, .int .i64 B.used, .int .i64 B.rate, .int .i64 B.pack, d, t, i, p, s, r]
/-- its six slices -/
structure TB.Rows (w : World) (base : Nat) (B : TB) (d t i p s r : Value) : Prop where
  d : RowOf w base d .u8 B.data
  t : RowOf w base t .i64 B.times
  i : SymsOf w base 32 .u8 i B.items
  p : SymsOf w base 85 .i64 p B.pilots
  s : SymsOf w base 85 .i64 s B.syms
  r : RepsOf w base r B.reps
/-- a block that has been filled -/
def TbIn (w : World) (base R P b : Nat) (A : Addr) (n c : Nat) (L : List Int) (st : Rd.St) (B : TB) : Prop :=
  ∃ d t i p s r, Fill w R P b A n c L st (B.cells d t i p s r) ∧ TB.Rows w base B d t i p s r
def fresh (id : Int) : List Value := TB.cells { id := id } nilS nilS nilS nilS nilS nilS
def SndP (R P b : Nat) (A : Addr) (n c : Nat) (L : List Int) (w : World) (v : Value) (B : TB) (st : Rd.St) (e : Ending) (w' : World) : Prop :=
  e = .returned v ∧ TbIn w' w.heap.size R P b A n c L st B ∧ Grew2 R b w w'
theorem tbIn_of {w : World} {base R P b : Nat} {A : Addr} {n c : Nat} {L : List Int} {st : Rd.St} {B : TB} {cs : List Value} {d t i p s r : Value} (h : Fill w R P b A n c L st cs) (hc : cs = B.cells d t i p s r) (hr : TB.Rows w base B d t i p s r) : TbIn w base R P b A n c L st B :=
  ⟨d, t, i, p, s, r, hc ▸ h, hr⟩
theorem rows_none {w : World} {base : Nat} {B : TB} (h : B.data = [] ∧ B.times = [] ∧ B.items = [] ∧ B.pilots = [] ∧ B.syms = [] ∧ B.reps = []) : TB.Rows w base B nilS nilS nilS nilS nilS nilS := by
  obtain ⟨h1, h2, h3, h4, h5, h6⟩ := h
  refine ⟨?_, ?_, ?_, ?_, ?_, ?_⟩
  · rw [h1]; exact row_nil _ _ _
  · rw [h2]; exact row_nil _ _ _
  · rw [h3]; exact syms_nil _ _ _ _
  · rw [h4]; exact syms_nil _ _ _ _
  · rw [h5]; exact syms_nil _ _ _ _
  · rw [h6]; exact reps_nil _ _
namespace Rd
def soundM (id at_ : Int) : RM TB :=
  if id = 16 then bind (num 2) fun x1 => bind (dataM 2) fun x2 => ret ({ id := 16, pause := x1, data := x2 } : TB)
  else if id = 17 then bind (num 2) fun x1 => bind (num 2) fun x2 => bind (num 2) fun x3 => bind (num 2) fun x4 => bind (num 2) fun x5 => bind (num 2) fun x6 => bind pureM fun x7 => ret ({ id := 17, pilot := x1, sync1 := x2, sync2 := x3, zero := x4, one := x5, count := x6, used := x7.1, pause := x7.2.1, data := x7.2.2 } : TB)
  else if id = 18 then bind (num 2) fun x1 => bind (num 2) fun x2 => ret ({ id := 18, tone := x1, count := x2 } : TB)
  else if id = 19 then bind (num 1) fun x1 => bind (numbers x1 2) fun x2 => ret ({ id := 19, times := x2 } : TB)
  else if id = 20 then bind (num 2) fun x1 => bind (num 2) fun x2 => bind pureM fun x3 => ret ({ id := 20, zero := x1, one := x2, used := x3.1, pause := x3.2.1, data := x3.2.2 } : TB)
  else if id = 21 then bind (num 2) fun x1 => bind (num 2) fun x2 => bind (num 1) fun x3 => bind (dataM 3) fun x4 => ret ({ id := 21, rate := x1, pause := x2, used := x3, data := x4 } : TB)
  else if id = 24 then bind (samplesM at_) fun x1 => ret ({ id := 24, pause := x1.1, rate := x1.2.1, pack := x1.2.2.1, count := x1.2.2.2.1, data := x1.2.2.2.2 } : TB)
  else if id = 25 then bind (generalM at_) fun x1 => ret ({ id := 25, pause := x1.pa, pilot := x1.pi, sync1 := x1.sy, count := x1.co, zero := x1.ze, one := x1.on, pilots := x1.pil, syms := x1.syl, reps := x1.rl, data := x1.dat } : TB)
  else if id = 32 then bind (num 2) fun x1 => ret ({ id := 32, pause := x1 } : TB)
  else ret {}
def leadsM (id at_ : Int) : RM TB :=
  if id = 34 then ret ({ id := 34 } : TB)
  else if id = 37 then ret ({ id := 37 } : TB)
  else if id = 39 then ret ({ id := 39 } : TB)
  else if id = 35 then bind (signedM 1) fun x1 => ret ({ id := 35, times := x1 } : TB)
  else if id = 36 then bind (num 2) fun x1 => ret ({ id := 36, count := x1 } : TB)
  else if id = 38 then bind (num 2) fun x1 => bind (signedM x1.toNat) fun x2 => ret ({ id := 38, times := x2 } : TB)
  else if id = 40 then bind (itemsM signed at_) fun x1 => ret ({ id := 40, items := x1 } : TB)
  else if id = 42 then bind (fixed 0) fun x1 => ret ({ id := 42 } : TB)
  else if id = 43 then bind levelM fun x1 => ret ({ id := 43, used := x1 } : TB)
  else ret {}
def tellsM (id at_ : Int) : RM TB :=
  if id = 33 then bind (dataM 1) fun x1 => ret ({ id := 33, data := x1 } : TB)
  else if id = 48 then bind (dataM 1) fun x1 => ret ({ id := 48, data := x1 } : TB)
  else if id = 49 then bind (num 1) fun x1 => bind (dataM 1) fun x2 => ret ({ id := 49, count := x1, data := x2 } : TB)
  else if id = 50 then bind (itemsM (num 1) at_) fun x1 => ret ({ id := 50, items := x1 } : TB)
  else if id = 51 then bind (num 1) fun x1 => bind (numbers (3 * x1) 1) fun x2 => ret ({ id := 51, times := x2 } : TB)
  else if id = 53 then bind (take 16) fun x1 => bind (dataM 4) fun x2 => ret ({ id := 53, items := [(0, x1)], data := x2 } : TB)
  else if id = 52 then bind (take 8) fun x1 => ret ({ id := 52, data := x1 } : TB)
  else if id = 90 then bind gluedM fun x1 => ret ({ id := 90, data := x1 } : TB)
  else bind (dataM 4) fun x1 => ret ({ id := id, data := x1 } : TB)
/-- a block, of an ID that was read -/
def bodyM (id at_ : Int) : RM TB := if (id = 16 ∨ id = 17 ∨ id = 18 ∨ id = 19 ∨ id = 20 ∨ id = 21 ∨ id = 24 ∨ id = 25 ∨ id = 32) then soundM id at_ else if (id = 34 ∨ id = 37 ∨ id = 39 ∨ id = 35 ∨ id = 36 ∨ id = 38 ∨ id = 40 ∨ id = 42 ∨ id = 43) then leadsM id at_ else tellsM id at_
def blockM : RM TB := fun L s => bind (num 1) (fun id => bodyM id s.k) L s
end Rd
end Go.Proofs.Ytaipkoeiahjghaa
