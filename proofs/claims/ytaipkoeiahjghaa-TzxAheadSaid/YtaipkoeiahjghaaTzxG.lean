/- wire: Take, End, Why; the parser at the chapter's example. -/
import Derived.Test.YtaipkoeiahjghaaTzxF
import Derived.Test.YtaipkoeiahjghaaMemE
import Derived.BigRegion
namespace Go.Proofs.Ytaipkoeiahjghaa
set_option linter.unusedSimpArgs false
set_option linter.unusedVariables false
open Go.RowKit
theorem infoByte : (Try.prog.info? 5).map (fun i => (i.zero, i.size, i.bytes)) = some (some (.int .u8 0), 1, 1) := by kernel_rfl
/-- bytes are taken; they lie somewhere -/
def TakeP (r : Nat) (A : Addr) (n c k j : Nat) (w : World) (e : Ending) (w' : World) : Prop := ∃ v, e = .returned v ∧ Rdr w' r (some A) n c (k + j) ∧ w.grownBy w' (some r)
theorem wireTake_ok (r : Nat) (A : Addr) (n c k j : Nat) (l : List Int) (w : World) (hr : Rdr w r (some A) n c k) (hl : Ints w (some (A.add k)) .u8 l) (hlj : l.length = j) (hne : A.block ≠ r) (hj : 1 ≤ j) (hj1 : j ≤ 1000000) (hk : k + j ≤ n) (hn : n ≤ 1048577) (hc : n ≤ c) :
    Calls Try.prog 22 #[.pointer (some ⟨r, 0, none⟩), .int .i64 j] w (TakeP r A n c k j w) := by
  obtain ⟨w1, hw1⟩ : ∃ w1, w1 = w.alloc (.cells #[] 5) := ⟨_, rfl⟩
  have HW1 := Lib.hid hw1
  have hB : Below w.heap.size w w1 := by rw [hw1]; exact (Below.refl _ w).alloc (Nat.le_refl _) _
  have hB2 : Below w.heap.size w w1 := hB
  have hlt := hr.lt
  have HN := Lib.hid (wireNext_ok r A n c k j w1 (hr.below_ hB) hj hk (by omega) hc)
  have HR1 := Lib.hid (show Rdr w1 r (some A) n c k from hr.below_ hB)
  have HO : Hid (w1.ownsRow w.heap.size 5 1 (.slice (some ⟨w.heap.size, 0, none⟩) 0 0) 0 []) := by
    show _
    rw [hw1]
    exact own_of_blk (Blk.new w 5 []) (Nat.le_refl _) rfl (by unfold maxLen; omega)
  have HI := Lib.hid (hl.below hB)
  have HL := Lib.hid hlj
  have HB := Lib.hid hB
  have hs1 : w1.heap.size = w.heap.size + 1 := by rw [hw1]; simp
  have hrn : (Value.slice (some ⟨w.heap.size, 0, none⟩) 0 0).ownBlock ≠ some r := by
    intro e
    have : w.heap.size = r := by simpa [Value.ownBlock] using e
    omega
  have HRN := Lib.hid hrn
  have hm1 : 0 + j ≤ maxLen := by unfold maxLen; omega
  have hm2 : (0 + j) * 1 ≤ 140737488355328 := by omega
  clear hr hl hlj hB hw1 hB2 hrn
  go_enter Try.func22, Try.ntmps22
  go_wp2_with (first
    | (go_at_call 29; rw [← HW1.out]; refine HN.out.mono ?_; rintro e w2 ⟨rfl, ht⟩; have HR2 := Lib.hid (took_rdr ht HR1.out); have hg2 := took_grown ht; have HG2 := Lib.hid hg2; have HO2 := Lib.hid (HO.out.kept hg2 (.inr HRN.out)); have HI2 := Lib.hid (Cells.grown HI.out hg2 (fun ad e => .inr (by injection e with e; rw [← e, block_of_add]; exact hne))); have hsz2 := hg2.size; clear ht hg2)
    | (at_builtin; refine wpList_appAny _ rfl (.tmp 11) (.tmp 14) 25 rfl w.heap.size 5 (.int .u8 0) 1 Try.underlying25 infoByte rfl _ 0 [] rfl HO2.out (some (A.add k)) j (c - k) (l.map (.int .u8 ·)) rfl (by simpa using HL.out) HI2.out (fun h => by cases h) (fun u hu => by obtain ⟨x, -, rfl⟩ := List.mem_map.1 hu; rfl) hm1 hm2 (by omega) ?_; intro v' w3 hown3 hg3; have HR3 := Lib.hid (HR2.out.grown hg3 (Ne.symm HRN.out)); have HG3 : Hid (w2.grownBy w3 (some w.heap.size)) := hg3; clear hown3 hg3))
  go_ret
  have hs2 := HG2.out.size
  exact ⟨_, rfl, HR3.out, HG3.out.os.trans (HG2.out.os.trans HB.out.os), HG3.out.tape.trans (HG2.out.tape.trans HB.out.tape), HG3.out.output.trans (HG2.out.output.trans HB.out.output), by have := HG3.out.size; omega,
    fun k hk hr => (HG3.out.block k (by omega) (by intro e; have : k = w.heap.size := by simpa using e
                                                   omega)).trans ((HG2.out.block k (by omega) hr).trans (HB.out.block k hk))⟩
theorem wireEnd_ok (r : Nat) (A : Option Addr) (n c : Nat) (w : World) (hr : Rdr w r A n c n) :
    Calls Try.prog 28 #[.pointer (some ⟨r, 0, none⟩)] w fun e w' => e = .returned Value.nilIface ∧ Drew w w' := by
  have h0 : w.cell? ⟨r, 0, none⟩ = some (.slice A n c) := hr.cell 0
  have h1 : w.cell? ⟨r, 1, none⟩ = some (.int .i64 n) := hr.cell 1
  have h2 : w.cell? ⟨r, 2, none⟩ = some (.pointer none) := hr.cell 2
  clear hr
  go_enter Try.func28, Try.ntmps28
  go_wp2_with fail
  go_quiet (fail)
  go_wp2_with fail
  go_ret
  exact ⟨rfl, _, rfl⟩
theorem assert_fault (v : Value) (w : World) : (Instr.typeAssert (.iface 48 v) 45 48 true).run Try.prog w = .ok (.tuple #[v, .bool true]) w := by kernel_rfl
theorem why_fault (f : Nat) (x y : Int) (w : World) (hf : Blk w f 51 [.int .i64 x, .int .i64 y]) :
    Calls Try.prog 16 #[.iface 48 (.pointer (some ⟨f, 0, none⟩))] w fun e w' => e = .returned (.tuple #[.int .i64 x, .int .i64 y]) ∧ Drew w w' := by
  have h0 : w.cell? ⟨f, 0, none⟩ = some (.int .i64 x) := hf.cell 0
  have ha := assert_fault (.pointer (some ⟨f, 0, none⟩)) w
  have h1 : w.cell? ⟨f, 1, none⟩ = some (.int .i64 y) := hf.cell 1
  clear hf
  go_enter Try.func16, Try.ntmps16
  go_wp2_with fail
  go_quiet (fail)
  go_wp2_with fail
  go_ret2
  exact ⟨rfl, _, rfl⟩
end Go.Proofs.Ytaipkoeiahjghaa
