/- Texts that are laid together: Bus. -/
import Derived.Test.YtifgikjmfmkgeaaGreatDCpu
import Derived.Test.YtifgikjmfmkgeaaGreatDMem
import Derived.Deep.RegionLaw
import Derived.RegionTactic
import Derived.BigRegion
import Derived.Deep.RegionWith
import Derived.Deep.RegionHeld3
import Derived.Test.YtifgikjmfmkgeaaGreatDMic
import Derived.Test.YtifgikjmfmkgeaaGreatDReg
import Derived.Deep.QuietTactic
import Derived.StillTailTactics
import Derived.Great.Ranges
import Derived.Deep.MidRow
import Derived.Lib.QuietBelow
namespace Go.Proofs.YtifgikjmfmkgeaaGreat
set_option linter.unusedSimpArgs false
set_option linter.unusedVariables false
open Go.RowKit
theorem step_appT {P : Program} (w : World) {ops : Array Oper} {o : Oper} {a : Act} {K : Act → World → Prop} {Q : Exit → Act → World → Prop} {E : Prop} (hgd : o.guard = none) (s x : Operand) (t : TypeId)
    (ho : o.op = .call { callee := .builtin .append, args := #[s, x], argTypes := #[t, t] })
    (base : Nat) (e : TypeId) (z : Value) (size bytes : Nat) (ht : P.underlying t = some (.slice e)) (hi : (P.info? e).map (fun i => (i.zero, i.size, i.bytes)) = some (some z, size, bytes)) (hzs : z.cells.size = size) (hsz : 0 < size)
    (v : Value) (n : Nat) (xs : List Value) (hs : a.eval s = v) (hown : w.ownsRow base e size v n xs) (cs : Array Value) (m : Nat) (hx : a.eval x = .slice (some ⟨w.heap.size, 0, none⟩) m m) (hcs : cs.size = m * size) (hu : cs.all (·.oneCell') = true)
    (hm : 0 < m) (hbytes : (n + m) * bytes ≤ 140737488355328) (hb1 : 1 ≤ bytes) (hbase : base ≤ w.heap.size)
    (h : ∀ g c w', w'.ownsRow base e size (.slice (some ⟨g, 0, none⟩) (n + m) c) (n + m) (xs ++ cs.toList) → w.grownBy w' v.ownBlock → (v.ownBlock = some g ∨ w.heap.size ≤ g) → K (a.put o.dst (.slice (some ⟨g, 0, none⟩) (n + m) c)) w') :
    if Region.wanted o (yielded ops a.tmps) = true then Oper.wp P o a (w.alloc (.cells cs e)) K Q else E := by
  obtain ⟨i0, hi0, hz0, hz1, hz2⟩ := info_parts hi
  refine step_append_lies (w.alloc (.cells cs e)) hgd s x t ho base e i0 z size bytes ht hi0 hz0 hz1 hz2 hzs hsz v n xs hs (hown.alloc _) ⟨w.heap.size, 0, none⟩ m m cs.toList hx (by simpa using hcs) ?_ ?_ hm ?_ hbytes (by simp; omega) _ rfl ?_
  · intro j u hj
    rw [Addr.add_mid, cell_of_row _ _ _ _ _ _ (heap_alloc_new w _)]
    simpa using hj
  · intro u hu'
    obtain ⟨j, hj, rfl⟩ := List.getElem_of_mem hu'
    rw [Array.all_eq_true] at hu
    exact hu j (by simpa using hj)
  · have : n + m ≤ (n + m) * bytes := Nat.le_mul_of_pos_right _ hb1
    unfold maxLen; omega
  · intro g c w' h1 h2 h3 _
    refine h g c w' h1 (grownBy_of_alloc h2) ?_
    rcases h3 with h3 | h3
    · exact .inl h3
    · right
      rw [h3]
      simp
/-- what a port did -/
structure AcV where
  (t : Int) (out : Bool) (port v : Int)
def AcV.cells (a : AcV) : List Value := [.int .u64 a.t, .bool a.out, .int .u16 a.port, .int .u8 a.v]
def flatA (l : List AcV) : List Value := l.flatMap AcV.cells
theorem flatA_snoc (l : List AcV) (a : AcV) : flatA (l ++ [a]) = flatA l ++ a.cells := by simp [flatA]
structure Fl where
  (m : List Int) (t : Int) (line : Bool) (acts : List AcV)
/-- a bus stands in block h; what its ports did lies where av leads; its ports have nothing to tell -/
structure FlAt (w : World) (h : Nat) (av : Value) (f : Fl) : Prop where
  blk : Blk w h 39 (f.m.map (.int .u8) ++ [.slice none 0 0, av, .int .u64 f.t, .bool f.line])
  len : f.m.length = 65536
  own : w.ownsRow 0 157 4 av f.acts.length (flatA f.acts)
  few : f.acts.length ≤ 1000000000
theorem FlAt.byte {w : World} {h : Nat} {av : Value} {f : Fl} (hf : FlAt w h av f) (a : Nat) (ha : a < 65536) : w.cell? ⟨h, a, none⟩ = some (.int .u8 (f.m.getD a 0)) := by
  have h1 : a < f.m.length := by rw [hf.len]; exact ha
  rw [hf.blk.cell a, List.getElem?_append_left (by simpa using h1), List.getElem?_map, List.getElem?_eq_getElem h1]
  simp [List.getD, List.getElem?_eq_getElem h1]
theorem FlAt.tail {w : World} {h : Nat} {av : Value} {f : Fl} (hf : FlAt w h av f) (j k : Nat) (hk : k = 65536 + j) : w.cell? ⟨h, k, none⟩ = [.slice none 0 0, av, .int .u64 f.t, .bool f.line][j]? := by
  subst hk
  have h1 : (f.m.map (Value.int .u8)).length = 65536 := by rw [List.length_map]; exact hf.len
  rw [hf.blk.cell, List.getElem?_append_right (by rw [h1]; exact Nat.le_add_right _ _), h1, Nat.add_sub_cancel_left]
/-- the blocks in which a bus stands -/
def FlP (h : Nat) (av : Value) (k : Nat) : Prop := k = h ∨ av.ownBlock = some k
theorem av_ne {w : World} {h : Nat} {av : Value} {f : Fl} (hf : FlAt w h av f) : av.ownBlock ≠ some h := fun e => by
  obtain ⟨cur, hc⟩ : ∃ cur, w.heap[h]? = some (.cells cur 157 (0, 0)) := by
    rcases hf.own.2 with ⟨hv, _⟩ | ⟨b, cap, cur, hv, _, hb, _⟩
    · rw [hv] at e; cases e
    · rw [hv] at e
      have : b = h := by injection e
      subst this
      exact ⟨cur, hb⟩
  have hb := hf.blk
  unfold Blk at hb
  rw [hc] at hb
  injection hb with hb
  injection hb with _ hb _
  exact absurd hb (by decide)
theorem FlAt.ch {p : Nat → Prop} {w w' : World} {h : Nat} {av : Value} {f : Fl} (hf : FlAt w h av f) (hc : Ch p w w') (hn : ¬ p h) (ha : ∀ k, av.ownBlock = some k → ¬ p k) : FlAt w' h av f :=
  ⟨hc.blk hf.blk hn, hf.len, own_keepC hf.own fun k hk => hc.block k (hf.own.lt k hk).2 (ha k hk), hf.few⟩
def Fl.put (f : Fl) (a : Nat) (v : Int) : Fl := { f with m := f.m.set a v }
theorem FlAt.only {w w' : World} {h : Nat} {av : Value} {f f' : Fl} (hf : FlAt w h av f) (ho : Only h w w') (hb : Blk w' h 39 (f'.m.map (.int .u8) ++ [.slice none 0 0, av, .int .u64 f'.t, .bool f'.line])) (hl : f'.m.length = 65536) (ha : f'.acts = f.acts) : FlAt w' h av f' :=
  ⟨hb, hl, by rw [ha]; exact own_keepC hf.own fun k hk => ho.block k fun e => av_ne hf (by rw [hk, e]), by rw [ha]; exact hf.few⟩
theorem FlAt.put {w : World} {h : Nat} {av : Value} {f : Fl} (hf : FlAt w h av f) (a : Nat) (ha : a < 65536) (v : Int) : FlAt (w.setCell ⟨h, a, none⟩ (.int .u8 v)) h av (f.put a v) := by
  refine hf.only (Only.set h a w _) ?_ (by show (f.m.set a v).length = _; rw [List.length_set]; exact hf.len) rfl
  have := hf.blk.set_ a (.int .u8 v)
  have e : (f.m.map (Value.int .u8) ++ [.slice none 0 0, av, .int .u64 f.t, .bool f.line]).set a (.int .u8 v) = (f.m.set a v).map (Value.int .u8) ++ [.slice none 0 0, av, .int .u64 f.t, .bool f.line] := by
    rw [List.set_append_left _ _ (by rw [List.length_map, hf.len]; exact ha), List.map_set]
  rw [e] at this
  exact this
set_option maxRecDepth 100000 in
theorem fl_read (h : Nat) (av : Value) (f : Fl) (a : Nat) (w : World) (hf : FlAt w h av f) (ha : a < 65536) :
    Calls Tryz.prog 170 #[.pointer (some ⟨h, 0, none⟩), .int .u16 a] w fun e w' => e = .returned (.int .u8 (f.m.getD a 0)) ∧ w' = w := by
  have hc := hf.byte a ha
  have ha2 : (a : Int) < 65536 := by omega
  obtain ⟨v, hv⟩ : ∃ v, v = f.m.getD a 0 := ⟨_, rfl⟩
  rw [← hv] at hc ⊢
  clear hv hf
  go_enter Tryz.func170, Tryz.ntmps170
  go_wp2
  go_ret
  exact ⟨rfl, rfl⟩
set_option maxRecDepth 100000 in
theorem fl_write (h : Nat) (av : Value) (f : Fl) (a : Nat) (v : Int) (w : World) (hf : FlAt w h av f) (ha : a < 65536) :
    Calls Tryz.prog 171 #[.pointer (some ⟨h, 0, none⟩), .int .u16 a, .int .u8 v] w fun e w' => e = .returned (.tuple #[]) ∧ FlAt w' h av (f.put a v) ∧ Only h w w' := by
  have hc := hf.byte a ha
  have hz := hf.blk.frozen a
  have ha2 : (a : Int) < 65536 := by omega
  obtain ⟨x, hx⟩ : ∃ x, x = f.m.getD a 0 := ⟨_, rfl⟩
  rw [← hx] at hc
  have HF := Lib.hid hf
  clear hx hf
  go_enter Tryz.func171, Tryz.ntmps171
  go_wp2
  exact bodyPost_end (results_none rfl _ _ _) rfl ⟨rfl, HF.out.put a ha v, Only.set h a w _⟩
theorem fl_hold (h : Nat) (k a j : Int) (w : World) : Calls Tryz.prog 166 #[.pointer (some ⟨h, 0, none⟩), .int .i64 k, .int .u16 a, .int .i64 j] w fun e w' => e = .returned (.int .i64 0) ∧ w' = w := by
  go_enter Tryz.func166, Tryz.ntmps166
  go_wp2
  go_ret
  exact ⟨rfl, rfl⟩
set_option maxRecDepth 100000 in
theorem fl_int (h : Nat) (av : Value) (f : Fl) (w : World) (hf : FlAt w h av f) : Calls Tryz.prog 168 #[.pointer (some ⟨h, 0, none⟩)] w fun e w' => e = .returned (.bool f.line) ∧ w' = w := by
  have hc : w.cell? ⟨h, 65539, none⟩ = some (.bool f.line) := hf.tail 3 65539 rfl
  clear hf
  go_enter Tryz.func168, Tryz.ntmps168
  go_wp2
  go_ret
  exact ⟨rfl, rfl⟩
theorem underAct : Tryz.prog.underlying 36 = some (.slice 157) := Tryz.underlying36
theorem infoAct : (Tryz.prog.info? 157).map (fun i => (i.zero, i.size, i.bytes)) = some (some (.agg #[.int .u64 0, .bool false, .int .u16 0, .int .u8 0]), 4, 16) := by kernel_rfl
/-- a port does something -/
def Fl.act (f : Fl) (out : Bool) (p v : Int) : Fl := { f with acts := f.acts ++ [⟨f.t, out, p, v⟩] }
/-- what an act leaves: another bus, in its own blocks or in new memory -/
def ActTo (h : Nat) (w : World) (av : Value) (f : Fl) (w' : World) : Prop := ∃ av', FlAt w' h av' f ∧ SvTo w av av' ∧ Ch (FlP h av) w w'
def ActP (r : Value) (h : Nat) (w : World) (av : Value) (f : Fl) (e : Ending) (w' : World) : Prop := e = .returned r ∧ ActTo h w av f w'
theorem Ch.grown {w w' : World} {av : Value} (h : w.grownBy w' av.ownBlock) : Ch (fun k => av.ownBlock = some k) w w' := ⟨h.os, h.tape, h.output, h.size, fun k hk hn => h.block k hk fun e => hn e.symm⟩
theorem act_to (h : Nat) (av : Value) (f : Fl) (out : Bool) (p v : Int) (w w2 : World) (g c : Nat) (hf : FlAt w h av f) (hl : f.acts.length < 1000000000)
    (ho : w2.ownsRow 0 157 4 (.slice (some ⟨g, 0, none⟩) (f.acts.length + 1) c) (f.acts.length + 1) (flatA f.acts ++ (AcV.cells ⟨f.t, out, p, v⟩))) (hg : w.grownBy w2 av.ownBlock) (hp : av.ownBlock = some g ∨ w.heap.size ≤ g) :
    ActTo h w av (f.act out p v) (w2.setCell ⟨h, 65537, none⟩ (.slice (some ⟨g, 0, none⟩) (f.acts.length + 1) c)) := by
  have hb2 : Blk w2 h 39 _ := hf.blk.grown hg (fun e => av_ne hf e.symm)
  have hgh : g ≠ h := fun e => by
    rcases hp with hp | hp
    · exact av_ne hf (by rw [hp, e])
    · have := hf.blk.lt; omega
  have hO := Only.set h 65537 w2 (.slice (some ⟨g, 0, none⟩) (f.acts.length + 1) c)
  refine ⟨.slice (some ⟨g, 0, none⟩) (f.acts.length + 1) c, ⟨?_, hf.len, ?_, ?_⟩, ?_, ?_⟩
  · have := hb2.set_ 65537 (.slice (some ⟨g, 0, none⟩) (f.acts.length + 1) c)
    have hl : (f.m.map (Value.int .u8)).length = 65536 := by rw [List.length_map]; exact hf.len
    have e : (f.m.map (Value.int .u8) ++ [.slice none 0 0, av, .int .u64 f.t, .bool f.line]).set 65537 (.slice (some ⟨g, 0, none⟩) (f.acts.length + 1) c) = f.m.map (Value.int .u8) ++ [.slice none 0 0, .slice (some ⟨g, 0, none⟩) (f.acts.length + 1) c, .int .u64 f.t, .bool f.line] := by
      rw [List.set_append_right _ _ (by rw [hl]; decide), hl]
      rfl
    rw [e] at this
    exact this
  · show World.ownsRow _ _ _ _ _ (f.acts ++ [_]).length (flatA (f.acts ++ [_]))
    rw [List.length_append, flatA_snoc]
    refine own_keepC ho fun k hk => hO.block k fun e => ?_
    have : g = k := by injection hk
    omega
  · show (f.acts ++ [_]).length ≤ _
    rw [List.length_append]
    exact hl
  · rcases hp with hp | hp
    · exact .inl hp.symm
    · refine .inr fun b hb => ?_
      have : g = b := by injection hb
      omega
  · exact (Ch.grown hg).trans (Only.ch hO) (fun i _ hi => .inr hi) fun i _ hi => .inl hi
set_option maxRecDepth 100000 in
set_option maxHeartbeats 4000000 in
theorem fl_out (h : Nat) (av : Value) (f : Fl) (p v : Int) (w : World) (hf : FlAt w h av f) (hl : f.acts.length < 1000000000) :
    Calls Tryz.prog 169 #[.pointer (some ⟨h, 0, none⟩), .int .u16 p, .int .u8 v] w (ActP (.tuple #[]) h w av (f.act true p v)) := by
  have c37 : w.cell? ⟨h, 65537, none⟩ = some av := hf.tail 1 65537 rfl
  have c38 : w.cell? ⟨h, 65538, none⟩ = some (.int .u64 f.t) := hf.tail 2 65538 rfl
  have z37 := hf.blk.frozen 65537
  have e37 : ∀ o, (w.alloc o).cell? ⟨h, 65537, none⟩ = some av := fun o => ((hf.blk.alloc o).cell 65537).trans ((hf.blk.cell 65537).symm.trans c37)
  obtain ⟨n, hn⟩ : ∃ n, n = f.acts.length := ⟨_, rfl⟩
  have hlt : n < 1000000000 := by omega
  have HO : Hid (w.ownsRow 0 157 4 av n (flatA f.acts)) := by show World.ownsRow _ _ _ _ _ _ _; rw [hn]; exact hf.own
  obtain ⟨T, hT⟩ : ∃ T, T = f.t := ⟨_, rfl⟩
  have HK : Hid (∀ w2 g c, w2.ownsRow 0 157 4 (.slice (some ⟨g, 0, none⟩) (n + 1) c) (n + 1) (flatA f.acts ++ #[.int .u64 T, .bool true, .int .u16 p, .int .u8 v].toList) → w.grownBy w2 av.ownBlock → (av.ownBlock = some g ∨ w.heap.size ≤ g) → w2.cell? ⟨h, 65537, none⟩ = some av ∧ w2.frozen? ⟨h, 65537, none⟩ = false ∧ ActTo h w av (f.act true p v) (w2.setCell ⟨h, 65537, none⟩ (.slice (some ⟨g, 0, none⟩) (n + 1) c))) := Lib.hid (fun w2 g c h1 h2 h3 => by
    have hb2 : Blk w2 h 39 _ := hf.blk.grown h2 (fun e => av_ne hf e.symm)
    refine ⟨(hb2.cell 65537).trans ((hf.blk.cell 65537).symm.trans c37), hb2.frozen _, ?_⟩
    rw [hT] at h1
    rw [hn] at h1 ⊢
    exact act_to h av f true p v w w2 g c hf hl h1 h2 h3)
  rw [← hT] at c38
  clear hf hl hn hT
  go_enter Tryz.func169, Tryz.ntmps169
  go_wp2_with fail
  go_region_law (
    refine step_appT w.drew rfl (.tmp 10) (.tmp 18) 36 rfl 0 157 _ 4 16 underAct infoAct rfl (by decide) av n _ rfl HO.out #[.int .u64 T, .bool true, .int .u16 p, .int .u8 v] 1 rfl rfl (by simp [Value.oneCell']) (by decide) (by omega) (by decide) (Nat.zero_le _) ?_
    intro g2 c2 w2 hown2 hg2 hp2
    obtain ⟨d37, y37, hk⟩ := HK.out w2 g2 c2 hown2 ⟨hg2.os, hg2.tape, hg2.output, hg2.size, hg2.block⟩ hp2
    have HA := Lib.hid hk
    clear hown2 hg2 hp2 hk)
  all_goals exact bodyPost_end (results_none rfl _ _ _) rfl ⟨rfl, HA.out⟩
set_option maxRecDepth 100000 in
set_option maxHeartbeats 4000000 in
theorem fl_in (h : Nat) (av : Value) (f : Fl) (p : Int) (w : World) (hf : FlAt w h av f) (hl : f.acts.length < 1000000000) :
    Calls Tryz.prog 167 #[.pointer (some ⟨h, 0, none⟩), .int .u16 p] w (ActP (.int .u8 255) h w av (f.act false p 255)) := by
  have c36 : w.cell? ⟨h, 65536, none⟩ = some (.slice none 0 0) := hf.tail 0 65536 rfl
  have c37 : w.cell? ⟨h, 65537, none⟩ = some av := hf.tail 1 65537 rfl
  have c38 : w.cell? ⟨h, 65538, none⟩ = some (.int .u64 f.t) := hf.tail 2 65538 rfl
  have z37 := hf.blk.frozen 65537
  have e37 : ∀ o, (w.alloc o).cell? ⟨h, 65537, none⟩ = some av := fun o => ((hf.blk.alloc o).cell 65537).trans ((hf.blk.cell 65537).symm.trans c37)
  obtain ⟨n, hn⟩ : ∃ n, n = f.acts.length := ⟨_, rfl⟩
  have hlt : n < 1000000000 := by omega
  have HO : Hid (w.ownsRow 0 157 4 av n (flatA f.acts)) := by show World.ownsRow _ _ _ _ _ _ _; rw [hn]; exact hf.own
  obtain ⟨T, hT⟩ : ∃ T, T = f.t := ⟨_, rfl⟩
  have HK : Hid (∀ w2 g c, w2.ownsRow 0 157 4 (.slice (some ⟨g, 0, none⟩) (n + 1) c) (n + 1) (flatA f.acts ++ #[.int .u64 T, .bool false, .int .u16 p, .int .u8 255].toList) → w.grownBy w2 av.ownBlock → (av.ownBlock = some g ∨ w.heap.size ≤ g) → w2.cell? ⟨h, 65537, none⟩ = some av ∧ w2.frozen? ⟨h, 65537, none⟩ = false ∧ ActTo h w av (f.act false p 255) (w2.setCell ⟨h, 65537, none⟩ (.slice (some ⟨g, 0, none⟩) (n + 1) c))) := Lib.hid (fun w2 g c h1 h2 h3 => by
    have hb2 : Blk w2 h 39 _ := hf.blk.grown h2 (fun e => av_ne hf e.symm)
    refine ⟨(hb2.cell 65537).trans ((hf.blk.cell 65537).symm.trans c37), hb2.frozen _, ?_⟩
    rw [hT] at h1
    rw [hn] at h1 ⊢
    exact act_to h av f false p 255 w w2 g c hf hl h1 h2 h3)
  rw [← hT] at c38
  clear hf hl hn hT
  go_enter Tryz.func167, Tryz.ntmps167
  go_wp2_with fail
  go_region_law (
    refine step_appT w.drew rfl (.tmp 30) (.tmp 38) 36 rfl 0 157 _ 4 16 underAct infoAct rfl (by decide) av n _ rfl HO.out #[.int .u64 T, .bool false, .int .u16 p, .int .u8 255] 1 rfl rfl (by simp [Value.oneCell']) (by decide) (by omega) (by decide) (Nat.zero_le _) ?_
    intro g2 c2 w2 hown2 hg2 hp2
    obtain ⟨d37, y37, hk⟩ := HK.out w2 g2 c2 hown2 ⟨hg2.os, hg2.tape, hg2.output, hg2.size, hg2.block⟩ hp2
    have HA := Lib.hid hk
    clear hown2 hg2 hp2 hk)
  all_goals
    go_wp2
    go_ret
    exact ⟨rfl, HA.out⟩
end Go.Proofs.YtifgikjmfmkgeaaGreat
namespace Go.Proofs.YtifgikjmfmkgeaaGreat
set_option linter.unusedSimpArgs false
set_option linter.unusedVariables false
open Go.RowKit
theorem own_typ {w : World} {e : TypeId} {size n k : Nat} {v : Value} {xs : List Value} (h : w.ownsRow 0 e size v n xs) (hk : v.ownBlock = some k) : ∃ cur, w.heap[k]? = some (.cells cur e (0, 0)) := by
  rcases h.2 with ⟨hv, _⟩ | ⟨b, cap, cur, hv, _, h3, _⟩
  · rw [hv] at hk; cases hk
  · rw [hv] at hk
    have : b = k := by injection hk
    subst this
    exact ⟨cur, h3⟩
theorem typ_ne {w : World} {a b : Nat} {s t : TypeId} {x y : Array Value} {p q : Nat × Nat} (ha : w.heap[a]? = some (.cells x s p)) (hb : w.heap[b]? = some (.cells y t q)) (hst : s ≠ t) : a ≠ b := fun e => by
  subst e
  rw [ha] at hb
  injection hb with hb
  injection hb with _ hb _
  exact hst hb
/-- the processor's blocks and the bus's are others -/
theorem fl_ne {w : World} {g h : Nat} {sv av : Value} {c : Cp} {f : Fl} (hc : CpAt w g sv c) (hf : FlAt w h av f) : ¬ CpP g sv h := fun hp => by
  have hb := hf.blk
  unfold Blk at hb
  rcases hp with rfl | hp
  · have h2 := hc.blk
    unfold Blk at h2
    exact typ_ne hb h2 (by decide) rfl
  · obtain ⟨cur, h2⟩ := own_typ hc.own hp
    exact typ_ne hb h2 (by decide) rfl
theorem av_far {w : World} {g h : Nat} {sv av : Value} {c : Cp} {f : Fl} (hc : CpAt w g sv c) (hf : FlAt w h av f) : ∀ k, av.ownBlock = some k → ¬ CpP g sv k := fun k hk hp => by
  obtain ⟨cur, h1⟩ := own_typ hf.own hk
  rcases hp with rfl | hp
  · have h2 := hc.blk
    unfold Blk at h2
    exact typ_ne h1 h2 (by decide) rfl
  · obtain ⟨cur, h2⟩ := own_typ hc.own hp
    exact typ_ne h1 h2 (by decide) rfl
theorem fl_apart {w : World} {g h : Nat} {sv av : Value} {c : Cp} {f : Fl} (hc : CpAt w g sv c) (hf : FlAt w h av f) (k : Nat) (hk : FlP h av k) : ¬ CpP g sv k := by
  rcases hk with rfl | hk
  · exact fl_ne hc hf
  · exact av_far hc hf k hk
theorem FlAt.drew {w w' : World} {h : Nat} {av : Value} {f : Fl} (hf : FlAt w h av f) (hd : Drew w w') : FlAt w' h av f := hf.ch (p := fun _ => False) (Drew.ch hd) (fun h => h) (fun _ _ h => h)
/-- a processor is left alone by what its bus does -/
theorem CpAt.far {w w' : World} {g h : Nat} {sv av : Value} {c : Cp} {f : Fl} (hc : CpAt w g sv c) (hf : FlAt w h av f) (hch : Ch (FlP h av) w w') : CpAt w' g sv c :=
  ⟨hch.blk hc.blk fun e => fl_apart hc hf g e (.inl rfl), own_keepC hc.own fun k hk => hch.block k (hc.own.lt k hk).2 fun e => fl_apart hc hf k e (.inr hk)⟩
theorem CpAt.drewAt {w w' : World} {g : Nat} {sv : Value} {c : Cp} (h : CpAt w g sv c) (hd : Drew w w') : CpAt w' g sv c := h.turn (Drew.only hd) (hd_blk hd h.blk) rfl
theorem ahead_read (h n : Nat) (w : World) : (nilAhead (n + 1) 34 (.pointer (some ⟨h, 0, none⟩)) "Read").run Tryz.prog w = .ok (some false) w := by kernel_rfl
theorem ahead_write (h n : Nat) (w : World) : (nilAhead (n + 1) 34 (.pointer (some ⟨h, 0, none⟩)) "Write").run Tryz.prog w = .ok (some false) w := by kernel_rfl
theorem ahead_hold (h n : Nat) (w : World) : (nilAhead (n + 1) 34 (.pointer (some ⟨h, 0, none⟩)) "Hold").run Tryz.prog w = .ok (some false) w := by kernel_rfl
theorem ahead_int (h n : Nat) (w : World) : (nilAhead (n + 1) 34 (.pointer (some ⟨h, 0, none⟩)) "Int").run Tryz.prog w = .ok (some false) w := by kernel_rfl
theorem ahead_in (h n : Nat) (w : World) : (nilAhead (n + 1) 34 (.pointer (some ⟨h, 0, none⟩)) "In").run Tryz.prog w = .ok (some false) w := by kernel_rfl
theorem ahead_out (h n : Nat) (w : World) : (nilAhead (n + 1) 34 (.pointer (some ⟨h, 0, none⟩)) "Out").run Tryz.prog w = .ok (some false) w := by kernel_rfl
theorem CpTo.undrew {g : Nat} {w w' : World} {sv : Value} {c : Cp} (h : CpTo g w.drew sv c w') : CpTo g w sv c w' := by
  obtain ⟨sv', h1, h2, h3⟩ := h
  exact ⟨sv', h1, h2, ⟨h3.os, h3.tape, h3.output, h3.size, h3.block⟩⟩
theorem latch_kind (c : Cp) (v : Int) : (c.latch v).kind = c.kind := by unfold Cp.latch; split <;> rfl
/-- what comes of a processor between two cycles -/
def NextTo (c c2 : Cp) : Prop := c.Ok ∧ ((0 < c.second ∧ c2 = c.start 0 c.r.pc 4) ∨ (c.second = 0 ∧ ∃ K, NextN K c c2))
set_option maxHeartbeats 2000000 in
theorem cp_nextTo (g : Nat) (sv : Value) (c c2 : Cp) (w : World) (h : CpAt w g sv c) (hn : NextTo c c2) :
    Calls Tryz.prog 29 #[.pointer (some ⟨g, 0, none⟩)] w (Done (.tuple #[]) g w sv c2) := by
  obtain ⟨ho, ⟨h0, rfl⟩ | ⟨h0, K, hK⟩⟩ := hn
  · have hb := h.blk
    have c34 : w.cell? ⟨g, 34, none⟩ = some (.int .i64 c.second) := hb.cell 34
    have c22 : w.cell? ⟨g, 22, none⟩ = some (.int .u16 c.r.pc) := hb.cell 22
    have H := Lib.hid h
    have hs0 : ¬ c.second ≤ 0 := by omega
    clear h hb ho
    go_enter Tryz.func29, Tryz.ntmps29
    go_wp2_with (first
      | (go_at_call 26; refine (cp_start g sv c _ _ _ _ H.out).mono ?_; rintro e w5 ⟨rfl, h5⟩))
    exact bodyPost_end (results_none rfl _ _ _) rfl ⟨rfl, h5⟩
  · exact cp_next g sv c c2 K w h ho h0 hK
/-- the bus as the interface's value -/
def busV (h : Nat) : Value := .iface 34 (.pointer (some ⟨h, 0, none⟩))
/-- the blocks that may turn -/
def SysP (g h : Nat) (sv av : Value) (k : Nat) : Prop := CpP g sv k ∨ FlP h av k
/-- a processor on its bus is now this one on that -/
def SysTo (g h : Nat) (w : World) (sv av : Value) (c : Cp) (f : Fl) (w' : World) : Prop := ∃ sv' av', CpAt w' g sv' c ∧ FlAt w' h av' f ∧ SvTo w sv sv' ∧ SvTo w av av' ∧ Ch (SysP g h sv av) w w'
theorem CpTo.sys {g h : Nat} {w w' : World} {sv av : Value} {c c0 : Cp} {f : Fl} (hc : CpAt w g sv c0) (hf : FlAt w h av f) (ht : CpTo g w sv c w') : SysTo g h w sv av c f w' := by
  obtain ⟨sv', h1, h2, h3⟩ := ht
  exact ⟨sv', av, h1, hf.ch h3 (fl_ne hc hf) (av_far hc hf), h2, .inl rfl, h3.mono fun _ _ h => .inl h⟩
theorem SvTo.placeF {w : World} {a b : Value} {h i : Nat} (hs : SvTo w a b) (hi : i < w.heap.size) (hp : FlP h b i) : FlP h a i := by
  rcases hp with hp | hp
  · exact .inl hp
  · rcases hs with h | h
    · exact .inr (by rw [← h]; exact hp)
    · exact absurd (h i hp) (by omega)
theorem SysTo.trans {g h : Nat} {w w1 w2 : World} {sv sv1 av av1 : Value} {c2 : Cp} {f2 : Fl} (h2 : SvTo w sv sv1) (ha : SvTo w av av1) (h3 : Ch (SysP g h sv av) w w1) (k : SysTo g h w1 sv1 av1 c2 f2 w2) : SysTo g h w sv av c2 f2 w2 := by
  obtain ⟨sv2, av2, k1, k2, k3, k4, k5⟩ := k
  refine ⟨sv2, av2, k1, k2, h2.trans k3 h3.size, ha.trans k4 h3.size, h3.trans k5 (fun _ _ h => h) fun i hi hp => ?_⟩
  rcases hp with hp | hp
  · exact .inl (h2.place hi hp)
  · exact .inr (ha.placeF hi hp)
def DoneS (g h : Nat) (w : World) (sv av : Value) (c : Cp) (f : Fl) (e : Ending) (w' : World) : Prop := e = .returned (.tuple #[]) ∧ SysTo g h w sv av c f w'
theorem nat_addr {a : Int} (h : B16 a) : ∃ n : Nat, a = n ∧ n < 65536 := ⟨a.toNat, by obtain ⟨h0, h1⟩ := h; omega, by obtain ⟨h0, h1⟩ := h; omega⟩
set_option maxRecDepth 100000 in
set_option maxHeartbeats 4000000 in
theorem fin_read (g h : Nat) (sv av : Value) (c c2 : Cp) (f : Fl) (w : World) (hc : CpAt w g sv c) (hf : FlAt w h av f) (ho : c.Ok) (hk : c.kind = 1) (hnn : c2.kind ≠ -1 ∨ True) (hn : NextTo (c.latch (f.m.getD c.addr.toNat 0)) c2) :
    Calls Tryz.prog 23 #[.pointer (some ⟨g, 0, none⟩), busV h] w (DoneS g h w sv av c2 f) := by
  have hb := hc.blk
  have c42 : w.cell? ⟨g, 42, none⟩ = some (.int .i64 1) := by rw [← hk]; exact hb.cell 42
  obtain ⟨a, ha, ha2⟩ := nat_addr ho.addr
  have c45 : w.cell? ⟨g, 45, none⟩ = some (.int .u16 a) := by rw [← ha]; exact hb.cell 45
  rw [ha, Int.toNat_natCast] at hn
  obtain ⟨v, hv⟩ : ∃ v, v = f.m.getD a 0 := ⟨_, rfl⟩
  have HR := Lib.hid (fun w hf => fl_read h av f a w hf ha2)
  rw [← hv] at hn HR
  have H := Lib.hid hc; have HF := Lib.hid hf; have HN := Lib.hid hn; have HK := Lib.hid hk
  clear hc hf ho hk hb ha hv hn
  unfold busV
  go_enter Tryz.func23, Tryz.ntmps23
  go_wp2_with fail
  have HFD : Hid (FlAt w.drew h av f) := Lib.hid (HF.out.drew ⟨1, rfl⟩)
  have HD : Hid (CpAt w.drew g sv c) := Lib.hid (H.out.drewAt ⟨1, rfl⟩)
  have hna := fun n w => ahead_read h n w
  go_region_with (first
    | (go_at_call 170; refine (HR.out _ ?_).mono ?_; exact HFD.out; rintro e w1 ⟨rfl, rfl⟩)
    | (go_at_call 28; refine (cp_latch g sv c v _ ?_).mono ?_; exact HD.out; rintro e w2 ⟨rfl, h2⟩))
  all_goals
    obtain ⟨sv2, h3, h4, h5⟩ := CpTo.undrew h2
    have H3 := Lib.hid h3; have H4 := Lib.hid h4; have H5 := Lib.hid h5
    have d42 : w2.cell? ⟨g, 42, none⟩ = some (.int .i64 1) := by rw [← HK.out, ← latch_kind c v]; exact h3.blk.cell 42
    clear h2 h3 h4 h5 c42 c45 hna
    go_wp2_with (first
      | (go_at_call 29; refine (cp_nextTo g _ _ c2 _ H3.out HN.out).mono ?_; rintro e w5 ⟨rfl, h6⟩))
    exact bodyPost_end (results_none rfl _ _ _) rfl ⟨rfl, CpTo.sys H.out HF.out (CpTo.step H4.out H5.out h6)⟩
end Go.Proofs.YtifgikjmfmkgeaaGreat
namespace Go.Proofs.YtifgikjmfmkgeaaGreat
set_option linter.unusedSimpArgs false
set_option linter.unusedVariables false
open Go.RowKit
/-- what comes of a code that was fetched -/
def FetchTo (code : Int) (c c1 : Cp) : Prop := ∀ (g : Nat) (sv : Value) (w : World), CpAt w g sv c → Calls Tryz.prog 27 #[.pointer (some ⟨g, 0, none⟩), .int .u8 code] w (Done (.tuple #[]) g w sv c1)
set_option maxRecDepth 100000 in
set_option maxHeartbeats 4000000 in
theorem fin_fetch (g h : Nat) (sv av : Value) (c c1 c2 : Cp) (f : Fl) (w : World) (hc : CpAt w g sv c) (hf : FlAt w h av f) (ho : c.Ok) (hk : c.kind = 0) (h1 : FetchTo (f.m.getD c.addr.toNat 0) c c1) (hn : (c1.kind = -1 ∧ c2 = c1) ∨ (c1.kind ≠ -1 ∧ NextTo c1 c2)) :
    Calls Tryz.prog 23 #[.pointer (some ⟨g, 0, none⟩), busV h] w (DoneS g h w sv av c2 f) := by
  have hb := hc.blk
  have c42 : w.cell? ⟨g, 42, none⟩ = some (.int .i64 0) := by rw [← hk]; exact hb.cell 42
  obtain ⟨a, ha, ha2⟩ := nat_addr ho.addr
  have c45 : w.cell? ⟨g, 45, none⟩ = some (.int .u16 a) := by rw [← ha]; exact hb.cell 45
  rw [ha, Int.toNat_natCast] at h1
  obtain ⟨v, hv⟩ : ∃ v, v = f.m.getD a 0 := ⟨_, rfl⟩
  have HR := Lib.hid (fun w hf => fl_read h av f a w hf ha2)
  rw [← hv] at h1 HR
  have H := Lib.hid hc; have HF := Lib.hid hf; have HN := Lib.hid hn; have HK := Lib.hid hk; have HFT := Lib.hid h1
  clear hc hf ho hk hb ha hv hn h1
  unfold busV
  go_enter Tryz.func23, Tryz.ntmps23
  go_wp2_with fail
  have HFD : Hid (FlAt w.drew h av f) := Lib.hid (HF.out.drew ⟨1, rfl⟩)
  have HD : Hid (CpAt w.drew g sv c) := Lib.hid (H.out.drewAt ⟨1, rfl⟩)
  have hna := fun n w => ahead_read h n w
  go_region_with (first
    | (go_at_call 170; refine (HR.out _ ?_).mono ?_; exact HFD.out; rintro e w1 ⟨rfl, rfl⟩)
    | (go_at_call 27; refine (HFT.out g sv _ ?_).mono ?_; exact HD.out; rintro e w2 ⟨rfl, h2⟩))
  all_goals
    obtain ⟨sv2, h3, h4, h5⟩ := CpTo.undrew h2
    have H3 := Lib.hid h3; have H4 := Lib.hid h4; have H5 := Lib.hid h5
    have d42 : w2.cell? ⟨g, 42, none⟩ = some (.int .i64 c1.kind) := h3.blk.cell 42
    have hn := HN.out
    clear h2 h3 h4 h5 c42 c45 hna
    rcases hn with ⟨hk1, rfl⟩ | ⟨hk1, hn⟩
    · have e1 : (c2.kind == -1) = true := by rw [hk1]; rfl
      clear hk1
      go_wp2
      exact bodyPost_ret (results_none rfl _ _ _) rfl ⟨rfl, CpTo.sys H.out HF.out ⟨sv2, H3.out, H4.out, H5.out⟩⟩
    · have e1 : (c1.kind == -1) = false := by simpa using hk1
      have HN2 := Lib.hid hn
      clear hk1 hn
      go_wp2_with (first
        | (go_at_call 29; refine (cp_nextTo g _ _ c2 _ H3.out HN2.out).mono ?_; rintro e w5 ⟨rfl, h6⟩))
      exact bodyPost_end (results_none rfl _ _ _) rfl ⟨rfl, CpTo.sys H.out HF.out (CpTo.step H4.out H5.out h6)⟩
set_option maxRecDepth 100000 in
set_option maxHeartbeats 4000000 in
theorem fin_write (g h : Nat) (sv av : Value) (c c2 : Cp) (f : Fl) (w : World) (hc : CpAt w g sv c) (hf : FlAt w h av f) (ho : c.Ok) (hk : c.kind = 2) (hn : NextTo c c2) :
    Calls Tryz.prog 23 #[.pointer (some ⟨g, 0, none⟩), busV h] w (DoneS g h w sv av c2 (f.put c.addr.toNat c.out)) := by
  have hb := hc.blk
  have c42 : w.cell? ⟨g, 42, none⟩ = some (.int .i64 2) := by rw [← hk]; exact hb.cell 42
  obtain ⟨a, ha, ha2⟩ := nat_addr ho.addr
  have c45 : w.cell? ⟨g, 45, none⟩ = some (.int .u16 a) := by rw [← ha]; exact hb.cell 45
  have c39 : w.cell? ⟨g, 39, none⟩ = some (.int .u8 c.out) := hb.cell 39
  have HA : Hid (c.addr.toNat = a) := by show _ = _; rw [ha]; rfl
  rw [HA.out]
  have HR := Lib.hid (fun w hf => fl_write h av f a c.out w hf ha2)
  have H := Lib.hid hc; have HF := Lib.hid hf; have HN := Lib.hid hn; have HK := Lib.hid hk
  clear hc hf ho hk hb ha hn
  unfold busV
  go_enter Tryz.func23, Tryz.ntmps23
  go_wp2_with fail
  have HFD : Hid (FlAt w.drew h av f) := Lib.hid (HF.out.drew ⟨1, rfl⟩)
  have HD : Hid (CpAt w.drew g sv c) := Lib.hid (H.out.drewAt ⟨1, rfl⟩)
  have hna := fun n w => ahead_write h n w
  go_region_with (first
    | (go_at_call 171; refine (HR.out _ ?_).mono ?_; exact HFD.out; rintro e w2 ⟨rfl, h2, h3⟩))
  all_goals
    have hcp : CpAt w2 g sv c := HD.out.far HFD.out ((Only.ch h3).mono fun _ _ e => .inl e)
    have H2 := Lib.hid h2; have H3 := Lib.hid h3; have HC := Lib.hid hcp
    have d42 : w2.cell? ⟨g, 42, none⟩ = some (.int .i64 2) := by rw [← HK.out]; exact hcp.blk.cell 42
    clear h2 h3 hcp c42 c45 c39 hna
    go_wp2_with (first
      | (go_at_call 29; refine (cp_nextTo g _ _ c2 _ HC.out HN.out).mono ?_; rintro e w5 ⟨rfl, h6⟩))
    have hch : Ch (SysP g h sv av) w w2 := by
      have h3 := H3.out
      exact ⟨h3.os, h3.tape, h3.output, by rw [h3.size]; exact Nat.le_refl _, fun k _ hp => h3.block k fun e => hp (.inr (.inl e))⟩
    exact bodyPost_end (results_none rfl _ _ _) rfl ⟨rfl, SysTo.trans (.inl rfl) (.inl rfl) hch (CpTo.sys HC.out H2.out h6)⟩
set_option maxRecDepth 100000 in
set_option maxHeartbeats 4000000 in
theorem fin_idle (g h : Nat) (sv av : Value) (c c2 : Cp) (f : Fl) (w : World) (hc : CpAt w g sv c) (hf : FlAt w h av f) (hk : c.kind = 4 ∨ c.kind = 5) (hn : NextTo c c2) :
    Calls Tryz.prog 23 #[.pointer (some ⟨g, 0, none⟩), busV h] w (DoneS g h w sv av c2 f) := by
  have hb := hc.blk
  have H := Lib.hid hc; have HF := Lib.hid hf; have HN := Lib.hid hn
  obtain ⟨k, hkk⟩ : ∃ k, k = c.kind := ⟨_, rfl⟩
  rw [← hkk] at hk
  have c42 : w.cell? ⟨g, 42, none⟩ = some (.int .i64 k) := by rw [hkk]; exact hb.cell 42
  clear hc hf hb hn hkk
  unfold busV
  rcases hk with rfl | rfl
  all_goals
    go_enter Tryz.func23, Tryz.ntmps23
    go_wp2_with (first
      | (go_at_call 29; refine (cp_nextTo g _ _ c2 _ H.out HN.out).mono ?_; rintro e w5 ⟨rfl, h6⟩))
    exact bodyPost_end (results_none rfl _ _ _) rfl ⟨rfl, CpTo.sys H.out HF.out h6⟩
theorem ActTo.undrew {h : Nat} {w w' : World} {av : Value} {f : Fl} (k : ActTo h w.drew av f w') : ActTo h w av f w' := by
  obtain ⟨av', h1, h2, h3⟩ := k
  exact ⟨av', h1, h2, ⟨h3.os, h3.tape, h3.output, h3.size, h3.block⟩⟩
theorem ActTo.sys {g h : Nat} {w w1 w2 : World} {sv av : Value} {c c2 : Cp} {f f1 : Fl} (hc : CpAt w g sv c) (hf : FlAt w h av f) (k : ActTo h w av f1 w1) (ht : ∀ av1, FlAt w1 h av1 f1 → CpAt w1 g sv c → SysTo g h w1 sv av1 c2 f1 w2) : SysTo g h w sv av c2 f1 w2 := by
  obtain ⟨av1, h1, h2, h3⟩ := k
  exact SysTo.trans (.inl rfl) h2 (h3.mono fun _ _ e => .inr e) (ht av1 h1 (hc.far hf h3))
set_option maxRecDepth 100000 in
set_option maxHeartbeats 4000000 in
theorem fin_in (g h : Nat) (sv av : Value) (c c2 : Cp) (f : Fl) (w : World) (hc : CpAt w g sv c) (hf : FlAt w h av f) (hk : c.kind = 3) (hp : c.port = true) (hl : f.acts.length < 1000000000) (hn : NextTo (c.latch 255) c2) :
    Calls Tryz.prog 23 #[.pointer (some ⟨g, 0, none⟩), busV h] w (DoneS g h w sv av c2 (f.act false c.addr 255)) := by
  have hb := hc.blk
  have c42 : w.cell? ⟨g, 42, none⟩ = some (.int .i64 3) := by rw [← hk]; exact hb.cell 42
  have c43 : w.cell? ⟨g, 43, none⟩ = some (.bool true) := by rw [← hp]; exact hb.cell 43
  have c45 : w.cell? ⟨g, 45, none⟩ = some (.int .u16 c.addr) := hb.cell 45
  have HR := Lib.hid (fun w hf => fl_in h av f c.addr w hf hl)
  have H := Lib.hid hc; have HF := Lib.hid hf; have HN := Lib.hid hn; have HK := Lib.hid hk
  clear hc hf hk hb hn hp hl
  unfold busV
  go_enter Tryz.func23, Tryz.ntmps23
  go_wp2_with fail
  have HFD : Hid (FlAt w.drew h av f) := Lib.hid (HF.out.drew ⟨1, rfl⟩)
  have HD : Hid (CpAt w.drew g sv c) := Lib.hid (H.out.drewAt ⟨1, rfl⟩)
  have hna := fun n w => ahead_in h n w
  go_region_with (first
    | (go_at_call 167; refine (HR.out _ ?_).mono ?_; exact HFD.out; rintro e w1 ⟨rfl, h1⟩
       have HA := Lib.hid h1
       obtain ⟨av1, h1a, h1b, h1c⟩ := h1
       have HC1 := Lib.hid (HD.out.far HFD.out h1c)
       clear h1a h1b h1c)
    | (go_at_call 28; refine (cp_latch g sv c 255 _ ?_).mono ?_; exact HC1.out; rintro e w2 ⟨rfl, h2⟩))
  all_goals
    have HT2 := Lib.hid h2
    obtain ⟨sv2, h3, h4, h5⟩ := h2
    have H3 := Lib.hid h3; have H4 := Lib.hid h4; have H5 := Lib.hid h5
    have d42 : w2.cell? ⟨g, 42, none⟩ = some (.int .i64 3) := by rw [← HK.out, ← latch_kind c 255]; exact h3.blk.cell 42
    clear h3 h4 h5 c42 c43 c45 hna
    go_wp2_with (first
      | (go_at_call 29; refine (cp_nextTo g _ _ c2 _ H3.out HN.out).mono ?_; rintro e w5 ⟨rfl, h6⟩))
    exact bodyPost_end (results_none rfl _ _ _) rfl ⟨rfl, ActTo.sys H.out HF.out (ActTo.undrew HA.out) fun av1 ha hcc => CpTo.sys hcc ha (CpTo.step H4.out H5.out h6)⟩
set_option maxRecDepth 100000 in
set_option maxHeartbeats 4000000 in
theorem fin_out (g h : Nat) (sv av : Value) (c c2 : Cp) (f : Fl) (w : World) (hc : CpAt w g sv c) (hf : FlAt w h av f) (hk : c.kind = 3) (hp : c.port = false) (hl : f.acts.length < 1000000000) (hn : NextTo c c2) :
    Calls Tryz.prog 23 #[.pointer (some ⟨g, 0, none⟩), busV h] w (DoneS g h w sv av c2 (f.act true c.addr c.out)) := by
  have hb := hc.blk
  have c42 : w.cell? ⟨g, 42, none⟩ = some (.int .i64 3) := by rw [← hk]; exact hb.cell 42
  have c43 : w.cell? ⟨g, 43, none⟩ = some (.bool false) := by rw [← hp]; exact hb.cell 43
  have c45 : w.cell? ⟨g, 45, none⟩ = some (.int .u16 c.addr) := hb.cell 45
  have c39 : w.cell? ⟨g, 39, none⟩ = some (.int .u8 c.out) := hb.cell 39
  have HR := Lib.hid (fun w hf => fl_out h av f c.addr c.out w hf hl)
  have H := Lib.hid hc; have HF := Lib.hid hf; have HN := Lib.hid hn; have HK := Lib.hid hk
  clear hc hf hk hb hn hp hl
  unfold busV
  go_enter Tryz.func23, Tryz.ntmps23
  go_wp2_with fail
  have HFD : Hid (FlAt w.drew h av f) := Lib.hid (HF.out.drew ⟨1, rfl⟩)
  have HD : Hid (CpAt w.drew g sv c) := Lib.hid (H.out.drewAt ⟨1, rfl⟩)
  have hna := fun n w => ahead_out h n w
  go_region_with (first
    | (go_at_call 169; refine (HR.out _ ?_).mono ?_; exact HFD.out; rintro e w2 ⟨rfl, h1⟩))
  all_goals
    have HA := Lib.hid h1
    obtain ⟨av1, h1a, h1b, h1c⟩ := h1
    have HC1 := Lib.hid (HD.out.far HFD.out h1c)
    have d42 : w2.cell? ⟨g, 42, none⟩ = some (.int .i64 3) := by rw [← HK.out]; exact HC1.out.blk.cell 42
    clear h1a h1b h1c c42 c43 c45 c39 hna
    go_wp2_with (first
      | (go_at_call 29; refine (cp_nextTo g _ _ c2 _ HC1.out HN.out).mono ?_; rintro e w5 ⟨rfl, h6⟩))
    exact bodyPost_end (results_none rfl _ _ _) rfl ⟨rfl, ActTo.sys H.out HF.out (ActTo.undrew HA.out) fun av1 ha hcc => CpTo.sys hcc ha h6⟩
end Go.Proofs.YtifgikjmfmkgeaaGreat
namespace Go.Proofs.YtifgikjmfmkgeaaGreat
set_option linter.unusedSimpArgs false
set_option linter.unusedVariables false
open Go.RowKit
def Cp.fresh (c : Cp) : Cp := { c with steps := [], at_ := 0, second := 0, wrote := false }
def Cp.begun (c : Cp) : Cp := { c.fresh.start 0 c.r.pc 4 with r := { c.r with hold := false } }
set_option maxRecDepth 100000 in
set_option maxHeartbeats 4000000 in
theorem cp_begin (g h : Nat) (sv av : Value) (c : Cp) (f : Fl) (w : World) (hc : CpAt w g sv c) (hf : FlAt w h av f) (hn : c.nmi = false) (hl : f.line = false) :
    Calls Tryz.prog 22 #[.pointer (some ⟨g, 0, none⟩), busV h] w (DoneS g h w sv av c.begun f) := by
  obtain ⟨A, cap, rfl, hA, hle, hm⟩ := own_form hc.own
  have hb := hc.blk
  have c30 : w.cell? ⟨g, 30, none⟩ = some ((.slice A c.steps.length cap)) := hb.cell 30
  have c31 : w.cell? ⟨g, 31, none⟩ = some (.int .i64 c.at_) := hb.cell 31
  have c34 : w.cell? ⟨g, 34, none⟩ = some (.int .i64 c.second) := hb.cell 34
  have c40 : w.cell? ⟨g, 40, none⟩ = some (.bool c.wrote) := hb.cell 40
  have c27 : w.cell? ⟨g, 27, none⟩ = some (.bool c.r.hold) := hb.cell 27
  have z30 := hb.frozen 30
  have z31 := hb.frozen 31
  have z34 := hb.frozen 34
  have z40 := hb.frozen 40
  have z27 := hb.frozen 27
  have hne : (Value.slice A c.steps.length cap).ownBlock ≠ some g := sv_ne hc
  have hnon := own_none hc.own
  have hfn := fl_ne hc hf
  have HAF := Lib.hid (av_far hc hf)
  obtain ⟨n, hn'⟩ : ∃ n, n = c.steps.length := ⟨_, rfl⟩
  rw [← hn'] at c30 hle hne ⊢
  have hmm : n ≤ cap := hle
  have H := Lib.hid hc; have HF := Lib.hid hf; have HNE := Lib.hid hne; have HON := Lib.hid hnon; have HNN := Lib.hid hn'; have HM := Lib.hid hm; have HFN := Lib.hid hfn; have HNM := Lib.hid hn; have HL := Lib.hid hl; have HB := Lib.hid hb
  clear hc hf hne hnon hn' hA hfn hn hl hb
  unfold busV
  go_enter Tryz.func22, Tryz.ntmps22
  go_upto_region 1 with fail
  generalize hw1 : World.setCell (World.setCell (World.setCell (World.setCell w _ _) _ _) _ _) _ _ = w1
  have HO1 : Hid (Only g w w1) := by show Only _ _ _; rw [← hw1]; exact (((Only.set g 30 w _).trans (Only.set g 31 _ _)).trans (Only.set g 34 _ _)).trans (Only.set g 40 _ _)
  have H1 : Hid (CpAt w1 g (.slice A 0 cap) c.fresh) := by
    show CpAt _ _ _ _
    refine ⟨by rw [← hw1]; exact (((HB.out.set_ 30 _).set_ 31 _).set_ 34 _).set_ 40 _, ?_⟩
    exact own_keepC HON.out fun k hk => HO1.out.block k fun e => HNE.out (by rw [ownBlock_zero A n 0 cap, hk, e])
  have HF1 : Hid (FlAt w1 h av f) := Lib.hid (HF.out.ch (HO1.out.cpp (sv := .slice A c.steps.length cap)) HFN.out HAF.out)
  have HSV : Hid (SvTo w (.slice A n cap) (.slice A 0 cap)) := Lib.hid (.inl (ownBlock_zero A 0 n cap))
  clear hw1 c30 c31 c34 c40 c27 z30 z31 z34 z40 z27
  have d41 : w1.cell? ⟨g, 41, none⟩ = some (.bool false) := by rw [← HNM.out]; exact H1.out.blk.cell 41
  have d27 : w1.cell? ⟨g, 27, none⟩ = some (.bool c.r.hold) := H1.out.blk.cell 27
  have d22 : w1.cell? ⟨g, 22, none⟩ = some (.int .u16 c.r.pc) := H1.out.blk.cell 22
  have hnaI := fun n w => ahead_int h n w
  go_wp2_with (first
    | (go_at_call 168; refine (fl_int h av f _ HF1.out).mono ?_; rintro e w2 ⟨rfl, rfl⟩; rw [HL.out])
    | (go_at_call 26; refine (cp_start g _ c.fresh _ _ _ _ H1.out).mono ?_; rintro e w3 ⟨rfl, h3⟩
       obtain ⟨sv3, h4, h5, h6⟩ := h3
       have H4 := Lib.hid h4; have H5 := Lib.hid h5; have H6 := Lib.hid h6
       have e27 : w3.cell? ⟨g, 27, none⟩ = some (.bool c.r.hold) := h4.blk.cell 27
       have y27 := h4.blk.frozen 27
       clear h4 h5 h6))
  have hfin : CpTo g w3 sv3 c.begun (w3.setCell ⟨g, 27, none⟩ (.bool false)) := H4.out.only (Only.set g 27 w3 _) (H4.out.blk.set_ 27 _) rfl
  have hall : CpTo g w (.slice A n cap) c.begun (w3.setCell ⟨g, 27, none⟩ (.bool false)) := CpTo.step HSV.out HO1.out.cpp (CpTo.step H5.out H6.out hfin)
  have hgo : CpAt w g (.slice A n cap) c := by rw [HNN.out]; exact H.out
  exact bodyPost_end (results_none rfl _ _ _) rfl ⟨rfl, CpTo.sys hgo HF.out hall⟩
end Go.Proofs.YtifgikjmfmkgeaaGreat
namespace Go.Proofs.YtifgikjmfmkgeaaGreat
set_option linter.unusedSimpArgs false
set_option linter.unusedVariables false
open Go.RowKit
/-- what comes of a cycle's end -/
inductive FinTo : Cp → Fl → Cp → Fl → Prop
  | fetch (c c1 c2 : Cp) (f : Fl) : c.kind = 0 → FetchTo (f.m.getD c.addr.toNat 0) c c1 → ((c1.kind = -1 ∧ c2 = c1) ∨ (c1.kind ≠ -1 ∧ NextTo c1 c2)) → FinTo c f c2 f
  | read (c c2 : Cp) (f : Fl) : c.kind = 1 → NextTo (c.latch (f.m.getD c.addr.toNat 0)) c2 → FinTo c f c2 f
  | write (c c2 : Cp) (f : Fl) : c.kind = 2 → NextTo c c2 → FinTo c f c2 (f.put c.addr.toNat c.out)
  | inp (c c2 : Cp) (f : Fl) : c.kind = 3 → c.port = true → f.acts.length < 1000000000 → NextTo (c.latch 255) c2 → FinTo c f c2 (f.act false c.addr 255)
  | outp (c c2 : Cp) (f : Fl) : c.kind = 3 → c.port = false → f.acts.length < 1000000000 → NextTo c c2 → FinTo c f c2 (f.act true c.addr c.out)
  | idle (c c2 : Cp) (f : Fl) : c.kind = 4 ∨ c.kind = 5 → NextTo c c2 → FinTo c f c2 f
theorem cp_finish (g h : Nat) (sv av : Value) (c c2 : Cp) (f f2 : Fl) (w : World) (hc : CpAt w g sv c) (hf : FlAt w h av f) (ho : c.Ok) (hn : FinTo c f c2 f2) :
    Calls Tryz.prog 23 #[.pointer (some ⟨g, 0, none⟩), busV h] w (DoneS g h w sv av c2 f2) := by
  cases hn with
  | fetch c1 _ _ hk h1 h2 => exact fin_fetch g h sv av c c1 c2 f w hc hf ho hk h1 h2
  | read _ _ hk h1 => exact fin_read g h sv av c c2 f w hc hf ho hk (.inr trivial) h1
  | write _ _ hk h1 => exact fin_write g h sv av c c2 f w hc hf ho hk h1
  | inp _ _ hk hp hl h1 => exact fin_in g h sv av c c2 f w hc hf hk hp hl h1
  | outp _ _ hk hp hl h1 => exact fin_out g h sv av c c2 f w hc hf hk hp hl h1
  | idle _ _ hk h1 => exact fin_idle g h sv av c c2 f w hc hf hk h1
/-- a T-state of a cycle -/
def Cp.adv (c : Cp) : Cp := if c.kind = 4 then { c with wait := 0, held := false, t := 0, n := c.n - 1 } else { c with wait := 0, held := false, t := c.t + 1 }
/-- a processor that is in a cycle -/
def Cp.inn (c : Cp) : Cp := if c.kind = -1 then c.begun else c
def TickTo (c : Cp) (f : Fl) (c2 : Cp) (f2 : Fl) : Prop := (c.inn.adv.t ≠ c.inn.adv.n ∧ c2 = c.inn.adv ∧ f2 = f) ∨ (c.inn.adv.t = c.inn.adv.n ∧ FinTo c.inn.adv f c2 f2)
/-- between two T-states -/
structure Cp.Calm (c : Cp) : Prop where
  ok : c.Ok
  held : c.held = false
  nmi : c.nmi = false
  t0 : 0 ≤ c.t ∧ c.t ≤ 100
  n0 : 0 ≤ c.n ∧ c.n ≤ 100
theorem ok_begun {c : Cp} (h : c.Ok) : c.begun.Ok := ⟨{ h.r with }, h.code, h.lo, h.hi, h.ea, h.out, h.r.pc, Int.le_refl _, Int.le_refl _, Nat.zero_le _⟩
theorem ok_adv {c : Cp} (h : c.Ok) : c.adv.Ok := by
  unfold Cp.adv
  split
  · exact ⟨h.r, h.code, h.lo, h.hi, h.ea, h.out, h.addr, h.at0, h.at1, h.len⟩
  · exact ⟨h.r, h.code, h.lo, h.hi, h.ea, h.out, h.addr, h.at0, h.at1, h.len⟩
theorem calm_inn {c : Cp} (h : c.Calm) : c.inn.Calm := by
  unfold Cp.inn
  split
  · exact ⟨ok_begun h.ok, rfl, h.nmi, ⟨Int.le_refl _, (by show (0 : Int) ≤ 100; decide)⟩, ⟨(by show (0 : Int) ≤ 4; decide), (by show (4 : Int) ≤ 100; decide)⟩⟩
  · exact h
/-- what a T-state does, once a cycle is begun -/
theorem adv_at {g : Nat} {sv : Value} {c : Cp} {w w' : World} (h : CpAt w g sv c) (ho : Only g w w') (hb : Blk w' g 45 (c.adv.cells sv)) : CpAt w' g sv c.adv := h.turn ho hb (by unfold Cp.adv; split <;> rfl)
set_option maxRecDepth 100000 in
set_option maxHeartbeats 8000000 in
theorem cp_tick1 (g h : Nat) (sv av : Value) (c c2 : Cp) (f f2 : Fl) (w : World) (hc : CpAt w g sv c) (hf : FlAt w h av f) (hm : c.Calm) (hl : f.line = false) (hk : c.kind ≠ -1) (hn : (c.adv.t ≠ c.adv.n ∧ c2 = c.adv ∧ f2 = f) ∨ (c.adv.t = c.adv.n ∧ FinTo c.adv f c2 f2)) :
    Calls Tryz.prog 19 #[.pointer (some ⟨g, 0, none⟩), busV h] w (DoneS g h w sv av c2 f2) := by
  have hb := hc.blk
  have c42 : w.cell? ⟨g, 42, none⟩ = some (.int .i64 c.kind) := hb.cell 42
  have c49 : w.cell? ⟨g, 49, none⟩ = some (.bool c.held) := hb.cell 49
  have c45 : w.cell? ⟨g, 45, none⟩ = some (.int .u16 c.addr) := hb.cell 45
  have c47 : w.cell? ⟨g, 47, none⟩ = some (.int .i64 c.t) := hb.cell 47
  have z48 := hb.frozen 48
  have c48 : w.cell? ⟨g, 48, none⟩ = some (.int .i64 c.wait) := hb.cell 48
  have hk2 : (c.kind == -1) = false := by simpa using hk
  rw [hm.held] at c49
  have H := Lib.hid hc; have HF := Lib.hid hf; have HM := Lib.hid hm; have HN := Lib.hid hn; have HK := Lib.hid hk; have HB := Lib.hid hb
  have hna := fun n w => ahead_hold h n w
  have S3 : ∀ v, (w.drew.setCell ⟨g, 48, none⟩ v).cell? ⟨g, 42, none⟩ = some (.int .i64 c.kind) ∧ (w.drew.setCell ⟨g, 48, none⟩ v).cell? ⟨g, 45, none⟩ = some (.int .u16 c.addr) ∧ (w.drew.setCell ⟨g, 48, none⟩ v).cell? ⟨g, 47, none⟩ = some (.int .i64 c.t) := fun v => ⟨(HB.out.drew.set_ 48 v).cell 42, (HB.out.drew.set_ 48 v).cell 45, (HB.out.drew.set_ 48 v).cell 47⟩
  clear hc hf hm hn hb hk
  unfold busV
  go_enter Tryz.func19, Tryz.ntmps19
  go_wp2_with fail
  go_region_held3 (fun w' => w'.cell? ⟨g, 42, none⟩ = some (.int .i64 c.kind) ∧ w'.cell? ⟨g, 45, none⟩ = some (.int .u16 c.addr) ∧ w'.cell? ⟨g, 47, none⟩ = some (.int .i64 c.t)) (first | exact ⟨c42, c45, c47⟩ | exact S3 _) (first
    | (go_at_call 166; refine (fl_hold h _ _ _ _).mono ?_; rintro e w1 ⟨rfl, rfl⟩))
  generalize hw1 : World.drew _ = w1
  have HO1 : Hid (Only g w w1) := by show Only _ _ _; rw [← hw1]; exact (Only.set g 48 w _).drew
  have H1 : Hid (CpAt w1 g sv { c with wait := 0 }) := Lib.hid (H.out.turn HO1.out (by rw [← hw1]; exact (HB.out.set_ 48 _).drew) rfl)
  clear hw1 c42 c49 c45 c47 c48 z48 S3 hna HB
  have d42 : w1.cell? ⟨g, 42, none⟩ = some (.int .i64 c.kind) := H1.out.blk.cell 42
  have d48 : w1.cell? ⟨g, 48, none⟩ = some (.int .i64 0) := H1.out.blk.cell 48
  have d49 : w1.cell? ⟨g, 49, none⟩ = some (.bool c.held) := H1.out.blk.cell 49
  have d47 : w1.cell? ⟨g, 47, none⟩ = some (.int .i64 c.t) := H1.out.blk.cell 47
  have d46 : w1.cell? ⟨g, 46, none⟩ = some (.int .i64 c.n) := H1.out.blk.cell 46
  have y47 := H1.out.blk.frozen 47
  have y46 := H1.out.blk.frozen 46
  have y49 := H1.out.blk.frozen 49
  have v1 : IntKind.i64.wrap (c.t + 1) = c.t + 1 := by obtain ⟨a, b⟩ := HM.out.t0; rw [IntKind.wrap_i64]; omega
  have v2 : IntKind.i64.wrap (c.n - 1) = c.n - 1 := by obtain ⟨a, b⟩ := HM.out.n0; rw [IntKind.wrap_i64]; omega
  obtain ⟨d, hd⟩ : ∃ d, d = c.adv := ⟨_, rfl⟩
  have HOD : Hid d.Ok := by show d.Ok; rw [hd]; exact ok_adv HM.out.ok
  rw [← hd] at HN
  have HFIN : Hid (∀ w2, Only g w1 w2 → CpAt w2 g sv d → ∀ w3, Only g w2 w3 → CpAt w3 g sv d → FlAt w3 h av f ∧ (∀ c5 f5 w5, SysTo g h w3 sv av c5 f5 w5 → SysTo g h w sv av c5 f5 w5)) := Lib.hid (fun w2 h1 h2 w3 h3 h4 => by
    have hall : Only g w w3 := (HO1.out.trans h1).trans h3
    refine ⟨HF.out.ch (hall.cpp (sv := sv)) (fl_ne H.out HF.out) (av_far H.out HF.out), fun c5 f5 w5 h5 => SysTo.trans (.inl rfl) (.inl rfl) ?_ h5⟩
    exact (hall.cpp (sv := sv)).mono fun _ _ h => .inl h)
  have hk4 : c.kind = 4 ∨ c.kind ≠ 4 := by omega
  rcases hk4 with hk4 | hk4
  · have e4 : (c.kind == 4) = true := by rw [hk4]; rfl
    have hdd : d = { c with wait := 0, held := false, t := 0, n := c.n - 1 } := by rw [hd]; unfold Cp.adv; rw [if_pos hk4]
    clear hd hk4
    go_upto_region 13 with fail
    generalize hw2 : World.setCell (World.setCell (World.setCell (World.setCell (World.setCell w1 _ _) _ _) _ _) _ _) _ _ = w2
    have HO2 : Hid (Only g w1 w2) := by
      show Only _ _ _
      rw [← hw2]
      repeat (with_reducible refine Only.trans ?_ (Only.set g _ _ _))
      exact Only.refl _ _
    have H2 : Hid (CpAt w2 g sv d) := Lib.hid (H1.out.turn HO2.out (by rw [← hw2, hdd]; exact ((((H1.out.blk.set_ 49 _).set_ 49 _).set_ 47 _).set_ 46 _).set_ 47 _) (by rw [hdd]))
    have k47 : w2.cell? ⟨g, 47, none⟩ = some (.int .i64 d.t) := H2.out.blk.cell 47
    have k46 : w2.cell? ⟨g, 46, none⟩ = some (.int .i64 d.n) := H2.out.blk.cell 46
    clear hw2 d42 d48 d49 d47 d46 y47 y46 y49 v1 v2 hdd
    go_quiet (fail)
    have HO3 : Hid (Only g w2 (w2.drewN nq)) := Lib.hid (Drew.only ⟨_, rfl⟩)
    have H3 : Hid (CpAt (w2.drewN nq) g sv d) := Lib.hid (H2.out.drewAt ⟨_, rfl⟩)
    obtain ⟨hf3, hs3⟩ := HFIN.out w2 HO2.out H2.out _ HO3.out H3.out
    have HF3 := Lib.hid hf3; have HS3 := Lib.hid hs3
    clear hf3 hs3
    rcases HN.out with ⟨hne, hc2, hf2⟩ | ⟨heq, hfin⟩
    · have e5 : (d.t == d.n) = false := by simpa using hne
      have HC2 := Lib.hid hc2; have HF2 := Lib.hid hf2
      clear hne hc2 hf2
      go_wp2
      rw [HC2.out, HF2.out]
      exact bodyPost_end (results_none rfl _ _ _) rfl ⟨rfl, HS3.out _ _ _ ⟨sv, av, H3.out, HF3.out, .inl rfl, .inl rfl, Ch.refl _ _⟩⟩
    · have e5 : (d.t == d.n) = true := by rw [heq]; simp
      have HFT := Lib.hid hfin
      clear heq hfin
      go_wp2_with (first
        | (go_at_call 23; refine (cp_finish g h sv av d c2 f f2 _ H3.out HF3.out HOD.out HFT.out).mono ?_; rintro e w5 ⟨rfl, h5⟩))
      exact bodyPost_end (results_none rfl _ _ _) rfl ⟨rfl, HS3.out _ _ _ h5⟩
  · have e4 : (c.kind == 4) = false := by simpa using hk4
    have hdd : d = { c with wait := 0, held := false, t := c.t + 1 } := by rw [hd]; unfold Cp.adv; rw [if_neg hk4]
    clear hd hk4
    go_upto_region 13 with fail
    generalize hw2 : World.setCell (World.setCell (World.setCell w1 _ _) _ _) _ _ = w2
    have HO2 : Hid (Only g w1 w2) := by
      show Only _ _ _
      rw [← hw2]
      repeat (with_reducible refine Only.trans ?_ (Only.set g _ _ _))
      exact Only.refl _ _
    have H2 : Hid (CpAt w2 g sv d) := Lib.hid (H1.out.turn HO2.out (by rw [← hw2, hdd]; exact ((H1.out.blk.set_ 49 _).set_ 49 _).set_ 47 _) (by rw [hdd]))
    have k47 : w2.cell? ⟨g, 47, none⟩ = some (.int .i64 d.t) := H2.out.blk.cell 47
    have k46 : w2.cell? ⟨g, 46, none⟩ = some (.int .i64 d.n) := H2.out.blk.cell 46
    clear hw2 d42 d48 d49 d47 d46 y47 y46 y49 v1 v2 hdd
    go_quiet (fail)
    have HO3 : Hid (Only g w2 (w2.drewN nq)) := Lib.hid (Drew.only ⟨_, rfl⟩)
    have H3 : Hid (CpAt (w2.drewN nq) g sv d) := Lib.hid (H2.out.drewAt ⟨_, rfl⟩)
    obtain ⟨hf3, hs3⟩ := HFIN.out w2 HO2.out H2.out _ HO3.out H3.out
    have HF3 := Lib.hid hf3; have HS3 := Lib.hid hs3
    clear hf3 hs3
    rcases HN.out with ⟨hne, hc2, hf2⟩ | ⟨heq, hfin⟩
    · have e5 : (d.t == d.n) = false := by simpa using hne
      have HC2 := Lib.hid hc2; have HF2 := Lib.hid hf2
      clear hne hc2 hf2
      go_wp2
      rw [HC2.out, HF2.out]
      exact bodyPost_end (results_none rfl _ _ _) rfl ⟨rfl, HS3.out _ _ _ ⟨sv, av, H3.out, HF3.out, .inl rfl, .inl rfl, Ch.refl _ _⟩⟩
    · have e5 : (d.t == d.n) = true := by rw [heq]; simp
      have HFT := Lib.hid hfin
      clear heq hfin
      go_wp2_with (first
        | (go_at_call 23; refine (cp_finish g h sv av d c2 f f2 _ H3.out HF3.out HOD.out HFT.out).mono ?_; rintro e w5 ⟨rfl, h5⟩))
      exact bodyPost_end (results_none rfl _ _ _) rfl ⟨rfl, HS3.out _ _ _ h5⟩
end Go.Proofs.YtifgikjmfmkgeaaGreat
namespace Go.Proofs.YtifgikjmfmkgeaaGreat
set_option linter.unusedSimpArgs false
set_option linter.unusedVariables false
open Go.RowKit
theorem calm_begun {c : Cp} (h : c.Calm) : c.begun.Calm := ⟨ok_begun h.ok, rfl, h.nmi, ⟨Int.le_refl _, (by show (0 : Int) ≤ 100; decide)⟩, ⟨(by show (0 : Int) ≤ 4; decide), (by show (4 : Int) ≤ 100; decide)⟩⟩
set_option maxRecDepth 100000 in
set_option maxHeartbeats 8000000 in
theorem cp_tick0 (g h : Nat) (sv av : Value) (c c2 : Cp) (f f2 : Fl) (w : World) (hc : CpAt w g sv c) (hf : FlAt w h av f) (hm : c.Calm) (hl : f.line = false) (hk : c.kind = -1) (hn : (c.begun.adv.t ≠ c.begun.adv.n ∧ c2 = c.begun.adv ∧ f2 = f) ∨ (c.begun.adv.t = c.begun.adv.n ∧ FinTo c.begun.adv f c2 f2)) :
    Calls Tryz.prog 19 #[.pointer (some ⟨g, 0, none⟩), busV h] w (DoneS g h w sv av c2 f2) := by
  have hb := hc.blk
  have c42 : w.cell? ⟨g, 42, none⟩ = some (.int .i64 (-1)) := by rw [← hk]; exact hb.cell 42
  have HBG := Lib.hid (cp_begin g h sv av c f w hc hf hm.nmi hl)
  obtain ⟨b, hbb⟩ : ∃ b, b = c.begun := ⟨_, rfl⟩
  have HM : Hid b.Calm := by show b.Calm; rw [hbb]; exact calm_begun hm
  have HK0 : Hid (b.held = false) := by show _ = _; rw [hbb]; rfl
  rw [← hbb] at hn HBG
  have HN := Lib.hid hn
  clear hc hf hm hn hb hk hbb
  unfold busV at HBG ⊢
  go_enter Tryz.func19, Tryz.ntmps19
  go_wp2_with (first
    | (go_at_call 22; refine HBG.out.mono ?_; rintro e w0 ⟨rfl, sv0, av0, h1, h2, h3, h3a, h4⟩
       have H := Lib.hid h1; have HF := Lib.hid h2; have HS0 := Lib.hid h3; have HA0 := Lib.hid h3a; have HC0 := Lib.hid h4
       have HB := Lib.hid h1.blk
       have c42 : w0.cell? ⟨g, 42, none⟩ = some (.int .i64 b.kind) := h1.blk.cell 42
       have c49 : w0.cell? ⟨g, 49, none⟩ = some (.bool false) := by (rw [← HK0.out]; exact h1.blk.cell 49)
       have c45 : w0.cell? ⟨g, 45, none⟩ = some (.int .u16 b.addr) := h1.blk.cell 45
       have c47 : w0.cell? ⟨g, 47, none⟩ = some (.int .i64 b.t) := h1.blk.cell 47
       have c48 : w0.cell? ⟨g, 48, none⟩ = some (.int .i64 b.wait) := h1.blk.cell 48
       have z48 := h1.blk.frozen 48
       clear h1 h2 h3 h3a h4))
  have hna := fun n w => ahead_hold h n w
  have S3 : ∀ v, (w0.drew.setCell ⟨g, 48, none⟩ v).cell? ⟨g, 42, none⟩ = some (.int .i64 b.kind) ∧ (w0.drew.setCell ⟨g, 48, none⟩ v).cell? ⟨g, 45, none⟩ = some (.int .u16 b.addr) ∧ (w0.drew.setCell ⟨g, 48, none⟩ v).cell? ⟨g, 47, none⟩ = some (.int .i64 b.t) := fun v => ⟨(HB.out.drew.set_ 48 v).cell 42, (HB.out.drew.set_ 48 v).cell 45, (HB.out.drew.set_ 48 v).cell 47⟩
  go_region_held3 (fun w' => w'.cell? ⟨g, 42, none⟩ = some (.int .i64 b.kind) ∧ w'.cell? ⟨g, 45, none⟩ = some (.int .u16 b.addr) ∧ w'.cell? ⟨g, 47, none⟩ = some (.int .i64 b.t)) (first | exact ⟨c42, c45, c47⟩ | exact S3 _) (first
    | (go_at_call 166; refine (fl_hold h _ _ _ _).mono ?_; rintro e w1 ⟨rfl, rfl⟩))
  generalize hw1 : World.drew _ = w1
  have HO1 : Hid (Only g w0 w1) := by show Only _ _ _; rw [← hw1]; exact (Only.set g 48 w0 _).drew
  have H1 : Hid (CpAt w1 g sv0 { b with wait := 0 }) := Lib.hid (H.out.turn HO1.out (by rw [← hw1]; exact (HB.out.set_ 48 _).drew) rfl)
  clear hw1 c42 c49 c45 c47 c48 z48 S3 hna HB
  have d42 : w1.cell? ⟨g, 42, none⟩ = some (.int .i64 b.kind) := H1.out.blk.cell 42
  have d48 : w1.cell? ⟨g, 48, none⟩ = some (.int .i64 0) := H1.out.blk.cell 48
  have d49 : w1.cell? ⟨g, 49, none⟩ = some (.bool b.held) := H1.out.blk.cell 49
  have d47 : w1.cell? ⟨g, 47, none⟩ = some (.int .i64 b.t) := H1.out.blk.cell 47
  have d46 : w1.cell? ⟨g, 46, none⟩ = some (.int .i64 b.n) := H1.out.blk.cell 46
  have y47 := H1.out.blk.frozen 47
  have y46 := H1.out.blk.frozen 46
  have y49 := H1.out.blk.frozen 49
  have v1 : IntKind.i64.wrap (b.t + 1) = b.t + 1 := by obtain ⟨a, b⟩ := HM.out.t0; rw [IntKind.wrap_i64]; omega
  have v2 : IntKind.i64.wrap (b.n - 1) = b.n - 1 := by obtain ⟨a, b⟩ := HM.out.n0; rw [IntKind.wrap_i64]; omega
  obtain ⟨d, hd⟩ : ∃ d, d = b.adv := ⟨_, rfl⟩
  have HOD : Hid d.Ok := by show d.Ok; rw [hd]; exact ok_adv HM.out.ok
  rw [← hd] at HN
  have HFIN : Hid (∀ w2, Only g w1 w2 → CpAt w2 g sv0 d → ∀ w3, Only g w2 w3 → CpAt w3 g sv0 d → FlAt w3 h av0 f ∧ (∀ c5 f5 w5, SysTo g h w3 sv0 av0 c5 f5 w5 → SysTo g h w sv av c5 f5 w5)) := Lib.hid (fun w2 h1 h2 w3 h3 h4 => by
    have hall : Only g w0 w3 := (HO1.out.trans h1).trans h3
    refine ⟨HF.out.ch (hall.cpp (sv := sv0)) (fl_ne H.out HF.out) (av_far H.out HF.out), fun c5 f5 w5 h5 => SysTo.trans HS0.out HA0.out HC0.out (SysTo.trans (.inl rfl) (.inl rfl) ?_ h5)⟩
    exact (hall.cpp (sv := sv0)).mono fun _ _ h => .inl h)
  have hk4 : b.kind = 4 ∨ b.kind ≠ 4 := by omega
  rcases hk4 with hk4 | hk4
  · have e4 : (b.kind == 4) = true := by rw [hk4]; rfl
    have hdd : d = { b with wait := 0, held := false, t := 0, n := b.n - 1 } := by rw [hd]; unfold Cp.adv; rw [if_pos hk4]
    clear hd hk4
    go_upto_region 13 with fail
    generalize hw2 : World.setCell (World.setCell (World.setCell (World.setCell (World.setCell w1 _ _) _ _) _ _) _ _) _ _ = w2
    have HO2 : Hid (Only g w1 w2) := by
      show Only _ _ _
      rw [← hw2]
      repeat (with_reducible refine Only.trans ?_ (Only.set g _ _ _))
      exact Only.refl _ _
    have H2 : Hid (CpAt w2 g sv0 d) := Lib.hid (H1.out.turn HO2.out (by rw [← hw2, hdd]; exact ((((H1.out.blk.set_ 49 _).set_ 49 _).set_ 47 _).set_ 46 _).set_ 47 _) (by rw [hdd]))
    have k47 : w2.cell? ⟨g, 47, none⟩ = some (.int .i64 d.t) := H2.out.blk.cell 47
    have k46 : w2.cell? ⟨g, 46, none⟩ = some (.int .i64 d.n) := H2.out.blk.cell 46
    clear hw2 d42 d48 d49 d47 d46 y47 y46 y49 v1 v2 hdd
    go_quiet (fail)
    have HO3 : Hid (Only g w2 (w2.drewN nq)) := Lib.hid (Drew.only ⟨_, rfl⟩)
    have H3 : Hid (CpAt (w2.drewN nq) g sv0 d) := Lib.hid (H2.out.drewAt ⟨_, rfl⟩)
    obtain ⟨hf3, hs3⟩ := HFIN.out w2 HO2.out H2.out _ HO3.out H3.out
    have HF3 := Lib.hid hf3; have HS3 := Lib.hid hs3
    clear hf3 hs3
    rcases HN.out with ⟨hne, hc2, hf2⟩ | ⟨heq, hfin⟩
    · have e5 : (d.t == d.n) = false := by simpa using hne
      have HC2 := Lib.hid hc2; have HF2 := Lib.hid hf2
      clear hne hc2 hf2
      go_wp2
      rw [HC2.out, HF2.out]
      exact bodyPost_end (results_none rfl _ _ _) rfl ⟨rfl, HS3.out _ _ _ ⟨sv0, av0, H3.out, HF3.out, .inl rfl, .inl rfl, Ch.refl _ _⟩⟩
    · have e5 : (d.t == d.n) = true := by rw [heq]; simp
      have HFT := Lib.hid hfin
      clear heq hfin
      go_wp2_with (first
        | (go_at_call 23; refine (cp_finish g h sv0 av0 d c2 f f2 _ H3.out HF3.out HOD.out HFT.out).mono ?_; rintro e w5 ⟨rfl, h5⟩))
      exact bodyPost_end (results_none rfl _ _ _) rfl ⟨rfl, HS3.out _ _ _ h5⟩
  · have e4 : (b.kind == 4) = false := by simpa using hk4
    have hdd : d = { b with wait := 0, held := false, t := b.t + 1 } := by rw [hd]; unfold Cp.adv; rw [if_neg hk4]
    clear hd hk4
    go_upto_region 13 with fail
    generalize hw2 : World.setCell (World.setCell (World.setCell w1 _ _) _ _) _ _ = w2
    have HO2 : Hid (Only g w1 w2) := by
      show Only _ _ _
      rw [← hw2]
      repeat (with_reducible refine Only.trans ?_ (Only.set g _ _ _))
      exact Only.refl _ _
    have H2 : Hid (CpAt w2 g sv0 d) := Lib.hid (H1.out.turn HO2.out (by rw [← hw2, hdd]; exact ((H1.out.blk.set_ 49 _).set_ 49 _).set_ 47 _) (by rw [hdd]))
    have k47 : w2.cell? ⟨g, 47, none⟩ = some (.int .i64 d.t) := H2.out.blk.cell 47
    have k46 : w2.cell? ⟨g, 46, none⟩ = some (.int .i64 d.n) := H2.out.blk.cell 46
    clear hw2 d42 d48 d49 d47 d46 y47 y46 y49 v1 v2 hdd
    go_quiet (fail)
    have HO3 : Hid (Only g w2 (w2.drewN nq)) := Lib.hid (Drew.only ⟨_, rfl⟩)
    have H3 : Hid (CpAt (w2.drewN nq) g sv0 d) := Lib.hid (H2.out.drewAt ⟨_, rfl⟩)
    obtain ⟨hf3, hs3⟩ := HFIN.out w2 HO2.out H2.out _ HO3.out H3.out
    have HF3 := Lib.hid hf3; have HS3 := Lib.hid hs3
    clear hf3 hs3
    rcases HN.out with ⟨hne, hc2, hf2⟩ | ⟨heq, hfin⟩
    · have e5 : (d.t == d.n) = false := by simpa using hne
      have HC2 := Lib.hid hc2; have HF2 := Lib.hid hf2
      clear hne hc2 hf2
      go_wp2
      rw [HC2.out, HF2.out]
      exact bodyPost_end (results_none rfl _ _ _) rfl ⟨rfl, HS3.out _ _ _ ⟨sv0, av0, H3.out, HF3.out, .inl rfl, .inl rfl, Ch.refl _ _⟩⟩
    · have e5 : (d.t == d.n) = true := by rw [heq]; simp
      have HFT := Lib.hid hfin
      clear heq hfin
      go_wp2_with (first
        | (go_at_call 23; refine (cp_finish g h sv0 av0 d c2 f f2 _ H3.out HF3.out HOD.out HFT.out).mono ?_; rintro e w5 ⟨rfl, h5⟩))
      exact bodyPost_end (results_none rfl _ _ _) rfl ⟨rfl, HS3.out _ _ _ h5⟩
theorem cp_tickB (g h : Nat) (sv av : Value) (c c2 : Cp) (f f2 : Fl) (w : World) (hc : CpAt w g sv c) (hf : FlAt w h av f) (hm : c.Calm) (hl : f.line = false) (hn : TickTo c f c2 f2) :
    Calls Tryz.prog 19 #[.pointer (some ⟨g, 0, none⟩), busV h] w (DoneS g h w sv av c2 f2) := by
  unfold TickTo Cp.inn at hn
  by_cases hk : c.kind = -1
  · simp only [if_pos hk] at hn
    exact cp_tick0 g h sv av c c2 f f2 w hc hf hm hl hk hn
  · simp only [if_neg hk] at hn
    exact cp_tick1 g h sv av c c2 f f2 w hc hf hm hl hk hn
end Go.Proofs.YtifgikjmfmkgeaaGreat
namespace Go.Proofs.YtifgikjmfmkgeaaGreat
set_option linter.unusedSimpArgs false
set_option linter.unusedVariables false
open Go.RowKit
namespace Mi
def memS (c : Int) : Bool := if c / 64 = 0 then decide (c / 8 % 8 = 6 ∧ 4 ≤ c % 8 ∧ c % 8 ≤ 6) else if c / 64 = 1 then decide (c ≠ 118 ∧ (c / 8 % 8 = 6 ∨ c % 8 = 6)) else if c / 64 = 2 then decide (c % 8 = 6) else false
end Mi
set_option maxHeartbeats 400000 in
theorem opx_any (c : Int) (w : World) (h0 : 0 ≤ c) (h1 : c ≤ 255) : Calls Tryz.prog 148 #[.int .u8 c] w fun e w' => e = .returned (.int .i64 (c / 64)) ∧ w = w' := by
  go_enter Tryz.func148, Tryz.ntmps148
  go_wp2
  go_ret
  exact ⟨rfl, rfl⟩
set_option maxHeartbeats 400000 in
theorem opy_any (c : Int) (w : World) (h0 : 0 ≤ c) (h1 : c ≤ 255) : Calls Tryz.prog 149 #[.int .u8 c] w fun e w' => e = .returned (.int .i64 (c / 8 % 8)) ∧ w = w' := by
  have e := u8_and_7 (c / 8) (by omega) (by omega)
  go_enter Tryz.func149, Tryz.ntmps149
  go_wp2
  go_ret
  exact ⟨rfl, rfl⟩
set_option maxHeartbeats 400000 in
theorem opz_any (c : Int) (w : World) (h0 : 0 ≤ c) (h1 : c ≤ 255) : Calls Tryz.prog 150 #[.int .u8 c] w fun e w' => e = .returned (.int .i64 (c % 8)) ∧ w = w' := by
  have e := u8_and_7 c (by omega) (by omega)
  go_enter Tryz.func150, Tryz.ntmps150
  go_wp2
  go_ret
  exact ⟨rfl, rfl⟩
structure OpParts (c x y z : Int) : Prop where
  x : ∀ w, Calls Tryz.prog 148 #[.int .u8 c] w fun e w' => e = .returned (.int .i64 x) ∧ w = w'
  y : ∀ w, Calls Tryz.prog 149 #[.int .u8 c] w fun e w' => e = .returned (.int .i64 y) ∧ w = w'
  z : ∀ w, Calls Tryz.prog 150 #[.int .u8 c] w fun e w' => e = .returned (.int .i64 z) ∧ w = w'
theorem op_parts (c : Int) (h0 : 0 ≤ c) (h1 : c ≤ 255) : OpParts c (c / 64) (c / 8 % 8) (c % 8) :=
  ⟨fun w => opx_any c w h0 h1, fun w => opy_any c w h0 h1, fun w => opz_any c w h0 h1⟩
set_option maxHeartbeats 4000000 in
theorem mem_any (c : Int) (w : World) (h0 : 0 ≤ c) (h1 : c ≤ 255) : Calls Tryz.prog 131 #[.int .u8 c] w fun e w' => e = .returned (.bool (Mi.memS c)) ∧ w = w' := by
  obtain ⟨R, hR⟩ : ∃ R, R = Mi.memS c := ⟨_, rfl⟩
  rw [← hR]
  unfold Mi.memS at hR
  have H := op_parts c h0 h1
  obtain ⟨X, hX⟩ : ∃ X, X = c / 64 := ⟨_, rfl⟩
  obtain ⟨Y, hY⟩ : ∃ Y, Y = c / 8 % 8 := ⟨_, rfl⟩
  obtain ⟨Z, hZ⟩ : ∃ Z, Z = c % 8 := ⟨_, rfl⟩
  have bX : X = 0 ∨ X = 1 ∨ X = 2 ∨ X = 3 := by omega
  have bZ : Z = 0 ∨ Z = 1 ∨ Z = 2 ∨ Z = 3 ∨ Z = 4 ∨ Z = 5 ∨ Z = 6 ∨ Z = 7 := by omega
  rw [← hX, ← hY, ← hZ] at H
  rw [← hX, ← hY, ← hZ] at hR
  have kc : c = 118 ∧ X = 1 ∧ Y = 6 ∧ Z = 6 ∨ c ≠ 118 := by omega
  have H := Lib.hid H
  clear hX hY hZ
  have kY : Y = 6 ∨ Y ≠ 6 := by omega
  rcases kc with ⟨rfl, rfl, rfl, rfl⟩ | kc
  · simp at hR
    subst hR
    go_enter Tryz.func131, Tryz.ntmps131
    go_wp2_with (first
      | (go_at_call 150; refine (H.out.z _).mono ?_; rintro e w' ⟨rfl, rfl⟩)
      | (go_at_call 149; refine (H.out.y _).mono ?_; rintro e w' ⟨rfl, rfl⟩)
      | (go_at_call 148; refine (H.out.x _).mono ?_; rintro e w' ⟨rfl, rfl⟩))
    go_ret
    exact ⟨rfl, rfl⟩
  have kb : (c == 118) = false := by simp [kc]
  have kn : (c != 118) = true := by simp [kc]
  rcases kY with rfl | kY
  · rcases bX with rfl | rfl | rfl | rfl <;> rcases bZ with rfl | rfl | rfl | rfl | rfl | rfl | rfl | rfl
    all_goals
      simp [kc] at hR
      subst hR
      go_enter Tryz.func131, Tryz.ntmps131
      go_wp2_with (first
        | (go_at_call 150; refine (H.out.z _).mono ?_; rintro e w' ⟨rfl, rfl⟩)
        | (go_at_call 149; refine (H.out.y _).mono ?_; rintro e w' ⟨rfl, rfl⟩)
        | (go_at_call 148; refine (H.out.x _).mono ?_; rintro e w' ⟨rfl, rfl⟩))
      go_ret
      exact ⟨rfl, rfl⟩
  · have yb : (Y == 6) = false := by simp [kY]
    rcases bX with rfl | rfl | rfl | rfl <;> rcases bZ with rfl | rfl | rfl | rfl | rfl | rfl | rfl | rfl
    all_goals
      simp [kc, kY] at hR
      subst hR
      go_enter Tryz.func131, Tryz.ntmps131
      go_wp2_with (first
        | (go_at_call 150; refine (H.out.z _).mono ?_; rintro e w' ⟨rfl, rfl⟩)
        | (go_at_call 149; refine (H.out.y _).mono ?_; rintro e w' ⟨rfl, rfl⟩)
        | (go_at_call 148; refine (H.out.x _).mono ?_; rintro e w' ⟨rfl, rfl⟩))
      go_ret
      exact ⟨rfl, rfl⟩
end Go.Proofs.YtifgikjmfmkgeaaGreat
namespace Go.Proofs.YtifgikjmfmkgeaaGreat
set_option linter.unusedSimpArgs false
set_option linter.unusedVariables false
open Go.RowKit
def Cp.plainV (c : Cp) : Int := if Mi.memS c.code then 0 else c.ix
theorem cp_plain (g : Nat) (sv : Value) (c : Cp) (w : World) (h : CpAt w g sv c) (hk : B8 c.code) : Calls Tryz.prog 106 #[.pointer (some ⟨g, 0, none⟩)] w fun e w' => e = .returned (.int .i64 c.plainV) ∧ w' = w := by
  have hb := h.blk
  have c32 : w.cell? ⟨g, 32, none⟩ = some (.int .u8 c.code) := hb.cell 32
  have c33 : w.cell? ⟨g, 33, none⟩ = some (.int .i64 c.ix) := hb.cell 33
  unfold Cp.plainV
  have HM := Lib.hid (fun w => mem_any c.code w hk.1 hk.2)
  clear h hb
  cases hm : Mi.memS c.code
  all_goals
    rw [hm] at HM
    go_enter Tryz.func106, Tryz.ntmps106
    go_wp2_with (first
      | (go_at_call 131; refine (HM.out _).mono ?_; rintro e w' ⟨rfl, rfl⟩))
    go_ret
    exact ⟨rfl, rfl⟩
set_option maxRecDepth 100000 in
set_option maxHeartbeats 4000000 in
theorem work_counts (k : Int) (g : Nat) (sv : Value) (c c' : Cp) (w : World) (hk : k = 13 ∨ k = 14 ∨ k = 15 ∨ k = 16 ∨ k = 17 ∨ k = 19 ∨ k = 20 ∨ k = 21 ∨ k = 22 ∨ k = 23)
    (h : Calls Tryz.prog 66 #[.pointer (some ⟨g, 0, none⟩), .int .i64 k] w (Done (.tuple #[]) g w sv c')) :
    Calls Tryz.prog 33 #[.pointer (some ⟨g, 0, none⟩), .int .i64 k] w (Done (.tuple #[]) g w sv c') := by
  have HF : Hid (Calls Tryz.prog 38 #[.pointer (some ⟨g, 0, none⟩), .int .i64 k] w (Done (.tuple #[]) g w sv c')) := by
    have H := Lib.hid h
    clear h
    show Calls _ _ _ _ _
    rcases hk with rfl | rfl | rfl | rfl | rfl | rfl | rfl | rfl | rfl | rfl
    all_goals
      go_enter Tryz.func38, Tryz.ntmps38
      go_wp2_with (first
        | (go_at_call 66; refine H.out.mono ?_; rintro e w1 ⟨rfl, h1⟩))
      exact bodyPost_end (results_none rfl _ _ _) rfl ⟨rfl, h1⟩
  have hk2 : k ≤ 31 := by omega
  clear h hk
  go_enter Tryz.func33, Tryz.ntmps33
  go_wp2_with (first
    | (go_at_call 38; refine HF.out.mono ?_; rintro e w1 ⟨rfl, h1⟩))
  exact bodyPost_end (results_none rfl _ _ _) rfl ⟨rfl, h1⟩
def Cp.ldReg (c : Cp) : Cp := { c with r := c.r.putByte (c.code / 8 % 8) c.plainV c.lo }
theorem ok_putByte {r : Rg} (h : r.Ok) (k ix v : Int) (hv : B8 v) : (r.putByte k ix v).Ok := by
  obtain ⟨v0, v1⟩ := hv
  have hx := h.ix; have hy := h.iy
  unfold B16 at hx hy
  have b1 : B16 (v * 256 + r.ix % 256) := ⟨by omega, by omega⟩
  have b2 : B16 (v * 256 + r.iy % 256) := ⟨by omega, by omega⟩
  have b3 : B16 (r.ix / 256 * 256 + v) := ⟨by omega, by omega⟩
  have b4 : B16 (r.iy / 256 * 256 + v) := ⟨by omega, by omega⟩
  have hv : B8 v := ⟨v0, v1⟩
  unfold Rg.putByte
  repeat' split
  all_goals first
    | exact { h with b := hv } | exact { h with c := hv } | exact { h with d := hv } | exact { h with e := hv } | exact { h with h := hv } | exact { h with l := hv } | exact { h with a := hv }
    | exact { h with ix := b1 } | exact { h with iy := b2 } | exact { h with ix := b3 } | exact { h with iy := b4 } | exact h
set_option maxRecDepth 100000 in
set_option maxHeartbeats 4000000 in
theorem counts_ldReg (g : Nat) (sv : Value) (c : Cp) (w : World) (h : CpAt w g sv c) (ho : c.Ok) :
    Calls Tryz.prog 66 #[.pointer (some ⟨g, 0, none⟩), .int .i64 17] w (Done (.tuple #[]) g w sv c.ldReg) := by
  have hb := h.blk
  have c32 : w.cell? ⟨g, 32, none⟩ = some (.int .u8 c.code) := hb.cell 32
  have c36 : w.cell? ⟨g, 36, none⟩ = some (.int .u8 c.lo) := hb.cell 36
  have H := Lib.hid h; have HO := Lib.hid ho; have HB := Lib.hid hb
  have HP := Lib.hid (fun w h => cp_plain g sv c w h ho.code)
  have HPB := Lib.hid (fun w h => putByte_any c.r 45 (c.tail sv) g (c.code / 8 % 8) c.plainV c.lo w h ho.r ho.lo)
  have hk := ho.code
  obtain ⟨P, hP⟩ : ∃ P, P = c.plainV := ⟨_, rfl⟩
  have HPP := Lib.hid hP
  rw [← hP] at HP HPB
  clear h ho hb hP
  go_enter Tryz.func66, Tryz.ntmps66
  go_wp2_with fail
  go_region_held3 (fun w' => w'.cell? ⟨g, 32, none⟩ = some (.int .u8 c.code) ∧ w'.cell? ⟨g, 36, none⟩ = some (.int .u8 c.lo)) (first | exact ⟨c32, c36⟩ | exact S2) (first
    | (go_at_call 42; refine (cpu_y _ _ hk).mono ?_; rintro e w1 ⟨rfl, rfl⟩)
    | (go_at_call 106; refine (HP.out _ ?_).mono ?_; exact H.out.drewAt ⟨1, rfl⟩; rintro e w1 ⟨rfl, rfl⟩)
    | (go_at_call 71; refine (HPB.out _ ?_).mono ?_; exact HB.out.drew; rintro e w2 ⟨rfl, h2, ho2⟩; have S2 : w2.cell? ⟨g, 32, none⟩ = some (.int .u8 c.code) ∧ w2.cell? ⟨g, 36, none⟩ = some (.int .u8 c.lo) := ⟨h2.cell 32, h2.cell 36⟩))
  go_wp2
  refine bodyPost_ret (results_none rfl _ _ _) rfl ⟨rfl, H.out.only ((Drew.only ⟨1, rfl⟩).trans ho2) ?_ rfl⟩
  rw [HPP.out] at h2
  exact h2
theorem workOk_ldReg (c : Cp) (ho : c.Ok) : WorkOk 17 c c.ldReg :=
  ⟨⟨ok_putByte ho.r _ _ _ ho.lo, ho.code, ho.lo, ho.hi, ho.ea, ho.out, ho.addr, ho.at0, ho.at1, ho.len⟩, fun g sv w h => work_counts 17 g sv c _ w (by decide) (counts_ldReg g sv c w h ho)⟩
end Go.Proofs.YtifgikjmfmkgeaaGreat
namespace Go.Proofs.YtifgikjmfmkgeaaGreat
set_option linter.unusedSimpArgs false
set_option linter.unusedVariables false
open Go.RowKit
def Cp.wordV (c : Cp) : Int := c.hi * 256 + c.lo
theorem word_b16 {c : Cp} (h : c.Ok) : B16 c.wordV := by
  obtain ⟨a1, a2⟩ := h.hi; obtain ⟨b1, b2⟩ := h.lo
  unfold Cp.wordV
  exact ⟨by omega, by omega⟩
set_option maxRecDepth 100000 in
set_option maxHeartbeats 2000000 in
theorem cp_word (g : Nat) (sv : Value) (c : Cp) (w : World) (h : CpAt w g sv c) (ho : c.Ok) :
    Calls Tryz.prog 60 #[.pointer (some ⟨g, 0, none⟩)] w fun e w' => e = .returned (.int .u16 c.wordV) ∧ Drew w w' := by
  have hb := h.blk
  have c36 : w.cell? ⟨g, 36, none⟩ = some (.int .u8 c.lo) := hb.cell 36
  have c37 : w.cell? ⟨g, 37, none⟩ = some (.int .u8 c.hi) := hb.cell 37
  have h1 := ho.hi; have h2 := ho.lo
  unfold Cp.wordV
  clear hb h ho
  go_enter Tryz.func60, Tryz.ntmps60
  go_wp2_with fail
  go_quiet ((go_at_call 31; exact Calls.quiet_of_same (same_swap (wideOf_any _ _ _ h1 h2))))
  go_wp2
  go_ret
  exact ⟨rfl, _, rfl⟩
theorem work_first (k : Int) (g : Nat) (sv : Value) (c c' : Cp) (w : World) (hk : 0 ≤ k ∧ k ≤ 31)
    (h : Calls Tryz.prog 38 #[.pointer (some ⟨g, 0, none⟩), .int .i64 k] w (Done (.tuple #[]) g w sv c')) :
    Calls Tryz.prog 33 #[.pointer (some ⟨g, 0, none⟩), .int .i64 k] w (Done (.tuple #[]) g w sv c') := by
  have H := Lib.hid h
  have hk2 : k ≤ 31 := hk.2
  clear h hk
  go_enter Tryz.func33, Tryz.ntmps33
  go_wp2_with (first
    | (go_at_call 38; refine H.out.mono ?_; rintro e w1 ⟨rfl, h1⟩))
  exact bodyPost_end (results_none rfl _ _ _) rfl ⟨rfl, h1⟩
def Cp.nn (c : Cp) : Cp := { c with r := { c.r with wz := c.wordV } }
def Cp.jump (c : Cp) : Cp := { c with r := { c.r with pc := c.wordV, wz := c.wordV } }
def Cp.jpWz (c : Cp) : Cp := { c with r := { c.r with pc := c.r.wz } }
set_option maxRecDepth 100000 in
set_option maxHeartbeats 4000000 in
theorem first_nn (g : Nat) (sv : Value) (c : Cp) (w : World) (h : CpAt w g sv c) (ho : c.Ok) :
    Calls Tryz.prog 38 #[.pointer (some ⟨g, 0, none⟩), .int .i64 8] w (Done (.tuple #[]) g w sv c.nn) := by
  have H := Lib.hid h; have HO := Lib.hid ho
  clear h ho
  go_enter Tryz.func38, Tryz.ntmps38
  go_wp2_with (first
    | (go_at_call 60; refine (cp_word g sv c _ H.out HO.out).mono ?_; rintro e w1 ⟨rfl, hd1⟩; have H1 := Lib.hid (H.out.drewAt hd1); have HD1 := Lib.hid hd1; have e23 : w1.cell? ⟨g, 23, none⟩ = some (.int .u16 c.r.wz) := H1.out.blk.cell 23; have y23 := H1.out.blk.frozen 23; clear hd1))
  exact bodyPost_end (results_none rfl _ _ _) rfl ⟨rfl, H.out.only ((Drew.only HD1.out).trans (Only.set g 23 w1 _)) (H1.out.blk.set_ 23 _) rfl⟩
set_option maxRecDepth 100000 in
set_option maxHeartbeats 4000000 in
theorem first_jump (g : Nat) (sv : Value) (c : Cp) (w : World) (h : CpAt w g sv c) (ho : c.Ok) :
    Calls Tryz.prog 38 #[.pointer (some ⟨g, 0, none⟩), .int .i64 24] w (Done (.tuple #[]) g w sv c.jump) := by
  have H := Lib.hid h; have HO := Lib.hid ho
  clear h ho
  go_enter Tryz.func38, Tryz.ntmps38
  go_wp2_with (first
    | (go_at_call 60; refine (cp_word g sv c _ H.out HO.out).mono ?_; rintro e w1 ⟨rfl, hd1⟩; have H1 := Lib.hid (H.out.drewAt hd1); have HD1 := Lib.hid hd1; have e23 : w1.cell? ⟨g, 23, none⟩ = some (.int .u16 c.r.wz) := H1.out.blk.cell 23; have y23 := H1.out.blk.frozen 23; have e22 : w1.cell? ⟨g, 22, none⟩ = some (.int .u16 c.r.pc) := H1.out.blk.cell 22; have y22 := H1.out.blk.frozen 22; clear hd1))
  exact bodyPost_end (results_none rfl _ _ _) rfl ⟨rfl, H.out.only (((Drew.only HD1.out).trans (Only.set g 22 w1 _)).trans (Only.set g 23 _ _)) ((H1.out.blk.set_ 22 _).set_ 23 _) rfl⟩
set_option maxRecDepth 100000 in
set_option maxHeartbeats 4000000 in
theorem first_jpWz (g : Nat) (sv : Value) (c : Cp) (w : World) (h : CpAt w g sv c) (ho : c.Ok) :
    Calls Tryz.prog 38 #[.pointer (some ⟨g, 0, none⟩), .int .i64 29] w (Done (.tuple #[]) g w sv c.jpWz) := by
  have H := Lib.hid h; have HB := Lib.hid h.blk
  have e23 : w.cell? ⟨g, 23, none⟩ = some (.int .u16 c.r.wz) := h.blk.cell 23
  have e22 : w.cell? ⟨g, 22, none⟩ = some (.int .u16 c.r.pc) := h.blk.cell 22
  have y22 := h.blk.frozen 22
  clear h ho
  go_enter Tryz.func38, Tryz.ntmps38
  go_wp2
  exact bodyPost_end (results_none rfl _ _ _) rfl ⟨rfl, H.out.only (Only.set g 22 w _) (HB.out.set_ 22 _) rfl⟩
theorem workOk_nn (c : Cp) (ho : c.Ok) : WorkOk 8 c c.nn :=
  ⟨⟨{ ho.r with wz := word_b16 ho }, ho.code, ho.lo, ho.hi, ho.ea, ho.out, ho.addr, ho.at0, ho.at1, ho.len⟩, fun g sv w h => work_first 8 g sv c _ w (by decide) (first_nn g sv c w h ho)⟩
theorem workOk_jump (c : Cp) (ho : c.Ok) : WorkOk 24 c c.jump :=
  ⟨⟨{ ho.r with pc := word_b16 ho, wz := word_b16 ho }, ho.code, ho.lo, ho.hi, ho.ea, ho.out, ho.addr, ho.at0, ho.at1, ho.len⟩, fun g sv w h => work_first 24 g sv c _ w (by decide) (first_jump g sv c w h ho)⟩
theorem workOk_jpWz (c : Cp) (ho : c.Ok) : WorkOk 29 c c.jpWz :=
  ⟨⟨{ ho.r with pc := ho.r.wz }, ho.code, ho.lo, ho.hi, ho.ea, ho.out, ho.addr, ho.at0, ho.at1, ho.len⟩, fun g sv w h => work_first 29 g sv c _ w (by decide) (first_jpWz g sv c w h ho)⟩
end Go.Proofs.YtifgikjmfmkgeaaGreat
namespace Go.Proofs.YtifgikjmfmkgeaaGreat
set_option linter.unusedSimpArgs false
set_option linter.unusedVariables false
open Go.RowKit
def Fl.inc (f : Fl) : Fl := { f with t := IntKind.u64.wrap (f.t + 1) }
/-- so many T-states, up to the end of an instruction -/
inductive Run : Nat → Cp → Fl → Cp → Fl → Prop
  | last (c c2 : Cp) (f f2 : Fl) : c.Calm → f.line = false → TickTo c f c2 f2 → c2.kind = -1 → Run 1 c f c2 f2.inc
  | more (k : Nat) (c c1 c2 : Cp) (f f1 f2 : Fl) : c.Calm → f.line = false → TickTo c f c1 f1 → c1.kind ≠ -1 → Run k c1 f1.inc c2 f2 → Run (k + 1) c f c2 f2
theorem Run.pos {k : Nat} {c c2 : Cp} {f f2 : Fl} (h : Run k c f c2 f2) : 0 < k := by cases h <;> omega
theorem Run.step {j : Nat} {c c2 : Cp} {f f2 : Fl} (h : Run j c f c2 f2) : ∃ c1 f1, c.Calm ∧ f.line = false ∧ TickTo c f c1 f1 ∧ ((j = 1 ∧ c1 = c2 ∧ f1.inc = f2 ∧ c1.kind = -1) ∨ (1 < j ∧ c1.kind ≠ -1 ∧ Run (j - 1) c1 f1.inc c2 f2)) := by
  cases h with
  | last _ _ _ _ h1 h2 h3 h4 => exact ⟨_, _, h1, h2, h3, .inl ⟨rfl, rfl, rfl, h4⟩⟩
  | more k _ c1 _ _ f1 _ h1 h2 h3 h4 h5 => exact ⟨c1, f1, h1, h2, h3, .inr ⟨by have := h5.pos; omega, h4, by rwa [Nat.add_sub_cancel]⟩⟩
theorem FlAt.inc {w : World} {h : Nat} {av : Value} {f : Fl} (hf : FlAt w h av f) : FlAt (w.setCell ⟨h, 65538, none⟩ (.int .u64 (IntKind.u64.wrap (f.t + 1)))) h av f.inc := by
  refine hf.only (Only.set h 65538 w _) ?_ hf.len rfl
  have := hf.blk.set_ 65538 (.int .u64 (IntKind.u64.wrap (f.t + 1)))
  have hl : (f.m.map (Value.int .u8)).length = 65536 := by rw [List.length_map]; exact hf.len
  have e : (f.m.map (Value.int .u8) ++ [.slice none 0 0, av, .int .u64 f.t, .bool f.line]).set 65538 (.int .u64 (IntKind.u64.wrap (f.t + 1))) = f.m.map (Value.int .u8) ++ [.slice none 0 0, av, .int .u64 (IntKind.u64.wrap (f.t + 1)), .bool f.line] := by
    rw [List.set_append_right _ _ (by rw [hl]; decide), hl]
    rfl
  rw [e] at this
  exact this
def StepP (K : Nat) (g h : Nat) (w : World) (sv av : Value) (c : Cp) (f : Fl) (e : Ending) (w' : World) : Prop := e = .returned (.int .i64 K) ∧ SysTo g h w sv av c f w'
set_option maxRecDepth 100000 in
set_option maxHeartbeats 8000000 in
theorem fl_step (g h : Nat) (sv av : Value) (c c2 : Cp) (f f2 : Fl) (K : Nat) (w : World) (hc : CpAt w g sv c) (hf : FlAt w h av f) (hn : Run K c f c2 f2) (hK : K ≤ 1000000) :
    Calls Tryz.prog 10 #[.pointer (some ⟨h, 0, none⟩), .pointer (some ⟨g, 0, none⟩)] w (StepP K g h w sv av c2 f2) := by
  have H := Lib.hid hc; have HF := Lib.hid hf; have HN := Lib.hid hn
  clear hc hf hn
  go_enter Tryz.func10, Tryz.ntmps10
  go_wp2
  go_loopg [5] K (fun j v wr => j ≤ K ∧ ∃ c1 sv1 av1 f1, CpAt wr g sv1 c1 ∧ FlAt wr h av1 f1 ∧ v = .int .i64 ((K - j : Nat) : Int) ∧ SvTo w sv sv1 ∧ SvTo w av av1 ∧ Ch (SysP g h sv av) w wr ∧ ((j = 0 ∧ c1 = c2 ∧ f1 = f2 ∧ c1.kind = -1) ∨ (0 < j ∧ Run j c1 f1 c2 f2 ∧ (j = K ∨ c1.kind ≠ -1))))
  case atStart => exact ⟨Nat.le_refl _, c, sv, av, f, H.out, HF.out, by rw [Nat.sub_self]; rfl, .inl rfl, .inl rfl, Ch.refl _ _, .inr ⟨HN.out.pos, HN.out, .inl rfl⟩⟩
  case round =>
    obtain ⟨hj, c1, sv1, av1, f1, h1, hf1, rfl, hs1, ha1, hc1, hor⟩ := hrel
    have H1 := Lib.hid h1; have HF1 := Lib.hid hf1; have HS1 := Lib.hid hs1; have HA1 := Lib.hid ha1; have HC1 := Lib.hid hc1
    have HD := Lib.hid (cp_done g sv1 c1 wr h1)
    have hpos := HN.out.pos
    clear h1 hf1 hs1 ha1 hc1
    rcases hor with ⟨rfl, rfl, rfl, hkk⟩ | ⟨hj0, hrun, hkk⟩
    · have hz : (((K - 0 : Nat) : Int) == 0) = false := by simp; omega
      have hkk2 : (c1.kind == -1) = true := by rw [hkk]; rfl
      rw [hkk2] at HD
      obtain ⟨v, hv⟩ : ∃ v : Int, v = ((K - 0 : Nat) : Int) := ⟨_, rfl⟩
      rw [← hv] at hz ⊢
      have HV := Lib.hid hv
      clear hkk hkk2 hv hj hpos
      go_wp2_with (first
        | (go_at_call 18; refine HD.out.mono ?_; rintro e w' ⟨rfl, rfl⟩))
      go_ret
      exact ⟨by rw [HV.out]; rfl, sv1, av1, H1.out, HF1.out, HS1.out, HA1.out, HC1.out⟩
    · obtain ⟨c3, f3, hcalm, hline, htick, hnext⟩ := hrun.step
      have HT := Lib.hid (cp_tickB g h sv1 av1 c1 c3 f1 f3 wr H1.out HF1.out hcalm hline htick)
      unfold busV at HT
      have HNX := Lib.hid hnext
      obtain ⟨m, hm⟩ : ∃ m, m = K - gk := ⟨_, rfl⟩
      have HMM := Lib.hid hm
      rw [← hm]
      have v1 : IntKind.i64.wrap ((m : Int) + 1) = m + 1 := by rw [IntKind.wrap_i64]; omega
      have HJ := Lib.hid hj; have HJ0 := Lib.hid hj0
      have hgo : ((m : Int) == 0) = true ∨ (((m : Int) == 0) = false ∧ (c1.kind == -1) = false) := by
        rcases hkk with hkk | hkk
        · left; simp; omega
        · cases hz : ((m : Int) == 0)
          · right; exact ⟨rfl, by simpa using hkk⟩
          · left; rfl
      clear hcalm hline htick hnext hrun hkk hm hj hj0 hpos
      rcases hgo with hz | ⟨hz, hkk⟩
      all_goals
        try rw [hkk] at HD
        go_wp2_with (first
          | (go_at_call 18; refine HD.out.mono ?_; rintro e w' ⟨rfl, rfl⟩)
          | (go_at_call 19; refine HT.out.mono ?_; rintro e w3 ⟨rfl, sv3, av3, h3, hf3, hs3, ha3, hc3⟩
             have H3 := Lib.hid h3; have HF3 := Lib.hid hf3; have HS3 := Lib.hid hs3; have HA3 := Lib.hid ha3; have HC3 := Lib.hid hc3
             have t3 : w3.cell? ⟨h, 65538, none⟩ = some (.int .u64 f3.t) := hf3.tail 2 65538 rfl
             have z3 := hf3.blk.frozen 65538
             clear h3 hf3 hs3 ha3 hc3))
      all_goals
        have hoh : Only h w3 (w3.setCell ⟨h, 65538, none⟩ (.int .u64 (IntKind.u64.wrap (f3.t + 1)))) := Only.set h 65538 w3 _
        have hcp : CpAt (w3.setCell ⟨h, 65538, none⟩ (.int .u64 (IntKind.u64.wrap (f3.t + 1)))) g sv3 c3 := H3.out.far HF3.out ((Only.ch hoh).mono fun _ _ e => .inl e)
        have hchA : Ch (SysP g h sv av) w w3 := HC1.out.trans HC3.out (fun _ _ h => h) fun i hi hp => by
          rcases hp with hp | hp
          · exact .inl (HS1.out.place hi hp)
          · exact .inr (HA1.out.placeF hi hp)
        have hchB : Ch (SysP g h sv av) w (w3.setCell ⟨h, 65538, none⟩ (.int .u64 (IntKind.u64.wrap (f3.t + 1)))) := hchA.trans (Only.ch hoh) (fun _ _ h => h) fun _ _ h => .inr (.inl h)
        have hav : SvTo w av av3 := HA1.out.trans HA3.out HC1.out.size
        have hsv : SvTo w sv sv3 := HS1.out.trans HS3.out HC1.out.size
        have hj := HJ.out
        have hj0 := HJ0.out
        have hm := HMM.out
        go_roundg (gk - 1)
        case measure => omega
        case rel =>
          refine ⟨by omega, c3, sv3, av3, f3.inc, hcp, HF3.out.inc, by rw [show K - (gk - 1) = m + 1 by omega]; rfl, hsv, hav, hchB, ?_⟩
          rcases HNX.out with ⟨h1, h2, h3, h4⟩ | ⟨h1, h2, h3⟩
          · exact .inl ⟨by omega, h2, h3, h4⟩
          · exact .inr ⟨by omega, h3, .inr h2⟩
end Go.Proofs.YtifgikjmfmkgeaaGreat
namespace Go.Proofs.YtifgikjmfmkgeaaGreat
set_option linter.unusedSimpArgs false
set_option linter.unusedVariables false
open Go.RowKit
/-- a T-state within a cycle -/
def Cp.at (c : Cp) (t : Int) : Cp := { c with wait := 0, held := false, t := t }
theorem ok_at {c : Cp} (h : c.Ok) (t : Int) : (c.at t).Ok := ⟨h.r, h.code, h.lo, h.hi, h.ea, h.out, h.addr, h.at0, h.at1, h.len⟩
theorem calm_at {c : Cp} (h : c.Calm) (t : Int) (ht : 0 ≤ t ∧ t ≤ 100) : (c.at t).Calm := ⟨ok_at h.ok t, rfl, h.nmi, ht, h.n0⟩
theorem tick_in (c : Cp) (f : Fl) (h1 : c.kind ≠ -1) (h4 : c.kind ≠ 4) (hne : c.t + 1 ≠ c.n) : TickTo c f (c.at (c.t + 1)) f := by
  left
  unfold Cp.inn Cp.adv
  rw [if_neg h1, if_neg h4]
  exact ⟨hne, rfl, rfl⟩
theorem tick_end (c c2 : Cp) (f f2 : Fl) (h1 : c.kind ≠ -1) (h4 : c.kind ≠ 4) (heq : c.t + 1 = c.n) (hf : FinTo (c.at (c.t + 1)) f c2 f2) : TickTo c f c2 f2 := by
  right
  unfold Cp.inn Cp.adv
  rw [if_neg h1, if_neg h4]
  exact ⟨heq, hf⟩
theorem tick_begin (c : Cp) (f : Fl) (h1 : c.kind = -1) : TickTo c f (c.begun.at 1) f := by
  left
  unfold Cp.inn Cp.adv
  rw [if_pos h1, if_neg (show ¬ (c.begun.kind = 4) from by show ¬ ((0 : Int) = 4); decide)]
  exact ⟨(by show (0 : Int) + 1 ≠ 4; decide), rfl, rfl⟩
def Fl.incs : Nat → Fl → Fl
  | 0, f => f
  | n + 1, f => (f.incs n).inc
theorem incs_line (f : Fl) : ∀ n, (f.incs n).line = f.line
  | 0 => rfl
  | n + 1 => incs_line f n
theorem incs_m (f : Fl) : ∀ n, (f.incs n).m = f.m
  | 0 => rfl
  | n + 1 => incs_m f n
theorem incs_succ (f : Fl) : ∀ n, f.inc.incs n = f.incs (n + 1)
  | 0 => rfl
  | n + 1 => by show (f.inc.incs n).inc = _; rw [incs_succ f n]; rfl
theorem incs_acts (f : Fl) : ∀ n, (f.incs n).acts = f.acts
  | 0 => rfl
  | n + 1 => incs_acts f n
theorem put_inc (f : Fl) (a : Nat) (v : Int) : (f.put a v).inc = f.inc.put a v := rfl
/-- the rest of a cycle of n T-states, all but its last done in so many -/
theorem run_cycle : ∀ (j k : Nat) (c c1 c2 : Cp) (f f1 f2 : Fl), c.Calm → f.line = false → c.kind ≠ -1 → c.kind ≠ 4 → c.t + j + 1 = c.n → FinTo (c.at c.n) (f.incs j) c1 f1 → c1.kind ≠ -1 → Run k c1 f1.inc c2 f2 → Run (j + 1 + k) c f c2 f2
  | 0, k, c, c1, c2, f, f1, f2, hc, hl, h1, h4, ht, hf, hk, hr => by
    have ht' : c.t + 1 = c.n := by omega
    rw [← ht'] at hf
    rw [show 0 + 1 + k = k + 1 by omega]
    exact Run.more k c c1 c2 f f1 f2 hc hl (tick_end c c1 f f1 h1 h4 ht' hf) hk hr
  | j + 1, k, c, c1, c2, f, f1, f2, hc, hl, h1, h4, ht, hf, hk, hr => by
    have ht0 := hc.t0
    have hn0 := hc.n0
    rw [show j + 1 + 1 + k = (j + 1 + k) + 1 by omega]
    refine Run.more _ c (c.at (c.t + 1)) c2 f f f2 hc hl (tick_in c f h1 h4 (by omega)) h1 ?_
    refine run_cycle j k (c.at (c.t + 1)) c1 c2 f.inc f1 f2 (calm_at hc _ (by omega)) hl h1 h4 (by show c.t + 1 + j + 1 = c.n; omega) ?_ hk hr
    rw [incs_succ]
    exact hf
theorem run_last : ∀ (j : Nat) (c c1 : Cp) (f f1 : Fl), c.Calm → f.line = false → c.kind ≠ -1 → c.kind ≠ 4 → c.t + j + 1 = c.n → FinTo (c.at c.n) (f.incs j) c1 f1 → c1.kind = -1 → Run (j + 1) c f c1 f1.inc
  | 0, c, c1, f, f1, hc, hl, h1, h4, ht, hf, hk => by
    have ht' : c.t + 1 = c.n := by omega
    rw [← ht'] at hf
    exact Run.last c c1 f f1 hc hl (tick_end c c1 f f1 h1 h4 ht' hf) hk
  | j + 1, c, c1, f, f1, hc, hl, h1, h4, ht, hf, hk => by
    have ht0 := hc.t0
    have hn0 := hc.n0
    refine Run.more _ c (c.at (c.t + 1)) c1 f f f1.inc hc hl (tick_in c f h1 h4 (by omega)) h1 ?_
    refine run_last j (c.at (c.t + 1)) c1 f.inc f1 (calm_at hc _ (by omega)) hl h1 h4 (by show c.t + 1 + j + 1 = c.n; omega) ?_ hk
    rw [incs_succ]
    exact hf
/-- the fetch of an instruction: four T-states -/
theorem run_fetch (k : Nat) (c c1 c2 : Cp) (f f1 f2 : Fl) (hc : c.Calm) (hl : f.line = false) (h1 : c.kind = -1) (hf : FinTo (c.begun.at 4) (f.incs 3) c1 f1) (hk : c1.kind ≠ -1) (hr : Run k c1 f1.inc c2 f2) : Run (4 + k) c f c2 f2 := by
  have hb := calm_begun hc
  rw [show 4 + k = (2 + 1 + k) + 1 by omega]
  refine Run.more _ c (c.begun.at 1) c2 f f f2 hc hl (tick_begin c f h1) (by show (0 : Int) ≠ -1; decide) ?_
  exact run_cycle 2 k (c.begun.at 1) c1 c2 f.inc f1 f2 (calm_at hb 1 (by omega)) hl (by show (0 : Int) ≠ -1; decide) (by show (0 : Int) ≠ 4; decide) (by show (1 : Int) + 2 + 1 = 4; decide) hf hk hr
end Go.Proofs.YtifgikjmfmkgeaaGreat
namespace Go.Proofs.YtifgikjmfmkgeaaGreat
set_option linter.unusedSimpArgs false
set_option linter.unusedVariables false
open Go.RowKit
theorem place_b16 {c : Cp} (h : c.Ok) (p : Int) : B16 (c.placeV p) := by
  obtain ⟨i0, i1⟩ := h.r.i; obtain ⟨r0, r1⟩ := h.r.r'
  unfold Cp.placeV
  repeat' split
  all_goals first
    | exact h.r.pc
    | exact h.ea
    | exact pair_b16 h.r _ _
    | exact h.r.sp
    | exact h.r.wz
    | exact h.addr
    | exact ⟨by omega, by omega⟩
theorem b8_div {x : Int} (h : B16 x) : B8 (x / 256) := by obtain ⟨a, b⟩ := h; exact ⟨by omega, by omega⟩
theorem b8_mod (x : Int) : B8 (x % 256) := ⟨by omega, by omega⟩
theorem byte_b8 {r : Rg} (h : r.Ok) (k ix : Int) : B8 (r.byte k ix) := by
  unfold Rg.byte
  repeat' split
  all_goals first
    | exact h.b | exact h.c | exact h.d | exact h.e | exact h.h | exact h.l | exact h.a
    | exact b8_div h.ix | exact b8_div h.iy | exact b8_mod _ | exact ⟨by decide, by decide⟩
theorem ite_b8 {p : Prop} [Decidable p] {a b : Int} (ha : B8 a) (hb : B8 b) : B8 (if p then a else b) := by split <;> assumption
theorem byteV_b8 {c : Cp} (h : c.Ok) (k : Int) : B8 (c.byteV k) :=
  ite_b8 h.lo (ite_b8 h.hi (ite_b8 h.r.a (ite_b8 (b8_div (pair_b16 h.r _ _)) (ite_b8 (b8_mod _) (ite_b8 (byte_b8 h.r _ _) (ite_b8 (b8_div h.r.pc) (ite_b8 (b8_mod _) (ite_b8 (b8_div (pair_b16 h.r _ _)) (ite_b8 (b8_mod _) (ite_b8 (b8_div (pushed_b16 h)) (ite_b8 (b8_mod _) (byte_b8 h.r _ _))))))))))))
theorem ok_cycle {c : Cp} (h : c.Ok) (s : Stp) : (c.cycle s).Ok := by
  have ht := ok_told (ok_place h s.2.1) s.2.2.1 (s.1 == 3)
  have hp := place_b16 h s.2.1
  unfold Cp.cycle
  simp only []
  repeat' split
  all_goals first
    | exact ⟨ht.r, ht.code, ht.lo, ht.hi, ht.ea, ht.out, hp, ht.at0, ht.at1, ht.len⟩
    | exact ⟨ht.r, ht.code, ht.lo, ht.hi, ht.ea, byteV_b8 ht _, hp, ht.at0, ht.at1, ht.len⟩
theorem nmi_cycle (c : Cp) (s : Stp) : (c.cycle s).nmi = c.nmi := by
  unfold Cp.cycle Cp.placeC
  simp only []
  repeat' split
  all_goals rfl
theorem held_cycle (c : Cp) (s : Stp) : (c.cycle s).held = false := by
  unfold Cp.cycle
  simp only []
  repeat' split
  all_goals rfl
theorem t_cycle (c : Cp) (s : Stp) : (c.cycle s).t = 0 ∧ (c.cycle s).n = s.2.2.2 := by
  unfold Cp.cycle
  simp only []
  repeat' split
  all_goals exact ⟨rfl, rfl⟩
theorem calm_cycle {c : Cp} (h : c.Ok) (hn : c.nmi = false) (s : Stp) (hs : 0 ≤ s.2.2.2 ∧ s.2.2.2 ≤ 100) : (c.cycle s).Calm :=
  ⟨ok_cycle h s, held_cycle c s, by rw [nmi_cycle]; exact hn, by rw [(t_cycle c s).1]; exact ⟨by decide, by decide⟩, by rw [(t_cycle c s).2]; exact hs⟩
theorem ok_latch {c : Cp} (h : c.Ok) (v : Int) (hv : B8 v) : (c.latch v).Ok := by
  unfold Cp.latch
  split
  · exact ⟨h.r, h.code, h.lo, hv, h.ea, h.out, h.addr, h.at0, h.at1, h.len⟩
  · exact ⟨h.r, h.code, hv, h.hi, h.ea, h.out, h.addr, h.at0, h.at1, h.len⟩
theorem ok_program {c : Cp} (h : c.Ok) (set ix code : Int) (hk : B8 code) (hl : (Mi.programS set ix code).length ≤ 64) : (c.program set ix code).Ok :=
  ⟨h.r, hk, h.lo, h.hi, (by show B16 (if ix = 0 then c.r.pair 2 0 else c.ea); split; exact pair_b16 h.r _ _; exact h.ea), h.out, h.addr, Int.le_refl _, Int.natCast_nonneg _, hl⟩
theorem ok_inc0c {c : Cp} (h : c.Ok) : c.inc0.Ok := ⟨ok_inc0 h, h.code, h.lo, h.hi, h.ea, h.out, h.addr, h.at0, h.at1, h.len⟩
/-- the next cycle -/
theorem next_cycle {c : Cp} (ho : c.Ok) (hs : c.second = 0) (i : Nat) (hi : c.at_ = i) (kd at_ wh n : Int) (hst : c.steps[i]? = some (kd, at_, wh, n)) (hk : 0 ≤ kd ∧ kd ≤ 4) (ha : 0 ≤ at_ ∧ at_ ≤ 9) (hb : kd = 2 ∨ kd = 4 → byteK wh) : NextTo c ((c.goto (i + 1 : Nat)).cycle (kd, at_, wh, n)) :=
  ⟨ho, .inr ⟨hs, 1, NextN.cycle 0 c i kd at_ wh n hi hst hk ha hb⟩⟩
/-- a wait of one T-state -/
def Cp.waited (c : Cp) : Cp := { c with wait := 0, held := false, t := 0, n := c.n - 1 }
theorem run_wait1 (k : Nat) (c c1 c2 : Cp) (f f1 f2 : Fl) (hc : c.Calm) (hl : f.line = false) (h4 : c.kind = 4) (hn : c.n = 1) (hf : FinTo c.waited f c1 f1) (hk : c1.kind ≠ -1) (hr : Run k c1 f1.inc c2 f2) : Run (k + 1) c f c2 f2 := by
  refine Run.more k c c1 c2 f f1 f2 hc hl ?_ hk hr
  right
  have e : c.inn = c := by unfold Cp.inn; rw [if_neg (by rw [h4]; decide)]
  have e2 : c.adv = c.waited := by unfold Cp.adv; rw [if_pos h4]; rfl
  rw [e, e2]
  exact ⟨by show (0 : Int) = c.n - 1; omega, hf⟩
theorem p205 : Mi.programS 0 0 205 = [(1, 0, 0, 3), (1, 0, 1, 3), (5, 0, 8, 0), (0, 9, 0, 1), (2, 5, 7, 3), (2, 5, 8, 3), (5, 0, 29, 0)] := by decide +kernel
theorem p201 : Mi.programS 0 0 201 = [(1, 4, 0, 3), (1, 4, 1, 3), (5, 0, 24, 0)] := by decide +kernel
def K1 (c : Cp) : Cp := c.begun.at 4
def K2 (c : Cp) (code : Int) : Cp := (K1 c).inc0.program 0 0 code
/-- an instruction's code comes in -/
theorem fin_code (c c3 : Cp) (f : Fl) (code : Int) (a : Nat) (hc : c.Calm) (hk : B8 code) (hh : c.r.halt = false) (hp : c.r.pre = 0) (hpc : c.r.pc = a) (hm : f.m.getD a 0 = code) (h4 : code ≠ 221 ∧ code ≠ 253 ∧ code ≠ 237 ∧ code ≠ 203) (hn : NextTo (K2 c code) c3) (hkk : (K2 c code).kind ≠ -1) : FinTo (K1 c) f c3 f := by
  refine FinTo.fetch (K1 c) (K2 c code) c3 f rfl ?_ (.inr ⟨hkk, hn⟩)
  have e : (K1 c).addr.toNat = a := by show c.r.pc.toNat = a; rw [hpc]; rfl
  rw [e, hm]
  intro g sv w h
  have ho : (K1 c).Ok := ok_at (ok_begun hc.ok) 4
  have := cp_fetchPlain g sv (K1 c) code w h ho hk hh rfl h4
  rw [show (K1 c).r.pre = 0 from hp] at this
  exact this
theorem ok_k2 {c : Cp} (h : c.Ok) (code : Int) (hk : B8 code) (hl : (Mi.programS 0 0 code).length ≤ 64) : (K2 c code).Ok := ok_program (ok_inc0c (ok_at (ok_begun h) 4)) 0 0 code hk hl
end Go.Proofs.YtifgikjmfmkgeaaGreat
namespace Go.Proofs.YtifgikjmfmkgeaaGreat
set_option linter.unusedSimpArgs false
set_option linter.unusedVariables false
open Go.RowKit
/-- what of a processor its steps go by -/
structure Co where
  (r : Rg) (lo hi ea : Int) (wrote : Bool)
def Co.cp (k : Co) (code ix : Int) : Cp := ⟨k.r, [], 0, code, ix, 0, false, k.lo, k.hi, k.ea, 0, k.wrote, false, 0, false, 0, 0, 0, 0, 0, false⟩
/-- a processor between two steps of a code: what comes is l -/
structure Cp.Is0 (c : Cp) (code ix : Int) (l : List Stp) (k : Co) : Prop where
  r : c.r = k.r
  lo : c.lo = k.lo
  hi : c.hi = k.hi
  ea : c.ea = k.ea
  wrote : c.wrote = k.wrote
  code : c.code = code
  ix : c.ix = ix
  second : c.second = 0
  ahead : c.ahead = false
  nmi : c.nmi = false
  held : c.held = false
  t0 : 0 ≤ c.t ∧ c.t ≤ 100
  n0 : 0 ≤ c.n ∧ c.n ≤ 100
  pos : ∃ i : Nat, c.at_ = i ∧ c.steps.drop i = l
theorem Cp.Is0.goto {c : Cp} {code ix : Int} {s : Stp} {l : List Stp} {k : Co} (h : c.Is0 code ix (s :: l) k) : ∃ i : Nat, c.at_ = i ∧ c.steps[i]? = some s ∧ i + 1 ≤ c.steps.length ∧ (c.goto (i + 1 : Nat)).Is0 code ix l k := by
  obtain ⟨i, hi, hd⟩ := h.pos
  have h0 : c.steps[i]? = some s := by
    have := congrArg (·[0]?) hd
    simpa using this
  have h1 : c.steps.drop (i + 1) = l := by
    have := congrArg (List.drop 1) hd
    rw [List.drop_drop] at this
    simpa using this
  exact ⟨i, hi, h0, (List.getElem?_eq_some_iff.1 h0).1, ⟨h.r, h.lo, h.hi, h.ea, h.wrote, h.code, h.ix, h.second, h.ahead, h.nmi, h.held, h.t0, h.n0, i + 1, rfl, h1⟩⟩
theorem Cp.Is0.byteV {c : Cp} {code ix : Int} {l : List Stp} {k : Co} (h : c.Is0 code ix l k) (wh : Int) : c.byteV wh = (k.cp code ix).byteV wh := by
  simp only [Cp.byteV, Cp.pushed, Co.cp, h.r, h.lo, h.hi, h.code, h.ix]
  rfl
theorem Cp.Is0.metV {c : Cp} {code ix : Int} {l : List Stp} {k : Co} (h : c.Is0 code ix l k) (wh : Int) : c.metV wh = (k.cp code ix).metV wh := by
  simp only [Cp.metV, Co.cp, h.r, h.lo, h.hi, h.code, h.ix]
  rfl
def Rg.placed (r : Rg) (p : Int) : Rg := if p = 0 then { r with pc := (r.pc + 1) % 65536 } else if p = 4 then { r with sp := (r.sp + 1) % 65536 } else if p = 5 then { r with sp := (r.sp - 1) % 65536 } else r
def Co.placed (k : Co) (p : Int) : Co := { k with r := k.r.placed p }
def Co.addr (k : Co) (p : Int) : Int := (k.cp 0 0).placeV p
theorem Cp.Is0.placeV {c : Cp} {code ix : Int} {l : List Stp} {k : Co} (h : c.Is0 code ix l k) (p : Int) (hp : p ≠ 9) (hp' : 0 ≤ p ∧ p ≤ 9) : c.placeV p = k.addr p := by
  have hpp : p = 0 ∨ p = 1 ∨ p = 2 ∨ p = 3 ∨ p = 4 ∨ p = 5 ∨ p = 6 ∨ p = 7 ∨ p = 8 := by omega
  rcases hpp with rfl | rfl | rfl | rfl | rfl | rfl | rfl | rfl | rfl
  all_goals simp [Cp.placeV, Co.addr, Co.cp, h.r, h.ea]
theorem Cp.Is0.placeC {c : Cp} {code ix : Int} {l : List Stp} {k : Co} (h : c.Is0 code ix l k) (p : Int) : (c.placeC p).Is0 code ix l (k.placed p) := by
  unfold Cp.placeC Co.placed Rg.placed
  by_cases h0 : p = 0
  · rw [if_pos h0, if_pos h0]
    exact ⟨by simp only [h.r], h.lo, h.hi, h.ea, h.wrote, h.code, h.ix, h.second, h.ahead, h.nmi, h.held, h.t0, h.n0, h.pos⟩
  rw [if_neg h0, if_neg h0]
  by_cases h4 : p = 4
  · rw [if_pos h4, if_pos h4]
    exact ⟨by simp only [h.r], h.lo, h.hi, h.ea, h.wrote, h.code, h.ix, h.second, h.ahead, h.nmi, h.held, h.t0, h.n0, h.pos⟩
  rw [if_neg h4, if_neg h4]
  by_cases h5 : p = 5
  · rw [if_pos h5, if_pos h5]
    exact ⟨by simp only [h.r], h.lo, h.hi, h.ea, h.wrote, h.code, h.ix, h.second, h.ahead, h.nmi, h.held, h.t0, h.n0, h.pos⟩
  rw [if_neg h5, if_neg h5]
  exact h
theorem Cp.Is0.told {c : Cp} {code ix : Int} {l : List Stp} {k : Co} (h : c.Is0 code ix l k) (w : Int) (p : Bool) : (c.told w p).Is0 code ix l k := ⟨h.r, h.lo, h.hi, h.ea, h.wrote, h.code, h.ix, h.second, h.ahead, h.nmi, h.held, h.t0, h.n0, h.pos⟩
theorem Cp.Is0.outs {c : Cp} {code ix : Int} {l : List Stp} {k : Co} (h : c.Is0 code ix l k) (v : Int) : (c.outs v).Is0 code ix l k := ⟨h.r, h.lo, h.hi, h.ea, h.wrote, h.code, h.ix, h.second, h.ahead, h.nmi, h.held, h.t0, h.n0, h.pos⟩
theorem Cp.Is0.start {c : Cp} {code ix : Int} {l : List Stp} {k : Co} (h : c.Is0 code ix l k) (kd a n : Int) (hn : 0 ≤ n ∧ n ≤ 100) : (c.start kd a n).Is0 code ix l k := ⟨h.r, h.lo, h.hi, h.ea, h.wrote, h.code, h.ix, h.second, h.ahead, h.nmi, rfl, ⟨Int.le_refl _, by show (0 : Int) ≤ 100; decide⟩, hn, h.pos⟩
theorem Cp.Is0.at {c : Cp} {code ix : Int} {l : List Stp} {k : Co} (h : c.Is0 code ix l k) (t : Int) (ht : 0 ≤ t ∧ t ≤ 100) : (c.at t).Is0 code ix l k := ⟨h.r, h.lo, h.hi, h.ea, h.wrote, h.code, h.ix, h.second, h.ahead, h.nmi, rfl, ht, h.n0, h.pos⟩
def Co.latch (k : Co) (wh v : Int) : Co := if wh = 1 then { k with hi := v } else { k with lo := v }
theorem Cp.Is0.latch {c : Cp} {code ix : Int} {l : List Stp} {k : Co} (h : c.Is0 code ix l k) (v : Int) : (c.latch v).Is0 code ix l (k.latch c.what v) := by
  unfold Cp.latch Co.latch
  split
  · exact ⟨h.r, h.lo, rfl, h.ea, h.wrote, h.code, h.ix, h.second, h.ahead, h.nmi, h.held, h.t0, h.n0, h.pos⟩
  · exact ⟨h.r, rfl, h.hi, h.ea, h.wrote, h.code, h.ix, h.second, h.ahead, h.nmi, h.held, h.t0, h.n0, h.pos⟩
theorem Cp.Is0.cycle {c : Cp} {code ix : Int} {l : List Stp} {k : Co} (h : c.Is0 code ix l k) (kd p wh n : Int) (hn : 0 ≤ n ∧ n ≤ 100) : (c.cycle (kd, p, wh, n)).Is0 code ix l (k.placed p) := by
  have h1 := (h.placeC p).told wh (kd == 3)
  unfold Cp.cycle
  simp only []
  repeat' split
  · exact h1.start _ _ _ hn
  · exact h1.start _ _ _ hn
  · exact (h1.outs _).start _ _ _ hn
  · exact (h1.outs _).start _ _ _ hn
  · exact h1.start _ _ _ hn
/-- what comes of a processor whose cycle has ended: another one, so many T-states later, between two codes -/
def After (c : Cp) (f : Fl) (n : Nat) (c2 : Cp) (f2 : Fl) : Prop := ∃ c1, NextTo c c1 ∧ ((n = 0 ∧ c1.kind = -1 ∧ c1 = c2 ∧ f2 = f.inc) ∨ (c1.kind ≠ -1 ∧ Run n c1 f.inc c2 f2))
/-- between two codes -/
structure Cp.Rest (c : Cp) (r : Rg) : Prop where
  calm : c.Calm
  r : c.r = r
  kind : c.kind = -1
  ahead : c.ahead = false
/-- the rest of a code: so many T-states, and what is left -/
def Ex (code ix : Int) (l : List Stp) (k : Co) (f : Fl) (n : Nat) (r2 : Rg) (f2 : Fl) : Prop := ∀ c, c.Ok → c.Is0 code ix l k → ∃ c2, c2.Rest r2 ∧ After c f n c2 f2
def Co.stop (k : Co) : Rg := { k.r with q := if k.wrote then k.r.f else 0 }
theorem ex_stop (code ix : Int) (k : Co) (f : Fl) : Ex code ix [] k f 0 k.stop f.inc := fun c ho h => by
  obtain ⟨i, hi, hd⟩ := h.pos
  have hl : (c.steps.length : Int) ≤ c.at_ := by
    have := List.drop_eq_nil_iff.1 hd
    omega
  have hr : c.stop.r = k.stop := by show ({ c.r with q := if c.wrote then c.r.f else 0 } : Rg) = _; rw [h.r, h.wrote]; rfl
  have hq : B8 (if c.wrote then c.r.f else 0) := by split; exact ho.r.f; exact ⟨by decide, by decide⟩
  refine ⟨c.stop, ⟨⟨⟨{ ho.r with q := hq }, ho.code, ho.lo, ho.hi, ho.ea, ho.out, ho.addr, ho.at0, ho.at1, ho.len⟩, h.held, h.nmi, h.t0, h.n0⟩, hr, rfl, h.ahead⟩, c.stop, ⟨ho, .inr ⟨h.second, 1, NextN.stop 0 c hl h.ahead⟩⟩, .inl ⟨rfl, rfl, rfl, rfl⟩⟩
/-- what a work makes of it -/
def WorkIs (wh code ix : Int) (k k' : Co) : Prop := ∀ c l, c.Ok → c.Is0 code ix l k → ∃ c', WorkOk wh c c' ∧ c'.Is0 code ix l k'
theorem after_next {c cw : Cp} {f f2 : Fl} {n : Nat} {c2 : Cp} (ho : c.Ok) (hs : c.second = 0) (hw : cw.second = 0) (hn : ∀ K c1, NextN K cw c1 → NextN (K + 1) c c1) (ha : After cw f n c2 f2) : After c f n c2 f2 := by
  obtain ⟨c1, ⟨hoc, h1⟩, h2⟩ := ha
  rcases h1 with ⟨h1, -⟩ | ⟨-, K, h1⟩
  · omega
  · exact ⟨c1, ⟨ho, .inr ⟨hs, K + 1, hn K c1 h1⟩⟩, h2⟩
theorem ex_work {wh code ix a m : Int} {l : List Stp} {k k' : Co} {f f2 : Fl} {n : Nat} {r2 : Rg} (hw : WorkIs wh code ix k k') (he : Ex code ix l k' f n r2 f2) : Ex code ix ((5, a, wh, m) :: l) k f n r2 f2 := fun c ho h => by
  obtain ⟨i, hi, hst, hle, hg⟩ := h.goto
  obtain ⟨c', h1, h2⟩ := hw _ _ (ok_goto ho (i + 1) hle) hg
  obtain ⟨c2, h3, h4⟩ := he c' h1.1 h2
  exact ⟨c2, h3, after_next ho h.second h2.second (fun K c1 hK => NextN.work K c c' c1 i a wh m hi hst h1 hK) h4⟩
theorem ex_met {wh code ix a m : Int} {l : List Stp} {k : Co} {f f2 : Fl} {n : Nat} {r2 : Rg} (hk : wh = 0 ∨ (wh = 1 ∧ 4 ≤ code / 8 % 8) ∨ wh = 2 ∨ wh = 3) (hm : (k.cp code ix).metV wh = true) (he : Ex code ix l k f n r2 f2) : Ex code ix ((6, a, wh, m) :: l) k f n r2 f2 := fun c ho h => by
  obtain ⟨i, hi, hst, hle, hg⟩ := h.goto
  obtain ⟨c2, h3, h4⟩ := he _ (ok_goto ho (i + 1) hle) hg
  refine ⟨c2, h3, after_next ho h.second hg.second (fun K c1 hK => NextN.met K c c1 i a wh m hi hst ?_ (by rw [hg.metV]; exact hm) hK) h4⟩
  unfold metK
  rw [h.code]
  exact hk
theorem ex_unmet {wh code ix a m : Int} {l : List Stp} {k : Co} {f f2 : Fl} {n : Nat} {r2 : Rg} (hk : wh = 0 ∨ (wh = 1 ∧ 4 ≤ code / 8 % 8) ∨ wh = 2 ∨ wh = 3) (hm : (k.cp code ix).metV wh = false) (he : Ex code ix [] k f n r2 f2) : Ex code ix ((6, a, wh, m) :: l) k f n r2 f2 := fun c ho h => by
  obtain ⟨i, hi, hst, hle, hg⟩ := h.goto
  have hz : (c.goto c.steps.length).Is0 code ix [] k := ⟨h.r, h.lo, h.hi, h.ea, h.wrote, h.code, h.ix, h.second, h.ahead, h.nmi, h.held, h.t0, h.n0, c.steps.length, rfl, List.drop_length⟩
  obtain ⟨c2, h3, h4⟩ := he _ (ok_goto ho c.steps.length (Nat.le_refl _)) hz
  refine ⟨c2, h3, after_next ho h.second hz.second (fun K c1 hK => NextN.unmet K c c1 i a wh m hi hst ?_ (by rw [hg.metV]; exact hm) hK) h4⟩
  unfold metK
  rw [h.code]
  exact hk
/-- a cycle of m T-states -/
theorem after_cycle {c cyc d : Cp} {f f1 f2 : Fl} {m : Nat} {n : Nat} {c2 : Cp} (hn : NextTo c cyc) (hc : cyc.Calm) (hl : f.line = false) (hk : cyc.kind ≠ -1) (h4 : cyc.kind ≠ 4) (ht : cyc.t = 0) (hm : cyc.n = m) (hm1 : 1 ≤ m)
    (hfin : ∀ c1, NextTo d c1 → FinTo (cyc.at cyc.n) (f.incs m) c1 f1) (ha : After d f1 n c2 f2) : After c f (m + n) c2 f2 := by
  obtain ⟨c1, h1, h2⟩ := ha
  obtain ⟨j, rfl⟩ : ∃ j, m = j + 1 := ⟨m - 1, by omega⟩
  have hfin' : FinTo (cyc.at cyc.n) (f.inc.incs j) c1 f1 := by rw [incs_succ]; exact hfin c1 h1
  refine ⟨cyc, hn, .inr ⟨hk, ?_⟩⟩
  rcases h2 with ⟨rfl, hk1, rfl, rfl⟩ | ⟨hk1, hr⟩
  · exact run_last j cyc c1 f.inc f1 hc hl hk h4 (by rw [ht, hm]; omega) hfin' hk1
  · exact run_cycle j n cyc c1 c2 f.inc f1 f2 hc hl hk h4 (by rw [ht, hm]; omega) hfin' hk1 hr
theorem cycle1 (c : Cp) (p wh n : Int) : c.cycle (1, p, wh, n) = ((c.placeC p).told wh false).start 1 (c.placeV p) n := rfl
theorem cycle2 (c : Cp) (p wh n : Int) : c.cycle (2, p, wh, n) = (((c.placeC p).told wh false).outs (((c.placeC p).told wh false).byteV wh)).start 2 (c.placeV p) n := rfl
theorem cycle0 (c : Cp) (p wh n : Int) : c.cycle (0, p, wh, n) = ((c.placeC p).told wh false).start 4 (c.placeV p) n := rfl
theorem cycle4 (c : Cp) (p wh n : Int) : c.cycle (4, p, wh, n) = (((c.placeC p).told wh false).outs (((c.placeC p).told wh false).byteV wh)).start 3 (c.placeV p) n := rfl
theorem cycle3 (c : Cp) (p wh n : Int) : c.cycle (3, p, wh, n) = ((c.placeC p).told wh true).start 3 (c.placeV p) n := rfl
theorem ex_read {code ix p wh : Int} {m : Nat} {l : List Stp} {k : Co} {f f2 : Fl} {n : Nat} {r2 : Rg} (v : Int) (hp : 0 ≤ p ∧ p ≤ 8) (hm : 1 ≤ m ∧ m ≤ 100) (hl : f.line = false) (hv : f.m.getD (k.addr p).toNat 0 = v) (hb : B8 v)
    (he : Ex code ix l ((k.placed p).latch wh v) (f.incs m) n r2 f2) : Ex code ix ((1, p, wh, (m : Int)) :: l) k f (m + n) r2 f2 := fun c ho h => by
  obtain ⟨i, hi, hst, hle, hg⟩ := h.goto
  have hog := ok_goto ho (i + 1) hle
  have hcy := hg.cycle 1 p wh m ⟨by omega, by omega⟩
  have hca := calm_cycle hog hg.nmi (1, p, wh, (m : Int)) ⟨by show (0 : Int) ≤ (m : Int); omega, by show (m : Int) ≤ 100; omega⟩
  have hnx := next_cycle ho h.second i hi 1 p wh m hst (by decide) ⟨hp.1, by omega⟩ (by intro h; omega)
  generalize hy : (c.goto (i + 1 : Nat)).cycle (1, p, wh, (m : Int)) = y at hcy hca hnx
  have hy1 : y.kind = 1 := by rw [← hy]; rfl
  have hyt : y.t = 0 := by rw [← hy]; rfl
  have hyn : y.n = m := by rw [← hy]; rfl
  have hyw : y.what = wh := by rw [← hy]; rfl
  have hya : y.addr = k.addr p := by rw [← hy, cycle1]; exact hg.placeV p (by omega) ⟨hp.1, by omega⟩
  have hd := (hcy.at y.n (by rw [hyn]; omega)).latch v
  rw [show (y.at y.n).what = wh from hyw] at hd
  obtain ⟨c2, h3, h4⟩ := he _ (ok_latch (ok_at hca.ok _) v hb) hd
  refine ⟨c2, h3, after_cycle hnx hca hl (by rw [hy1]; decide) (by rw [hy1]; decide) hyt hyn hm.1 (fun c1 hc1 => ?_) h4⟩
  refine FinTo.read _ c1 _ hy1 ?_
  rw [incs_m, show (y.at y.n).addr = k.addr p from hya, hv]
  exact hc1
theorem ex_write {code ix p wh : Int} {m : Nat} {l : List Stp} {k : Co} {f f2 : Fl} {n : Nat} {r2 : Rg} (hp : 0 ≤ p ∧ p ≤ 8) (hm : 1 ≤ m ∧ m ≤ 100) (hl : f.line = false) (hb : byteK wh)
    (he : Ex code ix l (k.placed p) ((f.incs m).put (k.addr p).toNat (((k.placed p).cp code ix).byteV wh)) n r2 f2) : Ex code ix ((2, p, wh, (m : Int)) :: l) k f (m + n) r2 f2 := fun c ho h => by
  obtain ⟨i, hi, hst, hle, hg⟩ := h.goto
  have hog := ok_goto ho (i + 1) hle
  have hcy := hg.cycle 2 p wh m ⟨by omega, by omega⟩
  have hca := calm_cycle hog hg.nmi (2, p, wh, (m : Int)) ⟨by show (0 : Int) ≤ (m : Int); omega, by show (m : Int) ≤ 100; omega⟩
  have hnx := next_cycle ho h.second i hi 2 p wh m hst (by decide) ⟨hp.1, by omega⟩ (fun _ => hb)
  generalize hy : (c.goto (i + 1 : Nat)).cycle (2, p, wh, (m : Int)) = y at hcy hca hnx
  have hy1 : y.kind = 2 := by rw [← hy]; rfl
  have hyt : y.t = 0 := by rw [← hy]; rfl
  have hyn : y.n = m := by rw [← hy]; rfl
  have hya : y.addr = k.addr p := by rw [← hy, cycle2]; exact hg.placeV p (by omega) ⟨hp.1, by omega⟩
  have hyo : y.out = ((k.placed p).cp code ix).byteV wh := by rw [← hy, cycle2]; exact ((hg.placeC p).told wh false).byteV wh
  have hd := hcy.at y.n (by rw [hyn]; omega)
  obtain ⟨c2, h3, h4⟩ := he _ (ok_at hca.ok _) hd
  refine ⟨c2, h3, after_cycle hnx hca hl (by rw [hy1]; decide) (by rw [hy1]; decide) hyt hyn hm.1 (fun c1 hc1 => ?_) h4⟩
  have := FinTo.write (y.at y.n) c1 (f.incs m) hy1 hc1
  rw [show (y.at y.n).addr = k.addr p from hya, show (y.at y.n).out = _ from hyo] at this
  exact this
theorem ex_out {code ix p wh : Int} {m : Nat} {l : List Stp} {k : Co} {f f2 : Fl} {n : Nat} {r2 : Rg} (hp : 0 ≤ p ∧ p ≤ 8) (hm : 1 ≤ m ∧ m ≤ 100) (hl : f.line = false) (hb : byteK wh) (hac : f.acts.length < 1000000000)
    (he : Ex code ix l (k.placed p) ((f.incs m).act true (k.addr p) (((k.placed p).cp code ix).byteV wh)) n r2 f2) : Ex code ix ((4, p, wh, (m : Int)) :: l) k f (m + n) r2 f2 := fun c ho h => by
  obtain ⟨i, hi, hst, hle, hg⟩ := h.goto
  have hog := ok_goto ho (i + 1) hle
  have hcy := hg.cycle 4 p wh m ⟨by omega, by omega⟩
  have hca := calm_cycle hog hg.nmi (4, p, wh, (m : Int)) ⟨by show (0 : Int) ≤ (m : Int); omega, by show (m : Int) ≤ 100; omega⟩
  have hnx := next_cycle ho h.second i hi 4 p wh m hst (by decide) ⟨hp.1, by omega⟩ (fun _ => hb)
  generalize hy : (c.goto (i + 1 : Nat)).cycle (4, p, wh, (m : Int)) = y at hcy hca hnx
  have hy1 : y.kind = 3 := by rw [← hy]; rfl
  have hyp : y.port = false := by rw [← hy]; rfl
  have hyt : y.t = 0 := by rw [← hy]; rfl
  have hyn : y.n = m := by rw [← hy]; rfl
  have hya : y.addr = k.addr p := by rw [← hy, cycle4]; exact hg.placeV p (by omega) ⟨hp.1, by omega⟩
  have hyo : y.out = ((k.placed p).cp code ix).byteV wh := by rw [← hy, cycle4]; exact ((hg.placeC p).told wh false).byteV wh
  have hd := hcy.at y.n (by rw [hyn]; omega)
  obtain ⟨c2, h3, h4⟩ := he _ (ok_at hca.ok _) hd
  refine ⟨c2, h3, after_cycle hnx hca hl (by rw [hy1]; decide) (by rw [hy1]; decide) hyt hyn hm.1 (fun c1 hc1 => ?_) h4⟩
  have := FinTo.outp (y.at y.n) c1 (f.incs m) hy1 hyp (by rw [incs_acts]; exact hac) hc1
  rw [show (y.at y.n).addr = k.addr p from hya, show (y.at y.n).out = _ from hyo] at this
  exact this
theorem ex_in {code ix p wh : Int} {m : Nat} {l : List Stp} {k : Co} {f f2 : Fl} {n : Nat} {r2 : Rg} (hp : 0 ≤ p ∧ p ≤ 8) (hm : 1 ≤ m ∧ m ≤ 100) (hl : f.line = false) (hac : f.acts.length < 1000000000)
    (he : Ex code ix l ((k.placed p).latch wh 255) ((f.incs m).act false (k.addr p) 255) n r2 f2) : Ex code ix ((3, p, wh, (m : Int)) :: l) k f (m + n) r2 f2 := fun c ho h => by
  obtain ⟨i, hi, hst, hle, hg⟩ := h.goto
  have hog := ok_goto ho (i + 1) hle
  have hcy := hg.cycle 3 p wh m ⟨by omega, by omega⟩
  have hca := calm_cycle hog hg.nmi (3, p, wh, (m : Int)) ⟨by show (0 : Int) ≤ (m : Int); omega, by show (m : Int) ≤ 100; omega⟩
  have hnx := next_cycle ho h.second i hi 3 p wh m hst (by decide) ⟨hp.1, by omega⟩ (by intro h; omega)
  generalize hy : (c.goto (i + 1 : Nat)).cycle (3, p, wh, (m : Int)) = y at hcy hca hnx
  have hy1 : y.kind = 3 := by rw [← hy]; rfl
  have hyp : y.port = true := by rw [← hy]; rfl
  have hyt : y.t = 0 := by rw [← hy]; rfl
  have hyn : y.n = m := by rw [← hy]; rfl
  have hyw : y.what = wh := by rw [← hy]; rfl
  have hya : y.addr = k.addr p := by rw [← hy, cycle3]; exact hg.placeV p (by omega) ⟨hp.1, by omega⟩
  have hd := (hcy.at y.n (by rw [hyn]; omega)).latch 255
  rw [show (y.at y.n).what = wh from hyw] at hd
  obtain ⟨c2, h3, h4⟩ := he _ (ok_latch (ok_at hca.ok _) 255 ⟨by decide, by decide⟩) hd
  refine ⟨c2, h3, after_cycle hnx hca hl (by rw [hy1]; decide) (by rw [hy1]; decide) hyt hyn hm.1 (fun c1 hc1 => ?_) h4⟩
  have := FinTo.inp (y.at y.n) c1 (f.incs m) hy1 hyp (by rw [incs_acts]; exact hac) hc1
  rw [show (y.at y.n).addr = k.addr p from hya] at this
  exact this
/-- a wait of m T-states -/
theorem run_wait : ∀ (j : Nat) (c : Cp) (f f2 : Fl) (n : Nat) (c2 : Cp), c.Calm → f.line = false → c.kind = 4 → c.n = (j + 1 : Nat) → (∀ y : Cp, y = { c with wait := 0, held := false, t := 0, n := 0 } → After y (f.incs j) n c2 f2) → Run (j + 1 + n) c f c2 f2
  | 0, c, f, f2, n, c2, hc, hl, h4, hn, ha => by
    obtain ⟨c1, h1, h2⟩ := ha _ rfl
    have ei : c.inn = c := by unfold Cp.inn; rw [if_neg (by rw [h4]; decide)]
    have e0 : (c.n - 1 : Int) = 0 := by rw [hn]; rfl
    have ea : c.adv = { c with wait := 0, held := false, t := 0, n := 0 } := by unfold Cp.adv; rw [if_pos h4, e0]
    have ht : TickTo c f c1 f := by
      right
      rw [ei, ea]
      exact ⟨rfl, FinTo.idle _ c1 f (.inl h4) h1⟩
    rcases h2 with ⟨rfl, hk1, rfl, rfl⟩ | ⟨hk1, hr⟩
    · exact Run.last c c1 f f hc hl ht hk1
    · rw [show 0 + 1 + n = n + 1 by omega]
      exact Run.more n c c1 c2 f f f2 hc hl ht hk1 hr
  | j + 1, c, f, f2, n, c2, hc, hl, h4, hn, ha => by
    have ei : c.inn = c := by unfold Cp.inn; rw [if_neg (by rw [h4]; decide)]
    have e0 : (c.n - 1 : Int) = (j + 1 : Nat) := by rw [hn]; omega
    have ea : c.adv = { c with wait := 0, held := false, t := 0, n := (j + 1 : Nat) } := by unfold Cp.adv; rw [if_pos h4, e0]
    have hn0 := hc.n0
    rw [show j + 1 + 1 + n = (j + 1 + n) + 1 by omega]
    refine Run.more _ c { c with wait := 0, held := false, t := 0, n := (j + 1 : Nat) } c2 f f f2 hc hl ?_ (by rw [h4]; decide) ?_
    · left
      rw [ei, ea]
      exact ⟨by show (0 : Int) ≠ (j + 1 : Nat); omega, rfl, rfl⟩
    · refine run_wait j _ f.inc f2 n c2 ⟨⟨hc.ok.r, hc.ok.code, hc.ok.lo, hc.ok.hi, hc.ok.ea, hc.ok.out, hc.ok.addr, hc.ok.at0, hc.ok.at1, hc.ok.len⟩, rfl, hc.nmi, ⟨Int.le_refl _, by show (0 : Int) ≤ 100; decide⟩, ⟨by show (0 : Int) ≤ (j + 1 : Nat); omega, by show ((j + 1 : Nat) : Int) ≤ 100; omega⟩⟩ hl h4 rfl ?_
      intro y hy
      rw [incs_succ]
      exact ha y hy
theorem ex_wait {code ix p wh : Int} {m : Nat} {l : List Stp} {k : Co} {f f2 : Fl} {n : Nat} {r2 : Rg} (hp : 0 ≤ p ∧ p ≤ 9) (hm : 1 ≤ m ∧ m ≤ 100) (hl : f.line = false)
    (he : Ex code ix l (k.placed p) (f.incs m) n r2 f2) : Ex code ix ((0, p, wh, (m : Int)) :: l) k f (m + n) r2 f2 := fun c ho h => by
  obtain ⟨i, hi, hst, hle, hg⟩ := h.goto
  have hog := ok_goto ho (i + 1) hle
  have hcy := hg.cycle 0 p wh m ⟨by omega, by omega⟩
  have hca := calm_cycle hog hg.nmi (0, p, wh, (m : Int)) ⟨by show (0 : Int) ≤ (m : Int); omega, by show (m : Int) ≤ 100; omega⟩
  have hnx := next_cycle ho h.second i hi 0 p wh m hst (by decide) hp (by intro h; omega)
  generalize hy : (c.goto (i + 1 : Nat)).cycle (0, p, wh, (m : Int)) = y at hcy hca hnx
  have hy1 : y.kind = 4 := by rw [← hy]; rfl
  have hyn : y.n = m := by rw [← hy]; rfl
  obtain ⟨z, hz⟩ : ∃ z : Cp, z = { y with wait := 0, held := false, t := 0, n := 0 } := ⟨_, rfl⟩
  have hz0 : z.Is0 code ix l (k.placed p) := by rw [hz]; exact ⟨hcy.r, hcy.lo, hcy.hi, hcy.ea, hcy.wrote, hcy.code, hcy.ix, hcy.second, hcy.ahead, hcy.nmi, rfl, ⟨Int.le_refl _, by show (0 : Int) ≤ 100; decide⟩, ⟨Int.le_refl _, by show (0 : Int) ≤ 100; decide⟩, hcy.pos⟩
  have hzo : z.Ok := by rw [hz]; exact ⟨hca.ok.r, hca.ok.code, hca.ok.lo, hca.ok.hi, hca.ok.ea, hca.ok.out, hca.ok.addr, hca.ok.at0, hca.ok.at1, hca.ok.len⟩
  obtain ⟨c2, h3, h4⟩ := he z hzo hz0
  obtain ⟨j, rfl⟩ : ∃ j, m = j + 1 := ⟨m - 1, by omega⟩
  refine ⟨c2, h3, y, hnx, .inr ⟨by rw [hy1]; decide, ?_⟩⟩
  refine run_wait j y f.inc f2 n c2 hca hl hy1 hyn (fun x hx => ?_)
  rw [hx, ← hz, incs_succ]
  exact h4
/-- an instruction: so many T-states, from these registers to those -/
def Ins (n : Nat) (r : Rg) (f : Fl) (r2 : Rg) (f2 : Fl) : Prop := ∀ c : Cp, c.Rest r → ∃ c2 : Cp, c2.Rest r2 ∧ Run n c f c2 f2
/-- registers behind a code's fetch -/
def Rg.fetched (r : Rg) : Rg := { r with hold := false, r := r.r / 128 * 128 + (r.r + 1) % 128, pc := (r.pc + 1) % 65536, pre := 0 }
theorem fetch_rest {c : Cp} {r : Rg} {f f2 : Fl} {n : Nat} {c2 c1 : Cp} (h : c.Rest r) (hl : f.line = false) (hf : FetchTo (f.m.getD r.pc.toNat 0) (K1 c) c1) (hk1 : c1.kind ≠ -1) (ha : After c1 (f.incs 3) n c2 f2) : Run (4 + n) c f c2 f2 := by
  obtain ⟨c3, h1, h2⟩ := ha
  have hfin : FinTo (c.begun.at 4) (f.incs 3) c3 (f.incs 3) := by
    refine FinTo.fetch _ c1 c3 _ rfl ?_ (.inr ⟨hk1, h1⟩)
    rw [incs_m, show (c.begun.at 4).addr = r.pc by rw [← h.r]; rfl]
    exact hf
  rcases h2 with ⟨rfl, hk3, rfl, rfl⟩ | ⟨hk3, hr⟩
  · have hb := calm_begun h.calm
    refine Run.more 3 c (c.begun.at 1) c3 f f _ h.calm hl (tick_begin c f h.kind) (by show (0 : Int) ≠ -1; decide) ?_
    exact run_last 2 (c.begun.at 1) c3 f.inc _ (calm_at hb 1 (by omega)) hl (by show (0 : Int) ≠ -1; decide) (by show (0 : Int) ≠ 4; decide) (by show (1 : Int) + 2 + 1 = 4; decide) hfin hk3
  · exact run_fetch n c c3 c2 f _ f2 h.calm hl h.kind hfin hk3 hr
/-- a plain code -/
theorem ins_plain {r r2 : Rg} {f f2 : Fl} {n : Nat} (code : Int) (hk : B8 code) (hl : f.line = false) (hh : r.halt = false) (hm : f.m.getD r.pc.toNat 0 = code) (h4 : code ≠ 221 ∧ code ≠ 253 ∧ code ≠ 237 ∧ code ≠ 203) (hlen : (Mi.programS 0 r.pre code).length ≤ 64)
    (he : ∀ lo hi ea, B8 lo → B8 hi → B16 ea → Ex code r.pre (Mi.programS 0 r.pre code) ⟨r.fetched, lo, hi, if r.pre = 0 then r.fetched.pair 2 0 else ea, false⟩ (f.incs 3) n r2 f2) : Ins (4 + n) r f r2 f2 := fun c h => by
  have ho : (K1 c).Ok := ok_at (ok_begun h.calm.ok) 4
  have hcr : c.r = r := h.r
  have hp : (K1 c).r.pre = r.pre := by show c.r.pre = _; rw [hcr]
  have hI : ((K1 c).inc0.program 0 r.pre code).Is0 code r.pre (Mi.programS 0 r.pre code) ⟨r.fetched, c.lo, c.hi, if r.pre = 0 then r.fetched.pair 2 0 else c.ea, false⟩ := by
    have e : (K1 c).inc0.r = r.fetched := by show _ = _; rw [← hcr]; rfl
    exact ⟨e, rfl, rfl, by show (if r.pre = 0 then (K1 c).inc0.r.pair 2 0 else c.ea) = _; rw [e], rfl, rfl, rfl, rfl, h.ahead, h.calm.nmi, rfl, ⟨by show (0 : Int) ≤ 4; decide, by show (4 : Int) ≤ 100; decide⟩, ⟨by show (0 : Int) ≤ 4; decide, by show (4 : Int) ≤ 100; decide⟩, 0, rfl, rfl⟩
  obtain ⟨c2, h1, h2⟩ := he c.lo c.hi c.ea h.calm.ok.lo h.calm.ok.hi h.calm.ok.ea _ (ok_program (ok_inc0c ho) 0 r.pre code hk hlen) hI
  refine ⟨c2, h1, fetch_rest h hl ?_ (by show (0 : Int) ≠ -1; decide) h2⟩
  rw [hm]
  intro g sv w hat
  have := cp_fetchPlain g sv (K1 c) code w hat ho hk (by show c.r.halt = false; rw [hcr]; exact hh) rfl h4
  rw [hp] at this
  exact this
/-- a code behind 237 or 203: s is the kind of it -/
theorem ins_second {r r2 : Rg} {f f2 : Fl} {n : Nat} (pre s code : Int) (hs : (pre = 237 ∧ s = 2) ∨ (pre = 203 ∧ s = 1 ∧ r.pre = 0)) (hk : B8 code) (hr : r.Ok) (hl : f.line = false) (hh : r.halt = false) (hm : f.m.getD r.pc.toNat 0 = pre) (hm2 : f.m.getD ((r.pc + 1) % 65536).toNat 0 = code) (hlen : (Mi.programS s 0 code).length ≤ 64)
    (he : ∀ lo hi, B8 lo → B8 hi → Ex code 0 (Mi.programS s 0 code) ⟨r.fetched.fetched, lo, hi, r.fetched.fetched.pair 2 0, false⟩ (f.incs 7) n r2 f2) : Ins (8 + n) r f r2 f2 := fun c h => by
  have ho : (K1 c).Ok := ok_at (ok_begun h.calm.ok) 4
  have hcr : c.r = r := h.r
  obtain ⟨d, hd⟩ : ∃ d : Cp, d = { (K1 c).inc0 with second := s } := ⟨_, rfl⟩
  have hdo : d.Ok := by rw [hd]; exact ⟨ok_inc0 ho, ho.code, ho.lo, ho.hi, ho.ea, ho.out, ho.addr, ho.at0, ho.at1, ho.len⟩
  have hdr : d.r = r.fetched := by rw [hd, ← hcr]; rfl
  have hdn : d.nmi = false := by rw [hd]; exact h.calm.nmi
  have hds : d.second = s := by rw [hd]
  have hda : d.ahead = false := by rw [hd]; exact h.ahead
  have hdk : d.kind = 0 := by rw [hd]; rfl
  have hdlo : d.lo = c.lo ∧ d.hi = c.hi ∧ d.wrote = false := by rw [hd]; exact ⟨rfl, rfl, rfl⟩
  have hs0 : 0 < s := by rcases hs with ⟨-, h⟩ | ⟨-, h, -⟩ <;> omega
  have hfet : FetchTo (f.m.getD r.pc.toNat 0) (K1 c) d := by
    rw [hm]
    intro g sv w hat
    rcases hs with ⟨rfl, rfl⟩ | ⟨rfl, rfl, hp⟩
    · rw [hd]; exact cp_fetchEd g sv (K1 c) 237 w hat ho ⟨by decide, by decide⟩ (by show c.r.halt = false; rw [hcr]; exact hh) rfl rfl
    · rw [hd]; exact cp_fetchCb g sv (K1 c) 203 w hat ho ⟨by decide, by decide⟩ (by show c.r.halt = false; rw [hcr]; exact hh) rfl (by show c.r.pre = 0; rw [hcr]; exact hp) rfl
  -- the second fetch
  obtain ⟨y, hy⟩ : ∃ y : Cp, y = d.start 0 d.r.pc 4 := ⟨_, rfl⟩
  have hyo : y.Ok := by rw [hy]; exact ⟨hdo.r, hdo.code, hdo.lo, hdo.hi, hdo.ea, hdo.out, hdo.r.pc, hdo.at0, hdo.at1, hdo.len⟩
  have hyc : y.Calm := by rw [hy]; exact ⟨by rw [← hy]; exact hyo, rfl, hdn, ⟨Int.le_refl _, by show (0 : Int) ≤ 100; decide⟩, ⟨by show (0 : Int) ≤ 4; decide, by show (4 : Int) ≤ 100; decide⟩⟩
  obtain ⟨z, hz⟩ : ∃ z : Cp, z = { (y.at 4).inc with second := 0 }.program s 0 code := ⟨_, rfl⟩
  have e : ({ (y.at 4).inc with second := 0 } : Cp).r = r.fetched.fetched := by
    show ({ y.r.tick with pc := (y.r.pc + 1) % 65536 } : Rg) = _
    have : y.r = r.fetched := by rw [hy]; exact hdr
    rw [this]
    rfl
  have hzo : z.Ok := by
    have h1 : ({ (y.at 4).inc with second := 0 } : Cp).Ok := ⟨ok_inc (ok_at hyo 4), hyo.code, hyo.lo, hyo.hi, hyo.ea, hyo.out, hyo.addr, hyo.at0, hyo.at1, hyo.len⟩
    rw [hz]; exact ok_program h1 s 0 code hk hlen
  have hzI : z.Is0 code 0 (Mi.programS s 0 code) ⟨r.fetched.fetched, c.lo, c.hi, r.fetched.fetched.pair 2 0, false⟩ := by
    have hyl : y.lo = c.lo ∧ y.hi = c.hi ∧ y.wrote = false ∧ y.ahead = false ∧ y.nmi = false ∧ y.n = 4 := by rw [hy]; exact ⟨hdlo.1, hdlo.2.1, hdlo.2.2, hda, hdn, rfl⟩
    rw [hz]
    exact ⟨e, hyl.1, hyl.2.1, by show ({ (y.at 4).inc with second := 0 } : Cp).r.pair 2 0 = _; rw [e], hyl.2.2.1, rfl, rfl, rfl, hyl.2.2.2.1, hyl.2.2.2.2.1, rfl, ⟨by show (0 : Int) ≤ 4; decide, by show (4 : Int) ≤ 100; decide⟩, ⟨by show (0 : Int) ≤ y.n; rw [hyl.2.2.2.2.2]; decide, by show y.n ≤ 100; rw [hyl.2.2.2.2.2]; decide⟩, 0, rfl, rfl⟩
  obtain ⟨c2, h1, h2⟩ := he c.lo c.hi h.calm.ok.lo h.calm.ok.hi z hzo hzI
  refine ⟨c2, h1, ?_⟩
  rw [show 8 + n = 4 + (4 + n) by omega]
  refine fetch_rest h hl hfet (by rw [hdk]; decide) ?_
  have hnx : NextTo d y := ⟨hdo, .inl ⟨by rw [hds]; exact hs0, hy⟩⟩
  have hyk : y.kind = 0 := by rw [hy]; rfl
  have h2' : After z ((f.incs 3).incs 4) n c2 f2 := h2
  refine after_cycle (m := 4) hnx hyc (by rw [incs_line]; exact hl) (by rw [hyk]; decide) (by rw [hyk]; decide) (by rw [hy]; rfl) (by rw [hy]; rfl) (by decide) (fun c1 hc1 => ?_) h2'
  have hn4 : y.n = 4 := by rw [hy]; rfl
  rw [hn4]
  refine FinTo.fetch _ z c1 _ hyk ?_ (.inr ⟨by rw [hz]; show y.kind ≠ -1; rw [hyk]; decide, hc1⟩)
  have hya : (y.at 4).addr = (r.pc + 1) % 65536 := by rw [hy]; show d.r.pc = _; rw [hdr]; rfl
  rw [incs_m, incs_m, hya, hm2]
  intro g sv w hat
  have hsec : (y.at 4).second = s := by rw [hy]; exact hds
  have := cp_fetchSecond g sv (y.at 4) code w hat (ok_at hyo 4) hk (by rw [hy]; show d.r.halt = false; rw [hdr]; exact hh) (by rw [hsec]; exact hs0)
  rw [hsec] at this
  rw [hz]
  exact this
end Go.Proofs.YtifgikjmfmkgeaaGreat
namespace Go.Proofs.YtifgikjmfmkgeaaGreat
set_option linter.unusedSimpArgs false
set_option linter.unusedVariables false
open Go.RowKit
/-- a word and a byte with a sign -/
def plusV (x d : Int) : Int := (x + (if d < 128 then d else d - 256)) % 65536
theorem plus_b16 (x d : Int) : B16 (plusV x d) := ⟨by unfold plusV; omega, by unfold plusV; omega⟩
theorem sign8 : ∀ n < 256, IntKind.u16.wrap (IntKind.i16.wrap (IntKind.i8.wrap ((n : Nat) : Int))) = if n < 128 then ((n : Nat) : Int) else ((n : Nat) : Int) + 65280 := by decide +kernel
theorem plus_eq (x d : Int) (hd : B8 d) : IntKind.u16.wrap (x + IntKind.u16.wrap (IntKind.i16.wrap (IntKind.i8.wrap d))) = plusV x d := by
  obtain ⟨d0, d1⟩ := hd
  obtain ⟨n, rfl⟩ := Int.eq_ofNat_of_zero_le d0
  rw [sign8 n (by omega), IntKind.wrap_u16]
  unfold plusV
  split <;> split <;> omega
theorem ret_u16 {a b : Int} (h : a = b) : Ending.returned (.int .u16 a) = .returned (.int .u16 b) := by rw [h]
theorem plus_any (x d : Int) (w : World) (hx : B16 x) (hd : B8 d) : Calls Tryz.prog 57 #[.int .u16 x, .int .u8 d] w fun e w' => e = .returned (.int .u16 (plusV x d)) ∧ w = w' := by
  have HV := Lib.hid (plus_eq x d hd)
  obtain ⟨x0, x1⟩ := hx; obtain ⟨d0, d1⟩ := hd
  go_enter Tryz.func57, Tryz.ntmps57
  go_wp2
  go_ret
  exact ⟨ret_u16 HV.out, rfl⟩
set_option maxRecDepth 100000 in
set_option maxHeartbeats 4000000 in
theorem first_decB (g : Nat) (sv : Value) (c : Cp) (w : World) (h : CpAt w g sv c) (ho : c.Ok) :
    Calls Tryz.prog 38 #[.pointer (some ⟨g, 0, none⟩), .int .i64 1] w (Done (.tuple #[]) g w sv { c with r := { c.r with b := (c.r.b - 1) % 256 } }) := by
  have H := Lib.hid h; have HB := Lib.hid h.blk
  have e2 : w.cell? ⟨g, 2, none⟩ = some (.int .u8 c.r.b) := h.blk.cell 2
  have y2 := h.blk.frozen 2
  obtain ⟨b0, b1⟩ := ho.r.b
  clear h ho
  go_enter Tryz.func38, Tryz.ntmps38
  go_wp2
  exact bodyPost_end (results_none rfl _ _ _) rfl ⟨rfl, H.out.only (Only.set g 2 w _) (HB.out.set_ 2 _) rfl⟩
def Cp.jr (c : Cp) : Cp := { c with r := { c.r with pc := plusV c.r.pc c.lo, wz := plusV c.r.pc c.lo } }
set_option maxRecDepth 100000 in
set_option maxHeartbeats 4000000 in
theorem first_jr (g : Nat) (sv : Value) (c : Cp) (w : World) (h : CpAt w g sv c) (ho : c.Ok) :
    Calls Tryz.prog 38 #[.pointer (some ⟨g, 0, none⟩), .int .i64 2] w (Done (.tuple #[]) g w sv c.jr) := by
  have H := Lib.hid h; have HB := Lib.hid h.blk
  have HP := Lib.hid (fun w => plus_any c.r.pc c.lo w ho.r.pc ho.lo)
  unfold Cp.jr
  generalize plusV c.r.pc c.lo = v at HP ⊢
  have e22 : w.cell? ⟨g, 22, none⟩ = some (.int .u16 c.r.pc) := h.blk.cell 22
  have e23 : w.cell? ⟨g, 23, none⟩ = some (.int .u16 c.r.wz) := h.blk.cell 23
  have e36 : w.cell? ⟨g, 36, none⟩ = some (.int .u8 c.lo) := h.blk.cell 36
  have y22 := h.blk.frozen 22
  have y23 := h.blk.frozen 23
  clear h ho
  go_enter Tryz.func38, Tryz.ntmps38
  go_upto_region 8 with fail
  refine wp_region_still_tail 10 (by kernel_rfl) (by kernel_rfl) ?_
  simp only [List.take_succ_cons, List.take_zero, List.drop_succ_cons, List.drop_zero]
  repeat (first | still_step | still_call (same_swap (HP.out _)))
  refine wpStill_nil ?_
  change wpList _ _ _ _ _ w.drew
  obtain ⟨u, hu⟩ : ∃ u, u = w.drew := ⟨_, rfl⟩
  rw [← hu]
  have HO : Hid (Only g w u) := Lib.hid (Drew.only ⟨1, hu⟩)
  have HB2 : Hid (Blk u g 45 (c.cells sv)) := Lib.hid (hd_blk ⟨1, hu⟩ HB.out)
  have k22 : u.cell? ⟨g, 22, none⟩ = some (.int .u16 c.r.pc) := HB2.out.cell 22
  have k23 : u.cell? ⟨g, 23, none⟩ = some (.int .u16 c.r.wz) := HB2.out.cell 23
  have z22 := HB2.out.frozen 22
  have z23 := HB2.out.frozen 23
  clear hu e22 e23 e36 y22 y23
  go_wp2
  exact bodyPost_end (results_none rfl _ _ _) rfl ⟨rfl, H.out.only ((HO.out.trans (Only.set g 22 u _)).trans (Only.set g 23 _ _)) ((HB2.out.set_ 22 _).set_ 23 _) rfl⟩
theorem workOk_decB (c : Cp) (ho : c.Ok) : WorkOk 1 c { c with r := { c.r with b := (c.r.b - 1) % 256 } } :=
  ⟨⟨{ ho.r with b := b8_mod _ }, ho.code, ho.lo, ho.hi, ho.ea, ho.out, ho.addr, ho.at0, ho.at1, ho.len⟩, fun g sv w h => work_first 1 g sv c _ w (by decide) (first_decB g sv c w h ho)⟩
theorem workOk_jr (c : Cp) (ho : c.Ok) : WorkOk 2 c c.jr :=
  ⟨⟨{ ho.r with pc := plus_b16 _ _, wz := plus_b16 _ _ }, ho.code, ho.lo, ho.hi, ho.ea, ho.out, ho.addr, ho.at0, ho.at1, ho.len⟩, fun g sv w h => work_first 2 g sv c _ w (by decide) (first_jr g sv c w h ho)⟩
theorem workIs_decB (code ix : Int) (k : Co) : WorkIs 1 code ix k { k with r := { k.r with b := (k.r.b - 1) % 256 } } := fun c l ho h =>
  ⟨_, workOk_decB c ho, ⟨by simp only [h.r], h.lo, h.hi, h.ea, h.wrote, h.code, h.ix, h.second, h.ahead, h.nmi, h.held, h.t0, h.n0, h.pos⟩⟩
theorem workIs_jr (code ix : Int) (k : Co) : WorkIs 2 code ix k { k with r := { k.r with pc := plusV k.r.pc k.lo, wz := plusV k.r.pc k.lo } } := fun c l ho h =>
  ⟨_, workOk_jr c ho, ⟨by simp only [Cp.jr, h.r, h.lo], h.lo, h.hi, h.ea, h.wrote, h.code, h.ix, h.second, h.ahead, h.nmi, h.held, h.t0, h.n0, h.pos⟩⟩
theorem workIs_nn (code ix : Int) (k : Co) : WorkIs 8 code ix k { k with r := { k.r with wz := k.hi * 256 + k.lo } } := fun c l ho h =>
  ⟨_, workOk_nn c ho, ⟨by simp only [Cp.nn, Cp.wordV, h.r, h.lo, h.hi], h.lo, h.hi, h.ea, h.wrote, h.code, h.ix, h.second, h.ahead, h.nmi, h.held, h.t0, h.n0, h.pos⟩⟩
theorem workIs_jpWz (code ix : Int) (k : Co) : WorkIs 29 code ix k { k with r := { k.r with pc := k.r.wz } } := fun c l ho h =>
  ⟨_, workOk_jpWz c ho, ⟨by simp only [Cp.jpWz, h.r], h.lo, h.hi, h.ea, h.wrote, h.code, h.ix, h.second, h.ahead, h.nmi, h.held, h.t0, h.n0, h.pos⟩⟩
theorem workIs_ldReg (code ix : Int) (k : Co) : WorkIs 17 code ix k { k with r := k.r.putByte (code / 8 % 8) (if Mi.memS code then 0 else ix) k.lo } := fun c l ho h =>
  ⟨_, workOk_ldReg c ho, ⟨by simp only [Cp.ldReg, Cp.plainV, h.r, h.lo, h.code, h.ix], h.lo, h.hi, h.ea, h.wrote, h.code, h.ix, h.second, h.ahead, h.nmi, h.held, h.t0, h.n0, h.pos⟩⟩
end Go.Proofs.YtifgikjmfmkgeaaGreat
namespace Go.Proofs.YtifgikjmfmkgeaaGreat
set_option linter.unusedSimpArgs false
set_option linter.unusedVariables false
open Go.RowKit
def isZ8 : Value → Bool
  | .int .u8 n => n == 0
  | _ => false
def chkFlat (l : List Value) : Bool := (l.take 65536).all isZ8
set_option maxRecDepth 1000000 in
theorem zflatA : ((Tryz.prog.info? 39).bind (·.zero)).map (fun z => chkFlat z.cells.toList) = some true := by kernel_rfl
set_option maxRecDepth 1000000 in
theorem zflatB : ((Tryz.prog.info? 39).bind (·.zero)).map (fun z => z.cells.toList.drop 65536) = some [.slice none 0 0, .slice none 0 0, .int .u64 0, .bool false] := by kernel_rfl
set_option maxRecDepth 1000000 in
theorem zflatC : Tryz.prog.built 39 [] = ((Tryz.prog.info? 39).bind (·.zero)).map (·.cells) := by kernel_rfl
theorem isZ8_eq {v : Value} (h : isZ8 v = true) : v = .int .u8 0 := by
  unfold isZ8 at h
  split at h
  · have := beq_iff_eq.1 h
    rw [this]
  · cases h
/-- a bus that is empty -/
def fl0 : Fl := ⟨List.replicate 65536 0, 0, false, []⟩
theorem flat_zero : ∃ Z : Array Value, Tryz.prog.built 39 [] = some Z ∧ Z.toList = fl0.m.map (.int .u8) ++ [.slice none 0 0, .slice none 0 0, .int .u64 0, .bool false] := by
  have hA := zflatA
  have hB := zflatB
  rw [zflatC]
  cases hz : (Tryz.prog.info? 39).bind (·.zero) with
  | none => rw [hz] at hA; cases hA
  | some z =>
    rw [hz] at hA hB
    have hA' : chkFlat z.cells.toList = true := by injection hA
    have hB' : z.cells.toList.drop 65536 = [.slice none 0 0, .slice none 0 0, .int .u64 0, .bool false] := by injection hB
    refine ⟨z.cells, rfl, ?_⟩
    have hl : z.cells.toList.length = 65540 := by
      have := congrArg List.length hB'
      rw [List.length_drop] at this
      simp at this
      simp
      omega
    obtain ⟨l, hll⟩ : ∃ l, l = z.cells.toList := ⟨_, rfl⟩
    rw [← hll] at hA' hB' hl ⊢
    have ht : l.take 65536 = (List.replicate 65536 (0 : Int)).map (Value.int .u8) := by
      rw [List.map_replicate]
      refine List.eq_replicate_iff.2 ⟨by rw [List.length_take, hl]; rfl, fun v hv => isZ8_eq ?_⟩
      unfold chkFlat at hA'
      rw [List.all_eq_true] at hA'
      exact hA' v hv
    show l = (List.replicate 65536 (0 : Int)).map (Value.int .u8) ++ _
    rw [← ht, ← hB', List.take_append_drop]
end Go.Proofs.YtifgikjmfmkgeaaGreat
namespace Go.Proofs.YtifgikjmfmkgeaaGreat
set_option linter.unusedSimpArgs false
set_option linter.unusedVariables false
open Go.RowKit
def Rg.newC (r : Rg) : Cp := ⟨r, [], 0, 0, 0, 0, false, 0, 0, 0, 0, false, false, -1, false, 0, 0, 0, 0, 0, false⟩
set_option maxRecDepth 100000 in
theorem built_cpu (r : Rg) (A : Option Addr) (n c : Nat) : Tryz.prog.built 45 [(0, .agg r.cells.toArray), (13, .int .i64 (-1)), (1, .slice A n c)] = some (r.newC.cells (.slice A n c)).toArray := by kernel_rfl
/-- room for sixteen steps -/
def room16 : List Value := List.replicate 64 (.int .i64 0)
set_option maxRecDepth 100000 in
theorem mk_steps (u : World) : (Instr.makeSlice 42 (.int .i64 0) (.int .i64 16)).run Tryz.prog u = .ok (.slice (some ⟨u.heap.size, 0, none⟩) 0 16) (u.alloc (.cells room16.toArray 69)) := by kernel_rfl
theorem infoRegsC : (Tryz.prog.info? 24).map (·.size) = some 30 := by kernel_rfl
theorem op_build {P : Program} {o : Oper} {a : Act} {w : World} {K : Act → World → Prop} {Q : Exit → Act → World → Prop} {E : Prop} {b : Bool} (hw : b = true) (t : TypeId) (parts : Array (Nat × Operand)) (ho : o.op = .build t parts)
    (d : Option Tmp) (hd : o.dst = d) (cells : Array Value) (hf : P.built t (parts.map fun (i, x) => (i, a.eval x)).toList = some cells) (h : K (a.put d (.agg cells)) w) : if b = true then Oper.wp P o a w K Q else E := by
  subst hd
  rw [if_pos hw]
  unfold Oper.wp execOp
  simp only [ho, Sem.run_bind, run_build w t _ _ hf, Result.andThen_ok]
  exact h
theorem op_box {P : Program} {o : Oper} {a : Act} {w : World} {K : Act → World → Prop} {Q : Exit → Act → World → Prop} {E : Prop} {b : Bool} (hw : b = true) (t : TypeId) (x : Operand) (ho : o.op = .box t x)
    (d : Option Tmp) (hd : o.dst = d) (N : Nat) (hN : w.heap.size = N) (cells : Array Value) (hx : (a.eval x).cells = cells) (h : K (a.put d (.pointer (some ⟨N, 0, none⟩))) (w.alloc (.cells cells t))) : if b = true then Oper.wp P o a w K Q else E := by
  subst hd hN hx
  rw [if_pos hw]
  unfold Oper.wp execOp
  simp only [ho, Sem.run_bind, Instr.box, newVar, newRow, run_newObj_alloc, Sem.run_pure, Result.andThen_ok]
  exact h
theorem blk_range {u : World} {g : Nat} {t : TypeId} {cs : List Value} (h : Blk u g t cs) : u.rangeAt g 0 cs := fun j v hv => by rw [Nat.zero_add]; exact (h.cell j).trans hv
set_option maxRecDepth 100000 in
set_option maxHeartbeats 4000000 in
theorem cp_new (r : Rg) (w : World) : Calls Tryz.prog 9 #[.agg r.cells.toArray] w fun e w' => ∃ g sv, e = .returned (.pointer (some ⟨g, 0, none⟩)) ∧ CpAt w' g sv r.newC ∧ (w.heap.size ≤ g) ∧ (∀ b, sv.ownBlock = some b → w.heap.size ≤ b) ∧ Below w.heap.size w w' := by
  obtain ⟨cs, hcs⟩ : ∃ cs, cs = r.cells := ⟨_, rfl⟩
  have HI : Hid ((Tryz.prog.info? 24).map (·.size) = some cs.length) := by show _ = _; rw [infoRegsC, hcs]; rfl
  have HBU : Hid (∀ A n c, Tryz.prog.built 45 [(0, .agg cs.toArray), (13, .int .i64 (-1)), (1, .slice A n c)] = some (r.newC.cells (.slice A n c)).toArray) := by show ∀ A n c, _ = _; rw [hcs]; exact built_cpu r
  rw [← hcs]
  clear hcs
  go_enter Tryz.func9, Tryz.ntmps9
  go_wp2_with fail
  refine until_start 3 (fun u => Blk u w.heap.size 24 cs) (by kernel_rfl) ?_
  refine until_load (i := 0) (v := .agg cs.toArray) [2, 3] rfl (by kernel_rfl) (by kernel_rfl) (by kernel_rfl) (by kernel_rfl) (fun _ _ _ h => h) (Blk.new w _ _) (yieldsIf_load_mid (by rfl) 24 (.tmp 1) rfl w.heap.size 0 rfl cs _ (fun u hu => blk_range hu) Tryz.underlying24 rfl HI.out) ?_
  try simp only [Act.put, List.setIfInBounds_toArray, List.set_cons_zero, List.set_cons_succ]
  refine until_ready (rs := [1]) (by kernel_rfl) (by simp) ?_
  refine AllUntil.cons rfl (fun K hK => ?_) AllUntil.nil
  have hmk := fun u => mk_steps u
  go_simp
  refine hK.out _ _ (fun _ => ((Blk.new w 24 cs).alloc _).drew) ?_
  clear hK K
  refine until_ready (rs := [2]) (by kernel_rfl) (by simp) ?_
  refine AllUntil.cons rfl (fun K hK => ?_) AllUntil.nil
  refine op_build (by rfl) 45 #[(0, .tmp 3), (13, .const (.int .i64 (-1))), (1, .tmp 4)] rfl (some 5) rfl (r.newC.cells (.slice (some ⟨w.heap.size + 1, 0, none⟩) 0 16)).toArray (Eq.trans (congrArg _ (by simp; exact ⟨rfl, rfl, rfl⟩)) (HBU.out (some ⟨w.heap.size + 1, 0, none⟩) 0 16)) ?_
  refine hK.out _ _ (fun _ => ((Blk.new w 24 cs).alloc _).drew) ?_
  clear hK K
  try simp only [Act.put, List.setIfInBounds_toArray, List.set_cons_zero, List.set_cons_succ]
  refine until_ready (rs := [3]) (by kernel_rfl) (by simp) ?_
  refine AllUntil.cons rfl (fun K hK => ?_) AllUntil.nil
  refine op_box (by rfl) 45 (.tmp 5) rfl (some 6) rfl (w.heap.size + 2) (by simp) (r.newC.cells (.slice (some ⟨w.heap.size + 1, 0, none⟩) 0 16)).toArray rfl ?_
  refine hK.out _ _ (fun h => by simp at h) ?_
  clear hK K
  try simp only [Act.put, List.setIfInBounds_toArray, List.set_cons_zero, List.set_cons_succ]
  refine until_ready (rs := [4]) (by kernel_rfl) (by simp) ?_
  refine AllUntil.cons rfl (fun K hK => ?_) AllUntil.nil
  go_simp
  refine hK.out _ _ (fun h => by simp at h) ?_
  clear hK K
  try simp only [Act.put, List.setIfInBounds_toArray, List.set_cons_zero, List.set_cons_succ]
  refine until_done (by kernel_rfl) ?_ _
  go_wp2
  go_ret
  have hs : Blk ((w.alloc (.cells cs.toArray 24)).alloc (.cells room16.toArray 69)) (w.heap.size + 1) 69 room16 := blk_alloc2_new w _ _ _
  have hb := Blk.new ((w.alloc (.cells cs.toArray 24)).alloc (.cells room16.toArray 69)) 45 (r.newC.cells (.slice (some ⟨w.heap.size + 1, 0, none⟩) 0 16))
  have hsz : ((w.alloc (.cells cs.toArray 24)).alloc (.cells room16.toArray 69)).heap.size = w.heap.size + 2 := by simp
  rw [hsz] at hb
  refine ⟨w.heap.size + 2, .slice (some ⟨w.heap.size + 1, 0, none⟩) 0 16, rfl, ⟨hb.drew, rfl, .inr ⟨w.heap.size + 1, 16, room16.toArray, rfl, Nat.zero_le _, (hs.alloc _).drew, Nat.zero_le _, by decide, rfl, rfl⟩⟩, by omega, fun b hb => ?_, ?_⟩
  · injection hb with hb
    rw [← hb]
    exact Nat.le_succ _
  · exact (((((Below.refl _ w).alloc (Nat.le_refl _) _).alloc (by simp) _).alloc (by simp; omega) _).drew)
end Go.Proofs.YtifgikjmfmkgeaaGreat
namespace Go.Proofs.YtifgikjmfmkgeaaGreat
set_option linter.unusedSimpArgs false
set_option linter.unusedVariables false
open Go.RowKit
theorem p0 : Mi.programS 0 0 0 = [] := by decide +kernel
theorem p6 : Mi.programS 0 0 6 = [(1, 0, 0, 3), (5, 0, 17, 0)] := by decide +kernel
theorem p16 : Mi.programS 0 0 16 = [(0, 8, 0, 1), (5, 0, 1, 0), (1, 0, 0, 3), (6, 0, 2, 0), (0, 9, 0, 5), (5, 0, 2, 0)] := by decide +kernel
theorem p195 : Mi.programS 0 0 195 = [(1, 0, 0, 3), (1, 0, 1, 3), (5, 0, 8, 0), (5, 0, 29, 0)] := by decide +kernel
theorem new_rest {r : Rg} (hr : r.Ok) : (r.newC).Rest r := by
  have z8 : B8 0 := ⟨by decide, by decide⟩
  have z16 : B16 0 := ⟨by decide, by decide⟩
  exact ⟨⟨⟨hr, z8, z8, z8, z16, z8, z16, Int.le_refl _, Int.le_refl _, Nat.zero_le _⟩, rfl, rfl, show (0 : Int) ≤ 0 ∧ (0 : Int) ≤ 100 by decide, show (0 : Int) ≤ 0 ∧ (0 : Int) ≤ 100 by decide⟩, rfl, rfl, rfl⟩
theorem Ins.ok {n : Nat} {r r2 : Rg} {f f2 : Fl} (h : Ins n r f r2 f2) (hr : r.Ok) : r2.Ok := by
  obtain ⟨c2, h2, _⟩ := h r.newC (new_rest hr)
  rw [← h2.r]
  exact h2.calm.ok.r
/-- registers that are others but in B, R, WZ, Q, PC -/
def Like (r r2 : Rg) (p : Int) : Prop := ∃ b R wz q, r2 = { r with b := b, r := R, wz := wz, q := q, pc := p, hold := false, pre := 0 }
theorem Like.trans {a b c : Rg} {p q : Int} (h : Like a b p) (k : Like b c q) : Like a c q := by
  obtain ⟨b1, R1, w1, q1, rfl⟩ := h
  obtain ⟨b2, R2, w2, q2, rfl⟩ := k
  exact ⟨b2, R2, w2, q2, rfl⟩
structure Kept (f f2 : Fl) : Prop where
  m : f2.m = f.m
  line : f2.line = f.line
  acts : f2.acts = f.acts
theorem Kept.trans {a b c : Fl} (h : Kept a b) (k : Kept b c) : Kept a c := ⟨k.m.trans h.m, k.line.trans h.line, k.acts.trans h.acts⟩
theorem kept_incs (f : Fl) (n : Nat) : Kept f (f.incs n) := ⟨incs_m f n, incs_line f n, incs_acts f n⟩
theorem kept_inc (f : Fl) : Kept f f.inc := ⟨rfl, rfl, rfl⟩
/-- at an instruction -/
structure AtI (r : Rg) (p : Nat) : Prop where
  ok : r.Ok
  halt : r.halt = false
  pre : r.pre = 0
  hold : r.hold = false
  pc : r.pc = p
theorem Like.at_ {r r2 : Rg} {p q : Nat} (h : Like r r2 q) (ha : AtI r p) (hok : r2.Ok) : AtI r2 q := by
  obtain ⟨b, R, w, z, rfl⟩ := h
  exact ⟨hok, ha.halt, rfl, rfl, rfl⟩
theorem ins_nop (r : Rg) (f : Fl) (p : Nat) (h : AtI r p) (hp : p < 65530) (hl : f.line = false) (hm : f.m.getD p 0 = 0) : ∃ r2 f2, Ins 4 r f r2 f2 ∧ Like r r2 (p + 1 : Nat) ∧ Kept f f2 := by
  have e1 : r.pc.toNat = p := by rw [h.pc]; rfl
  have e2 : r.fetched.pc = ((p + 1 : Nat) : Int) := by show (r.pc + 1) % 65536 = _; rw [h.pc]; omega
  refine ⟨{ r.fetched with q := 0 }, (f.incs 3).inc, ?_, ⟨r.b, r.fetched.r, r.wz, 0, ?_⟩, (kept_incs f 3).trans (kept_inc _)⟩
  · refine ins_plain (n := 0) 0 ⟨by decide, by decide⟩ hl h.halt (by rw [e1]; exact hm) (by decide) (by rw [h.pre, p0]; decide) (fun lo hi ea hlo hhi hea => ?_)
    rw [h.pre, p0]
    exact ex_stop 0 0 ⟨r.fetched, lo, hi, _, false⟩ (f.incs 3)
  · rw [← e2]; rfl
theorem ins_ldB (r : Rg) (f : Fl) (p : Nat) (v : Int) (h : AtI r p) (hp : p < 65530) (hl : f.line = false) (hm : f.m.getD p 0 = 6) (hm1 : f.m.getD (p + 1) 0 = v) (hv : B8 v) : ∃ r2 f2, Ins 7 r f r2 f2 ∧ Like r r2 (p + 2 : Nat) ∧ r2.b = v ∧ Kept f f2 := by
  have e1 : r.pc.toNat = p := by rw [h.pc]; rfl
  have e2 : r.fetched.pc = ((p + 1 : Nat) : Int) := by show (r.pc + 1) % 65536 = _; rw [h.pc]; omega
  obtain ⟨rf, hrf⟩ : ∃ rf, rf = r.fetched := ⟨_, rfl⟩
  have e3 : (rf.pc + 1) % 65536 = ((p + 2 : Nat) : Int) := by rw [hrf, e2]; omega
  refine ⟨{ rf with pc := (rf.pc + 1) % 65536, b := v, q := 0 }, ((f.incs 3).incs 3).inc, ?_, ⟨v, rf.r, rf.wz, 0, ?_⟩, rfl, ((kept_incs f 3).trans (kept_incs _ 3)).trans (kept_inc _)⟩
  · refine ins_plain (n := 3) 6 ⟨by decide, by decide⟩ hl h.halt (by rw [e1]; exact hm) (by decide) (by rw [h.pre, p6]; decide) (fun lo hi ea hlo hhi hea => ?_)
    rw [h.pre, p6, ← hrf]
    refine ex_read (m := 3) (n := 0) v (by decide) (by decide) (by rw [incs_line]; exact hl) ?_ hv ?_
    · rw [incs_m]
      show f.m.getD rf.pc.toNat 0 = v
      rw [hrf, e2]
      exact hm1
    refine ex_work (workIs_ldReg 6 0 _) ?_
    exact ex_stop 6 0 ⟨{ rf with pc := (rf.pc + 1) % 65536, b := v }, v, hi, _, false⟩ _
  · rw [← e3, hrf]; rfl
theorem ins_jp (r : Rg) (f : Fl) (p t : Nat) (h : AtI r p) (hp : p < 65530) (ht : t < 65536) (hl : f.line = false) (hm : f.m.getD p 0 = 195) (hm1 : f.m.getD (p + 1) 0 = ((t % 256 : Nat) : Int)) (hm2 : f.m.getD (p + 2) 0 = ((t / 256 : Nat) : Int)) : ∃ r2 f2, Ins 10 r f r2 f2 ∧ Like r r2 t ∧ Kept f f2 := by
  have e1 : r.pc.toNat = p := by rw [h.pc]; rfl
  have e2 : r.fetched.pc = ((p + 1 : Nat) : Int) := by show (r.pc + 1) % 65536 = _; rw [h.pc]; omega
  obtain ⟨rf, hrf⟩ : ∃ rf, rf = r.fetched := ⟨_, rfl⟩
  have e3 : (rf.pc + 1) % 65536 = ((p + 2 : Nat) : Int) := by rw [hrf, e2]; omega
  have et : ((t / 256 : Nat) : Int) * 256 + ((t % 256 : Nat) : Int) = t := by omega
  refine ⟨{ rf with pc := t, wz := t, q := 0 }, (((f.incs 3).incs 3).incs 3).inc, ?_, ⟨rf.b, rf.r, t, 0, ?_⟩, (((kept_incs f 3).trans (kept_incs _ 3)).trans (kept_incs _ 3)).trans (kept_inc _)⟩
  · refine ins_plain (n := 6) 195 ⟨by decide, by decide⟩ hl h.halt (by rw [e1]; exact hm) (by decide) (by rw [h.pre, p195]; decide) (fun lo hi ea hlo hhi hea => ?_)
    rw [h.pre, p195, ← hrf]
    refine ex_read (m := 3) (n := 3) ((t % 256 : Nat) : Int) (by decide) (by decide) (by rw [incs_line]; exact hl) ?_ ⟨by omega, by omega⟩ ?_
    · rw [incs_m]
      show f.m.getD rf.pc.toNat 0 = _
      rw [hrf, e2]
      exact hm1
    refine ex_read (m := 3) (n := 0) ((t / 256 : Nat) : Int) (by decide) (by decide) (by rw [incs_line, incs_line]; exact hl) ?_ ⟨by omega, by omega⟩ ?_
    · rw [incs_m, incs_m]
      show f.m.getD ((rf.pc + 1) % 65536).toNat 0 = _
      rw [e3]
      exact hm2
    refine ex_work (workIs_nn 195 0 _) ?_
    refine ex_work (workIs_jpWz 195 0 _) ?_
    have := ex_stop 195 0 ⟨{ rf with pc := t, wz := t }, ((t % 256 : Nat) : Int), ((t / 256 : Nat) : Int), (if (0 : Int) = 0 then rf.pair 2 0 else ea), false⟩ (((f.incs 3).incs 3).incs 3)
    rw [show (Co.placed (Co.latch (Co.placed ⟨rf, lo, hi, (if (0 : Int) = 0 then rf.pair 2 0 else ea), false⟩ 0) 0 ((t % 256 : Nat) : Int)) 0).latch 1 ((t / 256 : Nat) : Int) = ⟨{ rf with pc := ((rf.pc + 1) % 65536 + 1) % 65536 }, ((t % 256 : Nat) : Int), ((t / 256 : Nat) : Int), (if (0 : Int) = 0 then rf.pair 2 0 else ea), false⟩ from rfl]
    show Ex 195 0 [] ⟨{ rf with pc := ((t / 256 : Nat) : Int) * 256 + ((t % 256 : Nat) : Int), wz := ((t / 256 : Nat) : Int) * 256 + ((t % 256 : Nat) : Int) }, _, _, _, _⟩ _ _ _ _
    rw [et]
    exact this
  · rw [hrf]; rfl
theorem ins_djnz (r : Rg) (f : Fl) (p : Nat) (h : AtI r p) (hp : p < 65530) (hl : f.line = false) (hm : f.m.getD p 0 = 16) (hm1 : f.m.getD (p + 1) 0 = 254) :
    ∃ r2 f2, Ins (if r.b = 1 then 8 else 13) r f r2 f2 ∧ Like r r2 (if r.b = 1 then ((p + 2 : Nat) : Int) else (p : Int)) ∧ r2.b = (r.b - 1) % 256 ∧ Kept f f2 := by
  have e1 : r.pc.toNat = p := by rw [h.pc]; rfl
  have e2 : r.fetched.pc = ((p + 1 : Nat) : Int) := by show (r.pc + 1) % 65536 = _; rw [h.pc]; omega
  obtain ⟨rf, hrf⟩ : ∃ rf, rf = r.fetched := ⟨_, rfl⟩
  have e3 : (rf.pc + 1) % 65536 = ((p + 2 : Nat) : Int) := by rw [hrf, e2]; omega
  have eb : rf.b = r.b := by rw [hrf]; rfl
  obtain ⟨g, hg⟩ : ∃ g, g = ((f.incs 3).incs 1).incs 3 := ⟨_, rfl⟩
  have kg : Kept f g := by rw [hg]; exact ((kept_incs f 3).trans (kept_incs _ 1)).trans (kept_incs _ 3)
  obtain ⟨b0, b1⟩ := h.ok.b
  have hmid : ∀ n r2 f2, (∀ hi ea, Ex 16 0 [(6, 0, 2, 0), (0, 9, 0, 5), (5, 0, 2, 0)] ⟨{ rf with b := (rf.b - 1) % 256, pc := (rf.pc + 1) % 65536 }, 254, hi, ea, false⟩ g n r2 f2) → Ins (4 + (1 + (3 + n))) r f r2 f2 := fun n r2 f2 he => by
    refine ins_plain (n := 1 + (3 + n)) 16 ⟨by decide, by decide⟩ hl h.halt (by rw [e1]; exact hm) (by decide) (by rw [h.pre, p16]; decide) (fun lo hi ea hlo hhi hea => ?_)
    rw [h.pre, p16, ← hrf]
    refine ex_wait (m := 1) (by decide) (by decide) (by rw [incs_line]; exact hl) ?_
    refine ex_work (workIs_decB 16 0 _) ?_
    refine ex_read (m := 3) 254 (by decide) (by decide) (by rw [incs_line, incs_line]; exact hl) ?_ ⟨by decide, by decide⟩ ?_
    · rw [incs_m, incs_m]
      show f.m.getD rf.pc.toNat 0 = _
      rw [hrf, e2]
      exact hm1
    rw [← hg]
    exact he hi _
  by_cases hb : r.b = 1
  · rw [if_pos hb, if_pos hb]
    refine ⟨{ rf with b := (rf.b - 1) % 256, pc := (rf.pc + 1) % 65536, q := 0 }, g.inc, ?_, ⟨(rf.b - 1) % 256, rf.r, rf.wz, 0, ?_⟩, by show (rf.b - 1) % 256 = _; rw [eb], kg.trans (kept_inc _)⟩
    · refine hmid 0 _ _ (fun hi ea => ?_)
      refine ex_unmet (.inr (.inr (.inl rfl))) ?_ (ex_stop 16 0 _ g)
      show ((rf.b - 1) % 256 != 0) = false
      rw [eb, hb]; decide
    · rw [← e3, hrf]; rfl
  · rw [if_neg hb, if_neg hb]
    have hne : ((rf.b - 1) % 256 != 0) = true := by rw [eb]; simp; omega
    have epl : plusV ((rf.pc + 1) % 65536) 254 = (p : Int) := by rw [e3]; unfold plusV; rw [if_neg (by decide)]; omega
    refine ⟨{ rf with b := (rf.b - 1) % 256, pc := p, wz := p, q := 0 }, (g.incs 5).inc, ?_, ⟨(rf.b - 1) % 256, rf.r, p, 0, ?_⟩, by show (rf.b - 1) % 256 = _; rw [eb], (kg.trans (kept_incs _ 5)).trans (kept_inc _)⟩
    · refine hmid 5 _ _ (fun hi ea => ?_)
      refine ex_met (.inr (.inr (.inl rfl))) hne ?_
      refine ex_wait (m := 5) (n := 0) (by decide) (by decide) (by rw [kg.line]; exact hl) ?_
      refine ex_work (workIs_jr 16 0 _) ?_
      show Ex 16 0 [] ⟨{ rf with b := (rf.b - 1) % 256, pc := plusV ((rf.pc + 1) % 65536) 254, wz := plusV ((rf.pc + 1) % 65536) 254 }, _, _, _, _⟩ _ _ _ _
      rw [epl]
      exact ex_stop 16 0 ⟨{ rf with b := (rf.b - 1) % 256, pc := p, wz := p }, 254, hi, ea, false⟩ (g.incs 5)
    · rw [hrf]; rfl
/-- instructions, one behind the other, none of them at a place -/
inductive Seg (stop : Int) : Nat → Rg → Fl → Rg → Fl → Prop
  | nil (r : Rg) (f : Fl) : Seg stop 0 r f r f
  | cons (n m : Nat) (r r1 r2 : Rg) (f f1 f2 : Fl) : r.pc ≠ stop → 1 ≤ n → Ins n r f r1 f1 → Seg stop m r1 f1 r2 f2 → Seg stop (n + m) r f r2 f2
theorem Seg.trans {s : Int} {a b : Nat} {r r1 r2 : Rg} {f f1 f2 : Fl} (h : Seg s a r f r1 f1) (k : Seg s b r1 f1 r2 f2) : Seg s (a + b) r f r2 f2 := by
  induction h with
  | nil => rw [Nat.zero_add]; exact k
  | cons n m r r1 r2 f f1 f2 h1 h2 h3 h4 ih => rw [Nat.add_assoc]; exact Seg.cons n _ r r1 _ f f1 _ h1 h2 h3 (ih k)
theorem Seg.one {s : Int} {n : Nat} {r r1 : Rg} {f f1 : Fl} (h : Ins n r f r1 f1) (hn : 1 ≤ n) (hp : r.pc ≠ s) : Seg s n r f r1 f1 := by
  have := Seg.cons n 0 r r1 r1 f f1 f1 hp hn h (Seg.nil r1 f1)
  rwa [Nat.add_zero] at this
/-- code stands in memory -/
def CodeAt (m : List Int) (p : Nat) (l : List Int) : Prop := ∀ i v, l[i]? = some v → m.getD (p + i) 0 = v
theorem CodeAt.left {m : List Int} {p : Nat} {a b : List Int} (h : CodeAt m p (a ++ b)) : CodeAt m p a := fun i v hi => h i v (by rw [List.getElem?_append_left (List.getElem?_eq_some_iff.1 hi).1]; exact hi)
theorem CodeAt.right {m : List Int} {p : Nat} {a b : List Int} (h : CodeAt m p (a ++ b)) : CodeAt m (p + a.length) b := fun i v hi => by
  have := h (a.length + i) v (by rw [List.getElem?_append_right (Nat.le_add_right _ _), Nat.add_sub_cancel_left]; exact hi)
  rw [show p + a.length + i = p + (a.length + i) by omega]
  exact this
/-- from one place to another: what is gone through -/
def Goes (s : Int) (T p q : Nat) (r : Rg) (f : Fl) : Prop := ∃ r2 f2, Seg s T r f r2 f2 ∧ AtI r2 q ∧ Like r r2 q ∧ Kept f f2
theorem Goes.then {s : Int} {a b p q t : Nat} {r : Rg} {f : Fl} (h : Goes s a p q r f) (k : ∀ r1 f1, AtI r1 q → Kept f f1 → Goes s b q t r1 f1) : Goes s (a + b) p t r f := by
  obtain ⟨r1, f1, h1, h2, h3, h4⟩ := h
  obtain ⟨r2, f2, k1, k2, k3, k4⟩ := k r1 f1 h2 h4
  exact ⟨r2, f2, h1.trans k1, k2, h3.trans k3, h4.trans k4⟩
theorem goes_nil (s : Int) (p : Nat) (r : Rg) (f : Fl) (h : AtI r p) : Goes s 0 p p r f :=
  ⟨r, f, Seg.nil r f, h, ⟨r.b, r.r, r.wz, r.q, by rw [← h.pc]; have h1 := h.pre; have h2 := h.hold; cases r; simp only at h1 h2; subst h1 h2; rfl⟩, ⟨rfl, rfl, rfl⟩⟩
theorem goes_one {s n p q : Nat} {r r1 : Rg} {f f1 : Fl} (h : AtI r p) (hn : 1 ≤ n) (hp : p < s) (h1 : Ins n r f r1 f1) (h2 : Like r r1 q) (h3 : Kept f f1) : Goes s n p q r f :=
  ⟨r1, f1, Seg.one h1 hn (by rw [h.pc]; omega), h2.at_ h (h1.ok h.ok), h2, h3⟩
theorem goes_zeros (s : Nat) (hb : s < 65530) : ∀ (j p : Nat) (r : Rg) (f : Fl), AtI r p → p + j ≤ s → f.line = false → CodeAt f.m p (List.replicate j 0) → Goes s (4 * j) p (p + j) r f
  | 0, p, r, f, h, _, _, _ => goes_nil s p r f h
  | j + 1, p, r, f, h, hs, hl, hc => by
    obtain ⟨r1, f1, h1, h2, h3⟩ := ins_nop r f p h (by omega) hl (hc 0 0 (by simp))
    rw [show 4 * (j + 1) = 4 + 4 * j by omega, show p + (j + 1) = p + 1 + j by omega]
    refine (goes_one h (by decide) (by omega) h1 h2 h3).then (fun r2 f2 k1 k2 => ?_)
    refine goes_zeros s hb j (p + 1) r2 f2 k1 (by omega) (by rw [k2.line]; exact hl) (fun i v hi => ?_)
    rw [k2.m, show p + 1 + i = p + (i + 1) by omega]
    exact hc (i + 1) v (by rw [List.replicate_succ]; exact hi)
theorem goes_djnz (s : Nat) (hb : s < 65530) (p : Nat) (hs : p + 2 ≤ s) : ∀ (k : Nat) (r : Rg) (f : Fl), 1 ≤ k → k ≤ 255 → AtI r p → r.b = k → f.line = false → f.m.getD p 0 = 16 → f.m.getD (p + 1) 0 = 254 → Goes s (13 * k - 5) p (p + 2) r f
  | 0, _, _, h, _, _, _, _, _, _ => absurd h (by omega)
  | k + 1, r, f, _, hk, h, hrb, hl, hm, hm1 => by
    obtain ⟨r1, f1, h1, h2, h3, h4⟩ := ins_djnz r f p h (by omega) hl hm hm1
    by_cases h0 : k = 0
    · subst h0
      have e : r.b = 1 := hrb
      rw [if_pos e] at h1 h2
      exact goes_one h (by decide) (by omega) h1 h2 h4
    · have e : ¬ r.b = 1 := by rw [hrb]; omega
      rw [if_neg e] at h1 h2
      rw [show 13 * (k + 1) - 5 = 13 + (13 * k - 5) by omega]
      have hat := h2.at_ h (h1.ok h.ok)
      obtain ⟨r2, f2, k1, k2, k3, k4⟩ := goes_djnz s hb p hs k r1 f1 (by omega) (by omega) hat (by rw [h3, hrb]; omega) (by rw [h4.line]; exact hl) (by rw [h4.m]; exact hm) (by rw [h4.m]; exact hm1)
      exact ⟨r2, f2, (Seg.one h1 (by decide) (by rw [h.pc]; omega)).trans k1, k2, h2.trans k3, h4.trans k4⟩
/-- a round of waiting -/
theorem goes_round (s : Nat) (hb : s < 65530) (p k : Nat) (r : Rg) (f : Fl) (hk1 : 1 ≤ k) (hk : k ≤ 255) (h : AtI r p) (hs : p + 4 ≤ s) (hl : f.line = false) (hc : CodeAt f.m p [6, (k : Int), 16, 254]) : Goes s (13 * k + 2) p (p + 4) r f := by
  obtain ⟨r1, f1, h1, h2, h3, h4⟩ := ins_ldB r f p k h (by omega) hl (hc 0 6 rfl) (hc 1 k rfl) ⟨by omega, by omega⟩
  have hat := h2.at_ h (h1.ok h.ok)
  obtain ⟨r2, f2, k1, k2, k3, k4⟩ := goes_djnz s hb (p + 2) (by omega) k r1 f1 hk1 hk hat h3 (by rw [h4.line]; exact hl) (by rw [h4.m]; exact hc 2 16 rfl) (by rw [h4.m]; exact hc 3 254 rfl)
  rw [show 13 * k + 2 = 7 + (13 * k - 5) by omega]
  exact ⟨r2, f2, (Seg.one h1 (by decide) (by rw [h.pc]; omega)).trans k1, k2, h2.trans k3, h4.trans k4⟩
theorem goes_ldB (s : Nat) (hb : s < 65530) (p : Nat) (r : Rg) (f : Fl) (h : AtI r p) (hs : p + 2 ≤ s) (hl : f.line = false) (hc : CodeAt f.m p [6, 0]) : Goes s 7 p (p + 2) r f := by
  obtain ⟨r1, f1, h1, h2, h3, h4⟩ := ins_ldB r f p 0 h (by omega) hl (hc 0 6 rfl) (hc 1 0 rfl) ⟨by decide, by decide⟩
  exact goes_one h (by decide) (by omega) h1 h2 h4
theorem goes_jp (s : Nat) (hb : s < 65530) (p : Nat) (r : Rg) (f : Fl) (h : AtI r p) (hs : p + 3 ≤ s) (hl : f.line = false) (hc : CodeAt f.m p [195, ((p : Int) + 3) % 256, ((p : Int) + 3) / 256 % 256]) : Goes s 10 p (p + 3) r f := by
  obtain ⟨r1, f1, h1, h2, h3⟩ := ins_jp r f p (p + 3) h (by omega) (by omega) hl (hc 0 195 rfl) ((hc 1 _ rfl).trans (by omega)) ((hc 2 _ rfl).trans (by omega))
  exact goes_one h (by decide) (by omega) h1 h2 h3
end Go.Proofs.YtifgikjmfmkgeaaGreat
namespace Go.Proofs.YtifgikjmfmkgeaaGreat
set_option linter.unusedSimpArgs false
set_option linter.unusedVariables false
open Go.RowKit Go.Sort
def Gives (f : FuncId) (args : Array Value) (v : Value) : Prop := ∀ w : World, Calls Tryz.prog f args w fun e w' => e = .returned v ∧ Below w.heap.size w w'
theorem gives_same {f : FuncId} {args : Array Value} {v : Value} (h : ∀ w, Calls Tryz.prog f args w fun e w' => e = .returned v ∧ w' = w) : Gives f args v := fun w => (h w).mono fun e w' ⟨h1, h2⟩ => ⟨h1, h2 ▸ Below.refl _ _⟩
theorem Gives.q {f : FuncId} {args : Array Value} {v : Value} (h : Gives f args v) {w : World} {d : Nat} {os : Array Obj} : Calls Tryz.prog f args (grow (redrawn w d) os) fun e w'' => e = .returned v ∧ ∃ p : Regrown, w'' = grow (redrawn w p.d) p.os := Calls.regrown_of (h _)
theorem below_quiet (w W : World) (d : Nat) (os : Array Obj) (n : Nat) (hn : n ≤ W.heap.size) (h : Below n w W) : Below n w (grow (redrawn W d) os) := h.trans ((below_regrown W d os).mono hn)
theorem done_quiet {W : World} {g : Nat} {sv : Value} {c : Cp} (h : CpAt W g sv c) (hk : c.kind = -1) {d : Nat} {os : Array Obj} : Calls Tryz.prog 18 #[.pointer (some ⟨g, 0, none⟩)] (grow (redrawn W d) os) fun e w'' => e = .returned (.bool true) ∧ ∃ p : Regrown, w'' = grow (redrawn W p.d) p.os :=
  Calls.regrown_of ((cp_done g sv c _ (CpAt.below h (below_regrown W d os))).mono fun e w' ⟨h1, h2⟩ => ⟨by rw [h1, hk]; rfl, by rw [h2]; exact Below.refl _ _⟩)
theorem CpAt.range {w : World} {g : Nat} {sv : Value} {c : Cp} (h : CpAt w g sv c) : w.rangeAt g 0 c.r.cells := fun j v hv => by
  rw [Nat.zero_add]
  refine (h.blk.cell j).trans ?_
  have hj : j < c.r.cells.length := (List.getElem?_eq_some_iff.1 hv).1
  unfold Cp.cells
  rw [List.getElem?_append_left hj]
  exact hv
theorem range_quiet {W : World} {b o : Nat} {cs : List Value} (h : W.rangeAt b o cs) : ∀ w', (∃ p : Regrown, w' = grow (redrawn W p.d) p.os) → w'.rangeAt b o cs := by
  rintro _ ⟨p, rfl⟩ j v hv
  exact cell_regrown (h j v hv) p.d p.os
/-- a row is loaded, in a region that only reads -/
theorem quiet_load {P : Program} {o : Oper} {a : Act} {C : World → Prop} {K : Act → Prop} {b : Bool} {E : Prop} (hb : b = true) (ty : TypeId) (x : Operand) (ho : o.op = .load ty x) (g : Nat) (hx : a.eval x = .pointer (some ⟨g, 0, none⟩)) (cs : List Value) (d : TypeDesc) (hS : ∀ w, C w → w.rangeAt g 0 cs)
    (hu : P.underlying ty = some d) (hd : d.isRow = true) (hi : (P.info? ty).map (·.size) = some cs.length) (h : K (a.put o.dst (.agg cs.toArray))) : if b = true then o.quiet P a C K else E := by
  rw [if_pos hb]
  refine ⟨.agg cs.toArray, fun w hw => ?_, h⟩
  unfold Oper.quietAt execOp
  simp only [ho, hx, Instr.loadAt, Instr.sureAddr, Sem.run_bind, Sem.run_pure, Result.andThen_ok, run_loadVar_mid w g 0 ty cs d (hS w hw) hu hd hi]
  exact ⟨rfl, rfl⟩
/-- two values are compared -/
theorem quiet_bin {P : Program} {o : Oper} {a : Act} {C : World → Prop} {K : Act → Prop} {b : Bool} {E : Prop} (hb : b = true) (op : BinOp) (ty : TypeId) (x y : Operand) (ty' : TypeId) (ho : o.op = .binOp op ty x y ty') (v vx vy : Value) (hx : a.eval x = vx) (hy : a.eval y = vy)
    (hr : ∀ w, (do eqGuard op ty x y vx vy; binOp op ty vx vy : Sem Value).run P w = .ok v w) (h : K (a.put o.dst v)) : if b = true then o.quiet P a C K else E := by
  rw [if_pos hb]
  refine ⟨v, fun w hw => ?_, h⟩
  unfold Oper.quietAt execOp
  simp only [ho, hx, hy, Sem.run_bind, Sem.run_pure]
  have := hr w
  rw [Sem.run_bind] at this
  rw [this]
  exact ⟨rfl, rfl⟩
theorem quiet_cell {W : World} {a : Addr} {v : Value} (h : W.cell? a = some v) : ∀ d os, (grow (redrawn W d) os).cell? a = some v := fun d os => cell_regrown h d os
theorem done_quietB {W : World} {g : Nat} {sv : Value} {c : Cp} (h : CpAt W g sv c) {d : Nat} {os : Array Obj} : Calls Tryz.prog 18 #[.pointer (some ⟨g, 0, none⟩)] (grow (redrawn W d) os) fun e w'' => e = .returned (.bool (c.kind == -1)) ∧ ∃ p : Regrown, w'' = grow (redrawn W p.d) p.os :=
  Calls.regrown_of ((cp_done g sv c _ (CpAt.below h (below_regrown W d os))).mono fun e w' ⟨h1, h2⟩ => ⟨h1, by rw [h2]; exact Below.refl _ _⟩)
end Go.Proofs.YtifgikjmfmkgeaaGreat
