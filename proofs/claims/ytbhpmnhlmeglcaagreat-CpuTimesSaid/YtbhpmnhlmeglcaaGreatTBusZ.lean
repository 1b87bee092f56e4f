/- Texts that are laid together: BusZ. -/
import Derived.Test.YtbhpmnhlmeglcaaGreatTCpuZ
import Derived.Test.YtbhpmnhlmeglcaaGreatTMem
import Derived.Deep.RegionLaw
import Derived.RegionTactic
import Derived.BigRegion
import Derived.Deep.RegionWith
import Derived.Deep.RegionHeld3
namespace Go.Proofs.YtbhpmnhlmeglcaaGreat
set_option linter.unusedSimpArgs false
set_option linter.unusedVariables false
open Go.RowKit
theorem step_appT {P : Program} (w : World) {ops : Array Oper} {o : Oper} {a : Act} {K : Act → World → Prop} {Q : Exit → Act → World → Prop} {E : Prop} (hgd : o.guard = none) (s x : Operand) (t : TypeId)
    (ho : o.op = .call { callee := .builtin .append, args := #[s, x], argTypes := #[t, t] })
    (base : Nat) (e : TypeId) (z : Value) (size bytes : Nat) (ht : P.underlying t = some (.slice e)) (hi : (P.info? e).map (fun i => (i.zero, i.size, i.bytes)) = some (some z, size, bytes)) (hzs : z.cells.size = size) (hsz : 0 < size)
    (v : Value) (n : Nat) (xs : List Value) (hs : a.eval s = v) (hown : w.ownsRow base e size v n xs) (cs : Array Value) (m : Nat) (hx : a.eval x = .slice (some ⟨w.heap.size, 0, none⟩) m m) (hcs : cs.size = m * size) (hu : cs.all (·.oneCell') = true)
    (hm : 0 < m) (hbytes : (n + m) * bytes ≤ 140737488355328) (hb1 : 1 ≤ bytes) (hbase : base ≤ w.heap.size)
    (h : ∀ g c w', w'.ownsRow base e size (.slice (some ⟨g, 0, none⟩) (n + m) c) (n + m) (xs ++ cs.toList) → w.grownBy w' v.ownBlock → (v.ownBlock = some g ∨ w.heap.size ≤ g) → K (a.put o.dst (.slice (some ⟨g, 0, none⟩) (n + m) c)) w') :
    if Region.wanted o (yielded ops a.tmps) = true then Oper.wp P o a (w.alloc (.cells cs e)) K Q else E := by
  obtain ⟨i0, hi0, hz0, hz1, hz2⟩ := info_parts hi
  refine step_append_lies (w.alloc (.cells cs e)) hgd s x t ho base e i0 z size bytes ht hi0 hz0 hz1 hz2 hzs hsz v n xs hs (hown.alloc _) ⟨w.heap.size, 0, none⟩ m m cs.toList hx (by simpa using hcs) ?_ ?_ hm ?_ hbytes (by simp; omega) _ rfl ?_
  · intro j u hj
    rw [Addr.add_mid, cell_of_row _ _ _ _ _ _ (heap_alloc_new w _)]
    simpa using hj
  · intro u hu'
    obtain ⟨j, hj, rfl⟩ := List.getElem_of_mem hu'
    rw [Array.all_eq_true] at hu
    exact hu j (by simpa using hj)
  · have : n + m ≤ (n + m) * bytes := Nat.le_mul_of_pos_right _ hb1
    unfold maxLen; omega
  · intro g c w' h1 h2 h3 _
    refine h g c w' h1 (grownBy_of_alloc h2) ?_
    rcases h3 with h3 | h3
    · exact .inl h3
    · right
      rw [h3]
      simp
/-- what a port did -/
structure AcV where
  (t : Int) (out : Bool) (port v : Int)
def AcV.cells (a : AcV) : List Value := [.int .u64 a.t, .bool a.out, .int .u16 a.port, .int .u8 a.v]
def flatA (l : List AcV) : List Value := l.flatMap AcV.cells
theorem flatA_snoc (l : List AcV) (a : AcV) : flatA (l ++ [a]) = flatA l ++ a.cells := by simp [flatA]
structure Fl where
  (m : List Int) (t : Int) (line : Bool) (acts : List AcV)
/-- a bus stands in block h; what its ports did lies where av leads; its ports have nothing to tell -/
structure FlAt (w : World) (h : Nat) (av : Value) (f : Fl) : Prop where
  blk : Blk w h 37 (f.m.map (.int .u8) ++ [.slice none 0 0, av, .int .u64 f.t, .bool f.line])
  len : f.m.length = 65536
  own : w.ownsRow 0 156 4 av f.acts.length (flatA f.acts)
  few : f.acts.length ≤ 1000000000
theorem FlAt.byte {w : World} {h : Nat} {av : Value} {f : Fl} (hf : FlAt w h av f) (a : Nat) (ha : a < 65536) : w.cell? ⟨h, a, none⟩ = some (.int .u8 (f.m.getD a 0)) := by
  have h1 : a < f.m.length := by rw [hf.len]; exact ha
  rw [hf.blk.cell a, List.getElem?_append_left (by simpa using h1), List.getElem?_map, List.getElem?_eq_getElem h1]
  simp [List.getD, List.getElem?_eq_getElem h1]
theorem FlAt.tail {w : World} {h : Nat} {av : Value} {f : Fl} (hf : FlAt w h av f) (j k : Nat) (hk : k = 65536 + j) : w.cell? ⟨h, k, none⟩ = [.slice none 0 0, av, .int .u64 f.t, .bool f.line][j]? := by
  subst hk
  have h1 : (f.m.map (Value.int .u8)).length = 65536 := by rw [List.length_map]; exact hf.len
  rw [hf.blk.cell, List.getElem?_append_right (by rw [h1]; exact Nat.le_add_right _ _), h1, Nat.add_sub_cancel_left]
/-- the blocks in which a bus stands -/
def FlP (h : Nat) (av : Value) (k : Nat) : Prop := k = h ∨ av.ownBlock = some k
theorem av_ne {w : World} {h : Nat} {av : Value} {f : Fl} (hf : FlAt w h av f) : av.ownBlock ≠ some h := fun e => by
  obtain ⟨cur, hc⟩ : ∃ cur, w.heap[h]? = some (.cells cur 156 (0, 0)) := by
    rcases hf.own.2 with ⟨hv, _⟩ | ⟨b, cap, cur, hv, _, hb, _⟩
    · rw [hv] at e; cases e
    · rw [hv] at e
      have : b = h := by injection e
      subst this
      exact ⟨cur, hb⟩
  have hb := hf.blk
  unfold Blk at hb
  rw [hc] at hb
  injection hb with hb
  injection hb with _ hb _
  exact absurd hb (by decide)
theorem FlAt.ch {p : Nat → Prop} {w w' : World} {h : Nat} {av : Value} {f : Fl} (hf : FlAt w h av f) (hc : Ch p w w') (hn : ¬ p h) (ha : ∀ k, av.ownBlock = some k → ¬ p k) : FlAt w' h av f :=
  ⟨hc.blk hf.blk hn, hf.len, own_keepC hf.own fun k hk => hc.block k (hf.own.lt k hk).2 (ha k hk), hf.few⟩
def Fl.put (f : Fl) (a : Nat) (v : Int) : Fl := { f with m := f.m.set a v }
theorem FlAt.only {w w' : World} {h : Nat} {av : Value} {f f' : Fl} (hf : FlAt w h av f) (ho : Only h w w') (hb : Blk w' h 37 (f'.m.map (.int .u8) ++ [.slice none 0 0, av, .int .u64 f'.t, .bool f'.line])) (hl : f'.m.length = 65536) (ha : f'.acts = f.acts) : FlAt w' h av f' :=
  ⟨hb, hl, by rw [ha]; exact own_keepC hf.own fun k hk => ho.block k fun e => av_ne hf (by rw [hk, e]), by rw [ha]; exact hf.few⟩
theorem FlAt.put {w : World} {h : Nat} {av : Value} {f : Fl} (hf : FlAt w h av f) (a : Nat) (ha : a < 65536) (v : Int) : FlAt (w.setCell ⟨h, a, none⟩ (.int .u8 v)) h av (f.put a v) := by
  refine hf.only (Only.set h a w _) ?_ (by show (f.m.set a v).length = _; rw [List.length_set]; exact hf.len) rfl
  have := hf.blk.set_ a (.int .u8 v)
  have e : (f.m.map (Value.int .u8) ++ [.slice none 0 0, av, .int .u64 f.t, .bool f.line]).set a (.int .u8 v) = (f.m.set a v).map (Value.int .u8) ++ [.slice none 0 0, av, .int .u64 f.t, .bool f.line] := by
    rw [List.set_append_left _ _ (by rw [List.length_map, hf.len]; exact ha), List.map_set]
  rw [e] at this
  exact this
set_option maxRecDepth 100000 in
theorem fl_read (h : Nat) (av : Value) (f : Fl) (a : Nat) (w : World) (hf : FlAt w h av f) (ha : a < 65536) :
    Calls Tryz.prog 177 #[.pointer (some ⟨h, 0, none⟩), .int .u16 a] w fun e w' => e = .returned (.int .u8 (f.m.getD a 0)) ∧ w' = w := by
  have hc := hf.byte a ha
  have ha2 : (a : Int) < 65536 := by omega
  obtain ⟨v, hv⟩ : ∃ v, v = f.m.getD a 0 := ⟨_, rfl⟩
  rw [← hv] at hc ⊢
  clear hv hf
  go_enter Tryz.func177, Tryz.ntmps177
  go_wp2
  go_ret
  exact ⟨rfl, rfl⟩
set_option maxRecDepth 100000 in
theorem fl_write (h : Nat) (av : Value) (f : Fl) (a : Nat) (v : Int) (w : World) (hf : FlAt w h av f) (ha : a < 65536) :
    Calls Tryz.prog 178 #[.pointer (some ⟨h, 0, none⟩), .int .u16 a, .int .u8 v] w fun e w' => e = .returned (.tuple #[]) ∧ FlAt w' h av (f.put a v) ∧ Only h w w' := by
  have hc := hf.byte a ha
  have hz := hf.blk.frozen a
  have ha2 : (a : Int) < 65536 := by omega
  obtain ⟨x, hx⟩ : ∃ x, x = f.m.getD a 0 := ⟨_, rfl⟩
  rw [← hx] at hc
  have HF := Lib.hid hf
  clear hx hf
  go_enter Tryz.func178, Tryz.ntmps178
  go_wp2
  exact bodyPost_end (results_none rfl _ _ _) rfl ⟨rfl, HF.out.put a ha v, Only.set h a w _⟩
theorem fl_hold (h : Nat) (k a j : Int) (w : World) : Calls Tryz.prog 173 #[.pointer (some ⟨h, 0, none⟩), .int .i64 k, .int .u16 a, .int .i64 j] w fun e w' => e = .returned (.int .i64 0) ∧ w' = w := by
  go_enter Tryz.func173, Tryz.ntmps173
  go_wp2
  go_ret
  exact ⟨rfl, rfl⟩
set_option maxRecDepth 100000 in
theorem fl_int (h : Nat) (av : Value) (f : Fl) (w : World) (hf : FlAt w h av f) : Calls Tryz.prog 175 #[.pointer (some ⟨h, 0, none⟩)] w fun e w' => e = .returned (.bool f.line) ∧ w' = w := by
  have hc : w.cell? ⟨h, 65539, none⟩ = some (.bool f.line) := hf.tail 3 65539 rfl
  clear hf
  go_enter Tryz.func175, Tryz.ntmps175
  go_wp2
  go_ret
  exact ⟨rfl, rfl⟩
theorem underAct : Tryz.prog.underlying 34 = some (.slice 156) := Tryz.underlying34
theorem infoAct : (Tryz.prog.info? 156).map (fun i => (i.zero, i.size, i.bytes)) = some (some (.agg #[.int .u64 0, .bool false, .int .u16 0, .int .u8 0]), 4, 16) := by kernel_rfl
/-- a port does something -/
def Fl.act (f : Fl) (out : Bool) (p v : Int) : Fl := { f with acts := f.acts ++ [⟨f.t, out, p, v⟩] }
/-- what an act leaves: another bus, in its own blocks or in new memory -/
def ActTo (h : Nat) (w : World) (av : Value) (f : Fl) (w' : World) : Prop := ∃ av', FlAt w' h av' f ∧ SvTo w av av' ∧ Ch (FlP h av) w w'
def ActP (r : Value) (h : Nat) (w : World) (av : Value) (f : Fl) (e : Ending) (w' : World) : Prop := e = .returned r ∧ ActTo h w av f w'
theorem Ch.grown {w w' : World} {av : Value} (h : w.grownBy w' av.ownBlock) : Ch (fun k => av.ownBlock = some k) w w' := ⟨h.os, h.tape, h.output, h.size, fun k hk hn => h.block k hk fun e => hn e.symm⟩
theorem act_to (h : Nat) (av : Value) (f : Fl) (out : Bool) (p v : Int) (w w2 : World) (g c : Nat) (hf : FlAt w h av f) (hl : f.acts.length < 1000000000)
    (ho : w2.ownsRow 0 156 4 (.slice (some ⟨g, 0, none⟩) (f.acts.length + 1) c) (f.acts.length + 1) (flatA f.acts ++ (AcV.cells ⟨f.t, out, p, v⟩))) (hg : w.grownBy w2 av.ownBlock) (hp : av.ownBlock = some g ∨ w.heap.size ≤ g) :
    ActTo h w av (f.act out p v) (w2.setCell ⟨h, 65537, none⟩ (.slice (some ⟨g, 0, none⟩) (f.acts.length + 1) c)) := by
  have hb2 : Blk w2 h 37 _ := hf.blk.grown hg (fun e => av_ne hf e.symm)
  have hgh : g ≠ h := fun e => by
    rcases hp with hp | hp
    · exact av_ne hf (by rw [hp, e])
    · have := hf.blk.lt; omega
  have hO := Only.set h 65537 w2 (.slice (some ⟨g, 0, none⟩) (f.acts.length + 1) c)
  refine ⟨.slice (some ⟨g, 0, none⟩) (f.acts.length + 1) c, ⟨?_, hf.len, ?_, ?_⟩, ?_, ?_⟩
  · have := hb2.set_ 65537 (.slice (some ⟨g, 0, none⟩) (f.acts.length + 1) c)
    have hl : (f.m.map (Value.int .u8)).length = 65536 := by rw [List.length_map]; exact hf.len
    have e : (f.m.map (Value.int .u8) ++ [.slice none 0 0, av, .int .u64 f.t, .bool f.line]).set 65537 (.slice (some ⟨g, 0, none⟩) (f.acts.length + 1) c) = f.m.map (Value.int .u8) ++ [.slice none 0 0, .slice (some ⟨g, 0, none⟩) (f.acts.length + 1) c, .int .u64 f.t, .bool f.line] := by
      rw [List.set_append_right _ _ (by rw [hl]; decide), hl]
      rfl
    rw [e] at this
    exact this
  · show World.ownsRow _ _ _ _ _ (f.acts ++ [_]).length (flatA (f.acts ++ [_]))
    rw [List.length_append, flatA_snoc]
    refine own_keepC ho fun k hk => hO.block k fun e => ?_
    have : g = k := by injection hk
    omega
  · show (f.acts ++ [_]).length ≤ _
    rw [List.length_append]
    exact hl
  · rcases hp with hp | hp
    · exact .inl hp.symm
    · refine .inr fun b hb => ?_
      have : g = b := by injection hb
      omega
  · exact (Ch.grown hg).trans (Only.ch hO) (fun i _ hi => .inr hi) fun i _ hi => .inl hi
set_option maxRecDepth 100000 in
set_option maxHeartbeats 4000000 in
theorem fl_out (h : Nat) (av : Value) (f : Fl) (p v : Int) (w : World) (hf : FlAt w h av f) (hl : f.acts.length < 1000000000) :
    Calls Tryz.prog 176 #[.pointer (some ⟨h, 0, none⟩), .int .u16 p, .int .u8 v] w (ActP (.tuple #[]) h w av (f.act true p v)) := by
  have c37 : w.cell? ⟨h, 65537, none⟩ = some av := hf.tail 1 65537 rfl
  have c38 : w.cell? ⟨h, 65538, none⟩ = some (.int .u64 f.t) := hf.tail 2 65538 rfl
  have z37 := hf.blk.frozen 65537
  have e37 : ∀ o, (w.alloc o).cell? ⟨h, 65537, none⟩ = some av := fun o => ((hf.blk.alloc o).cell 65537).trans ((hf.blk.cell 65537).symm.trans c37)
  obtain ⟨n, hn⟩ : ∃ n, n = f.acts.length := ⟨_, rfl⟩
  have hlt : n < 1000000000 := by omega
  have HO : Hid (w.ownsRow 0 156 4 av n (flatA f.acts)) := by show World.ownsRow _ _ _ _ _ _ _; rw [hn]; exact hf.own
  obtain ⟨T, hT⟩ : ∃ T, T = f.t := ⟨_, rfl⟩
  have HK : Hid (∀ w2 g c, w2.ownsRow 0 156 4 (.slice (some ⟨g, 0, none⟩) (n + 1) c) (n + 1) (flatA f.acts ++ #[.int .u64 T, .bool true, .int .u16 p, .int .u8 v].toList) → w.grownBy w2 av.ownBlock → (av.ownBlock = some g ∨ w.heap.size ≤ g) → w2.cell? ⟨h, 65537, none⟩ = some av ∧ w2.frozen? ⟨h, 65537, none⟩ = false ∧ ActTo h w av (f.act true p v) (w2.setCell ⟨h, 65537, none⟩ (.slice (some ⟨g, 0, none⟩) (n + 1) c))) := Lib.hid (fun w2 g c h1 h2 h3 => by
    have hb2 : Blk w2 h 37 _ := hf.blk.grown h2 (fun e => av_ne hf e.symm)
    refine ⟨(hb2.cell 65537).trans ((hf.blk.cell 65537).symm.trans c37), hb2.frozen _, ?_⟩
    rw [hT] at h1
    rw [hn] at h1 ⊢
    exact act_to h av f true p v w w2 g c hf hl h1 h2 h3)
  rw [← hT] at c38
  clear hf hl hn hT
  go_enter Tryz.func176, Tryz.ntmps176
  go_wp2_with fail
  go_region_law (
    refine step_appT w.drew rfl (.tmp 10) (.tmp 18) 34 rfl 0 156 _ 4 16 underAct infoAct rfl (by decide) av n _ rfl HO.out #[.int .u64 T, .bool true, .int .u16 p, .int .u8 v] 1 rfl rfl (by simp [Value.oneCell']) (by decide) (by omega) (by decide) (Nat.zero_le _) ?_
    intro g2 c2 w2 hown2 hg2 hp2
    obtain ⟨d37, y37, hk⟩ := HK.out w2 g2 c2 hown2 ⟨hg2.os, hg2.tape, hg2.output, hg2.size, hg2.block⟩ hp2
    have HA := Lib.hid hk
    clear hown2 hg2 hp2 hk)
  all_goals exact bodyPost_end (results_none rfl _ _ _) rfl ⟨rfl, HA.out⟩
set_option maxRecDepth 100000 in
set_option maxHeartbeats 4000000 in
theorem fl_in (h : Nat) (av : Value) (f : Fl) (p : Int) (w : World) (hf : FlAt w h av f) (hl : f.acts.length < 1000000000) :
    Calls Tryz.prog 174 #[.pointer (some ⟨h, 0, none⟩), .int .u16 p] w (ActP (.int .u8 255) h w av (f.act false p 255)) := by
  have c36 : w.cell? ⟨h, 65536, none⟩ = some (.slice none 0 0) := hf.tail 0 65536 rfl
  have c37 : w.cell? ⟨h, 65537, none⟩ = some av := hf.tail 1 65537 rfl
  have c38 : w.cell? ⟨h, 65538, none⟩ = some (.int .u64 f.t) := hf.tail 2 65538 rfl
  have z37 := hf.blk.frozen 65537
  have e37 : ∀ o, (w.alloc o).cell? ⟨h, 65537, none⟩ = some av := fun o => ((hf.blk.alloc o).cell 65537).trans ((hf.blk.cell 65537).symm.trans c37)
  obtain ⟨n, hn⟩ : ∃ n, n = f.acts.length := ⟨_, rfl⟩
  have hlt : n < 1000000000 := by omega
  have HO : Hid (w.ownsRow 0 156 4 av n (flatA f.acts)) := by show World.ownsRow _ _ _ _ _ _ _; rw [hn]; exact hf.own
  obtain ⟨T, hT⟩ : ∃ T, T = f.t := ⟨_, rfl⟩
  have HK : Hid (∀ w2 g c, w2.ownsRow 0 156 4 (.slice (some ⟨g, 0, none⟩) (n + 1) c) (n + 1) (flatA f.acts ++ #[.int .u64 T, .bool false, .int .u16 p, .int .u8 255].toList) → w.grownBy w2 av.ownBlock → (av.ownBlock = some g ∨ w.heap.size ≤ g) → w2.cell? ⟨h, 65537, none⟩ = some av ∧ w2.frozen? ⟨h, 65537, none⟩ = false ∧ ActTo h w av (f.act false p 255) (w2.setCell ⟨h, 65537, none⟩ (.slice (some ⟨g, 0, none⟩) (n + 1) c))) := Lib.hid (fun w2 g c h1 h2 h3 => by
    have hb2 : Blk w2 h 37 _ := hf.blk.grown h2 (fun e => av_ne hf e.symm)
    refine ⟨(hb2.cell 65537).trans ((hf.blk.cell 65537).symm.trans c37), hb2.frozen _, ?_⟩
    rw [hT] at h1
    rw [hn] at h1 ⊢
    exact act_to h av f false p 255 w w2 g c hf hl h1 h2 h3)
  rw [← hT] at c38
  clear hf hl hn hT
  go_enter Tryz.func174, Tryz.ntmps174
  go_wp2_with fail
  go_region_law (
    refine step_appT w.drew rfl (.tmp 30) (.tmp 38) 34 rfl 0 156 _ 4 16 underAct infoAct rfl (by decide) av n _ rfl HO.out #[.int .u64 T, .bool false, .int .u16 p, .int .u8 255] 1 rfl rfl (by simp [Value.oneCell']) (by decide) (by omega) (by decide) (Nat.zero_le _) ?_
    intro g2 c2 w2 hown2 hg2 hp2
    obtain ⟨d37, y37, hk⟩ := HK.out w2 g2 c2 hown2 ⟨hg2.os, hg2.tape, hg2.output, hg2.size, hg2.block⟩ hp2
    have HA := Lib.hid hk
    clear hown2 hg2 hp2 hk)
  all_goals
    go_wp2
    go_ret
    exact ⟨rfl, HA.out⟩
end Go.Proofs.YtbhpmnhlmeglcaaGreat
namespace Go.Proofs.YtbhpmnhlmeglcaaGreat
set_option linter.unusedSimpArgs false
set_option linter.unusedVariables false
open Go.RowKit
theorem own_typ {w : World} {e : TypeId} {size n k : Nat} {v : Value} {xs : List Value} (h : w.ownsRow 0 e size v n xs) (hk : v.ownBlock = some k) : ∃ cur, w.heap[k]? = some (.cells cur e (0, 0)) := by
  rcases h.2 with ⟨hv, _⟩ | ⟨b, cap, cur, hv, _, h3, _⟩
  · rw [hv] at hk; cases hk
  · rw [hv] at hk
    have : b = k := by injection hk
    subst this
    exact ⟨cur, h3⟩
theorem typ_ne {w : World} {a b : Nat} {s t : TypeId} {x y : Array Value} {p q : Nat × Nat} (ha : w.heap[a]? = some (.cells x s p)) (hb : w.heap[b]? = some (.cells y t q)) (hst : s ≠ t) : a ≠ b := fun e => by
  subst e
  rw [ha] at hb
  injection hb with hb
  injection hb with _ hb _
  exact hst hb
/-- the processor's blocks and the bus's are others -/
theorem fl_ne {w : World} {g h : Nat} {sv av : Value} {c : Cp} {f : Fl} (hc : CpAt w g sv c) (hf : FlAt w h av f) : ¬ CpP g sv h := fun hp => by
  have hb := hf.blk
  unfold Blk at hb
  rcases hp with rfl | hp
  · have h2 := hc.blk
    unfold Blk at h2
    exact typ_ne hb h2 (by decide) rfl
  · obtain ⟨cur, h2⟩ := own_typ hc.own hp
    exact typ_ne hb h2 (by decide) rfl
theorem av_far {w : World} {g h : Nat} {sv av : Value} {c : Cp} {f : Fl} (hc : CpAt w g sv c) (hf : FlAt w h av f) : ∀ k, av.ownBlock = some k → ¬ CpP g sv k := fun k hk hp => by
  obtain ⟨cur, h1⟩ := own_typ hf.own hk
  rcases hp with rfl | hp
  · have h2 := hc.blk
    unfold Blk at h2
    exact typ_ne h1 h2 (by decide) rfl
  · obtain ⟨cur, h2⟩ := own_typ hc.own hp
    exact typ_ne h1 h2 (by decide) rfl
theorem fl_apart {w : World} {g h : Nat} {sv av : Value} {c : Cp} {f : Fl} (hc : CpAt w g sv c) (hf : FlAt w h av f) (k : Nat) (hk : FlP h av k) : ¬ CpP g sv k := by
  rcases hk with rfl | hk
  · exact fl_ne hc hf
  · exact av_far hc hf k hk
theorem FlAt.drew {w w' : World} {h : Nat} {av : Value} {f : Fl} (hf : FlAt w h av f) (hd : Drew w w') : FlAt w' h av f := hf.ch (p := fun _ => False) (Drew.ch hd) (fun h => h) (fun _ _ h => h)
/-- a processor is left alone by what its bus does -/
theorem CpAt.far {w w' : World} {g h : Nat} {sv av : Value} {c : Cp} {f : Fl} (hc : CpAt w g sv c) (hf : FlAt w h av f) (hch : Ch (FlP h av) w w') : CpAt w' g sv c :=
  ⟨hch.blk hc.blk fun e => fl_apart hc hf g e (.inl rfl), own_keepC hc.own fun k hk => hch.block k (hc.own.lt k hk).2 fun e => fl_apart hc hf k e (.inr hk)⟩
theorem CpAt.drewAt {w w' : World} {g : Nat} {sv : Value} {c : Cp} (h : CpAt w g sv c) (hd : Drew w w') : CpAt w' g sv c := h.turn (Drew.only hd) (hd_blk hd h.blk) rfl
theorem ahead_read (h n : Nat) (w : World) : (nilAhead (n + 1) 31 (.pointer (some ⟨h, 0, none⟩)) "Read").run Tryz.prog w = .ok (some false) w := by kernel_rfl
theorem ahead_write (h n : Nat) (w : World) : (nilAhead (n + 1) 31 (.pointer (some ⟨h, 0, none⟩)) "Write").run Tryz.prog w = .ok (some false) w := by kernel_rfl
theorem ahead_hold (h n : Nat) (w : World) : (nilAhead (n + 1) 31 (.pointer (some ⟨h, 0, none⟩)) "Hold").run Tryz.prog w = .ok (some false) w := by kernel_rfl
theorem ahead_int (h n : Nat) (w : World) : (nilAhead (n + 1) 31 (.pointer (some ⟨h, 0, none⟩)) "Int").run Tryz.prog w = .ok (some false) w := by kernel_rfl
theorem ahead_in (h n : Nat) (w : World) : (nilAhead (n + 1) 31 (.pointer (some ⟨h, 0, none⟩)) "In").run Tryz.prog w = .ok (some false) w := by kernel_rfl
theorem ahead_out (h n : Nat) (w : World) : (nilAhead (n + 1) 31 (.pointer (some ⟨h, 0, none⟩)) "Out").run Tryz.prog w = .ok (some false) w := by kernel_rfl
theorem CpTo.undrew {g : Nat} {w w' : World} {sv : Value} {c : Cp} (h : CpTo g w.drew sv c w') : CpTo g w sv c w' := by
  obtain ⟨sv', h1, h2, h3⟩ := h
  exact ⟨sv', h1, h2, ⟨h3.os, h3.tape, h3.output, h3.size, h3.block⟩⟩
theorem latch_kind (c : Cp) (v : Int) : (c.latch v).kind = c.kind := by unfold Cp.latch; split <;> rfl
/-- what comes of a processor between two cycles -/
def NextTo (c c2 : Cp) : Prop := c.Ok ∧ ((0 < c.second ∧ c2 = c.start 0 c.r.pc 4) ∨ (c.second = 0 ∧ ∃ K, NextN K c c2))
set_option maxHeartbeats 2000000 in
theorem cp_nextTo (g : Nat) (sv : Value) (c c2 : Cp) (w : World) (h : CpAt w g sv c) (hn : NextTo c c2) :
    Calls Tryz.prog 32 #[.pointer (some ⟨g, 0, none⟩)] w (Done (.tuple #[]) g w sv c2) := by
  obtain ⟨ho, ⟨h0, rfl⟩ | ⟨h0, K, hK⟩⟩ := hn
  · have hb := h.blk
    have c34 : w.cell? ⟨g, 34, none⟩ = some (.int .i64 c.second) := hb.cell 34
    have c22 : w.cell? ⟨g, 22, none⟩ = some (.int .u16 c.r.pc) := hb.cell 22
    have H := Lib.hid h
    have hs0 : ¬ c.second ≤ 0 := by omega
    clear h hb ho
    go_enter Tryz.func32, Tryz.ntmps32
    go_wp2_with (first
      | (go_at_call 29; refine (cp_start g sv c _ _ _ _ H.out).mono ?_; rintro e w5 ⟨rfl, h5⟩))
    exact bodyPost_end (results_none rfl _ _ _) rfl ⟨rfl, h5⟩
  · exact cp_next g sv c c2 K w h ho h0 hK
/-- the bus as the interface's value -/
def busV (h : Nat) : Value := .iface 31 (.pointer (some ⟨h, 0, none⟩))
/-- the blocks that may turn -/
def SysP (g h : Nat) (sv av : Value) (k : Nat) : Prop := CpP g sv k ∨ FlP h av k
/-- a processor on its bus is now this one on that -/
def SysTo (g h : Nat) (w : World) (sv av : Value) (c : Cp) (f : Fl) (w' : World) : Prop := ∃ sv' av', CpAt w' g sv' c ∧ FlAt w' h av' f ∧ SvTo w sv sv' ∧ SvTo w av av' ∧ Ch (SysP g h sv av) w w'
theorem CpTo.sys {g h : Nat} {w w' : World} {sv av : Value} {c c0 : Cp} {f : Fl} (hc : CpAt w g sv c0) (hf : FlAt w h av f) (ht : CpTo g w sv c w') : SysTo g h w sv av c f w' := by
  obtain ⟨sv', h1, h2, h3⟩ := ht
  exact ⟨sv', av, h1, hf.ch h3 (fl_ne hc hf) (av_far hc hf), h2, .inl rfl, h3.mono fun _ _ h => .inl h⟩
theorem SvTo.placeF {w : World} {a b : Value} {h i : Nat} (hs : SvTo w a b) (hi : i < w.heap.size) (hp : FlP h b i) : FlP h a i := by
  rcases hp with hp | hp
  · exact .inl hp
  · rcases hs with h | h
    · exact .inr (by rw [← h]; exact hp)
    · exact absurd (h i hp) (by omega)
theorem SysTo.trans {g h : Nat} {w w1 w2 : World} {sv sv1 av av1 : Value} {c2 : Cp} {f2 : Fl} (h2 : SvTo w sv sv1) (ha : SvTo w av av1) (h3 : Ch (SysP g h sv av) w w1) (k : SysTo g h w1 sv1 av1 c2 f2 w2) : SysTo g h w sv av c2 f2 w2 := by
  obtain ⟨sv2, av2, k1, k2, k3, k4, k5⟩ := k
  refine ⟨sv2, av2, k1, k2, h2.trans k3 h3.size, ha.trans k4 h3.size, h3.trans k5 (fun _ _ h => h) fun i hi hp => ?_⟩
  rcases hp with hp | hp
  · exact .inl (h2.place hi hp)
  · exact .inr (ha.placeF hi hp)
def DoneS (g h : Nat) (w : World) (sv av : Value) (c : Cp) (f : Fl) (e : Ending) (w' : World) : Prop := e = .returned (.tuple #[]) ∧ SysTo g h w sv av c f w'
theorem nat_addr {a : Int} (h : B16 a) : ∃ n : Nat, a = n ∧ n < 65536 := ⟨a.toNat, by obtain ⟨h0, h1⟩ := h; omega, by obtain ⟨h0, h1⟩ := h; omega⟩
set_option maxRecDepth 100000 in
set_option maxHeartbeats 4000000 in
theorem fin_read (g h : Nat) (sv av : Value) (c c2 : Cp) (f : Fl) (w : World) (hc : CpAt w g sv c) (hf : FlAt w h av f) (ho : c.Ok) (hk : c.kind = 1) (hnn : c2.kind ≠ -1 ∨ True) (hn : NextTo (c.latch (f.m.getD c.addr.toNat 0)) c2) :
    Calls Tryz.prog 22 #[.pointer (some ⟨g, 0, none⟩), busV h] w (DoneS g h w sv av c2 f) := by
  have hb := hc.blk
  have c42 : w.cell? ⟨g, 42, none⟩ = some (.int .i64 1) := by rw [← hk]; exact hb.cell 42
  obtain ⟨a, ha, ha2⟩ := nat_addr ho.addr
  have c45 : w.cell? ⟨g, 45, none⟩ = some (.int .u16 a) := by rw [← ha]; exact hb.cell 45
  rw [ha, Int.toNat_natCast] at hn
  obtain ⟨v, hv⟩ : ∃ v, v = f.m.getD a 0 := ⟨_, rfl⟩
  have HR := Lib.hid (fun w hf => fl_read h av f a w hf ha2)
  rw [← hv] at hn HR
  have H := Lib.hid hc; have HF := Lib.hid hf; have HN := Lib.hid hn; have HK := Lib.hid hk
  clear hc hf ho hk hb ha hv hn
  unfold busV
  go_enter Tryz.func22, Tryz.ntmps22
  go_wp2_with fail
  have HFD : Hid (FlAt w.drew h av f) := Lib.hid (HF.out.drew ⟨1, rfl⟩)
  have HD : Hid (CpAt w.drew g sv c) := Lib.hid (H.out.drewAt ⟨1, rfl⟩)
  have hna := fun n w => ahead_read h n w
  go_region_with (first
    | (go_at_call 177; refine (HR.out _ ?_).mono ?_; exact HFD.out; rintro e w1 ⟨rfl, rfl⟩)
    | (go_at_call 31; refine (cp_latch g sv c v _ ?_).mono ?_; exact HD.out; rintro e w2 ⟨rfl, h2⟩))
  all_goals
    obtain ⟨sv2, h3, h4, h5⟩ := CpTo.undrew h2
    have H3 := Lib.hid h3; have H4 := Lib.hid h4; have H5 := Lib.hid h5
    have d42 : w2.cell? ⟨g, 42, none⟩ = some (.int .i64 1) := by rw [← HK.out, ← latch_kind c v]; exact h3.blk.cell 42
    clear h2 h3 h4 h5 c42 c45 hna
    go_wp2_with (first
      | (go_at_call 32; refine (cp_nextTo g _ _ c2 _ H3.out HN.out).mono ?_; rintro e w5 ⟨rfl, h6⟩))
    exact bodyPost_end (results_none rfl _ _ _) rfl ⟨rfl, CpTo.sys H.out HF.out (CpTo.step H4.out H5.out h6)⟩
end Go.Proofs.YtbhpmnhlmeglcaaGreat
namespace Go.Proofs.YtbhpmnhlmeglcaaGreat
set_option linter.unusedSimpArgs false
set_option linter.unusedVariables false
open Go.RowKit
/-- what comes of a code that was fetched -/
def FetchTo (code : Int) (c c1 : Cp) : Prop := ∀ (g : Nat) (sv : Value) (w : World), CpAt w g sv c → Calls Tryz.prog 30 #[.pointer (some ⟨g, 0, none⟩), .int .u8 code] w (Done (.tuple #[]) g w sv c1)
set_option maxRecDepth 100000 in
set_option maxHeartbeats 4000000 in
theorem fin_fetch (g h : Nat) (sv av : Value) (c c1 c2 : Cp) (f : Fl) (w : World) (hc : CpAt w g sv c) (hf : FlAt w h av f) (ho : c.Ok) (hk : c.kind = 0) (h1 : FetchTo (f.m.getD c.addr.toNat 0) c c1) (hn : (c1.kind = -1 ∧ c2 = c1) ∨ (c1.kind ≠ -1 ∧ NextTo c1 c2)) :
    Calls Tryz.prog 22 #[.pointer (some ⟨g, 0, none⟩), busV h] w (DoneS g h w sv av c2 f) := by
  have hb := hc.blk
  have c42 : w.cell? ⟨g, 42, none⟩ = some (.int .i64 0) := by rw [← hk]; exact hb.cell 42
  obtain ⟨a, ha, ha2⟩ := nat_addr ho.addr
  have c45 : w.cell? ⟨g, 45, none⟩ = some (.int .u16 a) := by rw [← ha]; exact hb.cell 45
  rw [ha, Int.toNat_natCast] at h1
  obtain ⟨v, hv⟩ : ∃ v, v = f.m.getD a 0 := ⟨_, rfl⟩
  have HR := Lib.hid (fun w hf => fl_read h av f a w hf ha2)
  rw [← hv] at h1 HR
  have H := Lib.hid hc; have HF := Lib.hid hf; have HN := Lib.hid hn; have HK := Lib.hid hk; have HFT := Lib.hid h1
  clear hc hf ho hk hb ha hv hn h1
  unfold busV
  go_enter Tryz.func22, Tryz.ntmps22
  go_wp2_with fail
  have HFD : Hid (FlAt w.drew h av f) := Lib.hid (HF.out.drew ⟨1, rfl⟩)
  have HD : Hid (CpAt w.drew g sv c) := Lib.hid (H.out.drewAt ⟨1, rfl⟩)
  have hna := fun n w => ahead_read h n w
  go_region_with (first
    | (go_at_call 177; refine (HR.out _ ?_).mono ?_; exact HFD.out; rintro e w1 ⟨rfl, rfl⟩)
    | (go_at_call 30; refine (HFT.out g sv _ ?_).mono ?_; exact HD.out; rintro e w2 ⟨rfl, h2⟩))
  all_goals
    obtain ⟨sv2, h3, h4, h5⟩ := CpTo.undrew h2
    have H3 := Lib.hid h3; have H4 := Lib.hid h4; have H5 := Lib.hid h5
    have d42 : w2.cell? ⟨g, 42, none⟩ = some (.int .i64 c1.kind) := h3.blk.cell 42
    have hn := HN.out
    clear h2 h3 h4 h5 c42 c45 hna
    rcases hn with ⟨hk1, rfl⟩ | ⟨hk1, hn⟩
    · have e1 : (c2.kind == -1) = true := by rw [hk1]; rfl
      clear hk1
      go_wp2
      exact bodyPost_ret (results_none rfl _ _ _) rfl ⟨rfl, CpTo.sys H.out HF.out ⟨sv2, H3.out, H4.out, H5.out⟩⟩
    · have e1 : (c1.kind == -1) = false := by simpa using hk1
      have HN2 := Lib.hid hn
      clear hk1 hn
      go_wp2_with (first
        | (go_at_call 32; refine (cp_nextTo g _ _ c2 _ H3.out HN2.out).mono ?_; rintro e w5 ⟨rfl, h6⟩))
      exact bodyPost_end (results_none rfl _ _ _) rfl ⟨rfl, CpTo.sys H.out HF.out (CpTo.step H4.out H5.out h6)⟩
set_option maxRecDepth 100000 in
set_option maxHeartbeats 4000000 in
theorem fin_write (g h : Nat) (sv av : Value) (c c2 : Cp) (f : Fl) (w : World) (hc : CpAt w g sv c) (hf : FlAt w h av f) (ho : c.Ok) (hk : c.kind = 2) (hn : NextTo c c2) :
    Calls Tryz.prog 22 #[.pointer (some ⟨g, 0, none⟩), busV h] w (DoneS g h w sv av c2 (f.put c.addr.toNat c.out)) := by
  have hb := hc.blk
  have c42 : w.cell? ⟨g, 42, none⟩ = some (.int .i64 2) := by rw [← hk]; exact hb.cell 42
  obtain ⟨a, ha, ha2⟩ := nat_addr ho.addr
  have c45 : w.cell? ⟨g, 45, none⟩ = some (.int .u16 a) := by rw [← ha]; exact hb.cell 45
  have c39 : w.cell? ⟨g, 39, none⟩ = some (.int .u8 c.out) := hb.cell 39
  have HA : Hid (c.addr.toNat = a) := by show _ = _; rw [ha]; rfl
  rw [HA.out]
  have HR := Lib.hid (fun w hf => fl_write h av f a c.out w hf ha2)
  have H := Lib.hid hc; have HF := Lib.hid hf; have HN := Lib.hid hn; have HK := Lib.hid hk
  clear hc hf ho hk hb ha hn
  unfold busV
  go_enter Tryz.func22, Tryz.ntmps22
  go_wp2_with fail
  have HFD : Hid (FlAt w.drew h av f) := Lib.hid (HF.out.drew ⟨1, rfl⟩)
  have HD : Hid (CpAt w.drew g sv c) := Lib.hid (H.out.drewAt ⟨1, rfl⟩)
  have hna := fun n w => ahead_write h n w
  go_region_with (first
    | (go_at_call 178; refine (HR.out _ ?_).mono ?_; exact HFD.out; rintro e w2 ⟨rfl, h2, h3⟩))
  all_goals
    have hcp : CpAt w2 g sv c := HD.out.far HFD.out ((Only.ch h3).mono fun _ _ e => .inl e)
    have H2 := Lib.hid h2; have H3 := Lib.hid h3; have HC := Lib.hid hcp
    have d42 : w2.cell? ⟨g, 42, none⟩ = some (.int .i64 2) := by rw [← HK.out]; exact hcp.blk.cell 42
    clear h2 h3 hcp c42 c45 c39 hna
    go_wp2_with (first
      | (go_at_call 32; refine (cp_nextTo g _ _ c2 _ HC.out HN.out).mono ?_; rintro e w5 ⟨rfl, h6⟩))
    have hch : Ch (SysP g h sv av) w w2 := by
      have h3 := H3.out
      exact ⟨h3.os, h3.tape, h3.output, by rw [h3.size]; exact Nat.le_refl _, fun k _ hp => h3.block k fun e => hp (.inr (.inl e))⟩
    exact bodyPost_end (results_none rfl _ _ _) rfl ⟨rfl, SysTo.trans (.inl rfl) (.inl rfl) hch (CpTo.sys HC.out H2.out h6)⟩
set_option maxRecDepth 100000 in
set_option maxHeartbeats 4000000 in
theorem fin_idle (g h : Nat) (sv av : Value) (c c2 : Cp) (f : Fl) (w : World) (hc : CpAt w g sv c) (hf : FlAt w h av f) (hk : c.kind = 4 ∨ c.kind = 5) (hn : NextTo c c2) :
    Calls Tryz.prog 22 #[.pointer (some ⟨g, 0, none⟩), busV h] w (DoneS g h w sv av c2 f) := by
  have hb := hc.blk
  have H := Lib.hid hc; have HF := Lib.hid hf; have HN := Lib.hid hn
  obtain ⟨k, hkk⟩ : ∃ k, k = c.kind := ⟨_, rfl⟩
  rw [← hkk] at hk
  have c42 : w.cell? ⟨g, 42, none⟩ = some (.int .i64 k) := by rw [hkk]; exact hb.cell 42
  clear hc hf hb hn hkk
  unfold busV
  rcases hk with rfl | rfl
  all_goals
    go_enter Tryz.func22, Tryz.ntmps22
    go_wp2_with (first
      | (go_at_call 32; refine (cp_nextTo g _ _ c2 _ H.out HN.out).mono ?_; rintro e w5 ⟨rfl, h6⟩))
    exact bodyPost_end (results_none rfl _ _ _) rfl ⟨rfl, CpTo.sys H.out HF.out h6⟩
theorem ActTo.undrew {h : Nat} {w w' : World} {av : Value} {f : Fl} (k : ActTo h w.drew av f w') : ActTo h w av f w' := by
  obtain ⟨av', h1, h2, h3⟩ := k
  exact ⟨av', h1, h2, ⟨h3.os, h3.tape, h3.output, h3.size, h3.block⟩⟩
theorem ActTo.sys {g h : Nat} {w w1 w2 : World} {sv av : Value} {c c2 : Cp} {f f1 : Fl} (hc : CpAt w g sv c) (hf : FlAt w h av f) (k : ActTo h w av f1 w1) (ht : ∀ av1, FlAt w1 h av1 f1 → CpAt w1 g sv c → SysTo g h w1 sv av1 c2 f1 w2) : SysTo g h w sv av c2 f1 w2 := by
  obtain ⟨av1, h1, h2, h3⟩ := k
  exact SysTo.trans (.inl rfl) h2 (h3.mono fun _ _ e => .inr e) (ht av1 h1 (hc.far hf h3))
set_option maxRecDepth 100000 in
set_option maxHeartbeats 4000000 in
theorem fin_in (g h : Nat) (sv av : Value) (c c2 : Cp) (f : Fl) (w : World) (hc : CpAt w g sv c) (hf : FlAt w h av f) (hk : c.kind = 3) (hp : c.port = true) (hl : f.acts.length < 1000000000) (hn : NextTo (c.latch 255) c2) :
    Calls Tryz.prog 22 #[.pointer (some ⟨g, 0, none⟩), busV h] w (DoneS g h w sv av c2 (f.act false c.addr 255)) := by
  have hb := hc.blk
  have c42 : w.cell? ⟨g, 42, none⟩ = some (.int .i64 3) := by rw [← hk]; exact hb.cell 42
  have c43 : w.cell? ⟨g, 43, none⟩ = some (.bool true) := by rw [← hp]; exact hb.cell 43
  have c45 : w.cell? ⟨g, 45, none⟩ = some (.int .u16 c.addr) := hb.cell 45
  have HR := Lib.hid (fun w hf => fl_in h av f c.addr w hf hl)
  have H := Lib.hid hc; have HF := Lib.hid hf; have HN := Lib.hid hn; have HK := Lib.hid hk
  clear hc hf hk hb hn hp hl
  unfold busV
  go_enter Tryz.func22, Tryz.ntmps22
  go_wp2_with fail
  have HFD : Hid (FlAt w.drew h av f) := Lib.hid (HF.out.drew ⟨1, rfl⟩)
  have HD : Hid (CpAt w.drew g sv c) := Lib.hid (H.out.drewAt ⟨1, rfl⟩)
  have hna := fun n w => ahead_in h n w
  go_region_with (first
    | (go_at_call 174; refine (HR.out _ ?_).mono ?_; exact HFD.out; rintro e w1 ⟨rfl, h1⟩
       have HA := Lib.hid h1
       obtain ⟨av1, h1a, h1b, h1c⟩ := h1
       have HC1 := Lib.hid (HD.out.far HFD.out h1c)
       clear h1a h1b h1c)
    | (go_at_call 31; refine (cp_latch g sv c 255 _ ?_).mono ?_; exact HC1.out; rintro e w2 ⟨rfl, h2⟩))
  all_goals
    have HT2 := Lib.hid h2
    obtain ⟨sv2, h3, h4, h5⟩ := h2
    have H3 := Lib.hid h3; have H4 := Lib.hid h4; have H5 := Lib.hid h5
    have d42 : w2.cell? ⟨g, 42, none⟩ = some (.int .i64 3) := by rw [← HK.out, ← latch_kind c 255]; exact h3.blk.cell 42
    clear h3 h4 h5 c42 c43 c45 hna
    go_wp2_with (first
      | (go_at_call 32; refine (cp_nextTo g _ _ c2 _ H3.out HN.out).mono ?_; rintro e w5 ⟨rfl, h6⟩))
    exact bodyPost_end (results_none rfl _ _ _) rfl ⟨rfl, ActTo.sys H.out HF.out (ActTo.undrew HA.out) fun av1 ha hcc => CpTo.sys hcc ha (CpTo.step H4.out H5.out h6)⟩
set_option maxRecDepth 100000 in
set_option maxHeartbeats 4000000 in
theorem fin_out (g h : Nat) (sv av : Value) (c c2 : Cp) (f : Fl) (w : World) (hc : CpAt w g sv c) (hf : FlAt w h av f) (hk : c.kind = 3) (hp : c.port = false) (hl : f.acts.length < 1000000000) (hn : NextTo c c2) :
    Calls Tryz.prog 22 #[.pointer (some ⟨g, 0, none⟩), busV h] w (DoneS g h w sv av c2 (f.act true c.addr c.out)) := by
  have hb := hc.blk
  have c42 : w.cell? ⟨g, 42, none⟩ = some (.int .i64 3) := by rw [← hk]; exact hb.cell 42
  have c43 : w.cell? ⟨g, 43, none⟩ = some (.bool false) := by rw [← hp]; exact hb.cell 43
  have c45 : w.cell? ⟨g, 45, none⟩ = some (.int .u16 c.addr) := hb.cell 45
  have c39 : w.cell? ⟨g, 39, none⟩ = some (.int .u8 c.out) := hb.cell 39
  have HR := Lib.hid (fun w hf => fl_out h av f c.addr c.out w hf hl)
  have H := Lib.hid hc; have HF := Lib.hid hf; have HN := Lib.hid hn; have HK := Lib.hid hk
  clear hc hf hk hb hn hp hl
  unfold busV
  go_enter Tryz.func22, Tryz.ntmps22
  go_wp2_with fail
  have HFD : Hid (FlAt w.drew h av f) := Lib.hid (HF.out.drew ⟨1, rfl⟩)
  have HD : Hid (CpAt w.drew g sv c) := Lib.hid (H.out.drewAt ⟨1, rfl⟩)
  have hna := fun n w => ahead_out h n w
  go_region_with (first
    | (go_at_call 176; refine (HR.out _ ?_).mono ?_; exact HFD.out; rintro e w2 ⟨rfl, h1⟩))
  all_goals
    have HA := Lib.hid h1
    obtain ⟨av1, h1a, h1b, h1c⟩ := h1
    have HC1 := Lib.hid (HD.out.far HFD.out h1c)
    have d42 : w2.cell? ⟨g, 42, none⟩ = some (.int .i64 3) := by rw [← HK.out]; exact HC1.out.blk.cell 42
    clear h1a h1b h1c c42 c43 c45 c39 hna
    go_wp2_with (first
      | (go_at_call 32; refine (cp_nextTo g _ _ c2 _ HC1.out HN.out).mono ?_; rintro e w5 ⟨rfl, h6⟩))
    exact bodyPost_end (results_none rfl _ _ _) rfl ⟨rfl, ActTo.sys H.out HF.out (ActTo.undrew HA.out) fun av1 ha hcc => CpTo.sys hcc ha h6⟩
end Go.Proofs.YtbhpmnhlmeglcaaGreat
namespace Go.Proofs.YtbhpmnhlmeglcaaGreat
set_option linter.unusedSimpArgs false
set_option linter.unusedVariables false
open Go.RowKit
def Cp.fresh (c : Cp) : Cp := { c with steps := [], at_ := 0, second := 0, wrote := false }
def Cp.begun (c : Cp) : Cp := { c.fresh.start 0 c.r.pc 4 with r := { c.r with hold := false } }
set_option maxRecDepth 100000 in
set_option maxHeartbeats 4000000 in
theorem cp_begin (g h : Nat) (sv av : Value) (c : Cp) (f : Fl) (w : World) (hc : CpAt w g sv c) (hf : FlAt w h av f) (hn : c.nmi = false) (hl : f.line = false) :
    Calls Tryz.prog 21 #[.pointer (some ⟨g, 0, none⟩), busV h] w (DoneS g h w sv av c.begun f) := by
  obtain ⟨A, cap, rfl, hA, hle, hm⟩ := own_form hc.own
  have hb := hc.blk
  have c30 : w.cell? ⟨g, 30, none⟩ = some ((.slice A c.steps.length cap)) := hb.cell 30
  have c31 : w.cell? ⟨g, 31, none⟩ = some (.int .i64 c.at_) := hb.cell 31
  have c34 : w.cell? ⟨g, 34, none⟩ = some (.int .i64 c.second) := hb.cell 34
  have c40 : w.cell? ⟨g, 40, none⟩ = some (.bool c.wrote) := hb.cell 40
  have c27 : w.cell? ⟨g, 27, none⟩ = some (.bool c.r.hold) := hb.cell 27
  have z30 := hb.frozen 30
  have z31 := hb.frozen 31
  have z34 := hb.frozen 34
  have z40 := hb.frozen 40
  have z27 := hb.frozen 27
  have hne : (Value.slice A c.steps.length cap).ownBlock ≠ some g := sv_ne hc
  have hnon := own_none hc.own
  have hfn := fl_ne hc hf
  have HAF := Lib.hid (av_far hc hf)
  obtain ⟨n, hn'⟩ : ∃ n, n = c.steps.length := ⟨_, rfl⟩
  rw [← hn'] at c30 hle hne ⊢
  have hmm : n ≤ cap := hle
  have H := Lib.hid hc; have HF := Lib.hid hf; have HNE := Lib.hid hne; have HON := Lib.hid hnon; have HNN := Lib.hid hn'; have HM := Lib.hid hm; have HFN := Lib.hid hfn; have HNM := Lib.hid hn; have HL := Lib.hid hl; have HB := Lib.hid hb
  clear hc hf hne hnon hn' hA hfn hn hl hb
  unfold busV
  go_enter Tryz.func21, Tryz.ntmps21
  go_upto_region 1 with fail
  generalize hw1 : World.setCell (World.setCell (World.setCell (World.setCell w _ _) _ _) _ _) _ _ = w1
  have HO1 : Hid (Only g w w1) := by show Only _ _ _; rw [← hw1]; exact (((Only.set g 30 w _).trans (Only.set g 31 _ _)).trans (Only.set g 34 _ _)).trans (Only.set g 40 _ _)
  have H1 : Hid (CpAt w1 g (.slice A 0 cap) c.fresh) := by
    show CpAt _ _ _ _
    refine ⟨by rw [← hw1]; exact (((HB.out.set_ 30 _).set_ 31 _).set_ 34 _).set_ 40 _, ?_⟩
    exact own_keepC HON.out fun k hk => HO1.out.block k fun e => HNE.out (by rw [ownBlock_zero A n 0 cap, hk, e])
  have HF1 : Hid (FlAt w1 h av f) := Lib.hid (HF.out.ch (HO1.out.cpp (sv := .slice A c.steps.length cap)) HFN.out HAF.out)
  have HSV : Hid (SvTo w (.slice A n cap) (.slice A 0 cap)) := Lib.hid (.inl (ownBlock_zero A 0 n cap))
  clear hw1 c30 c31 c34 c40 c27 z30 z31 z34 z40 z27
  have d41 : w1.cell? ⟨g, 41, none⟩ = some (.bool false) := by rw [← HNM.out]; exact H1.out.blk.cell 41
  have d27 : w1.cell? ⟨g, 27, none⟩ = some (.bool c.r.hold) := H1.out.blk.cell 27
  have d22 : w1.cell? ⟨g, 22, none⟩ = some (.int .u16 c.r.pc) := H1.out.blk.cell 22
  have hnaI := fun n w => ahead_int h n w
  go_wp2_with (first
    | (go_at_call 175; refine (fl_int h av f _ HF1.out).mono ?_; rintro e w2 ⟨rfl, rfl⟩; rw [HL.out])
    | (go_at_call 29; refine (cp_start g _ c.fresh _ _ _ _ H1.out).mono ?_; rintro e w3 ⟨rfl, h3⟩
       obtain ⟨sv3, h4, h5, h6⟩ := h3
       have H4 := Lib.hid h4; have H5 := Lib.hid h5; have H6 := Lib.hid h6
       have e27 : w3.cell? ⟨g, 27, none⟩ = some (.bool c.r.hold) := h4.blk.cell 27
       have y27 := h4.blk.frozen 27
       clear h4 h5 h6))
  have hfin : CpTo g w3 sv3 c.begun (w3.setCell ⟨g, 27, none⟩ (.bool false)) := H4.out.only (Only.set g 27 w3 _) (H4.out.blk.set_ 27 _) rfl
  have hall : CpTo g w (.slice A n cap) c.begun (w3.setCell ⟨g, 27, none⟩ (.bool false)) := CpTo.step HSV.out HO1.out.cpp (CpTo.step H5.out H6.out hfin)
  have hgo : CpAt w g (.slice A n cap) c := by rw [HNN.out]; exact H.out
  exact bodyPost_end (results_none rfl _ _ _) rfl ⟨rfl, CpTo.sys hgo HF.out hall⟩
end Go.Proofs.YtbhpmnhlmeglcaaGreat
namespace Go.Proofs.YtbhpmnhlmeglcaaGreat
set_option linter.unusedSimpArgs false
set_option linter.unusedVariables false
open Go.RowKit
/-- what comes of a cycle's end -/
inductive FinTo : Cp → Fl → Cp → Fl → Prop
  | fetch (c c1 c2 : Cp) (f : Fl) : c.kind = 0 → FetchTo (f.m.getD c.addr.toNat 0) c c1 → ((c1.kind = -1 ∧ c2 = c1) ∨ (c1.kind ≠ -1 ∧ NextTo c1 c2)) → FinTo c f c2 f
  | read (c c2 : Cp) (f : Fl) : c.kind = 1 → NextTo (c.latch (f.m.getD c.addr.toNat 0)) c2 → FinTo c f c2 f
  | write (c c2 : Cp) (f : Fl) : c.kind = 2 → NextTo c c2 → FinTo c f c2 (f.put c.addr.toNat c.out)
  | inp (c c2 : Cp) (f : Fl) : c.kind = 3 → c.port = true → f.acts.length < 1000000000 → NextTo (c.latch 255) c2 → FinTo c f c2 (f.act false c.addr 255)
  | outp (c c2 : Cp) (f : Fl) : c.kind = 3 → c.port = false → f.acts.length < 1000000000 → NextTo c c2 → FinTo c f c2 (f.act true c.addr c.out)
  | idle (c c2 : Cp) (f : Fl) : c.kind = 4 ∨ c.kind = 5 → NextTo c c2 → FinTo c f c2 f
theorem cp_finish (g h : Nat) (sv av : Value) (c c2 : Cp) (f f2 : Fl) (w : World) (hc : CpAt w g sv c) (hf : FlAt w h av f) (ho : c.Ok) (hn : FinTo c f c2 f2) :
    Calls Tryz.prog 22 #[.pointer (some ⟨g, 0, none⟩), busV h] w (DoneS g h w sv av c2 f2) := by
  cases hn with
  | fetch c1 _ _ hk h1 h2 => exact fin_fetch g h sv av c c1 c2 f w hc hf ho hk h1 h2
  | read _ _ hk h1 => exact fin_read g h sv av c c2 f w hc hf ho hk (.inr trivial) h1
  | write _ _ hk h1 => exact fin_write g h sv av c c2 f w hc hf ho hk h1
  | inp _ _ hk hp hl h1 => exact fin_in g h sv av c c2 f w hc hf hk hp hl h1
  | outp _ _ hk hp hl h1 => exact fin_out g h sv av c c2 f w hc hf hk hp hl h1
  | idle _ _ hk h1 => exact fin_idle g h sv av c c2 f w hc hf hk h1
/-- a T-state of a cycle -/
def Cp.adv (c : Cp) : Cp := if c.kind = 4 then { c with wait := 0, held := false, t := 0, n := c.n - 1 } else { c with wait := 0, held := false, t := c.t + 1 }
/-- a processor that is in a cycle -/
def Cp.inn (c : Cp) : Cp := if c.kind = -1 then c.begun else c
def TickTo (c : Cp) (f : Fl) (c2 : Cp) (f2 : Fl) : Prop := (c.inn.adv.t ≠ c.inn.adv.n ∧ c2 = c.inn.adv ∧ f2 = f) ∨ (c.inn.adv.t = c.inn.adv.n ∧ FinTo c.inn.adv f c2 f2)
/-- between two T-states -/
structure Cp.Calm (c : Cp) : Prop where
  ok : c.Ok
  held : c.held = false
  nmi : c.nmi = false
  t0 : 0 ≤ c.t ∧ c.t ≤ 100
  n0 : 0 ≤ c.n ∧ c.n ≤ 100
theorem ok_begun {c : Cp} (h : c.Ok) : c.begun.Ok := ⟨{ h.r with }, h.code, h.lo, h.hi, h.ea, h.out, h.r.pc, Int.le_refl _, Int.le_refl _, Nat.zero_le _⟩
theorem ok_adv {c : Cp} (h : c.Ok) : c.adv.Ok := by
  unfold Cp.adv
  split
  · exact ⟨h.r, h.code, h.lo, h.hi, h.ea, h.out, h.addr, h.at0, h.at1, h.len⟩
  · exact ⟨h.r, h.code, h.lo, h.hi, h.ea, h.out, h.addr, h.at0, h.at1, h.len⟩
theorem calm_inn {c : Cp} (h : c.Calm) : c.inn.Calm := by
  unfold Cp.inn
  split
  · exact ⟨ok_begun h.ok, rfl, h.nmi, ⟨Int.le_refl _, (by show (0 : Int) ≤ 100; decide)⟩, ⟨(by show (0 : Int) ≤ 4; decide), (by show (4 : Int) ≤ 100; decide)⟩⟩
  · exact h
/-- what a T-state does, once a cycle is begun -/
theorem adv_at {g : Nat} {sv : Value} {c : Cp} {w w' : World} (h : CpAt w g sv c) (ho : Only g w w') (hb : Blk w' g 46 (c.adv.cells sv)) : CpAt w' g sv c.adv := h.turn ho hb (by unfold Cp.adv; split <;> rfl)
set_option maxRecDepth 100000 in
set_option maxHeartbeats 8000000 in
theorem cp_tick1 (g h : Nat) (sv av : Value) (c c2 : Cp) (f f2 : Fl) (w : World) (hc : CpAt w g sv c) (hf : FlAt w h av f) (hm : c.Calm) (hl : f.line = false) (hk : c.kind ≠ -1) (hn : (c.adv.t ≠ c.adv.n ∧ c2 = c.adv ∧ f2 = f) ∨ (c.adv.t = c.adv.n ∧ FinTo c.adv f c2 f2)) :
    Calls Tryz.prog 16 #[.pointer (some ⟨g, 0, none⟩), busV h] w (DoneS g h w sv av c2 f2) := by
  have hb := hc.blk
  have c42 : w.cell? ⟨g, 42, none⟩ = some (.int .i64 c.kind) := hb.cell 42
  have c49 : w.cell? ⟨g, 49, none⟩ = some (.bool c.held) := hb.cell 49
  have c45 : w.cell? ⟨g, 45, none⟩ = some (.int .u16 c.addr) := hb.cell 45
  have c47 : w.cell? ⟨g, 47, none⟩ = some (.int .i64 c.t) := hb.cell 47
  have z48 := hb.frozen 48
  have c48 : w.cell? ⟨g, 48, none⟩ = some (.int .i64 c.wait) := hb.cell 48
  have hk2 : (c.kind == -1) = false := by simpa using hk
  rw [hm.held] at c49
  have H := Lib.hid hc; have HF := Lib.hid hf; have HM := Lib.hid hm; have HN := Lib.hid hn; have HK := Lib.hid hk; have HB := Lib.hid hb
  have hna := fun n w => ahead_hold h n w
  have S3 : ∀ v, (w.drew.setCell ⟨g, 48, none⟩ v).cell? ⟨g, 42, none⟩ = some (.int .i64 c.kind) ∧ (w.drew.setCell ⟨g, 48, none⟩ v).cell? ⟨g, 45, none⟩ = some (.int .u16 c.addr) ∧ (w.drew.setCell ⟨g, 48, none⟩ v).cell? ⟨g, 47, none⟩ = some (.int .i64 c.t) := fun v => ⟨(HB.out.drew.set_ 48 v).cell 42, (HB.out.drew.set_ 48 v).cell 45, (HB.out.drew.set_ 48 v).cell 47⟩
  clear hc hf hm hn hb hk
  unfold busV
  go_enter Tryz.func16, Tryz.ntmps16
  go_wp2_with fail
  go_region_held3 (fun w' => w'.cell? ⟨g, 42, none⟩ = some (.int .i64 c.kind) ∧ w'.cell? ⟨g, 45, none⟩ = some (.int .u16 c.addr) ∧ w'.cell? ⟨g, 47, none⟩ = some (.int .i64 c.t)) (first | exact ⟨c42, c45, c47⟩ | exact S3 _) (first
    | (go_at_call 173; refine (fl_hold h _ _ _ _).mono ?_; rintro e w1 ⟨rfl, rfl⟩))
  generalize hw1 : World.drew _ = w1
  have HO1 : Hid (Only g w w1) := by show Only _ _ _; rw [← hw1]; exact (Only.set g 48 w _).drew
  have H1 : Hid (CpAt w1 g sv { c with wait := 0 }) := Lib.hid (H.out.turn HO1.out (by rw [← hw1]; exact (HB.out.set_ 48 _).drew) rfl)
  clear hw1 c42 c49 c45 c47 c48 z48 S3 hna HB
  have d42 : w1.cell? ⟨g, 42, none⟩ = some (.int .i64 c.kind) := H1.out.blk.cell 42
  have d48 : w1.cell? ⟨g, 48, none⟩ = some (.int .i64 0) := H1.out.blk.cell 48
  have d49 : w1.cell? ⟨g, 49, none⟩ = some (.bool c.held) := H1.out.blk.cell 49
  have d47 : w1.cell? ⟨g, 47, none⟩ = some (.int .i64 c.t) := H1.out.blk.cell 47
  have d46 : w1.cell? ⟨g, 46, none⟩ = some (.int .i64 c.n) := H1.out.blk.cell 46
  have y47 := H1.out.blk.frozen 47
  have y46 := H1.out.blk.frozen 46
  have y49 := H1.out.blk.frozen 49
  have v1 : IntKind.i64.wrap (c.t + 1) = c.t + 1 := by obtain ⟨a, b⟩ := HM.out.t0; rw [IntKind.wrap_i64]; omega
  have v2 : IntKind.i64.wrap (c.n - 1) = c.n - 1 := by obtain ⟨a, b⟩ := HM.out.n0; rw [IntKind.wrap_i64]; omega
  obtain ⟨d, hd⟩ : ∃ d, d = c.adv := ⟨_, rfl⟩
  have HOD : Hid d.Ok := by show d.Ok; rw [hd]; exact ok_adv HM.out.ok
  rw [← hd] at HN
  have HFIN : Hid (∀ w2, Only g w1 w2 → CpAt w2 g sv d → ∀ w3, Only g w2 w3 → CpAt w3 g sv d → FlAt w3 h av f ∧ (∀ c5 f5 w5, SysTo g h w3 sv av c5 f5 w5 → SysTo g h w sv av c5 f5 w5)) := Lib.hid (fun w2 h1 h2 w3 h3 h4 => by
    have hall : Only g w w3 := (HO1.out.trans h1).trans h3
    refine ⟨HF.out.ch (hall.cpp (sv := sv)) (fl_ne H.out HF.out) (av_far H.out HF.out), fun c5 f5 w5 h5 => SysTo.trans (.inl rfl) (.inl rfl) ?_ h5⟩
    exact (hall.cpp (sv := sv)).mono fun _ _ h => .inl h)
  have hk4 : c.kind = 4 ∨ c.kind ≠ 4 := by omega
  rcases hk4 with hk4 | hk4
  · have e4 : (c.kind == 4) = true := by rw [hk4]; rfl
    have hdd : d = { c with wait := 0, held := false, t := 0, n := c.n - 1 } := by rw [hd]; unfold Cp.adv; rw [if_pos hk4]
    clear hd hk4
    go_upto_region 13 with fail
    generalize hw2 : World.setCell (World.setCell (World.setCell (World.setCell (World.setCell w1 _ _) _ _) _ _) _ _) _ _ = w2
    have HO2 : Hid (Only g w1 w2) := by
      show Only _ _ _
      rw [← hw2]
      repeat (with_reducible refine Only.trans ?_ (Only.set g _ _ _))
      exact Only.refl _ _
    have H2 : Hid (CpAt w2 g sv d) := Lib.hid (H1.out.turn HO2.out (by rw [← hw2, hdd]; exact ((((H1.out.blk.set_ 49 _).set_ 49 _).set_ 47 _).set_ 46 _).set_ 47 _) (by rw [hdd]))
    have k47 : w2.cell? ⟨g, 47, none⟩ = some (.int .i64 d.t) := H2.out.blk.cell 47
    have k46 : w2.cell? ⟨g, 46, none⟩ = some (.int .i64 d.n) := H2.out.blk.cell 46
    clear hw2 d42 d48 d49 d47 d46 y47 y46 y49 v1 v2 hdd
    go_quiet (fail)
    have HO3 : Hid (Only g w2 (w2.drewN nq)) := Lib.hid (Drew.only ⟨_, rfl⟩)
    have H3 : Hid (CpAt (w2.drewN nq) g sv d) := Lib.hid (H2.out.drewAt ⟨_, rfl⟩)
    obtain ⟨hf3, hs3⟩ := HFIN.out w2 HO2.out H2.out _ HO3.out H3.out
    have HF3 := Lib.hid hf3; have HS3 := Lib.hid hs3
    clear hf3 hs3
    rcases HN.out with ⟨hne, hc2, hf2⟩ | ⟨heq, hfin⟩
    · have e5 : (d.t == d.n) = false := by simpa using hne
      have HC2 := Lib.hid hc2; have HF2 := Lib.hid hf2
      clear hne hc2 hf2
      go_wp2
      rw [HC2.out, HF2.out]
      exact bodyPost_end (results_none rfl _ _ _) rfl ⟨rfl, HS3.out _ _ _ ⟨sv, av, H3.out, HF3.out, .inl rfl, .inl rfl, Ch.refl _ _⟩⟩
    · have e5 : (d.t == d.n) = true := by rw [heq]; simp
      have HFT := Lib.hid hfin
      clear heq hfin
      go_wp2_with (first
        | (go_at_call 22; refine (cp_finish g h sv av d c2 f f2 _ H3.out HF3.out HOD.out HFT.out).mono ?_; rintro e w5 ⟨rfl, h5⟩))
      exact bodyPost_end (results_none rfl _ _ _) rfl ⟨rfl, HS3.out _ _ _ h5⟩
  · have e4 : (c.kind == 4) = false := by simpa using hk4
    have hdd : d = { c with wait := 0, held := false, t := c.t + 1 } := by rw [hd]; unfold Cp.adv; rw [if_neg hk4]
    clear hd hk4
    go_upto_region 13 with fail
    generalize hw2 : World.setCell (World.setCell (World.setCell w1 _ _) _ _) _ _ = w2
    have HO2 : Hid (Only g w1 w2) := by
      show Only _ _ _
      rw [← hw2]
      repeat (with_reducible refine Only.trans ?_ (Only.set g _ _ _))
      exact Only.refl _ _
    have H2 : Hid (CpAt w2 g sv d) := Lib.hid (H1.out.turn HO2.out (by rw [← hw2, hdd]; exact ((H1.out.blk.set_ 49 _).set_ 49 _).set_ 47 _) (by rw [hdd]))
    have k47 : w2.cell? ⟨g, 47, none⟩ = some (.int .i64 d.t) := H2.out.blk.cell 47
    have k46 : w2.cell? ⟨g, 46, none⟩ = some (.int .i64 d.n) := H2.out.blk.cell 46
    clear hw2 d42 d48 d49 d47 d46 y47 y46 y49 v1 v2 hdd
    go_quiet (fail)
    have HO3 : Hid (Only g w2 (w2.drewN nq)) := Lib.hid (Drew.only ⟨_, rfl⟩)
    have H3 : Hid (CpAt (w2.drewN nq) g sv d) := Lib.hid (H2.out.drewAt ⟨_, rfl⟩)
    obtain ⟨hf3, hs3⟩ := HFIN.out w2 HO2.out H2.out _ HO3.out H3.out
    have HF3 := Lib.hid hf3; have HS3 := Lib.hid hs3
    clear hf3 hs3
    rcases HN.out with ⟨hne, hc2, hf2⟩ | ⟨heq, hfin⟩
    · have e5 : (d.t == d.n) = false := by simpa using hne
      have HC2 := Lib.hid hc2; have HF2 := Lib.hid hf2
      clear hne hc2 hf2
      go_wp2
      rw [HC2.out, HF2.out]
      exact bodyPost_end (results_none rfl _ _ _) rfl ⟨rfl, HS3.out _ _ _ ⟨sv, av, H3.out, HF3.out, .inl rfl, .inl rfl, Ch.refl _ _⟩⟩
    · have e5 : (d.t == d.n) = true := by rw [heq]; simp
      have HFT := Lib.hid hfin
      clear heq hfin
      go_wp2_with (first
        | (go_at_call 22; refine (cp_finish g h sv av d c2 f f2 _ H3.out HF3.out HOD.out HFT.out).mono ?_; rintro e w5 ⟨rfl, h5⟩))
      exact bodyPost_end (results_none rfl _ _ _) rfl ⟨rfl, HS3.out _ _ _ h5⟩
end Go.Proofs.YtbhpmnhlmeglcaaGreat
namespace Go.Proofs.YtbhpmnhlmeglcaaGreat
set_option linter.unusedSimpArgs false
set_option linter.unusedVariables false
open Go.RowKit
theorem calm_begun {c : Cp} (h : c.Calm) : c.begun.Calm := ⟨ok_begun h.ok, rfl, h.nmi, ⟨Int.le_refl _, (by show (0 : Int) ≤ 100; decide)⟩, ⟨(by show (0 : Int) ≤ 4; decide), (by show (4 : Int) ≤ 100; decide)⟩⟩
set_option maxRecDepth 100000 in
set_option maxHeartbeats 8000000 in
theorem cp_tick0 (g h : Nat) (sv av : Value) (c c2 : Cp) (f f2 : Fl) (w : World) (hc : CpAt w g sv c) (hf : FlAt w h av f) (hm : c.Calm) (hl : f.line = false) (hk : c.kind = -1) (hn : (c.begun.adv.t ≠ c.begun.adv.n ∧ c2 = c.begun.adv ∧ f2 = f) ∨ (c.begun.adv.t = c.begun.adv.n ∧ FinTo c.begun.adv f c2 f2)) :
    Calls Tryz.prog 16 #[.pointer (some ⟨g, 0, none⟩), busV h] w (DoneS g h w sv av c2 f2) := by
  have hb := hc.blk
  have c42 : w.cell? ⟨g, 42, none⟩ = some (.int .i64 (-1)) := by rw [← hk]; exact hb.cell 42
  have HBG := Lib.hid (cp_begin g h sv av c f w hc hf hm.nmi hl)
  obtain ⟨b, hbb⟩ : ∃ b, b = c.begun := ⟨_, rfl⟩
  have HM : Hid b.Calm := by show b.Calm; rw [hbb]; exact calm_begun hm
  have HK0 : Hid (b.held = false) := by show _ = _; rw [hbb]; rfl
  rw [← hbb] at hn HBG
  have HN := Lib.hid hn
  clear hc hf hm hn hb hk hbb
  unfold busV at HBG ⊢
  go_enter Tryz.func16, Tryz.ntmps16
  go_wp2_with (first
    | (go_at_call 21; refine HBG.out.mono ?_; rintro e w0 ⟨rfl, sv0, av0, h1, h2, h3, h3a, h4⟩
       have H := Lib.hid h1; have HF := Lib.hid h2; have HS0 := Lib.hid h3; have HA0 := Lib.hid h3a; have HC0 := Lib.hid h4
       have HB := Lib.hid h1.blk
       have c42 : w0.cell? ⟨g, 42, none⟩ = some (.int .i64 b.kind) := h1.blk.cell 42
       have c49 : w0.cell? ⟨g, 49, none⟩ = some (.bool false) := by (rw [← HK0.out]; exact h1.blk.cell 49)
       have c45 : w0.cell? ⟨g, 45, none⟩ = some (.int .u16 b.addr) := h1.blk.cell 45
       have c47 : w0.cell? ⟨g, 47, none⟩ = some (.int .i64 b.t) := h1.blk.cell 47
       have c48 : w0.cell? ⟨g, 48, none⟩ = some (.int .i64 b.wait) := h1.blk.cell 48
       have z48 := h1.blk.frozen 48
       clear h1 h2 h3 h3a h4))
  have hna := fun n w => ahead_hold h n w
  have S3 : ∀ v, (w0.drew.setCell ⟨g, 48, none⟩ v).cell? ⟨g, 42, none⟩ = some (.int .i64 b.kind) ∧ (w0.drew.setCell ⟨g, 48, none⟩ v).cell? ⟨g, 45, none⟩ = some (.int .u16 b.addr) ∧ (w0.drew.setCell ⟨g, 48, none⟩ v).cell? ⟨g, 47, none⟩ = some (.int .i64 b.t) := fun v => ⟨(HB.out.drew.set_ 48 v).cell 42, (HB.out.drew.set_ 48 v).cell 45, (HB.out.drew.set_ 48 v).cell 47⟩
  go_region_held3 (fun w' => w'.cell? ⟨g, 42, none⟩ = some (.int .i64 b.kind) ∧ w'.cell? ⟨g, 45, none⟩ = some (.int .u16 b.addr) ∧ w'.cell? ⟨g, 47, none⟩ = some (.int .i64 b.t)) (first | exact ⟨c42, c45, c47⟩ | exact S3 _) (first
    | (go_at_call 173; refine (fl_hold h _ _ _ _).mono ?_; rintro e w1 ⟨rfl, rfl⟩))
  generalize hw1 : World.drew _ = w1
  have HO1 : Hid (Only g w0 w1) := by show Only _ _ _; rw [← hw1]; exact (Only.set g 48 w0 _).drew
  have H1 : Hid (CpAt w1 g sv0 { b with wait := 0 }) := Lib.hid (H.out.turn HO1.out (by rw [← hw1]; exact (HB.out.set_ 48 _).drew) rfl)
  clear hw1 c42 c49 c45 c47 c48 z48 S3 hna HB
  have d42 : w1.cell? ⟨g, 42, none⟩ = some (.int .i64 b.kind) := H1.out.blk.cell 42
  have d48 : w1.cell? ⟨g, 48, none⟩ = some (.int .i64 0) := H1.out.blk.cell 48
  have d49 : w1.cell? ⟨g, 49, none⟩ = some (.bool b.held) := H1.out.blk.cell 49
  have d47 : w1.cell? ⟨g, 47, none⟩ = some (.int .i64 b.t) := H1.out.blk.cell 47
  have d46 : w1.cell? ⟨g, 46, none⟩ = some (.int .i64 b.n) := H1.out.blk.cell 46
  have y47 := H1.out.blk.frozen 47
  have y46 := H1.out.blk.frozen 46
  have y49 := H1.out.blk.frozen 49
  have v1 : IntKind.i64.wrap (b.t + 1) = b.t + 1 := by obtain ⟨a, b⟩ := HM.out.t0; rw [IntKind.wrap_i64]; omega
  have v2 : IntKind.i64.wrap (b.n - 1) = b.n - 1 := by obtain ⟨a, b⟩ := HM.out.n0; rw [IntKind.wrap_i64]; omega
  obtain ⟨d, hd⟩ : ∃ d, d = b.adv := ⟨_, rfl⟩
  have HOD : Hid d.Ok := by show d.Ok; rw [hd]; exact ok_adv HM.out.ok
  rw [← hd] at HN
  have HFIN : Hid (∀ w2, Only g w1 w2 → CpAt w2 g sv0 d → ∀ w3, Only g w2 w3 → CpAt w3 g sv0 d → FlAt w3 h av0 f ∧ (∀ c5 f5 w5, SysTo g h w3 sv0 av0 c5 f5 w5 → SysTo g h w sv av c5 f5 w5)) := Lib.hid (fun w2 h1 h2 w3 h3 h4 => by
    have hall : Only g w0 w3 := (HO1.out.trans h1).trans h3
    refine ⟨HF.out.ch (hall.cpp (sv := sv0)) (fl_ne H.out HF.out) (av_far H.out HF.out), fun c5 f5 w5 h5 => SysTo.trans HS0.out HA0.out HC0.out (SysTo.trans (.inl rfl) (.inl rfl) ?_ h5)⟩
    exact (hall.cpp (sv := sv0)).mono fun _ _ h => .inl h)
  have hk4 : b.kind = 4 ∨ b.kind ≠ 4 := by omega
  rcases hk4 with hk4 | hk4
  · have e4 : (b.kind == 4) = true := by rw [hk4]; rfl
    have hdd : d = { b with wait := 0, held := false, t := 0, n := b.n - 1 } := by rw [hd]; unfold Cp.adv; rw [if_pos hk4]
    clear hd hk4
    go_upto_region 13 with fail
    generalize hw2 : World.setCell (World.setCell (World.setCell (World.setCell (World.setCell w1 _ _) _ _) _ _) _ _) _ _ = w2
    have HO2 : Hid (Only g w1 w2) := by
      show Only _ _ _
      rw [← hw2]
      repeat (with_reducible refine Only.trans ?_ (Only.set g _ _ _))
      exact Only.refl _ _
    have H2 : Hid (CpAt w2 g sv0 d) := Lib.hid (H1.out.turn HO2.out (by rw [← hw2, hdd]; exact ((((H1.out.blk.set_ 49 _).set_ 49 _).set_ 47 _).set_ 46 _).set_ 47 _) (by rw [hdd]))
    have k47 : w2.cell? ⟨g, 47, none⟩ = some (.int .i64 d.t) := H2.out.blk.cell 47
    have k46 : w2.cell? ⟨g, 46, none⟩ = some (.int .i64 d.n) := H2.out.blk.cell 46
    clear hw2 d42 d48 d49 d47 d46 y47 y46 y49 v1 v2 hdd
    go_quiet (fail)
    have HO3 : Hid (Only g w2 (w2.drewN nq)) := Lib.hid (Drew.only ⟨_, rfl⟩)
    have H3 : Hid (CpAt (w2.drewN nq) g sv0 d) := Lib.hid (H2.out.drewAt ⟨_, rfl⟩)
    obtain ⟨hf3, hs3⟩ := HFIN.out w2 HO2.out H2.out _ HO3.out H3.out
    have HF3 := Lib.hid hf3; have HS3 := Lib.hid hs3
    clear hf3 hs3
    rcases HN.out with ⟨hne, hc2, hf2⟩ | ⟨heq, hfin⟩
    · have e5 : (d.t == d.n) = false := by simpa using hne
      have HC2 := Lib.hid hc2; have HF2 := Lib.hid hf2
      clear hne hc2 hf2
      go_wp2
      rw [HC2.out, HF2.out]
      exact bodyPost_end (results_none rfl _ _ _) rfl ⟨rfl, HS3.out _ _ _ ⟨sv0, av0, H3.out, HF3.out, .inl rfl, .inl rfl, Ch.refl _ _⟩⟩
    · have e5 : (d.t == d.n) = true := by rw [heq]; simp
      have HFT := Lib.hid hfin
      clear heq hfin
      go_wp2_with (first
        | (go_at_call 22; refine (cp_finish g h sv0 av0 d c2 f f2 _ H3.out HF3.out HOD.out HFT.out).mono ?_; rintro e w5 ⟨rfl, h5⟩))
      exact bodyPost_end (results_none rfl _ _ _) rfl ⟨rfl, HS3.out _ _ _ h5⟩
  · have e4 : (b.kind == 4) = false := by simpa using hk4
    have hdd : d = { b with wait := 0, held := false, t := b.t + 1 } := by rw [hd]; unfold Cp.adv; rw [if_neg hk4]
    clear hd hk4
    go_upto_region 13 with fail
    generalize hw2 : World.setCell (World.setCell (World.setCell w1 _ _) _ _) _ _ = w2
    have HO2 : Hid (Only g w1 w2) := by
      show Only _ _ _
      rw [← hw2]
      repeat (with_reducible refine Only.trans ?_ (Only.set g _ _ _))
      exact Only.refl _ _
    have H2 : Hid (CpAt w2 g sv0 d) := Lib.hid (H1.out.turn HO2.out (by rw [← hw2, hdd]; exact ((H1.out.blk.set_ 49 _).set_ 49 _).set_ 47 _) (by rw [hdd]))
    have k47 : w2.cell? ⟨g, 47, none⟩ = some (.int .i64 d.t) := H2.out.blk.cell 47
    have k46 : w2.cell? ⟨g, 46, none⟩ = some (.int .i64 d.n) := H2.out.blk.cell 46
    clear hw2 d42 d48 d49 d47 d46 y47 y46 y49 v1 v2 hdd
    go_quiet (fail)
    have HO3 : Hid (Only g w2 (w2.drewN nq)) := Lib.hid (Drew.only ⟨_, rfl⟩)
    have H3 : Hid (CpAt (w2.drewN nq) g sv0 d) := Lib.hid (H2.out.drewAt ⟨_, rfl⟩)
    obtain ⟨hf3, hs3⟩ := HFIN.out w2 HO2.out H2.out _ HO3.out H3.out
    have HF3 := Lib.hid hf3; have HS3 := Lib.hid hs3
    clear hf3 hs3
    rcases HN.out with ⟨hne, hc2, hf2⟩ | ⟨heq, hfin⟩
    · have e5 : (d.t == d.n) = false := by simpa using hne
      have HC2 := Lib.hid hc2; have HF2 := Lib.hid hf2
      clear hne hc2 hf2
      go_wp2
      rw [HC2.out, HF2.out]
      exact bodyPost_end (results_none rfl _ _ _) rfl ⟨rfl, HS3.out _ _ _ ⟨sv0, av0, H3.out, HF3.out, .inl rfl, .inl rfl, Ch.refl _ _⟩⟩
    · have e5 : (d.t == d.n) = true := by rw [heq]; simp
      have HFT := Lib.hid hfin
      clear heq hfin
      go_wp2_with (first
        | (go_at_call 22; refine (cp_finish g h sv0 av0 d c2 f f2 _ H3.out HF3.out HOD.out HFT.out).mono ?_; rintro e w5 ⟨rfl, h5⟩))
      exact bodyPost_end (results_none rfl _ _ _) rfl ⟨rfl, HS3.out _ _ _ h5⟩
theorem cp_tickB (g h : Nat) (sv av : Value) (c c2 : Cp) (f f2 : Fl) (w : World) (hc : CpAt w g sv c) (hf : FlAt w h av f) (hm : c.Calm) (hl : f.line = false) (hn : TickTo c f c2 f2) :
    Calls Tryz.prog 16 #[.pointer (some ⟨g, 0, none⟩), busV h] w (DoneS g h w sv av c2 f2) := by
  unfold TickTo Cp.inn at hn
  by_cases hk : c.kind = -1
  · simp only [if_pos hk] at hn
    exact cp_tick0 g h sv av c c2 f f2 w hc hf hm hl hk hn
  · simp only [if_neg hk] at hn
    exact cp_tick1 g h sv av c c2 f f2 w hc hf hm hl hk hn
end Go.Proofs.YtbhpmnhlmeglcaaGreat
namespace Go.Proofs.YtbhpmnhlmeglcaaGreat
set_option linter.unusedSimpArgs false
set_option linter.unusedVariables false
open Go.RowKit
def Fl.inc (f : Fl) : Fl := { f with t := IntKind.u64.wrap (f.t + 1) }
/-- so many T-states, up to the end of an instruction -/
inductive Run : Nat → Cp → Fl → Cp → Fl → Prop
  | last (c c2 : Cp) (f f2 : Fl) : c.Calm → f.line = false → TickTo c f c2 f2 → c2.kind = -1 → Run 1 c f c2 f2.inc
  | more (k : Nat) (c c1 c2 : Cp) (f f1 f2 : Fl) : c.Calm → f.line = false → TickTo c f c1 f1 → c1.kind ≠ -1 → Run k c1 f1.inc c2 f2 → Run (k + 1) c f c2 f2
theorem Run.pos {k : Nat} {c c2 : Cp} {f f2 : Fl} (h : Run k c f c2 f2) : 0 < k := by cases h <;> omega
theorem Run.step {j : Nat} {c c2 : Cp} {f f2 : Fl} (h : Run j c f c2 f2) : ∃ c1 f1, c.Calm ∧ f.line = false ∧ TickTo c f c1 f1 ∧ ((j = 1 ∧ c1 = c2 ∧ f1.inc = f2 ∧ c1.kind = -1) ∨ (1 < j ∧ c1.kind ≠ -1 ∧ Run (j - 1) c1 f1.inc c2 f2)) := by
  cases h with
  | last _ _ _ _ h1 h2 h3 h4 => exact ⟨_, _, h1, h2, h3, .inl ⟨rfl, rfl, rfl, h4⟩⟩
  | more k _ c1 _ _ f1 _ h1 h2 h3 h4 h5 => exact ⟨c1, f1, h1, h2, h3, .inr ⟨by have := h5.pos; omega, h4, by rwa [Nat.add_sub_cancel]⟩⟩
theorem FlAt.inc {w : World} {h : Nat} {av : Value} {f : Fl} (hf : FlAt w h av f) : FlAt (w.setCell ⟨h, 65538, none⟩ (.int .u64 (IntKind.u64.wrap (f.t + 1)))) h av f.inc := by
  refine hf.only (Only.set h 65538 w _) ?_ hf.len rfl
  have := hf.blk.set_ 65538 (.int .u64 (IntKind.u64.wrap (f.t + 1)))
  have hl : (f.m.map (Value.int .u8)).length = 65536 := by rw [List.length_map]; exact hf.len
  have e : (f.m.map (Value.int .u8) ++ [.slice none 0 0, av, .int .u64 f.t, .bool f.line]).set 65538 (.int .u64 (IntKind.u64.wrap (f.t + 1))) = f.m.map (Value.int .u8) ++ [.slice none 0 0, av, .int .u64 (IntKind.u64.wrap (f.t + 1)), .bool f.line] := by
    rw [List.set_append_right _ _ (by rw [hl]; decide), hl]
    rfl
  rw [e] at this
  exact this
def StepP (K : Nat) (g h : Nat) (w : World) (sv av : Value) (c : Cp) (f : Fl) (e : Ending) (w' : World) : Prop := e = .returned (.int .i64 K) ∧ SysTo g h w sv av c f w'
set_option maxRecDepth 100000 in
set_option maxHeartbeats 8000000 in
theorem fl_step (g h : Nat) (sv av : Value) (c c2 : Cp) (f f2 : Fl) (K : Nat) (w : World) (hc : CpAt w g sv c) (hf : FlAt w h av f) (hn : Run K c f c2 f2) (hK : K ≤ 1000000) :
    Calls Tryz.prog 11 #[.pointer (some ⟨h, 0, none⟩), .pointer (some ⟨g, 0, none⟩)] w (StepP K g h w sv av c2 f2) := by
  have H := Lib.hid hc; have HF := Lib.hid hf; have HN := Lib.hid hn
  clear hc hf hn
  go_enter Tryz.func11, Tryz.ntmps11
  go_wp2
  go_loopg [5] K (fun j v wr => j ≤ K ∧ ∃ c1 sv1 av1 f1, CpAt wr g sv1 c1 ∧ FlAt wr h av1 f1 ∧ v = .int .i64 ((K - j : Nat) : Int) ∧ SvTo w sv sv1 ∧ SvTo w av av1 ∧ Ch (SysP g h sv av) w wr ∧ ((j = 0 ∧ c1 = c2 ∧ f1 = f2 ∧ c1.kind = -1) ∨ (0 < j ∧ Run j c1 f1 c2 f2 ∧ (j = K ∨ c1.kind ≠ -1))))
  case atStart => exact ⟨Nat.le_refl _, c, sv, av, f, H.out, HF.out, by rw [Nat.sub_self]; rfl, .inl rfl, .inl rfl, Ch.refl _ _, .inr ⟨HN.out.pos, HN.out, .inl rfl⟩⟩
  case round =>
    obtain ⟨hj, c1, sv1, av1, f1, h1, hf1, rfl, hs1, ha1, hc1, hor⟩ := hrel
    have H1 := Lib.hid h1; have HF1 := Lib.hid hf1; have HS1 := Lib.hid hs1; have HA1 := Lib.hid ha1; have HC1 := Lib.hid hc1
    have HD := Lib.hid (cp_done g sv1 c1 wr h1)
    have hpos := HN.out.pos
    clear h1 hf1 hs1 ha1 hc1
    rcases hor with ⟨rfl, rfl, rfl, hkk⟩ | ⟨hj0, hrun, hkk⟩
    · have hz : (((K - 0 : Nat) : Int) == 0) = false := by simp; omega
      have hkk2 : (c1.kind == -1) = true := by rw [hkk]; rfl
      rw [hkk2] at HD
      obtain ⟨v, hv⟩ : ∃ v : Int, v = ((K - 0 : Nat) : Int) := ⟨_, rfl⟩
      rw [← hv] at hz ⊢
      have HV := Lib.hid hv
      clear hkk hkk2 hv hj hpos
      go_wp2_with (first
        | (go_at_call 13; refine HD.out.mono ?_; rintro e w' ⟨rfl, rfl⟩))
      go_ret
      exact ⟨by rw [HV.out]; rfl, sv1, av1, H1.out, HF1.out, HS1.out, HA1.out, HC1.out⟩
    · obtain ⟨c3, f3, hcalm, hline, htick, hnext⟩ := hrun.step
      have HT := Lib.hid (cp_tickB g h sv1 av1 c1 c3 f1 f3 wr H1.out HF1.out hcalm hline htick)
      unfold busV at HT
      have HNX := Lib.hid hnext
      obtain ⟨m, hm⟩ : ∃ m, m = K - gk := ⟨_, rfl⟩
      have HMM := Lib.hid hm
      rw [← hm]
      have v1 : IntKind.i64.wrap ((m : Int) + 1) = m + 1 := by rw [IntKind.wrap_i64]; omega
      have HJ := Lib.hid hj; have HJ0 := Lib.hid hj0
      have hgo : ((m : Int) == 0) = true ∨ (((m : Int) == 0) = false ∧ (c1.kind == -1) = false) := by
        rcases hkk with hkk | hkk
        · left; simp; omega
        · cases hz : ((m : Int) == 0)
          · right; exact ⟨rfl, by simpa using hkk⟩
          · left; rfl
      clear hcalm hline htick hnext hrun hkk hm hj hj0 hpos
      rcases hgo with hz | ⟨hz, hkk⟩
      all_goals
        try rw [hkk] at HD
        go_wp2_with (first
          | (go_at_call 13; refine HD.out.mono ?_; rintro e w' ⟨rfl, rfl⟩)
          | (go_at_call 16; refine HT.out.mono ?_; rintro e w3 ⟨rfl, sv3, av3, h3, hf3, hs3, ha3, hc3⟩
             have H3 := Lib.hid h3; have HF3 := Lib.hid hf3; have HS3 := Lib.hid hs3; have HA3 := Lib.hid ha3; have HC3 := Lib.hid hc3
             have t3 : w3.cell? ⟨h, 65538, none⟩ = some (.int .u64 f3.t) := hf3.tail 2 65538 rfl
             have z3 := hf3.blk.frozen 65538
             clear h3 hf3 hs3 ha3 hc3))
      all_goals
        have hoh : Only h w3 (w3.setCell ⟨h, 65538, none⟩ (.int .u64 (IntKind.u64.wrap (f3.t + 1)))) := Only.set h 65538 w3 _
        have hcp : CpAt (w3.setCell ⟨h, 65538, none⟩ (.int .u64 (IntKind.u64.wrap (f3.t + 1)))) g sv3 c3 := H3.out.far HF3.out ((Only.ch hoh).mono fun _ _ e => .inl e)
        have hchA : Ch (SysP g h sv av) w w3 := HC1.out.trans HC3.out (fun _ _ h => h) fun i hi hp => by
          rcases hp with hp | hp
          · exact .inl (HS1.out.place hi hp)
          · exact .inr (HA1.out.placeF hi hp)
        have hchB : Ch (SysP g h sv av) w (w3.setCell ⟨h, 65538, none⟩ (.int .u64 (IntKind.u64.wrap (f3.t + 1)))) := hchA.trans (Only.ch hoh) (fun _ _ h => h) fun _ _ h => .inr (.inl h)
        have hav : SvTo w av av3 := HA1.out.trans HA3.out HC1.out.size
        have hsv : SvTo w sv sv3 := HS1.out.trans HS3.out HC1.out.size
        have hj := HJ.out
        have hj0 := HJ0.out
        have hm := HMM.out
        go_roundg (gk - 1)
        case measure => omega
        case rel =>
          refine ⟨by omega, c3, sv3, av3, f3.inc, hcp, HF3.out.inc, by rw [show K - (gk - 1) = m + 1 by omega]; rfl, hsv, hav, hchB, ?_⟩
          rcases HNX.out with ⟨h1, h2, h3, h4⟩ | ⟨h1, h2, h3⟩
          · exact .inl ⟨by omega, h2, h3, h4⟩
          · exact .inr ⟨by omega, h3, .inr h2⟩
end Go.Proofs.YtbhpmnhlmeglcaaGreat
