/- cpu: the bus that never holds; what its ports did is told. -/
import Derived.Test.YtbhpmnhlmeglcaaGreatCpuH
import Derived.Test.YtbhpmnhlmeglcaaGreatMemD
import Derived.Deep.RegionLaw
import Derived.RegionTactic
import Derived.BigRegion
namespace Go.Proofs.YtbhpmnhlmeglcaaGreat
set_option linter.unusedSimpArgs false
set_option linter.unusedVariables false
open Go.RowKit
theorem step_appT {P : Program} (w : World) {ops : Array Oper} {o : Oper} {a : Act} {K : Act → World → Prop} {Q : Exit → Act → World → Prop} {E : Prop} (hgd : o.guard = none) (s x : Operand) (t : TypeId)
    (ho : o.op = .call { callee := .builtin .append, args := #[s, x], argTypes := #[t, t] })
    (base : Nat) (e : TypeId) (z : Value) (size bytes : Nat) (ht : P.underlying t = some (.slice e)) (hi : (P.info? e).map (fun i => (i.zero, i.size, i.bytes)) = some (some z, size, bytes)) (hzs : z.cells.size = size) (hsz : 0 < size)
    (v : Value) (n : Nat) (xs : List Value) (hs : a.eval s = v) (hown : w.ownsRow base e size v n xs) (cs : Array Value) (m : Nat) (hx : a.eval x = .slice (some ⟨w.heap.size, 0, none⟩) m m) (hcs : cs.size = m * size) (hu : cs.all (·.oneCell') = true)
    (hm : 0 < m) (hbytes : (n + m) * bytes ≤ 140737488355328) (hb1 : 1 ≤ bytes) (hbase : base ≤ w.heap.size)
    (h : ∀ g c w', w'.ownsRow base e size (.slice (some ⟨g, 0, none⟩) (n + m) c) (n + m) (xs ++ cs.toList) → w.grownBy w' v.ownBlock → (v.ownBlock = some g ∨ w.heap.size ≤ g) → K (a.put o.dst (.slice (some ⟨g, 0, none⟩) (n + m) c)) w') :
    if Region.wanted o (yielded ops a.tmps) = true then Oper.wp P o a (w.alloc (.cells cs e)) K Q else E := by
  obtain ⟨i0, hi0, hz0, hz1, hz2⟩ := info_parts hi
  refine step_append_lies (w.alloc (.cells cs e)) hgd s x t ho base e i0 z size bytes ht hi0 hz0 hz1 hz2 hzs hsz v n xs hs (hown.alloc _) ⟨w.heap.size, 0, none⟩ m m cs.toList hx (by simpa using hcs) ?_ ?_ hm ?_ hbytes (by simp; omega) _ rfl ?_
  · intro j u hj
    rw [Addr.add_mid, cell_of_row _ _ _ _ _ _ (heap_alloc_new w _)]
    simpa using hj
  · intro u hu'
    obtain ⟨j, hj, rfl⟩ := List.getElem_of_mem hu'
    rw [Array.all_eq_true] at hu
    exact hu j (by simpa using hj)
  · have : n + m ≤ (n + m) * bytes := Nat.le_mul_of_pos_right _ hb1
    unfold maxLen; omega
  · intro g c w' h1 h2 h3 _
    refine h g c w' h1 (grownBy_of_alloc h2) ?_
    rcases h3 with h3 | h3
    · exact .inl h3
    · right
      rw [h3]
      simp
/-- what a port did -/
structure AcV where
  (t : Int) (out : Bool) (port v : Int)
def AcV.cells (a : AcV) : List Value := [.int .u64 a.t, .bool a.out, .int .u16 a.port, .int .u8 a.v]
def flatA (l : List AcV) : List Value := l.flatMap AcV.cells
theorem flatA_snoc (l : List AcV) (a : AcV) : flatA (l ++ [a]) = flatA l ++ a.cells := by simp [flatA]
structure Fl where
  (m : List Int) (t : Int) (line : Bool) (acts : List AcV)
/-- a bus stands in block h; what its ports did lies where av leads; its ports have nothing to tell -/
structure FlAt (w : World) (h : Nat) (av : Value) (f : Fl) : Prop where
  blk : Blk w h 37 (f.m.map (.int .u8) ++ [.slice none 0 0, av, .int .u64 f.t, .bool f.line])
  len : f.m.length = 65536
  own : w.ownsRow 0 156 4 av f.acts.length (flatA f.acts)
  few : f.acts.length ≤ 1000000000
theorem FlAt.byte {w : World} {h : Nat} {av : Value} {f : Fl} (hf : FlAt w h av f) (a : Nat) (ha : a < 65536) : w.cell? ⟨h, a, none⟩ = some (.int .u8 (f.m.getD a 0)) := by
  have h1 : a < f.m.length := by rw [hf.len]; exact ha
  rw [hf.blk.cell a, List.getElem?_append_left (by simpa using h1), List.getElem?_map, List.getElem?_eq_getElem h1]
  simp [List.getD, List.getElem?_eq_getElem h1]
theorem FlAt.tail {w : World} {h : Nat} {av : Value} {f : Fl} (hf : FlAt w h av f) (j k : Nat) (hk : k = 65536 + j) : w.cell? ⟨h, k, none⟩ = [.slice none 0 0, av, .int .u64 f.t, .bool f.line][j]? := by
  subst hk
  have h1 : (f.m.map (Value.int .u8)).length = 65536 := by rw [List.length_map]; exact hf.len
  rw [hf.blk.cell, List.getElem?_append_right (by rw [h1]; exact Nat.le_add_right _ _), h1, Nat.add_sub_cancel_left]
/-- the blocks in which a bus stands -/
def FlP (h : Nat) (av : Value) (k : Nat) : Prop := k = h ∨ av.ownBlock = some k
theorem av_ne {w : World} {h : Nat} {av : Value} {f : Fl} (hf : FlAt w h av f) : av.ownBlock ≠ some h := fun e => by
  obtain ⟨cur, hc⟩ : ∃ cur, w.heap[h]? = some (.cells cur 156 (0, 0)) := by
    rcases hf.own.2 with ⟨hv, _⟩ | ⟨b, cap, cur, hv, _, hb, _⟩
    · rw [hv] at e; cases e
    · rw [hv] at e
      have : b = h := by injection e
      subst this
      exact ⟨cur, hb⟩
  have hb := hf.blk
  unfold Blk at hb
  rw [hc] at hb
  injection hb with hb
  injection hb with _ hb _
  exact absurd hb (by decide)
theorem FlAt.ch {p : Nat → Prop} {w w' : World} {h : Nat} {av : Value} {f : Fl} (hf : FlAt w h av f) (hc : Ch p w w') (hn : ¬ p h) (ha : ∀ k, av.ownBlock = some k → ¬ p k) : FlAt w' h av f :=
  ⟨hc.blk hf.blk hn, hf.len, own_keepC hf.own fun k hk => hc.block k (hf.own.lt k hk).2 (ha k hk), hf.few⟩
def Fl.put (f : Fl) (a : Nat) (v : Int) : Fl := { f with m := f.m.set a v }
theorem FlAt.only {w w' : World} {h : Nat} {av : Value} {f f' : Fl} (hf : FlAt w h av f) (ho : Only h w w') (hb : Blk w' h 37 (f'.m.map (.int .u8) ++ [.slice none 0 0, av, .int .u64 f'.t, .bool f'.line])) (hl : f'.m.length = 65536) (ha : f'.acts = f.acts) : FlAt w' h av f' :=
  ⟨hb, hl, by rw [ha]; exact own_keepC hf.own fun k hk => ho.block k fun e => av_ne hf (by rw [hk, e]), by rw [ha]; exact hf.few⟩
theorem FlAt.put {w : World} {h : Nat} {av : Value} {f : Fl} (hf : FlAt w h av f) (a : Nat) (ha : a < 65536) (v : Int) : FlAt (w.setCell ⟨h, a, none⟩ (.int .u8 v)) h av (f.put a v) := by
  refine hf.only (Only.set h a w _) ?_ (by show (f.m.set a v).length = _; rw [List.length_set]; exact hf.len) rfl
  have := hf.blk.set_ a (.int .u8 v)
  have e : (f.m.map (Value.int .u8) ++ [.slice none 0 0, av, .int .u64 f.t, .bool f.line]).set a (.int .u8 v) = (f.m.set a v).map (Value.int .u8) ++ [.slice none 0 0, av, .int .u64 f.t, .bool f.line] := by
    rw [List.set_append_left _ _ (by rw [List.length_map, hf.len]; exact ha), List.map_set]
  rw [e] at this
  exact this
set_option maxRecDepth 100000 in
theorem fl_read (h : Nat) (av : Value) (f : Fl) (a : Nat) (w : World) (hf : FlAt w h av f) (ha : a < 65536) :
    Calls Tryz.prog 177 #[.pointer (some ⟨h, 0, none⟩), .int .u16 a] w fun e w' => e = .returned (.int .u8 (f.m.getD a 0)) ∧ w' = w := by
  have hc := hf.byte a ha
  have ha2 : (a : Int) < 65536 := by omega
  obtain ⟨v, hv⟩ : ∃ v, v = f.m.getD a 0 := ⟨_, rfl⟩
  rw [← hv] at hc ⊢
  clear hv hf
  go_enter Tryz.func177, Tryz.ntmps177
  go_wp2
  go_ret
  exact ⟨rfl, rfl⟩
set_option maxRecDepth 100000 in
theorem fl_write (h : Nat) (av : Value) (f : Fl) (a : Nat) (v : Int) (w : World) (hf : FlAt w h av f) (ha : a < 65536) :
    Calls Tryz.prog 178 #[.pointer (some ⟨h, 0, none⟩), .int .u16 a, .int .u8 v] w fun e w' => e = .returned (.tuple #[]) ∧ FlAt w' h av (f.put a v) ∧ Only h w w' := by
  have hc := hf.byte a ha
  have hz := hf.blk.frozen a
  have ha2 : (a : Int) < 65536 := by omega
  obtain ⟨x, hx⟩ : ∃ x, x = f.m.getD a 0 := ⟨_, rfl⟩
  rw [← hx] at hc
  have HF := Lib.hid hf
  clear hx hf
  go_enter Tryz.func178, Tryz.ntmps178
  go_wp2
  exact bodyPost_end (results_none rfl _ _ _) rfl ⟨rfl, HF.out.put a ha v, Only.set h a w _⟩
theorem fl_hold (h : Nat) (k a j : Int) (w : World) : Calls Tryz.prog 173 #[.pointer (some ⟨h, 0, none⟩), .int .i64 k, .int .u16 a, .int .i64 j] w fun e w' => e = .returned (.int .i64 0) ∧ w' = w := by
  go_enter Tryz.func173, Tryz.ntmps173
  go_wp2
  go_ret
  exact ⟨rfl, rfl⟩
set_option maxRecDepth 100000 in
theorem fl_int (h : Nat) (av : Value) (f : Fl) (w : World) (hf : FlAt w h av f) : Calls Tryz.prog 175 #[.pointer (some ⟨h, 0, none⟩)] w fun e w' => e = .returned (.bool f.line) ∧ w' = w := by
  have hc : w.cell? ⟨h, 65539, none⟩ = some (.bool f.line) := hf.tail 3 65539 rfl
  clear hf
  go_enter Tryz.func175, Tryz.ntmps175
  go_wp2
  go_ret
  exact ⟨rfl, rfl⟩
theorem underAct : Tryz.prog.underlying 34 = some (.slice 156) := Tryz.underlying34
theorem infoAct : (Tryz.prog.info? 156).map (fun i => (i.zero, i.size, i.bytes)) = some (some (.agg #[.int .u64 0, .bool false, .int .u16 0, .int .u8 0]), 4, 16) := by kernel_rfl
/-- a port does something -/
def Fl.act (f : Fl) (out : Bool) (p v : Int) : Fl := { f with acts := f.acts ++ [⟨f.t, out, p, v⟩] }
/-- what an act leaves: another bus, in its own blocks or in new memory -/
def ActTo (h : Nat) (w : World) (av : Value) (f : Fl) (w' : World) : Prop := ∃ av', FlAt w' h av' f ∧ SvTo w av av' ∧ Ch (FlP h av) w w'
def ActP (r : Value) (h : Nat) (w : World) (av : Value) (f : Fl) (e : Ending) (w' : World) : Prop := e = .returned r ∧ ActTo h w av f w'
theorem Ch.grown {w w' : World} {av : Value} (h : w.grownBy w' av.ownBlock) : Ch (fun k => av.ownBlock = some k) w w' := ⟨h.os, h.tape, h.output, h.size, fun k hk hn => h.block k hk fun e => hn e.symm⟩
theorem act_to (h : Nat) (av : Value) (f : Fl) (out : Bool) (p v : Int) (w w2 : World) (g c : Nat) (hf : FlAt w h av f) (hl : f.acts.length < 1000000000)
    (ho : w2.ownsRow 0 156 4 (.slice (some ⟨g, 0, none⟩) (f.acts.length + 1) c) (f.acts.length + 1) (flatA f.acts ++ (AcV.cells ⟨f.t, out, p, v⟩))) (hg : w.grownBy w2 av.ownBlock) (hp : av.ownBlock = some g ∨ w.heap.size ≤ g) :
    ActTo h w av (f.act out p v) (w2.setCell ⟨h, 65537, none⟩ (.slice (some ⟨g, 0, none⟩) (f.acts.length + 1) c)) := by
  have hb2 : Blk w2 h 37 _ := hf.blk.grown hg (fun e => av_ne hf e.symm)
  have hgh : g ≠ h := fun e => by
    rcases hp with hp | hp
    · exact av_ne hf (by rw [hp, e])
    · have := hf.blk.lt; omega
  have hO := Only.set h 65537 w2 (.slice (some ⟨g, 0, none⟩) (f.acts.length + 1) c)
  refine ⟨.slice (some ⟨g, 0, none⟩) (f.acts.length + 1) c, ⟨?_, hf.len, ?_, ?_⟩, ?_, ?_⟩
  · have := hb2.set_ 65537 (.slice (some ⟨g, 0, none⟩) (f.acts.length + 1) c)
    have hl : (f.m.map (Value.int .u8)).length = 65536 := by rw [List.length_map]; exact hf.len
    have e : (f.m.map (Value.int .u8) ++ [.slice none 0 0, av, .int .u64 f.t, .bool f.line]).set 65537 (.slice (some ⟨g, 0, none⟩) (f.acts.length + 1) c) = f.m.map (Value.int .u8) ++ [.slice none 0 0, .slice (some ⟨g, 0, none⟩) (f.acts.length + 1) c, .int .u64 f.t, .bool f.line] := by
      rw [List.set_append_right _ _ (by rw [hl]; decide), hl]
      rfl
    rw [e] at this
    exact this
  · show World.ownsRow _ _ _ _ _ (f.acts ++ [_]).length (flatA (f.acts ++ [_]))
    rw [List.length_append, flatA_snoc]
    refine own_keepC ho fun k hk => hO.block k fun e => ?_
    have : g = k := by injection hk
    omega
  · show (f.acts ++ [_]).length ≤ _
    rw [List.length_append]
    exact hl
  · rcases hp with hp | hp
    · exact .inl hp.symm
    · refine .inr fun b hb => ?_
      have : g = b := by injection hb
      omega
  · exact (Ch.grown hg).trans (Only.ch hO) (fun i _ hi => .inr hi) fun i _ hi => .inl hi
set_option maxRecDepth 100000 in
set_option maxHeartbeats 4000000 in
theorem fl_out (h : Nat) (av : Value) (f : Fl) (p v : Int) (w : World) (hf : FlAt w h av f) (hl : f.acts.length < 1000000000) :
    Calls Tryz.prog 176 #[.pointer (some ⟨h, 0, none⟩), .int .u16 p, .int .u8 v] w (ActP (.tuple #[]) h w av (f.act true p v)) := by
  have c37 : w.cell? ⟨h, 65537, none⟩ = some av := hf.tail 1 65537 rfl
  have c38 : w.cell? ⟨h, 65538, none⟩ = some (.int .u64 f.t) := hf.tail 2 65538 rfl
  have z37 := hf.blk.frozen 65537
  have e37 : ∀ o, (w.alloc o).cell? ⟨h, 65537, none⟩ = some av := fun o => ((hf.blk.alloc o).cell 65537).trans ((hf.blk.cell 65537).symm.trans c37)
  obtain ⟨n, hn⟩ : ∃ n, n = f.acts.length := ⟨_, rfl⟩
  have hlt : n < 1000000000 := by omega
  have HO : Hid (w.ownsRow 0 156 4 av n (flatA f.acts)) := by show World.ownsRow _ _ _ _ _ _ _; rw [hn]; exact hf.own
  obtain ⟨T, hT⟩ : ∃ T, T = f.t := ⟨_, rfl⟩
  have HK : Hid (∀ w2 g c, w2.ownsRow 0 156 4 (.slice (some ⟨g, 0, none⟩) (n + 1) c) (n + 1) (flatA f.acts ++ #[.int .u64 T, .bool true, .int .u16 p, .int .u8 v].toList) → w.grownBy w2 av.ownBlock → (av.ownBlock = some g ∨ w.heap.size ≤ g) → w2.cell? ⟨h, 65537, none⟩ = some av ∧ w2.frozen? ⟨h, 65537, none⟩ = false ∧ ActTo h w av (f.act true p v) (w2.setCell ⟨h, 65537, none⟩ (.slice (some ⟨g, 0, none⟩) (n + 1) c))) := Lib.hid (fun w2 g c h1 h2 h3 => by
    have hb2 : Blk w2 h 37 _ := hf.blk.grown h2 (fun e => av_ne hf e.symm)
    refine ⟨(hb2.cell 65537).trans ((hf.blk.cell 65537).symm.trans c37), hb2.frozen _, ?_⟩
    rw [hT] at h1
    rw [hn] at h1 ⊢
    exact act_to h av f true p v w w2 g c hf hl h1 h2 h3)
  rw [← hT] at c38
  clear hf hl hn hT
  go_enter Tryz.func176, Tryz.ntmps176
  go_wp2_with fail
  go_region_law (
    refine step_appT w.drew rfl (.tmp 10) (.tmp 18) 34 rfl 0 156 _ 4 16 underAct infoAct rfl (by decide) av n _ rfl HO.out #[.int .u64 T, .bool true, .int .u16 p, .int .u8 v] 1 rfl rfl (by simp [Value.oneCell']) (by decide) (by omega) (by decide) (Nat.zero_le _) ?_
    intro g2 c2 w2 hown2 hg2 hp2
    obtain ⟨d37, y37, hk⟩ := HK.out w2 g2 c2 hown2 ⟨hg2.os, hg2.tape, hg2.output, hg2.size, hg2.block⟩ hp2
    have HA := Lib.hid hk
    clear hown2 hg2 hp2 hk)
  all_goals exact bodyPost_end (results_none rfl _ _ _) rfl ⟨rfl, HA.out⟩
set_option maxRecDepth 100000 in
set_option maxHeartbeats 4000000 in
theorem fl_in (h : Nat) (av : Value) (f : Fl) (p : Int) (w : World) (hf : FlAt w h av f) (hl : f.acts.length < 1000000000) :
    Calls Tryz.prog 174 #[.pointer (some ⟨h, 0, none⟩), .int .u16 p] w (ActP (.int .u8 255) h w av (f.act false p 255)) := by
  have c36 : w.cell? ⟨h, 65536, none⟩ = some (.slice none 0 0) := hf.tail 0 65536 rfl
  have c37 : w.cell? ⟨h, 65537, none⟩ = some av := hf.tail 1 65537 rfl
  have c38 : w.cell? ⟨h, 65538, none⟩ = some (.int .u64 f.t) := hf.tail 2 65538 rfl
  have z37 := hf.blk.frozen 65537
  have e37 : ∀ o, (w.alloc o).cell? ⟨h, 65537, none⟩ = some av := fun o => ((hf.blk.alloc o).cell 65537).trans ((hf.blk.cell 65537).symm.trans c37)
  obtain ⟨n, hn⟩ : ∃ n, n = f.acts.length := ⟨_, rfl⟩
  have hlt : n < 1000000000 := by omega
  have HO : Hid (w.ownsRow 0 156 4 av n (flatA f.acts)) := by show World.ownsRow _ _ _ _ _ _ _; rw [hn]; exact hf.own
  obtain ⟨T, hT⟩ : ∃ T, T = f.t := ⟨_, rfl⟩
  have HK : Hid (∀ w2 g c, w2.ownsRow 0 156 4 (.slice (some ⟨g, 0, none⟩) (n + 1) c) (n + 1) (flatA f.acts ++ #[.int .u64 T, .bool false, .int .u16 p, .int .u8 255].toList) → w.grownBy w2 av.ownBlock → (av.ownBlock = some g ∨ w.heap.size ≤ g) → w2.cell? ⟨h, 65537, none⟩ = some av ∧ w2.frozen? ⟨h, 65537, none⟩ = false ∧ ActTo h w av (f.act false p 255) (w2.setCell ⟨h, 65537, none⟩ (.slice (some ⟨g, 0, none⟩) (n + 1) c))) := Lib.hid (fun w2 g c h1 h2 h3 => by
    have hb2 : Blk w2 h 37 _ := hf.blk.grown h2 (fun e => av_ne hf e.symm)
    refine ⟨(hb2.cell 65537).trans ((hf.blk.cell 65537).symm.trans c37), hb2.frozen _, ?_⟩
    rw [hT] at h1
    rw [hn] at h1 ⊢
    exact act_to h av f false p 255 w w2 g c hf hl h1 h2 h3)
  rw [← hT] at c38
  clear hf hl hn hT
  go_enter Tryz.func174, Tryz.ntmps174
  go_wp2_with fail
  go_region_law (
    refine step_appT w.drew rfl (.tmp 30) (.tmp 38) 34 rfl 0 156 _ 4 16 underAct infoAct rfl (by decide) av n _ rfl HO.out #[.int .u64 T, .bool false, .int .u16 p, .int .u8 255] 1 rfl rfl (by simp [Value.oneCell']) (by decide) (by omega) (by decide) (Nat.zero_le _) ?_
    intro g2 c2 w2 hown2 hg2 hp2
    obtain ⟨d37, y37, hk⟩ := HK.out w2 g2 c2 hown2 ⟨hg2.os, hg2.tape, hg2.output, hg2.size, hg2.block⟩ hp2
    have HA := Lib.hid hk
    clear hown2 hg2 hp2 hk)
  all_goals
    go_wp2
    go_ret
    exact ⟨rfl, HA.out⟩
end Go.Proofs.YtbhpmnhlmeglcaaGreat
