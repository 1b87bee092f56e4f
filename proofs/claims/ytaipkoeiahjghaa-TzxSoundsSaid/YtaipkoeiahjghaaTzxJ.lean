/- The file of the chapter's example is read. -/
import Derived.Test.YtaipkoeiahjghaaTzxI
import Derived.Test.YtaipkoeiahjghaaMemG
import Derived.Deep.DeepCutAuto
namespace Go.Proofs.Ytaipkoeiahjghaa
set_option linter.unusedSimpArgs false
set_option linter.unusedVariables false
open Go.RowKit
namespace Ex
/-- all but two blocks is as it was -/
structure Kept2 (P R : Nat) (w w' : World) : Prop where
  os : w'.os = w.os
  tape : w'.tape = w.tape
  output : w'.output = w.output
  size : w.heap.size ≤ w'.heap.size
  block : ∀ k, k < w.heap.size → k ≠ P → k ≠ R → w'.heap[k]? = w.heap[k]?
def blk37 : List Value := blkRow 37 (.slice none 0 0) (.slice none 0 0)
def Block37P (P R : Nat) (A : Addr) (n c k : Nat) (w : World) (e : Ending) (w' : World) : Prop := ∃ gb cb gs cs : Nat, e = .returned (.tuple #[]) ∧ Blk w' P 65 [.pointer (some ⟨R, 0, none⟩), .slice (some ⟨gb, 0, none⟩) 1 cb, .slice (some ⟨gs, 0, none⟩) 1 cs] ∧ Rdr w' R (some A) n c (k + 1) ∧ w'.rangeAt gb 0 blk37 ∧ w'.cell? ⟨gs, 0, none⟩ = some (.int .i64 k) ∧ Kept2 P R w w'
/-- the contract of a block that is 37 -/
def B37 : Prop := ∀ (P R : Nat) (A : Addr) (n c k : Nat) (w : World) (hp : Blk w P 65 [.pointer (some ⟨R, 0, none⟩), .slice none 0 0, .slice none 0 0]) (hr : Rdr w R (some A) n c k) (hl : Ints w (some (A.add k)) .u8 [37]) (hk : k + 1 ≤ n) (hn : n ≤ 1000) (hc : n ≤ c) (hne : A.block ≠ R) (hPR : P ≠ R),
    Calls Try.prog 27 #[.pointer (some ⟨P, 0, none⟩)] w (Block37P P R A n c k w)
end Ex
open Ex
theorem Pz.set {w u : World} {a n c k V : Nat} {H : List Int} {x y : Value} (h : Pz w u a n c k H x y) (hV : w.heap.size + 2 < V) (j : Nat) (v : Value) : Pz w (u.setCell ⟨V, j, none⟩ v) a n c k H x y :=
  ⟨h.tape.far (by show _ ≠ V; omega) _, h.rdr.far (by show _ ≠ V; omega) _, h.par.far (by show _ ≠ V; omega) _,
    fun i z hi => by
      obtain ⟨ad, e, hc⟩ := h.ints i z hi
      refine ⟨ad, e, ?_⟩
      injection e with e
      subst e
      rw [← hc]
      exact World.cell?_of_block (Below.heap_setCell u ⟨V, j, none⟩ v _ (by rw [block_of_add]; show a ≠ V; have := h.alt; omega)),
    h.below.setCell (by show w.heap.size ≤ V; omega) _, h.alt⟩
theorem infoTape : (Try.prog.info? 43).map (·.size) = some 3 := by kernel_rfl
theorem first37 : Tz.firstW (Tz.wrongAt [37] []) 1 = (0, 6) := by decide +kernel
theorem Pz.kept {w u u' : World} {a n c k k' : Nat} {H : List Int} {x y x' y' : Value} (h : Pz w u a n c k H x y) (hg : Kept2 (w.heap.size + 2) (w.heap.size + 1) u u') (hr : Rdr u' (w.heap.size + 1) (some ⟨a, 0, none⟩) n c k') (hp : Blk u' (w.heap.size + 2) 65 [.pointer (some ⟨w.heap.size + 1, 0, none⟩), x', y']) : Pz w u' a n c k' H x' y' :=
  ⟨(hg.block _ h.tape.lt (by omega) (by omega)).trans h.tape, hr, hp,
    fun i z hi => by
      obtain ⟨ad, e, hc⟩ := h.ints i z hi
      refine ⟨ad, e, ?_⟩
      injection e with e
      subst e
      rw [← hc]
      have := h.alt
      exact World.cell?_of_block (hg.block _ (block_lt_of_cell hc) (by rw [block_of_add]; show a ≠ _; omega) (by rw [block_of_add]; show a ≠ _; omega)),
    ⟨hg.os.trans h.below.os, hg.tape.trans h.below.tape, hg.output.trans h.below.output, by have := h.below.size; have := hg.size; omega,
      fun k hk => (hg.block k (by have := h.below.size; omega) (by omega) (by omega)).trans (h.below.block k hk)⟩, h.alt⟩
theorem blks37 {w : World} {g : Nat} (h : w.rangeAt g 0 blk37) : Blks w g [37] [] := fun i id hi => by
  match i, hi with
  | 0, hi =>
    simp at hi
    subst hi
    exact ⟨.slice none 0 0, .slice none 0 0, h, ⟨none, 0, rfl, fun i v hi => by simp at hi, fun _ => ⟨rfl, rfl⟩⟩, ⟨0, 0, .inl ⟨rfl, none, rfl⟩⟩, rfl, rfl⟩
  | i + 1, hi => simp at hi
/-- what is handed back of the two files -/
def ParseP (n : Nat) (w : World) (e : Ending) (w' : World) : Prop := Below w.heap.size w w' ∧ ((n = 10 ∧ e = .returned (.tuple #[.agg #[.int .i64 1, .int .i64 20, .slice none 0 0], Value.nilIface])) ∨ (n = 11 ∧ ∃ F, e = .returned (.tuple #[.agg #[.int .i64 0, .int .i64 0, .slice none 0 0], .iface 48 (.pointer (some ⟨F, 0, none⟩))]) ∧ Blk w' F 51 [.int .i64 6, .int .i64 10]))
set_option maxRecDepth 100000 in
set_option maxHeartbeats 8000000 in
theorem parse_both (HB37 : Ex.B37) (a n c : Nat) (H : List Int) (w : World) (hi : Ints w (some ⟨a, 0, none⟩) .u8 H) (hH : H.take 10 = head10) (h10 : 10 ≤ n) (hn : n ≤ 1000) (ha : a < w.heap.size) (hc : n ≤ c) (hcase : (n = 10 ∧ H = head10) ∨ (n = 11 ∧ H = head10 ++ [37])) :
    Calls Try.prog 15 #[.slice (some ⟨a, 0, none⟩) n c] w (ParseP n w) := by
  have hw1 : Below w.heap.size w (w.alloc (.cells #[.int .i64 0, .int .i64 0, .slice none 0 0] 43)) := (Below.refl _ w).alloc (Nat.le_refl _) _
  have hcv := conv_head (c := c) (H := H) hH (hi.below hw1)
  obtain ⟨w3, hw3⟩ : ∃ w3, w3 = ((w.alloc (.cells #[.int .i64 0, .int .i64 0, .slice none 0 0] 43)).alloc (.cells #[.slice (some ⟨a, 0, none⟩) n c, .int .i64 0, .pointer none] 71)).alloc (.cells #[.pointer (some ⟨w.heap.size + 1, 0, none⟩), .slice none 0 0, .slice none 0 0] 65) := ⟨_, rfl⟩
  have hz : Pz w w3 a n c 0 H (.slice none 0 0) (.slice none 0 0) := by
    have hb0 := Blk.new w 43 [.int .i64 0, .int .i64 0, .slice none 0 0]
    have hb1 := Blk.new (w.alloc (.cells #[.int .i64 0, .int .i64 0, .slice none 0 0] 43)) 71 [.slice (some ⟨a, 0, none⟩) n c, .int .i64 0, .pointer none]
    have hb2 := Blk.new ((w.alloc (.cells #[.int .i64 0, .int .i64 0, .slice none 0 0] 43)).alloc (.cells #[.slice (some ⟨a, 0, none⟩) n c, .int .i64 0, .pointer none] 71)) 65 [.pointer (some ⟨w.heap.size + 1, 0, none⟩), .slice none 0 0, .slice none 0 0]
    rw [hw3]
    refine ⟨(hb0.alloc _).alloc _, ?_, ?_, ?_, ?_, ha⟩
    · rw [World.size_alloc] at hb1
      exact hb1.alloc _
    · rw [World.size_alloc, World.size_alloc] at hb2
      exact hb2
    · exact hi.below (((hw1.alloc (by simp) _).alloc (by simp <;> omega) _))
    · exact ((hw1.alloc (by simp) _).alloc (by simp <;> omega) _)
  have HZ := Lib.hid hz
  have HW3 := Lib.hid hw3
  have p0 : w3.cell? ⟨w.heap.size + 2, 0, none⟩ = some (.pointer (some ⟨w.heap.size + 1, 0, none⟩)) := hz.par.cell 0
  have hH8 : (H.take 8).length = 8 := by
    have : H.length ≥ 10 := by have := congrArg List.length hH; simp [head10] at this; omega
    rw [List.length_take]; omega
  have hg8 : H[8]? = some 1 := by have : (H.take 10)[8]? = some 1 := by rw [hH]; rfl
                                  simpa using this
  have hg9 : H[9]? = some 20 := by have : (H.take 10)[9]? = some 20 := by rw [hH]; rfl
                                   simpa using this
  have HG8 := Lib.hid hg8; have HG9 := Lib.hid hg9; have HCS := Lib.hid hcase
  have HTK := Lib.hid (wireTake_ok (w.heap.size + 1) ⟨a, 0, none⟩ n c 0 8 (H.take 8) w3 hz.rdr (ints_take8 hz.ints) hH8 (by show a ≠ _; omega) (by omega) (by omega) (by omega) (by omega) hc)
  clear hz hw3 hw1 hi hg8 hg9 hcase
  go_enter Try.func15, Try.ntmps15
  go_wp2_with (first
    | (go_at_call 21; refine (wireRead_any _ _ _ _).mono ?_; rintro e w2 ⟨rfl, rfl⟩)
    | (go_at_call 22; rw [← HW3.out]; refine HTK.out.mono ?_; rintro e w4 ⟨v4, rfl, hr4, hg4⟩; have HZ4 := Lib.hid (HZ.out.step hg4 hr4); have p4 : w4.cell? ⟨w.heap.size + 2, 0, none⟩ = some (.pointer (some ⟨w.heap.size + 1, 0, none⟩)) := HZ4.out.par.cell 0; clear hr4 hg4))
  have HN1 := Lib.hid (fun u (h : Pz w u a n c 8 H (.slice none 0 0) (.slice none 0 0)) => h.num 1 HG8.out (by omega) (by omega) (by omega) (by omega) hc)
  have HN2 := Lib.hid (fun u (h : Pz w u a n c 9 H (.slice none 0 0) (.slice none 0 0)) => h.num 20 HG9.out (by omega) (by omega) (by omega) (by omega) hc)
  go_upto_region 7 with fail
  go_cut [5] (fun x wx => ∃ V : Nat, x = .pointer (some ⟨V, 0, none⟩) ∧ w.heap.size + 2 < V ∧ Pz w wx a n c 10 H (.slice none 0 0) (.slice none 0 0) ∧ Blk wx V 43 [.int .i64 1, .int .i64 20, .slice none 0 0])
  case first =>
    have HZ4d := Lib.hid (HZ4.out.below_ ((Below.refl _ w4).drew))
    have hs4 := HZ4.out.par.lt
    go_region_with (first
      | (go_at_call 23
         refine (HN2.out _ (by first | exact HZ5.out | exact HZ5.out.below_ ((Below.refl _ _).alloc (Nat.le_refl _) _))).mono ?_
         rintro e w6 ⟨rfl, hz6, hg6⟩
         have HZ6 := Lib.hid hz6
         have p6 : w6.cell? ⟨w.heap.size + 2, 0, none⟩ = some (.pointer (some ⟨w.heap.size + 1, 0, none⟩)) := hz6.par.cell 0
         try have V6 : Blk w6 w4.heap.size 43 [.int .i64 0, .int .i64 0, .slice none 0 0] := V5.grown hg6 (by intro e; simp at e; omega)
         try have V6 : Blk w6 w5.heap.size 43 [.int .i64 0, .int .i64 0, .slice none 0 0] := (Blk.new w5 43 [.int .i64 0, .int .i64 0, .slice none 0 0]).grown hg6 (by intro e; simp at e; omega)
         try have v60 := V6.cell 0
         try have v61 := V6.cell 1
         try have v62 := V6.cell 2
         try have f60 := V6.frozen 0
         try have f61 := V6.frozen 1
         try have f62 := V6.frozen 2
         clear hz6 hg6)
      | (go_at_call 23
         refine (HN1.out _ (by first | exact HZ4d.out | exact HZ4d.out.below_ ((Below.refl _ _).alloc (Nat.le_refl _) _))).mono ?_
         rintro e w5 ⟨rfl, hz5, hg5⟩
         have HZ5 := Lib.hid hz5
         have p5 : w5.cell? ⟨w.heap.size + 2, 0, none⟩ = some (.pointer (some ⟨w.heap.size + 1, 0, none⟩)) := hz5.par.cell 0
         have hs5 := hz5.par.lt
         have q5 : ∀ o, (w5.alloc o).cell? ⟨w.heap.size + 2, 0, none⟩ = some (.pointer (some ⟨w.heap.size + 1, 0, none⟩)) := fun o => (hz5.par.alloc o).cell 0
         try have V5 : Blk w5 w4.heap.size 43 [.int .i64 0, .int .i64 0, .slice none 0 0] := (Blk.new w4.drew 43 [.int .i64 0, .int .i64 0, .slice none 0 0]).grown hg5 (by intro e; simp at e; omega)
         clear hz5 hg5))
    all_goals
      go_wp2_with fail
      go_meet
      first
        | exact ⟨w6.heap.size, rfl, HZ6.out.par.lt, HZ6.out.below_ ((Below.refl _ w6).alloc (Nat.le_refl _) _), Blk.new w6 _ [.int .i64 1, .int .i64 20, .slice none 0 0]⟩
        | exact ⟨w5.heap.size, rfl, HZ5.out.par.lt, ((HZ6.out.set (by have := HZ5.out.par.lt; omega) _ _).set (by have := HZ5.out.par.lt; omega) _ _).set (by have := HZ5.out.par.lt; omega) _ _, ((V6.set_ 0 _).set_ 1 _).set_ 2 _⟩
        | exact ⟨w4.heap.size, rfl, HZ4.out.par.lt, ((HZ6.out.set (by have := HZ4.out.par.lt; omega) _ _).set (by have := HZ4.out.par.lt; omega) _ _).set (by have := HZ4.out.par.lt; omega) _ _, ((V6.set_ 0 _).set_ 1 _).set_ 2 _⟩
  case rest =>
    obtain ⟨V, rfl, hV, hz, hv⟩ := hcut
    have hVn : ¬ w.heap.size = V := by omega
    have hVm : ¬ V = w.heap.size := by omega
    have HZC := Lib.hid hz; have HVC := Lib.hid hv
    clear hz hv
    rcases HCS.out with ⟨rfl, rfl⟩ | ⟨rfl, rfl⟩
    · go_wp2_with fail
      go_loopw [] (fun wr => Hid (Pz w wr a 10 c 10 head10 (.slice none 0 0) (.slice none 0 0)) ∧ Hid (Blk wr V 43 [.int .i64 1, .int .i64 20, .slice none 0 0])) (fun _ => 0)
      case atStart => exact ⟨HZC.out, HVC.out⟩
      case round =>
        obtain ⟨HZR, HVR⟩ := hrel
        have p0 : wr.cell? ⟨w.heap.size + 2, 0, none⟩ = some (.pointer (some ⟨w.heap.size + 1, 0, none⟩)) := HZR.out.par.cell 0
        have HEN := Lib.hid (fun q => wireEnd_ok (w.heap.size + 1) (some ⟨a, 0, none⟩) 10 c (wr.drewN q) (HZR.out.rdr.drewN q))
        have HZRd := Lib.hid (fun q => HZR.out.below_ (Below_drewN (Below.refl _ wr) q))
        have HVRd := Lib.hid (fun q => HVR.out.drewN q)
        have p1 : wr.cell? ⟨w.heap.size + 2, 1, none⟩ = some (.slice none 0 0) := HZR.out.par.cell 1
        have HLE := Lib.hid (wireLeft_ok (w.heap.size + 1) (some ⟨a, 0, none⟩) 10 c 10 wr HZR.out.rdr (by omega) (by omega))
        go_wp2_with (first
          | (go_at_call 24; refine HLE.out.mono ?_; rintro e w5 ⟨rfl, q5, rfl⟩)
          | (go_at_call 28; refine (HEN.out _).mono ?_; rintro e w6 ⟨rfl, q6, rfl⟩)
          | (go_at_call 7; refine (sound_any 0 none 0 0 0 [] [] _ (.inl rfl) (fun i id h => by simp at h) rfl (by omega) rfl (by omega)).mono ?_; rintro e w7 ⟨rfl, hb7⟩; have HZ7 := Lib.hid ((HZRd.out (q5 + q6)).below_ hb7); have HV7 := Lib.hid ((HVRd.out (q5 + q6)).below_ hb7); have v72 : w7.cell? ⟨V, 2, none⟩ = some (.slice none 0 0) := HV7.out.cell 2; have f72 := HV7.out.frozen 2; have v70 : w7.cell? ⟨V, 0, none⟩ = some (.int .i64 1) := HV7.out.cell 0; have v71 : w7.cell? ⟨V, 1, none⟩ = some (.int .i64 20) := HV7.out.cell 1; have s70 : w7.cell? ⟨w.heap.size, 0, none⟩ = some (.int .i64 0) := HZ7.out.tape.cell 0; have s71 : w7.cell? ⟨w.heap.size, 1, none⟩ = some (.int .i64 0) := HZ7.out.tape.cell 1; have s72 : w7.cell? ⟨w.heap.size, 2, none⟩ = some (.slice none 0 0) := HZ7.out.tape.cell 2; have g70 := HZ7.out.tape.frozen 0; have g71 := HZ7.out.tape.frozen 1; have g72 := HZ7.out.tape.frozen 2; have p71 : w7.cell? ⟨w.heap.size + 2, 1, none⟩ = some (.slice none 0 0) := HZ7.out.par.cell 1; clear hb7))
        have HS8 := Lib.hid ((((HZ7.out.tape.far (p := ⟨V, 2, none⟩) (by show w.heap.size ≠ V; omega) (.slice none 0 0)).set_ 0 (.int .i64 1)).set_ 1 (.int .i64 20)).set_ 2 (.slice none 0 0))
        refine bodyPost_ret (v := .tuple #[.agg #[.int .i64 1, .int .i64 20, .slice none 0 0], Value.nilIface]) (results_row_tmp rfl rfl HS8.out Try.underlying43 rfl infoTape rfl) rfl ⟨?_, .inl ⟨rfl, rfl⟩⟩
        exact (((HZ7.out.below.setCell (by show w.heap.size ≤ V; omega) _).setCell (Nat.le_refl _) _).setCell (Nat.le_refl _) _).setCell (Nat.le_refl _) _
    · go_wp2_with fail
      go_loopw [] (fun wr => Hid (Pz w wr a 11 c 10 (head10 ++ [37]) (.slice none 0 0) (.slice none 0 0)) ∨ ∃ gb cb gs cs : Nat, Hid (Pz w wr a 11 c 11 (head10 ++ [37]) (.slice (some ⟨gb, 0, none⟩) 1 cb) (.slice (some ⟨gs, 0, none⟩) 1 cs)) ∧ Hid (wr.rangeAt gb 0 blk37) ∧ Hid (wr.cell? ⟨gs, 0, none⟩ = some (.int .i64 10))) (fun wr => match wr.cell? ⟨w.heap.size + 1, 1, none⟩ with | some (.int _ 10) => 1 | _ => 0)
      case atStart => exact .inl HZC.out
      case round =>
        rcases hrel with HZR | ⟨gb, cb, gs, cs, HZR, HGB, HGS⟩
        · have p0 : wr.cell? ⟨w.heap.size + 2, 0, none⟩ = some (.pointer (some ⟨w.heap.size + 1, 0, none⟩)) := HZR.out.par.cell 0
          have p1 : wr.cell? ⟨w.heap.size + 2, 1, none⟩ = some (.slice none 0 0) := HZR.out.par.cell 1
          have HLE := Lib.hid (wireLeft_ok (w.heap.size + 1) (some ⟨a, 0, none⟩) 11 c 10 wr HZR.out.rdr (by omega) (by omega))
          have hm : wr.cell? ⟨w.heap.size + 1, 1, none⟩ = some (.int .i64 10) := HZR.out.rdr.cell 1
          have HM := Lib.hid hm
          have HZRd := Lib.hid (fun q => HZR.out.below_ (Below_drewN (Below.refl _ wr) q))
          have HBL := Lib.hid (fun q => HB37 (w.heap.size + 2) (w.heap.size + 1) ⟨a, 0, none⟩ 11 c 10 (wr.drewN q) (HZRd.out q).par (HZRd.out q).rdr (ints_one (HZRd.out q).ints rfl) (by omega) (by omega) hc (by show a ≠ _; omega) (by omega))
          clear hm
          go_wp2_with (first
            | (go_at_call 24; refine HLE.out.mono ?_; rintro e w5 ⟨rfl, q5, rfl⟩)
            | (go_at_call 27; refine (HBL.out _).mono ?_; rintro e w6 ⟨gb, cb, gs, cs, rfl, hp6, hr6, hg6, hc6, hk6⟩; have HZ6 := Lib.hid ((HZRd.out q5).kept hk6 hr6 hp6); have HG6 := Lib.hid hg6; have HC6 := Lib.hid hc6; clear hp6 hr6 hg6 hc6 hk6))
          go_roundw
          case rel => exact .inr ⟨gb, cb, gs, cs, HZ6.out, HG6.out, HC6.out⟩
          case measure =>
            have h6 : w6.cell? ⟨w.heap.size + 1, 1, none⟩ = some (.int .i64 11) := HZ6.out.rdr.cell 1
            rw [HM.out, h6]
            decide
        · have p0 : wr.cell? ⟨w.heap.size + 2, 0, none⟩ = some (.pointer (some ⟨w.heap.size + 1, 0, none⟩)) := HZR.out.par.cell 0
          have p1 : wr.cell? ⟨w.heap.size + 2, 1, none⟩ = some (.slice (some ⟨gb, 0, none⟩) 1 cb) := HZR.out.par.cell 1
          have HEN := Lib.hid (fun q => wireEnd_ok (w.heap.size + 1) (some ⟨a, 0, none⟩) 11 c (wr.drewN q) (HZR.out.rdr.drewN q))
          have HZRd := Lib.hid (fun q => HZR.out.below_ (Below_drewN (Below.refl _ wr) q))
          have HLE := Lib.hid (wireLeft_ok (w.heap.size + 1) (some ⟨a, 0, none⟩) 11 c 11 wr HZR.out.rdr (by omega) (by omega))
          have HSO := Lib.hid (fun q => sound_any gb (some ⟨gb, 0, none⟩) 1 cb 0 [37] [] (wr.drewN q) (.inr rfl) (blks37 HGB.out) rfl (by omega) rfl (by omega))
          have hgs := HGS.out
          go_wp2_with (first
            | (go_at_call 24; refine HLE.out.mono ?_; rintro e w5 ⟨rfl, q5, rfl⟩)
            | (go_at_call 28; refine (HEN.out _).mono ?_; rintro e w6 ⟨rfl, q6, rfl⟩)
            | (go_at_call 7; refine (HSO.out _).mono ?_; rintro e w7 ⟨rfl, hb7⟩; rw [first37]; have HZ7 := Lib.hid ((HZRd.out (q5 + q6)).below_ hb7); have s70 : w7.cell? ⟨w.heap.size, 0, none⟩ = some (.int .i64 0) := HZ7.out.tape.cell 0; have s71 : w7.cell? ⟨w.heap.size, 1, none⟩ = some (.int .i64 0) := HZ7.out.tape.cell 1; have s72 : w7.cell? ⟨w.heap.size, 2, none⟩ = some (.slice none 0 0) := HZ7.out.tape.cell 2; have g70 := HZ7.out.tape.frozen 0; have g71 := HZ7.out.tape.frozen 1; have g72 := HZ7.out.tape.frozen 2; have p72 : w7.cell? ⟨w.heap.size + 2, 2, none⟩ = some (.slice (some ⟨gs, 0, none⟩) 1 cs) := HZ7.out.par.cell 2; have c7 : w7.cell? ⟨gs, 0, none⟩ = some (.int .i64 10) := (hb7.cell (block_lt_of_cell hgs)).trans hgs; clear hb7))
          have hgn : ¬ w.heap.size = gs := fun e => by rw [← e, s70] at c7; injection c7 with c7; injection c7 with _ c7; exact absurd c7 (by decide)
          have hgm : ¬ gs = w.heap.size := fun e => hgn e.symm
          have hglt : gs < w7.heap.size := block_lt_of_cell c7
          have hslt : w.heap.size < w7.heap.size := HZ7.out.tape.lt
          have hplt : w.heap.size + 2 < w7.heap.size := HZ7.out.par.lt
          go_region
          all_goals
            go_wp2_with fail
            have HS8 := Lib.hid (((((HZ7.out.tape.set_ 0 (.int .i64 0)).set_ 1 (.int .i64 0)).set_ 2 (.slice none 0 0)).alloc (.cells #[.int .i64 6, .int .i64 10] 51)).drew)
            have HF8 : Hid (Blk ((((w7.setCell ⟨w.heap.size, 0, none⟩ (.int .i64 0)).setCell ⟨w.heap.size, 1, none⟩ (.int .i64 0)).setCell ⟨w.heap.size, 2, none⟩ (.slice none 0 0)).alloc (.cells #[.int .i64 6, .int .i64 10] 51)).drew w7.heap.size 51 [.int .i64 6, .int .i64 10]) := by
              show Blk _ _ _ _
              obtain ⟨W, hW⟩ : ∃ W, W = ((w7.setCell ⟨w.heap.size, 0, none⟩ (.int .i64 0)).setCell ⟨w.heap.size, 1, none⟩ (.int .i64 0)).setCell ⟨w.heap.size, 2, none⟩ (.slice none 0 0) := ⟨_, rfl⟩
              have hWs : W.heap.size = w7.heap.size := by rw [hW]; simp
              rw [← hW, ← hWs]
              exact (Blk.new W _ [.int .i64 6, .int .i64 10]).drew
            refine bodyPost_ret (v := .tuple #[.agg #[.int .i64 0, .int .i64 0, .slice none 0 0], .iface 48 (.pointer (some ⟨w7.heap.size, 0, none⟩))]) (results_row_tmp rfl rfl HS8.out Try.underlying43 rfl infoTape rfl) rfl ⟨?_, .inr ⟨rfl, w7.heap.size, rfl, HF8.out⟩⟩
            exact (((((HZ7.out.below.setCell (Nat.le_refl _) _).setCell (Nat.le_refl _) _).setCell (Nat.le_refl _) _).alloc (by have := HZ7.out.below.size; simp; omega) _).drew)
end Go.Proofs.Ytaipkoeiahjghaa
