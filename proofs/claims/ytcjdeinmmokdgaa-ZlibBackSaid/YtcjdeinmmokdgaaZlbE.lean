/- The law ZlibHeads: its own body. Written by gen_zlbe.py. -/
import Derived.Test.YtcjdeinmmokdgaaZlbD
namespace Go.Proofs.Ytcjdeinmmokdgaa
set_option linter.unusedSimpArgs false
set_option linter.unusedVariables false
open Go.RowKit
namespace Zl
theorem byts_pack (a d : Int) (bs more : List Int) (a0 : 0 ≤ a) (a1 : a ≤ 255) (d0 : 0 ≤ d) (d1 : d ≤ 255) (hr : ∀ x ∈ bs, 0 ≤ x ∧ x ≤ 255) (hm : ∀ x ∈ more, 0 ≤ x ∧ x ≤ 255) (hn : bs.length ≤ 65535) : ∀ x ∈ a :: d :: ((pack bs).drop 2 ++ more), 0 ≤ x ∧ x ≤ 255 := by
  intro x hx
  have hs := Ad.of_range bs
  have e : (pack bs).drop 2 = Hf.hdr 1 bs.length ++ bs ++ tail4 (Ad.of bs) := by simp [pack]
  rw [e] at hx
  simp only [List.mem_cons, List.mem_append, Hf.hdr, tail4, List.not_mem_nil, or_false] at hx
  rcases hx with rfl | rfl | ((h | h) | h) | h
  · exact ⟨a0, a1⟩
  · exact ⟨d0, d1⟩
  · omega
  · exact hr x h
  · omega
  · exact hm x h
end Zl
theorem heads_no (g N c : Nat) (a d : Int) (R : List Int) (u : World) (h : Ints u (some ⟨g, 0, none⟩) .u8 (a :: d :: R)) (a0 : 0 ≤ a) (a1 : a ≤ 255) (d0 : 0 ≤ d) (d1 : d ≤ 255) (hN : 2 ≤ N) (hc : N ≤ c) (hm : N ≤ 2000000) (lim : Int) (hl0 : 0 ≤ lim) (hl : lim ≤ 1048576) (hF : ¬ Zl.Fits a d) :
    Calls Try.prog 12 #[.slice (some ⟨g, 0, none⟩) N c, .int .i64 lim] u (UnpE 4 u) := by
  refine unpack_head _ N c lim 4 u hl0 hl (by decide) ?_
  have c0 : u.cell? ((⟨g, 0, none⟩ : Addr).add 0) = some (.int .u8 a) := by obtain ⟨x, e, hc⟩ := h 0 _ rfl; injection e with e; rw [e]; exact hc
  have c1 : u.cell? ((⟨g, 0, none⟩ : Addr).add 1) = some (.int .u8 d) := by obtain ⟨x, e, hc⟩ := h 1 _ rfl; injection e with e; rw [e]; exact hc
  have := headed_any ⟨g, 0, none⟩ N c a d u hN hc hm c0 c1 a0 a1 d0 d1
  rwa [if_neg hF] at this
theorem heads_fine (ad : Addr) (N c : Nat) (a d : Int) (R : List Int) (u : World) (h : Ints u (some ad) .u8 (a :: d :: R)) (a0 : 0 ≤ a) (a1 : a ≤ 255) (d0 : 0 ≤ d) (d1 : d ≤ 255) (hN : 2 ≤ N) (hc : N ≤ c) (hm : N ≤ 2000000) (hF : Zl.Fits a d) :
    Calls Try.prog 18 #[.slice (some ad) N c] u fun e w' => e = .returned (.int .i64 0) ∧ Drew u w' := by
  have c0 : u.cell? (ad.add 0) = some (.int .u8 a) := by obtain ⟨x, e, hc⟩ := h 0 _ rfl; injection e with e; rw [e]; exact hc
  have c1 : u.cell? (ad.add 1) = some (.int .u8 d) := by obtain ⟨x, e, hc⟩ := h 1 _ rfl; injection e with e; rw [e]; exact hc
  have := headed_any ad N c a d u hN hc hm c0 c1 a0 a1 d0 d1
  rwa [if_pos hF] at this
theorem heads_yes (g N c : Nat) (a d : Int) (bs more : List Int) (u : World) (h : Ints u (some ⟨g, 0, none⟩) .u8 (a :: d :: ((Zl.pack bs).drop 2 ++ more))) (hr : ∀ x ∈ bs, 0 ≤ x ∧ x ≤ 255) (hm : ∀ x ∈ more, 0 ≤ x ∧ x ≤ 255) (a0 : 0 ≤ a) (a1 : a ≤ 255) (d0 : 0 ≤ d) (d1 : d ≤ 255) (hn : bs.length ≤ 65535) (hN : bs.length + 11 + more.length = N) (hN2 : N ≤ 1000000) (hc : N ≤ c) (hg : g < u.heap.size) (lim : Int) (hl : lim ≤ 1048576) (hln : (bs.length : Int) ≤ lim) (hF : Zl.Fits a d) :
    Calls Try.prog 12 #[.slice (some ⟨g, 0, none⟩) N c, .int .i64 lim] u (UnpO bs (bs.length + 11) u) := by
  have hlen : (a :: d :: ((Zl.pack bs).drop 2 ++ more)).length = N := by simp [Zl.pack_length]; omega
  have := unpack_ok ⟨g, 0, none⟩ N c _ 1 lim bs (5 + bs.length) u h (Zl.byts_pack a d bs more a0 a1 d0 d1 hr hm hn) hlen (by omega) (by omega) hc hN2 hg (by omega) hl (heads_fine _ N c a d _ u h a0 a1 d0 d1 (by omega) hc (by omega) hF) (Zl.inf_pack a d bs more lim hn hln) (by omega) hr (by omega) (Zl.be_pack a d bs more)
  rw [show 6 + (5 + bs.length) = bs.length + 11 by omega] at this
  exact this
theorem heads_long (A : Option Addr) (n c : Nat) (a d : Int) (w : World) (h : 300 < n) : Calls Try.prog 6 #[.int .u8 a, .int .u8 d, .slice A n c] w (Yes w) := by
  have HL := Lib.hid (lives16 w)
  have h2 : (300 : Int) < n := by omega
  clear h
  go_enter Try.func6, Try.ntmps6
  go_wp2_with (first
    | (go_at_call 10; refine HL.out.mono ?_; rintro e w1 ⟨rfl, hb1⟩; have HB1 := Lib.hid hb1; clear hb1))
  go_ret
  exact ⟨rfl, HB1.out⟩
set_option maxRecDepth 100000 in
set_option maxHeartbeats 8000000 in
theorem heads_any (A : Option Addr) (n c : Nat) (bs : List Int) (a d : Int) (w : World) (h : Ints w A .u8 bs) (hr : ∀ x ∈ bs, 0 ≤ x ∧ x ≤ 255) (hn : bs.length = n) (hnc : n ≤ c) (hc : c ≤ 9223372036854775807) (hm : n ≤ 300) (hA : A = none → n = 0 ∧ c = 0) (a0 : 0 ≤ a) (a1 : a ≤ 255) (d0 : 0 ≤ d) (d1 : d ≤ 255) :
    Calls Try.prog 6 #[.int .u8 a, .int .u8 d, .slice A n c] w (Yes w) := by
  have HP := Lib.hid (pack_any A n c bs w h hr hn hnc hc (by omega) hA)
  obtain ⟨N, hN⟩ : ∃ N, N = n + 11 := ⟨_, rfl⟩
  have HPL : Hid ((Zl.pack bs).length = N) := by show _ = _; rw [Zl.pack_length]; omega
  have HPC : Hid (∃ R, Zl.pack bs = 120 :: 1 :: R ∧ (Zl.pack bs).drop 2 = R) := ⟨Hf.hdr 1 bs.length ++ bs ++ Zl.tail4 (Ad.of bs), by simp [Zl.pack], by simp [Zl.pack]⟩
  have HYES := Lib.hid (fun u g cc (hi : Ints u (some ⟨g, 0, none⟩) .u8 (a :: d :: ((Zl.pack bs).drop 2 ++ []))) (hcc : N ≤ cc) (hg : g < u.heap.size) (hF : Zl.Fits a d) => heads_yes g N cc a d bs [] u hi hr (fun x hx => by cases hx) a0 a1 d0 d1 (by omega) (by simp; omega) (by omega) hcc hg 300 (by omega) (by omega) hF)
  have HNO := Lib.hid (fun u g cc (hi : Ints u (some ⟨g, 0, none⟩) .u8 (a :: d :: ((Zl.pack bs).drop 2 ++ []))) (hcc : N ≤ cc) (hF : ¬ Zl.Fits a d) => heads_no g N cc a d _ u hi a0 a1 d0 d1 (by omega) hcc (by omega) 300 (by omega) (by omega) hF)
  have hm3 : ¬ (300 < (n : Int)) := by omega
  have hN2 : ¬ ((N : Int) < 2) := by omega
  have hN0 : 0 < N := by omega
  have hN1 : 1 < N := by omega
  have hN3 : (0 : Int) < N := by omega
  have hN4 : (1 : Int) < N := by omega
  have hN5 : N ≤ 1000 := by omega
  clear h hr hn hN hA
  have HLV := Lib.hid lives16
  by_cases p1 : a % 16 = 8
  · have t1 : ((a % 16 : Int) == 8) = true := by simpa using p1
    have P1 := Lib.hid p1
    clear p1
    by_cases p2 : a < 128
    · have t2 : decide (a < 128) = true := by simpa using p2
      have P2 := Lib.hid p2
      by_cases p3 : (256 * a + d) % 31 = 0
      · have t3 : (((256 * a + d) % 31 : Int) == 0) = true := by simpa using p3
        have P3 := Lib.hid p3
        clear p3
        by_cases p4 : d / 32 % 2 = 0
        · have t4 : ((d / 32 % 2 : Int) == 0) = true := by simpa using p4
          have HF : Hid (Zl.Fits a d) := ⟨P1.out, P2.out, P3.out, p4⟩
          clear p4
          go_enter Try.func6, Try.ntmps6
          go_wp2_with (first
            | (go_at_call 11
               refine HP.out.mono ?_
               rintro e w1 ⟨g, c1, rfl, ho1, hb1⟩
               obtain ⟨ys, hblk, hcc⟩ := own_blk ho1
               obtain ⟨R, hR, hR2⟩ := HPC.out
               rw [HPL.out] at hcc ⊢
               rw [hR] at hblk
               have HBK : Hid (Blk w1 g 5 (.int .u8 120 :: .int .u8 1 :: (R.map (.int .u8) ++ ys))) := hblk
               have HCC := Lib.hid hcc
               have HB1 := Lib.hid hb1
               have HGB : Hid (w.heap.size ≤ g) := (ho1.lt g rfl).1
               have cc0 : w1.cell? ⟨g, 0, none⟩ = some (.int .u8 120) := HBK.out.cell 0
               have cc1 : w1.cell? ⟨g, 1, none⟩ = some (.int .u8 1) := HBK.out.cell 1
               have ff0 := HBK.out.frozen 0
               have ff1 := HBK.out.frozen 1
               have HBU : Hid (Blk ((w1.setCell ⟨g, 0, none⟩ (.int .u8 a)).setCell ⟨g, 1, none⟩ (.int .u8 d)) g 5 (.int .u8 a :: .int .u8 d :: (R.map (.int .u8) ++ ys))) := (HBK.out.set_ 0 _).set_ 1 _
               have HIU : Hid (Ints ((w1.setCell ⟨g, 0, none⟩ (.int .u8 a)).setCell ⟨g, 1, none⟩ (.int .u8 d)) (some ⟨g, 0, none⟩) .u8 (a :: d :: ((Zl.pack bs).drop 2 ++ []))) := by
                 rw [hR2, List.append_nil]
                 exact ints_of_blk (ys := ys) HBU.out
               have HBW : Hid (Below w.heap.size w ((w1.setCell ⟨g, 0, none⟩ (.int .u8 a)).setCell ⟨g, 1, none⟩ (.int .u8 d))) := (hb1.setCell HGB.out _).setCell HGB.out _
               clear ho1 hblk hcc hR hR2 hb1)
            | (go_at_call 12
               refine (HYES.out _ g c1 HIU.out HCC.out HBU.out.lt HF.out).mono ?_
               rintro e w2 ⟨K2, c2, rfl, hi2, hb2⟩
               have HB2 := Lib.hid (HBW.out.trans (hb2.mono HBW.out.size))
               clear hi2 hb2)
            | (go_at_call 10; refine (HLV.out _).mono ?_; rintro e w3 ⟨rfl, hb3⟩; have HB3 := Lib.hid (HB2.out.trans (hb3.mono HB2.out.size)); clear hb3))
          go_ret
          exact ⟨rfl, HB3.out⟩
        · have t4 : ((d / 32 % 2 : Int) == 0) = false := by simpa using p4
          have HF : Hid (¬ Zl.Fits a d) := fun h => p4 h.2.2.2
          clear p4
          go_enter Try.func6, Try.ntmps6
          go_wp2_with (first
            | (go_at_call 11
               refine HP.out.mono ?_
               rintro e w1 ⟨g, c1, rfl, ho1, hb1⟩
               obtain ⟨ys, hblk, hcc⟩ := own_blk ho1
               obtain ⟨R, hR, hR2⟩ := HPC.out
               rw [HPL.out] at hcc ⊢
               rw [hR] at hblk
               have HBK : Hid (Blk w1 g 5 (.int .u8 120 :: .int .u8 1 :: (R.map (.int .u8) ++ ys))) := hblk
               have HCC := Lib.hid hcc
               have HB1 := Lib.hid hb1
               have HGB : Hid (w.heap.size ≤ g) := (ho1.lt g rfl).1
               have cc0 : w1.cell? ⟨g, 0, none⟩ = some (.int .u8 120) := HBK.out.cell 0
               have cc1 : w1.cell? ⟨g, 1, none⟩ = some (.int .u8 1) := HBK.out.cell 1
               have ff0 := HBK.out.frozen 0
               have ff1 := HBK.out.frozen 1
               have HBU : Hid (Blk ((w1.setCell ⟨g, 0, none⟩ (.int .u8 a)).setCell ⟨g, 1, none⟩ (.int .u8 d)) g 5 (.int .u8 a :: .int .u8 d :: (R.map (.int .u8) ++ ys))) := (HBK.out.set_ 0 _).set_ 1 _
               have HIU : Hid (Ints ((w1.setCell ⟨g, 0, none⟩ (.int .u8 a)).setCell ⟨g, 1, none⟩ (.int .u8 d)) (some ⟨g, 0, none⟩) .u8 (a :: d :: ((Zl.pack bs).drop 2 ++ []))) := by
                 rw [hR2, List.append_nil]
                 exact ints_of_blk (ys := ys) HBU.out
               have HBW : Hid (Below w.heap.size w ((w1.setCell ⟨g, 0, none⟩ (.int .u8 a)).setCell ⟨g, 1, none⟩ (.int .u8 d))) := (hb1.setCell HGB.out _).setCell HGB.out _
               clear ho1 hblk hcc hR hR2 hb1)
            | (go_at_call 12
               refine (HNO.out _ g c1 HIU.out HCC.out HF.out).mono ?_
               rintro e w2 ⟨rfl, hb2⟩
               have HB2 := Lib.hid (HBW.out.trans (hb2.mono HBW.out.size))
               clear hb2)
            | (go_at_call 10; refine (HLV.out _).mono ?_; rintro e w3 ⟨rfl, hb3⟩; have HB3 := Lib.hid (HB2.out.trans (hb3.mono HB2.out.size)); clear hb3))
          go_ret
          exact ⟨rfl, HB3.out⟩
      · have t3 : (((256 * a + d) % 31 : Int) == 0) = false := by simpa using p3
        have HF : Hid (¬ Zl.Fits a d) := fun h => p3 h.2.2.1
        clear p3
        go_enter Try.func6, Try.ntmps6
        go_wp2_with (first
          | (go_at_call 11
             refine HP.out.mono ?_
             rintro e w1 ⟨g, c1, rfl, ho1, hb1⟩
             obtain ⟨ys, hblk, hcc⟩ := own_blk ho1
             obtain ⟨R, hR, hR2⟩ := HPC.out
             rw [HPL.out] at hcc ⊢
             rw [hR] at hblk
             have HBK : Hid (Blk w1 g 5 (.int .u8 120 :: .int .u8 1 :: (R.map (.int .u8) ++ ys))) := hblk
             have HCC := Lib.hid hcc
             have HB1 := Lib.hid hb1
             have HGB : Hid (w.heap.size ≤ g) := (ho1.lt g rfl).1
             have cc0 : w1.cell? ⟨g, 0, none⟩ = some (.int .u8 120) := HBK.out.cell 0
             have cc1 : w1.cell? ⟨g, 1, none⟩ = some (.int .u8 1) := HBK.out.cell 1
             have ff0 := HBK.out.frozen 0
             have ff1 := HBK.out.frozen 1
             have HBU : Hid (Blk ((w1.setCell ⟨g, 0, none⟩ (.int .u8 a)).setCell ⟨g, 1, none⟩ (.int .u8 d)) g 5 (.int .u8 a :: .int .u8 d :: (R.map (.int .u8) ++ ys))) := (HBK.out.set_ 0 _).set_ 1 _
             have HIU : Hid (Ints ((w1.setCell ⟨g, 0, none⟩ (.int .u8 a)).setCell ⟨g, 1, none⟩ (.int .u8 d)) (some ⟨g, 0, none⟩) .u8 (a :: d :: ((Zl.pack bs).drop 2 ++ []))) := by
               rw [hR2, List.append_nil]
               exact ints_of_blk (ys := ys) HBU.out
             have HBW : Hid (Below w.heap.size w ((w1.setCell ⟨g, 0, none⟩ (.int .u8 a)).setCell ⟨g, 1, none⟩ (.int .u8 d))) := (hb1.setCell HGB.out _).setCell HGB.out _
             clear ho1 hblk hcc hR hR2 hb1)
          | (go_at_call 12
             refine (HNO.out _ g c1 HIU.out HCC.out HF.out).mono ?_
             rintro e w2 ⟨rfl, hb2⟩
             have HB2 := Lib.hid (HBW.out.trans (hb2.mono HBW.out.size))
             clear hb2)
          | (go_at_call 10; refine (HLV.out _).mono ?_; rintro e w3 ⟨rfl, hb3⟩; have HB3 := Lib.hid (HB2.out.trans (hb3.mono HB2.out.size)); clear hb3))
        go_ret
        exact ⟨rfl, HB3.out⟩
    · have t2 : decide (a < 128) = false := by simpa using p2
      have P2 : Hid (¬ a < 128) := p2
      have HF : Hid (¬ Zl.Fits a d) := fun h => P2.out h.2.1
      clear p2
      go_enter Try.func6, Try.ntmps6
      go_wp2_with (first
        | (go_at_call 11
           refine HP.out.mono ?_
           rintro e w1 ⟨g, c1, rfl, ho1, hb1⟩
           obtain ⟨ys, hblk, hcc⟩ := own_blk ho1
           obtain ⟨R, hR, hR2⟩ := HPC.out
           rw [HPL.out] at hcc ⊢
           rw [hR] at hblk
           have HBK : Hid (Blk w1 g 5 (.int .u8 120 :: .int .u8 1 :: (R.map (.int .u8) ++ ys))) := hblk
           have HCC := Lib.hid hcc
           have HB1 := Lib.hid hb1
           have HGB : Hid (w.heap.size ≤ g) := (ho1.lt g rfl).1
           have cc0 : w1.cell? ⟨g, 0, none⟩ = some (.int .u8 120) := HBK.out.cell 0
           have cc1 : w1.cell? ⟨g, 1, none⟩ = some (.int .u8 1) := HBK.out.cell 1
           have ff0 := HBK.out.frozen 0
           have ff1 := HBK.out.frozen 1
           have HBU : Hid (Blk ((w1.setCell ⟨g, 0, none⟩ (.int .u8 a)).setCell ⟨g, 1, none⟩ (.int .u8 d)) g 5 (.int .u8 a :: .int .u8 d :: (R.map (.int .u8) ++ ys))) := (HBK.out.set_ 0 _).set_ 1 _
           have HIU : Hid (Ints ((w1.setCell ⟨g, 0, none⟩ (.int .u8 a)).setCell ⟨g, 1, none⟩ (.int .u8 d)) (some ⟨g, 0, none⟩) .u8 (a :: d :: ((Zl.pack bs).drop 2 ++ []))) := by
             rw [hR2, List.append_nil]
             exact ints_of_blk (ys := ys) HBU.out
           have HBW : Hid (Below w.heap.size w ((w1.setCell ⟨g, 0, none⟩ (.int .u8 a)).setCell ⟨g, 1, none⟩ (.int .u8 d))) := (hb1.setCell HGB.out _).setCell HGB.out _
           clear ho1 hblk hcc hR hR2 hb1)
        | (go_at_call 12
           refine (HNO.out _ g c1 HIU.out HCC.out HF.out).mono ?_
           rintro e w2 ⟨rfl, hb2⟩
           have HB2 := Lib.hid (HBW.out.trans (hb2.mono HBW.out.size))
           clear hb2)
        | (go_at_call 10; refine (HLV.out _).mono ?_; rintro e w3 ⟨rfl, hb3⟩; have HB3 := Lib.hid (HB2.out.trans (hb3.mono HB2.out.size)); clear hb3))
      go_ret
      exact ⟨rfl, HB3.out⟩
  · have t1 : ((a % 16 : Int) == 8) = false := by simpa using p1
    have HF : Hid (¬ Zl.Fits a d) := fun h => p1 h.1
    clear p1
    go_enter Try.func6, Try.ntmps6
    go_wp2_with (first
      | (go_at_call 11
         refine HP.out.mono ?_
         rintro e w1 ⟨g, c1, rfl, ho1, hb1⟩
         obtain ⟨ys, hblk, hcc⟩ := own_blk ho1
         obtain ⟨R, hR, hR2⟩ := HPC.out
         rw [HPL.out] at hcc ⊢
         rw [hR] at hblk
         have HBK : Hid (Blk w1 g 5 (.int .u8 120 :: .int .u8 1 :: (R.map (.int .u8) ++ ys))) := hblk
         have HCC := Lib.hid hcc
         have HB1 := Lib.hid hb1
         have HGB : Hid (w.heap.size ≤ g) := (ho1.lt g rfl).1
         have cc0 : w1.cell? ⟨g, 0, none⟩ = some (.int .u8 120) := HBK.out.cell 0
         have cc1 : w1.cell? ⟨g, 1, none⟩ = some (.int .u8 1) := HBK.out.cell 1
         have ff0 := HBK.out.frozen 0
         have ff1 := HBK.out.frozen 1
         have HBU : Hid (Blk ((w1.setCell ⟨g, 0, none⟩ (.int .u8 a)).setCell ⟨g, 1, none⟩ (.int .u8 d)) g 5 (.int .u8 a :: .int .u8 d :: (R.map (.int .u8) ++ ys))) := (HBK.out.set_ 0 _).set_ 1 _
         have HIU : Hid (Ints ((w1.setCell ⟨g, 0, none⟩ (.int .u8 a)).setCell ⟨g, 1, none⟩ (.int .u8 d)) (some ⟨g, 0, none⟩) .u8 (a :: d :: ((Zl.pack bs).drop 2 ++ []))) := by
           rw [hR2, List.append_nil]
           exact ints_of_blk (ys := ys) HBU.out
         have HBW : Hid (Below w.heap.size w ((w1.setCell ⟨g, 0, none⟩ (.int .u8 a)).setCell ⟨g, 1, none⟩ (.int .u8 d))) := (hb1.setCell HGB.out _).setCell HGB.out _
         clear ho1 hblk hcc hR hR2 hb1)
      | (go_at_call 12
         refine (HNO.out _ g c1 HIU.out HCC.out HF.out).mono ?_
         rintro e w2 ⟨rfl, hb2⟩
         have HB2 := Lib.hid (HBW.out.trans (hb2.mono HBW.out.size))
         clear hb2)
      | (go_at_call 10; refine (HLV.out _).mono ?_; rintro e w3 ⟨rfl, hb3⟩; have HB3 := Lib.hid (HB2.out.trans (hb3.mono HB2.out.size)); clear hb3))
    go_ret
    exact ⟨rfl, HB3.out⟩
end Go.Proofs.Ytcjdeinmmokdgaa
