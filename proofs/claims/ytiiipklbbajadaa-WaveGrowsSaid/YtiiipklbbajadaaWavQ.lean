/- WaveGrows: the law's body. -/
import Derived.Test.YtiiipklbbajadaaWavP
import Derived.Test.YtiiipklbbajadaaMemE
import Derived.Test.YtiiipklbbajadaaStr
namespace Go.Proofs.Ytiiipklbbajadaa
set_option linter.unusedSimpArgs false
set_option linter.unusedVariables false
open Go.RowKit
set_option maxRecDepth 100000 in
theorem grow_out (A : Option Addr) (n c : Nat) (cc k x : Int) (w : World) (h : 300 < n ∨ n = 0) :
    Calls Try.prog 3 #[.slice A n c, .int .u8 cc, .agg #[.int .i64 k, .int .i64 x]] w (Yes w) := by
  have h' : (300 : Int) < n ∨ ¬ (300 : Int) < n ∧ (n : Int) = 0 := by omega
  clear h
  rcases h' with h | ⟨h, h2⟩
  all_goals
    go_enter Try.func3, Try.ntmps3
    go_wp2_with (first
      | (go_at_call 6; refine (lives23 _).mono ?_; rintro e w1 ⟨rfl, hb1⟩))
    go_ret
    exact ⟨rfl, (below_al1 w _).trans (hb1.mono (by simp))⟩
theorem infoByteW : (Try.prog.info? 5).map (fun i => (i.zero, i.size, i.bytes)) = some (some (.int .u8 0), 1, 1) := by kernel_rfl
set_option maxRecDepth 100000 in
theorem built20 (ze on : Int) (A : Option Addr) (n c : Nat) : Try.prog.built 30 [(0, .int .i64 20), (5, .int .i64 ze), (6, .int .i64 on), (9, .int .i64 8), (12, .slice A n c)] = some ((B20 ze on).cells (.slice A n c) nilS nilS nilS nilS nilS).toArray := by kernel_rfl
theorem grow_new (ze on : Int) (A : Option Addr) (n c : Nat) (D : List Int) (u : World) (hi : Ints u A .u8 D) (hn : D.length = n) (hb : Byts D) (hn1 : n ≤ 301) :
    Calls Try.prog 7 #[.agg ((B20 ze on).cells (.slice A n c) nilS nilS nilS nilS nilS).toArray] u (NewR (ps20 (B20 ze on) n D) u) := by
  refine (new20 (B20 ze on) nilS nilS nilS nilS nilS A n c D u hi hn hb (by omega) rfl).mono ?_
  rintro e u' ⟨rfl, h1, h2⟩
  exact ⟨rfl, WvS.ready20 h1 (by omega) (by show (0 : Int) ≤ 0 ∧ (0 : Int) ≤ 70000; omega), h2⟩
def LenP (L : Int) (u : World) (e : Ending) (u' : World) : Prop := e = .returned (.int .i64 L) ∧ Below u.heap.size u u'
theorem grow_lens (ze on : Int) (n : Nat) (D : List Int) (u : World) (g : Nat) (h : WvR u g (ps20 (B20 ze on) n D)) : Calls Try.prog 8 #[.pointer (some ⟨g, 0, none⟩)] u (LenP (16 * n) u) := by
  rw [← grow_len ze on n D]
  exact wv_len_any _ u g h
set_option maxRecDepth 100000 in
set_option maxHeartbeats 8000000 in
theorem grow_any (A : Option Addr) (n c : Nat) (D : List Int) (cc k x : Int) (w : World) (hi : Ints w A .u8 D) (hn : D.length = n) (hb : Byts D) (hn1 : n ≤ 300) (hn0 : 0 < n) (hnil : A = none → n = 0 ∧ c = 0) (hcc : 0 ≤ cc ∧ cc ≤ 255) :
    Calls Try.prog 3 #[.slice A n c, .int .u8 cc, .agg #[.int .i64 k, .int .i64 x]] w (Yes w) := by
  have HI := Lib.hid hi; have HN := Lib.hid hn; have HB := Lib.hid hb; have HN1 := Lib.hid hn1; have HNIL := Lib.hid hnil
  have h300 : ¬ (300 : Int) < n := by omega
  have hnz : ((n : Int) == 0) = false := by simp; omega
  clear hi hn hb hnil
  go_enter Try.func3, Try.ntmps3
  go_upto_region 3 with fail
  go_region
  generalize hze : max 0 (min k 65535) = ze
  generalize hon : max 0 (min x 65535) = on
  generalize hw1 : World.drew _ = w1
  have HB1 : Hid (Below w.heap.size w w1) := by show Below _ _ _; rw [← hw1]; exact (below_al1 w _).drew
  clear hw1
  have hzr : 0 ≤ ze ∧ ze ≤ 65535 := by omega
  have hor : 0 ≤ on ∧ on ≤ 65535 := by omega
  clear hze hon
  have hbu := built20 ze on A n c
  have hone : ((B20 ze on).cells (.slice A n c) nilS nilS nilS nilS nilS).toArray.all (·.oneCell') = true := by kernel_rfl
  have hsz : ((B20 ze on).cells (.slice A n c) nilS nilS nilS nilS nilS).toArray.size = 18 := by kernel_rfl
  obtain ⟨CS, hCS⟩ : ∃ CS, CS = ((B20 ze on).cells (.slice A n c) nilS nilS nilS nilS nilS).toArray := ⟨_, rfl⟩
  rw [← hCS] at hbu hone hsz
  have HBu := Lib.hid hbu; have HONE := Lib.hid hone; have HSZ := Lib.hid hsz; have HCS := Lib.hid hCS
  have HI1 : Hid ((Try.prog.info? 30).map (·.size) = some CS.size) := by show _ = _; rw [infoBlkN, hsz]
  clear hbu hone hsz hCS
  obtain ⟨u1, hu1⟩ : ∃ u1, u1 = w1.alloc (.cells CS 30) := ⟨_, rfl⟩
  have HU1 := Lib.hid hu1
  have HK1 : Hid (u1.heap[w1.heap.size]? = some (.cells CS 30 (0, 0))) := by show _ = _; rw [hu1]; exact heap_alloc_new w1 _
  have HB2 : Hid (Below w.heap.size w u1) := by show Below _ _ _; rw [hu1]; exact HB1.out.trans ((below_al1 w1 _).mono HB1.out.size)
  have hus : u1.heap.size = w1.heap.size + 1 := by rw [hu1]; simp
  have HUS := Lib.hid hus
  clear hu1 hus
  obtain ⟨u2, hu2⟩ : ∃ u2, u2 = u1.alloc (.cells CS 30) := ⟨_, rfl⟩
  have HU2 := Lib.hid hu2
  have HK2 : Hid (u2.heap[u1.heap.size]? = some (.cells CS 30 (0, 0))) := by show _ = _; rw [hu2]; exact heap_alloc_new u1 _
  have HB3 : Hid (Below u1.heap.size u1 u2) := by show Below _ _ _; rw [hu2]; exact below_al1 u1 _
  clear hu2
  go_upto_region 4 with fail
  refine wp_region_list ?_
  iterate 8 go_step
  refine wpList_buildTo rfl 30 #[(0, .const (.int .i64 20)), (5, .tmp 44), (6, .tmp 45), (9, .const (.int .i64 8)), (12, .tmp 46)] rfl (some 47) rfl CS (Eq.trans (congrArg _ (by simp; exact ⟨rfl, rfl, rfl, rfl, rfl⟩)) HBu.out) ?_
  go_upto_region 6 with (first
    | (refine wpList_load_row rfl 30 (.tmp 9) rfl w1.heap.size rfl 30 CS (0, 0) _ HK1.out Try.underlying30 rfl HI1.out ?_)
    | (refine wpList_store_rowTo rfl 30 (.tmp 9) (.tmp 47) rfl rfl w1.heap.size CS rfl rfl 30 _ (heap_alloc_new w1 _) HI1.out (by rw [HSZ.out]; rfl) HONE.out ?_; rw [World.setRow_alloc_new, ← HU1.out])
    | (refine wpList_store_rowTo rfl 30 (.tmp 10) (.tmp 48) rfl rfl u1.heap.size CS rfl rfl 30 _ (heap_alloc_new u1 _) HI1.out (by rw [HSZ.out]; rfl) HONE.out ?_; rw [World.setRow_alloc_new, ← HU2.out]))
  have HK12 : Hid (u2.heap[w1.heap.size]? = some (.cells CS 30 (0, 0))) := Lib.hid ((HB3.out.block _ (by rw [HUS.out]; exact Nat.lt_succ_self _)).trans HK1.out)
  have HBE : Hid (Below w.heap.size w (u2.alloc (.cells #[] 5))) := Lib.hid ((HB2.out.trans (HB3.out.mono HB2.out.size)).trans ((below_al1 u2 _).mono (Nat.le_trans HB2.out.size HB3.out.size)))
  have hus2 : u1.heap.size < u2.heap.size := (show Blk u2 u1.heap.size 30 _ from by have := HK2.out; rw [HCS.out] at this; exact this).lt
  have HUS2 := Lib.hid hus2
  clear hus2
  have hon0 : (u2.alloc (.cells #[] 5)).ownsRow u2.heap.size 5 1 (.slice (some ⟨u2.heap.size, 0, none⟩) 0 0) 0 [] := own_of_blk (Blk.new u2 5 []) (Nat.le_refl _) rfl (Nat.zero_le _)
  have HO0 := Lib.hid hon0
  clear hon0
  have HT2 : Hid (Blk u2 u1.heap.size 30 ((B20 ze on).cells (.slice A n c) nilS nilS nilS nilS nilS)) := by
    show Blk _ _ _ _
    have := HK2.out
    rw [HCS.out] at this
    exact this
  go_upto_region 7 with (first
    | (at_builtin
       refine wpList_app1s w3 (by rfl) (.tmp 51) (.tmp 53) 22 (by rfl) u2.heap.size 5 (.int .u8 0) 1 Try.underlying22 infoByteW rfl v3 n (D.map (.int .u8)) (by rfl) HO3.out (.int .u8 cc) (by rfl) rfl (by omega) (by omega) HS3.out ?_
       intro g4 c4 w4 ho4 hg4
       have HO4 := Lib.hid ho4
       have HB4 : Hid (Below u2.heap.size u2 w4) := Lib.hid (Below_own HBB3.out HO3.out hg4 (Nat.le_refl _) HBB3.out.size)
       have HT4 := Lib.hid (HT2.out.below HB4.out HUS2.out)
       have t12 := HT4.out.cell 12
       have q12 := HT4.out.frozen 12
       clear ho4 hg4)
    | (at_builtin
       refine wpList_appAny (u2.alloc (.cells #[] 5)) (by rfl) (.tmp 49) (.tmp 50) 22 (by rfl) u2.heap.size 5 (.int .u8 0) 1 Try.underlying22 infoByteW rfl (.slice (some ⟨u2.heap.size, 0, none⟩) 0 0) 0 [] (by rfl) HO0.out A n c (D.map (.int .u8)) (by rfl) (by rw [List.length_map]; exact HN.out) (Cells.below HI.out HBE.out) HNIL.out (fun u hu => by obtain ⟨x, -, rfl⟩ := List.mem_map.1 hu; rfl) (by unfold maxLen; omega) (by omega) (by simp) ?_
       intro v3 w3 ho3 hg3
       rw [Nat.zero_add, List.nil_append] at ho3
       have HO3 := Lib.hid ho3; have HG3 := Lib.hid hg3
       have HS3 : Hid (u2.heap.size ≤ w3.heap.size) := Lib.hid (Nat.le_trans (by simp) hg3.size)
       have HBB3 : Hid (Below u2.heap.size u2 w3) := Lib.hid (Below_own (below_al1 u2 _) HO0.out hg3 (Nat.le_refl _) (below_al1 u2 _).size)
       clear ho3 hg3))
  generalize hw6 : World.setCell w4 _ _ = w6
  have HT6 : Hid (Blk w6 u1.heap.size 30 ((B20 ze on).cells (.slice (some ⟨g4, 0, none⟩) (n + 1) c4) nilS nilS nilS nilS nilS)) := by
    show Blk _ _ _ _
    rw [← hw6]
    exact HT4.out.set_ 12 _
  have HUS2b := HUS2.out
  have HB6 : Hid (Below u1.heap.size u1 w6) := by
    show Below _ _ _
    rw [← hw6]
    exact (HB3.out.trans (HB4.out.mono (Nat.le_of_lt HUS2b))).setCell (Nat.le_refl _) _
  have HI6 : Hid (Ints w6 A .u8 D) := Lib.hid (HI.out.below (HB2.out.trans (HB6.out.mono HB2.out.size)))
  obtain ⟨ys, hbk, hcc4⟩ := own_blk HO4.out
  have HI7 : Hid (Ints w6 (some ⟨g4, 0, none⟩) .u8 (D ++ [cc])) := by
    show Ints _ _ _ _
    refine ints_of_blk (t := 5) (ys := ys) ?_
    rw [← hw6, List.map_append]
    exact Blk.far hbk (by have := (HO4.out.lt g4 rfl).1; simp; omega) _
  have HK6 : Hid (w6.heap[w1.heap.size]? = some (.cells CS 30 (0, 0))) := Lib.hid ((HB6.out.block _ (by rw [HUS.out]; exact Nat.lt_succ_self _)).trans HK1.out)
  have HBW6 : Hid (Below w.heap.size w w6) := Lib.hid (HB2.out.trans (HB6.out.mono HB2.out.size))
  clear hw6 t12 q12 HUS2b hbk
  have HN1 : Hid (∀ u, Ints u A .u8 D → Calls Try.prog 7 #[.agg CS] u (NewR (ps20 (B20 ze on) n D) u)) := Lib.hid (fun u hu => by rw [HCS.out]; exact grow_new ze on A n c D u hu HN.out HB.out (by omega))
  obtain ⟨CS2, hCS2⟩ : ∃ CS2, CS2 = ((B20 ze on).cells (.slice (some ⟨g4, 0, none⟩) (n + 1) c4) nilS nilS nilS nilS nilS).toArray := ⟨_, rfl⟩
  have HBD : Hid (Byts (D ++ [cc])) := Lib.hid (fun x hx => by
    rcases List.mem_append.1 hx with h | h
    · exact HB.out x h
    · rw [List.mem_singleton.1 h]; exact hcc)
  have HN2 : Hid (∀ u, Ints u (some ⟨g4, 0, none⟩) .u8 (D ++ [cc]) → Calls Try.prog 7 #[.agg CS2] u (NewR (ps20 (B20 ze on) (n + 1) (D ++ [cc])) u)) := Lib.hid (fun u hu => by rw [hCS2]; exact grow_new ze on (some ⟨g4, 0, none⟩) (n + 1) c4 (D ++ [cc]) u hu (by rw [List.length_append, HN.out]; rfl) HBD.out (by omega))
  have HK7 : Hid (w6.heap[u1.heap.size]? = some (.cells CS2 30 (0, 0))) := by show _ = _; rw [hCS2]; exact HT6.out
  have HI2 : Hid ((Try.prog.info? 30).map (·.size) = some CS2.size) := by show _ = _; rw [infoBlkN, hCS2]; kernel_rfl
  have HLE1 : Hid (∀ u g, WvR u g (ps20 (B20 ze on) n D) → Calls Try.prog 8 #[.pointer (some ⟨g, 0, none⟩)] u (LenP (16 * n) u)) := Lib.hid (fun u g h => grow_lens ze on n D u g h)
  have HLE2 : Hid (∀ u g, WvR u g (ps20 (B20 ze on) (n + 1) (D ++ [cc])) → Calls Try.prog 8 #[.pointer (some ⟨g, 0, none⟩)] u (LenP (16 * (n : Int) + 16) u)) := Lib.hid (fun u g h => by have := grow_lens ze on (n + 1) (D ++ [cc]) u g h; rw [show (16 * ((n + 1 : Nat) : Int)) = 16 * n + 16 by omega] at this; exact this)
  have HAT1 : Hid (∀ (i : Nat) u g, i < 16 * n → WvR u g (ps20 (B20 ze on) n D) → Calls Try.prog 9 #[.pointer (some ⟨g, 0, none⟩), .int .i64 i] u (TelP 0 (Wv.ee ze on D i) true u)) := Lib.hid (fun i u g hi h => grow_tell ze on n D i hi (by omega) u g h)
  have HAT2 : Hid (∀ (i : Nat) u g, i < 16 * n + 16 → WvR u g (ps20 (B20 ze on) (n + 1) (D ++ [cc])) → Calls Try.prog 9 #[.pointer (some ⟨g, 0, none⟩), .int .i64 i] u (TelP 0 (Wv.ee ze on (D ++ [cc]) i) true u)) := Lib.hid (fun i u g hi h => grow_tell ze on (n + 1) (D ++ [cc]) i (by omega) (by omega) u g h)
  obtain ⟨P1, hP1⟩ : ∃ P1, P1 = ps20 (B20 ze on) n D := ⟨_, rfl⟩
  obtain ⟨P2, hP2⟩ : ∃ P2, P2 = ps20 (B20 ze on) (n + 1) (D ++ [cc]) := ⟨_, rfl⟩
  rw [← hP1] at HN1 HLE1 HAT1
  rw [← hP2] at HN2 HLE2 HAT2
  have W1 : IntKind.i64.wrap (16 * (n : Int)) = 16 * n := by rw [IntKind.wrap_i64]; omega
  have W2 : IntKind.i64.wrap (16 * (n : Int) + 16) = 16 * n + 16 := by rw [IntKind.wrap_i64]; omega
  have HUL : Hid (w1.heap.size < u1.heap.size) := by show _ < _; rw [HUS.out]; exact Nat.lt_succ_self _
  have HUL6 : Hid (u1.heap.size < w6.heap.size) := Lib.hid (HT6.out.lt)
  clear hCS2 hP1 hP2 HBu HONE HSZ HCS HU1 HK1 HU2 HK2 HK12 HBE HUS2 HO0 HT2 HO3 HBB3 HO4 HB4 HT4 HG3 HS3 HBD
  have HND := HN
  go_upto_region 9 with (first
    | (refine wpList_load_row rfl 30 (.tmp 10) rfl u1.heap.size rfl 30 CS2 (0, 0) _ HK8.out Try.underlying30 rfl HI2.out ?_)
    | (refine wpList_load_row rfl 30 (.tmp 9) rfl w1.heap.size rfl 30 CS (0, 0) _ HK6.out Try.underlying30 rfl HI1.out ?_)
    | (go_at_call 7; refine (HN2.out _ HI8.out).mono ?_; rintro e w8 ⟨rfl, hr8, hb8⟩; have HR2 : Hid (WvR w8 (w7.heap.size + 1) P2) := Lib.hid hr8; have HR1' : Hid (WvR w8 (w6.heap.size + 1) P1) := Lib.hid (HR1.out.below hb8); have HB8 : Hid (Below w.heap.size w w8) := Lib.hid (HB7.out.trans (hb8.mono HB7.out.size)); clear hb8 hr8)
    | (go_at_call 7; refine (HN1.out w6 HI6.out).mono ?_; rintro e w7 ⟨rfl, hr7, hb7⟩; have HR1 : Hid (WvR w7 (w6.heap.size + 1) P1) := Lib.hid hr7; have HB7 : Hid (Below w.heap.size w w7) := Lib.hid (HBW6.out.trans (hb7.mono HBW6.out.size)); have HI8 := Lib.hid (HI7.out.below hb7); have HK8 : Hid (w7.heap[u1.heap.size]? = some (.cells CS2 30 (0, 0))) := Lib.hid ((hb7.block _ HUL6.out).trans HK7.out); clear hb7 hr7))
  go_wp2_with (first
    | (go_at_call 8; refine (HLE1.out _ _ HR1c.out).mono ?_; rintro e w11 ⟨rfl, hb11⟩; have HR1d := Lib.hid (HR1c.out.below hb11); have HR2d := Lib.hid (HR2c.out.below hb11); have HB11 : Hid (Below w.heap.size w w11) := Lib.hid (HB10.out.trans (hb11.mono HB10.out.size)); clear hb11)
    | (go_at_call 8; refine (HLE1.out _ _ HR1b.out).mono ?_; rintro e w10 ⟨rfl, hb10⟩; have HR1c := Lib.hid (HR1b.out.below hb10); have HR2c := Lib.hid (HR2b.out.below hb10); have HB10 : Hid (Below w.heap.size w w10) := Lib.hid (HB9.out.trans (hb10.mono HB9.out.size)); clear hb10)
    | (go_at_call 8; refine (HLE2.out _ _ HR2.out).mono ?_; rintro e w9 ⟨rfl, hb9⟩; have HR1b := Lib.hid (HR1'.out.below hb9); have HR2b := Lib.hid (HR2.out.below hb9); have HB9 : Hid (Below w.heap.size w w9) := Lib.hid (HB8.out.trans (hb9.mono HB8.out.size)); clear hb9))
  go_loopw [15] (fun v wr => ∃ i : Nat, i ≤ 16 * n ∧ v = .int .i64 i ∧ Hid (Below w11.heap.size w11 wr)) (fun v _ => 16 * n - (intOf v).toNat)
  case atStart => exact ⟨0, by omega, rfl, Below.refl _ _⟩
  case round =>
    obtain ⟨i, hi, rfl, HBR⟩ := hrel
    obtain ⟨wo, rfl⟩ : ∃ wo : World, wo = wr := ⟨_, rfl⟩
    have HR1r := Lib.hid (HR1d.out.below HBR.out)
    have HR2r := Lib.hid (HR2d.out.below HBR.out)
    have HBo : Hid (Below w.heap.size w wo) := Lib.hid (HB11.out.trans (HBR.out.mono HB11.out.size))
    by_cases hlt : i < 16 * n
    · have hltI : (i : Int) < 16 * n := by omega
      have HA1 := Lib.hid (fun u g h => HAT1.out i u g hlt h)
      have HA2 := Lib.hid (fun u g h => HAT2.out i u g (by omega) h)
      have hee : Wv.ee ze on (D ++ [cc]) i = Wv.ee ze on D i := Wv.ee_old ze on D cc i (by rw [HND.out]; exact hlt)
      rw [hee] at HA2
      obtain ⟨E, hE⟩ : ∃ E, E = Wv.ee ze on D i := ⟨_, rfl⟩
      rw [← hE] at HA1 HA2
      have W3 : IntKind.i64.wrap ((i : Int) + 1) = i + 1 := by rw [IntKind.wrap_i64]; omega
      clear hE hee hlt
      go_wp2_with (first
        | (go_at_call 9; refine (HA2.out _ _ HR2t.out).mono ?_; rintro e x3 ⟨rfl, hx3⟩; have HXE : Hid (Blk x3 x2.heap.size 37 [.int .i64 0, .int .i64 E]) := Lib.hid ((Blk.new x2 37 [.int .i64 0, .int .i64 E]).below_ hx3); have HX3 : Hid (Below w11.heap.size w11 x3) := Lib.hid (HX2.out.trans (((below_al1 x2 _).trans (hx3.mono (by simp))).mono HX2.out.size)); have z0 : (x3.alloc (.cells #[.int .i64 0, .int .i64 E] 37)).cell? ⟨x2.heap.size, 0, none⟩ = some (.int .i64 0) := (HXE.out.alloc _).cell 0; have z1 : (x3.alloc (.cells #[.int .i64 0, .int .i64 E] 37)).cell? ⟨x2.heap.size, 1, none⟩ = some (.int .i64 E) := (HXE.out.alloc _).cell 1; clear hx3)
        | (go_at_call 9; refine (HA1.out _ _ HR1s.out).mono ?_; rintro e x2 ⟨rfl, hx2⟩; have HR2t := Lib.hid ((HR2s.out.below hx2).below (below_al1 x2 (.cells #[.int .i64 0, .int .i64 E] 37))); have HX2 : Hid (Below w11.heap.size w11 x2) := Lib.hid (HX1.out.trans (hx2.mono HX1.out.size)); clear hx2)
        | (go_at_call 8; refine (HLE1.out _ _ HR1r.out).mono ?_; rintro e x1 ⟨rfl, hx1⟩; have HR1s := Lib.hid (HR1r.out.below hx1); have HR2s := Lib.hid (HR2r.out.below hx1); have HX1 : Hid (Below w11.heap.size w11 x1) := Lib.hid (HBR.out.trans (hx1.mono HBR.out.size)); clear hx1))
      go_roundw
      case rel => exact ⟨i + 1, by omega, by simp, HX3.out.trans ((below_al1 x3 _).mono HX3.out.size)⟩
      case measure => simp [intOf]; omega
    · obtain rfl : i = 16 * n := by omega
      have hcast : ((16 * n : Nat) : Int) = 16 * (n : Int) := by omega
      rw [hcast]
      clear hcast hlt hi
      go_wp2_with (first
        | (go_at_call 8; refine (HLE1.out _ _ HR1r.out).mono ?_; rintro e y0 ⟨rfl, hy0⟩; have HR1y := Lib.hid (HR1r.out.below hy0); have HR2y := Lib.hid (HR2r.out.below hy0); have HY0 : Hid (Below w.heap.size w y0) := Lib.hid (HBo.out.trans (hy0.mono HBo.out.size)); clear hy0))
      have c0 : IntKind.i64.wrap cc = cc := by rw [IntKind.wrap_i64]; omega
      go_loopw [20, 21] (fun vk vi wr => ∃ m : Nat, m ≤ 8 ∧ vk = .int .i64 (cc / 2 ^ m) ∧ vi = .int .i64 (7 - (m : Int)) ∧ Hid (Below y0.heap.size y0 wr)) (fun _ vi _ => (intOf vi + 1).toNat)
      case atStart => exact ⟨0, by omega, by simp, rfl, Below.refl _ _⟩
      case round =>
        obtain ⟨m, hm, rfl, rfl, HBY⟩ := hrel
        obtain ⟨yo, rfl⟩ : ∃ yo : World, yo = wr := ⟨_, rfl⟩
        have HR1q := Lib.hid (HR1y.out.below HBY.out)
        have HR2q := Lib.hid (HR2y.out.below HBY.out)
        have HBYo : Hid (Below w.heap.size w yo) := Lib.hid (HY0.out.trans (HBY.out.mono HY0.out.size))
        by_cases hlt : m < 8
        · obtain ⟨j, hj⟩ : ∃ j : Nat, j = 7 - m := ⟨_, rfl⟩
          have hji : (7 - (m : Int)) = j := by omega
          have hmj : 7 - j = m := by omega
          have HT1 : Hid (∀ u g, WvR u g P2 → Calls Try.prog 9 #[.pointer (some ⟨g, 0, none⟩), .int .i64 (16 * (n : Int) + 2 * (j : Int))] u (TelP 0 (if (cc / 2 ^ m % 2 == 1) = true then on else ze) true u)) := Lib.hid (fun u g h => by
            have := HAT2.out (16 * n + 2 * j) u g (by omega) h
            have he := (Wv.ee_new ze on D cc j (by omega)).1
            rw [HND.out, hmj] at he
            rw [he, show ((16 * n + 2 * j : Nat) : Int) = 16 * (n : Int) + 2 * (j : Int) by omega] at this
            exact this)
          have HT2 : Hid (∀ u g, WvR u g P2 → Calls Try.prog 9 #[.pointer (some ⟨g, 0, none⟩), .int .i64 (16 * (n : Int) + 2 * (j : Int) + 1)] u (TelP 0 (if (cc / 2 ^ m % 2 == 1) = true then on else ze) true u)) := Lib.hid (fun u g h => by
            have := HAT2.out (16 * n + 2 * j + 1) u g (by omega) h
            have he := (Wv.ee_new ze on D cc j (by omega)).2
            rw [HND.out, hmj] at he
            rw [he, show ((16 * n + 2 * j + 1 : Nat) : Int) = 16 * (n : Int) + 2 * (j : Int) + 1 by omega] at this
            exact this)
          have hpw : (1 : Int) ≤ 2 ^ m := by have : (1 : Nat) ≤ 2 ^ m := Nat.one_le_two_pow
                                             exact_mod_cast this
          have hk0 : 0 ≤ cc / 2 ^ m := Int.ediv_nonneg hcc.1 (by omega)
          have hk1 : cc / 2 ^ m ≤ 255 := by
            have := Int.ediv_le_self (2 ^ m) hcc.1
            omega
          have HNX : Hid (cc / 2 ^ m / 2 = cc / 2 ^ (m + 1)) := by show _ = _; rw [Int.ediv_ediv_of_nonneg (by omega), Int.pow_succ]
          obtain ⟨kk, hkk⟩ : ∃ kk, kk = cc / 2 ^ m := ⟨_, rfl⟩
          rw [← hkk] at HT1 HT2 hk0 hk1 HNX ⊢
          rw [hji]
          have t1 : kk.tdiv 2 = kk / 2 := Int.tdiv_eq_ediv_of_nonneg hk0
          have t2 : kk.tmod 2 = kk % 2 := Int.tmod_eq_emod_of_nonneg hk0
          have t3 : IntKind.i64.wrap (kk / 2) = kk / 2 := by rw [IntKind.wrap_i64]; omega
          have t4 : IntKind.i64.wrap (kk % 2) = kk % 2 := by rw [IntKind.wrap_i64]; omega
          have v1 : IntKind.i64.wrap (2 * (j : Int)) = 2 * j := by rw [IntKind.wrap_i64]; omega
          have v2 : IntKind.i64.wrap (16 * (n : Int) + 2 * (j : Int)) = 16 * n + 2 * j := by rw [IntKind.wrap_i64]; omega
          have v3 : IntKind.i64.wrap (16 * (n : Int) + 2 * (j : Int) + 1) = 16 * n + 2 * j + 1 := by rw [IntKind.wrap_i64]; omega
          have v4 : IntKind.i64.wrap ((j : Int) - 1) = (j : Int) - 1 := by rw [IntKind.wrap_i64]; omega
          have HJ : Hid ((j : Int) - 1 = 7 - ((m + 1 : Nat) : Int)) := by show _ = _; omega
          have hj0 : (0 : Int) ≤ j := by omega
          have hj1 : ¬ (j : Int) < 0 := by omega
          have HM := Lib.hid hm
          clear hkk hpw hji hmj hj hk0 hk1 hm
          cases hbb : (kk % 2 == 1)
          all_goals
            rw [hbb] at HT1 HT2
            go_wp2_with (first
              | (go_at_call 9; refine (HT2.out _ _ HR2v.out).mono ?_; rintro e y4 ⟨rfl, hy4⟩; have HE4 := Lib.hid (HE3.out.below_ hy4); have HY4 : Hid (Below y0.heap.size y0 y4) := Lib.hid (HY3.out.trans (hy4.mono HY3.out.size)); have b0 := fun o => (HE4.out.alloc o).cell 0; have b1 := fun o => (HE4.out.alloc o).cell 1; clear hy4)
              | (go_at_call 8; refine (HLE1.out _ _ (HRR1.out.below (below_al1 y2 _))).mono ?_; rintro e y3 ⟨rfl, hy3⟩; have HR2v := Lib.hid ((HRR2.out.below (below_al1 y2 _)).below hy3); have HE3 := Lib.hid ((Blk.new y2 37 [.int .i64 0, .int .i64 _]).below_ hy3); have HY3 : Hid (Below y0.heap.size y0 y3) := Lib.hid (HYY.out.trans (((below_al1 y2 _).trans (hy3.mono (by simp))).mono HYY.out.size)); clear hy3)
              | (go_at_call 9; refine (HT1.out _ _ HR2t.out).mono ?_; rintro e y2 ⟨rfl, hy2⟩; have HRR1 := Lib.hid (HR1t.out.below hy2); have HRR2 := Lib.hid (HR2t.out.below hy2); have HYY : Hid (Below y0.heap.size y0 y2) := Lib.hid (HY1.out.trans (hy2.mono HY1.out.size)); clear hy2)
              | (go_at_call 8; refine (HLE1.out _ _ HR1q.out).mono ?_; rintro e y1 ⟨rfl, hy1⟩; have HR1t := Lib.hid (HR1q.out.below hy1); have HR2t := Lib.hid (HR2q.out.below hy1); have HY1 : Hid (Below y0.heap.size y0 y1) := Lib.hid (HBY.out.trans (hy1.mono HBY.out.size)); clear hy1))
          all_goals
            go_roundw
            case rel => exact ⟨m + 1, by have := HM.out; omega, by rw [HNX.out], by rw [HJ.out], HY4.out.trans ((below_al1 y4 _).mono HY4.out.size)⟩
            case measure => simp [intOf]
        · obtain rfl : m = 8 := by omega
          go_wp2_with (first
            | (go_at_call 6; refine (lives23 _).mono ?_; rintro e y9 ⟨rfl, hy9⟩))
          go_ret
          exact ⟨rfl, HBYo.out.trans (hy9.mono HBYo.out.size)⟩
end Go.Proofs.Ytiiipklbbajadaa
