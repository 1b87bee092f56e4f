/- tzx.pairs. -/
import Derived.Test.YtaipkoeiahjghaaTzxC
import Derived.Deep.MidRow
namespace Go.Proofs.Ytaipkoeiahjghaa
set_option linter.unusedSimpArgs false
set_option linter.unusedVariables false
open Go.RowKit
/-- a block's cells -/
def blkRow (id : Int) (ta ia : Value) : List Value := [.int .i64 id, .int .i64 0, .int .i64 0, .int .i64 0, .int .i64 0, .int .i64 0, .int .i64 0, .int .i64 0, .int .i64 0, .int .i64 0, .int .i64 0, .int .i64 0, .slice none 0 0, ta, ia, .slice none 0 0, .slice none 0 0, .slice none 0 0]
/-- numbers as a block's Times -/
def TimesAt (w : World) (ta : Value) (T : List Int) : Prop := ∃ A c, ta = .slice A T.length c ∧ Ints w A .i64 T ∧ (A = none → T.length = 0 ∧ c = 0)
/-- numbers as a block's Items -/
def ItemsAt (w : World) (ia : Value) (T : List Int) : Prop := ∃ h c, (T = [] ∧ ∃ A, ia = .slice A 0 c) ∨ (ia = .slice (some ⟨h, 0, none⟩) T.length c ∧ ∀ k x, T[k]? = some x → w.rangeAt h (k * 2) [.int .i64 x, .slice none 0 0])
/-- blocks of these IDs, of these numbers, lie in a row -/
def Blks (w : World) (g : Nat) (ids T : List Int) : Prop := ∀ i id, ids[i]? = some id → ∃ ta ia, w.rangeAt g (i * 18) (blkRow id ta ia) ∧ TimesAt w ta T ∧ ItemsAt w ia T ∧ ta.oneCell' = true ∧ ia.oneCell' = true
theorem rangeAt_below {w w' : World} {b o : Nat} {cs : List Value} (h : w.rangeAt b o cs) (hb : Below w.heap.size w w') : w'.rangeAt b o cs := fun j v hj => by
  have := h j v hj
  exact (hb.cell (block_lt_of_cell this)).trans this
theorem TimesAt.below {w w' : World} {ta : Value} {T : List Int} (h : TimesAt w ta T) (hb : Below w.heap.size w w') : TimesAt w' ta T := by
  obtain ⟨A, c, e, hi, hn⟩ := h
  exact ⟨A, c, e, hi.below hb, hn⟩
theorem ItemsAt.below {w w' : World} {ia : Value} {T : List Int} (h : ItemsAt w ia T) (hb : Below w.heap.size w w') : ItemsAt w' ia T := by
  obtain ⟨g, c, h1 | ⟨h1, h2⟩⟩ := h
  · exact ⟨g, c, .inl h1⟩
  · exact ⟨g, c, .inr ⟨h1, fun k x hk => rangeAt_below (h2 k x hk) hb⟩⟩
theorem Blks.below {w w' : World} {g : Nat} {ids T : List Int} (h : Blks w g ids T) (hb : Below w.heap.size w w') : Blks w' g ids T := fun i id hi => by
  obtain ⟨ta, ia, h1, h2, h3, h4, h5⟩ := h i id hi
  exact ⟨ta, ia, rangeAt_below h1 hb, h2.below hb, h3.below hb, h4, h5⟩
theorem infoBlk : (Try.prog.info? 30).map (·.size) = some 18 := by kernel_rfl
theorem infoBool : (Try.prog.info? 4).map (fun i => (i.zero, i.size, i.bytes)) = some (some (.bool false), 1, 1) := by kernel_rfl
theorem mkBools (n : Nat) (hn : n ≤ 281474976710656) (u : World) : (Instr.makeSlice 56 (.int .i64 (n : Int)) (.int .i64 (n : Int))).run Try.prog u =
    .ok (.slice (some ⟨u.heap.size, 0, none⟩) n n) (u.alloc (.cells (List.replicate n (Value.bool false)).toArray 4)) := by
  obtain ⟨i0, hi, hz0, hz1, hz2⟩ := info_parts infoBool
  have h := run_make (P := Try.prog) u 56 4 i0 (.bool false) Try.underlying56 hi hz0 .i64 .i64 (n : Int) (n : Int) (by omega) (Int.le_refl _) (by rw [hz2]; omega) (by omega)
  have e : madeCells #[Value.bool false] n = (List.replicate n (Value.bool false)).toArray := by
    apply Array.ext
    · simp [madeCells]
    · intro j h1 h2
      simp [madeCells, Nat.mod_one]
  have e2 : (n : Int).toNat = n := by omega
  rw [hz1, Nat.mul_one, e2, show (Value.bool false).cells = #[Value.bool false] from rfl, e] at h
  exact h
namespace Tz
def lastAt (ids : List Int) (e : Int) : Nat → Int
  | 0 => -1
  | k + 1 => if ids.getD k 0 = e then k else lastAt ids e k
def openAt (ids : List Int) (b e : Int) : Nat → Bool
  | 0 => false
  | k + 1 => if ids.getD k 0 = b then true else if ids.getD k 0 = e then false else openAt ids b e k
def badAt (ids : List Int) (b e : Int) (i : Nat) : Bool :=
  if ids.getD i 0 = b then openAt ids b e i || decide (lastAt ids e ids.length < i) else if ids.getD i 0 = e then !openAt ids b e i else false
/-- the blocks that don't fit, the first k told -/
def bads (ids : List Int) (b e : Int) (k : Nat) : List Value := (List.range k).map (fun i => Value.bool (badAt ids b e i)) ++ List.replicate (ids.length - k) (.bool false)
theorem bads_zero (ids : List Int) (b e : Int) : bads ids b e 0 = List.replicate ids.length (.bool false) := by simp [bads]
theorem bads_set (ids : List Int) (b e : Int) (k : Nat) (hk : k < ids.length) : (bads ids b e k).set k (.bool (badAt ids b e k)) = bads ids b e (k + 1) := by
  unfold bads
  rw [List.set_append_right _ _ (by simp)]
  obtain ⟨m, hm⟩ : ∃ m, ids.length - k = m + 1 := ⟨ids.length - k - 1, by omega⟩
  rw [hm, List.range_succ, show ids.length - (k + 1) = m by omega]
  simp [List.replicate_succ]
theorem bads_skip (ids : List Int) (b e : Int) (k : Nat) (hk : k < ids.length) (h : badAt ids b e k = false) : bads ids b e k = bads ids b e (k + 1) := by
  rw [← bads_set ids b e k hk, h]
  unfold bads
  rw [List.set_append_right _ _ (by simp)]
  obtain ⟨m, hm⟩ : ∃ m, ids.length - k = m + 1 := ⟨ids.length - k - 1, by omega⟩
  rw [hm]
  simp [List.replicate_succ]
theorem lastAt_range (ids : List Int) (e : Int) (k : Nat) : -1 ≤ lastAt ids e k ∧ lastAt ids e k < k := by
  induction k with
  | zero => simp [lastAt]
  | succ k ih => simp only [lastAt]; split <;> omega
end Tz
set_option maxRecDepth 100000 in
set_option maxHeartbeats 2000000 in
theorem pairs_any (g : Nat) (A : Option Addr) (n c : Nat) (ids T : List Int) (b e : Int) (w : World) (hA : n = 0 ∨ A = some ⟨g, 0, none⟩) (hL : Blks w g ids T) (hn : ids.length = n) (hn1 : n ≤ 200) :
    Calls Try.prog 18 #[.slice A n c, .int .i64 b, .int .i64 e] w fun x w' => x = .returned (.slice (some ⟨w.heap.size, 0, none⟩) n n) ∧ Blk w' w.heap.size 4 (Tz.bads ids b e n) ∧ Below w.heap.size w w' := by
  have HMK := Lib.hid (mkBools n (by omega))
  have HL := Lib.hid hL; have HN := Lib.hid hn
  have hmk := mkBools n (by omega) w
  clear hL hn
  obtain ⟨w1, hw1⟩ : ∃ w1, w1 = w.alloc (.cells (List.replicate n (Value.bool false)).toArray 4) := ⟨_, rfl⟩
  rw [← hw1] at hmk
  have HB1 := Lib.hid (show Below w.heap.size w w1 by rw [hw1]; exact (Below.refl _ w).alloc (Nat.le_refl _) _)
  have HK1 := Lib.hid (show Blk w1 w.heap.size 4 (List.replicate n (Value.bool false)) by rw [hw1]; exact Blk.new w _ _)
  clear hw1
  go_enter Try.func18, Try.ntmps18
  go_wp2_with fail
  clear hmk
  go_loopw [8, 9, 10, 19] (fun last _ _ idx wr => ∃ k : Nat, k ≤ n ∧ idx = .int .i64 k ∧ last = .int .i64 (Tz.lastAt ids e k) ∧ Hid (Below w1.heap.size w1 wr)) (fun _ _ _ idx _ => n - (intOf idx).toNat)
  case atStart => exact ⟨0, by omega, rfl, rfl, Below.refl _ _⟩
  case round =>
    obtain ⟨k, hk, rfl, rfl, HB⟩ := hrel
    by_cases hlt : k < n
    · obtain ⟨id, hid⟩ : ∃ x, ids[k]? = some x := ⟨_, List.getElem?_eq_getElem (by rw [HN.out]; exact hlt)⟩
      obtain ⟨ta, ia, hr, _, _, ta1, ia1⟩ := (HL.out.below HB1.out).below HB.out k id hid
      have HR := Lib.hid hr
      have hA2 : A = some ⟨g, 0, none⟩ := by rcases hA with h | h; omega; exact h
      subst hA2
      obtain ⟨R, hRR⟩ : ∃ R, R = blkRow id ta ia := ⟨_, rfl⟩
      rw [← hRR] at HR
      have HRL : Hid (some 18 = some R.toArray.size) := by show _ = _; rw [hRR]; rfl
      have HSZ : Hid (R.toArray.size = 18) := by show _ = _; rw [hRR]; rfl
      have hc0 : (wr.alloc (.cells R.toArray 30)).cell? ⟨wr.heap.size, 0, none⟩ = some (.int .i64 id) := by rw [(Blk.new wr _ R).cell 0, hRR]; rfl
      have hgd : ids.getD k 0 = id := by simp [List.getD, hid]
      have HGD := Lib.hid hgd
      have HB2 := Lib.hid (HB.out.alloc HB.out.size (.cells R.toArray 30))
      have HR0 : Hid (R[0]? = some (.int .i64 id)) := by show _ = _; rw [hRR]; rfl
      have HR1 : Hid (R.toArray.all (·.oneCell') = true) := by show _ = _; rw [hRR]; simp [blkRow, ta1, ia1, show ∀ x, (Value.int .i64 x).oneCell' = true from fun _ => rfl, show (Value.slice none 0 0).oneCell' = true from rfl]
      clear hr ta1 ia1 hRR hgd hid
      by_cases hie : id = e
      · have HLA : Hid (Tz.lastAt ids e (k + 1) = k) := by show (if ids.getD k 0 = e then (k : Int) else _) = _; rw [HGD.out, if_pos hie]
        have hbe : (id == e) = true := by simpa using hie
        go_wp2_with (first
          | (refine wpList_load_mid rfl 30 (.tmp 22) rfl g (k * 18) rfl R _ HR.out Try.underlying30 rfl (infoBlk.trans HRL.out) ?_)
          | (refine wpList_store_rowTo rfl 30 (.tmp 10) (.tmp 23) rfl rfl wr.heap.size _ rfl rfl 30 _ (heap_alloc_new wr _) (infoBlk.trans HRL.out) (by rw [HSZ.out]; rfl) HR1.out ?_; rw [World.setRow_alloc_new]))
        go_roundw
        case rel => exact ⟨k + 1, by omega, by go_num, by rw [HLA.out], HB2.out⟩
        case measure => simp [intOf]; omega
      · have HLA : Hid (Tz.lastAt ids e (k + 1) = Tz.lastAt ids e k) := by show (if ids.getD k 0 = e then (k : Int) else _) = _; rw [HGD.out, if_neg hie]
        have hbe : (id == e) = false := by simpa using hie
        go_wp2_with (first
          | (refine wpList_load_mid rfl 30 (.tmp 22) rfl g (k * 18) rfl R _ HR.out Try.underlying30 rfl (infoBlk.trans HRL.out) ?_)
          | (refine wpList_store_rowTo rfl 30 (.tmp 10) (.tmp 23) rfl rfl wr.heap.size _ rfl rfl 30 _ (heap_alloc_new wr _) (infoBlk.trans HRL.out) (by rw [HSZ.out]; rfl) HR1.out ?_; rw [World.setRow_alloc_new]))
        go_roundw
        case rel => exact ⟨k + 1, by omega, by go_num, by rw [HLA.out], HB2.out⟩
        case measure => simp [intOf]; omega
    · obtain rfl : k = n := by omega
      go_wp2_with fail
      have HBB := Lib.hid (HB1.out.trans (HB.out.mono HB1.out.size))
      have HK2 := Lib.hid (HK1.out.below_ HB.out)
      have HLST := Lib.hid (Tz.lastAt_range ids e k)
      obtain ⟨L, hL⟩ : ∃ L, L = Tz.lastAt ids e k := ⟨_, rfl⟩
      rw [← hL] at HLST ⊢
      have HLL := Lib.hid hL
      have hsz2 := HBB.out.size
      clear hL
      obtain ⟨w2, rfl⟩ : ∃ w2, w2 = wr := ⟨_, rfl⟩
      go_loopw [11, 12, 13, 32] (fun opn _ _ idx wq => ∃ j : Nat, j ≤ k ∧ idx = .int .i64 j ∧ opn = .bool (Tz.openAt ids b e j) ∧ Hid (Below w.heap.size w wq) ∧ Hid (Blk wq w.heap.size 4 (Tz.bads ids b e j))) (fun _ _ _ idx _ => k - (intOf idx).toNat)
      case atStart => exact ⟨0, by omega, rfl, rfl, HBB.out, by rw [Tz.bads_zero, HN.out]; exact HK2.out⟩
      case round =>
        obtain ⟨j, hj, rfl, rfl, HB, HK⟩ := hrel
        by_cases hlt : j < k
        · obtain ⟨id, hid⟩ : ∃ x, ids[j]? = some x := ⟨_, List.getElem?_eq_getElem (by rw [HN.out]; exact hlt)⟩
          obtain ⟨ta, ia, hr, _, _, ta1, ia1⟩ := HL.out.below HB.out j id hid
          have HR := Lib.hid hr
          have hA2 : A = some ⟨g, 0, none⟩ := by rcases hA with h | h; omega; exact h
          subst hA2
          obtain ⟨R, hRR⟩ : ∃ R, R = blkRow id ta ia := ⟨_, rfl⟩
          rw [← hRR] at HR
          have HRL : Hid (some 18 = some R.toArray.size) := by show _ = _; rw [hRR]; rfl
          have HSZ : Hid (R.toArray.size = 18) := by show _ = _; rw [hRR]; rfl
          have hc0 : (wr.alloc (.cells R.toArray 30)).cell? ⟨wr.heap.size, 0, none⟩ = some (.int .i64 id) := by rw [(Blk.new wr _ R).cell 0, hRR]; rfl
          have hgd : ids.getD j 0 = id := by simp [List.getD, hid]
          have HGD := Lib.hid hgd
          have HR0 : Hid (R[0]? = some (.int .i64 id)) := by show _ = _; rw [hRR]; rfl
          have HR1 : Hid (R.toArray.all (·.oneCell') = true) := by show _ = _; rw [hRR]; simp [blkRow, ta1, ia1, show ∀ x, (Value.int .i64 x).oneCell' = true from fun _ => rfl, show (Value.slice none 0 0).oneCell' = true from rfl]
          clear hr ta1 ia1 hRR hgd hid
          obtain ⟨u, hu⟩ : ∃ u, u = wr.alloc (.cells R.toArray 30) := ⟨_, rfl⟩
          have HKU : Hid (Blk u w.heap.size 4 (Tz.bads ids b e j)) := by rw [hu]; exact HK.out.alloc _
          have HBU : Hid (Below w.heap.size w u) := by rw [hu]; exact HB.out.alloc HB.out.size _
          have hbl : (Tz.bads ids b e j)[j]? = some (.bool false) := by
            unfold Tz.bads
            rw [List.getElem?_append_right (by simp), List.length_map, List.length_range, Nat.sub_self, List.getElem?_replicate, if_pos (by rw [HN.out]; omega)]
          have cj : u.cell? ⟨w.heap.size, j, none⟩ = some (.bool false) := by rw [HKU.out.cell j, hbl]
          have fj : u.frozen? ⟨w.heap.size, j, none⟩ = false := HKU.out.frozen j
          have hJ : j < ids.length := by rw [HN.out]; exact hlt
          have HSET := Lib.hid (Tz.bads_set ids b e j hJ)
          have HSKIP := Lib.hid (Tz.bads_skip ids b e j hJ)
          have HSTO := Lib.hid (fun v => (HKU.out.set_ j v))
          have HBA : Hid (Tz.badAt ids b e j = if id = b then Tz.openAt ids b e j || decide (L < j) else if id = e then !Tz.openAt ids b e j else false) := by show _ = _; unfold Tz.badAt; rw [HGD.out, HN.out, ← HLL.out]
          have HOA : Hid (Tz.openAt ids b e (j + 1) = if id = b then true else if id = e then false else Tz.openAt ids b e j) := by show (if ids.getD j 0 = b then _ else _) = _; rw [HGD.out]
          obtain ⟨O, hO⟩ : ∃ O, O = Tz.openAt ids b e j := ⟨_, rfl⟩
          rw [← hO] at HBA HOA ⊢
          clear hO hbl hJ
          rw [← hu] at hc0
          have HU := Lib.hid hu
          clear hu
          by_cases hib : id = b
          · have e1 : (id == b) = true := by simpa using hib
            rw [if_pos hib] at HBA HOA
            cases O with
            | true =>
              go_wp2_with (first
                          | (refine wpList_load_mid rfl 30 (.tmp 35) rfl g (j * 18) rfl R _ HR.out Try.underlying30 rfl (infoBlk.trans HRL.out) ?_)
                          | (refine wpList_store_rowTo rfl 30 (.tmp 13) (.tmp 36) rfl rfl wr.heap.size _ rfl rfl 30 _ (heap_alloc_new wr _) (infoBlk.trans HRL.out) (by rw [HSZ.out]; rfl) HR1.out ?_; rw [World.setRow_alloc_new, ← HU.out]))
              go_roundw
              case rel => exact ⟨j + 1, by omega, by go_num, by rw [HOA.out], HBU.out.setCell (Nat.le_refl _) _, by show Blk _ _ _ _; have h := HSTO.out (.bool true); rw [← HSET.out, HBA.out]; simpa using h⟩
              case measure => simp [intOf]; omega
            | false =>
              by_cases hLj : L < j
              · skip
                go_wp2_with (first
                            | (refine wpList_load_mid rfl 30 (.tmp 35) rfl g (j * 18) rfl R _ HR.out Try.underlying30 rfl (infoBlk.trans HRL.out) ?_)
                            | (refine wpList_store_rowTo rfl 30 (.tmp 13) (.tmp 36) rfl rfl wr.heap.size _ rfl rfl 30 _ (heap_alloc_new wr _) (infoBlk.trans HRL.out) (by rw [HSZ.out]; rfl) HR1.out ?_; rw [World.setRow_alloc_new, ← HU.out]))
                go_roundw
                case rel => exact ⟨j + 1, by omega, by go_num, by rw [HOA.out], HBU.out.setCell (Nat.le_refl _) _, by show Blk _ _ _ _; have h := HSTO.out (.bool true); rw [← HSET.out, HBA.out]; simpa [hLj] using h⟩
                case measure => simp [intOf]; omega
              · skip
                go_wp2_with (first
                            | (refine wpList_load_mid rfl 30 (.tmp 35) rfl g (j * 18) rfl R _ HR.out Try.underlying30 rfl (infoBlk.trans HRL.out) ?_)
                            | (refine wpList_store_rowTo rfl 30 (.tmp 13) (.tmp 36) rfl rfl wr.heap.size _ rfl rfl 30 _ (heap_alloc_new wr _) (infoBlk.trans HRL.out) (by rw [HSZ.out]; rfl) HR1.out ?_; rw [World.setRow_alloc_new, ← HU.out]))
                go_roundw
                case rel => exact ⟨j + 1, by omega, by go_num, by rw [HOA.out], HBU.out.setCell (Nat.le_refl _) _, by show Blk _ _ _ _; have h := HSTO.out (.bool false); rw [← HSET.out, HBA.out]; simpa [hLj] using h⟩
                case measure => simp [intOf]; omega
          · have e1 : (id == b) = false := by simpa using hib
            by_cases hie : id = e
            · have e2 : (id == e) = true := by simpa using hie
              rw [if_neg hib, if_pos hie] at HBA HOA
              cases O with
              | true =>
                go_wp2_with (first
                            | (refine wpList_load_mid rfl 30 (.tmp 35) rfl g (j * 18) rfl R _ HR.out Try.underlying30 rfl (infoBlk.trans HRL.out) ?_)
                            | (refine wpList_store_rowTo rfl 30 (.tmp 13) (.tmp 36) rfl rfl wr.heap.size _ rfl rfl 30 _ (heap_alloc_new wr _) (infoBlk.trans HRL.out) (by rw [HSZ.out]; rfl) HR1.out ?_; rw [World.setRow_alloc_new, ← HU.out]))
                go_roundw
                case rel => exact ⟨j + 1, by omega, by go_num, by rw [HOA.out], HBU.out.setCell (Nat.le_refl _) _, by show Blk _ _ _ _; have h := HSTO.out (.bool false); rw [← HSET.out, HBA.out]; simpa using h⟩
                case measure => simp [intOf]; omega
              | false =>
                go_wp2_with (first
                            | (refine wpList_load_mid rfl 30 (.tmp 35) rfl g (j * 18) rfl R _ HR.out Try.underlying30 rfl (infoBlk.trans HRL.out) ?_)
                            | (refine wpList_store_rowTo rfl 30 (.tmp 13) (.tmp 36) rfl rfl wr.heap.size _ rfl rfl 30 _ (heap_alloc_new wr _) (infoBlk.trans HRL.out) (by rw [HSZ.out]; rfl) HR1.out ?_; rw [World.setRow_alloc_new, ← HU.out]))
                go_roundw
                case rel => exact ⟨j + 1, by omega, by go_num, by rw [HOA.out], HBU.out.setCell (Nat.le_refl _) _, by show Blk _ _ _ _; have h := HSTO.out (.bool true); rw [← HSET.out, HBA.out]; simpa using h⟩
                case measure => simp [intOf]; omega
            · have e2 : (id == e) = false := by simpa using hie
              rw [if_neg hib, if_neg hie] at HBA HOA
              go_wp2_with (first
                          | (refine wpList_load_mid rfl 30 (.tmp 35) rfl g (j * 18) rfl R _ HR.out Try.underlying30 rfl (infoBlk.trans HRL.out) ?_)
                          | (refine wpList_store_rowTo rfl 30 (.tmp 13) (.tmp 36) rfl rfl wr.heap.size _ rfl rfl 30 _ (heap_alloc_new wr _) (infoBlk.trans HRL.out) (by rw [HSZ.out]; rfl) HR1.out ?_; rw [World.setRow_alloc_new, ← HU.out]))
              go_roundw
              case rel => exact ⟨j + 1, by omega, by go_num, by rw [HOA.out], HBU.out, by rw [← HSKIP.out HBA.out]; exact HKU.out⟩
              case measure => simp [intOf]; omega
        · obtain rfl : j = k := by omega
          go_wp2_with fail
          go_ret
          exact ⟨rfl, HK.out, HB.out⟩
end Go.Proofs.Ytaipkoeiahjghaa
