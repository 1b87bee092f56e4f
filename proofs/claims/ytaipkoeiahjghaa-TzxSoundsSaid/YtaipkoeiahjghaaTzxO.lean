/- squealref19.Wrong: the first part. -/
import Derived.Test.YtaipkoeiahjghaaTzxF
import Derived.Test.YtaipkoeiahjghaaMemE
import Derived.Deep.DeepCutAuto
namespace Go.Proofs.Ytaipkoeiahjghaa
set_option linter.unusedSimpArgs false
set_option linter.unusedVariables false
open Go.RowKit
namespace Tz
theorem lastAt_ne (ids : List Int) (e : Int) (i k : Nat) (h : ids.getD i 0 ≠ e) : lastAt ids e k ≠ i := by
  induction k with
  | zero => simp [lastAt]
  | succ k ih =>
    simp only [lastAt]
    split
    · intro hk
      have : k = i := by omega
      subst this
      exact h (by assumption)
    · exact ih
/-- what comes behind: so far -/
theorem later_step (ids : List Int) (e : Int) (i j : Nat) (h : i < j) : decide ((i : Int) < lastAt ids e (j + 1)) = (decide ((i : Int) < lastAt ids e j) || decide (ids.getD j 0 = e)) := by
  by_cases h1 : ids.getD j 0 = e
  · have h2 : lastAt ids e (j + 1) = j := by simp only [lastAt]; rw [if_pos h1]
    have h3 : (i : Int) < (j : Int) := by omega
    rw [h2, decide_eq_true h3, decide_eq_true h1, Bool.or_true]
  · have h2 : lastAt ids e (j + 1) = lastAt ids e j := by simp only [lastAt]; rw [if_neg h1]
    rw [h2, decide_eq_false h1, Bool.or_false]
theorem later_none (ids : List Int) (e : Int) (i : Nat) : decide ((i : Int) < lastAt ids e (i + 1)) = false := by
  have := (lastAt_range ids e (i + 1)).2
  simp; omega
theorem badAt_one (ids : List Int) (b e id : Int) (i : Nat) (hid : ids.getD i 0 = id) (hbe : b ≠ e) :
    badAt ids b e i = ((id == b && (openAt ids b e i || !decide ((i : Int) < lastAt ids e ids.length))) || (id == e && !openAt ids b e i)) := by
  unfold badAt
  rw [hid]
  by_cases h1 : id = b
  · have h2 : id ≠ e := by rw [h1]; exact hbe
    have h3 := lastAt_ne ids e i ids.length (by rw [hid]; exact h2)
    rw [if_pos h1]
    have : decide (lastAt ids e ids.length < (i : Int)) = !decide ((i : Int) < lastAt ids e ids.length) := by
      by_cases h4 : (i : Int) < lastAt ids e ids.length
      · simp [h4]; omega
      · simp [h4]; omega
    rw [this]
    simp [h1, hbe]
  · rw [if_neg h1]
    by_cases h2 : id = e
    · rw [if_pos h2]; simp [h2, Ne.symm hbe]
    · rw [if_neg h2]; simp [h1, h2]
theorem openAt_step (ids : List Int) (b e id : Int) (j : Nat) (hid : ids.getD j 0 = id) (hbe : b ≠ e) : openAt ids b e (j + 1) = if id = e then false else if id = b then true else openAt ids b e j := by
  simp only [openAt]
  rw [hid]
  by_cases h1 : id = b
  · have : id ≠ e := by rw [h1]; exact hbe
    rw [if_pos h1, if_neg this, if_pos h1]
  · rw [if_neg h1, if_neg h1]
theorem wrong6 {ids T : List Int} {i : Nat} (h : badAt ids 36 37 i = true ∨ badAt ids 33 34 i = true) : wrongAt ids T i = 6 := by
  unfold wrongAt
  rcases h with h | h <;> simp [h]
theorem wrongF {ids T : List Int} {i : Nat} {id : Int} {x : Bool} (h1 : badAt ids 36 37 i = false) (h2 : badAt ids 33 34 i = false) (hid : ids.getD i 0 = id) (hx : farS id T i ids.length = x) : wrongAt ids T i = if x then 5 else 0 := by
  unfold wrongAt
  rw [h1, h2, hid, hx]
  rfl
end Tz
theorem blks_id {w : World} {g k : Nat} {ids T : List Int} {id : Int} (h : Blks w g ids T) (hid : ids[k]? = some id) : w.cell? ⟨g, k * 18, none⟩ = some (.int .i64 id) := by
  obtain ⟨ta, ia, hr, _⟩ := h k id hid
  exact hr 0 _ rfl
def WrongP (ids T : List Int) (i : Nat) (w : World) (e : Ending) (w' : World) : Prop := e = .returned (.int .i64 (Tz.wrongAt ids T i)) ∧ Below w.heap.size w w'
set_option maxRecDepth 100000 in
set_option maxHeartbeats 4000000 in
theorem wrong_any (g n c m i : Nat) (ids T : List Int) (w : World) (hL : Blks w g ids T) (hn : ids.length = n) (hn1 : n ≤ 200) (hm : T.length = m) (hm1 : m ≤ 300) (hi : i < n) :
    Calls Try.prog 20 #[.slice (some ⟨g, 0, none⟩) n c, .int .i64 i] w (WrongP ids T i w) := by
  obtain ⟨id, hid⟩ : ∃ x, ids[i]? = some x := ⟨_, List.getElem?_eq_getElem (by omega)⟩
  have HID := Lib.hid (show ids.getD i 0 = id by simp [List.getD, hid])
  obtain ⟨ta, ia, hr, hta, hia, ta1, ia1⟩ := hL i id hid
  have HN := Lib.hid hn; have HM := Lib.hid hm
  have HR := Lib.hid hr
  obtain ⟨R, hRR⟩ : ∃ R, R = blkRow id ta ia := ⟨_, rfl⟩
  have HRR := Lib.hid hRR
  rw [← hRR] at HR
  have HRL : Hid (some 18 = some R.toArray.size) := by show _ = _; rw [hRR]; rfl
  have HSZ : Hid (R.toArray.size = 18) := by show _ = _; rw [hRR]; rfl
  have HR1 : Hid (R.toArray.all (·.oneCell') = true) := by show _ = _; rw [hRR]; simp [blkRow, ta1, ia1, show ∀ x, (Value.int .i64 x).oneCell' = true from fun _ => rfl, show (Value.slice none 0 0).oneCell' = true from rfl]
  obtain ⟨u, hu⟩ : ∃ u, u = w.alloc (.cells R.toArray 30) := ⟨_, rfl⟩
  have HU := Lib.hid hu
  have hbu : Below w.heap.size w u := by rw [hu]; exact (Below.refl _ w).alloc (Nat.le_refl _) _
  have HBU := Lib.hid hbu
  have hkr : Blk u w.heap.size 30 R := by rw [hu]; exact Blk.new w _ _
  have c0 : u.cell? ⟨w.heap.size, 0, none⟩ = some (.int .i64 id) := by rw [hkr.cell 0, hRR]; rfl
  have c13 : u.cell? ⟨w.heap.size, 13, none⟩ = some ta := by rw [hkr.cell 13, hRR]; rfl
  have c14 : u.cell? ⟨w.heap.size, 14, none⟩ = some ia := by rw [hkr.cell 14, hRR]; rfl
  have HK := Lib.hid hkr
  have HL := Lib.hid (hL.below hbu)
  have HTA := Lib.hid (hta.below hbu); have HIA := Lib.hid (hia.below hbu)
  have hus : u.heap.size = w.heap.size + 1 := by rw [hu]; simp
  have HUS := Lib.hid hus
  clear hL hid hr hta hia ta1 ia1 hn hm hRR hu hbu hkr hus
  go_enter Try.func20, Try.ntmps20
  go_wp2_with (first
    | (refine wpList_load_mid rfl 30 (.tmp 18) rfl g (i * 18) rfl R _ HR.out Try.underlying30 rfl (infoBlk.trans HRL.out) ?_)
    | (refine wpList_store_rowTo rfl 30 (.tmp 5) (.tmp 19) rfl rfl w.heap.size _ rfl rfl 30 _ (heap_alloc_new w _) (infoBlk.trans HRL.out) (by rw [HSZ.out]; rfl) HR1.out ?_; rw [World.setRow_alloc_new, ← HU.out]))
  go_loopw [6, 7, 8, 9, 10, 11, 12] (fun idx _ _ _ _ _ _ wr => ∃ k : Nat, k ≤ 2 ∧ idx = .int .i64 k ∧ Hid ((1 ≤ k → Tz.badAt ids 36 37 i = false) ∧ (2 ≤ k → Tz.badAt ids 33 34 i = false)) ∧ u = wr) (fun idx _ _ _ _ _ _ _ => 2 - (intOf idx).toNat)
  case atStart => exact ⟨0, by omega, rfl, ⟨fun h => by omega, fun h => by omega⟩, rfl⟩
  case round =>
    obtain ⟨k, hk, rfl, HBAD, rfl⟩ := hrel
    by_cases hlt : k < 2
    · have hkk : k = 0 ∨ k = 1 := by omega
      rcases hkk with rfl | rfl
      · go_wp2_with fail
        go_loopw [9, 11] (fun opn idx wr => ∃ j : Nat, j ≤ i ∧ idx = .int .i64 j ∧ opn = .bool (Tz.openAt ids 36 37 j) ∧ u = wr) (fun _ idx _ => i - (intOf idx).toNat)
        case atStart => exact ⟨0, by omega, rfl, rfl, rfl⟩
        case round =>
          obtain ⟨j, hj, rfl, rfl, rfl⟩ := hrel
          by_cases hlt2 : j < i
          · obtain ⟨x, hx⟩ : ∃ x, ids[j]? = some x := ⟨_, List.getElem?_eq_getElem (by rw [HN.out]; omega)⟩
            have hxc := blks_id HL.out hx
            have hst := Tz.openAt_step ids 36 37 x j (by simp [List.getD, hx]) (by decide)
            obtain ⟨O, hO⟩ : ∃ O, O = Tz.openAt ids 36 37 j := ⟨_, rfl⟩
            rw [← hO] at hst ⊢
            clear hO hx
            by_cases e1 : x = 37
            · subst e1
              rw [if_pos rfl] at hst
              have HST := Lib.hid hst
              clear hst
              go_wp2_with fail
              go_roundw
              case rel => exact ⟨j + 1, by omega, by go_num, by rw [HST.out], by trivial⟩
              case measure => simp [intOf]; omega
            · by_cases e2 : x = 36
              · subst e2
                rw [if_neg e1, if_pos rfl] at hst
                have HST := Lib.hid hst
                clear hst
                go_wp2_with fail
                go_roundw
                case rel => exact ⟨j + 1, by omega, by go_num, by rw [HST.out], by trivial⟩
                case measure => simp [intOf]; omega
              · rw [if_neg e1, if_neg e2] at hst
                have HST := Lib.hid hst
                clear hst
                have q1 : (x == 36) = false := by simpa using e2
                have q2 : (x == 37) = false := by simpa using e1
                go_wp2_with fail
                go_roundw
                case rel => exact ⟨j + 1, by omega, by go_num, by rw [HST.out], by trivial⟩
                case measure => simp [intOf]; omega
          · obtain rfl : i = j := by omega
            have hbo := Tz.badAt_one ids 36 37 id i HID.out (by decide)
            obtain ⟨O, hO⟩ : ∃ O, O = Tz.openAt ids 36 37 i := ⟨_, rfl⟩
            rw [← hO] at hbo ⊢
            have HBO := Lib.hid hbo
            clear hO hbo hj hlt2
            go_wp2_with fail
            go_loopw [10, 12] (fun lat idx wr => ∃ j : Nat, i + 1 ≤ j ∧ j ≤ n ∧ idx = .int .i64 j ∧ lat = .bool (decide ((i : Int) < Tz.lastAt ids 37 j)) ∧ u = wr) (fun _ idx _ => n - (intOf idx).toNat)
            case atStart => exact ⟨i + 1, by omega, by omega, by go_num, by rw [Tz.later_none], rfl⟩
            case round =>
              obtain ⟨j, hj1, hj, rfl, rfl, rfl⟩ := hrel
              by_cases hlt2 : j < n
              · obtain ⟨x, hx⟩ : ∃ x, ids[j]? = some x := ⟨_, List.getElem?_eq_getElem (by rw [HN.out]; omega)⟩
                have hxc := blks_id HL.out hx
                have hst := Tz.later_step ids 37 i j (by omega)
                rw [show ids.getD j 0 = x by simp [List.getD, hx]] at hst
                obtain ⟨L, hL⟩ : ∃ L, L = decide ((i : Int) < Tz.lastAt ids 37 j) := ⟨_, rfl⟩
                rw [← hL] at hst ⊢
                have HST := Lib.hid hst
                clear hL hx hst
                cases L with
                | true =>
                  go_wp2_with fail
                  go_roundw
                  case rel => exact ⟨j + 1, by omega, by omega, by go_num, by rw [HST.out]; rfl, by trivial⟩
                  case measure => simp [intOf]; omega
                | false =>
                  by_cases e1 : x = 37
                  · subst e1
                    go_wp2_with fail
                    go_roundw
                    case rel => exact ⟨j + 1, by omega, by omega, by go_num, by rw [HST.out]; rfl, by trivial⟩
                    case measure => simp [intOf]; omega
                  · have q2 : (x == 37) = false := by simpa using e1
                    go_wp2_with fail
                    go_roundw
                    case rel => exact ⟨j + 1, by omega, by omega, by go_num, by rw [HST.out]; simp [e1], by trivial⟩
                    case measure => simp [intOf]; omega
              · obtain rfl : n = j := by omega
                rw [HN.out] at HBO
                obtain ⟨L, hL⟩ : ∃ L, L = decide ((i : Int) < Tz.lastAt ids 37 n) := ⟨_, rfl⟩
                rw [← hL] at HBO ⊢
                clear hL hj hj1 hlt2
                by_cases e1 : id = 36
                · subst e1
                  cases O with
                  | true =>
                    go_wp2_with fail
                    go_ret
                    exact ⟨by rw [Tz.wrong6 (.inl (by have h := HBO.out; simpa using h))]; rfl, HBU.out⟩
                  | false =>
                    cases L with
                    | true =>
                      go_wp2_with fail
                      go_roundw
                      case rel => exact ⟨1, by omega, by go_num, ⟨fun _ => by have h := HBO.out; simpa using h, fun h => absurd h (by decide)⟩, by trivial⟩
                      case measure => simp [intOf]
                    | false =>
                      go_wp2_with fail
                      go_ret
                      exact ⟨by rw [Tz.wrong6 (.inl (by have h := HBO.out; simpa using h))]; rfl, HBU.out⟩
                · have q1 : (id == 36) = false := by simpa using e1
                  rw [q1] at HBO
                  by_cases e2 : id = 37
                  · subst e2
                    cases O with
                    | true =>
                      go_wp2_with fail
                      go_roundw
                      case rel => exact ⟨1, by omega, by go_num, ⟨fun _ => by have h := HBO.out; simpa using h, fun h => absurd h (by decide)⟩, by trivial⟩
                      case measure => simp [intOf]
                    | false =>
                      go_wp2_with fail
                      go_ret
                      exact ⟨by rw [Tz.wrong6 (.inl (by have h := HBO.out; simpa using h))]; rfl, HBU.out⟩
                  · have q2 : (id == 37) = false := by simpa using e2
                    rw [q2] at HBO
                    go_wp2_with fail
                    go_roundw
                    case rel => exact ⟨1, by omega, by go_num, ⟨fun _ => by have h := HBO.out; simpa using h, fun h => absurd h (by decide)⟩, by trivial⟩
                    case measure => simp [intOf]
      · go_wp2_with fail
        go_loopw [9, 11] (fun opn idx wr => ∃ j : Nat, j ≤ i ∧ idx = .int .i64 j ∧ opn = .bool (Tz.openAt ids 33 34 j) ∧ u = wr) (fun _ idx _ => i - (intOf idx).toNat)
        case atStart => exact ⟨0, by omega, rfl, rfl, rfl⟩
        case round =>
          obtain ⟨j, hj, rfl, rfl, rfl⟩ := hrel
          by_cases hlt2 : j < i
          · obtain ⟨x, hx⟩ : ∃ x, ids[j]? = some x := ⟨_, List.getElem?_eq_getElem (by rw [HN.out]; omega)⟩
            have hxc := blks_id HL.out hx
            have hst := Tz.openAt_step ids 33 34 x j (by simp [List.getD, hx]) (by decide)
            obtain ⟨O, hO⟩ : ∃ O, O = Tz.openAt ids 33 34 j := ⟨_, rfl⟩
            rw [← hO] at hst ⊢
            clear hO hx
            by_cases e1 : x = 34
            · subst e1
              rw [if_pos rfl] at hst
              have HST := Lib.hid hst
              clear hst
              go_wp2_with fail
              go_roundw
              case rel => exact ⟨j + 1, by omega, by go_num, by rw [HST.out], by trivial⟩
              case measure => simp [intOf]; omega
            · by_cases e2 : x = 33
              · subst e2
                rw [if_neg e1, if_pos rfl] at hst
                have HST := Lib.hid hst
                clear hst
                go_wp2_with fail
                go_roundw
                case rel => exact ⟨j + 1, by omega, by go_num, by rw [HST.out], by trivial⟩
                case measure => simp [intOf]; omega
              · rw [if_neg e1, if_neg e2] at hst
                have HST := Lib.hid hst
                clear hst
                have q1 : (x == 33) = false := by simpa using e2
                have q2 : (x == 34) = false := by simpa using e1
                go_wp2_with fail
                go_roundw
                case rel => exact ⟨j + 1, by omega, by go_num, by rw [HST.out], by trivial⟩
                case measure => simp [intOf]; omega
          · obtain rfl : i = j := by omega
            have hbo := Tz.badAt_one ids 33 34 id i HID.out (by decide)
            obtain ⟨O, hO⟩ : ∃ O, O = Tz.openAt ids 33 34 i := ⟨_, rfl⟩
            rw [← hO] at hbo ⊢
            have HBO := Lib.hid hbo
            clear hO hbo hj hlt2
            go_wp2_with fail
            go_loopw [10, 12] (fun lat idx wr => ∃ j : Nat, i + 1 ≤ j ∧ j ≤ n ∧ idx = .int .i64 j ∧ lat = .bool (decide ((i : Int) < Tz.lastAt ids 34 j)) ∧ u = wr) (fun _ idx _ => n - (intOf idx).toNat)
            case atStart => exact ⟨i + 1, by omega, by omega, by go_num, by rw [Tz.later_none], rfl⟩
            case round =>
              obtain ⟨j, hj1, hj, rfl, rfl, rfl⟩ := hrel
              by_cases hlt2 : j < n
              · obtain ⟨x, hx⟩ : ∃ x, ids[j]? = some x := ⟨_, List.getElem?_eq_getElem (by rw [HN.out]; omega)⟩
                have hxc := blks_id HL.out hx
                have hst := Tz.later_step ids 34 i j (by omega)
                rw [show ids.getD j 0 = x by simp [List.getD, hx]] at hst
                obtain ⟨L, hL⟩ : ∃ L, L = decide ((i : Int) < Tz.lastAt ids 34 j) := ⟨_, rfl⟩
                rw [← hL] at hst ⊢
                have HST := Lib.hid hst
                clear hL hx hst
                cases L with
                | true =>
                  go_wp2_with fail
                  go_roundw
                  case rel => exact ⟨j + 1, by omega, by omega, by go_num, by rw [HST.out]; rfl, by trivial⟩
                  case measure => simp [intOf]; omega
                | false =>
                  by_cases e1 : x = 34
                  · subst e1
                    go_wp2_with fail
                    go_roundw
                    case rel => exact ⟨j + 1, by omega, by omega, by go_num, by rw [HST.out]; rfl, by trivial⟩
                    case measure => simp [intOf]; omega
                  · have q2 : (x == 34) = false := by simpa using e1
                    go_wp2_with fail
                    go_roundw
                    case rel => exact ⟨j + 1, by omega, by omega, by go_num, by rw [HST.out]; simp [e1], by trivial⟩
                    case measure => simp [intOf]; omega
              · obtain rfl : n = j := by omega
                rw [HN.out] at HBO
                obtain ⟨L, hL⟩ : ∃ L, L = decide ((i : Int) < Tz.lastAt ids 34 n) := ⟨_, rfl⟩
                rw [← hL] at HBO ⊢
                clear hL hj hj1 hlt2
                by_cases e1 : id = 33
                · subst e1
                  cases O with
                  | true =>
                    go_wp2_with fail
                    go_ret
                    exact ⟨by rw [Tz.wrong6 (.inr (by have h := HBO.out; simpa using h))]; rfl, HBU.out⟩
                  | false =>
                    cases L with
                    | true =>
                      go_wp2_with fail
                      go_roundw
                      case rel => exact ⟨2, by omega, by go_num, ⟨fun _ => HBAD.out.1 (by decide), fun _ => by have h := HBO.out; simpa using h⟩, by trivial⟩
                      case measure => simp [intOf]
                    | false =>
                      go_wp2_with fail
                      go_ret
                      exact ⟨by rw [Tz.wrong6 (.inr (by have h := HBO.out; simpa using h))]; rfl, HBU.out⟩
                · have q1 : (id == 33) = false := by simpa using e1
                  rw [q1] at HBO
                  by_cases e2 : id = 34
                  · subst e2
                    cases O with
                    | true =>
                      go_wp2_with fail
                      go_roundw
                      case rel => exact ⟨2, by omega, by go_num, ⟨fun _ => HBAD.out.1 (by decide), fun _ => by have h := HBO.out; simpa using h⟩, by trivial⟩
                      case measure => simp [intOf]
                    | false =>
                      go_wp2_with fail
                      go_ret
                      exact ⟨by rw [Tz.wrong6 (.inr (by have h := HBO.out; simpa using h))]; rfl, HBU.out⟩
                  · have q2 : (id == 34) = false := by simpa using e2
                    rw [q2] at HBO
                    go_wp2_with fail
                    go_roundw
                    case rel => exact ⟨2, by omega, by go_num, ⟨fun _ => HBAD.out.1 (by decide), fun _ => by have h := HBO.out; simpa using h⟩, by trivial⟩
                    case measure => simp [intOf]
    · obtain rfl : 2 = k := by omega
      have HBAD : Hid (Tz.badAt ids 36 37 i = false ∧ Tz.badAt ids 33 34 i = false) := ⟨HBAD.out.1 (by decide), HBAD.out.2 (by decide)⟩
      by_cases h35 : id = 35 ∨ id = 38
      · obtain ⟨A, cA, rfl, hti, hnl⟩ := HTA.out
        have HTI := Lib.hid hti
        have HNIL : Hid (A = none → m = 0 ∧ cA = 0) := fun h => by have := hnl h; rw [HM.out] at this; exact this
        rw [HM.out] at c13
        clear hti hnl
        rcases h35 with rfl | rfl
        · go_wp2_with (first
            | (at_builtin; refine wpList_appAny _ rfl (.tmp 92) (.tmp 94) 22 rfl u.heap.size 3 (.int .i64 0) 8 Try.underlying22 infoIntT rfl (.slice none 0 0) 0 [] rfl (World.ownsRow_nil _ _ _ _) A m cA (T.map (.int .i64 ·)) rfl (by simpa using HM.out) HTI.out HNIL.out (fun v hv => by obtain ⟨x, -, rfl⟩ := List.mem_map.1 hv; rfl) (by unfold maxLen; omega) (by omega) (Nat.le_refl _) ?_; intro v3 w3 hown3 hg3; obtain ⟨B, cB, rfl, hcs, -⟩ := own_slice2 hown3; have HC : Hid (Cells w3 B (T.map (.int .i64 ·))) := hcs; have HB3 : Hid (Below u.heap.size u w3) := ⟨hg3.os, hg3.tape, hg3.output, hg3.size, fun k hk => hg3.block k hk (by simp [Value.ownBlock])⟩; have c30 := (HB3.out.cell (block_lt_of_cell c0)).trans c0; rw [Nat.zero_add]; clear hown3 hg3 hcs))
          go_loopw [15] (fun idx wr => ∃ j : Nat, j ≤ m ∧ idx = .int .i64 j ∧ Hid ((T.take j).any (Tz.farOne i n) = false) ∧ w3 = wr) (fun idx _ => m - (intOf idx).toNat)
          case atStart => exact ⟨0, by omega, rfl, by show _ = _; simp, rfl⟩
          case round =>
            obtain ⟨j, hj, rfl, HT, rfl⟩ := hrel
            by_cases hlt2 : j < m
            · obtain ⟨x, hx⟩ : ∃ x, T[j]? = some x := ⟨_, List.getElem?_eq_getElem (by rw [HM.out]; exact hlt2)⟩
              obtain ⟨ad, rfl, hc⟩ := HC.out j (.int .i64 x) (by simp [hx])
              have ht := Tz.any_take T (Tz.farOne i n) j x hx HT.out
              have HT2 := Lib.hid ht
              have HAT := Lib.hid (Tz.any_of_take T (Tz.farOne i n) (j + 1))
              clear hx ht
              have HFA : Hid (Tz.farOne i n x = true → Tz.farS 35 T i ids.length = true) := fun h => by
                show (_ && _) = _
                rw [HN.out, HAT.out (by rw [HT2.out]; exact h)]
                rfl
              by_cases h1 : x < -(n : Int)
              · have HF := Lib.hid (HFA.out (by unfold Tz.farOne; simp; omega))
                go_wp2_with fail
                go_ret
                exact ⟨by rw [Tz.wrongF HBAD.out.1 HBAD.out.2 HID.out HF.out]; rfl, HBU.out.trans (HB3.out.mono HBU.out.size)⟩
              · by_cases h2 : (n : Int) < x
                · have HF := Lib.hid (HFA.out (by unfold Tz.farOne; simp; omega))
                  go_wp2_with fail
                  go_ret
                  exact ⟨by rw [Tz.wrongF HBAD.out.1 HBAD.out.2 HID.out HF.out]; rfl, HBU.out.trans (HB3.out.mono HBU.out.size)⟩
                · have x1 : -200 ≤ x := by omega
                  have x2 : x ≤ 200 := by omega
                  by_cases h3 : (i : Int) + x < 0
                  · have HF := Lib.hid (HFA.out (by unfold Tz.farOne; simp; omega))
                    go_wp2_with fail
                    go_ret
                    exact ⟨by rw [Tz.wrongF HBAD.out.1 HBAD.out.2 HID.out HF.out]; rfl, HBU.out.trans (HB3.out.mono HBU.out.size)⟩
                  · by_cases h4 : (n : Int) ≤ i + x
                    · have HF := Lib.hid (HFA.out (by unfold Tz.farOne; simp; omega))
                      go_wp2_with fail
                      go_ret
                      exact ⟨by rw [Tz.wrongF HBAD.out.1 HBAD.out.2 HID.out HF.out]; rfl, HBU.out.trans (HB3.out.mono HBU.out.size)⟩
                    · have HT3 : Hid ((T.take (j + 1)).any (Tz.farOne i n) = false) := by
                        show _ = _
                        rw [HT2.out]
                        unfold Tz.farOne
                        simp
                        omega
                      go_wp2_with fail
                      go_roundw
                      case rel => exact ⟨j + 1, by omega, by go_num, HT3, by trivial⟩
                      case measure => simp [intOf]; omega
            · obtain rfl : m = j := by omega
              have HF : Hid (Tz.farS 35 T i ids.length = false) := by
                show (_ && _) = _
                have h := HT.out
                rw [List.take_of_length_le (by rw [HM.out]; exact Nat.le_refl _)] at h
                rw [HN.out, h]
                simp
              go_wp2_with fail
              go_ret
              exact ⟨by rw [Tz.wrongF HBAD.out.1 HBAD.out.2 HID.out HF.out]; rfl, HBU.out.trans (HB3.out.mono HBU.out.size)⟩
        · go_wp2_with (first
            | (at_builtin; refine wpList_appAny _ rfl (.tmp 92) (.tmp 94) 22 rfl u.heap.size 3 (.int .i64 0) 8 Try.underlying22 infoIntT rfl (.slice none 0 0) 0 [] rfl (World.ownsRow_nil _ _ _ _) A m cA (T.map (.int .i64 ·)) rfl (by simpa using HM.out) HTI.out HNIL.out (fun v hv => by obtain ⟨x, -, rfl⟩ := List.mem_map.1 hv; rfl) (by unfold maxLen; omega) (by omega) (Nat.le_refl _) ?_; intro v3 w3 hown3 hg3; obtain ⟨B, cB, rfl, hcs, -⟩ := own_slice2 hown3; have HC : Hid (Cells w3 B (T.map (.int .i64 ·))) := hcs; have HB3 : Hid (Below u.heap.size u w3) := ⟨hg3.os, hg3.tape, hg3.output, hg3.size, fun k hk => hg3.block k hk (by simp [Value.ownBlock])⟩; have c30 := (HB3.out.cell (block_lt_of_cell c0)).trans c0; rw [Nat.zero_add]; clear hown3 hg3 hcs))
          go_loopw [15] (fun idx wr => ∃ j : Nat, j ≤ m ∧ idx = .int .i64 j ∧ Hid ((T.take j).any (Tz.farOne i n) = false) ∧ w3 = wr) (fun idx _ => m - (intOf idx).toNat)
          case atStart => exact ⟨0, by omega, rfl, by show _ = _; simp, rfl⟩
          case round =>
            obtain ⟨j, hj, rfl, HT, rfl⟩ := hrel
            by_cases hlt2 : j < m
            · obtain ⟨x, hx⟩ : ∃ x, T[j]? = some x := ⟨_, List.getElem?_eq_getElem (by rw [HM.out]; exact hlt2)⟩
              obtain ⟨ad, rfl, hc⟩ := HC.out j (.int .i64 x) (by simp [hx])
              have ht := Tz.any_take T (Tz.farOne i n) j x hx HT.out
              have HT2 := Lib.hid ht
              have HAT := Lib.hid (Tz.any_of_take T (Tz.farOne i n) (j + 1))
              clear hx ht
              have HFA : Hid (Tz.farOne i n x = true → Tz.farS 38 T i ids.length = true) := fun h => by
                show (_ && _) = _
                rw [HN.out, HAT.out (by rw [HT2.out]; exact h)]
                rfl
              by_cases h1 : x < -(n : Int)
              · have HF := Lib.hid (HFA.out (by unfold Tz.farOne; simp; omega))
                go_wp2_with fail
                go_ret
                exact ⟨by rw [Tz.wrongF HBAD.out.1 HBAD.out.2 HID.out HF.out]; rfl, HBU.out.trans (HB3.out.mono HBU.out.size)⟩
              · by_cases h2 : (n : Int) < x
                · have HF := Lib.hid (HFA.out (by unfold Tz.farOne; simp; omega))
                  go_wp2_with fail
                  go_ret
                  exact ⟨by rw [Tz.wrongF HBAD.out.1 HBAD.out.2 HID.out HF.out]; rfl, HBU.out.trans (HB3.out.mono HBU.out.size)⟩
                · have x1 : -200 ≤ x := by omega
                  have x2 : x ≤ 200 := by omega
                  by_cases h3 : (i : Int) + x < 0
                  · have HF := Lib.hid (HFA.out (by unfold Tz.farOne; simp; omega))
                    go_wp2_with fail
                    go_ret
                    exact ⟨by rw [Tz.wrongF HBAD.out.1 HBAD.out.2 HID.out HF.out]; rfl, HBU.out.trans (HB3.out.mono HBU.out.size)⟩
                  · by_cases h4 : (n : Int) ≤ i + x
                    · have HF := Lib.hid (HFA.out (by unfold Tz.farOne; simp; omega))
                      go_wp2_with fail
                      go_ret
                      exact ⟨by rw [Tz.wrongF HBAD.out.1 HBAD.out.2 HID.out HF.out]; rfl, HBU.out.trans (HB3.out.mono HBU.out.size)⟩
                    · have HT3 : Hid ((T.take (j + 1)).any (Tz.farOne i n) = false) := by
                        show _ = _
                        rw [HT2.out]
                        unfold Tz.farOne
                        simp
                        omega
                      go_wp2_with fail
                      go_roundw
                      case rel => exact ⟨j + 1, by omega, by go_num, HT3, by trivial⟩
                      case measure => simp [intOf]; omega
            · obtain rfl : m = j := by omega
              have HF : Hid (Tz.farS 38 T i ids.length = false) := by
                show (_ && _) = _
                have h := HT.out
                rw [List.take_of_length_le (by rw [HM.out]; exact Nat.le_refl _)] at h
                rw [HN.out, h]
                simp
              go_wp2_with fail
              go_ret
              exact ⟨by rw [Tz.wrongF HBAD.out.1 HBAD.out.2 HID.out HF.out]; rfl, HBU.out.trans (HB3.out.mono HBU.out.size)⟩
      · by_cases h40 : id = 40
        · obtain ⟨IA, c', h, rfl, hit⟩ : ∃ IA c' h, ia = .slice IA m c' ∧ ∀ k x, T[k]? = some x → IA = some ⟨h, 0, none⟩ ∧ u.rangeAt h (k * 2) [.int .i64 x, .slice none 0 0] := by
            obtain ⟨h, c', ⟨e1, A', e2⟩ | ⟨e1, e2⟩⟩ := HIA.out
            · subst e1
              exact ⟨A', c', 0, by rw [e2, ← HM.out]; rfl, fun k x hk => by simp at hk⟩
            · exact ⟨_, c', h, by rw [e1, HM.out], fun k x hk => ⟨rfl, e2 k x hk⟩⟩
          have HIT := Lib.hid hit
          clear hit h35
          subst h40
          go_wp2_with fail
          go_loopw [13, 14] (fun v idx wr => ∃ (k : Nat) (v' : Value), k ≤ m ∧ idx = .int .i64 k ∧ v' = v ∧ Hid (wr.ownsRow u.heap.size 3 1 v' k ((T.take k).map (.int .i64 ·))) ∧ Hid (Below u.heap.size u wr)) (fun _ idx _ => m - (intOf idx).toNat)
          case atStart => exact ⟨0, _, by omega, rfl, rfl, World.ownsRow_nil _ _ _ _, Below.refl _ _⟩
          case round =>
            obtain ⟨k, v, hk, rfl, rfl, HO, HB2⟩ := hrel
            have hsz := HB2.out.size
            have c14r := (HB2.out.cell (block_lt_of_cell c14)).trans c14
            by_cases hlt3 : k < m
            · obtain ⟨x, hx⟩ : ∃ x, T[k]? = some x := ⟨_, List.getElem?_eq_getElem (by rw [HM.out]; exact hlt3)⟩
              obtain ⟨rfl, hrg⟩ := HIT.out k x hx
              have hxc : wr.cell? ⟨h, k * 2, none⟩ = some (.int .i64 x) := rangeAt_below hrg HB2.out 0 _ rfl
              have HT2 : Hid (T.take (k + 1) = T.take k ++ [x]) := by show _ = _; rw [List.take_add_one, hx]; rfl
              clear hx hrg
              go_wp2_with (first
                | (at_builtin; refine wpList_appL _ rfl (.tmp 106) (.tmp 113) 22 rfl u.heap.size 3 (.int .i64 0) 1 8 Try.underlying22 infoIntT rfl (by decide) v k _ rfl HO.out #[.int .i64 x] 1 rfl rfl (by simp [Value.oneCell']) (by decide) (by omega) (by decide) hsz ?_; intro g2 c2 w4 hown2 hg2 _; have HB4 := Lib.hid (Below_own HB2.out HO.out hg2 (Nat.le_refl _) hsz); have HO4 := Lib.hid hown2; clear hown2 hg2))
              go_roundw
              case rel => exact ⟨k + 1, by omega, by go_num, by show World.ownsRow _ _ _ _ _ _ _; rw [← List.map_take, HT2.out, List.map_append]; exact HO4.out⟩
              case measure => simp [intOf]; omega
            · obtain rfl : m = k := by omega
              have hcs : ∃ B c, v = .slice B m c ∧ Cells wr B (T.map (.int .i64 ·)) := by
                have ho := HO.out
                rw [List.take_of_length_le (by rw [HM.out]; exact Nat.le_refl _)] at ho
                obtain ⟨B, c, e1, e2, _⟩ := own_slice2 ho
                exact ⟨B, c, e1, e2⟩
              obtain ⟨B, cB, rfl, hcs⟩ := hcs
              have HC := Lib.hid hcs
              have HB3 := Lib.hid HB2.out
              clear hcs
              obtain ⟨w3, rfl⟩ : ∃ w3, w3 = wr := ⟨_, rfl⟩
              go_wp2_with fail
              go_loopw [15] (fun idx wr => ∃ j : Nat, j ≤ m ∧ idx = .int .i64 j ∧ Hid ((T.take j).any (Tz.farOne i n) = false) ∧ w3 = wr) (fun idx _ => m - (intOf idx).toNat)
              case atStart => exact ⟨0, by omega, rfl, by show _ = _; simp, rfl⟩
              case round =>
                obtain ⟨j, hj, rfl, HT, rfl⟩ := hrel
                by_cases hlt2 : j < m
                · obtain ⟨x, hx⟩ : ∃ x, T[j]? = some x := ⟨_, List.getElem?_eq_getElem (by rw [HM.out]; exact hlt2)⟩
                  obtain ⟨ad, rfl, hc⟩ := HC.out j (.int .i64 x) (by simp [hx])
                  have ht := Tz.any_take T (Tz.farOne i n) j x hx HT.out
                  have HT2 := Lib.hid ht
                  have HAT := Lib.hid (Tz.any_of_take T (Tz.farOne i n) (j + 1))
                  clear hx ht
                  have HFA : Hid (Tz.farOne i n x = true → Tz.farS 40 T i ids.length = true) := fun h => by
                    show (_ && _) = _
                    rw [HN.out, HAT.out (by rw [HT2.out]; exact h)]
                    rfl
                  by_cases h1 : x < -(n : Int)
                  · have HF := Lib.hid (HFA.out (by unfold Tz.farOne; simp; omega))
                    go_wp2_with fail
                    go_ret
                    exact ⟨by rw [Tz.wrongF HBAD.out.1 HBAD.out.2 HID.out HF.out]; rfl, HBU.out.trans (HB3.out.mono HBU.out.size)⟩
                  · by_cases h2 : (n : Int) < x
                    · have HF := Lib.hid (HFA.out (by unfold Tz.farOne; simp; omega))
                      go_wp2_with fail
                      go_ret
                      exact ⟨by rw [Tz.wrongF HBAD.out.1 HBAD.out.2 HID.out HF.out]; rfl, HBU.out.trans (HB3.out.mono HBU.out.size)⟩
                    · have x1 : -200 ≤ x := by omega
                      have x2 : x ≤ 200 := by omega
                      by_cases h3 : (i : Int) + x < 0
                      · have HF := Lib.hid (HFA.out (by unfold Tz.farOne; simp; omega))
                        go_wp2_with fail
                        go_ret
                        exact ⟨by rw [Tz.wrongF HBAD.out.1 HBAD.out.2 HID.out HF.out]; rfl, HBU.out.trans (HB3.out.mono HBU.out.size)⟩
                      · by_cases h4 : (n : Int) ≤ i + x
                        · have HF := Lib.hid (HFA.out (by unfold Tz.farOne; simp; omega))
                          go_wp2_with fail
                          go_ret
                          exact ⟨by rw [Tz.wrongF HBAD.out.1 HBAD.out.2 HID.out HF.out]; rfl, HBU.out.trans (HB3.out.mono HBU.out.size)⟩
                        · have HT3 : Hid ((T.take (j + 1)).any (Tz.farOne i n) = false) := by
                            show _ = _
                            rw [HT2.out]
                            unfold Tz.farOne
                            simp
                            omega
                          go_wp2_with fail
                          go_roundw
                          case rel => exact ⟨j + 1, by omega, by go_num, HT3, by trivial⟩
                          case measure => simp [intOf]; omega
                · obtain rfl : m = j := by omega
                  have HF : Hid (Tz.farS 40 T i ids.length = false) := by
                    show (_ && _) = _
                    have h := HT.out
                    rw [List.take_of_length_le (by rw [HM.out]; exact Nat.le_refl _)] at h
                    rw [HN.out, h]
                    simp
                  go_wp2_with fail
                  go_ret
                  exact ⟨by rw [Tz.wrongF HBAD.out.1 HBAD.out.2 HID.out HF.out]; rfl, HBU.out.trans (HB3.out.mono HBU.out.size)⟩
        · have HF : Hid (Tz.farS id T i ids.length = false) := by
            show (_ && _) = _
            have h1 : (id == 40 || id == 35 || id == 38) = false := by
              simp [h40]; omega
            rw [h1]; rfl
          have q35 : (id == 35) = false := by simp; omega
          have q38 : (id == 38) = false := by simp; omega
          have q40 : (id == 40) = false := by simpa using h40
          clear h35 h40
          go_wp2_with fail
          go_loopw [15] (fun idx wr => idx = .int .i64 0 ∧ u = wr) (fun _ _ => 0)
          case atStart => exact ⟨rfl, rfl⟩
          case round =>
            obtain ⟨rfl, rfl⟩ := hrel
            go_wp2_with fail
            go_ret
            exact ⟨by rw [Tz.wrongF HBAD.out.1 HBAD.out.2 HID.out HF.out]; rfl, HBU.out⟩
end Go.Proofs.Ytaipkoeiahjghaa
