/- adler: the sum of bytes: the walk. -/
import Derived.Test.YtbemlmpajnklpaaAdl
import Derived.Test.YtbemlmpajnklpaaFrm
import Derived.Test.YtbemlmpajnklpaaChecked
import Derived.Laws.BitsAllLaws
import Derived.Deep.LoopGhost
import Derived.IntWalk
import Derived.Deep.QuietTactic
import Derived.BigQuiet
namespace Go.Proofs.Ytbemlmpajnklpaa
set_option linter.unusedSimpArgs false
set_option linter.unusedVariables false
open Go.RowKit
def AddP (g : Nat) (bs : List Int) (w : World) (e : Ending) (w' : World) : Prop :=
  e = .returned (.tuple #[]) ∧ Blk w' g 52 [.int .u32 ((Ad.lo bs + 65520) % 65521), .int .u32 (Ad.hi bs)] ∧ w.grownBy w' (some g)
theorem ints_cut0 {w : World} {a : Addr} {kd : IntKind} {l : List Int} (h : Ints w (some a) kd l) (j n : Nat) : Ints w (some (a.add j)) kd ((l.drop j).take n) := fun i v hi => by
  rw [List.getElem?_map, List.getElem?_take] at hi
  split at hi
  · rw [List.getElem?_drop] at hi
    obtain ⟨ad, e, hc⟩ := h (j + i) v (by rw [List.getElem?_map]; exact hi)
    injection e with e
    subst e
    refine ⟨_, rfl, ?_⟩
    rw [← hc]
    congr 1
    unfold Addr.add
    split <;> split <;> simp_all <;> omega
  · cases hi
theorem drew_more {w u : World} (h : Drew w u) (m : Nat) : Drew w (u.drewN m) := by
  obtain ⟨q, rfl⟩ := h
  exact ⟨q + m, World.drewN_drewN _ _ _⟩
theorem add_lit (a : Addr) (m n : Nat) (hn : 0 < n) : (⟨(a.add m).block, (a.add m).off + n, none⟩ : Addr) = a.add (m + n) := by
  unfold Addr.add
  by_cases h : m = 0 <;> simp [h, Nat.ne_of_gt hn, Nat.add_assoc]
/-- ahead of a piece -/
def PieceR (ad : Addr) (n c : Nat) (bs : List Int) (g : Nat) (a b l : Value) : Prop :=
  ∃ p ad', p ≤ n ∧ n - p ≤ g ∧ a = .int .u32 (Ad.lo (bs.take p)) ∧ b = .int .u32 (Ad.hi (bs.take p)) ∧ l = .slice (some ad') (n - p) (c - p) ∧ (p < n → ad' = ad.add p)
set_option maxRecDepth 100000 in
set_option maxHeartbeats 4000000 in
theorem add_any (g gp : Nat) (ad : Addr) (n c : Nat) (bs : List Int) (w : World) (hg : Blk w g 52 [.int .u32 0, .int .u32 0]) (hp : w.cell? ⟨gp, 0, none⟩ = some (.slice (some ad) n c)) (h : Ints w (some ad) .u8 bs) (hr : ∀ x ∈ bs, 0 ≤ x ∧ x ≤ 255) (hn : bs.length = n) (hnc : n ≤ c) (hc : c ≤ 9223372036854775807) (hm : n ≤ 1000000) :
    Calls Try.prog 27 #[.pointer (some ⟨g, 0, none⟩), .slice (some ⟨gp, 0, none⟩) 1 1] w (AddP g bs w) := by
  have g0 : w.cell? ⟨g, 0, none⟩ = some (.int .u32 0) := hg.cell 0
  have g1 : w.cell? ⟨g, 1, none⟩ = some (.int .u32 0) := hg.cell 1
  have HG := Lib.hid hg
  have HN := Lib.hid hn
  have HI := Lib.hid h
  have HR := Lib.hid hr
  clear hg hn h hr
  go_enter Try.func27, Try.ntmps27
  go_wp2
  go_quiet (fail)
  go_wp2
  go_loopw [4, 5, 24] (fun a b i wr => ((i = .int .i64 0 ∧ a = .int .u32 1 ∧ b = .int .u32 0) ∨ (i = .int .i64 1 ∧ a = .int .u32 (Ad.lo bs) ∧ b = .int .u32 (Ad.hi bs))) ∧ Drew w wr) (fun _ _ i _ => 1 - (intOf i).toNat)
  case atStart => exact ⟨.inl ⟨rfl, rfl, rfl⟩, _, rfl⟩
  case round =>
    obtain ⟨hcs, hdr⟩ := hrel
    obtain ⟨wo, rfl⟩ : ∃ wo : World, wo = wr := ⟨_, rfl⟩
    rcases hcs with ⟨rfl, rfl, rfl⟩ | ⟨rfl, rfl, rfl⟩
    · have hpw : wo.cell? ⟨gp, 0, none⟩ = some (.slice (some ad) n c) := by obtain ⟨q, rfl⟩ := hdr; exact hp
      have HD := Lib.hid hdr
      clear hdr
      go_wp2
      go_loopg [4, 5, 7] n (fun gk a b l wr => PieceR ad n c bs gk a b l ∧ Drew w wr)
      case atStart => exact ⟨⟨0, ad, Nat.zero_le _, by omega, rfl, rfl, rfl, fun _ => rfl⟩, HD.out⟩
      case round =>
        obtain ⟨⟨p, ad', hpn, hgk, rfl, rfl, rfl, had⟩, hd2⟩ := hrel
        obtain ⟨wp, rfl⟩ : ∃ wp : World, wp = wr := ⟨_, rfl⟩
        have HD2 := Lib.hid hd2
        clear hd2
        obtain ⟨q, hq⟩ : ∃ q, q = n - p := ⟨_, rfl⟩
        obtain ⟨d, hd⟩ : ∃ d, d = c - p := ⟨_, rfl⟩
        rw [← hq, ← hd]
        have hqd : q ≤ d := by omega
        have hd9 : d ≤ 9223372036854775807 := by omega
        have hq9 : q ≤ 1000000 := by omega
        have HQ := Lib.hid hq
        have HDD := Lib.hid hd
        have hqg : q ≤ gk := by omega
        have HPN := Lib.hid hpn
        clear hgk hpn
        by_cases hlt : p < n
        · obtain rfl := had hlt
          have hq0 : 0 < q := by omega
          clear had hq hd hlt
          by_cases hlast : q ≤ 5552
          · obtain ⟨K, rfl⟩ : ∃ K, K = q := ⟨_, rfl⟩
            have HCH : Hid (((bs.drop p).take K).length = K) := by show _ = _; rw [List.length_take, List.length_drop, HN.out]; have := HQ.out; omega
            have HRC : Hid (∀ x ∈ (bs.drop p).take K, 0 ≤ x ∧ x ≤ 255) := fun x hx => HR.out x (List.mem_of_mem_drop (List.mem_of_mem_take hx))
            have HIC : Hid (Ints wp (some (ad.add p)) .u8 ((bs.drop p).take K)) := ints_cut0 (by have := HD2.out; obtain ⟨q, hq⟩ := this; rw [hq]; exact Cells.drewN HI.out q) p K
            obtain ⟨X, hX⟩ : ∃ X, X = Ad.lo (bs.take p) := ⟨_, rfl⟩
            obtain ⟨Y, hY⟩ : ∃ Y, Y = Ad.hi (bs.take p) := ⟨_, rfl⟩
            obtain ⟨M, hM⟩ : ∃ M, M = (bs.drop p).take K := ⟨_, rfl⟩
            rw [← hX, ← hY]
            rw [← hM] at HCH HRC HIC
            have HRI : Hid (∀ i, 0 ≤ (Ad.run X Y (M.take i)).1 ∧ (Ad.run X Y (M.take i)).1 ≤ 4294967295 ∧ 0 ≤ (Ad.run X Y (M.take i)).2 ∧ (Ad.run X Y (M.take i)).2 ≤ 4294967295) := fun i =>
              Ad.run_fit _ _ _ (by rw [hX]; exact (Ad.lo_range _).1) (by rw [hX]; exact (Ad.lo_range _).2) (by rw [hY]; exact (Ad.hi_range _).1) (by rw [hY]; exact (Ad.hi_range _).2) (fun x hx => HRC.out x (List.mem_of_mem_take hx)) (by rw [List.length_take, HCH.out]; omega)
            have HX := Lib.hid hX
            have HY := Lib.hid hY
            have HM := Lib.hid hM
            clear hX hY hM
            go_wp2
            go_loop [4, 5, 38] (fun a b i => ∃ k, k ≤ K ∧ i = .int .i64 (k : Nat) ∧ a = .int .u32 (Ad.run X Y (M.take k)).1 ∧ b = .int .u32 (Ad.run X Y (M.take k)).2) (fun _ _ i => K - (intOf i).toNat)
            case atStart => exact ⟨0, Nat.zero_le _, rfl, rfl, rfl⟩
            case round =>
              obtain ⟨k, hk, rfl, rfl, rfl⟩ := hrel
              obtain ⟨a0, a1, b0, b1⟩ := HRI.out k
              by_cases hk2 : k < K
              · have hkl : k < M.length := by rw [HCH.out]; exact hk2
                obtain ⟨x, hx⟩ : ∃ x, x = M[k] := ⟨_, rfl⟩
                have hcell : wp.cell? ((ad.add p).add k) = some (.int .u8 x) := by
                  obtain ⟨a', e, hc⟩ := HIC.out k (.int .u8 x) (by rw [List.getElem?_map, List.getElem?_eq_getElem hkl, hx]; rfl)
                  injection e with e
                  rw [e]; exact hc
                obtain ⟨x0, x1⟩ := HRC.out x (by rw [hx]; exact List.getElem_mem hkl)
                have hs : Ad.run X Y (M.take (k + 1)) = ((Ad.run X Y (M.take k)).1 + x, (Ad.run X Y (M.take k)).2 + ((Ad.run X Y (M.take k)).1 + x)) := by
                  rw [List.take_succ_eq_append_getElem hkl, Ad.run_snoc, hx]
                obtain ⟨a2, a3, b2, b3⟩ := HRI.out (k + 1)
                rw [hs] at a2 a3 b2 b3
                have HS := Lib.hid hs
                simp only at a2 a3 b2 b3
                clear hs hx hkl
                obtain ⟨A1, hA1⟩ : ∃ A1, A1 = (Ad.run X Y (M.take k)).1 := ⟨_, rfl⟩
                obtain ⟨B1, hB1⟩ : ∃ B1, B1 = (Ad.run X Y (M.take k)).2 := ⟨_, rfl⟩
                rw [← hA1, ← hB1] at HS
                rw [← hA1] at a0 a1 a2 a3 b2 b3
                rw [← hB1] at b0 b1 b2 b3
                rw [← hA1, ← hB1]
                clear hA1 hB1
                go_wp2
                go_round
                case rel => exact ⟨k + 1, by omega, by go_num, by rw [HS.out], by rw [HS.out]⟩
                case measure => simp [intOf]; omega
              · obtain rfl : k = K := by omega
                clear hk2
                have htk : M.take k = M := List.take_of_length_le (by rw [HCH.out]; exact Nat.le_refl _)
                rw [htk] at a0 a1 b0 b1 ⊢
                clear htk
                have hpc := Ad.piece (bs.take p) M
                rw [← HX.out, ← HY.out, HM.out, ← List.take_add] at hpc
                rw [← HM.out] at hpc
                have HPC := Lib.hid hpc
                clear hpc
                obtain ⟨A1, hA1⟩ : ∃ A1, A1 = (Ad.run X Y M).1 := ⟨_, rfl⟩
                obtain ⟨B1, hB1⟩ : ∃ B1, B1 = (Ad.run X Y M).2 := ⟨_, rfl⟩
                rw [← hA1, ← hB1] at HPC ⊢
                rw [← hA1] at a0 a1
                rw [← hB1] at b0 b1
                clear hA1 hB1
                go_wp2
                by_cases hdk : d = k
                · subst hdk
                  go_quiet (fail)
                  go_wp2
                  go_roundg (gk - d)
                  case rel =>
                    have hq := HQ.out
                    have hdd := HDD.out
                    have hpn := HPN.out
                    have e1 : n - (p + d) = 0 := by omega
                    have e2 : c - (p + d) = 0 := by omega
                    refine ⟨⟨p + d, _, by omega, by omega, by rw [HPC.out.1], by rw [HPC.out.2], by rw [e1, e2], fun h => by omega⟩, drew_more HD2.out _⟩
                  case measure => omega
                · go_quiet (fail)
                  go_wp2
                  go_roundg (gk - k)
                  case rel =>
                    have hq := HQ.out
                    have hdd := HDD.out
                    have hpn := HPN.out
                    have e1 : n - (p + k) = 0 := by omega
                    have e2 : c - (p + k) = d - k := by omega
                    refine ⟨⟨p + k, _, by omega, by omega, by rw [HPC.out.1], by rw [HPC.out.2], by rw [e1, e2], fun h => by omega⟩, drew_more HD2.out _⟩
                  case measure => omega
          · have hcj : ¬ (d = 5552) := by omega
            have HCH : Hid (((bs.drop p).take 5552).length = 5552) := by show _ = _; rw [List.length_take, List.length_drop, HN.out]; have := HQ.out; omega
            have HRC : Hid (∀ x ∈ (bs.drop p).take 5552, 0 ≤ x ∧ x ≤ 255) := fun x hx => HR.out x (List.mem_of_mem_drop (List.mem_of_mem_take hx))
            have HIC : Hid (Ints wp (some (ad.add p)) .u8 ((bs.drop p).take 5552)) := ints_cut0 (by have := HD2.out; obtain ⟨q, hq⟩ := this; rw [hq]; exact Cells.drewN HI.out q) p 5552
            obtain ⟨X, hX⟩ : ∃ X, X = Ad.lo (bs.take p) := ⟨_, rfl⟩
            obtain ⟨Y, hY⟩ : ∃ Y, Y = Ad.hi (bs.take p) := ⟨_, rfl⟩
            obtain ⟨M, hM⟩ : ∃ M, M = (bs.drop p).take 5552 := ⟨_, rfl⟩
            rw [← hX, ← hY]
            rw [← hM] at HCH HRC HIC
            have HRI : Hid (∀ i, 0 ≤ (Ad.run X Y (M.take i)).1 ∧ (Ad.run X Y (M.take i)).1 ≤ 4294967295 ∧ 0 ≤ (Ad.run X Y (M.take i)).2 ∧ (Ad.run X Y (M.take i)).2 ≤ 4294967295) := fun i =>
              Ad.run_fit _ _ _ (by rw [hX]; exact (Ad.lo_range _).1) (by rw [hX]; exact (Ad.lo_range _).2) (by rw [hY]; exact (Ad.hi_range _).1) (by rw [hY]; exact (Ad.hi_range _).2) (fun x hx => HRC.out x (List.mem_of_mem_take hx)) (by rw [List.length_take, HCH.out]; omega)
            have HX := Lib.hid hX
            have HY := Lib.hid hY
            have HM := Lib.hid hM
            clear hX hY hM
            go_wp2
            go_loop [4, 5, 38] (fun a b i => ∃ k, k ≤ 5552 ∧ i = .int .i64 (k : Nat) ∧ a = .int .u32 (Ad.run X Y (M.take k)).1 ∧ b = .int .u32 (Ad.run X Y (M.take k)).2) (fun _ _ i => 5552 - (intOf i).toNat)
            case atStart => exact ⟨0, Nat.zero_le _, rfl, rfl, rfl⟩
            case round =>
              obtain ⟨k, hk, rfl, rfl, rfl⟩ := hrel
              obtain ⟨a0, a1, b0, b1⟩ := HRI.out k
              by_cases hk2 : k < 5552
              · have hkl : k < M.length := by rw [HCH.out]; exact hk2
                obtain ⟨x, hx⟩ : ∃ x, x = M[k] := ⟨_, rfl⟩
                have hcell : wp.cell? ((ad.add p).add k) = some (.int .u8 x) := by
                  obtain ⟨a', e, hc⟩ := HIC.out k (.int .u8 x) (by rw [List.getElem?_map, List.getElem?_eq_getElem hkl, hx]; rfl)
                  injection e with e
                  rw [e]; exact hc
                obtain ⟨x0, x1⟩ := HRC.out x (by rw [hx]; exact List.getElem_mem hkl)
                have hs : Ad.run X Y (M.take (k + 1)) = ((Ad.run X Y (M.take k)).1 + x, (Ad.run X Y (M.take k)).2 + ((Ad.run X Y (M.take k)).1 + x)) := by
                  rw [List.take_succ_eq_append_getElem hkl, Ad.run_snoc, hx]
                obtain ⟨a2, a3, b2, b3⟩ := HRI.out (k + 1)
                rw [hs] at a2 a3 b2 b3
                have HS := Lib.hid hs
                simp only at a2 a3 b2 b3
                clear hs hx hkl
                obtain ⟨A1, hA1⟩ : ∃ A1, A1 = (Ad.run X Y (M.take k)).1 := ⟨_, rfl⟩
                obtain ⟨B1, hB1⟩ : ∃ B1, B1 = (Ad.run X Y (M.take k)).2 := ⟨_, rfl⟩
                rw [← hA1, ← hB1] at HS
                rw [← hA1] at a0 a1 a2 a3 b2 b3
                rw [← hB1] at b0 b1 b2 b3
                rw [← hA1, ← hB1]
                clear hA1 hB1
                go_wp2
                go_round
                case rel => exact ⟨k + 1, by omega, by go_num, by rw [HS.out], by rw [HS.out]⟩
                case measure => simp [intOf]; omega
              · obtain rfl : k = 5552 := by omega
                clear hk2
                have htk : M.take 5552 = M := List.take_of_length_le (by rw [HCH.out]; exact Nat.le_refl _)
                rw [htk] at a0 a1 b0 b1 ⊢
                clear htk
                have hpc := Ad.piece (bs.take p) M
                rw [← HX.out, ← HY.out, HM.out, ← List.take_add] at hpc
                rw [← HM.out] at hpc
                have HPC := Lib.hid hpc
                clear hpc
                obtain ⟨A1, hA1⟩ : ∃ A1, A1 = (Ad.run X Y M).1 := ⟨_, rfl⟩
                obtain ⟨B1, hB1⟩ : ∃ B1, B1 = (Ad.run X Y M).2 := ⟨_, rfl⟩
                rw [← hA1, ← hB1] at HPC ⊢
                rw [← hA1] at a0 a1
                rw [← hB1] at b0 b1
                clear hA1 hB1
                go_wp2
                go_quiet (fail)
                go_wp2
                go_roundg (gk - 5552)
                case rel =>
                  have hq := HQ.out
                  have hdd := HDD.out
                  have hpn := HPN.out
                  have e1 : n - (p + 5552) = q - 5552 := by omega
                  have e2 : c - (p + 5552) = d - 5552 := by omega
                  refine ⟨⟨p + 5552, _, by omega, by omega, by rw [HPC.out.1], by rw [HPC.out.2], by rw [e1, e2], fun h => add_lit _ _ _ (by omega)⟩, drew_more HD2.out _⟩
                case measure => omega
        · have HPQ : Hid (p = n) := by show _ = _; have := HPN.out; omega
          have hq1 : q = 0 := by have := HQ.out; omega
          subst hq1
          have htk : bs.take p = bs := List.take_of_length_le (by rw [HN.out, HPQ.out]; exact Nat.le_refl _)
          rw [htk]
          clear htk hlt hq hd had
          go_wp2
          go_roundw
          case rel => exact ⟨.inr ⟨rfl, rfl, rfl⟩, HD2.out⟩
          case measure => simp [intOf]
    · obtain ⟨qd, rfl⟩ := hdr
      have HF0 := Lib.hid (HG.out.drewN qd)
      have f0 := HF0.out.frozen 0
      have f1 := HF0.out.frozen 1
      have c0 : (w.drewN qd).cell? ⟨g, 0, none⟩ = some (.int .u32 0) := HF0.out.cell 0
      have c1 : (w.drewN qd).cell? ⟨g, 1, none⟩ = some (.int .u32 0) := HF0.out.cell 1
      obtain ⟨l0, l1⟩ := Ad.lo_range bs
      obtain ⟨h0, h1⟩ := Ad.hi_range bs
      obtain ⟨A1, hA1⟩ : ∃ A1, A1 = Ad.lo bs := ⟨_, rfl⟩
      obtain ⟨B1, hB1⟩ : ∃ B1, B1 = Ad.hi bs := ⟨_, rfl⟩
      rw [← hA1] at l0 l1
      rw [← hB1] at h0 h1
      rw [← hA1, ← hB1]
      have HA1 := Lib.hid hA1
      have HB1 := Lib.hid hB1
      clear hA1 hB1
      go_wp2
      go_end0
      refine ⟨rfl, ?_, grownBy_setCell (grownBy_setCell (grownBy_drewN (grownBy_refl w (some g)) qd) 0 _) 1 _⟩
      rw [← HA1.out, ← HB1.out, show (A1 + 65520) = A1 + 65521 - 1 by omega]
      exact (HF0.out.set_ 0 _).set_ 1 _
set_option maxRecDepth 100000 in
set_option maxHeartbeats 4000000 in
theorem add_nil (g gp : Nat) (w : World) (hg : Blk w g 52 [.int .u32 0, .int .u32 0]) (hp : w.cell? ⟨gp, 0, none⟩ = some (.slice none 0 0)) :
    Calls Try.prog 27 #[.pointer (some ⟨g, 0, none⟩), .slice (some ⟨gp, 0, none⟩) 1 1] w (AddP g [] w) := by
  have g0 : w.cell? ⟨g, 0, none⟩ = some (.int .u32 0) := hg.cell 0
  have g1 : w.cell? ⟨g, 1, none⟩ = some (.int .u32 0) := hg.cell 1
  have HG := Lib.hid hg
  clear hg
  go_enter Try.func27, Try.ntmps27
  go_wp2
  go_quiet (fail)
  go_wp2
  go_loopw [4, 5, 24] (fun a b i wr => a = .int .u32 1 ∧ b = .int .u32 0 ∧ (i = .int .i64 0 ∨ i = .int .i64 1) ∧ Drew w wr) (fun _ _ i _ => 1 - (intOf i).toNat)
  case atStart => exact ⟨rfl, rfl, .inl rfl, _, rfl⟩
  case round =>
    obtain ⟨rfl, rfl, hcs, qd, rfl⟩ := hrel
    rcases hcs with rfl | rfl
    · have hpw : (w.drewN qd).cell? ⟨gp, 0, none⟩ = some (.slice none 0 0) := hp
      go_wp2
      go_loopw [4, 5, 7] (fun a b l u => a = .int .u32 1 ∧ b = .int .u32 0 ∧ l = .slice none 0 0 ∧ w.drewN qd = u) (fun _ _ _ _ => 0)
      case atStart => exact ⟨rfl, rfl, rfl, rfl⟩
      case round =>
        obtain ⟨rfl, rfl, rfl, rfl⟩ := hrel
        go_wp2
        go_roundw
        case rel => exact ⟨rfl, rfl, .inr rfl, _, rfl⟩
        case measure => simp [intOf]
    · have HF0 := Lib.hid (HG.out.drewN qd)
      have f0 := HF0.out.frozen 0
      have f1 := HF0.out.frozen 1
      have c0 : (w.drewN qd).cell? ⟨g, 0, none⟩ = some (.int .u32 0) := HF0.out.cell 0
      have c1 : (w.drewN qd).cell? ⟨g, 1, none⟩ = some (.int .u32 0) := HF0.out.cell 1
      go_wp2
      go_end0
      exact ⟨rfl, (HF0.out.set_ 0 _).set_ 1 _, grownBy_setCell (grownBy_setCell (grownBy_drewN (grownBy_refl w (some g)) qd) 0 _) 1 _⟩
theorem or_sum (B A : Int) (b0 : 0 ≤ B) (b1 : B ≤ 65520) (a0 : 0 ≤ A) (a1 : A ≤ 65520) : bits BinOp.or IntKind.u32 (B * 65536) A = B * 65536 + A := by
  obtain ⟨b, rfl⟩ := Int.eq_ofNat_of_zero_le b0
  obtain ⟨a, rfl⟩ := Int.eq_ofNat_of_zero_le a0
  have h : ((b * 65536 : Nat) : Int) = (b : Int) * 65536 := by simp
  have e : (b * 65536) ||| a = b * 65536 + a := by
    have := Nat.shiftLeft_add_eq_or_of_lt (show a < 2 ^ 16 by omega) b
    rw [Nat.shiftLeft_eq] at this
    simpa using this.symm
  rw [← h, u32_or_nat _ _ (by omega) (by omega), e]
  simp
theorem value_any (g : Nat) (A B : Int) (w : World) (hg : Blk w g 52 [.int .u32 ((A + 65520) % 65521), .int .u32 B]) (a0 : 0 ≤ A) (a1 : A ≤ 65520) (b0 : 0 ≤ B) (b1 : B ≤ 65520) :
    Calls Try.prog 28 #[.pointer (some ⟨g, 0, none⟩)] w fun e w' => e = .returned (.int .u32 (B * 65536 + A)) ∧ Drew w w' := by
  have g0 : w.cell? ⟨g, 0, none⟩ = some (.int .u32 ((A + 65520) % 65521)) := hg.cell 0
  have g1 : w.cell? ⟨g, 1, none⟩ = some (.int .u32 B) := hg.cell 1
  have HO := Lib.hid (or_sum B A b0 b1 a0 a1)
  obtain ⟨C, hC⟩ : ∃ C, C = (A + 65520) % 65521 := ⟨_, rfl⟩
  rw [← hC] at g0
  have c0 : 0 ≤ C := by omega
  have c1 : C ≤ 65520 := by omega
  have HC : Hid ((C + 1) % 65521 = A) := by show _ = _; omega
  clear hg hC
  go_enter Try.func28, Try.ntmps28
  go_wp2
  go_quiet (fail)
  go_wp2
  go_ret
  refine ⟨?_, _, rfl⟩
  rw [← HO.out, ← HC.out]
  rfl
def OfP (x : Int) (w : World) (e : Ending) (w' : World) : Prop := e = .returned (.int .u32 x) ∧ Below w.heap.size w w'
theorem of_by (gp : Nat) (v : Value) (bs : List Int) (w : World) (hadd : ∀ u g, Blk u g 52 [.int .u32 0, .int .u32 0] → Below w.heap.size w u → Calls Try.prog 27 #[.pointer (some ⟨g, 0, none⟩), v] u (AddP g bs u)) :
    Calls Try.prog 18 #[v] w (OfP (Ad.of bs) w) := by
  have HA := Lib.hid hadd
  clear hadd
  go_enter Try.func18, Try.ntmps18
  go_wp2_with (first
    | (go_at_call 27; refine (HA.out _ w.heap.size (Blk.new w _ [_, _]) ((Below.refl _ w).alloc (Nat.le_refl _) _)).mono ?_; rintro e w1 ⟨rfl, hb1, hg1⟩; have HB1 := Lib.hid hb1; have HG1 := Lib.hid hg1; clear hb1 hg1)
    | (go_at_call 28; refine (value_any w.heap.size (Ad.lo bs) (Ad.hi bs) _ HB1.out (Ad.lo_range bs).1 (Ad.lo_range bs).2 (Ad.hi_range bs).1 (Ad.hi_range bs).2).mono ?_; rintro e w2 ⟨rfl, q2, rfl⟩))
  go_ret
  exact ⟨rfl, Below_drewN (below_of_grown ((Below.refl _ w).alloc (Nat.le_refl _) _) HG1.out (Nat.le_refl _) (by simp)) q2⟩
/-- the sum of a row of bytes, handed on in a list of one -/
theorem of_any (gp : Nat) (A : Option Addr) (n c : Nat) (bs : List Int) (w : World) (hp : w.cell? ⟨gp, 0, none⟩ = some (.slice A n c)) (h : Ints w A .u8 bs) (hr : ∀ x ∈ bs, 0 ≤ x ∧ x ≤ 255) (hn : bs.length = n) (hnc : n ≤ c) (hc : c ≤ 9223372036854775807) (hm : n ≤ 1000000) (hA : A = none → n = 0 ∧ c = 0) :
    Calls Try.prog 18 #[.slice (some ⟨gp, 0, none⟩) 1 1] w (OfP (Ad.of bs) w) := by
  refine of_by gp _ bs w fun u g hg hb => ?_
  have hp' := (hb.cell (block_lt_of_cell hp)).trans hp
  cases A with
  | none =>
    obtain ⟨rfl, rfl⟩ := hA rfl
    obtain rfl : bs = [] := List.eq_nil_of_length_eq_zero hn
    exact add_nil g gp u hg hp'
  | some ad => exact add_any g gp ad n c bs u hg hp' (Cells.below h hb) hr hn hnc hc hm
end Go.Proofs.Ytbemlmpajnklpaa
