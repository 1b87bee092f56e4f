/- inflate.Store: bytes as stored blocks. -/
import Derived.Test.YtcjdeinmmokdgaaInfF
import Derived.Deep.LoopGhost
namespace Go.Proofs.Ytcjdeinmmokdgaa
set_option linter.unusedSimpArgs false
set_option linter.unusedVariables false
open Go.RowKit
namespace Hf
/-- bytes as stored blocks, so many at most -/
def stored : Nat → List Int → List Int
  | 0, _ => []
  | f + 1, bs => if bs.length ≤ 65535 then hdr 1 bs.length ++ bs else hdr 0 65535 ++ (bs.take 65535 ++ stored f (bs.drop 65535))
theorem stored_last (g : Nat) (l : List Int) (hg : 0 < g) (h : l.length ≤ 65535) : stored g l = hdr 1 l.length ++ l := by
  cases g with
  | zero => omega
  | succ g => rw [stored, if_pos h]
theorem stored_more (g : Nat) (l : List Int) (h : 65535 < l.length) : stored (g + 1) l = hdr 0 65535 ++ (l.take 65535 ++ stored g (l.drop 65535)) := by rw [stored, if_neg (by omega)]
end Hf
theorem not_u8 (x : Int) (h0 : 0 ≤ x) (h1 : x ≤ 255) : bits BinOp.xor IntKind.u8 (if IntKind.u8.signed = true then -1 else IntKind.u8.max) x = 255 - x := by
  obtain ⟨n, rfl⟩ := Int.eq_ofNat_of_zero_le h0
  have key : ∀ k : Fin 256, bits BinOp.xor IntKind.u8 (if IntKind.u8.signed = true then -1 else IntKind.u8.max) (k.1 : Int) = 255 - (k.1 : Int) := by decide +kernel
  exact key ⟨n, by omega⟩
theorem ints_drop {w : World} {ad : Addr} {kd : IntKind} {l : List Int} (h : Ints w (some ad) kd l) (j : Nat) : Ints w (some (ad.add j)) kd (l.drop j) := by
  have := ints_cut h j (l.drop j).length ad rfl
  rwa [List.take_of_length_le (Nat.le_refl _)] at this
theorem stored_own {w : World} {B m l : Nat} {v : Value} {L D : List Int} (hD : D.length = m) (h : w.ownsRow B 5 1 v (L.length + 5 + m) (L.map (.int .u8) ++ [.int .u8 l, .int .u8 ((m : Int) % 256), .int .u8 ((m : Int) / 256), .int .u8 (255 - (m : Int) % 256), .int .u8 (255 - (m : Int) / 256)] ++ D.map (.int .u8))) :
    w.ownsRow B 5 1 v (L ++ (Hf.hdr l m ++ D)).length ((L ++ (Hf.hdr l m ++ D)).map (.int .u8)) := by
  have e1 : (L ++ (Hf.hdr l m ++ D)).length = L.length + 5 + m := by simp [Hf.hdr, hD]; omega
  have e2 : (L ++ (Hf.hdr l m ++ D)).map (Value.int .u8) = L.map (.int .u8) ++ [.int .u8 l, .int .u8 ((m : Int) % 256), .int .u8 ((m : Int) / 256), .int .u8 (255 - (m : Int) % 256), .int .u8 (255 - (m : Int) / 256)] ++ D.map (.int .u8) := by
    simp [Hf.hdr]
  rw [e1, e2]
  exact h
theorem stored_own0 {w : World} {B q : Nat} {v : Value} {L D : List Int} (hD : D.length = q) (h : w.ownsRow B 5 1 v (L.length + 5 + q) (L.map (.int .u8) ++ [.int .u8 0, .int .u8 255, .int .u8 255, .int .u8 0, .int .u8 0] ++ D.map (.int .u8))) :
    w.ownsRow B 5 1 v (L ++ (Hf.hdr 0 65535 ++ D)).length ((L ++ (Hf.hdr 0 65535 ++ D)).map (.int .u8)) := by
  have e0 : Hf.hdr 0 65535 = [0, 255, 255, 0, 0] := by simp [Hf.hdr]
  rw [e0]
  have e1 : (L ++ ([0, 255, 255, 0, 0] ++ D)).length = L.length + 5 + q := by simp [hD]; omega
  have e2 : (L ++ ([0, 255, 255, 0, 0] ++ D)).map (Value.int .u8) = L.map (.int .u8) ++ [.int .u8 0, .int .u8 255, .int .u8 255, .int .u8 0, .int .u8 0] ++ D.map (.int .u8) := by
    simp
  rw [e1, e2]
  exact h
theorem add_addI (a : Addr) (m n : Nat) : (a.add m).add n = a.add (m + n) := by
  unfold Addr.add
  by_cases h : m = 0 <;> by_cases h2 : n = 0 <;> simp [h, h2, Nat.add_assoc]
/-- ahead of a round of Store -/
def StoreR (ad : Addr) (n c : Nat) (bs : List Int) (f : Nat) (w : World) (g : Nat) (b o : Value) (wr : World) : Prop :=
  ∃ j L, b = .slice (some (ad.add j)) (n - j) (c - j) ∧ j ≤ n ∧ (n - j ≤ 65535 * g ∧ 0 < g) ∧ wr.ownsRow w.heap.size 5 1 o L.length (L.map (.int .u8)) ∧ L ++ Hf.stored g (bs.drop j) = Hf.stored f bs ∧ L.length ≤ j + 5 * j ∧ Below w.heap.size w wr
def StoredP (L : List Int) (w : World) (e : Ending) (w' : World) : Prop := ∃ v, e = .returned v ∧ w'.ownsRow w.heap.size 5 1 v L.length (L.map (.int .u8)) ∧ Below w.heap.size w w'
set_option maxRecDepth 100000 in
set_option maxHeartbeats 4000000 in
theorem store_any (ad : Addr) (n c : Nat) (bs : List Int) (f : Nat) (w : World) (h : Ints w (some ad) .u8 bs) (hn : bs.length = n) (hc : n ≤ c) (hm : n ≤ 100000) (hf : n ≤ 65535 * f ∧ 0 < f) (hc2 : c ≤ 9223372036854775807) :
    Calls Try.prog 9 #[.slice (some ad) n c] w (StoredP (Hf.stored f bs) w) := by
  have HN := Lib.hid hn
  have HI := Lib.hid h
  clear h hn
  go_enter Try.func9, Try.ntmps9
  go_wp2_with fail
  go_loopg [0, 3] f (fun g b o wr => StoreR ad n c bs f w g b o wr)
  case atStart => exact ⟨0, [], rfl, Nat.zero_le _, by simpa using hf, World.ownsRow_nil _ _ _ _, by simp, by simp, Below.refl _ _⟩
  case round =>
    obtain ⟨j, L, rfl, hj, ⟨hg1, hg2⟩, hown, hL, hLl, hbel⟩ := hrel
    obtain ⟨m, hmj⟩ : ∃ m, m = n - j := ⟨_, rfl⟩
    obtain ⟨d, hd⟩ : ∃ d, d = c - j := ⟨_, rfl⟩
    rw [← hmj] at hg1 ⊢
    rw [← hd]
    have hmd : m ≤ d := by omega
    have hd2 : d ≤ 9223372036854775807 := by omega
    have hm2 : m ≤ 100000 := by omega
    have HO := Lib.hid hown
    have HL := Lib.hid hL
    have HB := Lib.hid hbel
    have HMJ := Lib.hid hmj
    have HD := Lib.hid hd
    clear hown hL hbel hmj hd
    have hlen : (bs.drop j).length = m := by rw [List.length_drop, HN.out, HMJ.out]
    have HLN := Lib.hid hlen
    clear hlen
    by_cases hlast : m ≤ 65535
    · have hs := Hf.stored_last gk (bs.drop j) hg2 (by rw [HLN.out]; exact hlast)
      rw [HLN.out] at hs
      have HS := Lib.hid hs
      have n1 := not_u8 ((m : Int) % 256) (by omega) (by omega)
      have n2 := not_u8 ((m : Int) / 256) (by omega) (by omega)
      have HTK : Hid ((bs.drop j).take m = bs.drop j) := List.take_of_length_le (by rw [HLN.out]; exact Nat.le_refl _)
      clear hs
      go_wp2_with (first
        | (at_builtin
           refine wpList_appAny w1 (by rfl) (.tmp 29) (.tmp 32) 22 (by rfl) w.heap.size 5 (.int .u8 0) 1 Try.underlying22 infoByte rfl _ _ _ (by rfl) HO1.out (some (ad.add j)) m d ((bs.drop j).map (.int .u8 ·)) (by rfl) (by rw [List.length_map]; exact HLN.out) HI1.out (fun h => by cases h) (fun u hu => by obtain ⟨x, -, rfl⟩ := List.mem_map.1 hu; rfl) (by unfold maxLen; omega) (by omega) HB1.out.size ?_
           intro v2 w2 ho2 hg2
           have HO2 := Lib.hid ho2
           have HB2 : Hid (Below w.heap.size w w2) := Below_own HB1.out HO1.out hg2 (Nat.le_refl _) HB1.out.size
           clear ho2 hg2)
        | (at_builtin
           refine wpList_appL wr (by rfl) (.tmp 13) (.tmp 27) 22 (by rfl) w.heap.size 5 (.int .u8 0) 1 1 Try.underlying22 infoByte rfl (by decide) u3 L.length (L.map (.int .u8)) (by rfl) HO.out _ 5 (by rfl) (by rfl) (by simp [Value.oneCell']) (by decide) (by omega) (by decide) (by have := HB.out.size; omega) ?_
           intro g1 c1 w1 ho1 hg1 hx1
           have HO1 := Lib.hid ho1
           have HB1 : Hid (Below w.heap.size w w1) := Below_own HB.out HO.out hg1 (Nat.le_refl _) HB.out.size
           have HI1 : Hid (Ints w1 (some (ad.add j)) .u8 (bs.drop j)) := ints_drop (Cells.below HI.out HB1.out) j
           clear ho1 hg1 hx1))
      all_goals
        go_ret
        refine ⟨_, rfl, ?_, HB2.out⟩
        rw [← HL.out, HS.out]
        exact stored_own HLN.out HO2.out
    · obtain ⟨g, rfl⟩ : ∃ g, gk = g + 1 := ⟨gk - 1, by omega⟩
      have hs := Hf.stored_more g (bs.drop j) (by rw [HLN.out]; omega)
      have HS := Lib.hid hs
      have HLT : Hid (((bs.drop j).take 65535).length = 65535) := by show _ = _; rw [List.length_take, HLN.out]; omega
      have hcj : ¬ (d = 65535) := by omega
      clear hs
      go_wp2_with (first
        | (at_builtin
           refine wpList_appAny w1 (by rfl) (.tmp 29) (.tmp 32) 22 (by rfl) w.heap.size 5 (.int .u8 0) 1 Try.underlying22 infoByte rfl _ _ _ (by rfl) HO1.out (some (ad.add j)) 65535 d (((bs.drop j).take 65535).map (.int .u8 ·)) (by rfl) (by rw [List.length_map]; exact HLT.out) HI1.out (fun h => by cases h) (fun u hu => by obtain ⟨x, -, rfl⟩ := List.mem_map.1 hu; rfl) (by unfold maxLen; omega) (by omega) HB1.out.size ?_
           intro v2 w2 ho2 hg2
           have HO2 := Lib.hid ho2
           have HB2 : Hid (Below w.heap.size w w2) := Below_own HB1.out HO1.out hg2 (Nat.le_refl _) HB1.out.size
           clear ho2 hg2)
        | (at_builtin
           refine wpList_appL wr (by rfl) (.tmp 13) (.tmp 27) 22 (by rfl) w.heap.size 5 (.int .u8 0) 1 1 Try.underlying22 infoByte rfl (by decide) u3 L.length (L.map (.int .u8)) (by rfl) HO.out _ 5 (by rfl) (by rfl) (by simp [Value.oneCell']) (by decide) (by omega) (by decide) (by have := HB.out.size; omega) ?_
           intro g1 c1 w1 ho1 hg1 hx1
           have HO1 := Lib.hid ho1
           have HB1 : Hid (Below w.heap.size w w1) := Below_own HB.out HO.out hg1 (Nat.le_refl _) HB.out.size
           have HI1 : Hid (Ints w1 (some (ad.add j)) .u8 ((bs.drop j).take 65535)) := ints_cut (Cells.below HI.out HB1.out) j 65535 ad rfl
           clear ho1 hg1 hx1))
      go_roundg g
      case rel =>
        have ha : Value.slice (some ⟨(ad.add j).block, (ad.add j).off + 65535, none⟩) (m - 65535) (d - 65535) = .slice (some (ad.add (j + 65535))) (n - (j + 65535)) (c - (j + 65535)) := by
          rw [HMJ.out, HD.out, ← add_addI, show n - j - 65535 = n - (j + 65535) by omega, show c - j - 65535 = c - (j + 65535) by omega]
          simp [Addr.add]
        have hw : ((bs.drop j).drop 65535) = bs.drop (j + 65535) := by rw [List.drop_drop]
        have hmj := HMJ.out
        have hl := HL.out
        rw [HS.out, hw] at hl
        have ho := HO2.out
        rw [ha]
        refine ⟨j + 65535, L ++ (Hf.hdr 0 65535 ++ (bs.drop j).take 65535), rfl, by omega, ⟨by omega, by omega⟩, ?_, ?_, ?_, HB2.out⟩
        · exact stored_own0 HLT.out HO2.out
        · rw [← hl]; simp
        · simp [Hf.hdr]; omega
      case measure => exact Nat.lt_succ_self _
set_option maxRecDepth 100000 in
set_option maxHeartbeats 4000000 in
theorem store_nil (w : World) : Calls Try.prog 9 #[.slice none 0 0] w (StoredP [1, 0, 0, 255, 255] w) := by
  have hz : (0 : Int) < 1 := by omega
  go_enter Try.func9, Try.ntmps9
  go_wp2_with fail
  go_loopg [0, 3] 1 (fun g b o wr => b = .slice none 0 0 ∧ wr.ownsRow w.heap.size 5 1 o 0 [] ∧ w = wr)
  case atStart => exact ⟨rfl, World.ownsRow_nil _ _ _ _, rfl⟩
  case round =>
    obtain ⟨rfl, hown, rfl⟩ := hrel
    have HO := Lib.hid hown
    clear hown
    go_wp2_with (first
      | (at_builtin
         refine wpList_appAny w1 (by rfl) (.tmp 29) (.tmp 32) 22 (by rfl) w.heap.size 5 (.int .u8 0) 1 Try.underlying22 infoByte rfl _ _ _ (by rfl) HO1.out none 0 0 [] (by rfl) rfl (fun i v hi => by simp at hi) (fun h => ⟨rfl, rfl⟩) (fun u hu => by cases hu) (by unfold maxLen; omega) (by omega) HB1.out.size ?_
         intro v2 w2 ho2 hg2
         have HO2 := Lib.hid ho2
         have HB2 : Hid (Below w.heap.size w w2) := Below_own HB1.out HO1.out hg2 (Nat.le_refl _) HB1.out.size
         clear ho2 hg2)
      | (at_builtin
         refine wpList_appL w (by rfl) (.tmp 13) (.tmp 27) 22 (by rfl) w.heap.size 5 (.int .u8 0) 1 1 Try.underlying22 infoByte rfl (by decide) u3 0 [] (by rfl) HO.out _ 5 (by rfl) (by rfl) (by simp [Value.oneCell']) (by decide) (by omega) (by decide) (Nat.le_refl _) ?_
         intro g1 c1 w1 ho1 hg1 hx1
         have HO1 := Lib.hid ho1
         have HB1 : Hid (Below w.heap.size w w1) := Below_own (Below.refl _ _) HO.out hg1 (Nat.le_refl _) (Nat.le_refl _)
         clear ho1 hg1 hx1))
    go_ret
    refine ⟨_, rfl, ?_, HB2.out⟩
    have ho := HO2.out
    have e := not_u8 0 (by omega) (by omega)
    simp only [List.map_nil, List.nil_append, List.append_nil, Int.sub_zero, e] at ho
    exact ho
end Go.Proofs.Ytcjdeinmmokdgaa
