/- Texts that are laid together: RefZ. -/
import Derived.Test.YtbhpmnhlmeglcaaGreatTMicZ
import Derived.Laws.IdiomStrings
import Derived.Deep.RegionWith
namespace Go.Proofs.YtbhpmnhlmeglcaaGreat
set_option linter.unusedSimpArgs false
set_option linter.unusedVariables false
open Go.RowKit
namespace Mi
def lowL : List Int := [4, 10, 7, 6, 4, 4, 7, 4, 4, 11, 7, 6, 4, 4, 7, 4, 13, 10, 7, 6, 4, 4, 7, 4, 12, 11, 7, 6, 4, 4, 7, 4, 12, 10, 16, 6, 4, 4, 7, 4, 12, 11, 16, 6, 4, 4, 7, 4, 12, 10, 13, 6, 11, 11, 10, 4, 12, 11, 13, 6, 4, 4, 7, 4]
def highL : List Int := [11, 10, 10, 10, 17, 11, 7, 11, 11, 10, 10, 4, 17, 17, 7, 11, 11, 10, 10, 11, 17, 11, 7, 11, 11, 4, 10, 11, 17, 4, 7, 11, 11, 10, 10, 19, 17, 11, 7, 11, 11, 4, 10, 4, 17, 4, 7, 11, 11, 10, 10, 4, 17, 11, 7, 11, 11, 6, 10, 4, 17, 4, 7, 11]
def regsL : List (List UInt8) := [[98],
  [99],
  [100],
  [101],
  [104],
  [108],
  [40, 104, 108, 41],
  [97]]
def opsL : List (List UInt8) := [[97, 100, 100, 32, 97, 44],
  [97, 100, 99, 32, 97, 44],
  [115, 117, 98, 32],
  [115, 98, 99, 32, 97, 44],
  [97, 110, 100, 32],
  [120, 111, 114, 32],
  [111, 114, 32],
  [99, 112, 32]]
def firstL : List (List UInt8) := [[110, 111, 112],
  [108, 100, 32, 98, 99, 44, 87],
  [108, 100, 32, 40, 98, 99, 41, 44, 97],
  [105, 110, 99, 32, 98, 99],
  [105, 110, 99, 32, 98],
  [100, 101, 99, 32, 98],
  [108, 100, 32, 98, 44, 78],
  [114, 108, 99, 97],
  [101, 120, 32, 97, 102, 44, 97, 102, 39],
  [97, 100, 100, 32, 104, 108, 44, 98, 99],
  [108, 100, 32, 97, 44, 40, 98, 99, 41],
  [100, 101, 99, 32, 98, 99],
  [105, 110, 99, 32, 99],
  [100, 101, 99, 32, 99],
  [108, 100, 32, 99, 44, 78],
  [114, 114, 99, 97],
  [100, 106, 110, 122, 32, 69],
  [108, 100, 32, 100, 101, 44, 87],
  [108, 100, 32, 40, 100, 101, 41, 44, 97],
  [105, 110, 99, 32, 100, 101],
  [105, 110, 99, 32, 100],
  [100, 101, 99, 32, 100],
  [108, 100, 32, 100, 44, 78],
  [114, 108, 97],
  [106, 114, 32, 69],
  [97, 100, 100, 32, 104, 108, 44, 100, 101],
  [108, 100, 32, 97, 44, 40, 100, 101, 41],
  [100, 101, 99, 32, 100, 101],
  [105, 110, 99, 32, 101],
  [100, 101, 99, 32, 101],
  [108, 100, 32, 101, 44, 78],
  [114, 114, 97],
  [106, 114, 32, 110, 122, 44, 69],
  [108, 100, 32, 104, 108, 44, 87],
  [108, 100, 32, 40, 87, 41, 44, 104, 108],
  [105, 110, 99, 32, 104, 108],
  [105, 110, 99, 32, 104],
  [100, 101, 99, 32, 104],
  [108, 100, 32, 104, 44, 78],
  [100, 97, 97],
  [106, 114, 32, 122, 44, 69],
  [97, 100, 100, 32, 104, 108, 44, 104, 108],
  [108, 100, 32, 104, 108, 44, 40, 87, 41],
  [100, 101, 99, 32, 104, 108],
  [105, 110, 99, 32, 108],
  [100, 101, 99, 32, 108],
  [108, 100, 32, 108, 44, 78],
  [99, 112, 108],
  [106, 114, 32, 110, 99, 44, 69],
  [108, 100, 32, 115, 112, 44, 87],
  [108, 100, 32, 40, 87, 41, 44, 97],
  [105, 110, 99, 32, 115, 112],
  [105, 110, 99, 32, 40, 104, 108, 41],
  [100, 101, 99, 32, 40, 104, 108, 41],
  [108, 100, 32, 40, 104, 108, 41, 44, 78],
  [115, 99, 102],
  [106, 114, 32, 99, 44, 69],
  [97, 100, 100, 32, 104, 108, 44, 115, 112],
  [108, 100, 32, 97, 44, 40, 87, 41],
  [100, 101, 99, 32, 115, 112],
  [105, 110, 99, 32, 97],
  [100, 101, 99, 32, 97],
  [108, 100, 32, 97, 44, 78],
  [99, 99, 102]]
def lastL : List (List UInt8) := [[114, 101, 116, 32, 110, 122],
  [112, 111, 112, 32, 98, 99],
  [106, 112, 32, 110, 122, 44, 87],
  [106, 112, 32, 87],
  [99, 97, 108, 108, 32, 110, 122, 44, 87],
  [112, 117, 115, 104, 32, 98, 99],
  [97, 100, 100, 32, 97, 44, 78],
  [114, 115, 116, 32, 36, 48, 48],
  [114, 101, 116, 32, 122],
  [114, 101, 116],
  [106, 112, 32, 122, 44, 87],
  [],
  [99, 97, 108, 108, 32, 122, 44, 87],
  [99, 97, 108, 108, 32, 87],
  [97, 100, 99, 32, 97, 44, 78],
  [114, 115, 116, 32, 36, 48, 56],
  [114, 101, 116, 32, 110, 99],
  [112, 111, 112, 32, 100, 101],
  [106, 112, 32, 110, 99, 44, 87],
  [111, 117, 116, 32, 40, 78, 41, 44, 97],
  [99, 97, 108, 108, 32, 110, 99, 44, 87],
  [112, 117, 115, 104, 32, 100, 101],
  [115, 117, 98, 32, 78],
  [114, 115, 116, 32, 36, 49, 48],
  [114, 101, 116, 32, 99],
  [101, 120, 120],
  [106, 112, 32, 99, 44, 87],
  [105, 110, 32, 97, 44, 40, 78, 41],
  [99, 97, 108, 108, 32, 99, 44, 87],
  [99, 97, 108, 108, 32, 87],
  [115, 98, 99, 32, 97, 44, 78],
  [114, 115, 116, 32, 36, 49, 56],
  [114, 101, 116, 32, 112, 111],
  [112, 111, 112, 32, 104, 108],
  [106, 112, 32, 112, 111, 44, 87],
  [101, 120, 32, 40, 115, 112, 41, 44, 104, 108],
  [99, 97, 108, 108, 32, 112, 111, 44, 87],
  [112, 117, 115, 104, 32, 104, 108],
  [97, 110, 100, 32, 78],
  [114, 115, 116, 32, 36, 50, 48],
  [114, 101, 116, 32, 112, 101],
  [106, 112, 32, 104, 108],
  [106, 112, 32, 112, 101, 44, 87],
  [101, 120, 32, 100, 101, 44, 104, 108],
  [99, 97, 108, 108, 32, 112, 101, 44, 87],
  [99, 97, 108, 108, 32, 87],
  [120, 111, 114, 32, 78],
  [114, 115, 116, 32, 36, 50, 56],
  [114, 101, 116, 32, 112],
  [112, 111, 112, 32, 97, 102],
  [106, 112, 32, 112, 44, 87],
  [100, 105],
  [99, 97, 108, 108, 32, 112, 44, 87],
  [112, 117, 115, 104, 32, 97, 102],
  [111, 114, 32, 78],
  [114, 115, 116, 32, 36, 51, 48],
  [114, 101, 116, 32, 109],
  [108, 100, 32, 115, 112, 44, 104, 108],
  [106, 112, 32, 109, 44, 87],
  [101, 105],
  [99, 97, 108, 108, 32, 109, 44, 87],
  [99, 97, 108, 108, 32, 87],
  [99, 112, 32, 78],
  [114, 115, 116, 32, 36, 51, 56]]
end Mi
/-- a table is handed back, in new memory -/
def Table (l : List Value) (w : World) (e : Ending) (w' : World) : Prop := ∃ c, e = .returned (.slice (some ⟨w.heap.size, 0, none⟩) l.length c) ∧ Cells w' (some ⟨w.heap.size, 0, none⟩) l ∧ Below w.heap.size w w'
theorem table_new {w : World} {cs : Array Value} {T : TypeId} {c : Nat} {n : Nat} (hn : n = cs.size) : Table cs.toList w (.returned (.slice (some ⟨w.heap.size, 0, none⟩) n c)) (w.alloc (.cells cs T)) := by
  refine ⟨c, by rw [hn]; simp, fun i v hi => ⟨_, rfl, ?_⟩, (Below.refl _ _).alloc (Nat.le_refl _) _⟩
  have e : (⟨w.heap.size, 0, none⟩ : Addr).add i = ⟨w.heap.size, i, none⟩ := by simp [Addr.add]; intro h; exact h.symm
  rw [e]
  have h := World.cell?_alloc_mark w cs T (0, 0) i
  refine h.trans ?_
  simpa using hi

set_option maxRecDepth 100000 in
set_option maxHeartbeats 1000000 in
theorem low_table (w : World) : Calls Tryz.prog 23 #[] w (Table (Mi.lowL.map (Value.int .i64 ·)) w) := by
  go_enter Tryz.func23, Tryz.ntmps23
  go_wp2_with fail
  go_ret
  exact table_new rfl

set_option maxRecDepth 100000 in
set_option maxHeartbeats 1000000 in
theorem high_table (w : World) : Calls Tryz.prog 24 #[] w (Table (Mi.highL.map (Value.int .i64 ·)) w) := by
  go_enter Tryz.func24, Tryz.ntmps24
  go_wp2_with fail
  go_ret
  exact table_new rfl

set_option maxRecDepth 100000 in
set_option maxHeartbeats 1000000 in
theorem regs_table (w : World) : Calls Tryz.prog 35 #[] w (Table (Mi.regsL.map (fun s => Value.string ⟨s.toArray⟩)) w) := by
  go_enter Tryz.func35, Tryz.ntmps35
  go_wp2_with fail
  go_ret
  exact table_new rfl

set_option maxRecDepth 100000 in
set_option maxHeartbeats 1000000 in
theorem operations_table (w : World) : Calls Tryz.prog 36 #[] w (Table (Mi.opsL.map (fun s => Value.string ⟨s.toArray⟩)) w) := by
  go_enter Tryz.func36, Tryz.ntmps36
  go_wp2_with fail
  go_ret
  exact table_new rfl

set_option maxRecDepth 100000 in
set_option maxHeartbeats 1000000 in
theorem first_table (w : World) : Calls Tryz.prog 33 #[] w (Table (Mi.firstL.map (fun s => Value.string ⟨s.toArray⟩)) w) := by
  go_enter Tryz.func33, Tryz.ntmps33
  go_wp2_with fail
  go_ret
  exact table_new rfl

set_option maxRecDepth 100000 in
set_option maxHeartbeats 1000000 in
theorem last_table (w : World) : Calls Tryz.prog 34 #[] w (Table (Mi.lastL.map (fun s => Value.string ⟨s.toArray⟩)) w) := by
  go_enter Tryz.func34, Tryz.ntmps34
  go_wp2_with fail
  go_ret
  exact table_new rfl

end Go.Proofs.YtbhpmnhlmeglcaaGreat
namespace Go.Proofs.YtbhpmnhlmeglcaaGreat
set_option linter.unusedSimpArgs false
set_option linter.unusedVariables false
open Go.RowKit
namespace Mi
/-- has s p: p stands somewhere in s -/
def hasS : List UInt8 → List UInt8 → Bool
  | [], p => p.isEmpty
  | c :: s, p => ((c :: s).take p.length == p) || hasS s p
theorem has_short : ∀ (s p : List UInt8), s.length < p.length → hasS s p = false
  | [], p, h => by cases p <;> simp [hasS] at h ⊢
  | c :: s, p, h => by
    simp only [hasS]
    rw [has_short s p (by simp at h; omega)]
    simp
    intro e
    have := congrArg List.length e
    simp at this h
    omega
theorem has_step (s p : List UInt8) (k : Nat) (h : k + p.length ≤ s.length) : hasS (s.drop k) p = (((s.drop k).take p.length == p) || hasS (s.drop (k + 1)) p) := by
  rw [← List.drop_drop]
  cases e : s.drop k with
  | nil =>
    have := congrArg List.length e
    simp at this
    have hp : p = [] := by cases p with | nil => rfl | cons _ _ => simp at h; omega
    subst hp
    simp [hasS]
  | cons c t => simp [hasS]
end Mi
theorem ext_mid (l : List UInt8) (i j : Nat) : (({ data := l.toArray } : ByteArray).extract i (i + j)).toList = (l.drop i).take j := by
  rw [ByteArray.toList_eq]
  simp [ByteArray.data_extract, List.take_drop]
set_option maxHeartbeats 2000000 in
theorem has7_any (s p : List UInt8) (w : World) (hs : s.length ≤ 1000) (hp : p.length ≤ 1000) (hp1 : 1 ≤ p.length) : Calls Tryz.prog 25 #[.string ⟨s.toArray⟩, .string ⟨p.toArray⟩] w fun e w' => e = .returned (.bool (Mi.hasS s p)) ∧ w = w' := by
  obtain ⟨R, hR⟩ : ∃ R, R = Mi.hasS s p := ⟨_, rfl⟩
  rw [← hR]
  have HR := Lib.hid hR; clear hR
  go_enter Tryz.func25, Tryz.ntmps25
  go_wp2_with fail
  go_loopw [5] (fun i wr => ∃ k : Nat, k ≤ s.length ∧ i = .int .i64 k ∧ wr = w ∧ Hid (Mi.hasS (s.drop k) p = R)) (fun i _ => s.length + 1 - (intOf i).toNat)
  case atStart => exact ⟨0, by omega, rfl, rfl, HR.out.symm⟩
  case round =>
    obtain ⟨k, hk, rfl, rfl, HG⟩ := hrel
    by_cases hlt : (k : Int) + p.length ≤ s.length
    · have hst := Mi.has_step s p k (by omega)
      rw [HG.out, ← ext_mid] at hst
      cases hc : ((({ data := s.toArray } : ByteArray).extract k (k + p.length)).toList == p)
      · have hn : Hid (Mi.hasS (s.drop (k + 1)) p = R) := by
          show _ = _
          rw [hst, hc]; rfl
        clear hst
        go_wp2_with fail
        go_roundw
        case rel => exact ⟨k + 1, by omega, by go_num, trivial, hn⟩
        case measure => simp [intOf]; omega
      · have hn := Lib.hid (show R = true from by rw [hst, hc]; rfl)
        clear hst
        go_wp2_with fail
        go_ret
        exact ⟨by rw [hn.out]; rfl, rfl⟩
    · go_wp2_with fail
      go_ret
      have h := HG.out
      rw [Mi.has_short _ _ (by simp; omega)] at h
      exact ⟨by rw [h]; rfl, rfl⟩
end Go.Proofs.YtbhpmnhlmeglcaaGreat
namespace Go.Proofs.YtbhpmnhlmeglcaaGreat
set_option linter.unusedSimpArgs false
set_option linter.unusedVariables false
open Go.RowKit
namespace Mi
def plain7 (c : Int) : List UInt8 :=
  if c < 64 then firstL.getD c.toNat [] else if 192 ≤ c then lastL.getD (c - 192).toNat [] else if c = 118 then [104, 97, 108, 116] else
  if c < 128 then [108, 100, 32] ++ regsL.getD (c / 8 % 8).toNat [] ++ [44] ++ regsL.getD (c % 8).toNat [] else opsL.getD (c / 8 % 8).toNat [] ++ regsL.getD (c % 8).toNat []
theorem plain7_len : ∀ n < 256, (plain7 (n : Nat)).length ≤ 20 := by decide +kernel
theorem plain7_le (c : Int) (h0 : 0 ≤ c) (h1 : c ≤ 255) : (plain7 c).length ≤ 20 := by
  obtain ⟨n, rfl⟩ : ∃ n : Nat, c = n := ⟨c.toNat, by omega⟩
  exact plain7_len n (by omega)
theorem regs_len : ∀ k < 8, (regsL.getD k []).length ≤ 4 := by decide +kernel
theorem ops_len : ∀ k < 8, (opsL.getD k []).length ≤ 6 := by decide +kernel
end Mi
theorem below_drew0 {w w' : World} (h : Below w.drew.heap.size w.drew w') : Below w.heap.size w w' := (Below.drew (Below.refl _ w)).trans h
theorem app_data (a b : List UInt8) : (⟨a.toArray⟩ : ByteArray) ++ ⟨b.toArray⟩ = ⟨(a ++ b).toArray⟩ := by
  apply ByteArray.ext
  simp [ByteArray.data_append]
/-- two cells of a table of texts -/
def TwoT (l : List (List UInt8)) (i j : Nat) (w : World) (e : Ending) (w' : World) : Prop := ∃ (ad : Addr) (cap : Nat), e = .returned (.slice (some ad) 8 cap) ∧ w'.cell? (ad.add i) = some (.string ⟨(l.getD i []).toArray⟩) ∧ w'.cell? (ad.add j) = some (.string ⟨(l.getD j []).toArray⟩) ∧ Below w.heap.size w w'
/-- one cell of a table -/
theorem table_cell {l : List Value} {w : World} {e : Ending} {w' : World} (h : Table l w e w') (i : Nat) (v : Value) (hv : l[i]? = some v) :
    ∃ c, ∃ ad : Addr, e = .returned (.slice (some ad) l.length c) ∧ w'.cell? (ad.add i) = some v ∧ Below w.heap.size w w' := by
  obtain ⟨c, rfl, hc, hb⟩ := h
  obtain ⟨ad, e, h⟩ := hc i v hv
  injection e with e
  subst e
  exact ⟨c, _, rfl, h, hb⟩
theorem str_at (l : List (List UInt8)) (i : Nat) (hi : i < l.length) : (l.map (fun s => Value.string ⟨s.toArray⟩))[i]? = some (.string ⟨(l.getD i []).toArray⟩) := by
  rw [List.getElem?_map, List.getElem?_eq_getElem hi]
  simp [List.getD_eq_getElem?_getD, List.getElem?_eq_getElem hi]
set_option maxHeartbeats 2000000 in
theorem plain7_any (c : Int) (w : World) (h0 : 0 ≤ c) (h1 : c ≤ 255) : Calls Tryz.prog 26 #[.int .u8 c] w fun e w' => e = .returned (.string ⟨(Mi.plain7 c).toArray⟩) ∧ Below w.heap.size w w' := by
  obtain ⟨R, hR⟩ : ∃ R, R = Mi.plain7 c := ⟨_, rfl⟩
  rw [← hR]
  unfold Mi.plain7 at hR
  by_cases k1 : c < 64
  · obtain ⟨n, rfl⟩ : ∃ n : Nat, c = n := ⟨c.toNat, by omega⟩
    rw [if_pos k1, Int.toNat_natCast] at hR
    have HV := Lib.hid (str_at Mi.firstL n (by simp [Mi.firstL]; omega))
    rw [← hR] at HV
    have HL := Lib.hid (show (Mi.firstL.map (fun s => Value.string ⟨s.toArray⟩)).length = 64 from rfl)
    clear hR
    go_enter Tryz.func26, Tryz.ntmps26
    go_wp2_with (first
      | (go_at_call 33; refine (first_table _).mono ?_; intro e w' ht; obtain ⟨cc, ad, rfl, hc, hb⟩ := table_cell ht n _ HV.out; rw [HL.out]; clear ht))
    all_goals go_ret
    exact ⟨rfl, hb⟩
  rw [if_neg k1] at hR
  by_cases k2 : 192 ≤ c
  · obtain ⟨n, rfl⟩ : ∃ n : Nat, c = n + 192 := ⟨(c - 192).toNat, by omega⟩
    rw [if_pos k2, show ((n : Int) + 192 - 192).toNat = n from by omega] at hR
    have HV := Lib.hid (str_at Mi.lastL n (by simp [Mi.lastL]; omega))
    rw [← hR] at HV
    have HL := Lib.hid (show (Mi.lastL.map (fun s => Value.string ⟨s.toArray⟩)).length = 64 from rfl)
    clear hR
    go_enter Tryz.func26, Tryz.ntmps26
    go_wp2_with (first
      | (go_at_call 34; refine (last_table _).mono ?_; intro e w' ht; obtain ⟨cc, ad, rfl, hc, hb⟩ := table_cell ht n _ HV.out; rw [HL.out]; clear ht))
    all_goals go_ret
    exact ⟨rfl, hb⟩
  rw [if_neg k2] at hR
  by_cases k3 : c = 118
  · subst k3
    rw [if_pos rfl] at hR
    subst hR
    go_enter Tryz.func26, Tryz.ntmps26
    go_wp2_with fail
    go_ret
    exact ⟨rfl, Below.refl _ _⟩
  rw [if_neg k3] at hR
  have k3b : (c == 118) = false := by simp [k3]
  obtain ⟨i, hi⟩ : ∃ i : Nat, c / 8 % 8 = i := ⟨(c / 8 % 8).toNat, by omega⟩
  obtain ⟨j, hj⟩ : ∃ j : Nat, c % 8 = j := ⟨(c % 8).toNat, by omega⟩
  have i8 : (i : Int) < 8 := by omega
  have j8 : (j : Int) < 8 := by omega
  rw [hi, hj, Int.toNat_natCast, Int.toNat_natCast] at hR
  have li := Mi.regs_len i (by omega)
  have lj := Mi.regs_len j (by omega)
  have lo := Mi.ops_len i (by omega)
  have HA : Hid (∀ w, Calls Tryz.prog 35 #[] w (TwoT Mi.regsL i j w)) := fun w => (regs_table w).mono fun e w' ht => by
    obtain ⟨cc, rfl, hc, hb⟩ := ht
    obtain ⟨ad, e, h⟩ := hc i _ (str_at _ i (by simp [Mi.regsL]; omega))
    obtain ⟨ad2, e2, h2⟩ := hc j _ (str_at _ j (by simp [Mi.regsL]; omega))
    injection e with e
    injection e2 with e2
    subst e
    subst e2
    exact ⟨_, cc, rfl, h, h2, hb⟩
  have HB : Hid (∀ w, Calls Tryz.prog 36 #[] w (TwoT Mi.opsL i i w)) := fun w => (operations_table w).mono fun e w' ht => by
    obtain ⟨cc, rfl, hc, hb⟩ := ht
    obtain ⟨ad, e, h⟩ := hc i _ (str_at _ i (by simp [Mi.opsL]; omega))
    injection e with e
    subst e
    exact ⟨_, cc, rfl, h, h, hb⟩
  obtain ⟨u, hu⟩ : ∃ u, u = Mi.regsL.getD i [] := ⟨_, rfl⟩
  obtain ⟨v, hv⟩ : ∃ v, v = Mi.regsL.getD j [] := ⟨_, rfl⟩
  obtain ⟨o, ho⟩ : ∃ o, o = Mi.opsL.getD i [] := ⟨_, rfl⟩
  unfold TwoT at HA HB
  rw [← hu, ← hv] at HA
  rw [← ho] at HB
  rw [← hu] at li hR
  rw [← hv] at lj hR
  rw [← ho] at lo hR
  clear hu hv ho
  have t0 : IntKind.i64.wrap (c / 8) = c / 8 := by rw [IntKind.wrap_i64]; omega
  have tA : Int.tdiv c 8 = c / 8 := Int.tdiv_eq_ediv_of_nonneg h0
  have t2 : Int.tmod c 8 = j := by rw [Int.tmod_eq_emod_of_nonneg (by omega)]; exact hj
  have t1 : Int.tmod (c / 8) 8 = i := by rw [Int.tmod_eq_emod_of_nonneg (by omega)]; exact hi
  have t3 : (0 : Int) ≤ c / 8 := by omega
  have i9 : i < 8 := by omega
  have j9 : j < 8 := by omega
  have t4 : c / 8 ≤ 31 := by omega
  by_cases k4 : c < 128
  · rw [if_pos k4] at hR
    have HR := Lib.hid hR
    clear hR
    go_enter Tryz.func26, Tryz.ntmps26
    go_wp2_with fail
    go_region_with (first
      | (go_at_call 35; have gA := hA1; refine (HA.out _).mono ?_; rintro e w' ⟨ad2, cap2, rfl, hB1, hB2, hb2⟩; replace hA1 := (hb2.cell (block_lt_of_cell hA1)).trans hA1; replace hA2 := (hb2.cell (block_lt_of_cell hA2)).trans hA2; replace hb := hb.trans (hb2.mono hb.size); clear gA)
      | (go_at_call 35; refine (HA.out _).mono ?_; rintro e w' ⟨ad, cap, rfl, hA1, hA2, hb⟩))
    all_goals
      go_wp2_with fail
      go_ret
      refine ⟨?_, below_drew0 hb⟩
      rw [HR.out]
      exact congrArg (fun x => Ending.returned (Value.string x)) (by rw [app_data, app_data, app_data])
  · rw [if_neg k4] at hR
    have HR := Lib.hid hR
    clear hR
    go_enter Tryz.func26, Tryz.ntmps26
    go_wp2_with fail
    go_region_with (first
      | (go_at_call 35; have gA := hB1; refine (HA.out _).mono ?_; rintro e w' ⟨ad2, cap2, rfl, hA1, hA2, hb2⟩; replace hB1 := (hb2.cell (block_lt_of_cell hB1)).trans hB1; replace hb := hb.trans (hb2.mono hb.size); clear gA)
      | (go_at_call 35; refine (HA.out _).mono ?_; rintro e w' ⟨ad2, cap2, rfl, hA1, hA2, hb⟩)
      | (go_at_call 36; have gA := hA1; refine (HB.out _).mono ?_; rintro e w' ⟨ad, cap, rfl, hB1, hB2, hb2⟩; replace hA1 := (hb2.cell (block_lt_of_cell hA1)).trans hA1; replace hA2 := (hb2.cell (block_lt_of_cell hA2)).trans hA2; replace hb := hb.trans (hb2.mono hb.size); clear gA)
      | (go_at_call 36; refine (HB.out _).mono ?_; rintro e w' ⟨ad, cap, rfl, hB1, hB2, hb⟩))
    all_goals
      go_wp2_with fail
      go_ret
      refine ⟨?_, below_drew0 hb⟩
      rw [HR.out]
      exact congrArg (fun x => Ending.returned (Value.string x)) (by rw [app_data])
end Go.Proofs.YtbhpmnhlmeglcaaGreat
namespace Go.Proofs.YtbhpmnhlmeglcaaGreat
set_option linter.unusedSimpArgs false
set_option linter.unusedVariables false
open Go.RowKit
namespace Mi
def lessS (c : Int) : Int :=
  if c = 16 ∨ c = 32 ∨ c = 40 ∨ c = 48 ∨ c = 56 then 5 else if 192 ≤ c ∧ c % 8 = 0 then 6 else if 192 ≤ c ∧ c % 8 = 4 then 7 else 0
end Mi
set_option maxRecDepth 100000 in
set_option maxHeartbeats 1000000 in
theorem less_any (c : Int) (h0 : 0 ≤ c) (h1 : c ≤ 255) (w : World) : Calls Tryz.prog 18 #[.int .u8 c] w fun e w' => e = .returned (.int .i64 (Mi.lessS c)) ∧ Below w.heap.size w w' := by
  obtain ⟨R, hR⟩ : ∃ R, R = Mi.lessS c := ⟨_, rfl⟩
  rw [← hR]
  unfold Mi.lessS at hR
  by_cases k : c = 16 ∨ c = 32 ∨ c = 40 ∨ c = 48 ∨ c = 56
  · rw [if_pos k] at hR
    subst hR
    rcases k with rfl | rfl | rfl | rfl | rfl
    all_goals
      go_enter Tryz.func18, Tryz.ntmps18
      go_wp2
      go_ret
      exact ⟨rfl, Below.refl _ _⟩
  · rw [if_neg k] at hR
    have k1 : (c == 16) = false := by simp; omega
    have k2 : (c == 32) = false := by simp; omega
    have k3 : (c == 40) = false := by simp; omega
    have k4 : (c == 48) = false := by simp; omega
    have k5 : (c == 56) = false := by simp; omega
    have HR := Lib.hid hR
    clear hR k
    have hz : c % 8 = 0 ∨ c % 8 = 1 ∨ c % 8 = 2 ∨ c % 8 = 3 ∨ c % 8 = 4 ∨ c % 8 = 5 ∨ c % 8 = 6 ∨ c % 8 = 7 := by omega
    by_cases k6 : 192 ≤ c
    · rcases hz with z | z | z | z | z | z | z | z
      all_goals
        go_enter Tryz.func18, Tryz.ntmps18
        go_wp2
        go_ret
        exact ⟨by rw [HR.out]; exact congrArg (fun x => Ending.returned (Value.int .i64 x)) (by (first | rw [if_pos (by omega)] | rw [if_neg (by omega), if_pos (by omega)] | rw [if_neg (by omega), if_neg (by omega)])), Below.refl _ _⟩
    · go_enter Tryz.func18, Tryz.ntmps18
      go_wp2
      go_ret
      exact ⟨by rw [HR.out, if_neg (by omega), if_neg (by omega)]; rfl, Below.refl _ _⟩
end Go.Proofs.YtbhpmnhlmeglcaaGreat
namespace Go.Proofs.YtbhpmnhlmeglcaaGreat
set_option linter.unusedSimpArgs false
set_option linter.unusedVariables false
open Go.RowKit
namespace Mi
def mem7 (c : Int) : Bool := hasS (plain7 c) [40, 104, 108, 41]
def args7 (c : Int) : Int := if hasS (plain7 c) [87] = true then (if c = 221 ∨ c = 237 ∨ c = 253 then 0 else 2) else if hasS (plain7 c) [78] = true ∨ hasS (plain7 c) [69] = true then 1 else 0
def plain8 (c : Int) : Int := if c < 64 then lowL.getD c.toNat 0 else if 192 ≤ c then highL.getD (c - 192).toNat 0 else if mem7 c = true then 7 else 4
def more8 (c : Int) : Int :=
  if 160 ≤ c ∧ c < 192 ∧ c % 8 < 4 then (if 176 ≤ c then 21 else 16) else if c < 64 ∨ 128 ≤ c then 8 else if c = 103 ∨ c = 111 then 18 else if c = 71 ∨ c = 79 ∨ c = 87 ∨ c = 95 then 9 else
  if c % 8 = 2 then 15 else if c % 8 = 3 then 20 else if c % 8 = 5 then 14 else if c % 8 < 2 then 12 else 8
end Mi
set_option maxHeartbeats 2000000 in
theorem mem7_any (c : Int) (w : World) (h0 : 0 ≤ c) (h1 : c ≤ 255) : Calls Tryz.prog 19 #[.int .u8 c] w fun e w' => e = .returned (.bool (Mi.mem7 c)) ∧ Below w.heap.size w w' := by
  obtain ⟨M, hM⟩ : ∃ M, M = Mi.mem7 c := ⟨_, rfl⟩
  rw [← hM]
  unfold Mi.mem7 at hM
  have hl := Mi.plain7_le c h0 h1
  have hP := fun w => plain7_any c w h0 h1
  have hH := fun w => has7_any (Mi.plain7 c) [40, 104, 108, 41] w (by omega) (by decide) (by decide)
  rw [← hM] at hH
  obtain ⟨t, ht⟩ : ∃ t, t = Mi.plain7 c := ⟨_, rfl⟩
  rw [← ht] at hH hl
  simp only [← ht] at hP
  have HP := Lib.hid hP; have HH := Lib.hid hH
  clear hP hH hM ht
  go_enter Tryz.func19, Tryz.ntmps19
  go_wp2_with (first
    | (go_at_call 26; refine (HP.out _).mono ?_; rintro e w' ⟨rfl, hb⟩)
    | (go_at_call 25; refine (HH.out _).mono ?_; rintro e w' ⟨rfl, rfl⟩))
  go_ret
  exact ⟨rfl, hb⟩
theorem int_at (l : List Int) (i : Nat) (hi : i < l.length) : (l.map (Value.int .i64 ·))[i]? = some (.int .i64 (l.getD i 0)) := by
  rw [List.getElem?_map, List.getElem?_eq_getElem hi]
  simp [List.getD_eq_getElem?_getD, List.getElem?_eq_getElem hi]
set_option maxHeartbeats 2000000 in
theorem plain8_any (c : Int) (w : World) (h0 : 0 ≤ c) (h1 : c ≤ 255) : Calls Tryz.prog 17 #[.int .u8 c] w fun e w' => e = .returned (.int .i64 (Mi.plain8 c)) ∧ Below w.heap.size w w' := by
  obtain ⟨R, hR⟩ : ∃ R, R = Mi.plain8 c := ⟨_, rfl⟩
  rw [← hR]
  unfold Mi.plain8 at hR
  by_cases k1 : c < 64
  · obtain ⟨n, rfl⟩ : ∃ n : Nat, c = n := ⟨c.toNat, by omega⟩
    rw [if_pos k1, Int.toNat_natCast] at hR
    have HV := Lib.hid (int_at Mi.lowL n (by simp [Mi.lowL]; omega))
    rw [← hR] at HV
    have HL := Lib.hid (show (Mi.lowL.map (Value.int .i64 ·)).length = 64 from rfl)
    clear hR
    go_enter Tryz.func17, Tryz.ntmps17
    go_wp2_with (first
      | (go_at_call 23; refine (low_table _).mono ?_; intro e w' ht; obtain ⟨cc, ad, rfl, hc, hb⟩ := table_cell ht n _ HV.out; rw [HL.out]; clear ht))
    all_goals go_ret
    exact ⟨rfl, hb⟩
  rw [if_neg k1] at hR
  by_cases k2 : 192 ≤ c
  · obtain ⟨n, rfl⟩ : ∃ n : Nat, c = n + 192 := ⟨(c - 192).toNat, by omega⟩
    rw [if_pos k2, show ((n : Int) + 192 - 192).toNat = n from by omega] at hR
    have HV := Lib.hid (int_at Mi.highL n (by simp [Mi.highL]; omega))
    rw [← hR] at HV
    have HL := Lib.hid (show (Mi.highL.map (Value.int .i64 ·)).length = 64 from rfl)
    clear hR
    go_enter Tryz.func17, Tryz.ntmps17
    go_wp2_with (first
      | (go_at_call 24; refine (high_table _).mono ?_; intro e w' ht; obtain ⟨cc, ad, rfl, hc, hb⟩ := table_cell ht n _ HV.out; rw [HL.out]; clear ht))
    all_goals go_ret
    exact ⟨rfl, hb⟩
  rw [if_neg k2] at hR
  have hM := fun w => mem7_any c w h0 h1
  obtain ⟨M, hm⟩ : ∃ M, M = Mi.mem7 c := ⟨_, rfl⟩
  simp only [← hm] at hM hR
  have HM := Lib.hid hM
  clear hM hm
  cases M
  all_goals
    simp at hR
    subst hR
    go_enter Tryz.func17, Tryz.ntmps17
    go_wp2_with (first
      | (go_at_call 19; refine (HM.out _).mono ?_; rintro e w' ⟨rfl, hb⟩))
    go_ret
    exact ⟨rfl, hb⟩
set_option maxRecDepth 100000 in
set_option maxHeartbeats 4000000 in
theorem more8_any (c : Int) (w : World) (h0 : 0 ≤ c) (h1 : c ≤ 255) : Calls Tryz.prog 20 #[.int .u8 c] w fun e w' => e = .returned (.int .i64 (Mi.more8 c)) ∧ Below w.heap.size w w' := by
  obtain ⟨R, hR⟩ : ∃ R, R = Mi.more8 c := ⟨_, rfl⟩
  rw [← hR]
  have HR := Lib.hid hR
  clear hR
  have tm : Int.tmod c 8 = c % 8 := Int.tmod_eq_emod_of_nonneg h0
  have hz : c % 8 = 0 ∨ c % 8 = 1 ∨ c % 8 = 2 ∨ c % 8 = 3 ∨ c % 8 = 4 ∨ c % 8 = 5 ∨ c % 8 = 6 ∨ c % 8 = 7 := by omega
  rcases hz with z | z | z | z | z | z | z | z
  all_goals
    go_enter Tryz.func20, Tryz.ntmps20
    go_wp2
    all_goals (go_ret; refine ⟨?_, by first | exact Below.refl _ _ | exact (Below.refl _ _).alloc (Nat.le_refl _) _⟩; rw [HR.out]; exact congrArg (fun x => Ending.returned (Value.int .i64 x)) (by unfold Mi.more8; simp_all; try omega))
end Go.Proofs.YtbhpmnhlmeglcaaGreat
namespace Go.Proofs.YtbhpmnhlmeglcaaGreat
set_option linter.unusedSimpArgs false
set_option linter.unusedVariables false
open Go.RowKit
namespace Mi
def time8 (set : Int) (ix : Bool) (c : Int) (met : Bool) : Int :=
  if set = 0 then (plain8 c - 4 - if met = true then 0 else lessS c) + (if ix = true ∧ c = 54 then 5 else if ix = true ∧ mem7 c = true then 8 else 0)
  else if set = 1 ∨ set = 3 then (if set = 3 ∨ c % 8 = 6 then (if c / 64 = 1 then 4 else 7) else 0)
  else if set = 2 then (if met = false ∧ more8 c = 21 then 8 else more8 c - 8) else 0
theorem plain8_ran : ∀ n < 256, 4 ≤ plain8 (n : Nat) ∧ plain8 (n : Nat) ≤ 19 := by decide +kernel
theorem more8_ran : ∀ n < 256, 8 ≤ more8 (n : Nat) ∧ more8 (n : Nat) ≤ 21 := by decide +kernel
theorem less_ran : ∀ n < 256, 0 ≤ lessS (n : Nat) ∧ lessS (n : Nat) ≤ 7 := by decide +kernel
end Mi
theorem wrap_small (x : Int) (h0 : -1000 ≤ x) (h1 : x ≤ 1000000) : IntKind.i64.wrap x = x := by rw [IntKind.wrap_i64]; omega
set_option maxRecDepth 100000 in
set_option maxHeartbeats 4000000 in
theorem time8_any (set : Int) (ix : Bool) (c : Int) (met : Bool) (w : World) (h0 : 0 ≤ c) (h1 : c ≤ 255) :
    Calls Tryz.prog 12 #[.int .i64 set, .bool ix, .int .u8 c, .bool met] w fun e w' => e = .returned (.int .i64 (Mi.time8 set ix c met)) ∧ Below w.heap.size w w' := by
  obtain ⟨R, hR⟩ : ∃ R, R = Mi.time8 set ix c met := ⟨_, rfl⟩
  rw [← hR]
  unfold Mi.time8 at hR
  have hP := fun w => plain8_any c w h0 h1
  have hL := fun w => less_any c h0 h1 w
  have hM := fun w => mem7_any c w h0 h1
  have hO := fun w => more8_any c w h0 h1
  obtain ⟨n, rfl⟩ : ∃ n : Nat, c = n := ⟨c.toNat, by omega⟩
  obtain ⟨p0, p1⟩ := Mi.plain8_ran n (by omega)
  obtain ⟨o0, o1⟩ := Mi.more8_ran n (by omega)
  obtain ⟨l0, l1⟩ := Mi.less_ran n (by omega)
  obtain ⟨p, hp⟩ : ∃ p, p = Mi.plain8 n := ⟨_, rfl⟩
  obtain ⟨o, ho⟩ : ∃ o, o = Mi.more8 n := ⟨_, rfl⟩
  obtain ⟨l, hl⟩ : ∃ l, l = Mi.lessS n := ⟨_, rfl⟩
  obtain ⟨m, hm⟩ : ∃ m, m = Mi.mem7 n := ⟨_, rfl⟩
  simp only [← hp, ← ho, ← hl, ← hm] at p0 p1 o0 o1 l0 l1 hP hL hM hO hR
  have HP := Lib.hid hP; have HL := Lib.hid hL; have HM := Lib.hid hM; have HO := Lib.hid hO
  clear hP hL hM hO hp ho hl hm
  have u1 := wrap_small (p - 4) (by omega) (by omega)
  have u2 := wrap_small (p - 4 - l) (by omega) (by omega)
  have u3 := wrap_small (p - 4 + 5) (by omega) (by omega)
  have u4 := wrap_small (p - 4 + 8) (by omega) (by omega)
  have u5 := wrap_small (p - 4 - l + 5) (by omega) (by omega)
  have u6 := wrap_small (p - 4 - l + 8) (by omega) (by omega)
  have u7 := wrap_small (o - 8) (by omega) (by omega)
  by_cases s0 : set = 0
  · subst s0
    simp only [if_true] at hR
    by_cases c54 : n = 54
    · subst c54
      cases ix <;> cases met <;> cases m
      all_goals
        simp at hR
        subst hR
        go_enter Tryz.func12, Tryz.ntmps12
        go_wp2_with (first
          | (go_at_call 17; refine (HP.out _).mono ?_; rintro e w' ⟨rfl, hb⟩)
          | (go_at_call 18; refine (HL.out _).mono ?_; rintro e w' ⟨rfl, hb2⟩; replace hb := hb.trans (hb2.mono hb.size); clear hb2)
          | (go_at_call 19; refine (HM.out _).mono ?_; rintro e w' ⟨rfl, hb2⟩; replace hb := hb.trans (hb2.mono hb.size); clear hb2))
        go_ret
        exact ⟨rfl, hb⟩
    · have b54 : ((n : Int) == 54) = false := by simp; omega
      have c54' : ¬ ((n : Int) = 54) := by omega
      cases ix <;> cases met <;> cases m
      all_goals
        simp [c54'] at hR
        subst hR
        go_enter Tryz.func12, Tryz.ntmps12
        go_wp2_with (first
          | (go_at_call 17; refine (HP.out _).mono ?_; rintro e w' ⟨rfl, hb⟩)
          | (go_at_call 18; refine (HL.out _).mono ?_; rintro e w' ⟨rfl, hb2⟩; replace hb := hb.trans (hb2.mono hb.size); clear hb2)
          | (go_at_call 19; refine (HM.out _).mono ?_; rintro e w' ⟨rfl, hb2⟩; replace hb := hb.trans (hb2.mono hb.size); clear hb2))
        go_ret
        exact ⟨rfl, hb⟩
  have b0 : (set == 0) = false := by simp [s0]
  rw [if_neg s0] at hR
  have td : Int.tmod n 8 = n % 8 := Int.tmod_eq_emod_of_nonneg h0
  have tq : Int.tdiv n 64 = n / 64 := Int.tdiv_eq_ediv_of_nonneg h0
  have u8 := wrap_small ((n : Int) / 64) (by omega) (by omega)
  by_cases s1 : set = 1
  · subst s1
    rw [if_pos (.inl rfl)] at hR
    by_cases z : (n : Int) % 8 = 6
    all_goals
      have zb : ((n : Int) % 8 == 6) = decide ((n : Int) % 8 = 6) := rfl
      by_cases y : (n : Int) / 64 = 1
      all_goals
        have yb : ((n : Int) / 64 == 1) = decide ((n : Int) / 64 = 1) := rfl
        simp [z, y] at hR
        simp only [z, y, decide_true, decide_false] at zb yb
        subst hR
        go_enter Tryz.func12, Tryz.ntmps12
        go_wp2_with fail
        go_ret
        exact ⟨rfl, Below.refl _ _⟩
  have b1 : (set == 1) = false := by simp [s1]
  by_cases s3 : set = 3
  · subst s3
    rw [if_pos (.inr rfl)] at hR
    by_cases y : (n : Int) / 64 = 1
    all_goals
      have yb : ((n : Int) / 64 == 1) = decide ((n : Int) / 64 = 1) := rfl
      simp [y] at hR
      simp only [y, decide_true, decide_false] at yb
      subst hR
      go_enter Tryz.func12, Tryz.ntmps12
      go_wp2_with fail
      go_ret
      exact ⟨rfl, Below.refl _ _⟩
  have b3 : (set == 3) = false := by simp [s3]
  rw [if_neg (by omega)] at hR
  by_cases s2 : set = 2
  · subst s2
    rw [if_pos rfl] at hR
    by_cases y : o = 21
    · subst y
      cases met
      all_goals
        simp at hR
        subst hR
        go_enter Tryz.func12, Tryz.ntmps12
        go_wp2_with (first
          | (go_at_call 20; refine (HO.out _).mono ?_; rintro e w' ⟨rfl, hb⟩))
        go_ret
        exact ⟨rfl, hb⟩
    · have yb : (o - 8 == 13) = false := by simp; omega
      rw [if_neg (by simp [y])] at hR
      subst hR
      cases met
      all_goals
        go_enter Tryz.func12, Tryz.ntmps12
        go_wp2_with (first
          | (go_at_call 20; refine (HO.out _).mono ?_; rintro e w' ⟨rfl, hb⟩))
        go_ret
        exact ⟨rfl, hb⟩
  have b2 : (set == 2) = false := by simp [s2]
  rw [if_neg s2] at hR
  subst hR
  go_enter Tryz.func12, Tryz.ntmps12
  go_wp2_with fail
  go_ret
  exact ⟨rfl, Below.refl _ _⟩
end Go.Proofs.YtbhpmnhlmeglcaaGreat
