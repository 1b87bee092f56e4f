/- regs.Show: the text of any registers. -/
import Derived.Test.YtfhegloobldokaaRegC
import Derived.Test.YtfhegloobldokaaJoin
import Derived.Test.YtfhegloobldokaaFrm
import Derived.Test.YtfhegloobldokaaMemD
import Derived.Deep.RegionHeld3
import Derived.Deep.RegionWith
namespace Go.Proofs.Ytfhegloobldokaa
set_option linter.unusedSimpArgs false
set_option linter.unusedVariables false
open Go.RowKit
theorem infoStr : (Try.prog.info? 9).map (fun i => (i.zero, i.size, i.bytes)) = some (some (.string ⟨#[]⟩), 1, 16) := by kernel_rfl
theorem own_below {w w' : World} {base : Nat} {e : TypeId} {size n : Nat} {v : Value} {xs : List Value} (ho : w.ownsRow base e size v n xs) (hb : Below w.heap.size w w') : w'.ownsRow base e size v n xs :=
  (Apart.nil v).kept ho (grownBy_below hb)
theorem app_data (a b : List UInt8) : (⟨a.toArray⟩ : ByteArray) ++ ⟨b.toArray⟩ = ⟨(a ++ b).toArray⟩ := by
  apply ByteArray.ext
  simp [ByteArray.data_append]
theorem below_drew0 {w w' : World} (h : Below w.drew.heap.size w.drew w') : Below w.heap.size w w' := (Below.drew (Below.refl _ w)).trans h
theorem below_drewN0 {w w' : World} {q : Nat} (h : Below (w.drewN q).heap.size (w.drewN q) w') : Below w.heap.size w w' := (Below_drewN (Below.refl _ w) q).trans h
theorem lit_owned {T : TypeId} (w1 : World) (v : Value) (B : Nat) (hB : B ≤ w1.heap.size) (hv : v.oneCell' = true) : (w1.alloc (.cells #[v] T)).ownsRow B T 1 (.slice (some ⟨w1.heap.size, 0, none⟩) 1 1) 1 [v] := by
  have := World.ownsRow_lit (base := B) (e := T) (size := 1) w1 #[v] 1 hB (by decide) (by simp)
  simpa using this
/-- the cells that Show loads, in a world that has grown -/
theorem regs_keep {r : Rg} {T : TypeId} {g : Nat} {w w' : World} (hb : Blk w g T r.cells) (h : Below w.heap.size w w') :
    w'.cell? ⟨g, 19, none⟩ = some (.int .u16 r.ix) ∧ w'.cell? ⟨g, 20, none⟩ = some (.int .u16 r.iy) ∧ w'.cell? ⟨g, 21, none⟩ = some (.int .u16 r.sp) ∧ w'.cell? ⟨g, 22, none⟩ = some (.int .u16 r.pc) ∧
      w'.cell? ⟨g, 16, none⟩ = some (.int .u8 r.i) ∧ w'.cell? ⟨g, 17, none⟩ = some (.int .u8 r.r) := by
  have hb := hb.below_ h
  exact ⟨hb.cell 19, hb.cell 20, hb.cell 21, hb.cell 22, hb.cell 16, hb.cell 17⟩
theorem join_own (L : List (List UInt8)) (base g n c : Nat) (e : TypeId) (w : World) (ho : w.ownsRow base e 1 (.slice (some ⟨g, 0, none⟩) n c) n (L.map fun s => .string ⟨s.toArray⟩)) (hn : n = L.length) (hn1 : n ≤ 1000) (hlen : (Lib.join L [32]).length ≤ 100000) :
    Calls Try.prog 43 #[.slice (some ⟨g, 0, none⟩) n c, .string ⟨#[32]⟩] w fun e w' => e = .returned (.string ⟨(Lib.join L [32]).toArray⟩) ∧ Below w.heap.size w w' := by
  have hc := ho.cells (g := g) rfl
  have hlt := (ho.lt g rfl).2
  have hcap : n ≤ c := by
    rcases ho.2 with ⟨h, _⟩ | ⟨g', cap, cur, h, _, _, h2, _⟩
    · cases h
    · injection h with h1 h3 h4
      omega
  have e1 : (L.map fun s => (⟨s.toArray⟩ : ByteArray)).map (·.data.toList) = L := by
    rw [List.map_map]
    conv => rhs; rw [← List.map_id L]
    rfl
  have h := strings_Join g 0 c (L.map fun s => ⟨s.toArray⟩) ⟨#[32]⟩ w (fun j x hx => by
    have h2 := hc j (.string x) (by
      rw [List.getElem?_map] at hx ⊢
      cases hL : L[j]? with
      | none => rw [hL] at hx; cases hx
      | some y => rw [hL] at hx; simp at hx ⊢; rw [← hx])
    have e2 : (⟨g, 0, none⟩ : Addr).add j = ⟨g, 0 + j, none⟩ := by unfold Addr.add; split <;> simp_all
    rw [e2] at h2
    exact h2) hlt (by rw [List.length_map]; omega) (by rw [List.length_map]; omega) (by rw [e1]; show (Lib.join L [32]).length ≤ _; omega)
  rw [e1, List.length_map, ← hn] at h
  exact h
/-- a number's digits as text -/
def hx (n : Nat) (x : Int) : List UInt8 := (hexS n x).map fun y => UInt8.ofNat y.toNat
theorem hx_len (n : Nat) (x : Int) : (hx n x).length = n := by simp [hx, hexS_len]
theorem spelled_hx (n : Nat) (x : Int) (s : List UInt8) (hs : s = hx n x) (hx : B16 x) (hn : n ≤ 100) (w : World) :
    Calls Try.prog 42 #[.int .u16 x, .int .i64 n] w fun e w' => e = .returned (.string ⟨s.toArray⟩) ∧ Below w.heap.size w w' := by
  subst hs
  exact spelled_any n x w hx hn
/-- the pieces of the text -/
def Rg.pieces (r : Rg) : List (List UInt8) :=
  [[65, 70, 61] ++ hx 4 (r.a * 256 + r.f), [66, 67, 61] ++ hx 4 (r.b * 256 + r.c), [68, 69, 61] ++ hx 4 (r.d * 256 + r.e), [72, 76, 61] ++ hx 4 (r.h * 256 + r.l),
   [73, 88, 61] ++ hx 4 r.ix, [73, 89, 61] ++ hx 4 r.iy, [83, 80, 61] ++ hx 4 r.sp, [80, 67, 61] ++ hx 4 r.pc, [73, 61] ++ hx 2 r.i, [82, 61] ++ hx 2 r.r]
def Rg.show (r : Rg) : List UInt8 := Lib.join r.pieces [32]
def strs (l : List (List UInt8)) : List Value := l.map fun s => .string ⟨s.toArray⟩
/-- appending keeps what was there -/
theorem b16_of {x y : Int} (hx : B8 x) (hy : B8 y) : B16 (x * 256 + y) := by
  obtain ⟨a, b⟩ := hx
  obtain ⟨c, d⟩ := hy
  exact ⟨by omega, by omega⟩
theorem b16_8 {x : Int} (hx : B8 x) : B16 x := ⟨hx.1, by have := hx.2; omega⟩
set_option maxRecDepth 100000 in
set_option maxHeartbeats 4000000 in
theorem show_any (r : Rg) (T : TypeId) (g : Nat) (w : World) (hb : Blk w g T r.cells) (hr : r.Ok) :
    Calls Try.prog 15 #[.pointer (some ⟨g, 0, none⟩)] w fun e w' => e = .returned (.string ⟨r.show.toArray⟩) ∧ Below w.heap.size w w' := by
  obtain ⟨P, hP⟩ : ∃ P, P = r.pieces := ⟨_, rfl⟩
  obtain ⟨R, hR⟩ : ∃ R, R = r.show := ⟨_, rfl⟩
  rw [← hR]
  unfold Rg.show at hR
  rw [← hP] at hR
  unfold Rg.pieces at hP
  obtain ⟨s1, h1⟩ : ∃ s, s = hx 4 (r.a * 256 + r.f) := ⟨_, rfl⟩
  obtain ⟨s2, h2⟩ : ∃ s, s = hx 4 (r.b * 256 + r.c) := ⟨_, rfl⟩
  obtain ⟨s3, h3⟩ : ∃ s, s = hx 4 (r.d * 256 + r.e) := ⟨_, rfl⟩
  obtain ⟨s4, h4⟩ : ∃ s, s = hx 4 (r.h * 256 + r.l) := ⟨_, rfl⟩
  obtain ⟨s5, h5⟩ : ∃ s, s = hx 4 r.ix := ⟨_, rfl⟩
  obtain ⟨s6, h6⟩ : ∃ s, s = hx 4 r.iy := ⟨_, rfl⟩
  obtain ⟨s7, h7⟩ : ∃ s, s = hx 4 r.sp := ⟨_, rfl⟩
  obtain ⟨s8, h8⟩ : ∃ s, s = hx 4 r.pc := ⟨_, rfl⟩
  obtain ⟨s9, h9⟩ : ∃ s, s = hx 2 r.i := ⟨_, rfl⟩
  obtain ⟨s10, h10⟩ : ∃ s, s = hx 2 r.r := ⟨_, rfl⟩
  rw [← h1, ← h2, ← h3, ← h4, ← h5, ← h6, ← h7, ← h8, ← h9, ← h10] at hP
  have l1 : s1.length ≤ 4 := by rw [h1, hx_len]; exact Nat.le_refl _
  have l2 : s2.length ≤ 4 := by rw [h2, hx_len]; exact Nat.le_refl _
  have l3 : s3.length ≤ 4 := by rw [h3, hx_len]; exact Nat.le_refl _
  have l4 : s4.length ≤ 4 := by rw [h4, hx_len]; exact Nat.le_refl _
  have l5 : s5.length ≤ 4 := by rw [h5, hx_len]; exact Nat.le_refl _
  have l6 : s6.length ≤ 4 := by rw [h6, hx_len]; exact Nat.le_refl _
  have l7 : s7.length ≤ 4 := by rw [h7, hx_len]; exact Nat.le_refl _
  have l8 : s8.length ≤ 4 := by rw [h8, hx_len]; exact Nat.le_refl _
  have l9 : s9.length ≤ 4 := by rw [h9, hx_len]; omega
  have l10 : s10.length ≤ 4 := by rw [h10, hx_len]; omega
  have f5 : ¬ 9223372036854775807 < 3 + s5.length := by omega
  have f6 : ¬ 9223372036854775807 < 3 + s6.length := by omega
  have f7 : ¬ 9223372036854775807 < 3 + s7.length := by omega
  have f8 : ¬ 9223372036854775807 < 3 + s8.length := by omega
  have f9 : ¬ 9223372036854775807 < 2 + s9.length := by omega
  have f10 : ¬ 9223372036854775807 < 2 + s10.length := by omega
  have g5 : ¬ 9223372036854775804 < s5.length := by omega
  have g6 : ¬ 9223372036854775804 < s6.length := by omega
  have g7 : ¬ 9223372036854775804 < s7.length := by omega
  have g8 : ¬ 9223372036854775804 < s8.length := by omega
  have g9 : ¬ 9223372036854775805 < s9.length := by omega
  have g10 : ¬ 9223372036854775805 < s10.length := by omega
  have S1 := Lib.hid (spelled_hx 4 _ s1 h1 (b16_of hr.a hr.f) (by omega))
  have S2 := Lib.hid (spelled_hx 4 _ s2 h2 (b16_of hr.b hr.c) (by omega))
  have S3 := Lib.hid (spelled_hx 4 _ s3 h3 (b16_of hr.d hr.e) (by omega))
  have S4 := Lib.hid (spelled_hx 4 _ s4 h4 (b16_of hr.h hr.l) (by omega))
  have S5 := Lib.hid (spelled_hx 4 _ s5 h5 hr.ix (by omega))
  have S6 := Lib.hid (spelled_hx 4 _ s6 h6 hr.iy (by omega))
  have S7 := Lib.hid (spelled_hx 4 _ s7 h7 hr.sp (by omega))
  have S8 := Lib.hid (spelled_hx 4 _ s8 h8 hr.pc (by omega))
  have S9 := Lib.hid (spelled_hx 2 _ s9 h9 (b16_8 hr.i) (by omega))
  have S10 := Lib.hid (spelled_hx 2 _ s10 h10 (b16_8 hr.r') (by omega))
  have HR := Lib.hid hR; have HPC := Lib.hid hP; have HB := Lib.hid hb; have HO := Lib.hid hr
  have ki := hr.i
  have kr := hr.r'
  obtain ⟨ki0, ki1⟩ := ki
  obtain ⟨kr0, kr1⟩ := kr
  have wi : IntKind.u16.wrap r.i = r.i := by rw [IntKind.wrap_u16]; omega
  have wr' : IntKind.u16.wrap r.r = r.r := by rw [IntKind.wrap_u16]; omega
  clear h1 h2 h3 h4 h5 h6 h7 h8 h9 h10 hR hP hb hr
  have hx0 : ∀ u, Sem.run Try.prog (Instr.index 68 (.agg #[.string ⟨#[66, 67, 61]⟩, .string ⟨#[68, 69, 61]⟩, .string ⟨#[72, 76, 61]⟩]) (.int .i64 0)) u = .ok (.string ⟨#[66, 67, 61]⟩) u := fun u => by kernel_rfl
  have hx1 : ∀ u, Sem.run Try.prog (Instr.index 68 (.agg #[.string ⟨#[66, 67, 61]⟩, .string ⟨#[68, 69, 61]⟩, .string ⟨#[72, 76, 61]⟩]) (.int .i64 1)) u = .ok (.string ⟨#[68, 69, 61]⟩) u := fun u => by kernel_rfl
  have hx2 : ∀ u, Sem.run Try.prog (Instr.index 68 (.agg #[.string ⟨#[66, 67, 61]⟩, .string ⟨#[68, 69, 61]⟩, .string ⟨#[72, 76, 61]⟩]) (.int .i64 2)) u = .ok (.string ⟨#[72, 76, 61]⟩) u := fun u => by kernel_rfl
  have hfin : (strs P).take 4 ++ [Value.string (⟨#[73, 88, 61]⟩ ++ ⟨s5.toArray⟩), .string (⟨#[73, 89, 61]⟩ ++ ⟨s6.toArray⟩), .string (⟨#[83, 80, 61]⟩ ++ ⟨s7.toArray⟩), .string (⟨#[80, 67, 61]⟩ ++ ⟨s8.toArray⟩)] ++ [Value.string (⟨#[73, 61]⟩ ++ ⟨s9.toArray⟩), .string (⟨#[82, 61]⟩ ++ ⟨s10.toArray⟩)] = strs P := by
    rw [HPC.out, show (⟨#[73, 88, 61]⟩ : ByteArray) ++ ⟨s5.toArray⟩ = ⟨([73, 88, 61] ++ s5).toArray⟩ from app_data _ _, show (⟨#[73, 89, 61]⟩ : ByteArray) ++ ⟨s6.toArray⟩ = ⟨([73, 89, 61] ++ s6).toArray⟩ from app_data _ _,
      show (⟨#[83, 80, 61]⟩ : ByteArray) ++ ⟨s7.toArray⟩ = ⟨([83, 80, 61] ++ s7).toArray⟩ from app_data _ _, show (⟨#[80, 67, 61]⟩ : ByteArray) ++ ⟨s8.toArray⟩ = ⟨([80, 67, 61] ++ s8).toArray⟩ from app_data _ _,
      show (⟨#[73, 61]⟩ : ByteArray) ++ ⟨s9.toArray⟩ = ⟨([73, 61] ++ s9).toArray⟩ from app_data _ _, show (⟨#[82, 61]⟩ : ByteArray) ++ ⟨s10.toArray⟩ = ⟨([82, 61] ++ s10).toArray⟩ from app_data _ _]
    rfl
  have HFIN : Hid (∀ (u : World) (gg cc : Nat), u.ownsRow w.heap.size 9 1 (.slice (some ⟨gg, 0, none⟩) 10 cc) 10 ((strs P).take 4 ++ [Value.string (⟨#[73, 88, 61]⟩ ++ ⟨s5.toArray⟩), .string (⟨#[73, 89, 61]⟩ ++ ⟨s6.toArray⟩), .string (⟨#[83, 80, 61]⟩ ++ ⟨s7.toArray⟩), .string (⟨#[80, 67, 61]⟩ ++ ⟨s8.toArray⟩)] ++ [Value.string (⟨#[73, 61]⟩ ++ ⟨s9.toArray⟩), .string (⟨#[82, 61]⟩ ++ ⟨s10.toArray⟩)]) → u.ownsRow w.heap.size 9 1 (.slice (some ⟨gg, 0, none⟩) 10 cc) 10 (strs P)) := fun u gg cc h => by
    rw [hfin] at h
    exact h
  clear hfin
  have HPL : Hid (10 = P.length) := by show _ = _; rw [HPC.out]; rfl
  have HJL : Hid ((Lib.join P [32]).length ≤ 100000) := by
    show _ ≤ _
    rw [HPC.out, Lib.join_length]
    simp [Lib.lens]
    omega
  have HPR := Lib.hid (fun (k x : Int) (he : r.pair k 0 = x) (w' : World) (hB : Below w.heap.size w w') => by
    have h := pair_any r T g k 0 w' (HB.out.below_ hB) HO.out
    rw [he] at h
    exact h)
  have P0 : r.pair 0 0 = r.b * 256 + r.c := by simp [Rg.pair]
  have P1 : r.pair 1 0 = r.d * 256 + r.e := by simp [Rg.pair]
  have P2 : r.pair 2 0 = r.h * 256 + r.l := by simp [Rg.pair]
  have P0 := Lib.hid P0; have P1 := Lib.hid P1; have P2 := Lib.hid P2
  go_enter Try.func15, Try.ntmps15
  go_wp2_with (first
    | (go_at_call 24; refine (af_any r T g _ HB.out HO.out).mono ?_; rintro e w' ⟨rfl, q, rfl⟩)
    | (go_at_call 42; refine (S1.out _).mono ?_; rintro e w1 ⟨rfl, hB1⟩; have HB1 := Lib.hid (below_drewN0 hB1); clear hB1))
  have hsz1 := HB1.out.size
  go_loopw [3, 14] (fun v i wr => ∃ (k : Nat) (v' : Value), k ≤ 3 ∧ i = .int .i64 k ∧ v' = v ∧ wr.ownsRow w.heap.size 9 1 v' (k + 1) ((strs P).take (k + 1)) ∧ Below w.heap.size w wr) (fun _ i _ => 3 - (intOf i).toNat)
  case atStart =>
    refine ⟨0, _, by omega, rfl, rfl, ?_, HB1.out.alloc hsz1 _⟩
    have h := lit_owned (T := 9) w1 (.string ⟨([65, 70, 61] ++ s1).toArray⟩) w.heap.size hsz1 rfl
    rw [HPC.out]
    show _
    rw [← app_data] at h
    rw [show (strs [[65, 70, 61] ++ s1, [66, 67, 61] ++ s2, [68, 69, 61] ++ s3, [72, 76, 61] ++ s4, [73, 88, 61] ++ s5, [73, 89, 61] ++ s6, [83, 80, 61] ++ s7, [80, 67, 61] ++ s8, [73, 61] ++ s9, [82, 61] ++ s10]).take (0 + 1) = [.string (⟨[65, 70, 61].toArray⟩ ++ ⟨s1.toArray⟩)] from by rw [app_data]; rfl]
    exact h
  case round =>
    obtain ⟨k, v, hk, rfl, rfl, ho, hB2⟩ := hrel
    have hsz2 := hB2.size
    have HO2 := Lib.hid ho; have HB2 := Lib.hid hB2; clear ho hB2
    have kk : k = 0 ∨ k = 1 ∨ k = 2 ∨ k = 3 := by omega
    rcases kk with rfl | rfl | rfl | rfl
    · go_wp2_with (first
        | (go_at_call 21; refine (HPR.out 0 _ P0.out _ HB2.out).mono ?_; rintro e w' ⟨rfl, q, rfl⟩)
        | (go_at_call 42; refine (S2.out _).mono ?_; rintro e w3 ⟨rfl, hB3⟩; have hbs := below_drewN0 hB3; have HB3 := Lib.hid (HB2.out.trans (hbs.mono hsz2)); have hsz3 := HB3.out.size; have HO3 := Lib.hid (own_below HO2.out hbs); clear hB3 hbs)
        | (at_builtin; refine wpList_app1s _ rfl (.tmp 18) (.tmp 25) 67 rfl w.heap.size 9 (.string ⟨#[]⟩) 16 Try.underlying67 infoStr rfl v 1 _ rfl HO3.out _ rfl rfl (by omega) (by omega) hsz3 ?_; intro g2 c2 w4 hown2 hg2; have HO4 := Lib.hid hown2; have HB4 := Lib.hid (Below_own HB3.out HO3.out hg2 (Nat.le_refl _) hsz3); clear hown2 hg2))
      go_wp2_with fail
      go_roundw
      case rel =>
        refine ⟨1, _, by omega, by go_num, rfl, ?_, HB4.out⟩
        have h := HO4.out
        rw [show (⟨#[66, 67, 61]⟩ : ByteArray) ++ ⟨s2.toArray⟩ = ⟨([66, 67, 61] ++ s2).toArray⟩ from app_data _ _] at h
        rw [HPC.out] at h ⊢
        exact h
      case measure => simp [intOf]
    · go_wp2_with (first
        | (go_at_call 21; refine (HPR.out 1 _ P1.out _ HB2.out).mono ?_; rintro e w' ⟨rfl, q, rfl⟩)
        | (go_at_call 42; refine (S3.out _).mono ?_; rintro e w3 ⟨rfl, hB3⟩; have hbs := below_drewN0 hB3; have HB3 := Lib.hid (HB2.out.trans (hbs.mono hsz2)); have hsz3 := HB3.out.size; have HO3 := Lib.hid (own_below HO2.out hbs); clear hB3 hbs)
        | (at_builtin; refine wpList_app1s _ rfl (.tmp 18) (.tmp 25) 67 rfl w.heap.size 9 (.string ⟨#[]⟩) 16 Try.underlying67 infoStr rfl v 2 _ rfl HO3.out _ rfl rfl (by omega) (by omega) hsz3 ?_; intro g2 c2 w4 hown2 hg2; have HO4 := Lib.hid hown2; have HB4 := Lib.hid (Below_own HB3.out HO3.out hg2 (Nat.le_refl _) hsz3); clear hown2 hg2))
      go_wp2_with fail
      go_roundw
      case rel =>
        refine ⟨2, _, by omega, by go_num, rfl, ?_, HB4.out⟩
        have h := HO4.out
        rw [show (⟨#[68, 69, 61]⟩ : ByteArray) ++ ⟨s3.toArray⟩ = ⟨([68, 69, 61] ++ s3).toArray⟩ from app_data _ _] at h
        rw [HPC.out] at h ⊢
        exact h
      case measure => simp [intOf]
    · go_wp2_with (first
        | (go_at_call 21; refine (HPR.out 2 _ P2.out _ HB2.out).mono ?_; rintro e w' ⟨rfl, q, rfl⟩)
        | (go_at_call 42; refine (S4.out _).mono ?_; rintro e w3 ⟨rfl, hB3⟩; have hbs := below_drewN0 hB3; have HB3 := Lib.hid (HB2.out.trans (hbs.mono hsz2)); have hsz3 := HB3.out.size; have HO3 := Lib.hid (own_below HO2.out hbs); clear hB3 hbs)
        | (at_builtin; refine wpList_app1s _ rfl (.tmp 18) (.tmp 25) 67 rfl w.heap.size 9 (.string ⟨#[]⟩) 16 Try.underlying67 infoStr rfl v 3 _ rfl HO3.out _ rfl rfl (by omega) (by omega) hsz3 ?_; intro g2 c2 w4 hown2 hg2; have HO4 := Lib.hid hown2; have HB4 := Lib.hid (Below_own HB3.out HO3.out hg2 (Nat.le_refl _) hsz3); clear hown2 hg2))
      go_wp2_with fail
      go_roundw
      case rel =>
        refine ⟨3, _, by omega, by go_num, rfl, ?_, HB4.out⟩
        have h := HO4.out
        rw [show (⟨#[72, 76, 61]⟩ : ByteArray) ++ ⟨s4.toArray⟩ = ⟨([72, 76, 61] ++ s4).toArray⟩ from app_data _ _] at h
        rw [HPC.out] at h ⊢
        exact h
      case measure => simp [intOf]
    · go_wp2_with fail
      go_region_held3 (fun w' => w'.cell? ⟨g, 19, none⟩ = some (.int .u16 r.ix) ∧ w'.cell? ⟨g, 20, none⟩ = some (.int .u16 r.iy) ∧ w'.cell? ⟨g, 21, none⟩ = some (.int .u16 r.sp) ∧ w'.cell? ⟨g, 22, none⟩ = some (.int .u16 r.pc) ∧ w'.cell? ⟨g, 16, none⟩ = some (.int .u8 r.i) ∧ w'.cell? ⟨g, 17, none⟩ = some (.int .u8 r.r))
        (first | assumption | exact regs_keep HB.out HBX.out | exact regs_keep HB.out HB2.out.drew | exact regs_keep HB.out (HBX.out.alloc hszX _))
        (first
          | (go_at_call_of 42 r.ix; refine (S5.out _).mono ?_; rintro e w5 ⟨rfl, hB3⟩; have hbs := below_drew0 hB3; have HBX := Lib.hid (HB2.out.trans (hbs.mono hsz2)); have hszX := HBX.out.size; have HOX := Lib.hid (own_below HO2.out hbs); clear hB3 hbs)
          | (go_at_call_of 42 r.iy; refine (S6.out _).mono ?_; rintro e w6 ⟨rfl, hB3⟩; replace HBX := Lib.hid (HBX.out.trans (hB3.mono hszX)); replace hszX := HBX.out.size; replace HOX := Lib.hid (own_below HOX.out hB3); clear hB3)
          | (go_at_call_of 42 r.sp; refine (S7.out _).mono ?_; rintro e w7 ⟨rfl, hB3⟩; replace HBX := Lib.hid (HBX.out.trans (hB3.mono hszX)); replace hszX := HBX.out.size; replace HOX := Lib.hid (own_below HOX.out hB3); clear hB3)
          | (go_at_call_of 42 r.pc; refine (S8.out _).mono ?_; rintro e w8 ⟨rfl, hB3⟩; replace HBX := Lib.hid (HBX.out.trans (hB3.mono hszX)); replace hszX := HBX.out.size; replace HOX := Lib.hid (own_below HOX.out hB3); clear hB3)
          | (refine step_appL _ rfl (.tmp 28) (.tmp 53) 67 rfl w.heap.size 9 (.string ⟨#[]⟩) 1 16 Try.underlying67 infoStr rfl (by decide) v 4 _ rfl HOX.out _ 4 rfl rfl (by simp [Value.oneCell']) (by decide) (by decide) (by decide) hszX ?_; intro g9 c9 w9 hown9 hg9; replace HBX := Lib.hid (Below_own HBX.out HOX.out hg9 (Nat.le_refl _) hszX); replace hszX := HBX.out.size; replace HOX := Lib.hid hown9; clear hown9 hg9))
      go_wp2_with fail
      go_region_held3 (fun w' => w'.cell? ⟨g, 19, none⟩ = some (.int .u16 r.ix) ∧ w'.cell? ⟨g, 20, none⟩ = some (.int .u16 r.iy) ∧ w'.cell? ⟨g, 21, none⟩ = some (.int .u16 r.sp) ∧ w'.cell? ⟨g, 22, none⟩ = some (.int .u16 r.pc) ∧ w'.cell? ⟨g, 16, none⟩ = some (.int .u8 r.i) ∧ w'.cell? ⟨g, 17, none⟩ = some (.int .u8 r.r))
        (first | assumption | exact regs_keep HB.out HBX.out | exact regs_keep HB.out HBX.out.drew | exact regs_keep HB.out (HBX.out.alloc hszX _))
        (first
          | (go_at_call_of 42 r.i; refine (S9.out _).mono ?_; rintro e w10 ⟨rfl, hB3⟩; have hbs := below_drew0 hB3; replace HBX := Lib.hid (HBX.out.trans (hbs.mono hszX)); replace hszX := HBX.out.size; replace HOX := Lib.hid (own_below HOX.out hbs); clear hB3 hbs)
          | (go_at_call_of 42 r.r; refine (S10.out _).mono ?_; rintro e w11 ⟨rfl, hB3⟩; replace HBX := Lib.hid (HBX.out.trans (hB3.mono hszX)); replace hszX := HBX.out.size; replace HOX := Lib.hid (own_below HOX.out hB3); clear hB3)
          | (go_at_call 43; refine (join_own P w.heap.size _ _ _ 9 _ (HFIN.out _ _ _ HOX.out) HPL.out (by decide) HJL.out).mono ?_; rintro e w13 ⟨rfl, hB3⟩; replace HBX := Lib.hid (HBX.out.trans (hB3.mono hszX)); clear hB3)
          | (refine step_appL _ rfl (.tmp 55) (.tmp 70) 67 rfl w.heap.size 9 (.string ⟨#[]⟩) 1 16 Try.underlying67 infoStr rfl (by decide) _ _ _ rfl HOX.out _ 2 rfl rfl (by simp [Value.oneCell']) (by decide) (by decide) (by decide) hszX ?_; intro g12 c12 w12 hown9 hg9; replace HBX := Lib.hid (Below_own HBX.out HOX.out hg9 (Nat.le_refl _) hszX); replace hszX := HBX.out.size; replace HOX := Lib.hid hown9; clear hown9 hg9))
      all_goals
        go_wp2_with fail
        go_ret
        exact ⟨by rw [HR.out]; rfl, HBX.out⟩
end Go.Proofs.Ytfhegloobldokaa
