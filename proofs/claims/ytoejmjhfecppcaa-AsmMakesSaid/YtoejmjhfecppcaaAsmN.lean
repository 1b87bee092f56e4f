/- The document's answer: bytes of a call. -/
import Derived.Test.YtoejmjhfecppcaaAsmM
import Derived.Laws.StructEq
namespace Go.Proofs.Ytoejmjhfecppcaa
set_option linter.unusedSimpArgs false
set_option linter.unusedVariables false
open Go.RowKit Go.Maps Go.Sort
theorem ba_ne {s t : ByteArray} (h : ¬ s = t) : (s.toList == t.toList) = false := by
  rw [ByteArray.toList_eq, ByteArray.toList_eq]
  simp only [beq_eq_false_iff_ne, ne_eq]
  exact fun e => h (ByteArray.ext (Array.toList_inj.1 e))
def toZ (s : ByteArray) : List (ByteArray × Int) → Int → Int
  | [], d => d
  | z :: Z, d => toZ s Z (if z.1 = s then z.2 else d)
def bytesL (o : OpL) (h : Int) (Z : List (ByteArray × Int)) : List Int :=
  if o.kind = 0 then o.b else if o.kind = 2 then o.b ++ [toZ o.name Z 0 % 256, toZ o.name Z 0 / 256 % 256]
  else if o.kind = 3 then [codeL o.b, (toZ o.name Z 0 - h - 2) % 256] else if o.kind = 4 then waitL o.num h else []
/-- names and their addresses, in two rows -/
structure ZsAt (w : World) (An At : Option Addr) (Z : List (ByteArray × Int)) : Prop where
  names : Cells w An (Z.map fun z => .string z.1)
  at_ : Ints w At .i64 (Z.map (·.2))
theorem ZsAt.below {w w' : World} {An At : Option Addr} {Z : List (ByteArray × Int)} (h : ZsAt w An At Z) (hb : Below w.heap.size w w') : ZsAt w' An At Z := ⟨h.names.below hb, h.at_.below hb⟩
def ZOk (Z : List (ByteArray × Int)) : Prop := ∀ z ∈ Z, 0 ≤ z.2 ∧ z.2 ≤ 65536
theorem bytes_ret {w u : World} {l : List Int} {A : Option Addr} {n c : Nat} (hi : Ints u A .u8 l) (hn : l.length = n) (hnil : A = none → n = 0 ∧ c = 0) (hb : Below w.heap.size w u) : BytesR l w (.returned (.slice A n c)) u := ⟨A, n, c, rfl, hi, hn, hnil, hb⟩
set_option maxRecDepth 100000 in
set_option maxHeartbeats 16000000 in
theorem bytes28 (o : OpL) (A : Option Addr) (c : Nat) (h : Int) (An At : Option Addr) (nz cn ct : Nat) (Z : List (ByteArray × Int)) (w : World) (ho : OpOk o) (hl : Ints w A .u8 o.b) (hnil : A = none → o.b.length = 0 ∧ c = 0) (hm : o.b.length ≤ 100000) (h0 : 0 ≤ h) (h1 : h ≤ 65536) (hmay : o.kind = 4 → MayN o.num)
    (hZ : ZsAt w An At Z) (hzn : Z.length = nz) (hzo : ZOk Z) (hz1 : nz ≤ 1000) :
    Calls Try.prog 52 #[opV o A c, .int .i64 h, .slice An nz cn, .slice At nz ct] w (BytesR (bytesL o h Z) w) := by
  obtain ⟨k, m, s, l⟩ := o
  simp only [opV, bytesL] at *
  have hb := below_alloc1 w (.cells #[.int .i64 k, .int .i64 m, .string s, .slice A l.length c] 72)
  have B0 : Blk (w.alloc (.cells #[.int .i64 k, .int .i64 m, .string s, .slice A l.length c] 72)) w.heap.size 72 [.int .i64 k, .int .i64 m, .string s, .slice A l.length c] := Blk.new w _ _
  obtain ⟨w1, hw1⟩ : ∃ u, u = w.alloc (.cells #[.int .i64 k, .int .i64 m, .string s, .slice A l.length c] 72) := ⟨_, rfl⟩
  rw [← hw1] at hb B0
  have HB := Lib.hid hb
  have HL := Lib.hid (hl.below hb)
  have HW := Lib.hid hw1
  have HO := Lib.hid ho
  have HN := Lib.hid hnil
  have HMAY := Lib.hid hmay
  have HZ := Lib.hid (hZ.below hb)
  have HZN := Lib.hid hzn
  have HZO := Lib.hid hzo
  have HB0 := Lib.hid B0
  have hsz := hb.size
  have b0 : w1.cell? ⟨w.heap.size, 0, none⟩ = some (.int .i64 k) := B0.cell 0
  have b1 : w1.cell? ⟨w.heap.size, 1, none⟩ = some (.int .i64 m) := B0.cell 1
  have b3 : w1.cell? ⟨w.heap.size, 3, none⟩ = some (.slice A l.length c) := B0.cell 3
  clear hl ho hnil hb B0 hw1 hmay hZ hzn hzo
  go_enter Try.func52, Try.ntmps52
  go_upto_region 1 with fail
  rw [← HW.out]
  clear HW
  by_cases k0 : k = 0
  · subst k0
    go_wp2_with fail
    go_ret
    exact bytes_ret HL.out rfl HN.out HB.out
  · by_cases k4 : k = 4
    · subst k4
      go_wp2_with (first
        | (go_at_call 61; refine (wait28 m h (HMAY.out rfl) h0 (by omega) w1).mono ?_; rintro e w2 ⟨A2, n2, c2, rfl, hi2, hn2, hnil2, hb2⟩; have HI2 := Lib.hid hi2; have HN2 := Lib.hid hn2; have HNL2 := Lib.hid hnil2; have HB2 := Lib.hid (HB.out.trans (hb2.mono hsz)); clear hi2 hn2 hnil2 hb2))
      go_ret
      exact bytes_ret HI2.out HN2.out HNL2.out HB2.out
    · by_cases k23 : k = 2 ∨ k = 3
      · by_cases k2 : k = 2
        · subst k2
          go_wp2_with fail
          go_loopw [10, 11] (fun tv iv u => ∃ (j : Nat) (t : Int), iv = .int .i64 j ∧ tv = .int .i64 t ∧ j ≤ nz ∧ 0 ≤ t ∧ t ≤ 65536 ∧ Hid (toZ s (Z.drop j) t = toZ s Z 0) ∧ Hid (Below w1.heap.size w1 u)) (fun _ iv _ => nz - (intOf iv).toNat)
          case atStart => exact ⟨0, 0, rfl, rfl, Nat.zero_le _, by omega, by omega, Lib.hid rfl, Lib.hid (Below.refl _ _)⟩
          case round =>
            obtain ⟨j, t, rfl, rfl, hj, t0, t1, HT, HBu⟩ := hrel
            have Bu := Lib.hid (HB0.out.below_ HBu.out)
            have q0 : wr.cell? ⟨w.heap.size, 0, none⟩ = some (.int .i64 2) := Bu.out.cell 0
            have q2 : wr.cell? ⟨w.heap.size, 2, none⟩ = some (.string s) := Bu.out.cell 2
            have q3 : wr.cell? ⟨w.heap.size, 3, none⟩ = some (.slice A l.length c) := Bu.out.cell 3
            clear b0 b1 b3
            by_cases hlt : j < nz
            · have hlti : (j : Int) < nz := by omega
              obtain ⟨z, hz⟩ : ∃ z, Z[j]? = some z := ⟨_, List.getElem?_eq_getElem (by have := HZN.out; omega)⟩
              obtain ⟨an, rfl, cn1⟩ := (HZ.out.names.below HBu.out) j (.string z.1) (by rw [List.getElem?_map, hz]; rfl)
              obtain ⟨at_, rfl, ct1⟩ := (HZ.out.at_.below HBu.out) j (.int .i64 z.2) (by rw [List.getElem?_map, List.getElem?_map, hz]; rfl)
              have hzb := HZO.out z (List.mem_of_getElem? hz)
              obtain ⟨z1, z2⟩ := z
              obtain ⟨zb0, zb1⟩ := hzb
              simp only [] at cn1 ct1 zb0 zb1
              have HDR : Hid (toZ s (Z.drop (j + 1)) (if z1 = s then z2 else t) = toZ s Z 0) := Lib.hid (by
                rw [← HT.out]
                have hjl : j < Z.length := by have := HZN.out; omega
                rw [List.drop_eq_getElem_cons hjl, (List.getElem?_eq_some_iff.1 hz).2]
                rfl)
              clear hz
              by_cases he : z1 = s
              · have HDR2 : Hid (toZ s (Z.drop (j + 1)) z2 = toZ s Z 0) := Lib.hid (by have := HDR.out; rw [if_pos he] at this; exact this)
                rw [he] at cn1
                clear he HDR
                go_wp2_with fail
                go_quiet (fail)
                go_wp2_with fail
                go_roundw
                case rel => exact ⟨j + 1, z2, by go_num, rfl, by omega, zb0, zb1, HDR2, Lib.hid (Below_drewN HBu.out _)⟩
                case measure => simp [intOf]; omega
              · have HDR2 : Hid (toZ s (Z.drop (j + 1)) t = toZ s Z 0) := Lib.hid (by have := HDR.out; rw [if_neg he] at this; exact this)
                have hne := ba_ne he
                go_wp2_with fail
                go_quiet (fail)
                go_wp2_with fail
                go_roundw
                case rel => exact ⟨j + 1, t, by go_num, rfl, by omega, t0, t1, HDR2, Lib.hid (Below_drewN HBu.out _)⟩
                case measure => simp [intOf]; omega
            · obtain rfl : j = nz := by omega
              have HTE : Hid (t = toZ s Z 0) := Lib.hid (by
                have := HT.out
                rw [List.drop_eq_nil_of_le (by have := HZN.out; omega)] at this
                exact this)
              have HLu := Lib.hid (HL.out.below HBu.out)
              have HBw : Hid (Below w.heap.size w wr) := Lib.hid (HB.out.trans (HBu.out.mono hsz))
              have hszu := HBw.out.size
              have tm : Int.tmod t 256 = t % 256 := by rw [Int.tmod_eq_emod_of_nonneg (by omega)]
              have td : Int.tdiv t 256 = t / 256 := by rw [Int.tdiv_eq_ediv_of_nonneg (by omega)]
              have u1 : IntKind.u8.wrap (t % 256) = t % 256 := by rw [IntKind.wrap_u8]; omega
              have u2 : IntKind.u8.wrap (t / 256) = t / 256 % 256 := by rw [IntKind.wrap_u8]
              have u3 : IntKind.i64.wrap (t / 256) = t / 256 := by rw [IntKind.wrap_i64]; omega
              go_wp2_with (first
                | (at_builtin; refine wpList_appAny _ rfl (.tmp 41) (.tmp 43) 47 rfl w.heap.size 5 (.int .u8 0) 1 Try.underlying47 infoU8 (by decide) (.slice none 0 0) 0 [] rfl (World.ownsRow_nil _ _ _ _) A _ c (l.map (.int .u8 ·)) rfl (by rw [List.length_map]) HLu.out HN.out (by intro u hu; obtain ⟨x, _, rfl⟩ := List.mem_map.1 hu; rfl) (by unfold maxLen; omega) (by omega) hszu ?_; intro v3 w3 hown hg; have HB3 := Lib.hid (Below_own HBw.out (World.ownsRow_nil wr w.heap.size 5 1) hg (Nat.le_refl _) hszu); have HO3 := Lib.hid hown; have hsz3 := HB3.out.size; clear hown hg)
                | (at_builtin; refine wpList_appL _ rfl (.tmp 44) (.tmp 51) 47 rfl w.heap.size 5 (.int .u8 0) 1 1 Try.underlying47 infoU8 rfl (by decide) _ (0 + l.length) _ rfl HO3.out #[.int .u8 (t % 256), .int .u8 (t / 256 % 256)] 2 rfl rfl (by simp [Value.oneCell']) (by decide) (by omega) (by decide) hsz3 ?_; intro g4 c4 w4 hown hg _; have HB4 := Lib.hid (Below_own HB3.out HO3.out hg (Nat.le_refl _) hsz3); have HO4 := Lib.hid hown; clear hown hg))
              go_ret
              refine wait_end (l := l ++ [t % 256, t / 256 % 256]) (by simpa using HO4.out) HB4.out ?_
              rw [← HTE.out]
        · obtain rfl : k = 3 := by omega
          go_wp2_with fail
          go_loopw [10, 11] (fun tv iv u => ∃ (j : Nat) (t : Int), iv = .int .i64 j ∧ tv = .int .i64 t ∧ j ≤ nz ∧ 0 ≤ t ∧ t ≤ 65536 ∧ Hid (toZ s (Z.drop j) t = toZ s Z 0) ∧ Hid (Below w1.heap.size w1 u)) (fun _ iv _ => nz - (intOf iv).toNat)
          case atStart => exact ⟨0, 0, rfl, rfl, Nat.zero_le _, by omega, by omega, Lib.hid rfl, Lib.hid (Below.refl _ _)⟩
          case round =>
            obtain ⟨j, t, rfl, rfl, hj, t0, t1, HT, HBu⟩ := hrel
            have Bu := Lib.hid (HB0.out.below_ HBu.out)
            have q0 : wr.cell? ⟨w.heap.size, 0, none⟩ = some (.int .i64 3) := Bu.out.cell 0
            have q2 : wr.cell? ⟨w.heap.size, 2, none⟩ = some (.string s) := Bu.out.cell 2
            have q3 : wr.cell? ⟨w.heap.size, 3, none⟩ = some (.slice A l.length c) := Bu.out.cell 3
            clear b0 b1 b3
            by_cases hlt : j < nz
            · have hlti : (j : Int) < nz := by omega
              obtain ⟨z, hz⟩ : ∃ z, Z[j]? = some z := ⟨_, List.getElem?_eq_getElem (by have := HZN.out; omega)⟩
              obtain ⟨an, rfl, cn1⟩ := (HZ.out.names.below HBu.out) j (.string z.1) (by rw [List.getElem?_map, hz]; rfl)
              obtain ⟨at_, rfl, ct1⟩ := (HZ.out.at_.below HBu.out) j (.int .i64 z.2) (by rw [List.getElem?_map, List.getElem?_map, hz]; rfl)
              have hzb := HZO.out z (List.mem_of_getElem? hz)
              obtain ⟨z1, z2⟩ := z
              obtain ⟨zb0, zb1⟩ := hzb
              simp only [] at cn1 ct1 zb0 zb1
              have HDR : Hid (toZ s (Z.drop (j + 1)) (if z1 = s then z2 else t) = toZ s Z 0) := Lib.hid (by
                rw [← HT.out]
                have hjl : j < Z.length := by have := HZN.out; omega
                rw [List.drop_eq_getElem_cons hjl, (List.getElem?_eq_some_iff.1 hz).2]
                rfl)
              clear hz
              by_cases he : z1 = s
              · have HDR2 : Hid (toZ s (Z.drop (j + 1)) z2 = toZ s Z 0) := Lib.hid (by have := HDR.out; rw [if_pos he] at this; exact this)
                rw [he] at cn1
                clear he HDR
                go_wp2_with fail
                go_quiet (fail)
                go_wp2_with fail
                go_roundw
                case rel => exact ⟨j + 1, z2, by go_num, rfl, by omega, zb0, zb1, HDR2, Lib.hid (Below_drewN HBu.out _)⟩
                case measure => simp [intOf]; omega
              · have HDR2 : Hid (toZ s (Z.drop (j + 1)) t = toZ s Z 0) := Lib.hid (by have := HDR.out; rw [if_neg he] at this; exact this)
                have hne := ba_ne he
                go_wp2_with fail
                go_quiet (fail)
                go_wp2_with fail
                go_roundw
                case rel => exact ⟨j + 1, t, by go_num, rfl, by omega, t0, t1, HDR2, Lib.hid (Below_drewN HBu.out _)⟩
                case measure => simp [intOf]; omega
            · obtain rfl : j = nz := by omega
              have HTE : Hid (t = toZ s Z 0) := Lib.hid (by
                have := HT.out
                rw [List.drop_eq_nil_of_le (by have := HZN.out; omega)] at this
                exact this)
              have HLu := Lib.hid (HL.out.below HBu.out)
              have HBw : Hid (Below w.heap.size w wr) := Lib.hid (HB.out.trans (HBu.out.mono hsz))
              have hszu := HBw.out.size
              have w1' : IntKind.i64.wrap (t - h) = t - h := by rw [IntKind.wrap_i64]; omega
              have w2' : IntKind.i64.wrap (t - h - 2) = t - h - 2 := by rw [IntKind.wrap_i64]; omega
              have w3' : IntKind.i64.wrap (t - h - 2 + 65536) = t - h - 2 + 65536 := by rw [IntKind.wrap_i64]; omega
              obtain ⟨y, hy⟩ : ∃ y, Int.tmod (t - h - 2 + 65536) 256 = y := ⟨_, rfl⟩
              have hyy : y % 256 = (t - h - 2) % 256 := by
                rw [← hy]
                have := Int.tmod_add_tdiv_mul (t - h - 2 + 65536) 256
                omega
              have u1 : IntKind.u8.wrap y = (t - h - 2) % 256 := by rw [IntKind.wrap_u8, hyy]
              have q1 : wr.cell? ⟨w.heap.size, 1, none⟩ = some (.int .i64 m) := Bu.out.cell 1
              clear hyy
              go_wp2_with (first
                | (go_at_call 49; refine (code28 3 m s A l.length c l wr HLu.out rfl).mono ?_; rintro e w3 ⟨rfl, hb3⟩; have HB3 := Lib.hid (HBw.out.trans (hb3.mono hszu)); have hsz3 := HB3.out.size; clear hb3)
                | (at_builtin; refine wpList_appL w3 rfl (.tmp 53) (.tmp 63) 47 rfl w.heap.size 5 (.int .u8 0) 1 1 Try.underlying47 infoU8 rfl (by decide) (.slice none 0 0) 0 [] rfl (World.ownsRow_nil _ _ _ _) #[.int .u8 (codeL l), .int .u8 ((t - h - 2) % 256)] 2 rfl rfl (by simp [Value.oneCell']) (by decide) (by omega) (by decide) hsz3 ?_; intro g4 c4 w4 hown hg _; have HB4 := Lib.hid (Below_own HB3.out (World.ownsRow_nil w3 w.heap.size 5 1) hg (Nat.le_refl _) hsz3); have HO4 := Lib.hid hown; clear hown hg))
              go_ret
              refine wait_end (l := [codeL l, (t - h - 2) % 256]) (by simpa using HO4.out) HB4.out ?_
              rw [← HTE.out]
      · have k2 : ¬ k = 2 := by omega
        have k3 : ¬ k = 3 := by omega
        go_wp2_with fail
        go_ret
        exact bytes_ret (A := none) (c := 0) (fun i v hi => by simp at hi) rfl (fun _ => ⟨rfl, rfl⟩) HB.out
end Go.Proofs.Ytoejmjhfecppcaa
