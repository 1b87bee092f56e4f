/- The law HuffBack, all cases. -/
import Derived.Test.YtoejmjhfecppcaaHuffV
namespace Go.Proofs.Ytoejmjhfecppcaa
open Go.RowKit
set_option maxRecDepth 100000 in
set_option maxHeartbeats 4000000 in
theorem huffBack_walk (A : Option Addr) (n c : Nat) (l : List Int) (A2 : Option Addr) (m c2 : Nat) (syms : List Int) (w : World) (hl : Ints w A .i64 l) (hn : l.length = n) (hn2 : n ≤ 9223372036854775807)
    (hb : Ints w A2 .i64 syms) (hm : syms.length = m) (hm2 : m ≤ 9223372036854775807) :
    Calls Try.prog 7 #[.slice A n c, .slice A2 m c2] w (True_ w) := by
  by_cases h1 : 320 < n
  · clear hl hn hb hm
    go_enter Try.func7, Try.ntmps7
    go_wp2_with fail
    refine (lives14 _).mono ?_
    rintro e w2 ⟨rfl, hB⟩
    go_wp2_with fail
    go_ret
    exact ⟨rfl, hB⟩
  · by_cases h2 : 60 < m
    · clear hl hn hb hm
      go_enter Try.func7, Try.ntmps7
      go_wp2_with fail
      refine (lives14 _).mono ?_
      rintro e w2 ⟨rfl, hB⟩
      go_wp2_with fail
      go_ret
      exact ⟨rfl, hB⟩
    · by_cases he : Hf.err l = 0
      · exact huffBack_ok A n c l A2 m c2 syms w hl hn hb hm (by omega) (by omega) he
      · have hs := sound_any A n c l w hl hn hn2
        obtain ⟨E, hE⟩ : ∃ E, E = Hf.err l := ⟨_, rfl⟩
        rw [← hE] at hs he
        have hE2 : (E != 0) = true := by simpa using he
        have HS := Lib.hid hs; clear hs hE he hl hn hb hm
        go_enter Try.func7, Try.ntmps7
        go_wp2_with fail
        refine HS.out.mono ?_
        rintro e w1 ⟨rfl, rfl⟩
        go_wp2_with fail
        refine (lives14 _).mono ?_
        rintro e w2 ⟨rfl, hB⟩
        go_wp2_with fail
        go_ret
        exact ⟨rfl, hB⟩
end Go.Proofs.Ytoejmjhfecppcaa
