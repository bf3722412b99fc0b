/-
  PortBack: the walk.
-/
import Derived.Test.YtgonakpoflacoaaBackA
import Derived.Test.YtgonakpoflacoaaBackB
import Derived.Test.YtgonakpoflacoaaBackC
set_option linter.unusedVariables false
set_option linter.unusedSimpArgs false
namespace Go.Proofs.Ytgonakpoflacoaa
open Go.RowKit

set_option maxHeartbeats 8000000 in
set_option maxRecDepth 100000 in
theorem back_walk (a b : Ad) (f tp fl id : Nat) (d : ByteArray) (w : World) (ha : a.Ok) (hb : b.Ok) (hf : f < 65536) (ht : tp < 65536) (hfl : fl < 256) (hid : id < 65536) :
    Calls Try.prog 6 #[.agg #[.bool a.v6, .int .u64 a.hi, .int .u64 a.lo, .int .u16 f], .agg #[.bool b.v6, .int .u64 b.hi, .int .u64 b.lo, .int .u16 tp], .int .u8 fl, .int .u16 id, .string d] w fun e w' => e = .returned (.bool true) ∧ Below w.heap.size w w' := by
  obtain ⟨v1, h1, l1⟩ := a
  obtain ⟨v2, h2, l2⟩ := b
  by_cases hs : d.size ≤ 8192
  · by_cases qU : mayE ⟨⟨v1, h1, l1⟩, ⟨v2, h2, l2⟩, 17, 64, udpD f tp d⟩ = 0
    · by_cases qT : mayE ⟨⟨v1, h1, l1⟩, ⟨v2, h2, l2⟩, 6, 64, tcpD f tp fl d⟩ = 0
      · exact back_ut v1 h1 l1 v2 h2 l2 f tp fl id d w ha hb hf ht hfl hid hs qU qT
      · exact back_un v1 h1 l1 v2 h2 l2 f tp fl id d w ha hb hf ht hfl hid hs qU qT
    · exact back_n v1 h1 l1 v2 h2 l2 f tp fl id d w ha hb hf ht hfl hid hs qU
  · have HK0 := Lib.hid (KL.nil w)
    have hz : (8192 : Int) < (d.size : Int) := by omega
    clear ha hb hf ht hfl hid hs
    go_enter Try.func6, Try.ntmps6
    go_upto_region 2 with (fail)
    obtain ⟨g2, hgg2⟩ : ∃ g, g = w.heap.size + 1 := ⟨_, rfl⟩
    obtain ⟨g1, hgg1⟩ : ∃ g, g = w.heap.size := ⟨_, rfl⟩
    obtain ⟨ww1, hv1⟩ : ∃ x, x = (World.alloc (World.alloc w (.cells #[.bool v1, .int .u64 h1, .int .u64 l1, .int .u16 f] 27)) (.cells #[.bool v2, .int .u64 h2, .int .u64 l2, .int .u16 tp] 27)) := ⟨_, rfl⟩
    have HK1 : Hid (KL [(g2, .cells #[.bool v2, .int .u64 h2, .int .u64 l2, .int .u16 tp] 27), (g1, .cells #[.bool v1, .int .u64 h1, .int .u64 l1, .int .u16 f] 27)] w ww1) := by rw [hv1, hgg1, hgg2]; exact Lib.hid (HK0.out.made2 (.cells #[.bool v1, .int .u64 h1, .int .u64 l1, .int .u16 f] 27) (.cells #[.bool v2, .int .u64 h2, .int .u64 l2, .int .u16 tp] 27))
    rw [← hv1]
    rw [← hgg2]
    rw [← hgg1]
    clear hv1 hgg1 hgg2
    go_wp2_with fail
    refine (works_any _).mono ?_
    rintro e ww2 ⟨rfl, B1⟩
    simp only []
    have HK2 := Lib.hid (HK1.out.call B1)
    clear B1
    go_wp2_with fail
    go_ret
    exact ⟨rfl, HK2.out.2⟩

end Go.Proofs.Ytgonakpoflacoaa
