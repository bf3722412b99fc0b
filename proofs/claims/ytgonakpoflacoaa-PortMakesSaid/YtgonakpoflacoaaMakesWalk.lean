/-
  PortMakes: the walk.
-/
import Derived.Test.YtgonakpoflacoaaWorks
import Derived.Test.YtgonakpoflacoaaRefTcp
import Derived.Test.YtgonakpoflacoaaRefEcho
import Derived.Outline
set_option linter.unusedVariables false
set_option linter.unusedSimpArgs false
namespace Go.Proofs.Ytgonakpoflacoaa
open Go.RowKit

set_option maxHeartbeats 16000000 in
set_option maxRecDepth 100000 in
theorem makes_walk (a b : Ad) (f tp fl id : Nat) (d : ByteArray) (w : World) (ha : a.Ok) (hb : b.Ok) (hf : f < 65536) (ht : tp < 65536) (hfl : fl < 256) (hid : id < 65536) :
    Calls Try.prog 3 #[.agg #[.bool a.v6, .int .u64 a.hi, .int .u64 a.lo, .int .u16 f], .agg #[.bool b.v6, .int .u64 b.hi, .int .u64 b.lo, .int .u16 tp], .int .u8 fl, .int .u16 id, .string d] w fun e w' => e = .returned (.bool true) ∧ Below w.heap.size w w' := by
  obtain ⟨v1, h1, l1⟩ := a
  obtain ⟨v2, h2, l2⟩ := b
  have HK0 := Lib.hid (KL.nil w)
  by_cases hs : d.size ≤ 8192
  · have hz : ¬ (8192 : Int) < (d.size : Int) := by omega
    obtain ⟨r, hr⟩ : ∃ r, r = (bits BinOp.and IntKind.u8 (fl : Int) 1 == 1) := ⟨_, rfl⟩
    have HRR := Lib.hid hr
    clear hr
    obtain ⟨U, eU⟩ : ∃ x, x = madeP ⟨⟨v1, h1, l1⟩, ⟨v2, h2, l2⟩, 17, 64, udpD f tp d⟩ 6 := ⟨_, rfl⟩
    obtain ⟨EU, eeU⟩ : ∃ x, x = mayE ⟨⟨v1, h1, l1⟩, ⟨v2, h2, l2⟩, 17, 64, udpD f tp d⟩ := ⟨_, rfl⟩
    obtain ⟨T, eT⟩ : ∃ x, x = madeP ⟨⟨v1, h1, l1⟩, ⟨v2, h2, l2⟩, 6, 64, tcpD f tp fl d⟩ 16 := ⟨_, rfl⟩
    obtain ⟨ET, eeT⟩ : ∃ x, x = mayE ⟨⟨v1, h1, l1⟩, ⟨v2, h2, l2⟩, 6, 64, tcpD f tp fl d⟩ := ⟨_, rfl⟩
    obtain ⟨X, eX⟩ : ∃ x, x = madeP ⟨⟨v1, h1, l1⟩, ⟨v2, h2, l2⟩, echoP v1, 64, echoD (echoK v1 r) id d⟩ 2 := ⟨_, rfl⟩
    obtain ⟨EX, eeX⟩ : ∃ x, x = mayE ⟨⟨v1, h1, l1⟩, ⟨v2, h2, l2⟩, echoP v1, 64, echoD (echoK v1 r) id d⟩ := ⟨_, rfl⟩
    have C8 := Lib.hid (show ∀ u, Calls Try.prog 8 #[.agg #[.bool v1, .int .u64 h1, .int .u64 l1, .int .u16 f], .agg #[.bool v2, .int .u64 h2, .int .u64 l2, .int .u16 tp], .string d] u fun e w' => e = .returned (.tuple #[.agg #[.bool U.src.v6, .int .u64 U.src.hi, .int .u64 U.src.lo, .bool U.dst.v6, .int .u64 U.dst.hi, .int .u64 U.dst.lo, .int .u8 U.proto, .int .u8 U.ttl, .string U.data], .int .i64 EU]) ∧ Below u.heap.size u w' from fun u => by
      have h := udpMake_any ⟨v1, h1, l1⟩ ⟨v2, h2, l2⟩ f tp d u ha hb hf ht (by omega)
      rw [← eU, ← eeU] at h
      exact h)
    have C9 := Lib.hid (show ∀ u, Calls Try.prog 9 #[.agg #[.bool v1, .int .u64 h1, .int .u64 l1, .int .u16 f], .agg #[.bool v2, .int .u64 h2, .int .u64 l2, .int .u16 tp], .string d] u fun e w' => e = .returned (.tuple #[.agg #[.bool U.src.v6, .int .u64 U.src.hi, .int .u64 U.src.lo, .bool U.dst.v6, .int .u64 U.dst.hi, .int .u64 U.dst.lo, .int .u8 U.proto, .int .u8 U.ttl, .string U.data], .int .i64 EU]) ∧ Below u.heap.size u w' from fun u => by
      have h := refUdp_any ⟨v1, h1, l1⟩ ⟨v2, h2, l2⟩ f tp d u ha hb hf ht (by omega)
      rw [← eU, ← eeU] at h
      exact h)
    have C10 := Lib.hid (show ∀ u, Calls Try.prog 10 #[.agg #[.bool v1, .int .u64 h1, .int .u64 l1, .int .u16 f], .agg #[.bool v2, .int .u64 h2, .int .u64 l2, .int .u16 tp], .int .u8 fl, .string d] u fun e w' => e = .returned (.tuple #[.agg #[.bool T.src.v6, .int .u64 T.src.hi, .int .u64 T.src.lo, .bool T.dst.v6, .int .u64 T.dst.hi, .int .u64 T.dst.lo, .int .u8 T.proto, .int .u8 T.ttl, .string T.data], .int .i64 ET]) ∧ Below u.heap.size u w' from fun u => by
      have h := tcpMake_any ⟨v1, h1, l1⟩ ⟨v2, h2, l2⟩ f tp fl d u ha hb hf ht hfl (by omega)
      rw [← eT, ← eeT] at h
      exact h)
    have C11 := Lib.hid (show ∀ u, Calls Try.prog 11 #[.agg #[.bool v1, .int .u64 h1, .int .u64 l1, .int .u16 f], .agg #[.bool v2, .int .u64 h2, .int .u64 l2, .int .u16 tp], .int .u8 fl, .string d] u fun e w' => e = .returned (.tuple #[.agg #[.bool T.src.v6, .int .u64 T.src.hi, .int .u64 T.src.lo, .bool T.dst.v6, .int .u64 T.dst.hi, .int .u64 T.dst.lo, .int .u8 T.proto, .int .u8 T.ttl, .string T.data], .int .i64 ET]) ∧ Below u.heap.size u w' from fun u => by
      have h := refTcp_any ⟨v1, h1, l1⟩ ⟨v2, h2, l2⟩ f tp fl d u ha hb hf ht hfl (by omega)
      rw [← eT, ← eeT] at h
      exact h)
    have C12 := Lib.hid (show ∀ u, Calls Try.prog 12 #[.agg #[.bool v1, .int .u64 h1, .int .u64 l1], .agg #[.bool v2, .int .u64 h2, .int .u64 l2], .int .u16 id, .bool r, .string d] u fun e w' => e = .returned (.tuple #[.agg #[.bool X.src.v6, .int .u64 X.src.hi, .int .u64 X.src.lo, .bool X.dst.v6, .int .u64 X.dst.hi, .int .u64 X.dst.lo, .int .u8 X.proto, .int .u8 X.ttl, .string X.data], .int .i64 EX]) ∧ Below u.heap.size u w' from fun u => by
      have h := echoMake_any ⟨v1, h1, l1⟩ ⟨v2, h2, l2⟩ id r d u ha hb hid (by omega)
      rw [← eX, ← eeX] at h
      exact h)
    have C13 := Lib.hid (show ∀ u, Calls Try.prog 13 #[.agg #[.bool v1, .int .u64 h1, .int .u64 l1], .agg #[.bool v2, .int .u64 h2, .int .u64 l2], .int .u16 id, .bool r, .string d] u fun e w' => e = .returned (.tuple #[.agg #[.bool X.src.v6, .int .u64 X.src.hi, .int .u64 X.src.lo, .bool X.dst.v6, .int .u64 X.dst.hi, .int .u64 X.dst.lo, .int .u8 X.proto, .int .u8 X.ttl, .string X.data], .int .i64 EX]) ∧ Below u.heap.size u w' from fun u => by
      have h := refEcho_any ⟨v1, h1, l1⟩ ⟨v2, h2, l2⟩ id r d u ha hb hid (by omega)
      rw [← eX, ← eeX] at h
      exact h)
    clear eU eeU eT eeT eX eeX
    clear ha hb hf ht hfl hid hs
    go_enter Try.func3, Try.ntmps3
    go_upto_region 3 with (fail)
    obtain ⟨g2, hgg2⟩ : ∃ g, g = w.heap.size + 1 := ⟨_, rfl⟩
    obtain ⟨g1, hgg1⟩ : ∃ g, g = w.heap.size := ⟨_, rfl⟩
    obtain ⟨ww1, hv1⟩ : ∃ x, x = (World.alloc (World.alloc w (.cells #[.bool v1, .int .u64 h1, .int .u64 l1, .int .u16 f] 27)) (.cells #[.bool v2, .int .u64 h2, .int .u64 l2, .int .u16 tp] 27)) := ⟨_, rfl⟩
    have HK1 : Hid (KL [(g2, .cells #[.bool v2, .int .u64 h2, .int .u64 l2, .int .u16 tp] 27), (g1, .cells #[.bool v1, .int .u64 h1, .int .u64 l1, .int .u16 f] 27)] w ww1) := by rw [hv1, hgg1, hgg2]; exact Lib.hid (HK0.out.made2 (.cells #[.bool v1, .int .u64 h1, .int .u64 l1, .int .u16 f] 27) (.cells #[.bool v2, .int .u64 h2, .int .u64 l2, .int .u16 tp] 27))
    rw [← hv1]
    rw [← hgg2]
    rw [← hgg1]
    clear hv1 hgg1 hgg2
    obtain ⟨a0, a1, a2, a3⟩ := epCells (HK1.out.tail.head)
    obtain ⟨b0, b1, b2, b3⟩ := epCells (HK1.out.head)
    go_wp2_with fail
    clear a0 a1 a2 a3 b0 b1 b2 b3
    refine (C8.out _).mono ?_
    rintro e ww2 ⟨rfl, B1⟩
    simp only []
    have HK2 := Lib.hid (HK1.out.call B1)
    clear B1
    go_upto_region 4 with (fail)
    obtain ⟨g3, hgg3⟩ : ∃ g, g = ww2.heap.size := ⟨_, rfl⟩
    obtain ⟨ww3, hv3⟩ : ∃ x, x = (World.alloc ww2 (.cells #[.bool U.src.v6, .int .u64 U.src.hi, .int .u64 U.src.lo, .bool U.dst.v6, .int .u64 U.dst.hi, .int .u64 U.dst.lo, .int .u8 U.proto, .int .u8 U.ttl, .string U.data] 30)) := ⟨_, rfl⟩
    have HK3 : Hid (KL [(g3, .cells #[.bool U.src.v6, .int .u64 U.src.hi, .int .u64 U.src.lo, .bool U.dst.v6, .int .u64 U.dst.hi, .int .u64 U.dst.lo, .int .u8 U.proto, .int .u8 U.ttl, .string U.data] 30), (g2, .cells #[.bool v2, .int .u64 h2, .int .u64 l2, .int .u16 tp] 27), (g1, .cells #[.bool v1, .int .u64 h1, .int .u64 l1, .int .u16 f] 27)] w ww3) := by rw [hv3, hgg3]; exact Lib.hid (HK2.out.made (.cells #[.bool U.src.v6, .int .u64 U.src.hi, .int .u64 U.src.lo, .bool U.dst.v6, .int .u64 U.dst.hi, .int .u64 U.dst.lo, .int .u8 U.proto, .int .u8 U.ttl, .string U.data] 30))
    rw [← hv3]
    rw [← hgg3]
    clear hv3 hgg3
    obtain ⟨a0, a1, a2, a3⟩ := epCells (HK3.out.tail.tail.head)
    obtain ⟨b0, b1, b2, b3⟩ := epCells (HK3.out.tail.head)
    go_wp2_with fail
    clear a0 a1 a2 a3 b0 b1 b2 b3
    refine (C9.out _).mono ?_
    rintro e ww4 ⟨rfl, B1⟩
    simp only []
    have HK4 := Lib.hid (HK3.out.call B1)
    clear B1
    go_upto_region 5 with (fail)
    obtain ⟨g4, hgg4⟩ : ∃ g, g = ww4.heap.size := ⟨_, rfl⟩
    obtain ⟨ww5, hv5⟩ : ∃ x, x = (World.alloc ww4 (.cells #[.bool U.src.v6, .int .u64 U.src.hi, .int .u64 U.src.lo, .bool U.dst.v6, .int .u64 U.dst.hi, .int .u64 U.dst.lo, .int .u8 U.proto, .int .u8 U.ttl, .string U.data] 30)) := ⟨_, rfl⟩
    have HK5 : Hid (KL [(g4, .cells #[.bool U.src.v6, .int .u64 U.src.hi, .int .u64 U.src.lo, .bool U.dst.v6, .int .u64 U.dst.hi, .int .u64 U.dst.lo, .int .u8 U.proto, .int .u8 U.ttl, .string U.data] 30), (g3, .cells #[.bool U.src.v6, .int .u64 U.src.hi, .int .u64 U.src.lo, .bool U.dst.v6, .int .u64 U.dst.hi, .int .u64 U.dst.lo, .int .u8 U.proto, .int .u8 U.ttl, .string U.data] 30), (g2, .cells #[.bool v2, .int .u64 h2, .int .u64 l2, .int .u16 tp] 27), (g1, .cells #[.bool v1, .int .u64 h1, .int .u64 l1, .int .u16 f] 27)] w ww5) := by rw [hv5, hgg4]; exact Lib.hid (HK4.out.made (.cells #[.bool U.src.v6, .int .u64 U.src.hi, .int .u64 U.src.lo, .bool U.dst.v6, .int .u64 U.dst.hi, .int .u64 U.dst.lo, .int .u8 U.proto, .int .u8 U.ttl, .string U.data] 30))
    rw [← hv5]
    rw [← hgg4]
    clear hv5 hgg4
    obtain ⟨a0, a1, a2, a3⟩ := epCells (HK5.out.tail.tail.tail.head)
    obtain ⟨b0, b1, b2, b3⟩ := epCells (HK5.out.tail.tail.head)
    go_wp2_with fail
    clear a0 a1 a2 a3 b0 b1 b2 b3
    refine (C10.out _).mono ?_
    rintro e ww6 ⟨rfl, B1⟩
    simp only []
    have HK6 := Lib.hid (HK5.out.call B1)
    clear B1
    go_upto_region 6 with (fail)
    obtain ⟨g5, hgg5⟩ : ∃ g, g = ww6.heap.size := ⟨_, rfl⟩
    obtain ⟨ww7, hv7⟩ : ∃ x, x = (World.alloc ww6 (.cells #[.bool T.src.v6, .int .u64 T.src.hi, .int .u64 T.src.lo, .bool T.dst.v6, .int .u64 T.dst.hi, .int .u64 T.dst.lo, .int .u8 T.proto, .int .u8 T.ttl, .string T.data] 30)) := ⟨_, rfl⟩
    have HK7 : Hid (KL [(g5, .cells #[.bool T.src.v6, .int .u64 T.src.hi, .int .u64 T.src.lo, .bool T.dst.v6, .int .u64 T.dst.hi, .int .u64 T.dst.lo, .int .u8 T.proto, .int .u8 T.ttl, .string T.data] 30), (g4, .cells #[.bool U.src.v6, .int .u64 U.src.hi, .int .u64 U.src.lo, .bool U.dst.v6, .int .u64 U.dst.hi, .int .u64 U.dst.lo, .int .u8 U.proto, .int .u8 U.ttl, .string U.data] 30), (g3, .cells #[.bool U.src.v6, .int .u64 U.src.hi, .int .u64 U.src.lo, .bool U.dst.v6, .int .u64 U.dst.hi, .int .u64 U.dst.lo, .int .u8 U.proto, .int .u8 U.ttl, .string U.data] 30), (g2, .cells #[.bool v2, .int .u64 h2, .int .u64 l2, .int .u16 tp] 27), (g1, .cells #[.bool v1, .int .u64 h1, .int .u64 l1, .int .u16 f] 27)] w ww7) := by rw [hv7, hgg5]; exact Lib.hid (HK6.out.made (.cells #[.bool T.src.v6, .int .u64 T.src.hi, .int .u64 T.src.lo, .bool T.dst.v6, .int .u64 T.dst.hi, .int .u64 T.dst.lo, .int .u8 T.proto, .int .u8 T.ttl, .string T.data] 30))
    rw [← hv7]
    rw [← hgg5]
    clear hv7 hgg5
    obtain ⟨a0, a1, a2, a3⟩ := epCells (HK7.out.tail.tail.tail.tail.head)
    obtain ⟨b0, b1, b2, b3⟩ := epCells (HK7.out.tail.tail.tail.head)
    go_wp2_with fail
    clear a0 a1 a2 a3 b0 b1 b2 b3
    refine (C11.out _).mono ?_
    rintro e ww8 ⟨rfl, B1⟩
    simp only []
    have HK8 := Lib.hid (HK7.out.call B1)
    clear B1
    go_upto_region 7 with (fail)
    obtain ⟨g6, hgg6⟩ : ∃ g, g = ww8.heap.size := ⟨_, rfl⟩
    obtain ⟨ww9, hv9⟩ : ∃ x, x = (World.alloc ww8 (.cells #[.bool T.src.v6, .int .u64 T.src.hi, .int .u64 T.src.lo, .bool T.dst.v6, .int .u64 T.dst.hi, .int .u64 T.dst.lo, .int .u8 T.proto, .int .u8 T.ttl, .string T.data] 30)) := ⟨_, rfl⟩
    have HK9 : Hid (KL [(g6, .cells #[.bool T.src.v6, .int .u64 T.src.hi, .int .u64 T.src.lo, .bool T.dst.v6, .int .u64 T.dst.hi, .int .u64 T.dst.lo, .int .u8 T.proto, .int .u8 T.ttl, .string T.data] 30), (g5, .cells #[.bool T.src.v6, .int .u64 T.src.hi, .int .u64 T.src.lo, .bool T.dst.v6, .int .u64 T.dst.hi, .int .u64 T.dst.lo, .int .u8 T.proto, .int .u8 T.ttl, .string T.data] 30), (g4, .cells #[.bool U.src.v6, .int .u64 U.src.hi, .int .u64 U.src.lo, .bool U.dst.v6, .int .u64 U.dst.hi, .int .u64 U.dst.lo, .int .u8 U.proto, .int .u8 U.ttl, .string U.data] 30), (g3, .cells #[.bool U.src.v6, .int .u64 U.src.hi, .int .u64 U.src.lo, .bool U.dst.v6, .int .u64 U.dst.hi, .int .u64 U.dst.lo, .int .u8 U.proto, .int .u8 U.ttl, .string U.data] 30), (g2, .cells #[.bool v2, .int .u64 h2, .int .u64 l2, .int .u16 tp] 27), (g1, .cells #[.bool v1, .int .u64 h1, .int .u64 l1, .int .u16 f] 27)] w ww9) := by rw [hv9, hgg6]; exact Lib.hid (HK8.out.made (.cells #[.bool T.src.v6, .int .u64 T.src.hi, .int .u64 T.src.lo, .bool T.dst.v6, .int .u64 T.dst.hi, .int .u64 T.dst.lo, .int .u8 T.proto, .int .u8 T.ttl, .string T.data] 30))
    rw [← hv9]
    rw [← hgg6]
    clear hv9 hgg6
    obtain ⟨a0, a1, a2, a3⟩ := epCells (HK9.out.tail.tail.tail.tail.tail.head)
    obtain ⟨b0, b1, b2, b3⟩ := epCells (HK9.out.tail.tail.tail.tail.head)
    go_wp2_with fail
    clear a0 a1 a2 a3 b0 b1 b2 b3
    rw [← HRR.out]
    refine (C12.out _).mono ?_
    rintro e ww10 ⟨rfl, B1⟩
    simp only []
    have HK10 := Lib.hid (HK9.out.call B1)
    clear B1
    go_upto_region 8 with (fail)
    obtain ⟨g7, hgg7⟩ : ∃ g, g = ww10.heap.size := ⟨_, rfl⟩
    obtain ⟨ww11, hv11⟩ : ∃ x, x = (World.alloc ww10 (.cells #[.bool X.src.v6, .int .u64 X.src.hi, .int .u64 X.src.lo, .bool X.dst.v6, .int .u64 X.dst.hi, .int .u64 X.dst.lo, .int .u8 X.proto, .int .u8 X.ttl, .string X.data] 30)) := ⟨_, rfl⟩
    have HK11 : Hid (KL [(g7, .cells #[.bool X.src.v6, .int .u64 X.src.hi, .int .u64 X.src.lo, .bool X.dst.v6, .int .u64 X.dst.hi, .int .u64 X.dst.lo, .int .u8 X.proto, .int .u8 X.ttl, .string X.data] 30), (g6, .cells #[.bool T.src.v6, .int .u64 T.src.hi, .int .u64 T.src.lo, .bool T.dst.v6, .int .u64 T.dst.hi, .int .u64 T.dst.lo, .int .u8 T.proto, .int .u8 T.ttl, .string T.data] 30), (g5, .cells #[.bool T.src.v6, .int .u64 T.src.hi, .int .u64 T.src.lo, .bool T.dst.v6, .int .u64 T.dst.hi, .int .u64 T.dst.lo, .int .u8 T.proto, .int .u8 T.ttl, .string T.data] 30), (g4, .cells #[.bool U.src.v6, .int .u64 U.src.hi, .int .u64 U.src.lo, .bool U.dst.v6, .int .u64 U.dst.hi, .int .u64 U.dst.lo, .int .u8 U.proto, .int .u8 U.ttl, .string U.data] 30), (g3, .cells #[.bool U.src.v6, .int .u64 U.src.hi, .int .u64 U.src.lo, .bool U.dst.v6, .int .u64 U.dst.hi, .int .u64 U.dst.lo, .int .u8 U.proto, .int .u8 U.ttl, .string U.data] 30), (g2, .cells #[.bool v2, .int .u64 h2, .int .u64 l2, .int .u16 tp] 27), (g1, .cells #[.bool v1, .int .u64 h1, .int .u64 l1, .int .u16 f] 27)] w ww11) := by rw [hv11, hgg7]; exact Lib.hid (HK10.out.made (.cells #[.bool X.src.v6, .int .u64 X.src.hi, .int .u64 X.src.lo, .bool X.dst.v6, .int .u64 X.dst.hi, .int .u64 X.dst.lo, .int .u8 X.proto, .int .u8 X.ttl, .string X.data] 30))
    rw [← hv11]
    rw [← hgg7]
    clear hv11 hgg7
    obtain ⟨a0, a1, a2, a3⟩ := epCells (HK11.out.tail.tail.tail.tail.tail.tail.head)
    obtain ⟨b0, b1, b2, b3⟩ := epCells (HK11.out.tail.tail.tail.tail.tail.head)
    go_wp2_with fail
    clear a0 a1 a2 a3 b0 b1 b2 b3
    rw [← HRR.out]
    refine (C13.out _).mono ?_
    rintro e ww12 ⟨rfl, B1⟩
    simp only []
    have HK12 := Lib.hid (HK11.out.call B1)
    clear B1
    go_upto_region 9 with (fail)
    obtain ⟨g8, hgg8⟩ : ∃ g, g = ww12.heap.size := ⟨_, rfl⟩
    obtain ⟨ww13, hv13⟩ : ∃ x, x = (World.alloc ww12 (.cells #[.bool X.src.v6, .int .u64 X.src.hi, .int .u64 X.src.lo, .bool X.dst.v6, .int .u64 X.dst.hi, .int .u64 X.dst.lo, .int .u8 X.proto, .int .u8 X.ttl, .string X.data] 30)) := ⟨_, rfl⟩
    have HK13 : Hid (KL [(g8, .cells #[.bool X.src.v6, .int .u64 X.src.hi, .int .u64 X.src.lo, .bool X.dst.v6, .int .u64 X.dst.hi, .int .u64 X.dst.lo, .int .u8 X.proto, .int .u8 X.ttl, .string X.data] 30), (g7, .cells #[.bool X.src.v6, .int .u64 X.src.hi, .int .u64 X.src.lo, .bool X.dst.v6, .int .u64 X.dst.hi, .int .u64 X.dst.lo, .int .u8 X.proto, .int .u8 X.ttl, .string X.data] 30), (g6, .cells #[.bool T.src.v6, .int .u64 T.src.hi, .int .u64 T.src.lo, .bool T.dst.v6, .int .u64 T.dst.hi, .int .u64 T.dst.lo, .int .u8 T.proto, .int .u8 T.ttl, .string T.data] 30), (g5, .cells #[.bool T.src.v6, .int .u64 T.src.hi, .int .u64 T.src.lo, .bool T.dst.v6, .int .u64 T.dst.hi, .int .u64 T.dst.lo, .int .u8 T.proto, .int .u8 T.ttl, .string T.data] 30), (g4, .cells #[.bool U.src.v6, .int .u64 U.src.hi, .int .u64 U.src.lo, .bool U.dst.v6, .int .u64 U.dst.hi, .int .u64 U.dst.lo, .int .u8 U.proto, .int .u8 U.ttl, .string U.data] 30), (g3, .cells #[.bool U.src.v6, .int .u64 U.src.hi, .int .u64 U.src.lo, .bool U.dst.v6, .int .u64 U.dst.hi, .int .u64 U.dst.lo, .int .u8 U.proto, .int .u8 U.ttl, .string U.data] 30), (g2, .cells #[.bool v2, .int .u64 h2, .int .u64 l2, .int .u16 tp] 27), (g1, .cells #[.bool v1, .int .u64 h1, .int .u64 l1, .int .u16 f] 27)] w ww13) := by rw [hv13, hgg8]; exact Lib.hid (HK12.out.made (.cells #[.bool X.src.v6, .int .u64 X.src.hi, .int .u64 X.src.lo, .bool X.dst.v6, .int .u64 X.dst.hi, .int .u64 X.dst.lo, .int .u8 X.proto, .int .u8 X.ttl, .string X.data] 30))
    rw [← hv13]
    rw [← hgg8]
    clear hv13 hgg8
    have Z3 := (HK13.out.tail.tail.tail.tail.tail.head)
    have Z4 := (HK13.out.tail.tail.tail.tail.head)
    have Z5 := (HK13.out.tail.tail.tail.head)
    have Z6 := (HK13.out.tail.tail.head)
    have Z7 := (HK13.out.tail.head)
    have Z8 := (HK13.out.head)
    obtain ⟨fs, hfs⟩ := under30
    have U30 := Lib.hid hfs
    have HZ := Lib.hid (And.intro Z3 (And.intro Z4 (And.intro Z5 (And.intro Z6 (And.intro Z7 Z8)))))
    clear Z3 Z4 Z5 Z6 Z7 Z8 hfs
    obtain ⟨k5_0, k5_1, k5_2, k5_3, k5_4, k5_5, k5_6, k5_7, k5_8⟩ := pkCells HZ.out.2.2.1
    obtain ⟨k6_0, k6_1, k6_2, k6_3, k6_4, k6_5, k6_6, k6_7, k6_8⟩ := pkCells HZ.out.2.2.2.1
    obtain ⟨k7_0, k7_1, k7_2, k7_3, k7_4, k7_5, k7_6, k7_7, k7_8⟩ := pkCells HZ.out.2.2.2.2.1
    obtain ⟨k8_0, k8_1, k8_2, k8_3, k8_4, k8_5, k8_6, k8_7, k8_8⟩ := pkCells HZ.out.2.2.2.2.2
    go_wp2_with (first | (refine Go.wpList_load_row rfl 30 _ rfl g3 rfl 30 _ (0, 0) _ HZ.out.1 U30.out rfl info30 ?_) | (refine Go.wpList_load_row rfl 30 _ rfl g4 rfl 30 _ (0, 0) _ HZ.out.2.1 U30.out rfl info30 ?_))
    clear k5_0 k5_1 k5_2 k5_3 k5_4 k5_5 k5_6 k5_7 k5_8 k6_0 k6_1 k6_2 k6_3 k6_4 k6_5 k6_6 k6_7 k6_8 k7_0 k7_1 k7_2 k7_3 k7_4 k7_5 k7_6 k7_7 k7_8 k8_0 k8_1 k8_2 k8_3 k8_4 k8_5 k8_6 k8_7 k8_8
    refine (works_any _).mono ?_
    rintro e ww14 ⟨rfl, B1⟩
    simp only []
    have HK14 := Lib.hid (HK13.out.call B1)
    clear B1
    go_wp2_with fail
    go_ret
    exact ⟨rfl, HK14.out.2⟩
  · have hz : (8192 : Int) < (d.size : Int) := by omega
    clear ha hb hf ht hfl hid hs
    go_enter Try.func3, Try.ntmps3
    go_upto_region 2 with (fail)
    obtain ⟨g2, hgg2⟩ : ∃ g, g = w.heap.size + 1 := ⟨_, rfl⟩
    obtain ⟨g1, hgg1⟩ : ∃ g, g = w.heap.size := ⟨_, rfl⟩
    obtain ⟨ww1, hv1⟩ : ∃ x, x = (World.alloc (World.alloc w (.cells #[.bool v1, .int .u64 h1, .int .u64 l1, .int .u16 f] 27)) (.cells #[.bool v2, .int .u64 h2, .int .u64 l2, .int .u16 tp] 27)) := ⟨_, rfl⟩
    have HK1 : Hid (KL [(g2, .cells #[.bool v2, .int .u64 h2, .int .u64 l2, .int .u16 tp] 27), (g1, .cells #[.bool v1, .int .u64 h1, .int .u64 l1, .int .u16 f] 27)] w ww1) := by rw [hv1, hgg1, hgg2]; exact Lib.hid (HK0.out.made2 (.cells #[.bool v1, .int .u64 h1, .int .u64 l1, .int .u16 f] 27) (.cells #[.bool v2, .int .u64 h2, .int .u64 l2, .int .u16 tp] 27))
    rw [← hv1]
    rw [← hgg2]
    rw [← hgg1]
    clear hv1 hgg1 hgg2
    go_wp2_with fail
    refine (works_any _).mono ?_
    rintro e ww2 ⟨rfl, B1⟩
    simp only []
    have HK2 := Lib.hid (HK1.out.call B1)
    clear B1
    go_wp2_with fail
    go_ret
    exact ⟨rfl, HK2.out.2⟩

end Go.Proofs.Ytgonakpoflacoaa
