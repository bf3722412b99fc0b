/-
  PortBack: one way of the walk.
-/
import Derived.Test.YtgonakpoflacoaaBackBase
set_option linter.unusedVariables false
set_option linter.unusedSimpArgs false
namespace Go.Proofs.Ytgonakpoflacoaa
open Go.RowKit

set_option maxHeartbeats 32000000 in
set_option maxRecDepth 100000 in
theorem back_un (v1 : Bool) (h1 l1 : Nat) (v2 : Bool) (h2 l2 f tp fl id : Nat) (d : ByteArray) (w : World) (ha : (⟨v1, h1, l1⟩ : Ad).Ok) (hb : (⟨v2, h2, l2⟩ : Ad).Ok) (hf : f < 65536) (ht : tp < 65536) (hfl : fl < 256) (hid : id < 65536) (hs : d.size ≤ 8192) (qU : mayE ⟨⟨v1, h1, l1⟩, ⟨v2, h2, l2⟩, 17, 64, udpD f tp d⟩ = 0) (qT : ¬ mayE ⟨⟨v1, h1, l1⟩, ⟨v2, h2, l2⟩, 6, 64, tcpD f tp fl d⟩ = 0) :
    Calls Try.prog 6 #[.agg #[.bool v1, .int .u64 h1, .int .u64 l1, .int .u16 f], .agg #[.bool v2, .int .u64 h2, .int .u64 l2, .int .u16 tp], .int .u8 fl, .int .u16 id, .string d] w fun e w' => e = .returned (.bool true) ∧ Below w.heap.size w w' := by
  have HK0 := Lib.hid (KL.nil w)
  have hz : ¬ (8192 : Int) < (d.size : Int) := by omega
  have su : (udpD f tp d).size = 8 + d.size := udpD_size _ _ _
  have sv : (udpD tp f d).size = 8 + d.size := udpD_size _ _ _
  have st : (tcpD f tp fl d).size = 20 + d.size := tcpD_size _ _ _ _
  have sx : (echoD (echoK v1 false) id d).size = 8 + d.size := echoD_size _ _ _
  have ep : echoP v1 < 256 := by unfold echoP; split <;> decide
  have okU : (madeP ⟨⟨v1, h1, l1⟩, ⟨v2, h2, l2⟩, 17, 64, udpD f tp d⟩ 6).Ok := madeP_ok (p := ⟨⟨v1, h1, l1⟩, ⟨v2, h2, l2⟩, 17, 64, udpD f tp d⟩) ⟨ha, hb, (by decide : 17 < 256), (by decide : 64 < 256)⟩
  have szU : (madeP ⟨⟨v1, h1, l1⟩, ⟨v2, h2, l2⟩, 17, 64, udpD f tp d⟩ 6).data.size ≤ 10000 := sizeM (p := ⟨⟨v1, h1, l1⟩, ⟨v2, h2, l2⟩, 17, 64, udpD f tp d⟩) (by show 6 + 2 ≤ ByteArray.size _; rw [su]; omega) (by show ByteArray.size _ ≤ _; rw [su]; omega)
  have okT : (madeP ⟨⟨v1, h1, l1⟩, ⟨v2, h2, l2⟩, 6, 64, tcpD f tp fl d⟩ 16).Ok := madeP_ok (p := ⟨⟨v1, h1, l1⟩, ⟨v2, h2, l2⟩, 6, 64, tcpD f tp fl d⟩) ⟨ha, hb, (by decide : 6 < 256), (by decide : 64 < 256)⟩
  have szT : (madeP ⟨⟨v1, h1, l1⟩, ⟨v2, h2, l2⟩, 6, 64, tcpD f tp fl d⟩ 16).data.size ≤ 10000 := sizeM (p := ⟨⟨v1, h1, l1⟩, ⟨v2, h2, l2⟩, 6, 64, tcpD f tp fl d⟩) (by show 16 + 2 ≤ ByteArray.size _; rw [st]; omega) (by show ByteArray.size _ ≤ _; rw [st]; omega)
  have okX : (madeP ⟨⟨v1, h1, l1⟩, ⟨v2, h2, l2⟩, echoP v1, 64, echoD (echoK v1 false) id d⟩ 2).Ok := madeP_ok (p := ⟨⟨v1, h1, l1⟩, ⟨v2, h2, l2⟩, echoP v1, 64, echoD (echoK v1 false) id d⟩) ⟨ha, hb, ep, (by decide : 64 < 256)⟩
  have szX : (madeP ⟨⟨v1, h1, l1⟩, ⟨v2, h2, l2⟩, echoP v1, 64, echoD (echoK v1 false) id d⟩ 2).data.size ≤ 10000 := sizeM (p := ⟨⟨v1, h1, l1⟩, ⟨v2, h2, l2⟩, echoP v1, 64, echoD (echoK v1 false) id d⟩) (by show 2 + 2 ≤ ByteArray.size _; rw [sx]; omega) (by show ByteArray.size _ ≤ _; rw [sx]; omega)
  have okV : (madeP ⟨⟨v2, h2, l2⟩, ⟨v1, h1, l1⟩, 17, 64, udpD tp f d⟩ 6).Ok := madeP_ok (p := ⟨⟨v2, h2, l2⟩, ⟨v1, h1, l1⟩, 17, 64, udpD tp f d⟩) ⟨hb, ha, (by decide : 17 < 256), (by decide : 64 < 256)⟩
  have szV : (madeP ⟨⟨v2, h2, l2⟩, ⟨v1, h1, l1⟩, 17, 64, udpD tp f d⟩ 6).data.size ≤ 10000 := sizeM (p := ⟨⟨v2, h2, l2⟩, ⟨v1, h1, l1⟩, 17, 64, udpD tp f d⟩) (by show 6 + 2 ≤ ByteArray.size _; rw [sv]; omega) (by show ByteArray.size _ ≤ _; rw [sv]; omega)
  have bk := fun h => may_back ⟨v1, h1, l1⟩ ⟨v2, h2, l2⟩ f tp 17 d h
  have tdU := udp_told ⟨v1, h1, l1⟩ ⟨v2, h2, l2⟩ f tp d hf ht (by omega)
  have tdT := tcp_told ⟨v1, h1, l1⟩ ⟨v2, h2, l2⟩ f tp fl d hf ht hfl (by omega)
  have tdX := echo_told ⟨v1, h1, l1⟩ ⟨v2, h2, l2⟩ id d hid (by omega)
  have tdV := udp_told ⟨v2, h2, l2⟩ ⟨v1, h1, l1⟩ tp f d ht hf (by omega)
  have mz : mayE ⟨⟨v1, h1, l1⟩, ⟨v2, h2, l2⟩, 17, 64, udpD f tp d⟩ ≠ 0 → madeP ⟨⟨v1, h1, l1⟩, ⟨v2, h2, l2⟩, 17, 64, udpD f tp d⟩ 6 = Pk.zero := fun h => by unfold madeP; rw [if_neg h]
  have mkU : ∀ u, Calls Try.prog 8 #[.agg #[.bool v1, .int .u64 h1, .int .u64 l1, .int .u16 f], .agg #[.bool v2, .int .u64 h2, .int .u64 l2, .int .u16 tp], .string d] u fun e w' => e = .returned (.tuple #[(madeP ⟨⟨v1, h1, l1⟩, ⟨v2, h2, l2⟩, 17, 64, udpD f tp d⟩ 6).val, .int .i64 (mayE ⟨⟨v1, h1, l1⟩, ⟨v2, h2, l2⟩, 17, 64, udpD f tp d⟩)]) ∧ Below u.heap.size u w' := fun u => udpMake_any ⟨v1, h1, l1⟩ ⟨v2, h2, l2⟩ f tp d u ha hb hf ht (by omega)
  have mkT : ∀ u, Calls Try.prog 10 #[.agg #[.bool v1, .int .u64 h1, .int .u64 l1, .int .u16 f], .agg #[.bool v2, .int .u64 h2, .int .u64 l2, .int .u16 tp], .int .u8 fl, .string d] u fun e w' => e = .returned (.tuple #[(madeP ⟨⟨v1, h1, l1⟩, ⟨v2, h2, l2⟩, 6, 64, tcpD f tp fl d⟩ 16).val, .int .i64 (mayE ⟨⟨v1, h1, l1⟩, ⟨v2, h2, l2⟩, 6, 64, tcpD f tp fl d⟩)]) ∧ Below u.heap.size u w' := fun u => tcpMake_any ⟨v1, h1, l1⟩ ⟨v2, h2, l2⟩ f tp fl d u ha hb hf ht hfl (by omega)
  have mkX : ∀ u, Calls Try.prog 12 #[.agg #[.bool v1, .int .u64 h1, .int .u64 l1], .agg #[.bool v2, .int .u64 h2, .int .u64 l2], .int .u16 id, .bool false, .string d] u fun e w' => e = .returned (.tuple #[(madeP ⟨⟨v1, h1, l1⟩, ⟨v2, h2, l2⟩, echoP v1, 64, echoD (echoK v1 false) id d⟩ 2).val, .int .i64 (mayE ⟨⟨v1, h1, l1⟩, ⟨v2, h2, l2⟩, echoP v1, 64, echoD (echoK v1 false) id d⟩)]) ∧ Below u.heap.size u w' := fun u => echoMake_any ⟨v1, h1, l1⟩ ⟨v2, h2, l2⟩ id false d u ha hb hid (by omega)
  have mkV : ∀ u, Calls Try.prog 8 #[.agg #[.bool v2, .int .u64 h2, .int .u64 l2, .int .u16 tp], .agg #[.bool v1, .int .u64 h1, .int .u64 l1, .int .u16 f], .string d] u fun e w' => e = .returned (.tuple #[(madeP ⟨⟨v2, h2, l2⟩, ⟨v1, h1, l1⟩, 17, 64, udpD tp f d⟩ 6).val, .int .i64 (mayE ⟨⟨v2, h2, l2⟩, ⟨v1, h1, l1⟩, 17, 64, udpD tp f d⟩)]) ∧ Below u.heap.size u w' := fun u => udpMake_any ⟨v2, h2, l2⟩ ⟨v1, h1, l1⟩ tp f d u hb ha ht hf (by omega)
  obtain ⟨U, eU⟩ : ∃ x, x = madeP ⟨⟨v1, h1, l1⟩, ⟨v2, h2, l2⟩, 17, 64, udpD f tp d⟩ 6 := ⟨_, rfl⟩
  obtain ⟨EU, eeU⟩ : ∃ x, x = mayE ⟨⟨v1, h1, l1⟩, ⟨v2, h2, l2⟩, 17, 64, udpD f tp d⟩ := ⟨_, rfl⟩
  rw [← eU] at okU szU tdU mkU mz
  rw [← eeU] at qU tdU mkU bk mz
  obtain ⟨T, eT⟩ : ∃ x, x = madeP ⟨⟨v1, h1, l1⟩, ⟨v2, h2, l2⟩, 6, 64, tcpD f tp fl d⟩ 16 := ⟨_, rfl⟩
  obtain ⟨ET, eeT⟩ : ∃ x, x = mayE ⟨⟨v1, h1, l1⟩, ⟨v2, h2, l2⟩, 6, 64, tcpD f tp fl d⟩ := ⟨_, rfl⟩
  rw [← eT] at okT szT tdT mkT
  rw [← eeT] at qT tdT mkT
  obtain ⟨X, eX⟩ : ∃ x, x = madeP ⟨⟨v1, h1, l1⟩, ⟨v2, h2, l2⟩, echoP v1, 64, echoD (echoK v1 false) id d⟩ 2 := ⟨_, rfl⟩
  obtain ⟨EX, eeX⟩ : ∃ x, x = mayE ⟨⟨v1, h1, l1⟩, ⟨v2, h2, l2⟩, echoP v1, 64, echoD (echoK v1 false) id d⟩ := ⟨_, rfl⟩
  rw [← eX] at okX szX tdX mkX
  rw [← eeX] at tdX mkX
  obtain ⟨V, eV⟩ : ∃ x, x = madeP ⟨⟨v2, h2, l2⟩, ⟨v1, h1, l1⟩, 17, 64, udpD tp f d⟩ 6 := ⟨_, rfl⟩
  obtain ⟨EV, eeV⟩ : ∃ x, x = mayE ⟨⟨v2, h2, l2⟩, ⟨v1, h1, l1⟩, 17, 64, udpD tp f d⟩ := ⟨_, rfl⟩
  rw [← eV] at okV szV tdV mkV
  rw [← eeV] at tdV mkV bk
  clear eU eeU eT eeT eX eeX eV eeV su sv st sx ep
  have HB := Lib.hid (And.intro bk mz)
  clear bk mz
  have TTU := Lib.hid (show EU = 0 → ∀ u, Calls Try.prog 20 #[.agg #[.bool U.src.v6, .int .u64 U.src.hi, .int .u64 U.src.lo, .bool U.dst.v6, .int .u64 U.dst.hi, .int .u64 U.dst.lo, .int .u8 U.proto, .int .u8 U.ttl, .string U.data], .agg #[.int .u8 17, .bool v1, .int .u64 h1, .int .u64 l1, .bool v2, .int .u64 h2, .int .u64 l2, .int .u16 f, .int .u16 tp], .int .u8 0, .int .i64 d.size] u fun e w' => e = .returned (.bool true) ∧ Below u.heap.size u w' from fun h u => told_any U ⟨17, ⟨v1, h1, l1⟩, ⟨v2, h2, l2⟩, f, tp⟩ 0 d.size u okU szU (tdU h))
  have MMU := Lib.hid mkU
  have TTT := Lib.hid (show ET = 0 → ∀ u, Calls Try.prog 20 #[.agg #[.bool T.src.v6, .int .u64 T.src.hi, .int .u64 T.src.lo, .bool T.dst.v6, .int .u64 T.dst.hi, .int .u64 T.dst.lo, .int .u8 T.proto, .int .u8 T.ttl, .string T.data], .agg #[.int .u8 6, .bool v1, .int .u64 h1, .int .u64 l1, .bool v2, .int .u64 h2, .int .u64 l2, .int .u16 f, .int .u16 tp], .int .u8 fl, .int .i64 d.size] u fun e w' => e = .returned (.bool true) ∧ Below u.heap.size u w' from fun h u => told_any T ⟨6, ⟨v1, h1, l1⟩, ⟨v2, h2, l2⟩, f, tp⟩ fl d.size u okT szT (tdT h))
  have MMT := Lib.hid mkT
  have TTX := Lib.hid (show EX = 0 → ∀ u, Calls Try.prog 20 #[.agg #[.bool X.src.v6, .int .u64 X.src.hi, .int .u64 X.src.lo, .bool X.dst.v6, .int .u64 X.dst.hi, .int .u64 X.dst.lo, .int .u8 X.proto, .int .u8 X.ttl, .string X.data], .agg #[.int .u8 (echoP v1), .bool v1, .int .u64 h1, .int .u64 l1, .bool v2, .int .u64 h2, .int .u64 l2, .int .u16 id, .int .u16 id], .int .u8 0, .int .i64 d.size] u fun e w' => e = .returned (.bool true) ∧ Below u.heap.size u w' from fun h u => told_any X ⟨echoP v1, ⟨v1, h1, l1⟩, ⟨v2, h2, l2⟩, id, id⟩ 0 d.size u okX szX (tdX h))
  have MMX := Lib.hid mkX
  have TTV := Lib.hid (show EV = 0 → ∀ u, Calls Try.prog 20 #[.agg #[.bool V.src.v6, .int .u64 V.src.hi, .int .u64 V.src.lo, .bool V.dst.v6, .int .u64 V.dst.hi, .int .u64 V.dst.lo, .int .u8 V.proto, .int .u8 V.ttl, .string V.data], .agg #[.int .u8 17, .bool v2, .int .u64 h2, .int .u64 l2, .bool v1, .int .u64 h1, .int .u64 l1, .int .u16 tp, .int .u16 f], .int .u8 0, .int .i64 d.size] u fun e w' => e = .returned (.bool true) ∧ Below u.heap.size u w' from fun h u => told_any V ⟨17, ⟨v2, h2, l2⟩, ⟨v1, h1, l1⟩, tp, f⟩ 0 d.size u okV szV (tdV h))
  have MMV := Lib.hid mkV
  have DDU := Lib.hid (fun h => decode_told U ⟨17, ⟨v1, h1, l1⟩, ⟨v2, h2, l2⟩, f, tp⟩ 0 d.size okU szU (tdU h))
  have DDV := Lib.hid (fun h => decode_told V ⟨17, ⟨v2, h2, l2⟩, ⟨v1, h1, l1⟩, tp, f⟩ 0 d.size okV szV (tdV h))
  clear okU szU tdU mkU okT szT tdT mkT okX szX tdX mkX okV szV tdV mkV
  clear ha hb hf ht hfl hid hs
  have HT0 := Lib.hid qT
  clear qT
  have HQ0 := Lib.hid qU
  clear qU
  go_enter Try.func6, Try.ntmps6
  go_upto_region 3 with (fail)
  obtain ⟨g2, hgg2⟩ : ∃ g, g = w.heap.size + 1 := ⟨_, rfl⟩
  obtain ⟨g1, hgg1⟩ : ∃ g, g = w.heap.size := ⟨_, rfl⟩
  obtain ⟨ww1, hv1⟩ : ∃ x, x = (World.alloc (World.alloc w (.cells #[.bool v1, .int .u64 h1, .int .u64 l1, .int .u16 f] 27)) (.cells #[.bool v2, .int .u64 h2, .int .u64 l2, .int .u16 tp] 27)) := ⟨_, rfl⟩
  have HK1 : Hid (KL [(g2, .cells #[.bool v2, .int .u64 h2, .int .u64 l2, .int .u16 tp] 27), (g1, .cells #[.bool v1, .int .u64 h1, .int .u64 l1, .int .u16 f] 27)] w ww1) := by rw [hv1, hgg1, hgg2]; exact Lib.hid (HK0.out.made2 (.cells #[.bool v1, .int .u64 h1, .int .u64 l1, .int .u16 f] 27) (.cells #[.bool v2, .int .u64 h2, .int .u64 l2, .int .u16 tp] 27))
  rw [← hv1]
  rw [← hgg2]
  rw [← hgg1]
  clear hv1 hgg1 hgg2
  have c8u := Lib.hid (show ∀ u, Calls Try.prog 8 #[.agg #[.bool v1, .int .u64 h1, .int .u64 l1, .int .u16 f], .agg #[.bool v2, .int .u64 h2, .int .u64 l2, .int .u16 tp], .string d] u fun e w' => e = .returned (.tuple #[.agg #[.bool U.src.v6, .int .u64 U.src.hi, .int .u64 U.src.lo, .bool U.dst.v6, .int .u64 U.dst.hi, .int .u64 U.dst.lo, .int .u8 U.proto, .int .u8 U.ttl, .string U.data], .int .i64 EU]) ∧ Below u.heap.size u w' from fun u => by
    have h := MMU.out u
    exact h)
  obtain ⟨a0, a1, a2, a3⟩ := epCells (HK1.out.tail.head)
  obtain ⟨b0, b1, b2, b3⟩ := epCells (HK1.out.head)
  go_wp2_with fail
  clear a0 a1 a2 a3 b0 b1 b2 b3
  refine (c8u.out _).mono ?_
  rintro e ww2 ⟨rfl, B1⟩
  simp only []
  have HK2 := Lib.hid (HK1.out.call B1)
  clear B1
  go_upto_region 4 with (fail)
  obtain ⟨g3, hgg3⟩ : ∃ g, g = ww2.heap.size := ⟨_, rfl⟩
  obtain ⟨ww3, hv3⟩ : ∃ x, x = (World.alloc ww2 (.cells #[.bool U.src.v6, .int .u64 U.src.hi, .int .u64 U.src.lo, .bool U.dst.v6, .int .u64 U.dst.hi, .int .u64 U.dst.lo, .int .u8 U.proto, .int .u8 U.ttl, .string U.data] 30)) := ⟨_, rfl⟩
  have HK3 : Hid (KL [(g3, .cells #[.bool U.src.v6, .int .u64 U.src.hi, .int .u64 U.src.lo, .bool U.dst.v6, .int .u64 U.dst.hi, .int .u64 U.dst.lo, .int .u8 U.proto, .int .u8 U.ttl, .string U.data] 30), (g2, .cells #[.bool v2, .int .u64 h2, .int .u64 l2, .int .u16 tp] 27), (g1, .cells #[.bool v1, .int .u64 h1, .int .u64 l1, .int .u16 f] 27)] w ww3) := by rw [hv3, hgg3]; exact Lib.hid (HK2.out.made (.cells #[.bool U.src.v6, .int .u64 U.src.hi, .int .u64 U.src.lo, .bool U.dst.v6, .int .u64 U.dst.hi, .int .u64 U.dst.lo, .int .u8 U.proto, .int .u8 U.ttl, .string U.data] 30))
  rw [← hv3]
  rw [← hgg3]
  clear hv3 hgg3
  have qU := HQ0.out
  have cU : ((EU : Int) == 0) = true := by rw [qU]; rfl
  have CCU := Lib.hid (TTU.out qU)
  have HQU := Lib.hid qU
  clear qU
  obtain ⟨k0, k1, k2, k3, k4, k5, k6, k7, k8⟩ := pkCells (HK3.out.head)
  obtain ⟨a0, a1, a2, a3⟩ := epCells (HK3.out.tail.tail.head)
  obtain ⟨b0, b1, b2, b3⟩ := epCells (HK3.out.tail.head)
  go_wp2_with fail
  clear a0 a1 a2 a3 b0 b1 b2 b3
  clear k0 k1 k2 k3 k4 k5 k6 k7 k8
  refine (CCU.out _).mono ?_
  rintro e ww4 ⟨rfl, B1⟩
  simp only []
  have HK4 := Lib.hid (HK3.out.call B1)
  clear B1
  go_upto_region 6 with (fail)
  have c10 := Lib.hid (show ∀ u, Calls Try.prog 10 #[.agg #[.bool v1, .int .u64 h1, .int .u64 l1, .int .u16 f], .agg #[.bool v2, .int .u64 h2, .int .u64 l2, .int .u16 tp], .int .u8 fl, .string d] u fun e w' => e = .returned (.tuple #[.agg #[.bool T.src.v6, .int .u64 T.src.hi, .int .u64 T.src.lo, .bool T.dst.v6, .int .u64 T.dst.hi, .int .u64 T.dst.lo, .int .u8 T.proto, .int .u8 T.ttl, .string T.data], .int .i64 ET]) ∧ Below u.heap.size u w' from MMT.out)
  obtain ⟨a0, a1, a2, a3⟩ := epCells (HK4.out.tail.tail.head)
  obtain ⟨b0, b1, b2, b3⟩ := epCells (HK4.out.tail.head)
  go_wp2_with fail
  clear a0 a1 a2 a3 b0 b1 b2 b3
  refine (c10.out _).mono ?_
  rintro e ww5 ⟨rfl, B1⟩
  simp only []
  have HK5 := Lib.hid (HK4.out.call B1)
  clear B1
  go_upto_region 7 with (fail)
  obtain ⟨g4, hgg4⟩ : ∃ g, g = ww5.heap.size := ⟨_, rfl⟩
  obtain ⟨ww6, hv6⟩ : ∃ x, x = (World.alloc ww5 (.cells #[.bool T.src.v6, .int .u64 T.src.hi, .int .u64 T.src.lo, .bool T.dst.v6, .int .u64 T.dst.hi, .int .u64 T.dst.lo, .int .u8 T.proto, .int .u8 T.ttl, .string T.data] 30)) := ⟨_, rfl⟩
  have HK6 : Hid (KL [(g4, .cells #[.bool T.src.v6, .int .u64 T.src.hi, .int .u64 T.src.lo, .bool T.dst.v6, .int .u64 T.dst.hi, .int .u64 T.dst.lo, .int .u8 T.proto, .int .u8 T.ttl, .string T.data] 30), (g3, .cells #[.bool U.src.v6, .int .u64 U.src.hi, .int .u64 U.src.lo, .bool U.dst.v6, .int .u64 U.dst.hi, .int .u64 U.dst.lo, .int .u8 U.proto, .int .u8 U.ttl, .string U.data] 30), (g2, .cells #[.bool v2, .int .u64 h2, .int .u64 l2, .int .u16 tp] 27), (g1, .cells #[.bool v1, .int .u64 h1, .int .u64 l1, .int .u16 f] 27)] w ww6) := by rw [hv6, hgg4]; exact Lib.hid (HK5.out.made (.cells #[.bool T.src.v6, .int .u64 T.src.hi, .int .u64 T.src.lo, .bool T.dst.v6, .int .u64 T.dst.hi, .int .u64 T.dst.lo, .int .u8 T.proto, .int .u8 T.ttl, .string T.data] 30))
  rw [← hv6]
  rw [← hgg4]
  clear hv6 hgg4
  have qT := HT0.out
  have cT : ((ET : Int) == 0) = false := beq_eq_false_iff_ne.2 qT
  clear qT
  go_upto_region 9 with (fail)
  have c12 := Lib.hid (show ∀ u, Calls Try.prog 12 #[.agg #[.bool v1, .int .u64 h1, .int .u64 l1], .agg #[.bool v2, .int .u64 h2, .int .u64 l2], .int .u16 id, .bool false, .string d] u fun e w' => e = .returned (.tuple #[.agg #[.bool X.src.v6, .int .u64 X.src.hi, .int .u64 X.src.lo, .bool X.dst.v6, .int .u64 X.dst.hi, .int .u64 X.dst.lo, .int .u8 X.proto, .int .u8 X.ttl, .string X.data], .int .i64 EX]) ∧ Below u.heap.size u w' from MMX.out)
  obtain ⟨a0, a1, a2, a3⟩ := epCells (HK6.out.tail.tail.tail.head)
  obtain ⟨b0, b1, b2, b3⟩ := epCells (HK6.out.tail.tail.head)
  go_wp2_with fail
  clear a0 a1 a2 a3 b0 b1 b2 b3
  refine (c12.out _).mono ?_
  rintro e ww7 ⟨rfl, B1⟩
  simp only []
  have HK7 := Lib.hid (HK6.out.call B1)
  clear B1
  go_upto_region 10 with (fail)
  obtain ⟨g5, hgg5⟩ : ∃ g, g = ww7.heap.size := ⟨_, rfl⟩
  obtain ⟨ww8, hv8⟩ : ∃ x, x = (World.alloc ww7 (.cells #[.bool X.src.v6, .int .u64 X.src.hi, .int .u64 X.src.lo, .bool X.dst.v6, .int .u64 X.dst.hi, .int .u64 X.dst.lo, .int .u8 X.proto, .int .u8 X.ttl, .string X.data] 30)) := ⟨_, rfl⟩
  have HK8 : Hid (KL [(g5, .cells #[.bool X.src.v6, .int .u64 X.src.hi, .int .u64 X.src.lo, .bool X.dst.v6, .int .u64 X.dst.hi, .int .u64 X.dst.lo, .int .u8 X.proto, .int .u8 X.ttl, .string X.data] 30), (g4, .cells #[.bool T.src.v6, .int .u64 T.src.hi, .int .u64 T.src.lo, .bool T.dst.v6, .int .u64 T.dst.hi, .int .u64 T.dst.lo, .int .u8 T.proto, .int .u8 T.ttl, .string T.data] 30), (g3, .cells #[.bool U.src.v6, .int .u64 U.src.hi, .int .u64 U.src.lo, .bool U.dst.v6, .int .u64 U.dst.hi, .int .u64 U.dst.lo, .int .u8 U.proto, .int .u8 U.ttl, .string U.data] 30), (g2, .cells #[.bool v2, .int .u64 h2, .int .u64 l2, .int .u16 tp] 27), (g1, .cells #[.bool v1, .int .u64 h1, .int .u64 l1, .int .u16 f] 27)] w ww8) := by rw [hv8, hgg5]; exact Lib.hid (HK7.out.made (.cells #[.bool X.src.v6, .int .u64 X.src.hi, .int .u64 X.src.lo, .bool X.dst.v6, .int .u64 X.dst.hi, .int .u64 X.dst.lo, .int .u8 X.proto, .int .u8 X.ttl, .string X.data] 30))
  rw [← hv8]
  rw [← hgg5]
  clear hv8 hgg5
  cases v1
  · obtain ⟨a0, a1, a2, a3⟩ := epCells (HK8.out.tail.tail.tail.tail.head)
    obtain ⟨b0, b1, b2, b3⟩ := epCells (HK8.out.tail.tail.tail.head)
    go_upto_region 13 with (fail)
    clear a0 a1 a2 a3 b0 b1 b2 b3
    by_cases qX : EX = 0
    · have cX : ((EX : Int) == 0) = true := by rw [qX]; rfl
      have CCX := Lib.hid (show ∀ u, Calls Try.prog 20 #[.agg #[.bool X.src.v6, .int .u64 X.src.hi, .int .u64 X.src.lo, .bool X.dst.v6, .int .u64 X.dst.hi, .int .u64 X.dst.lo, .int .u8 X.proto, .int .u8 X.ttl, .string X.data], .agg #[.int .u8 1, .bool false, .int .u64 h1, .int .u64 l1, .bool v2, .int .u64 h2, .int .u64 l2, .int .u16 id, .int .u16 id], .int .u8 0, .int .i64 d.size] u fun e w' => e = .returned (.bool true) ∧ Below u.heap.size u w' from TTX.out qX)
      clear qX
      obtain ⟨k0, k1, k2, k3, k4, k5, k6, k7, k8⟩ := pkCells (HK8.out.head)
      obtain ⟨a0, a1, a2, a3⟩ := epCells (HK8.out.tail.tail.tail.tail.head)
      obtain ⟨b0, b1, b2, b3⟩ := epCells (HK8.out.tail.tail.tail.head)
      go_wp2_with fail
      clear a0 a1 a2 a3 b0 b1 b2 b3
      clear k0 k1 k2 k3 k4 k5 k6 k7 k8
      refine (CCX.out _).mono ?_
      rintro e ww9 ⟨rfl, B1⟩
      simp only []
      have HK9 := Lib.hid (HK8.out.call B1)
      clear B1
      have cU2 : ((EU : Int) != 0) = false := by rw [HQU.out]; rfl
      go_upto_region 17 with (fail)
      clear cU2
      have c8 := Lib.hid (show ∀ u, Calls Try.prog 8 #[.agg #[.bool v2, .int .u64 h2, .int .u64 l2, .int .u16 tp], .agg #[.bool false, .int .u64 h1, .int .u64 l1, .int .u16 f], .string d] u fun e w' => e = .returned (.tuple #[.agg #[.bool V.src.v6, .int .u64 V.src.hi, .int .u64 V.src.lo, .bool V.dst.v6, .int .u64 V.dst.hi, .int .u64 V.dst.lo, .int .u8 V.proto, .int .u8 V.ttl, .string V.data], .int .i64 0]) ∧ Below u.heap.size u w' from fun u => by
        have h := MMV.out u
        rw [HB.out.1 HQU.out] at h
        exact h)
      obtain ⟨a0, a1, a2, a3⟩ := epCells (HK9.out.tail.tail.tail.tail.head)
      obtain ⟨b0, b1, b2, b3⟩ := epCells (HK9.out.tail.tail.tail.head)
      go_wp2_with fail
      clear a0 a1 a2 a3 b0 b1 b2 b3
      refine (c8.out _).mono ?_
      rintro e ww10 ⟨rfl, B1⟩
      simp only []
      have HK10 := Lib.hid (HK9.out.call B1)
      clear B1
      go_upto_region 18 with (fail)
      obtain ⟨g6, hgg6⟩ : ∃ g, g = ww10.heap.size := ⟨_, rfl⟩
      obtain ⟨ww11, hv11⟩ : ∃ x, x = (World.alloc ww10 (.cells #[.bool V.src.v6, .int .u64 V.src.hi, .int .u64 V.src.lo, .bool V.dst.v6, .int .u64 V.dst.hi, .int .u64 V.dst.lo, .int .u8 V.proto, .int .u8 V.ttl, .string V.data] 30)) := ⟨_, rfl⟩
      have HK11 : Hid (KL [(g6, .cells #[.bool V.src.v6, .int .u64 V.src.hi, .int .u64 V.src.lo, .bool V.dst.v6, .int .u64 V.dst.hi, .int .u64 V.dst.lo, .int .u8 V.proto, .int .u8 V.ttl, .string V.data] 30), (g5, .cells #[.bool X.src.v6, .int .u64 X.src.hi, .int .u64 X.src.lo, .bool X.dst.v6, .int .u64 X.dst.hi, .int .u64 X.dst.lo, .int .u8 X.proto, .int .u8 X.ttl, .string X.data] 30), (g4, .cells #[.bool T.src.v6, .int .u64 T.src.hi, .int .u64 T.src.lo, .bool T.dst.v6, .int .u64 T.dst.hi, .int .u64 T.dst.lo, .int .u8 T.proto, .int .u8 T.ttl, .string T.data] 30), (g3, .cells #[.bool U.src.v6, .int .u64 U.src.hi, .int .u64 U.src.lo, .bool U.dst.v6, .int .u64 U.dst.hi, .int .u64 U.dst.lo, .int .u8 U.proto, .int .u8 U.ttl, .string U.data] 30), (g2, .cells #[.bool v2, .int .u64 h2, .int .u64 l2, .int .u16 tp] 27), (g1, .cells #[.bool false, .int .u64 h1, .int .u64 l1, .int .u16 f] 27)] w ww11) := by rw [hv11, hgg6]; exact Lib.hid (HK10.out.made (.cells #[.bool V.src.v6, .int .u64 V.src.hi, .int .u64 V.src.lo, .bool V.dst.v6, .int .u64 V.dst.hi, .int .u64 V.dst.lo, .int .u8 V.proto, .int .u8 V.ttl, .string V.data] 30))
      rw [← hv11]
      rw [← hgg6]
      clear hv11 hgg6
      obtain ⟨kd, cd, hdu⟩ := DDU.out HQU.out
      have D1 := Lib.hid hdu
      clear hdu
      obtain ⟨kd2, cd2, hdv⟩ := DDV.out (HB.out.1 HQU.out)
      have D2 := Lib.hid hdv
      clear hdv
      obtain ⟨k0, k1, k2, k3, k4, k5, k6, k7, k8⟩ := pkCells (HK11.out.tail.tail.tail.head)
      go_wp2_with fail
      clear k0 k1 k2 k3 k4 k5 k6 k7 k8
      refine (D1.out _).mono ?_
      rintro e ww12 ⟨rfl, B1⟩
      simp only []
      have HK12 := Lib.hid (HK11.out.call B1)
      clear B1
      go_upto_region 19 with (fail)
      obtain ⟨g7, hgg7⟩ : ∃ g, g = ww12.heap.size := ⟨_, rfl⟩
      obtain ⟨ww13, hv13⟩ : ∃ x, x = (World.alloc ww12 (.cells #[.int .u8 17, .bool false, .int .u64 h1, .int .u64 l1, .bool v2, .int .u64 h2, .int .u64 l2, .int .u16 f, .int .u16 tp, .int .u8 0, .int .u8 kd, .int .u8 cd, .int .i64 d.size] 41)) := ⟨_, rfl⟩
      have HK13 : Hid (KL [(g7, .cells #[.int .u8 17, .bool false, .int .u64 h1, .int .u64 l1, .bool v2, .int .u64 h2, .int .u64 l2, .int .u16 f, .int .u16 tp, .int .u8 0, .int .u8 kd, .int .u8 cd, .int .i64 d.size] 41), (g6, .cells #[.bool V.src.v6, .int .u64 V.src.hi, .int .u64 V.src.lo, .bool V.dst.v6, .int .u64 V.dst.hi, .int .u64 V.dst.lo, .int .u8 V.proto, .int .u8 V.ttl, .string V.data] 30), (g5, .cells #[.bool X.src.v6, .int .u64 X.src.hi, .int .u64 X.src.lo, .bool X.dst.v6, .int .u64 X.dst.hi, .int .u64 X.dst.lo, .int .u8 X.proto, .int .u8 X.ttl, .string X.data] 30), (g4, .cells #[.bool T.src.v6, .int .u64 T.src.hi, .int .u64 T.src.lo, .bool T.dst.v6, .int .u64 T.dst.hi, .int .u64 T.dst.lo, .int .u8 T.proto, .int .u8 T.ttl, .string T.data] 30), (g3, .cells #[.bool U.src.v6, .int .u64 U.src.hi, .int .u64 U.src.lo, .bool U.dst.v6, .int .u64 U.dst.hi, .int .u64 U.dst.lo, .int .u8 U.proto, .int .u8 U.ttl, .string U.data] 30), (g2, .cells #[.bool v2, .int .u64 h2, .int .u64 l2, .int .u16 tp] 27), (g1, .cells #[.bool false, .int .u64 h1, .int .u64 l1, .int .u16 f] 27)] w ww13) := by rw [hv13, hgg7]; exact Lib.hid (HK12.out.made (.cells #[.int .u8 17, .bool false, .int .u64 h1, .int .u64 l1, .bool v2, .int .u64 h2, .int .u64 l2, .int .u16 f, .int .u16 tp, .int .u8 0, .int .u8 kd, .int .u8 cd, .int .i64 d.size] 41))
      rw [← hv13]
      rw [← hgg7]
      clear hv13 hgg7
      obtain ⟨k0, k1, k2, k3, k4, k5, k6, k7, k8⟩ := pkCells (HK13.out.tail.head)
      go_wp2_with fail
      clear k0 k1 k2 k3 k4 k5 k6 k7 k8
      refine (D2.out _).mono ?_
      rintro e ww14 ⟨rfl, B1⟩
      simp only []
      have HK14 := Lib.hid (HK13.out.call B1)
      clear B1
      go_upto_region 20 with (fail)
      obtain ⟨g8, hgg8⟩ : ∃ g, g = ww14.heap.size := ⟨_, rfl⟩
      obtain ⟨ww15, hv15⟩ : ∃ x, x = (World.alloc ww14 (.cells #[.int .u8 17, .bool v2, .int .u64 h2, .int .u64 l2, .bool false, .int .u64 h1, .int .u64 l1, .int .u16 tp, .int .u16 f, .int .u8 0, .int .u8 kd2, .int .u8 cd2, .int .i64 d.size] 41)) := ⟨_, rfl⟩
      have HK15 : Hid (KL [(g8, .cells #[.int .u8 17, .bool v2, .int .u64 h2, .int .u64 l2, .bool false, .int .u64 h1, .int .u64 l1, .int .u16 tp, .int .u16 f, .int .u8 0, .int .u8 kd2, .int .u8 cd2, .int .i64 d.size] 41), (g7, .cells #[.int .u8 17, .bool false, .int .u64 h1, .int .u64 l1, .bool v2, .int .u64 h2, .int .u64 l2, .int .u16 f, .int .u16 tp, .int .u8 0, .int .u8 kd, .int .u8 cd, .int .i64 d.size] 41), (g6, .cells #[.bool V.src.v6, .int .u64 V.src.hi, .int .u64 V.src.lo, .bool V.dst.v6, .int .u64 V.dst.hi, .int .u64 V.dst.lo, .int .u8 V.proto, .int .u8 V.ttl, .string V.data] 30), (g5, .cells #[.bool X.src.v6, .int .u64 X.src.hi, .int .u64 X.src.lo, .bool X.dst.v6, .int .u64 X.dst.hi, .int .u64 X.dst.lo, .int .u8 X.proto, .int .u8 X.ttl, .string X.data] 30), (g4, .cells #[.bool T.src.v6, .int .u64 T.src.hi, .int .u64 T.src.lo, .bool T.dst.v6, .int .u64 T.dst.hi, .int .u64 T.dst.lo, .int .u8 T.proto, .int .u8 T.ttl, .string T.data] 30), (g3, .cells #[.bool U.src.v6, .int .u64 U.src.hi, .int .u64 U.src.lo, .bool U.dst.v6, .int .u64 U.dst.hi, .int .u64 U.dst.lo, .int .u8 U.proto, .int .u8 U.ttl, .string U.data] 30), (g2, .cells #[.bool v2, .int .u64 h2, .int .u64 l2, .int .u16 tp] 27), (g1, .cells #[.bool false, .int .u64 h1, .int .u64 l1, .int .u16 f] 27)] w ww15) := by rw [hv15, hgg8]; exact Lib.hid (HK14.out.made (.cells #[.int .u8 17, .bool v2, .int .u64 h2, .int .u64 l2, .bool false, .int .u64 h1, .int .u64 l1, .int .u16 tp, .int .u16 f, .int .u8 0, .int .u8 kd2, .int .u8 cd2, .int .i64 d.size] 41))
      rw [← hv15]
      rw [← hgg8]
      clear hv15 hgg8
      have HR := Lib.hid (show KL [(g8, .cells #[.int .u8 17, .bool v2, .int .u64 h2, .int .u64 l2, .bool false, .int .u64 h1, .int .u64 l1, .int .u16 tp, .int .u16 f, .int .u8 0, .int .u8 kd2, .int .u8 cd2, .int .i64 d.size] 41), (g7, .cells #[.int .u8 17, .bool false, .int .u64 h1, .int .u64 l1, .bool v2, .int .u64 h2, .int .u64 l2, .int .u16 f, .int .u16 tp, .int .u8 0, .int .u8 kd, .int .u8 cd, .int .i64 d.size] 41)] w ww15 from ⟨fun x hx => by
        rcases List.mem_cons.1 hx with rfl | hx
        · exact (HK15.out.head)
        · rcases List.mem_singleton.1 hx with rfl
          exact (HK15.out.tail.head), HK15.out.2⟩)
      refine wp_region_held_drew (S := fun u => KL [(g8, .cells #[.int .u8 17, .bool v2, .int .u64 h2, .int .u64 l2, .bool false, .int .u64 h1, .int .u64 l1, .int .u16 tp, .int .u16 f, .int .u8 0, .int .u8 kd2, .int .u8 cd2, .int .i64 d.size] 41), (g7, .cells #[.int .u8 17, .bool false, .int .u64 h1, .int .u64 l1, .bool v2, .int .u64 h2, .int .u64 l2, .int .u16 f, .int .u16 tp, .int .u8 0, .int .u8 kd, .int .u8 cd, .int .i64 d.size] 41)] w u) (by kernel_rfl) HR.out.drew (fun hHeld => ?_)
      refine wpAnyH_take (i := 0) (v := ?_) rfl (by kernel_rfl) (by kernel_rfl) (by kernel_rfl) (fun _ _ _ h => h) (Or.inl ⟨by rfl, ?_⟩) (by assumption) ?_
      rotate_left 1
      · (intro u hSw; clear hSw; go_simp; try (with_reducible rfl))
      try simp only [Act.put, List.getElem_toArray, List.getElem_cons_zero, List.getElem_cons_succ, List.setIfInBounds_toArray, List.set_cons_zero, List.set_cons_succ]
      refine wpAnyH_take (i := 1) (v := ?_) rfl (by kernel_rfl) (by kernel_rfl) (by kernel_rfl) (fun _ _ _ h => h) (Or.inl ⟨by rfl, ?_⟩) (by assumption) ?_
      rotate_left 1
      · (intro u hSw; clear hSw; go_simp; try (with_reducible rfl))
      try simp only [Act.put, List.getElem_toArray, List.getElem_cons_zero, List.getElem_cons_succ, List.setIfInBounds_toArray, List.set_cons_zero, List.set_cons_succ]
      refine wpAnyH_take (i := 2) (v := ?_) rfl (by kernel_rfl) (by kernel_rfl) (by kernel_rfl) (fun _ _ _ h => h) (Or.inl ⟨by rfl, ?_⟩) (by assumption) ?_
      rotate_left 1
      · (intro u hSw; clear hSw; go_simp; try (with_reducible rfl))
      try simp only [Act.put, List.getElem_toArray, List.getElem_cons_zero, List.getElem_cons_succ, List.setIfInBounds_toArray, List.set_cons_zero, List.set_cons_succ]
      refine wpAnyH_take (i := 3) (v := ?_) rfl (by kernel_rfl) (by kernel_rfl) (by kernel_rfl) (fun _ _ _ h => h) (Or.inl ⟨by rfl, ?_⟩) (by assumption) ?_
      rotate_left 1
      · (intro u hSw; clear hSw; go_simp; try (with_reducible rfl))
      try simp only [Act.put, List.getElem_toArray, List.getElem_cons_zero, List.getElem_cons_succ, List.setIfInBounds_toArray, List.set_cons_zero, List.set_cons_succ]
      refine wpAnyH_take (i := 4) (v := ?_) rfl (by kernel_rfl) (by kernel_rfl) (by kernel_rfl) (fun _ _ _ h => h) (Or.inl ⟨by rfl, ?_⟩) (by assumption) ?_
      rotate_left 1
      · (intro u hSw; have hSv := hSw; clear hSw; obtain ⟨⟨j0, j1, j2, j3, j4, j5, j6⟩, j7, j8, _⟩ := hdAll hSv.head; clear hSv; go_simp; try (with_reducible rfl))
      try simp only [Act.put, List.getElem_toArray, List.getElem_cons_zero, List.getElem_cons_succ, List.setIfInBounds_toArray, List.set_cons_zero, List.set_cons_succ]
      refine wpAnyH_take (i := 5) (v := ?_) rfl (by kernel_rfl) (by kernel_rfl) (by kernel_rfl) (fun _ _ _ h => h) (Or.inl ⟨by rfl, ?_⟩) (by assumption) ?_
      rotate_left 1
      · (intro u hSw; clear hSw; go_simp; try (with_reducible rfl))
      try simp only [Act.put, List.getElem_toArray, List.getElem_cons_zero, List.getElem_cons_succ, List.setIfInBounds_toArray, List.set_cons_zero, List.set_cons_succ]
      refine wpAnyH_take (i := 6) (v := ?_) rfl (by kernel_rfl) (by kernel_rfl) (by kernel_rfl) (fun _ _ _ h => h) (Or.inl ⟨by rfl, ?_⟩) (by assumption) ?_
      rotate_left 1
      · (intro u hSw; have hSv := hSw; clear hSw; obtain ⟨⟨j0, j1, j2, j3, j4, j5, j6⟩, j7, j8, _⟩ := hdAll hSv.tail.head; clear hSv; go_simp; try (with_reducible rfl))
      try simp only [Act.put, List.getElem_toArray, List.getElem_cons_zero, List.getElem_cons_succ, List.setIfInBounds_toArray, List.set_cons_zero, List.set_cons_succ]
      refine wpAnyH_ready (rs := [7]) (by kernel_rfl) (by simp) ?_
      refine AllReadyH.cons rfl (fun K hK => ?_) AllReadyH.nil
      have HS := Lib.hid hHeld
      clear hHeld
      go_simp
      refine (show Calls Try.prog 18 #[.agg #[.int .u8 17, .bool false, .int .u64 h1, .int .u64 l1, .bool v2, .int .u64 h2, .int .u64 l2, .int .u16 f, .int .u16 tp]] _ (fun e w' => e = .returned (.agg #[.int .u8 17, .bool v2, .int .u64 h2, .int .u64 l2, .bool false, .int .u64 h1, .int .u64 l1, .int .u16 tp, .int .u16 f]) ∧ Below _ _ w') from reverse_any ⟨17, ⟨false, h1, l1⟩, ⟨v2, h2, l2⟩, f, tp⟩ _).mono ?_
      rintro e w1 ⟨rfl, B1⟩
      simp only []
      refine hK.out _ _ (HS.out.call B1) (fun hHeld => ?_)
      clear hK K HS B1
      try simp only [Act.put, List.getElem_toArray, List.getElem_cons_zero, List.getElem_cons_succ, List.setIfInBounds_toArray, List.set_cons_zero, List.set_cons_succ]
      refine wpAnyH_take (i := 8) (v := ?_) rfl (by kernel_rfl) (by kernel_rfl) (by kernel_rfl) (fun _ _ _ h => h) (Or.inl ⟨by rfl, ?_⟩) (by assumption) ?_
      rotate_left 1
      · (intro u hSw; clear hSw; go_simp; try (with_reducible rfl))
      try simp only [Act.put, List.getElem_toArray, List.getElem_cons_zero, List.getElem_cons_succ, List.setIfInBounds_toArray, List.set_cons_zero, List.set_cons_succ]
      refine wpAnyH_take (i := 9) (v := ?_) rfl (by kernel_rfl) (by kernel_rfl) (by kernel_rfl) (fun _ _ _ h => h) (Or.inl ⟨by rfl, ?_⟩) (by assumption) ?_
      rotate_left 1
      · (intro u hSw; clear hSw; go_simp; try (with_reducible rfl))
      try simp only [Act.put, List.getElem_toArray, List.getElem_cons_zero, List.getElem_cons_succ, List.setIfInBounds_toArray, List.set_cons_zero, List.set_cons_succ]
      refine wpAnyH_take (i := 10) (v := ?_) rfl (by kernel_rfl) (by kernel_rfl) (by kernel_rfl) (fun _ _ _ h => h) (Or.inl ⟨by rfl, ?_⟩) (by assumption) ?_
      rotate_left 1
      · (intro u hSw; clear hSw; go_simp; try (with_reducible rfl))
      try simp only [Act.put, List.getElem_toArray, List.getElem_cons_zero, List.getElem_cons_succ, List.setIfInBounds_toArray, List.set_cons_zero, List.set_cons_succ]
      refine wpAnyH_take (i := 11) (v := ?_) rfl (by kernel_rfl) (by kernel_rfl) (by kernel_rfl) (fun _ _ _ h => h) (Or.inl ⟨by rfl, ?_⟩) (by assumption) ?_
      rotate_left 1
      · (intro u hSw; clear hSw; go_simp; try (with_reducible rfl))
      try simp only [Act.put, List.getElem_toArray, List.getElem_cons_zero, List.getElem_cons_succ, List.setIfInBounds_toArray, List.set_cons_zero, List.set_cons_succ]
      refine wpAnyH_take (i := 12) (v := ?_) rfl (by kernel_rfl) (by kernel_rfl) (by kernel_rfl) (fun _ _ _ h => h) (Or.inl ⟨by rfl, ?_⟩) (by assumption) ?_
      rotate_left 1
      · (intro u hSw; have hSv := hSw; clear hSw; obtain ⟨⟨j0, j1, j2, j3, j4, j5, j6⟩, j7, j8, _⟩ := hdAll hSv.head; clear hSv; go_simp; try (with_reducible rfl))
      try simp only [Act.put, List.getElem_toArray, List.getElem_cons_zero, List.getElem_cons_succ, List.setIfInBounds_toArray, List.set_cons_zero, List.set_cons_succ]
      refine wpAnyH_take (i := 14) (v := ?_) rfl (by kernel_rfl) (by kernel_rfl) (by kernel_rfl) (fun _ _ _ h => h) (Or.inl ⟨by rfl, ?_⟩) (by assumption) ?_
      rotate_left 1
      · (intro u hSw; clear hSw; go_simp; try (with_reducible rfl))
      try simp only [Act.put, List.getElem_toArray, List.getElem_cons_zero, List.getElem_cons_succ, List.setIfInBounds_toArray, List.set_cons_zero, List.set_cons_succ]
      refine wpAnyH_take (i := 15) (v := ?_) rfl (by kernel_rfl) (by kernel_rfl) (by kernel_rfl) (fun _ _ _ h => h) (Or.inl ⟨by rfl, ?_⟩) (by assumption) ?_
      rotate_left 1
      · (intro u hSw; have hSv := hSw; clear hSw; obtain ⟨⟨j0, j1, j2, j3, j4, j5, j6⟩, j7, j8, _⟩ := hdAll hSv.tail.head; clear hSv; go_simp; try (with_reducible rfl))
      try simp only [Act.put, List.getElem_toArray, List.getElem_cons_zero, List.getElem_cons_succ, List.setIfInBounds_toArray, List.set_cons_zero, List.set_cons_succ]
      refine wpAnyH_ready (rs := [13]) (by kernel_rfl) (by simp) ?_
      refine AllReadyH.cons rfl (fun K hK => ?_) AllReadyH.nil
      have HS := Lib.hid hHeld
      clear hHeld
      go_simp
      refine (show Calls Try.prog 18 #[.agg #[.int .u8 17, .bool v2, .int .u64 h2, .int .u64 l2, .bool false, .int .u64 h1, .int .u64 l1, .int .u16 tp, .int .u16 f]] _ (fun e w' => e = .returned (.agg #[.int .u8 17, .bool false, .int .u64 h1, .int .u64 l1, .bool v2, .int .u64 h2, .int .u64 l2, .int .u16 f, .int .u16 tp]) ∧ Below _ _ w') from reverse_any ⟨17, ⟨v2, h2, l2⟩, ⟨false, h1, l1⟩, tp, f⟩ _).mono ?_
      rintro e w1 ⟨rfl, B1⟩
      simp only []
      refine hK.out _ _ (HS.out.call B1) (fun hHeld => ?_)
      clear hK K HS B1
      try simp only [Act.put, List.getElem_toArray, List.getElem_cons_zero, List.getElem_cons_succ, List.setIfInBounds_toArray, List.set_cons_zero, List.set_cons_succ]
      refine wpAnyH_take (i := 16) (v := ?_) rfl (by kernel_rfl) (by kernel_rfl) (by kernel_rfl) (fun _ _ _ h => h) (Or.inl ⟨by rfl, ?_⟩) (by assumption) ?_
      rotate_left 1
      · (intro u hSw; clear hSw; go_simp; try (with_reducible rfl))
      try simp only [Act.put, List.getElem_toArray, List.getElem_cons_zero, List.getElem_cons_succ, List.setIfInBounds_toArray, List.set_cons_zero, List.set_cons_succ]
      refine wpAnyH_take (i := 17) (v := ?_) rfl (by kernel_rfl) (by kernel_rfl) (by kernel_rfl) (fun _ _ _ h => h) (Or.inl ⟨by rfl, ?_⟩) (by assumption) ?_
      rotate_left 1
      · (intro u hSw; clear hSw; go_simp; try (with_reducible rfl))
      try simp only [Act.put, List.getElem_toArray, List.getElem_cons_zero, List.getElem_cons_succ, List.setIfInBounds_toArray, List.set_cons_zero, List.set_cons_succ]
      refine wpAnyH_take (i := 18) (v := ?_) rfl (by kernel_rfl) (by kernel_rfl) (by kernel_rfl) (fun _ _ _ h => h) (Or.inl ⟨by rfl, ?_⟩) (by assumption) ?_
      rotate_left 1
      · (intro u hSw; clear hSw; go_simp; try (with_reducible rfl))
      try simp only [Act.put, List.getElem_toArray, List.getElem_cons_zero, List.getElem_cons_succ, List.setIfInBounds_toArray, List.set_cons_zero, List.set_cons_succ]
      refine wpAnyH_ready (rs := [19]) (by kernel_rfl) (by simp) ?_
      refine AllReadyH.cons rfl (fun K hK => ?_) AllReadyH.nil
      have HS := Lib.hid hHeld
      clear hHeld
      go_simp
      refine (works_any _).mono ?_
      rintro e w1 ⟨rfl, B1⟩
      simp only []
      refine hK.out _ _ (HS.out.call B1) (fun hHeld => ?_)
      clear hK K HS B1
      try simp only [Act.put, List.getElem_toArray, List.getElem_cons_zero, List.getElem_cons_succ, List.setIfInBounds_toArray, List.set_cons_zero, List.set_cons_succ]
      refine wpAnyH_take (i := 20) (v := ?_) rfl (by kernel_rfl) (by kernel_rfl) (by kernel_rfl) (fun _ _ _ h => h) (Or.inl ⟨by rfl, ?_⟩) (by assumption) ?_
      rotate_left 1
      · (intro u hSw; clear hSw; go_simp; try (with_reducible rfl))
      try simp only [Act.put, List.getElem_toArray, List.getElem_cons_zero, List.getElem_cons_succ, List.setIfInBounds_toArray, List.set_cons_zero, List.set_cons_succ]
      refine wpAnyH_take (i := 21) (v := ?_) rfl (by kernel_rfl) (by kernel_rfl) (by kernel_rfl) (fun _ _ _ h => h) (Or.inl ⟨by rfl, ?_⟩) (by assumption) ?_
      rotate_left 1
      · (intro u hSw; clear hSw; go_simp; try (with_reducible rfl))
      try simp only [Act.put, List.getElem_toArray, List.getElem_cons_zero, List.getElem_cons_succ, List.setIfInBounds_toArray, List.set_cons_zero, List.set_cons_succ]
      have HE := Lib.hid hHeld
      clear hHeld
      refine wpAnyH_done (by kernel_rfl) ?_ _
      try simp only [Act.put, List.getElem_toArray, List.getElem_cons_zero, List.getElem_cons_succ, List.setIfInBounds_toArray, List.set_cons_zero, List.set_cons_succ]
      go_wp2_with fail
      go_ret
      exact ⟨rfl, HE.out.2⟩
    · have cX : ((EX : Int) == 0) = false := beq_eq_false_iff_ne.2 qX
      clear qX
      have cU2 : ((EU : Int) != 0) = false := by rw [HQU.out]; rfl
      go_upto_region 17 with (fail)
      clear cU2
      have c8 := Lib.hid (show ∀ u, Calls Try.prog 8 #[.agg #[.bool v2, .int .u64 h2, .int .u64 l2, .int .u16 tp], .agg #[.bool false, .int .u64 h1, .int .u64 l1, .int .u16 f], .string d] u fun e w' => e = .returned (.tuple #[.agg #[.bool V.src.v6, .int .u64 V.src.hi, .int .u64 V.src.lo, .bool V.dst.v6, .int .u64 V.dst.hi, .int .u64 V.dst.lo, .int .u8 V.proto, .int .u8 V.ttl, .string V.data], .int .i64 0]) ∧ Below u.heap.size u w' from fun u => by
        have h := MMV.out u
        rw [HB.out.1 HQU.out] at h
        exact h)
      obtain ⟨a0, a1, a2, a3⟩ := epCells (HK8.out.tail.tail.tail.tail.head)
      obtain ⟨b0, b1, b2, b3⟩ := epCells (HK8.out.tail.tail.tail.head)
      go_wp2_with fail
      clear a0 a1 a2 a3 b0 b1 b2 b3
      refine (c8.out _).mono ?_
      rintro e ww9 ⟨rfl, B1⟩
      simp only []
      have HK9 := Lib.hid (HK8.out.call B1)
      clear B1
      go_upto_region 18 with (fail)
      obtain ⟨g6, hgg6⟩ : ∃ g, g = ww9.heap.size := ⟨_, rfl⟩
      obtain ⟨ww10, hv10⟩ : ∃ x, x = (World.alloc ww9 (.cells #[.bool V.src.v6, .int .u64 V.src.hi, .int .u64 V.src.lo, .bool V.dst.v6, .int .u64 V.dst.hi, .int .u64 V.dst.lo, .int .u8 V.proto, .int .u8 V.ttl, .string V.data] 30)) := ⟨_, rfl⟩
      have HK10 : Hid (KL [(g6, .cells #[.bool V.src.v6, .int .u64 V.src.hi, .int .u64 V.src.lo, .bool V.dst.v6, .int .u64 V.dst.hi, .int .u64 V.dst.lo, .int .u8 V.proto, .int .u8 V.ttl, .string V.data] 30), (g5, .cells #[.bool X.src.v6, .int .u64 X.src.hi, .int .u64 X.src.lo, .bool X.dst.v6, .int .u64 X.dst.hi, .int .u64 X.dst.lo, .int .u8 X.proto, .int .u8 X.ttl, .string X.data] 30), (g4, .cells #[.bool T.src.v6, .int .u64 T.src.hi, .int .u64 T.src.lo, .bool T.dst.v6, .int .u64 T.dst.hi, .int .u64 T.dst.lo, .int .u8 T.proto, .int .u8 T.ttl, .string T.data] 30), (g3, .cells #[.bool U.src.v6, .int .u64 U.src.hi, .int .u64 U.src.lo, .bool U.dst.v6, .int .u64 U.dst.hi, .int .u64 U.dst.lo, .int .u8 U.proto, .int .u8 U.ttl, .string U.data] 30), (g2, .cells #[.bool v2, .int .u64 h2, .int .u64 l2, .int .u16 tp] 27), (g1, .cells #[.bool false, .int .u64 h1, .int .u64 l1, .int .u16 f] 27)] w ww10) := by rw [hv10, hgg6]; exact Lib.hid (HK9.out.made (.cells #[.bool V.src.v6, .int .u64 V.src.hi, .int .u64 V.src.lo, .bool V.dst.v6, .int .u64 V.dst.hi, .int .u64 V.dst.lo, .int .u8 V.proto, .int .u8 V.ttl, .string V.data] 30))
      rw [← hv10]
      rw [← hgg6]
      clear hv10 hgg6
      obtain ⟨kd, cd, hdu⟩ := DDU.out HQU.out
      have D1 := Lib.hid hdu
      clear hdu
      obtain ⟨kd2, cd2, hdv⟩ := DDV.out (HB.out.1 HQU.out)
      have D2 := Lib.hid hdv
      clear hdv
      obtain ⟨k0, k1, k2, k3, k4, k5, k6, k7, k8⟩ := pkCells (HK10.out.tail.tail.tail.head)
      go_wp2_with fail
      clear k0 k1 k2 k3 k4 k5 k6 k7 k8
      refine (D1.out _).mono ?_
      rintro e ww11 ⟨rfl, B1⟩
      simp only []
      have HK11 := Lib.hid (HK10.out.call B1)
      clear B1
      go_upto_region 19 with (fail)
      obtain ⟨g7, hgg7⟩ : ∃ g, g = ww11.heap.size := ⟨_, rfl⟩
      obtain ⟨ww12, hv12⟩ : ∃ x, x = (World.alloc ww11 (.cells #[.int .u8 17, .bool false, .int .u64 h1, .int .u64 l1, .bool v2, .int .u64 h2, .int .u64 l2, .int .u16 f, .int .u16 tp, .int .u8 0, .int .u8 kd, .int .u8 cd, .int .i64 d.size] 41)) := ⟨_, rfl⟩
      have HK12 : Hid (KL [(g7, .cells #[.int .u8 17, .bool false, .int .u64 h1, .int .u64 l1, .bool v2, .int .u64 h2, .int .u64 l2, .int .u16 f, .int .u16 tp, .int .u8 0, .int .u8 kd, .int .u8 cd, .int .i64 d.size] 41), (g6, .cells #[.bool V.src.v6, .int .u64 V.src.hi, .int .u64 V.src.lo, .bool V.dst.v6, .int .u64 V.dst.hi, .int .u64 V.dst.lo, .int .u8 V.proto, .int .u8 V.ttl, .string V.data] 30), (g5, .cells #[.bool X.src.v6, .int .u64 X.src.hi, .int .u64 X.src.lo, .bool X.dst.v6, .int .u64 X.dst.hi, .int .u64 X.dst.lo, .int .u8 X.proto, .int .u8 X.ttl, .string X.data] 30), (g4, .cells #[.bool T.src.v6, .int .u64 T.src.hi, .int .u64 T.src.lo, .bool T.dst.v6, .int .u64 T.dst.hi, .int .u64 T.dst.lo, .int .u8 T.proto, .int .u8 T.ttl, .string T.data] 30), (g3, .cells #[.bool U.src.v6, .int .u64 U.src.hi, .int .u64 U.src.lo, .bool U.dst.v6, .int .u64 U.dst.hi, .int .u64 U.dst.lo, .int .u8 U.proto, .int .u8 U.ttl, .string U.data] 30), (g2, .cells #[.bool v2, .int .u64 h2, .int .u64 l2, .int .u16 tp] 27), (g1, .cells #[.bool false, .int .u64 h1, .int .u64 l1, .int .u16 f] 27)] w ww12) := by rw [hv12, hgg7]; exact Lib.hid (HK11.out.made (.cells #[.int .u8 17, .bool false, .int .u64 h1, .int .u64 l1, .bool v2, .int .u64 h2, .int .u64 l2, .int .u16 f, .int .u16 tp, .int .u8 0, .int .u8 kd, .int .u8 cd, .int .i64 d.size] 41))
      rw [← hv12]
      rw [← hgg7]
      clear hv12 hgg7
      obtain ⟨k0, k1, k2, k3, k4, k5, k6, k7, k8⟩ := pkCells (HK12.out.tail.head)
      go_wp2_with fail
      clear k0 k1 k2 k3 k4 k5 k6 k7 k8
      refine (D2.out _).mono ?_
      rintro e ww13 ⟨rfl, B1⟩
      simp only []
      have HK13 := Lib.hid (HK12.out.call B1)
      clear B1
      go_upto_region 20 with (fail)
      obtain ⟨g8, hgg8⟩ : ∃ g, g = ww13.heap.size := ⟨_, rfl⟩
      obtain ⟨ww14, hv14⟩ : ∃ x, x = (World.alloc ww13 (.cells #[.int .u8 17, .bool v2, .int .u64 h2, .int .u64 l2, .bool false, .int .u64 h1, .int .u64 l1, .int .u16 tp, .int .u16 f, .int .u8 0, .int .u8 kd2, .int .u8 cd2, .int .i64 d.size] 41)) := ⟨_, rfl⟩
      have HK14 : Hid (KL [(g8, .cells #[.int .u8 17, .bool v2, .int .u64 h2, .int .u64 l2, .bool false, .int .u64 h1, .int .u64 l1, .int .u16 tp, .int .u16 f, .int .u8 0, .int .u8 kd2, .int .u8 cd2, .int .i64 d.size] 41), (g7, .cells #[.int .u8 17, .bool false, .int .u64 h1, .int .u64 l1, .bool v2, .int .u64 h2, .int .u64 l2, .int .u16 f, .int .u16 tp, .int .u8 0, .int .u8 kd, .int .u8 cd, .int .i64 d.size] 41), (g6, .cells #[.bool V.src.v6, .int .u64 V.src.hi, .int .u64 V.src.lo, .bool V.dst.v6, .int .u64 V.dst.hi, .int .u64 V.dst.lo, .int .u8 V.proto, .int .u8 V.ttl, .string V.data] 30), (g5, .cells #[.bool X.src.v6, .int .u64 X.src.hi, .int .u64 X.src.lo, .bool X.dst.v6, .int .u64 X.dst.hi, .int .u64 X.dst.lo, .int .u8 X.proto, .int .u8 X.ttl, .string X.data] 30), (g4, .cells #[.bool T.src.v6, .int .u64 T.src.hi, .int .u64 T.src.lo, .bool T.dst.v6, .int .u64 T.dst.hi, .int .u64 T.dst.lo, .int .u8 T.proto, .int .u8 T.ttl, .string T.data] 30), (g3, .cells #[.bool U.src.v6, .int .u64 U.src.hi, .int .u64 U.src.lo, .bool U.dst.v6, .int .u64 U.dst.hi, .int .u64 U.dst.lo, .int .u8 U.proto, .int .u8 U.ttl, .string U.data] 30), (g2, .cells #[.bool v2, .int .u64 h2, .int .u64 l2, .int .u16 tp] 27), (g1, .cells #[.bool false, .int .u64 h1, .int .u64 l1, .int .u16 f] 27)] w ww14) := by rw [hv14, hgg8]; exact Lib.hid (HK13.out.made (.cells #[.int .u8 17, .bool v2, .int .u64 h2, .int .u64 l2, .bool false, .int .u64 h1, .int .u64 l1, .int .u16 tp, .int .u16 f, .int .u8 0, .int .u8 kd2, .int .u8 cd2, .int .i64 d.size] 41))
      rw [← hv14]
      rw [← hgg8]
      clear hv14 hgg8
      have HR := Lib.hid (show KL [(g8, .cells #[.int .u8 17, .bool v2, .int .u64 h2, .int .u64 l2, .bool false, .int .u64 h1, .int .u64 l1, .int .u16 tp, .int .u16 f, .int .u8 0, .int .u8 kd2, .int .u8 cd2, .int .i64 d.size] 41), (g7, .cells #[.int .u8 17, .bool false, .int .u64 h1, .int .u64 l1, .bool v2, .int .u64 h2, .int .u64 l2, .int .u16 f, .int .u16 tp, .int .u8 0, .int .u8 kd, .int .u8 cd, .int .i64 d.size] 41)] w ww14 from ⟨fun x hx => by
        rcases List.mem_cons.1 hx with rfl | hx
        · exact (HK14.out.head)
        · rcases List.mem_singleton.1 hx with rfl
          exact (HK14.out.tail.head), HK14.out.2⟩)
      refine wp_region_held_drew (S := fun u => KL [(g8, .cells #[.int .u8 17, .bool v2, .int .u64 h2, .int .u64 l2, .bool false, .int .u64 h1, .int .u64 l1, .int .u16 tp, .int .u16 f, .int .u8 0, .int .u8 kd2, .int .u8 cd2, .int .i64 d.size] 41), (g7, .cells #[.int .u8 17, .bool false, .int .u64 h1, .int .u64 l1, .bool v2, .int .u64 h2, .int .u64 l2, .int .u16 f, .int .u16 tp, .int .u8 0, .int .u8 kd, .int .u8 cd, .int .i64 d.size] 41)] w u) (by kernel_rfl) HR.out.drew (fun hHeld => ?_)
      refine wpAnyH_take (i := 0) (v := ?_) rfl (by kernel_rfl) (by kernel_rfl) (by kernel_rfl) (fun _ _ _ h => h) (Or.inl ⟨by rfl, ?_⟩) (by assumption) ?_
      rotate_left 1
      · (intro u hSw; clear hSw; go_simp; try (with_reducible rfl))
      try simp only [Act.put, List.getElem_toArray, List.getElem_cons_zero, List.getElem_cons_succ, List.setIfInBounds_toArray, List.set_cons_zero, List.set_cons_succ]
      refine wpAnyH_take (i := 1) (v := ?_) rfl (by kernel_rfl) (by kernel_rfl) (by kernel_rfl) (fun _ _ _ h => h) (Or.inl ⟨by rfl, ?_⟩) (by assumption) ?_
      rotate_left 1
      · (intro u hSw; clear hSw; go_simp; try (with_reducible rfl))
      try simp only [Act.put, List.getElem_toArray, List.getElem_cons_zero, List.getElem_cons_succ, List.setIfInBounds_toArray, List.set_cons_zero, List.set_cons_succ]
      refine wpAnyH_take (i := 2) (v := ?_) rfl (by kernel_rfl) (by kernel_rfl) (by kernel_rfl) (fun _ _ _ h => h) (Or.inl ⟨by rfl, ?_⟩) (by assumption) ?_
      rotate_left 1
      · (intro u hSw; clear hSw; go_simp; try (with_reducible rfl))
      try simp only [Act.put, List.getElem_toArray, List.getElem_cons_zero, List.getElem_cons_succ, List.setIfInBounds_toArray, List.set_cons_zero, List.set_cons_succ]
      refine wpAnyH_take (i := 3) (v := ?_) rfl (by kernel_rfl) (by kernel_rfl) (by kernel_rfl) (fun _ _ _ h => h) (Or.inl ⟨by rfl, ?_⟩) (by assumption) ?_
      rotate_left 1
      · (intro u hSw; clear hSw; go_simp; try (with_reducible rfl))
      try simp only [Act.put, List.getElem_toArray, List.getElem_cons_zero, List.getElem_cons_succ, List.setIfInBounds_toArray, List.set_cons_zero, List.set_cons_succ]
      refine wpAnyH_take (i := 4) (v := ?_) rfl (by kernel_rfl) (by kernel_rfl) (by kernel_rfl) (fun _ _ _ h => h) (Or.inl ⟨by rfl, ?_⟩) (by assumption) ?_
      rotate_left 1
      · (intro u hSw; have hSv := hSw; clear hSw; obtain ⟨⟨j0, j1, j2, j3, j4, j5, j6⟩, j7, j8, _⟩ := hdAll hSv.head; clear hSv; go_simp; try (with_reducible rfl))
      try simp only [Act.put, List.getElem_toArray, List.getElem_cons_zero, List.getElem_cons_succ, List.setIfInBounds_toArray, List.set_cons_zero, List.set_cons_succ]
      refine wpAnyH_take (i := 5) (v := ?_) rfl (by kernel_rfl) (by kernel_rfl) (by kernel_rfl) (fun _ _ _ h => h) (Or.inl ⟨by rfl, ?_⟩) (by assumption) ?_
      rotate_left 1
      · (intro u hSw; clear hSw; go_simp; try (with_reducible rfl))
      try simp only [Act.put, List.getElem_toArray, List.getElem_cons_zero, List.getElem_cons_succ, List.setIfInBounds_toArray, List.set_cons_zero, List.set_cons_succ]
      refine wpAnyH_take (i := 6) (v := ?_) rfl (by kernel_rfl) (by kernel_rfl) (by kernel_rfl) (fun _ _ _ h => h) (Or.inl ⟨by rfl, ?_⟩) (by assumption) ?_
      rotate_left 1
      · (intro u hSw; have hSv := hSw; clear hSw; obtain ⟨⟨j0, j1, j2, j3, j4, j5, j6⟩, j7, j8, _⟩ := hdAll hSv.tail.head; clear hSv; go_simp; try (with_reducible rfl))
      try simp only [Act.put, List.getElem_toArray, List.getElem_cons_zero, List.getElem_cons_succ, List.setIfInBounds_toArray, List.set_cons_zero, List.set_cons_succ]
      refine wpAnyH_ready (rs := [7]) (by kernel_rfl) (by simp) ?_
      refine AllReadyH.cons rfl (fun K hK => ?_) AllReadyH.nil
      have HS := Lib.hid hHeld
      clear hHeld
      go_simp
      refine (show Calls Try.prog 18 #[.agg #[.int .u8 17, .bool false, .int .u64 h1, .int .u64 l1, .bool v2, .int .u64 h2, .int .u64 l2, .int .u16 f, .int .u16 tp]] _ (fun e w' => e = .returned (.agg #[.int .u8 17, .bool v2, .int .u64 h2, .int .u64 l2, .bool false, .int .u64 h1, .int .u64 l1, .int .u16 tp, .int .u16 f]) ∧ Below _ _ w') from reverse_any ⟨17, ⟨false, h1, l1⟩, ⟨v2, h2, l2⟩, f, tp⟩ _).mono ?_
      rintro e w1 ⟨rfl, B1⟩
      simp only []
      refine hK.out _ _ (HS.out.call B1) (fun hHeld => ?_)
      clear hK K HS B1
      try simp only [Act.put, List.getElem_toArray, List.getElem_cons_zero, List.getElem_cons_succ, List.setIfInBounds_toArray, List.set_cons_zero, List.set_cons_succ]
      refine wpAnyH_take (i := 8) (v := ?_) rfl (by kernel_rfl) (by kernel_rfl) (by kernel_rfl) (fun _ _ _ h => h) (Or.inl ⟨by rfl, ?_⟩) (by assumption) ?_
      rotate_left 1
      · (intro u hSw; clear hSw; go_simp; try (with_reducible rfl))
      try simp only [Act.put, List.getElem_toArray, List.getElem_cons_zero, List.getElem_cons_succ, List.setIfInBounds_toArray, List.set_cons_zero, List.set_cons_succ]
      refine wpAnyH_take (i := 9) (v := ?_) rfl (by kernel_rfl) (by kernel_rfl) (by kernel_rfl) (fun _ _ _ h => h) (Or.inl ⟨by rfl, ?_⟩) (by assumption) ?_
      rotate_left 1
      · (intro u hSw; clear hSw; go_simp; try (with_reducible rfl))
      try simp only [Act.put, List.getElem_toArray, List.getElem_cons_zero, List.getElem_cons_succ, List.setIfInBounds_toArray, List.set_cons_zero, List.set_cons_succ]
      refine wpAnyH_take (i := 10) (v := ?_) rfl (by kernel_rfl) (by kernel_rfl) (by kernel_rfl) (fun _ _ _ h => h) (Or.inl ⟨by rfl, ?_⟩) (by assumption) ?_
      rotate_left 1
      · (intro u hSw; clear hSw; go_simp; try (with_reducible rfl))
      try simp only [Act.put, List.getElem_toArray, List.getElem_cons_zero, List.getElem_cons_succ, List.setIfInBounds_toArray, List.set_cons_zero, List.set_cons_succ]
      refine wpAnyH_take (i := 11) (v := ?_) rfl (by kernel_rfl) (by kernel_rfl) (by kernel_rfl) (fun _ _ _ h => h) (Or.inl ⟨by rfl, ?_⟩) (by assumption) ?_
      rotate_left 1
      · (intro u hSw; clear hSw; go_simp; try (with_reducible rfl))
      try simp only [Act.put, List.getElem_toArray, List.getElem_cons_zero, List.getElem_cons_succ, List.setIfInBounds_toArray, List.set_cons_zero, List.set_cons_succ]
      refine wpAnyH_take (i := 12) (v := ?_) rfl (by kernel_rfl) (by kernel_rfl) (by kernel_rfl) (fun _ _ _ h => h) (Or.inl ⟨by rfl, ?_⟩) (by assumption) ?_
      rotate_left 1
      · (intro u hSw; have hSv := hSw; clear hSw; obtain ⟨⟨j0, j1, j2, j3, j4, j5, j6⟩, j7, j8, _⟩ := hdAll hSv.head; clear hSv; go_simp; try (with_reducible rfl))
      try simp only [Act.put, List.getElem_toArray, List.getElem_cons_zero, List.getElem_cons_succ, List.setIfInBounds_toArray, List.set_cons_zero, List.set_cons_succ]
      refine wpAnyH_take (i := 14) (v := ?_) rfl (by kernel_rfl) (by kernel_rfl) (by kernel_rfl) (fun _ _ _ h => h) (Or.inl ⟨by rfl, ?_⟩) (by assumption) ?_
      rotate_left 1
      · (intro u hSw; clear hSw; go_simp; try (with_reducible rfl))
      try simp only [Act.put, List.getElem_toArray, List.getElem_cons_zero, List.getElem_cons_succ, List.setIfInBounds_toArray, List.set_cons_zero, List.set_cons_succ]
      refine wpAnyH_take (i := 15) (v := ?_) rfl (by kernel_rfl) (by kernel_rfl) (by kernel_rfl) (fun _ _ _ h => h) (Or.inl ⟨by rfl, ?_⟩) (by assumption) ?_
      rotate_left 1
      · (intro u hSw; have hSv := hSw; clear hSw; obtain ⟨⟨j0, j1, j2, j3, j4, j5, j6⟩, j7, j8, _⟩ := hdAll hSv.tail.head; clear hSv; go_simp; try (with_reducible rfl))
      try simp only [Act.put, List.getElem_toArray, List.getElem_cons_zero, List.getElem_cons_succ, List.setIfInBounds_toArray, List.set_cons_zero, List.set_cons_succ]
      refine wpAnyH_ready (rs := [13]) (by kernel_rfl) (by simp) ?_
      refine AllReadyH.cons rfl (fun K hK => ?_) AllReadyH.nil
      have HS := Lib.hid hHeld
      clear hHeld
      go_simp
      refine (show Calls Try.prog 18 #[.agg #[.int .u8 17, .bool v2, .int .u64 h2, .int .u64 l2, .bool false, .int .u64 h1, .int .u64 l1, .int .u16 tp, .int .u16 f]] _ (fun e w' => e = .returned (.agg #[.int .u8 17, .bool false, .int .u64 h1, .int .u64 l1, .bool v2, .int .u64 h2, .int .u64 l2, .int .u16 f, .int .u16 tp]) ∧ Below _ _ w') from reverse_any ⟨17, ⟨v2, h2, l2⟩, ⟨false, h1, l1⟩, tp, f⟩ _).mono ?_
      rintro e w1 ⟨rfl, B1⟩
      simp only []
      refine hK.out _ _ (HS.out.call B1) (fun hHeld => ?_)
      clear hK K HS B1
      try simp only [Act.put, List.getElem_toArray, List.getElem_cons_zero, List.getElem_cons_succ, List.setIfInBounds_toArray, List.set_cons_zero, List.set_cons_succ]
      refine wpAnyH_take (i := 16) (v := ?_) rfl (by kernel_rfl) (by kernel_rfl) (by kernel_rfl) (fun _ _ _ h => h) (Or.inl ⟨by rfl, ?_⟩) (by assumption) ?_
      rotate_left 1
      · (intro u hSw; clear hSw; go_simp; try (with_reducible rfl))
      try simp only [Act.put, List.getElem_toArray, List.getElem_cons_zero, List.getElem_cons_succ, List.setIfInBounds_toArray, List.set_cons_zero, List.set_cons_succ]
      refine wpAnyH_take (i := 17) (v := ?_) rfl (by kernel_rfl) (by kernel_rfl) (by kernel_rfl) (fun _ _ _ h => h) (Or.inl ⟨by rfl, ?_⟩) (by assumption) ?_
      rotate_left 1
      · (intro u hSw; clear hSw; go_simp; try (with_reducible rfl))
      try simp only [Act.put, List.getElem_toArray, List.getElem_cons_zero, List.getElem_cons_succ, List.setIfInBounds_toArray, List.set_cons_zero, List.set_cons_succ]
      refine wpAnyH_take (i := 18) (v := ?_) rfl (by kernel_rfl) (by kernel_rfl) (by kernel_rfl) (fun _ _ _ h => h) (Or.inl ⟨by rfl, ?_⟩) (by assumption) ?_
      rotate_left 1
      · (intro u hSw; clear hSw; go_simp; try (with_reducible rfl))
      try simp only [Act.put, List.getElem_toArray, List.getElem_cons_zero, List.getElem_cons_succ, List.setIfInBounds_toArray, List.set_cons_zero, List.set_cons_succ]
      refine wpAnyH_ready (rs := [19]) (by kernel_rfl) (by simp) ?_
      refine AllReadyH.cons rfl (fun K hK => ?_) AllReadyH.nil
      have HS := Lib.hid hHeld
      clear hHeld
      go_simp
      refine (works_any _).mono ?_
      rintro e w1 ⟨rfl, B1⟩
      simp only []
      refine hK.out _ _ (HS.out.call B1) (fun hHeld => ?_)
      clear hK K HS B1
      try simp only [Act.put, List.getElem_toArray, List.getElem_cons_zero, List.getElem_cons_succ, List.setIfInBounds_toArray, List.set_cons_zero, List.set_cons_succ]
      refine wpAnyH_take (i := 20) (v := ?_) rfl (by kernel_rfl) (by kernel_rfl) (by kernel_rfl) (fun _ _ _ h => h) (Or.inl ⟨by rfl, ?_⟩) (by assumption) ?_
      rotate_left 1
      · (intro u hSw; clear hSw; go_simp; try (with_reducible rfl))
      try simp only [Act.put, List.getElem_toArray, List.getElem_cons_zero, List.getElem_cons_succ, List.setIfInBounds_toArray, List.set_cons_zero, List.set_cons_succ]
      refine wpAnyH_take (i := 21) (v := ?_) rfl (by kernel_rfl) (by kernel_rfl) (by kernel_rfl) (fun _ _ _ h => h) (Or.inl ⟨by rfl, ?_⟩) (by assumption) ?_
      rotate_left 1
      · (intro u hSw; clear hSw; go_simp; try (with_reducible rfl))
      try simp only [Act.put, List.getElem_toArray, List.getElem_cons_zero, List.getElem_cons_succ, List.setIfInBounds_toArray, List.set_cons_zero, List.set_cons_succ]
      have HE := Lib.hid hHeld
      clear hHeld
      refine wpAnyH_done (by kernel_rfl) ?_ _
      try simp only [Act.put, List.getElem_toArray, List.getElem_cons_zero, List.getElem_cons_succ, List.setIfInBounds_toArray, List.set_cons_zero, List.set_cons_succ]
      go_wp2_with fail
      go_ret
      exact ⟨rfl, HE.out.2⟩
  · obtain ⟨a0, a1, a2, a3⟩ := epCells (HK8.out.tail.tail.tail.tail.head)
    obtain ⟨b0, b1, b2, b3⟩ := epCells (HK8.out.tail.tail.tail.head)
    go_upto_region 13 with (fail)
    clear a0 a1 a2 a3 b0 b1 b2 b3
    by_cases qX : EX = 0
    · have cX : ((EX : Int) == 0) = true := by rw [qX]; rfl
      have CCX := Lib.hid (show ∀ u, Calls Try.prog 20 #[.agg #[.bool X.src.v6, .int .u64 X.src.hi, .int .u64 X.src.lo, .bool X.dst.v6, .int .u64 X.dst.hi, .int .u64 X.dst.lo, .int .u8 X.proto, .int .u8 X.ttl, .string X.data], .agg #[.int .u8 58, .bool true, .int .u64 h1, .int .u64 l1, .bool v2, .int .u64 h2, .int .u64 l2, .int .u16 id, .int .u16 id], .int .u8 0, .int .i64 d.size] u fun e w' => e = .returned (.bool true) ∧ Below u.heap.size u w' from TTX.out qX)
      clear qX
      obtain ⟨k0, k1, k2, k3, k4, k5, k6, k7, k8⟩ := pkCells (HK8.out.head)
      obtain ⟨a0, a1, a2, a3⟩ := epCells (HK8.out.tail.tail.tail.tail.head)
      obtain ⟨b0, b1, b2, b3⟩ := epCells (HK8.out.tail.tail.tail.head)
      go_wp2_with fail
      clear a0 a1 a2 a3 b0 b1 b2 b3
      clear k0 k1 k2 k3 k4 k5 k6 k7 k8
      refine (CCX.out _).mono ?_
      rintro e ww9 ⟨rfl, B1⟩
      simp only []
      have HK9 := Lib.hid (HK8.out.call B1)
      clear B1
      have cU2 : ((EU : Int) != 0) = false := by rw [HQU.out]; rfl
      go_upto_region 17 with (fail)
      clear cU2
      have c8 := Lib.hid (show ∀ u, Calls Try.prog 8 #[.agg #[.bool v2, .int .u64 h2, .int .u64 l2, .int .u16 tp], .agg #[.bool true, .int .u64 h1, .int .u64 l1, .int .u16 f], .string d] u fun e w' => e = .returned (.tuple #[.agg #[.bool V.src.v6, .int .u64 V.src.hi, .int .u64 V.src.lo, .bool V.dst.v6, .int .u64 V.dst.hi, .int .u64 V.dst.lo, .int .u8 V.proto, .int .u8 V.ttl, .string V.data], .int .i64 0]) ∧ Below u.heap.size u w' from fun u => by
        have h := MMV.out u
        rw [HB.out.1 HQU.out] at h
        exact h)
      obtain ⟨a0, a1, a2, a3⟩ := epCells (HK9.out.tail.tail.tail.tail.head)
      obtain ⟨b0, b1, b2, b3⟩ := epCells (HK9.out.tail.tail.tail.head)
      go_wp2_with fail
      clear a0 a1 a2 a3 b0 b1 b2 b3
      refine (c8.out _).mono ?_
      rintro e ww10 ⟨rfl, B1⟩
      simp only []
      have HK10 := Lib.hid (HK9.out.call B1)
      clear B1
      go_upto_region 18 with (fail)
      obtain ⟨g6, hgg6⟩ : ∃ g, g = ww10.heap.size := ⟨_, rfl⟩
      obtain ⟨ww11, hv11⟩ : ∃ x, x = (World.alloc ww10 (.cells #[.bool V.src.v6, .int .u64 V.src.hi, .int .u64 V.src.lo, .bool V.dst.v6, .int .u64 V.dst.hi, .int .u64 V.dst.lo, .int .u8 V.proto, .int .u8 V.ttl, .string V.data] 30)) := ⟨_, rfl⟩
      have HK11 : Hid (KL [(g6, .cells #[.bool V.src.v6, .int .u64 V.src.hi, .int .u64 V.src.lo, .bool V.dst.v6, .int .u64 V.dst.hi, .int .u64 V.dst.lo, .int .u8 V.proto, .int .u8 V.ttl, .string V.data] 30), (g5, .cells #[.bool X.src.v6, .int .u64 X.src.hi, .int .u64 X.src.lo, .bool X.dst.v6, .int .u64 X.dst.hi, .int .u64 X.dst.lo, .int .u8 X.proto, .int .u8 X.ttl, .string X.data] 30), (g4, .cells #[.bool T.src.v6, .int .u64 T.src.hi, .int .u64 T.src.lo, .bool T.dst.v6, .int .u64 T.dst.hi, .int .u64 T.dst.lo, .int .u8 T.proto, .int .u8 T.ttl, .string T.data] 30), (g3, .cells #[.bool U.src.v6, .int .u64 U.src.hi, .int .u64 U.src.lo, .bool U.dst.v6, .int .u64 U.dst.hi, .int .u64 U.dst.lo, .int .u8 U.proto, .int .u8 U.ttl, .string U.data] 30), (g2, .cells #[.bool v2, .int .u64 h2, .int .u64 l2, .int .u16 tp] 27), (g1, .cells #[.bool true, .int .u64 h1, .int .u64 l1, .int .u16 f] 27)] w ww11) := by rw [hv11, hgg6]; exact Lib.hid (HK10.out.made (.cells #[.bool V.src.v6, .int .u64 V.src.hi, .int .u64 V.src.lo, .bool V.dst.v6, .int .u64 V.dst.hi, .int .u64 V.dst.lo, .int .u8 V.proto, .int .u8 V.ttl, .string V.data] 30))
      rw [← hv11]
      rw [← hgg6]
      clear hv11 hgg6
      obtain ⟨kd, cd, hdu⟩ := DDU.out HQU.out
      have D1 := Lib.hid hdu
      clear hdu
      obtain ⟨kd2, cd2, hdv⟩ := DDV.out (HB.out.1 HQU.out)
      have D2 := Lib.hid hdv
      clear hdv
      obtain ⟨k0, k1, k2, k3, k4, k5, k6, k7, k8⟩ := pkCells (HK11.out.tail.tail.tail.head)
      go_wp2_with fail
      clear k0 k1 k2 k3 k4 k5 k6 k7 k8
      refine (D1.out _).mono ?_
      rintro e ww12 ⟨rfl, B1⟩
      simp only []
      have HK12 := Lib.hid (HK11.out.call B1)
      clear B1
      go_upto_region 19 with (fail)
      obtain ⟨g7, hgg7⟩ : ∃ g, g = ww12.heap.size := ⟨_, rfl⟩
      obtain ⟨ww13, hv13⟩ : ∃ x, x = (World.alloc ww12 (.cells #[.int .u8 17, .bool true, .int .u64 h1, .int .u64 l1, .bool v2, .int .u64 h2, .int .u64 l2, .int .u16 f, .int .u16 tp, .int .u8 0, .int .u8 kd, .int .u8 cd, .int .i64 d.size] 41)) := ⟨_, rfl⟩
      have HK13 : Hid (KL [(g7, .cells #[.int .u8 17, .bool true, .int .u64 h1, .int .u64 l1, .bool v2, .int .u64 h2, .int .u64 l2, .int .u16 f, .int .u16 tp, .int .u8 0, .int .u8 kd, .int .u8 cd, .int .i64 d.size] 41), (g6, .cells #[.bool V.src.v6, .int .u64 V.src.hi, .int .u64 V.src.lo, .bool V.dst.v6, .int .u64 V.dst.hi, .int .u64 V.dst.lo, .int .u8 V.proto, .int .u8 V.ttl, .string V.data] 30), (g5, .cells #[.bool X.src.v6, .int .u64 X.src.hi, .int .u64 X.src.lo, .bool X.dst.v6, .int .u64 X.dst.hi, .int .u64 X.dst.lo, .int .u8 X.proto, .int .u8 X.ttl, .string X.data] 30), (g4, .cells #[.bool T.src.v6, .int .u64 T.src.hi, .int .u64 T.src.lo, .bool T.dst.v6, .int .u64 T.dst.hi, .int .u64 T.dst.lo, .int .u8 T.proto, .int .u8 T.ttl, .string T.data] 30), (g3, .cells #[.bool U.src.v6, .int .u64 U.src.hi, .int .u64 U.src.lo, .bool U.dst.v6, .int .u64 U.dst.hi, .int .u64 U.dst.lo, .int .u8 U.proto, .int .u8 U.ttl, .string U.data] 30), (g2, .cells #[.bool v2, .int .u64 h2, .int .u64 l2, .int .u16 tp] 27), (g1, .cells #[.bool true, .int .u64 h1, .int .u64 l1, .int .u16 f] 27)] w ww13) := by rw [hv13, hgg7]; exact Lib.hid (HK12.out.made (.cells #[.int .u8 17, .bool true, .int .u64 h1, .int .u64 l1, .bool v2, .int .u64 h2, .int .u64 l2, .int .u16 f, .int .u16 tp, .int .u8 0, .int .u8 kd, .int .u8 cd, .int .i64 d.size] 41))
      rw [← hv13]
      rw [← hgg7]
      clear hv13 hgg7
      obtain ⟨k0, k1, k2, k3, k4, k5, k6, k7, k8⟩ := pkCells (HK13.out.tail.head)
      go_wp2_with fail
      clear k0 k1 k2 k3 k4 k5 k6 k7 k8
      refine (D2.out _).mono ?_
      rintro e ww14 ⟨rfl, B1⟩
      simp only []
      have HK14 := Lib.hid (HK13.out.call B1)
      clear B1
      go_upto_region 20 with (fail)
      obtain ⟨g8, hgg8⟩ : ∃ g, g = ww14.heap.size := ⟨_, rfl⟩
      obtain ⟨ww15, hv15⟩ : ∃ x, x = (World.alloc ww14 (.cells #[.int .u8 17, .bool v2, .int .u64 h2, .int .u64 l2, .bool true, .int .u64 h1, .int .u64 l1, .int .u16 tp, .int .u16 f, .int .u8 0, .int .u8 kd2, .int .u8 cd2, .int .i64 d.size] 41)) := ⟨_, rfl⟩
      have HK15 : Hid (KL [(g8, .cells #[.int .u8 17, .bool v2, .int .u64 h2, .int .u64 l2, .bool true, .int .u64 h1, .int .u64 l1, .int .u16 tp, .int .u16 f, .int .u8 0, .int .u8 kd2, .int .u8 cd2, .int .i64 d.size] 41), (g7, .cells #[.int .u8 17, .bool true, .int .u64 h1, .int .u64 l1, .bool v2, .int .u64 h2, .int .u64 l2, .int .u16 f, .int .u16 tp, .int .u8 0, .int .u8 kd, .int .u8 cd, .int .i64 d.size] 41), (g6, .cells #[.bool V.src.v6, .int .u64 V.src.hi, .int .u64 V.src.lo, .bool V.dst.v6, .int .u64 V.dst.hi, .int .u64 V.dst.lo, .int .u8 V.proto, .int .u8 V.ttl, .string V.data] 30), (g5, .cells #[.bool X.src.v6, .int .u64 X.src.hi, .int .u64 X.src.lo, .bool X.dst.v6, .int .u64 X.dst.hi, .int .u64 X.dst.lo, .int .u8 X.proto, .int .u8 X.ttl, .string X.data] 30), (g4, .cells #[.bool T.src.v6, .int .u64 T.src.hi, .int .u64 T.src.lo, .bool T.dst.v6, .int .u64 T.dst.hi, .int .u64 T.dst.lo, .int .u8 T.proto, .int .u8 T.ttl, .string T.data] 30), (g3, .cells #[.bool U.src.v6, .int .u64 U.src.hi, .int .u64 U.src.lo, .bool U.dst.v6, .int .u64 U.dst.hi, .int .u64 U.dst.lo, .int .u8 U.proto, .int .u8 U.ttl, .string U.data] 30), (g2, .cells #[.bool v2, .int .u64 h2, .int .u64 l2, .int .u16 tp] 27), (g1, .cells #[.bool true, .int .u64 h1, .int .u64 l1, .int .u16 f] 27)] w ww15) := by rw [hv15, hgg8]; exact Lib.hid (HK14.out.made (.cells #[.int .u8 17, .bool v2, .int .u64 h2, .int .u64 l2, .bool true, .int .u64 h1, .int .u64 l1, .int .u16 tp, .int .u16 f, .int .u8 0, .int .u8 kd2, .int .u8 cd2, .int .i64 d.size] 41))
      rw [← hv15]
      rw [← hgg8]
      clear hv15 hgg8
      have HR := Lib.hid (show KL [(g8, .cells #[.int .u8 17, .bool v2, .int .u64 h2, .int .u64 l2, .bool true, .int .u64 h1, .int .u64 l1, .int .u16 tp, .int .u16 f, .int .u8 0, .int .u8 kd2, .int .u8 cd2, .int .i64 d.size] 41), (g7, .cells #[.int .u8 17, .bool true, .int .u64 h1, .int .u64 l1, .bool v2, .int .u64 h2, .int .u64 l2, .int .u16 f, .int .u16 tp, .int .u8 0, .int .u8 kd, .int .u8 cd, .int .i64 d.size] 41)] w ww15 from ⟨fun x hx => by
        rcases List.mem_cons.1 hx with rfl | hx
        · exact (HK15.out.head)
        · rcases List.mem_singleton.1 hx with rfl
          exact (HK15.out.tail.head), HK15.out.2⟩)
      refine wp_region_held_drew (S := fun u => KL [(g8, .cells #[.int .u8 17, .bool v2, .int .u64 h2, .int .u64 l2, .bool true, .int .u64 h1, .int .u64 l1, .int .u16 tp, .int .u16 f, .int .u8 0, .int .u8 kd2, .int .u8 cd2, .int .i64 d.size] 41), (g7, .cells #[.int .u8 17, .bool true, .int .u64 h1, .int .u64 l1, .bool v2, .int .u64 h2, .int .u64 l2, .int .u16 f, .int .u16 tp, .int .u8 0, .int .u8 kd, .int .u8 cd, .int .i64 d.size] 41)] w u) (by kernel_rfl) HR.out.drew (fun hHeld => ?_)
      refine wpAnyH_take (i := 0) (v := ?_) rfl (by kernel_rfl) (by kernel_rfl) (by kernel_rfl) (fun _ _ _ h => h) (Or.inl ⟨by rfl, ?_⟩) (by assumption) ?_
      rotate_left 1
      · (intro u hSw; clear hSw; go_simp; try (with_reducible rfl))
      try simp only [Act.put, List.getElem_toArray, List.getElem_cons_zero, List.getElem_cons_succ, List.setIfInBounds_toArray, List.set_cons_zero, List.set_cons_succ]
      refine wpAnyH_take (i := 1) (v := ?_) rfl (by kernel_rfl) (by kernel_rfl) (by kernel_rfl) (fun _ _ _ h => h) (Or.inl ⟨by rfl, ?_⟩) (by assumption) ?_
      rotate_left 1
      · (intro u hSw; clear hSw; go_simp; try (with_reducible rfl))
      try simp only [Act.put, List.getElem_toArray, List.getElem_cons_zero, List.getElem_cons_succ, List.setIfInBounds_toArray, List.set_cons_zero, List.set_cons_succ]
      refine wpAnyH_take (i := 2) (v := ?_) rfl (by kernel_rfl) (by kernel_rfl) (by kernel_rfl) (fun _ _ _ h => h) (Or.inl ⟨by rfl, ?_⟩) (by assumption) ?_
      rotate_left 1
      · (intro u hSw; clear hSw; go_simp; try (with_reducible rfl))
      try simp only [Act.put, List.getElem_toArray, List.getElem_cons_zero, List.getElem_cons_succ, List.setIfInBounds_toArray, List.set_cons_zero, List.set_cons_succ]
      refine wpAnyH_take (i := 3) (v := ?_) rfl (by kernel_rfl) (by kernel_rfl) (by kernel_rfl) (fun _ _ _ h => h) (Or.inl ⟨by rfl, ?_⟩) (by assumption) ?_
      rotate_left 1
      · (intro u hSw; clear hSw; go_simp; try (with_reducible rfl))
      try simp only [Act.put, List.getElem_toArray, List.getElem_cons_zero, List.getElem_cons_succ, List.setIfInBounds_toArray, List.set_cons_zero, List.set_cons_succ]
      refine wpAnyH_take (i := 4) (v := ?_) rfl (by kernel_rfl) (by kernel_rfl) (by kernel_rfl) (fun _ _ _ h => h) (Or.inl ⟨by rfl, ?_⟩) (by assumption) ?_
      rotate_left 1
      · (intro u hSw; have hSv := hSw; clear hSw; obtain ⟨⟨j0, j1, j2, j3, j4, j5, j6⟩, j7, j8, _⟩ := hdAll hSv.head; clear hSv; go_simp; try (with_reducible rfl))
      try simp only [Act.put, List.getElem_toArray, List.getElem_cons_zero, List.getElem_cons_succ, List.setIfInBounds_toArray, List.set_cons_zero, List.set_cons_succ]
      refine wpAnyH_take (i := 5) (v := ?_) rfl (by kernel_rfl) (by kernel_rfl) (by kernel_rfl) (fun _ _ _ h => h) (Or.inl ⟨by rfl, ?_⟩) (by assumption) ?_
      rotate_left 1
      · (intro u hSw; clear hSw; go_simp; try (with_reducible rfl))
      try simp only [Act.put, List.getElem_toArray, List.getElem_cons_zero, List.getElem_cons_succ, List.setIfInBounds_toArray, List.set_cons_zero, List.set_cons_succ]
      refine wpAnyH_take (i := 6) (v := ?_) rfl (by kernel_rfl) (by kernel_rfl) (by kernel_rfl) (fun _ _ _ h => h) (Or.inl ⟨by rfl, ?_⟩) (by assumption) ?_
      rotate_left 1
      · (intro u hSw; have hSv := hSw; clear hSw; obtain ⟨⟨j0, j1, j2, j3, j4, j5, j6⟩, j7, j8, _⟩ := hdAll hSv.tail.head; clear hSv; go_simp; try (with_reducible rfl))
      try simp only [Act.put, List.getElem_toArray, List.getElem_cons_zero, List.getElem_cons_succ, List.setIfInBounds_toArray, List.set_cons_zero, List.set_cons_succ]
      refine wpAnyH_ready (rs := [7]) (by kernel_rfl) (by simp) ?_
      refine AllReadyH.cons rfl (fun K hK => ?_) AllReadyH.nil
      have HS := Lib.hid hHeld
      clear hHeld
      go_simp
      refine (show Calls Try.prog 18 #[.agg #[.int .u8 17, .bool true, .int .u64 h1, .int .u64 l1, .bool v2, .int .u64 h2, .int .u64 l2, .int .u16 f, .int .u16 tp]] _ (fun e w' => e = .returned (.agg #[.int .u8 17, .bool v2, .int .u64 h2, .int .u64 l2, .bool true, .int .u64 h1, .int .u64 l1, .int .u16 tp, .int .u16 f]) ∧ Below _ _ w') from reverse_any ⟨17, ⟨true, h1, l1⟩, ⟨v2, h2, l2⟩, f, tp⟩ _).mono ?_
      rintro e w1 ⟨rfl, B1⟩
      simp only []
      refine hK.out _ _ (HS.out.call B1) (fun hHeld => ?_)
      clear hK K HS B1
      try simp only [Act.put, List.getElem_toArray, List.getElem_cons_zero, List.getElem_cons_succ, List.setIfInBounds_toArray, List.set_cons_zero, List.set_cons_succ]
      refine wpAnyH_take (i := 8) (v := ?_) rfl (by kernel_rfl) (by kernel_rfl) (by kernel_rfl) (fun _ _ _ h => h) (Or.inl ⟨by rfl, ?_⟩) (by assumption) ?_
      rotate_left 1
      · (intro u hSw; clear hSw; go_simp; try (with_reducible rfl))
      try simp only [Act.put, List.getElem_toArray, List.getElem_cons_zero, List.getElem_cons_succ, List.setIfInBounds_toArray, List.set_cons_zero, List.set_cons_succ]
      refine wpAnyH_take (i := 9) (v := ?_) rfl (by kernel_rfl) (by kernel_rfl) (by kernel_rfl) (fun _ _ _ h => h) (Or.inl ⟨by rfl, ?_⟩) (by assumption) ?_
      rotate_left 1
      · (intro u hSw; clear hSw; go_simp; try (with_reducible rfl))
      try simp only [Act.put, List.getElem_toArray, List.getElem_cons_zero, List.getElem_cons_succ, List.setIfInBounds_toArray, List.set_cons_zero, List.set_cons_succ]
      refine wpAnyH_take (i := 10) (v := ?_) rfl (by kernel_rfl) (by kernel_rfl) (by kernel_rfl) (fun _ _ _ h => h) (Or.inl ⟨by rfl, ?_⟩) (by assumption) ?_
      rotate_left 1
      · (intro u hSw; clear hSw; go_simp; try (with_reducible rfl))
      try simp only [Act.put, List.getElem_toArray, List.getElem_cons_zero, List.getElem_cons_succ, List.setIfInBounds_toArray, List.set_cons_zero, List.set_cons_succ]
      refine wpAnyH_take (i := 11) (v := ?_) rfl (by kernel_rfl) (by kernel_rfl) (by kernel_rfl) (fun _ _ _ h => h) (Or.inl ⟨by rfl, ?_⟩) (by assumption) ?_
      rotate_left 1
      · (intro u hSw; clear hSw; go_simp; try (with_reducible rfl))
      try simp only [Act.put, List.getElem_toArray, List.getElem_cons_zero, List.getElem_cons_succ, List.setIfInBounds_toArray, List.set_cons_zero, List.set_cons_succ]
      refine wpAnyH_take (i := 12) (v := ?_) rfl (by kernel_rfl) (by kernel_rfl) (by kernel_rfl) (fun _ _ _ h => h) (Or.inl ⟨by rfl, ?_⟩) (by assumption) ?_
      rotate_left 1
      · (intro u hSw; have hSv := hSw; clear hSw; obtain ⟨⟨j0, j1, j2, j3, j4, j5, j6⟩, j7, j8, _⟩ := hdAll hSv.head; clear hSv; go_simp; try (with_reducible rfl))
      try simp only [Act.put, List.getElem_toArray, List.getElem_cons_zero, List.getElem_cons_succ, List.setIfInBounds_toArray, List.set_cons_zero, List.set_cons_succ]
      refine wpAnyH_take (i := 14) (v := ?_) rfl (by kernel_rfl) (by kernel_rfl) (by kernel_rfl) (fun _ _ _ h => h) (Or.inl ⟨by rfl, ?_⟩) (by assumption) ?_
      rotate_left 1
      · (intro u hSw; clear hSw; go_simp; try (with_reducible rfl))
      try simp only [Act.put, List.getElem_toArray, List.getElem_cons_zero, List.getElem_cons_succ, List.setIfInBounds_toArray, List.set_cons_zero, List.set_cons_succ]
      refine wpAnyH_take (i := 15) (v := ?_) rfl (by kernel_rfl) (by kernel_rfl) (by kernel_rfl) (fun _ _ _ h => h) (Or.inl ⟨by rfl, ?_⟩) (by assumption) ?_
      rotate_left 1
      · (intro u hSw; have hSv := hSw; clear hSw; obtain ⟨⟨j0, j1, j2, j3, j4, j5, j6⟩, j7, j8, _⟩ := hdAll hSv.tail.head; clear hSv; go_simp; try (with_reducible rfl))
      try simp only [Act.put, List.getElem_toArray, List.getElem_cons_zero, List.getElem_cons_succ, List.setIfInBounds_toArray, List.set_cons_zero, List.set_cons_succ]
      refine wpAnyH_ready (rs := [13]) (by kernel_rfl) (by simp) ?_
      refine AllReadyH.cons rfl (fun K hK => ?_) AllReadyH.nil
      have HS := Lib.hid hHeld
      clear hHeld
      go_simp
      refine (show Calls Try.prog 18 #[.agg #[.int .u8 17, .bool v2, .int .u64 h2, .int .u64 l2, .bool true, .int .u64 h1, .int .u64 l1, .int .u16 tp, .int .u16 f]] _ (fun e w' => e = .returned (.agg #[.int .u8 17, .bool true, .int .u64 h1, .int .u64 l1, .bool v2, .int .u64 h2, .int .u64 l2, .int .u16 f, .int .u16 tp]) ∧ Below _ _ w') from reverse_any ⟨17, ⟨v2, h2, l2⟩, ⟨true, h1, l1⟩, tp, f⟩ _).mono ?_
      rintro e w1 ⟨rfl, B1⟩
      simp only []
      refine hK.out _ _ (HS.out.call B1) (fun hHeld => ?_)
      clear hK K HS B1
      try simp only [Act.put, List.getElem_toArray, List.getElem_cons_zero, List.getElem_cons_succ, List.setIfInBounds_toArray, List.set_cons_zero, List.set_cons_succ]
      refine wpAnyH_take (i := 16) (v := ?_) rfl (by kernel_rfl) (by kernel_rfl) (by kernel_rfl) (fun _ _ _ h => h) (Or.inl ⟨by rfl, ?_⟩) (by assumption) ?_
      rotate_left 1
      · (intro u hSw; clear hSw; go_simp; try (with_reducible rfl))
      try simp only [Act.put, List.getElem_toArray, List.getElem_cons_zero, List.getElem_cons_succ, List.setIfInBounds_toArray, List.set_cons_zero, List.set_cons_succ]
      refine wpAnyH_take (i := 17) (v := ?_) rfl (by kernel_rfl) (by kernel_rfl) (by kernel_rfl) (fun _ _ _ h => h) (Or.inl ⟨by rfl, ?_⟩) (by assumption) ?_
      rotate_left 1
      · (intro u hSw; clear hSw; go_simp; try (with_reducible rfl))
      try simp only [Act.put, List.getElem_toArray, List.getElem_cons_zero, List.getElem_cons_succ, List.setIfInBounds_toArray, List.set_cons_zero, List.set_cons_succ]
      refine wpAnyH_take (i := 18) (v := ?_) rfl (by kernel_rfl) (by kernel_rfl) (by kernel_rfl) (fun _ _ _ h => h) (Or.inl ⟨by rfl, ?_⟩) (by assumption) ?_
      rotate_left 1
      · (intro u hSw; clear hSw; go_simp; try (with_reducible rfl))
      try simp only [Act.put, List.getElem_toArray, List.getElem_cons_zero, List.getElem_cons_succ, List.setIfInBounds_toArray, List.set_cons_zero, List.set_cons_succ]
      refine wpAnyH_ready (rs := [19]) (by kernel_rfl) (by simp) ?_
      refine AllReadyH.cons rfl (fun K hK => ?_) AllReadyH.nil
      have HS := Lib.hid hHeld
      clear hHeld
      go_simp
      refine (works_any _).mono ?_
      rintro e w1 ⟨rfl, B1⟩
      simp only []
      refine hK.out _ _ (HS.out.call B1) (fun hHeld => ?_)
      clear hK K HS B1
      try simp only [Act.put, List.getElem_toArray, List.getElem_cons_zero, List.getElem_cons_succ, List.setIfInBounds_toArray, List.set_cons_zero, List.set_cons_succ]
      refine wpAnyH_take (i := 20) (v := ?_) rfl (by kernel_rfl) (by kernel_rfl) (by kernel_rfl) (fun _ _ _ h => h) (Or.inl ⟨by rfl, ?_⟩) (by assumption) ?_
      rotate_left 1
      · (intro u hSw; clear hSw; go_simp; try (with_reducible rfl))
      try simp only [Act.put, List.getElem_toArray, List.getElem_cons_zero, List.getElem_cons_succ, List.setIfInBounds_toArray, List.set_cons_zero, List.set_cons_succ]
      refine wpAnyH_take (i := 21) (v := ?_) rfl (by kernel_rfl) (by kernel_rfl) (by kernel_rfl) (fun _ _ _ h => h) (Or.inl ⟨by rfl, ?_⟩) (by assumption) ?_
      rotate_left 1
      · (intro u hSw; clear hSw; go_simp; try (with_reducible rfl))
      try simp only [Act.put, List.getElem_toArray, List.getElem_cons_zero, List.getElem_cons_succ, List.setIfInBounds_toArray, List.set_cons_zero, List.set_cons_succ]
      have HE := Lib.hid hHeld
      clear hHeld
      refine wpAnyH_done (by kernel_rfl) ?_ _
      try simp only [Act.put, List.getElem_toArray, List.getElem_cons_zero, List.getElem_cons_succ, List.setIfInBounds_toArray, List.set_cons_zero, List.set_cons_succ]
      go_wp2_with fail
      go_ret
      exact ⟨rfl, HE.out.2⟩
    · have cX : ((EX : Int) == 0) = false := beq_eq_false_iff_ne.2 qX
      clear qX
      have cU2 : ((EU : Int) != 0) = false := by rw [HQU.out]; rfl
      go_upto_region 17 with (fail)
      clear cU2
      have c8 := Lib.hid (show ∀ u, Calls Try.prog 8 #[.agg #[.bool v2, .int .u64 h2, .int .u64 l2, .int .u16 tp], .agg #[.bool true, .int .u64 h1, .int .u64 l1, .int .u16 f], .string d] u fun e w' => e = .returned (.tuple #[.agg #[.bool V.src.v6, .int .u64 V.src.hi, .int .u64 V.src.lo, .bool V.dst.v6, .int .u64 V.dst.hi, .int .u64 V.dst.lo, .int .u8 V.proto, .int .u8 V.ttl, .string V.data], .int .i64 0]) ∧ Below u.heap.size u w' from fun u => by
        have h := MMV.out u
        rw [HB.out.1 HQU.out] at h
        exact h)
      obtain ⟨a0, a1, a2, a3⟩ := epCells (HK8.out.tail.tail.tail.tail.head)
      obtain ⟨b0, b1, b2, b3⟩ := epCells (HK8.out.tail.tail.tail.head)
      go_wp2_with fail
      clear a0 a1 a2 a3 b0 b1 b2 b3
      refine (c8.out _).mono ?_
      rintro e ww9 ⟨rfl, B1⟩
      simp only []
      have HK9 := Lib.hid (HK8.out.call B1)
      clear B1
      go_upto_region 18 with (fail)
      obtain ⟨g6, hgg6⟩ : ∃ g, g = ww9.heap.size := ⟨_, rfl⟩
      obtain ⟨ww10, hv10⟩ : ∃ x, x = (World.alloc ww9 (.cells #[.bool V.src.v6, .int .u64 V.src.hi, .int .u64 V.src.lo, .bool V.dst.v6, .int .u64 V.dst.hi, .int .u64 V.dst.lo, .int .u8 V.proto, .int .u8 V.ttl, .string V.data] 30)) := ⟨_, rfl⟩
      have HK10 : Hid (KL [(g6, .cells #[.bool V.src.v6, .int .u64 V.src.hi, .int .u64 V.src.lo, .bool V.dst.v6, .int .u64 V.dst.hi, .int .u64 V.dst.lo, .int .u8 V.proto, .int .u8 V.ttl, .string V.data] 30), (g5, .cells #[.bool X.src.v6, .int .u64 X.src.hi, .int .u64 X.src.lo, .bool X.dst.v6, .int .u64 X.dst.hi, .int .u64 X.dst.lo, .int .u8 X.proto, .int .u8 X.ttl, .string X.data] 30), (g4, .cells #[.bool T.src.v6, .int .u64 T.src.hi, .int .u64 T.src.lo, .bool T.dst.v6, .int .u64 T.dst.hi, .int .u64 T.dst.lo, .int .u8 T.proto, .int .u8 T.ttl, .string T.data] 30), (g3, .cells #[.bool U.src.v6, .int .u64 U.src.hi, .int .u64 U.src.lo, .bool U.dst.v6, .int .u64 U.dst.hi, .int .u64 U.dst.lo, .int .u8 U.proto, .int .u8 U.ttl, .string U.data] 30), (g2, .cells #[.bool v2, .int .u64 h2, .int .u64 l2, .int .u16 tp] 27), (g1, .cells #[.bool true, .int .u64 h1, .int .u64 l1, .int .u16 f] 27)] w ww10) := by rw [hv10, hgg6]; exact Lib.hid (HK9.out.made (.cells #[.bool V.src.v6, .int .u64 V.src.hi, .int .u64 V.src.lo, .bool V.dst.v6, .int .u64 V.dst.hi, .int .u64 V.dst.lo, .int .u8 V.proto, .int .u8 V.ttl, .string V.data] 30))
      rw [← hv10]
      rw [← hgg6]
      clear hv10 hgg6
      obtain ⟨kd, cd, hdu⟩ := DDU.out HQU.out
      have D1 := Lib.hid hdu
      clear hdu
      obtain ⟨kd2, cd2, hdv⟩ := DDV.out (HB.out.1 HQU.out)
      have D2 := Lib.hid hdv
      clear hdv
      obtain ⟨k0, k1, k2, k3, k4, k5, k6, k7, k8⟩ := pkCells (HK10.out.tail.tail.tail.head)
      go_wp2_with fail
      clear k0 k1 k2 k3 k4 k5 k6 k7 k8
      refine (D1.out _).mono ?_
      rintro e ww11 ⟨rfl, B1⟩
      simp only []
      have HK11 := Lib.hid (HK10.out.call B1)
      clear B1
      go_upto_region 19 with (fail)
      obtain ⟨g7, hgg7⟩ : ∃ g, g = ww11.heap.size := ⟨_, rfl⟩
      obtain ⟨ww12, hv12⟩ : ∃ x, x = (World.alloc ww11 (.cells #[.int .u8 17, .bool true, .int .u64 h1, .int .u64 l1, .bool v2, .int .u64 h2, .int .u64 l2, .int .u16 f, .int .u16 tp, .int .u8 0, .int .u8 kd, .int .u8 cd, .int .i64 d.size] 41)) := ⟨_, rfl⟩
      have HK12 : Hid (KL [(g7, .cells #[.int .u8 17, .bool true, .int .u64 h1, .int .u64 l1, .bool v2, .int .u64 h2, .int .u64 l2, .int .u16 f, .int .u16 tp, .int .u8 0, .int .u8 kd, .int .u8 cd, .int .i64 d.size] 41), (g6, .cells #[.bool V.src.v6, .int .u64 V.src.hi, .int .u64 V.src.lo, .bool V.dst.v6, .int .u64 V.dst.hi, .int .u64 V.dst.lo, .int .u8 V.proto, .int .u8 V.ttl, .string V.data] 30), (g5, .cells #[.bool X.src.v6, .int .u64 X.src.hi, .int .u64 X.src.lo, .bool X.dst.v6, .int .u64 X.dst.hi, .int .u64 X.dst.lo, .int .u8 X.proto, .int .u8 X.ttl, .string X.data] 30), (g4, .cells #[.bool T.src.v6, .int .u64 T.src.hi, .int .u64 T.src.lo, .bool T.dst.v6, .int .u64 T.dst.hi, .int .u64 T.dst.lo, .int .u8 T.proto, .int .u8 T.ttl, .string T.data] 30), (g3, .cells #[.bool U.src.v6, .int .u64 U.src.hi, .int .u64 U.src.lo, .bool U.dst.v6, .int .u64 U.dst.hi, .int .u64 U.dst.lo, .int .u8 U.proto, .int .u8 U.ttl, .string U.data] 30), (g2, .cells #[.bool v2, .int .u64 h2, .int .u64 l2, .int .u16 tp] 27), (g1, .cells #[.bool true, .int .u64 h1, .int .u64 l1, .int .u16 f] 27)] w ww12) := by rw [hv12, hgg7]; exact Lib.hid (HK11.out.made (.cells #[.int .u8 17, .bool true, .int .u64 h1, .int .u64 l1, .bool v2, .int .u64 h2, .int .u64 l2, .int .u16 f, .int .u16 tp, .int .u8 0, .int .u8 kd, .int .u8 cd, .int .i64 d.size] 41))
      rw [← hv12]
      rw [← hgg7]
      clear hv12 hgg7
      obtain ⟨k0, k1, k2, k3, k4, k5, k6, k7, k8⟩ := pkCells (HK12.out.tail.head)
      go_wp2_with fail
      clear k0 k1 k2 k3 k4 k5 k6 k7 k8
      refine (D2.out _).mono ?_
      rintro e ww13 ⟨rfl, B1⟩
      simp only []
      have HK13 := Lib.hid (HK12.out.call B1)
      clear B1
      go_upto_region 20 with (fail)
      obtain ⟨g8, hgg8⟩ : ∃ g, g = ww13.heap.size := ⟨_, rfl⟩
      obtain ⟨ww14, hv14⟩ : ∃ x, x = (World.alloc ww13 (.cells #[.int .u8 17, .bool v2, .int .u64 h2, .int .u64 l2, .bool true, .int .u64 h1, .int .u64 l1, .int .u16 tp, .int .u16 f, .int .u8 0, .int .u8 kd2, .int .u8 cd2, .int .i64 d.size] 41)) := ⟨_, rfl⟩
      have HK14 : Hid (KL [(g8, .cells #[.int .u8 17, .bool v2, .int .u64 h2, .int .u64 l2, .bool true, .int .u64 h1, .int .u64 l1, .int .u16 tp, .int .u16 f, .int .u8 0, .int .u8 kd2, .int .u8 cd2, .int .i64 d.size] 41), (g7, .cells #[.int .u8 17, .bool true, .int .u64 h1, .int .u64 l1, .bool v2, .int .u64 h2, .int .u64 l2, .int .u16 f, .int .u16 tp, .int .u8 0, .int .u8 kd, .int .u8 cd, .int .i64 d.size] 41), (g6, .cells #[.bool V.src.v6, .int .u64 V.src.hi, .int .u64 V.src.lo, .bool V.dst.v6, .int .u64 V.dst.hi, .int .u64 V.dst.lo, .int .u8 V.proto, .int .u8 V.ttl, .string V.data] 30), (g5, .cells #[.bool X.src.v6, .int .u64 X.src.hi, .int .u64 X.src.lo, .bool X.dst.v6, .int .u64 X.dst.hi, .int .u64 X.dst.lo, .int .u8 X.proto, .int .u8 X.ttl, .string X.data] 30), (g4, .cells #[.bool T.src.v6, .int .u64 T.src.hi, .int .u64 T.src.lo, .bool T.dst.v6, .int .u64 T.dst.hi, .int .u64 T.dst.lo, .int .u8 T.proto, .int .u8 T.ttl, .string T.data] 30), (g3, .cells #[.bool U.src.v6, .int .u64 U.src.hi, .int .u64 U.src.lo, .bool U.dst.v6, .int .u64 U.dst.hi, .int .u64 U.dst.lo, .int .u8 U.proto, .int .u8 U.ttl, .string U.data] 30), (g2, .cells #[.bool v2, .int .u64 h2, .int .u64 l2, .int .u16 tp] 27), (g1, .cells #[.bool true, .int .u64 h1, .int .u64 l1, .int .u16 f] 27)] w ww14) := by rw [hv14, hgg8]; exact Lib.hid (HK13.out.made (.cells #[.int .u8 17, .bool v2, .int .u64 h2, .int .u64 l2, .bool true, .int .u64 h1, .int .u64 l1, .int .u16 tp, .int .u16 f, .int .u8 0, .int .u8 kd2, .int .u8 cd2, .int .i64 d.size] 41))
      rw [← hv14]
      rw [← hgg8]
      clear hv14 hgg8
      have HR := Lib.hid (show KL [(g8, .cells #[.int .u8 17, .bool v2, .int .u64 h2, .int .u64 l2, .bool true, .int .u64 h1, .int .u64 l1, .int .u16 tp, .int .u16 f, .int .u8 0, .int .u8 kd2, .int .u8 cd2, .int .i64 d.size] 41), (g7, .cells #[.int .u8 17, .bool true, .int .u64 h1, .int .u64 l1, .bool v2, .int .u64 h2, .int .u64 l2, .int .u16 f, .int .u16 tp, .int .u8 0, .int .u8 kd, .int .u8 cd, .int .i64 d.size] 41)] w ww14 from ⟨fun x hx => by
        rcases List.mem_cons.1 hx with rfl | hx
        · exact (HK14.out.head)
        · rcases List.mem_singleton.1 hx with rfl
          exact (HK14.out.tail.head), HK14.out.2⟩)
      refine wp_region_held_drew (S := fun u => KL [(g8, .cells #[.int .u8 17, .bool v2, .int .u64 h2, .int .u64 l2, .bool true, .int .u64 h1, .int .u64 l1, .int .u16 tp, .int .u16 f, .int .u8 0, .int .u8 kd2, .int .u8 cd2, .int .i64 d.size] 41), (g7, .cells #[.int .u8 17, .bool true, .int .u64 h1, .int .u64 l1, .bool v2, .int .u64 h2, .int .u64 l2, .int .u16 f, .int .u16 tp, .int .u8 0, .int .u8 kd, .int .u8 cd, .int .i64 d.size] 41)] w u) (by kernel_rfl) HR.out.drew (fun hHeld => ?_)
      refine wpAnyH_take (i := 0) (v := ?_) rfl (by kernel_rfl) (by kernel_rfl) (by kernel_rfl) (fun _ _ _ h => h) (Or.inl ⟨by rfl, ?_⟩) (by assumption) ?_
      rotate_left 1
      · (intro u hSw; clear hSw; go_simp; try (with_reducible rfl))
      try simp only [Act.put, List.getElem_toArray, List.getElem_cons_zero, List.getElem_cons_succ, List.setIfInBounds_toArray, List.set_cons_zero, List.set_cons_succ]
      refine wpAnyH_take (i := 1) (v := ?_) rfl (by kernel_rfl) (by kernel_rfl) (by kernel_rfl) (fun _ _ _ h => h) (Or.inl ⟨by rfl, ?_⟩) (by assumption) ?_
      rotate_left 1
      · (intro u hSw; clear hSw; go_simp; try (with_reducible rfl))
      try simp only [Act.put, List.getElem_toArray, List.getElem_cons_zero, List.getElem_cons_succ, List.setIfInBounds_toArray, List.set_cons_zero, List.set_cons_succ]
      refine wpAnyH_take (i := 2) (v := ?_) rfl (by kernel_rfl) (by kernel_rfl) (by kernel_rfl) (fun _ _ _ h => h) (Or.inl ⟨by rfl, ?_⟩) (by assumption) ?_
      rotate_left 1
      · (intro u hSw; clear hSw; go_simp; try (with_reducible rfl))
      try simp only [Act.put, List.getElem_toArray, List.getElem_cons_zero, List.getElem_cons_succ, List.setIfInBounds_toArray, List.set_cons_zero, List.set_cons_succ]
      refine wpAnyH_take (i := 3) (v := ?_) rfl (by kernel_rfl) (by kernel_rfl) (by kernel_rfl) (fun _ _ _ h => h) (Or.inl ⟨by rfl, ?_⟩) (by assumption) ?_
      rotate_left 1
      · (intro u hSw; clear hSw; go_simp; try (with_reducible rfl))
      try simp only [Act.put, List.getElem_toArray, List.getElem_cons_zero, List.getElem_cons_succ, List.setIfInBounds_toArray, List.set_cons_zero, List.set_cons_succ]
      refine wpAnyH_take (i := 4) (v := ?_) rfl (by kernel_rfl) (by kernel_rfl) (by kernel_rfl) (fun _ _ _ h => h) (Or.inl ⟨by rfl, ?_⟩) (by assumption) ?_
      rotate_left 1
      · (intro u hSw; have hSv := hSw; clear hSw; obtain ⟨⟨j0, j1, j2, j3, j4, j5, j6⟩, j7, j8, _⟩ := hdAll hSv.head; clear hSv; go_simp; try (with_reducible rfl))
      try simp only [Act.put, List.getElem_toArray, List.getElem_cons_zero, List.getElem_cons_succ, List.setIfInBounds_toArray, List.set_cons_zero, List.set_cons_succ]
      refine wpAnyH_take (i := 5) (v := ?_) rfl (by kernel_rfl) (by kernel_rfl) (by kernel_rfl) (fun _ _ _ h => h) (Or.inl ⟨by rfl, ?_⟩) (by assumption) ?_
      rotate_left 1
      · (intro u hSw; clear hSw; go_simp; try (with_reducible rfl))
      try simp only [Act.put, List.getElem_toArray, List.getElem_cons_zero, List.getElem_cons_succ, List.setIfInBounds_toArray, List.set_cons_zero, List.set_cons_succ]
      refine wpAnyH_take (i := 6) (v := ?_) rfl (by kernel_rfl) (by kernel_rfl) (by kernel_rfl) (fun _ _ _ h => h) (Or.inl ⟨by rfl, ?_⟩) (by assumption) ?_
      rotate_left 1
      · (intro u hSw; have hSv := hSw; clear hSw; obtain ⟨⟨j0, j1, j2, j3, j4, j5, j6⟩, j7, j8, _⟩ := hdAll hSv.tail.head; clear hSv; go_simp; try (with_reducible rfl))
      try simp only [Act.put, List.getElem_toArray, List.getElem_cons_zero, List.getElem_cons_succ, List.setIfInBounds_toArray, List.set_cons_zero, List.set_cons_succ]
      refine wpAnyH_ready (rs := [7]) (by kernel_rfl) (by simp) ?_
      refine AllReadyH.cons rfl (fun K hK => ?_) AllReadyH.nil
      have HS := Lib.hid hHeld
      clear hHeld
      go_simp
      refine (show Calls Try.prog 18 #[.agg #[.int .u8 17, .bool true, .int .u64 h1, .int .u64 l1, .bool v2, .int .u64 h2, .int .u64 l2, .int .u16 f, .int .u16 tp]] _ (fun e w' => e = .returned (.agg #[.int .u8 17, .bool v2, .int .u64 h2, .int .u64 l2, .bool true, .int .u64 h1, .int .u64 l1, .int .u16 tp, .int .u16 f]) ∧ Below _ _ w') from reverse_any ⟨17, ⟨true, h1, l1⟩, ⟨v2, h2, l2⟩, f, tp⟩ _).mono ?_
      rintro e w1 ⟨rfl, B1⟩
      simp only []
      refine hK.out _ _ (HS.out.call B1) (fun hHeld => ?_)
      clear hK K HS B1
      try simp only [Act.put, List.getElem_toArray, List.getElem_cons_zero, List.getElem_cons_succ, List.setIfInBounds_toArray, List.set_cons_zero, List.set_cons_succ]
      refine wpAnyH_take (i := 8) (v := ?_) rfl (by kernel_rfl) (by kernel_rfl) (by kernel_rfl) (fun _ _ _ h => h) (Or.inl ⟨by rfl, ?_⟩) (by assumption) ?_
      rotate_left 1
      · (intro u hSw; clear hSw; go_simp; try (with_reducible rfl))
      try simp only [Act.put, List.getElem_toArray, List.getElem_cons_zero, List.getElem_cons_succ, List.setIfInBounds_toArray, List.set_cons_zero, List.set_cons_succ]
      refine wpAnyH_take (i := 9) (v := ?_) rfl (by kernel_rfl) (by kernel_rfl) (by kernel_rfl) (fun _ _ _ h => h) (Or.inl ⟨by rfl, ?_⟩) (by assumption) ?_
      rotate_left 1
      · (intro u hSw; clear hSw; go_simp; try (with_reducible rfl))
      try simp only [Act.put, List.getElem_toArray, List.getElem_cons_zero, List.getElem_cons_succ, List.setIfInBounds_toArray, List.set_cons_zero, List.set_cons_succ]
      refine wpAnyH_take (i := 10) (v := ?_) rfl (by kernel_rfl) (by kernel_rfl) (by kernel_rfl) (fun _ _ _ h => h) (Or.inl ⟨by rfl, ?_⟩) (by assumption) ?_
      rotate_left 1
      · (intro u hSw; clear hSw; go_simp; try (with_reducible rfl))
      try simp only [Act.put, List.getElem_toArray, List.getElem_cons_zero, List.getElem_cons_succ, List.setIfInBounds_toArray, List.set_cons_zero, List.set_cons_succ]
      refine wpAnyH_take (i := 11) (v := ?_) rfl (by kernel_rfl) (by kernel_rfl) (by kernel_rfl) (fun _ _ _ h => h) (Or.inl ⟨by rfl, ?_⟩) (by assumption) ?_
      rotate_left 1
      · (intro u hSw; clear hSw; go_simp; try (with_reducible rfl))
      try simp only [Act.put, List.getElem_toArray, List.getElem_cons_zero, List.getElem_cons_succ, List.setIfInBounds_toArray, List.set_cons_zero, List.set_cons_succ]
      refine wpAnyH_take (i := 12) (v := ?_) rfl (by kernel_rfl) (by kernel_rfl) (by kernel_rfl) (fun _ _ _ h => h) (Or.inl ⟨by rfl, ?_⟩) (by assumption) ?_
      rotate_left 1
      · (intro u hSw; have hSv := hSw; clear hSw; obtain ⟨⟨j0, j1, j2, j3, j4, j5, j6⟩, j7, j8, _⟩ := hdAll hSv.head; clear hSv; go_simp; try (with_reducible rfl))
      try simp only [Act.put, List.getElem_toArray, List.getElem_cons_zero, List.getElem_cons_succ, List.setIfInBounds_toArray, List.set_cons_zero, List.set_cons_succ]
      refine wpAnyH_take (i := 14) (v := ?_) rfl (by kernel_rfl) (by kernel_rfl) (by kernel_rfl) (fun _ _ _ h => h) (Or.inl ⟨by rfl, ?_⟩) (by assumption) ?_
      rotate_left 1
      · (intro u hSw; clear hSw; go_simp; try (with_reducible rfl))
      try simp only [Act.put, List.getElem_toArray, List.getElem_cons_zero, List.getElem_cons_succ, List.setIfInBounds_toArray, List.set_cons_zero, List.set_cons_succ]
      refine wpAnyH_take (i := 15) (v := ?_) rfl (by kernel_rfl) (by kernel_rfl) (by kernel_rfl) (fun _ _ _ h => h) (Or.inl ⟨by rfl, ?_⟩) (by assumption) ?_
      rotate_left 1
      · (intro u hSw; have hSv := hSw; clear hSw; obtain ⟨⟨j0, j1, j2, j3, j4, j5, j6⟩, j7, j8, _⟩ := hdAll hSv.tail.head; clear hSv; go_simp; try (with_reducible rfl))
      try simp only [Act.put, List.getElem_toArray, List.getElem_cons_zero, List.getElem_cons_succ, List.setIfInBounds_toArray, List.set_cons_zero, List.set_cons_succ]
      refine wpAnyH_ready (rs := [13]) (by kernel_rfl) (by simp) ?_
      refine AllReadyH.cons rfl (fun K hK => ?_) AllReadyH.nil
      have HS := Lib.hid hHeld
      clear hHeld
      go_simp
      refine (show Calls Try.prog 18 #[.agg #[.int .u8 17, .bool v2, .int .u64 h2, .int .u64 l2, .bool true, .int .u64 h1, .int .u64 l1, .int .u16 tp, .int .u16 f]] _ (fun e w' => e = .returned (.agg #[.int .u8 17, .bool true, .int .u64 h1, .int .u64 l1, .bool v2, .int .u64 h2, .int .u64 l2, .int .u16 f, .int .u16 tp]) ∧ Below _ _ w') from reverse_any ⟨17, ⟨v2, h2, l2⟩, ⟨true, h1, l1⟩, tp, f⟩ _).mono ?_
      rintro e w1 ⟨rfl, B1⟩
      simp only []
      refine hK.out _ _ (HS.out.call B1) (fun hHeld => ?_)
      clear hK K HS B1
      try simp only [Act.put, List.getElem_toArray, List.getElem_cons_zero, List.getElem_cons_succ, List.setIfInBounds_toArray, List.set_cons_zero, List.set_cons_succ]
      refine wpAnyH_take (i := 16) (v := ?_) rfl (by kernel_rfl) (by kernel_rfl) (by kernel_rfl) (fun _ _ _ h => h) (Or.inl ⟨by rfl, ?_⟩) (by assumption) ?_
      rotate_left 1
      · (intro u hSw; clear hSw; go_simp; try (with_reducible rfl))
      try simp only [Act.put, List.getElem_toArray, List.getElem_cons_zero, List.getElem_cons_succ, List.setIfInBounds_toArray, List.set_cons_zero, List.set_cons_succ]
      refine wpAnyH_take (i := 17) (v := ?_) rfl (by kernel_rfl) (by kernel_rfl) (by kernel_rfl) (fun _ _ _ h => h) (Or.inl ⟨by rfl, ?_⟩) (by assumption) ?_
      rotate_left 1
      · (intro u hSw; clear hSw; go_simp; try (with_reducible rfl))
      try simp only [Act.put, List.getElem_toArray, List.getElem_cons_zero, List.getElem_cons_succ, List.setIfInBounds_toArray, List.set_cons_zero, List.set_cons_succ]
      refine wpAnyH_take (i := 18) (v := ?_) rfl (by kernel_rfl) (by kernel_rfl) (by kernel_rfl) (fun _ _ _ h => h) (Or.inl ⟨by rfl, ?_⟩) (by assumption) ?_
      rotate_left 1
      · (intro u hSw; clear hSw; go_simp; try (with_reducible rfl))
      try simp only [Act.put, List.getElem_toArray, List.getElem_cons_zero, List.getElem_cons_succ, List.setIfInBounds_toArray, List.set_cons_zero, List.set_cons_succ]
      refine wpAnyH_ready (rs := [19]) (by kernel_rfl) (by simp) ?_
      refine AllReadyH.cons rfl (fun K hK => ?_) AllReadyH.nil
      have HS := Lib.hid hHeld
      clear hHeld
      go_simp
      refine (works_any _).mono ?_
      rintro e w1 ⟨rfl, B1⟩
      simp only []
      refine hK.out _ _ (HS.out.call B1) (fun hHeld => ?_)
      clear hK K HS B1
      try simp only [Act.put, List.getElem_toArray, List.getElem_cons_zero, List.getElem_cons_succ, List.setIfInBounds_toArray, List.set_cons_zero, List.set_cons_succ]
      refine wpAnyH_take (i := 20) (v := ?_) rfl (by kernel_rfl) (by kernel_rfl) (by kernel_rfl) (fun _ _ _ h => h) (Or.inl ⟨by rfl, ?_⟩) (by assumption) ?_
      rotate_left 1
      · (intro u hSw; clear hSw; go_simp; try (with_reducible rfl))
      try simp only [Act.put, List.getElem_toArray, List.getElem_cons_zero, List.getElem_cons_succ, List.setIfInBounds_toArray, List.set_cons_zero, List.set_cons_succ]
      refine wpAnyH_take (i := 21) (v := ?_) rfl (by kernel_rfl) (by kernel_rfl) (by kernel_rfl) (fun _ _ _ h => h) (Or.inl ⟨by rfl, ?_⟩) (by assumption) ?_
      rotate_left 1
      · (intro u hSw; clear hSw; go_simp; try (with_reducible rfl))
      try simp only [Act.put, List.getElem_toArray, List.getElem_cons_zero, List.getElem_cons_succ, List.setIfInBounds_toArray, List.set_cons_zero, List.set_cons_succ]
      have HE := Lib.hid hHeld
      clear hHeld
      refine wpAnyH_done (by kernel_rfl) ?_ _
      try simp only [Act.put, List.getElem_toArray, List.getElem_cons_zero, List.getElem_cons_succ, List.setIfInBounds_toArray, List.set_cons_zero, List.set_cons_succ]
      go_wp2_with fail
      go_ret
      exact ⟨rfl, HE.out.2⟩

end Go.Proofs.Ytgonakpoflacoaa
