/-
  The small known run: one packet of each kind, made and told.
-/
import Derived.Test.YtgonakpoflacoaaDecode
import Derived.Test.YtgonakpoflacoaaUdpMake
import Derived.Test.YtgonakpoflacoaaTcpMake
import Derived.Test.YtgonakpoflacoaaEchoMake
set_option linter.unusedVariables false
set_option linter.unusedSimpArgs false
namespace Go.Proofs.Ytgonakpoflacoaa
open Go.RowKit

/-- Blocks of a list stand as told; below the beginning nothing has turned. -/
def KL (L : List (Nat × Obj)) (w u : World) : Prop := (∀ x ∈ L, u.heap[x.1]? = some x.2) ∧ Below w.heap.size w u
theorem KL.nil (w : World) : KL [] w w := ⟨(fun x hx => nomatch hx), Below.refl _ _⟩
theorem KL.call {L : List (Nat × Obj)} {w u u' : World} (h : KL L w u) (b : Below u.heap.size u u') : KL L w u' :=
  ⟨fun x hx => (b.block _ (lt_of_heap (h.1 x hx))).trans (h.1 x hx), h.2.trans (b.mono h.2.size)⟩
theorem KL.drew {L : List (Nat × Obj)} {w u : World} (h : KL L w u) : KL L w u.drew := ⟨h.1, h.2.drew⟩
theorem KL.made {L : List (Nat × Obj)} {w u : World} (h : KL L w u) (o : Obj) : KL ((u.heap.size, o) :: L) w (u.alloc o) := by
  have hc := h.call ((Below.refl _ _).alloc (Nat.le_refl _) o)
  refine ⟨fun x hx => ?_, hc.2⟩
  rcases List.mem_cons.1 hx with rfl | hx
  · exact heap_alloc_last u o
  · exact hc.1 x hx
theorem KL.made2 {L : List (Nat × Obj)} {w u : World} (h : KL L w u) (o o2 : Obj) : KL ((u.heap.size + 1, o2) :: (u.heap.size, o) :: L) w ((u.alloc o).alloc o2) := by
  have h := (h.made o).made o2
  rw [show (u.alloc o).heap.size = u.heap.size + 1 by simp] at h
  exact h
theorem KL.tail {x : Nat × Obj} {L : List (Nat × Obj)} {w u : World} (h : KL (x :: L) w u) : KL L w u := ⟨fun y hy => h.1 y (List.mem_cons_of_mem _ hy), h.2⟩
theorem KL.head {x : Nat × Obj} {L : List (Nat × Obj)} {w u : World} (h : KL (x :: L) w u) : u.heap[x.1]? = some x.2 := h.1 x List.mem_cons_self

def wA : Ad := ⟨false, 0, 167772161⟩
def wB : Ad := ⟨false, 0, 167772162⟩
def wU : Pk := madeP ⟨wA, wB, 17, 64, udpD 5 53 ⟨#[97, 98]⟩⟩ 6
def wT : Pk := madeP ⟨wA, wB, 6, 64, tcpD 5 80 2 ⟨#[]⟩⟩ 16
def wX : Pk := madeP ⟨wA, wB, echoP wA.v6, 64, echoD (echoK wA.v6 true) 7 ⟨#[120]⟩⟩ 2
theorem wU_facts : mayE ⟨wA, wB, 17, 64, udpD 5 53 ⟨#[97, 98]⟩⟩ = 0 ∧ decE wU = 0 ∧ (decH wU).fl.tp = 53 ∧ (decH wU).size = 2 ∧ sumQ wU = 0 := by decide +kernel
theorem wT_facts : mayE ⟨wA, wB, 6, 64, tcpD 5 80 2 ⟨#[]⟩⟩ = 0 ∧ decE wT = 0 ∧ (decH wT).flags = 2 := by decide +kernel
theorem wX_facts : mayE ⟨wA, wB, echoP wA.v6, 64, echoD (echoK wA.v6 true) 7 ⟨#[120]⟩⟩ = 0 ∧ decE wX = 0 ∧ (decH wX).fl.fp = 7 ∧ (decH wX).size = 1 := by decide +kernel
theorem madeP_ok {p : Pk} {k : Nat} (h : p.Ok) : (madeP p k).Ok := by
  unfold madeP
  split
  · exact h
  · exact ⟨⟨by decide, by decide⟩, ⟨by decide, by decide⟩, by decide, by decide⟩
theorem putS_size {p : Pk} {k : Nat} (h : k + 2 ≤ p.data.size) : (putS p k).size = p.data.size := by
  unfold putS
  simp only [ByteArray.size_append, beS_size, ByteArray.size_extract]
  omega
theorem madeP_size {p : Pk} {k : Nat} (h : k + 2 ≤ p.data.size) : (madeP p k).data.size ≤ p.data.size := by
  unfold madeP
  split
  · exact Nat.le_of_eq (putS_size h)
  · exact Nat.zero_le _
theorem wU_ok : wU.Ok ∧ wU.data.size ≤ 10000 := ⟨madeP_ok (by unfold Pk.Ok Ad.Ok; decide), by decide +kernel⟩
theorem wT_ok : wT.Ok ∧ wT.data.size ≤ 10000 := ⟨madeP_ok (by unfold Pk.Ok Ad.Ok; decide), by decide +kernel⟩
theorem wX_ok : wX.Ok ∧ wX.data.size ≤ 10000 := ⟨madeP_ok (by unfold Pk.Ok Ad.Ok; decide), by decide +kernel⟩

set_option maxHeartbeats 16000000 in
set_option maxRecDepth 100000 in
theorem works_any (w : World) : Calls Try.prog 7 #[] w fun e w' => e = .returned (.bool true) ∧ Below w.heap.size w w' := by
  have C1 : ∀ u, Calls Try.prog 8 #[.agg #[.bool false, .int .u64 0, .int .u64 167772161, .int .u16 5], .agg #[.bool false, .int .u64 0, .int .u64 167772162, .int .u16 53], .string ⟨#[97, 98]⟩] u fun e w' => e = .returned (.tuple #[wU.val, .int .i64 0]) ∧ Below u.heap.size u w' := fun u => by
    have h := udpMake_any wA wB 5 53 ⟨#[97, 98]⟩ u (by unfold Ad.Ok; decide) (by unfold Ad.Ok; decide) (by decide) (by decide) (by decide)
    rw [wU_facts.1] at h
    exact h
  have C2 : ∀ u, Calls Try.prog 10 #[.agg #[.bool false, .int .u64 0, .int .u64 167772161, .int .u16 5], .agg #[.bool false, .int .u64 0, .int .u64 167772162, .int .u16 80], .int .u8 2, .string ⟨#[]⟩] u fun e w' => e = .returned (.tuple #[wT.val, .int .i64 0]) ∧ Below u.heap.size u w' := fun u => by
    have h := tcpMake_any wA wB 5 80 2 ⟨#[]⟩ u (by unfold Ad.Ok; decide) (by unfold Ad.Ok; decide) (by decide) (by decide) (by decide) (by decide)
    rw [wT_facts.1] at h
    exact h
  have C3 : ∀ u, Calls Try.prog 12 #[.agg #[.bool false, .int .u64 0, .int .u64 167772161], .agg #[.bool false, .int .u64 0, .int .u64 167772162], .int .u16 7, .bool true, .string ⟨#[120]⟩] u fun e w' => e = .returned (.tuple #[wX.val, .int .i64 0]) ∧ Below u.heap.size u w' := fun u => by
    have h := echoMake_any wA wB 7 true ⟨#[120]⟩ u (by unfold Ad.Ok; decide) (by unfold Ad.Ok; decide) (by decide) (by decide)
    rw [wX_facts.1] at h
    exact h
  have D1 : ∀ u, Calls Try.prog 14 #[wU.val] u fun e w' => e = .returned (.tuple #[(decH wU).val, .int .i64 0]) ∧ Below u.heap.size u w' := fun u => by
    have h := decode_any wU u wU_ok.1 wU_ok.2
    rw [wU_facts.2.1] at h
    exact h
  have D2 : ∀ u, Calls Try.prog 14 #[wT.val] u fun e w' => e = .returned (.tuple #[(decH wT).val, .int .i64 0]) ∧ Below u.heap.size u w' := fun u => by
    have h := decode_any wT u wT_ok.1 wT_ok.2
    rw [wT_facts.2.1] at h
    exact h
  have D3 : ∀ u, Calls Try.prog 14 #[wX.val] u fun e w' => e = .returned (.tuple #[(decH wX).val, .int .i64 0]) ∧ Below u.heap.size u w' := fun u => by
    have h := decode_any wX u wX_ok.1 wX_ok.2
    rw [wX_facts.2.1] at h
    exact h
  have S1 : ∀ u, Calls Try.prog 16 #[wU.val] u fun e w' => e = .returned (.int .u16 0) ∧ Below u.heap.size u w' := fun u => by
    have h := sumAsk_any wU u wU_ok.1 wU_ok.2
    rw [wU_facts.2.2.2.2] at h
    exact h
  obtain ⟨f1, f2⟩ := And.intro wU_facts.2.2.1 wU_facts.2.2.2.1
  have f3 := wT_facts.2.2
  obtain ⟨f4, f5⟩ := And.intro wX_facts.2.2.1 wX_facts.2.2.2
  obtain ⟨U, hU⟩ : ∃ x, x = wU := ⟨_, rfl⟩
  obtain ⟨T, hT⟩ : ∃ x, x = wT := ⟨_, rfl⟩
  obtain ⟨X, hX⟩ : ∃ x, x = wX := ⟨_, rfl⟩
  rw [← hU] at C1 D1 S1 f1 f2
  rw [← hT] at C2 D2 f3
  rw [← hX] at C3 D3 f4 f5
  obtain ⟨HU, hHU⟩ : ∃ x, x = decH U := ⟨_, rfl⟩
  obtain ⟨HT, hHT⟩ : ∃ x, x = decH T := ⟨_, rfl⟩
  obtain ⟨HX, hHX⟩ : ∃ x, x = decH X := ⟨_, rfl⟩
  rw [← hHU] at D1 f1 f2
  rw [← hHT] at D2 f3
  rw [← hHX] at D3 f4 f5
  clear hU hT hX hHU hHT hHX
  have G1 := Lib.hid (show ∀ u, Calls Try.prog 8 #[.agg #[.bool false, .int .u64 0, .int .u64 167772161, .int .u16 5], .agg #[.bool false, .int .u64 0, .int .u64 167772162, .int .u16 53], .string ⟨#[97, 98]⟩] u fun e w' => e = .returned (.tuple #[.agg #[.bool U.src.v6, .int .u64 U.src.hi, .int .u64 U.src.lo, .bool U.dst.v6, .int .u64 U.dst.hi, .int .u64 U.dst.lo, .int .u8 U.proto, .int .u8 U.ttl, .string U.data], .int .i64 0]) ∧ Below u.heap.size u w' from C1)
  have G2 := Lib.hid (show ∀ u, Calls Try.prog 10 #[.agg #[.bool false, .int .u64 0, .int .u64 167772161, .int .u16 5], .agg #[.bool false, .int .u64 0, .int .u64 167772162, .int .u16 80], .int .u8 2, .string ⟨#[]⟩] u fun e w' => e = .returned (.tuple #[.agg #[.bool T.src.v6, .int .u64 T.src.hi, .int .u64 T.src.lo, .bool T.dst.v6, .int .u64 T.dst.hi, .int .u64 T.dst.lo, .int .u8 T.proto, .int .u8 T.ttl, .string T.data], .int .i64 0]) ∧ Below u.heap.size u w' from C2)
  have G3 := Lib.hid (show ∀ u, Calls Try.prog 12 #[.agg #[.bool false, .int .u64 0, .int .u64 167772161], .agg #[.bool false, .int .u64 0, .int .u64 167772162], .int .u16 7, .bool true, .string ⟨#[120]⟩] u fun e w' => e = .returned (.tuple #[.agg #[.bool X.src.v6, .int .u64 X.src.hi, .int .u64 X.src.lo, .bool X.dst.v6, .int .u64 X.dst.hi, .int .u64 X.dst.lo, .int .u8 X.proto, .int .u8 X.ttl, .string X.data], .int .i64 0]) ∧ Below u.heap.size u w' from C3)
  have E1 := Lib.hid (show ∀ u, Calls Try.prog 14 #[.agg #[.bool U.src.v6, .int .u64 U.src.hi, .int .u64 U.src.lo, .bool U.dst.v6, .int .u64 U.dst.hi, .int .u64 U.dst.lo, .int .u8 U.proto, .int .u8 U.ttl, .string U.data]] u fun e w' => e = .returned (.tuple #[.agg #[.int .u8 HU.fl.proto, .bool HU.fl.src.v6, .int .u64 HU.fl.src.hi, .int .u64 HU.fl.src.lo, .bool HU.fl.dst.v6, .int .u64 HU.fl.dst.hi, .int .u64 HU.fl.dst.lo, .int .u16 HU.fl.fp, .int .u16 HU.fl.tp, .int .u8 HU.flags, .int .u8 HU.kind, .int .u8 HU.code, .int .i64 HU.size], .int .i64 0]) ∧ Below u.heap.size u w' from D1)
  have E2 := Lib.hid (show ∀ u, Calls Try.prog 14 #[.agg #[.bool T.src.v6, .int .u64 T.src.hi, .int .u64 T.src.lo, .bool T.dst.v6, .int .u64 T.dst.hi, .int .u64 T.dst.lo, .int .u8 T.proto, .int .u8 T.ttl, .string T.data]] u fun e w' => e = .returned (.tuple #[.agg #[.int .u8 HT.fl.proto, .bool HT.fl.src.v6, .int .u64 HT.fl.src.hi, .int .u64 HT.fl.src.lo, .bool HT.fl.dst.v6, .int .u64 HT.fl.dst.hi, .int .u64 HT.fl.dst.lo, .int .u16 HT.fl.fp, .int .u16 HT.fl.tp, .int .u8 HT.flags, .int .u8 HT.kind, .int .u8 HT.code, .int .i64 HT.size], .int .i64 0]) ∧ Below u.heap.size u w' from D2)
  have E3 := Lib.hid (show ∀ u, Calls Try.prog 14 #[.agg #[.bool X.src.v6, .int .u64 X.src.hi, .int .u64 X.src.lo, .bool X.dst.v6, .int .u64 X.dst.hi, .int .u64 X.dst.lo, .int .u8 X.proto, .int .u8 X.ttl, .string X.data]] u fun e w' => e = .returned (.tuple #[.agg #[.int .u8 HX.fl.proto, .bool HX.fl.src.v6, .int .u64 HX.fl.src.hi, .int .u64 HX.fl.src.lo, .bool HX.fl.dst.v6, .int .u64 HX.fl.dst.hi, .int .u64 HX.fl.dst.lo, .int .u16 HX.fl.fp, .int .u16 HX.fl.tp, .int .u8 HX.flags, .int .u8 HX.kind, .int .u8 HX.code, .int .i64 HX.size], .int .i64 0]) ∧ Below u.heap.size u w' from D3)
  have E4 := Lib.hid (show ∀ u, Calls Try.prog 16 #[.agg #[.bool U.src.v6, .int .u64 U.src.hi, .int .u64 U.src.lo, .bool U.dst.v6, .int .u64 U.dst.hi, .int .u64 U.dst.lo, .int .u8 U.proto, .int .u8 U.ttl, .string U.data]] u fun e w' => e = .returned (.int .u16 0) ∧ Below u.heap.size u w' from S1)
  have HV := Lib.hid (And.intro f1 (And.intro f2 (And.intro f3 (And.intro f4 f5))))
  clear C1 C2 C3 D1 D2 D3 S1 f1 f2 f3 f4 f5
  have HK0 := Lib.hid (KL.nil w)
  go_enter Try.func7, Try.ntmps7
  go_upto_region 2 with (fail)
  obtain ⟨g2, hgg2⟩ : ∃ g, g = w.heap.size + 1 := ⟨_, rfl⟩
  obtain ⟨g1, hgg1⟩ : ∃ g, g = w.heap.size := ⟨_, rfl⟩
  obtain ⟨v1, hv1⟩ : ∃ x, x = (World.alloc (World.alloc w (.cells #[.bool false, .int .u64 0, .int .u64 167772161] 24)) (.cells #[.bool false, .int .u64 0, .int .u64 167772162] 24)) := ⟨_, rfl⟩
  have HK1 : Hid (KL [(g2, .cells #[.bool false, .int .u64 0, .int .u64 167772162] 24), (g1, .cells #[.bool false, .int .u64 0, .int .u64 167772161] 24)] w v1) := by rw [hv1, hgg1, hgg2]; exact Lib.hid (HK0.out.made2 (.cells #[.bool false, .int .u64 0, .int .u64 167772161] 24) (.cells #[.bool false, .int .u64 0, .int .u64 167772162] 24))
  rw [← hv1]
  rw [← hgg2]
  rw [← hgg1]
  clear hv1 hgg1 hgg2
  obtain ⟨a0, a1, a2⟩ := adCells (HK1.out.tail.head)
  obtain ⟨b0, b1, b2⟩ := adCells (HK1.out.head)
  go_wp2_with fail
  clear a0 a1 a2 b0 b1 b2
  refine (G1.out _).mono ?_
  rintro e v2 ⟨rfl, B1⟩
  simp only []
  have HK2 := Lib.hid (HK1.out.call B1)
  clear B1
  go_upto_region 3 with (fail)
  obtain ⟨g3, hgg3⟩ : ∃ g, g = v2.heap.size := ⟨_, rfl⟩
  obtain ⟨v3, hv3⟩ : ∃ x, x = (World.alloc v2 (.cells #[.bool U.src.v6, .int .u64 U.src.hi, .int .u64 U.src.lo, .bool U.dst.v6, .int .u64 U.dst.hi, .int .u64 U.dst.lo, .int .u8 U.proto, .int .u8 U.ttl, .string U.data] 30)) := ⟨_, rfl⟩
  have HK3 : Hid (KL [(g3, .cells #[.bool U.src.v6, .int .u64 U.src.hi, .int .u64 U.src.lo, .bool U.dst.v6, .int .u64 U.dst.hi, .int .u64 U.dst.lo, .int .u8 U.proto, .int .u8 U.ttl, .string U.data] 30), (g2, .cells #[.bool false, .int .u64 0, .int .u64 167772162] 24), (g1, .cells #[.bool false, .int .u64 0, .int .u64 167772161] 24)] w v3) := by rw [hv3, hgg3]; exact Lib.hid (HK2.out.made (.cells #[.bool U.src.v6, .int .u64 U.src.hi, .int .u64 U.src.lo, .bool U.dst.v6, .int .u64 U.dst.hi, .int .u64 U.dst.lo, .int .u8 U.proto, .int .u8 U.ttl, .string U.data] 30))
  rw [← hv3]
  rw [← hgg3]
  clear hv3 hgg3
  obtain ⟨k0, k1, k2, k3, k4, k5, k6, k7, k8⟩ := pkCells (HK3.out.head)
  go_wp2_with fail
  clear k0 k1 k2 k3 k4 k5 k6 k7 k8
  refine (E1.out _).mono ?_
  rintro e v4 ⟨rfl, B1⟩
  simp only []
  have HK4 := Lib.hid (HK3.out.call B1)
  clear B1
  go_upto_region 4 with (fail)
  obtain ⟨g4, hgg4⟩ : ∃ g, g = v4.heap.size := ⟨_, rfl⟩
  obtain ⟨v5, hv5⟩ : ∃ x, x = (World.alloc v4 (.cells #[.int .u8 HU.fl.proto, .bool HU.fl.src.v6, .int .u64 HU.fl.src.hi, .int .u64 HU.fl.src.lo, .bool HU.fl.dst.v6, .int .u64 HU.fl.dst.hi, .int .u64 HU.fl.dst.lo, .int .u16 HU.fl.fp, .int .u16 HU.fl.tp, .int .u8 HU.flags, .int .u8 HU.kind, .int .u8 HU.code, .int .i64 HU.size] 41)) := ⟨_, rfl⟩
  have HK5 : Hid (KL [(g4, .cells #[.int .u8 HU.fl.proto, .bool HU.fl.src.v6, .int .u64 HU.fl.src.hi, .int .u64 HU.fl.src.lo, .bool HU.fl.dst.v6, .int .u64 HU.fl.dst.hi, .int .u64 HU.fl.dst.lo, .int .u16 HU.fl.fp, .int .u16 HU.fl.tp, .int .u8 HU.flags, .int .u8 HU.kind, .int .u8 HU.code, .int .i64 HU.size] 41), (g3, .cells #[.bool U.src.v6, .int .u64 U.src.hi, .int .u64 U.src.lo, .bool U.dst.v6, .int .u64 U.dst.hi, .int .u64 U.dst.lo, .int .u8 U.proto, .int .u8 U.ttl, .string U.data] 30), (g2, .cells #[.bool false, .int .u64 0, .int .u64 167772162] 24), (g1, .cells #[.bool false, .int .u64 0, .int .u64 167772161] 24)] w v5) := by rw [hv5, hgg4]; exact Lib.hid (HK4.out.made (.cells #[.int .u8 HU.fl.proto, .bool HU.fl.src.v6, .int .u64 HU.fl.src.hi, .int .u64 HU.fl.src.lo, .bool HU.fl.dst.v6, .int .u64 HU.fl.dst.hi, .int .u64 HU.fl.dst.lo, .int .u16 HU.fl.fp, .int .u16 HU.fl.tp, .int .u8 HU.flags, .int .u8 HU.kind, .int .u8 HU.code, .int .i64 HU.size] 41))
  rw [← hv5]
  rw [← hgg4]
  clear hv5 hgg4
  obtain ⟨a0, a1, a2⟩ := adCells (HK5.out.tail.tail.tail.head)
  obtain ⟨b0, b1, b2⟩ := adCells (HK5.out.tail.tail.head)
  go_wp2_with fail
  clear a0 a1 a2 b0 b1 b2
  refine (G2.out _).mono ?_
  rintro e v6 ⟨rfl, B1⟩
  simp only []
  have HK6 := Lib.hid (HK5.out.call B1)
  clear B1
  go_upto_region 5 with (fail)
  obtain ⟨g5, hgg5⟩ : ∃ g, g = v6.heap.size := ⟨_, rfl⟩
  obtain ⟨v7, hv7⟩ : ∃ x, x = (World.alloc v6 (.cells #[.bool T.src.v6, .int .u64 T.src.hi, .int .u64 T.src.lo, .bool T.dst.v6, .int .u64 T.dst.hi, .int .u64 T.dst.lo, .int .u8 T.proto, .int .u8 T.ttl, .string T.data] 30)) := ⟨_, rfl⟩
  have HK7 : Hid (KL [(g5, .cells #[.bool T.src.v6, .int .u64 T.src.hi, .int .u64 T.src.lo, .bool T.dst.v6, .int .u64 T.dst.hi, .int .u64 T.dst.lo, .int .u8 T.proto, .int .u8 T.ttl, .string T.data] 30), (g4, .cells #[.int .u8 HU.fl.proto, .bool HU.fl.src.v6, .int .u64 HU.fl.src.hi, .int .u64 HU.fl.src.lo, .bool HU.fl.dst.v6, .int .u64 HU.fl.dst.hi, .int .u64 HU.fl.dst.lo, .int .u16 HU.fl.fp, .int .u16 HU.fl.tp, .int .u8 HU.flags, .int .u8 HU.kind, .int .u8 HU.code, .int .i64 HU.size] 41), (g3, .cells #[.bool U.src.v6, .int .u64 U.src.hi, .int .u64 U.src.lo, .bool U.dst.v6, .int .u64 U.dst.hi, .int .u64 U.dst.lo, .int .u8 U.proto, .int .u8 U.ttl, .string U.data] 30), (g2, .cells #[.bool false, .int .u64 0, .int .u64 167772162] 24), (g1, .cells #[.bool false, .int .u64 0, .int .u64 167772161] 24)] w v7) := by rw [hv7, hgg5]; exact Lib.hid (HK6.out.made (.cells #[.bool T.src.v6, .int .u64 T.src.hi, .int .u64 T.src.lo, .bool T.dst.v6, .int .u64 T.dst.hi, .int .u64 T.dst.lo, .int .u8 T.proto, .int .u8 T.ttl, .string T.data] 30))
  rw [← hv7]
  rw [← hgg5]
  clear hv7 hgg5
  obtain ⟨k0, k1, k2, k3, k4, k5, k6, k7, k8⟩ := pkCells (HK7.out.head)
  go_wp2_with fail
  clear k0 k1 k2 k3 k4 k5 k6 k7 k8
  refine (E2.out _).mono ?_
  rintro e v8 ⟨rfl, B1⟩
  simp only []
  have HK8 := Lib.hid (HK7.out.call B1)
  clear B1
  go_upto_region 6 with (fail)
  obtain ⟨g6, hgg6⟩ : ∃ g, g = v8.heap.size := ⟨_, rfl⟩
  obtain ⟨v9, hv9⟩ : ∃ x, x = (World.alloc v8 (.cells #[.int .u8 HT.fl.proto, .bool HT.fl.src.v6, .int .u64 HT.fl.src.hi, .int .u64 HT.fl.src.lo, .bool HT.fl.dst.v6, .int .u64 HT.fl.dst.hi, .int .u64 HT.fl.dst.lo, .int .u16 HT.fl.fp, .int .u16 HT.fl.tp, .int .u8 HT.flags, .int .u8 HT.kind, .int .u8 HT.code, .int .i64 HT.size] 41)) := ⟨_, rfl⟩
  have HK9 : Hid (KL [(g6, .cells #[.int .u8 HT.fl.proto, .bool HT.fl.src.v6, .int .u64 HT.fl.src.hi, .int .u64 HT.fl.src.lo, .bool HT.fl.dst.v6, .int .u64 HT.fl.dst.hi, .int .u64 HT.fl.dst.lo, .int .u16 HT.fl.fp, .int .u16 HT.fl.tp, .int .u8 HT.flags, .int .u8 HT.kind, .int .u8 HT.code, .int .i64 HT.size] 41), (g5, .cells #[.bool T.src.v6, .int .u64 T.src.hi, .int .u64 T.src.lo, .bool T.dst.v6, .int .u64 T.dst.hi, .int .u64 T.dst.lo, .int .u8 T.proto, .int .u8 T.ttl, .string T.data] 30), (g4, .cells #[.int .u8 HU.fl.proto, .bool HU.fl.src.v6, .int .u64 HU.fl.src.hi, .int .u64 HU.fl.src.lo, .bool HU.fl.dst.v6, .int .u64 HU.fl.dst.hi, .int .u64 HU.fl.dst.lo, .int .u16 HU.fl.fp, .int .u16 HU.fl.tp, .int .u8 HU.flags, .int .u8 HU.kind, .int .u8 HU.code, .int .i64 HU.size] 41), (g3, .cells #[.bool U.src.v6, .int .u64 U.src.hi, .int .u64 U.src.lo, .bool U.dst.v6, .int .u64 U.dst.hi, .int .u64 U.dst.lo, .int .u8 U.proto, .int .u8 U.ttl, .string U.data] 30), (g2, .cells #[.bool false, .int .u64 0, .int .u64 167772162] 24), (g1, .cells #[.bool false, .int .u64 0, .int .u64 167772161] 24)] w v9) := by rw [hv9, hgg6]; exact Lib.hid (HK8.out.made (.cells #[.int .u8 HT.fl.proto, .bool HT.fl.src.v6, .int .u64 HT.fl.src.hi, .int .u64 HT.fl.src.lo, .bool HT.fl.dst.v6, .int .u64 HT.fl.dst.hi, .int .u64 HT.fl.dst.lo, .int .u16 HT.fl.fp, .int .u16 HT.fl.tp, .int .u8 HT.flags, .int .u8 HT.kind, .int .u8 HT.code, .int .i64 HT.size] 41))
  rw [← hv9]
  rw [← hgg6]
  clear hv9 hgg6
  obtain ⟨a0, a1, a2⟩ := adCells (HK9.out.tail.tail.tail.tail.tail.head)
  obtain ⟨b0, b1, b2⟩ := adCells (HK9.out.tail.tail.tail.tail.head)
  go_wp2_with fail
  clear a0 a1 a2 b0 b1 b2
  refine (G3.out _).mono ?_
  rintro e v10 ⟨rfl, B1⟩
  simp only []
  have HK10 := Lib.hid (HK9.out.call B1)
  clear B1
  go_upto_region 7 with (fail)
  obtain ⟨g7, hgg7⟩ : ∃ g, g = v10.heap.size := ⟨_, rfl⟩
  obtain ⟨v11, hv11⟩ : ∃ x, x = (World.alloc v10 (.cells #[.bool X.src.v6, .int .u64 X.src.hi, .int .u64 X.src.lo, .bool X.dst.v6, .int .u64 X.dst.hi, .int .u64 X.dst.lo, .int .u8 X.proto, .int .u8 X.ttl, .string X.data] 30)) := ⟨_, rfl⟩
  have HK11 : Hid (KL [(g7, .cells #[.bool X.src.v6, .int .u64 X.src.hi, .int .u64 X.src.lo, .bool X.dst.v6, .int .u64 X.dst.hi, .int .u64 X.dst.lo, .int .u8 X.proto, .int .u8 X.ttl, .string X.data] 30), (g6, .cells #[.int .u8 HT.fl.proto, .bool HT.fl.src.v6, .int .u64 HT.fl.src.hi, .int .u64 HT.fl.src.lo, .bool HT.fl.dst.v6, .int .u64 HT.fl.dst.hi, .int .u64 HT.fl.dst.lo, .int .u16 HT.fl.fp, .int .u16 HT.fl.tp, .int .u8 HT.flags, .int .u8 HT.kind, .int .u8 HT.code, .int .i64 HT.size] 41), (g5, .cells #[.bool T.src.v6, .int .u64 T.src.hi, .int .u64 T.src.lo, .bool T.dst.v6, .int .u64 T.dst.hi, .int .u64 T.dst.lo, .int .u8 T.proto, .int .u8 T.ttl, .string T.data] 30), (g4, .cells #[.int .u8 HU.fl.proto, .bool HU.fl.src.v6, .int .u64 HU.fl.src.hi, .int .u64 HU.fl.src.lo, .bool HU.fl.dst.v6, .int .u64 HU.fl.dst.hi, .int .u64 HU.fl.dst.lo, .int .u16 HU.fl.fp, .int .u16 HU.fl.tp, .int .u8 HU.flags, .int .u8 HU.kind, .int .u8 HU.code, .int .i64 HU.size] 41), (g3, .cells #[.bool U.src.v6, .int .u64 U.src.hi, .int .u64 U.src.lo, .bool U.dst.v6, .int .u64 U.dst.hi, .int .u64 U.dst.lo, .int .u8 U.proto, .int .u8 U.ttl, .string U.data] 30), (g2, .cells #[.bool false, .int .u64 0, .int .u64 167772162] 24), (g1, .cells #[.bool false, .int .u64 0, .int .u64 167772161] 24)] w v11) := by rw [hv11, hgg7]; exact Lib.hid (HK10.out.made (.cells #[.bool X.src.v6, .int .u64 X.src.hi, .int .u64 X.src.lo, .bool X.dst.v6, .int .u64 X.dst.hi, .int .u64 X.dst.lo, .int .u8 X.proto, .int .u8 X.ttl, .string X.data] 30))
  rw [← hv11]
  rw [← hgg7]
  clear hv11 hgg7
  obtain ⟨k0, k1, k2, k3, k4, k5, k6, k7, k8⟩ := pkCells (HK11.out.head)
  go_wp2_with fail
  clear k0 k1 k2 k3 k4 k5 k6 k7 k8
  refine (E3.out _).mono ?_
  rintro e v12 ⟨rfl, B1⟩
  simp only []
  have HK12 := Lib.hid (HK11.out.call B1)
  clear B1
  go_upto_region 8 with (fail)
  obtain ⟨g8, hgg8⟩ : ∃ g, g = v12.heap.size := ⟨_, rfl⟩
  obtain ⟨v13, hv13⟩ : ∃ x, x = (World.alloc v12 (.cells #[.int .u8 HX.fl.proto, .bool HX.fl.src.v6, .int .u64 HX.fl.src.hi, .int .u64 HX.fl.src.lo, .bool HX.fl.dst.v6, .int .u64 HX.fl.dst.hi, .int .u64 HX.fl.dst.lo, .int .u16 HX.fl.fp, .int .u16 HX.fl.tp, .int .u8 HX.flags, .int .u8 HX.kind, .int .u8 HX.code, .int .i64 HX.size] 41)) := ⟨_, rfl⟩
  have HK13 : Hid (KL [(g8, .cells #[.int .u8 HX.fl.proto, .bool HX.fl.src.v6, .int .u64 HX.fl.src.hi, .int .u64 HX.fl.src.lo, .bool HX.fl.dst.v6, .int .u64 HX.fl.dst.hi, .int .u64 HX.fl.dst.lo, .int .u16 HX.fl.fp, .int .u16 HX.fl.tp, .int .u8 HX.flags, .int .u8 HX.kind, .int .u8 HX.code, .int .i64 HX.size] 41), (g7, .cells #[.bool X.src.v6, .int .u64 X.src.hi, .int .u64 X.src.lo, .bool X.dst.v6, .int .u64 X.dst.hi, .int .u64 X.dst.lo, .int .u8 X.proto, .int .u8 X.ttl, .string X.data] 30), (g6, .cells #[.int .u8 HT.fl.proto, .bool HT.fl.src.v6, .int .u64 HT.fl.src.hi, .int .u64 HT.fl.src.lo, .bool HT.fl.dst.v6, .int .u64 HT.fl.dst.hi, .int .u64 HT.fl.dst.lo, .int .u16 HT.fl.fp, .int .u16 HT.fl.tp, .int .u8 HT.flags, .int .u8 HT.kind, .int .u8 HT.code, .int .i64 HT.size] 41), (g5, .cells #[.bool T.src.v6, .int .u64 T.src.hi, .int .u64 T.src.lo, .bool T.dst.v6, .int .u64 T.dst.hi, .int .u64 T.dst.lo, .int .u8 T.proto, .int .u8 T.ttl, .string T.data] 30), (g4, .cells #[.int .u8 HU.fl.proto, .bool HU.fl.src.v6, .int .u64 HU.fl.src.hi, .int .u64 HU.fl.src.lo, .bool HU.fl.dst.v6, .int .u64 HU.fl.dst.hi, .int .u64 HU.fl.dst.lo, .int .u16 HU.fl.fp, .int .u16 HU.fl.tp, .int .u8 HU.flags, .int .u8 HU.kind, .int .u8 HU.code, .int .i64 HU.size] 41), (g3, .cells #[.bool U.src.v6, .int .u64 U.src.hi, .int .u64 U.src.lo, .bool U.dst.v6, .int .u64 U.dst.hi, .int .u64 U.dst.lo, .int .u8 U.proto, .int .u8 U.ttl, .string U.data] 30), (g2, .cells #[.bool false, .int .u64 0, .int .u64 167772162] 24), (g1, .cells #[.bool false, .int .u64 0, .int .u64 167772161] 24)] w v13) := by rw [hv13, hgg8]; exact Lib.hid (HK12.out.made (.cells #[.int .u8 HX.fl.proto, .bool HX.fl.src.v6, .int .u64 HX.fl.src.hi, .int .u64 HX.fl.src.lo, .bool HX.fl.dst.v6, .int .u64 HX.fl.dst.hi, .int .u64 HX.fl.dst.lo, .int .u16 HX.fl.fp, .int .u16 HX.fl.tp, .int .u8 HX.flags, .int .u8 HX.kind, .int .u8 HX.code, .int .i64 HX.size] 41))
  rw [← hv13]
  rw [← hgg8]
  clear hv13 hgg8
  have cg48 : v13.cell? ⟨g4, 8, none⟩ = some (.int .u16 53) := by
    have := (hdAll (HK13.out.tail.tail.tail.tail.head)).2.2.1
    rw [HV.out.1] at this
    exact this
  have cg412 : v13.cell? ⟨g4, 12, none⟩ = some (.int .i64 2) := by
    have := (hdAll (HK13.out.tail.tail.tail.tail.head)).2.2.2.2.2.2
    rw [HV.out.2.1] at this
    exact this
  have cg69 : v13.cell? ⟨g6, 9, none⟩ = some (.int .u8 2) := by
    have := (hdAll (HK13.out.tail.tail.head)).2.2.2.1
    rw [HV.out.2.2.1] at this
    exact this
  have cg87 : v13.cell? ⟨g8, 7, none⟩ = some (.int .u16 7) := by
    have := (hdAll (HK13.out.head)).2.1
    rw [HV.out.2.2.2.1] at this
    exact this
  have cg812 : v13.cell? ⟨g8, 12, none⟩ = some (.int .i64 1) := by
    have := (hdAll (HK13.out.head)).2.2.2.2.2.2
    rw [HV.out.2.2.2.2] at this
    exact this
  obtain ⟨k0, k1, k2, k3, k4, k5, k6, k7, k8⟩ := pkCells (HK13.out.tail.tail.tail.tail.tail.head)
  go_wp2_with fail
  refine (E4.out _).mono ?_
  rintro e v14 ⟨rfl, B1⟩
  simp only []
  have HK14 := Lib.hid (HK13.out.call B1)
  clear B1
  go_wp2_with fail
  go_ret
  exact ⟨rfl, HK14.out.2⟩

end Go.Proofs.Ytgonakpoflacoaa
