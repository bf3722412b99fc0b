/-
  told: a packet that is told so.
-/
import Derived.Test.YtgonakpoflacoaaPlain2
set_option linter.unusedVariables false
set_option linter.unusedSimpArgs false
namespace Go.Proofs.Ytgonakpoflacoaa
open Go.RowKit

theorem flCells {u : World} {B : Nat} {c0 c1 c2 c3 c4 c5 c6 c7 c8 : Value} (h : u.heap[B]? = some (.cells #[c0, c1, c2, c3, c4, c5, c6, c7, c8] 39)) :
    u.cell? ⟨B, 0, none⟩ = some c0 ∧ u.cell? ⟨B, 1, none⟩ = some c1 ∧ u.cell? ⟨B, 2, none⟩ = some c2 ∧ u.cell? ⟨B, 3, none⟩ = some c3 ∧ u.cell? ⟨B, 4, none⟩ = some c4 ∧ u.cell? ⟨B, 5, none⟩ = some c5 ∧ u.cell? ⟨B, 6, none⟩ = some c6 ∧ u.cell? ⟨B, 7, none⟩ = some c7 ∧ u.cell? ⟨B, 8, none⟩ = some c8 := by
  simp [World.cell?, h]
set_option maxHeartbeats 16000000 in
set_option maxRecDepth 100000 in
theorem told_any (p : Pk) (f : Fl) (fl : Nat) (sz : Int) (w : World) (hok : p.Ok) (hd : p.data.size ≤ 10000) (ht : ToldAs p f fl sz) :
    Calls Try.prog 20 #[.agg #[.bool p.src.v6, .int .u64 p.src.hi, .int .u64 p.src.lo, .bool p.dst.v6, .int .u64 p.dst.hi, .int .u64 p.dst.lo, .int .u8 p.proto, .int .u8 p.ttl, .string p.data], .agg #[.int .u8 f.proto, .bool f.src.v6, .int .u64 f.src.hi, .int .u64 f.src.lo, .bool f.dst.v6, .int .u64 f.dst.hi, .int .u64 f.dst.lo, .int .u16 f.fp, .int .u16 f.tp], .int .u8 fl, .int .i64 sz] w fun e w' => e = .returned (.bool true) ∧ Below w.heap.size w w' := by
  obtain ⟨t1, t2, t3, t4, t5⟩ := ht
  obtain ⟨kd, hkd⟩ : ∃ x, x = (decH p).kind := ⟨_, rfl⟩
  obtain ⟨cd, hcd⟩ : ∃ x, x = (decH p).code := ⟨_, rfl⟩
  have D1 := Lib.hid (show ∀ u, Calls Try.prog 14 #[.agg #[.bool p.src.v6, .int .u64 p.src.hi, .int .u64 p.src.lo, .bool p.dst.v6, .int .u64 p.dst.hi, .int .u64 p.dst.lo, .int .u8 p.proto, .int .u8 p.ttl, .string p.data]] u fun e w' => e = .returned (.tuple #[.agg #[.int .u8 f.proto, .bool f.src.v6, .int .u64 f.src.hi, .int .u64 f.src.lo, .bool f.dst.v6, .int .u64 f.dst.hi, .int .u64 f.dst.lo, .int .u16 f.fp, .int .u16 f.tp, .int .u8 fl, .int .u8 kd, .int .u8 cd, .int .i64 sz], .int .i64 0]) ∧ Below u.heap.size u w' from fun u => by
    have h := decode_any p u hok hd
    rw [t1] at h
    have e : (decH p).val = .agg #[.int .u8 f.proto, .bool f.src.v6, .int .u64 f.src.hi, .int .u64 f.src.lo, .bool f.dst.v6, .int .u64 f.dst.hi, .int .u64 f.dst.lo, .int .u16 f.fp, .int .u16 f.tp, .int .u8 fl, .int .u8 kd, .int .u8 cd, .int .i64 sz] := by
      unfold Hd.val Hd.cells
      rw [t2, t3, t4, ← hkd, ← hcd]
    rw [e] at h
    exact h)
  have S1 := Lib.hid (show ∀ u, Calls Try.prog 16 #[.agg #[.bool p.src.v6, .int .u64 p.src.hi, .int .u64 p.src.lo, .bool p.dst.v6, .int .u64 p.dst.hi, .int .u64 p.dst.lo, .int .u8 p.proto, .int .u8 p.ttl, .string p.data]] u fun e w' => e = .returned (.int .u16 0) ∧ Below u.heap.size u w' from fun u => by
    have h := sumAsk_any p u hok hd
    rw [t5] at h
    exact h)
  have HK0 := Lib.hid (KL.nil w)
  clear t1 t2 t3 t4 t5 hkd hcd hok hd
  go_enter Try.func20, Try.ntmps20
  go_upto_region 1 with (fail)
  obtain ⟨g2, hgg2⟩ : ∃ g, g = w.heap.size + 1 := ⟨_, rfl⟩
  obtain ⟨g1, hgg1⟩ : ∃ g, g = w.heap.size := ⟨_, rfl⟩
  obtain ⟨ww1, hv1⟩ : ∃ x, x = (World.alloc (World.alloc w (.cells #[.bool p.src.v6, .int .u64 p.src.hi, .int .u64 p.src.lo, .bool p.dst.v6, .int .u64 p.dst.hi, .int .u64 p.dst.lo, .int .u8 p.proto, .int .u8 p.ttl, .string p.data] 30)) (.cells #[.int .u8 f.proto, .bool f.src.v6, .int .u64 f.src.hi, .int .u64 f.src.lo, .bool f.dst.v6, .int .u64 f.dst.hi, .int .u64 f.dst.lo, .int .u16 f.fp, .int .u16 f.tp] 39)) := ⟨_, rfl⟩
  have HK1 : Hid (KL [(g2, .cells #[.int .u8 f.proto, .bool f.src.v6, .int .u64 f.src.hi, .int .u64 f.src.lo, .bool f.dst.v6, .int .u64 f.dst.hi, .int .u64 f.dst.lo, .int .u16 f.fp, .int .u16 f.tp] 39), (g1, .cells #[.bool p.src.v6, .int .u64 p.src.hi, .int .u64 p.src.lo, .bool p.dst.v6, .int .u64 p.dst.hi, .int .u64 p.dst.lo, .int .u8 p.proto, .int .u8 p.ttl, .string p.data] 30)] w ww1) := by rw [hv1, hgg1, hgg2]; exact Lib.hid (HK0.out.made2 (.cells #[.bool p.src.v6, .int .u64 p.src.hi, .int .u64 p.src.lo, .bool p.dst.v6, .int .u64 p.dst.hi, .int .u64 p.dst.lo, .int .u8 p.proto, .int .u8 p.ttl, .string p.data] 30) (.cells #[.int .u8 f.proto, .bool f.src.v6, .int .u64 f.src.hi, .int .u64 f.src.lo, .bool f.dst.v6, .int .u64 f.dst.hi, .int .u64 f.dst.lo, .int .u16 f.fp, .int .u16 f.tp] 39))
  rw [← hv1]
  rw [← hgg2]
  rw [← hgg1]
  clear hv1 hgg1 hgg2
  obtain ⟨k0, k1, k2, k3, k4, k5, k6, k7, k8⟩ := pkCells (HK1.out.tail.head)
  go_wp2_with fail
  clear k0 k1 k2 k3 k4 k5 k6 k7 k8
  refine (D1.out _).mono ?_
  rintro e ww2 ⟨rfl, B1⟩
  simp only []
  have HK2 := Lib.hid (HK1.out.call B1)
  clear B1
  go_upto_region 2 with (fail)
  obtain ⟨g3, hgg3⟩ : ∃ g, g = ww2.heap.size := ⟨_, rfl⟩
  obtain ⟨ww3, hv3⟩ : ∃ x, x = (World.alloc ww2 (.cells #[.int .u8 f.proto, .bool f.src.v6, .int .u64 f.src.hi, .int .u64 f.src.lo, .bool f.dst.v6, .int .u64 f.dst.hi, .int .u64 f.dst.lo, .int .u16 f.fp, .int .u16 f.tp, .int .u8 fl, .int .u8 kd, .int .u8 cd, .int .i64 sz] 41)) := ⟨_, rfl⟩
  have HK3 : Hid (KL [(g3, .cells #[.int .u8 f.proto, .bool f.src.v6, .int .u64 f.src.hi, .int .u64 f.src.lo, .bool f.dst.v6, .int .u64 f.dst.hi, .int .u64 f.dst.lo, .int .u16 f.fp, .int .u16 f.tp, .int .u8 fl, .int .u8 kd, .int .u8 cd, .int .i64 sz] 41), (g2, .cells #[.int .u8 f.proto, .bool f.src.v6, .int .u64 f.src.hi, .int .u64 f.src.lo, .bool f.dst.v6, .int .u64 f.dst.hi, .int .u64 f.dst.lo, .int .u16 f.fp, .int .u16 f.tp] 39), (g1, .cells #[.bool p.src.v6, .int .u64 p.src.hi, .int .u64 p.src.lo, .bool p.dst.v6, .int .u64 p.dst.hi, .int .u64 p.dst.lo, .int .u8 p.proto, .int .u8 p.ttl, .string p.data] 30)] w ww3) := by rw [hv3, hgg3]; exact Lib.hid (HK2.out.made (.cells #[.int .u8 f.proto, .bool f.src.v6, .int .u64 f.src.hi, .int .u64 f.src.lo, .bool f.dst.v6, .int .u64 f.dst.hi, .int .u64 f.dst.lo, .int .u16 f.fp, .int .u16 f.tp, .int .u8 fl, .int .u8 kd, .int .u8 cd, .int .i64 sz] 41))
  rw [← hv3]
  rw [← hgg3]
  clear hv3 hgg3
  obtain ⟨⟨j0, j1, j2, j3, j4, j5, j6⟩, j7, j8, j9, j10, j11, j12⟩ := hdAll (HK3.out.head)
  obtain ⟨m0, m1, m2, m3, m4, m5, m6, m7, m8⟩ := flCells (HK3.out.tail.head)
  obtain ⟨k0, k1, k2, k3, k4, k5, k6, k7, k8⟩ := pkCells (HK3.out.tail.tail.head)
  go_wp2_with fail
  clear j0 j1 j2 j3 j4 j5 j6 j7 j8 j9 j10 j11 j12 m0 m1 m2 m3 m4 m5 m6 m7 m8
  clear k0 k1 k2 k3 k4 k5 k6 k7 k8
  refine (S1.out _).mono ?_
  rintro e ww4 ⟨rfl, B1⟩
  simp only []
  have HK4 := Lib.hid (HK3.out.call B1)
  clear B1
  go_wp2_with fail
  go_ret
  exact ⟨rfl, HK4.out.2⟩

end Go.Proofs.Ytgonakpoflacoaa
