/-
  PortBack: what all ways of the walk lean on.
-/
import Derived.Test.YtgonakpoflacoaaTold
set_option linter.unusedVariables false
set_option linter.unusedSimpArgs false
namespace Go.Proofs.Ytgonakpoflacoaa
open Go.RowKit

theorem decode_told (p : Pk) (f : Fl) (fl : Nat) (sz : Int) (hok : p.Ok) (hd : p.data.size ≤ 10000) (ht : ToldAs p f fl sz) :
    ∃ kd cd : Nat, ∀ u, Calls Try.prog 14 #[.agg #[.bool p.src.v6, .int .u64 p.src.hi, .int .u64 p.src.lo, .bool p.dst.v6, .int .u64 p.dst.hi, .int .u64 p.dst.lo, .int .u8 p.proto, .int .u8 p.ttl, .string p.data]] u fun e w' => e = .returned (.tuple #[.agg #[.int .u8 f.proto, .bool f.src.v6, .int .u64 f.src.hi, .int .u64 f.src.lo, .bool f.dst.v6, .int .u64 f.dst.hi, .int .u64 f.dst.lo, .int .u16 f.fp, .int .u16 f.tp, .int .u8 fl, .int .u8 kd, .int .u8 cd, .int .i64 sz], .int .i64 0]) ∧ Below u.heap.size u w' := by
  obtain ⟨t1, t2, t3, t4, t5⟩ := ht
  refine ⟨(decH p).kind, (decH p).code, fun u => ?_⟩
  have h := decode_any p u hok hd
  rw [t1] at h
  rw [show (decH p).val = .agg #[.int .u8 f.proto, .bool f.src.v6, .int .u64 f.src.hi, .int .u64 f.src.lo, .bool f.dst.v6, .int .u64 f.dst.hi, .int .u64 f.dst.lo, .int .u16 f.fp, .int .u16 f.tp, .int .u8 fl, .int .u8 (decH p).kind, .int .u8 (decH p).code, .int .i64 sz] by
    unfold Hd.val Hd.cells
    rw [t2, t3, t4]] at h
  exact h
theorem sizeM {p : Pk} {k n : Nat} (h : k + 2 ≤ p.data.size) (hn : p.data.size ≤ n) : (madeP p k).data.size ≤ n := Nat.le_trans (madeP_size h) hn

end Go.Proofs.Ytgonakpoflacoaa
