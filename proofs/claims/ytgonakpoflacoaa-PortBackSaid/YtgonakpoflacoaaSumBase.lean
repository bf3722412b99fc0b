/-
  A packet's sum: what both walks lean on.
-/
import Derived.Test.YtgonakpoflacoaaAddrS
import Derived.Deep.RegionHeld3
import Derived.Deep.CutRange
import Derived.Laws.Concat
set_option linter.unusedVariables false
set_option linter.unusedSimpArgs false
namespace Go.Proofs.Ytgonakpoflacoaa
open Go.RowKit


theorem pkCells {u : World} {B : Nat} {c0 c1 c2 c3 c4 c5 c6 c7 c8 : Value} (h : u.heap[B]? = some (.cells #[c0, c1, c2, c3, c4, c5, c6, c7, c8] 30)) :
    u.cell? ⟨B, 0, none⟩ = some c0 ∧ u.cell? ⟨B, 1, none⟩ = some c1 ∧ u.cell? ⟨B, 2, none⟩ = some c2 ∧ u.cell? ⟨B, 3, none⟩ = some c3 ∧ u.cell? ⟨B, 4, none⟩ = some c4 ∧ u.cell? ⟨B, 5, none⟩ = some c5 ∧ u.cell? ⟨B, 6, none⟩ = some c6 ∧ u.cell? ⟨B, 7, none⟩ = some c7 ∧ u.cell? ⟨B, 8, none⟩ = some c8 := by
  simp [World.cell?, h]
theorem lt_of_heap {u : World} {B : Nat} {o : Obj} (h : u.heap[B]? = some o) : B < u.heap.size := (Array.getElem?_eq_some_iff.1 h).1
theorem bytes_conv {u : World} {g n : Nat} (l : List UInt8) (hn : l.length = n) (h : u.heap[g]? = some (.cells (l.map fun c => Value.int .u8 (c.toNat : Int)).toArray 5)) : (convert 37 9 (.slice (some ⟨g, 0, none⟩) n n)).run Try.prog u = .ok (.string ⟨l.toArray⟩) u := by
  subst hn
  exact run_convert_bytes_back (P := Try.prog) u 37 9 5 ⟨g, 0, none⟩ l.length l Try.underlying37 Try.underlying5 Try.underlying9 (fun j hj => by
    rw [Addr.add_mid, Nat.zero_add]
    unfold World.cell?
    rw [h]
    simp [hj])
theorem one_conv {u : World} {g pr : Nat} (hp : pr < 256) (h : u.heap[g]? = some (.cells #[.int .u8 (pr : Int)] 5)) : (convert 37 9 (.slice (some ⟨g, 0, none⟩) 1 1)).run Try.prog u = .ok (.string ⟨#[UInt8.ofNat pr]⟩) u := by
  refine bytes_conv [UInt8.ofNat pr] rfl ?_
  rw [h]
  simp
  omega
theorem two_conv {u : World} {g pr : Nat} (hp : pr < 256) (h : u.heap[g]? = some (.cells #[.int .u8 0, .int .u8 (pr : Int)] 5)) : (convert 37 9 (.slice (some ⟨g, 0, none⟩) 2 2)).run Try.prog u = .ok (.string ⟨#[0, UInt8.ofNat pr]⟩) u := by
  refine bytes_conv [0, UInt8.ofNat pr] rfl ?_
  rw [h]
  simp
  omega
theorem u16N (n : Nat) (h : n ≤ 10000) : IntKind.u16.wrap (n : Int) = n ∧ IntKind.u64.wrap (n : Int) = n := by
  rw [IntKind.wrap_u16, IntKind.wrap_u64]; omega
theorem byEq {a b : Nat} (h : a = b) : ((a : Int) == (b : Int)) = true := by subst h; simp
theorem byNe {a b : Nat} (h : ¬ a = b) : ((a : Int) == (b : Int)) = false := beq_eq_false_iff_ne.2 (by omega)
theorem ahead_yes {p : Pk} (h : pseudo p = true) : aheadS p = adS p.src ++ adS p.dst ++ ⟨#[0, UInt8.ofNat p.proto]⟩ ++ beS p.data.size 2 := by unfold aheadS; rw [if_pos h]
theorem ahead_no {p : Pk} (h : pseudo p = false) : aheadS p = .empty := by unfold aheadS; rw [h]; rfl
theorem two_one (a : ByteArray) (x : UInt8) : a ++ ⟨#[0]⟩ ++ ⟨#[x]⟩ = a ++ ⟨#[0, x]⟩ := by
  apply ByteArray.ext
  simp only [ByteArray.data_append]
  rw [Array.append_assoc]
  rfl

end Go.Proofs.Ytgonakpoflacoaa
