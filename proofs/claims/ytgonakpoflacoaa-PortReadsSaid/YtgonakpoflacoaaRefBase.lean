/-
  What the document's Decode leans on.
-/
import Derived.Test.YtgonakpoflacoaaDecode
import Derived.Test.YtgonakpoflacoaaRefMade
import Derived.Test.YtgonakpoflacoaaNum2
set_option linter.unusedVariables false
set_option linter.unusedSimpArgs false
namespace Go.Proofs.Ytgonakpoflacoaa
open Go.RowKit

def hd1 (p : Pk) : Hd := ⟨⟨p.proto, p.src, p.dst, 0, 0⟩, 0, 0, 0, 0⟩
/-- A packet's block, the answer's, a head's. -/
structure QS (P R H : Nat) (pc : Array Value) (h : Hd) (w u : World) : Prop where
  pk : u.heap[P]? = some (.cells pc 30)
  rr : u.heap[R]? = some (.cells #[.int .u8 0, .bool false, .int .u64 0, .int .u64 0, .bool false, .int .u64 0, .int .u64 0, .int .u16 0, .int .u16 0, .int .u8 0, .int .u8 0, .int .u8 0, .int .i64 0] 41)
  hd : u.heap[H]? = some (.cells h.cells 41)
  below : Below w.heap.size w u
  nR : w.heap.size ≤ R
  nH : w.heap.size ≤ H
  PH : P ≠ H
  RH : R ≠ H
theorem QS.call {P R H : Nat} {pc : Array Value} {h : Hd} {w u u' : World} (p : QS P R H pc h w u) (l : Below u.heap.size u u') : QS P R H pc h w u' := by
  obtain ⟨p1, p2, p3, p4, n1, n2, n3, n4⟩ := p
  exact ⟨(l.block P (lt_of_heap p1)).trans p1, (l.block R (lt_of_heap p2)).trans p2, (l.block H (lt_of_heap p3)).trans p3, p4.trans (l.mono p4.size), n1, n2, n3, n4⟩
theorem QS.set {P R H : Nat} {pc : Array Value} {h h' : Hd} {w u : World} (p : QS P R H pc h w u) {o : Nat} {v : Value} (e : h.cells.setIfInBounds o v = h'.cells) : QS P R H pc h' w (u.setCell ⟨H, o, none⟩ v) := by
  obtain ⟨p1, p2, p3, p4, n1, n2, n3, n4⟩ := p
  refine ⟨?_, ?_, ?_, ?_, n1, n2, n3, n4⟩
  · rw [Below.heap_setCell _ _ _ _ (by simpa using n3)]; exact p1
  · rw [Below.heap_setCell _ _ _ _ (by simpa using n4)]; exact p2
  · rw [← e]; simp [World.setCell, Array.getElem?_modify, p3]
  · exact p4.setCell (p := ⟨H, o, none⟩) n2 v
/-- Two blocks of the call's own, a call between them and a third one. -/
theorem QS.start {w u : World} {pc : Array Value} {h : Hd} (l : Below (((w.alloc (.cells pc 30)).alloc (.cells #[.int .u8 0, .bool false, .int .u64 0, .int .u64 0, .bool false, .int .u64 0, .int .u64 0, .int .u16 0, .int .u16 0, .int .u8 0, .int .u8 0, .int .u8 0, .int .i64 0] 41)).heap.size) ((w.alloc (.cells pc 30)).alloc (.cells #[.int .u8 0, .bool false, .int .u64 0, .int .u64 0, .bool false, .int .u64 0, .int .u64 0, .int .u16 0, .int .u16 0, .int .u8 0, .int .u8 0, .int .u8 0, .int .i64 0] 41)) u) :
    QS w.heap.size (w.heap.size + 1) u.heap.size pc h w (u.alloc (.cells h.cells 41)) := by
  obtain ⟨h1, h2, h3⟩ := two_allocs l
  have z1 := lt_of_heap h1
  have z2 := lt_of_heap h2
  exact ⟨by rw [heap_alloc_old _ _ z1]; exact h1, by rw [heap_alloc_old _ _ z2]; exact h2, heap_alloc_last _ _, h3.alloc h3.size _, by omega, h3.size, by omega, by omega⟩

end Go.Proofs.Ytgonakpoflacoaa
