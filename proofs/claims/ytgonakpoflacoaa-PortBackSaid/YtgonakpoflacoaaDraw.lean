/-
  For regions that draw their order: what is held of the world may grow on the way.
-/
import Derived.Test.YtgonakpoflacoaaSumBase
set_option linter.unusedVariables false
set_option linter.unusedSimpArgs false
namespace Go.Proofs.Ytgonakpoflacoaa
open Go.RowKit

/-- What is held may be made stronger from here on. -/
theorem wpAnyH_strong {P : Program} {ops : Array Oper} {Q : Exit → Act → World → Prop} {md : Region.Mode} {S1 S2 : World → Prop} (h12 : ∀ u, S2 u → S1 u) :
    ∀ (fuel : Nat) (listed : Array Bool) (a : Act) (w : World), wpAnyH P md ops Q S2 fuel listed a w → wpAnyH P md ops Q S1 fuel listed a w
  | 0, _, _, _, h => h
  | fuel + 1, _, _, _, h => ⟨h.1, fun i hi => wpOp_mono (fun a' w' h' => ⟨h12 _ h'.1, wpAnyH_strong h12 fuel _ a' w' h'.2⟩) (h.2 i hi)⟩

/-- The blocks of a list stand as told; block R has nine cells of a packet; below the beginning nothing has turned. -/
def HL (L : List (Nat × Obj)) (R T : Nat) (w u : World) : Prop :=
  (∀ x ∈ L, u.heap[x.1]? = some x.2) ∧ (∃ cs : Array Value, cs.size = T ∧ u.heap[R]? = some (.cells cs (if T = 9 then 30 else 41) (0, 0))) ∧ Below w.heap.size w u
theorem HL.call {L : List (Nat × Obj)} {R T : Nat} {w u u' : World} (h : HL L R T w u) (b : Below u.heap.size u u') : HL L R T w u' := by
  obtain ⟨h1, ⟨cs, h2, h3⟩, h4⟩ := h
  exact ⟨fun x hx => (b.block _ (lt_of_heap (h1 x hx))).trans (h1 x hx), ⟨cs, h2, (b.block _ (lt_of_heap h3)).trans h3⟩, h4.trans (b.mono h4.size)⟩
theorem HL.drew {L : List (Nat × Obj)} {R T : Nat} {w u : World} (h : HL L R T w u) : HL L R T w u.drew := ⟨h.1, h.2.1, h.2.2.drew⟩
theorem HL.alloc {L : List (Nat × Obj)} {R T : Nat} {w u : World} (h : HL L R T w u) (o : Obj) : HL L R T w (u.alloc o) := h.call ((Below.refl _ _).alloc (Nat.le_refl _) o)
theorem HL.made {L : List (Nat × Obj)} {R T : Nat} {w u : World} (h : HL L R T w u) (o : Obj) : HL ((u.heap.size, o) :: L) R T w (u.alloc o) := by
  refine ⟨fun x hx => ?_, (h.alloc o).2⟩
  rcases List.mem_cons.1 hx with rfl | hx
  · exact heap_alloc_last u o
  · exact (h.alloc o).1 x hx
theorem HL.tail {x : Nat × Obj} {L : List (Nat × Obj)} {R T : Nat} {w u : World} (h : HL (x :: L) R T w u) : HL L R T w u := ⟨fun y hy => h.1 y (List.mem_cons_of_mem _ hy), h.2⟩
theorem HL.head {x : Nat × Obj} {L : List (Nat × Obj)} {R T : Nat} {w u : World} (h : HL (x :: L) R T w u) : u.heap[x.1]? = some x.2 := h.1 x List.mem_cons_self
theorem HL.store {L : List (Nat × Obj)} {R T : Nat} {w u : World} (h : HL L R T w u) (hne : ∀ x ∈ L, x.1 ≠ R) (hR : w.heap.size ≤ R) {cs : Array Value} (hc : cs.size = T) : HL L R T w (u.setRow R cs) := by
  obtain ⟨h1, ⟨os, h2, h3⟩, h4⟩ := h
  refine ⟨fun x hx => ?_, ⟨cs, hc, setRow_heap u R os cs _ _ h3⟩, h4.trans (((⟨rfl, rfl, rfl, by simp [World.setRow], fun j hj => setRow_other u R j cs (by omega)⟩ : Below w.heap.size u (u.setRow R cs))))⟩
  rw [setRow_other u R _ cs (hne x hx)]
  exact h1 x hx
theorem HL.row {L : List (Nat × Obj)} {R T : Nat} {w u : World} (h : HL L R T w u) {cs : Array Value} : (u.setRow R cs).heap[R]? = some (.cells cs (if T = 9 then 30 else 41) (0, 0)) := by
  obtain ⟨h1, ⟨os, h2, h3⟩, h4⟩ := h
  exact setRow_heap u R os cs _ _ h3
theorem HL.one {a b r : Obj} {w : World} {R T : Nat} {cs : Array Value} (hr : r = .cells cs (if T = 9 then 30 else 41) (0, 0)) (hc : cs.size = T) (hR : R = w.heap.size + 1) : HL [(w.heap.size, a)] R T w ((w.alloc a).alloc r) := by
  subst hR
  have s1 : (w.alloc a).heap.size = w.heap.size + 1 := by simp
  refine ⟨fun x hx => ?_, ⟨cs, hc, ?_⟩, ((Below.refl w.heap.size w).alloc (Nat.le_refl _) a).alloc (by simp) r⟩
  · rcases List.mem_singleton.1 hx with rfl
    show ((w.alloc a).alloc r).heap[w.heap.size]? = some a
    rw [heap_alloc_old _ _ (by rw [s1]; omega)]
    exact heap_alloc_last _ _
  · rw [← s1, ← hr]
    exact heap_alloc_last _ _
theorem HL.two {a b r : Obj} {w : World} {R T : Nat} {cs : Array Value} (hr : r = .cells cs (if T = 9 then 30 else 41) (0, 0)) (hc : cs.size = T) (hR : R = w.heap.size + 1 + 1) : HL [(w.heap.size + 1, b), (w.heap.size, a)] R T w (((w.alloc a).alloc b).alloc r) := by
  subst hR
  have s1 : (w.alloc a).heap.size = w.heap.size + 1 := by simp
  have s2 : ((w.alloc a).alloc b).heap.size = w.heap.size + 1 + 1 := by simp
  refine ⟨fun x hx => ?_, ⟨cs, hc, ?_⟩, (((Below.refl w.heap.size w).alloc (Nat.le_refl _) a).alloc (by simp) b).alloc (by simp; omega) r⟩
  · rcases List.mem_cons.1 hx with rfl | hx
    · show (((w.alloc a).alloc b).alloc r).heap[w.heap.size + 1]? = some b
      rw [heap_alloc_old _ _ (by rw [s2]; omega), ← s1]
      exact heap_alloc_last _ _
    · rcases List.mem_singleton.1 hx with rfl
      show (((w.alloc a).alloc b).alloc r).heap[w.heap.size]? = some a
      rw [heap_alloc_old _ _ (by rw [s2]; omega), heap_alloc_old _ _ (by rw [s1]; omega)]
      exact heap_alloc_last _ _
  · rw [← s2, ← hr]
    exact heap_alloc_last _ _
theorem HL.ne {g : Nat} {c5 : Array Value} {L : List (Nat × Obj)} {R T : Nat} {w u : World} (h : HL ((g, .cells c5 5) :: L) R T w u) : g ≠ R := by
  rintro rfl
  obtain ⟨cs, _, hR⟩ := h.2.1
  have h0 : u.heap[g]? = some (.cells c5 5) := h.head
  rw [hR] at h0
  split at h0 <;> simp at h0
theorem epCells {u : World} {B : Nat} {c0 c1 c2 c3 : Value} (h : u.heap[B]? = some (.cells #[c0, c1, c2, c3] 27)) :
    u.cell? ⟨B, 0, none⟩ = some c0 ∧ u.cell? ⟨B, 1, none⟩ = some c1 ∧ u.cell? ⟨B, 2, none⟩ = some c2 ∧ u.cell? ⟨B, 3, none⟩ = some c3 := by
  simp [World.cell?, h]
theorem adCells {u : World} {B : Nat} {c0 c1 c2 : Value} (h : u.heap[B]? = some (.cells #[c0, c1, c2] 24)) :
    u.cell? ⟨B, 0, none⟩ = some c0 ∧ u.cell? ⟨B, 1, none⟩ = some c1 ∧ u.cell? ⟨B, 2, none⟩ = some c2 := by
  simp [World.cell?, h]

end Go.Proofs.Ytgonakpoflacoaa
