/-
  The document's disk: Crash, Copy, Same; the disk's Same.
-/
import Derived.Test.YtimoenlnkafhoaaRef
import Derived.BigRegion
set_option linter.unusedVariables false
namespace Go.Proofs.Ytimoenlnkafhoaa
open Go.RowKit
open Go.Lib (strCells)

theorem rcrash_fin {w : World} {r n : Nat} {x : DS} (h : RefAt w r x) (ok : DS.Ok { a := 0, s := 0, room := x.room, S := x.S.extract 0 n, k := n }) :
    RefAt ((((w.setCell ⟨r, 1, none⟩ (.string (x.S.extract 0 n))).setCell ⟨r, 2, none⟩ (.int .i64 n)).setCell ⟨r, 3, none⟩ (.int .i64 0)).setCell ⟨r, 4, none⟩ (.int .i64 0)) r { a := 0, s := 0, room := x.room, S := x.S.extract 0 n, k := n } := by
  refine ⟨?_, ok⟩
  simp [World.setCell, Array.getElem?_modify, h.block, DS.rcells]
theorem rcrash_fr (w : World) (r : Nat) (a b c d : Value) (n : Nat) : Fr r none w (((((w.drewN n).setCell ⟨r, 1, none⟩ a).setCell ⟨r, 2, none⟩ b).setCell ⟨r, 3, none⟩ c).setCell ⟨r, 4, none⟩ d) :=
  (((((Fr.refl r none w).drewN n).setCell _ _).setCell _ _).setCell _ _).setCell _ _

theorem rcrash_a (r : Nat) (x : DS) (keep : Int) (n : Nat) (w : World) (h : RefAt w r x) (hn : n ≤ x.S.size) (ok : DS.Ok { a := 0, s := 0, room := x.room, S := x.S.extract 0 n, k := n }) (h1 : keep < 0) (h2 : n = x.k) :
    Calls Try.prog 31 #[.pointer (some ⟨r, 0, none⟩), .int .i64 keep] w fun e w' => e = .returned (.tuple #[]) ∧ RefDid r w w' { a := 0, s := 0, room := x.room, S := x.S.extract 0 n, k := n } := by
  have c1 := h.c1
  have c2 := h.c2
  have c3 := h.c3
  have c4 := h.c4
  have z1 := h.fz 1
  have z2 := h.fz 2
  have z3 := h.fz 3
  have z4 := h.fz 4
  have k1 := h.ok.size
  have k2 := h.ok.room
  have k3 := h.ok.k
  have es : IntKind.i64.wrap ((x.S.size : Int) - x.k) = (x.S.size : Int) - x.k := IntWalk.i64_in _ (by omega)
  subst h2
  have H := Lib.hid h
  have hm : x.S.size ≤ 9223372036854775807 := by omega
  clear h
  go_enter Try.func31, Try.ntmps31
  go_wp2_with fail
  go_quiet (fail)
  go_wp2_with fail
  go_region
  go_wp2_with fail
  go_end0
  exact ⟨rfl, rcrash_fin (H.out.drewN _) ok, rcrash_fr _ _ _ _ _ _ _⟩

theorem rcrash_b (r : Nat) (x : DS) (keep : Int) (n : Nat) (w : World) (h : RefAt w r x) (hn : n ≤ x.S.size) (ok : DS.Ok { a := 0, s := 0, room := x.room, S := x.S.extract 0 n, k := n }) (h1 : 0 ≤ keep) (h2 : keep ≤ x.S.size - x.k) (h3 : (n : Int) = x.k + keep) :
    Calls Try.prog 31 #[.pointer (some ⟨r, 0, none⟩), .int .i64 keep] w fun e w' => e = .returned (.tuple #[]) ∧ RefDid r w w' { a := 0, s := 0, room := x.room, S := x.S.extract 0 n, k := n } := by
  have c1 := h.c1
  have c2 := h.c2
  have c3 := h.c3
  have c4 := h.c4
  have z1 := h.fz 1
  have z2 := h.fz 2
  have z3 := h.fz 3
  have z4 := h.fz 4
  have k1 := h.ok.size
  have k2 := h.ok.room
  have k3 := h.ok.k
  have es : IntKind.i64.wrap ((x.S.size : Int) - x.k) = (x.S.size : Int) - x.k := IntWalk.i64_in _ (by omega)
  have E : IntKind.i64.wrap ((x.k : Int) + keep) = n := by rw [← h3]; exact IntWalk.i64_in _ (by omega)
  clear h3
  have H := Lib.hid h
  have hm : x.S.size ≤ 9223372036854775807 := by omega
  clear h
  go_enter Try.func31, Try.ntmps31
  go_wp2_with fail
  go_quiet (fail)
  go_wp2_with fail
  go_region
  go_wp2_with fail
  go_end0
  exact ⟨rfl, rcrash_fin (H.out.drewN _) ok, rcrash_fr _ _ _ _ _ _ _⟩

theorem rcrash_c (r : Nat) (x : DS) (keep : Int) (n : Nat) (w : World) (h : RefAt w r x) (hn : n ≤ x.S.size) (ok : DS.Ok { a := 0, s := 0, room := x.room, S := x.S.extract 0 n, k := n }) (h1 : 0 ≤ keep) (h2 : (x.S.size : Int) - x.k < keep) (h3 : n = x.S.size) :
    Calls Try.prog 31 #[.pointer (some ⟨r, 0, none⟩), .int .i64 keep] w fun e w' => e = .returned (.tuple #[]) ∧ RefDid r w w' { a := 0, s := 0, room := x.room, S := x.S.extract 0 n, k := n } := by
  have c1 := h.c1
  have c2 := h.c2
  have c3 := h.c3
  have c4 := h.c4
  have z1 := h.fz 1
  have z2 := h.fz 2
  have z3 := h.fz 3
  have z4 := h.fz 4
  have k1 := h.ok.size
  have k2 := h.ok.room
  have k3 := h.ok.k
  have es : IntKind.i64.wrap ((x.S.size : Int) - x.k) = (x.S.size : Int) - x.k := IntWalk.i64_in _ (by omega)
  have E : IntKind.i64.wrap ((x.k : Int) + (x.S.size - x.k)) = n := by rw [h3, show (x.k : Int) + (x.S.size - x.k) = x.S.size by omega]; exact IntWalk.i64_in _ (by omega)
  clear h3
  have H := Lib.hid h
  have hm : x.S.size ≤ 9223372036854775807 := by omega
  clear h
  go_enter Try.func31, Try.ntmps31
  go_wp2_with fail
  go_quiet (fail)
  go_wp2_with fail
  go_region
  go_wp2_with fail
  go_end0
  exact ⟨rfl, rcrash_fin (H.out.drewN _) ok, rcrash_fr _ _ _ _ _ _ _⟩

theorem rcrash_any (r : Nat) (x : DS) (keep : Int) (w : World) (h : RefAt w r x) :
    Calls Try.prog 31 #[.pointer (some ⟨r, 0, none⟩), .int .i64 keep] w fun e w' => e = .returned (.tuple #[]) ∧ RefDid r w w' (x.crash keep) := by
  have hk := DS.kept_le h.ok keep
  have k1 := h.ok.k
  have ok := h.ok.crash keep
  unfold DS.crash at ok ⊢
  obtain ⟨n, hn⟩ : ∃ n, n = x.kept keep := ⟨_, rfl⟩
  rw [← hn] at hk ok ⊢
  unfold DS.kept at hn
  by_cases h1 : keep < 0
  · exact rcrash_a r x keep n w h hk.2 ok h1 (by omega)
  · by_cases h2 : keep ≤ x.S.size - x.k
    · exact rcrash_b r x keep n w h hk.2 ok (by omega) h2 (by omega)
    · exact rcrash_c r x keep n w h hk.2 ok (by omega) (by omega) (by omega)

theorem rcopy_any (r : Nat) (x : DS) (w : World) (h : RefAt w r x) :
    Calls Try.prog 22 #[.pointer (some ⟨r, 0, none⟩)] w fun e w' => e = .returned (.pointer (some ⟨w.heap.size, 0, none⟩)) ∧ RefAt w' w.heap.size x.copy ∧ Below w.heap.size w w' := by
  have c0 := h.c0
  have c1 := h.c1
  have c2 := h.c2
  have H := Lib.hid h
  clear h
  go_enter Try.func22, Try.ntmps22
  go_wp2_with fail
  go_region_held3 (fun w' => w'.cell? ⟨r, 0, none⟩ = some (.int .i64 x.room) ∧ w'.cell? ⟨r, 1, none⟩ = some (.string x.S) ∧ w'.cell? ⟨r, 2, none⟩ = some (.int .i64 x.k)) (first | (refine ⟨?_, ?_, ?_⟩ <;> (first | assumption | (refine (World.cell?_alloc_old _ _ _ (Nat.ne_of_lt H.out.lt)).trans ?_; assumption) | (simp; done))) | assumption | (refine (World.cell?_alloc_old _ _ _ (Nat.ne_of_lt H.out.lt)).trans ?_; assumption)) (first | fail)
  go_wp2_with fail
  go_ret
  exact ⟨rfl, ⟨heap_alloc_new w _, H.out.ok.copy⟩, ⟨rfl, rfl, rfl, by simp, fun j hj => Below.heap_alloc _ _ _ hj⟩⟩

theorem may_any (n : Int) (w : World) : Calls Try.prog 18 #[.int .i64 n] w fun e w' => e = .returned (.bool (decide (0 ≤ n ∧ n ≤ 1048576))) ∧ w = w' := by
  by_cases h1 : 0 ≤ n
  · by_cases h2 : n ≤ 1048576
    · go_enter Try.func18, Try.ntmps18
      go_wp2_with fail
      go_ret
      exact ⟨by simp [h1, h2], rfl⟩
    · go_enter Try.func18, Try.ntmps18
      go_wp2_with fail
      go_ret
      exact ⟨by simp; omega, rfl⟩
  · go_enter Try.func18, Try.ntmps18
    go_wp2_with fail
    go_ret
    exact ⟨by simp; intro _; omega, rfl⟩

/-- When two disks are the same. -/
def sameB (x y : DS) : Bool := decide (x.room = y.room) && (decide (x.k = y.k) && (x.S.toList == y.S.toList))
theorem sameB_room (x y : DS) (h : x.room ≠ y.room) : sameB x y = false := by simp [sameB, h]
theorem sameB_k (x y : DS) (h : x.k ≠ y.k) : sameB x y = false := by simp [sameB, h]
theorem sameB_S (x y : DS) (h : (x.S.toList == y.S.toList) = false) : sameB x y = false := by simp [sameB, h]
theorem sameB_all (x y : DS) (h : x.room = y.room) (h2 : x.k = y.k) : sameB x y = (x.S.toList == y.S.toList) := by simp [sameB, h, h2]

theorem same_any {d f : Nat} {v u : Value} {x y : DS} {w : World} (h : DiskV w d v x) (g : DiskV w f u y) :
    Calls Try.prog 20 #[.pointer (some ⟨d, 0, none⟩), .pointer (some ⟨f, 0, none⟩)] w fun e w' => e = .returned (.bool (sameB x y)) ∧ ∃ n, w' = w.drewN n := by
  have a2 := h.c2
  have a3 := h.c3
  have a4 := h.c4
  have b2 := g.c2
  have b3 := g.c3
  have b4 := g.c4
  have v1 : ∀ n, (convert 54 9 v).run Try.prog (w.drewN n) = .ok (.string x.S) (w.drewN n) := fun n => conv_own (h.drewN n).own
  have v2 : ∀ n, (convert 54 9 u).run Try.prog (w.drewN n) = .ok (.string y.S) (w.drewN n) := fun n => conv_own (g.drewN n).own
  obtain ⟨ao, cap, rfl, _⟩ := h.shape
  obtain ⟨ao2, cap2, rfl, _⟩ := g.shape
  by_cases h1 : x.room = y.room
  · have e1 : ((x.room : Int) == y.room) = true := beq_iff_eq.2 (by omega)
    by_cases h2 : x.k = y.k
    · have e2 : ((x.k : Int) == y.k) = true := beq_iff_eq.2 (by omega)
      have SB := Lib.hid (sameB_all x y h1 h2)
      clear h1 h2 h g
      go_enter Try.func20, Try.ntmps20
      go_wp2_with fail
      go_quiet (fail)
      go_wp2_with fail
      go_ret
      exact ⟨by rw [SB.out]; rfl, _, rfl⟩
    · have e2 : ((x.k : Int) == y.k) = false := beq_eq_false_iff_ne.2 (by omega)
      have SB := Lib.hid (sameB_k x y h2)
      clear h1 h2 h g
      go_enter Try.func20, Try.ntmps20
      go_wp2_with fail
      go_quiet (fail)
      go_wp2_with fail
      go_ret
      exact ⟨by rw [SB.out]; rfl, _, rfl⟩
  · have e1 : ((x.room : Int) == y.room) = false := beq_eq_false_iff_ne.2 (by omega)
    have SB := Lib.hid (sameB_room x y h1)
    clear h1 h g
    go_enter Try.func20, Try.ntmps20
    go_wp2_with fail
    go_quiet (fail)
    go_wp2_with fail
    go_ret
    exact ⟨by rw [SB.out]; rfl, _, rfl⟩
theorem same_none (d : Nat) (w : World) :
    Calls Try.prog 20 #[.pointer (some ⟨d, 0, none⟩), .pointer none] w fun e w' => e = .returned (.bool false) ∧ ∃ n, w' = w.drewN n := by
  go_enter Try.func20, Try.ntmps20
  go_wp2_with fail
  go_quiet (fail)
  go_wp2_with fail
  go_ret
  exact ⟨rfl, _, rfl⟩
theorem rsame_any {r q : Nat} {x y : DS} {w : World} (h : RefAt w r x) (g : RefAt w q y) :
    Calls Try.prog 21 #[.pointer (some ⟨r, 0, none⟩), .pointer (some ⟨q, 0, none⟩)] w fun e w' => e = .returned (.bool (sameB x y)) ∧ ∃ n, w' = w.drewN n := by
  have a0 := h.c0
  have a1 := h.c1
  have a2 := h.c2
  have b0 := g.c0
  have b1 := g.c1
  have b2 := g.c2
  clear h g
  by_cases h1 : x.room = y.room
  · have e1 : ((x.room : Int) == y.room) = true := beq_iff_eq.2 (by omega)
    cases e3 : (x.S.toList == y.S.toList) with
    | true =>
      by_cases h2 : x.k = y.k
      · have e2 : ((x.k : Int) == y.k) = true := beq_iff_eq.2 (by omega)
        have SB := Lib.hid ((sameB_all x y h1 h2).trans e3)
        clear h1 h2
        go_enter Try.func21, Try.ntmps21
        go_wp2_with fail
        go_quiet (fail)
        go_wp2_with fail
        go_ret
        exact ⟨by rw [SB.out]; rfl, _, rfl⟩
      · have e2 : ((x.k : Int) == y.k) = false := beq_eq_false_iff_ne.2 (by omega)
        have SB := Lib.hid (sameB_k x y h2)
        clear h1 h2
        go_enter Try.func21, Try.ntmps21
        go_wp2_with fail
        go_quiet (fail)
        go_wp2_with fail
        go_ret
        exact ⟨by rw [SB.out]; rfl, _, rfl⟩
    | false =>
      have SB := Lib.hid (sameB_S x y e3)
      clear h1
      go_enter Try.func21, Try.ntmps21
      go_wp2_with fail
      go_quiet (fail)
      go_wp2_with fail
      go_ret
      exact ⟨by rw [SB.out]; rfl, _, rfl⟩
  · have e1 : ((x.room : Int) == y.room) = false := beq_eq_false_iff_ne.2 (by omega)
    have SB := Lib.hid (sameB_room x y h1)
    clear h1
    go_enter Try.func21, Try.ntmps21
    go_wp2_with fail
    go_quiet (fail)
    go_wp2_with fail
    go_ret
    exact ⟨by rw [SB.out]; rfl, _, rfl⟩

end Go.Proofs.Ytimoenlnkafhoaa
