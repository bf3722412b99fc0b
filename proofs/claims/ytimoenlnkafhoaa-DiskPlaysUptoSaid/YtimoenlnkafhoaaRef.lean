/-
  The document's disk, by its contracts: the same answers, the same state.
-/
import Derived.Test.YtimoenlnkafhoaaFailsWalk
set_option linter.unusedVariables false
namespace Go.Proofs.Ytimoenlnkafhoaa
open Go.RowKit
open Go.Lib (strCells)

def DS.rcells (x : DS) : Array Value := #[.int .i64 x.room, .string x.S, .int .i64 x.k, .int .i64 x.a, .int .i64 x.s]
structure RefAt (w : World) (r : Nat) (x : DS) : Prop where
  block : w.heap[r]? = some (.cells x.rcells 43 (0, 0))
  ok : x.Ok
structure RefDid (r : Nat) (w w' : World) (x : DS) : Prop where
  at_ : RefAt w' r x
  fr : Fr r none w w'
namespace RefAt
variable {w : World} {r : Nat} {x : DS}
theorem lt (h : RefAt w r x) : r < w.heap.size := (Array.getElem?_eq_some_iff.1 h.block).1
theorem c0 (h : RefAt w r x) : w.cell? ⟨r, 0, none⟩ = some (.int .i64 x.room) := by simp [World.cell?, h.block, DS.rcells]
theorem c1 (h : RefAt w r x) : w.cell? ⟨r, 1, none⟩ = some (.string x.S) := by simp [World.cell?, h.block, DS.rcells]
theorem c2 (h : RefAt w r x) : w.cell? ⟨r, 2, none⟩ = some (.int .i64 x.k) := by simp [World.cell?, h.block, DS.rcells]
theorem c3 (h : RefAt w r x) : w.cell? ⟨r, 3, none⟩ = some (.int .i64 x.a) := by simp [World.cell?, h.block, DS.rcells]
theorem c4 (h : RefAt w r x) : w.cell? ⟨r, 4, none⟩ = some (.int .i64 x.s) := by simp [World.cell?, h.block, DS.rcells]
theorem fz (h : RefAt w r x) (o : Nat) : w.frozen? ⟨r, o, none⟩ = false := by simp [World.frozen?, h.block]
theorem keep (h : RefAt w r x) {w' : World} (h1 : w'.heap[r]? = w.heap[r]?) : RefAt w' r x := ⟨h1.trans h.block, h.ok⟩
theorem drew (h : RefAt w r x) : RefAt w.drew r x := h.keep rfl
theorem drewN (h : RefAt w r x) (n : Nat) : RefAt (w.drewN n) r x := h.keep rfl
theorem alloc (h : RefAt w r x) (o : Obj) : RefAt (w.alloc o) r x := h.keep (Below.heap_alloc _ _ _ h.lt)
theorem more (h : RefAt w r x) {w' : World} (hb : Below w.heap.size w w') : RefAt w' r x := h.keep (hb.block r h.lt)
theorem other (h : RefAt w r x) {d : Nat} {row : Option Nat} {w' : World} (hf : Fr d row w w') (h1 : r ≠ d) (h2 : some r ≠ row) : RefAt w' r x := h.keep (hf.block r h.lt h1 h2)
theorem set (h : RefAt w r x) (o : Nat) (u : Value) (y : DS) (hy : x.rcells.setIfInBounds o u = y.rcells) (ok : y.Ok) : RefAt (w.setCell ⟨r, o, none⟩ u) r y := by
  refine ⟨?_, ok⟩
  simp [World.setCell, Array.getElem?_modify, h.block, hy]
end RefAt

theorem rput_any (r : Nat) (x : DS) (t : ByteArray) (w : World) (h : RefAt w r x) (hm : t.size ≤ 1048576) :
    Calls Try.prog 24 #[.pointer (some ⟨r, 0, none⟩), .string t] w fun e w' => e = .returned (.int .i64 (x.putE t)) ∧ RefDid r w w' (x.put t) := by
  have c0 := h.c0
  have c1 := h.c1
  have c3 := h.c3
  have z1 := h.fz 1
  have z3 := h.fz 3
  have k1 := h.ok.size
  have k2 := h.ok.room
  have k3 := h.ok.ka
  have e1 : IntKind.i64.wrap ((x.S.size : Int) + t.size) = (x.S.size : Int) + t.size := IntWalk.i64_in _ (by omega)
  by_cases hA : x.a < 1
  · have ea : x.a - 1 = x.a := by omega
    by_cases hf : x.room < x.S.size + t.size
    · have F := Lib.hid (put_full x t (by omega) hf)
      have ep : x.put t = x := by
        have h1 : x.put t = x.tickA := by unfold DS.put; rw [if_neg (by rw [F.out.1]; decide)]
        rw [h1, DS.tickA, ea]
      rw [F.out.1, ep]
      have H := Lib.hid h
      clear ea ep h
      go_enter Try.func24, Try.ntmps24
      go_wp2_with fail
      go_quiet (fail)
      go_wp2_with fail
      go_ret
      exact ⟨rfl, H.out.drewN _, (Fr.refl _ _ _).drewN _⟩
    · have F := Lib.hid (put_fits x t (by omega) hf)
      have ep : x.put t = { x with S := x.S ++ t } := by
        have h1 : x.put t = { x.tickA with S := x.S ++ t } := by unfold DS.put; rw [if_pos F.out.1]
        rw [h1, DS.tickA, ea]
      have hok := h.ok.put t
      rw [F.out.1]
      rw [ep] at hok ⊢
      have a1 : ∀ u, (Op.stringOp .add x.S t).run Try.prog u = .ok (.string (x.S ++ t)) u := fun u => run_string_add_sum u _ _ (by omega)
      have H := Lib.hid h
      clear ea ep h
      go_enter Try.func24, Try.ntmps24
      go_wp2_with fail
      go_quiet (fail)
      go_wp2_with fail
      go_ret
      exact ⟨rfl, (H.out.drewN _).set 1 _ _ rfl hok, ((Fr.refl _ _ _).drewN _).setCell _ _⟩
  · by_cases hB : 2 ≤ x.a
    · have ea : ((x.a - 1 : Nat) : Int) = (x.a : Int) - 1 := by omega
      by_cases hf : x.room < x.S.size + t.size
      · have F := Lib.hid (put_full x t (by omega) hf)
        have ep : x.put t = x.tickA := by unfold DS.put; rw [if_neg (by rw [F.out.1]; decide)]
        rw [F.out.1, ep]
        have H := Lib.hid h
        have EA := Lib.hid ea
        clear ep h ea
        go_enter Try.func24, Try.ntmps24
        go_wp2_with fail
        go_quiet (fail)
        go_wp2_with fail
        go_ret
        exact ⟨rfl, (H.out.set 3 (.int .i64 ((x.a : Int) - 1)) x.tickA (by rw [← EA.out]; rfl) H.out.ok.tickA).drewN _, ((Fr.refl _ _ _).setCell _ _).drewN _⟩
      · have F := Lib.hid (put_fits x t (by omega) hf)
        have ep : x.put t = { x.tickA with S := x.S ++ t } := by unfold DS.put; rw [if_pos F.out.1]
        have hok := h.ok.put t
        rw [F.out.1]
        rw [ep] at hok ⊢
        have a1 : ∀ u, (Op.stringOp .add x.S t).run Try.prog u = .ok (.string (x.S ++ t)) u := fun u => run_string_add_sum u _ _ (by omega)
        have H := Lib.hid h
        have EA := Lib.hid ea
        clear ep h ea
        go_enter Try.func24, Try.ntmps24
        go_wp2_with fail
        go_quiet (fail)
        go_wp2_with fail
        go_ret
        have HT := (H.out.set 3 (.int .i64 ((x.a : Int) - 1)) x.tickA (by rw [← EA.out]; rfl) H.out.ok.tickA).drewN nq
        exact ⟨rfl, HT.set 1 _ _ rfl hok, (((Fr.refl _ _ _).setCell _ _).drewN _).setCell _ _⟩
    · have hA1 : 1 ≤ x.a := by omega
      have hA2 : x.a ≤ 1 := by omega
      have F := Lib.hid (put_due x t (by omega))
      have ea : ((x.a - 1 : Nat) : Int) = (x.a : Int) - 1 := by omega
      have ep : x.put t = x.tickA := by unfold DS.put; rw [if_neg (by rw [F.out.1]; decide)]
      rw [F.out.1, ep]
      have H := Lib.hid h
      have EA := Lib.hid ea
      clear ep h ea hA hB
      go_enter Try.func24, Try.ntmps24
      go_wp2_with fail
      go_ret
      exact ⟨rfl, H.out.set 3 (.int .i64 ((x.a : Int) - 1)) x.tickA (by rw [← EA.out]; rfl) H.out.ok.tickA, (Fr.refl _ _ _).setCell _ _⟩

theorem rflush_any (r : Nat) (x : DS) (w : World) (h : RefAt w r x) :
    Calls Try.prog 28 #[.pointer (some ⟨r, 0, none⟩)] w fun e w' => e = .returned (.int .i64 x.flushE) ∧ RefDid r w w' x.flush := by
  have c1 := h.c1
  have c2 := h.c2
  have c4 := h.c4
  have z2 := h.fz 2
  have z4 := h.fz 4
  have k3 := h.ok.ks
  have hok := h.ok.flush
  by_cases hA : x.s < 1
  · have ep : x.flush = { x with k := x.S.size } := by
      have h1 : x.flush = { x.tickS with k := x.S.size } := if_neg (by omega)
      rw [h1, DS.tickS, show x.s - 1 = x.s by omega]
    rw [(flush_ok x (by omega)).1]
    rw [ep] at hok ⊢
    have H := Lib.hid h
    clear ep h
    go_enter Try.func28, Try.ntmps28
    go_wp2_with fail
    go_ret
    exact ⟨rfl, H.out.set 2 _ _ rfl hok, (Fr.refl _ _ _).setCell _ _⟩
  · have ea : ((x.s - 1 : Nat) : Int) = (x.s : Int) - 1 := by omega
    by_cases hB : 2 ≤ x.s
    · have ep : x.flush = { x.tickS with k := x.S.size } := if_neg (by omega)
      rw [(flush_ok x (by omega)).1]
      rw [ep] at hok ⊢
      have H := Lib.hid h
      have EA := Lib.hid ea
      clear ep h ea
      go_enter Try.func28, Try.ntmps28
      go_wp2_with fail
      go_ret
      exact ⟨rfl, (H.out.set 4 (.int .i64 ((x.s : Int) - 1)) x.tickS (by rw [← EA.out]; rfl) H.out.ok.tickS).set 2 _ _ rfl hok, ((Fr.refl _ _ _).setCell _ _).setCell _ _⟩
    · have hA1 : 1 ≤ x.s := by omega
      have hA2 : x.s ≤ 1 := by omega
      have ep : x.flush = x.tickS := if_pos (by omega)
      rw [(flush_due x (by omega)).1]
      rw [ep] at hok ⊢
      have H := Lib.hid h
      have EA := Lib.hid ea
      clear ep h ea hA hB
      go_enter Try.func28, Try.ntmps28
      go_wp2_with fail
      go_ret
      exact ⟨rfl, H.out.set 4 (.int .i64 ((x.s : Int) - 1)) x.tickS (by rw [← EA.out]; rfl) hok, (Fr.refl _ _ _).setCell _ _⟩

theorem rcut_any (r : Nat) (x : DS) (n : Int) (w : World) (h : RefAt w r x) :
    Calls Try.prog 29 #[.pointer (some ⟨r, 0, none⟩), .int .i64 n] w fun e w' => e = .returned (.int .i64 (x.cutE n)) ∧ RefDid r w w' (x.cut n) := by
  have c1 := h.c1
  have c2 := h.c2
  have z1 := h.fz 1
  have z2 := h.fz 2
  have k1 := h.ok.size
  have k2 := h.ok.room
  have hok := h.ok.cut n
  by_cases hn : n < 0
  · have e1 : x.cutE n = 2 := if_pos (Or.inl hn)
    have e2 : x.cut n = x := if_pos (Or.inl hn)
    rw [e1, e2]
    clear e1 e2 hok
    go_enter Try.func29, Try.ntmps29
    go_wp2_with fail
    go_ret
    exact ⟨rfl, h, Fr.refl _ _ _⟩
  · by_cases hs : (x.S.size : Int) < n
    · have e1 : x.cutE n = 2 := if_pos (Or.inr hs)
      have e2 : x.cut n = x := if_pos (Or.inr hs)
      rw [e1, e2]
      clear e1 e2 hok
      go_enter Try.func29, Try.ntmps29
      go_wp2_with fail
      go_ret
      exact ⟨rfl, h, Fr.refl _ _ _⟩
    · have e1 : x.cutE n = 0 := if_neg (by omega)
      obtain ⟨n, rfl⟩ := Int.eq_ofNat_of_zero_le (show 0 ≤ n by omega)
      have e2 : x.cut n = { x with S := x.S.extract 0 n, k := n } := if_neg (by omega)
      rw [e1]
      rw [e2] at hok ⊢
      have H := Lib.hid h
      clear e1 e2 h
      have hns : n ≤ x.S.size := by omega
      go_enter Try.func29, Try.ntmps29
      go_wp2_with fail
      go_ret
      refine ⟨rfl, ⟨?_, hok⟩, ((Fr.refl _ _ _).setCell _ _).setCell _ _⟩
      simp [World.setCell, Array.getElem?_modify, H.out.block, DS.rcells]

theorem rfails_any (r : Nat) (x : DS) (n m : Int) (w : World) (h : RefAt w r x) (hn9 : n ≤ 9223372036854775807) (hm9 : m ≤ 9223372036854775807) :
    Calls Try.prog 30 #[.pointer (some ⟨r, 0, none⟩), .int .i64 n, .int .i64 m] w fun e w' => e = .returned (.int .i64 (DS.failsE n m)) ∧ RefDid r w w' (x.fails n m) := by
  have c3 := h.c3
  have c4 := h.c4
  have z3 := h.fz 3
  have z4 := h.fz 4
  have hok := h.ok.fails n m hn9 hm9
  by_cases hn : n < 0
  · have e1 : DS.failsE n m = 2 := if_pos (Or.inl hn)
    have e2 : x.fails n m = x := if_pos (Or.inl hn)
    rw [e1, e2]
    clear e1 e2 hok
    go_enter Try.func30, Try.ntmps30
    go_wp2_with fail
    go_ret
    exact ⟨rfl, h, Fr.refl _ _ _⟩
  · by_cases hs : m < 0
    · have e1 : DS.failsE n m = 2 := if_pos (Or.inr hs)
      have e2 : x.fails n m = x := if_pos (Or.inr hs)
      rw [e1, e2]
      clear e1 e2 hok
      go_enter Try.func30, Try.ntmps30
      go_wp2_with fail
      go_ret
      exact ⟨rfl, h, Fr.refl _ _ _⟩
    · have e1 : DS.failsE n m = 0 := if_neg (by omega)
      obtain ⟨n, rfl⟩ := Int.eq_ofNat_of_zero_le (show 0 ≤ n by omega)
      obtain ⟨m, rfl⟩ := Int.eq_ofNat_of_zero_le (show 0 ≤ m by omega)
      have e2 : x.fails n m = { x with a := n, s := m } := if_neg (by omega)
      rw [e1]
      rw [e2] at hok ⊢
      have H := Lib.hid h
      clear e1 e2 h
      go_enter Try.func30, Try.ntmps30
      go_wp2_with fail
      go_ret
      refine ⟨rfl, ⟨?_, hok⟩, ((Fr.refl _ _ _).setCell _ _).setCell _ _⟩
      simp [World.setCell, Array.getElem?_modify, H.out.block, DS.rcells]

end Go.Proofs.Ytimoenlnkafhoaa
