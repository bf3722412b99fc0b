/-
  A step of a script, in both disks.
-/
import Derived.Test.YtimoenlnkafhoaaRef2
set_option linter.unusedVariables false
namespace Go.Proofs.Ytimoenlnkafhoaa
open Go.ChangeShapes Go.WideShapes Go.ChangeAt Go.RowKit
open Go.Deep

/-- A disk and the document's, at one state. -/
structure Both (w : World) (d : Nat) (v : Value) (r : Nat) (x : DS) : Prop where
  disk : DiskV w d v x
  ref : RefAt w r x
  dr : d ≠ r
  vr : v.ownBlock ≠ some r

/-- Blocks other than the two disks' are as they were. -/
structure Fr2 (d : Nat) (row : Option Nat) (r : Nat) (w w' : World) : Prop where
  os : w'.os = w.os
  tape : w'.tape = w.tape
  output : w'.output = w.output
  size : w.heap.size ≤ w'.heap.size
  block : ∀ j, j < w.heap.size → j ≠ d → j ≠ r → some j ≠ row → w'.heap[j]? = w.heap[j]?

theorem Fr2.refl (d : Nat) (row : Option Nat) (r : Nat) (w : World) : Fr2 d row r w w := ⟨rfl, rfl, rfl, Nat.le_refl _, fun _ _ _ _ _ => rfl⟩
theorem Fr.two {d : Nat} {row : Option Nat} {w w' : World} (h : Fr d row w w') (r : Nat) : Fr2 d row r w w' := ⟨h.os, h.tape, h.output, h.size, fun j a b _ c => h.block j a b c⟩
theorem Fr.two' {r : Nat} {w w' : World} (h : Fr r none w w') (d : Nat) (row : Option Nat) : Fr2 d row r w w' := ⟨h.os, h.tape, h.output, h.size, fun j a _ b _ => h.block j a b (by simp)⟩
theorem Fr2.trans {d r : Nat} {row row' : Option Nat} {u v w : World} (h : Fr2 d row r u v) (k : Fr2 d row' r v w) (hr : ∀ g, row' = some g → row = some g ∨ u.heap.size ≤ g) : Fr2 d row r u w :=
  ⟨k.os.trans h.os, k.tape.trans h.tape, k.output.trans h.output, Nat.le_trans h.size k.size, fun j hj h1 h2 h3 =>
    (k.block j (Nat.lt_of_lt_of_le hj h.size) h1 h2 (fun e => by
      rcases hr j e.symm with e' | e'
      · exact h3 e'.symm
      · omega)).trans (h.block j hj h1 h2 h3)⟩
theorem Fr2.below {d r : Nat} {row : Option Nat} {w w' : World} (h : Fr2 d row r w w') {B : Nat} (hB : B ≤ d) (hr : ∀ g, row = some g → B ≤ g) (hR : B ≤ r) (hw : B ≤ w.heap.size) : Below B w w' :=
  ⟨h.os, h.tape, h.output, h.size, fun j hj => h.block j (by omega) (by omega) (by omega) (fun e => by have := hr j e.symm; omega)⟩
theorem Fr2.drew {d r : Nat} {row : Option Nat} {w w' : World} (h : Fr2 d row r w w') : Fr2 d row r w w'.drew := ⟨h.os, h.tape, h.output, h.size, h.block⟩
theorem Fr2.alloc {d r : Nat} {row : Option Nat} {u w : World} (h : Fr2 d row r u w) (o : Obj) : Fr2 d row r u (w.alloc o) :=
  ⟨h.os, h.tape, h.output, by have := h.size; simp; omega, fun j hj h1 h2 h3 => (Below.heap_alloc _ _ _ (Nat.lt_of_lt_of_le hj h.size)).trans (h.block j hj h1 h2 h3)⟩
theorem Fr2.cell {d r : Nat} {row : Option Nat} {w w' : World} (h : Fr2 d row r w w') {c o : Nat} {v : Value} (hc : w.cell? ⟨c, o, none⟩ = some v) (h1 : c ≠ d) (h2 : c ≠ r) (h3 : some c ≠ row) : w'.cell? ⟨c, o, none⟩ = some v :=
  (World.cell?_of_block (a := ⟨c, o, none⟩) (h.block c (World.block_lt_of_cell? _ _ hc) h1 h2 h3)).trans hc

namespace Both
variable {w : World} {d r : Nat} {v : Value} {x : DS}
theorem alloc (h : Both w d v r x) (o : Obj) : Both (w.alloc o) d v r x := ⟨h.disk.alloc o, h.ref.alloc o, h.dr, h.vr⟩
theorem drew (h : Both w d v r x) : Both w.drew d v r x := ⟨h.disk.drew, h.ref.drew, h.dr, h.vr⟩
theorem drewN (h : Both w d v r x) (n : Nat) : Both (w.drewN n) d v r x := ⟨h.disk.drewN n, h.ref.drewN n, h.dr, h.vr⟩
/-- Another pair's call. -/
theorem other (h : Both w d v r x) {d' r' : Nat} {row : Option Nat} {w' : World} (hf : Fr2 d' row r' w w') (h1 : d ≠ d') (h2 : d ≠ r') (h3 : some d ≠ row) (h4 : r ≠ d') (h5 : r ≠ r') (h6 : some r ≠ row)
    (h7 : ∀ g, v.ownBlock = some g → g ≠ d' ∧ g ≠ r' ∧ some g ≠ row) : Both w' d v r x :=
  ⟨h.disk.keep (hf.block d h.disk.lt h1 h2 h3) (fun g hg => hf.block g (h.disk.row_lt hg) (h7 g hg).1 (h7 g hg).2.1 (h7 g hg).2.2), h.ref.keep (hf.block r h.ref.lt h4 h5 h6), h.dr, h.vr⟩
end Both

/-- What a step of both leaves. -/
def Stepped (d : Nat) (row : Option Nat) (r : Nat) (w w' : World) (x : DS) : Prop :=
  ∃ v, Both w' d v r x ∧ (∀ g, v.ownBlock = some g → row = some g ∨ w.heap.size ≤ g) ∧ Fr2 d row r w w'

/-- The disk's call, then the document's. -/
theorem stepped {d r : Nat} {v : Value} {w w1 w2 : World} {x y : DS} (h : Both w d v r x) (D : Did d v.ownBlock w w1 y) (hw1 : RefAt w1 r x → RefDid r w1 w2 y) : Stepped d v.ownBlock r w w2 y := by
  obtain ⟨v1, g1, t1, f1⟩ := D
  have hr1 : RefAt w1 r x := h.ref.other f1 (fun e => h.dr e.symm) (fun e => h.vr e.symm)
  have R := hw1 hr1
  have n1 : v1.ownBlock ≠ some r := fun e => by
    rcases t1 r e with e' | e'
    · exact h.vr e'
    · have := h.ref.lt; omega
  refine ⟨v1, ⟨g1.other R.fr h.dr (by simp) (fun e => n1 e) (fun g _ => by simp), R.at_, h.dr, n1⟩, t1, (f1.two r).trans (R.fr.two' d none) (fun g hg => by cases hg)⟩
theorem did_ref {d r : Nat} {v : Value} {w w1 : World} {x y : DS} (h : Both w d v r x) (D : Did d v.ownBlock w w1 y) : RefAt w1 r x := by
  obtain ⟨v1, g1, t1, f1⟩ := D
  exact h.ref.other f1 (fun e => h.dr e.symm) (fun e => h.vr e.symm)

def stepD (x : DS) (u : St) : DS :=
  if u.o = 0 then x.put u.S else if u.o = 1 then x.flush else if u.o = 2 then x.cut u.n else if u.o = 3 then x.fails u.n u.m else if u.o = 4 then x.crash u.n else x
theorem stepD_ok {x : DS} (h : x.Ok) (u : St) (hu : u.Ok) : (stepD x u).Ok := by
  unfold stepD
  split
  · exact h.put _
  · split
    · exact h.flush
    · split
      · exact h.cut _
      · split
        · exact h.fails _ _ hu.1 hu.2
        · split
          · exact h.crash _
          · exact h

theorem did_cell {d : Nat} {row : Option Nat} {w w' : World} {y : DS} (D : Did d row w w' y) {c o : Nat} {v : Value} (hc : w.cell? ⟨c, o, none⟩ = some v) (h1 : c ≠ d) (h2 : some c ≠ row) : w'.cell? ⟨c, o, none⟩ = some v := by
  obtain ⟨_, _, _, f⟩ := D
  exact f.cell hc h1 h2
theorem Stepped.undrew {d r : Nat} {row : Option Nat} {w w' : World} {x : DS} (h : Stepped d row r w.drew w' x) : Stepped d row r w w' x := by
  obtain ⟨v1, g1, t1, f1⟩ := h
  exact ⟨v1, g1, t1, ⟨f1.os, f1.tape, f1.output, f1.size, f1.block⟩⟩
theorem ref_disk {d r : Nat} {v : Value} {w w1 : World} {x y : DS} (h : Both w d v r x) (R : RefDid r w w1 y) : DiskV w1 d v x :=
  h.disk.other R.fr h.dr (by simp) h.vr (fun g _ => by simp)
/-- The document's call, then the disk's. -/
theorem stepped2 {d r : Nat} {v : Value} {w w1 w2 : World} {x y : DS} (h : Both w d v r x) (R : RefDid r w w1 y) (D : Did d v.ownBlock w1 w2 y) : Stepped d v.ownBlock r w w2 y := by
  obtain ⟨v1, g1, t1, f1⟩ := D
  refine ⟨v1, ⟨g1, R.at_.other f1 (fun e => h.dr e.symm) (fun e => h.vr e.symm), h.dr, fun e => ?_⟩, fun g hg => (t1 g hg).imp id (fun k => Nat.le_trans R.fr.size k), (R.fr.two' d v.ownBlock).trans (f1.two r) (fun g hg => Or.inl hg)⟩
  rcases t1 r e with e' | e'
  · exact h.vr e'
  · have := R.at_.lt; omega

set_option maxHeartbeats 2000000 in
theorem step_any {d r : Nat} {v : Value} {x : DS} (u : St) {w : World} (h : Both w d v r x) (hu : u.Ok) (hS : u.S.size ≤ 65536) :
    Calls Try.prog 19 #[.pointer (some ⟨d, 0, none⟩), .pointer (some ⟨r, 0, none⟩), .agg #[.int .i64 u.o, .string u.S, .int .i64 u.n, .int .i64 u.m]] w fun e w' => e = .returned (.bool true) ∧ Stepped d v.ownBlock r w w' (stepD x u) := by
  obtain ⟨o, S, n, m⟩ := u
  simp only [] at hS
  have H := Lib.hid h
  have N1 : w.heap.size ≠ d := fun e => by have := h.disk.lt; omega
  have N2 : w.heap.size ≠ r := fun e => by have := h.ref.lt; omega
  have N3 : some w.heap.size ≠ v.ownBlock := fun e => Nat.lt_irrefl _ (h.disk.row_lt e.symm)
  have NN := Lib.hid (And.intro N1 (And.intro N2 N3))
  clear h N1 N2 N3
  have HA := Lib.hid (H.out.alloc (.cells #[.int .i64 o, .string S, .int .i64 n, .int .i64 m] 31))
  have fin : ∀ w' y, stepD x ⟨o, S, n, m⟩ = y → Stepped d v.ownBlock r (w.alloc (.cells #[.int .i64 o, .string S, .int .i64 n, .int .i64 m] 31)) w' y → Stepped d v.ownBlock r w w' (stepD x ⟨o, S, n, m⟩) := by
    intro w' y hy hs
    rw [hy]
    obtain ⟨v1, g1, t1, f1⟩ := hs
    refine ⟨v1, g1, fun g hg => (t1 g hg).imp id (fun h => by simp at h; omega), ((Fr2.refl _ _ _ _).alloc _).trans f1 (fun g hg => Or.inl hg)⟩
  have FIN := Lib.hid fin
  clear fin
  by_cases o0 : o = 0
  · have e0 : (o == 0) = true := beq_iff_eq.2 o0
    have ES := Lib.hid (show stepD x ⟨o, S, n, m⟩ = x.put S from if_pos o0)
    clear o0
    go_enter Try.func19, Try.ntmps19
    go_wp2_with fail
    go_region_held3 (fun w' => w'.cell? ⟨w.heap.size, 1, none⟩ = some (.string S)) (first | assumption | (simp; done)) (first | (go_at_call 11; refine (append_any _ _ x S _ HA.out.drew.disk (by unfold maxLen; omega)).mono ?_; rintro e w1 ⟨rfl, D⟩; have q1 := did_cell D (c := w.heap.size) (o := 1) (v := .string S) (by simp) NN.out.1 NN.out.2.2) | (go_at_call 24; refine (rput_any r x S _ (did_ref HA.out.drew D) (by omega)).mono ?_; rintro e w2 ⟨rfl, R⟩; have r1 := R.fr.cell q1 NN.out.2.1 (by simp)))
    go_wp2_with fail
    go_ret
    exact ⟨rfl, FIN.out _ _ ES.out (stepped HA.out.drew D (fun _ => R)).undrew⟩
  · by_cases o1 : o = 1
    · have e1 : (o == 1) = true := beq_iff_eq.2 o1
      have e0 : (o == 0) = false := beq_eq_false_iff_ne.2 o0
      have ES := Lib.hid (show stepD x ⟨o, S, n, m⟩ = x.flush from (if_neg o0).trans (if_pos o1))
      clear o0 o1
      go_enter Try.func19, Try.ntmps19
      go_wp2_with fail
      refine (sync_any _ _ x _ HA.out.disk).mono ?_
      rintro e w1 ⟨rfl, D⟩
      simp only []
      go_wp2_with fail
      refine (rflush_any r x _ (did_ref HA.out D)).mono ?_
      rintro e w2 ⟨rfl, R⟩
      simp only []
      go_wp2_with fail
      go_ret
      exact ⟨rfl, FIN.out _ _ ES.out (stepped HA.out D (fun _ => R))⟩
    · by_cases o2 : o = 2
      · have e2 : (o == 2) = true := beq_iff_eq.2 o2
        have e0 : (o == 0) = false := beq_eq_false_iff_ne.2 o0
        have e1 : (o == 1) = false := beq_eq_false_iff_ne.2 o1
        have ES := Lib.hid (show stepD x ⟨o, S, n, m⟩ = x.cut n from (if_neg o0).trans ((if_neg o1).trans (if_pos o2)))
        clear o0 o1 o2
        go_enter Try.func19, Try.ntmps19
        go_wp2_with fail
        go_region_held3 (fun w' => w'.cell? ⟨w.heap.size, 2, none⟩ = some (.int .i64 n)) (first | assumption | (simp; done)) (first | (go_at_call 17; refine (cut_any _ _ x n _ HA.out.drew.disk).mono ?_; rintro e w1 ⟨rfl, D⟩; have q2 := did_cell D (c := w.heap.size) (o := 2) (v := .int .i64 n) (by simp) NN.out.1 NN.out.2.2) | (go_at_call 29; refine (rcut_any r x n _ (did_ref HA.out.drew D)).mono ?_; rintro e w2 ⟨rfl, R⟩; have r2 := R.fr.cell q2 NN.out.2.1 (by simp)))
        go_wp2_with fail
        go_ret
        exact ⟨rfl, FIN.out _ _ ES.out (stepped HA.out.drew D (fun _ => R)).undrew⟩
      · by_cases o3 : o = 3
        · have e3 : (o == 3) = true := beq_iff_eq.2 o3
          have e0 : (o == 0) = false := beq_eq_false_iff_ne.2 o0
          have e1 : (o == 1) = false := beq_eq_false_iff_ne.2 o1
          have e2 : (o == 2) = false := beq_eq_false_iff_ne.2 o2
          have ES := Lib.hid (show stepD x ⟨o, S, n, m⟩ = x.fails n m from (if_neg o0).trans ((if_neg o1).trans ((if_neg o2).trans (if_pos o3))))
          clear o0 o1 o2 o3
          go_enter Try.func19, Try.ntmps19
          go_wp2_with fail
          go_region_held3 (fun w' => w'.cell? ⟨w.heap.size, 2, none⟩ = some (.int .i64 n) ∧ w'.cell? ⟨w.heap.size, 3, none⟩ = some (.int .i64 m)) (first | (refine ⟨?_, ?_⟩ <;> (first | assumption | (simp; done))) | assumption | (simp; done)) (first | (go_at_call 13; refine (fails_any _ _ x n m _ HA.out.drew.disk hu.1 hu.2).mono ?_; rintro e w1 ⟨rfl, D⟩; have q2 := did_cell D (c := w.heap.size) (o := 2) (v := .int .i64 n) (by simp) NN.out.1 NN.out.2.2; have q3 := did_cell D (c := w.heap.size) (o := 3) (v := .int .i64 m) (by simp) NN.out.1 NN.out.2.2) | (go_at_call 30; refine (rfails_any r x n m _ (did_ref HA.out.drew D) hu.1 hu.2).mono ?_; rintro e w2 ⟨rfl, R⟩; have r2 := R.fr.cell q2 NN.out.2.1 (by simp); have r3 := R.fr.cell q3 NN.out.2.1 (by simp)))
          go_wp2_with fail
          go_ret
          exact ⟨rfl, FIN.out _ _ ES.out (stepped HA.out.drew D (fun _ => R)).undrew⟩
        · by_cases o4 : o = 4
          · have e4 : (o == 4) = true := beq_iff_eq.2 o4
            have e0 : (o == 0) = false := beq_eq_false_iff_ne.2 o0
            have e1 : (o == 1) = false := beq_eq_false_iff_ne.2 o1
            have e2 : (o == 2) = false := beq_eq_false_iff_ne.2 o2
            have e3 : (o == 3) = false := beq_eq_false_iff_ne.2 o3
            have ES := Lib.hid (show stepD x ⟨o, S, n, m⟩ = x.crash n from (if_neg o0).trans ((if_neg o1).trans ((if_neg o2).trans ((if_neg o3).trans (if_pos o4)))))
            clear o0 o1 o2 o3 o4
            go_enter Try.func19, Try.ntmps19
            go_wp2_with fail
            refine (rcrash_any r x n _ HA.out.ref).mono ?_
            rintro e w1 ⟨rfl, R⟩
            simp only []
            have q2 := R.fr.cell (c := w.heap.size) (o := 2) (v := .int .i64 n) (by simp) NN.out.2.1 (by simp)
            go_wp2_with fail
            refine (crash_any _ _ x n _ (ref_disk HA.out R)).mono ?_
            rintro e w2 ⟨rfl, D⟩
            simp only []
            go_wp2_with fail
            go_ret
            exact ⟨rfl, FIN.out _ _ ES.out (stepped2 HA.out R D)⟩
          · have e0 : (o == 0) = false := beq_eq_false_iff_ne.2 o0
            have e1 : (o == 1) = false := beq_eq_false_iff_ne.2 o1
            have e2 : (o == 2) = false := beq_eq_false_iff_ne.2 o2
            have e3 : (o == 3) = false := beq_eq_false_iff_ne.2 o3
            have e4 : (o == 4) = false := beq_eq_false_iff_ne.2 o4
            have ES := Lib.hid (show stepD x ⟨o, S, n, m⟩ = x from (if_neg o0).trans ((if_neg o1).trans ((if_neg o2).trans ((if_neg o3).trans ((if_neg o4))))))
            clear o0 o1 o2 o3 o4
            go_enter Try.func19, Try.ntmps19
            go_wp2_with fail
            go_ret
            exact ⟨rfl, FIN.out _ _ ES.out ⟨v, HA.out, fun _ hg => Or.inl hg, Fr2.refl _ _ _ _⟩⟩

end Go.Proofs.Ytimoenlnkafhoaa
