/-
  The disk as a plain state: what each call answers, and what it leaves.
-/
import Derived.Test.YtimoenlnkafhoaaLaw
import Derived.WalkSpells
import Derived.Outline
import Derived.Lib.Hide
import Derived.Handy
import Derived.Lib.AppendStr
import Derived.Deep.RegionHeld3
import Derived.Deep.QuietTactic
import Derived.BigQuiet
import Derived.Laws.IdiomStrings
set_option linter.unusedVariables false
namespace Go.Proofs.Ytimoenlnkafhoaa
open Go.RowKit
open Go.Lib (strCells)

/-- A disk: which append and which sync fail, its room, its bytes, how many of them are synced. -/
structure DS where
  a : Nat
  s : Nat
  room : Nat
  S : ByteArray
  k : Nat

structure DS.Ok (x : DS) : Prop where
  ka : x.a ≤ 9223372036854775807
  ks : x.s ≤ 9223372036854775807
  room : x.room ≤ 1048576
  size : x.S.size ≤ x.room
  k : x.k ≤ x.S.size

def DS.tickA (x : DS) : DS := { x with a := x.a - 1 }
def DS.tickS (x : DS) : DS := { x with s := x.s - 1 }
def DS.putE (x : DS) (t : ByteArray) : Int := if x.a = 1 then 230 else if x.room < x.S.size + t.size then 6 else 0
def DS.put (x : DS) (t : ByteArray) : DS := if x.putE t = 0 then { x.tickA with S := x.S ++ t } else x.tickA
def DS.flushE (x : DS) : Int := if x.s = 1 then 230 else 0
def DS.flush (x : DS) : DS := if x.s = 1 then x.tickS else { x.tickS with k := x.S.size }
def DS.cutE (x : DS) (n : Int) : Int := if n < 0 ∨ x.S.size < n then 2 else 0
def DS.cut (x : DS) (n : Int) : DS := if n < 0 ∨ x.S.size < n then x else { x with S := x.S.extract 0 n.toNat, k := n.toNat }
def DS.failsE (n m : Int) : Int := if n < 0 ∨ m < 0 then 2 else 0
def DS.fails (x : DS) (n m : Int) : DS := if n < 0 ∨ m < 0 then x else { x with a := n.toNat, s := m.toNat }
def DS.kept (x : DS) (keep : Int) : Nat := x.k + min keep.toNat (x.S.size - x.k)
def DS.crash (x : DS) (keep : Int) : DS := { a := 0, s := 0, room := x.room, S := x.S.extract 0 (x.kept keep), k := x.kept keep }
def DS.copy (x : DS) : DS := { x with a := 0, s := 0 }

theorem DS.Ok.tickA {x : DS} (h : x.Ok) : x.tickA.Ok := ⟨by have := h.ka; simp only [DS.tickA]; omega, h.ks, h.room, h.size, h.k⟩
theorem DS.Ok.tickS {x : DS} (h : x.Ok) : x.tickS.Ok := ⟨h.ka, by have := h.ks; simp only [DS.tickS]; omega, h.room, h.size, h.k⟩
theorem DS.Ok.put {x : DS} (h : x.Ok) (t : ByteArray) : (x.put t).Ok := by
  unfold DS.put
  split
  · rename_i he
    have hr : x.S.size + t.size ≤ x.room := by
      unfold DS.putE at he
      split at he
      · cases he
      · split at he
        · cases he
        · omega
    refine ⟨h.tickA.ka, h.ks, h.room, ?_, ?_⟩
    · show (x.S ++ t).size ≤ x.room
      rw [ByteArray.size_append]; exact hr
    · show x.k ≤ (x.S ++ t).size
      rw [ByteArray.size_append]; have := h.k; omega
  · exact h.tickA
theorem DS.Ok.flush {x : DS} (h : x.Ok) : x.flush.Ok := by
  unfold DS.flush
  split
  · exact h.tickS
  · exact ⟨h.ka, h.tickS.ks, h.room, h.size, Nat.le_refl _⟩
theorem DS.Ok.cut {x : DS} (h : x.Ok) (n : Int) : (x.cut n).Ok := by
  unfold DS.cut
  split
  · exact h
  · have h1 := h.size
    refine ⟨h.ka, h.ks, h.room, ?_, ?_⟩
    · show (x.S.extract 0 n.toNat).size ≤ x.room
      rw [ByteArray.size_extract]; omega
    · show n.toNat ≤ (x.S.extract 0 n.toNat).size
      rw [ByteArray.size_extract]; omega
theorem DS.Ok.fails {x : DS} (h : x.Ok) (n m : Int) (hn : n ≤ 9223372036854775807) (hm : m ≤ 9223372036854775807) : (x.fails n m).Ok := by
  unfold DS.fails
  split
  · exact h
  · exact ⟨by show n.toNat ≤ _; omega, by show m.toNat ≤ _; omega, h.room, h.size, h.k⟩
theorem DS.kept_le {x : DS} (h : x.Ok) (keep : Int) : x.k ≤ x.kept keep ∧ x.kept keep ≤ x.S.size := by
  have := h.k; unfold DS.kept; omega
theorem DS.Ok.crash {x : DS} (h : x.Ok) (keep : Int) : (x.crash keep).Ok := by
  have h1 := h.size
  have h2 := DS.kept_le h keep
  refine ⟨Nat.zero_le _, Nat.zero_le _, h.room, ?_, ?_⟩
  · show (x.S.extract 0 (x.kept keep)).size ≤ x.room
    rw [ByteArray.size_extract]; omega
  · show x.kept keep ≤ (x.S.extract 0 (x.kept keep)).size
    rw [ByteArray.size_extract]; omega
theorem DS.Ok.copy {x : DS} (h : x.Ok) : x.copy.Ok := ⟨Nat.zero_le _, Nat.zero_le _, h.room, h.size, h.k⟩

/-! ### The disk in memory. -/
def DS.cells (x : DS) (v : Value) : Array Value := #[.int .i64 x.a, .int .i64 x.s, .int .i64 x.room, v, .int .i64 x.k]
structure DiskV (w : World) (d : Nat) (v : Value) (x : DS) : Prop where
  block : w.heap[d]? = some (.cells (x.cells v) 56 (0, 0))
  own : w.ownsRow 0 5 1 v x.S.size (strCells x.S)
  ne : v.ownBlock ≠ some d
  ok : x.Ok

/-- Blocks other than d and a row are as they were; new ones may have come. -/
structure Fr (d : Nat) (row : Option Nat) (w w' : World) : Prop where
  os : w'.os = w.os
  tape : w'.tape = w.tape
  output : w'.output = w.output
  size : w.heap.size ≤ w'.heap.size
  block : ∀ j, j < w.heap.size → j ≠ d → some j ≠ row → w'.heap[j]? = w.heap[j]?

theorem Fr.refl (d : Nat) (row : Option Nat) (w : World) : Fr d row w w := ⟨rfl, rfl, rfl, Nat.le_refl _, fun _ _ _ _ => rfl⟩
theorem Fr.drew {d : Nat} {row : Option Nat} {w w' : World} (h : Fr d row w w') : Fr d row w w'.drew := ⟨h.os, h.tape, h.output, h.size, h.block⟩
theorem Fr.trans {d : Nat} {row row' : Option Nat} {u v w : World} (h : Fr d row u v) (k : Fr d row' v w) (hr : ∀ g, row' = some g → row = some g ∨ u.heap.size ≤ g) : Fr d row u w :=
  ⟨k.os.trans h.os, k.tape.trans h.tape, k.output.trans h.output, Nat.le_trans h.size k.size, fun j hj h1 h2 =>
    (k.block j (Nat.lt_of_lt_of_le hj h.size) h1 (fun e => by
      rcases hr j e.symm with e' | e'
      · exact h2 e'.symm
      · omega)).trans (h.block j hj h1 h2)⟩
theorem Fr.setCell {d : Nat} {row : Option Nat} {u w : World} (h : Fr d row u w) (o : Nat) (v : Value) : Fr d row u (w.setCell ⟨d, o, none⟩ v) :=
  ⟨h.os, h.tape, h.output, by have := h.size; simp; omega, fun j hj h1 h2 => (Below.heap_setCell _ _ _ _ h1).trans (h.block j hj h1 h2)⟩
theorem Fr.alloc {d : Nat} {row : Option Nat} {u w : World} (h : Fr d row u w) (o : Obj) : Fr d row u (w.alloc o) :=
  ⟨h.os, h.tape, h.output, by have := h.size; simp; omega, fun j hj h1 h2 => (Below.heap_alloc _ _ _ (Nat.lt_of_lt_of_le hj h.size)).trans (h.block j hj h1 h2)⟩
theorem Fr.grown {d : Nat} {row : Option Nat} {u w w' : World} (h : Fr d row u w) (hg : w.grownBy w' row) : Fr d row u w' :=
  ⟨hg.os.trans h.os, hg.tape.trans h.tape, hg.output.trans h.output, Nat.le_trans h.size hg.size, fun j hj h1 h2 => (hg.block j (Nat.lt_of_lt_of_le hj h.size) h2).trans (h.block j hj h1 h2)⟩
theorem Fr.below {d : Nat} {row : Option Nat} {w w' : World} (h : Fr d row w w') {B : Nat} (hB : B ≤ d) (hr : ∀ g, row = some g → B ≤ g) (hw : B ≤ w.heap.size) : Below B w w' :=
  ⟨h.os, h.tape, h.output, h.size, fun j hj => h.block j (by omega) (by omega) (fun e => by have := hr j e.symm; omega)⟩

/-- What a call on the disk d leaves. -/
def Did (d : Nat) (row : Option Nat) (w w' : World) (x : DS) : Prop :=
  ∃ v, DiskV w' d v x ∧ (∀ g, v.ownBlock = some g → row = some g ∨ w.heap.size ≤ g) ∧ Fr d row w w'

namespace DiskV
variable {w : World} {d : Nat} {v : Value} {x : DS}
theorem lt (h : DiskV w d v x) : d < w.heap.size := (Array.getElem?_eq_some_iff.1 h.block).1
theorem c0 (h : DiskV w d v x) : w.cell? ⟨d, 0, none⟩ = some (.int .i64 x.a) := by simp [World.cell?, h.block, DS.cells]
theorem c1 (h : DiskV w d v x) : w.cell? ⟨d, 1, none⟩ = some (.int .i64 x.s) := by simp [World.cell?, h.block, DS.cells]
theorem c2 (h : DiskV w d v x) : w.cell? ⟨d, 2, none⟩ = some (.int .i64 x.room) := by simp [World.cell?, h.block, DS.cells]
theorem c3 (h : DiskV w d v x) : w.cell? ⟨d, 3, none⟩ = some v := by simp [World.cell?, h.block, DS.cells]
theorem c4 (h : DiskV w d v x) : w.cell? ⟨d, 4, none⟩ = some (.int .i64 x.k) := by simp [World.cell?, h.block, DS.cells]
theorem fz (h : DiskV w d v x) (o : Nat) : w.frozen? ⟨d, o, none⟩ = false := by simp [World.frozen?, h.block]
theorem shape (h : DiskV w d v x) : ∃ ao cap, v = .slice ao x.S.size cap ∧ (ao = none → x.S.size = 0 ∧ cap = 0) ∧ (∀ a, ao = some a → ∃ g, a = ⟨g, 0, none⟩) ∧ x.S.size ≤ cap := by
  rcases h.own.2 with ⟨hv, hn⟩ | ⟨g, cap, cur, hv, _, _, hn, _⟩
  · exact ⟨none, 0, by rw [hv, hn], fun _ => ⟨hn, rfl⟩, (fun a ha => by cases ha), by omega⟩
  · exact ⟨_, cap, hv, (fun e => by cases e), (fun a ha => ⟨g, by cases ha; rfl⟩), hn⟩
end DiskV
theorem ownsRow_of_block {w w' : World} {v : Value} {n : Nat} {xs : List Value} (h : w.ownsRow 0 5 1 v n xs) (hb : ∀ g, v.ownBlock = some g → w'.heap[g]? = w.heap[g]?) : w'.ownsRow 0 5 1 v n xs := by
  refine ⟨h.1, ?_⟩
  rcases h.2 with h2 | ⟨g, cap, cur, hv, h1, h2, r⟩
  · exact Or.inl h2
  · exact Or.inr ⟨g, cap, cur, hv, h1, by rw [hb g (by rw [hv]; rfl)]; exact h2, r⟩

namespace DiskV
variable {w : World} {d : Nat} {v : Value} {x : DS}
/-- A world in which both blocks are as they were. -/
theorem keep (h : DiskV w d v x) {w' : World} (h1 : w'.heap[d]? = w.heap[d]?) (h2 : ∀ g, v.ownBlock = some g → w'.heap[g]? = w.heap[g]?) : DiskV w' d v x :=
  ⟨h1.trans h.block, ownsRow_of_block h.own h2, h.ne, h.ok⟩
theorem row_lt (h : DiskV w d v x) {g : Nat} (hg : v.ownBlock = some g) : g < w.heap.size := (h.own.lt g hg).2
theorem drew (h : DiskV w d v x) : DiskV w.drew d v x := h.keep rfl (fun _ _ => rfl)
theorem drewN (h : DiskV w d v x) (n : Nat) : DiskV (w.drewN n) d v x := h.keep rfl (fun _ _ => rfl)
theorem alloc (h : DiskV w d v x) (o : Obj) : DiskV (w.alloc o) d v x :=
  h.keep (Below.heap_alloc _ _ _ h.lt) (fun g hg => Below.heap_alloc _ _ _ (h.row_lt hg))
theorem setCell (h : DiskV w d v x) {a : Addr} (h1 : a.block ≠ d) (h2 : v.ownBlock ≠ some a.block) (u : Value) : DiskV (w.setCell a u) d v x :=
  h.keep (Below.heap_setCell _ _ _ _ (fun e => h1 e.symm)) (fun g hg => Below.heap_setCell _ _ _ _ (fun e => h2 (by rw [hg, e])))
theorem below (h : DiskV w d v x) {B : Nat} {w' : World} (hb : Below B w w') (h1 : d < B) (h2 : ∀ g, v.ownBlock = some g → g < B) : DiskV w' d v x :=
  h.keep (hb.block d h1) (fun g hg => hb.block g (h2 g hg))
theorem more (h : DiskV w d v x) {w' : World} (hb : Below w.heap.size w w') : DiskV w' d v x := h.below hb h.lt (fun g hg => h.row_lt hg)
/-- Another disk's call. -/
theorem other (h : DiskV w d v x) {d' : Nat} {row : Option Nat} {w' : World} (hf : Fr d' row w w') (h1 : d ≠ d') (h2 : some d ≠ row) (h3 : v.ownBlock ≠ some d') (h4 : ∀ g, v.ownBlock = some g → row ≠ some g) : DiskV w' d v x :=
  h.keep (hf.block d h.lt h1 h2) (fun g hg => hf.block g (h.row_lt hg) (fun e => h3 (by rw [hg, e])) (fun e => h4 g hg e.symm))
/-- The disk's own cells are written. -/
theorem set (h : DiskV w d v x) (o : Nat) (u : Value) (y : DS) (v' : Value) (hy : (x.cells v).setIfInBounds o u = y.cells v') (hS : w.ownsRow 0 5 1 v' y.S.size (strCells y.S)) (hne : v'.ownBlock ≠ some d) (ok : y.Ok) : DiskV (w.setCell ⟨d, o, none⟩ u) d v' y := by
  refine ⟨?_, ownsRow_of_block hS (fun g hg => Below.heap_setCell _ _ _ _ (fun e => hne (by rw [hg, e]))), hne, ok⟩
  simp [World.setCell, Array.getElem?_modify, h.block, hy]
end DiskV

theorem setCell_self {w : World} {a : Addr} {v : Value} (h : w.cell? a = some v) : w.setCell a v = w := by
  unfold World.cell? at h
  split at h
  · rename_i c e f hb
    obtain ⟨hlt, hget⟩ := Array.getElem?_eq_some_iff.1 hb
    have hs : a.spot.isSome = false := by
      cases hs : a.spot.isSome with
      | false => rfl
      | true => simp [hs] at h
    simp only [hs, Bool.false_eq_true, if_false] at h
    obtain ⟨hlt2, hget2⟩ := Array.getElem?_eq_some_iff.1 h
    have e1 : (w.setCell a v).heap = w.heap := by
      unfold World.setCell
      apply Array.ext
      · simp
      · intro i h1 h2
        rw [Array.getElem_modify]
        split
        · rename_i hi
          subst hi
          rw [hget]
          simp only [hs, Bool.false_eq_true, if_false]
          congr 1
          apply Array.ext
          · simp
          · intro j h3 h4
            rw [Array.getElem_setIfInBounds]
            split
            · rename_i hj
              subst hj
              exact hget2.symm
            · rfl
        · rfl
    calc w.setCell a v = { w with heap := (w.setCell a v).heap } := rfl
      _ = w := by rw [e1]
  · cases h

end Go.Proofs.Ytimoenlnkafhoaa
