/-
  The walk.
-/
import Derived.Test.YtoplbfijodebmaaGreatDoorM05Piece
import Derived.Deep.WholeRow
set_option linter.unusedVariables false
set_option linter.unusedSimpArgs false
set_option maxRecDepth 100000
set_option maxHeartbeats 40000000
namespace Go.Proofs.YtoplbfijodebmaaGreatDoor
open Go.RowKit
def lk (k : IntKind) (v : List Int) : Array Value := (v.map fun x => Value.int k x).toArray
def ia (v : List Int) (i : Nat) : Int := v.getD i 0
theorem ia_set (v : List Int) (i j : Nat) (x : Int) (hi : i < v.length) : ia (v.set i x) j = if i = j then x else ia v j := by
 unfold ia
 rw [List.getD_eq_getElem?_getD, List.getD_eq_getElem?_getD, List.getElem?_set]
 by_cases h : i = j
 ·subst h; simp [hi]
 simp [h]
theorem lk_size (k : IntKind) (v : List Int) : (lk k v).size = v.length := by simp [lk]
theorem lk_one (k : IntKind) (v : List Int) : (lk k v).all (·.oneCell') = true := by
 rw [Array.all_eq_true_iff_forall_mem]
 intro x hx
 simp only [lk, List.mem_toArray, List.mem_map] at hx
 obtain ⟨n, _, rfl⟩ := hx
 rfl
theorem lk_at {k : IntKind} {v : List Int} {n i : Nat} (hl : v.length = n) (hi : i < n) : (lk k v)[i]? = some (.int k (ia v i)) := by
 have hi' : i < v.length := by rw [hl]; exact hi
 simp [lk, ia, hi']
structure Rk (w : World) (b : Nat) (t : TypeId) (k : IntKind) (n : Nat) (v : List Int) : Prop where
 block : w.heap[b]? = some (.cells (lk k v) t)
 len : v.length = n
namespace Rk
variable {w : World} {b n : Nat} {t : TypeId} {k : IntKind} {v : List Int}
theorem cell (h : Rk w b t k n v) (i : Nat) (hi : i < n) : w.cell? ⟨b, i, none⟩ = some (.int k (ia v i)) := by
 have := lk_at (k := k) h.len hi
 simp [World.cell?, h.block, this]
theorem fz (h : Rk w b t k n v) (i : Nat) : w.frozen? ⟨b, i, none⟩ = false := by simp [World.frozen?, h.block]
theorem lt (h : Rk w b t k n v) : b < w.heap.size := (Array.getElem?_eq_some_iff.1 h.block).1
theorem keep (h : Rk w b t k n v) {w' : World} (hb : w'.heap[b]? = w.heap[b]?) : Rk w' b t k n v := ⟨hb.trans h.block, h.len⟩
theorem alloc (h : Rk w b t k n v) (o : Obj) : Rk (w.alloc o) b t k n v := h.keep (Below.heap_alloc _ _ _ h.lt)
theorem loadVar (h : Rk w b t k n v) (ht : RowTy t n) : (Go.loadVar t ⟨b, 0, none⟩).run Tryz.prog w = .ok (.agg (lk k v)) w := by
 obtain ⟨⟨e, hu⟩, hs⟩ := ht
 exact run_loadVar_row w b t t (lk k v) (0, 0) _ h.block hu rfl (by rw [hs, lk_size, h.len])
end Rk
theorem rk_new (w : World) (t n : Nat) (k : IntKind) (v : List Int) (hl : v.length = n) : Rk (w.alloc (.cells (lk k v) t)) w.heap.size t k n v := ⟨heap_alloc_last w _, hl⟩
theorem wpList_load_rk {ops : Array Oper} {rest : List Oper} {op : Oper} {a : Act} {w : World} {Q : Exit → Act → World → Prop} {b n t : Nat} {k : IntKind} {v : List Int} (hgd : op.guard = none) (x : Operand) (ho : op.op = .load t x)
  (hx : a.eval x = .pointer (some ⟨b, 0, none⟩)) (hr : Rk w b t k n v) (ht : RowTy t n) (h : wpList Tryz.prog ops Q rest (a.put op.dst (.agg (lk k v))) w) : wpList Tryz.prog ops Q (op :: rest) a w :=
 wpList_plain hgd fun _ hK => by
  unfold Oper.wp execOp
  simp only [ho, hx, Instr.loadAt, Instr.sureAddr, Sem.run_bind, Sem.run_pure, Result.andThen_ok, hr.loadVar ht]
  exact hK _ _ h
theorem wpList_store_rk {ops : Array Oper} {rest : List Oper} {op : Oper} {a : Act} {w : World} {Q : Exit → Act → World → Prop} {b n t : Nat} {k : IntKind} {v u : List Int} (hgd : op.guard = none) (x y : Operand) (ho : op.op = .store t x y)
  (hx : a.eval x = .pointer (some ⟨b, 0, none⟩)) (hy : a.eval y = .agg (lk k u)) (hr : Rk w b t k n v) (ht : RowTy t n) (hu : u.length = n) (h : wpList Tryz.prog ops Q rest (a.put op.dst undef) (w.setRow b (lk k u))) : wpList Tryz.prog ops Q (op :: rest) a w :=
 wpList_plain hgd fun _ hK => by
  have hs := run_storeVar_row (P := Tryz.prog) w b t t (lk k v) (lk k u) hr.block (by rw [ht.size, lk_size, hu]) (by rw [lk_size, lk_size, hr.len, hu]) (lk_one k u)
  unfold Oper.wp execOp
  simp only [ho, hx, hy, Instr.storeAt, Instr.sureAddr, Sem.run_bind, Sem.run_pure, Result.andThen_ok, hs]
  exact hK _ _ h
theorem results_rk {fn : Func} {p : Tmp} {tmps : Array Value} {w : World} {b n t : Nat} {k : IntKind} {v : List Int} (h : fn.results = #[.cell p t]) (hp : tmps.getD p undef = .pointer (some ⟨b, 0, none⟩)) (hr : Rk w b t k n v) (ht : RowTy t n) :
  (results fn tmps).run Tryz.prog w = .ok (.agg (lk k v)) w := by
 rw [results_cell h, hp]
 simp only [asAddr, Sem.run_pure, Result.andThen_ok]
 exact hr.loadVar ht
def zi (n : Nat) : List Int := List.replicate n 0
theorem zi_len (n : Nat) : (zi n).length = n := List.length_replicate
theorem ty141 : RowTy 141 5 := ⟨⟨29, by kernel_rfl⟩, by kernel_rfl⟩
end Go.Proofs.YtoplbfijodebmaaGreatDoor
