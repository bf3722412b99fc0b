/-
  The walk.
-/
import Derived.Test.YtoplbfijodebmaaGreatDoorM03Row
import Derived.Deep.WholeRow
set_option linter.unusedVariables false
set_option linter.unusedSimpArgs false
set_option maxRecDepth 100000
set_option maxHeartbeats 40000000
namespace Go.Proofs.YtoplbfijodebmaaGreatDoor
section
open Go.RowKit
structure RowTy (t n : Nat) : Prop where
 under : ∃ e, Tryz.prog.underlying t = some (.array n e)
 size : (Tryz.prog.info? t).map (·.size) = some n
theorem rowTy38 : RowTy 190 8 := ⟨⟨79, by kernel_rfl⟩, by kernel_rfl⟩
theorem ws_size (v : List Nat) : (ws v).size = v.length := by simp [ws]
theorem ws_one (v : List Nat) : (ws v).all (·.oneCell') = true := by
 rw [Array.all_eq_true_iff_forall_mem]
 intro x hx
 simp only [ws, List.mem_toArray, List.mem_map] at hx
 obtain ⟨n, _, rfl⟩ := hx
 rfl
namespace Row
variable {w : World} {b n t : Nat} {v : List Nat}
theorem loadVar (h : Row w b t n v) (ht : RowTy t n) : (Go.loadVar t ⟨b, 0, none⟩).run Tryz.prog w = .ok (.agg (ws v)) w := by
 obtain ⟨⟨e, hu⟩, hs⟩ := ht
 exact run_loadVar_row w b t t (ws v) (0, 0) _ h.block hu rfl (by rw [hs, ws_size, h.len])
theorem setRow (h : Row w b t n v) (u : List Nat) (hu : u.length = n) (hl : ∀ i, at_ u i < 4294967296) : Row (w.setRow b (ws u)) b t n u := ⟨setRow_heap w b _ _ _ _ h.block, hu, hl⟩
end Row
theorem Only.setRow (b : Nat) (w : World) (cs : Array Value) : Only b w (w.setRow b cs) := ⟨rfl, rfl, rfl, by simp [World.setRow], fun j _ hb => setRow_other w b j cs hb⟩
theorem row_new (w : World) (t n : Nat) (v : List Nat) (hl : v.length = n) (hv : ∀ i, at_ v i < 4294967296) : Row (w.alloc (.cells (ws v) t)) w.heap.size t n v := ⟨heap_alloc_last w _, hl, hv⟩
def zeros (n : Nat) : List Nat := List.replicate n 0
theorem at_zeros (n i : Nat) : at_ (zeros n) i < 4294967296 := by
 unfold at_ zeros
 rw [List.getD_eq_getElem?_getD, List.getElem?_replicate]
 split <;> simp
theorem ws_zeros16 : ws (zeros 16) = #[.int .u32 0, .int .u32 0, .int .u32 0, .int .u32 0, .int .u32 0, .int .u32 0, .int .u32 0, .int .u32 0, .int .u32 0, .int .u32 0, .int .u32 0, .int .u32 0, .int .u32 0, .int .u32 0, .int .u32 0, .int .u32 0] := rfl
theorem wp_load_row {op : Oper} {a : Act} {w : World} {K : Act → World → Prop} {Q : Exit → Act → World → Prop} {b n t : Nat} {v : List Nat} (x : Operand) (ho : op.op = .load t x)
  (hx : a.eval x = .pointer (some ⟨b, 0, none⟩)) (hr : Row w b t n v) (ht : RowTy t n) (h : K (a.put op.dst (.agg (ws v))) w) : op.wp Tryz.prog a w K Q := by
 unfold Oper.wp execOp
 simp only [ho, hx, Instr.loadAt, Instr.sureAddr, Sem.run_bind, Sem.run_pure, Result.andThen_ok, hr.loadVar ht]
 exact h
theorem wpList_load_row {ops : Array Oper} {rest : List Oper} {op : Oper} {a : Act} {w : World} {Q : Exit → Act → World → Prop} {b n t : Nat} {v : List Nat} (hgd : op.guard = none) (x : Operand) (ho : op.op = .load t x)
  (hx : a.eval x = .pointer (some ⟨b, 0, none⟩)) (hr : Row w b t n v) (ht : RowTy t n) (h : wpList Tryz.prog ops Q rest (a.put op.dst (.agg (ws v))) w) : wpList Tryz.prog ops Q (op :: rest) a w :=
 wpList_plain hgd fun _ hK => wp_load_row x ho hx hr ht (hK _ _ h)
theorem wp_store_row {op : Oper} {a : Act} {w : World} {K : Act → World → Prop} {Q : Exit → Act → World → Prop} {b n t : Nat} {v u : List Nat} (x y : Operand) (ho : op.op = .store t x y)
  (hx : a.eval x = .pointer (some ⟨b, 0, none⟩)) (hy : a.eval y = .agg (ws u)) (hr : Row w b t n v) (ht : RowTy t n) (hu : u.length = n) (h : K (a.put op.dst undef) (w.setRow b (ws u))) : op.wp Tryz.prog a w K Q := by
 have hs := run_storeVar_row (P := Tryz.prog) w b t t (ws v) (ws u) hr.block (by rw [ht.size, ws_size, hu]) (by rw [ws_size, ws_size, hr.len, hu]) (ws_one u)
 unfold Oper.wp execOp
 simp only [ho, hx, hy, Instr.storeAt, Instr.sureAddr, Sem.run_bind, Sem.run_pure, Result.andThen_ok, hs]
 exact h
theorem wpList_store_row {ops : Array Oper} {rest : List Oper} {op : Oper} {a : Act} {w : World} {Q : Exit → Act → World → Prop} {b n t : Nat} {v u : List Nat} (hgd : op.guard = none) (x y : Operand) (ho : op.op = .store t x y)
  (hx : a.eval x = .pointer (some ⟨b, 0, none⟩)) (hy : a.eval y = .agg (ws u)) (hr : Row w b t n v) (ht : RowTy t n) (hu : u.length = n) (h : wpList Tryz.prog ops Q rest (a.put op.dst undef) (w.setRow b (ws u))) : wpList Tryz.prog ops Q (op :: rest) a w :=
 wpList_plain hgd fun _ hK => wp_store_row x y ho hx hy hr ht hu (hK _ _ h)
theorem results_cell {fn : Func} {p : Tmp} {ty : TypeId} (h : fn.results = #[.cell p ty]) (tmps : Array Value) (P : Program) (w : World) :
  (results fn tmps).run P w = ((asAddr (tmps.getD p undef)).run P w).andThen fun a w₁ => (loadVar ty a).run P w₁ := by
 simp only [results, h]
 simp [Sem.run_bind, Result.andThen]
theorem results_row {fn : Func} {p : Tmp} {tmps : Array Value} {w : World} {b n t : Nat} {v : List Nat} (h : fn.results = #[.cell p t]) (hp : tmps.getD p undef = .pointer (some ⟨b, 0, none⟩)) (hr : Row w b t n v) (ht : RowTy t n) :
  (results fn tmps).run Tryz.prog w = .ok (.agg (ws v)) w := by
 rw [results_cell h, hp]
 simp only [asAddr, Sem.run_pure, Result.andThen_ok]
 exact hr.loadVar ht
end
section
open Go.RowKit
def sigma : List (List Nat) := [[0, 1, 2, 3, 4, 5, 6, 7, 8, 9, 10, 11, 12, 13, 14, 15], [14, 10, 4, 8, 9, 15, 13, 6, 1, 12, 0, 2, 11, 7, 5, 3], [11, 8, 12, 0, 5, 2, 15, 13, 10, 14, 3, 6, 7, 1, 9, 4], [7, 9, 3, 1, 13, 12, 11, 14, 2, 6, 5, 10, 4, 0, 15, 8], [9, 0, 5, 7, 2, 4, 10, 15, 14, 1, 11, 12, 6, 8, 3, 13], [2, 12, 6, 10, 0, 11, 8, 3, 4, 13, 7, 5, 15, 14, 1, 9], [12, 5, 1, 15, 14, 13, 4, 10, 0, 7, 6, 3, 9, 2, 8, 11], [13, 11, 7, 14, 12, 1, 3, 9, 5, 0, 15, 4, 8, 6, 2, 10], [6, 15, 14, 9, 11, 3, 0, 8, 12, 2, 13, 7, 1, 4, 10, 5], [10, 2, 8, 4, 7, 6, 1, 5, 15, 11, 9, 14, 3, 12, 13, 0]]
def iv : List Nat := [1779033703, 3144134277, 1013904242, 2773480762, 1359893119, 2600822924, 528734635, 1541459225]
def sg (r i : Nat) : Nat := (sigma.getD r []).getD i 0
theorem iv_len : iv.length = 8 := rfl
theorem iv_lt (i : Nat) : at_ iv i < 4294967296 := by
 by_cases h : i < 8
 ·exact (by decide : ∀ i < 8, at_ iv i < 4294967296) i h
 unfold at_
 rw [List.getD_eq_getElem?_getD, List.getElem?_eq_none (by rw [iv_len]; omega)]
 decide
theorem first_any (w : World) : Calls Tryz.prog 119 #[] w fun e w' => e = .returned (.agg (ws iv)) ∧ Below w.heap.size w w' := by
 go_enter Tryz.func119, Tryz.ntmps119
 go_wp2_with fail
 exact bodyPost_ret (results_row (p := 0) (by kernel_rfl) (by rfl) (row_new w 190 8 iv iv_len iv_lt) rowTy38) rfl ⟨rfl, (Below.refl _ _).alloc (Nat.le_refl _) _⟩
structure Cells (w : World) (b : Nat) (t : TypeId) (cs : Array Value) : Prop where
 block : w.heap[b]? = some (.cells cs t)
namespace Cells
variable {w : World} {b t : Nat} {cs : Array Value}
theorem size_lt (h : Cells w b t cs) : b < w.heap.size := (Array.getElem?_eq_some_iff.1 h.block).1
theorem keep (h : Cells w b t cs) {w' : World} (hb : w'.heap[b]? = w.heap[b]?) : Cells w' b t cs := ⟨hb.trans h.block⟩
theorem drew (h : Cells w b t cs) : Cells w.drew b t cs := ⟨h.block⟩
theorem other (h : Cells w b t cs) {c : Nat} {w' : World} (hf : Only c w w') (hc : b ≠ c) : Cells w' b t cs := h.keep (hf.block b h.size_lt hc)
theorem more (h : Cells w b t cs) {w' : World} (hb : Below w.heap.size w w') : Cells w' b t cs := h.keep (hb.block b h.size_lt)
theorem cell (h : Cells w b t cs) (i : Nat) (v : Value) (hv : cs[i]? = some v) : w.cell? ⟨b, i, none⟩ = some v := by simp [World.cell?, h.block, hv]
theorem fz (h : Cells w b t cs) (i : Nat) : w.frozen? ⟨b, i, none⟩ = false := by simp [World.frozen?, h.block]
theorem setRow (h : Cells w b t cs) (c : Array Value) : Cells (w.setRow b c) b t c := ⟨setRow_heap w b _ _ _ _ h.block⟩
theorem loadVar (h : Cells w b t cs) {n : Nat} (ht : RowTy t n) (hn : cs.size = n) : (Go.loadVar t ⟨b, 0, none⟩).run Tryz.prog w = .ok (.agg cs) w := by
 obtain ⟨⟨e, hu⟩, hs⟩ := ht
 exact run_loadVar_row w b t t cs (0, 0) _ h.block hu rfl (by rw [hs, hn])
end Cells
theorem cells_new (w : World) (t : TypeId) (cs : Array Value) : Cells (w.alloc (.cells cs t)) w.heap.size t cs := ⟨heap_alloc_last w _⟩
theorem wpList_store_cells {ops : Array Oper} {rest : List Oper} {op : Oper} {a : Act} {w : World} {Q : Exit → Act → World → Prop} {b n t : Nat} {cs c : Array Value} (hgd : op.guard = none) (x y : Operand) (ho : op.op = .store t x y)
  (hx : a.eval x = .pointer (some ⟨b, 0, none⟩)) (hy : a.eval y = .agg c) (hr : Cells w b t cs) (ht : RowTy t n) (hn : cs.size = n) (hc : c.size = n) (h1 : c.all (·.oneCell') = true)
  (h : wpList Tryz.prog ops Q rest (a.put op.dst undef) (w.setRow b c)) : wpList Tryz.prog ops Q (op :: rest) a w :=
 wpList_plain hgd fun _ hK => by
  have hs := run_storeVar_row (P := Tryz.prog) w b t t cs c hr.block (by rw [ht.size, hc]) (by rw [hn, hc]) h1
  unfold Oper.wp execOp
  simp only [ho, hx, hy, Instr.storeAt, Instr.sureAddr, Sem.run_bind, Sem.run_pure, Result.andThen_ok, hs]
  exact hK _ _ h
end
section
def bt (p : ByteArray) (i : Nat) : Nat := (p.data.getD i 0).toNat
theorem bt_lt (p : ByteArray) (i : Nat) : bt p i < 256 := UInt8.toNat_lt _
def pw (p : ByteArray) : Nat → List Nat
 | 0 => zeros 16
 | n + 1 => (pw p n).set (n / 4) (at_ (pw p n) (n / 4) ||| (bt p n * 2 ^ (n % 4 * 8) % 4294967296))
def words (p : ByteArray) : List Nat := pw p 64
def qa (i : Nat) : Nat := i % 4
def qb (i : Nat) : Nat := if i < 4 then 4 + i else 4 + (i - 4 + 1) % 4
def qc (i : Nat) : Nat := if i < 4 then 8 + i else 8 + (i - 4 + 2) % 4
def qd (i : Nat) : Nat := if i < 4 then 12 + i else 12 + (i - 4 + 3) % 4
def mixQ (v m : List Nat) (r i : Nat) : List Nat := mixL v (qa i) (qb i) (qc i) (qd i) (at_ m (sg r (2 * i))) (at_ m (sg r (2 * i + 1)))
def quads (v m : List Nat) (r : Nat) : Nat → List Nat
 | 0 => v
 | i + 1 => mixQ (quads v m r i) m r i
def rds (v m : List Nat) : Nat → List Nat
 | 0 => v
 | r + 1 => quads (rds v m r) m r 8
def vA (h : List Nat) (t : Nat) : List Nat := (h ++ iv).set 12 (at_ (h ++ iv) 12 ^^^ t % 4294967296)
def vB (h : List Nat) (t : Nat) : List Nat := (vA h t).set 13 (at_ (vA h t) 13 ^^^ t / 4294967296 % 4294967296)
def vC (h : List Nat) (t : Nat) (last : Bool) : List Nat := if last then (vB h t).set 14 (4294967295 ^^^ at_ (vB h t) 14) else vB h t
def folds (h v : List Nat) : Nat → List Nat
 | 0 => h
 | i + 1 => (folds h v i).set i (at_ (folds h v i) i ^^^ (at_ v i ^^^ at_ v (8 + i)))
def compress (h : List Nat) (p : ByteArray) (t : Nat) (last : Bool) : List Nat := folds h (rds (vC h t last) (words p) 10) 8
end
end Go.Proofs.YtoplbfijodebmaaGreatDoor
