/-
  The orders, the words to begin with.
-/
import Derived.Test.YtfminodongcelaaDoorMix
set_option linter.unusedVariables false
namespace Go.Proofs.YtfminodongcelaaDoor
open Go.RowKit

def sigma : List (List Nat) := [[0, 1, 2, 3, 4, 5, 6, 7, 8, 9, 10, 11, 12, 13, 14, 15], [14, 10, 4, 8, 9, 15, 13, 6, 1, 12, 0, 2, 11, 7, 5, 3], [11, 8, 12, 0, 5, 2, 15, 13, 10, 14, 3, 6, 7, 1, 9, 4], [7, 9, 3, 1, 13, 12, 11, 14, 2, 6, 5, 10, 4, 0, 15, 8], [9, 0, 5, 7, 2, 4, 10, 15, 14, 1, 11, 12, 6, 8, 3, 13], [2, 12, 6, 10, 0, 11, 8, 3, 4, 13, 7, 5, 15, 14, 1, 9], [12, 5, 1, 15, 14, 13, 4, 10, 0, 7, 6, 3, 9, 2, 8, 11], [13, 11, 7, 14, 12, 1, 3, 9, 5, 0, 15, 4, 8, 6, 2, 10], [6, 15, 14, 9, 11, 3, 0, 8, 12, 2, 13, 7, 1, 4, 10, 5], [10, 2, 8, 4, 7, 6, 1, 5, 15, 11, 9, 14, 3, 12, 13, 0]]
def iv : List Nat := [1779033703, 3144134277, 1013904242, 2773480762, 1359893119, 2600822924, 528734635, 1541459225]
def sg (r i : Nat) : Nat := (sigma.getD r []).getD i 0
def is (v : List Nat) : Array Value := (v.map fun n : Nat => Value.int .i64 (n : Int)).toArray
theorem iv_len : iv.length = 8 := rfl
theorem iv_lt (i : Nat) : at_ iv i < 4294967296 := by
  by_cases h : i < 8
  · exact (by decide : ∀ i < 8, at_ iv i < 4294967296) i h
  · unfold at_
    rw [List.getD_eq_getElem?_getD, List.getElem?_eq_none (by rw [iv_len]; omega)]
    decide

theorem begin_any (w : World) : Calls Tryd.prog 19 #[] w fun e w' => e = .returned (.agg (ws iv)) ∧ Below w.heap.size w w' := by
  go_enter Tryd.func19, Tryd.ntmps19
  go_wp2_with fail
  exact bodyPost_ret (results_row (p := 0) (by kernel_rfl) (by rfl) (row_new w 38 8 iv iv_len iv_lt) rowTy38) rfl ⟨rfl, (Below.refl _ _).alloc (Nat.le_refl _) _⟩
theorem first_any (w : World) : Calls Tryd.prog 30 #[] w fun e w' => e = .returned (.agg (ws iv)) ∧ Below w.heap.size w w' := by
  go_enter Tryd.func30, Tryd.ntmps30
  go_wp2_with fail
  exact bodyPost_ret (results_row (p := 0) (by kernel_rfl) (by rfl) (row_new w 38 8 iv iv_len iv_lt) rowTy38) rfl ⟨rfl, (Below.refl _ _).alloc (Nat.le_refl _) _⟩

/-! Rows of cells of whatever kind. -/
structure Cells (w : World) (b : Nat) (t : TypeId) (cs : Array Value) : Prop where
  block : w.heap[b]? = some (.cells cs t)
namespace Cells
variable {w : World} {b t : Nat} {cs : Array Value}
theorem size_lt (h : Cells w b t cs) : b < w.heap.size := (Array.getElem?_eq_some_iff.1 h.block).1
theorem keep (h : Cells w b t cs) {w' : World} (hb : w'.heap[b]? = w.heap[b]?) : Cells w' b t cs := ⟨hb.trans h.block⟩
theorem drew (h : Cells w b t cs) : Cells w.drew b t cs := ⟨h.block⟩
theorem drewN (h : Cells w b t cs) (n : Nat) : Cells (w.drewN n) b t cs := ⟨h.block⟩
theorem alloc (h : Cells w b t cs) (o : Obj) : Cells (w.alloc o) b t cs := h.keep (Below.heap_alloc _ _ _ h.size_lt)
theorem other (h : Cells w b t cs) {c : Nat} {w' : World} (hf : Only c w w') (hc : b ≠ c) : Cells w' b t cs := h.keep (hf.block b h.size_lt hc)
theorem more (h : Cells w b t cs) {w' : World} (hb : Below w.heap.size w w') : Cells w' b t cs := h.keep (hb.block b h.size_lt)
theorem cell (h : Cells w b t cs) (i : Nat) (v : Value) (hv : cs[i]? = some v) : w.cell? ⟨b, i, none⟩ = some v := by simp [World.cell?, h.block, hv]
theorem fz (h : Cells w b t cs) (i : Nat) : w.frozen? ⟨b, i, none⟩ = false := by simp [World.frozen?, h.block]
theorem set (h : Cells w b t cs) (i : Nat) (v : Value) : Cells (w.setCell ⟨b, i, none⟩ v) b t (cs.setIfInBounds i v) := ⟨by simp [World.setCell, Array.getElem?_modify, h.block]⟩
theorem setRow (h : Cells w b t cs) (c : Array Value) : Cells (w.setRow b c) b t c := ⟨setRow_heap w b _ _ _ _ h.block⟩
theorem loadVar (h : Cells w b t cs) {n : Nat} (ht : RowTy t n) (hn : cs.size = n) : (Go.loadVar t ⟨b, 0, none⟩).run Tryd.prog w = .ok (.agg cs) w := by
  obtain ⟨⟨e, hu⟩, hs⟩ := ht
  exact run_loadVar_row w b t t cs (0, 0) _ h.block hu rfl (by rw [hs, hn])
end Cells
theorem Row.cells {w : World} {b n : Nat} {t : TypeId} {v : List Nat} (h : Row w b t n v) : Cells w b t (ws v) := ⟨h.block⟩
theorem cells_new (w : World) (t : TypeId) (cs : Array Value) : Cells (w.alloc (.cells cs t)) w.heap.size t cs := ⟨heap_alloc_last w _⟩
theorem wpList_load_cells {ops : Array Oper} {rest : List Oper} {op : Oper} {a : Act} {w : World} {Q : Exit → Act → World → Prop} {b n t : Nat} {cs : Array Value} (hgd : op.guard = none) (x : Operand) (ho : op.op = .load t x)
    (hx : a.eval x = .pointer (some ⟨b, 0, none⟩)) (hr : Cells w b t cs) (ht : RowTy t n) (hn : cs.size = n) (h : wpList Tryd.prog ops Q rest (a.put op.dst (.agg cs)) w) : wpList Tryd.prog ops Q (op :: rest) a w :=
  wpList_plain hgd fun _ hK => by
    unfold Oper.wp execOp
    simp only [ho, hx, Instr.loadAt, Instr.sureAddr, Sem.run_bind, Sem.run_pure, Result.andThen_ok, hr.loadVar ht hn]
    exact hK _ _ h
theorem wpList_store_cells {ops : Array Oper} {rest : List Oper} {op : Oper} {a : Act} {w : World} {Q : Exit → Act → World → Prop} {b n t : Nat} {cs c : Array Value} (hgd : op.guard = none) (x y : Operand) (ho : op.op = .store t x y)
    (hx : a.eval x = .pointer (some ⟨b, 0, none⟩)) (hy : a.eval y = .agg c) (hr : Cells w b t cs) (ht : RowTy t n) (hn : cs.size = n) (hc : c.size = n) (h1 : c.all (·.oneCell') = true)
    (h : wpList Tryd.prog ops Q rest (a.put op.dst undef) (w.setRow b c)) : wpList Tryd.prog ops Q (op :: rest) a w :=
  wpList_plain hgd fun _ hK => by
    have hs := run_storeVar_row (P := Tryd.prog) w b t t cs c hr.block (by rw [ht.size, hc]) (by rw [hn, hc]) h1
    unfold Oper.wp execOp
    simp only [ho, hx, hy, Instr.storeAt, Instr.sureAddr, Sem.run_bind, Sem.run_pure, Result.andThen_ok, hs]
    exact hK _ _ h
theorem results_cells {fn : Func} {p : Tmp} {tmps : Array Value} {w : World} {b n t : Nat} {cs : Array Value} (h : fn.results = #[.cell p t]) (hp : tmps.getD p undef = .pointer (some ⟨b, 0, none⟩)) (hr : Cells w b t cs) (ht : RowTy t n) (hn : cs.size = n) :
    (results fn tmps).run Tryd.prog w = .ok (.agg cs) w := by
  rw [results_cell h, hp]
  simp only [asAddr, Sem.run_pure, Result.andThen_ok]
  exact hr.loadVar ht hn
theorem rowTy69 : RowTy 69 16 := ⟨⟨3, by kernel_rfl⟩, by kernel_rfl⟩

def ordS : List ByteArray := [{ data := #[48, 49, 50, 51, 52, 53, 54, 55, 56, 57, 97, 98, 99, 100, 101, 102] }, { data := #[101, 97, 52, 56, 57, 102, 100, 54, 49, 99, 48, 50, 98, 55, 53, 51] }, { data := #[98, 56, 99, 48, 53, 50, 102, 100, 97, 101, 51, 54, 55, 49, 57, 52] }, { data := #[55, 57, 51, 49, 100, 99, 98, 101, 50, 54, 53, 97, 52, 48, 102, 56] }, { data := #[57, 48, 53, 55, 50, 52, 97, 102, 101, 49, 98, 99, 54, 56, 51, 100] }, { data := #[50, 99, 54, 97, 48, 98, 56, 51, 52, 100, 55, 53, 102, 101, 49, 57] }, { data := #[99, 53, 49, 102, 101, 100, 52, 97, 48, 55, 54, 51, 57, 50, 56, 98] }, { data := #[100, 98, 55, 101, 99, 49, 51, 57, 53, 48, 102, 52, 56, 54, 50, 97] }, { data := #[54, 102, 101, 57, 98, 51, 48, 56, 99, 50, 100, 55, 49, 52, 97, 53] }, { data := #[97, 50, 56, 52, 55, 54, 49, 53, 102, 98, 57, 101, 51, 99, 100, 48] }]
def ordV : Array Value := #[.string { data := #[48, 49, 50, 51, 52, 53, 54, 55, 56, 57, 97, 98, 99, 100, 101, 102] }, .string { data := #[101, 97, 52, 56, 57, 102, 100, 54, 49, 99, 48, 50, 98, 55, 53, 51] }, .string { data := #[98, 56, 99, 48, 53, 50, 102, 100, 97, 101, 51, 54, 55, 49, 57, 52] }, .string { data := #[55, 57, 51, 49, 100, 99, 98, 101, 50, 54, 53, 97, 52, 48, 102, 56] }, .string { data := #[57, 48, 53, 55, 50, 52, 97, 102, 101, 49, 98, 99, 54, 56, 51, 100] }, .string { data := #[50, 99, 54, 97, 48, 98, 56, 51, 52, 100, 55, 53, 102, 101, 49, 57] }, .string { data := #[99, 53, 49, 102, 101, 100, 52, 97, 48, 55, 54, 51, 57, 50, 56, 98] }, .string { data := #[100, 98, 55, 101, 99, 49, 51, 57, 53, 48, 102, 52, 56, 54, 50, 97] }, .string { data := #[54, 102, 101, 57, 98, 51, 48, 56, 99, 50, 100, 55, 49, 52, 97, 53] }, .string { data := #[97, 50, 56, 52, 55, 54, 49, 53, 102, 98, 57, 101, 51, 99, 100, 48] }]
theorem ordV_at : ∀ r < 10, ordV[r]? = some (.string (ordS.getD r .empty)) := by
  intro r hr
  rcases (by omega : r = 0 ∨ r = 1 ∨ r = 2 ∨ r = 3 ∨ r = 4 ∨ r = 5 ∨ r = 6 ∨ r = 7 ∨ r = 8 ∨ r = 9) with rfl | rfl | rfl | rfl | rfl | rfl | rfl | rfl | rfl | rfl <;> rfl
theorem ordV_def : ordV = #[.string { data := #[48, 49, 50, 51, 52, 53, 54, 55, 56, 57, 97, 98, 99, 100, 101, 102] }, .string { data := #[101, 97, 52, 56, 57, 102, 100, 54, 49, 99, 48, 50, 98, 55, 53, 51] }, .string { data := #[98, 56, 99, 48, 53, 50, 102, 100, 97, 101, 51, 54, 55, 49, 57, 52] }, .string { data := #[55, 57, 51, 49, 100, 99, 98, 101, 50, 54, 53, 97, 52, 48, 102, 56] }, .string { data := #[57, 48, 53, 55, 50, 52, 97, 102, 101, 49, 98, 99, 54, 56, 51, 100] }, .string { data := #[50, 99, 54, 97, 48, 98, 56, 51, 52, 100, 55, 53, 102, 101, 49, 57] }, .string { data := #[99, 53, 49, 102, 101, 100, 52, 97, 48, 55, 54, 51, 57, 50, 56, 98] }, .string { data := #[100, 98, 55, 101, 99, 49, 51, 57, 53, 48, 102, 52, 56, 54, 50, 97] }, .string { data := #[54, 102, 101, 57, 98, 51, 48, 56, 99, 50, 100, 55, 49, 52, 97, 53] }, .string { data := #[97, 50, 56, 52, 55, 54, 49, 53, 102, 98, 57, 101, 51, 99, 100, 48] }] := rfl
theorem is_zeros16 : is (zeros 16) = #[.int .i64 0, .int .i64 0, .int .i64 0, .int .i64 0, .int .i64 0, .int .i64 0, .int .i64 0, .int .i64 0, .int .i64 0, .int .i64 0, .int .i64 0, .int .i64 0, .int .i64 0, .int .i64 0, .int .i64 0, .int .i64 0] := rfl
def part (r i : Nat) : List Nat := (sigma.getD r []).take i ++ List.replicate (16 - i) 0
theorem part_next : ∀ r < 10, ∀ i < 16, (part r i).set i (sg r i) = part r (i + 1) := by decide +kernel
theorem part_len : ∀ r < 10, ∀ i ≤ 16, (part r i).length = 16 := by decide +kernel
theorem part_all : ∀ r < 10, part r 16 = sigma.getD r [] := by decide +kernel
def chr (r i : Nat) : Nat := ((ordS.getD r .empty).data.getD i 0).toNat
theorem chr_what : ∀ r < 10, ∀ i < 16, (97 ≤ chr r i ∧ chr r i < 256 ∧ chr r i - 97 + 10 = sg r i) ∨ (48 ≤ chr r i ∧ chr r i < 97 ∧ chr r i - 48 = sg r i) := by decide +kernel
theorem ord_size : ∀ r < 10, (ordS.getD r .empty).size = 16 := by decide +kernel

set_option maxHeartbeats 4000000 in
theorem order_any (r : Nat) (hr : r < 10) (w : World) : Calls Tryd.prog 35 #[.int .i64 r] w fun e w' => e = .returned (.agg (is (sigma.getD r []))) ∧ Below w.heap.size w w' := by
  go_enter Tryd.func35, Tryd.ntmps35
  go_wp2_with fail
  have CE := ((cells_new w 69 (is (zeros 16))).alloc (.cells ordV 81)).alloc (.cells (is (zeros 16)) 69)
  have CT := (cells_new (w.alloc (.cells (is (zeros 16)) 69)) 81 ordV).alloc (.cells (is (zeros 16)) 69)
  have CO := cells_new ((w.alloc (.cells (is (zeros 16)) 69)).alloc (.cells ordV 81)) 69 (is (zeros 16))
  have B0 := (((Below.refl w.heap.size w).alloc (Nat.le_refl _) (.cells (is (zeros 16)) 69)).alloc (by simp) (.cells ordV 81)).alloc (by simp; omega) (.cells (is (zeros 16)) 69)
  rw [show (w.alloc (.cells (is (zeros 16)) 69)).heap.size = w.heap.size + 1 by simp] at CT
  rw [show ((w.alloc (.cells (is (zeros 16)) 69)).alloc (.cells ordV 81)).heap.size = w.heap.size + 1 + 1 by simp] at CO
  obtain ⟨w0, hw0⟩ : ∃ w0, w0 = ((w.alloc (.cells (is (zeros 16)) 69)).alloc (.cells ordV 81)).alloc (.cells (is (zeros 16)) 69) := ⟨_, rfl⟩
  rw [← hw0] at CE CT CO B0
  rw [← is_zeros16, ← ordV_def, ← hw0]
  obtain ⟨E, hE⟩ : ∃ E, E = w.heap.size := ⟨_, rfl⟩
  obtain ⟨T, hT⟩ : ∃ E, E = w.heap.size + 1 := ⟨_, rfl⟩
  obtain ⟨O, hO⟩ : ∃ E, E = w.heap.size + 1 + 1 := ⟨_, rfl⟩
  rw [← hE] at CE B0
  rw [← hT] at CT
  rw [← hO] at CO
  rw [← hO, ← hT, ← hE]
  have HW := Lib.hid (And.intro CE (And.intro CT (And.intro B0 (And.intro hE (And.intro hT hO)))))
  clear CE CT B0 hE hT hO hw0
  have hr1 : (0 : Int) ≤ r ∧ (r : Int) < 10 := by omega
  obtain ⟨hr1, hr2⟩ := hr1
  go_loopw [5] (fun i wr => ∃ k : Nat, k ≤ 16 ∧ i = .int .i64 k ∧ Cells wr O 69 (is (part r k)) ∧ Only O w0 wr) (fun i _ => 16 - (intOf i).toNat)
  case atStart => exact ⟨0, Nat.zero_le _, rfl, CO, Only.refl _ _⟩
  case round =>
    obtain ⟨k, hk, rfl, CR, OR⟩ := hrel
    clear CO
    have HR := Lib.hid (And.intro CR OR)
    clear CR OR
    by_cases hlt : k < 16
    · have cT := (HW.out.2.1.other HR.out.2 (by have := HW.out.2.2.2.2; omega)).cell r _ (ordV_at r hr)
      have hsz := ord_size r hr
      have hch := chr_what r hr k hlt
      obtain ⟨S, hS⟩ : ∃ S, S = ordS.getD r .empty := ⟨_, rfl⟩
      rw [← hS] at cT hsz
      have hkS : k < S.size := by omega
      obtain ⟨cb, hcb⟩ : ∃ cb, S[k]'hkS = cb := ⟨_, rfl⟩
      have hcn : cb.toNat = chr r k := by
        rw [← hcb]
        unfold chr
        rw [← hS]
        rw [Array.getD_eq_getD_getElem?]
        have hd : k < S.data.size := hkS
        rw [Array.getElem?_eq_getElem hd]
        rfl
      obtain ⟨c, hc⟩ : ∃ c, c = chr r k := ⟨_, rfl⟩
      rw [← hc] at hch hcn
      have hk1 : (0 : Int) ≤ k ∧ (k : Int) < S.size := by omega
      obtain ⟨hk1, hk2⟩ := hk1
      have hset := part_next r hr k hlt
      obtain ⟨d, hd⟩ : ∃ d, d = sg r k := ⟨_, rfl⟩
      rw [← hd] at hch hset
      have HX := Lib.hid (And.intro hS (And.intro hc (And.intro hset hd)))
      have f1 := HR.out.1.fz k
      have hkc : (wr.cell? ⟨O, k, none⟩).isSome = true := by
        have hsz : k < (is (part r k)).size := by simp [is, part_len r hr k hk]; exact hlt
        rw [HR.out.1.cell k _ (Array.getElem?_eq_getElem hsz)]; rfl
      obtain ⟨u, hu⟩ := Option.isSome_iff_exists.1 hkc
      clear hS hc hset hd hkc
      have nxt : Cells (wr.setCell ⟨O, k, none⟩ (.int .i64 d)) O 69 (is (part r (k + 1))) ∧ Only O w0 (wr.setCell ⟨O, k, none⟩ (.int .i64 d)) := by
        have h := HR.out.1.set k (.int .i64 d)
        rw [show (is (part r k)).setIfInBounds k (.int .i64 d) = is (part r (k + 1)) by rw [← HX.out.2.2.1]; simp [is, List.map_set]] at h
        exact ⟨h, HR.out.2.setCell _ _⟩
      have NX := Lib.hid nxt
      clear nxt
      rcases hch with ⟨g1, g2, g3⟩ | ⟨g1, g2, g3⟩
      · have g4 : (97 : Int) ≤ c := by omega
        have e1 : IntKind.u8.wrap ((c : Int) - 97) = (c : Int) - 97 := IntWalk.u8_in _ (by omega)
        have e2 : (c : Int) - 97 + 10 = d := by omega
        have e3 : ((c : Int) - 97 + 10 : Int) = d := e2
        have e5 : wrap64 (wrap64 ((c : Int) - 97) + 10) = d := by unfold wrap64; omega
        have E5 := Lib.hid e5
        clear g1 g2 g3 e5
        go_wp2_with fail
        rw [E5.out]
        go_roundw
        case rel => exact ⟨k + 1, by omega, by go_num, NX.out.1, NX.out.2⟩
        case measure => simp [intOf]; omega
      · have g4 : ¬ (97 : Int) ≤ c := by omega
        have e1 : IntKind.u8.wrap ((c : Int) - 48) = (c : Int) - 48 := IntWalk.u8_in _ (by omega)
        have e2 : (c : Int) - 48 = d := by omega
        clear g1 g2 g3
        go_wp2_with fail
        go_roundw
        case rel => exact ⟨k + 1, by omega, by go_num, NX.out.1, NX.out.2⟩
        case measure => simp [intOf]; omega
    · obtain rfl : k = 16 := by omega
      obtain ⟨w1, rfl⟩ : ∃ w1 : World, w1 = wr := ⟨_, rfl⟩
      have hEO : E ≠ O := by have := HW.out.2.2.2; omega
      have CE1 := HW.out.1.other HR.out.2 hEO
      have HP := Lib.hid (show part r 16 = sigma.getD r [] from part_all r hr)
      have CO1 := HR.out.1
      rw [HP.out] at CO1
      have hl1 : (is (sigma.getD r [])).size = 16 := by rw [← HP.out]; simp [is, part_len r hr 16 (Nat.le_refl _)]
      have hone : (is (sigma.getD r [])).all (·.oneCell') = true := by
        rw [Array.all_eq_true_iff_forall_mem]
        intro x hx
        simp only [is, List.mem_toArray, List.mem_map] at hx
        obtain ⟨n, _, rfl⟩ := hx
        rfl
      have CR := CE1.setRow (is (sigma.getD r []))
      have BB := (HW.out.2.2.1.trans (HR.out.2.below (B := E) (by have := HW.out.2.2.2; omega) (by have := HW.out.2.2.1.size; have := HW.out.2.2.2; omega))).trans ((Only.setRow E w1 (is (sigma.getD r []))).below (Nat.le_refl _) (by have := CE1.size_lt; omega))
      have HC := Lib.hid (And.intro CE1 (And.intro CO1 (And.intro CR BB)))
      have HO := Lib.hid (And.intro hl1 hone)
      clear CE1 CO1 CR BB hl1 hone hEO
      go_wp2_with (first | (refine wpList_load_cells rfl _ rfl rfl HC.out.2.1 rowTy69 HO.out.1 ?_) | (refine wpList_store_cells rfl _ _ rfl rfl rfl HC.out.1 rowTy69 (by rfl) HO.out.1 HO.out.2 ?_))
      refine bodyPost_ret (results_cells (p := 2) (by kernel_rfl) (by rfl) HC.out.2.2.1 rowTy69 HO.out.1) rfl ⟨rfl, ?_⟩
      rw [← HW.out.2.2.2.1]
      exact HC.out.2.2.2

end Go.Proofs.YtfminodongcelaaDoor
