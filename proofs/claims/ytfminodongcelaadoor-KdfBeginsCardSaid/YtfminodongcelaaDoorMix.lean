/-
  Rows of words as values; the document's mixing.
-/
import Derived.Test.YtfminodongcelaaDoorRow
import Derived.Deep.WholeRow
set_option linter.unusedVariables false
namespace Go.Proofs.YtfminodongcelaaDoor
open Go.RowKit

/-- What is asked of a type of n words (or of n of another kind of integer). -/
structure RowTy (t n : Nat) : Prop where
  under : ∃ e, Tryd.prog.underlying t = some (.array n e)
  size : (Tryd.prog.info? t).map (·.size) = some n
theorem rowTy68 : RowTy 68 16 := ⟨⟨37, by kernel_rfl⟩, by kernel_rfl⟩
theorem rowTy38 : RowTy 38 8 := ⟨⟨37, by kernel_rfl⟩, by kernel_rfl⟩
theorem ws_size (v : List Nat) : (ws v).size = v.length := by simp [ws]
theorem ws_one (v : List Nat) : (ws v).all (·.oneCell') = true := by
  rw [Array.all_eq_true_iff_forall_mem]
  intro x hx
  simp only [ws, List.mem_toArray, List.mem_map] at hx
  obtain ⟨n, _, rfl⟩ := hx
  rfl
namespace Row
variable {w : World} {b n t : Nat} {v : List Nat}
theorem loadVar (h : Row w b t n v) (ht : RowTy t n) : (Go.loadVar t ⟨b, 0, none⟩).run Tryd.prog w = .ok (.agg (ws v)) w := by
  obtain ⟨⟨e, hu⟩, hs⟩ := ht
  exact run_loadVar_row w b t t (ws v) (0, 0) _ h.block hu rfl (by rw [hs, ws_size, h.len])
theorem load (h : Row w b t n v) (ht : RowTy t n) : (Instr.loadAt t (.pointer (some ⟨b, 0, none⟩))).run Tryd.prog w = .ok (.agg (ws v)) w := by
  simp only [Instr.loadAt, Instr.sureAddr, Sem.run_bind, Sem.run_pure, Result.andThen]
  exact h.loadVar ht
theorem store (h : Row w b t n v) (ht : RowTy t n) (u : List Nat) (hu : u.length = n) : (Instr.storeAt t (.pointer (some ⟨b, 0, none⟩)) (.agg (ws u))).run Tryd.prog w = .ok () (w.setRow b (ws u)) := by
  simp only [Instr.storeAt, Instr.sureAddr, Sem.run_bind, Sem.run_pure, Result.andThen]
  exact run_storeVar_row w b t t (ws v) (ws u) h.block (by rw [ht.size, ws_size, hu]) (by rw [ws_size, ws_size, h.len, hu]) (ws_one u)
theorem setRow (h : Row w b t n v) (u : List Nat) (hu : u.length = n) (hl : ∀ i, at_ u i < 4294967296) : Row (w.setRow b (ws u)) b t n u := ⟨setRow_heap w b _ _ _ _ h.block, hu, hl⟩
end Row
theorem Only.setRow (b : Nat) (w : World) (cs : Array Value) : Only b w (w.setRow b cs) := ⟨rfl, rfl, rfl, by simp [World.setRow], fun j _ hb => setRow_other w b j cs hb⟩
theorem row_new (w : World) (t n : Nat) (v : List Nat) (hl : v.length = n) (hv : ∀ i, at_ v i < 4294967296) : Row (w.alloc (.cells (ws v) t)) w.heap.size t n v := ⟨heap_alloc_last w _, hl, hv⟩

def zeros (n : Nat) : List Nat := List.replicate n 0
theorem at_zeros (n i : Nat) : at_ (zeros n) i < 4294967296 := by
  unfold at_ zeros
  rw [List.getD_eq_getElem?_getD, List.getElem?_replicate]
  split <;> simp
theorem ws_zeros16 : ws (zeros 16) = #[.int .u32 0, .int .u32 0, .int .u32 0, .int .u32 0, .int .u32 0, .int .u32 0, .int .u32 0, .int .u32 0, .int .u32 0, .int .u32 0, .int .u32 0, .int .u32 0, .int .u32 0, .int .u32 0, .int .u32 0, .int .u32 0] := rfl
theorem ws_zeros8 : ws (zeros 8) = #[.int .u32 0, .int .u32 0, .int .u32 0, .int .u32 0, .int .u32 0, .int .u32 0, .int .u32 0, .int .u32 0] := rfl

theorem wp_load_row {op : Oper} {a : Act} {w : World} {K : Act → World → Prop} {Q : Exit → Act → World → Prop} {b n t : Nat} {v : List Nat} (x : Operand) (ho : op.op = .load t x)
    (hx : a.eval x = .pointer (some ⟨b, 0, none⟩)) (hr : Row w b t n v) (ht : RowTy t n) (h : K (a.put op.dst (.agg (ws v))) w) : op.wp Tryd.prog a w K Q := by
  unfold Oper.wp execOp
  simp only [ho, hx, Instr.loadAt, Instr.sureAddr, Sem.run_bind, Sem.run_pure, Result.andThen_ok, hr.loadVar ht]
  exact h
theorem wpList_load_row {ops : Array Oper} {rest : List Oper} {op : Oper} {a : Act} {w : World} {Q : Exit → Act → World → Prop} {b n t : Nat} {v : List Nat} (hgd : op.guard = none) (x : Operand) (ho : op.op = .load t x)
    (hx : a.eval x = .pointer (some ⟨b, 0, none⟩)) (hr : Row w b t n v) (ht : RowTy t n) (h : wpList Tryd.prog ops Q rest (a.put op.dst (.agg (ws v))) w) : wpList Tryd.prog ops Q (op :: rest) a w :=
  wpList_plain hgd fun _ hK => wp_load_row x ho hx hr ht (hK _ _ h)
theorem wp_store_row {op : Oper} {a : Act} {w : World} {K : Act → World → Prop} {Q : Exit → Act → World → Prop} {b n t : Nat} {v u : List Nat} (x y : Operand) (ho : op.op = .store t x y)
    (hx : a.eval x = .pointer (some ⟨b, 0, none⟩)) (hy : a.eval y = .agg (ws u)) (hr : Row w b t n v) (ht : RowTy t n) (hu : u.length = n) (h : K (a.put op.dst undef) (w.setRow b (ws u))) : op.wp Tryd.prog a w K Q := by
  have hs := run_storeVar_row (P := Tryd.prog) w b t t (ws v) (ws u) hr.block (by rw [ht.size, ws_size, hu]) (by rw [ws_size, ws_size, hr.len, hu]) (ws_one u)
  unfold Oper.wp execOp
  simp only [ho, hx, hy, Instr.storeAt, Instr.sureAddr, Sem.run_bind, Sem.run_pure, Result.andThen_ok, hs]
  exact h
theorem wpList_store_row {ops : Array Oper} {rest : List Oper} {op : Oper} {a : Act} {w : World} {Q : Exit → Act → World → Prop} {b n t : Nat} {v u : List Nat} (hgd : op.guard = none) (x y : Operand) (ho : op.op = .store t x y)
    (hx : a.eval x = .pointer (some ⟨b, 0, none⟩)) (hy : a.eval y = .agg (ws u)) (hr : Row w b t n v) (ht : RowTy t n) (hu : u.length = n) (h : wpList Tryd.prog ops Q rest (a.put op.dst undef) (w.setRow b (ws u))) : wpList Tryd.prog ops Q (op :: rest) a w :=
  wpList_plain hgd fun _ hK => wp_store_row x y ho hx hy hr ht hu (hK _ _ h)
theorem results_cell {fn : Func} {p : Tmp} {ty : TypeId} (h : fn.results = #[.cell p ty]) (tmps : Array Value) (P : Program) (w : World) :
    (results fn tmps).run P w = ((asAddr (tmps.getD p undef)).run P w).andThen fun a w₁ => (loadVar ty a).run P w₁ := by
  simp only [results, h]
  simp [Sem.run_bind, Result.andThen]
theorem results_row {fn : Func} {p : Tmp} {tmps : Array Value} {w : World} {b n t : Nat} {v : List Nat} (h : fn.results = #[.cell p t]) (hp : tmps.getD p undef = .pointer (some ⟨b, 0, none⟩)) (hr : Row w b t n v) (ht : RowTy t n) :
    (results fn tmps).run Tryd.prog w = .ok (.agg (ws v)) w := by
  rw [results_cell h, hp]
  simp only [asAddr, Sem.run_pure, Result.andThen_ok]
  exact hr.loadVar ht

set_option maxHeartbeats 8000000 in
theorem mixr_any {w : World} {v : List Nat} (a b c d x y : Nat) (hl : v.length = 16) (hv : ∀ i, at_ v i < 4294967296) (ha : a < 16) (hb : b < 16) (hc : c < 16) (hd : d < 16) :
    Calls Tryd.prog 36 #[.agg (ws v), .int .i64 a, .int .i64 b, .int .i64 c, .int .i64 d, .int .u32 x, .int .u32 y] w fun e w' => e = .returned (.agg (ws (mixL v a b c d x y))) ∧ Below w.heap.size w w' := by
  have b1 : (0 : Int) ≤ a ∧ (a : Int) < 16 := by omega
  have b2 : (0 : Int) ≤ b ∧ (b : Int) < 16 := by omega
  have b3 : (0 : Int) ≤ c ∧ (c : Int) < 16 := by omega
  have b4 : (0 : Int) ≤ d ∧ (d : Int) < 16 := by omega
  obtain ⟨b1, b1'⟩ := b1
  obtain ⟨b2, b2'⟩ := b2
  obtain ⟨b3, b3'⟩ := b3
  obtain ⟨b4, b4'⟩ := b4
  have HV := Lib.hid hv
  have HL := Lib.hid hl
  clear hv hl
  go_enter Tryd.func36, Tryd.ntmps36
  go_wp2_with fail
  rw [← ws_zeros16]
  have R0 := (row_new w 68 16 v HL.out HV.out).alloc (.cells (ws (zeros 16)) 68)
  have RE := row_new (w.alloc (.cells (ws v) 68)) 68 16 (zeros 16) (by rfl) (at_zeros 16)
  have B0 : Below w.heap.size w ((w.alloc (.cells (ws v) 68)).alloc (.cells (ws (zeros 16)) 68)) := ((Below.refl _ _).alloc (Nat.le_refl _) _).alloc (by simp) _
  obtain ⟨B, hB⟩ : ∃ B, B = w.heap.size := ⟨_, rfl⟩
  obtain ⟨E, hE⟩ : ∃ E, E = w.heap.size + 1 := ⟨_, rfl⟩
  have hE' : (w.alloc (.cells (ws v) 68)).heap.size = E := by rw [hE]; simp
  obtain ⟨w0, hw0⟩ : ∃ w0, w0 = (w.alloc (.cells (ws v) 68)).alloc (.cells (ws (zeros 16)) 68) := ⟨_, rfl⟩
  rw [hE'] at RE
  rw [← hw0] at R0 RE B0 ⊢
  rw [← hB] at R0 ⊢
  rw [hB, ← hE, ← hB]
  have hBE : E ≠ B := by omega
  have hEw : w.heap.size ≤ E := by omega
  have HE := Lib.hid (And.intro RE (And.intro hBE (And.intro B0 hB)))
  have HEw := Lib.hid hEw
  clear hEw
  have HB := Lib.hid (And.intro R0 (Only.refl B w0))
  clear hB hE hE' hw0 R0 RE B0 hBE
  have ca := HB.out.1.cell a ha
  have cb := HB.out.1.cell b hb
  have f1 := HB.out.1.drew.fz a
  have lA := HB.out.1.lt a
  have lB := HB.out.1.lt b
  obtain ⟨A1, hA⟩ : ∃ A, A = at_ v a := ⟨_, rfl⟩
  obtain ⟨D1, hD⟩ : ∃ A, A = at_ v b := ⟨_, rfl⟩
  rw [← hA] at ca lA
  rw [← hD] at cb lB
  obtain ⟨S1, hS⟩ : ∃ S, S = add32 (add32 A1 D1) x := ⟨_, rfl⟩
  have e1 := add_sum' A1 D1 x
  rw [← hS] at e1
  have lS : S1 < 4294967296 := by rw [hS]; exact add32_lt _ _
  have KK := Lib.hid (And.intro hA (And.intro hD hS))
  have KS := Lib.hid lS
  clear hA hD hS lA lB lS
  go_still_tail 11, (by kernel_rfl)
  go_wp2_with fail
  rw [e1]
  obtain ⟨w1, hw2⟩ : ∃ uu, uu = (w0.setCell ⟨B, a, none⟩ (.int .u32 S1)).drew := ⟨_, rfl⟩
  rw [← hw2]
  have R2 := (HB.out.1.set a S1 ha KS.out).drew
  have O2 := (HB.out.2.setCell a (.int .u32 S1)).drew
  rw [← hw2] at R2 O2
  obtain ⟨v1, hv2⟩ : ∃ uu, uu = v.set a S1 := ⟨_, rfl⟩
  rw [← hv2] at R2
  rw [KK.out.2.2, KK.out.1, KK.out.2.1] at hv2
  have HB1 := Lib.hid (And.intro R2 O2)
  have V1 := Lib.hid hv2
  clear hw2 R2 O2 hv2 ca cb f1 KK KS e1
  have ca := HB1.out.1.cell d hd
  have cb := HB1.out.1.cell a ha
  have f1 := HB1.out.1.drew.fz d
  have lA := HB1.out.1.lt d
  have lB := HB1.out.1.lt a
  obtain ⟨A2, hA⟩ : ∃ A, A = at_ v1 d := ⟨_, rfl⟩
  obtain ⟨D2, hD⟩ : ∃ A, A = at_ v1 a := ⟨_, rfl⟩
  rw [← hA] at ca lA
  rw [← hD] at cb lB
  obtain ⟨X2, hX⟩ : ∃ X, X = A2 ^^^ D2 := ⟨_, rfl⟩
  have lX : X2 < 4294967296 := by rw [hX]; exact xor32_lt _ _ lA lB
  have e2 := u32_xor_nat A2 D2 lA lB
  rw [← hX] at e2
  obtain ⟨S2, hS⟩ : ∃ S, S = rotr X2 16 := ⟨_, rfl⟩
  have lS : S2 < 4294967296 := by rw [hS]; exact rotr_lt _ _ lX
  rw [hX] at hS
  have KK := Lib.hid (And.intro hA (And.intro hD hS))
  have KS := Lib.hid lS
  have KX := Lib.hid (And.intro lX hX)
  clear hA hD hS lA lB lS lX hX
  go_still_tail 10, (by kernel_rfl)
  still_call (turn_any X2 16 _ KX.out.1 (by simp))
  rw [show rotr X2 16 = S2 by rw [KX.out.2]; exact KK.out.2.2.symm]
  repeat still_step
  refine wpStill_nil ?_
  go_wp2_with fail
  obtain ⟨w2, hw2⟩ : ∃ uu, uu = (w1.setCell ⟨B, d, none⟩ (.int .u32 S2)).drew := ⟨_, rfl⟩
  rw [← hw2]
  have R2 := (HB1.out.1.set d S2 hd KS.out).drew
  have O2 := (HB1.out.2.setCell d (.int .u32 S2)).drew
  rw [← hw2] at R2 O2
  obtain ⟨v2, hv2⟩ : ∃ uu, uu = v1.set d S2 := ⟨_, rfl⟩
  rw [← hv2] at R2
  rw [KK.out.2.2, KK.out.1, KK.out.2.1] at hv2
  have HB2 := Lib.hid (And.intro R2 O2)
  have V2 := Lib.hid hv2
  clear hw2 R2 O2 hv2 ca cb f1 KK KS KX e2
  have ca := HB2.out.1.cell c hc
  have cb := HB2.out.1.cell d hd
  have f1 := HB2.out.1.drew.fz c
  have lA := HB2.out.1.lt c
  have lB := HB2.out.1.lt d
  obtain ⟨A3, hA⟩ : ∃ A, A = at_ v2 c := ⟨_, rfl⟩
  obtain ⟨D3, hD⟩ : ∃ A, A = at_ v2 d := ⟨_, rfl⟩
  rw [← hA] at ca lA
  rw [← hD] at cb lB
  obtain ⟨S3, hS⟩ : ∃ S, S = add32 A3 D3 := ⟨_, rfl⟩
  have e1 := add_two A3 D3
  rw [← hS] at e1
  have lS : S3 < 4294967296 := by rw [hS]; exact add32_lt _ _
  have KK := Lib.hid (And.intro hA (And.intro hD hS))
  have KS := Lib.hid lS
  clear hA hD hS lA lB lS
  go_still_tail 9, (by kernel_rfl)
  go_wp2_with fail
  rw [e1]
  obtain ⟨w3, hw2⟩ : ∃ uu, uu = (w2.setCell ⟨B, c, none⟩ (.int .u32 S3)).drew := ⟨_, rfl⟩
  rw [← hw2]
  have R2 := (HB2.out.1.set c S3 hc KS.out).drew
  have O2 := (HB2.out.2.setCell c (.int .u32 S3)).drew
  rw [← hw2] at R2 O2
  obtain ⟨v3, hv2⟩ : ∃ uu, uu = v2.set c S3 := ⟨_, rfl⟩
  rw [← hv2] at R2
  rw [KK.out.2.2, KK.out.1, KK.out.2.1] at hv2
  have HB3 := Lib.hid (And.intro R2 O2)
  have V3 := Lib.hid hv2
  clear hw2 R2 O2 hv2 ca cb f1 KK KS e1
  have ca := HB3.out.1.cell b hb
  have cb := HB3.out.1.cell c hc
  have f1 := HB3.out.1.drew.fz b
  have lA := HB3.out.1.lt b
  have lB := HB3.out.1.lt c
  obtain ⟨A4, hA⟩ : ∃ A, A = at_ v3 b := ⟨_, rfl⟩
  obtain ⟨D4, hD⟩ : ∃ A, A = at_ v3 c := ⟨_, rfl⟩
  rw [← hA] at ca lA
  rw [← hD] at cb lB
  obtain ⟨X4, hX⟩ : ∃ X, X = A4 ^^^ D4 := ⟨_, rfl⟩
  have lX : X4 < 4294967296 := by rw [hX]; exact xor32_lt _ _ lA lB
  have e2 := u32_xor_nat A4 D4 lA lB
  rw [← hX] at e2
  obtain ⟨S4, hS⟩ : ∃ S, S = rotr X4 12 := ⟨_, rfl⟩
  have lS : S4 < 4294967296 := by rw [hS]; exact rotr_lt _ _ lX
  rw [hX] at hS
  have KK := Lib.hid (And.intro hA (And.intro hD hS))
  have KS := Lib.hid lS
  have KX := Lib.hid (And.intro lX hX)
  clear hA hD hS lA lB lS lX hX
  go_still_tail 10, (by kernel_rfl)
  still_call (turn_any X4 12 _ KX.out.1 (by simp))
  rw [show rotr X4 12 = S4 by rw [KX.out.2]; exact KK.out.2.2.symm]
  repeat still_step
  refine wpStill_nil ?_
  go_wp2_with fail
  obtain ⟨w4, hw2⟩ : ∃ uu, uu = (w3.setCell ⟨B, b, none⟩ (.int .u32 S4)).drew := ⟨_, rfl⟩
  rw [← hw2]
  have R2 := (HB3.out.1.set b S4 hb KS.out).drew
  have O2 := (HB3.out.2.setCell b (.int .u32 S4)).drew
  rw [← hw2] at R2 O2
  obtain ⟨v4, hv2⟩ : ∃ uu, uu = v3.set b S4 := ⟨_, rfl⟩
  rw [← hv2] at R2
  rw [KK.out.2.2, KK.out.1, KK.out.2.1] at hv2
  have HB4 := Lib.hid (And.intro R2 O2)
  have V4 := Lib.hid hv2
  clear hw2 R2 O2 hv2 ca cb f1 KK KS KX e2
  have ca := HB4.out.1.cell a ha
  have cb := HB4.out.1.cell b hb
  have f1 := HB4.out.1.drew.fz a
  have lA := HB4.out.1.lt a
  have lB := HB4.out.1.lt b
  obtain ⟨A5, hA⟩ : ∃ A, A = at_ v4 a := ⟨_, rfl⟩
  obtain ⟨D5, hD⟩ : ∃ A, A = at_ v4 b := ⟨_, rfl⟩
  rw [← hA] at ca lA
  rw [← hD] at cb lB
  obtain ⟨S5, hS⟩ : ∃ S, S = add32 (add32 A5 D5) y := ⟨_, rfl⟩
  have e1 := add_sum' A5 D5 y
  rw [← hS] at e1
  have lS : S5 < 4294967296 := by rw [hS]; exact add32_lt _ _
  have KK := Lib.hid (And.intro hA (And.intro hD hS))
  have KS := Lib.hid lS
  clear hA hD hS lA lB lS
  go_still_tail 11, (by kernel_rfl)
  go_wp2_with fail
  rw [e1]
  obtain ⟨w5, hw2⟩ : ∃ uu, uu = (w4.setCell ⟨B, a, none⟩ (.int .u32 S5)).drew := ⟨_, rfl⟩
  rw [← hw2]
  have R2 := (HB4.out.1.set a S5 ha KS.out).drew
  have O2 := (HB4.out.2.setCell a (.int .u32 S5)).drew
  rw [← hw2] at R2 O2
  obtain ⟨v5, hv2⟩ : ∃ uu, uu = v4.set a S5 := ⟨_, rfl⟩
  rw [← hv2] at R2
  rw [KK.out.2.2, KK.out.1, KK.out.2.1] at hv2
  have HB5 := Lib.hid (And.intro R2 O2)
  have V5 := Lib.hid hv2
  clear hw2 R2 O2 hv2 ca cb f1 KK KS e1
  have ca := HB5.out.1.cell d hd
  have cb := HB5.out.1.cell a ha
  have f1 := HB5.out.1.drew.fz d
  have lA := HB5.out.1.lt d
  have lB := HB5.out.1.lt a
  obtain ⟨A6, hA⟩ : ∃ A, A = at_ v5 d := ⟨_, rfl⟩
  obtain ⟨D6, hD⟩ : ∃ A, A = at_ v5 a := ⟨_, rfl⟩
  rw [← hA] at ca lA
  rw [← hD] at cb lB
  obtain ⟨X6, hX⟩ : ∃ X, X = A6 ^^^ D6 := ⟨_, rfl⟩
  have lX : X6 < 4294967296 := by rw [hX]; exact xor32_lt _ _ lA lB
  have e2 := u32_xor_nat A6 D6 lA lB
  rw [← hX] at e2
  obtain ⟨S6, hS⟩ : ∃ S, S = rotr X6 8 := ⟨_, rfl⟩
  have lS : S6 < 4294967296 := by rw [hS]; exact rotr_lt _ _ lX
  rw [hX] at hS
  have KK := Lib.hid (And.intro hA (And.intro hD hS))
  have KS := Lib.hid lS
  have KX := Lib.hid (And.intro lX hX)
  clear hA hD hS lA lB lS lX hX
  go_still_tail 10, (by kernel_rfl)
  still_call (turn_any X6 8 _ KX.out.1 (by simp))
  rw [show rotr X6 8 = S6 by rw [KX.out.2]; exact KK.out.2.2.symm]
  repeat still_step
  refine wpStill_nil ?_
  go_wp2_with fail
  obtain ⟨w6, hw2⟩ : ∃ uu, uu = (w5.setCell ⟨B, d, none⟩ (.int .u32 S6)).drew := ⟨_, rfl⟩
  rw [← hw2]
  have R2 := (HB5.out.1.set d S6 hd KS.out).drew
  have O2 := (HB5.out.2.setCell d (.int .u32 S6)).drew
  rw [← hw2] at R2 O2
  obtain ⟨v6, hv2⟩ : ∃ uu, uu = v5.set d S6 := ⟨_, rfl⟩
  rw [← hv2] at R2
  rw [KK.out.2.2, KK.out.1, KK.out.2.1] at hv2
  have HB6 := Lib.hid (And.intro R2 O2)
  have V6 := Lib.hid hv2
  clear hw2 R2 O2 hv2 ca cb f1 KK KS KX e2
  have ca := HB6.out.1.cell c hc
  have cb := HB6.out.1.cell d hd
  have f1 := HB6.out.1.drew.fz c
  have lA := HB6.out.1.lt c
  have lB := HB6.out.1.lt d
  obtain ⟨A7, hA⟩ : ∃ A, A = at_ v6 c := ⟨_, rfl⟩
  obtain ⟨D7, hD⟩ : ∃ A, A = at_ v6 d := ⟨_, rfl⟩
  rw [← hA] at ca lA
  rw [← hD] at cb lB
  obtain ⟨S7, hS⟩ : ∃ S, S = add32 A7 D7 := ⟨_, rfl⟩
  have e1 := add_two A7 D7
  rw [← hS] at e1
  have lS : S7 < 4294967296 := by rw [hS]; exact add32_lt _ _
  have KK := Lib.hid (And.intro hA (And.intro hD hS))
  have KS := Lib.hid lS
  clear hA hD hS lA lB lS
  go_still_tail 9, (by kernel_rfl)
  go_wp2_with fail
  rw [e1]
  obtain ⟨w7, hw2⟩ : ∃ uu, uu = (w6.setCell ⟨B, c, none⟩ (.int .u32 S7)).drew := ⟨_, rfl⟩
  rw [← hw2]
  have R2 := (HB6.out.1.set c S7 hc KS.out).drew
  have O2 := (HB6.out.2.setCell c (.int .u32 S7)).drew
  rw [← hw2] at R2 O2
  obtain ⟨v7, hv2⟩ : ∃ uu, uu = v6.set c S7 := ⟨_, rfl⟩
  rw [← hv2] at R2
  rw [KK.out.2.2, KK.out.1, KK.out.2.1] at hv2
  have HB7 := Lib.hid (And.intro R2 O2)
  have V7 := Lib.hid hv2
  clear hw2 R2 O2 hv2 ca cb f1 KK KS e1
  have ca := HB7.out.1.cell b hb
  have cb := HB7.out.1.cell c hc
  have f1 := HB7.out.1.drew.fz b
  have lA := HB7.out.1.lt b
  have lB := HB7.out.1.lt c
  obtain ⟨A8, hA⟩ : ∃ A, A = at_ v7 b := ⟨_, rfl⟩
  obtain ⟨D8, hD⟩ : ∃ A, A = at_ v7 c := ⟨_, rfl⟩
  rw [← hA] at ca lA
  rw [← hD] at cb lB
  obtain ⟨X8, hX⟩ : ∃ X, X = A8 ^^^ D8 := ⟨_, rfl⟩
  have lX : X8 < 4294967296 := by rw [hX]; exact xor32_lt _ _ lA lB
  have e2 := u32_xor_nat A8 D8 lA lB
  rw [← hX] at e2
  obtain ⟨S8, hS⟩ : ∃ S, S = rotr X8 7 := ⟨_, rfl⟩
  have lS : S8 < 4294967296 := by rw [hS]; exact rotr_lt _ _ lX
  rw [hX] at hS
  have KK := Lib.hid (And.intro hA (And.intro hD hS))
  have KS := Lib.hid lS
  have KX := Lib.hid (And.intro lX hX)
  clear hA hD hS lA lB lS lX hX
  go_still_tail 10, (by kernel_rfl)
  still_call (turn_any X8 7 _ KX.out.1 (by simp))
  rw [show rotr X8 7 = S8 by rw [KX.out.2]; exact KK.out.2.2.symm]
  repeat still_step
  refine wpStill_nil ?_
  have R2 := (HB7.out.1.set b S8 hb KS.out).drew
  have O2 := (HB7.out.2.setCell b (.int .u32 S8)).drew
  have RE8 := HE.out.1.other O2 HE.out.2.1
  have RF := RE8.setRow (v7.set b S8) R2.len R2.lt
  have OF := O2.below (B := w.heap.size) (by rw [HE.out.2.2.2]; exact Nat.le_refl _) HE.out.2.2.1.size
  have HR2 := Lib.hid R2
  have HRE := Lib.hid RE8
  have HRF := Lib.hid RF
  have HOF := Lib.hid OF
  clear R2 O2 RE8 RF OF
  go_wp2_with (first | (refine wpList_load_row rfl _ rfl rfl HR2.out rowTy68 ?_) | (refine wpList_store_row rfl _ _ rfl rfl rfl HRE.out rowTy68 HR2.out.len ?_))
  refine bodyPost_ret (results_row (p := 14) (by kernel_rfl) (by rfl) HRF.out rowTy68) rfl ⟨?_, ?_⟩
  · have E0 : v7.set b S8 = v7.set b (rotr (at_ v7 b ^^^ at_ v7 c) 7) := by rw [KK.out.2.2, KK.out.1, KK.out.2.1]
    have E1 : v4 = half v a b c d x 16 12 := by rw [V4.out, V3.out, V2.out, V1.out]; rfl
    have E2 : v7.set b S8 = half v4 a b c d y 8 7 := by rw [E0, V7.out, V6.out, V5.out]; rfl
    rw [E2, E1]
    rfl
  · have hs := HOF.out.size
    exact (HE.out.2.2.1.trans HOF.out).trans ((Only.setRow E _ _).below HEw.out (Nat.le_trans HE.out.2.2.1.size hs))

end Go.Proofs.YtfminodongcelaaDoor
