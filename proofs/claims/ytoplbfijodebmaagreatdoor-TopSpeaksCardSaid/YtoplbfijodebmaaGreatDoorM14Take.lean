/-
  The walk.
-/
import Derived.Test.YtoplbfijodebmaaGreatDoorM05Piece
import Derived.Laws.IdiomStrings
import Derived.Deep.MidRow
import Derived.Laws.IdiomCopy
import Derived.Deep.Cut
set_option linter.unusedVariables false
set_option linter.unusedSimpArgs false
set_option maxRecDepth 100000
set_option maxHeartbeats 40000000
namespace Go.Proofs.YtoplbfijodebmaaGreatDoor
open Go.RowKit
def us (v : List Nat) : Array Value := (v.map fun n : Nat => Value.int .u8 (n : Int)).toArray
def ordC : Array Value := #[.int .u8 0, .int .u8 1, .int .u8 2, .int .u8 3, .int .u8 4, .int .u8 5, .int .u8 6, .int .u8 7, .int .u8 8, .int .u8 9, .int .u8 10, .int .u8 11, .int .u8 12, .int .u8 13, .int .u8 14, .int .u8 15, .int .u8 14, .int .u8 10, .int .u8 4, .int .u8 8, .int .u8 9, .int .u8 15, .int .u8 13, .int .u8 6, .int .u8 1, .int .u8 12, .int .u8 0, .int .u8 2, .int .u8 11, .int .u8 7, .int .u8 5, .int .u8 3, .int .u8 11, .int .u8 8, .int .u8 12, .int .u8 0, .int .u8 5, .int .u8 2, .int .u8 15, .int .u8 13, .int .u8 10, .int .u8 14, .int .u8 3, .int .u8 6, .int .u8 7, .int .u8 1, .int .u8 9, .int .u8 4, .int .u8 7, .int .u8 9, .int .u8 3, .int .u8 1, .int .u8 13, .int .u8 12, .int .u8 11, .int .u8 14, .int .u8 2, .int .u8 6, .int .u8 5, .int .u8 10, .int .u8 4, .int .u8 0, .int .u8 15, .int .u8 8, .int .u8 9, .int .u8 0, .int .u8 5, .int .u8 7, .int .u8 2, .int .u8 4, .int .u8 10, .int .u8 15, .int .u8 14, .int .u8 1, .int .u8 11, .int .u8 12, .int .u8 6, .int .u8 8, .int .u8 3, .int .u8 13, .int .u8 2, .int .u8 12, .int .u8 6, .int .u8 10, .int .u8 0, .int .u8 11, .int .u8 8, .int .u8 3, .int .u8 4, .int .u8 13, .int .u8 7, .int .u8 5, .int .u8 15, .int .u8 14, .int .u8 1, .int .u8 9, .int .u8 12, .int .u8 5, .int .u8 1, .int .u8 15, .int .u8 14, .int .u8 13, .int .u8 4, .int .u8 10, .int .u8 0, .int .u8 7, .int .u8 6, .int .u8 3, .int .u8 9, .int .u8 2, .int .u8 8, .int .u8 11, .int .u8 13, .int .u8 11, .int .u8 7, .int .u8 14, .int .u8 12, .int .u8 1, .int .u8 3, .int .u8 9, .int .u8 5, .int .u8 0, .int .u8 15, .int .u8 4, .int .u8 8, .int .u8 6, .int .u8 2, .int .u8 10, .int .u8 6, .int .u8 15, .int .u8 14, .int .u8 9, .int .u8 11, .int .u8 3, .int .u8 0, .int .u8 8, .int .u8 12, .int .u8 2, .int .u8 13, .int .u8 7, .int .u8 1, .int .u8 4, .int .u8 10, .int .u8 5, .int .u8 10, .int .u8 2, .int .u8 8, .int .u8 4, .int .u8 7, .int .u8 6, .int .u8 1, .int .u8 5, .int .u8 15, .int .u8 11, .int .u8 9, .int .u8 14, .int .u8 3, .int .u8 12, .int .u8 13, .int .u8 0]
theorem us_one (v : List Nat) : (us v).all (·.oneCell') = true := by
 rw [Array.all_eq_true_iff_forall_mem]
 intro x hx
 simp only [us, List.mem_toArray, List.mem_map] at hx
 obtain ⟨n, _, rfl⟩ := hx
 rfl
theorem us_at : ∀ r < 10, ∀ i < 16, (us (sigma.getD r []))[i]? = some (.int .u8 (sg r i)) := by
 intro r hr i hi
 have hl : (sigma.getD r []).length = 16 := (by decide +kernel : ∀ r < 10, (sigma.getD r []).length = 16) r hr
 simp [us, sg, List.getD_eq_getElem?_getD]
 have hl2 := hl
 rw [List.getD_eq_getElem?_getD] at hl2
 rw [List.getElem?_eq_getElem (by omega)]
 simp
theorem words_def (p : ByteArray) : pw p 64 = words p := by unfold words; rfl
theorem ix4 (q : Nat) (h : q < 4) : ∃ b1 c1 d1 i1 i2 : Nat, b1 = 4 + q ∧ c1 = 8 + q ∧ d1 = 12 + q ∧ i1 = 2 * q ∧ i2 = 2 * q + 1 ∧
  wrap64 (4 + (q : Int)) = b1 ∧ IntKind.i64.wrap (4 + (q : Int)) = b1 ∧ wrap64 (8 + (q : Int)) = c1 ∧ IntKind.i64.wrap (8 + (q : Int)) = c1 ∧ wrap64 (12 + (q : Int)) = d1 ∧ IntKind.i64.wrap (12 + (q : Int)) = d1 ∧
  wrap64 (2 * (q : Int)) = i1 ∧ IntKind.i64.wrap (2 * (q : Int)) = i1 ∧ wrap64 ((i1 : Int) + 1) = i2 ∧ IntKind.i64.wrap ((i1 : Int) + 1) = i2 ∧
  (0 : Int) ≤ i1 ∧ (i1 : Int) < 16 ∧ (0 : Int) ≤ i2 ∧ (i2 : Int) < 16 ∧ i1 < 16 ∧ i2 < 16 ∧ b1 < 16 ∧ c1 < 16 ∧ d1 < 16 ∧ (0 : Int) ≤ q ∧ (q : Int) < 4 := by
 refine ⟨4 + q, 8 + q, 12 + q, 2 * q, 2 * q + 1, rfl, rfl, rfl, rfl, rfl, (i64w (by omega) (by omega)).1, (i64w (by omega) (by omega)).2, (i64w (by omega) (by omega)).1, (i64w (by omega) (by omega)).2, (i64w (by omega) (by omega)).1, (i64w (by omega) (by omega)).2, (i64w (by omega) (by omega)).1, (i64w (by omega) (by omega)).2, (i64w (by omega) (by omega)).1, (i64w (by omega) (by omega)).2, ?_⟩
 omega
theorem ix4b (q : Nat) (h : q < 4) : ∃ x1 x2 x3 y1 y2 y3 b1 c1 d1 i0 i1 i2 : Nat, b1 = 4 + (q + 1) % 4 ∧ c1 = 8 + (q + 2) % 4 ∧ d1 = 12 + (q + 3) % 4 ∧ i1 = 8 + 2 * q ∧ i2 = 9 + 2 * q ∧ x1 = q + 1 ∧
  (wrap64 ((q : Int) + 1) = x1 ∧ IntKind.i64.wrap ((q : Int) + 1) = x1 ∧ wrap64 ((q : Int) + 2) = x2 ∧ IntKind.i64.wrap ((q : Int) + 2) = x2 ∧ wrap64 ((q : Int) + 3) = x3 ∧ IntKind.i64.wrap ((q : Int) + 3) = x3) ∧
  ((x1 : Int).tmod 4 = y1 ∧ (x1 : Int) % 4 = y1 ∧ (x2 : Int).tmod 4 = y2 ∧ (x2 : Int) % 4 = y2 ∧ (x3 : Int).tmod 4 = y3 ∧ (x3 : Int) % 4 = y3 ∧ IntKind.i64.wrap (y1 : Int) = y1 ∧ IntKind.i64.wrap (y2 : Int) = y2 ∧ IntKind.i64.wrap (y3 : Int) = y3) ∧
  (wrap64 (4 + (y1 : Int)) = b1 ∧ IntKind.i64.wrap (4 + (y1 : Int)) = b1 ∧ wrap64 (8 + (y2 : Int)) = c1 ∧ IntKind.i64.wrap (8 + (y2 : Int)) = c1 ∧ wrap64 (12 + (y3 : Int)) = d1 ∧ IntKind.i64.wrap (12 + (y3 : Int)) = d1) ∧
  (wrap64 (2 * (q : Int)) = i0 ∧ IntKind.i64.wrap (2 * (q : Int)) = i0 ∧ wrap64 (8 + (i0 : Int)) = i1 ∧ IntKind.i64.wrap (8 + (i0 : Int)) = i1 ∧ wrap64 (9 + (i0 : Int)) = i2 ∧ IntKind.i64.wrap (9 + (i0 : Int)) = i2) ∧
  (0 : Int) ≤ i1 ∧ (i1 : Int) < 16 ∧ (0 : Int) ≤ i2 ∧ (i2 : Int) < 16 ∧ i1 < 16 ∧ i2 < 16 ∧ b1 < 16 ∧ c1 < 16 ∧ d1 < 16 ∧ (0 : Int) ≤ q ∧ (q : Int) < 4 := by
 refine ⟨q + 1, q + 2, q + 3, (q + 1) % 4, (q + 2) % 4, (q + 3) % 4, 4 + (q + 1) % 4, 8 + (q + 2) % 4, 12 + (q + 3) % 4, 2 * q, 8 + 2 * q, 9 + 2 * q, rfl, rfl, rfl, rfl, rfl, rfl, ⟨(i64w (by omega) (by omega)).1, (i64w (by omega) (by omega)).2, (i64w (by omega) (by omega)).1, (i64w (by omega) (by omega)).2, (i64w (by omega) (by omega)).1, (i64w (by omega) (by omega)).2⟩,
  ⟨?_, ?_, ?_, ?_, ?_, ?_, (i64w (by omega) (by omega)).2, (i64w (by omega) (by omega)).2, (i64w (by omega) (by omega)).2⟩, ⟨(i64w (by omega) (by omega)).1, (i64w (by omega) (by omega)).2, (i64w (by omega) (by omega)).1, (i64w (by omega) (by omega)).2, (i64w (by omega) (by omega)).1, (i64w (by omega) (by omega)).2⟩,
  ⟨(i64w (by omega) (by omega)).1, (i64w (by omega) (by omega)).2, (i64w (by omega) (by omega)).1, (i64w (by omega) (by omega)).2, (i64w (by omega) (by omega)).1, (i64w (by omega) (by omega)).2⟩, ?_⟩
 ·rw [Int.tmod_eq_emod_of_nonneg (by omega)]; omega
 ·omega
 ·rw [Int.tmod_eq_emod_of_nonneg (by omega)]; omega
 ·omega
 ·rw [Int.tmod_eq_emod_of_nonneg (by omega)]; omega
 ·omega
 omega
theorem q16 {q : Nat} (h : q < 4) : q < 16 := by omega
theorem mixQ_lo (v m : List Nat) (r q : Nat) (h : q < 4) : mixQ v m r q = mixL v q (4 + q) (8 + q) (12 + q) (at_ m (sg r (2 * q))) (at_ m (sg r (2 * q + 1))) := by
 unfold mixQ qa qb qc qd
 rw [if_pos h, if_pos h, if_pos h, Nat.mod_eq_of_lt h]
theorem mixQ_hi (v m : List Nat) (r q : Nat) (h : q < 4) : mixQ v m r (4 + q) = mixL v q (4 + (q + 1) % 4) (8 + (q + 2) % 4) (12 + (q + 3) % 4) (at_ m (sg r (8 + 2 * q))) (at_ m (sg r (9 + 2 * q))) := by
 unfold mixQ qa qb qc qd
 rw [if_neg (by omega), if_neg (by omega), if_neg (by omega), show (4 + q) % 4 = q by omega, show 4 + q - 4 + 1 = q + 1 by omega, show 4 + q - 4 + 2 = q + 2 by omega, show 4 + q - 4 + 3 = q + 3 by omega, show 2 * (4 + q) = 8 + 2 * q by omega, show 8 + 2 * q + 1 = 9 + 2 * q by omega]
theorem pair_cells (w : World) (X Y : Value) : (w.alloc (.cells #[X, Y] 79)).drew.cell? ⟨w.heap.size, 0, none⟩ = some X ∧ (w.alloc (.cells #[X, Y] 79)).drew.cell? ⟨w.heap.size, 1, none⟩ = some Y := by
 have h := heap_alloc_last w (.cells #[X, Y] 79)
 constructor <;> (unfold World.cell?; simp only [World.drew]; rw [h]; rfl)
theorem farB {V B M b ws : Nat} (h : V < B ∧ M < V ∧ ws ≤ M ∧ b < ws) : b ≠ V ∧ ws ≤ V := by omega
theorem measI2 (n k : Nat) (h : k < n) : n - (intOf (.int .i64 ((k + 1 : Nat) : Int))).toNat < n - (intOf (.int .i64 (k : Int))).toNat := by simp [intOf]; omega
theorem us_zeros16 : us (zeros 16) = #[.int .u8 0, .int .u8 0, .int .u8 0, .int .u8 0, .int .u8 0, .int .u8 0, .int .u8 0, .int .u8 0, .int .u8 0, .int .u8 0, .int .u8 0, .int .u8 0, .int .u8 0, .int .u8 0, .int .u8 0, .int .u8 0] := rfl
theorem rowTy75 : RowTy 163 16 := ⟨⟨5, by kernel_rfl⟩, by kernel_rfl⟩
set_option maxRecDepth 10000 in
theorem ordC_size : ordC.toList.length = 160 := rfl
set_option maxRecDepth 10000 in
theorem ordC_part : ∀ r < 10, ordC.extract (r * 16) (r * 16 + 16) = us (sigma.getD r []) := by
 intro r hr
 rcases (by omega : r = 0 ∨ r = 1 ∨ r = 2 ∨ r = 3 ∨ r = 4 ∨ r = 5 ∨ r = 6 ∨ r = 7 ∨ r = 8 ∨ r = 9) with rfl | rfl | rfl | rfl | rfl | rfl | rfl | rfl | rfl | rfl <;> rfl
structure Tab (w : World) : Prop where
 cells : w.rangeAt 0 0 ordC.toList
set_option maxRecDepth 10000 in
theorem Tab.lt {w : World} (h : Tab w) : 0 < w.heap.size := World.block_lt_of_cell? _ _ (h.cells 0 (.int .u8 0) rfl)
theorem Tab.more {w w' : World} (h : Tab w) (hb : Below w.heap.size w w') : Tab w' := ⟨fun j v hv => (hb.cell h.lt).trans (h.cells j v hv)⟩
theorem Tab.other {w w' : World} {b : Nat} (h : Tab w) (hb : Only b w w') (h0 : b ≠ 0) : Tab w' := ⟨fun j v hv => hb.cell (h.cells j v hv) (by omega)⟩
structure Hs (w : World) (b : Nat) (h : List Nat) (size : Int) (rest : Value) (n : Nat) : Prop where
 block : w.heap[b]? = some (.cells (ws h ++ #[.int .i64 size, rest, .int .u64 n]) 193)
 len : h.length = 8
 lt : ∀ i, at_ h i < 4294967296
namespace Hs
variable {w : World} {b n : Nat} {h : List Nat} {size : Int} {rest : Value}
theorem size_lt (s : Hs w b h size rest n) : b < w.heap.size := (Array.getElem?_eq_some_iff.1 s.block).1
theorem keep (s : Hs w b h size rest n) {w' : World} (hb : w'.heap[b]? = w.heap[b]?) : Hs w' b h size rest n := ⟨hb.trans s.block, s.len, s.lt⟩
theorem drew (s : Hs w b h size rest n) : Hs w.drew b h size rest n := s.keep rfl
theorem more (s : Hs w b h size rest n) {w' : World} (hb : Below w.heap.size w w') : Hs w' b h size rest n := s.keep (hb.block b s.size_lt)
theorem other (s : Hs w b h size rest n) {c : Nat} {w' : World} (hf : Only c w w') (hc : b ≠ c) : Hs w' b h size rest n := s.keep (hf.block b s.size_lt hc)
theorem alloc (s : Hs w b h size rest n) (o : Obj) : Hs (w.alloc o) b h size rest n := s.keep (Below.heap_alloc _ _ _ s.size_lt)
theorem cell (s : Hs w b h size rest n) (i : Nat) (hi : i < 8) : w.cell? ⟨b, i, none⟩ = some (.int .u32 (at_ h i)) := by
 have hi' : i < h.length := by rw [s.len]; exact hi
 simp [World.cell?, s.block, ws, at_, List.getElem?_append, hi']
theorem cell8 (s : Hs w b h size rest n) : w.cell? ⟨b, 8, none⟩ = some (.int .i64 size) := by simp [World.cell?, s.block, ws, s.len]
theorem cell9 (s : Hs w b h size rest n) : w.cell? ⟨b, 9, none⟩ = some rest := by simp [World.cell?, s.block, ws, s.len]
theorem cell10 (s : Hs w b h size rest n) : w.cell? ⟨b, 10, none⟩ = some (.int .u64 n) := by simp [World.cell?, s.block, ws, s.len]
theorem fz (s : Hs w b h size rest n) (i : Nat) : w.frozen? ⟨b, i, none⟩ = false := by simp [World.frozen?, s.block]
theorem set (s : Hs w b h size rest n) (i x : Nat) (hi : i < 8) (hx : x < 4294967296) : Hs (w.setCell ⟨b, i, none⟩ (.int .u32 x)) b (h.set i x) size rest n := by
 refine ⟨?_, by rw [List.length_set]; exact s.len, fun j => ?_⟩
 ·have hi' : i < h.length := by rw [s.len]; exact hi
  simp [World.setCell, Array.getElem?_modify, s.block, ws, List.map_set, hi']
 rw [at_set _ _ _ _ (by rw [s.len]; exact hi)]
 split
 ·exact hx
 exact s.lt j
theorem set9 (s : Hs w b h size rest n) (r : Value) : Hs (w.setCell ⟨b, 9, none⟩ r) b h size r n :=
 ⟨by simp [World.setCell, Array.getElem?_modify, s.block, ws, s.len], s.len, s.lt⟩
theorem set10 (s : Hs w b h size rest n) (m : Nat) : Hs (w.setCell ⟨b, 10, none⟩ (.int .u64 m)) b h size rest m :=
 ⟨by simp [World.setCell, Array.getElem?_modify, s.block, ws, s.len], s.len, s.lt⟩
end Hs
theorem Only.fresh {b c : Nat} {w w1 w2 : World} (h : Only b w w1) (k : Only c w1 w2) (hc : w.heap.size ≤ c) : Only b w w2 :=
 ⟨k.os.trans h.os, k.tape.trans h.tape, k.output.trans h.output, Nat.le_trans h.size k.size, fun j hj hb => (k.block j (Nat.lt_of_lt_of_le hj h.size) (by omega)).trans (h.block j hj hb)⟩
theorem Only.calls {b : Nat} {w w1 w2 : World} (h : Only b w w1) (k : Below w1.heap.size w1 w2) : Only b w w2 :=
 h.trans ⟨k.os, k.tape, k.output, k.size, fun j hj _ => k.block j hj⟩
def putAt (v : List Nat) (o : Nat) : List Nat → List Nat
 | [] => v
 | x :: r => putAt (v.set o x) (o + 1) r
theorem Row.setCells {b n : Nat} {t : TypeId} : ∀ (u : List Nat) (w : World) (v : List Nat) (o : Nat), Row w b t n v → o + u.length ≤ n → (∀ i, at_ u i < 4294967296) → Row (w.setCells b o (u.map fun n : Nat => Value.int .u32 (n : Int))) b t n (putAt v o u)
 | [], w, v, o, h, _, _ => h
 | x :: r, w, v, o, h, ho, hu => by
  simp only [mCx, World.setCells, putAt]
  refine Row.setCells r _ _ _ (h.set o x (by simp at ho; omega) (hu 0)) (by simp at ho; omega) (fun i => ?_)
  exact hu (i + 1)
theorem Only.setCells (b : Nat) : ∀ (vs : List Value) (o : Nat) (w : World), Only b w (w.setCells b o vs)
 | [], _, w => Only.refl b w
 | v :: r, o, w => ((Only.refl b w).setCell o v).trans (Only.setCells b r (o + 1) _)
theorem put_both (h : List Nat) (hl : h.length = 8) : putAt (putAt (zeros 16) 0 h) 8 iv = h ++ iv := by
 match h, hl with
 | [a, b, c, d, e, f, g, i], _ => rfl
theorem wpList_copy {ops : Array Oper} {rest : List Oper} {op : Oper} {a : Act} {w : World} {Q : Exit → Act → World → Prop} {b b2 o o2 dl dc sl sc : Nat} (u : List Nat) (hgd : op.guard = none) (s x : Operand)
  (hop : op.op = Op.call { callee := Callee.builtin Builtin.copy, args := #[s, x], argTypes := #[205, 205] }) (hs : a.eval s = .slice (some ⟨b, o, none⟩) dl dc) (hx : a.eval x = .slice (some ⟨b2, o2, none⟩) sl sc)
  (hlen : u.length = Nat.min sl dl) (hsrc : ∀ j, j < u.length → w.cell? ⟨b2, o2 + j, none⟩ = some (.int .u32 (at_ u j)))
  (hc : ∀ j, j < u.length → (w.cell? ⟨b, o + j, none⟩).isSome = true) (hf : ∀ j, j < u.length → w.frozen? ⟨b, o + j, none⟩ = false)
  (h : wpList Tryz.prog ops Q rest (a.put op.dst (goInt u.length)) (w.setCells b o (u.map fun n : Nat => Value.int .u32 (n : Int)))) : wpList Tryz.prog ops Q (op :: rest) a w :=
 wpList_plain hgd fun _ hK => by
  have hrun := run_copy_cells (P := Tryz.prog) w 205 205 op.type 79 b o dl dc ⟨b2, o2, none⟩ sl sc (u.map fun n : Nat => Value.int .u32 (n : Int)) Tryz.underlying205 (by kernel_rfl) (by simpa using hlen)
   (fun j v hv => by
    have hj : j < u.length := by
     have := (List.getElem?_eq_some_iff.1 hv).1
     simpa using this
    rw [Addr.add_mid, hsrc j hj]
    rw [← hv]
    simp [at_, hj])
   (by simpa using hc) (by simpa using hf) (by intro v hv; simp only [List.mem_map] at hv; obtain ⟨n, _, rfl⟩ := hv; rfl)
  unfold Oper.wp execOp
  simp only [hop, resolve, invoke, builtin, Sem.run_bind, Sem.run_pure, Result.andThen_ok, mTx, mCx, mNx, hs, hx, hrun, List.length_map]
  exact hK _ _ h
theorem wpList_load_tab {ops : Array Oper} {rest : List Oper} {op : Oper} {a : Act} {w : World} {Q : Exit → Act → World → Prop} {T : Array Value} (hgd : op.guard = none) (ho : op.op = .load 207 (Operand.global 0)) (hT : Tab w) (he : T = ordC)
  (h : wpList Tryz.prog ops Q rest (a.put op.dst (.agg T)) w) : wpList Tryz.prog ops Q (op :: rest) a w := by
 subst he
 refine wpList_load_mid hgd 207 (Operand.global 0) ho 0 0 rfl ordC.toList (.array 10 163) hT.cells (by kernel_rfl) rfl (by kernel_rfl) ?_
 rw [Array.toArray_toList]
 exact h
theorem run_index_tab (r : Nat) (hr : r < 10) (w : World) : (Instr.index 207 (.agg ordC) (.int .i64 (r : Int))).run Tryz.prog w = .ok (.agg (us (sigma.getD r []))) w := by
  obtain ⟨inf, hinf, hsz⟩ : ∃ inf, Tryz.prog.info? 163 = some inf ∧ inf.size = 16 := by
   have h : (Tryz.prog.info? 163).map (·.size) = some 16 := by kernel_rfl
   cases hq : Tryz.prog.info? 163 with
   | none => simp [hq] at h
   | some i => exact ⟨i, rfl, by simpa [hq] using h⟩
  have hagg : (isAgg 163).run Tryz.prog w = .ok true w := by
   unfold isAgg
   rw [Sem.run_bind, run_underlying (show Tryz.prog.underlying 163 = some (.array 16 5) by kernel_rfl) w]
   rfl
  have hso : (sizeOf 163).run Tryz.prog w = .ok 16 w := by
   simp [sizeOf, typeInfo, hinf, hsz]
  have hb : (0 : Int) ≤ r ∧ (r : Int) < ((10 : Nat) : Int) := by omega
  have hpart : (Go.part 163 ordC ((r : Int).toNat * 16)).run Tryz.prog w = .ok (.agg (us (sigma.getD r []))) w := by
   have := ordC_part r hr
   simp only [Go.part, Sem.run_bind, hagg, Result.andThen_ok, if_true, hso, Sem.run_pure, Int.toNat_natCast, this]
  simp only [Instr.index, asIntOf, Sem.run_bind, Sem.run_pure, Result.andThen_ok, run_underlying (show Tryz.prog.underlying 207 = some (.array 10 163) by kernel_rfl), hb, and_self, if_true, hso, hpart]
theorem take_any {w : World} {b R c n : Nat} {h0 : List Nat} {size : Int} {rest : Value} (p : ByteArray) (last : Bool) (hT : Tab w) (hS : Hs w b h0 size rest n) (hp : ∀ i, i < 64 → w.cell? ⟨R, i, none⟩ = some (.int .u8 (bt p i))) (hn : n < 18446744073709551616) (hb0 : b ≠ 0) :
  Calls Tryz.prog 120 #[.pointer (some ⟨b, 0, none⟩), .slice (some ⟨R, 0, none⟩) 64 c, .bool last] w fun e w' => e = .returned (.tuple #[]) ∧ Hs w' b (compress h0 p n last) size rest n ∧ Only b w w' := by
 have H0 := hDx (And.intro hT (And.intro hS (And.intro hp (And.intro hn hb0))))
 have hRlt := World.block_lt_of_cell? _ _ (hp 0 (by decide))
 have hRs : R < w.heap.size := hRlt
 have HRs := hDx hRs
 clear hT hS hp hn hb0 hRlt hRs
 go_enter Tryz.func120, Tryz.ntmps120
 go_wp2_with fail
 rw [← ws_zeros16]
 have RM := (row_new w 130 16 (zeros 16) (by rfl) (at_zeros 16)).alloc (.cells (ws (zeros 16)) 130)
 have RV := row_new (w.alloc (.cells (ws (zeros 16)) 130)) 130 16 (zeros 16) (by rfl) (at_zeros 16)
 rw [show (w.alloc (.cells (ws (zeros 16)) 130)).heap.size = w.heap.size + 1 by simp] at RV
 have B0 := (((Below.refl w.heap.size w).alloc (Nat.le_refl _) (.cells (ws (zeros 16)) 130)).alloc (by simp) (.cells (ws (zeros 16)) 130))
 have O0 := ((Only.refl b w).alloc (.cells (ws (zeros 16)) 130)).alloc (.cells (ws (zeros 16)) 130)
 obtain ⟨M, hM⟩ := nm w.heap.size
 obtain ⟨V, hV⟩ := nm (w.heap.size + 1)
 obtain ⟨w0, hw0⟩ := nm ((w.alloc (.cells (ws (zeros 16)) 130)).alloc (.cells (ws (zeros 16)) 130))
 rw [← hw0] at RM RV O0 B0
 rw [← hM] at RM
 rw [← hV] at RV
 rw [← hw0, ← hV, ← hM]
 have hsz : w0.heap.size = V + 1 := by rw [hw0, hV]; simp
 have HW := hDx (And.intro RV (And.intro B0 (And.intro O0 (And.intro hM (And.intro hV hsz)))))
 clear RV O0 B0 hM hV hsz hw0
 go_loopw [19] (fun i wr => ∃ k : Nat, k ≤ 64 ∧ i = .int .i64 k ∧ Row wr M 130 16 (pw p k) ∧ Only M w0 wr) (fun i _ => 64 - (intOf i).toNat)
 case atStart => exact ⟨0, Nat.zero_le _, rfl, RM, Only.refl _ _⟩
 case round =>
  obtain ⟨k, hk, rfl, RR, OR⟩ := hrel
  clear RM
  have HR := hDx (And.intro RR OR)
  clear RR OR
  by_cases hlt : k < 64
  ·have g1 : (0 : Int) ≤ k ∧ (k : Int) < 64 := by omega
   obtain ⟨g1, g2⟩ := g1
   have cp := HR.out.2.cell ((HW.out.2.1.cell (p := ⟨R, k, none⟩) HRs.out).trans (H0.out.2.2.1 k hlt)) (by have := HRs.out; have := HW.out.2.2; omega)
   obtain ⟨j, hj⟩ := nm (k / 4)
   have hj16 : j < 16 := by omega
   have q1 : (k : Int).tdiv 4 = j := by rw [hj]; simp [Int.tdiv_eq_ediv_of_nonneg]
   have q2 : (k : Int) / 4 = j := by omega
   have q3 : IntKind.i64.wrap (j : Int) = j := IntWalk.i64_in _ (by omega)
   have q4 : (0 : Int) ≤ j ∧ (j : Int) < 16 := by omega
   obtain ⟨q4, q5⟩ := q4
   obtain ⟨s, hs⟩ := nm (k % 4)
   have hs4 : s < 4 := by omega
   have q6 : (k : Int).tmod 4 = s := by rw [hs]; simp [Int.tmod_eq_emod_of_nonneg]
   have q7 : (k : Int) % 4 = s := by omega
   have cM := HR.out.1.cell j hj16
   have f1 := HR.out.1.fz j
   have lA := HR.out.1.lt j
   obtain ⟨A, hA⟩ := nm (at_ (pw p k) j)
   rw [← hA] at cM lA
   obtain ⟨C, hC⟩ := nm (bt p k)
   rw [← hC] at cp
   have lC : C < 256 := by rw [hC]; exact bt_lt _ _
   have HK := hDx (And.intro hj (And.intro hs (And.intro hA hC)))
   clear hj hs hA hC
   have eS := u32_or_nat A (C * 2 ^ (s * 8) % 4294967296) lA (Nat.mod_lt _ (by decide))
   have eC : ((C * 2 ^ (s * 8) % 4294967296 : Nat) : Int) = (C : Int) * 2 ^ (s * 8) % 4294967296 := by simp
   rw [eC] at eS
   obtain ⟨S, hS⟩ := nm (A ||| (C * 2 ^ (s * 8) % 4294967296))
   have lS : S < 4294967296 := by rw [hS]; exact Nat.or_lt_two_pow (n := 32) lA (Nat.mod_lt _ (by decide))
   rw [← hS] at eS
   have R2 := HR.out.1.set j S hj16 lS
   have O2 := HR.out.2.setCell j (.int .u32 (S : Int))
   have hpe : (pw p k).set j S = pw p (k + 1) := by
    rw [hS, HK.out.2.2.1, HK.out.2.2.2, HK.out.2.1, HK.out.1]
    rfl
   rw [hpe] at R2
   have HX := hDx (And.intro R2 O2)
   clear hS lS R2 O2 hpe eC
   go_wp2_with fail
   go_roundw
   case rel => exact ⟨k + 1, by omega, by go_num, HX.out.1, HX.out.2⟩
   simp [intOf]; omega
  have hk64 : k = 64 := by omega
  have R1 := HR.out.1
  have O1 := HR.out.2
  rw [hk64] at R1
  have hlt2 : ¬ (k : Int) < 64 := by omega
  obtain ⟨w1, rfl⟩ : ∃ uu : World, uu = wr := ⟨_, rfl⟩
  have h1s := O1.size
  have RV1 := HW.out.1.other O1 (by have := HW.out.2.2.2; omega)
  have B1 := HW.out.2.1.trans (O1.below (B := w.heap.size) (by have := HW.out.2.2.2; omega) HW.out.2.1.size)
  have OO1 := HW.out.2.2.1.fresh O1 (by have := HW.out.2.2.2; omega)
  have hMV : M < V ∧ V < w1.heap.size ∧ w.heap.size ≤ M := by have := HW.out.2.2.2; omega
  have H1 := hDx (And.intro R1 (And.intro RV1 (And.intro B1 (And.intro OO1 hMV))))
  clear hk hlt hk64 R1 O1 RV1 B1 OO1 hMV h1s HR HW
  go_wp2_with fail
  refine (first_any w1).mono ?_
  rintro e w3 ⟨rfl, B3⟩
  simp only []
  have RB0 : Row (w3.alloc (.cells #[.int .u32 0, .int .u32 0, .int .u32 0, .int .u32 0, .int .u32 0, .int .u32 0, .int .u32 0, .int .u32 0] 190)) w3.heap.size 190 8 (zeros 8) := row_new w3 190 8 (zeros 8) (by rfl) (at_zeros 8)
  have HB0 := hDx RB0
  have H3 := hDx B3
  clear RB0 B3
  go_wp2_with (refine wpList_store_row rfl _ _ rfl rfl rfl HB0.out rowTy38 iv_len ?_)
  have RB := HB0.out.setRow iv iv_len iv_lt
  have OB : Only w3.heap.size w3 ((w3.alloc (.cells #[.int .u32 0, .int .u32 0, .int .u32 0, .int .u32 0, .int .u32 0, .int .u32 0, .int .u32 0, .int .u32 0] 190)).setRow w3.heap.size (ws iv)) := ((Only.refl _ w3).alloc _).trans (Only.setRow _ _ _)
  obtain ⟨B, hB⟩ := nm w3.heap.size
  rw [← hB] at RB OB
  rw [← hB]
  obtain ⟨w4, hw4⟩ := nm ((w3.alloc (.cells ZRu32x8 190)).setRow B (ws iv))
  rw [← hw4] at RB OB
  rw [← hw4]
  have s3 := H3.out.size
  have hVB : V < B ∧ M < V ∧ w.heap.size ≤ M ∧ b < w.heap.size := by have := H1.out.2.2.2.2; have := H0.out.2.1.size_lt; omega
  have RM4 := (H1.out.1.more H3.out).other OB (by omega)
  have RV4 := (H1.out.2.1.more H3.out).other OB (by omega)
  have B4 := ((H1.out.2.2.1.trans (H3.out.mono (H1.out.2.2.1.size))).trans (OB.below (B := w.heap.size) (by omega) (by have := H1.out.2.2.1.size; omega)))
  have O4 := (H1.out.2.2.2.1.calls H3.out).fresh OB (by have := H1.out.2.2.1.size; omega)
  have HS4 := H0.out.2.1.more B4
  have T4 := H0.out.1.more B4
  have HM := hDx (And.intro RM4 (And.intro RB (And.intro O4 (And.intro HS4 (And.intro T4 hVB)))))
  have HV4 := hDx RV4
  clear RM4 RB O4 HS4 T4 hVB RV4 B4 OB hB hw4 s3 H3 HB0 H1
  have gb := HM.out.2.2.2.1.size_lt
  go_wp2_with fail
  go_still_tail 5, (by kernel_rfl)
  refine wpList_copy h0 rfl _ _ rfl rfl rfl (by rw [HM.out.2.2.2.1.len]; rfl) (fun j hj => by rw [Nat.zero_add]; exact HM.out.2.2.2.1.drew.cell j (by rw [← HM.out.2.2.2.1.len]; exact hj)) (fun j hj => by rw [Nat.zero_add]; exact Option.isSome_iff_exists.2 ⟨_, HV4.out.drew.cell j (by have := HM.out.2.2.2.1.len; omega)⟩) (fun j _ => HV4.out.drew.fz _) ?_
  have R5 := Row.setCells h0 w4.drew (zeros 16) 0 HV4.out.drew (by rw [HM.out.2.2.2.1.len]; decide) HM.out.2.2.2.1.lt
  have O5 := (Only.refl V w4).drew.trans (Only.setCells V (h0.map fun n : Nat => Value.int .u32 (n : Int)) 0 w4.drew)
  obtain ⟨w5, hw5⟩ := nm (w4.drew.setCells V 0 (h0.map fun n : Nat => Value.int .u32 (n : Int)))
  rw [← hw5] at R5 O5
  show wpList _ _ _ _ _ (w4.drew.setCells V 0 (h0.map fun n : Nat => Value.int .u32 (n : Int)))
  rw [← hw5]
  have HV5 := hDx (And.intro R5 O5)
  clear R5 O5 hw5
  go_wp2_with fail
  go_still_tail 2, (by kernel_rfl)
  have RB5 := (HM.out.2.1.other HV5.out.2 (by have := HM.out.2.2.2.2.2; omega)).drew
  have HB5 := hDx RB5
  clear RB5
  refine wpList_copy iv rfl _ _ rfl rfl rfl (by rfl) (fun j hj => by rw [Nat.zero_add]; exact HB5.out.cell j hj) (fun j hj => Option.isSome_iff_exists.2 ⟨_, HV5.out.1.drew.cell (8 + j) (by have : j < 8 := hj; omega)⟩) (fun j _ => HV5.out.1.drew.fz _) ?_
  have R6 := Row.setCells iv w5.drew _ 8 HV5.out.1.drew (by decide) iv_lt
  rw [put_both h0 HM.out.2.2.2.1.len] at R6
  have O6 := HV5.out.2.drew.trans (Only.setCells V (iv.map fun n : Nat => Value.int .u32 (n : Int)) 8 w5.drew)
  obtain ⟨w6, hw6⟩ := nm (w5.drew.setCells V 8 (iv.map fun n : Nat => Value.int .u32 (n : Int)))
  rw [← hw6] at R6 O6
  show wpList _ _ _ _ _ (w5.drew.setCells V 8 (iv.map fun n : Nat => Value.int .u32 (n : Int)))
  rw [← hw6]
  obtain ⟨v0, hv0⟩ := nm (h0 ++ iv)
  rw [← hv0] at R6
  have HV0 := hDx hv0
  have HV6 := hDx (And.intro R6 O6)
  clear hv0 R6 O6 hw6 HB5 HV5 HV4
  have HN := hDx H0.out.2.2.2.1
  -- vA
  have HS6 := (HM.out.2.2.2.1.other HV6.out.2 (by have := HM.out.2.2.2.2.2; omega))
  have cn := HS6.cell10
  have cA := HV6.out.1.cell 12 (by omega)
  have f1 := HV6.out.1.drew.fz 12
  have lA := HV6.out.1.lt 12
  obtain ⟨A, hA⟩ := nm (at_ v0 12)
  rw [← hA] at cA lA
  have tlt : n % 4294967296 < 4294967296 := Nat.mod_lt _ (by decide)
  obtain ⟨S, hS⟩ := nm (A ^^^ n % 4294967296)
  have e1 := u32_xor_nat A (n % 4294967296) lA tlt
  rw [← hS] at e1
  have lS : S < 4294967296 := by rw [hS]; exact xor32_lt _ _ lA tlt
  have e2 : ((n % 4294967296 : Nat) : Int) = (n : Int) % 4294967296 := by omega
  rw [e2] at e1
  have R2 := (HV6.out.1.set 12 S (by omega) lS).drew
  have O2 := (HV6.out.2.setCell 12 (.int .u32 (S : Int))).drew
  obtain ⟨v1, hv1⟩ := nm (v0.set 12 S)
  rw [← hv1] at R2
  rw [hS, hA] at hv1
  have HA := hDx (And.intro R2 (And.intro O2 hv1))
  clear HS6 lA hA tlt hS lS e2 R2 O2 hv1
  go_wp2_with fail
  go_still_tail 9, (by kernel_rfl)
  go_wp2_with fail
  rw [e1]
  obtain ⟨w7, hw7⟩ := nm ((w6.setCell ⟨V, 12, none⟩ (.int .u32 (S : Int))).drew)
  rw [← hw7]
  have hh := HA.out
  rw [← hw7] at hh
  have HA2 := hDx hh
  clear hh hw7 HA cn cA f1 e1
  -- vB
  have HS7 := (HM.out.2.2.2.1.other HA2.out.2.1 (by have := HM.out.2.2.2.2.2; omega))
  have cn := HS7.cell10
  have cB := HA2.out.1.cell 13 (by omega)
  have f2 := HA2.out.1.drew.fz 13
  have lB := HA2.out.1.lt 13
  obtain ⟨A2, hA2⟩ := nm (at_ v1 13)
  rw [← hA2] at cB lB
  have ulb : n / 4294967296 % 4294967296 < 4294967296 := Nat.mod_lt _ (by decide)
  obtain ⟨S2, hS2⟩ := nm (A2 ^^^ n / 4294967296 % 4294967296)
  have e3 := u32_xor_nat A2 (n / 4294967296 % 4294967296) lB ulb
  rw [← hS2] at e3
  have lS2 : S2 < 4294967296 := by rw [hS2]; exact xor32_lt _ _ lB ulb
  have e4 : ((n / 4294967296 % 4294967296 : Nat) : Int) = (n : Int) / 4294967296 % 4294967296 := by omega
  rw [e4] at e3
  have e4' : (n : Int) / 4294967296 % 4294967296 = (n : Int) / 4294967296 := by have := HN.out; omega
  have R3 := (HA2.out.1.set 13 S2 (by omega) lS2).drew
  have O3 := (HA2.out.2.1.setCell 13 (.int .u32 (S2 : Int))).drew
  obtain ⟨v2, hv2⟩ := nm (v1.set 13 S2)
  rw [← hv2] at R3
  rw [hS2, hA2] at hv2
  have HB := hDx (And.intro R3 (And.intro O3 hv2))
  have E4 := hDx e4'
  clear HS7 lB hA2 ulb hS2 lS2 e4 e4' R3 O3 hv2
  go_wp2_with fail
  go_still_tail 10, (by kernel_rfl)
  -- vC
  have cC := HB.out.1.cell 14 (by omega)
  have f3 := HB.out.1.fz 14
  have lC := HB.out.1.lt 14
  obtain ⟨A3, hA3⟩ := nm (at_ v2 14)
  rw [← hA3] at cC lC
  obtain ⟨S3, hS3⟩ : ∃ S, S = 4294967295 ^^^ A3 := ⟨_, rfl⟩
  have lS3 : S3 < 4294967296 := by rw [hS3]; exact xor32_lt _ _ (by decide) lC
  have R4 := HB.out.1.set 14 S3 (by omega) lS3
  have O4 := HB.out.2.1.setCell 14 (.int .u32 (S3 : Int))
  obtain ⟨v3, hv3⟩ := nm (v2.set 14 S3)
  rw [← hv3] at R4
  have e5 : bits .xor .u32 IntKind.u32.max (A3 : Int) = S3 := by rw [hS3]; exact u32_xor_nat 4294967295 A3 (by decide) lC
  rw [hS3, hA3] at hv3
  have HC := hDx (And.intro R4 (And.intro O4 hv3))
  have T3 := hDx (HM.out.2.2.2.2.1.other HB.out.2.1 (by have := HM.out.2.2.2.2.2; omega))
  have T4 := hDx (HM.out.2.2.2.2.1.other O4 (by have := HM.out.2.2.2.2.2; omega))
  obtain ⟨T, hT⟩ := nm ordC
  have HT := hDx hT
  clear hT
  clear lC hA3 hS3 lS3 R4 O4 hv3
  have RF := HB.out.1.of_eq (u := vC h0 n false) (by rw [HB.out.2.2, HA2.out.2.2, HV0.out]; rfl)
  have RT := HC.out.1.of_eq (u := vC h0 n true) (by rw [HC.out.2.2, HB.out.2.2, HA2.out.2.2, HV0.out]; rfl)
  have HFF := hDx (And.intro RF (And.intro HB.out.2.1 T3.out))
  have HTT := hDx (And.intro RT (And.intro HC.out.2.1 T4.out))
  clear RF RT T3 T4 HA2 HB HC HV0 HV6 E4
  go_upto_if 67 with (fail)
  go_cut [] from 68 (fun wc => Row wc V 130 16 (vC h0 n last) ∧ Only V w4 wc ∧ Tab wc)
  case first =>
   cases last
   ·go_wp2_with fail
    go_meet
    first | exact HFF.out | (rw [e3]; exact HFF.out)
   go_wp2_with fail
   go_meet
   first | exact HTT.out | (rw [e3]; exact HTT.out)
  case rest =>
   obtain ⟨R8, O8, T8⟩ := hcut
   have TT := hDx T8
   clear T8 HFF HTT cn cB cC f2 f3 e3 e5
   obtain ⟨vc, hvc⟩ := nm (vC h0 n last)
   rw [← hvc] at R8
   have HVC := hDx hvc
   clear hvc
   go_wp2_with (refine wpList_load_tab rfl rfl TT.out HT.out ?_)
   go_loopw [74] (fun i wr => ∃ r : Nat, r ≤ 10 ∧ i = .int .i64 r ∧ Row wr V 130 16 (rds vc (words p) r) ∧ Only V w4 wr) (fun i _ => 10 - (intOf i).toNat)
   case atStart => exact ⟨0, Nat.zero_le _, rfl, R8, O8⟩
   case round =>
    obtain ⟨r, hr, rfl, RR, OR⟩ := hrel
    clear R8 O8
    have HR := hDx (And.intro RR OR)
    clear RR OR
    by_cases hlt : r < 10
    ·have hr1 := rng10 r hlt
     obtain ⟨hr1, hr2⟩ := hr1
     have IX := fun w => run_index_tab r hlt w
     rw [← HT.out] at IX
     obtain ⟨U, hU⟩ := nm (us (sigma.getD r []))
     rw [← hU] at IX
     have HU := hDx hU
     have hUs : U.size = 16 := by rw [hU]; simp [us]; exact (by decide +kernel : ∀ r < 10, (sigma.getD r []).length = 16) r hlt
     have hU1 : U.all (·.oneCell') = true := by rw [hU]; exact us_one _
     have CO := cells_new wr 163 (us (zeros 16))
     rw [us_zeros16] at CO
     have HO := hDx (And.intro hUs (And.intro hU1 CO))
     clear hU hUs hU1 CO
     go_wp2_with (refine wpList_store_cells rfl _ _ rfl rfl rfl HO.out.2.2 rowTy75 (by rfl) HO.out.1 HO.out.2.1 ?_)
     have CU := HO.out.2.2.setRow U
     have O9 := (HR.out.2.alloc (.cells #[.int .u8 0, .int .u8 0, .int .u8 0, .int .u8 0, .int .u8 0, .int .u8 0, .int .u8 0, .int .u8 0, .int .u8 0, .int .u8 0, .int .u8 0, .int .u8 0, .int .u8 0, .int .u8 0, .int .u8 0, .int .u8 0] 163)).setRowNew HR.out.2.size U
     obtain ⟨O, hO⟩ := nm wr.heap.size
     have hOV : O ≠ V ∧ M ≠ V ∧ V < O := by have := HR.out.2.size; have := HM.out.2.2.2.2.2; have := HM.out.2.1.size_lt; omega
     have RV9 := (HR.out.1.alloc (.cells #[.int .u8 0, .int .u8 0, .int .u8 0, .int .u8 0, .int .u8 0, .int .u8 0, .int .u8 0, .int .u8 0, .int .u8 0, .int .u8 0, .int .u8 0, .int .u8 0, .int .u8 0, .int .u8 0, .int .u8 0, .int .u8 0] 163)).other (Only.setRow wr.heap.size _ U) (by omega)
     rw [← hO] at CU O9 RV9
     rw [← hO]
     obtain ⟨w9, hw9⟩ := nm ((wr.alloc (.cells ZRu8x16 163)).setRow O U)
     rw [← hw9] at CU O9 RV9
     rw [← hw9]
     have RM9 := HM.out.1.other O9 hOV.2.1
     obtain ⟨q0, hq0⟩ := nm (rds vc (words p) r)
     rw [← hq0] at RV9
     rw [HU.out] at CU
     have H9 := hDx (And.intro CU (And.intro RM9 (And.intro O9 (And.intro hq0 hOV))))
     clear CU O9 hO hw9 RM9 hq0 hOV HO HR
     go_loopw [77] (fun i wr => ∃ q : Nat, q ≤ 4 ∧ i = .int .i64 q ∧ Row wr V 130 16 (quads q0 (words p) r q) ∧ Only V w9 wr) (fun i _ => 4 - (intOf i).toNat)
     case atStart => exact ⟨0, Nat.zero_le _, rfl, RV9, Only.refl _ _⟩
     case round =>
      obtain ⟨q, hq, rfl, RR, OR⟩ := hrel
      clear RV9
      have HR := hDx (And.intro RR OR)
      clear RR OR
      by_cases hqt : q < 4
      ·obtain ⟨b1, c1, d1, i1, i2, hb1, hc1, hd1, hi1, hi2, k1, k1', k2, k2', k3, k3', k4, k4', k5, k5', l1, l2, l3, l4, l5, l6, l7, l8, l9, hq1, hq2⟩ := ix4 q hqt
       have HI := hDx (And.intro hb1 (And.intro hc1 (And.intro hd1 (And.intro hi1 hi2))))
       clear hb1 hc1 hd1 hi1 hi2
       obtain ⟨x, hx⟩ := nm (sg r i1)
       obtain ⟨y, hy⟩ := nm (sg r i2)
       have cx := (H9.out.1.other HR.out.2 H9.out.2.2.2.2.1).cell i1 _ (us_at r hlt i1 l5)
       have cy := (H9.out.1.other HR.out.2 H9.out.2.2.2.2.1).cell i2 _ (us_at r hlt i2 l6)
       have lx : x < 16 := by rw [hx]; exact sg_lt r hlt _ l5
       have ly : y < 16 := by rw [hy]; exact sg_lt r hlt _ l6
       rw [← hx] at cx
       rw [← hy] at cy
       have bx := two16 x y lx ly
       obtain ⟨bx, bx', by_, by'⟩ := bx
       have mx := (H9.out.2.1.other HR.out.2 H9.out.2.2.2.2.2.1).cell x lx
       have my := (H9.out.2.1.other HR.out.2 H9.out.2.2.2.2.2.1).cell y ly
       have LX := (H9.out.2.1).lt x
       have LY := (H9.out.2.1).lt y
       obtain ⟨X, hX⟩ := nm (at_ (words p) x)
       obtain ⟨Y, hY⟩ := nm (at_ (words p) y)
       have mx2 := mx
       have my2 := my
       rw [words_def, ← hX] at mx2 LX
       rw [words_def, ← hY] at my2 LY
       rw [hx] at hX
       rw [hy] at hY
       have CR := (HR.out.1.alloc (.cells #[.int .u32 (X : Int), .int .u32 (Y : Int)] 79)).drew
       have CC := pair_cells wr (.int .u32 (X : Int)) (.int .u32 (Y : Int))
       have hne : wr.heap.size ≠ V := Nat.ne_of_gt HR.out.1.size_lt
       have hqe : mixL (quads q0 (words p) r q) q b1 c1 d1 X Y = quads q0 (words p) r (q + 1) := by
        rw [hX, hY, HI.out.1, HI.out.2.1, HI.out.2.2.1, HI.out.2.2.2.1, HI.out.2.2.2.2]
        exact (mixQ_lo (quads q0 (words p) r q) (words p) r q hqt).symm
       have KX := hDx (And.intro CR (And.intro CC (And.intro hne (And.intro LX (And.intro LY (And.intro (q16 hqt) (And.intro l7 (And.intro l8 l9))))))))
       have KE := hDx hqe
       have KS := hDx (And.intro cx (And.intro mx2 (And.intro cy my2)))
       have KW := hDx (((Only.refl V wr).alloc (.cells #[.int .u32 (X : Int), .int .u32 (Y : Int)] 79)).drew)
       have OC := hDx ((HR.out.2.alloc (.cells #[.int .u32 (X : Int), .int .u32 (Y : Int)] 79)).drew)
       clear hx hy hX hY lx ly LX LY mx my CR CC hne hqe l5 l6 l7 l8 l9
       go_wp2_with fail
       go_region_held3 (fun w' => w'.cell? ⟨O, i1, none⟩ = some (.int .u8 x) ∧ w'.cell? ⟨M, x, none⟩ = some (.int .u32 X) ∧ w'.cell? ⟨O, i2, none⟩ = some (.int .u8 y) ∧ w'.cell? ⟨M, y, none⟩ = some (.int .u32 Y)) (go_keep) (first | (go_at_call 126; refine (mixc_any q b1 c1 d1 X Y KX.out.1 KX.out.2.2.2.2.2.1 KX.out.2.2.2.2.2.2.1 KX.out.2.2.2.2.2.2.2.1 KX.out.2.2.2.2.2.2.2.2 KX.out.2.2.2.1 KX.out.2.2.2.2.1 KX.out.2.1.1 KX.out.2.1.2 KX.out.2.2.1).mono ?_; rintro e wn ⟨rfl, Rn, On⟩; have RN := hDx (And.intro (Rn.of_eq KE.out) (OC.out.trans On)); have s1 := (KW.out.trans On).cell KS.out.1 H9.out.2.2.2.2.1; have s2 := (KW.out.trans On).cell KS.out.2.1 H9.out.2.2.2.2.2.1; have s3 := (KW.out.trans On).cell KS.out.2.2.1 H9.out.2.2.2.2.1; have s4 := (KW.out.trans On).cell KS.out.2.2.2 H9.out.2.2.2.2.2.1; clear Rn On; simp only []))
       go_wp2_with fail
       go_roundw
       case rel => exact ⟨q + 1, hqt, succI q, RN.out.1, RN.out.2⟩
       exact measI 4 q hqt
      have hq4 := isN hq hqt
      have hlt3 : ¬ (q : Int) < 4 := nltI (n := 4) hqt
      have R10 := HR.out.1
      have O10 := HR.out.2
      rw [hq4] at R10
      obtain ⟨w10, rfl⟩ : ∃ uu : World, uu = wr := ⟨_, rfl⟩
      clear hq4 hq hqt HR
      go_wp2_with fail
      go_loopw [104] (fun i wr => ∃ q : Nat, q ≤ 4 ∧ i = .int .i64 q ∧ Row wr V 130 16 (quads q0 (words p) r (4 + q)) ∧ Only V w9 wr) (fun i _ => 4 - (intOf i).toNat)
      case atStart => exact ⟨0, Nat.zero_le _, rfl, R10, O10⟩
      obtain ⟨q, hq, rfl, RR, OR⟩ := hrel
      clear R10 O10
      have HR := hDx (And.intro RR OR)
      clear RR OR
      by_cases hqt : q < 4
      ·obtain ⟨x1, x2, x3, y1, y2, y3, b1, c1, d1, i0, i1, i2, hb1, hc1, hd1, hi1, hi2, hx1, ⟨k1, k1', k2, k2', k3, k3'⟩, ⟨m1, m1', m2, m2', m3, m3', n1, n2, n3⟩, ⟨o1, o1', o2, o2', o3, o3'⟩, ⟨p1, p1', p2, p2', p3, p3'⟩, l1, l2, l3, l4, l5, l6, l7, l8, l9, hq1, hq2⟩ := ix4b q hqt
       have HX1 := hDx hx1
       clear hx1
       have HI := hDx (And.intro hb1 (And.intro hc1 (And.intro hd1 (And.intro hi1 hi2))))
       clear hb1 hc1 hd1 hi1 hi2
       obtain ⟨x, hx⟩ := nm (sg r i1)
       obtain ⟨y, hy⟩ := nm (sg r i2)
       have cx := (H9.out.1.other HR.out.2 H9.out.2.2.2.2.1).cell i1 _ (us_at r hlt i1 l5)
       have cy := (H9.out.1.other HR.out.2 H9.out.2.2.2.2.1).cell i2 _ (us_at r hlt i2 l6)
       have lx : x < 16 := by rw [hx]; exact sg_lt r hlt _ l5
       have ly : y < 16 := by rw [hy]; exact sg_lt r hlt _ l6
       rw [← hx] at cx
       rw [← hy] at cy
       have bx := two16 x y lx ly
       obtain ⟨bx, bx', by_, by'⟩ := bx
       have mx := (H9.out.2.1.other HR.out.2 H9.out.2.2.2.2.2.1).cell x lx
       have my := (H9.out.2.1.other HR.out.2 H9.out.2.2.2.2.2.1).cell y ly
       have LX := (H9.out.2.1).lt x
       have LY := (H9.out.2.1).lt y
       obtain ⟨X, hX⟩ := nm (at_ (words p) x)
       obtain ⟨Y, hY⟩ := nm (at_ (words p) y)
       have mx2 := mx
       have my2 := my
       rw [words_def, ← hX] at mx2 LX
       rw [words_def, ← hY] at my2 LY
       rw [hx] at hX
       rw [hy] at hY
       have CR := (HR.out.1.alloc (.cells #[.int .u32 (X : Int), .int .u32 (Y : Int)] 79)).drew
       have CC := pair_cells wr (.int .u32 (X : Int)) (.int .u32 (Y : Int))
       have hne : wr.heap.size ≠ V := Nat.ne_of_gt HR.out.1.size_lt
       have hqe : mixL (quads q0 (words p) r (4 + q)) q b1 c1 d1 X Y = quads q0 (words p) r (4 + (q + 1)) := by
        rw [hX, hY, HI.out.1, HI.out.2.1, HI.out.2.2.1, HI.out.2.2.2.1, HI.out.2.2.2.2]
        exact (mixQ_hi (quads q0 (words p) r (4 + q)) (words p) r q hqt).symm
       have KX := hDx (And.intro CR (And.intro CC (And.intro hne (And.intro LX (And.intro LY (And.intro (q16 hqt) (And.intro l7 (And.intro l8 l9))))))))
       have KE := hDx hqe
       have KS := hDx (And.intro cx (And.intro mx2 (And.intro cy my2)))
       have KW := hDx (((Only.refl V wr).alloc (.cells #[.int .u32 (X : Int), .int .u32 (Y : Int)] 79)).drew)
       have OC := hDx ((HR.out.2.alloc (.cells #[.int .u32 (X : Int), .int .u32 (Y : Int)] 79)).drew)
       clear hx hy hX hY lx ly LX LY mx my CR CC hne hqe l5 l6 l7 l8 l9
       go_wp2_with fail
       go_region_held3 (fun w' => w'.cell? ⟨O, i1, none⟩ = some (.int .u8 x) ∧ w'.cell? ⟨M, x, none⟩ = some (.int .u32 X) ∧ w'.cell? ⟨O, i2, none⟩ = some (.int .u8 y) ∧ w'.cell? ⟨M, y, none⟩ = some (.int .u32 Y)) (go_keep) (first | (go_at_call 126; refine (mixc_any q b1 c1 d1 X Y KX.out.1 KX.out.2.2.2.2.2.1 KX.out.2.2.2.2.2.2.1 KX.out.2.2.2.2.2.2.2.1 KX.out.2.2.2.2.2.2.2.2 KX.out.2.2.2.1 KX.out.2.2.2.2.1 KX.out.2.1.1 KX.out.2.1.2 KX.out.2.2.1).mono ?_; rintro e wn ⟨rfl, Rn, On⟩; have RN := hDx (And.intro (Rn.of_eq KE.out) (OC.out.trans On)); have s1 := (KW.out.trans On).cell KS.out.1 H9.out.2.2.2.2.1; have s2 := (KW.out.trans On).cell KS.out.2.1 H9.out.2.2.2.2.2.1; have s3 := (KW.out.trans On).cell KS.out.2.2.1 H9.out.2.2.2.2.1; have s4 := (KW.out.trans On).cell KS.out.2.2.2 H9.out.2.2.2.2.2.1; clear Rn On; simp only []))
       go_wp2_with fail
       go_roundw
       case rel => exact ⟨q + 1, hqt, by rw [HX1.out], RN.out.1, RN.out.2⟩
       rw [HX1.out]; exact measI2 4 q hqt
      have hq4 := isN hq hqt
      have hlt4 : ¬ (q : Int) < 4 := nltI (n := 4) hqt
      have R11 := HR.out.1
      rw [hq4] at R11
      have R12 := R11.of_eq (u := rds vc (words p) (r + 1)) (by rw [H9.out.2.2.2.1]; rfl)
      have O12 := H9.out.2.2.1.trans HR.out.2
      have HZ := hDx (And.intro R12 O12)
      clear hq4 hq hqt HR R11 R12 O12
      go_wp2_with fail
      go_roundw
      case rel => exact ⟨r + 1, hlt, succI r, HZ.out.1, HZ.out.2⟩
      exact measI 10 r hlt
    have hr10 := isN hr hlt
    have hlt2 : ¬ (r : Int) < 10 := nltI (n := 10) hlt
    have R10 := HR.out.1
    have O10 := HR.out.2
    rw [hr10] at R10
    obtain ⟨w10, rfl⟩ : ∃ uu : World, uu = wr := ⟨_, rfl⟩
    obtain ⟨vr, hvr⟩ := nm (rds vc (words p) 10)
    rw [← hvr] at R10
    rw [HVC.out] at hvr
    have HS10 := HM.out.2.2.2.1.other O10 (farB HM.out.2.2.2.2.2).1
    have OO := HM.out.2.2.1.fresh O10 (farB HM.out.2.2.2.2.2).2
    have HN2 := hDx (And.intro R10 (And.intro OO (And.intro hvr (farB HM.out.2.2.2.2.2).1)))
    clear hr10 hr hlt HR R10 O10 hvr OO
    go_wp2_with fail
    go_loopw [139] (fun i wr => ∃ k : Nat, k ≤ 8 ∧ i = .int .i64 k ∧ Hs wr b (folds h0 vr k) size rest n ∧ Only b w10 wr) (fun i _ => 8 - (intOf i).toNat)
    case atStart => exact ⟨0, Nat.zero_le _, rfl, HS10, Only.refl _ _⟩
    obtain ⟨k', hk, rfl, RR, OR⟩ := hrel
    clear HS10
    have HR := hDx (And.intro RR OR)
    clear RR OR
    by_cases hlt : k' < 8
    ·obtain ⟨g1, g2, g3, k16, j16⟩ := rng8 k' hlt
     obtain ⟨j, hj, q2, q3, g4, g5, _⟩ := ix8 k' hlt
     have RV := HN2.out.1.other HR.out.2 (Ne.symm HN2.out.2.2.2)
     have cH := HR.out.1.cell k' hlt
     have cV := RV.cell k' k16
     have cW := RV.cell (8 + k') j16
     rw [← hj] at cW
     have f1 := HR.out.1.drew.fz k'
     have l1 := HR.out.1.lt k'
     have l2 := RV.lt k'
     have l3 := RV.lt j
     obtain ⟨A, hA⟩ := nm (at_ (folds h0 vr k') k')
     obtain ⟨C, hC⟩ := nm (at_ vr k')
     obtain ⟨D, hD⟩ := nm (at_ vr j)
     rw [← hA] at cH l1
     rw [← hC] at cV l2
     rw [← hD] at cW l3
     obtain ⟨T2, hT2⟩ := nm (C ^^^ D)
     have lT : T2 < 4294967296 := by rw [hT2]; exact xor32_lt _ _ l2 l3
     obtain ⟨S9, hS⟩ := nm (A ^^^ T2)
     have lS : S9 < 4294967296 := by rw [hS]; exact xor32_lt _ _ l1 lT
     have e1 := u32_xor_nat C D l2 l3
     rw [← hT2] at e1
     have e2 := u32_xor_nat A T2 l1 lT
     rw [← hS] at e2
     have R2 := (HR.out.1.set k' S9 hlt lS).drew
     have O2 := (HR.out.2.setCell k' (.int .u32 (S9 : Int))).drew
     have hfe : (folds h0 vr k').set k' S9 = folds h0 vr (k' + 1) := by
      rw [hS, hT2, hA, hC, hD, hj]
      rfl
     rw [hfe] at R2
     have HX := hDx (And.intro R2 O2)
     clear hA hC hD hT2 hS lT lS l1 l2 l3 R2 O2 hfe RV hj k16 j16
     go_wp2_with fail
     go_still_tail 18, (by kernel_rfl)
     go_wp2_with fail
     go_roundw
     case rel => exact ⟨k' + 1, hlt, succI k', HX.out.1, HX.out.2⟩
     exact measI 8 k' hlt
    obtain rfl := isN hk hlt
    have HE := hDx (And.intro HR.out.1 (HN2.out.2.1.trans HR.out.2))
    clear hlt hk HR
    go_wp2_with fail
    go_end0
    have h := HE.out.1
    rw [HN2.out.2.2.1] at h
    exact ⟨rfl, h, HE.out.2⟩
end Go.Proofs.YtoplbfijodebmaaGreatDoor
