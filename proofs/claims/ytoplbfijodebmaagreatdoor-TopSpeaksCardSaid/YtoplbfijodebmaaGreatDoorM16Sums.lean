/-
  The walk.
-/
import Derived.Test.YtoplbfijodebmaaGreatDoorM15Hash
import Derived.Deep.OwnRows
set_option linter.unusedVariables false
set_option linter.unusedSimpArgs false
set_option maxRecDepth 100000
set_option maxHeartbeats 40000000
namespace Go.Proofs.YtoplbfijodebmaaGreatDoor
open Go.RowKit
open Go.Lib (strCells)
def cells60 (h : List Nat) (size : Int) (rest : Value) (n : Nat) : Array Value := ws h ++ #[.int .i64 size, rest, .int .u64 n]
theorem cells60_size {h : List Nat} (hl : h.length = 8) (size : Int) (rest : Value) (n : Nat) : (cells60 h size rest n).size = 11 := by simp [cells60, ws, hl]
theorem under60 : ∃ fs, Tryz.prog.underlying 193 = some (.struct fs) := by
 have h : (match Tryz.prog.underlying 193 with | some (.struct _) => true | _ => false) = true := by kernel_rfl
 cases hq : Tryz.prog.underlying 193 with
 | none => simp [hq] at h
 | some d => cases d <;> simp [hq] at h; exact ⟨_, rfl⟩
theorem wpList_load60 {ops : Array Oper} {rest : List Oper} {op : Oper} {a : Act} {w : World} {Q : Exit → Act → World → Prop} {b n : Nat} {h : List Nat} {size : Int} {v : Value} (hgd : op.guard = none) (x : Operand) (ho : op.op = .load 193 x)
  (hx : a.eval x = .pointer (some ⟨b, 0, none⟩)) (hs : Hs w b h size v n) (hh : wpList Tryz.prog ops Q rest (a.put op.dst (.agg (cells60 h size v n))) w) : wpList Tryz.prog ops Q (op :: rest) a w := by
 obtain ⟨fs, hu⟩ := under60
 exact Go.wpList_load_row hgd 193 x ho b hx 193 (cells60 h size v n) (0, 0) _ hs.block hu rfl (by rw [cells60_size hs.len]; kernel_rfl) hh
theorem wpList_store60 {ops : Array Oper} {rest : List Oper} {op : Oper} {a : Act} {w : World} {Q : Exit → Act → World → Prop} {b n : Nat} {h : List Nat} {size : Int} {ao : Option Addr} {l c : Nat} {old : Array Value} (hgd : op.guard = none) (x y : Operand) (ho : op.op = .store 193 x y)
  (hx : a.eval x = .pointer (some ⟨b, 0, none⟩)) (hy : a.eval y = .agg (cells60 h size (.slice ao l c) n)) (hl : h.length = 8) (hb : w.heap[b]? = some (.cells old 193)) (hold : old.size = 11)
  (hh : wpList Tryz.prog ops Q rest (a.put op.dst undef) (w.setRow b (cells60 h size (.slice ao l c) n))) : wpList Tryz.prog ops Q (op :: rest) a w :=
 wpList_plain hgd fun _ hK => by
  have h1 : (cells60 h size (.slice ao l c) n).all (·.oneCell') = true := by
   unfold cells60
   rw [Array.all_append]
   have := ws_one h
   rw [this]
   simp [Value.oneCell']
  have hs := run_storeVar_row (P := Tryz.prog) w b 193 193 old (cells60 h size (.slice ao l c) n) hb (by rw [cells60_size hl]; kernel_rfl) (by rw [cells60_size hl, hold]) h1
  unfold Oper.wp execOp
  simp only [ho, hx, hy, Instr.storeAt, Instr.sureAddr, Sem.run_bind, Sem.run_pure, Result.andThen_ok, hs]
  exact hK _ _ hh
theorem hs_setRow {w : World} {b n : Nat} {h : List Nat} {size : Int} {v : Value} {old : Array Value} (hb : w.heap[b]? = some (.cells old 193)) (hl : h.length = 8) (hlt : ∀ i, at_ h i < 4294967296) : Hs (w.setRow b (cells60 h size v n)) b h size v n :=
 ⟨setRow_heap w b _ _ _ _ hb, hl, hlt⟩
def pad (r : ByteArray) : ByteArray := ⟨r.data ++ Array.replicate (64 - r.size) 0⟩
def dig (h : List Nat) (i : Nat) : Nat := at_ h (i / 4) / 2 ^ (i % 4 * 8) % 256
def digs (h : List Nat) (size : Nat) : ByteArray := ⟨((List.range size).map fun i => UInt8.ofNat (dig h i)).toArray⟩
theorem pad_size (r : ByteArray) (h : r.size ≤ 64) : (pad r).size = 64 := by
 have : r.data.size = r.size := rfl
 show (r.data ++ Array.replicate (64 - r.size) 0).size = 64
 rw [Array.size_append, Array.size_replicate]; omega
def zeroC (n : Nat) : Array Value := Array.replicate n (.int .u8 0)
theorem zeroC64 : zeroC 64 = #[.int .u8 0, .int .u8 0, .int .u8 0, .int .u8 0, .int .u8 0, .int .u8 0, .int .u8 0, .int .u8 0, .int .u8 0, .int .u8 0, .int .u8 0, .int .u8 0, .int .u8 0, .int .u8 0, .int .u8 0, .int .u8 0, .int .u8 0, .int .u8 0, .int .u8 0, .int .u8 0, .int .u8 0, .int .u8 0, .int .u8 0, .int .u8 0, .int .u8 0, .int .u8 0, .int .u8 0, .int .u8 0, .int .u8 0, .int .u8 0, .int .u8 0, .int .u8 0, .int .u8 0, .int .u8 0, .int .u8 0, .int .u8 0, .int .u8 0, .int .u8 0, .int .u8 0, .int .u8 0, .int .u8 0, .int .u8 0, .int .u8 0, .int .u8 0, .int .u8 0, .int .u8 0, .int .u8 0, .int .u8 0, .int .u8 0, .int .u8 0, .int .u8 0, .int .u8 0, .int .u8 0, .int .u8 0, .int .u8 0, .int .u8 0, .int .u8 0, .int .u8 0, .int .u8 0, .int .u8 0, .int .u8 0, .int .u8 0, .int .u8 0, .int .u8 0] := rfl
theorem zeroC32 : zeroC 32 = #[.int .u8 0, .int .u8 0, .int .u8 0, .int .u8 0, .int .u8 0, .int .u8 0, .int .u8 0, .int .u8 0, .int .u8 0, .int .u8 0, .int .u8 0, .int .u8 0, .int .u8 0, .int .u8 0, .int .u8 0, .int .u8 0, .int .u8 0, .int .u8 0, .int .u8 0, .int .u8 0, .int .u8 0, .int .u8 0, .int .u8 0, .int .u8 0, .int .u8 0, .int .u8 0, .int .u8 0, .int .u8 0, .int .u8 0, .int .u8 0, .int .u8 0, .int .u8 0] := rfl
theorem pad_cells {w : World} {b : Nat} (r : ByteArray) (hr : r.size ≤ 64) (hb : w.heap[b]? = some (.cells (zeroC 64) 5) ∨ w.heap[b]? = some (.cells (zeroC 64) 154)) (i : Nat) (hi : i < 64) :
  (w.setCells b 0 (strCells r)).cell? ⟨b, i, none⟩ = some (.int .u8 (bt (pad r) i)) := by
 have hz : ∀ j, j < 64 → w.cell? ⟨b, j, none⟩ = some (.int .u8 0) := by
  intro j hj
  rcases hb with hb | hb <;> simp [World.cell?, hb, zeroC, hj]
 have hl : (strCells r).length = r.size := by simp [strCells]
 have hd : r.data.size = r.size := rfl
 by_cases h : i < r.size
 ·have := World.cell?_setCells_in b (strCells r) 0 w (fun j hj => by rw [Nat.zero_add, hz j (by omega)]; rfl) i (by omega)
  rw [Nat.zero_add] at this
  rw [this]
  simp only [strCells, List.getElem_map]
  unfold bt pad
  rw [gDx]
  simp [Array.getElem?_append, h, hd]
 rw [World.cell?_setCells_out b _ 0 w _ (fun _ _ => Or.inr (by show 0 + (strCells r).length ≤ i; omega)), hz i hi]
 unfold bt pad
 rw [gDx]
 simp [Array.getElem?_append, hd, h]
 rw [Array.getElem?_replicate]
 split <;> rfl
theorem someB {w : World} {b j : Nat} (hb : w.drew.heap[b]? = some (.cells (zeroC 64) 154)) (hj : j < 64) : (w.drew.cell? ⟨b, j, none⟩).isSome = true := by unfold World.cell?; rw [hb]; simp [zeroC, hj]
theorem frozB {w : World} {b : Nat} (hb : w.drew.heap[b]? = some (.cells (zeroC 64) 154)) (j : Nat) : w.drew.frozen? ⟨b, j, none⟩ = false := by unfold World.frozen?; rw [hb]; simp
theorem wpList_copyB {ops : Array Oper} {rest : List Oper} {op : Oper} {a : Act} {w : World} {Q : Exit → Act → World → Prop} {B b l cap : Nat} {ao : Option Addr} (r : ByteArray) (hgd : op.guard = none) (s x : Operand)
  (hop : op.op = Op.call { callee := Callee.builtin Builtin.copy, args := #[s, x], argTypes := #[52, 52] }) (hs : a.eval s = .slice (some ⟨b, 0, none⟩) 64 64) (hx : a.eval x = .slice ao l cap)
  (hl : l = r.size) (h64 : r.size ≤ 64) (hown : w.ownsRow B 5 1 (.slice ao l cap) l (strCells r))
  (hc : ∀ j, j < 64 → (w.cell? ⟨b, j, none⟩).isSome = true) (hf : ∀ j, w.frozen? ⟨b, j, none⟩ = false)
  (h : wpList Tryz.prog ops Q rest (a.put op.dst (goInt l)) (w.setCells b 0 (strCells r))) : wpList Tryz.prog ops Q (op :: rest) a w :=
 wpList_plain hgd fun _ hK => by
  have hsl : (strCells r).length = r.size := by simp [strCells]
  subst hl
  have hrun : (Builtin.copy_ #[52, 52] op.type #[.slice (some ⟨b, 0, none⟩) 64 64, .slice ao r.size cap]).run Tryz.prog w = .ok (goInt r.size) (w.setCells b 0 (strCells r)) := by
   rcases hown.2 with ⟨hv, hn⟩ | ⟨g, cap', cur, hv, _, hh, hn, hcm, hcs, htk⟩
   ·have e : strCells r = [] := List.eq_nil_of_length_eq_zero (by omega)
    have := run_copy_none (P := Tryz.prog) w 52 52 op.type 5 (some ⟨b, 0, none⟩) ao 64 64 r.size cap Tryz.underlying52 (by kernel_rfl) (by rw [hn]; rfl)
    rw [this, hn, e]
    rfl
   ·cases hv
    have := run_copy_cells (P := Tryz.prog) w 52 52 op.type 5 b 0 64 64 ⟨g, 0, none⟩ r.size cap (strCells r) Tryz.underlying52 (by kernel_rfl) (by rw [hsl]; exact (Nat.min_eq_left h64).symm)
     (hown.cells (g := g) rfl) (fun j hj => by rw [Nat.zero_add]; exact hc j (by omega)) (fun j _ => by rw [Nat.zero_add]; exact hf j)
     (by intro v hv; simp only [strCells, List.mem_map] at hv; obtain ⟨n, _, rfl⟩ := hv; rfl)
    rw [this, hsl]
  unfold Oper.wp execOp
  simp only [hop, resolve, invoke, builtin, Sem.run_bind, Sem.run_pure, Result.andThen_ok, mTx, mCx, mNx, hs, hx, hrun]
  exact hK _ _ h
theorem addz_wrap (n z : Nat) : IntKind.u64.wrap ((n : Int) + z) = ((w64 (n + z) : Nat) : Int) := by unfold w64; simp [IntKind.wrap, IntKind.bits, IntKind.signed]
theorem small_u64 (z : Nat) (h : z ≤ 64) : IntKind.u64.wrap (z : Int) = z := by simp [IntKind.wrap, IntKind.bits, IntKind.signed]; omega
structure Dg (w : World) (D : Nat) (h : List Nat) (k : Nat) : Prop where
 done : ∀ i, i < k → w.cell? ⟨D, i, none⟩ = some (.int .u8 (dig h i))
 there : ∀ i, i < 32 → (w.cell? ⟨D, i, none⟩).isSome = true
 fz : ∀ i, w.frozen? ⟨D, i, none⟩ = false
theorem Dg.next {w : World} {D k G : Nat} {h : List Nat} (d : Dg w D h k) (hk : k < 32) (hG : dig h k = G) : Dg (w.setCell ⟨D, k, none⟩ (.int .u8 (G : Int))) D h (k + 1) := by
 obtain ⟨u, hu⟩ := Option.isSome_iff_exists.1 (d.there k hk)
 refine ⟨fun i hi => ?_, fun i hi => ?_, fun i => by rw [World.frozen?_setCell]; exact d.fz i⟩
 ·by_cases e : i = k
  ·subst e
   rw [World.cell?_setCell_same _ _ _ hu, hG]
  rw [World.cell?_setCell_other _ _ _ _ (fun h => e (congrArg (·.off) h).symm)]
  exact d.done i (by omega)
 by_cases e : i = k
 ·subst e
  rw [World.cell?_setCell_same _ _ _ hu]; rfl
 rw [World.cell?_setCell_other _ _ _ _ (fun h => e (congrArg (·.off) h).symm)]
 exact d.there i hi
theorem Dg.conv {w : World} {D k : Nat} {h : List Nat} (d : Dg w D h k) (hk : k = 32) (size : Nat) (hs : size ≤ 32) : (convert 52 9 (.slice (some ⟨D, 0, none⟩) size 32)).run Tryz.prog w = .ok (.string (digs h size)) w := by
 have := run_convert_bytes_back (P := Tryz.prog) w 52 9 5 ⟨D, 0, none⟩ 32 ((List.range size).map fun i => UInt8.ofNat (dig h i)) Tryz.underlying52 (by kernel_rfl) (by kernel_rfl) (fun j hj => by
  have hj' : j < size := by simpa using hj
  rw [Addr.add_mid, Nat.zero_add, d.done j (by omega)]
  have : dig h j < 256 := Nat.mod_lt _ (by decide)
  simp
  omega)
 simpa [digs] using this
theorem ix32 (k : Nat) (h : k < 32) : ∃ j u : Nat, j = k / 4 ∧ u = k % 4 ∧ (k : Int).tdiv 4 = j ∧ (k : Int) / 4 = j ∧ IntKind.i64.wrap (j : Int) = j ∧ wrap64 (j : Int) = j ∧ (k : Int).tmod 4 = u ∧ (k : Int) % 4 = u ∧ IntKind.i64.wrap (u : Int) = u ∧
  wrap64 (u : Int) = u ∧ (0 : Int) ≤ j ∧ (j : Int) < 8 ∧ (0 : Int) ≤ k ∧ (k : Int) < 32 ∧ j < 8 ∧ u < 4 :=
 ⟨k / 4, k % 4, rfl, rfl, by simp [Int.tdiv_eq_ediv_of_nonneg], by omega, IntWalk.i64_in _ (by omega), by unfold wrap64; omega, by simp [Int.tmod_eq_emod_of_nonneg], by omega, IntWalk.i64_in _ (by omega), by unfold wrap64; omega, by omega⟩
theorem szI (n : Nat) (h : n ≤ 32) : (0 : Int) ≤ n ∧ (n : Int) ≤ 32 := by omega
theorem dig_int (A u : Nat) (lA : A < 4294967296) : ((A : Int) / 2 ^ (u * 8)) % 256 = ((A / 2 ^ (u * 8) % 256 : Nat) : Int) := by simp
theorem hsum_any (B : Nat) {w : World} {b : Nat} {size : Nat} {v : Value} {x : HSt} (hT : Tab w) (hV : HV B w b size v x) (h1 : 1 ≤ size) (h32 : size ≤ 32) :
  Calls Tryz.prog 105 #[.pointer (some ⟨b, 0, none⟩)] w fun e w' => e = .returned (.string (digs (compress x.h (pad x.r) (w64 (x.n + x.r.size)) true) size)) ∧ Below w.heap.size w w' := by
 have c8 := hV.hs.cell8
 have e0 : ((size : Int) == 0) = false := beq_eq_false_iff_ne.2 (by omega)
 obtain ⟨ao, cap, hv1, _, _⟩ := hV.shape
 have HS := hV.hs
 rw [hv1] at HS
 have H0 := hDx (And.intro hT (And.intro hV (And.intro h1 (And.intro h32 (And.intro hv1 HS)))))
 clear hT hV h1 h32 hv1 HS
 go_enter Tryz.func105, Tryz.ntmps105
 have hA : (w.alloc (.cells #[.int .u32 0, .int .u32 0, .int .u32 0, .int .u32 0, .int .u32 0, .int .u32 0, .int .u32 0, .int .u32 0, .int .i64 0, .slice none 0 0, .int .u64 0] 193)).heap[w.heap.size]? = some (.cells #[.int .u32 0, .int .u32 0, .int .u32 0, .int .u32 0, .int .u32 0, .int .u32 0, .int .u32 0, .int .u32 0, .int .i64 0, .slice none 0 0, .int .u64 0] 193) := heap_alloc_last w _
 have HA := hDx hA
 clear hA
 obtain ⟨z, hz⟩ := nm x.r.size
 have hz64 : z ≤ 64 := by rw [hz]; exact H0.out.2.1.r
 have S1 := hs_setRow (h := x.h) (size := size) (v := .slice ao z cap) (n := x.n) HA.out H0.out.2.1.hs.len H0.out.2.1.hs.lt
 have B1 := ((Below.refl w.heap.size w).alloc (Nat.le_refl _) (.cells #[.int .u32 0, .int .u32 0, .int .u32 0, .int .u32 0, .int .u32 0, .int .u32 0, .int .u32 0, .int .u32 0, .int .i64 0, .slice none 0 0, .int .u64 0] 193)).trans ((Only.setRow w.heap.size _ (cells60 x.h size (.slice ao z cap) x.n)).below (B := w.heap.size) (Nat.le_refl _) (by simp))
 have HL := H0.out.2.2.2.2.2
 rw [← hz] at HL
 have HLL := hDx HL
 clear HL
 have en := addz_wrap x.n z
 have ez := small_u64 z hz64
 obtain ⟨N, hN⟩ := nm (w64 (x.n + z))
 rw [← hN] at en
 have c10 := S1.cell10
 have c9 := S1.cell9
 have f10 := S1.fz 10
 have S2 := S1.set10 N
 have B2 := B1.setCell (p := ⟨w.heap.size, 10, none⟩) (Nat.le_refl _) (.int .u64 (N : Int))
 have c9b := S2.cell9
 have HS1 := hDx (And.intro S2 (And.intro B2 (And.intro hz (And.intro hz64 hN))))
 clear S1 B1 hz hz64 hN S2 B2
 go_wp2_with (first | (refine wpList_load60 rfl _ rfl rfl HLL.out ?_) | (refine wpList_store60 rfl _ _ rfl rfl rfl H0.out.2.1.hs.len HA.out rfl ?_))
 rw [← zeroC64]
 obtain ⟨C, hC⟩ := nm w.heap.size
 obtain ⟨P, hP⟩ := nm (w.heap.size + 1)
 obtain ⟨w2, hw2⟩ := nm (((w.alloc (.cells #[.int .u32 0, .int .u32 0, .int .u32 0, .int .u32 0, .int .u32 0, .int .u32 0, .int .u32 0, .int .u32 0, .int .i64 0, .slice none 0 0, .int .u64 0] 193)).setRow w.heap.size (cells60 x.h size (.slice ao z cap) x.n)).setCell ⟨w.heap.size, 10, none⟩ (.int .u64 (N : Int)))
 have hh := HS1.out
 rw [← hw2] at hh
 rw [← hw2, ← hP]
 have hsz : w2.heap.size = P := by rw [hw2, hP]; simp [World.setRow]
 rw [← hC] at hh
 rw [← hC]
 have HS2 := hDx hh
 have HPP := hDx (And.intro hC (And.intro hP hsz))
 clear hh hC hP hw2 hsz c10 c9 f10 c9b HS1 HA
 have c9 := (HS2.out.1.alloc (.cells (zeroC 64) 154)).cell9
 have B2w : Below w.heap.size w w2 := by rw [← HPP.out.1]; exact HS2.out.2.1
 have OWN := (((H0.out.2.1.more B2w).alloc (.cells (zeroC 64) 154)).drew).own
 rw [H0.out.2.2.2.2.1, ← HS2.out.2.2.1] at OWN
 have HB3 : (w2.alloc (.cells (zeroC 64) 154)).drew.heap[P]? = some (.cells (zeroC 64) 154) := by
  rw [← HPP.out.2.2]
  exact heap_alloc_last w2 _
 have hr64 := H0.out.2.1.r
 have B3w := (B2w.alloc (by have := HPP.out; omega) (.cells (zeroC 64) 154)).drew
 have S3w := (HS2.out.1.alloc (.cells (zeroC 64) 154)).drew
 obtain ⟨w3, hw3⟩ := nm (w2.alloc (.cells (zeroC 64) 154))
 rw [← hw3] at c9 OWN HB3 B3w S3w
 rw [← hw3]
 have hsz3 : w3.heap.size = P + 1 := by rw [hw3]; have := HPP.out; simp; omega
 have H3 := hDx (And.intro OWN (And.intro HB3 (And.intro hr64 (And.intro B3w (And.intro S3w hsz3)))))
 clear OWN HB3 hr64 B3w S3w hw3 B2w hsz3
 go_still_tail 3, (by kernel_rfl)
 refine wpList_copyB x.r rfl _ _ rfl rfl rfl HS2.out.2.2.1 H3.out.2.2.1 H3.out.1 (fun j hj => someB H3.out.2.1 hj) (fun j => frozB H3.out.2.1 j) ?_
 have PC := fun i hi => pad_cells x.r H3.out.2.2.1 (Or.inr H3.out.2.1) i hi
 have O4 := Only.setCells P (strCells x.r) 0 w3.drew
 have B3 := H3.out.2.2.2.1.trans (O4.below (B := w.heap.size) (by have := HPP.out; omega) H3.out.2.2.2.1.size)
 have S3 := H3.out.2.2.2.2.1.other O4 (by have := HPP.out; omega)
 obtain ⟨w4, hw4⟩ := nm (w3.drew.setCells P 0 (strCells x.r))
 rw [← hw4] at B3 S3
 have PC2 : ∀ i, i < 64 → w4.cell? ⟨P, i, none⟩ = some (.int .u8 (bt (pad x.r) i)) := by rw [hw4]; exact PC
 show wpList _ _ _ _ _ (w3.drew.setCells P 0 (strCells x.r))
 rw [← hw4]
 have H4 := hDx (And.intro B3 (And.intro S3 PC2))
 clear PC O4 B3 S3 PC2 hw4 c9 H3
 go_wp2_with fail
 have hNlt : N < 18446744073709551616 := by rw [HS2.out.2.2.2.2]; exact Nat.mod_lt _ (by decide)
 refine (take_any (pad x.r) true (H0.out.1.more H4.out.1) H4.out.2.1 H4.out.2.2 hNlt (by have := HPP.out.1; have := H0.out.1.lt; omega)).mono ?_
 rintro e w5 ⟨rfl, S5, O5⟩
 simp only []
 obtain ⟨hf, hhf⟩ := nm (compress x.h (pad x.r) N true)
 rw [← hhf] at S5
 have B5 := H4.out.1.trans (O5.below (B := w.heap.size) (by have := HPP.out.1; omega) H4.out.1.size)
 have H5 := hDx (And.intro S5 (And.intro B5 hhf))
 clear S5 O5 B5 hhf hNlt
 go_wp2_with fail
 rw [← zeroC32]
 have S6 := H5.out.1.alloc (.cells (zeroC 32) 115)
 have B6 := H5.out.2.1.alloc H5.out.2.1.size (.cells (zeroC 32) 115)
 have D6 : (w5.alloc (.cells (zeroC 32) 115)).heap[w5.heap.size]? = some (.cells (zeroC 32) 115) := heap_alloc_last w5 _
 have hD5 := H5.out.2.1.size
 have hCD := H5.out.1.size_lt
 obtain ⟨D, hD⟩ := nm w5.heap.size
 rw [← hD] at D6 hD5 hCD
 rw [← hD]
 obtain ⟨w6, hw6⟩ := nm (w5.alloc (.cells (zeroC 32) 115))
 rw [← hw6] at S6 B6 D6
 rw [← hw6]
 have DL : Dg w6 D hf 0 := ⟨fun i hi => absurd hi (Nat.not_lt_zero _), fun i hi => by simp [World.cell?, D6, zeroC, hi], fun i => by simp [World.frozen?, D6]⟩
 have hDlt : D < w6.heap.size := (Array.getElem?_eq_some_iff.1 D6).1
 have H6 := hDx (And.intro S6 (And.intro B6 (And.intro (Nat.ne_of_lt hCD) (And.intro hD5 hDlt))))
 clear S6 B6 D6 hD5 hCD hD hw6 hDlt c8
 go_loopw [33] (fun i wr => ∃ k : Nat, k ≤ 32 ∧ i = .int .i64 k ∧ Dg wr D hf k ∧ Only D w6 wr) (fun i _ => 32 - (intOf i).toNat)
 case atStart => exact ⟨0, Nat.zero_le _, rfl, DL, Only.refl _ _⟩
 obtain ⟨k, hk, rfl, RR, OR⟩ := hrel
 clear DL
 have HR := hDx (And.intro RR OR)
 clear RR OR
 by_cases hlt : k < 32
 ·obtain ⟨j, u, hj, hu, q1, q2, q3, q4, q5, q6, q7, q8, q9, q10, l1, l2, l3, l4⟩ := ix32 k hlt
  have SR := H6.out.1.other HR.out.2 H6.out.2.2.1
  have cH := SR.cell j l3
  have lA := SR.lt j
  have f1 := HR.out.1.fz k
  obtain ⟨cu, hcu⟩ := Option.isSome_iff_exists.1 (HR.out.1.there k hlt)
  obtain ⟨A, hA⟩ := nm (at_ hf j)
  rw [← hA] at cH lA
  have eD := dig_int A u lA
  have hde : dig hf k = A / 2 ^ (u * 8) % 256 := by unfold dig; rw [← hj, ← hu, ← hA]
  obtain ⟨G, hG⟩ := nm (A / 2 ^ (u * 8) % 256)
  rw [← hG] at eD hde
  have DN := HR.out.1.next hlt hde
  have ON := HR.out.2.setCell k (.int .u8 (G : Int))
  have HX := hDx (And.intro DN ON)
  clear SR hA hG hde DN ON hj hu l3 q4 q7 q8
  go_wp2_with fail
  go_roundw
  case rel => exact ⟨k + 1, hlt, succI k, HX.out.1, HX.out.2⟩
  exact measI 32 k hlt
 have hk32 := isN hk hlt
 have hlt2 : ¬ (k : Int) < 32 := nltI (n := 32) hlt
 have c8 := (H6.out.1.other HR.out.2 H6.out.2.2.1).cell8
 have hcv := HR.out.1.conv hk32 size H0.out.2.2.2.1
 have B7 := H6.out.2.1.trans (HR.out.2.below H6.out.2.2.2.1 H6.out.2.1.size)
 have hsz1 := szI size H0.out.2.2.2.1
 obtain ⟨s1, s2⟩ := hsz1
 obtain ⟨OUT, hOUT⟩ := nm (digs hf size)
 rw [← hOUT] at hcv
 have HO := hDx hOUT
 have HB7 := hDx B7
 clear hk32 hlt hk B7 hOUT
 go_wp2_with fail
 go_ret
 refine ⟨?_, HB7.out⟩
 rw [HO.out, H5.out.2.2, HS2.out.2.2.2.2, HS2.out.2.2.1]
 rfl
end Go.Proofs.YtoplbfijodebmaaGreatDoor
