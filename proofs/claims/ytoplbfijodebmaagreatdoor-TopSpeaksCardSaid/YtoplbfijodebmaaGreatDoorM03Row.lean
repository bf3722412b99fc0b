/-
  The walk.
-/
import Derived.Test.YtoplbfijodebmaaGreatDoorM02Words
import Derived.StillTailTactics
set_option linter.unusedVariables false
set_option linter.unusedSimpArgs false
set_option maxRecDepth 100000
set_option maxHeartbeats 40000000
namespace Go.Proofs.YtoplbfijodebmaaGreatDoor
open Go.RowKit
structure Only (b : Nat) (w w' : World) : Prop where
 os : w'.os = w.os
 tape : w'.tape = w.tape
 output : w'.output = w.output
 size : w.heap.size ≤ w'.heap.size
 block : ∀ j, j < w.heap.size → j ≠ b → w'.heap[j]? = w.heap[j]?
theorem Only.refl (b : Nat) (w : World) : Only b w w := ⟨rfl, rfl, rfl, Nat.le_refl _, fun _ _ _ => rfl⟩
theorem Only.trans {b : Nat} {u v w : World} (h : Only b u v) (k : Only b v w) : Only b u w :=
 ⟨k.os.trans h.os, k.tape.trans h.tape, k.output.trans h.output, Nat.le_trans h.size k.size, fun j hj hb => (k.block j (Nat.lt_of_lt_of_le hj h.size) hb).trans (h.block j hj hb)⟩
theorem Only.drew {b : Nat} {u w : World} (h : Only b u w) : Only b u w.drew := ⟨h.os, h.tape, h.output, h.size, h.block⟩
theorem Only.setCell {b : Nat} {u w : World} (h : Only b u w) (o : Nat) (v : Value) : Only b u (w.setCell ⟨b, o, none⟩ v) :=
 ⟨h.os, h.tape, h.output, by simpa using h.size, fun j hj hb => (Below.heap_setCell _ _ _ _ hb).trans (h.block j hj hb)⟩
theorem Only.alloc {b : Nat} {u w : World} (h : Only b u w) (o : Obj) : Only b u (w.alloc o) :=
 ⟨h.os, h.tape, h.output, by have := h.size; simp; omega, fun j hj hb => (Below.heap_alloc _ _ _ (Nat.lt_of_lt_of_le hj h.size)).trans (h.block j hj hb)⟩
theorem Only.below {b : Nat} {w w' : World} (h : Only b w w') {B : Nat} (hB : B ≤ b) (hw : B ≤ w.heap.size) : Below B w w' :=
 ⟨h.os, h.tape, h.output, h.size, fun j hj => h.block j (by omega) (by omega)⟩
theorem Only.cell {b : Nat} {w w' : World} (h : Only b w w') {c o : Nat} {v : Value} (hc : w.cell? ⟨c, o, none⟩ = some v) (h1 : c ≠ b) : w'.cell? ⟨c, o, none⟩ = some v :=
 (World.cell?_of_block (a := ⟨c, o, none⟩) (h.block c (World.block_lt_of_cell? _ _ hc) h1)).trans hc
def at_ (v : List Nat) (i : Nat) : Nat := v.getD i 0
def ws (v : List Nat) : Array Value := (v.map fun n : Nat => Value.int .u32 (n : Int)).toArray
structure Row (w : World) (b : Nat) (t : TypeId) (n : Nat) (v : List Nat) : Prop where
 block : w.heap[b]? = some (.cells (ws v) t)
 len : v.length = n
 lt : ∀ i, at_ v i < 4294967296
theorem at_set (v : List Nat) (i n j : Nat) (hi : i < v.length) : at_ (v.set i n) j = if i = j then n else at_ v j := by
 unfold at_
 rw [List.getD_eq_getElem?_getD, List.getD_eq_getElem?_getD, List.getElem?_set]
 by_cases h : i = j
 ·subst h; simp [hi]
 simp [h]
namespace Row
variable {w : World} {b n : Nat} {t : TypeId} {v : List Nat}
theorem cell (h : Row w b t n v) (i : Nat) (hi : i < n) : w.cell? ⟨b, i, none⟩ = some (.int .u32 (at_ v i)) := by
 have hi' : i < v.length := by rw [h.len]; exact hi
 simp [World.cell?, h.block, ws, at_, hi']
theorem fz (h : Row w b t n v) (i : Nat) : w.frozen? ⟨b, i, none⟩ = false := by simp [World.frozen?, h.block]
theorem size_lt (h : Row w b t n v) : b < w.heap.size := (Array.getElem?_eq_some_iff.1 h.block).1
theorem keep (h : Row w b t n v) {w' : World} (hb : w'.heap[b]? = w.heap[b]?) : Row w' b t n v := ⟨hb.trans h.block, h.len, h.lt⟩
theorem drew (h : Row w b t n v) : Row w.drew b t n v := h.keep rfl
theorem alloc (h : Row w b t n v) (o : Obj) : Row (w.alloc o) b t n v := h.keep (Below.heap_alloc _ _ _ h.size_lt)
theorem other (h : Row w b t n v) {c : Nat} {w' : World} (hf : Only c w w') (hc : b ≠ c) : Row w' b t n v := h.keep (hf.block b h.size_lt hc)
theorem more (h : Row w b t n v) {w' : World} (hb : Below w.heap.size w w') : Row w' b t n v := h.keep (hb.block b h.size_lt)
theorem set (h : Row w b t n v) (i x : Nat) (hi : i < n) (hx : x < 4294967296) : Row (w.setCell ⟨b, i, none⟩ (.int .u32 x)) b t n (v.set i x) := by
 refine ⟨?_, by rw [List.length_set]; exact h.len, fun j => ?_⟩
 ·simp [World.setCell, Array.getElem?_modify, h.block, ws, List.map_set]
 rw [at_set _ _ _ _ (by rw [h.len]; exact hi)]
 split
 ·exact hx
 exact h.lt j
end Row
def half (v : List Nat) (a b c d x r1 r2 : Nat) : List Nat :=
 let v1 := v.set a (add32 (add32 (at_ v a) (at_ v b)) x)
 let v2 := v1.set d (rotr (at_ v1 d ^^^ at_ v1 a) r1)
 let v3 := v2.set c (add32 (at_ v2 c) (at_ v2 d))
 v3.set b (rotr (at_ v3 b ^^^ at_ v3 c) r2)
def mixL (v : List Nat) (a b c d x y : Nat) : List Nat := half (half v a b c d x 16 12) a b c d y 8 7
theorem add_sum (a b x : Nat) : ((a : Int) + ((b : Int) + x) % 4294967296) % 4294967296 = ((add32 (add32 a b) x : Nat) : Int) := by unfold add32; omega
theorem add_two (a b : Nat) : ((a : Int) + b) % 4294967296 = ((add32 a b : Nat) : Int) := by unfold add32; omega
theorem mixc_any {w : World} {B W : Nat} {t : TypeId} {v : List Nat} (a b c d x y : Nat) (h : Row w B t 16 v) (ha : a < 16) (hb : b < 16) (hc : c < 16) (hd : d < 16) (hx : x < 4294967296) (hy : y < 4294967296)
  (h0 : w.cell? ⟨W, 0, none⟩ = some (.int .u32 x)) (h1 : w.cell? ⟨W, 1, none⟩ = some (.int .u32 y)) (hW : W ≠ B) :
  Calls Tryz.prog 126 #[.int .i64 a, .int .i64 b, .int .i64 c, .int .i64 d, .slice (some ⟨W, 0, none⟩) 2 2, .pointer (some ⟨B, 0, none⟩)] w fun e w' => e = .returned (.tuple #[]) ∧ Row w' B t 16 (mixL v a b c d x y) ∧ Only B w w' := by
 have HB := hDx (And.intro h (Only.refl B w))
 have Hh1 := hDx h1
 have b1 : (0 : Int) ≤ a ∧ (a : Int) < 16 := by omega
 have b2 : (0 : Int) ≤ b ∧ (b : Int) < 16 := by omega
 have b3 : (0 : Int) ≤ c ∧ (c : Int) < 16 := by omega
 have b4 : (0 : Int) ≤ d ∧ (d : Int) < 16 := by omega
 obtain ⟨b1, b1'⟩ := b1
 obtain ⟨b2, b2'⟩ := b2
 obtain ⟨b3, b3'⟩ := b3
 obtain ⟨b4, b4'⟩ := b4
 clear h
 have z0 : IntKind.i64.wrap (0) = 0 := by decide +kernel
 have z1 : IntKind.i64.wrap (8) = 8 := by decide +kernel
 have z2 : IntKind.i64.wrap (5) = 5 := by decide +kernel
 have z3 : IntKind.i64.wrap (-16) = -16 := by decide +kernel
 have z4 : IntKind.i64.wrap (-8) = -8 := by decide +kernel
 have z5 : IntKind.i64.wrap (-12) = -12 := by decide +kernel
 have z6 : IntKind.i64.wrap (-7) = -7 := by decide +kernel
 go_enter Tryz.func126, Tryz.ntmps126
 go_wp2_with fail
 refine wp_loop_rounds 3 ?_
 rw [rounds_succ]
 go_wp2_with fail
 have ca := HB.out.1.cell a ha
 have cb := HB.out.1.cell b hb
 have f1 := HB.out.1.drew.fz a
 have lA := HB.out.1.lt a
 have lB := HB.out.1.lt b
 obtain ⟨A1, hA⟩ := nm (at_ v a)
 obtain ⟨D1, hD⟩ := nm (at_ v b)
 rw [← hA] at ca lA
 rw [← hD] at cb lB
 obtain ⟨S1, hS⟩ := nm (add32 (add32 A1 D1) x)
 have e1 := add_sum A1 D1 x
 rw [← hS] at e1
 have lS : S1 < 4294967296 := by rw [hS]; exact add32_lt _ _
 have KK := hDx (And.intro hA (And.intro hD hS))
 have KS := hDx lS
 clear hA hD hS lA lB lS
 go_still_tail 10, (by kernel_rfl)
 go_wp2_with fail
 rw [e1]
 obtain ⟨w1, hw2⟩ := nm ((w.setCell ⟨B, a, none⟩ (.int .u32 S1)).drew)
 rw [← hw2]
 have R2 := (HB.out.1.set a S1 ha KS.out).drew
 have O2 := (HB.out.2.setCell a (.int .u32 S1)).drew
 rw [← hw2] at R2 O2
 obtain ⟨v1, hv2⟩ := nm (v.set a S1)
 rw [← hv2] at R2
 rw [KK.out.2.2, KK.out.1, KK.out.2.1] at hv2
 have HB1 := hDx (And.intro R2 O2)
 have V1 := hDx hv2
 clear hw2 R2 O2 hv2 ca cb f1 KK KS e1
 have ca := HB1.out.1.cell d hd
 have cb := HB1.out.1.cell a ha
 have f1 := HB1.out.1.drew.fz d
 have lA := HB1.out.1.lt d
 have lB := HB1.out.1.lt a
 obtain ⟨A2, hA⟩ := nm (at_ v1 d)
 obtain ⟨D2, hD⟩ := nm (at_ v1 a)
 rw [← hA] at ca lA
 rw [← hD] at cb lB
 obtain ⟨X2, hX⟩ := nm (A2 ^^^ D2)
 have lX : X2 < 4294967296 := by rw [hX]; exact xor32_lt _ _ lA lB
 have e2 := u32_xor_nat A2 D2 lA lB
 rw [← hX] at e2
 obtain ⟨S2, hS⟩ := nm (rotr X2 16)
 have lS : S2 < 4294967296 := by rw [hS]; exact rotr_lt _ _ lX
 rw [hX] at hS
 have KK := hDx (And.intro hA (And.intro hD hS))
 have KS := hDx lS
 have KX := hDx (And.intro lX hX)
 clear hA hD hS lA lB lS lX hX
 go_still_tail 13, (by kernel_rfl)
 still_call (rotl_any X2 16 (-16) _ KX.out.1 (by simp))
 rw [show rotr X2 16 = S2 by rw [KX.out.2]; exact KK.out.2.2.symm]
 repeat still_step
 refine wpStill_nil ?_
 go_wp2_with fail
 obtain ⟨w2, hw2⟩ := nm ((w1.setCell ⟨B, d, none⟩ (.int .u32 S2)).drew)
 rw [← hw2]
 have R2 := (HB1.out.1.set d S2 hd KS.out).drew
 have O2 := (HB1.out.2.setCell d (.int .u32 S2)).drew
 rw [← hw2] at R2 O2
 obtain ⟨v2, hv2⟩ := nm (v1.set d S2)
 rw [← hv2] at R2
 rw [KK.out.2.2, KK.out.1, KK.out.2.1] at hv2
 have HB2 := hDx (And.intro R2 O2)
 have V2 := hDx hv2
 clear hw2 R2 O2 hv2 ca cb f1 KK KS KX e2
 have ca := HB2.out.1.cell c hc
 have cb := HB2.out.1.cell d hd
 have f1 := HB2.out.1.drew.fz c
 have lA := HB2.out.1.lt c
 have lB := HB2.out.1.lt d
 obtain ⟨A3, hA⟩ := nm (at_ v2 c)
 obtain ⟨D3, hD⟩ := nm (at_ v2 d)
 rw [← hA] at ca lA
 rw [← hD] at cb lB
 obtain ⟨S3, hS⟩ := nm (add32 A3 D3)
 have e1 := add_two A3 D3
 rw [← hS] at e1
 have lS : S3 < 4294967296 := by rw [hS]; exact add32_lt _ _
 have KK := hDx (And.intro hA (And.intro hD hS))
 have KS := hDx lS
 clear hA hD hS lA lB lS
 go_still_tail 8, (by kernel_rfl)
 go_wp2_with fail
 rw [e1]
 obtain ⟨w3, hw2⟩ := nm ((w2.setCell ⟨B, c, none⟩ (.int .u32 S3)).drew)
 rw [← hw2]
 have R2 := (HB2.out.1.set c S3 hc KS.out).drew
 have O2 := (HB2.out.2.setCell c (.int .u32 S3)).drew
 rw [← hw2] at R2 O2
 obtain ⟨v3, hv2⟩ := nm (v2.set c S3)
 rw [← hv2] at R2
 rw [KK.out.2.2, KK.out.1, KK.out.2.1] at hv2
 have HB3 := hDx (And.intro R2 O2)
 have V3 := hDx hv2
 clear hw2 R2 O2 hv2 ca cb f1 KK KS e1
 have ca := HB3.out.1.cell b hb
 have cb := HB3.out.1.cell c hc
 have f1 := HB3.out.1.drew.fz b
 have lA := HB3.out.1.lt b
 have lB := HB3.out.1.lt c
 obtain ⟨A4, hA⟩ := nm (at_ v3 b)
 obtain ⟨D4, hD⟩ := nm (at_ v3 c)
 rw [← hA] at ca lA
 rw [← hD] at cb lB
 obtain ⟨X4, hX⟩ := nm (A4 ^^^ D4)
 have lX : X4 < 4294967296 := by rw [hX]; exact xor32_lt _ _ lA lB
 have e2 := u32_xor_nat A4 D4 lA lB
 rw [← hX] at e2
 obtain ⟨S4, hS⟩ := nm (rotr X4 12)
 have lS : S4 < 4294967296 := by rw [hS]; exact rotr_lt _ _ lX
 rw [hX] at hS
 have KK := hDx (And.intro hA (And.intro hD hS))
 have KS := hDx lS
 have KX := hDx (And.intro lX hX)
 clear hA hD hS lA lB lS lX hX
 go_still_tail 13, (by kernel_rfl)
 still_call (rotl_any X4 12 (-12) _ KX.out.1 (by simp))
 rw [show rotr X4 12 = S4 by rw [KX.out.2]; exact KK.out.2.2.symm]
 repeat still_step
 refine wpStill_nil ?_
 go_wp2_with fail
 obtain ⟨w4, hw2⟩ := nm ((w3.setCell ⟨B, b, none⟩ (.int .u32 S4)).drew)
 rw [← hw2]
 have R2 := (HB3.out.1.set b S4 hb KS.out).drew
 have O2 := (HB3.out.2.setCell b (.int .u32 S4)).drew
 rw [← hw2] at R2 O2
 obtain ⟨v4, hv2⟩ := nm (v3.set b S4)
 rw [← hv2] at R2
 rw [KK.out.2.2, KK.out.1, KK.out.2.1] at hv2
 have HB4 := hDx (And.intro R2 O2)
 have V4 := hDx hv2
 clear hw2 R2 O2 hv2 ca cb f1 KK KS KX e2
 have h1 := HB4.out.2.cell Hh1.out hW
 rw [rounds_succ]
 go_wp2_with fail
 have ca := HB4.out.1.cell a ha
 have cb := HB4.out.1.cell b hb
 have f1 := HB4.out.1.drew.fz a
 have lA := HB4.out.1.lt a
 have lB := HB4.out.1.lt b
 obtain ⟨A5, hA⟩ := nm (at_ v4 a)
 obtain ⟨D5, hD⟩ := nm (at_ v4 b)
 rw [← hA] at ca lA
 rw [← hD] at cb lB
 obtain ⟨S5, hS⟩ := nm (add32 (add32 A5 D5) y)
 have e1 := add_sum A5 D5 y
 rw [← hS] at e1
 have lS : S5 < 4294967296 := by rw [hS]; exact add32_lt _ _
 have KK := hDx (And.intro hA (And.intro hD hS))
 have KS := hDx lS
 clear hA hD hS lA lB lS
 go_still_tail 10, (by kernel_rfl)
 go_wp2_with fail
 rw [e1]
 obtain ⟨w5, hw2⟩ := nm ((w4.setCell ⟨B, a, none⟩ (.int .u32 S5)).drew)
 rw [← hw2]
 have R2 := (HB4.out.1.set a S5 ha KS.out).drew
 have O2 := (HB4.out.2.setCell a (.int .u32 S5)).drew
 rw [← hw2] at R2 O2
 obtain ⟨v5, hv2⟩ := nm (v4.set a S5)
 rw [← hv2] at R2
 rw [KK.out.2.2, KK.out.1, KK.out.2.1] at hv2
 have HB5 := hDx (And.intro R2 O2)
 have V5 := hDx hv2
 clear hw2 R2 O2 hv2 ca cb f1 KK KS e1
 have ca := HB5.out.1.cell d hd
 have cb := HB5.out.1.cell a ha
 have f1 := HB5.out.1.drew.fz d
 have lA := HB5.out.1.lt d
 have lB := HB5.out.1.lt a
 obtain ⟨A6, hA⟩ := nm (at_ v5 d)
 obtain ⟨D6, hD⟩ := nm (at_ v5 a)
 rw [← hA] at ca lA
 rw [← hD] at cb lB
 obtain ⟨X6, hX⟩ := nm (A6 ^^^ D6)
 have lX : X6 < 4294967296 := by rw [hX]; exact xor32_lt _ _ lA lB
 have e2 := u32_xor_nat A6 D6 lA lB
 rw [← hX] at e2
 obtain ⟨S6, hS⟩ := nm (rotr X6 8)
 have lS : S6 < 4294967296 := by rw [hS]; exact rotr_lt _ _ lX
 rw [hX] at hS
 have KK := hDx (And.intro hA (And.intro hD hS))
 have KS := hDx lS
 have KX := hDx (And.intro lX hX)
 clear hA hD hS lA lB lS lX hX
 go_still_tail 13, (by kernel_rfl)
 still_call (rotl_any X6 8 (-8) _ KX.out.1 (by simp))
 rw [show rotr X6 8 = S6 by rw [KX.out.2]; exact KK.out.2.2.symm]
 repeat still_step
 refine wpStill_nil ?_
 go_wp2_with fail
 obtain ⟨w6, hw2⟩ := nm ((w5.setCell ⟨B, d, none⟩ (.int .u32 S6)).drew)
 rw [← hw2]
 have R2 := (HB5.out.1.set d S6 hd KS.out).drew
 have O2 := (HB5.out.2.setCell d (.int .u32 S6)).drew
 rw [← hw2] at R2 O2
 obtain ⟨v6, hv2⟩ := nm (v5.set d S6)
 rw [← hv2] at R2
 rw [KK.out.2.2, KK.out.1, KK.out.2.1] at hv2
 have HB6 := hDx (And.intro R2 O2)
 have V6 := hDx hv2
 clear hw2 R2 O2 hv2 ca cb f1 KK KS KX e2
 have ca := HB6.out.1.cell c hc
 have cb := HB6.out.1.cell d hd
 have f1 := HB6.out.1.drew.fz c
 have lA := HB6.out.1.lt c
 have lB := HB6.out.1.lt d
 obtain ⟨A7, hA⟩ := nm (at_ v6 c)
 obtain ⟨D7, hD⟩ := nm (at_ v6 d)
 rw [← hA] at ca lA
 rw [← hD] at cb lB
 obtain ⟨S7, hS⟩ := nm (add32 A7 D7)
 have e1 := add_two A7 D7
 rw [← hS] at e1
 have lS : S7 < 4294967296 := by rw [hS]; exact add32_lt _ _
 have KK := hDx (And.intro hA (And.intro hD hS))
 have KS := hDx lS
 clear hA hD hS lA lB lS
 go_still_tail 8, (by kernel_rfl)
 go_wp2_with fail
 rw [e1]
 obtain ⟨w7, hw2⟩ := nm ((w6.setCell ⟨B, c, none⟩ (.int .u32 S7)).drew)
 rw [← hw2]
 have R2 := (HB6.out.1.set c S7 hc KS.out).drew
 have O2 := (HB6.out.2.setCell c (.int .u32 S7)).drew
 rw [← hw2] at R2 O2
 obtain ⟨v7, hv2⟩ := nm (v6.set c S7)
 rw [← hv2] at R2
 rw [KK.out.2.2, KK.out.1, KK.out.2.1] at hv2
 have HB7 := hDx (And.intro R2 O2)
 have V7 := hDx hv2
 clear hw2 R2 O2 hv2 ca cb f1 KK KS e1
 have ca := HB7.out.1.cell b hb
 have cb := HB7.out.1.cell c hc
 have f1 := HB7.out.1.drew.fz b
 have lA := HB7.out.1.lt b
 have lB := HB7.out.1.lt c
 obtain ⟨A8, hA⟩ := nm (at_ v7 b)
 obtain ⟨D8, hD⟩ := nm (at_ v7 c)
 rw [← hA] at ca lA
 rw [← hD] at cb lB
 obtain ⟨X8, hX⟩ := nm (A8 ^^^ D8)
 have lX : X8 < 4294967296 := by rw [hX]; exact xor32_lt _ _ lA lB
 have e2 := u32_xor_nat A8 D8 lA lB
 rw [← hX] at e2
 obtain ⟨S8, hS⟩ := nm (rotr X8 7)
 have lS : S8 < 4294967296 := by rw [hS]; exact rotr_lt _ _ lX
 rw [hX] at hS
 have KK := hDx (And.intro hA (And.intro hD hS))
 have KS := hDx lS
 have KX := hDx (And.intro lX hX)
 clear hA hD hS lA lB lS lX hX
 go_still_tail 13, (by kernel_rfl)
 still_call (rotl_any X8 7 (-7) _ KX.out.1 (by simp))
 rw [show rotr X8 7 = S8 by rw [KX.out.2]; exact KK.out.2.2.symm]
 repeat still_step
 refine wpStill_nil ?_
 go_wp2_with fail
 obtain ⟨w8, hw2⟩ := nm ((w7.setCell ⟨B, b, none⟩ (.int .u32 S8)).drew)
 rw [← hw2]
 have R2 := (HB7.out.1.set b S8 hb KS.out).drew
 have O2 := (HB7.out.2.setCell b (.int .u32 S8)).drew
 rw [← hw2] at R2 O2
 obtain ⟨v8, hv2⟩ := nm (v7.set b S8)
 rw [← hv2] at R2
 rw [KK.out.2.2, KK.out.1, KK.out.2.1] at hv2
 have HB8 := hDx (And.intro R2 O2)
 have V8 := hDx hv2
 clear hw2 R2 O2 hv2 ca cb f1 KK KS KX e2
 rw [rounds_succ]
 go_wp2_with fail
 go_end0
 have E1 : v4 = half v a b c d x 16 12 := by rw [V4.out, V3.out, V2.out, V1.out]; rfl
 have E2 : v8 = half v4 a b c d y 8 7 := by rw [V8.out, V7.out, V6.out, V5.out]; rfl
 have E3 : v8 = mixL v a b c d x y := by rw [E2, E1]; rfl
 rw [E3] at HB8
 exact ⟨rfl, HB8.out.1, HB8.out.2⟩
end Go.Proofs.YtoplbfijodebmaaGreatDoor
