/-
  The walk.
-/
import Derived.Test.YtoplbfijodebmaaGreatDoorM37DA
import Derived.Test.YtoplbfijodebmaaGreatDoorM25RG
import Derived.Test.YtoplbfijodebmaaGreatDoorM32CH
import Derived.Test.YtoplbfijodebmaaGreatDoorM30CG
import Derived.Test.YtoplbfijodebmaaGreatDoorM34PH
set_option linter.unusedVariables false
set_option linter.unusedSimpArgs false
set_option maxRecDepth 100000
set_option maxHeartbeats 40000000
namespace Go.Proofs.YtoplbfijodebmaaGreatDoor
section
open Go.RowKit T
theorem eigh_i (n k : Nat) (hk : k < 8) : ∃ m Z By : Nat, IntKind.i64.wrap (8 * (k : Int)) = m ∧ wrap64 (8 * (k : Int)) = m ∧ IntKind.u64.wrap (m : Int) = m ∧ Op.shift .shr .u64 (n : Int) .u64 (m : Int) = pure (.int .u64 (Z : Int)) ∧ IntKind.u8.wrap (Z : Int) = By ∧ (upF (leF n) 8 k).set k (By : Int) = upF (leF n) 8 (k + 1) := by
 obtain ⟨a1, a2⟩ := i64w (x := 8 * (k : Int)) (n := 8 * k) (by omega) (by omega)
 refine ⟨8 * k, n / 2 ^ (8 * k), n / 2 ^ (8 * k) % 256, a2, a1, u64w rfl (by omega), ?_, u8w _, ?_⟩
 ·have h : ((n : Int) / 2 ^ (8 * k)) = ((n / 2 ^ (8 * k) : Nat) : Int) := by simp
  rw [shift_shr _ _ _ _ (by omega) (by show ((8 * k : Nat) : Int) ≤ 64; omega), Int.toNat_natCast, h]
 rw [← upF_set _ _ _ hk]
 congr 1
 unfold leF
 rw [show 256 ^ k = 2 ^ (8 * k) by rw [Nat.pow_mul]]
theorem eight_any (n : Nat) (w : World) : Calls Tryz.prog 45 #[.int .u64 (n : Int)] w fun e w' => e = .returned (.string (leS n 8)) ∧ Below w.heap.size w w' := by
 go_enter Tryz.func45, Tryz.ntmps45
 have HK0 := hDx (KS.start w)
 go_upto_region 2 with (fail)
 have hm1 := (HK0.out.made (.cells ZRu8x8 125))
 obtain ⟨B, hgB⟩ := nm w.heap.size
 obtain ⟨ww1, hv1⟩ := nm (World.alloc w (.cells ZRu8x8 125))
 rw [← hv1, ← hgB] at hm1
 rw [← hv1]
 try rw [← hgB]
 have HK1 : Hid (KS [(B, .cells (lk .u8 (upF (leF n) 8 0)) 125)] [] w ww1) := hDx hm1
 clear hm1 hv1 hgB
 go_wp2_with (fail)
 go_loopw [5] (fun vS wr => ∃ k : Nat, k ≤ 8 ∧ vS = .int .i64 (k : Int) ∧ KS [(B, .cells (lk .u8 (upF (leF n) 8 k)) 125)] [] w wr) (fun vS _ => 8 - (intOf vS).toNat)
 case atStart => exact ⟨0, Nat.zero_le _, rfl, HK1.out⟩
 obtain ⟨k, hk, rfl, HK⟩ := hrel
 have HK2 := hDx HK
 clear HK
 by_cases hlt : k < 8
 ·have hk1 : (0 : Int) ≤ k := by omega
  have hk2 : (k : Int) < 8 := by omega
  obtain ⟨hk3, hk4⟩ := i64w (x := (k : Int) + 1) (n := k + 1) (by omega) (by omega)
  obtain ⟨m, Z, By, m1, m2, m3, hZ, hG, hs⟩ := eigh_i n k hlt
  have lB := upF_len (leF n) 8 k
  obtain ⟨V, hV⟩ := nm (upF (leF n) 8 k)
  rw [← hV] at HK2 lB hs
  have HJ := hDx hs
  clear hs hV
  have fb := (HK2.out.rk 0 rfl lB).fz
  have cb := (HK2.out.rk 0 rfl lB).cell k hlt
  go_upto_region 6 with (with_reducible show Oper.wp _ _ _ _ _ _; refine wp_shift hZ (Or.inl rfl) rfl rfl rfl ?_)
  obtain ⟨ww3, hv3⟩ := nm (World.setCell wr ⟨B, k, none⟩ (.int .u8 ((By : Int))))
  have HK3 : Hid (KS [(B, .cells (lk .u8 (V.set k (By : Int))) 125)] [] w ww3) := by rw [hv3]; exact hDx (HK2.out.setK 0 rfl k ((By : Int)))
  rw [← hv3]
  clear hv3
  clear cb fb
  go_wp2_with fail
  go_roundw
  case rel =>
   exact ⟨k + 1, hlt, by first | rfl | go_num, by rw [← HJ.out]; exact HK3.out⟩
  first | exact measI _ _ hlt | (simp [intOf]; omega)
 obtain rfl : k = 8 := by omega
 try simp only [Int.cast_ofNat_Int]
 have FB := (HK2.out.rk 0 rfl (upF_len _ _ _))
 have hcv := FB.conv 8
 rw [show strOfNums (upF (leF n) 8 8) = leS n 8 from rfl] at hcv
 go_wp2_with fail
 go_ret
 exact ⟨rfl, HK2.out.below⟩
def nonS (n : Nat) : ByteArray := zeroB 4 ++ leS n 8
theorem nonS_size (n : Nat) : (nonS n).size = 12 := by rw [nonS, ByteArray.size_append, leS_size, show (zeroB 4).size = 4 from rfl]
end
section
open Go.RowKit T
theorem calm_sl {P : Program} {F : Tmp → Fct} {fr : List Tmp} {o : Oper} {a : Act} {u : World} (d : Tmp) (n : Nat) (ob : Obj) (hd : o.dst = some d) (hr : (execOp a.eval o).run P u = .ok (.value (.slice (some ⟨u.heap.size, 0, none⟩) n n)) (u.alloc ob)) (hF : F d = Fct.sl n ob) (hn : fr.contains d = false) :
  o.wp P a u (fun a' u' => ∃ v d, o.dst = some d ∧ a' = a.put (some d) v ∧ (F d).p v u' ∧ Below u.heap.size u u' ∧ (d ∈ fr → Newer u u' v)) (fun _ _ _ => False) := by
 unfold Oper.wp
 rw [hr]
 exact ⟨_, d, hd, by rw [hd], by rw [hF]; exact ⟨_, rfl, heap_alloc_last u ob⟩, (Below.refl _ _).alloc (Nat.le_refl _) ob, fun h => by simp at hn; exact absurd h hn⟩
theorem conv_zi {u : World} {g m : Nat} (h : u.heap[g]? = some (.cells (lk .u8 (zi m)) 5)) (cap : Nat) : (convert 52 9 (.slice (some ⟨g, 0, none⟩) m cap)).run Tryz.prog u = .ok (.string (zeroB m)) u := by
 have hk : KS [(g, .cells (lk .u8 (zi m)) 5)] [g] u u := KS.startX u h
 have := (hk.rk 0 rfl (zi_len m)).conv cap
 rw [zi_conv] at this
 exact this
theorem addS4 (n : Nat) : zeroB 4 ++ leS n 8 = nonS n := rfl
theorem nonce_any (n : Nat) (w : World) : Calls Tryz.prog 24 #[.int .u64 (n : Int)] w fun e w' => e = .returned (.string (nonS n)) ∧ Below w.heap.size w w' := by
 have addS := addS4 n
 go_enter Tryz.func24, Tryz.ntmps24
 have HK0 := hDx (KS.start w)
 go_upto_region 1 with (fail)
 try simp only [Act.put, sAx, s0x, s1x]
 refine wp_region_calm 5 [3, 4, 5, 6, 7] [] [[], [3], [], [5], [4, 6]] (Ftab [(3, .sl 4 (.cells (lk .u8 (zi 4)) 5)), (4, .val (.string (zeroB 4))), (5, .val (.int .u64 (n : Int))), (6, .val (.string (leS n 8))), (7, .val (.string (nonS n)))]) (by kernel_rfl) (by kernel_rfl) (by rfl) (by kernel_rfl) ?hO ?hE
 case hO =>
  refine ⟨?_, ?_, ?_, ?_, ?_, trivial⟩
  ·intro act u HB HO HA
   have hmk := make_u8 4 (by decide) u
   simp only [Int.cast_ofNat_Int] at hmk
   refine calm_sl 3 4 (.cells (lk .u8 (zi 4)) 5) rfl ?_ rfl rfl
   go_simp
  ·intro act u HB HO HA
   obtain ⟨g3, e3, b3⟩ : (Fct.sl 4 (.cells (lk .u8 (zi 4)) 5)).p (act.eval (.tmp 3)) u := qA HA 3
   have hcv := conv_zi b3 4
   refine calm_val 4 _ rfl ?_ rfl rfl
   clear HB HO HA
   simp only [Act.eval, gDx] at e3
   go_simp
  ·intro act u HB HO HA
   have e0 := gE (x := .int .u64 (n : Int)) (HO 0 (by decide))
   refine calm_val 5 _ rfl ?_ rfl rfl
   clear HB HO HA
   go_simp
   try rfl
  ·intro act u HB HO HA
   have e5 : _ = _ := qA HA 5
   refine calm_call 6 #[.int .u64 (n : Int)] rfl rfl ?_ (by kernel_rfl) (eight_any n u) ?_ rfl
   ·simp only [mTx, mCx, mNx, e5]
    try rfl
   rintro e u1 ⟨rfl, B1⟩
   exact ⟨_, rfl, rfl, B1⟩
  intro act u HB HO HA
  have e4 : _ = _ := gE (qA HA 4)
  have e6 : _ = _ := gE (qA HA 6)
  refine calm_val 7 _ rfl ?_ rfl rfl
  clear HB HO HA
  go_simp
  rw [show (zeroB 4).size = 4 from rfl, leS_size]
  decide
 intro vT ww1 HB HF HN
 obtain ⟨g3, f3, b3⟩ : (Fct.sl 4 (.cells (lk .u8 (zi 4)) 5)).p (vT 3) ww1 := qA HF 3
 clear b3
 have f4 : _ = _ := qA HF 4
 have f5 : _ = _ := qA HF 5
 have f6 : _ = _ := qA HF 6
 have f7 : _ = _ := qA HF 7
 have HK1 := hDx (HK0.out.drew.call HB)
 simp only [fill, Act.put, sAx, s0x, s1x, dSx, d0x, f3, f4, f5, f6, f7]
 clear HB HF HN f3 f4 f5 f6 f7
 go_wp2_with fail
 go_ret
 exact ⟨rfl, HK1.out.below⟩
def padN (s : ByteArray) : Nat := (16 - s.size % 16) % 16
theorem padN_le (s : ByteArray) : padN s < 16 := Nat.mod_lt _ (by decide)
theorem zeroB_size (n : Nat) : (zeroB n).size = n := by simp [zeroB, ByteArray.size]
theorem pad_i (s : ByteArray) (hs : s.size ≤ 200000) : ∃ r d m : Nat, m = padN s ∧ binOp .rem 3 (.int .i64 (s.size : Int)) (.int .i64 16) = pure (.int .i64 (r : Int)) ∧ IntKind.i64.wrap (16 - (r : Int)) = d ∧ wrap64 (16 - (r : Int)) = d ∧ binOp .rem 3 (.int .i64 (d : Int)) (.int .i64 16) = pure (.int .i64 (m : Int)) ∧ m ≤ 1000000 ∧
  IntKind.u64.wrap (s.size : Int) = s.size := by
 obtain ⟨a1, a2⟩ := i64w (x := 16 - ((s.size % 16 : Nat) : Int)) (n := 16 - s.size % 16) (by omega) (by omega)
 exact ⟨s.size % 16, 16 - s.size % 16, (16 - s.size % 16) % 16, rfl, rem_i 3 _ 16 _ (by decide) rfl (by omega), a2, a1, rem_i 3 _ 16 _ (by decide) rfl (by omega), by omega, u64w rfl (by omega)⟩
def orN (a b : ByteArray) : Nat → Nat
 | 0 => 0
 | i + 1 => orN a b i ||| (bt a i ^^^ bt b i)
theorem orN_lt (a b : ByteArray) : ∀ i, orN a b i < 256
 | 0 => by unfold orN; decide
 | i + 1 => Nat.or_lt_two_pow (n := 8) (orN_lt a b i) (xor_lt8 _ _ (bt_lt _ _) (bt_lt _ _))
theorem or_zero (x y : Nat) : x ||| y = 0 ↔ x = 0 ∧ y = 0 := by
 constructor
 ·intro h
  have h1 : ∀ i, (x ||| y).testBit i = false := fun i => by rw [h]; exact Nat.zero_testBit i
  constructor
  ·apply Nat.eq_of_testBit_eq; intro i
   have := h1 i
   rw [Nat.testBit_or, Bool.or_eq_false_iff] at this
   rw [this.1, Nat.zero_testBit]
  apply Nat.eq_of_testBit_eq; intro i
  have := h1 i
  rw [Nat.testBit_or, Bool.or_eq_false_iff] at this
  rw [this.2, Nat.zero_testBit]
 rintro ⟨rfl, rfl⟩; rfl
theorem xor_zero (x y : Nat) : x ^^^ y = 0 ↔ x = y := by
 constructor
 ·intro h
  apply Nat.eq_of_testBit_eq; intro i
  have h1 : (x ^^^ y).testBit i = false := by rw [h]; exact Nat.zero_testBit i
  rw [Nat.testBit_xor] at h1
  revert h1
  cases x.testBit i <;> cases y.testBit i <;> simp
 rintro rfl; exact Nat.xor_self _
theorem orN_zero (a b : ByteArray) : ∀ i, orN a b i = 0 ↔ ∀ j, j < i → bt a j = bt b j
 | 0 => ⟨fun _ j h => absurd h (Nat.not_lt_zero j), fun _ => rfl⟩
 | i + 1 => by
  rw [orN, or_zero, xor_zero, orN_zero a b i]
  constructor
  ·rintro ⟨h, h2⟩ j hj
   rcases Nat.lt_or_ge j i with h3 | h3
   ·exact h j h3
   ·rw [show j = i by omega]; exact h2
  ·intro h
   exact ⟨fun j hj => h j (by omega), h i (by omega)⟩
theorem orN_same (a b : ByteArray) (ha : a.size = 16) (hb : b.size = 16) : orN a b 16 = 0 ↔ a = b := by
 rw [orN_zero]
 constructor
 ·intro h
  exact str_ext (by rw [ha, hb]) fun i hi => h i (by omega)
 rintro rfl _ _; rfl
theorem same_i (a b : ByteArray) (k c : Nat) (hc : c = orN a b k) : ∃ x y z d : Nat, bt a k = x ∧ bt b k = y ∧ bits .xor .u8 (x : Int) (y : Int) = (z : Int) ∧ bits .or .u8 (c : Int) (z : Int) = (d : Int) ∧ orN a b (k + 1) = d := by
 subst hc
 refine ⟨_, _, bt a k ^^^ bt b k, orN a b k ||| (bt a k ^^^ bt b k), rfl, rfl, u8_xor_nat _ _ (bt_lt _ _) (bt_lt _ _), u8_or_nat _ _ (orN_lt _ _ _) (xor_lt8 _ _ (bt_lt _ _) (bt_lt _ _)), rfl⟩
theorem same_any (a b : ByteArray) (w : World) (ha : a.size = 16) (hb : b.size = 16) : Calls Tryz.prog 51 #[.string a, .string b] w fun e w' => e = .returned (.bool (decide (a = b))) ∧ Below w.heap.size w w' := by
 have HS := hDx (orN_same a b ha hb)
 go_enter Tryz.func51, Tryz.ntmps51
 have HK0 := hDx (KS.start w)
 go_upto_region 3 with (fail)
 go_loopw [5, 12] (fun vD vS wr => ∃ k : Nat, k ≤ 16 ∧ vS = .int .i64 (k : Int) ∧ (∃ c : Nat, c = orN a b k ∧ vD = .int .u8 (c : Int)) ∧ KS [] [] w wr) (fun vD vS _ => 16 - (intOf vS).toNat)
 case atStart => exact ⟨0, Nat.zero_le _, rfl, ⟨0, rfl, rfl⟩, HK0.out⟩
 obtain ⟨k, hk, rfl, ⟨c, hc, rfl⟩, HK⟩ := hrel
 have HK1 := hDx HK
 clear HK
 by_cases hlt : k < 16
 ·have hk1 : (0 : Int) ≤ k := by omega
  have hk2 : (k : Int) < 16 := by omega
  obtain ⟨hk3, hk4⟩ := i64w (x := (k : Int) + 1) (n := k + 1) (by omega) (by omega)
  obtain ⟨x, y, zz, d, hx, hy, e1, e2, e3⟩ := same_i a b k c hc
  have i1 := fun u => idxS (s := a) (k := k) (by omega) u
  have i2 := fun u => idxS (s := b) (k := k) (by omega) u
  rw [hx] at i1
  rw [hy] at i2
  have H3 := hDx e3
  clear hx hy hc e3
  go_upto_region 5 with (fail)
  go_still (by kernel_rfl)
  go_wp2_with fail
  go_roundw
  case rel =>
   exact ⟨k + 1, hlt, by first | rfl | go_num, ⟨d, H3.out.symm, rfl⟩, HK1.out.drew⟩
  first | exact measI _ _ hlt | (simp [intOf]; omega)
 obtain rfl : k = 16 := by omega
 try simp only [Int.cast_ofNat_Int]
 rw [← hc] at HS
 clear hc
 by_cases h0 : c = 0
 ·have he := HS.out.1 h0
  subst h0
  go_wp2_with fail
  go_ret
  exact ⟨by first | rfl | (rw [decide_eq_true he]; rfl), HK1.out.below⟩
 have he : ¬ a = b := fun e => h0 (HS.out.2 e)
 have h1 : ¬ (c : Int) = 0 := fun e => h0 (by omega)
 go_wp2_with fail
 go_ret
 exact ⟨by first | rfl | (rw [decide_eq_false he]; rfl), HK1.out.below⟩
end
section
open Go.RowKit T
structure Two (w0 : World) (b1 b2 : Nat) (v1 v2 : Value) (s1 s2 : ByteArray) (w : World) : Prop where
 one : Bdr b1 v1 s1 w
 two : Bdr b2 v2 s2 w
 ne : b1 ≠ b2
 dis : ∀ g, v1.ownBlock = some g → v2.ownBlock ≠ some g
 l1 : w0.heap.size ≤ b1
 l2 : w0.heap.size ≤ b2
 g1 : ∀ g, v1.ownBlock = some g → w0.heap.size ≤ g
 g2 : ∀ g, v2.ownBlock = some g → w0.heap.size ≤ g
 below : Below w0.heap.size w0 w
theorem Bdr.other {b c : Nat} {v u : Value} {s t : ByteArray} {w : World} (h : Bdr b v s w) (k : Bdr c u t w) : v.ownBlock ≠ some c := by
 obtain ⟨p, _, hp⟩ := k.p
 exact Lib.ownBlock_ne h.own hp (by decide)
theorem Tu.below {B b : Nat} {v v' : Value} {w0 w w' : World} (h : Tu b v v' w w') (hb : B ≤ b) (hg : ∀ g, v.ownBlock = some g → B ≤ g) (hw : Below B w0 w) (hB : B ≤ w.heap.size) : Below B w0 w' :=
 hw.trans ⟨h.os, h.tape, h.output, h.size, fun k hk => h.block k (by omega) (by omega) (fun e => by have := hg k e; omega)⟩
namespace Two
variable {w0 w w' : World} {b1 b2 : Nat} {v1 v2 v : Value} {s1 s2 s : ByteArray}
theorem big (h : Two w0 b1 b2 v1 v2 s1 s2 w) : w0.heap.size ≤ w.heap.size := h.below.size
theorem step1 (h : Two w0 b1 b2 v1 v2 s1 s2 w) (hb : Bdr b1 v s w') (ht : Tu b1 v1 v w w') : Two w0 b1 b2 v v2 s s2 w' := by
 refine ⟨hb, h.two.keep (ht.block _ h.two.lt h.ne.symm (h.one.other h.two)) (fun g hg => ht.block _ (h.two.ltv hg) (fun e => h.two.other h.one (e ▸ hg)) (fun e => h.dis g e hg)), h.ne, fun g hg hg2 => ?_, h.l1, h.l2, fun g hg => ?_, h.g2, ht.below h.l1 h.g1 h.below h.big⟩
 ·rcases ht.trk g hg with e | e
  ·exact h.dis g e hg2
  have := h.two.ltv hg2; omega
 rcases ht.trk g hg with e | e
 ·exact h.g1 g e
 have := h.big; omega
theorem step2 (h : Two w0 b1 b2 v1 v2 s1 s2 w) (hb : Bdr b2 v s w') (ht : Tu b2 v2 v w w') : Two w0 b1 b2 v1 v s1 s w' := by
 refine ⟨h.one.keep (ht.block _ h.one.lt h.ne (h.two.other h.one)) (fun g hg => ht.block _ (h.one.ltv hg) (fun e => h.one.other h.two (e ▸ hg)) (fun e => h.dis g hg e)), hb, h.ne, fun g hg hg2 => ?_, h.l1, h.l2, h.g1, fun g hg => ?_, ht.below h.l2 h.g2 h.below h.big⟩
 ·rcases ht.trk g hg2 with e | e
  ·exact h.dis g hg e
  have := h.one.ltv hg; omega
 rcases ht.trk g hg with e | e
 ·exact h.g2 g e
 have := h.big; omega
theorem call (h : Two w0 b1 b2 v1 v2 s1 s2 w) (hw : Below w.heap.size w w') : Two w0 b1 b2 v1 v2 s1 s2 w' :=
 ⟨h.one.keep (hw.block _ h.one.lt) (fun g hg => hw.block _ (h.one.ltv hg)), h.two.keep (hw.block _ h.two.lt) (fun g hg => hw.block _ (h.two.ltv hg)), h.ne, h.dis, h.l1, h.l2, h.g1, h.g2, h.below.trans (hw.mono h.big)⟩
theorem start (w : World) : Two w w.heap.size (w.heap.size + 1) (.slice none 0 0) (.slice none 0 0) .empty .empty ((w.alloc (.cells #[.pointer none, .slice none 0 0] 166)).alloc (.cells #[.pointer none, .slice none 0 0] 166)) := by
 refine ⟨⟨⟨_, Or.inl rfl, ?_⟩, World.ownsRow_nil _ _ _ _, Or.inl rfl⟩, ⟨⟨_, Or.inl rfl, ?_⟩, World.ownsRow_nil _ _ _ _, Or.inl rfl⟩, by omega, fun g hg => (by simp [Value.ownBlock] at hg), Nat.le_refl _, by omega, fun g hg => (by simp [Value.ownBlock] at hg), fun g hg => (by simp [Value.ownBlock] at hg), ((Below.refl _ w).alloc (Nat.le_refl _) _).alloc (by simp) _⟩
 ·rw [Lib.alloc_old _ _ _ (by simp), heap_alloc_last]
 have := heap_alloc_last (w.alloc (.cells #[.pointer none, .slice none 0 0] 166)) (.cells #[.pointer none, .slice none 0 0] 166)
 rw [World.size_alloc] at this
 exact this
end Two
def selS (a c : ByteArray) (i : Nat) : ByteArray := if i = 0 then a else c
def txS (a c : ByteArray) : Nat → ByteArray
 | 0 => .empty
 | i + 1 => txS a c i ++ selS a c i ++ zeroB (padN (selS a c i))
def lgS (a c : ByteArray) : Nat → ByteArray
 | 0 => .empty
 | i + 1 => lgS a c i ++ leS (selS a c i).size 8
def padS (a c : ByteArray) : ByteArray := txS a c 2 ++ lgS a c 2
theorem txS_size (a c : ByteArray) (M : Nat) (ha : a.size ≤ M) (hc : c.size ≤ M) : ∀ i, (txS a c i).size ≤ i * (M + 16)
 | 0 => by rw [txS]; exact Nat.zero_le _
 | i + 1 => by
  have h1 := txS_size a c M ha hc i
  have h2 := padN_le (selS a c i)
  have h3 : (selS a c i).size ≤ M := by unfold selS; split <;> assumption
  rw [txS, ByteArray.size_append, ByteArray.size_append, zeroB_size, Nat.add_mul]
  omega
theorem lgS_size (a c : ByteArray) : ∀ i, (lgS a c i).size = 8 * i
 | 0 => rfl
 | i + 1 => by rw [lgS, ByteArray.size_append, lgS_size a c i, leS_size]; omega
theorem padS_size (a c : ByteArray) (M : Nat) (ha : a.size ≤ M) (hc : c.size ≤ M) : (padS a c).size ≤ 2 * M + 64 := by
 have h := txS_size a c M ha hc 2
 rw [padS, ByteArray.size_append, lgS_size]
 omega
theorem pd_i (a c : ByteArray) (ha : a.size ≤ 66000) (hc : c.size ≤ 66000) (i : Nat) (hi : i < 2) : (txS a c i).size + (selS a c i).size ≤ 1000000 ∧ (txS a c i ++ selS a c i).size + padN (selS a c i) ≤ 1000000 ∧ (lgS a c i).size + (leS (selS a c i).size 8).size ≤ 1000000 ∧ (selS a c i).size ≤ 200000 := by
 have h1 := txS_size a c 66000 ha hc i
 have h2 := padN_le (selS a c i)
 have h3 : (selS a c i).size ≤ 66000 := by unfold selS; split <;> assumption
 have h4 := lgS_size a c i
 rw [ByteArray.size_append, leS_size, h4]
 have h5 : i * (66000 + 16) ≤ 1 * 66016 := Nat.mul_le_mul (by omega) (by omega)
 omega
theorem two_i (i : Nat) (hi : i < 2) : (0 : Int) ≤ i ∧ (i : Int) < 2 ∧ wrap64 ((i : Int) + 1) = ((i + 1 : Nat) : Int) ∧ IntKind.i64.wrap ((i : Int) + 1) = ((i + 1 : Nat) : Int) ∧ 2 - (intOf (.int .i64 ((i + 1 : Nat) : Int))).toNat < 2 - (intOf (.int .i64 (i : Int))).toNat := by
 obtain ⟨a1, a2⟩ := i64w (x := (i : Int) + 1) (n := i + 1) (by omega) (by omega)
 refine ⟨by omega, by omega, a1, a2, ?_⟩
 simp only [intOf, Int.toNat_natCast]
 omega
theorem two_end (i : Nat) (h : i ≤ 2) (h2 : ¬ i < 2) : i = 2 := by omega
theorem addS2 (a c : ByteArray) (ha : a.size ≤ 66000) (hc : c.size ≤ 66000) : (txS a c 2).size + (lgS a c 2).size ≤ 9223372036854775807 := by
 have h := txS_size a c 66000 ha hc 2
 rw [lgS_size]
 omega
theorem padded_any (a c : ByteArray) (r : Nat) (w : World) (hr : w.heap[r]? = some (.cells #[.string a, .string c] 9)) (ha : a.size ≤ 66000) (hc : c.size ≤ 66000) :
  Calls Tryz.prog 68 #[.slice (some ⟨r, 0, none⟩) 2 2] w fun e w' => e = .returned (.string (padS a c)) ∧ Below w.heap.size w w' := by
 have HA := hDx (And.intro ha hc)
 have HR := hDx hr
 clear ha hc hr
 go_enter Tryz.func68, Tryz.ntmps68
 go_upto_region 2 with (fail)
 obtain ⟨b1, hb1⟩ := nm w.heap.size
 obtain ⟨b2, hb2⟩ := nm (w.heap.size + 1)
 obtain ⟨W0, hW0⟩ := nm ((w.alloc (.cells #[.pointer none, .slice none 0 0] 166)).alloc (.cells #[.pointer none, .slice none 0 0] 166))
 have h0 : Two w b1 b2 (.slice none 0 0) (.slice none 0 0) .empty .empty W0 := by rw [hb1, hb2, hW0]; exact Two.start w
 have H0 := hDx h0
 rw [← hW0, ← hb2, ← hb1]
 clear hb1 hb2 hW0 h0
 go_wp2_with (fail)
 go_loopw [9] (fun vS wr => ∃ i : Nat, i ≤ 2 ∧ vS = .int .i64 (i : Int) ∧ ∃ v1 v2, Two w b1 b2 v1 v2 (txS a c i) (lgS a c i) wr) (fun vS _ => 2 - (intOf vS).toNat)
 case atStart => exact ⟨0, Nat.zero_le _, rfl, _, _, H0.out⟩
 obtain ⟨i, hi, rfl, v1, v2, h1⟩ := hrel
 have H1 := hDx h1
 clear h1 H0
 by_cases hlt : i < 2
 ·obtain ⟨g1, g2, g3, g4, hm⟩ := two_i i hlt
  obtain ⟨k1, k2, k3, k4⟩ := pd_i a c HA.out.1 HA.out.2 i hlt
  have hcell : wr.cell? ⟨r, i, none⟩ = some (.string (selS a c i)) := by
   rw [Lib.cell_of_heap ((H1.out.below.block r (lt_heap HR.out)).trans HR.out)]
   match i, hlt with
   | 0, _ => rfl
   | 1, _ => rfl
  obtain ⟨x, hx⟩ := nm (selS a c i)
  rw [← hx] at hcell k1 k2 k3 k4
  obtain ⟨q, d, m, hpm, p1, p2, p3, p4, p5, p6⟩ := pad_i x k4
  rw [← hpm] at k2
  have HM := hDx (And.intro hlt (And.intro hm (And.intro hx hpm)))
  have HK := hDx (And.intro k1 (And.intro k2 k3))
  have hmk := fun u => make_u8 m p5 u
  clear hi hlt hm hx hpm k1 k2 k3 k4 p5
  go_wp2_with (go_at_call 97; refine (wstr_any b1 v1 (txS a c i) x _ H1.out.one HK.out.1).mono ?_)
  rintro e w1 ⟨rfl, v3, h3, t3⟩
  have H3 := hDx (H1.out.step1 h3 t3)
  clear h3 t3 H1 hcell
  simp only []
  go_wp2_with (first | (with_reducible show Oper.wp _ _ _ _ _ _; refine wp_bin p1 rfl rfl rfl ?_) | (with_reducible show Oper.wp _ _ _ _ _ _; refine wp_bin p4 rfl rfl rfl ?_) | (go_at_call 98; refine (wrow_any b1 v3 (txS a c i ++ x) w1.heap.size m m _ (H3.out.call ((Below.refl _ w1).alloc (Nat.le_refl _) _)).one (heap_alloc_last w1 _) (fun e => Nat.lt_irrefl _ (H3.out.one.ltv e)) HK.out.2.1).mono ?_))
  rintro e w2 ⟨rfl, v4, h4, t4⟩
  have H4 := hDx ((H3.out.call ((Below.refl _ w1).alloc (Nat.le_refl _) _)).step1 h4 t4)
  clear h4 t4 H3 hmk p1 p2 p3 p4
  simp only []
  go_wp2_with (go_at_call 45; refine (eight_any x.size _).mono ?_)
  rintro e w3 ⟨rfl, B3⟩
  have H5 := hDx (H4.out.call B3)
  clear B3 H4
  simp only []
  go_wp2_with (go_at_call 97; refine (wstr_any b2 v2 (lgS a c i) (leS x.size 8) _ H5.out.two HK.out.2.2).mono ?_)
  rintro e w4 ⟨rfl, v5, h6, t6⟩
  have H6 := hDx (H5.out.step2 h6 t6)
  clear h6 t6 H5
  simp only []
  go_wp2_with (fail)
  go_roundw
  case rel =>
   refine ⟨i + 1, HM.out.1, by first | rfl | go_num, v4, v5, ?_⟩
   rw [txS, lgS, ← HM.out.2.2.1, ← HM.out.2.2.2]
   exact H6.out
  exact HM.out.2.1
 obtain rfl := two_end i hi hlt
 have hsz := addS2 a c HA.out.1 HA.out.2
 have hadd : txS a c 2 ++ lgS a c 2 = padS a c := rfl
 clear hi hlt
 go_wp2_with (go_at_call 99; refine (str_any b1 v1 (txS a c 2) _ H1.out.one).mono ?_)
 rintro e w1 ⟨rfl, t1⟩
 have hB2 : Bdr b2 v2 (lgS a c 2) w1 := H1.out.two.keep (t1.block _ H1.out.two.lt H1.out.ne.symm (H1.out.one.other H1.out.two)) (fun g hg => t1.block _ (H1.out.two.ltv hg) (fun e => H1.out.two.other H1.out.one (e ▸ hg)) (fun e => H1.out.dis g e hg))
 have HB := hDx (t1.below H1.out.l1 H1.out.g1 H1.out.below H1.out.big)
 clear t1
 have H2 := hDx hB2
 clear hB2
 simp only []
 go_wp2_with (go_at_call 99; refine (str_any b2 v2 (lgS a c 2) _ H2.out).mono ?_)
 rintro e w2 ⟨rfl, t2⟩
 have HC := hDx (t2.below H1.out.l2 H1.out.g2 HB.out HB.out.size)
 clear t2
 simp only []
 go_wp2_with (fail)
 go_ret
 exact ⟨rfl, HC.out⟩
end
section
open Go.RowKit T
theorem run_adds {o : Oper} {a : Act} {w : World} {x y : Operand} {s t : ByteArray} (ho : o.op = .binOp .add 9 x y 9) (hx : a.eval x = .string s) (hy : a.eval y = .string t) (h : s.size + t.size ≤ 9223372036854775807) :
  (execOp a.eval o).run Tryz.prog w = .ok (.value (.string (s ++ t))) w := by
 have h1 := addS s t h
 unfold execOp
 simp only [ho, hx, hy]
 go_simp
theorem run_extr {P : Program} {o : Oper} {a : Act} {w : World} {x : Operand} {i : Nat} {vs : Array Value} {v : Value} (ho : o.op = .extract x i) (hx : a.eval x = .tuple vs) (h : vs[i]? = some v) : (execOp a.eval o).run P w = .ok (.value v) w := by
 unfold execOp
 simp only [ho, hx]
 simp [Instr.extract, h]
def atagS (key nonce a c : ByteArray) : ByteArray := tagS ((blkS key nonce 0).extract 0 32) (padS a c)
theorem ex32 {B : ByteArray} (h : B.size = 64) : (B.extract 0 32).size = 32 := by rw [ByteArray.size_extract, h]; rfl
theorem ex32i {B : ByteArray} (h : B.size = 64) : (32 : Int) ≤ B.size := by omega
theorem tg_sz (a c : ByteArray) (ha : a.size ≤ 66000) (hc : c.size ≤ 66000) : a.size + (zeroB (padN a)).size ≤ 9223372036854775807 ∧ (a ++ zeroB (padN a)).size + c.size ≤ 9223372036854775807 ∧ (a ++ zeroB (padN a) ++ c).size + (zeroB (padN c)).size ≤ 9223372036854775807 ∧
  (a ++ zeroB (padN a) ++ c ++ zeroB (padN c)).size + (leS a.size 8).size ≤ 9223372036854775807 ∧ (a ++ zeroB (padN a) ++ c ++ zeroB (padN c) ++ leS a.size 8).size + (leS c.size 8).size ≤ 9223372036854775807 ∧ a.size ≤ 200000 ∧ c.size ≤ 200000 ∧ IntKind.u64.wrap (a.size : Int) = a.size ∧ IntKind.u64.wrap (c.size : Int) = c.size ∧ (padS a c).size ≤ 200000 := by
 have h1 := padN_le a
 have h2 := padN_le c
 have h3 := padS_size a c 66000 ha hc
 simp only [ByteArray.size_append, zeroB_size, leS_size]
 exact ⟨by omega, by omega, by omega, by omega, by omega, by omega, by omega, u64w rfl (by omega), u64w rfl (by omega), by omega⟩
theorem atag_any (key nonce a c : ByteArray) (w : World) (h32 : key.size = 32) (h12 : nonce.size = 12) (ha : a.size ≤ 66000) (hc : c.size ≤ 66000) :
  Calls Tryz.prog 44 #[.string key, .string nonce, .string a, .string c] w fun e w' => e = .returned (.tuple #[.string (atagS key nonce a c), .int .i64 0]) ∧ Below w.heap.size w w' := by
 obtain ⟨s1, s2, s3, s4, s5, s6, s7, s8, s9, s10⟩ := tg_sz a c ha hc
 have HS := hDx s10
 have HA0 := hDx (And.intro ha hc)
 clear s1 s2 s3 s4 s5 s6 s7 s8 s9 s10 ha hc
 obtain ⟨T0, hT⟩ := nm (atagS key nonce a c)
 rw [← hT]
 unfold atagS at hT
 have hBs := blkS_size key nonce 0
 have H3 := hDx (And.intro h32 h12)
 clear h32 h12
 go_enter Tryz.func44, Tryz.ntmps44
 go_upto_region 1 with (fail)
 have HK0 := hDx (KS.start w)
 go_wp2_with (go_at_call 66; refine (cblock_any key nonce 0 _ H3.out.1 H3.out.2 (by decide)).mono ?_)
 rintro e w1 ⟨rfl, B1⟩
 have HKb := hDx (HK0.out.call B1)
 clear B1
 simp only []
 obtain ⟨B, hB⟩ := nm (blkS key nonce 0)
 rw [← hB] at hBs hT
 rw [← hB]
 have hl := ex32i hBs
 have HB0 := hDx hBs
 clear hB hBs
 go_upto_region 4 with (fail)
 try simp only [Act.put, sAx, s0x, s1x]
 refine wp_region_calm 9 [21, 22, 23, 24, 25, 26, 27, 28, 29] [] [[], [21], [], [], [23, 24], [25], [22, 26], [27], [27]] (Ftab [(21, .val (.string (B))), (22, .val (.string (B.extract 0 32))), (23, .val (.string (a))), (24, .val (.string (c))), (25, .sl 2 (.cells #[.string a, .string c] 9)), (26, .val (.string (padS a c))), (27, .val (.tuple #[.string T0, .int .i64 0])), (28, .val (.string (T0))), (29, .val (.int .i64 0))]) (by kernel_rfl) (by kernel_rfl) (by rfl) (by kernel_rfl) ?hO ?hE
 case hO =>
  refine ⟨?_, ?_, ?_, ?_, ?_, ?_, ?_, ?_, ?_, trivial⟩
  ·intro act u HB HO HA
   have e10 := gE (x := .string (B)) (HO 10 (by decide))
   refine calm_val 21 _ rfl ?_ rfl rfl
   clear HB HO HA
   go_simp
   try rfl
  ·intro act u HB HO HA
   have e21 : _ = _ := gE (qA HA 21)
   refine calm_val 22 _ rfl ?_ rfl rfl
   clear HB HO HA
   go_simp
   try rfl
  ·intro act u HB HO HA
   have e2 := gE (x := .string (a)) (HO 2 (by decide))
   refine calm_val 23 _ rfl ?_ rfl rfl
   clear HB HO HA
   go_simp
   try rfl
  ·intro act u HB HO HA
   have e3 := gE (x := .string (c)) (HO 3 (by decide))
   refine calm_val 24 _ rfl ?_ rfl rfl
   clear HB HO HA
   go_simp
   try rfl
  ·intro act u HB HO HA
   have e23 : _ = _ := gE (qA HA 23)
   have e24 : _ = _ := gE (qA HA 24)
   refine calm_sl 25 2 (.cells #[.string a, .string c] 9) rfl ?_ rfl rfl
   clear HB HO HA
   go_simp
  ·intro act u HB HO HA
   obtain ⟨g25, e25, b25⟩ : (Fct.sl 2 (.cells #[.string a, .string c] 9)).p (act.eval (.tmp 25)) u := qA HA 25
   refine calm_call 26 #[.slice (some ⟨g25, 0, none⟩) 2 2] rfl rfl ?_ (by kernel_rfl) (padded_any a c g25 u b25 HA0.out.1 HA0.out.2) ?_ rfl
   ·simp only [mTx, mCx, mNx, e25]
    try rfl
   rintro e u1 ⟨rfl, B1⟩
   exact ⟨_, rfl, rfl, B1⟩
  ·intro act u HB HO HA
   have e22 : _ = _ := qA HA 22
   have e26 : _ = _ := qA HA 26
   refine calm_call 27 #[.string (B.extract 0 32), .string (padS a c)] rfl rfl ?_ (by kernel_rfl) (tag_any (B.extract 0 32) (padS a c) u (ex32 HB0.out) HS.out) ?_ rfl
   ·simp only [mTx, mCx, mNx, e22, e26]
    try rfl
   rintro e u1 ⟨rfl, B1⟩
   exact ⟨_, rfl, by rw [hT]; rfl, B1⟩
  ·intro act u HB HO HA
   have e27 : _ = _ := gE (qA HA 27)
   refine calm_val 28 _ rfl ?_ rfl rfl
   clear HB HO HA
   go_simp
   try rfl
  intro act u HB HO HA
  have e27 : _ = _ := gE (qA HA 27)
  refine calm_val 29 _ rfl ?_ rfl rfl
  clear HB HO HA
  go_simp
  try rfl
 intro vT ww1 HB HF HN
 have f21 : _ = _ := qA HF 21
 have f22 : _ = _ := qA HF 22
 have f23 : _ = _ := qA HF 23
 have f24 : _ = _ := qA HF 24
 obtain ⟨g25, f25, b25⟩ : (Fct.sl 2 (.cells #[.string a, .string c] 9)).p (vT 25) ww1 := qA HF 25
 clear b25
 have f26 : _ = _ := qA HF 26
 have f27 : _ = _ := qA HF 27
 have f28 : _ = _ := qA HF 28
 have f29 : _ = _ := qA HF 29
 have HK1 := hDx (HKb.out.drew.call HB)
 simp only [fill, Act.put, sAx, s0x, s1x, dSx, d0x, f21, f22, f23, f24, f25, f26, f27, f28, f29]
 clear HB HF HN f21 f22 f23 f24 f25 f26 f27 f28 f29
 go_wp2_with fail
 go_ret2
 exact ⟨rfl, HK1.out.below⟩
end
section
open Go.RowKit T
theorem atagS_size (key nonce a c : ByteArray) : (atagS key nonce a c).size = 16 := by
 unfold atagS tagS
 rw [sb_size, rw_len']
def sealS (key nonce a s : ByteArray) : ByteArray := trnS key nonce 1 s ++ atagS key nonce a (trnS key nonce 1 s)
theorem sealS_size (key nonce a s : ByteArray) : (sealS key nonce a s).size = s.size + 16 := by rw [sealS, ByteArray.size_append, trnS_size, atagS_size]
def cutS (x : ByteArray) : ByteArray := x.extract 0 (x.size - 16)
def endS (x : ByteArray) : ByteArray := x.extract (x.size - 16) x.size
theorem cutS_size (x : ByteArray) : (cutS x).size = x.size - 16 := by unfold cutS; rw [ByteArray.size_extract]; omega
theorem endS_size (x : ByteArray) (h : 16 ≤ x.size) : (endS x).size = 16 := by unfold endS; rw [ByteArray.size_extract]; omega
theorem cut_app (c t : ByteArray) (h : t.size = 16) : cutS (c ++ t) = c := by
 unfold cutS
 rw [ByteArray.size_append, h, Nat.add_sub_cancel]
 exact ByteArray.extract_append_eq_left rfl
theorem end_app (c t : ByteArray) (h : t.size = 16) : endS (c ++ t) = t := by
 unfold endS
 rw [ByteArray.size_append, h, Nat.add_sub_cancel, ← h]
 exact ByteArray.extract_append_eq_right rfl rfl
def opensS (key nonce a x : ByteArray) : Prop := atagS key nonce a (cutS x) = endS x
theorem opens_seal (key nonce a s : ByteArray) : opensS key nonce a (sealS key nonce a s) := by
 unfold opensS sealS
 rw [cut_app _ _ (atagS_size _ _ _ _), end_app _ _ (atagS_size _ _ _ _)]
theorem open_seal (key nonce a s : ByteArray) : trnS key nonce 1 (cutS (sealS key nonce a s)) = s := by
 unfold sealS
 rw [cut_app _ _ (atagS_size _ _ _ _), trnS_twice]
theorem sl_i (s : ByteArray) (h : s.size ≤ 65536) : ¬ (65536 : Int) < s.size ∧ s.size ≤ 66000 ∧ s.size ≤ 90000 := by omega
theorem op_i (x : ByteArray) (h : 16 ≤ x.size) (h2 : x.size ≤ 65552) : ∃ n N : Nat, N = x.size ∧ n = N - 16 ∧ IntKind.i64.wrap ((N : Int) - 16) = n ∧ wrap64 ((N : Int) - 16) = n ∧ (0 : Int) ≤ n ∧ ¬ (n : Int) < 0 ∧ (n : Int) ≤ N ∧ ¬ (65536 : Int) < n ∧ n ≤ N ∧ ¬ (65552 : Int) < N ∧ ¬ (N : Int) < 16 ∧ (N : Int) ≤ N := by
 obtain ⟨a1, a2⟩ := i64b (x := (x.size : Int) - 16) (n := x.size - 16) (by omega) (by omega)
 exact ⟨x.size - 16, x.size, rfl, rfl, a2, a1, by omega, by omega, by omega, by omega, by omega, by omega, by omega, Int.le_refl _⟩
theorem trnS_empty (key nonce : ByteArray) (n : Nat) : trnS key nonce n .empty = .empty := by
 apply ByteArray.size_eq_zero_iff.1
 rw [trnS_size]; rfl
theorem seal_any (key nonce a s : ByteArray) (w : World) (h32 : key.size = 32) (h12 : nonce.size = 12) (ha : a.size ≤ 65536) (hs : s.size ≤ 65536) :
  Calls Tryz.prog 23 #[.string key, .string nonce, .string a, .string s] w fun e w' => e = .returned (.tuple #[.string (sealS key nonce a s), .int .i64 0]) ∧ Below w.heap.size w w' := by
 obtain ⟨a1, a2, a3⟩ := sl_i a ha
 obtain ⟨s1, s2, s3⟩ := sl_i s hs
 have H := hDx (And.intro h32 (And.intro h12 (And.intro a2 s3)))
 obtain ⟨c, hc⟩ := nm (trnS key nonce 1 s)
 have hcs : c.size = s.size := by rw [hc, trnS_size]
 obtain ⟨T0, hT⟩ := nm (atagS key nonce a c)
 have hTs : T0.size = 16 := by rw [hT, atagS_size]
 have add1 := addS c T0 (by rw [hcs, hTs]; omega)
 have hc2 : c.size ≤ 66000 := by rw [hcs]; exact s2
 have HC := hDx (And.intro hc (And.intro hT hc2))
 have hres : sealS key nonce a s = c ++ T0 := by rw [hT, hc]; rfl
 rw [hres]
 clear hres h32 h12 ha hs a2 a3 s2 s3 hc hcs hT hTs hc2
 go_enter Tryz.func23, Tryz.ntmps23
 have HK0 := hDx (KS.start w)
 go_upto_region 4 with (go_at_call 43; refine (turn_any key nonce 1 .empty _ H.out.1 H.out.2.1 (by decide) (by decide)).mono ?_; rintro e ww1 ⟨rfl, B1⟩; have HK1 := hDx (HK0.out.call B1); clear B1; rw [trnS_empty])
 go_upto_region 7 with (go_at_call 43; refine (turn_any key nonce 1 s _ H.out.1 H.out.2.1 (by decide) H.out.2.2.2).mono ?_; rintro e ww2 ⟨rfl, B1⟩; have HK2 := hDx (HK1.out.call B1); clear B1; rw [← HC.out.1])
 go_wp2_with (go_at_call 44; refine (atag_any key nonce a c _ H.out.1 H.out.2.1 H.out.2.2.1 HC.out.2.2).mono ?_; rintro e ww3 ⟨rfl, B1⟩; have HK3 := hDx (HK2.out.call B1); clear B1; rw [← HC.out.2.1])
 go_ret2
 exact ⟨rfl, HK3.out.below⟩
theorem open_any (key nonce a x : ByteArray) (w : World) (h32 : key.size = 32) (h12 : nonce.size = 12) (ha : a.size ≤ 65536) (h16 : 16 ≤ x.size) (hx : x.size ≤ 65552) :
  Calls Tryz.prog 30 #[.string key, .string nonce, .string a, .string x] w fun e w' =>
   ((opensS key nonce a x ∧ e = .returned (.tuple #[.string (trnS key nonce 1 (cutS x)), .int .i64 0])) ∨ (¬ opensS key nonce a x ∧ e = .returned (.tuple #[.string .empty, .int .i64 100]))) ∧ Below w.heap.size w w' := by
 obtain ⟨a1, a2, a3⟩ := sl_i a ha
 obtain ⟨n, N, hN, hn, n1, n2, n3, n4, n5, n6, n7, n8, n9, n10⟩ := op_i x h16 hx
 have hcut : x.extract 0 n = cutS x := by rw [hn, hN]; rfl
 have hend : x.extract n N = endS x := by rw [hn, hN]; rfl
 have hcs : (cutS x).size ≤ 65536 := by rw [cutS_size]; omega
 have hes := endS_size x h16
 have H := hDx (And.intro h32 (And.intro h12 (And.intro a2 (And.intro (Nat.le_trans hcs (by decide : 65536 ≤ 66000)) (Nat.le_trans hcs (by decide : 65536 ≤ 90000))))))
 have HE := hDx hes
 have hsz : x.size = N := hN.symm
 obtain ⟨C, hC⟩ := nm (cutS x)
 obtain ⟨E, hE⟩ := nm (endS x)
 obtain ⟨T0, hT⟩ := nm (atagS key nonce a C)
 obtain ⟨R0, hR⟩ := nm (trnS key nonce 1 C)
 have hO : opensS key nonce a x ↔ T0 = E := by unfold opensS; rw [hT, hE, hC]
 rw [hO, ← hC, ← hR]
 rw [← hC] at hcut H
 rw [← hE] at hend HE
 have hTs : T0.size = 16 := by rw [hT, atagS_size]
 have HT := hDx (And.intro hT (And.intro hR hTs))
 clear hO hC hE hT hR hTs hcs hes h32 h12 ha a2 a3 h16 hx hn hN
 go_enter Tryz.func30, Tryz.ntmps30
 have HK0 := hDx (KS.start w)
 go_upto_region 4 with (go_at_call 43; refine (turn_any key nonce 1 .empty _ H.out.1 H.out.2.1 (by decide) (by decide)).mono ?_; rintro e ww1 ⟨rfl, B1⟩; have HK1 := hDx (HK0.out.call B1); clear B1; rw [trnS_empty])
 go_upto_region 10 with (go_at_call 44; refine (atag_any key nonce a C _ H.out.1 H.out.2.1 H.out.2.2.1 H.out.2.2.2.1).mono ?_; rintro e ww2 ⟨rfl, B1⟩; have HK2 := hDx (HK1.out.call B1); clear B1; rw [← HT.out.1])
 by_cases hq : T0 = E
 ·have HQ := hDx hq
  clear hq
  go_upto_region 12 with (go_at_call 51; refine (same_any T0 E _ HT.out.2.2 HE.out).mono ?_; rintro e ww3 ⟨rfl, B1⟩; have HK3 := hDx (HK2.out.call B1); clear B1; rw [decide_eq_true HQ.out])
  go_wp2_with (go_at_call 43; refine (turn_any key nonce 1 C _ H.out.1 H.out.2.1 (by decide) H.out.2.2.2.2).mono ?_; rintro e ww4 ⟨rfl, B1⟩; have HK4 := hDx (HK3.out.call B1); clear B1; rw [← HT.out.2.1])
  go_ret2
  exact ⟨Or.inl ⟨HQ.out, rfl⟩, HK4.out.below⟩
 have HQ := hDx hq
 clear hq
 go_wp2_with (go_at_call 51; refine (same_any T0 E _ HT.out.2.2 HE.out).mono ?_; rintro e ww3 ⟨rfl, B1⟩; have HK3 := hDx (HK2.out.call B1); clear B1; rw [decide_eq_false HQ.out])
 go_ret2
 exact ⟨Or.inr ⟨HQ.out, rfl⟩, HK3.out.below⟩
end
end Go.Proofs.YtoplbfijodebmaaGreatDoor
