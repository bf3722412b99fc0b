/-
  The walk.
-/
import Derived.Test.YtoplbfijodebmaaGreatDoorM24RA
import Derived.ChangeKeysEq
set_option linter.unusedVariables false
set_option linter.unusedSimpArgs false
set_option maxRecDepth 100000
set_option maxHeartbeats 40000000
namespace Go.Proofs.YtoplbfijodebmaaGreatDoor
section
open Go.RowKit T
theorem info29 : ∃ i, Tryz.prog.info? 29 = some i := by
 have h : (Tryz.prog.info? 29).isSome = true := by kernel_rfl
 exact Option.isSome_iff_exists.1 h
theorem part29 {n : Nat} (f : Nat → Nat) (i : Nat) (hi : i < n) (w : World) : (Go.part 29 (lk .u64 (rw_ n f)) (i * 1)).run Tryz.prog w = .ok (.int .u64 (f i : Int)) w := by
 have hagg : (isAgg 29).run Tryz.prog w = .ok false w := by
  unfold isAgg
  rw [Sem.run_bind, run_underlying (by kernel_rfl : Tryz.prog.underlying 29 = some (.int .u64)) w]
  rfl
 have h := lk_at (k := .u64) (rw_len' n f) hi
 rw [rw_at' _ _ _ hi] at h
 simp only [Go.part, Sem.run_bind, hagg, Result.andThen_ok, if_false, Bool.false_eq_true, Sem.run_pure, Nat.mul_one, h]
theorem items16 {n : Nat} (d : Nat) (f g : Nat → Nat) (w : World) (is : List Nat) (h : ∀ i ∈ is, i < n) : (Op.eqItems (d + 1) 29 1 (lk .u64 (rw_ n f)) (lk .u64 (rw_ n g)) is).run Tryz.prog w = .ok (is.all fun i => f i == g i) w := by
 induction is with
 | nil => simp [Op.eqItems]
 | cons i is ih =>
  have hi := h i (by simp)
  have e : ((f i : Int) == (g i : Int)) = (f i == g i) := by
   rw [Bool.eq_iff_iff]
   simp only [beq_iff_eq]
   omega
  have ih' := ih (fun j hj => h j (by simp [hj]))
  simp only [Op.eqItems, Sem.run_bind, part29 f i hi, part29 g i hi, Result.andThen_ok, run_equalIn_int (P := Tryz.prog) w d 29 .u64 .u64 _ _ (by kernel_rfl), e]
  rw [List.all_cons]
  cases f i == g i
  ·simp
  ·simp only [Bool.not_true, Bool.false_eq_true, if_false, Bool.true_and]
   exact ih'
theorem run_eq16 (f g : Nat → Nat) (w : World) : (binOp .eql 109 (.agg (lk .u64 (rw_ 16 f))) (.agg (lk .u64 (rw_ 16 g)))).run Tryz.prog w = .ok (.bool ((List.range 16).all fun i => f i == g i)) w := by
 obtain ⟨i, hi⟩ := info29
 rw [run_eql_struct, run_equalIn_array w 9999 _ _ (by kernel_rfl : Tryz.prog.underlying 109 = some (.array 16 29)) hi]
 rw [show Tryz.prog.cellsOf 29 = 1 by kernel_rfl, items16 9998 f g w _ (fun j hj => List.mem_range.1 hj)]
 rfl
theorem wp_eqagg {P : Program} {o : Oper} {a : Act} {w : World} {K : Act → World → Prop} {Q : Exit → Act → World → Prop} {t t2 : TypeId} {x y : Operand} {xs ys : Array Value} {b : Bool} (hv : ∀ u, (binOp .eql t (.agg xs) (.agg ys)).run P u = .ok (.bool b) u) (hm : P.eqGuardType P.depth t = false) (ho : o.op = .binOp .eql t x y t2) (hx : a.eval x = .agg xs) (hy : a.eval y = .agg ys)
  (h : K (a.put o.dst (.bool b)) w) : o.wp P a w K Q := by
 unfold Oper.wp execOp
 simp only [ho, hx, hy, Sem.run_bind, run_eqGuard_agg w .eql t x y xs ys hm, Result.andThen_ok, hv, Sem.run_pure]
 exact h
theorem guard109 : Tryz.prog.eqGuardType Tryz.prog.depth 109 = false := by kernel_rfl
theorem zeros16 : lk .u64 (rw_ 16 (fun _ => 0)) = #[.int .u64 0, .int .u64 0, .int .u64 0, .int .u64 0, .int .u64 0, .int .u64 0, .int .u64 0, .int .u64 0, .int .u64 0, .int .u64 0, .int .u64 0, .int .u64 0, .int .u64 0, .int .u64 0, .int .u64 0, .int .u64 0] := by
 simp [lk, rw_, List.range, List.range.loop]
theorem eq_zero (X : F) : ((List.range 16).all fun i => lim 65536 X.val i == 0) = decide (X.val = 0) := by
 rw [Bool.eq_iff_iff, List.all_eq_true, decide_eq_true_eq]
 constructor
 ·intro h
  have hz := vs_zero 65536 (lim 65536 X.val) 16 (fun j hj => by simpa using h j (List.mem_range.2 hj))
  rw [lim_v] at hz
  exact hz
 intro h i _
 rw [h]
 simp [lim]
theorem neg_val (X : F) (h : X.val ≠ 0) : (0 - X).val = P - X.val := by
 have hx := X.isLt
 rw [Fin.val_sub]
 show (P - X.val + 0) % P = _
 rw [Nat.add_zero, Nat.mod_eq_of_lt (by omega)]
theorem neg_zero' (X : F) (h : X.val = 0) : (0 - X) = X := by
 have : X = 0 := Fin.ext h
 rw [this]
 refine Fin.ext ?_
 show (P - 0 + 0) % P = 0
 rw [Nat.add_zero, Nat.sub_zero, Nat.mod_self]
theorem rneg_any (X : F) (w : World) : Calls Tryz.prog 77 #[numV X] w fun e w' => e = .returned (numV (0 - X)) ∧ Below w.heap.size w w' := by
 have hq := fun u => run_eq16 (lim 65536 X.val) (fun _ => 0) u
 rw [eq_zero, zeros16] at hq
 obtain ⟨VV, hVV⟩ := nm (numV (0 - X))
 rw [← hVV]
 replace hVV := hDx hVV
 obtain ⟨f, hf⟩ := nm (lim 65536 X.val)
 have sf : Sml f := by rw [hf]; exact lim_sml _
 unfold numV
 rw [← hf] at hq
 rw [← hf]
 replace hf := hDx (And.intro hf sf)
 clear sf
 go_enter Tryz.func77, Tryz.ntmps77
 have HK0 := hDx (KS.start w)
 go_upto_region 1 with (fail)
 have hm1 := ((HK0.out.made (.cells (lk .u64 (rw_ 16 f)) 109)).made (.cells ZRu64x16 109))
 try rw [show ((World.alloc w (.cells (lk .u64 (rw_ 16 f)) 109))).heap.size = w.heap.size + 1 by simp] at hm1
 obtain ⟨R, hgR⟩ := nm (w.heap.size + 1)
 obtain ⟨A, hgA⟩ := nm w.heap.size
 obtain ⟨ww1, hv1⟩ := nm (World.alloc (World.alloc w (.cells (lk .u64 (rw_ 16 f)) 109)) (.cells ZRu64x16 109))
 rw [← hv1, ← hgR, ← hgA] at hm1
 rw [← hv1]
 try rw [← hgR]
 try rw [← hgA]
 have HK1 : Hid (KS [(R, .cells (lk .u64 (zi 16)) 109), (A, .cells (lk .u64 (rw_ 16 f)) 109)] [] w ww1) := hDx hm1
 clear hm1 hv1 hgA hgR
 have FA := (HK1.out.rk 1 rfl (rw_len' _ _))
 rcases Classical.em (X.val = 0) with h0 | h0
 ·have hd : decide (X.val = 0) = true := decide_eq_true h0
  rw [hd] at hq
  clear hd
  have hr := neg_zero' X h0
  replace h0 := hDx h0
  replace hr := hDx hr
  go_upto_region 2 with (first | (with_reducible show wpList _ _ _ _ _ _; refine wpList_load_rk rfl _ rfl rfl FA ty109 ?_) | (with_reducible show Oper.wp _ _ _ _ _ _; refine wp_eqagg hq guard109 rfl rfl rfl ?_))
  clear FA hq
  have FA := (HK1.out.rk 1 rfl (rw_len' _ _))
  have FR := (HK1.out.rk 0 rfl (zi_len 16))
  go_wp2_with (first | (refine wpList_load_rk rfl _ rfl rfl FA ty109 ?_) | (refine wpList_store_rk rfl _ _ rfl rfl rfl FR ty109 (rw_len' _ _) ?_))
  have KE := HK1.out.setRow 0 rfl (lk .u64 (rw_ 16 f))
  try simp only [Exit.inBlock, Exit.then]
  refine bodyPost_ret (results_rk (p := 2) (by kernel_rfl) (by rfl) (KE.rk 0 rfl (rw_len' _ _)) ty109) rfl ?_
  exact ⟨by rw [hVV.out, hr.out, hf.out.1]; rfl, KE.below⟩
 have hd : decide (X.val = 0) = false := decide_eq_false h0
 rw [hd] at hq
 clear hd
 have hr := neg_val X h0
 have hle : vs 65536 f 16 ≤ vs 65536 pF 16 := by rw [pF_v, hf.out.1, lim_v]; exact Nat.le_of_lt X.isLt
 have hm := minus_v pF f (fun j _ => pF_lt j) hf.out.2 hle
 rw [pF_v, hf.out.1, lim_v, ← hf.out.1, ← hr] at hm
 have hVe : rw_ 16 (mC pF f 16) = rw_ 16 (lim 65536 (0 - X).val) := rw_ext fun j hj => by
  rw [← hm]
  exact (lim_vs (f := mC pF f 16) (by decide) 16 j (fun i _ => mC_lt _ _ _ _) hj).symm
 replace hVe := hDx hVe
 replace h0 := hDx h0
 clear hr hle hm
 go_upto_region 3 with (first | (with_reducible show wpList _ _ _ _ _ _; refine wpList_load_rk rfl _ rfl rfl FA ty109 ?_) | (with_reducible show Oper.wp _ _ _ _ _ _; refine wp_eqagg hq guard109 rfl rfl rfl ?_))
 clear FA hq
 try simp only [Act.put, sAx, s0x, s1x]
 refine wp_region_cv 3 [7, 8, 9] [[], [], [7, 8]] [(7, .agg (lk .u64 (rw_ 16 (pF)))), (8, .agg (lk .u64 (rw_ 16 (f)))), (9, .agg (lk .u64 (rw_ 16 (mC pF f 16))))] rfl (by kernel_rfl) (by kernel_rfl) (by rfl) (by kernel_rfl) ?hO ?hE
 case hO =>
  refine ⟨?_, ?_, ?_, trivial⟩
  ·intro act u HB HO HA
   refine calm_call 7 #[] rfl rfl ?_ (by kernel_rfl) (prime_any u) ?_ rfl
   ·simp only [mTx, mCx, mNx]
    try rfl
   rintro e u1 ⟨rfl, B1⟩
   exact ⟨_, rfl, rfl, B1⟩
  ·intro act u HB HO HA
   have e1 : act.eval (.tmp 1) = .pointer (some ⟨A, 0, none⟩) := HO 1 (by decide)
   have HS := HK1.out.drew.call HB
   exact calm_lM 8 1 e1 (HS.get 1 rfl) ag109 (extR _) ((by rw [lk_size, rw_len'])) rfl rfl rfl rfl
  intro act u HB HO HA
  have e7 : _ = _ := qA HA 7
  have e8 : _ = _ := qA HA 8
  refine calm_call 9 #[.agg (lk .u64 (rw_ 16 (pF))), .agg (lk .u64 (rw_ 16 (f)))] rfl rfl ?_ (by kernel_rfl) (minus_any pF f (fun j _ => pF_lt j) hf.out.2 u) ?_ rfl
  ·simp only [mTx, mCx, mNx, e7, e8]
   try rfl
  rintro e u1 ⟨rfl, B1⟩
  exact ⟨_, rfl, rfl, B1⟩
 intro ww2 HB
 have HK2 := hDx (HK1.out.drew.call HB)
 simp only [fillL, Act.put, sAx, s0x, s1x, dSx, d0x]
 clear HB
 have FR := (HK2.out.rk 0 rfl (zi_len 16))
 go_wp2_with (with_reducible show wpList _ _ _ _ _ _; refine wpList_store_rk rfl _ _ rfl rfl rfl FR ty109 (rw_len' _ _) ?_)
 have KE := HK2.out.setRow 0 rfl (lk .u64 (rw_ 16 (mC pF f 16)))
 try simp only [Exit.inBlock, Exit.then]
 refine bodyPost_ret (results_rk (p := 2) (by kernel_rfl) (by rfl) (KE.rk 0 rfl (rw_len' _ _)) ty109) rfl ?_
 exact ⟨by rw [hVV.out, hVe.out]; rfl, KE.below⟩
theorem rsub_any (X Y : F) (w : World) : Calls Tryz.prog 57 #[numV X, numV Y] w fun e w' => e = .returned (numV (X - Y)) ∧ Below w.heap.size w w' := by
 obtain ⟨VV, hVV⟩ := nm (numV (X - Y))
 rw [← hVV]
 have hs : X + (0 - Y) = X - Y := by grind
 replace hVV := hDx hVV
 replace hs := hDx hs
 go_enter Tryz.func57, Tryz.ntmps57
 unfold numV
 have HK0 := hDx (KS.start w)
 go_upto_region 1 with (fail)
 have hm1 := (((HK0.out.made (.cells (lk .u64 (rw_ 16 (lim 65536 X.val))) 109)).made (.cells (lk .u64 (rw_ 16 (lim 65536 Y.val))) 109)).made (.cells ZRu64x16 109))
 try rw [show ((World.alloc (World.alloc w (.cells (lk .u64 (rw_ 16 (lim 65536 X.val))) 109)) (.cells (lk .u64 (rw_ 16 (lim 65536 Y.val))) 109))).heap.size = w.heap.size + 2 by simp] at hm1
 try rw [show ((World.alloc w (.cells (lk .u64 (rw_ 16 (lim 65536 X.val))) 109))).heap.size = w.heap.size + 1 by simp] at hm1
 obtain ⟨R, hgR⟩ := nm (w.heap.size + 2)
 obtain ⟨B, hgB⟩ := nm (w.heap.size + 1)
 obtain ⟨A, hgA⟩ := nm w.heap.size
 obtain ⟨ww1, hv1⟩ := nm (World.alloc (World.alloc (World.alloc w (.cells (lk .u64 (rw_ 16 (lim 65536 X.val))) 109)) (.cells (lk .u64 (rw_ 16 (lim 65536 Y.val))) 109)) (.cells ZRu64x16 109))
 rw [← hv1, ← hgR, ← hgB, ← hgA] at hm1
 rw [← hv1]
 try rw [← hgR]
 try rw [← hgB]
 try rw [← hgA]
 have HK1 : Hid (KS [(R, .cells (lk .u64 (zi 16)) 109), (B, .cells (lk .u64 (rw_ 16 (lim 65536 Y.val))) 109), (A, .cells (lk .u64 (rw_ 16 (lim 65536 X.val))) 109)] [] w ww1) := hDx hm1
 clear hm1 hv1 hgA hgB hgR
 try simp only [Act.put, sAx, s0x, s1x]
 refine wp_region_cv 4 [5, 6, 7, 8] [[], [], [6], [5, 7]] [(5, numV X), (6, numV Y), (7, numV (0 - Y)), (8, numV (X + (0 - Y)))] rfl (by kernel_rfl) (by kernel_rfl) (by rfl) (by kernel_rfl) ?hO ?hE
 case hO =>
  refine ⟨?_, ?_, ?_, ?_, trivial⟩
  ·intro act u HB HO HA
   have e2 : act.eval (.tmp 2) = .pointer (some ⟨A, 0, none⟩) := HO 2 (by decide)
   have HS := HK1.out.drew.call HB
   exact calm_lM 5 2 e2 (HS.get 2 rfl) ag109 (extR _) ((by rw [lk_size, rw_len'])) rfl rfl rfl rfl
  ·intro act u HB HO HA
   have e3 : act.eval (.tmp 3) = .pointer (some ⟨B, 0, none⟩) := HO 3 (by decide)
   have HS := HK1.out.drew.call HB
   exact calm_lM 6 3 e3 (HS.get 1 rfl) ag109 (extR _) ((by rw [lk_size, rw_len'])) rfl rfl rfl rfl
  ·intro act u HB HO HA
   have e6 : _ = _ := qA HA 6
   refine calm_call 7 #[numV Y] rfl rfl ?_ (by kernel_rfl) (rneg_any Y u) ?_ rfl
   ·simp only [mTx, mCx, mNx, e6]
    try rfl
   rintro e u1 ⟨rfl, B1⟩
   exact ⟨_, rfl, rfl, B1⟩
  intro act u HB HO HA
  have e5 : _ = _ := qA HA 5
  have e7 : _ = _ := qA HA 7
  refine calm_call 8 #[numV X, numV (0 - Y)] rfl rfl ?_ (by kernel_rfl) (radd_any X (0 - Y) u) ?_ rfl
  ·simp only [mTx, mCx, mNx, e5, e7]
   try rfl
  rintro e u1 ⟨rfl, B1⟩
  exact ⟨_, rfl, rfl, B1⟩
 intro ww2 HB
 have HK2 := hDx (HK1.out.drew.call HB)
 simp only [fillL, Act.put, sAx, s0x, s1x, dSx, d0x]
 clear HB
 rw [hs.out]
 have FR := (HK2.out.rk 0 rfl (zi_len 16))
 go_wp2_with (with_reducible show wpList _ _ _ _ _ _; refine wpList_store_rk (u := rw_ 16 (lim 65536 (X - Y).val)) rfl _ _ rfl rfl rfl FR ty109 (rw_len' _ _) ?_)
 have KE := HK2.out.setRow 0 rfl (lk .u64 (rw_ 16 (lim 65536 (X - Y).val)))
 try simp only [Exit.inBlock, Exit.then]
 refine bodyPost_ret (results_rk (p := 4) (by kernel_rfl) (by rfl) (KE.rk 0 rfl (rw_len' _ _)) ty109) rfl ?_
 exact ⟨by rw [hVV.out]; rfl, KE.below⟩
end
section
open Go.RowKit T
def muF (f g : Nat → Nat) : Nat → Nat → Nat
 | 0 => fun _ => 0
 | t + 1 => upd (muF f g t) (t / 16 + t % 16) (muF f g t (t / 16 + t % 16) + f (t / 16) * g (t % 16))
theorem muF_le {f g : Nat → Nat} (hf : Sml f) (hg : Sml g) : ∀ t, t ≤ 256 → ∀ j, muF f g t j ≤ t * 4294967296
 | 0, _, _ => by simp [muF]
 | t + 1, h, j => by
  have ih := muF_le hf hg t (by omega)
  have h1 := hf (t / 16) (by omega)
  have h2 := hg (t % 16) (Nat.mod_lt _ (by decide))
  have h3 : f (t / 16) * g (t % 16) ≤ 65536 * 65536 := Nat.mul_le_mul (by omega) (by omega)
  rw [muF]
  unfold upd
  split
  ·have := ih (t / 16 + t % 16); omega
  ·exact Nat.le_trans (ih j) (Nat.mul_le_mul_right _ (Nat.le_succ t))
theorem muF_bd {f g : Nat → Nat} (hf : Sml f) (hg : Sml g) : Bd (muF f g 256) := by
 have h : ∀ t, t ≤ 256 → Bd (muF f g t) := fun t ht j _ => Nat.le_trans (muF_le hf hg t ht j) (Nat.le_trans (Nat.mul_le_mul_right _ ht) (by decide))
 exact h 256 (Nat.le_refl _)
theorem vs_updk (b : Nat) (h : Nat → Nat) (i x : Nat) : ∀ n, i < n → vs b (upd h i (h i + x)) n = vs b h n + x * b ^ i
 | 0, hi => by omega
 | n + 1, hi => by
  show vs b (upd h i (h i + x)) n + upd h i (h i + x) n * b ^ n = vs b h n + h n * b ^ n + x * b ^ i
  by_cases e : i = n
  ·subst e
   rw [vs_upd i (Nat.le_refl _)]
   have : upd h i (h i + x) i = h i + x := by unfold upd; rw [if_pos rfl]
   rw [this, Nat.add_mul]; omega
  ·have : upd h i (h i + x) n = h n := by unfold upd; rw [if_neg (fun q => e q.symm)]
   rw [vs_updk b h i x n (by omega), this]; omega
theorem muF_v (f g : Nat → Nat) (i : Nat) (hi : i < 16) (h0 : vs 65536 (muF f g (16 * i)) 32 = vs 65536 f i * vs 65536 g 16) : ∀ k, k ≤ 16 → vs 65536 (muF f g (16 * i + k)) 32 = vs 65536 f i * vs 65536 g 16 + f i * 65536 ^ i * vs 65536 g k
 | 0, _ => by rw [Nat.add_zero, h0, vs, Nat.mul_zero, Nat.add_zero]
 | k + 1, h => by
  have ih := muF_v f g i hi h0 k (by omega)
  rw [← Nat.add_assoc, muF, show (16 * i + k) / 16 = i by omega, show (16 * i + k) % 16 = k by omega, vs_updk _ _ _ _ 32 (by omega), ih, show vs 65536 g (k + 1) = vs 65536 g k + g k * 65536 ^ k from rfl, Nat.mul_add, Nat.pow_add, Nat.add_assoc]
  congr 2
  generalize 65536 ^ i = x
  generalize 65536 ^ k = y
  grind
theorem muF_all (f g : Nat → Nat) : ∀ i, i ≤ 16 → vs 65536 (muF f g (16 * i)) 32 = vs 65536 f i * vs 65536 g 16
 | 0, _ => by rw [show vs 65536 f 0 = 0 from rfl, Nat.zero_mul]; exact vs_zero _ _ 32 (fun _ _ => rfl)
 | i + 1, h => by
  have h1 := muF_v f g i (by omega) (muF_all f g i (by omega)) 16 (Nat.le_refl _)
  rw [show 16 * (i + 1) = 16 * i + 16 by omega, h1, show vs 65536 f (i + 1) = vs 65536 f i + f i * 65536 ^ i from rfl, Nat.add_mul]
theorem mul_iR {f g : Nat → Nat} (hf : Sml f) (hg : Sml g) {i k : Nat} (hi : i < 16) (hk : k < 16) : ∃ m p s : Nat, (i : Int) + (k : Int) = m ∧ IntKind.i64.wrap (m : Int) = m ∧ wrap64 (m : Int) = m ∧ (0 : Int) ≤ m ∧ (m : Int) < 32 ∧ m < 32 ∧ IntKind.u64.wrap ((f i : Int) * (g k : Int)) = p ∧ IntKind.u64.wrap ((muF f g (16 * i + k) m : Int) + (p : Int)) = s ∧
  rw_ 32 (muF f g (16 * i + (k + 1))) = (rw_ 32 (muF f g (16 * i + k))).set m (s : Int) := by
 have h1 := hf i hi
 have h2 := hg k hk
 have h3 : f i * g k ≤ 65536 * 65536 := Nat.mul_le_mul (by omega) (by omega)
 have h4 := muF_le hf hg (16 * i + k) (by omega) (i + k)
 obtain ⟨a1, a2⟩ := i64w (x := ((i + k : Nat) : Int)) (n := i + k) rfl (by omega)
 refine ⟨i + k, f i * g k, muF f g (16 * i + k) (i + k) + f i * g k, by omega, a2, a1, by omega, by omega, by omega, u64w (by push_cast; rfl) (by omega), u64w (by omega) (by omega), ?_⟩
 rw [rw_set, ← Nat.add_assoc, muF, show (16 * i + k) / 16 = i by omega, show (16 * i + k) % 16 = k by omega]
theorem rmul_any (X Y : F) (w : World) : Calls Tryz.prog 56 #[numV X, numV Y] w fun e w' => e = .returned (numV (X * Y)) ∧ Below w.heap.size w w' := by
 obtain ⟨f, hf⟩ := nm (lim 65536 X.val)
 obtain ⟨g, hg⟩ := nm (lim 65536 Y.val)
 have sf : Sml f := by rw [hf]; exact lim_sml _
 have sg : Sml g := by rw [hg]; exact lim_sml _
 have hv : vs 65536 (muF f g 256) 32 = X.val * Y.val := by rw [show 256 = 16 * 16 from rfl, muF_all f g 16 (Nat.le_refl _), hf, hg, lim_v, lim_v]
 obtain ⟨VV, hVV⟩ := nm (numV (X * Y))
 have hV2 : Value.agg (lk .u64 (rw_ 16 (limP (vs 65536 (muF f g 256) 32)))) = VV := by rw [hVV, hv, numV_limP, fe_mul, fe_F, fe_F]
 unfold numV
 rw [← hf, ← hg]
 rw [show Value.agg (lk .u64 (rw_ 16 (lim 65536 (X * Y).val))) = VV from hVV.symm]
 replace hV2 := hDx hV2
 have HB := hDx (And.intro sf sg)
 clear hf hg sf sg hv hVV
 go_enter Tryz.func56, Tryz.ntmps56
 have HK0 := hDx (KS.start w)
 go_upto_region 2 with (fail)
 have hm1 := ((((HK0.out.made (.cells (lk .u64 (rw_ 16 f)) 109)).made (.cells (lk .u64 (rw_ 16 g)) 109)).made (.cells ZRu64x16 109)).made (.cells ZRu64x32 134))
 try rw [show ((World.alloc (World.alloc (World.alloc w (.cells (lk .u64 (rw_ 16 f)) 109)) (.cells (lk .u64 (rw_ 16 g)) 109)) (.cells ZRu64x16 109))).heap.size = w.heap.size + 3 by simp] at hm1
 try rw [show ((World.alloc (World.alloc w (.cells (lk .u64 (rw_ 16 f)) 109)) (.cells (lk .u64 (rw_ 16 g)) 109))).heap.size = w.heap.size + 2 by simp] at hm1
 try rw [show ((World.alloc w (.cells (lk .u64 (rw_ 16 f)) 109))).heap.size = w.heap.size + 1 by simp] at hm1
 obtain ⟨T, hgT⟩ := nm (w.heap.size + 3)
 obtain ⟨R, hgR⟩ := nm (w.heap.size + 2)
 obtain ⟨B, hgB⟩ := nm (w.heap.size + 1)
 obtain ⟨A, hgA⟩ := nm w.heap.size
 obtain ⟨ww1, hv1⟩ := nm (World.alloc (World.alloc (World.alloc (World.alloc w (.cells (lk .u64 (rw_ 16 f)) 109)) (.cells (lk .u64 (rw_ 16 g)) 109)) (.cells ZRu64x16 109)) (.cells ZRu64x32 134))
 rw [← hv1, ← hgT, ← hgR, ← hgB, ← hgA] at hm1
 rw [← hv1]
 try rw [← hgT]
 try rw [← hgR]
 try rw [← hgB]
 try rw [← hgA]
 have HK1 : Hid (KS [(T, .cells (lk .u64 (rw_ 32 (muF f g (16 * 0)))) 134), (R, .cells (lk .u64 (zi 16)) 109), (B, .cells (lk .u64 (rw_ 16 g)) 109), (A, .cells (lk .u64 (rw_ 16 f)) 109)] [] w ww1) := hDx hm1
 clear hm1 hv1 hgA hgB hgR hgT
 go_upto_region 3 with fail
 go_loopw [6] (fun vS wr => ∃ i : Nat, i ≤ 16 ∧ vS = .int .i64 (i : Int) ∧ KS [(T, .cells (lk .u64 (rw_ 32 (muF f g (16 * i)))) 134), (R, .cells (lk .u64 (zi 16)) 109), (B, .cells (lk .u64 (rw_ 16 g)) 109), (A, .cells (lk .u64 (rw_ 16 f)) 109)] [] w wr) (fun vS _ => 16 - (intOf vS).toNat)
 case atStart => exact ⟨0, Nat.zero_le _, rfl, HK1.out⟩
 case round =>
  obtain ⟨i, hi, rfl, HK⟩ := hrel
  have HK2 := hDx HK
  clear HK
  by_cases hlt : i < 16
  ·have hi1 : (0 : Int) ≤ i := by omega
   have hi2 : (i : Int) < 16 := by omega
   obtain ⟨hi3, hi4⟩ := i64w (x := (i : Int) + 1) (n := i + 1) (by omega) (by omega)
   have HI := hDx hlt
   have hi16 : (i : Int) < 16 := hi2
   clear hlt
   go_upto_region 6 with fail
   change Hid (KS [(T, .cells (lk .u64 (rw_ 32 (muF f g (16 * i + 0)))) 134), (R, .cells (lk .u64 (zi 16)) 109), (B, .cells (lk .u64 (rw_ 16 g)) 109), (A, .cells (lk .u64 (rw_ 16 f)) 109)] [] w wr) at HK2
   go_loopw [7] (fun vS wr => ∃ k : Nat, k ≤ 16 ∧ vS = .int .i64 (k : Int) ∧ KS [(T, .cells (lk .u64 (rw_ 32 (muF f g (16 * i + k)))) 134), (R, .cells (lk .u64 (zi 16)) 109), (B, .cells (lk .u64 (rw_ 16 g)) 109), (A, .cells (lk .u64 (rw_ 16 f)) 109)] [] w wr) (fun vS _ => 16 - (intOf vS).toNat)
   case atStart => exact ⟨0, Nat.zero_le _, rfl, HK2.out⟩
   obtain ⟨k, hk, rfl, HK⟩ := hrel
   have HK3 := hDx HK
   clear HK
   by_cases hlt : k < 16
   ·have hk1 : (0 : Int) ≤ k := by omega
    have hk2 : (k : Int) < 16 := by omega
    obtain ⟨hk3, hk4⟩ := i64w (x := (k : Int) + 1) (n := k + 1) (by omega) (by omega)
    have hi := HI.out
    obtain ⟨m, p, q, m1, m2, m3, m4, m5, m6, k1, k2, es⟩ := mul_iR HB.out.1 HB.out.2 HI.out hlt
    have c0 := (HK3.out.rk 3 rfl (rw_len' _ _)).cell i hi
    have c1 := (HK3.out.rk 2 rfl (rw_len' _ _)).cell k hlt
    rw [rw_at' _ _ _ hi] at c0
    rw [rw_at' _ _ _ hlt] at c1
    have c2 := (HK3.out.rk 0 rfl (rw_len' _ _)).cell m m6
    rw [rw_at' _ _ _ m6] at c2
    obtain ⟨x, hx⟩ := nm (f i)
    obtain ⟨y, hy⟩ := nm (g k)
    obtain ⟨v, hv⟩ := nm (muF f g (16 * i + k) m)
    rw [← hx] at c0 k1
    rw [← hy] at c1 k1
    rw [← hv] at c2 k2
    obtain ⟨V, hV⟩ := nm (rw_ 32 (muF f g (16 * i + k)))
    have lV : V.length = 32 := by rw [hV, rw_len']
    rw [← hV] at HK3
    rw [← hV] at es
    have z0 := (HK3.out.rk 0 rfl lV).fz
    have HJ := hDx (And.intro es hlt)
    clear es hV hx hy hv hlt hi
    go_upto_region 8 with fail
    go_still_tail 17, (by kernel_rfl)
    go_upto_region 7 with fail
    obtain ⟨ww4, hv4⟩ := nm (World.drew (World.setCell wr ⟨T, m, none⟩ (.int .u64 ((q : Int)))))
    have HK4 : Hid (KS [(T, .cells (lk .u64 (V.set m (q : Int))) 134), (R, .cells (lk .u64 (zi 16)) 109), (B, .cells (lk .u64 (rw_ 16 g)) 109), (A, .cells (lk .u64 (rw_ 16 f)) 109)] [] w ww4) := by rw [hv4]; exact hDx ((HK3.out.setK 0 rfl m ((q : Int))).drew)
    rw [← hv4]
    clear hv4
    clear c0 c1 c2 z0 k1 k2 m1 m2 m3
    go_wp2_with fail
    go_roundw
    case rel =>
     exact ⟨k + 1, HJ.out.2, by first | rfl | go_num, by rw [HJ.out.1]; exact HK4.out⟩
    exact measI 16 _ HJ.out.2
   obtain rfl : k = 16 := by omega
   try simp only [Int.cast_ofNat_Int]
   rw [show 16 * i + 16 = 16 * (i + 1) by omega] at HK3
   go_wp2_with fail
   go_roundw
   case rel =>
    exact ⟨i + 1, HI.out, by first | rfl | go_num, HK3.out⟩
   exact measI 16 _ HI.out
  obtain rfl : i = 16 := by omega
  try simp only [Int.cast_ofNat_Int]
  have FT := (HK2.out.rk 0 rfl (rw_len' _ _))
  go_wp2_with (with_reducible show wpList _ _ _ _ _ _; refine wpList_load_rk rfl _ rfl rfl FT ty134 ?_)
  refine (reduce_any _ (muF_bd HB.out.1 HB.out.2) _).mono ?_
  rintro e ww3 ⟨rfl, B1⟩
  simp only []
  have HK3 := hDx (HK2.out.call B1)
  clear B1
  clear FT
  obtain ⟨V, hV⟩ := nm (rw_ 16 (limP (vs 65536 (muF f g 256) 32)))
  have lV : V.length = 16 := by rw [hV, rw_len']
  have hV3 : Value.agg (lk .u64 V) = VV := by rw [hV]; exact hV2.out
  rw [show rw_ 16 (limP (vs 65536 (muF f g (16 * 16)) 32)) = V from hV.symm]
  replace hV3 := hDx hV3
  clear hV
  have FR := (HK3.out.rk 1 rfl (zi_len 16))
  go_wp2_with (with_reducible show wpList _ _ _ _ _ _; refine wpList_store_rk rfl _ _ rfl rfl rfl FR ty109 lV ?_)
  have KE := HK3.out.setRow 1 rfl (lk .u64 V)
  try simp only [Exit.inBlock, Exit.then]
  refine bodyPost_ret (results_rk (p := 4) (by kernel_rfl) (by rfl) (KE.rk 1 rfl lV) ty109) rfl ?_
  exact ⟨by rw [hV3.out], KE.below⟩
end
section
open Go.RowKit T
def bx (n : Nat) (f : Nat → Bool) : Array Value := ((List.range n).map fun j => Value.bool (f j)).toArray
theorem bx_at (n : Nat) (f : Nat → Bool) (i : Nat) (h : i < n) : (bx n f)[i]? = some (.bool (f i)) := by
 simp [bx, h]
theorem bx_set (n : Nat) (f : Nat → Bool) (i : Nat) (x : Bool) : (bx n f).setIfInBounds i (.bool x) = bx n (fun j => if j = i then x else f j) := by
 apply Array.ext_getElem?
 intro j
 rw [Array.getElem?_setIfInBounds]
 by_cases hj : j < n
 ·rw [bx_at n f j hj, bx_at n _ j hj]
  by_cases e : i = j
  ·subst e
   rw [if_pos rfl, if_pos (by simp [bx, hj]), if_pos rfl]
  rw [if_neg e, if_neg (fun x => e x.symm)]
 have h1 : (bx n f)[j]? = none := by simp [bx]; omega
 have h2 : (bx n (fun j => if j = i then x else f j))[j]? = none := by simp [bx]; omega
 rw [h1, h2]
 by_cases e : i = j
 ·subst e
  rw [if_pos rfl, if_neg (by simp [bx]; omega)]
 rw [if_neg e]
def bF (i : Nat) : Bool := decide (8 ≤ 254 - i) || decide (235 / 2 ^ (254 - i) % 2 = 1)
def bK (k i : Nat) : Bool := if i < k then bF i else false
theorem bK_set (k : Nat) : (bx 255 (bK k)).setIfInBounds k (.bool (bF k)) = bx 255 (bK (k + 1)) := by
 rw [bx_set]
 congr 1
 funext j
 unfold bK
 by_cases e : j = k
 ·subst e; rw [if_pos rfl, if_pos (by omega)]
 rw [if_neg e]
 by_cases e1 : j < k
 ·rw [if_pos e1, if_pos (by omega)]
 rw [if_neg e1, if_neg (by omega)]
theorem make_bool (m : Nat) (hm : m ≤ 1000000) (w : World) : (Instr.makeSlice 137 (.int .i64 (m : Int)) (.int .i64 (m : Int))).run Tryz.prog w = .ok (.slice (some ⟨w.heap.size, 0, none⟩) m m) (w.alloc (.cells (bx m (fun _ => false)) 4)) := by
 have h := run_make_row' (P := Tryz.prog) 137 4 (.bool false) 1 (by kernel_rfl) (by kernel_rfl) rfl .i64 .i64 m (by omega) (by omega) w
 have e : madeCells #[.bool false] m = bx m (fun _ => false) := by
  apply Array.ext'
  apply List.ext_getElem?
  intro i
  unfold madeCells bx
  simp
  by_cases h : i < m
  ·simp [h, Nat.mod_one]
  ·simp [h]
 rw [e] at h
 exact h
theorem bits_any (w : World) : Calls Tryz.prog 79 #[.int .i64 255, .int .i64 21] w fun e w' => (∃ b, e = .returned (.slice (some ⟨b, 0, none⟩) 255 255) ∧ w.heap.size ≤ b ∧ w'.heap[b]? = some (.cells (bx 255 bF) 4)) ∧ Below w.heap.size w w' := by
 have hmk := fun w => make_bool 255 (by decide) w
 simp only [Int.cast_ofNat_Int] at hmk
 have w0 : IntKind.i64.wrap 235 = 235 := by decide
 have w254 : IntKind.i64.wrap 254 = 254 := by decide
 go_enter Tryz.func79, Tryz.ntmps79
 have HK0 := hDx (KS.start w)
 go_upto_region 2 with (fail)
 have hm1 := (HK0.out.made (.cells (bx 255 (fun _ => false)) 4))
 obtain ⟨A, hgA⟩ := nm w.heap.size
 obtain ⟨ww1, hv1⟩ := nm (World.alloc w (.cells (bx 255 (fun _ => false)) 4))
 rw [← hv1, ← hgA] at hm1
 rw [← hv1]
 try rw [← hgA]
 have HK1 : Hid (KS [(A, .cells (bx 255 (bK 0)) 4)] [] w ww1) := hDx hm1
 clear hm1 hv1 hgA
 clear hmk
 go_upto_region 4 with fail
 go_loopw [7] (fun vS wr => ∃ k : Nat, k ≤ 255 ∧ vS = .int .i64 (k : Int) ∧ KS [(A, .cells (bx 255 (bK k)) 4)] [] w wr) (fun vS _ => 255 - (intOf vS).toNat)
 case atStart => exact ⟨0, Nat.zero_le _, rfl, HK1.out⟩
 obtain ⟨k, hk, rfl, HK⟩ := hrel
 have HK2 := hDx HK
 clear HK
 by_cases hlt : k < 255
 ·have hk1 : (0 : Int) ≤ k := by omega
  have hk2 : (k : Int) < 255 := by omega
  obtain ⟨hk3, hk4⟩ := i64w (x := (k : Int) + 1) (n := k + 1) (by omega) (by omega)
  have hs := bK_set k
  have hc := bx_at 255 (bK k) k hlt
  obtain ⟨V, hV⟩ := nm (bx 255 (bK k))
  rw [← hV] at hs hc HK2
  clear hV
  have c0 := (HK2.out.cells 0 rfl).cell k _ hc
  have z0 := (HK2.out.cells 0 rfl).fz
  clear hc
  rcases Nat.lt_or_ge k 247 with h247 | h247
  ·have hb : bF k = true := by unfold bF; rw [decide_eq_true (show 8 ≤ 254 - k by omega)]; rfl
   rw [hb] at hs
   obtain ⟨m, hm⟩ : ∃ m, m = 254 - k := ⟨_, rfl⟩
   have e1 : (254 : Int) - k = m := by omega
   obtain ⟨e2, e3⟩ := i64w (x := (m : Int)) (n := m) rfl (by omega)
   have e4 : (8 : Int) ≤ m := by omega
   have HJ := hDx (And.intro hs hlt)
   clear hs hlt hb hm h247
   go_upto_region 5 with fail
   obtain ⟨ww3, hv3⟩ := nm (World.setCell wr ⟨A, k, none⟩ (.bool true))
   have HK3 : Hid (KS [(A, .cells (V.setIfInBounds k (.bool true)) 4)] [] w ww3) := by rw [hv3]; exact hDx (HK2.out.set 0 rfl k (.bool true))
   rw [← hv3]
   clear hv3
   clear c0 z0 e1 e2 e3 e4
   go_wp2_with fail
   go_roundw
   case rel =>
    exact ⟨k + 1, HJ.out.2, by first | rfl | go_num, by rw [← HJ.out.1]; exact HK3.out⟩
   exact measI 255 _ HJ.out.2
  have hcase : k = 247 ∨ k = 248 ∨ k = 249 ∨ k = 250 ∨ k = 251 ∨ k = 252 ∨ k = 253 ∨ k = 254 := by omega
  have HJ := hDx (And.intro hs hlt)
  clear hs hlt h247 hk hk1 hk2 hk3 hk4
  rcases hcase with rfl | rfl | rfl | rfl | rfl | rfl | rfl | rfl
  ·simp only [Int.cast_ofNat_Int] at *
   have e1 : IntKind.i64.wrap 7 = 7 := by decide
   have e2 : IntKind.u64.wrap 7 = 7 := by decide
   have e3 : bits .and .i64 1 1 = 1 := by decide
   have e4 : IntKind.i64.wrap 248 = 248 := by decide
   have hbq : bF 247 = true := by decide
   have hsh : Op.shift .shr .i64 235 .u64 7 = pure (.int .i64 1) := by
    rw [shift_shr _ _ _ _ (by decide) (by decide)]; rfl
   go_upto_region 5 with (first | (with_reducible show Oper.wp _ _ _ _ _ _; refine wp_shift hsh (Or.inl rfl) rfl rfl rfl ?_))
   obtain ⟨ww3, hv3⟩ := nm (World.setCell wr ⟨A, 247, none⟩ (.bool true))
   have HK3 : Hid (KS [(A, .cells (V.setIfInBounds 247 (.bool true)) 4)] [] w ww3) := by rw [hv3]; exact hDx (HK2.out.set 0 rfl 247 (.bool true))
   rw [← hv3]
   clear hv3
   clear c0 z0
   go_wp2_with fail
   go_roundw
   case rel =>
    exact ⟨248, by decide, by first | rfl | go_num, by rw [← HJ.out.1, hbq]; exact HK3.out⟩
   exact measI 255 247 HJ.out.2
  ·simp only [Int.cast_ofNat_Int] at *
   have e1 : IntKind.i64.wrap 6 = 6 := by decide
   have e2 : IntKind.u64.wrap 6 = 6 := by decide
   have e3 : bits .and .i64 3 1 = 1 := by decide
   have e4 : IntKind.i64.wrap 249 = 249 := by decide
   have hbq : bF 248 = true := by decide
   have hsh : Op.shift .shr .i64 235 .u64 6 = pure (.int .i64 3) := by
    rw [shift_shr _ _ _ _ (by decide) (by decide)]; rfl
   go_upto_region 5 with (first | (with_reducible show Oper.wp _ _ _ _ _ _; refine wp_shift hsh (Or.inl rfl) rfl rfl rfl ?_))
   obtain ⟨ww3, hv3⟩ := nm (World.setCell wr ⟨A, 248, none⟩ (.bool true))
   have HK3 : Hid (KS [(A, .cells (V.setIfInBounds 248 (.bool true)) 4)] [] w ww3) := by rw [hv3]; exact hDx (HK2.out.set 0 rfl 248 (.bool true))
   rw [← hv3]
   clear hv3
   clear c0 z0
   go_wp2_with fail
   go_roundw
   case rel =>
    exact ⟨249, by decide, by first | rfl | go_num, by rw [← HJ.out.1, hbq]; exact HK3.out⟩
   exact measI 255 248 HJ.out.2
  ·simp only [Int.cast_ofNat_Int] at *
   have e1 : IntKind.i64.wrap 5 = 5 := by decide
   have e2 : IntKind.u64.wrap 5 = 5 := by decide
   have e3 : bits .and .i64 7 1 = 1 := by decide
   have e4 : IntKind.i64.wrap 250 = 250 := by decide
   have hbq : bF 249 = true := by decide
   have hsh : Op.shift .shr .i64 235 .u64 5 = pure (.int .i64 7) := by
    rw [shift_shr _ _ _ _ (by decide) (by decide)]; rfl
   go_upto_region 5 with (first | (with_reducible show Oper.wp _ _ _ _ _ _; refine wp_shift hsh (Or.inl rfl) rfl rfl rfl ?_))
   obtain ⟨ww3, hv3⟩ := nm (World.setCell wr ⟨A, 249, none⟩ (.bool true))
   have HK3 : Hid (KS [(A, .cells (V.setIfInBounds 249 (.bool true)) 4)] [] w ww3) := by rw [hv3]; exact hDx (HK2.out.set 0 rfl 249 (.bool true))
   rw [← hv3]
   clear hv3
   clear c0 z0
   go_wp2_with fail
   go_roundw
   case rel =>
    exact ⟨250, by decide, by first | rfl | go_num, by rw [← HJ.out.1, hbq]; exact HK3.out⟩
   exact measI 255 249 HJ.out.2
  ·simp only [Int.cast_ofNat_Int] at *
   have e1 : IntKind.i64.wrap 4 = 4 := by decide
   have e2 : IntKind.u64.wrap 4 = 4 := by decide
   have e3 : bits .and .i64 14 1 = 0 := by decide
   have e4 : IntKind.i64.wrap 251 = 251 := by decide
   have hbq : bF 250 = false := by decide
   have hsh : Op.shift .shr .i64 235 .u64 4 = pure (.int .i64 14) := by
    rw [shift_shr _ _ _ _ (by decide) (by decide)]; rfl
   go_upto_region 5 with (first | (with_reducible show Oper.wp _ _ _ _ _ _; refine wp_shift hsh (Or.inl rfl) rfl rfl rfl ?_))
   obtain ⟨ww3, hv3⟩ := nm (World.setCell wr ⟨A, 250, none⟩ (.bool false))
   have HK3 : Hid (KS [(A, .cells (V.setIfInBounds 250 (.bool false)) 4)] [] w ww3) := by rw [hv3]; exact hDx (HK2.out.set 0 rfl 250 (.bool false))
   rw [← hv3]
   clear hv3
   clear c0 z0
   go_wp2_with fail
   go_roundw
   case rel =>
    exact ⟨251, by decide, by first | rfl | go_num, by rw [← HJ.out.1, hbq]; exact HK3.out⟩
   exact measI 255 250 HJ.out.2
  ·simp only [Int.cast_ofNat_Int] at *
   have e1 : IntKind.i64.wrap 3 = 3 := by decide
   have e2 : IntKind.u64.wrap 3 = 3 := by decide
   have e3 : bits .and .i64 29 1 = 1 := by decide
   have e4 : IntKind.i64.wrap 252 = 252 := by decide
   have hbq : bF 251 = true := by decide
   have hsh : Op.shift .shr .i64 235 .u64 3 = pure (.int .i64 29) := by
    rw [shift_shr _ _ _ _ (by decide) (by decide)]; rfl
   go_upto_region 5 with (first | (with_reducible show Oper.wp _ _ _ _ _ _; refine wp_shift hsh (Or.inl rfl) rfl rfl rfl ?_))
   obtain ⟨ww3, hv3⟩ := nm (World.setCell wr ⟨A, 251, none⟩ (.bool true))
   have HK3 : Hid (KS [(A, .cells (V.setIfInBounds 251 (.bool true)) 4)] [] w ww3) := by rw [hv3]; exact hDx (HK2.out.set 0 rfl 251 (.bool true))
   rw [← hv3]
   clear hv3
   clear c0 z0
   go_wp2_with fail
   go_roundw
   case rel =>
    exact ⟨252, by decide, by first | rfl | go_num, by rw [← HJ.out.1, hbq]; exact HK3.out⟩
   exact measI 255 251 HJ.out.2
  ·simp only [Int.cast_ofNat_Int] at *
   have e1 : IntKind.i64.wrap 2 = 2 := by decide
   have e2 : IntKind.u64.wrap 2 = 2 := by decide
   have e3 : bits .and .i64 58 1 = 0 := by decide
   have e4 : IntKind.i64.wrap 253 = 253 := by decide
   have hbq : bF 252 = false := by decide
   have hsh : Op.shift .shr .i64 235 .u64 2 = pure (.int .i64 58) := by
    rw [shift_shr _ _ _ _ (by decide) (by decide)]; rfl
   go_upto_region 5 with (first | (with_reducible show Oper.wp _ _ _ _ _ _; refine wp_shift hsh (Or.inl rfl) rfl rfl rfl ?_))
   obtain ⟨ww3, hv3⟩ := nm (World.setCell wr ⟨A, 252, none⟩ (.bool false))
   have HK3 : Hid (KS [(A, .cells (V.setIfInBounds 252 (.bool false)) 4)] [] w ww3) := by rw [hv3]; exact hDx (HK2.out.set 0 rfl 252 (.bool false))
   rw [← hv3]
   clear hv3
   clear c0 z0
   go_wp2_with fail
   go_roundw
   case rel =>
    exact ⟨253, by decide, by first | rfl | go_num, by rw [← HJ.out.1, hbq]; exact HK3.out⟩
   exact measI 255 252 HJ.out.2
  ·simp only [Int.cast_ofNat_Int] at *
   have e1 : IntKind.i64.wrap 1 = 1 := by decide
   have e2 : IntKind.u64.wrap 1 = 1 := by decide
   have e3 : bits .and .i64 117 1 = 1 := by decide
   have e4 : IntKind.i64.wrap 254 = 254 := by decide
   have hbq : bF 253 = true := by decide
   have hsh : Op.shift .shr .i64 235 .u64 1 = pure (.int .i64 117) := by
    rw [shift_shr _ _ _ _ (by decide) (by decide)]; rfl
   go_upto_region 5 with (first | (with_reducible show Oper.wp _ _ _ _ _ _; refine wp_shift hsh (Or.inl rfl) rfl rfl rfl ?_))
   obtain ⟨ww3, hv3⟩ := nm (World.setCell wr ⟨A, 253, none⟩ (.bool true))
   have HK3 : Hid (KS [(A, .cells (V.setIfInBounds 253 (.bool true)) 4)] [] w ww3) := by rw [hv3]; exact hDx (HK2.out.set 0 rfl 253 (.bool true))
   rw [← hv3]
   clear hv3
   clear c0 z0
   go_wp2_with fail
   go_roundw
   case rel =>
    exact ⟨254, by decide, by first | rfl | go_num, by rw [← HJ.out.1, hbq]; exact HK3.out⟩
   exact measI 255 253 HJ.out.2
  simp only [Int.cast_ofNat_Int] at *
  have e1 : IntKind.i64.wrap 0 = 0 := by decide
  have e2 : IntKind.u64.wrap 0 = 0 := by decide
  have e3 : bits .and .i64 235 1 = 1 := by decide
  have e4 : IntKind.i64.wrap 255 = 255 := by decide
  have hbq : bF 254 = true := by decide
  have hsh : Op.shift .shr .i64 235 .u64 0 = pure (.int .i64 235) := by
   rw [shift_shr _ _ _ _ (by decide) (by decide)]; rfl
  go_upto_region 5 with (first | (with_reducible show Oper.wp _ _ _ _ _ _; refine wp_shift hsh (Or.inl rfl) rfl rfl rfl ?_))
  obtain ⟨ww3, hv3⟩ := nm (World.setCell wr ⟨A, 254, none⟩ (.bool true))
  have HK3 : Hid (KS [(A, .cells (V.setIfInBounds 254 (.bool true)) 4)] [] w ww3) := by rw [hv3]; exact hDx (HK2.out.set 0 rfl 254 (.bool true))
  rw [← hv3]
  clear hv3
  clear c0 z0
  go_wp2_with fail
  go_roundw
  case rel =>
   exact ⟨255, by decide, by first | rfl | go_num, by rw [← HJ.out.1, hbq]; exact HK3.out⟩
  exact measI 255 254 HJ.out.2
 obtain rfl : k = 255 := by omega
 try simp only [Int.cast_ofNat_Int]
 have e : bx 255 (bK 255) = bx 255 bF := by
  unfold bx
  exact congrArg List.toArray (List.map_congr_left fun j hj => by unfold bK; rw [if_pos (List.mem_range.1 hj)])
 rw [e] at HK2
 clear e
 go_wp2_with fail
 go_ret
 exact ⟨⟨A, rfl, (HK2.out.mem 0 rfl).resolve_left (by simp), HK2.out.get 0 rfl⟩, HK2.out.below⟩
end
section
open Go.RowKit T
def exB : Nat → Nat
 | 0 => 0
 | k + 1 => 2 * exB k + (bF k).toNat
theorem exB_all : exB 255 = P - 2 := by decide +kernel
theorem exB_step (X : F) (k : Nat) : T.pw X (exB (k + 1)) = if bF k then T.pw X (exB k) * T.pw X (exB k) * X else T.pw X (exB k) * T.pw X (exB k) := by
 rw [exB, Nat.two_mul]
 cases bF k
 ·show T.pw X (exB k + exB k + 0) = _
  rw [Nat.add_zero, pw_add]
  rfl
 show T.pw X (exB k + exB k + 1) = _
 rw [pw_add, pw_add, pw_one]
 rfl
theorem rsmall1 (w : World) : Calls Tryz.prog 54 #[.int .u32 1] w fun e w' => e = .returned (numV 1) ∧ Below w.heap.size w w' := rsmall_any 1 (by decide) w
def nL (X : F) : List Int := rw_ 16 (lim 65536 X.val)
theorem nL_len (X : F) : (nL X).length = 16 := rw_len' _ _
theorem rmul_l (X Y : F) (w : World) : Calls Tryz.prog 56 #[.agg (lk .u64 (nL X)), .agg (lk .u64 (nL Y))] w fun e w' => e = .returned (.agg (lk .u64 (nL (X * Y)))) ∧ Below w.heap.size w w' := rmul_any X Y w
theorem bx_cell {w u : World} {b : Nat} {L : List (Nat × Obj)} (h : KS L [] w u) (hb : w.heap[b]? = some (.cells (bx 255 bF) 4)) {k : Nat} (hk : k < 255) : u.cell? ⟨b, k, none⟩ = some (.bool (bF k)) := by
 have h1 := h.old b (lt_heap hb) (by simp)
 rw [hb] at h1
 simp [World.cell?, h1, bx_at 255 bF k hk]
theorem power_any (X : F) (b : Nat) (w : World) (hb : w.heap[b]? = some (.cells (bx 255 bF) 4)) : Calls Tryz.prog 78 #[numV X, .slice (some ⟨b, 0, none⟩) 255 255] w fun e w' => e = .returned (numV (T.iv X)) ∧ Below w.heap.size w w' := by
 obtain ⟨VV, hVV⟩ := nm (numV (T.iv X))
 rw [← hVV]
 rw [show T.iv X = T.pw X (exB 255) by rw [exB_all]; rfl] at hVV
 replace hVV := hDx hVV
 replace hb := hDx hb
 rw [show numV X = .agg (lk .u64 (nL X)) from rfl]
 go_enter Tryz.func78, Tryz.ntmps78
 have HK0 := hDx (KS.start w)
 go_upto_region 1 with (fail)
 have hm1 := ((HK0.out.made (.cells (lk .u64 (nL X)) 109)).made (.cells ZRu64x16 109))
 try rw [show ((World.alloc w (.cells (lk .u64 (nL X)) 109))).heap.size = w.heap.size + 1 by simp] at hm1
 obtain ⟨R, hgR⟩ := nm (w.heap.size + 1)
 obtain ⟨A, hgA⟩ := nm w.heap.size
 obtain ⟨ww1, hv1⟩ := nm (World.alloc (World.alloc w (.cells (lk .u64 (nL X)) 109)) (.cells ZRu64x16 109))
 rw [← hv1, ← hgR, ← hgA] at hm1
 rw [← hv1]
 try rw [← hgR]
 try rw [← hgA]
 have HK1 : Hid (KS [(R, .cells (lk .u64 (zi 16)) 109), (A, .cells (lk .u64 (nL X)) 109)] [] w ww1) := hDx hm1
 clear hm1 hv1 hgA hgR
 go_wp2_with fail
 refine (rsmall1 _).mono ?_
 rintro e ww2 ⟨rfl, B1⟩
 simp only []
 have HK2 := hDx (HK1.out.call B1)
 clear B1
 rw [show numV 1 = .agg (lk .u64 (nL 1)) from rfl]
 have FH3 := rk_new ww2 109 16 .u64 (zi 16) (zi_len 16)
 go_upto_region 2 with (refine wpList_store_rk rfl _ _ rfl rfl rfl FH3 ty109 (nL_len 1) ?_)
 have hm3 := (HK2.out.made (.cells ZRu64x16 109)).setRow 0 rfl (lk .u64 (nL 1))
 obtain ⟨Y, hgY⟩ := nm ww2.heap.size
 obtain ⟨ww3, hv3⟩ := nm (World.setRow (World.alloc ww2 (.cells ZRu64x16 109)) ww2.heap.size (lk .u64 (nL 1)))
 rw [← hv3, ← hgY] at hm3
 rw [← hv3]
 try rw [← hgY]
 have HK3 : Hid (KS [(Y, .cells (lk .u64 (nL 1)) 109), (R, .cells (lk .u64 (zi 16)) 109), (A, .cells (lk .u64 (nL X)) 109)] [] w ww3) := hDx hm3
 clear hm3 hv3 hgY
 rw [show (1 : F) = T.pw X (exB 0) from rfl] at HK3
 go_upto_region 3 with fail
 go_loopw [6] (fun vS wr => ∃ k : Nat, k ≤ 255 ∧ vS = .int .i64 (k : Int) ∧ KS [(Y, .cells (lk .u64 (nL (T.pw X (exB k)))) 109), (R, .cells (lk .u64 (zi 16)) 109), (A, .cells (lk .u64 (nL X)) 109)] [] w wr) (fun vS _ => 255 - (intOf vS).toNat)
 case atStart => exact ⟨0, Nat.zero_le _, rfl, HK3.out⟩
 obtain ⟨k, hk, rfl, HK⟩ := hrel
 have HK4 := hDx HK
 clear HK
 by_cases hlt : k < 255
 ·have hk1 : (0 : Int) ≤ k := by omega
  have hk2 : (k : Int) < 255 := by omega
  obtain ⟨hk3, hk4⟩ := i64w (x := (k : Int) + 1) (n := k + 1) (by omega) (by omega)
  have hst := exB_step X k
  obtain ⟨Z, hZ⟩ := nm (T.pw X (exB k))
  rw [← hZ] at hst HK4
  clear hZ
  have HJ := hDx (And.intro hst hlt)
  clear hst
  have FY := (HK4.out.rk 0 rfl (nL_len _))
  go_upto_region 5 with fail
  go_wp2_with (with_reducible show wpList _ _ _ _ _ _; refine wpList_load_rk rfl _ rfl rfl FY ty109 ?_)
  refine (rmul_l Z Z _).mono ?_
  rintro e ww5 ⟨rfl, B1⟩
  simp only []
  have HK5 := hDx (HK4.out.call B1)
  clear B1
  clear FY
  have FS := (HK5.out.rk 0 rfl (nL_len _))
  go_upto_region 6 with (refine wpList_store_rk rfl _ _ rfl rfl rfl FS ty109 (nL_len _) ?_)
  obtain ⟨ww6, hv6⟩ := nm (World.setRow ww5 Y (lk .u64 (nL (Z * Z))))
  have HK6 : Hid (KS [(Y, .cells (lk .u64 (nL (Z * Z))) 109), (R, .cells (lk .u64 (zi 16)) 109), (A, .cells (lk .u64 (nL X)) 109)] [] w ww6) := by rw [hv6]; exact hDx (HK5.out.setRow 0 rfl _)
  rw [← hv6]
  clear hv6
  clear FS
  have cb := bx_cell HK6.out hb.out HJ.out.2
  obtain ⟨q, hq⟩ := nm (bF k)
  rw [← hq] at cb
  cases q
  ·replace hq := hDx hq
   clear hlt
   go_wp2_with fail
   go_roundw
   case rel =>
    exact ⟨k + 1, HJ.out.2, by first | rfl | go_num, by rw [HJ.out.1, if_neg (by rw [← hq.out]; decide)]; exact HK6.out⟩
   exact measI 255 _ HJ.out.2
  replace hq := hDx hq
  clear hlt
  have FY := (HK6.out.rk 0 rfl (nL_len _))
  have FA := (HK6.out.rk 2 rfl (nL_len _))
  go_upto_region 7 with fail
  clear cb
  go_wp2_with (first | (with_reducible show wpList _ _ _ _ _ _; refine wpList_load_rk (b := Y) rfl _ rfl rfl FY ty109 ?_) | (with_reducible show wpList _ _ _ _ _ _; refine wpList_load_rk (b := A) rfl _ rfl rfl FA ty109 ?_))
  refine (rmul_l (Z * Z) X _).mono ?_
  rintro e ww7 ⟨rfl, B1⟩
  simp only []
  have HK7 := hDx (HK6.out.call B1)
  clear B1
  clear FY FA
  have FS := (HK7.out.rk 0 rfl (nL_len _))
  go_wp2_with (with_reducible show wpList _ _ _ _ _ _; refine wpList_store_rk rfl _ _ rfl rfl rfl FS ty109 (nL_len _) ?_)
  have KE := HK7.out.setRow 0 rfl (lk .u64 (nL (Z * Z * X)))
  go_roundw
  case rel =>
   exact ⟨k + 1, HJ.out.2, by first | rfl | go_num, by rw [HJ.out.1, if_pos hq.out.symm]; exact KE⟩
  exact measI 255 _ HJ.out.2
 obtain rfl : k = 255 := by omega
 try simp only [Int.cast_ofNat_Int]
 have FA := (HK4.out.rk 0 rfl (nL_len _))
 have FR := (HK4.out.rk 1 rfl (zi_len 16))
 go_wp2_with (first | (refine wpList_load_rk rfl _ rfl rfl FA ty109 ?_) | (refine wpList_store_rk rfl _ _ rfl rfl rfl FR ty109 (nL_len _) ?_))
 have KE := HK4.out.setRow 1 rfl (lk .u64 (nL (T.pw X (exB 255))))
 try simp only [Exit.inBlock, Exit.then]
 refine bodyPost_ret (results_rk (p := 4) (by kernel_rfl) (by rfl) (KE.rk 1 rfl (nL_len _)) ty109) rfl ?_
 exact ⟨by rw [hVV.out]; rfl, KE.below⟩
end
section
open Go.RowKit T
def Fct.sl (n : Nat) (o : Obj) : Fct := ⟨fun v u => ∃ g, v = .slice (some ⟨g, 0, none⟩) n n ∧ u.heap[g]? = some o, fun _ _ _ hb ⟨g, h1, h3⟩ => ⟨g, h1, (hb.block _ (lt_heap h3)).trans h3⟩⟩
theorem rinv_any (X : F) (w : World) : Calls Tryz.prog 58 #[numV X] w fun e w' => e = .returned (numV (T.iv X)) ∧ Below w.heap.size w w' := by
 rw [show numV X = .agg (lk .u64 (nL X)) from rfl]
 go_enter Tryz.func58, Tryz.ntmps58
 have HK0 := hDx (KS.start w)
 go_upto_region 1 with (fail)
 have hm1 := ((HK0.out.made (.cells (lk .u64 (nL X)) 109)).made (.cells ZRu64x16 109))
 try rw [show ((World.alloc w (.cells (lk .u64 (nL X)) 109))).heap.size = w.heap.size + 1 by simp] at hm1
 obtain ⟨R, hgR⟩ := nm (w.heap.size + 1)
 obtain ⟨A, hgA⟩ := nm w.heap.size
 obtain ⟨ww1, hv1⟩ := nm (World.alloc (World.alloc w (.cells (lk .u64 (nL X)) 109)) (.cells ZRu64x16 109))
 rw [← hv1, ← hgR, ← hgA] at hm1
 rw [← hv1]
 try rw [← hgR]
 try rw [← hgA]
 have HK1 : Hid (KS [(R, .cells (lk .u64 (zi 16)) 109), (A, .cells (lk .u64 (nL X)) 109)] [] w ww1) := hDx hm1
 clear hm1 hv1 hgA hgR
 try simp only [Act.put, sAx, s0x, s1x]
 refine wp_region_calm 3 [3, 4, 5] [] [[], [], [3, 4]] (Ftab [(3, .val (numV X)), (4, .sl 255 (.cells (bx 255 bF) 4)), (5, .val (numV (T.iv X)))]) (by kernel_rfl) (by kernel_rfl) (by rfl) (by kernel_rfl) ?hO ?hE
 case hO =>
  refine ⟨?_, ?_, ?_, trivial⟩
  ·intro act u HB HO HA
   have e1 : act.eval (.tmp 1) = .pointer (some ⟨A, 0, none⟩) := HO 1 (by decide)
   have HS := HK1.out.drew.call HB
   exact calm_lM 3 1 e1 (HS.get 1 rfl) ag109 (extR _) ((by rw [lk_size]; exact nL_len _)) rfl rfl rfl rfl
  ·intro act u HB HO HA
   refine calm_call 4 #[.int .i64 255, .int .i64 21] rfl rfl ?_ (by kernel_rfl) (bits_any u) ?_ rfl
   ·simp only [mTx, mCx, mNx]
    try rfl
   rintro e u1 ⟨⟨b, rfl, _, hb⟩, B1⟩
   exact ⟨_, rfl, ⟨b, rfl, hb⟩, B1⟩
  intro act u HB HO HA
  have e3 : _ = _ := qA HA 3
  obtain ⟨g4, e4, b4⟩ : (Fct.sl 255 (.cells (bx 255 bF) 4)).p (act.eval (.tmp 4)) u := qA HA 4
  refine calm_call 5 #[numV X, .slice (some ⟨g4, 0, none⟩) 255 255] rfl rfl ?_ (by kernel_rfl) (power_any X g4 u b4) ?_ rfl
  ·simp only [mTx, mCx, mNx, e3, e4]
   try rfl
  rintro e u1 ⟨rfl, B1⟩
  exact ⟨_, rfl, rfl, B1⟩
 intro vT ww2 HB HF HN
 have f3 : _ = _ := qA HF 3
 obtain ⟨g4, f4, b4⟩ : (Fct.sl 255 (.cells (bx 255 bF) 4)).p (vT 4) ww2 := qA HF 4
 clear b4
 have f5 : _ = _ := qA HF 5
 have HK2 := hDx (HK1.out.drew.call HB)
 simp only [fill, Act.put, sAx, s0x, s1x, dSx, d0x, f3, f4, f5]
 clear HB HF HN f3 f4 f5
 have FR := (HK2.out.rk 0 rfl (zi_len 16))
 go_wp2_with (with_reducible show wpList _ _ _ _ _ _; refine wpList_store_rk (u := nL (T.iv X)) rfl _ _ rfl rfl rfl FR ty109 (nL_len _) ?_)
 have KE := HK2.out.setRow 0 rfl (lk .u64 (nL (T.iv X)))
 try simp only [Exit.inBlock, Exit.then]
 refine bodyPost_ret (results_rk (p := 2) (by kernel_rfl) (by rfl) (KE.rk 0 rfl (nL_len _)) ty109) rfl ?_
 exact ⟨rfl, KE.below⟩
end
end Go.Proofs.YtoplbfijodebmaaGreatDoor
