/-
  The walk.
-/
import Derived.Test.YtoplbfijodebmaaGreatDoorM21Elem7
import Derived.Test.YtoplbfijodebmaaGreatDoorM23Mont
set_option linter.unusedVariables false
set_option linter.unusedSimpArgs false
set_option maxRecDepth 100000
set_option maxHeartbeats 40000000
namespace Go.Proofs.YtoplbfijodebmaaGreatDoor
section
open Go.RowKit T
def rw_ (n : Nat) (f : Nat → Nat) : List Int := (List.range n).map fun j => (f j : Int)
def upd (f : Nat → Nat) (i x : Nat) (j : Nat) : Nat := if j = i then x else f j
theorem rw_len' (n : Nat) (f : Nat → Nat) : (rw_ n f).length = n := by simp [rw_]
theorem rw_get (n : Nat) (f : Nat → Nat) (i : Nat) (h : i < n) : (rw_ n f)[i]? = some (f i : Int) := by
 unfold rw_
 rw [List.getElem?_map, List.getElem?_range h]
 rfl
theorem rw_at' (n : Nat) (f : Nat → Nat) (i : Nat) (h : i < n) : ia (rw_ n f) i = f i := by
 unfold ia
 rw [List.getD_eq_getElem?_getD, rw_get n f i h]
 rfl
theorem rw_ext {n : Nat} {f g : Nat → Nat} (h : ∀ j, j < n → f j = g j) : rw_ n f = rw_ n g := by
 unfold rw_
 exact List.map_congr_left fun j hj => by rw [h j (List.mem_range.1 hj)]
theorem rw_set (n : Nat) (f : Nat → Nat) (i x : Nat) : (rw_ n f).set i (x : Int) = rw_ n (upd f i x) := by
 apply List.ext_getElem?
 intro j
 rw [List.getElem?_set, rw_len']
 by_cases hj : j < n
 ·rw [rw_get n f j hj, rw_get n _ j hj]
  unfold upd
  by_cases e : i = j
  ·subst e
   rw [if_pos rfl, if_pos hj, if_pos rfl]
  rw [if_neg e, if_neg (fun x => e x.symm)]
 have h1 : (rw_ n f)[j]? = none := List.getElem?_eq_none (by rw [rw_len']; omega)
 have h2 : (rw_ n (upd f i x))[j]? = none := List.getElem?_eq_none (by rw [rw_len']; omega)
 rw [h1, h2]
 by_cases e : i = j
 ·subst e; rw [if_pos rfl, if_neg hj]
 rw [if_neg e]
theorem zi_rw (n : Nat) : zi n = rw_ n (fun _ => 0) := by
 apply List.ext_getElem?
 intro i
 unfold zi
 rw [List.getElem?_replicate]
 by_cases h : i < n
 ·rw [rw_get n _ i h, if_pos h]; rfl
 rw [if_neg h, List.getElem?_eq_none (by rw [rw_len']; omega)]
def vs (b : Nat) (f : Nat → Nat) : Nat → Nat
 | 0 => 0
 | n + 1 => vs b f n + f n * b ^ n
theorem vs_ext {b : Nat} {f g : Nat → Nat} : ∀ n, (∀ j, j < n → f j = g j) → vs b f n = vs b g n
 | 0, _ => rfl
 | n + 1, h => by rw [vs, vs, vs_ext n (fun j hj => h j (by omega)), h n (by omega)]
theorem vs_lt {b : Nat} {f : Nat → Nat} (hb : 0 < b) : ∀ n, (∀ j, j < n → f j < b) → vs b f n < b ^ n
 | 0, _ => by simp [vs]
 | n + 1, h => by
  have h1 := vs_lt hb n (fun j hj => h j (by omega))
  have h2 := h n (by omega)
  rw [vs, Nat.pow_succ]
  have h3 : f n * b ^ n ≤ (b - 1) * b ^ n := Nat.mul_le_mul_right _ (by omega)
  have h4 : (b - 1) * b ^ n + b ^ n = b ^ n * b := by rw [Nat.sub_mul, Nat.one_mul, Nat.mul_comm b, Nat.sub_add_cancel (Nat.le_mul_of_pos_right _ hb)]
  omega
def lim (b n j : Nat) : Nat := n / b ^ j % b
theorem vs_lim (b n : Nat) : ∀ k, vs b (lim b n) k = n % b ^ k
 | 0 => by rw [vs, Nat.pow_zero, Nat.mod_one]
 | k + 1 => by rw [vs, vs_lim b n k, lim, Nat.pow_succ, Nat.mod_mul, Nat.mul_comm]
theorem lim_lt {b : Nat} (hb : 0 < b) (n j : Nat) : lim b n j < b := Nat.mod_lt _ hb
theorem vs_mod {b : Nat} {f : Nat → Nat} (hb : 0 < b) (k : Nat) (hf : ∀ j, j < k → f j < b) : ∀ n, vs b f (k + n) % b ^ k = vs b f k
 | 0 => Nat.mod_eq_of_lt (vs_lt hb k hf)
 | n + 1 => by
  rw [← Nat.add_assoc, vs, Nat.pow_add, Nat.mul_left_comm, Nat.add_mul_mod_self_left]
  exact vs_mod hb k hf n
theorem lim_vs {b : Nat} {f : Nat → Nat} (hb : 0 < b) (n j : Nat) (hf : ∀ j, j < n → f j < b) (hj : j < n) : lim b (vs b f n) j = f j := by
 have h1 := vs_mod hb (j + 1) (fun i hi => hf i (by omega)) (n - (j + 1))
 rw [show j + 1 + (n - (j + 1)) = n by omega] at h1
 unfold lim
 rw [← Nat.mod_mul_right_div_self, ← Nat.pow_succ, h1, vs, Nat.add_mul_div_right _ _ (Nat.pow_pos hb), Nat.div_eq_of_lt (vs_lt hb j (fun i hi => hf i (by omega))), Nat.zero_add]
theorem vs_upd {b : Nat} {f : Nat → Nat} {i x : Nat} : ∀ n, n ≤ i → vs b (upd f i x) n = vs b f n := fun n h =>
 vs_ext n fun j hj => by unfold upd; rw [if_neg (by omega)]
def pF (j : Nat) : Nat := if j = 0 then 65517 else if j < 15 then 65535 else 32767
theorem pF_v : vs 65536 pF 16 = P := by decide +kernel
theorem pF_lt (j : Nat) : pF j < 65536 := by
 unfold pF
 split
 ·decide
 split <;> decide
def pG (k j : Nat) : Nat := if j = 0 then 65517 else if j < k then 65535 else 0
theorem pG_step (k : Nat) (h : 1 ≤ k) : upd (pG k) k 65535 = pG (k + 1) := by
 funext j
 unfold upd pG
 by_cases e : j = k
 ·subst e; rw [if_pos rfl, if_neg (by omega), if_pos (by omega)]
 rw [if_neg e]
 by_cases e0 : j = 0
 ·rw [if_pos e0, if_pos e0]
 rw [if_neg e0, if_neg e0]
 by_cases e1 : j < k
 ·rw [if_pos e1, if_pos (by omega)]
 rw [if_neg e1, if_neg (by omega)]
theorem pG_last : rw_ 16 (upd (pG 15) 15 32767) = rw_ 16 pF := rw_ext fun j hj => by
 unfold upd pG pF
 by_cases e : j = 15
 ·subst e; rfl
 ·rw [if_neg e]
  by_cases e0 : j = 0
  ·rw [if_pos e0, if_pos e0]
  ·rw [if_neg e0, if_neg e0, if_pos (by omega), if_pos (by omega)]
theorem ty109 : RowTy 109 16 := ⟨⟨29, by kernel_rfl⟩, by kernel_rfl⟩
theorem ty134 : RowTy 134 32 := ⟨⟨29, by kernel_rfl⟩, by kernel_rfl⟩
theorem prime_any (w : World) : Calls Tryz.prog 101 #[] w fun e w' => e = .returned (.agg (lk .u64 (rw_ 16 pF))) ∧ Below w.heap.size w w' := by
 go_enter Tryz.func101, Tryz.ntmps101
 have HK0 := hDx (KS.start w)
 go_upto_region 1 with (fail)
 have hm1 := (HK0.out.made (.cells ZRu64x16 109))
 obtain ⟨R, hgR⟩ := nm w.heap.size
 obtain ⟨ww1, hv1⟩ := nm (World.alloc w (.cells ZRu64x16 109))
 rw [← hv1, ← hgR] at hm1
 rw [← hv1]
 try rw [← hgR]
 have HK1 : Hid (KS [(R, .cells (lk .u64 (zi 16)) 109)] [] w ww1) := hDx hm1
 clear hm1 hv1 hgR
 go_upto_region 2 with fail
 have hm2 := (HK1.out.made (.cells #[.int .u64 65517, .int .u64 0, .int .u64 0, .int .u64 0, .int .u64 0, .int .u64 0, .int .u64 0, .int .u64 0, .int .u64 0, .int .u64 0, .int .u64 0, .int .u64 0, .int .u64 0, .int .u64 0, .int .u64 0, .int .u64 0] 109))
 obtain ⟨A, hgA⟩ := nm ww1.heap.size
 obtain ⟨ww2, hv2⟩ := nm (World.alloc ww1 (.cells #[.int .u64 65517, .int .u64 0, .int .u64 0, .int .u64 0, .int .u64 0, .int .u64 0, .int .u64 0, .int .u64 0, .int .u64 0, .int .u64 0, .int .u64 0, .int .u64 0, .int .u64 0, .int .u64 0, .int .u64 0, .int .u64 0] 109))
 rw [← hv2, ← hgA] at hm2
 rw [← hv2]
 try rw [← hgA]
 have HK2 : Hid (KS [(A, .cells (lk .u64 (rw_ 16 (pG 1))) 109), (R, .cells (lk .u64 (zi 16)) 109)] [] w ww2) := hDx hm2
 clear hm2 hv2 hgA
 go_upto_region 3 with fail
 go_loopw [2] (fun vS wr => ∃ k : Nat, 1 ≤ k ∧ k ≤ 15 ∧ vS = .int .i64 (k : Int) ∧ KS [(A, .cells (lk .u64 (rw_ 16 (pG k))) 109), (R, .cells (lk .u64 (zi 16)) 109)] [] w wr) (fun vS _ => 15 - (intOf vS).toNat)
 case atStart => exact ⟨1, Nat.le_refl _, by decide, rfl, HK2.out⟩
 obtain ⟨k, hk0, hk, rfl, HK⟩ := hrel
 have HK3 := hDx HK
 clear HK
 by_cases hlt : k < 15
 ·have h1 : (k : Int) < 15 := by omega
  have h2 : (0 : Int) ≤ k := by omega
  have h3 : (k : Int) < 16 := by omega
  obtain ⟨h4, h5⟩ := i64w (x := (k : Int) + 1) (n := k + 1) (by omega) (by omega)
  have hs := pG_step k hk0
  obtain ⟨V, hV⟩ := nm (rw_ 16 (pG k))
  have hl : V.length = 16 := by rw [hV, rw_len']
  have hsv : V.set k 65535 = rw_ 16 (pG (k + 1)) := by rw [hV, ← hs]; exact rw_set 16 _ k 65535
  rw [← hV] at HK3
  clear hV hs
  have c0 := (HK3.out.rk 0 rfl hl).cell k (by omega)
  have z0 := (HK3.out.rk 0 rfl hl).fz
  have HJ := hDx hsv
  clear hsv
  go_upto_region 4 with fail
  obtain ⟨ww4, hv4⟩ := nm (World.setCell wr ⟨A, k, none⟩ (.int .u64 (65535)))
  have HK4 : Hid (KS [(A, .cells (lk .u64 (V.set k 65535)) 109), (R, .cells (lk .u64 (zi 16)) 109)] [] w ww4) := by rw [hv4]; exact hDx (HK3.out.setK 0 rfl k (65535))
  rw [← hv4]
  clear hv4
  clear c0 z0
  go_wp2_with fail
  go_roundw
  case rel => exact ⟨k + 1, by omega, hlt, by first | rfl | go_num, by rw [← HJ.out]; exact HK4.out⟩
  exact measI 15 k hlt
 obtain rfl : k = 15 := by omega
 try simp only [Int.cast_ofNat_Int]
 have c0 := (HK3.out.rk 0 rfl (rw_len' _ _)).cell 15 (by decide)
 have z0 := (HK3.out.rk 0 rfl (rw_len' _ _)).fz
 go_upto_region 7 with fail
 obtain ⟨ww4, hv4⟩ := nm (World.setCell wr ⟨A, 15, none⟩ (.int .u64 (32767)))
 have HK4 : Hid (KS [(A, .cells (lk .u64 ((rw_ 16 (pG 15)).set 15 32767)) 109), (R, .cells (lk .u64 (zi 16)) 109)] [] w ww4) := by rw [hv4]; exact hDx (HK3.out.setK 0 rfl 15 (32767))
 rw [← hv4]
 clear hv4
 have es : (rw_ 16 (pG 15)).set 15 32767 = rw_ 16 pF := by rw [← pG_last]; exact rw_set 16 _ 15 32767
 rw [es] at HK4
 clear c0 z0 es
 have FA := (HK4.out.rk 0 rfl (rw_len' _ _))
 have FR := (HK4.out.rk 1 rfl (zi_len 16))
 go_wp2_with (first | (refine wpList_load_rk rfl _ rfl rfl FA ty109 ?_) | (refine wpList_store_rk rfl _ _ rfl rfl rfl FR ty109 (rw_len' _ _) ?_))
 have KE := HK4.out.setRow 1 rfl (lk .u64 (rw_ 16 pF))
 try simp only [Exit.inBlock, Exit.then]
 refine bodyPost_ret (results_rk (p := 0) (by kernel_rfl) (by rfl) (KE.rk 1 rfl (rw_len' _ _)) ty109) rfl ?_
 exact ⟨rfl, KE.below⟩
end
section
open Go.RowKit T
def Sml (f : Nat → Nat) : Prop := ∀ j, j < 16 → f j < 65536
theorem vs_high {f g : Nat → Nat} (hf : Sml f) (hg : Sml g) (k : Nat) (hk : k < 16) (he : ∀ j, k < j → j < 16 → f j = g j) (hne : f k ≠ g k) : vs 65536 f 16 < vs 65536 g 16 ↔ f k < g k := by
 have key : ∀ n, k + 1 + n ≤ 16 → (vs 65536 f (k + 1 + n) < vs 65536 g (k + 1 + n) ↔ f k < g k) := by
  intro n
  induction n with
  | zero =>
   intro _
   have h1 := vs_lt (b := 65536) (f := f) (by decide) k (fun j hj => hf j (by omega))
   have h2 := vs_lt (b := 65536) (f := g) (by decide) k (fun j hj => hg j (by omega))
   rw [Nat.add_zero, vs, vs]
   generalize vs 65536 f k = a at h1
   generalize vs 65536 g k = b at h2
   generalize hp : 65536 ^ k = p at h1 h2
   rcases Nat.lt_or_gt_of_ne hne with h | h
   ·have h3 : (f k + 1) * p ≤ g k * p := Nat.mul_le_mul_right _ h
    rw [Nat.add_mul, Nat.one_mul] at h3
    constructor
    ·intro _; exact h
    ·intro _; omega
   ·have h3 : (g k + 1) * p ≤ f k * p := Nat.mul_le_mul_right _ h
    rw [Nat.add_mul, Nat.one_mul] at h3
    constructor
    ·intro h4; omega
    ·intro h4; omega
  | succ n ih =>
   intro hn
   rw [show k + 1 + (n + 1) = (k + 1 + n) + 1 by omega, vs, vs, he (k + 1 + n) (by omega) (by omega)]
   rw [Nat.add_lt_add_iff_right]
   exact ih (by omega)
 have := key (16 - (k + 1)) (by omega)
 rwa [show k + 1 + (16 - (k + 1)) = 16 by omega] at this
theorem vs_eq {f g : Nat → Nat} (he : ∀ j, j < 16 → f j = g j) : ¬ vs 65536 f 16 < vs 65536 g 16 := by
 rw [vs_ext 16 he]; exact Nat.lt_irrefl _
theorem ne_u {a b : Nat} (h : a ≠ b) : ¬ ((a : Int) = b) := by omega
theorem less_any (f g : Nat → Nat) (hf : Sml f) (hg : Sml g) (w : World) : Calls Tryz.prog 100 #[.agg (lk .u64 (rw_ 16 f)), .agg (lk .u64 (rw_ 16 g))] w fun e w' => e = .returned (.bool (decide (vs 65536 f 16 < vs 65536 g 16))) ∧ Below w.heap.size w w' := by
 obtain ⟨D, hD⟩ := nm (decide (vs 65536 f 16 < vs 65536 g 16))
 rw [← hD]
 replace hD := hDx hD
 go_enter Tryz.func100, Tryz.ntmps100
 have HK0 := hDx (KS.start w)
 go_upto_region 1 with (fail)
 have hm1 := ((HK0.out.made (.cells (lk .u64 (rw_ 16 f)) 109)).made (.cells (lk .u64 (rw_ 16 g)) 109))
 try rw [show ((World.alloc w (.cells (lk .u64 (rw_ 16 f)) 109))).heap.size = w.heap.size + 1 by simp] at hm1
 obtain ⟨B, hgB⟩ := nm (w.heap.size + 1)
 obtain ⟨A, hgA⟩ := nm w.heap.size
 obtain ⟨ww1, hv1⟩ := nm (World.alloc (World.alloc w (.cells (lk .u64 (rw_ 16 f)) 109)) (.cells (lk .u64 (rw_ 16 g)) 109))
 rw [← hv1, ← hgB, ← hgA] at hm1
 rw [← hv1]
 try rw [← hgB]
 try rw [← hgA]
 have HK1 : Hid (KS [(B, .cells (lk .u64 (rw_ 16 g)) 109), (A, .cells (lk .u64 (rw_ 16 f)) 109)] [] w ww1) := hDx hm1
 clear hm1 hv1 hgA hgB
 go_upto_region 2 with fail
 go_loopw [5] (fun vS wr => ∃ j : Nat, j ≤ 16 ∧ vS = .int .i64 ((j : Int) - 1) ∧ (∀ i, j ≤ i → i < 16 → f i = g i) ∧ KS [(B, .cells (lk .u64 (rw_ 16 g)) 109), (A, .cells (lk .u64 (rw_ 16 f)) 109)] [] w wr) (fun vS _ => ((intOf vS) + 1).toNat)
 case atStart => exact ⟨16, Nat.le_refl _, rfl, fun i h1 h2 => by omega, HK1.out⟩
 obtain ⟨j, hj, rfl, he, HK⟩ := hrel
 have HK2 := hDx HK
 clear HK
 rcases j with _ | m
 ·have hv := vs_eq (f := f) (g := g) (fun i hi => he i (Nat.zero_le _) hi)
  have hd : decide (vs 65536 f 16 < vs 65536 g 16) = false := decide_eq_false hv
  rw [← hD.out] at hd
  replace hd := hDx hd
  rw [show ((0 : Nat) : Int) - 1 = -1 from rfl]
  clear hv he hj hf hg
  go_wp2_with fail
  go_ret
  exact ⟨by rw [hd.out]; rfl, HK2.out.below⟩
 rw [im1 m]
 obtain ⟨hm255, hm0, hm1, hm2⟩ := pre254 m (by omega)
 have hm16 : m < 16 := by omega
 have hm3 : (m : Int) < 16 := by omega
 have c0 := (HK2.out.rk 1 rfl (rw_len' _ _)).cell m hm16
 have c1 := (HK2.out.rk 0 rfl (rw_len' _ _)).cell m hm16
 rw [rw_at' _ _ _ hm16] at c0 c1
 by_cases hxy : f m = g m
 ·have he2 : ∀ i, m ≤ i → i < 16 → f i = g i := fun i h1 h2 => by
   rcases Nat.lt_or_ge m i with h3 | h3
   ·exact he i h3 h2
   ·rw [show i = m by omega]; exact hxy
  obtain ⟨x, hx⟩ := nm (f m)
  rw [← hxy, ← hx] at c1
  rw [← hx] at c0
  have HE := hDx (And.intro he2 hm16)
  clear he he2 hx hxy hf hg hj hm255 hm16
  go_upto_region 4 with fail
  go_still (by kernel_rfl)
  go_wp2_with fail
  go_roundw
  case rel => exact ⟨m, Nat.le_of_lt HE.out.2, rfl, HE.out.1, HK2.out.drew⟩
  exact measD m
 have hv := vs_high hf hg m hm16 (fun i h1 h2 => he i h1 h2) hxy
 obtain ⟨x, hx⟩ := nm (f m)
 obtain ⟨y, hy⟩ := nm (g m)
 rw [← hx, ← hy] at hv hxy
 rw [← hx] at c0
 rw [← hy] at c1
 have hn := ne_u hxy
 have hd : decide (vs 65536 f 16 < vs 65536 g 16) = decide (x < y) := by
  rw [decide_eq_decide, hv]
 rw [← hD.out] at hd
 replace hd := hDx hd
 clear he hx hy hf hg hj hm255 hm16 hv hxy
 go_upto_region 4 with fail
 go_still (by kernel_rfl)
 obtain ⟨wd, hwd⟩ := nm (World.drew wr)
 have HKd := HK2.out.drew
 have d0 : wd.cell? ⟨A, m, none⟩ = some (.int .u64 (x : Int)) := by rw [hwd]; exact c0
 have d1 : wd.cell? ⟨B, m, none⟩ = some (.int .u64 (y : Int)) := by rw [hwd]; exact c1
 rw [← hwd] at HKd
 rw [show ({ heap := wr.heap, tape := wr.tape, drawn := wr.drawn + 1, os := wr.os, output := wr.output } : World) = wd from hwd.symm]
 replace HKd := hDx HKd
 clear hwd c0 c1
 go_upto_region 5 with fail
 go_still (by kernel_rfl)
 go_wp2_with fail
 go_ret
 exact ⟨by rw [hd.out]; rfl, HKd.out.drew.below⟩
def mB (f g : Nat → Nat) : Nat → Nat
 | 0 => 0
 | k + 1 => 1 - (65536 + f k - g k - mB f g k) / 65536
def mC (f g : Nat → Nat) (k j : Nat) : Nat := if j < k then (65536 + f j - g j - mB f g j) % 65536 else 0
theorem mB_le (f g : Nat → Nat) : ∀ k, mB f g k ≤ 1
 | 0 => by simp [mB]
 | k + 1 => by rw [mB]; omega
theorem mC_upd (f g : Nat → Nat) (k : Nat) : upd (mC f g k) k ((65536 + f k - g k - mB f g k) % 65536) = mC f g (k + 1) := by
 funext j
 unfold upd mC
 by_cases e : j = k
 ·subst e; rw [if_pos rfl, if_pos (by omega)]
 rw [if_neg e]
 by_cases e1 : j < k
 ·rw [if_pos e1, if_pos (by omega)]
 rw [if_neg e1, if_neg (by omega)]
theorem mC_v (f g : Nat → Nat) (hf : Sml f) (hg : Sml g) : ∀ k, k ≤ 16 → vs 65536 (mC f g 16) k + vs 65536 g k = vs 65536 f k + mB f g k * 65536 ^ k
 | 0, _ => by simp [vs, mB]
 | k + 1, h => by
  have ih := mC_v f g hf hg k (by omega)
  have h1 := hf k (by omega)
  have h2 := hg k (by omega)
  have h3 := mB_le f g k
  rw [vs, vs, vs, mC, if_pos (by omega), mB, Nat.pow_succ]
  generalize vs 65536 (mC f g 16) k = a at ih
  generalize vs 65536 g k = b at ih
  generalize vs 65536 f k = c at ih
  generalize mB f g k = m at ih h3
  generalize f k = x at h1
  generalize g k = y at h2
  obtain ⟨z, hz⟩ : ∃ z, z = 65536 + x - y - m := ⟨_, rfl⟩
  obtain ⟨q, hq⟩ := nm (z / 65536)
  obtain ⟨r, hr⟩ := nm (z % 65536)
  rw [← hz, ← hq, ← hr]
  have e1 : z + y + m = 65536 + x := by omega
  have e2 : z = 65536 * q + r := by omega
  have e3 : q ≤ 1 := by omega
  obtain ⟨n, hn⟩ : ∃ n, n = 1 - q := ⟨_, rfl⟩
  have e4 : r + y + m = x + 65536 * n := by omega
  rw [← hn]
  have e5 : r * 65536 ^ k + y * 65536 ^ k + m * 65536 ^ k = x * 65536 ^ k + n * (65536 ^ k * 65536) := by
   rw [← Nat.add_mul, ← Nat.add_mul, e4, Nat.add_mul, Nat.mul_comm 65536 n, Nat.mul_assoc, Nat.mul_comm 65536 (65536 ^ k)]
  generalize r * 65536 ^ k = A at e5
  generalize y * 65536 ^ k = B at e5
  generalize m * 65536 ^ k = C at e5 ih
  generalize x * 65536 ^ k = D at e5
  generalize n * (65536 ^ k * 65536) = E at e5
  omega
theorem mC_lt (f g : Nat → Nat) (k j : Nat) : mC f g k j < 65536 := by
 unfold mC
 split
 ·exact Nat.mod_lt _ (by decide)
 decide
theorem minus_v (f g : Nat → Nat) (hf : Sml f) (hg : Sml g) (h : vs 65536 g 16 ≤ vs 65536 f 16) : vs 65536 (mC f g 16) 16 = vs 65536 f 16 - vs 65536 g 16 := by
 have h1 := mC_v f g hf hg 16 (Nat.le_refl _)
 have h2 := mB_le f g 16
 have h3 := vs_lt (b := 65536) (f := mC f g 16) (by decide) 16 (fun j _ => mC_lt f g 16 j)
 rcases (show mB f g 16 = 0 ∨ mB f g 16 = 1 by omega) with e | e
 ·rw [e] at h1; omega
 rw [e, Nat.one_mul] at h1
 generalize 65536 ^ 16 = p at h1 h3
 omega
theorem minus_i {x y m : Nat} (hx : x < 65536) (hy : y < 65536) (hm : m ≤ 1) : ∃ a b z r q n : Nat, z = 65536 + x - y - m ∧ r = z % 65536 ∧ n = 1 - z / 65536 ∧ IntKind.u64.wrap (65536 + (x : Int)) = a ∧ IntKind.u64.wrap ((x : Int) + 65536) = a ∧ IntKind.u64.wrap ((a : Int) - y) = b ∧ IntKind.u64.wrap ((b : Int) - m) = z ∧ bits .and .u64 (z : Int) 65535 = r ∧ (z : Int) / 65536 = q ∧ IntKind.u64.wrap (1 - (q : Int)) = n := by
 refine ⟨65536 + x, 65536 + x - y, 65536 + x - y - m, _, (65536 + x - y - m) / 65536, _, rfl, rfl, rfl, u64w (by omega) (by omega), u64w (by omega) (by omega), u64w (by omega) (by omega), u64w (by omega) (by omega), ?_, by omega, u64w (by omega) (by omega)⟩
 exact and_mask _ 65535 16 rfl (by decide) (by omega)
theorem minus_any (f g : Nat → Nat) (hf : Sml f) (hg : Sml g) (w : World) : Calls Tryz.prog 102 #[.agg (lk .u64 (rw_ 16 f)), .agg (lk .u64 (rw_ 16 g))] w fun e w' => e = .returned (.agg (lk .u64 (rw_ 16 (mC f g 16)))) ∧ Below w.heap.size w w' := by
 go_enter Tryz.func102, Tryz.ntmps102
 have HK0 := hDx (KS.start w)
 go_upto_region 2 with (fail)
 have hm1 := ((((HK0.out.made (.cells (lk .u64 (rw_ 16 f)) 109)).made (.cells (lk .u64 (rw_ 16 g)) 109)).made (.cells ZRu64x16 109)).made (.cells ZRu64x16 109))
 try rw [show ((World.alloc (World.alloc (World.alloc w (.cells (lk .u64 (rw_ 16 f)) 109)) (.cells (lk .u64 (rw_ 16 g)) 109)) (.cells ZRu64x16 109))).heap.size = w.heap.size + 3 by simp] at hm1
 try rw [show ((World.alloc (World.alloc w (.cells (lk .u64 (rw_ 16 f)) 109)) (.cells (lk .u64 (rw_ 16 g)) 109))).heap.size = w.heap.size + 2 by simp] at hm1
 try rw [show ((World.alloc w (.cells (lk .u64 (rw_ 16 f)) 109))).heap.size = w.heap.size + 1 by simp] at hm1
 obtain ⟨C, hgC⟩ := nm (w.heap.size + 3)
 obtain ⟨R, hgR⟩ := nm (w.heap.size + 2)
 obtain ⟨B, hgB⟩ := nm (w.heap.size + 1)
 obtain ⟨A, hgA⟩ := nm w.heap.size
 obtain ⟨ww1, hv1⟩ := nm (World.alloc (World.alloc (World.alloc (World.alloc w (.cells (lk .u64 (rw_ 16 f)) 109)) (.cells (lk .u64 (rw_ 16 g)) 109)) (.cells ZRu64x16 109)) (.cells ZRu64x16 109))
 rw [← hv1, ← hgC, ← hgR, ← hgB, ← hgA] at hm1
 rw [← hv1]
 try rw [← hgC]
 try rw [← hgR]
 try rw [← hgB]
 try rw [← hgA]
 have HK1 : Hid (KS [(C, .cells (lk .u64 (rw_ 16 (mC f g 0))) 109), (R, .cells (lk .u64 (zi 16)) 109), (B, .cells (lk .u64 (rw_ 16 g)) 109), (A, .cells (lk .u64 (rw_ 16 f)) 109)] [] w ww1) := hDx hm1
 clear hm1 hv1 hgA hgB hgR hgC
 go_upto_region 4 with fail
 go_loopw [6, 7] (fun vX vS wr => ∃ k : Nat, k ≤ 16 ∧ vS = .int .i64 (k : Int) ∧ vX = .int .u64 (mB f g k : Int) ∧ KS [(C, .cells (lk .u64 (rw_ 16 (mC f g k))) 109), (R, .cells (lk .u64 (zi 16)) 109), (B, .cells (lk .u64 (rw_ 16 g)) 109), (A, .cells (lk .u64 (rw_ 16 f)) 109)] [] w wr) (fun vX vS _ => 16 - (intOf vS).toNat)
 case atStart => exact ⟨0, Nat.zero_le _, rfl, rfl, HK1.out⟩
 obtain ⟨k, hk, rfl, rfl, HK⟩ := hrel
 have HK2 := hDx HK
 clear HK
 by_cases hlt : k < 16
 ·have hk1 : (0 : Int) ≤ k := by omega
  have hk2 : (k : Int) < 16 := by omega
  obtain ⟨hk3, hk4⟩ := i64w (x := (k : Int) + 1) (n := k + 1) (by omega) (by omega)
  obtain ⟨a, b, x, r, q, n, e1, e2, e3, k1, k2, k3, k4, k5, k6, k7⟩ := minus_i (hf k hlt) (hg k hlt) (mB_le f g k)
  have c0 := (HK2.out.rk 3 rfl (rw_len' _ _)).cell k hlt
  have c1 := (HK2.out.rk 2 rfl (rw_len' _ _)).cell k hlt
  rw [rw_at' _ _ _ hlt] at c0 c1
  have es : rw_ 16 (mC f g (k + 1)) = (rw_ 16 (mC f g k)).set k (r : Int) := by rw [rw_set, ← mC_upd f g k, e2, e1]
  have en : mB f g (k + 1) = n := by rw [mB, e3, e1]
  obtain ⟨fk, hfk⟩ := nm (f k)
  obtain ⟨gk, hgk⟩ := nm (g k)
  obtain ⟨mk, hmk⟩ := nm (mB f g k)
  rw [← hfk] at c0 k1 k2
  rw [← hgk] at c1 k3
  rw [← hmk] at k4
  rw [← hmk]
  obtain ⟨V, hV⟩ := nm (rw_ 16 (mC f g k))
  have lV : V.length = 16 := by rw [hV, rw_len']
  rw [← hV] at es HK2
  have HJ := hDx (And.intro es en)
  clear es en hfk hgk hmk hV e1 e2 e3
  have c2 := (HK2.out.rk 0 rfl lV).cell k hlt
  have z2 := (HK2.out.rk 0 rfl lV).fz
  go_upto_region 6 with fail
  go_still (by kernel_rfl)
  go_upto_region 8 with fail
  obtain ⟨ww3, hv3⟩ := nm (World.drew (World.setCell wr ⟨C, k, none⟩ (.int .u64 ((r : Int)))))
  have HK3 : Hid (KS [(C, .cells (lk .u64 (V.set k (r : Int))) 109), (R, .cells (lk .u64 (zi 16)) 109), (B, .cells (lk .u64 (rw_ 16 g)) 109), (A, .cells (lk .u64 (rw_ 16 f)) 109)] [] w ww3) := by rw [hv3]; exact hDx ((HK2.out.setK 0 rfl k ((r : Int))).drew)
  rw [← hv3]
  clear hv3
  clear c0 c1 c2 z2
  go_wp2_with fail
  go_roundw
  case rel =>
   exact ⟨k + 1, hlt, by first | rfl | go_num, by rw [HJ.out.2], by rw [HJ.out.1]; exact HK3.out⟩
  first | exact measI _ _ hlt | (simp [intOf]; omega)
 obtain rfl : k = 16 := by omega
 try simp only [Int.cast_ofNat_Int]
 have FA := (HK2.out.rk 0 rfl (rw_len' _ _))
 have FR := (HK2.out.rk 1 rfl (zi_len 16))
 go_wp2_with (first | (refine wpList_load_rk rfl _ rfl rfl FA ty109 ?_) | (refine wpList_store_rk rfl _ _ rfl rfl rfl FR ty109 (rw_len' _ _) ?_))
 have KE := HK2.out.setRow 1 rfl (lk .u64 (rw_ 16 (mC f g 16)))
 try simp only [Exit.inBlock, Exit.then]
 refine bodyPost_ret (results_rk (p := 4) (by kernel_rfl) (by rfl) (KE.rk 1 rfl (rw_len' _ _)) ty109) rfl ?_
 exact ⟨rfl, KE.below⟩
end
section
open Go.RowKit T
def cC (f : Nat → Nat) : Nat → Nat
 | 0 => 0
 | k + 1 => (f k + cC f k) / 65536
def cF (f : Nat → Nat) (k j : Nat) : Nat := if j < k then (f j + cC f j) % 65536 else f j
def fF (f : Nat → Nat) (k j : Nat) : Nat := if j < k then f j + 38 * f (16 + j) else if 16 ≤ j ∧ j < 16 + k then 0 else f j
def r1 (f : Nat → Nat) : Nat → Nat := upd (fF (cF f 32) 16) 0 (fF (cF f 32) 16 0 + 1444 * cC f 32)
def r2 (f : Nat → Nat) : Nat → Nat := upd (cF f 16) 0 (cF f 16 0 + 38 * cC f 16)
def itF (g : (Nat → Nat) → (Nat → Nat)) : Nat → (Nat → Nat) → (Nat → Nat)
 | 0, f => f
 | n + 1, f => g (itF g n f)
def Bd (f : Nat → Nat) : Prop := ∀ j, j < 32 → f j ≤ 281474976710656
theorem cC_le {f : Nat → Nat} (hf : Bd f) : ∀ k, k ≤ 32 → cC f k ≤ 8589934592
 | 0, _ => by simp [cC]
 | k + 1, h => by
  have h1 := hf k (by omega)
  have h2 := cC_le hf k (by omega)
  rw [cC]; omega
theorem cF_lt (f : Nat → Nat) {k j : Nat} (h : j < k) : cF f k j < 65536 := by
 unfold cF; rw [if_pos h]; exact Nat.mod_lt _ (by decide)
theorem cF_upd (f : Nat → Nat) (k : Nat) : upd (cF f k) k ((f k + cC f k) % 65536) = cF f (k + 1) := by
 funext j
 unfold upd cF
 by_cases e : j = k
 ·subst e; rw [if_pos rfl, if_pos (by omega)]
 rw [if_neg e]
 by_cases e1 : j < k
 ·rw [if_pos e1, if_pos (by omega)]
 rw [if_neg e1, if_neg (by omega)]
theorem cF_zero (f : Nat → Nat) : cF f 0 = f := by
 funext j; unfold cF; rw [if_neg (by omega)]
theorem fF_zero (f : Nat → Nat) : fF f 0 = f := by
 funext j; unfold fF; rw [if_neg (by omega), if_neg (by omega)]
theorem fF_upd (f : Nat → Nat) (k : Nat) (h : k < 16) : upd (upd (fF f k) k (f k + 38 * f (16 + k))) (16 + k) 0 = fF f (k + 1) := by
 funext j
 unfold upd fF
 by_cases e : j = 16 + k
 ·subst e; rw [if_pos rfl, if_neg (by omega), if_pos (by omega)]
 rw [if_neg e]
 by_cases e1 : j = k
 ·subst e1; rw [if_pos rfl, if_pos (by omega)]
 rw [if_neg e1]
 repeat' split
 all_goals first | rfl | omega
theorem car_i {f : Nat → Nat} (hf : Bd f) {k n : Nat} (hn : n ≤ 32) (hk : k < n) : ∃ x r q : Nat, IntKind.u64.wrap ((f k : Int) + (cC f k : Int)) = x ∧ bits .and .u64 (x : Int) 65535 = r ∧ (x : Int) / 65536 = q ∧ cC f (k + 1) = q ∧ rw_ 32 (cF f (k + 1)) = (rw_ 32 (cF f k)).set k (r : Int) ∧ cF f k k = f k := by
 have h1 := hf k (by omega)
 have h2 := cC_le hf k (by omega)
 refine ⟨f k + cC f k, (f k + cC f k) % 65536, (f k + cC f k) / 65536, u64w (by omega) (by omega), and_mask _ 65535 16 rfl (by decide) (by omega), by omega, rfl, by rw [rw_set, cF_upd], ?_⟩
 unfold cF; rw [if_neg (by omega)]
theorem fold_i {f : Nat → Nat} (hf : ∀ j, j < 32 → f j < 65536) {k : Nat} (hk : k < 16) : ∃ m z s : Nat, m = 16 + k ∧ 16 + (k : Int) = m ∧ (k : Int) + 16 = m ∧ IntKind.i64.wrap (m : Int) = m ∧ wrap64 (m : Int) = m ∧ (0 : Int) ≤ m ∧ (m : Int) < 32 ∧ m < 32 ∧ IntKind.u64.wrap (38 * (f m : Int)) = z ∧ IntKind.u64.wrap ((f m : Int) * 38) = z ∧ IntKind.u64.wrap ((f k : Int) + (z : Int)) = s ∧
  fF f k k = f k ∧ fF f k m = f m ∧ rw_ 32 (fF f (k + 1)) = ((rw_ 32 (fF f k)).set k (s : Int)).set m 0 := by
 have h1 := hf k (by omega)
 have h2 := hf (16 + k) (by omega)
 obtain ⟨a1, a2⟩ := i64w (x := ((16 + k : Nat) : Int)) (n := 16 + k) rfl (by omega)
 refine ⟨16 + k, 38 * f (16 + k), f k + 38 * f (16 + k), rfl, by omega, by omega, a2, a1, by omega, by omega, by omega, u64w (by omega) (by omega), u64w (by omega) (by omega), u64w (by omega) (by omega), ?_, ?_, ?_⟩
 ·unfold fF; rw [if_neg (by omega), if_neg (by omega)]
 ·unfold fF; rw [if_neg (by omega), if_neg (by omega)]
 have := rw_set 32 (upd (fF f k) k (f k + 38 * f (16 + k))) (16 + k) 0
 rw [rw_set, ← fF_upd f k hk, ← this]
 rfl
theorem carry_v (f : Nat → Nat) : ∀ n, vs 65536 (cF f n) n + 65536 ^ n * cC f n = vs 65536 f n
 | 0 => by simp [vs, cC]
 | n + 1 => by
  have ih := carry_v f n
  have h1 : vs 65536 (cF f (n + 1)) n = vs 65536 (cF f n) n := vs_ext n fun j hj => by unfold cF; rw [if_pos (by omega), if_pos hj]
  have h2 : cF f (n + 1) n = (f n + cC f n) % 65536 := by unfold cF; rw [if_pos (by omega)]
  rw [vs, vs, h1, h2, cC, Nat.pow_succ]
  have h3 : (f n + cC f n) % 65536 * 65536 ^ n + 65536 ^ n * 65536 * ((f n + cC f n) / 65536) = (f n + cC f n) * 65536 ^ n := by
   have e := Nat.mod_add_div (f n + cC f n) 65536
   generalize hz : f n + cC f n = z at e
   calc z % 65536 * 65536 ^ n + 65536 ^ n * 65536 * (z / 65536) = (z % 65536 + 65536 * (z / 65536)) * 65536 ^ n := by rw [Nat.add_mul, Nat.mul_comm (65536 ^ n) 65536, Nat.mul_assoc 65536, Nat.mul_assoc 65536, Nat.mul_comm (65536 ^ n)]
    _ = z * 65536 ^ n := by rw [e]
  rw [Nat.add_mul, Nat.mul_comm (cC f n)] at h3
  generalize (f n + cC f n) % 65536 * 65536 ^ n = A at h3 ⊢
  generalize 65536 ^ n * 65536 * ((f n + cC f n) / 65536) = B at h3 ⊢
  generalize f n * 65536 ^ n = C at h3 ⊢
  generalize 65536 ^ n * cC f n = D at ih h3
  omega
theorem vs_add (b : Nat) (f : Nat → Nat) (m : Nat) : ∀ n, vs b f (m + n) = vs b f m + b ^ m * vs b (fun j => f (m + j)) n
 | 0 => by simp [vs]
 | n + 1 => by rw [← Nat.add_assoc, vs, vs, vs_add b f m n, Nat.mul_add, Nat.pow_add, Nat.add_assoc, Nat.mul_left_comm]
theorem vs_zero (b : Nat) (f : Nat → Nat) : ∀ n, (∀ j, j < n → f j = 0) → vs b f n = 0
 | 0, _ => rfl
 | n + 1, h => by rw [vs, vs_zero b f n (fun j hj => h j (by omega)), h n (by omega), Nat.zero_mul]
theorem vs_lin (b c : Nat) (f g : Nat → Nat) : ∀ n, vs b (fun j => f j + c * g j) n = vs b f n + c * vs b g n
 | 0 => by simp [vs]
 | n + 1 => by rw [vs, vs, vs, vs_lin b c f g n, Nat.add_mul, Nat.mul_add, Nat.mul_assoc]; omega
theorem vs_upd0 (b : Nat) (f : Nat → Nat) (x : Nat) : ∀ n, vs b (upd f 0 (f 0 + x)) (n + 1) = vs b f (n + 1) + x
 | 0 => by simp [vs, upd]
 | n + 1 => by
  have : upd f 0 (f 0 + x) (n + 1) = f (n + 1) := by unfold upd; rw [if_neg (by omega)]
  show vs b (upd f 0 (f 0 + x)) (n + 1) + upd f 0 (f 0 + x) (n + 1) * b ^ (n + 1) = vs b f (n + 1) + f (n + 1) * b ^ (n + 1) + x
  rw [vs_upd0 b f x n, this]; omega
theorem r1_bd {f : Nat → Nat} (hf : Bd f) : Bd (r1 f) := fun j hj => by
 have hc := cC_le hf 32 (Nat.le_refl _)
 have h : ∀ i, i < 32 → cF f 32 i < 65536 := fun i hi => cF_lt f hi
 have hF : fF (cF f 32) 16 j ≤ 39 * 65536 := by
  unfold fF
  split
  ·have := h j hj; have := h (16 + j) (by omega); omega
  ·split
   ·omega
   ·have := h j hj; omega
 have hF0 : fF (cF f 32) 16 0 ≤ 39 * 65536 := by
  unfold fF
  rw [if_pos (by decide)]
  have := h 0 (by decide); have := h (16 + 0) (by decide); omega
 unfold r1 upd
 split
 ·omega
 ·omega
theorem r1_up (f : Nat → Nat) (j : Nat) (h1 : 16 ≤ j) (h2 : j < 32) : r1 f j = 0 := by
 unfold r1 upd fF
 rw [if_neg (by omega), if_neg (by omega), if_pos (by omega)]
theorem r1_v (f : Nat → Nat) : ∃ lo hi c, vs 65536 f 32 = lo + 65536 ^ 16 * hi + 65536 ^ 32 * c ∧ lo < 65536 ^ 16 ∧ hi < 65536 ^ 16 ∧ vs 65536 (r1 f) 16 = lo + 38 * hi + 1444 * c ∧ c = cC f 32 := by
 have h := carry_v f 32
 have h2 := vs_add 65536 (cF f 32) 16 16
 rw [show 16 + 16 = 32 from rfl] at h2
 have e : vs 65536 (fF (cF f 32) 16) 16 = vs 65536 (cF f 32) 16 + 38 * vs 65536 (fun j => cF f 32 (16 + j)) 16 := by
  rw [← vs_lin]
  exact vs_ext 16 fun j hj => by unfold fF; rw [if_pos hj]
 refine ⟨vs 65536 (cF f 32) 16, vs 65536 (fun j => cF f 32 (16 + j)) 16, cC f 32, by rw [← h, h2], vs_lt (by decide) 16 (fun j hj => cF_lt f (by omega)), vs_lt (by decide) 16 (fun j hj => cF_lt f (by omega)), ?_, rfl⟩
 unfold r1
 rw [vs_upd0 65536 _ _ 15, e]
theorem two256 : 65536 ^ 16 = 38 + 2 * P := by decide +kernel
theorem r1_mod (f : Nat → Nat) : vs 65536 (r1 f) 16 % P = vs 65536 f 32 % P := by
 obtain ⟨lo, hi, c, h1, _, _, h4, _⟩ := r1_v f
 rw [h4, h1, show (65536 : Nat) ^ 32 = 65536 ^ 16 * 65536 ^ 16 from Nat.pow_add 65536 16 16, two256]
 have : lo + (38 + 2 * P) * hi + (38 + 2 * P) * (38 + 2 * P) * c = (lo + 38 * hi + 1444 * c) + P * (2 * hi + (4 * 38 + 4 * P) * c) := by grind
 rw [this, Nat.add_mul_mod_self_left]
theorem vs_up {f : Nat → Nat} (h : ∀ j, 16 ≤ j → j < 32 → f j = 0) : vs 65536 f 32 = vs 65536 f 16 := by
 have h2 := vs_add 65536 f 16 16
 rw [show 16 + 16 = 32 from rfl, vs_zero 65536 (fun j => f (16 + j)) 16 (fun j hj => h _ (by omega) (by omega)), Nat.mul_zero, Nat.add_zero] at h2
 exact h2
theorem r1_small {f : Nat → Nat} (hu : ∀ j, 16 ≤ j → j < 32 → f j = 0) {q : Nat} (hv : vs 65536 f 16 < q * 65536 ^ 16) (hq : q ≤ 100) : ∃ lo hi, vs 65536 f 16 = lo + 65536 ^ 16 * hi ∧ lo < 65536 ^ 16 ∧ hi < q ∧ vs 65536 (r1 f) 16 = lo + 38 * hi := by
 obtain ⟨lo, hi, c, h1, h2, h3, h4, _⟩ := r1_v f
 rw [vs_up hu] at h1
 have e : (65536 : Nat) ^ 32 = 65536 ^ 16 * 65536 ^ 16 := Nat.pow_add 65536 16 16
 have hc : c = 0 := by
  rcases Nat.eq_zero_or_pos c with h | h
  ·exact h
  ·exfalso
   have h5 : 65536 ^ 32 * 1 ≤ 65536 ^ 32 * c := Nat.mul_le_mul_left _ h
   have h6 : q * 65536 ^ 16 ≤ 100 * 65536 ^ 16 := Nat.mul_le_mul_right _ hq
   have h7 : 100 * 65536 ^ 16 ≤ 65536 ^ 32 := by decide +kernel
   omega
 subst hc
 rw [Nat.mul_zero, Nat.add_zero] at h1 h4
 refine ⟨lo, hi, h1, h2, ?_, h4⟩
 apply Nat.lt_of_not_le
 intro h5
 have h6 : 65536 ^ 16 * q ≤ 65536 ^ 16 * hi := Nat.mul_le_mul_left _ h5
 rw [Nat.mul_comm] at h6
 omega
theorem r1_three {f : Nat → Nat} (hf : Bd f) : vs 65536 (itF r1 3 f) 16 < 65536 ^ 16 ∧ vs 65536 (itF r1 3 f) 16 % P = vs 65536 f 32 % P ∧ (∀ j, 16 ≤ j → j < 32 → itF r1 3 f j = 0) ∧ Bd (itF r1 3 f) := by
 have b1 := r1_bd hf
 have b2 := r1_bd b1
 have b3 := r1_bd b2
 have u1 := r1_up f
 have u2 := r1_up (r1 f)
 have u3 := r1_up (r1 (r1 f))
 obtain ⟨lo, hi, c, h1, h2, h3, h4, h5⟩ := r1_v f
 have hc := cC_le hf 32 (Nat.le_refl _)
 rw [← h5] at hc
 have k1 : vs 65536 (r1 f) 16 < 40 * 65536 ^ 16 := by
  have : 1444 * 8589934592 < 65536 ^ 16 := by decide +kernel
  omega
 obtain ⟨lo1, hi1, a1, a2, a3, a4⟩ := r1_small u1 k1 (by decide)
 have k2 : vs 65536 (r1 (r1 f)) 16 < 2 * 65536 ^ 16 := by
  have : 1520 < 65536 ^ 16 := by decide +kernel
  omega
 obtain ⟨lo2, hi2, c1, c2, c3, c4⟩ := r1_small u2 k2 (by decide)
 have p0 : 3000 < 65536 ^ 16 := by decide +kernel
 refine ⟨?_, ?_, u3, b3⟩
 ·show vs 65536 (r1 (r1 (r1 f))) 16 < _
  generalize 65536 ^ 16 = p at a1 a2 c1 c2 p0
  rcases (show hi2 = 0 ∨ hi2 = 1 by omega) with e | e
  ·subst e; omega
  subst e; omega
 show vs 65536 (r1 (r1 (r1 f))) 16 % P = _
 rw [r1_mod, vs_up u2, r1_mod, vs_up u1, r1_mod]
theorem r2_v {f : Nat → Nat} (hf : Bd f) (hv : vs 65536 f 16 < 65536 ^ 16) : vs 65536 (r2 f) 16 = vs 65536 f 16 ∧ Sml (r2 f) ∧ Bd (r2 f) := by
 have h := carry_v f 16
 have hc : cC f 16 = 0 := by
  rcases Nat.eq_zero_or_pos (cC f 16) with e | e
  ·exact e
  ·exfalso
   have h5 : 65536 ^ 16 * 1 ≤ 65536 ^ 16 * cC f 16 := Nat.mul_le_mul_left _ e
   omega
 have e : r2 f = cF f 16 := by
  funext j
  unfold r2 upd
  rw [hc]
  split
  ·rename_i e; subst e; omega
  ·rfl
 rw [e]
 rw [hc, Nat.mul_zero, Nat.add_zero] at h
 refine ⟨h, fun j hj => cF_lt f hj, fun j hj => ?_⟩
 by_cases h1 : j < 16
 ·have := cF_lt f h1; omega
 unfold cF; rw [if_neg h1]; exact hf j hj
theorem r2_three {f : Nat → Nat} (hf : Bd f) (hv : vs 65536 f 16 < 65536 ^ 16) : vs 65536 (itF r2 3 f) 16 = vs 65536 f 16 ∧ Sml (itF r2 3 f) := by
 obtain ⟨a1, a2, a3⟩ := r2_v hf hv
 obtain ⟨b1, b2, b3⟩ := r2_v a3 (by rw [a1]; exact hv)
 obtain ⟨c1, c2, c3⟩ := r2_v b3 (by rw [b1, a1]; exact hv)
 exact ⟨c1.trans (b1.trans a1), c2⟩
theorem r2_bd {f : Nat → Nat} (hf : Bd f) : Bd (r2 f) := fun j hj => by
 have hc := cC_le hf 16 (by decide)
 have h : ∀ i, i < 16 → cF f 16 i < 65536 := fun i hi => cF_lt f hi
 have h0 := h 0 (by decide)
 unfold r2 upd
 split
 ·omega
 ·by_cases h1 : j < 16
  ·have := h j h1; omega
  ·unfold cF; rw [if_neg h1]; exact hf j hj
def limP (n : Nat) : Nat → Nat := lim 65536 (n % P)
end
section
open Go.RowKit T
def numW (b : Nat) (w : World) : Nat := match w.heap[b]? with | some (.cells cs _ _) => vs 65536 (fun j => match cs[j]? with | some (.int _ x) => x.toNat | _ => 0) 16 | _ => 0
theorem numW_rw {w : World} {b t : Nat} {f : Nat → Nat} (h : w.heap[b]? = some (.cells (lk .u64 (rw_ 16 f)) t)) : numW b w = vs 65536 f 16 := by
 unfold numW
 rw [h]
 refine vs_ext 16 fun j hj => ?_
 rw [lk_at (n := 16) (rw_len' _ _) hj, rw_at' _ _ _ hj]
 simp
theorem c1444 {f : Nat → Nat} (hf : Bd f) (x : Nat) (hx : x ≤ 300000000000000) : ∃ y z : Nat, IntKind.u64.wrap (1444 * (cC f 32 : Int)) = y ∧ IntKind.u64.wrap ((cC f 32 : Int) * 1444) = y ∧ IntKind.u64.wrap ((x : Int) + (y : Int)) = z ∧ z = x + 1444 * cC f 32 := by
 have hc := cC_le hf 32 (Nat.le_refl _)
 exact ⟨1444 * cC f 32, x + 1444 * cC f 32, u64w (by omega) (by omega), u64w (by omega) (by omega), u64w (by omega) (by omega), rfl⟩
theorem c38 {f : Nat → Nat} (hf : Bd f) (x : Nat) (hx : x ≤ 300000000000000) : ∃ y z : Nat, IntKind.u64.wrap (38 * (cC f 16 : Int)) = y ∧ IntKind.u64.wrap ((cC f 16 : Int) * 38) = y ∧ IntKind.u64.wrap ((x : Int) + (y : Int)) = z ∧ z = x + 38 * cC f 16 := by
 have hc := cC_le hf 16 (by decide)
 exact ⟨38 * cC f 16, x + 38 * cC f 16, u64w (by omega) (by omega), u64w (by omega) (by omega), u64w (by omega) (by omega), rfl⟩
theorem it1_bd {f : Nat → Nat} (hf : Bd f) : ∀ n, Bd (itF r1 n f)
 | 0 => hf
 | n + 1 => r1_bd (it1_bd hf n)
theorem it2_bd {f : Nat → Nat} (hf : Bd f) : ∀ n, Bd (itF r2 n f)
 | 0 => hf
 | n + 1 => r2_bd (it2_bd hf n)
def cpF (f : Nat → Nat) (k j : Nat) : Nat := if j < k then f j else 0
theorem cpF_set (f : Nat → Nat) (k : Nat) : rw_ 16 (cpF f (k + 1)) = (rw_ 16 (cpF f k)).set k (f k : Int) := by
 rw [rw_set]
 congr 1
 funext j
 unfold upd cpF
 by_cases e : j = k
 ·subst e; rw [if_pos rfl, if_pos (by omega)]
 rw [if_neg e]
 by_cases e1 : j < k
 ·rw [if_pos e1, if_pos (by omega)]
 rw [if_neg e1, if_neg (by omega)]
theorem cpF_all (f : Nat → Nat) : rw_ 16 (cpF f 16) = rw_ 16 f := rw_ext fun j hj => by unfold cpF; rw [if_pos hj]
theorem ag109 : AgTy 109 16 := agTy (by kernel_rfl)
theorem extR (f : Nat → Nat) : (lk .u64 (rw_ 16 f)).extract 0 (0 + 16) = lk .u64 (rw_ 16 f) := by
 have h : (lk .u64 (rw_ 16 f)).size = 0 + 16 := by rw [lk_size, rw_len']
 rw [← h, Array.extract_size]
theorem reduce_any (f : Nat → Nat) (hf : Bd f) (w : World) : Calls Tryz.prog 74 #[.agg (lk .u64 (rw_ 32 f))] w fun e w' => e = .returned (.agg (lk .u64 (rw_ 16 (limP (vs 65536 f 32))))) ∧ Below w.heap.size w w' := by
 obtain ⟨VV, hVV⟩ := nm (rw_ 16 (limP (vs 65536 f 32)))
 rw [← hVV]
 replace hVV := hDx hVV
 go_enter Tryz.func74, Tryz.ntmps74
 have HK0 := hDx (KS.start w)
 go_upto_region 1 with (fail)
 have hm1 := ((HK0.out.made (.cells (lk .u64 (rw_ 32 f)) 134)).made (.cells ZRu64x16 109))
 try rw [show ((World.alloc w (.cells (lk .u64 (rw_ 32 f)) 134))).heap.size = w.heap.size + 1 by simp] at hm1
 obtain ⟨R, hgR⟩ := nm (w.heap.size + 1)
 obtain ⟨T, hgT⟩ := nm w.heap.size
 obtain ⟨ww1, hv1⟩ := nm (World.alloc (World.alloc w (.cells (lk .u64 (rw_ 32 f)) 134)) (.cells ZRu64x16 109))
 rw [← hv1, ← hgR, ← hgT] at hm1
 rw [← hv1]
 try rw [← hgR]
 try rw [← hgT]
 have HK1 : Hid (KS [(R, .cells (lk .u64 (zi 16)) 109), (T, .cells (lk .u64 (rw_ 32 (itF r1 0 f))) 134)] [] w ww1) := hDx hm1
 clear hm1 hv1 hgT hgR
 replace hf := hDx hf
 go_upto_region 2 with fail
 go_loopw [3] (fun vS wr => ∃ k : Nat, k ≤ 3 ∧ vS = .int .i64 (k : Int) ∧ KS [(R, .cells (lk .u64 (zi 16)) 109), (T, .cells (lk .u64 (rw_ 32 (itF r1 k f))) 134)] [] w wr) (fun vS _ => 3 - (intOf vS).toNat)
 case atStart => exact ⟨0, Nat.zero_le _, rfl, HK1.out⟩
 case round =>
  obtain ⟨k, hk, rfl, HK⟩ := hrel
  have HK2 := hDx HK
  clear HK
  by_cases hlt : k < 3
  ·have hk1 : (0 : Int) ≤ k := by omega
   have hk2 : (k : Int) < 3 := by omega
   obtain ⟨hk3, hk4⟩ := i64w (x := (k : Int) + 1) (n := k + 1) (by omega) (by omega)
   obtain ⟨G, hG⟩ := nm (itF r1 k f)
   have bG : Bd G := by rw [hG]; exact it1_bd hf.out k
   have hs : itF r1 (k + 1) f = r1 G := by rw [hG]; rfl
   rw [← hG] at HK2
   clear hG
   have HO := hDx (And.intro hs (And.intro hlt bG))
   clear hs hlt bG
   rw [← cF_zero G] at HK2
   go_upto_region 6 with fail
   go_loopw [4, 5] (fun vX vS wr => ∃ i : Nat, i ≤ 32 ∧ vS = .int .i64 (i : Int) ∧ vX = .int .u64 (cC G i : Int) ∧ KS [(R, .cells (lk .u64 (zi 16)) 109), (T, .cells (lk .u64 (rw_ 32 (cF G i))) 134)] [] w wr) (fun vX vS _ => 32 - (intOf vS).toNat)
   case atStart => exact ⟨0, Nat.zero_le _, rfl, rfl, HK2.out⟩
   case round =>
    obtain ⟨i, hi, rfl, rfl, HK⟩ := hrel
    have HK3 := hDx HK
    clear HK
    by_cases hlt : i < 32
    ·have hi1 : (0 : Int) ≤ i := by omega
     have hi2 : (i : Int) < 32 := by omega
     obtain ⟨hi3, hi4⟩ := i64w (x := (i : Int) + 1) (n := i + 1) (by omega) (by omega)
     obtain ⟨x, r, q, k1, k2, k3, k4, k5, k6⟩ := car_i HO.out.2.2 (n := 32) (by decide) hlt
     have hv32 : (i : Int) < 32 := by omega
     have ht32 : i < 32 := by omega
     have c0 := (HK3.out.rk 1 rfl (rw_len' _ _)).cell i ht32
     rw [rw_at' _ _ _ ht32, k6] at c0
     obtain ⟨gk, hgk⟩ := nm (G i)
     obtain ⟨ck, hck⟩ := nm (cC G i)
     rw [← hgk] at c0 k1
     rw [← hck] at k1
     rw [← hck]
     obtain ⟨V, hV⟩ := nm (rw_ 32 (cF G i))
     have lV : V.length = 32 := by rw [hV, rw_len']
     rw [← hV] at HK3
     rw [← hV] at k5
     have z0 := (HK3.out.rk 1 rfl lV).fz
     have HJ := hDx (And.intro k4 (And.intro k5 hlt))
     clear hgk hck hV k4 k5 k6 hlt
     go_upto_region 10 with fail
     obtain ⟨ww4, hv4⟩ := nm (World.setCell wr ⟨T, i, none⟩ (.int .u64 ((r : Int))))
     have HK4 : Hid (KS [(R, .cells (lk .u64 (zi 16)) 109), (T, .cells (lk .u64 (V.set i (r : Int))) 134)] [] w ww4) := by rw [hv4]; exact hDx (HK3.out.setK 1 rfl i ((r : Int)))
     rw [← hv4]
     clear hv4
     clear c0 z0
     go_wp2_with fail
     go_roundw
     case rel =>
      exact ⟨i + 1, HJ.out.2.2, by first | rfl | go_num, by rw [HJ.out.1], by rw [HJ.out.2.1]; exact HK4.out⟩
     exact measI 32 _ HJ.out.2.2
    obtain rfl : i = 32 := by omega
    try simp only [Int.cast_ofNat_Int]
    obtain ⟨H, hH⟩ := nm (cF G 32)
    have bH : ∀ j, j < 32 → H j < 65536 := fun j hj => by rw [hH]; exact cF_lt G hj
    rw [← hH] at HK3
    rw [← fF_zero H] at HK3
    replace hH := hDx hH
    obtain ⟨ck, hck⟩ := nm (cC G 32)
    rw [← hck]
    replace hck := hDx hck
    replace bH := hDx bH
    go_upto_region 12 with fail
    go_loopw [7] (fun vS wr => ∃ l : Nat, l ≤ 16 ∧ vS = .int .i64 (l : Int) ∧ KS [(R, .cells (lk .u64 (zi 16)) 109), (T, .cells (lk .u64 (rw_ 32 (fF H l))) 134)] [] w wr) (fun vS _ => 16 - (intOf vS).toNat)
    case atStart => exact ⟨0, Nat.zero_le _, rfl, HK3.out⟩
    obtain ⟨l, hl, rfl, HK⟩ := hrel
    have HK4 := hDx HK
    clear HK
    by_cases hlt : l < 16
    ·have hl1 : (0 : Int) ≤ l := by omega
     have hl2 : (l : Int) < 16 := by omega
     obtain ⟨hl3, hl4⟩ := i64w (x := (l : Int) + 1) (n := l + 1) (by omega) (by omega)
     obtain ⟨m, y, s, m0, m1, m2, m3, m4, m5, m6, m7, m8, m9, m10, m11, m12, m13⟩ := fold_i bH.out hlt
     have hl32 : l < 32 := by omega
     have hv32 : (l : Int) < 32 := by omega
     have c0 := (HK4.out.rk 1 rfl (rw_len' _ _)).cell l hl32
     have c1 := (HK4.out.rk 1 rfl (rw_len' _ _)).cell m m7
     rw [rw_at' _ _ _ hl32, m11] at c0
     rw [rw_at' _ _ _ m7, m12] at c1
     obtain ⟨p, hp⟩ := nm (H l)
     obtain ⟨q, hq⟩ := nm (H m)
     rw [← hp] at c0 m10
     rw [← hq] at c1 m8 m9
     obtain ⟨V, hV⟩ := nm (rw_ 32 (fF H l))
     have lV : V.length = 32 := by rw [hV, rw_len']
     rw [← hV] at HK4
     rw [← hV] at m13
     have z0 := (HK4.out.rk 1 rfl lV).fz
     have hne : ia (V.set l (s : Int)) m = ia V m := ia_set_o _ _ _ _ (by omega)
     have hm0 : V.length = 32 := lV
     have HJ := hDx (And.intro m13 hlt)
     clear hp hq hV m13 m11 m12 m0 hlt hne
     go_upto_region 14 with fail
     go_still_tail 11, (by kernel_rfl)
     go_upto_region 15 with fail
     obtain ⟨ww5, hv5⟩ := nm (World.drew (World.setCell wr ⟨T, l, none⟩ (.int .u64 ((s : Int)))))
     have HK5 : Hid (KS [(R, .cells (lk .u64 (zi 16)) 109), (T, .cells (lk .u64 (V.set l (s : Int))) 134)] [] w ww5) := by rw [hv5]; exact hDx ((HK4.out.setK 1 rfl l ((s : Int))).drew)
     rw [← hv5]
     clear hv5
     clear c0 c1 z0
     have lV2 : (V.set l (s : Int)).length = 32 := by rw [List.length_set, lV]
     have c1 := (HK5.out.rk 1 rfl lV2).cell m m7
     have z0 := (HK5.out.rk 1 rfl lV2).fz
     go_upto_region 13 with fail
     obtain ⟨ww6, hv6⟩ := nm (World.setCell ww5 ⟨T, m, none⟩ (.int .u64 (0)))
     have HK6 : Hid (KS [(R, .cells (lk .u64 (zi 16)) 109), (T, .cells (lk .u64 ((V.set l (s : Int)).set m 0)) 134)] [] w ww6) := by rw [hv6]; exact hDx (HK5.out.setK 1 rfl m (0))
     rw [← hv6]
     clear hv6
     clear c1 z0
     go_wp2_with fail
     go_roundw
     case rel =>
      exact ⟨l + 1, HJ.out.2, by first | rfl | go_num, by rw [HJ.out.1]; exact HK6.out⟩
     exact measI 16 _ HJ.out.2
    obtain rfl : l = 16 := by omega
    try simp only [Int.cast_ofNat_Int]
    have h0 : fF H 16 0 ≤ 300000000000000 := by
     have e1 := bH.out 0 (by decide)
     have e2 := bH.out (16 + 0) (by decide)
     unfold fF; rw [if_pos (by decide)]; omega
    obtain ⟨y, x, k1, k2, k3, k4⟩ := c1444 HO.out.2.2 _ h0
    rw [← hck.out] at k1 k2 k4
    have c0 := (HK4.out.rk 1 rfl (rw_len' _ _)).cell 0 (by decide)
    rw [rw_at' _ _ _ (by decide)] at c0
    have es : rw_ 32 (r1 G) = (rw_ 32 (fF H 16)).set 0 (x : Int) := by rw [rw_set, k4, hck.out, hH.out]; rfl
    obtain ⟨p, hp⟩ := nm (fF H 16 0)
    rw [← hp] at c0 k3
    obtain ⟨V, hV⟩ := nm (rw_ 32 (fF H 16))
    have lV : V.length = 32 := by rw [hV, rw_len']
    rw [← hV] at HK4
    rw [← hV] at es
    have z0 := (HK4.out.rk 1 rfl lV).fz
    have HJ := hDx es
    clear es hp hV k4 h0
    go_upto_region 3 with fail
    obtain ⟨ww5, hv5⟩ := nm (World.setCell wr ⟨T, 0, none⟩ (.int .u64 ((x : Int))))
    have HK5 : Hid (KS [(R, .cells (lk .u64 (zi 16)) 109), (T, .cells (lk .u64 (V.set 0 (x : Int))) 134)] [] w ww5) := by rw [hv5]; exact hDx (HK4.out.setK 1 rfl 0 ((x : Int)))
    rw [← hv5]
    clear hv5
    clear c0 z0 k1 k2 k3
    go_wp2_with fail
    go_roundw
    case rel => exact ⟨k + 1, HO.out.2.1, by first | rfl | go_num, by rw [HO.out.1, HJ.out]; exact HK5.out⟩
    exact measI 3 _ HO.out.2.1
  obtain rfl : k = 3 := by omega
  try simp only [Int.cast_ofNat_Int]
  obtain ⟨F, hF⟩ := nm (itF r1 3 f)
  have t3 := r1_three hf.out
  rw [← hF] at t3 HK2
  replace t3 := hDx t3
  clear hF
  change Hid (KS [(R, .cells (lk .u64 (zi 16)) 109), (T, .cells (lk .u64 (rw_ 32 (itF r2 0 F))) 134)] [] w wr) at HK2
  go_upto_region 18 with fail
  go_loopw [8] (fun vS wr => ∃ a : Nat, a ≤ 3 ∧ vS = .int .i64 (a : Int) ∧ KS [(R, .cells (lk .u64 (zi 16)) 109), (T, .cells (lk .u64 (rw_ 32 (itF r2 a F))) 134)] [] w wr) (fun vS _ => 3 - (intOf vS).toNat)
  case atStart => exact ⟨0, Nat.zero_le _, rfl, HK2.out⟩
  case round =>
   obtain ⟨a, ha, rfl, HK⟩ := hrel
   have HK3 := hDx HK
   clear HK
   by_cases hlt : a < 3
   ·have ha1 : (0 : Int) ≤ a := by omega
    have ha2 : (a : Int) < 3 := by omega
    obtain ⟨ha3, ha4⟩ := i64w (x := (a : Int) + 1) (n := a + 1) (by omega) (by omega)
    obtain ⟨G, hG⟩ := nm (itF r2 a F)
    have bG : Bd G := by rw [hG]; exact it2_bd t3.out.2.2.2 a
    have hs : itF r2 (a + 1) F = r2 G := by rw [hG]; rfl
    rw [← hG] at HK3
    clear hG
    have HO := hDx (And.intro hs (And.intro hlt bG))
    clear hs hlt bG
    rw [← cF_zero G] at HK3
    go_upto_region 22 with fail
    go_loopw [9, 10] (fun vX vS wr => ∃ i : Nat, i ≤ 16 ∧ vS = .int .i64 (i : Int) ∧ vX = .int .u64 (cC G i : Int) ∧ KS [(R, .cells (lk .u64 (zi 16)) 109), (T, .cells (lk .u64 (rw_ 32 (cF G i))) 134)] [] w wr) (fun vX vS _ => 16 - (intOf vS).toNat)
    case atStart => exact ⟨0, Nat.zero_le _, rfl, rfl, HK3.out⟩
    obtain ⟨i, hi, rfl, rfl, HK⟩ := hrel
    have HK4 := hDx HK
    clear HK
    by_cases hlt : i < 16
    ·have hi1 : (0 : Int) ≤ i := by omega
     have hi2 : (i : Int) < 16 := by omega
     obtain ⟨hi3, hi4⟩ := i64w (x := (i : Int) + 1) (n := i + 1) (by omega) (by omega)
     obtain ⟨x, r, q, k1, k2, k3, k4, k5, k6⟩ := car_i HO.out.2.2 (n := 16) (by decide) hlt
     have hv32 : (i : Int) < 32 := by omega
     have ht32 : i < 32 := by omega
     have c0 := (HK4.out.rk 1 rfl (rw_len' _ _)).cell i ht32
     rw [rw_at' _ _ _ ht32, k6] at c0
     obtain ⟨gk, hgk⟩ := nm (G i)
     obtain ⟨ck, hck⟩ := nm (cC G i)
     rw [← hgk] at c0 k1
     rw [← hck] at k1
     rw [← hck]
     obtain ⟨V, hV⟩ := nm (rw_ 32 (cF G i))
     have lV : V.length = 32 := by rw [hV, rw_len']
     rw [← hV] at HK4
     rw [← hV] at k5
     have z0 := (HK4.out.rk 1 rfl lV).fz
     have HJ := hDx (And.intro k4 (And.intro k5 hlt))
     clear hgk hck hV k4 k5 k6 hlt
     go_upto_region 26 with fail
     obtain ⟨ww5, hv5⟩ := nm (World.setCell wr ⟨T, i, none⟩ (.int .u64 ((r : Int))))
     have HK5 : Hid (KS [(R, .cells (lk .u64 (zi 16)) 109), (T, .cells (lk .u64 (V.set i (r : Int))) 134)] [] w ww5) := by rw [hv5]; exact hDx (HK4.out.setK 1 rfl i ((r : Int)))
     rw [← hv5]
     clear hv5
     clear c0 z0
     go_wp2_with fail
     go_roundw
     case rel =>
      exact ⟨i + 1, HJ.out.2.2, by first | rfl | go_num, by rw [HJ.out.1], by rw [HJ.out.2.1]; exact HK5.out⟩
     exact measI 16 _ HJ.out.2.2
    obtain rfl : i = 16 := by omega
    try simp only [Int.cast_ofNat_Int]
    have h0 : cF G 16 0 ≤ 300000000000000 := by
     have := cF_lt G (k := 16) (j := 0) (by decide)
     omega
    obtain ⟨y, x, k1, k2, k3, k4⟩ := c38 HO.out.2.2 _ h0
    obtain ⟨ck, hck⟩ := nm (cC G 16)
    rw [← hck]
    rw [← hck] at k1 k2 k4
    have c0 := (HK4.out.rk 1 rfl (rw_len' _ _)).cell 0 (by decide)
    rw [rw_at' _ _ _ (by decide)] at c0
    have es : rw_ 32 (r2 G) = (rw_ 32 (cF G 16)).set 0 (x : Int) := by rw [rw_set, k4, hck]; rfl
    obtain ⟨p, hp⟩ := nm (cF G 16 0)
    rw [← hp] at c0 k3
    obtain ⟨V, hV⟩ := nm (rw_ 32 (cF G 16))
    have lV : V.length = 32 := by rw [hV, rw_len']
    rw [← hV] at HK4
    rw [← hV] at es
    have z0 := (HK4.out.rk 1 rfl lV).fz
    have HJ := hDx es
    clear es hp hV k4 h0 hck
    go_upto_region 19 with fail
    obtain ⟨ww5, hv5⟩ := nm (World.setCell wr ⟨T, 0, none⟩ (.int .u64 ((x : Int))))
    have HK5 : Hid (KS [(R, .cells (lk .u64 (zi 16)) 109), (T, .cells (lk .u64 (V.set 0 (x : Int))) 134)] [] w ww5) := by rw [hv5]; exact hDx (HK4.out.setK 1 rfl 0 ((x : Int)))
    rw [← hv5]
    clear hv5
    clear c0 z0 k1 k2 k3
    go_wp2_with fail
    go_roundw
    case rel => exact ⟨a + 1, HO.out.2.1, by first | rfl | go_num, by rw [HO.out.1, HJ.out]; exact HK5.out⟩
    exact measI 3 _ HO.out.2.1
   obtain rfl : a = 3 := by omega
   try simp only [Int.cast_ofNat_Int]
   obtain ⟨E, hE⟩ := nm (itF r2 3 F)
   have t4 := r2_three t3.out.2.2.2 t3.out.1
   rw [← hE] at t4 HK3
   replace t4 := hDx t4
   clear hE
   go_upto_region 29 with fail
   have hm4 := (HK3.out.made (.cells ZRu64x16 109))
   obtain ⟨M, hgM⟩ := nm wr.heap.size
   obtain ⟨ww4, hv4⟩ := nm (World.alloc wr (.cells ZRu64x16 109))
   rw [← hv4, ← hgM] at hm4
   rw [← hv4]
   try rw [← hgM]
   have HK4 : Hid (KS [(M, .cells (lk .u64 (rw_ 16 (cpF E 0))) 109), (R, .cells (lk .u64 (zi 16)) 109), (T, .cells (lk .u64 (rw_ 32 E)) 134)] [] w ww4) := hDx hm4
   clear hm4 hv4 hgM
   go_upto_region 30 with fail
   go_loopw [13] (fun vS wr => ∃ b : Nat, b ≤ 16 ∧ vS = .int .i64 (b : Int) ∧ KS [(M, .cells (lk .u64 (rw_ 16 (cpF E b))) 109), (R, .cells (lk .u64 (zi 16)) 109), (T, .cells (lk .u64 (rw_ 32 E)) 134)] [] w wr) (fun vS _ => 16 - (intOf vS).toNat)
   case atStart => exact ⟨0, Nat.zero_le _, rfl, HK4.out⟩
   case round =>
    obtain ⟨b, hb, rfl, HK⟩ := hrel
    have HK5 := hDx HK
    clear HK
    by_cases hlt : b < 16
    ·have hb1 : (0 : Int) ≤ b := by omega
     have hb2 : (b : Int) < 16 := by omega
     obtain ⟨hb3, hb4⟩ := i64w (x := (b : Int) + 1) (n := b + 1) (by omega) (by omega)
     have hb32 : b < 32 := by omega
     have hv32 : (b : Int) < 32 := by omega
     have c0 := (HK5.out.rk 2 rfl (rw_len' _ _)).cell b hb32
     rw [rw_at' _ _ _ hb32] at c0
     have es := cpF_set E b
     obtain ⟨p, hp⟩ := nm (E b)
     rw [← hp] at c0 es
     obtain ⟨V, hV⟩ := nm (rw_ 16 (cpF E b))
     have lV : V.length = 16 := by rw [hV, rw_len']
     rw [← hV] at HK5
     rw [← hV] at es
     have z0 := (HK5.out.rk 0 rfl lV).fz
     have c1 := (HK5.out.rk 0 rfl lV).cell b hlt
     have HJ := hDx es
     clear es hp hV
     go_upto_region 31 with fail
     obtain ⟨ww6, hv6⟩ := nm (World.setCell wr ⟨M, b, none⟩ (.int .u64 ((p : Int))))
     have HK6 : Hid (KS [(M, .cells (lk .u64 (V.set b (p : Int))) 109), (R, .cells (lk .u64 (zi 16)) 109), (T, .cells (lk .u64 (rw_ 32 E)) 134)] [] w ww6) := by rw [hv6]; exact hDx (HK5.out.setK 0 rfl b ((p : Int)))
     rw [← hv6]
     clear hv6
     clear c0 c1 z0
     go_wp2_with fail
     go_roundw
     case rel =>
      exact ⟨b + 1, hlt, by first | rfl | go_num, by rw [HJ.out]; exact HK6.out⟩
     first | exact measI _ _ hlt | (simp [intOf]; omega)
    obtain rfl : b = 16 := by omega
    try simp only [Int.cast_ofNat_Int]
    rw [cpF_all] at HK5
    have hq0 : Sml E ∧ vs 65536 E 16 % P = vs 65536 f 32 % P := ⟨t4.out.2, by rw [t4.out.1, t3.out.2.1]⟩
    go_upto_region 33 with fail
    go_loopw [94] (fun vD wr => ∃ Q : Nat → Nat, (Sml Q ∧ vs 65536 Q 16 % P = vs 65536 f 32 % P) ∧ KS [(M, .cells (lk .u64 (rw_ 16 Q)) 109), (R, .cells (lk .u64 (zi 16)) 109), (T, .cells (lk .u64 (rw_ 32 E)) 134)] [] w wr) (fun _ wr => numW M wr)
    case atStart => exact ⟨E, hq0, HK5.out⟩
    obtain ⟨Q, hq, HK⟩ := hrel
    have HK6 := hDx HK
    clear HK hq0
    replace hq := hDx hq
    obtain ⟨dd, hdd⟩ := nm (decide (vs 65536 Q 16 < vs 65536 pF 16))
    replace hdd := hDx hdd
    go_upto_region 33 with fail
    try simp only [Act.put, sAx, s0x, s1x]
    refine wp_region_cv 3 [91, 92, 93] [[], [], [91, 92]] [(91, .agg (lk .u64 (rw_ 16 (Q)))), (92, .agg (lk .u64 (rw_ 16 (pF)))), (93, .bool dd)] rfl (by kernel_rfl) (by kernel_rfl) (by rfl) (by kernel_rfl) ?hO1 ?hE1
    case hO1 =>
     refine ⟨?_, ?_, ?_, trivial⟩
     ·intro act u HB HO HA
      have e12 : act.eval (.tmp 12) = .pointer (some ⟨M, 0, none⟩) := HO 12 (by decide)
      have HS := HK6.out.drew.call HB
      exact calm_lM 91 12 e12 (HS.get 0 rfl) ag109 (extR _) ((by rw [lk_size, rw_len'])) rfl rfl rfl rfl
     ·intro act u HB HO HA
      refine calm_call 92 #[] rfl rfl ?_ (by kernel_rfl) (prime_any u) ?_ rfl
      ·simp only [mTx, mCx, mNx]
       try rfl
      rintro e u1 ⟨rfl, B1⟩
      exact ⟨_, rfl, rfl, B1⟩
     intro act u HB HO HA
     have e91 : _ = _ := qA HA 91
     have e92 : _ = _ := qA HA 92
     refine calm_call 93 #[.agg (lk .u64 (rw_ 16 (Q))), .agg (lk .u64 (rw_ 16 (pF)))] rfl rfl ?_ (by kernel_rfl) (less_any Q pF hq.out.1 (fun j _ => pF_lt j) u) ?_ rfl
     ·simp only [mTx, mCx, mNx, e91, e92]
      try rfl
     rintro e u1 ⟨rfl, B1⟩
     exact ⟨_, rfl, by rw [hdd.out]; rfl, B1⟩
    intro ww7 HB
    have HK7 := hDx (HK6.out.drew.call HB)
    simp only [fillL, Act.put, sAx, s0x, s1x, dSx, d0x]
    clear HB
    rcases Bool.eq_false_or_eq_true dd with hd | hd
    ·subst hd
     have hlt : vs 65536 Q 16 < P := by
      have h := hdd.out
      rw [pF_v] at h
      exact of_decide_eq_true h.symm
     have e : rw_ 16 Q = VV := by
      rw [hVV.out]
      refine rw_ext fun j hj => ?_
      unfold limP
      rw [← hq.out.2, Nat.mod_eq_of_lt hlt]
      exact (lim_vs (by decide) 16 j hq.out.1 hj).symm
     have lVV : VV.length = 16 := by rw [← e, rw_len']
     rw [e] at HK7
     clear hlt e
     have FA := (HK7.out.rk 0 rfl lVV)
     have FR := (HK7.out.rk 1 rfl (zi_len 16))
     go_wp2_with (first | (refine wpList_load_rk rfl _ rfl rfl FA ty109 ?_) | (refine wpList_store_rk rfl _ _ rfl rfl rfl FR ty109 lVV ?_))
     have KE := HK7.out.setRow 1 rfl (lk .u64 (VV))
     try simp only [Exit.inBlock, Exit.then]
     refine bodyPost_ret (results_rk (p := 2) (by kernel_rfl) (by rfl) (KE.rk 1 rfl lVV) ty109) rfl ?_
     exact ⟨rfl, KE.below⟩
    subst hd
    have hge : P ≤ vs 65536 Q 16 := by
     have h := hdd.out
     rw [pF_v] at h
     exact Nat.le_of_not_lt (of_decide_eq_false h.symm)
    have hm := minus_v Q pF hq.out.1 (fun j _ => pF_lt j) (by rw [pF_v]; exact hge)
    rw [pF_v] at hm
    have hsm : Sml (mC Q pF 16) := fun j _ => mC_lt Q pF 16 j
    have hmod : vs 65536 (mC Q pF 16) 16 % P = vs 65536 f 32 % P := by rw [hm, ← hq.out.2, Nat.mod_eq_sub_mod hge]
    have hPp : 0 < P := by decide +kernel
    have hless : vs 65536 (mC Q pF 16) 16 < vs 65536 Q 16 := by rw [hm]; omega
    have HM := hDx (And.intro (And.intro hsm hmod) hless)
    clear hge hm hsm hmod hPp hless
    go_upto_region 34 with fail
    try simp only [Act.put, sAx, s0x, s1x]
    refine wp_region_cv 3 [95, 96, 97] [[], [], [95, 96]] [(95, .agg (lk .u64 (rw_ 16 (Q)))), (96, .agg (lk .u64 (rw_ 16 (pF)))), (97, .agg (lk .u64 (rw_ 16 (mC Q pF 16))))] rfl (by kernel_rfl) (by kernel_rfl) (by rfl) (by kernel_rfl) ?hO2 ?hE2
    case hO2 =>
     refine ⟨?_, ?_, ?_, trivial⟩
     ·intro act u HB HO HA
      have e12 : act.eval (.tmp 12) = .pointer (some ⟨M, 0, none⟩) := HO 12 (by decide)
      have HS := HK7.out.drew.call HB
      exact calm_lM 95 12 e12 (HS.get 0 rfl) ag109 (extR _) ((by rw [lk_size, rw_len'])) rfl rfl rfl rfl
     ·intro act u HB HO HA
      refine calm_call 96 #[] rfl rfl ?_ (by kernel_rfl) (prime_any u) ?_ rfl
      ·simp only [mTx, mCx, mNx]
       try rfl
      rintro e u1 ⟨rfl, B1⟩
      exact ⟨_, rfl, rfl, B1⟩
     intro act u HB HO HA
     have e95 : _ = _ := qA HA 95
     have e96 : _ = _ := qA HA 96
     refine calm_call 97 #[.agg (lk .u64 (rw_ 16 (Q))), .agg (lk .u64 (rw_ 16 (pF)))] rfl rfl ?_ (by kernel_rfl) (minus_any Q pF hq.out.1 (fun j _ => pF_lt j) u) ?_ rfl
     ·simp only [mTx, mCx, mNx, e95, e96]
      try rfl
     rintro e u1 ⟨rfl, B1⟩
     exact ⟨_, rfl, rfl, B1⟩
    intro ww8 HB
    have HK8 := hDx (HK7.out.drew.call HB)
    simp only [fillL, Act.put, sAx, s0x, s1x, dSx, d0x]
    clear HB
    have FS := (HK8.out.rk 0 rfl (rw_len' _ _))
    go_wp2_with (with_reducible show wpList _ _ _ _ _ _; refine wpList_store_rk rfl _ _ rfl rfl rfl FS ty109 (rw_len' _ _) ?_)
    have hold : numW M wr = vs 65536 Q 16 := numW_rw (HK6.out.get 0 rfl)
    obtain ⟨ww9, hv9⟩ := nm (World.setRow ww8 M (lk .u64 (rw_ 16 (mC Q pF 16))))
    have HK9 : Hid (KS [(M, .cells (lk .u64 (rw_ 16 (mC Q pF 16))) 109), (R, .cells (lk .u64 (zi 16)) 109), (T, .cells (lk .u64 (rw_ 32 E)) 134)] [] w ww9) := by rw [hv9]; exact hDx (HK8.out.setRow 0 rfl _)
    rw [← hv9]
    clear hv9
    go_roundw
    case rel => exact ⟨_, _, _, _, _, _, _, ⟨mC Q pF 16, HM.out.1, HK9.out⟩, rfl⟩
    case measure =>
     rw [hold, numW_rw (HK9.out.get 0 rfl)]
     exact HM.out.2
end
section
open Go.RowKit T
def wdF (f : Nat → Nat) (k j : Nat) : Nat := if j < k then f j else 0
theorem wdF_set (f : Nat → Nat) (k : Nat) : rw_ 32 (wdF f (k + 1)) = (rw_ 32 (wdF f k)).set k (f k : Int) := by
 rw [rw_set]
 congr 1
 funext j
 unfold upd wdF
 by_cases e : j = k
 ·subst e; rw [if_pos rfl, if_pos (by omega)]
 rw [if_neg e]
 by_cases e1 : j < k
 ·rw [if_pos e1, if_pos (by omega)]
 rw [if_neg e1, if_neg (by omega)]
theorem zi32_rw (f : Nat → Nat) : zi 32 = rw_ 32 (wdF f 0) := by
 rw [zi_rw]
 exact rw_ext fun j _ => by unfold wdF; rw [if_neg (by omega)]
theorem wd_bd {f : Nat → Nat} (hf : Sml f) : Bd (wdF f 16) := fun j _ => by
 unfold wdF
 split
 ·rename_i h; have := hf j h; omega
 ·omega
theorem wd_v (f : Nat → Nat) : vs 65536 (wdF f 16) 32 = vs 65536 f 16 := by
 rw [vs_up (fun j h1 h2 => by unfold wdF; rw [if_neg (by omega)])]
 exact vs_ext 16 fun j hj => by unfold wdF; rw [if_pos hj]
theorem wide_any (f : Nat → Nat) (w : World) : Calls Tryz.prog 75 #[.agg (lk .u64 (rw_ 16 f))] w fun e w' => e = .returned (.agg (lk .u64 (rw_ 32 (wdF f 16)))) ∧ Below w.heap.size w w' := by
 go_enter Tryz.func75, Tryz.ntmps75
 have HK0 := hDx (KS.start w)
 go_upto_region 2 with (fail)
 have hm1 := (((HK0.out.made (.cells (lk .u64 (rw_ 16 f)) 109)).made (.cells ZRu64x32 134)).made (.cells ZRu64x32 134))
 try rw [show ((World.alloc (World.alloc w (.cells (lk .u64 (rw_ 16 f)) 109)) (.cells ZRu64x32 134))).heap.size = w.heap.size + 2 by simp] at hm1
 try rw [show ((World.alloc w (.cells (lk .u64 (rw_ 16 f)) 109))).heap.size = w.heap.size + 1 by simp] at hm1
 obtain ⟨C, hgC⟩ := nm (w.heap.size + 2)
 obtain ⟨R, hgR⟩ := nm (w.heap.size + 1)
 obtain ⟨A, hgA⟩ := nm w.heap.size
 obtain ⟨ww1, hv1⟩ := nm (World.alloc (World.alloc (World.alloc w (.cells (lk .u64 (rw_ 16 f)) 109)) (.cells ZRu64x32 134)) (.cells ZRu64x32 134))
 rw [← hv1, ← hgC, ← hgR, ← hgA] at hm1
 rw [← hv1]
 try rw [← hgC]
 try rw [← hgR]
 try rw [← hgA]
 have HK1 : Hid (KS [(C, .cells (lk .u64 (zi 32)) 134), (R, .cells (lk .u64 (zi 32)) 134), (A, .cells (lk .u64 (rw_ 16 f)) 109)] [] w ww1) := hDx hm1
 clear hm1 hv1 hgA hgR hgC
 obtain ⟨vz, hvz⟩ := nm (zi 32)
 have lvz : vz.length = 32 := by rw [hvz]; exact zi_len 32
 have hz := zi32_rw f
 rw [← hvz] at hz HK1
 skip
 have HKC := HK1.out.swap (L' := [(C, .cells (lk .u64 (rw_ 32 (wdF f 0))) 134), (R, .cells (lk .u64 vz) 134), (A, .cells (lk .u64 (rw_ 16 f)) 109)]) (by rw [← hz])
 replace HK1 := hDx HKC
 clear HKC hz hvz
 go_upto_region 3 with fail
 go_loopw [4] (fun vS wr => ∃ k : Nat, k ≤ 16 ∧ vS = .int .i64 (k : Int) ∧ KS [(C, .cells (lk .u64 (rw_ 32 (wdF f k))) 134), (R, .cells (lk .u64 vz) 134), (A, .cells (lk .u64 (rw_ 16 f)) 109)] [] w wr) (fun vS _ => 16 - (intOf vS).toNat)
 case atStart => exact ⟨0, Nat.zero_le _, rfl, HK1.out⟩
 obtain ⟨k, hk, rfl, HK⟩ := hrel
 have HK2 := hDx HK
 clear HK
 by_cases hlt : k < 16
 ·have hk1 : (0 : Int) ≤ k := by omega
  have hk2 : (k : Int) < 16 := by omega
  obtain ⟨hk3, hk4⟩ := i64w (x := (k : Int) + 1) (n := k + 1) (by omega) (by omega)
  have hb32 : k < 32 := by omega
  have hv32 : (k : Int) < 32 := by omega
  have c0 := (HK2.out.rk 2 rfl (rw_len' _ _)).cell k hlt
  rw [rw_at' _ _ _ hlt] at c0
  have es := wdF_set f k
  obtain ⟨p, hp⟩ := nm (f k)
  rw [← hp] at c0 es
  obtain ⟨V, hV⟩ := nm (rw_ 32 (wdF f k))
  have lV : V.length = 32 := by rw [hV, rw_len']
  rw [← hV] at HK2
  rw [← hV] at es
  have z0 := (HK2.out.rk 0 rfl lV).fz
  have c1 := (HK2.out.rk 0 rfl lV).cell k hb32
  have HJ := hDx es
  clear es hp hV
  go_upto_region 4 with fail
  obtain ⟨ww3, hv3⟩ := nm (World.setCell wr ⟨C, k, none⟩ (.int .u64 ((p : Int))))
  have HK3 : Hid (KS [(C, .cells (lk .u64 (V.set k (p : Int))) 134), (R, .cells (lk .u64 vz) 134), (A, .cells (lk .u64 (rw_ 16 f)) 109)] [] w ww3) := by rw [hv3]; exact hDx (HK2.out.setK 0 rfl k ((p : Int)))
  rw [← hv3]
  clear hv3
  clear c0 c1 z0
  go_wp2_with fail
  go_roundw
  case rel =>
   exact ⟨k + 1, hlt, by first | rfl | go_num, by rw [HJ.out]; exact HK3.out⟩
  first | exact measI _ _ hlt | (simp [intOf]; omega)
 obtain rfl : k = 16 := by omega
 try simp only [Int.cast_ofNat_Int]
 have FA := (HK2.out.rk 0 rfl (rw_len' _ _))
 have FR := (HK2.out.rk 1 rfl lvz)
 go_wp2_with (first | (refine wpList_load_rk rfl _ rfl rfl FA ty134 ?_) | (refine wpList_store_rk rfl _ _ rfl rfl rfl FR ty134 (rw_len' _ _) ?_))
 have KE := HK2.out.setRow 1 rfl (lk .u64 (rw_ 32 (wdF f 16)))
 try simp only [Exit.inBlock, Exit.then]
 refine bodyPost_ret (results_rk (p := 2) (by kernel_rfl) (by rfl) (KE.rk 1 rfl (rw_len' _ _)) ty134) rfl ?_
 exact ⟨rfl, KE.below⟩
def ptK (s : ByteArray) (k j : Nat) : Nat := (if 2 * j < k then bt s (2 * j) else 0) + (if 2 * j + 1 < k then bt s (2 * j + 1) * 256 else 0)
def ptF (s : ByteArray) (j : Nat) : Nat := bt s (2 * j) + bt s (2 * j + 1) * 256
theorem ptK_all (s : ByteArray) : rw_ 16 (ptK s 32) = rw_ 16 (ptF s) := rw_ext fun j hj => by unfold ptK ptF; rw [if_pos (by omega), if_pos (by omega)]
theorem ptF_sml (s : ByteArray) : Sml (ptF s) := fun j _ => by
 have := bt_lt s (2 * j); have := bt_lt s (2 * j + 1)
 unfold ptF; omega
theorem ptF_v (s : ByteArray) : ∀ n, vs 65536 (ptF s) n = leN s (2 * n)
 | 0 => rfl
 | n + 1 => by
  have e : (65536 : Nat) ^ n = 256 ^ (2 * n) := by rw [Nat.pow_mul]
  rw [vs, ptF_v s n, show 2 * (n + 1) = 2 * n + 1 + 1 by omega, leN, leN, ptF, e, Nat.pow_succ, Nat.add_mul]
  generalize 256 ^ (2 * n) = p
  rw [Nat.mul_assoc, Nat.mul_comm p 256]
  omega
theorem zi16_rw (s : ByteArray) : zi 16 = rw_ 16 (ptK s 0) := by
 rw [zi_rw]
 exact rw_ext fun j _ => by unfold ptK; rw [if_neg (by omega), if_neg (by omega)]
theorem ptK_even (s : ByteArray) (j : Nat) : upd (ptK s (2 * j)) j (bt s (2 * j)) = ptK s (2 * j + 1) ∧ ptK s (2 * j) j = 0 := by
 constructor
 ·funext i
  unfold upd ptK
  by_cases e : i = j
  ·subst e; rw [if_pos rfl, if_pos (by omega), if_neg (by omega)]; rfl
  rw [if_neg e]
  by_cases e1 : i < j
  ·rw [if_pos (by omega), if_pos (by omega), if_pos (by omega), if_pos (by omega)]
  rw [if_neg (by omega), if_neg (by omega), if_neg (by omega), if_neg (by omega)]
 unfold ptK; rw [if_neg (by omega), if_neg (by omega)]
theorem ptK_odd (s : ByteArray) (j : Nat) : upd (ptK s (2 * j + 1)) j (bt s (2 * j) + bt s (2 * j + 1) * 256) = ptK s (2 * j + 1 + 1) ∧ ptK s (2 * j + 1) j = bt s (2 * j) := by
 constructor
 ·funext i
  unfold upd ptK
  by_cases e : i = j
  ·subst e; rw [if_pos rfl, if_pos (by omega), if_pos (by omega)]
  rw [if_neg e]
  by_cases e1 : i < j
  ·rw [if_pos (by omega), if_pos (by omega), if_pos (by omega), if_pos (by omega)]
  rw [if_neg (by omega), if_neg (by omega), if_neg (by omega), if_neg (by omega)]
 unfold ptK; rw [if_pos (by omega), if_neg (by omega)]; rfl
theorem shl0 (x : Nat) (hx : x < 256) : Op.shift .shl .u64 (x : Int) .u64 0 = pure (.int .u64 (x : Int)) := by
 rw [shift_shl _ _ _ _ (by decide) (by decide)]
 have : IntKind.u64.wrap ((x : Int) * 2 ^ (0 : Int).toNat) = x := u64w (by simp) (by omega)
 rw [this]
theorem shl8 (x : Nat) (hx : x < 256) : Op.shift .shl .u64 (x : Int) .u64 8 = pure (.int .u64 ((x * 256 : Nat) : Int)) := by
 rw [shift_shl _ _ _ _ (by decide) (by decide)]
 have : IntKind.u64.wrap ((x : Int) * 2 ^ (8 : Int).toNat) = ((x * 256 : Nat) : Int) := u64w (by push_cast; rfl) (by omega)
 rw [this]
theorem quo2 (k q : Nat) (hq : k / 2 = q) (hk : k < 1000) : binOp .quo 3 (.int .i64 (k : Int)) (.int .i64 2) = pure (.int .i64 (q : Int)) := quo_i 3 k 2 q (by decide) hq (by omega)
theorem rem2 (k q : Nat) (hq : k % 2 = q) (hk : k < 1000) : binOp .rem 3 (.int .i64 (k : Int)) (.int .i64 2) = pure (.int .i64 (q : Int)) := rem_i 3 k 2 q (by decide) hq (by omega)
theorem parts_any (s : ByteArray) (hs : s.size = 32) (w : World) : Calls Tryz.prog 76 #[.string s] w fun e w' => e = .returned (.agg (lk .u64 (rw_ 16 (ptF s)))) ∧ Below w.heap.size w w' := by
 have h33 : (s.size : Int) = 32 := by omega
 go_enter Tryz.func76, Tryz.ntmps76
 have HK0 := hDx (KS.start w)
 go_upto_region 2 with (fail)
 have hm1 := ((HK0.out.made (.cells ZRu64x16 109)).made (.cells ZRu64x16 109))
 try rw [show ((World.alloc w (.cells ZRu64x16 109))).heap.size = w.heap.size + 1 by simp] at hm1
 obtain ⟨C, hgC⟩ := nm (w.heap.size + 1)
 obtain ⟨R, hgR⟩ := nm w.heap.size
 obtain ⟨ww1, hv1⟩ := nm (World.alloc (World.alloc w (.cells ZRu64x16 109)) (.cells ZRu64x16 109))
 rw [← hv1, ← hgC, ← hgR] at hm1
 rw [← hv1]
 try rw [← hgC]
 try rw [← hgR]
 have HK1 : Hid (KS [(C, .cells (lk .u64 (zi 16)) 109), (R, .cells (lk .u64 (zi 16)) 109)] [] w ww1) := hDx hm1
 clear hm1 hv1 hgR hgC
 have HKC := HK1.out.swap (L' := [(C, .cells (lk .u64 (rw_ 16 (ptK s 0))) 109), (R, .cells (lk .u64 (zi 16)) 109)]) (by rw [← zi16_rw s])
 replace HK1 := hDx HKC
 clear HKC
 go_upto_region 3 with fail
 go_loopw [4] (fun vS wr => ∃ k : Nat, k ≤ 32 ∧ vS = .int .i64 (k : Int) ∧ KS [(C, .cells (lk .u64 (rw_ 16 (ptK s k))) 109), (R, .cells (lk .u64 (zi 16)) 109)] [] w wr) (fun vS _ => 32 - (intOf vS).toNat)
 case atStart => exact ⟨0, Nat.zero_le _, rfl, HK1.out⟩
 obtain ⟨k, hk, rfl, HK⟩ := hrel
 have HK2 := hDx HK
 clear HK
 by_cases hlt : k < 32
 ·have hk1 : (0 : Int) ≤ k := by omega
  have hk2 : (k : Int) < 32 := by omega
  obtain ⟨hk3, hk4⟩ := i64w (x := (k : Int) + 1) (n := k + 1) (by omega) (by omega)
  have ix := fun u => idxS (s := s) (k := k) (by omega) u
  have mb := bt64 s k
  rcases Nat.mod_two_eq_zero_or_one k with hpar | hpar
  ·obtain ⟨j, hj⟩ : ∃ j, k = 2 * j := ⟨k / 2, by omega⟩
   have hj16 : j < 16 := by omega
   have hj0 : (0 : Int) ≤ j := by omega
   have hj1 : (j : Int) < 16 := by omega
   have q1 := quo2 k j (by omega) (by omega)
   have r1 := rem2 k 0 (by omega) (by omega)
   obtain ⟨p1, p2⟩ := ptK_even s j
   rw [← hj] at p1 p2
   have bb := bt_lt s k
   have sh := shl0 (bt s k) bb
   have c0 := (HK2.out.rk 0 rfl (rw_len' _ _)).cell j hj16
   rw [rw_at' _ _ _ hj16, p2] at c0
   obtain ⟨W, hW⟩ := nm (bt s k)
   have hor : bits .or .u64 (0 : Int) (W : Int) = (W : Int) := by
    have h := u64_or_nat 0 W (by decide) (by omega)
    rw [Nat.zero_or] at h
    exact h
   rw [← hW] at p1 ix mb sh
   have es : rw_ 16 (ptK s (k + 1)) = (rw_ 16 (ptK s k)).set j (W : Int) := by rw [rw_set, p1]
   obtain ⟨V, hV⟩ := nm (rw_ 16 (ptK s k))
   have lV : V.length = 16 := by rw [hV, rw_len']
   rw [← hV] at HK2
   rw [← hV] at es
   have z0 := (HK2.out.rk 0 rfl lV).fz
   have HJ := hDx es
   clear es hV p1 p2
   have u1 : (k : Int).tdiv 2 = j := by rw [Int.tdiv_eq_ediv_of_nonneg (by omega)]; omega
   have u2 : (k : Int).tmod 2 = 0 := by rw [Int.tmod_eq_emod_of_nonneg (by omega)]; omega
   obtain ⟨j3, j4⟩ := i64w (x := (j : Int)) (n := j) rfl (by omega)
   clear hj hpar
   clear bb sh q1 r1 hW
   have w1 : IntKind.i64.wrap 0 = 0 := by decide
   have w2 : IntKind.u64.wrap 0 = 0 := by decide
   go_upto_region 5 with fail
   go_still_tail 17, (by kernel_rfl)
   go_upto_region 4 with fail
   obtain ⟨ww3, hv3⟩ := nm (World.drew (World.setCell wr ⟨C, j, none⟩ (.int .u64 ((W : Int)))))
   have HK3 : Hid (KS [(C, .cells (lk .u64 (V.set j (W : Int))) 109), (R, .cells (lk .u64 (zi 16)) 109)] [] w ww3) := by rw [hv3]; exact hDx ((HK2.out.setK 0 rfl j ((W : Int))).drew)
   rw [← hv3]
   clear hv3
   clear c0 z0 u1 u2
   go_wp2_with fail
   go_roundw
   case rel =>
    exact ⟨k + 1, hlt, by first | rfl | go_num, by rw [HJ.out]; exact HK3.out⟩
   first | exact measI _ _ hlt | (simp [intOf]; omega)
  obtain ⟨j, hj⟩ : ∃ j, k = 2 * j + 1 := ⟨k / 2, by omega⟩
  have hj16 : j < 16 := by omega
  have hj0 : (0 : Int) ≤ j := by omega
  have hj1 : (j : Int) < 16 := by omega
  have q1 := quo2 k j (by omega) (by omega)
  have r1 := rem2 k 1 (by omega) (by omega)
  obtain ⟨p1, p2⟩ := ptK_odd s j
  rw [← hj] at p1 p2
  have bb := bt_lt s k
  have sh := shl8 (bt s k) bb
  have c0 := (HK2.out.rk 0 rfl (rw_len' _ _)).cell j hj16
  rw [rw_at' _ _ _ hj16, p2] at c0
  have hor := or_addu (bt s (2 * j)) (bt s k) 8 (bt_lt s (2 * j)) (by have := bt_lt s (2 * j); omega)
  simp only [Nat.reducePow] at hor
  obtain ⟨W, hW⟩ := nm (bt s (2 * j) + bt s k * 256)
  rw [← hW] at p1
  rw [← hW] at hor
  obtain ⟨A, hA⟩ := nm (bt s (2 * j))
  obtain ⟨Bq, hB⟩ := nm (bt s k * 256)
  rw [← hA, ← hB] at hor
  rw [← hA] at c0
  rw [← hB] at sh
  have es : rw_ 16 (ptK s (k + 1)) = (rw_ 16 (ptK s k)).set j (W : Int) := by rw [rw_set, p1]
  obtain ⟨V, hV⟩ := nm (rw_ 16 (ptK s k))
  have lV : V.length = 16 := by rw [hV, rw_len']
  rw [← hV] at HK2
  rw [← hV] at es
  have z0 := (HK2.out.rk 0 rfl lV).fz
  have HJ := hDx es
  clear es hV p1 p2
  have u1 : (k : Int).tdiv 2 = j := by rw [Int.tdiv_eq_ediv_of_nonneg (by omega)]; omega
  have u2 : (k : Int).tmod 2 = 1 := by rw [Int.tmod_eq_emod_of_nonneg (by omega)]; omega
  obtain ⟨j3, j4⟩ := i64w (x := (j : Int)) (n := j) rfl (by omega)
  clear hj hpar
  have sh2 : IntKind.u64.wrap ((bt s k : Int) * 256) = Bq := by rw [hB]; exact u64w (by push_cast; rfl) (by omega)
  clear hA hB bb sh q1 r1 hW
  have w1 : IntKind.i64.wrap 8 = 8 := by decide
  have w2 : IntKind.u64.wrap 8 = 8 := by decide
  go_upto_region 5 with fail
  go_still_tail 17, (by kernel_rfl)
  go_upto_region 4 with fail
  obtain ⟨ww3, hv3⟩ := nm (World.drew (World.setCell wr ⟨C, j, none⟩ (.int .u64 ((W : Int)))))
  have HK3 : Hid (KS [(C, .cells (lk .u64 (V.set j (W : Int))) 109), (R, .cells (lk .u64 (zi 16)) 109)] [] w ww3) := by rw [hv3]; exact hDx ((HK2.out.setK 0 rfl j ((W : Int))).drew)
  rw [← hv3]
  clear hv3
  clear c0 z0 u1 u2
  go_wp2_with fail
  go_roundw
  case rel =>
   exact ⟨k + 1, hlt, by first | rfl | go_num, by rw [HJ.out]; exact HK3.out⟩
  first | exact measI _ _ hlt | (simp [intOf]; omega)
 obtain rfl : k = 32 := by omega
 try simp only [Int.cast_ofNat_Int]
 rw [ptK_all] at HK2
 have FA := (HK2.out.rk 0 rfl (rw_len' _ _))
 have FR := (HK2.out.rk 1 rfl (zi_len 16))
 go_wp2_with (first | (refine wpList_load_rk rfl _ rfl rfl FA ty109 ?_) | (refine wpList_store_rk rfl _ _ rfl rfl rfl FR ty109 (rw_len' _ _) ?_))
 have KE := HK2.out.setRow 1 rfl (lk .u64 (rw_ 16 (ptF s)))
 try simp only [Exit.inBlock, Exit.then]
 refine bodyPost_ret (results_rk (p := 2) (by kernel_rfl) (by rfl) (KE.rk 1 rfl (rw_len' _ _)) ty109) rfl ?_
 exact ⟨rfl, KE.below⟩
def numV (X : F) : Value := .agg (lk .u64 (rw_ 16 (lim 65536 X.val)))
theorem numV_limP (n : Nat) : Value.agg (lk .u64 (rw_ 16 (limP n))) = numV (fe n) := rfl
theorem lim_sml (n : Nat) : Sml (lim 65536 n) := fun j _ => lim_lt (by decide) n j
theorem lim_v (X : F) : vs 65536 (lim 65536 X.val) 16 = X.val := by
 rw [vs_lim, Nat.mod_eq_of_lt]
 exact Nat.lt_of_lt_of_le X.isLt (by rw [two256]; omega)
theorem rof_any (s : ByteArray) (hs : s.size = 32) (w : World) : Calls Tryz.prog 53 #[.string s] w fun e w' => e = .returned (numV (fe (leN s 32))) ∧ Below w.heap.size w w' := by
 obtain ⟨VV, hVV⟩ := nm (numV (fe (leN s 32)))
 rw [← hVV]
 replace hVV := hDx hVV
 go_enter Tryz.func53, Tryz.ntmps53
 have HK0 := hDx (KS.start w)
 go_upto_region 1 with (fail)
 have hm1 := (HK0.out.made (.cells ZRu64x16 109))
 obtain ⟨R, hgR⟩ := nm w.heap.size
 obtain ⟨ww1, hv1⟩ := nm (World.alloc w (.cells ZRu64x16 109))
 rw [← hv1, ← hgR] at hm1
 rw [← hv1]
 try rw [← hgR]
 have HK1 : Hid (KS [(R, .cells (lk .u64 (zi 16)) 109)] [] w ww1) := hDx hm1
 clear hm1 hv1 hgR
 go_wp2_with fail
 refine (parts_any s hs _).mono ?_
 rintro e ww2 ⟨rfl, B1⟩
 simp only []
 have HK2 := hDx (HK1.out.call B1)
 clear B1
 go_wp2_with fail
 refine (wide_any (ptF s) _).mono ?_
 rintro e ww3 ⟨rfl, B1⟩
 simp only []
 have HK3 := hDx (HK2.out.call B1)
 clear B1
 go_wp2_with fail
 refine (reduce_any _ (wd_bd (ptF_sml s)) _).mono ?_
 rintro e ww4 ⟨rfl, B1⟩
 simp only []
 have HK4 := hDx (HK3.out.call B1)
 clear B1
 rw [wd_v, ptF_v s 16]
 have FR := (HK4.out.rk 0 rfl (zi_len 16))
 go_wp2_with (with_reducible show wpList _ _ _ _ _ _; refine wpList_store_rk rfl _ _ rfl rfl rfl FR ty109 (rw_len' _ _) ?_)
 have KE := HK4.out.setRow 0 rfl (lk .u64 (rw_ 16 (limP (leN s 32))))
 try simp only [Exit.inBlock, Exit.then]
 refine bodyPost_ret (results_rk (p := 2) (by kernel_rfl) (by rfl) (KE.rk 0 rfl (rw_len' _ _)) ty109) rfl ?_
 exact ⟨by rw [hVV.out]; rfl, KE.below⟩
end
section
open Go.RowKit T
theorem build2 (a b : Nat) (w : World) : (Instr.build 109 #[(0, .int .u64 (a : Int)), (1, .int .u64 (b : Int))]).run Tryz.prog w = .ok (.agg (lk .u64 (rw_ 16 (fun j => if j = 0 then a else if j = 1 then b else 0)))) w := by
 simp [go_sem, lk, rw_, List.range, List.range.loop]
def ab16 (a b : Nat) : List Int := [(a : Int), b, 0, 0, 0, 0, 0, 0, 0, 0, 0, 0, 0, 0, 0, 0]
theorem ab_rw (a b : Nat) : ab16 a b = rw_ 16 (fun j => if j = 0 then a else if j = 1 then b else 0) := by
 simp [ab16, rw_, List.range, List.range.loop]
theorem small_rw (n : Nat) (hn : n < 4294967296) : rw_ 16 (fun j => if j = 0 then n % 65536 else if j = 1 then n / 65536 else 0) = rw_ 16 (lim 65536 (fe n).val) := rw_ext fun j hj => by
 have e : (fe n).val = n := Nat.mod_eq_of_lt (Nat.lt_trans hn (by decide +kernel))
 rw [e]
 unfold lim
 by_cases h0 : j = 0
 ·subst h0; simp
 ·rw [if_neg h0]
  by_cases h1 : j = 1
  ·subst h1
   rw [if_pos rfl, Nat.pow_one, Nat.mod_eq_of_lt (a := n / 65536) (by omega)]
  ·rw [if_neg h1]
   have h2 : 65536 ^ 2 ≤ 65536 ^ j := Nat.pow_le_pow_right (by decide) (by omega)
   rw [Nat.div_eq_of_lt (a := n) (Nat.lt_of_lt_of_le hn (Nat.le_trans (by decide) h2))]
theorem u32and (n : Nat) (hn : n < 4294967296) : bits .and .u32 (n : Int) 65535 = ((n % 65536 : Nat) : Int) := by
 have h := u32_and_nat n 65535 hn (by decide)
 rw [show n &&& 65535 = n % 65536 from Nat.and_two_pow_sub_one_eq_mod n 16] at h
 exact h
theorem rsmall_any (n : Nat) (hn : n < 4294967296) (w : World) : Calls Tryz.prog 54 #[.int .u32 (n : Int)] w fun e w' => e = .returned (numV (fe n)) ∧ Below w.heap.size w w' := by
 have e1 := u32and n hn
 obtain ⟨a, ha⟩ := nm (n % 65536)
 obtain ⟨b, hb⟩ := nm (n / 65536)
 have e2 : (n : Int) / 65536 = b := by omega
 have e3 : IntKind.u64.wrap (a : Int) = a := u64w rfl (by omega)
 have e4 : IntKind.u64.wrap (b : Int) = b := u64w rfl (by omega)
 have hv := small_rw n hn
 rw [← ha, ← hb] at hv
 rw [← ha] at e1
 have HV := hDx hv
 clear hv ha hb hn
 have hbd := fun u => build2 a b u
 have HW := hDx (ab_rw a b)
 clear hbd
 go_enter Tryz.func54, Tryz.ntmps54
 have HK0 := hDx (KS.start w)
 go_upto_region 1 with (fail)
 have hm1 := (HK0.out.made (.cells ZRu64x16 109))
 obtain ⟨R, hgR⟩ := nm w.heap.size
 obtain ⟨ww1, hv1⟩ := nm (World.alloc w (.cells ZRu64x16 109))
 rw [← hv1, ← hgR] at hm1
 rw [← hv1]
 try rw [← hgR]
 have HK1 : Hid (KS [(R, .cells (lk .u64 (zi 16)) 109)] [] w ww1) := hDx hm1
 clear hm1 hv1 hgR
 have FR := (HK1.out.rk 0 rfl (zi_len 16))
 go_wp2_with (with_reducible show wpList _ _ _ _ _ _; refine wpList_store_rk (u := ab16 a b) rfl _ _ rfl rfl rfl FR ty109 rfl ?_)
 have KE := HK1.out.setRow 0 rfl (lk .u64 (ab16 a b))
 try simp only [Exit.inBlock, Exit.then]
 refine bodyPost_ret (results_rk (p := 2) (by kernel_rfl) (by rfl) (KE.rk 0 rfl rfl) ty109) rfl ?_
 exact ⟨by rw [HW.out, HV.out]; rfl, KE.below⟩
theorem lim_byte (n k : Nat) : lim 65536 n (k / 2) / 2 ^ (8 * (k % 2)) % 256 = n / 256 ^ k % 256 := by
 unfold lim
 obtain ⟨j, hj⟩ := nm (k / 2)
 have e : (65536 : Nat) ^ j = 256 ^ (2 * j) := by rw [Nat.pow_mul]
 rcases Nat.mod_two_eq_zero_or_one k with h | h
 ·rw [← hj, h, show k = 2 * j by omega, e]
  generalize n / 256 ^ (2 * j) = x
  simp only [Nat.mul_zero, Nat.pow_zero, Nat.div_one]
  omega
 rw [← hj, h, show k = 2 * j + 1 by omega, e, show (256 : Nat) ^ (2 * j + 1) = 256 ^ (2 * j) * 256 from Nat.pow_succ .., ← Nat.div_div_eq_div_mul]
 generalize n / 256 ^ (2 * j) = x
 simp only [Nat.mul_one, Nat.reducePow]
 omega
theorem u8m (x : Nat) : IntKind.u8.wrap (x : Int) = ((x % 256 : Nat) : Int) := u8w x
theorem rbytes_any (X : F) (w : World) : Calls Tryz.prog 59 #[numV X] w fun e w' => e = .returned (.string (leS X.val 32)) ∧ Below w.heap.size w w' := by
 obtain ⟨n, hn⟩ := nm X.val
 unfold numV
 rw [← hn]
 clear hn
 have hmk := fun w => make_u8 32 (by decide) w
 simp only [Int.cast_ofNat_Int] at hmk
 go_enter Tryz.func59, Tryz.ntmps59
 have HK0 := hDx (KS.start w)
 go_upto_region 1 with (fail)
 have hm1 := (HK0.out.made (.cells (lk .u64 (rw_ 16 (lim 65536 n))) 109))
 obtain ⟨A, hgA⟩ := nm w.heap.size
 obtain ⟨ww1, hv1⟩ := nm (World.alloc w (.cells (lk .u64 (rw_ 16 (lim 65536 n))) 109))
 rw [← hv1, ← hgA] at hm1
 rw [← hv1]
 try rw [← hgA]
 have HK1 : Hid (KS [(A, .cells (lk .u64 (rw_ 16 (lim 65536 n))) 109)] [] w ww1) := hDx hm1
 clear hm1 hv1 hgA
 go_upto_region 2 with fail
 have hm2 := (HK1.out.made (.cells (lk .u8 (zi 32)) 5))
 obtain ⟨B, hgB⟩ := nm ww1.heap.size
 obtain ⟨ww2, hv2⟩ := nm (World.alloc ww1 (.cells (lk .u8 (zi 32)) 5))
 rw [← hv2, ← hgB] at hm2
 rw [← hv2]
 try rw [← hgB]
 have HK2 : Hid (KS [(B, .cells (lk .u8 (zi 32)) 5), (A, .cells (lk .u64 (rw_ 16 (lim 65536 n))) 109)] [] w ww2) := hDx hm2
 clear hm2 hv2 hgB
 clear hmk
 have HKC := HK2.out.swap (L' := [(B, .cells (lk .u8 (upF (leF n) 32 0)) 5), (A, .cells (lk .u64 (rw_ 16 (lim 65536 n))) 109)]) (by rw [upF_zero])
 replace HK2 := hDx HKC
 clear HKC
 go_upto_region 3 with fail
 go_loopw [4] (fun vS wr => ∃ k : Nat, k ≤ 32 ∧ vS = .int .i64 (k : Int) ∧ KS [(B, .cells (lk .u8 (upF (leF n) 32 k)) 5), (A, .cells (lk .u64 (rw_ 16 (lim 65536 n))) 109)] [] w wr) (fun vS _ => 32 - (intOf vS).toNat)
 case atStart => exact ⟨0, Nat.zero_le _, rfl, HK2.out⟩
 obtain ⟨k, hk, rfl, HK⟩ := hrel
 have HK3 := hDx HK
 clear HK
 by_cases hlt : k < 32
 ·have hk1 : (0 : Int) ≤ k := by omega
  have hk2 : (k : Int) < 32 := by omega
  obtain ⟨hk3, hk4⟩ := i64w (x := (k : Int) + 1) (n := k + 1) (by omega) (by omega)
  have lB := upF_len (leF n) 32 k
  have hs := upF_set (leF n) 32 k hlt
  obtain ⟨V, hV⟩ := nm (upF (leF n) 32 k)
  rw [← hV] at HK3 lB hs
  clear hV
  have hb := lim_byte n k
  obtain ⟨j, hj⟩ := nm (k / 2)
  rw [← hj] at hb
  have hj16 : j < 16 := by omega
  have q1 := quo2 k j hj.symm (by omega)
  have c0 := (HK3.out.rk 1 rfl (rw_len' _ _)).cell j hj16
  rw [rw_at' _ _ _ hj16] at c0
  obtain ⟨Y, hY⟩ := nm (lim 65536 n j)
  rw [← hY] at c0 hb
  have j3 : (0 : Int) ≤ j := by omega
  have j4 : (j : Int) < 16 := by omega
  have z0 := (HK3.out.rk 0 rfl lB).fz
  have c1 := (HK3.out.rk 0 rfl lB).cell k hlt
  have hL : leF n k = ((n / 256 ^ k % 256 : Nat) : Int) := rfl
  clear hj hY
  rcases Nat.mod_two_eq_zero_or_one k with hpar | hpar
  ·have r1 := rem2 k 0 hpar (by omega)
   simp only [Int.cast_ofNat_Int] at r1
   rw [hpar] at hb
   have w1 : IntKind.i64.wrap 0 = 0 := by decide
   have w2 : IntKind.u64.wrap 0 = 0 := by decide
   have r1b : binOp .rem 3 (.int .i64 (k : Int)) (.int .i64 2) = pure (.int .i64 0) := r1
   clear r1
   obtain ⟨Z, hZ⟩ := nm Y
   subst hZ
   have hsh : Op.shift .shr .u64 (Z : Int) .u64 0 = pure (.int .u64 (Z : Int)) := by
    rw [shift_shr _ _ _ _ (by decide) (by decide)]
    simp
   obtain ⟨G, hG⟩ := nm (n / 256 ^ k % 256)
   rw [← hG] at hb hL
   have e3 := u8m Z
   have e4 : Z % 256 = G := by rw [← hb]; simp
   rw [e4] at e3
   rw [hL] at hs
   have HJ := hDx hs
   clear hs hL hG hb e4 hpar
   go_upto_region 4 with (first | (with_reducible show Oper.wp _ _ _ _ _ _; refine wp_bin q1 rfl rfl rfl ?_) | (with_reducible show Oper.wp _ _ _ _ _ _; refine wp_bin r1b rfl rfl rfl ?_) | (with_reducible show Oper.wp _ _ _ _ _ _; refine wp_shift hsh (Or.inl rfl) rfl rfl rfl ?_))
   obtain ⟨ww4, hv4⟩ := nm (World.setCell wr ⟨B, k, none⟩ (.int .u8 ((G : Int))))
   have HK4 : Hid (KS [(B, .cells (lk .u8 (V.set k (G : Int))) 5), (A, .cells (lk .u64 (rw_ 16 (lim 65536 n))) 109)] [] w ww4) := by rw [hv4]; exact hDx (HK3.out.setK 0 rfl k ((G : Int)))
   rw [← hv4]
   clear hv4
   clear c0 c1 z0 q1 r1b hsh
   go_wp2_with fail
   go_roundw
   case rel =>
    exact ⟨k + 1, hlt, by first | rfl | go_num, by rw [← HJ.out]; exact HK4.out⟩
   first | exact measI _ _ hlt | (simp [intOf]; omega)
  have r1 := rem2 k 1 hpar (by omega)
  simp only [Int.cast_ofNat_Int] at r1
  rw [hpar] at hb
  have w1 : IntKind.i64.wrap 8 = 8 := by decide
  have w2 : IntKind.u64.wrap 8 = 8 := by decide
  have r1b : binOp .rem 3 (.int .i64 (k : Int)) (.int .i64 2) = pure (.int .i64 1) := r1
  clear r1
  obtain ⟨Z, hZ⟩ := nm (Y / 256)
  have hsh : Op.shift .shr .u64 (Y : Int) .u64 8 = pure (.int .u64 (Z : Int)) := by
   rw [shift_shr _ _ _ _ (by decide) (by decide), hZ]; rfl
  obtain ⟨G, hG⟩ := nm (n / 256 ^ k % 256)
  rw [← hG] at hb hL
  have e3 := u8m Z
  have e4 : Z % 256 = G := by rw [← hb]; rw [hZ]
  rw [e4] at e3
  have e5 : (Y : Int) / 256 % 256 = (G : Int) := by rw [hZ] at e4; omega
  rw [hL] at hs
  have HJ := hDx hs
  clear hs hL hG hb e4 hpar
  go_upto_region 4 with (first | (with_reducible show Oper.wp _ _ _ _ _ _; refine wp_bin q1 rfl rfl rfl ?_) | (with_reducible show Oper.wp _ _ _ _ _ _; refine wp_bin r1b rfl rfl rfl ?_) | (with_reducible show Oper.wp _ _ _ _ _ _; refine wp_shift hsh (Or.inl rfl) rfl rfl rfl ?_))
  obtain ⟨ww4, hv4⟩ := nm (World.setCell wr ⟨B, k, none⟩ (.int .u8 ((G : Int))))
  have HK4 : Hid (KS [(B, .cells (lk .u8 (V.set k (G : Int))) 5), (A, .cells (lk .u64 (rw_ 16 (lim 65536 n))) 109)] [] w ww4) := by rw [hv4]; exact hDx (HK3.out.setK 0 rfl k ((G : Int)))
  rw [← hv4]
  clear hv4
  clear c0 c1 z0 q1 r1b hsh
  go_wp2_with fail
  go_roundw
  case rel =>
   exact ⟨k + 1, hlt, by first | rfl | go_num, by rw [← HJ.out]; exact HK4.out⟩
  first | exact measI _ _ hlt | (simp [intOf]; omega)
 obtain rfl : k = 32 := by omega
 try simp only [Int.cast_ofNat_Int]
 have hcv := (HK3.out.rk 0 rfl (upF_len _ _ _)).conv 32
 rw [show strOfNums (upF (leF n) 32 32) = leS n 32 from rfl] at hcv
 go_wp2_with fail
 go_ret
 exact ⟨rfl, HK3.out.below⟩
def adF (f g : Nat → Nat) (k j : Nat) : Nat := if j < k then f j + g j else wdF f 16 j
theorem adF_set (f g : Nat → Nat) (k : Nat) (hk : k < 16) : rw_ 32 (adF f g (k + 1)) = (rw_ 32 (adF f g k)).set k ((f k + g k : Nat) : Int) := by
 rw [rw_set]
 congr 1
 funext j
 unfold upd adF
 by_cases e : j = k
 ·subst e; rw [if_pos rfl, if_pos (by omega)]
 rw [if_neg e]
 by_cases e1 : j < k
 ·rw [if_pos e1, if_pos (by omega)]
 rw [if_neg e1, if_neg (by omega)]
theorem adF_at (f g : Nat → Nat) (k : Nat) (hk : k < 16) : adF f g k k = f k := by
 unfold adF wdF; rw [if_neg (by omega), if_pos hk]
theorem adF_zero (f g : Nat → Nat) : adF f g 0 = wdF f 16 := by funext j; unfold adF; rw [if_neg (by omega)]
theorem adF_bd {f g : Nat → Nat} (hf : Sml f) (hg : Sml g) : Bd (adF f g 16) := fun j hj => by
 unfold adF
 split
 ·rename_i h; have := hf j h; have := hg j h; omega
 ·unfold wdF; rw [if_neg (by omega)]; omega
theorem adF_v (f g : Nat → Nat) : vs 65536 (adF f g 16) 32 = vs 65536 f 16 + vs 65536 g 16 := by
 rw [vs_up (fun j h1 h2 => by unfold adF wdF; rw [if_neg (by omega), if_neg (by omega)])]
 have h := vs_lin 65536 1 f g 16
 rw [Nat.one_mul] at h
 rw [← h]
 exact vs_ext 16 fun j hj => by unfold adF; rw [if_pos hj, Nat.one_mul]
theorem add_iF {f g : Nat → Nat} (hf : Sml f) (hg : Sml g) {k : Nat} (hk : k < 16) : IntKind.u64.wrap ((f k : Int) + (g k : Int)) = ((f k + g k : Nat) : Int) := u64w (by omega) (by have := hf k hk; have := hg k hk; omega)
theorem radd_any (X Y : F) (w : World) : Calls Tryz.prog 55 #[numV X, numV Y] w fun e w' => e = .returned (numV (X + Y)) ∧ Below w.heap.size w w' := by
 obtain ⟨f, hf⟩ := nm (lim 65536 X.val)
 obtain ⟨g, hg⟩ := nm (lim 65536 Y.val)
 have sf : Sml f := by rw [hf]; exact lim_sml _
 have sg : Sml g := by rw [hg]; exact lim_sml _
 have hv : vs 65536 (adF f g 16) 32 = X.val + Y.val := by rw [adF_v, hf, hg, lim_v, lim_v]
 obtain ⟨VV, hVV⟩ := nm (numV (X + Y))
 have hV2 : Value.agg (lk .u64 (rw_ 16 (limP (vs 65536 (adF f g 16) 32)))) = VV := by rw [hVV, hv, numV_limP, fe_add, fe_F, fe_F]
 unfold numV
 rw [← hf, ← hg]
 rw [show Value.agg (lk .u64 (rw_ 16 (lim 65536 (X + Y).val))) = VV from hVV.symm]
 replace hV2 := hDx hV2
 have HB := hDx (And.intro sf sg)
 clear hf hg sf sg hv hVV
 go_enter Tryz.func55, Tryz.ntmps55
 have HK0 := hDx (KS.start w)
 go_upto_region 1 with (fail)
 have hm1 := (((HK0.out.made (.cells (lk .u64 (rw_ 16 f)) 109)).made (.cells (lk .u64 (rw_ 16 g)) 109)).made (.cells ZRu64x16 109))
 try rw [show ((World.alloc (World.alloc w (.cells (lk .u64 (rw_ 16 f)) 109)) (.cells (lk .u64 (rw_ 16 g)) 109))).heap.size = w.heap.size + 2 by simp] at hm1
 try rw [show ((World.alloc w (.cells (lk .u64 (rw_ 16 f)) 109))).heap.size = w.heap.size + 1 by simp] at hm1
 obtain ⟨R, hgR⟩ := nm (w.heap.size + 2)
 obtain ⟨B, hgB⟩ := nm (w.heap.size + 1)
 obtain ⟨A, hgA⟩ := nm w.heap.size
 obtain ⟨ww1, hv1⟩ := nm (World.alloc (World.alloc (World.alloc w (.cells (lk .u64 (rw_ 16 f)) 109)) (.cells (lk .u64 (rw_ 16 g)) 109)) (.cells ZRu64x16 109))
 rw [← hv1, ← hgR, ← hgB, ← hgA] at hm1
 rw [← hv1]
 try rw [← hgR]
 try rw [← hgB]
 try rw [← hgA]
 have HK1 : Hid (KS [(R, .cells (lk .u64 (zi 16)) 109), (B, .cells (lk .u64 (rw_ 16 g)) 109), (A, .cells (lk .u64 (rw_ 16 f)) 109)] [] w ww1) := hDx hm1
 clear hm1 hv1 hgA hgB hgR
 have FA := (HK1.out.rk 2 rfl (rw_len' _ _))
 go_wp2_with (with_reducible show wpList _ _ _ _ _ _; refine wpList_load_rk rfl _ rfl rfl FA ty109 ?_)
 refine (wide_any f _).mono ?_
 rintro e ww2 ⟨rfl, B1⟩
 simp only []
 have HK2 := hDx (HK1.out.call B1)
 clear B1
 clear FA
 have FH3 := rk_new ww2 134 32 .u64 (zi 32) (zi_len 32)
 go_upto_region 2 with (refine wpList_store_rk rfl _ _ rfl rfl rfl FH3 ty134 (rw_len' _ _) ?_)
 have hm3 := (HK2.out.made (.cells ZRu64x32 134)).setRow 0 rfl (lk .u64 (rw_ 32 (wdF f 16)))
 obtain ⟨T, hgT⟩ := nm ww2.heap.size
 obtain ⟨ww3, hv3⟩ := nm (World.setRow (World.alloc ww2 (.cells ZRu64x32 134)) ww2.heap.size (lk .u64 (rw_ 32 (wdF f 16))))
 rw [← hv3, ← hgT] at hm3
 rw [← hv3]
 try rw [← hgT]
 have HK3 : Hid (KS [(T, .cells (lk .u64 (rw_ 32 (wdF f 16))) 134), (R, .cells (lk .u64 (zi 16)) 109), (B, .cells (lk .u64 (rw_ 16 g)) 109), (A, .cells (lk .u64 (rw_ 16 f)) 109)] [] w ww3) := hDx hm3
 clear hm3 hv3 hgT
 rw [← adF_zero f g] at HK3
 go_upto_region 3 with fail
 go_loopw [6] (fun vS wr => ∃ k : Nat, k ≤ 16 ∧ vS = .int .i64 (k : Int) ∧ KS [(T, .cells (lk .u64 (rw_ 32 (adF f g k))) 134), (R, .cells (lk .u64 (zi 16)) 109), (B, .cells (lk .u64 (rw_ 16 g)) 109), (A, .cells (lk .u64 (rw_ 16 f)) 109)] [] w wr) (fun vS _ => 16 - (intOf vS).toNat)
 case atStart => exact ⟨0, Nat.zero_le _, rfl, HK3.out⟩
 obtain ⟨k, hk, rfl, HK⟩ := hrel
 have HK4 := hDx HK
 clear HK
 by_cases hlt : k < 16
 ·have hk1 : (0 : Int) ≤ k := by omega
  have hk2 : (k : Int) < 16 := by omega
  obtain ⟨hk3, hk4⟩ := i64w (x := (k : Int) + 1) (n := k + 1) (by omega) (by omega)
  have hk32 : k < 32 := by omega
  have hv32 : (k : Int) < 32 := by omega
  have c0 := (HK4.out.rk 0 rfl (rw_len' _ _)).cell k hk32
  rw [rw_at' _ _ _ hk32, adF_at f g k hlt] at c0
  have c1 := (HK4.out.rk 2 rfl (rw_len' _ _)).cell k hlt
  rw [rw_at' _ _ _ hlt] at c1
  have e1 := add_iF HB.out.1 HB.out.2 hlt
  have es := adF_set f g k hlt
  obtain ⟨p, hp⟩ := nm (f k)
  obtain ⟨q, hq⟩ := nm (g k)
  rw [← hp] at c0 e1 es
  rw [← hq] at c1 e1 es
  obtain ⟨S, hS⟩ := nm (p + q)
  rw [← hS] at e1 es
  obtain ⟨V, hV⟩ := nm (rw_ 32 (adF f g k))
  have lV : V.length = 32 := by rw [hV, rw_len']
  rw [← hV] at HK4
  rw [← hV] at es
  have z0 := (HK4.out.rk 0 rfl lV).fz
  have HJ := hDx es
  clear es hV hp hq hS
  go_upto_region 5 with fail
  go_still_tail 9, (by kernel_rfl)
  go_upto_region 4 with fail
  obtain ⟨ww5, hv5⟩ := nm (World.drew (World.setCell wr ⟨T, k, none⟩ (.int .u64 ((S : Int)))))
  have HK5 : Hid (KS [(T, .cells (lk .u64 (V.set k (S : Int))) 134), (R, .cells (lk .u64 (zi 16)) 109), (B, .cells (lk .u64 (rw_ 16 g)) 109), (A, .cells (lk .u64 (rw_ 16 f)) 109)] [] w ww5) := by rw [hv5]; exact hDx ((HK4.out.setK 0 rfl k ((S : Int))).drew)
  rw [← hv5]
  clear hv5
  clear c0 c1 z0 e1
  go_wp2_with fail
  go_roundw
  case rel =>
   exact ⟨k + 1, hlt, by first | rfl | go_num, by rw [HJ.out]; exact HK5.out⟩
  first | exact measI _ _ hlt | (simp [intOf]; omega)
 obtain rfl : k = 16 := by omega
 try simp only [Int.cast_ofNat_Int]
 have FT := (HK4.out.rk 0 rfl (rw_len' _ _))
 go_wp2_with (with_reducible show wpList _ _ _ _ _ _; refine wpList_load_rk rfl _ rfl rfl FT ty134 ?_)
 refine (reduce_any _ (adF_bd HB.out.1 HB.out.2) _).mono ?_
 rintro e ww5 ⟨rfl, B1⟩
 simp only []
 have HK5 := hDx (HK4.out.call B1)
 clear B1
 clear FT
 obtain ⟨V, hV⟩ := nm (rw_ 16 (limP (vs 65536 (adF f g 16) 32)))
 have lV : V.length = 16 := by rw [hV, rw_len']
 have hV3 : Value.agg (lk .u64 V) = VV := by rw [hV]; exact hV2.out
 rw [← hV]
 replace hV3 := hDx hV3
 clear hV
 have FR := (HK5.out.rk 1 rfl (zi_len 16))
 go_wp2_with (with_reducible show wpList _ _ _ _ _ _; refine wpList_store_rk rfl _ _ rfl rfl rfl FR ty109 lV ?_)
 have KE := HK5.out.setRow 1 rfl (lk .u64 V)
 try simp only [Exit.inBlock, Exit.then]
 refine bodyPost_ret (results_rk (p := 4) (by kernel_rfl) (by rfl) (KE.rk 1 rfl lV) ty109) rfl ?_
 exact ⟨by rw [hV3.out], KE.below⟩
end
end Go.Proofs.YtoplbfijodebmaaGreatDoor
