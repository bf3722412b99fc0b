/-
  The walk.
-/
import Derived.Test.YtoplbfijodebmaaGreatDoorM25RG
set_option linter.unusedVariables false
set_option linter.unusedSimpArgs false
set_option maxRecDepth 100000
set_option maxHeartbeats 40000000
namespace Go.Proofs.YtoplbfijodebmaaGreatDoor
def gC (b : Nat) (f : Nat → Nat) : Nat → Nat
 | 0 => 0
 | k + 1 => (f k + gC b f k) / b
def gF (b : Nat) (f : Nat → Nat) (k j : Nat) : Nat := if j < k then (f j + gC b f j) % b else f j
theorem gF_lt {b : Nat} (hb : 0 < b) (f : Nat → Nat) {k j : Nat} (h : j < k) : gF b f k j < b := by
 unfold gF; rw [if_pos h]; exact Nat.mod_lt _ hb
theorem gF_upd (b : Nat) (f : Nat → Nat) (k : Nat) : upd (gF b f k) k ((f k + gC b f k) % b) = gF b f (k + 1) := by
 funext j
 unfold upd gF
 by_cases e : j = k
 ·subst e; rw [if_pos rfl, if_pos (by omega)]
 rw [if_neg e]
 by_cases e1 : j < k
 ·rw [if_pos e1, if_pos (by omega)]
 rw [if_neg e1, if_neg (by omega)]
theorem gF_zero (b : Nat) (f : Nat → Nat) : gF b f 0 = f := by
 funext j; unfold gF; rw [if_neg (by omega)]
theorem gF_at (b : Nat) (f : Nat → Nat) (k : Nat) : gF b f k k = f k := by
 unfold gF; rw [if_neg (by omega)]
theorem gF_v (b : Nat) (f : Nat → Nat) : ∀ n, vs b (gF b f n) n + b ^ n * gC b f n = vs b f n
 | 0 => by simp [vs, gC]
 | n + 1 => by
  have ih := gF_v b f n
  have h1 : vs b (gF b f (n + 1)) n = vs b (gF b f n) n := vs_ext n fun j hj => by unfold gF; rw [if_pos (by omega), if_pos hj]
  have h2 : gF b f (n + 1) n = (f n + gC b f n) % b := by unfold gF; rw [if_pos (by omega)]
  rw [vs, vs, h1, h2, gC, Nat.pow_succ]
  have h3 : (f n + gC b f n) % b * b ^ n + b ^ n * b * ((f n + gC b f n) / b) = (f n + gC b f n) * b ^ n := by
   have e := Nat.mod_add_div (f n + gC b f n) b
   generalize hz : f n + gC b f n = z at e
   calc z % b * b ^ n + b ^ n * b * (z / b) = (z % b + b * (z / b)) * b ^ n := by rw [Nat.add_mul, Nat.mul_comm (b ^ n) b, Nat.mul_assoc b, Nat.mul_assoc b, Nat.mul_comm (b ^ n)]
    _ = z * b ^ n := by rw [e]
  rw [Nat.add_mul, Nat.mul_comm (gC b f n)] at h3
  generalize (f n + gC b f n) % b * b ^ n = A at h3 ⊢
  generalize b ^ n * b * ((f n + gC b f n) / b) = B at h3 ⊢
  generalize f n * b ^ n = C at h3 ⊢
  generalize b ^ n * gC b f n = D at ih h3
  omega
theorem gC_le {b n M C : Nat} {f : Nat → Nat} (hf : ∀ j, j < n → f j ≤ M) (hc : (M + C) / b ≤ C) : ∀ k, k ≤ n → gC b f k ≤ C
 | 0, _ => Nat.zero_le _
 | k + 1, h => by
  have h1 := hf k (by omega)
  have h2 := gC_le hf hc k (by omega)
  exact Nat.le_trans (Nat.div_le_div_right (by omega)) hc
theorem gF_lim {b : Nat} (hb : 0 < b) (f : Nat → Nat) {n j : Nat} (hj : j < n) : gF b f n j = lim b (vs b f n) j := by
 rw [← gF_v b f n, ← lim_vs (f := gF b f n) hb n j (fun i hi => gF_lt hb f hi) hj]
 obtain ⟨m, rfl⟩ : ∃ m, n = j + 1 + m := ⟨n - (j + 1), by omega⟩
 unfold lim
 rw [Nat.pow_add, Nat.pow_succ, Nat.mul_assoc, Nat.mul_assoc, Nat.add_mul_div_left _ _ (Nat.pow_pos hb), Nat.add_mul_mod_self_left]
theorem vs_le {b M : Nat} {f : Nat → Nat} (hb : 2 ≤ b) : ∀ n, (∀ j, j < n → f j ≤ M) → vs b f n + M ≤ M * b ^ n
 | 0, _ => by simp [vs]
 | n + 1, h => by
  have h1 := vs_le hb n (fun j hj => h j (by omega))
  have h2 := h n (by omega)
  have h3 : f n * b ^ n ≤ M * b ^ n := Nat.mul_le_mul_right _ h2
  rw [vs, Nat.pow_succ, ← Nat.mul_assoc]
  have h4 : M * b ^ n * 2 ≤ M * b ^ n * b := Nat.mul_le_mul_left _ hb
  omega
theorem vs_five (b : Nat) (f : Nat → Nat) : vs b f 5 = f 0 + f 1 * b + f 2 * b ^ 2 + f 3 * b ^ 3 + f 4 * b ^ 4 := by
 simp [vs]
def Q : Nat := 1361129467683753853853498429727072845819
def p1 (f : Nat → Nat) : Nat → Nat := upd (gF 67108864 f 5) 0 (gF 67108864 f 5 0 + 5 * gC 67108864 f 5)
theorem p1_v (f : Nat → Nat) : vs 67108864 (p1 f) 5 + Q * gC 67108864 f 5 = vs 67108864 f 5 := by
 have h := gF_v 67108864 f 5
 unfold p1
 rw [vs_upd0 67108864 _ _ 4, ← h, show (67108864 : Nat) ^ 5 = Q + 5 by decide +kernel, Nat.add_mul, show 4 + 1 = 5 from rfl]
 omega
theorem p1_mod (f : Nat → Nat) : vs 67108864 (p1 f) 5 % Q = vs 67108864 f 5 % Q := by
 rw [← p1_v f, Nat.add_mul_mod_self_left]
theorem p1_hi (f : Nat → Nat) (j : Nat) (h0 : 1 ≤ j) (hj : j < 5) : p1 f j < 67108864 := by
 unfold p1 upd
 rw [if_neg (by omega)]
 exact gF_lt (by decide) f hj
theorem p1_lo (f : Nat → Nat) : p1 f 0 ≤ 67108863 + 5 * gC 67108864 f 5 := by
 have := gF_lt (b := 67108864) (by decide) f (k := 5) (j := 0) (by decide)
 unfold p1 upd
 rw [if_pos rfl]
 omega
def Nc (f : Nat → Nat) : Prop := f 0 ≤ 67108868 ∧ ∀ j, 1 ≤ j → j < 5 → f j < 67108864
theorem Nc.le {f : Nat → Nat} (h : Nc f) : ∀ j, j < 5 → f j ≤ 67108868 := fun j hj => by
 by_cases e : j = 0
 ·subst e; exact h.1
 ·have := h.2 j (by omega) hj; omega
theorem p1_nc {f : Nat → Nat} (h0 : f 0 ≤ 137438953472) (h : ∀ j, 1 ≤ j → j < 5 → f j < 67108864) : Nc (p1 f) := by
 refine ⟨?_, fun j h1 h2 => p1_hi f j h1 h2⟩
 have h1 := p1_lo f
 have a1 := h 1 (by decide) (by decide)
 have a2 := h 2 (by decide) (by decide)
 have a3 := h 3 (by decide) (by decide)
 have a4 := h 4 (by decide) (by decide)
 have e1 : gC 67108864 f 1 = (f 0 + 0) / 67108864 := rfl
 have e2 : gC 67108864 f 2 = (f 1 + gC 67108864 f 1) / 67108864 := rfl
 have e3 : gC 67108864 f 3 = (f 2 + gC 67108864 f 2) / 67108864 := rfl
 have e4 : gC 67108864 f 4 = (f 3 + gC 67108864 f 3) / 67108864 := rfl
 have e5 : gC 67108864 f 5 = (f 4 + gC 67108864 f 4) / 67108864 := rfl
 omega
def big : Nat := 576460752303423488
def car (f : Nat → Nat) : Nat → Nat := p1 (p1 f)
theorem p1_c {f : Nat → Nat} (hf : ∀ j, j < 5 → f j ≤ 576460752303423488) : ∀ k, k ≤ 5 → gC 67108864 f k ≤ 17179869184 :=
 gC_le hf (by decide)
theorem p1_big {f : Nat → Nat} (hf : ∀ j, j < 5 → f j ≤ 576460752303423488) : p1 f 0 ≤ 137438953472 ∧ (∀ j, 1 ≤ j → j < 5 → p1 f j < 67108864) ∧ ∀ j, j < 5 → p1 f j ≤ 576460752303423488 := by
 have h1 := p1_lo f
 have h2 := p1_c hf 5 (Nat.le_refl _)
 refine ⟨by omega, fun j a b => p1_hi f j a b, fun j hj => ?_⟩
 by_cases e : j = 0
 ·subst e; omega
 have := p1_hi f j (by omega) hj; omega
theorem car_nc {f : Nat → Nat} (hf : ∀ j, j < 5 → f j ≤ 576460752303423488) : Nc (car f) := p1_nc (p1_big hf).1 (p1_big hf).2.1
theorem car_mod (f : Nat → Nat) : vs 67108864 (car f) 5 % Q = vs 67108864 f 5 % Q := by rw [car, p1_mod, p1_mod]
theorem nc_small {f : Nat → Nat} (h : Nc f) : ∀ j, j < 5 → p1 f j < 67108864 := by
 have hb := gF_v 67108864 f 5
 have hx : ∀ j, j < 5 → gF 67108864 f 5 j < 67108864 := fun j hj => gF_lt (by decide) f hj
 intro j hj
 by_cases e : j = 0
 ·subst e
  have e0 : p1 f 0 = gF 67108864 f 5 0 + 5 * gC 67108864 f 5 := by unfold p1 upd; rw [if_pos rfl]
  rw [e0]
  rw [vs_five, vs_five] at hb
  have h0 := h.1
  have a1 := h.2 1 (by decide) (by decide)
  have a2 := h.2 2 (by decide) (by decide)
  have a3 := h.2 3 (by decide) (by decide)
  have a4 := h.2 4 (by decide) (by decide)
  have x0 := hx 0 (by decide)
  simp only [Nat.reducePow] at hb
  omega
 exact p1_hi f j (by omega) hj
theorem p1_fix {f : Nat → Nat} (h : ∀ j, j < 5 → f j < 67108864) : ∀ j, j < 5 → p1 f j = f j := by
 have hl := vs_lt (b := 67108864) (by decide) 5 h
 have hv := gF_v 67108864 f 5
 have hc : gC 67108864 f 5 = 0 := by
  generalize gC 67108864 f 5 = c at hv
  generalize vs 67108864 (gF 67108864 f 5) 5 = x at hv
  simp only [Nat.reducePow] at hv hl
  omega
 intro j hj
 have e := gF_lim (b := 67108864) (by decide) f hj
 rw [lim_vs (by decide) 5 j h hj] at e
 unfold p1 upd
 rw [hc]
 split
 ·rename_i e2; subst e2; rw [e]; rfl
 exact e
theorem p1_fixf {f g : Nat → Nat} (h : ∀ j, j < 5 → f j = g j) : ∀ j, j < 5 → p1 f j = p1 g j := by
 have hc : ∀ k, k ≤ 5 → gC 67108864 f k = gC 67108864 g k := by
  intro k
  induction k with
  | zero => intro _; rfl
  | succ k ih => intro hk; rw [gC, gC, ih (by omega), h k (by omega)]
 have hg : ∀ j, j < 5 → gF 67108864 f 5 j = gF 67108864 g 5 j := fun j hj => by unfold gF; rw [if_pos hj, if_pos hj, h j hj, hc j (by omega)]
 intro j hj
 unfold p1 upd
 split
 ·rw [hg 0 (by decide), hc 5 (Nat.le_refl _)]
 exact hg j hj
theorem p1_fix3 {f : Nat → Nat} (h : ∀ j, j < 5 → f j < 67108864) : ∀ j, j < 5 → p1 (p1 (p1 f)) j = f j := fun j hj => by
 have h1 := p1_fix h
 rw [p1_fixf (p1_fixf h1) j hj, p1_fixf h1 j hj, h1 j hj]
def plus5 (f : Nat → Nat) : Nat → Nat := upd f 0 (f 0 + 5)
theorem p5_v (f : Nat → Nat) : vs 67108864 (plus5 f) 5 = vs 67108864 f 5 + 5 := vs_upd0 67108864 f 5 4
theorem p5_le {f : Nat → Nat} (h : ∀ j, j < 5 → f j < 67108864) : ∀ j, j < 5 → plus5 f j ≤ 576460752303423488 := fun j hj => by
 have h0 := h 0 (by decide)
 have h1 := h j hj
 unfold plus5 upd
 split <;> omega
theorem red_yes {f : Nat → Nat} (h : ∀ j, j < 5 → f j < 67108864) (hc : 0 < gC 67108864 (plus5 f) 5) (j : Nat) (hj : j < 5) : gF 67108864 (plus5 f) 5 j = lim 67108864 (vs 67108864 f 5 % Q) j := by
 have hl := vs_lt (b := 67108864) (by decide) 5 h
 have hv := gF_v 67108864 (plus5 f) 5
 have hx := vs_lt (b := 67108864) (f := gF 67108864 (plus5 f) 5) (by decide) 5 (fun j hj => gF_lt (by decide) _ hj)
 rw [← lim_vs (f := gF 67108864 (plus5 f) 5) (b := 67108864) (by decide) 5 j (fun j hj => gF_lt (by decide) _ hj) hj]
 congr 1
 rw [p5_v] at hv
 generalize gC 67108864 (plus5 f) 5 = c at hv hc
 generalize vs 67108864 (gF 67108864 (plus5 f) 5) 5 = x at hv hx ⊢
 generalize vs 67108864 f 5 = y at hv hl ⊢
 simp only [Nat.reducePow] at hv hl hx
 have hc1 : c = 1 := by omega
 subst hc1
 have hq : Q ≤ y := by unfold Q; omega
 rw [Nat.mod_eq_sub_mod hq, Nat.mod_eq_of_lt (by unfold Q; omega)]
 unfold Q
 omega
theorem red_no {f : Nat → Nat} (h : ∀ j, j < 5 → f j < 67108864) (hc : ¬ 0 < gC 67108864 (plus5 f) 5) (j : Nat) (hj : j < 5) : f j = lim 67108864 (vs 67108864 f 5 % Q) j := by
 have hl := vs_lt (b := 67108864) (by decide) 5 h
 have hv := gF_v 67108864 (plus5 f) 5
 have hx := vs_lt (b := 67108864) (f := gF 67108864 (plus5 f) 5) (by decide) 5 (fun j hj => gF_lt (by decide) _ hj)
 rw [p5_v] at hv
 have hlt : vs 67108864 f 5 < Q := by
  unfold Q
  generalize gC 67108864 (plus5 f) 5 = c at hv hc
  generalize vs 67108864 (gF 67108864 (plus5 f) 5) 5 = x at hv hx
  generalize vs 67108864 f 5 = y at hv hl ⊢
  simp only [Nat.reducePow] at hv hl hx
  omega
 rw [Nat.mod_eq_of_lt hlt]
 exact (lim_vs (by decide) 5 j h hj).symm
def tmF (f g : Nat → Nat) : Nat → Nat → Nat
 | 0 => fun _ => 0
 | t + 1 => upd (tmF f g t) ((t / 5 + t % 5) % 5) (tmF f g t ((t / 5 + t % 5) % 5) + f (t / 5) * (if 5 ≤ t / 5 + t % 5 then g (t % 5) * 5 else g (t % 5)))
theorem tmF_le {f g : Nat → Nat} (hf : ∀ j, j < 5 → f j ≤ 67108868) (hg : ∀ j, j < 5 → g j ≤ 67108864) : ∀ t, t ≤ 25 → ∀ j, tmF f g t j ≤ t * 22517999613648896
 | 0, _, _ => by simp [tmF]
 | t + 1, h, j => by
  have ih := tmF_le hf hg t (by omega)
  have h1 := hf (t / 5) (by omega)
  have h2 := hg (t % 5) (Nat.mod_lt _ (by decide))
  have h3 : f (t / 5) * (if 5 ≤ t / 5 + t % 5 then g (t % 5) * 5 else g (t % 5)) ≤ 67108868 * (67108864 * 5) := Nat.mul_le_mul h1 (by split <;> omega)
  rw [tmF]
  unfold upd
  split
  ·have := ih ((t / 5 + t % 5) % 5); omega
  ·exact Nat.le_trans (ih j) (Nat.mul_le_mul_right _ (Nat.le_succ t))
theorem tmF_big {f g : Nat → Nat} (hf : ∀ j, j < 5 → f j ≤ 67108868) (hg : ∀ j, j < 5 → g j ≤ 67108864) (j : Nat) : tmF f g 25 j ≤ 576460752303423488 :=
 Nat.le_trans (tmF_le hf hg 25 (Nat.le_refl _) j) (by omega)
theorem tmF_v (f g : Nat → Nat) (i : Nat) (hi : i < 5) (h0 : ∃ z, vs 67108864 (tmF f g (5 * i)) 5 + Q * z = vs 67108864 f i * vs 67108864 g 5) : ∀ k, k ≤ 5 → ∃ z, vs 67108864 (tmF f g (5 * i + k)) 5 + Q * z = vs 67108864 f i * vs 67108864 g 5 + f i * 67108864 ^ i * vs 67108864 g k
 | 0, _ => by rw [Nat.add_zero, vs, Nat.mul_zero, Nat.add_zero]; exact h0
 | k + 1, h => by
  obtain ⟨z, hz⟩ := tmF_v f g i hi h0 k (by omega)
  rw [← Nat.add_assoc, tmF, show (5 * i + k) / 5 = i by omega, show (5 * i + k) % 5 = k by omega, vs_updk _ _ _ _ 5 (Nat.mod_lt _ (by decide)), show vs 67108864 g (k + 1) = vs 67108864 g k + g k * 67108864 ^ k from rfl, Nat.mul_add, ← Nat.add_assoc, ← hz]
  by_cases hb : 5 ≤ i + k
  ·rw [if_pos hb, show (i + k) % 5 = i + k - 5 by omega]
   refine ⟨z + f i * g k * 67108864 ^ (i + k - 5), ?_⟩
   have e : 67108864 ^ i * 67108864 ^ k = (Q + 5) * 67108864 ^ (i + k - 5) := by
    rw [← Nat.pow_add, show (Q + 5) = 67108864 ^ 5 by decide +kernel, ← Nat.pow_add, show 5 + (i + k - 5) = i + k by omega]
   have e2 : f i * 67108864 ^ i * (g k * 67108864 ^ k) = f i * g k * ((Q + 5) * 67108864 ^ (i + k - 5)) := by
    rw [← e]
    generalize 67108864 ^ i = x
    generalize 67108864 ^ k = y
    grind
   rw [e2]
   generalize 67108864 ^ (i + k - 5) = x
   generalize f i = p
   generalize g k = q
   generalize vs 67108864 (tmF f g (5 * i + k)) 5 = v
   grind
  ·rw [if_neg hb, show (i + k) % 5 = i + k by omega]
   refine ⟨z, ?_⟩
   rw [Nat.pow_add]
   generalize 67108864 ^ i = x
   generalize 67108864 ^ k = y
   generalize f i = p
   generalize g k = q
   generalize vs 67108864 (tmF f g (5 * i + k)) 5 = v
   grind
theorem tmF_all (f g : Nat → Nat) : ∀ i, i ≤ 5 → ∃ z, vs 67108864 (tmF f g (5 * i)) 5 + Q * z = vs 67108864 f i * vs 67108864 g 5
 | 0, _ => ⟨0, by
   have e : vs 67108864 (tmF f g (5 * 0)) 5 = 0 := vs_zero 67108864 _ 5 (fun _ _ => rfl)
   rw [e, show vs 67108864 f 0 = 0 from rfl, Nat.zero_mul, Nat.mul_zero Q]⟩
 | i + 1, h => by
  have h1 := tmF_v f g i (by omega) (tmF_all f g i (by omega)) 5 (Nat.le_refl _)
  rw [show 5 * (i + 1) = 5 * i + 5 by omega, show vs 67108864 f (i + 1) = vs 67108864 f i + f i * 67108864 ^ i from rfl, Nat.add_mul]
  exact h1
theorem tmF_mod (f g : Nat → Nat) : vs 67108864 (tmF f g 25) 5 % Q = vs 67108864 f 5 * vs 67108864 g 5 % Q := by
 obtain ⟨z, hz⟩ := tmF_all f g 5 (Nat.le_refl _)
 rw [← hz, Nat.add_mul_mod_self_left]
theorem or_part (a c m : Nat) (hm : m ≤ 26) (ha : a < 2 ^ m) : a ||| (c * 2 ^ m) % 67108864 = a + (c * 2 ^ m) % 67108864 := by
 have e : (c * 2 ^ m) % 67108864 = 2 ^ m * (c % 2 ^ (26 - m)) := by
  rw [show (67108864 : Nat) = 2 ^ m * 2 ^ (26 - m) by rw [← Nat.pow_add, show m + (26 - m) = 26 by omega], Nat.mul_comm c, Nat.mul_mod_mul_left]
 rw [e, Nat.or_comm, ← Nat.two_pow_add_eq_or_of_lt ha, Nat.add_comm]
def ofU (c i : Nat) (f : Nat → Nat) : Nat → Nat :=
 let f1 := upd f (8 * i / 26) (f (8 * i / 26) ||| (c * 2 ^ (8 * i % 26)) % 67108864)
 if 18 < 8 * i % 26 ∧ 8 * i / 26 < 4 then upd f1 (8 * i / 26 + 1) (f1 (8 * i / 26 + 1) ||| c / 2 ^ (26 - 8 * i % 26)) else f1
theorem ofU_lim (V c i : Nat) (hi : i ≤ 16) (hV : V < 256 ^ i) (hc : c < 256) (h16 : i = 16 → c ≤ 1) (j : Nat) (hj : j < 5) : ofU c i (lim 67108864 V) j = lim 67108864 (V + c * 256 ^ i) j := by
 have key : lim 67108864 V (8 * i / 26) < 2 ^ (8 * i % 26) := by
  unfold lim
  refine Nat.lt_of_le_of_lt (Nat.mod_le _ _) (Nat.div_lt_of_lt_mul ?_)
  refine Nat.lt_of_lt_of_le hV (Nat.le_of_eq ?_)
  rw [show (256 : Nat) = 2 ^ 8 from rfl, show (67108864 : Nat) = 2 ^ 26 from rfl, ← Nat.pow_mul, ← Nat.pow_mul, ← Nat.pow_add]
  congr 1
  omega
 have z : lim 67108864 V (8 * i / 26 + 1) = 0 := by
  unfold lim
  have : V / 67108864 ^ (8 * i / 26 + 1) = 0 := by
   refine Nat.div_eq_of_lt (Nat.lt_of_lt_of_le hV ?_)
   rw [show (256 : Nat) = 2 ^ 8 from rfl, show (67108864 : Nat) = 2 ^ 26 from rfl, ← Nat.pow_mul, ← Nat.pow_mul]
   exact Nat.pow_le_pow_right (by decide) (by omega)
  rw [this]
 unfold ofU
 rw [or_part _ _ _ (by omega) key]
 have e1 : upd (lim 67108864 V) (8 * i / 26) (lim 67108864 V (8 * i / 26) + c * 2 ^ (8 * i % 26) % 67108864) (8 * i / 26 + 1) = 0 := by
  unfold upd; rw [if_neg (by omega), z]
 rw [e1, Nat.zero_or]
 clear key z e1
 have hi' : i = 0 ∨ i = 1 ∨ i = 2 ∨ i = 3 ∨ i = 4 ∨ i = 5 ∨ i = 6 ∨ i = 7 ∨ i = 8 ∨ i = 9 ∨ i = 10 ∨ i = 11 ∨ i = 12 ∨ i = 13 ∨ i = 14 ∨ i = 15 ∨ i = 16 := by omega
 have hj' : j = 0 ∨ j = 1 ∨ j = 2 ∨ j = 3 ∨ j = 4 := by omega
 unfold upd lim
 clear hi hj
 rcases hi' with rfl | rfl | rfl | rfl | rfl | rfl | rfl | rfl | rfl | rfl | rfl | rfl | rfl | rfl | rfl | rfl | rfl <;> rcases hj' with rfl | rfl | rfl | rfl | rfl <;> simp only [Nat.reducePow, Nat.reduceMul, Nat.reduceDiv, Nat.reduceMod, Nat.reduceLT, Nat.reduceAdd, Nat.reduceSub, Nat.reduceEqDiff, if_true, if_false, and_self, and_true, true_and, and_false, false_and, Nat.reduceLeDiff] at hV h16 ⊢ <;> omega
def byU (h : Nat → Nat) (i : Nat) : Nat :=
 if 18 < 8 * i % 26 then h (8 * i / 26) / 2 ^ (8 * i % 26) ||| h (8 * i / 26 + 1) * 2 ^ (26 - 8 * i % 26) else h (8 * i / 26) / 2 ^ (8 * i % 26)
theorem byU_lim {h : Nat → Nat} (hh : ∀ j, j < 5 → h j < 67108864) (i : Nat) (hi : i < 16) : byU h i % 256 = lim 256 (vs 67108864 h 5) i := by
 have a0 := hh 0 (by decide)
 have a1 := hh 1 (by decide)
 have a2 := hh 2 (by decide)
 have a3 := hh 3 (by decide)
 have a4 := hh 4 (by decide)
 have e : byU h i = if 18 < 8 * i % 26 then h (8 * i / 26) / 2 ^ (8 * i % 26) + h (8 * i / 26 + 1) * 2 ^ (26 - 8 * i % 26) else h (8 * i / 26) / 2 ^ (8 * i % 26) := by
  unfold byU
  split
  ·have : h (8 * i / 26) / 2 ^ (8 * i % 26) < 2 ^ (26 - 8 * i % 26) := by
    refine Nat.div_lt_of_lt_mul ?_
    rw [← Nat.pow_add, show 8 * i % 26 + (26 - 8 * i % 26) = 26 by omega]
    exact hh _ (by omega)
   rw [Nat.or_comm, Nat.mul_comm, ← Nat.two_pow_add_eq_or_of_lt this, Nat.add_comm]
  ·rfl
 rw [e, vs_five]
 unfold lim
 have hi' : i = 0 ∨ i = 1 ∨ i = 2 ∨ i = 3 ∨ i = 4 ∨ i = 5 ∨ i = 6 ∨ i = 7 ∨ i = 8 ∨ i = 9 ∨ i = 10 ∨ i = 11 ∨ i = 12 ∨ i = 13 ∨ i = 14 ∨ i = 15 := by omega
 clear hi hh e
 rcases hi' with rfl | rfl | rfl | rfl | rfl | rfl | rfl | rfl | rfl | rfl | rfl | rfl | rfl | rfl | rfl | rfl <;> simp only [Nat.reducePow, Nat.reduceMul, Nat.reduceDiv, Nat.reduceMod, Nat.reduceLT, Nat.reduceAdd, Nat.reduceSub, if_true, if_false] <;> omega
def topR (f : Nat → Nat) : Nat := gF 256 f 18 16 / 4 + gF 256 f 18 17 * 64 + gC 256 f 18 * 16384
def s1 (f : Nat → Nat) : Nat → Nat := upd (upd (upd (gF 256 f 18) 16 (gF 256 f 18 16 % 4)) 17 0) 0 (gF 256 f 18 0 + 5 * topR f)
def rho (V : Nat) : Nat := V % 1361129467683753853853498429727072845824 + 5 * (V / 1361129467683753853853498429727072845824)
theorem rho_mod (V : Nat) : rho V % Q = V % Q := by
 have e : V = rho V + Q * (V / 1361129467683753853853498429727072845824) := by
  have := Nat.mod_add_div V 1361129467683753853853498429727072845824
  unfold rho Q
  omega
 conv => rhs; rw [e, Nat.add_mul_mod_self_left]
theorem s1_v (f : Nat → Nat) : vs 256 (s1 f) 18 = rho (vs 256 f 18) ∧ topR f = vs 256 f 18 / 1361129467683753853853498429727072845824 := by
 have h := gF_v 256 f 18
 have hl := vs_lt (b := 256) (f := gF 256 f 18) (by decide) 16 (fun j hj => gF_lt (by decide) f (by omega))
 have h16 := gF_lt (b := 256) (by decide) f (k := 18) (j := 16) (by decide)
 have h17 := gF_lt (b := 256) (by decide) f (k := 18) (j := 17) (by decide)
 have e : vs 256 (gF 256 f 18) 18 = vs 256 (gF 256 f 18) 16 + gF 256 f 18 16 * 256 ^ 16 + gF 256 f 18 17 * 256 ^ 17 := rfl
 rw [e] at h
 have e2 : vs 256 (s1 f) 18 = vs 256 (gF 256 f 18) 16 + gF 256 f 18 16 % 4 * 256 ^ 16 + 5 * topR f := by
  have x : s1 f = upd (upd (upd (gF 256 f 18) 16 (gF 256 f 18 16 % 4)) 17 0) 0 ((upd (upd (gF 256 f 18) 16 (gF 256 f 18 16 % 4)) 17 0) 0 + 5 * topR f) := rfl
  rw [x, vs_upd0 256 _ _ 17]
  have y : vs 256 (upd (upd (gF 256 f 18) 16 (gF 256 f 18 16 % 4)) 17 0) (17 + 1) = vs 256 (upd (gF 256 f 18) 16 (gF 256 f 18 16 % 4)) 17 + 0 * 256 ^ 17 := by
   rw [vs, vs_upd 17 (Nat.le_refl _)]
   rfl
  have z : vs 256 (upd (gF 256 f 18) 16 (gF 256 f 18 16 % 4)) 17 = vs 256 (gF 256 f 18) 16 + gF 256 f 18 16 % 4 * 256 ^ 16 := by
   rw [show (17 : Nat) = 16 + 1 from rfl, vs, vs_upd 16 (Nat.le_refl _)]
   rfl
  rw [y, z, Nat.zero_mul, Nat.add_zero]
 rw [e2]
 unfold rho topR
 generalize vs 256 (gF 256 f 18) 16 = a at h hl ⊢
 generalize gF 256 f 18 16 = b at h h16 ⊢
 generalize gF 256 f 18 17 = c at h h17 ⊢
 generalize gC 256 f 18 = d at h ⊢
 rw [← h]
 simp only [Nat.reducePow] at hl ⊢
 omega
def Bq (f : Nat → Nat) : Prop := (∀ j, j < 18 → f j ≤ 536870912) ∧ vs 256 f 18 < 91343852333181432387730302044767688728495783936
theorem Bq.c {f : Nat → Nat} (h : Bq f) : ∀ k, k ≤ 18 → gC 256 f k ≤ 4194304 := gC_le h.1 (by decide)
theorem s1_le (f : Nat → Nat) (h : topR f ≤ 67108864) : ∀ j, j < 18 → s1 f j ≤ 536870912 := fun j hj => by
 have h0 := gF_lt (b := 256) (by decide) f (k := 18) (j := 0) (by decide)
 have h1 := gF_lt (b := 256) (by decide) f (k := 18) hj
 unfold s1 upd
 repeat' split
 all_goals omega
theorem Bq.top {f : Nat → Nat} (h : Bq f) : topR f ≤ 67108864 := by
 rw [(s1_v f).2]
 have := h.2
 omega
theorem s1_bq {f : Nat → Nat} (h : Bq f) : Bq (s1 f) := by
 refine ⟨s1_le f h.top, ?_⟩
 rw [(s1_v f).1]
 have := h.2
 unfold rho
 omega
theorem rho3 (V : Nat) (h : V < 91343852333181432387730302044767688728495783936) : rho (rho (rho V)) < 1361129467683753853853498429727072845824 := by
 have h1 : rho V < 1361129467683753853853498429727072845824 + 536870912 := by unfold rho; omega
 have h2 : rho (rho V) < 1361129467683753853853498429727072845824 := by
  generalize rho V = x at h1
  unfold rho; omega
 generalize rho (rho V) = x at h2
 unfold rho; omega
def cN (f : Nat → Nat) : Nat := rho (rho (rho (vs 256 f 18)))
theorem cN_lt {f : Nat → Nat} (h : Bq f) : cN f < 1361129467683753853853498429727072845824 := rho3 _ h.2
theorem cN_mod (f : Nat → Nat) : cN f % Q = vs 256 f 18 % Q := by unfold cN; rw [rho_mod, rho_mod, rho_mod]
theorem cN_v (f : Nat → Nat) : vs 256 (s1 (s1 (s1 f))) 18 = cN f := by
 rw [(s1_v _).1, (s1_v _).1, (s1_v _).1]; rfl
theorem cN_lim (f : Nat → Nat) (j : Nat) (hj : j < 18) : gF 256 (s1 (s1 (s1 f))) 18 j = lim 256 (cN f) j := by
 rw [gF_lim (by decide) _ hj, cN_v]
theorem vs_lim18 {n : Nat} (h : n < 1361129467683753853853498429727072845824) : vs 256 (lim 256 n) 18 = n := by
 rw [vs_lim, Nat.mod_eq_of_lt (Nat.lt_trans h (by decide))]
theorem Bq.of {f : Nat → Nat} (h : ∀ j, j < 18 → f j ≤ 2000) : Bq f := by
 refine ⟨fun j hj => Nat.le_trans (h j hj) (by decide), ?_⟩
 have := vs_le (b := 256) (by decide) 18 h
 generalize vs 256 f 18 = x at this ⊢
 simp only [Nat.reducePow] at this
 omega
def tmR (f g : Nat → Nat) : Nat → Nat → Nat
 | 0 => fun _ => 0
 | t + 1 => upd (tmR f g t) (t / 18 + t % 18) (tmR f g t (t / 18 + t % 18) + f (t / 18) * g (t % 18))
theorem tmR_le {f g : Nat → Nat} (hf : ∀ j, j < 18 → f j ≤ 255) (hg : ∀ j, j < 18 → g j ≤ 255) : ∀ t, t ≤ 324 → ∀ j, tmR f g t j ≤ t * 65536
 | 0, _, _ => by simp [tmR]
 | t + 1, h, j => by
  have ih := tmR_le hf hg t (by omega)
  have h1 := hf (t / 18) (by omega)
  have h2 := hg (t % 18) (Nat.mod_lt _ (by decide))
  have h3 : f (t / 18) * g (t % 18) ≤ 255 * 255 := Nat.mul_le_mul h1 h2
  rw [tmR]
  unfold upd
  split
  ·have := ih (t / 18 + t % 18); omega
  ·exact Nat.le_trans (ih j) (Nat.mul_le_mul_right _ (Nat.le_succ t))
theorem tmR_v (f g : Nat → Nat) (i : Nat) (hi : i < 18) (h0 : vs 256 (tmR f g (18 * i)) 36 = vs 256 f i * vs 256 g 18) : ∀ k, k ≤ 18 → vs 256 (tmR f g (18 * i + k)) 36 = vs 256 f i * vs 256 g 18 + f i * 256 ^ i * vs 256 g k
 | 0, _ => by rw [Nat.add_zero, h0, vs, Nat.mul_zero, Nat.add_zero]
 | k + 1, h => by
  have ih := tmR_v f g i hi h0 k (by omega)
  rw [← Nat.add_assoc, tmR, show (18 * i + k) / 18 = i by omega, show (18 * i + k) % 18 = k by omega, vs_updk _ _ _ _ 36 (by omega), ih, show vs 256 g (k + 1) = vs 256 g k + g k * 256 ^ k from rfl, Nat.mul_add, Nat.pow_add, Nat.add_assoc]
  congr 2
  generalize 256 ^ i = x
  generalize 256 ^ k = y
  grind
theorem tmR_all (f g : Nat → Nat) : ∀ i, i ≤ 18 → vs 256 (tmR f g (18 * i)) 36 = vs 256 f i * vs 256 g 18
 | 0, _ => by rw [show vs 256 f 0 = 0 from rfl, Nat.zero_mul]; exact vs_zero _ _ 36 (fun _ _ => rfl)
 | i + 1, h => by
  have h1 := tmR_v f g i (by omega) (tmR_all f g i (by omega)) 18 (Nat.le_refl _)
  rw [show 18 * (i + 1) = 18 * i + 18 by omega, h1, show vs 256 f (i + 1) = vs 256 f i + f i * 256 ^ i from rfl, Nat.add_mul]
theorem hi_byte (V i : Nat) : (lim 256 V (16 + i) / 4 ||| lim 256 V (17 + i) * 64 % 256) = lim 256 (V / 1361129467683753853853498429727072845824) i := by
 have h1 := lim_lt (b := 256) (by decide) V (16 + i)
 have h2 : lim 256 V (16 + i) / 4 < 2 ^ 6 := by omega
 have e : lim 256 V (17 + i) * 64 % 256 = 2 ^ 6 * (lim 256 V (17 + i) % 4) := by omega
 rw [e, Nat.or_comm, ← Nat.two_pow_add_eq_or_of_lt h2]
 unfold lim
 have e1 : 256 ^ (17 + i) = 256 ^ (16 + i) * 256 := by rw [show 17 + i = 16 + i + 1 by omega, Nat.pow_succ]
 have e2 : V / 1361129467683753853853498429727072845824 / 256 ^ i = V / 256 ^ (16 + i) / 4 := by
  rw [Nat.div_div_eq_div_mul, Nat.div_div_eq_div_mul]
  congr 1
  rw [Nat.pow_add, Nat.mul_right_comm]
 rw [e1, ← Nat.div_div_eq_div_mul, e2]
 omega
def loR (V : Nat) (j : Nat) : Nat := if j < 16 then lim 256 V j else if j = 16 then lim 256 V 16 % 4 else 0
def hiR (V : Nat) (j : Nat) : Nat := if j < 17 then lim 256 (V / 1361129467683753853853498429727072845824) j else 0
theorem lo_v (V : Nat) : vs 256 (loR V) 18 = V % 1361129467683753853853498429727072845824 := by
 have h := vs_lim 256 V 16
 have e : vs 256 (loR V) 18 = vs 256 (loR V) 16 + loR V 16 * 256 ^ 16 + loR V 17 * 256 ^ 17 := rfl
 have e2 : vs 256 (loR V) 16 = vs 256 (lim 256 V) 16 := vs_ext 16 fun j hj => by unfold loR; rw [if_pos hj]
 have e3 : loR V 16 = lim 256 V 16 % 4 := rfl
 have e4 : loR V 17 = 0 := rfl
 rw [e, e2, h, e3, e4]
 unfold lim
 simp only [Nat.reducePow]
 omega
theorem hi_v {V : Nat} (h : V < 1361129467683753853853498429727072845824 * 1361129467683753853853498429727072845824) : vs 256 (hiR V) 18 = V / 1361129467683753853853498429727072845824 := by
 have e : vs 256 (hiR V) 18 = vs 256 (hiR V) 17 + hiR V 17 * 256 ^ 17 := rfl
 have e2 : vs 256 (hiR V) 17 = vs 256 (lim 256 (V / 1361129467683753853853498429727072845824)) 17 := vs_ext 17 fun j hj => by unfold hiR; rw [if_pos hj]
 have e4 : hiR V 17 = 0 := rfl
 rw [e, e2, e4, vs_lim, Nat.zero_mul, Nat.add_zero]
 refine Nat.mod_eq_of_lt (Nat.lt_of_lt_of_le (Nat.div_lt_of_lt_mul h) ?_)
 simp only [Nat.reducePow]
 omega
def mdR (V : Nat) (j : Nat) : Nat := loR V j + 5 * hiR V j
theorem loR_le (V j : Nat) : loR V j ≤ 255 := by
 have h1 := lim_lt (b := 256) (by decide) V j
 have h2 := lim_lt (b := 256) (by decide) V 16
 unfold loR
 repeat' split
 all_goals omega
theorem hiR_le (V j : Nat) : hiR V j ≤ 255 := by
 have h1 := lim_lt (b := 256) (by decide) (V / 1361129467683753853853498429727072845824) j
 unfold hiR
 split <;> omega
theorem mdR_bq (V : Nat) : Bq (mdR V) := Bq.of fun j _ => by
 have := loR_le V j
 have := hiR_le V j
 unfold mdR
 omega
theorem mdR_mod {V : Nat} (h : V < 1361129467683753853853498429727072845824 * 1361129467683753853853498429727072845824) : vs 256 (mdR V) 18 % Q = V % Q := by
 have e := vs_lin 256 5 (loR V) (hiR V) 18
 have e2 : vs 256 (mdR V) 18 = rho V := by
  show vs 256 (fun j => loR V j + 5 * hiR V j) 18 = _
  rw [e, lo_v, hi_v h]; rfl
 rw [e2, rho_mod]
theorem times_v {f g : Nat → Nat} (hf : vs 256 f 18 < 1361129467683753853853498429727072845824) (hg : vs 256 g 18 < 1361129467683753853853498429727072845824) :
  cN (mdR (vs 256 f 18 * vs 256 g 18)) % Q = vs 256 f 18 * vs 256 g 18 % Q ∧ cN (mdR (vs 256 f 18 * vs 256 g 18)) < 1361129467683753853853498429727072845824 :=
 ⟨by rw [cN_mod, mdR_mod (Nat.mul_lt_mul_of_lt_of_lt hf hg)], cN_lt (mdR_bq _)⟩
theorem prod_lim {f g : Nat → Nat} (j : Nat) (hj : j < 36) : gF 256 (tmR f g 324) 36 j = lim 256 (vs 256 f 18 * vs 256 g 18) j := by
 rw [gF_lim (by decide) _ hj, show 324 = 18 * 18 from rfl, tmR_all f g 18 (Nat.le_refl _)]
def plus5R (f : Nat → Nat) : Nat → Nat := upd f 0 (f 0 + 5)
theorem p5R_v (f : Nat → Nat) : vs 256 (plus5R f) 18 = vs 256 f 18 + 5 := vs_upd0 256 f 5 17
theorem redR_v {n : Nat} (h : n < 1361129467683753853853498429727072845824) : n % Q = if 4 ≤ lim 256 (n + 5) 16 then n + 5 - 1361129467683753853853498429727072845824 else n := by
 unfold lim
 simp only [Nat.reducePow]
 split
 ·have hq : Q ≤ n := by unfold Q; omega
  rw [Nat.mod_eq_sub_mod hq, Nat.mod_eq_of_lt (by unfold Q; omega)]
  unfold Q; omega
 exact Nat.mod_eq_of_lt (by unfold Q; omega)
theorem redR_yes {n : Nat} (h : n < 1361129467683753853853498429727072845824) (hc : 4 ≤ lim 256 (n + 5) 16) (j : Nat) (hj : j < 18) : upd (lim 256 (n + 5)) 16 (lim 256 (n + 5) 16 % 4) j = lim 256 (n % Q) j := by
 rw [redR_v h, if_pos hc]
 have hx : n + 5 = (n + 5 - 1361129467683753853853498429727072845824) + 1361129467683753853853498429727072845824 ∧ n + 5 - 1361129467683753853853498429727072845824 < 5 := by
  unfold lim at hc
  simp only [Nat.reducePow] at hc
  omega
 generalize n + 5 - 1361129467683753853853498429727072845824 = m at hx ⊢
 rw [hx.1]
 have hm := hx.2
 unfold upd lim
 have hj' : j = 0 ∨ j = 1 ∨ j = 2 ∨ j = 3 ∨ j = 4 ∨ j = 5 ∨ j = 6 ∨ j = 7 ∨ j = 8 ∨ j = 9 ∨ j = 10 ∨ j = 11 ∨ j = 12 ∨ j = 13 ∨ j = 14 ∨ j = 15 ∨ j = 16 ∨ j = 17 := by omega
 clear hx hc h hj
 rcases hj' with rfl | rfl | rfl | rfl | rfl | rfl | rfl | rfl | rfl | rfl | rfl | rfl | rfl | rfl | rfl | rfl | rfl | rfl <;> simp only [Nat.reducePow, Nat.reduceEqDiff, if_true, if_false] <;> omega
theorem redR_no {n : Nat} (h : n < 1361129467683753853853498429727072845824) (hc : ¬ 4 ≤ lim 256 (n + 5) 16) : n % Q = n := by
 rw [redR_v h, if_neg hc]
end Go.Proofs.YtoplbfijodebmaaGreatDoor
