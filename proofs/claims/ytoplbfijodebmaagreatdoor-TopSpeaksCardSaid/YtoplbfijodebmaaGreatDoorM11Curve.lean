/-
  The walk.
-/
set_option linter.unusedVariables false
set_option linter.unusedSimpArgs false
set_option maxHeartbeats 8000000
namespace T
theorem inj_le : ∀ (N M : Nat) (f : Nat → Nat), (∀ i, i < N → f i < M) → (∀ i j, i < N → j < N → f i = f j → i = j) → N ≤ M
 | 0, _, _, _, _ => Nat.zero_le _
 | N + 1, M, f, hf, hi => by
  have hM : f N < M := hf N (Nat.lt_succ_self N)
  have := inj_le N (M - 1) (fun i => if f i < f N then f i else f i - 1) (fun i h => by
   have h1 := hf i (by omega)
   have h2 : f i ≠ f N := fun e => by have := hi i N (by omega) (by omega) e; omega
   show (if f i < f N then f i else f i - 1) < M - 1
   split <;> omega) (fun i j h1 h2 e => by
   have a1 : f i ≠ f N := fun e => by have := hi i N (by omega) (by omega) e; omega
   have a2 : f j ≠ f N := fun e => by have := hi j N (by omega) (by omega) e; omega
   refine hi i j (by omega) (by omega) ?_
   have e : (if f i < f N then f i else f i - 1) = (if f j < f N then f j else f j - 1) := e
   split at e <;> split at e <;> omega)
  omega
theorem inj_onto {N : Nat} {f : Nat → Nat} (hf : ∀ i, i < N → f i < N) (hi : ∀ i j, i < N → j < N → f i = f j → i = j) {y : Nat} (hy : y < N) : ∃ i, i < N ∧ f i = y := by
 apply Classical.byContradiction
 intro hno
 have hne : ∀ i, i < N → f i ≠ y := fun i h e => hno ⟨i, h, e⟩
 have := inj_le N (N - 1) (fun i => if f i < y then f i else f i - 1) (fun i h => by
  have h1 := hf i h
  have h2 := hne i h
  show (if f i < y then f i else f i - 1) < N - 1
  split <;> omega) (fun i j h1 h2 e => by
  have a1 := hne i h1
  have a2 := hne j h2
  refine hi i j h1 h2 ?_
  have e : (if f i < y then f i else f i - 1) = (if f j < y then f j else f j - 1) := e
  split at e <;> split at e <;> omega)
 omega
def Pr (n : Nat) : Prop := 2 ≤ n ∧ ∀ a b, n ∣ a * b → n ∣ a ∨ n ∣ b
theorem Pr.of_irred {n : Nat} (h2 : 2 ≤ n) (h : ∀ m, m ∣ n → m = 1 ∨ m = n) : Pr n := by
 refine ⟨h2, fun a b hd => ?_⟩
 rcases h (Nat.gcd n a) (Nat.gcd_dvd_left n a) with hg | hg
 ·exact Or.inr (Nat.Coprime.dvd_of_dvd_mul_left hg hd)
 left
 have := Nat.gcd_dvd_right n a
 rwa [hg] at this
theorem Pr.div {n m : Nat} (h : Pr n) (hd : m ∣ n) (hm : m ≠ 1) : m = n := by
 obtain ⟨c, hc⟩ := hd
 have hpos : 0 < n := by have := h.1; omega
 rcases h.2 m c ⟨1, by omega⟩ with hx | hx
 ·exact Nat.dvd_antisymm ⟨c, hc⟩ hx
 obtain ⟨e, he⟩ := hx
 rw [he] at hc
 have h1 : m * e = 1 := by
  have : n * (m * e) = n * 1 := by rw [Nat.mul_one, ← Nat.mul_assoc, Nat.mul_comm n m, Nat.mul_assoc]; exact hc.symm
  exact Nat.eq_of_mul_eq_mul_left hpos this
 exact absurd (Nat.eq_one_of_mul_eq_one_right h1) hm
theorem exists_prime : ∀ k : Nat, 2 ≤ k → ∃ q, Pr q ∧ q ∣ k := by
 intro k
 induction k using Nat.strongRecOn with
 | _ k ih =>
  intro hk
  by_cases h : ∃ m, m ∣ k ∧ m ≠ 1 ∧ m ≠ k
  ·obtain ⟨m, hd, h1, h2⟩ := h
   have hle : m ≤ k := Nat.le_of_dvd (by omega) hd
   have h0 : m ≠ 0 := fun e => by rw [e] at hd; have := Nat.eq_zero_of_zero_dvd hd; omega
   obtain ⟨q, hq, hqd⟩ := ih m (by omega) (by omega)
   exact ⟨q, hq, Nat.dvd_trans hqd hd⟩
  ·exact ⟨k, Pr.of_irred hk (fun m hm => Classical.byContradiction fun hc => h ⟨m, hm, fun e => hc (Or.inl e), fun e => hc (Or.inr e)⟩), Nat.dvd_refl k⟩
def prodL : List Nat → Nat
 | [] => 1
 | a :: l => a * prodL l
theorem Pr.mem {q : Nat} (hq : Pr q) : ∀ {l : List Nat}, (∀ r, r ∈ l → Pr r) → q ∣ prodL l → q ∈ l
 | [], _, h => by
  have := Nat.le_of_dvd (by decide) h
  have := hq.1
  have : prodL [] = 1 := rfl
  omega
 | a :: l, hl, h => by
  rcases hq.2 a (prodL l) h with hx | hx
  ·have ha := hl a List.mem_cons_self
   rw [ha.div hx (by have := hq.1; omega)]
   exact List.mem_cons_self
  ·exact List.mem_cons_of_mem _ (hq.mem (fun r hr => hl r (List.mem_cons_of_mem _ hr)) hx)
theorem pow_mod1 {g n m k : Nat} (h : g ^ m % n = 1 % n) : g ^ (m * k) % n = 1 % n := by
 rw [Nat.pow_mul, Nat.pow_mod, h, ← Nat.pow_mod, Nat.one_pow]
theorem least {Q : Nat → Prop} : ∀ n, Q n → ∃ m, Q m ∧ ∀ k, k < m → ¬ Q k := by
 intro n
 induction n using Nat.strongRecOn with
 | _ n ih =>
  intro h
  by_cases hx : ∃ k, k < n ∧ Q k
  ·obtain ⟨k, hk, hq⟩ := hx
   exact ih k hk hq
  ·exact ⟨n, h, fun k hk hq => hx ⟨k, hk, hq⟩⟩
theorem cert {n g : Nat} (l : List Nat) (hn : 2 ≤ n) (hg : g ^ (n - 1) % n = 1) (hl : ∀ q, q ∈ l → Pr q) (ho : ∀ q, q ∈ l → g ^ ((n - 1) / q) % n ≠ 1) (hp : prodL l = n - 1) :
  Pr n ∧ ∀ a, ¬ n ∣ a → a ^ (n - 1) % n = 1 := by
 have one : 1 % n = 1 := Nat.mod_eq_of_lt (by omega)
 obtain ⟨m, ⟨hm0, hm1⟩, hmin⟩ := least (Q := fun m => 0 < m ∧ g ^ m % n = 1) (n - 1) ⟨by omega, hg⟩
 have cut : ∀ k, g ^ k % n = 1 → m ∣ k := fun k hk => by
  have h1 : g ^ (k % m) % n = 1 := by
   have e : g ^ k = g ^ (m * (k / m)) * g ^ (k % m) := by rw [← Nat.pow_add, Nat.div_add_mod]
   rw [e, Nat.mul_mod, pow_mod1 (hm1.trans one.symm), one, Nat.one_mul, Nat.mod_mod] at hk
   exact hk
  apply Nat.dvd_of_mod_eq_zero
  apply Classical.byContradiction
  intro h0
  exact hmin (k % m) (Nat.mod_lt _ hm0) ⟨by omega, h1⟩
 have hmn : m = n - 1 := by
  obtain ⟨k, hk⟩ := cut (n - 1) hg
  by_cases h1 : k = 1
  ·rw [h1, Nat.mul_one] at hk; exact hk.symm
  ·have hk0 : k ≠ 0 := fun e => by rw [e] at hk; omega
   obtain ⟨q, hq, c, hc⟩ := exists_prime k (by omega)
   have hqn : q ∣ n - 1 := ⟨m * c, by rw [hk, hc, ← Nat.mul_assoc, Nat.mul_comm m q, Nat.mul_assoc]⟩
   have hql := hq.mem hl (by rw [hp]; exact hqn)
   refine absurd ?_ (ho q hql)
   have hdiv : (n - 1) / q = m * c := by
    rw [hk, hc, ← Nat.mul_assoc, Nat.mul_comm m q, Nat.mul_assoc]
    exact Nat.mul_div_cancel_left _ (by have := hq.1; omega)
   rw [hdiv, pow_mod1 (hm1.trans one.symm), one]
 have nz : ∀ i, i ≤ n - 1 → g ^ i % n ≠ 0 := fun i hi h0 => by
  have e : g ^ (n - 1) = g ^ i * g ^ (n - 1 - i) := by rw [← Nat.pow_add]; congr 1; omega
  rw [e, Nat.mul_mod, h0, Nat.zero_mul, Nat.zero_mod] at hg
  omega
 have inj : ∀ i j, i < n - 1 → j < n - 1 → i < j → g ^ i % n ≠ g ^ j % n := fun i j hi hj hij e => by
  have h1 : g ^ (j + (n - 1 - i)) % n = 1 := by
   rw [Nat.pow_add, Nat.mul_mod, ← e, ← Nat.mul_mod, ← Nat.pow_add, show i + (n - 1 - i) = n - 1 by omega, hg]
  have h2 : g ^ (j - i) % n = 1 := by
   have e2 : j + (n - 1 - i) = (n - 1) + (j - i) := by omega
   rw [e2, Nat.pow_add, Nat.mul_mod, hg, Nat.one_mul, Nat.mod_mod] at h1
   exact h1
  exact hmin (j - i) (by omega) ⟨by omega, h2⟩
 have onto : ∀ a, ¬ n ∣ a → ∃ i, a % n = g ^ i % n := fun a ha => by
  have h0 : a % n ≠ 0 := fun e => ha (Nat.dvd_of_mod_eq_zero e)
  have hlt : a % n < n := Nat.mod_lt _ (by omega)
  obtain ⟨i, hi, e⟩ := inj_onto (N := n - 1) (f := fun i => g ^ i % n - 1) (fun i hi => by
   have := nz i (by omega)
   have := Nat.mod_lt (g ^ i) (show 0 < n by omega)
   show g ^ i % n - 1 < n - 1
   omega) (fun i j hi hj e => by
   have h1 := nz i (by omega)
   have h2 := nz j (by omega)
   have e : g ^ i % n - 1 = g ^ j % n - 1 := e
   apply Classical.byContradiction
   intro hne
   rcases Nat.lt_or_gt_of_ne hne with h | h
   ·exact inj i j hi hj h (by omega)
   ·exact inj j i hj hi h (by omega)) (y := a % n - 1) (by omega)
  have h1 := nz i (by omega)
  have e : g ^ i % n - 1 = a % n - 1 := e
  exact ⟨i, by omega⟩
 have nzall : ∀ i, g ^ i % n ≠ 0 := fun i h0 => by
  have e : g ^ ((n - 1) * i) = g ^ i * g ^ ((n - 2) * i) := by rw [← Nat.pow_add]; congr 1; rw [show n - 1 = 1 + (n - 2) by omega, Nat.add_mul, Nat.one_mul]
  have h1 : g ^ ((n - 1) * i) % n = 1 % n := pow_mod1 (hg.trans one.symm)
  rw [e, Nat.mul_mod, h0, Nat.zero_mul, Nat.zero_mod] at h1
  omega
 refine ⟨⟨hn, fun a b hd => ?_⟩, fun a ha => ?_⟩
 ·apply Classical.byContradiction
  intro hc
  obtain ⟨i, hi⟩ := onto a (fun h => hc (Or.inl h))
  obtain ⟨j, hj⟩ := onto b (fun h => hc (Or.inr h))
  have := Nat.mod_eq_zero_of_dvd hd
  rw [Nat.mul_mod, hi, hj, ← Nat.mul_mod, ← Nat.pow_add] at this
  exact nzall _ this
 obtain ⟨i, hi⟩ := onto a ha
 rw [Nat.pow_mod, hi, ← Nat.pow_mod, ← Nat.pow_mul, Nat.mul_comm, pow_mod1 (hg.trans one.symm), one]
def pm (n a : Nat) : Nat → Nat → Nat → Nat
 | 0, _, acc => acc
 | f + 1, k, acc => pm n a f k (acc * acc % n * (if k / 2 ^ f % 2 = 1 then a else 1) % n)
theorem pm_eq (n a : Nat) : ∀ (f k acc e : Nat), acc % n = a ^ e % n → pm n a f k acc % n = a ^ (e * 2 ^ f + k % 2 ^ f) % n
 | 0, k, acc, e, h => by
  show acc % n = _
  rw [h, Nat.pow_zero, Nat.mod_one, Nat.mul_one, Nat.add_zero]
 | f + 1, k, acc, e, h => by
  show pm n a f k _ % n = _
  have hb : k % 2 ^ (f + 1) = k / 2 ^ f % 2 * 2 ^ f + k % 2 ^ f := by
   rw [Nat.pow_succ, Nat.mod_mul]
   rw [Nat.mul_comm, Nat.add_comm]
  rw [pm_eq n a f k _ (2 * e + k / 2 ^ f % 2) ?_]
  ·congr 2
   rw [hb, Nat.pow_succ, Nat.add_mul]
   rw [show e * (2 ^ f * 2) = 2 * e * 2 ^ f by rw [Nat.mul_comm (2 ^ f) 2, ← Nat.mul_assoc, Nat.mul_comm e 2]]
   omega
  ·have key : ∀ c, acc * acc % n * c % n % n = a ^ e * a ^ e * c % n := fun c => by
    have h2 : acc * acc % n = a ^ e * a ^ e % n := by rw [Nat.mul_mod, h, ← Nat.mul_mod]
    rw [Nat.mod_mod, Nat.mul_mod (acc * acc % n) c, Nat.mod_mod, h2, ← Nat.mul_mod]
   rw [key, ← Nat.pow_add]
   have h2 : k / 2 ^ f % 2 = 0 ∨ k / 2 ^ f % 2 = 1 := by omega
   rcases h2 with h2 | h2 <;> rw [h2]
   ·rw [if_neg (by decide), Nat.mul_one, show e + e = 2 * e + 0 by omega]
   ·rw [if_pos rfl, ← Nat.pow_succ]
    show a ^ (e + e + 1) % n = _
    rw [show e + e + 1 = 2 * e + 1 by omega]
theorem pm_pow {n a f k : Nat} (hk : k < 2 ^ f) : a ^ k % n = pm n a f k (1 % n) % n := by
 rw [pm_eq n a f k (1 % n) 0 (by rw [Nat.mod_mod, Nat.pow_zero]), Nat.zero_mul, Nat.zero_add, Nat.mod_eq_of_lt hk]
def okC (n g f : Nat) (l : List Nat) : Bool :=
 decide (2 ≤ n) && decide (n < 2 ^ f) && decide (pm n g f (n - 1) (1 % n) % n = 1) && l.all (fun q => decide (pm n g f ((n - 1) / q) (1 % n) % n ≠ 1)) && decide (prodL l = n - 1)
theorem cert_ok {n g f : Nat} {l : List Nat} (h : okC n g f l = true) (hl : ∀ q, q ∈ l → Pr q) : Pr n ∧ ∀ a, ¬ n ∣ a → a ^ (n - 1) % n = 1 := by
 unfold okC at h
 simp only [Bool.and_eq_true, decide_eq_true_eq, List.all_eq_true] at h
 obtain ⟨⟨⟨⟨h1, h2⟩, h3⟩, h4⟩, h5⟩ := h
 have hb : ∀ q, (n - 1) / q < 2 ^ f := fun q => Nat.lt_of_le_of_lt (Nat.div_le_self _ _) (by omega)
 exact cert l h1 (by rw [pm_pow (f := f) (by omega)]; exact h3) hl (fun q hq => by rw [pm_pow (hb q)]; exact h4 q hq) h5
theorem pr2 : Pr 2 := Pr.of_irred (by decide) (fun m hm => by
 have h1 := Nat.le_of_dvd (by decide) hm
 have h2 : m ≠ 0 := (fun e => by rw [e] at hm; exact absurd (Nat.eq_zero_of_zero_dvd hm) (by decide))
 omega)
theorem pr3 : Pr 3 := (cert_ok (g := 2) (f := 2) (l := [2]) (by decide +kernel) (by intro q hq; rw [List.mem_singleton.1 hq]; exact pr2)).1
theorem pr17 : Pr 17 := (cert_ok (g := 3) (f := 5) (l := [2, 2, 2, 2]) (by decide +kernel) (by simp only [List.mem_cons, List.not_mem_nil, or_false]; rintro q (rfl | rfl | rfl | rfl); exact pr2; exact pr2; exact pr2; exact pr2)).1
theorem pr7 : Pr 7 := (cert_ok (g := 3) (f := 3) (l := [2, 3]) (by decide +kernel) (by simp only [List.mem_cons, List.not_mem_nil, or_false]; rintro q (rfl | rfl); exact pr2; exact pr3)).1
theorem pr239 : Pr 239 := (cert_ok (g := 7) (f := 8) (l := [2, 7, 17]) (by decide +kernel) (by simp only [List.mem_cons, List.not_mem_nil, or_false]; rintro q (rfl | rfl | rfl); exact pr2; exact pr7; exact pr17)).1
theorem pr479 : Pr 479 := (cert_ok (g := 13) (f := 9) (l := [2, 239]) (by decide +kernel) (by simp only [List.mem_cons, List.not_mem_nil, or_false]; rintro q (rfl | rfl); exact pr2; exact pr239)).1
theorem pr32573 : Pr 32573 := (cert_ok (g := 2) (f := 15) (l := [2, 2, 17, 479]) (by decide +kernel) (by simp only [List.mem_cons, List.not_mem_nil, or_false]; rintro q (rfl | rfl | rfl | rfl); exact pr2; exact pr2; exact pr17; exact pr479)).1
theorem pr65147 : Pr 65147 := (cert_ok (g := 2) (f := 16) (l := [2, 32573]) (by decide +kernel) (by simp only [List.mem_cons, List.not_mem_nil, or_false]; rintro q (rfl | rfl); exact pr2; exact pr32573)).1
theorem pr5 : Pr 5 := (cert_ok (g := 2) (f := 3) (l := [2, 2]) (by decide +kernel) (by simp only [List.mem_cons, List.not_mem_nil, or_false]; rintro q (rfl | rfl); exact pr2; exact pr2)).1
theorem pr11 : Pr 11 := (cert_ok (g := 2) (f := 4) (l := [2, 5]) (by decide +kernel) (by simp only [List.mem_cons, List.not_mem_nil, or_false]; rintro q (rfl | rfl); exact pr2; exact pr5)).1
theorem pr353 : Pr 353 := (cert_ok (g := 3) (f := 9) (l := [2, 2, 2, 2, 2, 11]) (by decide +kernel) (by simp only [List.mem_cons, List.not_mem_nil, or_false]; rintro q (rfl | rfl | rfl | rfl | rfl | rfl); exact pr2; exact pr2; exact pr2; exact pr2; exact pr2; exact pr11)).1
theorem pr29 : Pr 29 := (cert_ok (g := 2) (f := 5) (l := [2, 2, 7]) (by decide +kernel) (by simp only [List.mem_cons, List.not_mem_nil, or_false]; rintro q (rfl | rfl | rfl); exact pr2; exact pr2; exact pr7)).1
theorem pr59 : Pr 59 := (cert_ok (g := 2) (f := 6) (l := [2, 29]) (by decide +kernel) (by simp only [List.mem_cons, List.not_mem_nil, or_false]; rintro q (rfl | rfl); exact pr2; exact pr29)).1
theorem pr487 : Pr 487 := (cert_ok (g := 3) (f := 9) (l := [2, 3, 3, 3, 3, 3]) (by decide +kernel) (by simp only [List.mem_cons, List.not_mem_nil, or_false]; rintro q (rfl | rfl | rfl | rfl | rfl | rfl); exact pr2; exact pr3; exact pr3; exact pr3; exact pr3; exact pr3)).1
theorem pr57467 : Pr 57467 := (cert_ok (g := 2) (f := 16) (l := [2, 59, 487]) (by decide +kernel) (by simp only [List.mem_cons, List.not_mem_nil, or_false]; rintro q (rfl | rfl | rfl); exact pr2; exact pr59; exact pr487)).1
theorem pr13 : Pr 13 := (cert_ok (g := 2) (f := 4) (l := [2, 2, 3]) (by decide +kernel) (by simp only [List.mem_cons, List.not_mem_nil, or_false]; rintro q (rfl | rfl | rfl); exact pr2; exact pr2; exact pr3)).1
theorem pr131 : Pr 131 := (cert_ok (g := 2) (f := 8) (l := [2, 5, 13]) (by decide +kernel) (by simp only [List.mem_cons, List.not_mem_nil, or_false]; rintro q (rfl | rfl | rfl); exact pr2; exact pr5; exact pr13)).1
theorem pr132049 : Pr 132049 := (cert_ok (g := 26) (f := 18) (l := [2, 2, 2, 2, 3, 3, 7, 131]) (by decide +kernel) (by simp only [List.mem_cons, List.not_mem_nil, or_false]; rintro q (rfl | rfl | rfl | rfl | rfl | rfl | rfl | rfl); exact pr2; exact pr2; exact pr2; exact pr2; exact pr3; exact pr3; exact pr7; exact pr131)).1
theorem pr43 : Pr 43 := (cert_ok (g := 3) (f := 6) (l := [2, 3, 7]) (by decide +kernel) (by simp only [List.mem_cons, List.not_mem_nil, or_false]; rintro q (rfl | rfl | rfl); exact pr2; exact pr3; exact pr7)).1
theorem pr23 : Pr 23 := (cert_ok (g := 5) (f := 5) (l := [2, 11]) (by decide +kernel) (by simp only [List.mem_cons, List.not_mem_nil, or_false]; rintro q (rfl | rfl); exact pr2; exact pr11)).1
theorem pr3727 : Pr 3727 := (cert_ok (g := 3) (f := 12) (l := [2, 3, 3, 3, 3, 23]) (by decide +kernel) (by simp only [List.mem_cons, List.not_mem_nil, or_false]; rintro q (rfl | rfl | rfl | rfl | rfl | rfl); exact pr2; exact pr3; exact pr3; exact pr3; exact pr3; exact pr23)).1
theorem pr1923133 : Pr 1923133 := (cert_ok (g := 2) (f := 21) (l := [2, 2, 3, 43, 3727]) (by decide +kernel) (by simp only [List.mem_cons, List.not_mem_nil, or_false]; rintro q (rfl | rfl | rfl | rfl | rfl); exact pr2; exact pr2; exact pr3; exact pr43; exact pr3727)).1
theorem pr31 : Pr 31 := (cert_ok (g := 3) (f := 5) (l := [2, 3, 5]) (by decide +kernel) (by simp only [List.mem_cons, List.not_mem_nil, or_false]; rintro q (rfl | rfl | rfl); exact pr2; exact pr3; exact pr5)).1
theorem pr53 : Pr 53 := (cert_ok (g := 2) (f := 6) (l := [2, 2, 13]) (by decide +kernel) (by simp only [List.mem_cons, List.not_mem_nil, or_false]; rintro q (rfl | rfl | rfl); exact pr2; exact pr2; exact pr13)).1
theorem pr107 : Pr 107 := (cert_ok (g := 2) (f := 7) (l := [2, 53]) (by decide +kernel) (by simp only [List.mem_cons, List.not_mem_nil, or_false]; rintro q (rfl | rfl); exact pr2; exact pr53)).1
theorem pr37 : Pr 37 := (cert_ok (g := 2) (f := 6) (l := [2, 2, 3, 3]) (by decide +kernel) (by simp only [List.mem_cons, List.not_mem_nil, or_false]; rintro q (rfl | rfl | rfl | rfl); exact pr2; exact pr2; exact pr3; exact pr3)).1
theorem pr223 : Pr 223 := (cert_ok (g := 3) (f := 8) (l := [2, 3, 37]) (by decide +kernel) (by simp only [List.mem_cons, List.not_mem_nil, or_false]; rintro q (rfl | rfl | rfl); exact pr2; exact pr3; exact pr37)).1
theorem pr173 : Pr 173 := (cert_ok (g := 2) (f := 8) (l := [2, 2, 43]) (by decide +kernel) (by simp only [List.mem_cons, List.not_mem_nil, or_false]; rintro q (rfl | rfl | rfl); exact pr2; exact pr2; exact pr43)).1
theorem pr4153 : Pr 4153 := (cert_ok (g := 5) (f := 13) (l := [2, 2, 2, 3, 173]) (by decide +kernel) (by simp only [List.mem_cons, List.not_mem_nil, or_false]; rintro q (rfl | rfl | rfl | rfl | rfl); exact pr2; exact pr2; exact pr2; exact pr3; exact pr173)).1
theorem pr41 : Pr 41 := (cert_ok (g := 6) (f := 6) (l := [2, 2, 2, 5]) (by decide +kernel) (by simp only [List.mem_cons, List.not_mem_nil, or_false]; rintro q (rfl | rfl | rfl | rfl); exact pr2; exact pr2; exact pr2; exact pr5)).1
theorem pr1723 : Pr 1723 := (cert_ok (g := 3) (f := 11) (l := [2, 3, 7, 41]) (by decide +kernel) (by simp only [List.mem_cons, List.not_mem_nil, or_false]; rintro q (rfl | rfl | rfl | rfl); exact pr2; exact pr3; exact pr7; exact pr41)).1
theorem pr430751 : Pr 430751 := (cert_ok (g := 17) (f := 19) (l := [2, 5, 5, 5, 1723]) (by decide +kernel) (by simp only [List.mem_cons, List.not_mem_nil, or_false]; rintro q (rfl | rfl | rfl | rfl | rfl); exact pr2; exact pr5; exact pr5; exact pr5; exact pr1723)).1
theorem pr31757755568855353 : Pr 31757755568855353 := (cert_ok (g := 10) (f := 55) (l := [2, 2, 2, 3, 31, 107, 223, 4153, 430751]) (by decide +kernel) (by simp only [List.mem_cons, List.not_mem_nil, or_false]; rintro q (rfl | rfl | rfl | rfl | rfl | rfl | rfl | rfl | rfl); exact pr2; exact pr2; exact pr2; exact pr3; exact pr31; exact pr107; exact pr223; exact pr4153; exact pr430751)).1
theorem pr19 : Pr 19 := (cert_ok (g := 2) (f := 5) (l := [2, 3, 3]) (by decide +kernel) (by simp only [List.mem_cons, List.not_mem_nil, or_false]; rintro q (rfl | rfl | rfl); exact pr2; exact pr3; exact pr3)).1
theorem pr83 : Pr 83 := (cert_ok (g := 2) (f := 7) (l := [2, 41]) (by decide +kernel) (by simp only [List.mem_cons, List.not_mem_nil, or_false]; rintro q (rfl | rfl); exact pr2; exact pr41)).1
theorem pr9463 : Pr 9463 := (cert_ok (g := 3) (f := 14) (l := [2, 3, 19, 83]) (by decide +kernel) (by simp only [List.mem_cons, List.not_mem_nil, or_false]; rintro q (rfl | rfl | rfl | rfl); exact pr2; exact pr3; exact pr19; exact pr83)).1
theorem pr37853 : Pr 37853 := (cert_ok (g := 2) (f := 16) (l := [2, 2, 9463]) (by decide +kernel) (by simp only [List.mem_cons, List.not_mem_nil, or_false]; rintro q (rfl | rfl | rfl); exact pr2; exact pr2; exact pr9463)).1
theorem pr75707 : Pr 75707 := (cert_ok (g := 2) (f := 17) (l := [2, 37853]) (by decide +kernel) (by simp only [List.mem_cons, List.not_mem_nil, or_false]; rintro q (rfl | rfl); exact pr2; exact pr37853)).1
theorem pr47 : Pr 47 := (cert_ok (g := 5) (f := 6) (l := [2, 23]) (by decide +kernel) (by simp only [List.mem_cons, List.not_mem_nil, or_false]; rintro q (rfl | rfl); exact pr2; exact pr23)).1
theorem pr127 : Pr 127 := (cert_ok (g := 3) (f := 7) (l := [2, 3, 3, 7]) (by decide +kernel) (by simp only [List.mem_cons, List.not_mem_nil, or_false]; rintro q (rfl | rfl | rfl | rfl); exact pr2; exact pr3; exact pr3; exact pr7)).1
theorem pr103 : Pr 103 := (cert_ok (g := 5) (f := 7) (l := [2, 3, 17]) (by decide +kernel) (by simp only [List.mem_cons, List.not_mem_nil, or_false]; rintro q (rfl | rfl | rfl); exact pr2; exact pr3; exact pr17)).1
theorem pr991 : Pr 991 := (cert_ok (g := 6) (f := 10) (l := [2, 3, 3, 5, 11]) (by decide +kernel) (by simp only [List.mem_cons, List.not_mem_nil, or_false]; rintro q (rfl | rfl | rfl | rfl | rfl); exact pr2; exact pr3; exact pr3; exact pr5; exact pr11)).1
theorem pr8574133 : Pr 8574133 := (cert_ok (g := 2) (f := 24) (l := [2, 2, 3, 7, 103, 991]) (by decide +kernel) (by simp only [List.mem_cons, List.not_mem_nil, or_false]; rintro q (rfl | rfl | rfl | rfl | rfl | rfl); exact pr2; exact pr2; exact pr3; exact pr7; exact pr103; exact pr991)).1
theorem pr1919519569386763 : Pr 1919519569386763 := (cert_ok (g := 2) (f := 51) (l := [2, 3, 7, 19, 47, 47, 127, 8574133]) (by decide +kernel) (by simp only [List.mem_cons, List.not_mem_nil, or_false]; rintro q (rfl | rfl | rfl | rfl | rfl | rfl | rfl | rfl); exact pr2; exact pr3; exact pr7; exact pr19; exact pr47; exact pr47; exact pr127; exact pr8574133)).1
theorem pr2437 : Pr 2437 := (cert_ok (g := 2) (f := 12) (l := [2, 2, 3, 7, 29]) (by decide +kernel) (by simp only [List.mem_cons, List.not_mem_nil, or_false]; rintro q (rfl | rfl | rfl | rfl | rfl); exact pr2; exact pr2; exact pr3; exact pr7; exact pr29)).1
theorem pr97 : Pr 97 := (cert_ok (g := 5) (f := 7) (l := [2, 2, 2, 2, 2, 3]) (by decide +kernel) (by simp only [List.mem_cons, List.not_mem_nil, or_false]; rintro q (rfl | rfl | rfl | rfl | rfl | rfl); exact pr2; exact pr2; exact pr2; exact pr2; exact pr2; exact pr3)).1
theorem pr419 : Pr 419 := (cert_ok (g := 2) (f := 9) (l := [2, 11, 19]) (by decide +kernel) (by simp only [List.mem_cons, List.not_mem_nil, or_false]; rintro q (rfl | rfl | rfl); exact pr2; exact pr11; exact pr19)).1
theorem pr569003 : Pr 569003 := (cert_ok (g := 2) (f := 20) (l := [2, 7, 97, 419]) (by decide +kernel) (by simp only [List.mem_cons, List.not_mem_nil, or_false]; rintro q (rfl | rfl | rfl | rfl); exact pr2; exact pr7; exact pr97; exact pr419)).1
theorem pr2773320623 : Pr 2773320623 := (cert_ok (g := 5) (f := 32) (l := [2, 2437, 569003]) (by decide +kernel) (by simp only [List.mem_cons, List.not_mem_nil, or_false]; rintro q (rfl | rfl | rfl); exact pr2; exact pr2437; exact pr569003)).1
theorem pr72106336199 : Pr 72106336199 := (cert_ok (g := 7) (f := 37) (l := [2, 13, 2773320623]) (by decide +kernel) (by simp only [List.mem_cons, List.not_mem_nil, or_false]; rintro q (rfl | rfl | rfl); exact pr2; exact pr13; exact pr2773320623)).1
theorem pr75445702479781427272750846543864801 : Pr 75445702479781427272750846543864801 := (cert_ok (g := 7) (f := 116) (l := [2, 2, 2, 2, 2, 3, 3, 5, 5, 75707, 72106336199, 1919519569386763]) (by decide +kernel) (by simp only [List.mem_cons, List.not_mem_nil, or_false]; rintro q (rfl | rfl | rfl | rfl | rfl | rfl | rfl | rfl | rfl | rfl | rfl | rfl); exact pr2; exact pr2; exact pr2; exact pr2; exact pr2; exact pr3; exact pr3; exact pr5; exact pr5; exact pr75707; exact pr72106336199; exact pr1919519569386763)).1
theorem pr74058212732561358302231226437062788676166966415465897661863160754340907 : Pr 74058212732561358302231226437062788676166966415465897661863160754340907 := (cert_ok (g := 2) (f := 236) (l := [2, 3, 353, 57467, 132049, 1923133, 31757755568855353, 75445702479781427272750846543864801]) (by decide +kernel) (by simp only [List.mem_cons, List.not_mem_nil, or_false]; rintro q (rfl | rfl | rfl | rfl | rfl | rfl | rfl | rfl); exact pr2; exact pr3; exact pr353; exact pr57467; exact pr132049; exact pr1923133; exact pr31757755568855353; exact pr75445702479781427272750846543864801)).1
def P : Nat := 57896044618658097711785492504343953926634992332820282019728792003956564819949
theorem P_cert : Pr P ∧ ∀ a, ¬ P ∣ a → a ^ (P - 1) % P = 1 := cert_ok (g := 2) (f := 255) (l := [2, 2, 3, 65147, 74058212732561358302231226437062788676166966415465897661863160754340907]) (by decide +kernel) (by simp only [List.mem_cons, List.not_mem_nil, or_false]; rintro q (rfl | rfl | rfl | rfl | rfl); exact pr2; exact pr2; exact pr3; exact pr65147; exact pr74058212732561358302231226437062788676166966415465897661863160754340907)
theorem pr34123 : Pr 34123 := (cert_ok (g := 2) (f := 16) (l := [2, 3, 11, 11, 47]) (by decide +kernel) (by simp only [List.mem_cons, List.not_mem_nil, or_false]; rintro q (rfl | rfl | rfl | rfl | rfl); exact pr2; exact pr3; exact pr11; exact pr11; exact pr47)).1
theorem pr409477 : Pr 409477 := (cert_ok (g := 2) (f := 19) (l := [2, 2, 3, 34123]) (by decide +kernel) (by simp only [List.mem_cons, List.not_mem_nil, or_false]; rintro q (rfl | rfl | rfl | rfl); exact pr2; exact pr2; exact pr3; exact pr34123)).1
theorem pr14741173 : Pr 14741173 := (cert_ok (g := 2) (f := 24) (l := [2, 2, 3, 3, 409477]) (by decide +kernel) (by simp only [List.mem_cons, List.not_mem_nil, or_false]; rintro q (rfl | rfl | rfl | rfl | rfl); exact pr2; exact pr2; exact pr3; exact pr3; exact pr409477)).1
theorem pr58964693 : Pr 58964693 := (cert_ok (g := 2) (f := 26) (l := [2, 2, 14741173]) (by decide +kernel) (by simp only [List.mem_cons, List.not_mem_nil, or_false]; rintro q (rfl | rfl | rfl); exact pr2; exact pr2; exact pr14741173)).1
theorem pr30703 : Pr 30703 := (cert_ok (g := 3) (f := 15) (l := [2, 3, 7, 17, 43]) (by decide +kernel) (by simp only [List.mem_cons, List.not_mem_nil, or_false]; rintro q (rfl | rfl | rfl | rfl | rfl); exact pr2; exact pr3; exact pr7; exact pr17; exact pr43)).1
theorem pr79 : Pr 79 := (cert_ok (g := 3) (f := 7) (l := [2, 3, 13]) (by decide +kernel) (by simp only [List.mem_cons, List.not_mem_nil, or_false]; rintro q (rfl | rfl | rfl); exact pr2; exact pr3; exact pr13)).1
theorem pr41081 : Pr 41081 := (cert_ok (g := 3) (f := 16) (l := [2, 2, 2, 5, 13, 79]) (by decide +kernel) (by simp only [List.mem_cons, List.not_mem_nil, or_false]; rintro q (rfl | rfl | rfl | rfl | rfl | rfl); exact pr2; exact pr2; exact pr2; exact pr5; exact pr13; exact pr79)).1
theorem pr82163 : Pr 82163 := (cert_ok (g := 2) (f := 17) (l := [2, 41081]) (by decide +kernel) (by simp only [List.mem_cons, List.not_mem_nil, or_false]; rintro q (rfl | rfl); exact pr2; exact pr41081)).1
theorem pr17231 : Pr 17231 := (cert_ok (g := 13) (f := 15) (l := [2, 5, 1723]) (by decide +kernel) (by simp only [List.mem_cons, List.not_mem_nil, or_false]; rintro q (rfl | rfl | rfl); exact pr2; exact pr5; exact pr1723)).1
theorem pr137849 : Pr 137849 := (cert_ok (g := 3) (f := 18) (l := [2, 2, 2, 17231]) (by decide +kernel) (by simp only [List.mem_cons, List.not_mem_nil, or_false]; rintro q (rfl | rfl | rfl | rfl); exact pr2; exact pr2; exact pr2; exact pr17231)).1
theorem pr67 : Pr 67 := (cert_ok (g := 2) (f := 7) (l := [2, 3, 11]) (by decide +kernel) (by simp only [List.mem_cons, List.not_mem_nil, or_false]; rintro q (rfl | rfl | rfl); exact pr2; exact pr3; exact pr11)).1
theorem pr22111 : Pr 22111 := (cert_ok (g := 6) (f := 15) (l := [2, 3, 5, 11, 67]) (by decide +kernel) (by simp only [List.mem_cons, List.not_mem_nil, or_false]; rintro q (rfl | rfl | rfl | rfl | rfl); exact pr2; exact pr3; exact pr5; exact pr11; exact pr67)).1
theorem pr132667 : Pr 132667 := (cert_ok (g := 5) (f := 18) (l := [2, 3, 22111]) (by decide +kernel) (by simp only [List.mem_cons, List.not_mem_nil, or_false]; rintro q (rfl | rfl | rfl); exact pr2; exact pr3; exact pr22111)).1
theorem pr3044861653679985063343 : Pr 3044861653679985063343 := (cert_ok (g := 5) (f := 72) (l := [2, 3, 11, 30703, 82163, 132667, 137849]) (by decide +kernel) (by simp only [List.mem_cons, List.not_mem_nil, or_false]; rintro q (rfl | rfl | rfl | rfl | rfl | rfl | rfl); exact pr2; exact pr3; exact pr11; exact pr30703; exact pr82163; exact pr132667; exact pr137849)).1
theorem pr198211423230930754013084525763697 : Pr 198211423230930754013084525763697 := (cert_ok (g := 5) (f := 108) (l := [2, 2, 2, 2, 3, 23, 58964693, 3044861653679985063343]) (by decide +kernel) (by simp only [List.mem_cons, List.not_mem_nil, or_false]; rintro q (rfl | rfl | rfl | rfl | rfl | rfl | rfl | rfl); exact pr2; exact pr2; exact pr2; exact pr2; exact pr3; exact pr23; exact pr58964693; exact pr3044861653679985063343)).1
theorem pr269 : Pr 269 := (cert_ok (g := 2) (f := 9) (l := [2, 2, 67]) (by decide +kernel) (by simp only [List.mem_cons, List.not_mem_nil, or_false]; rintro q (rfl | rfl | rfl); exact pr2; exact pr2; exact pr67)).1
theorem pr73 : Pr 73 := (cert_ok (g := 5) (f := 7) (l := [2, 2, 2, 3, 3]) (by decide +kernel) (by simp only [List.mem_cons, List.not_mem_nil, or_false]; rintro q (rfl | rfl | rfl | rfl | rfl); exact pr2; exact pr2; exact pr2; exact pr3; exact pr3)).1
theorem pr307 : Pr 307 := (cert_ok (g := 5) (f := 9) (l := [2, 3, 3, 17]) (by decide +kernel) (by simp only [List.mem_cons, List.not_mem_nil, or_false]; rintro q (rfl | rfl | rfl | rfl); exact pr2; exact pr3; exact pr3; exact pr17)).1
theorem pr113 : Pr 113 := (cert_ok (g := 3) (f := 7) (l := [2, 2, 2, 2, 7]) (by decide +kernel) (by simp only [List.mem_cons, List.not_mem_nil, or_false]; rintro q (rfl | rfl | rfl | rfl | rfl); exact pr2; exact pr2; exact pr2; exact pr2; exact pr7)).1
theorem pr2939 : Pr 2939 := (cert_ok (g := 2) (f := 12) (l := [2, 13, 113]) (by decide +kernel) (by simp only [List.mem_cons, List.not_mem_nil, or_false]; rintro q (rfl | rfl | rfl); exact pr2; exact pr13; exact pr113)).1
theorem pr5879 : Pr 5879 := (cert_ok (g := 11) (f := 13) (l := [2, 2939]) (by decide +kernel) (by simp only [List.mem_cons, List.not_mem_nil, or_false]; rintro q (rfl | rfl); exact pr2; exact pr2939)).1
theorem pr292386187 : Pr 292386187 := (cert_ok (g := 2) (f := 29) (l := [2, 3, 3, 3, 3, 307, 5879]) (by decide +kernel) (by simp only [List.mem_cons, List.not_mem_nil, or_false]; rintro q (rfl | rfl | rfl | rfl | rfl | rfl | rfl); exact pr2; exact pr3; exact pr3; exact pr3; exact pr3; exact pr307; exact pr5879)).1
theorem pr213441916511 : Pr 213441916511 := (cert_ok (g := 13) (f := 38) (l := [2, 5, 73, 292386187]) (by decide +kernel) (by simp only [List.mem_cons, List.not_mem_nil, or_false]; rintro q (rfl | rfl | rfl | rfl); exact pr2; exact pr5; exact pr73; exact pr292386187)).1
theorem pr1361 : Pr 1361 := (cert_ok (g := 3) (f := 11) (l := [2, 2, 2, 2, 5, 17]) (by decide +kernel) (by simp only [List.mem_cons, List.not_mem_nil, or_false]; rintro q (rfl | rfl | rfl | rfl | rfl | rfl); exact pr2; exact pr2; exact pr2; exact pr2; exact pr5; exact pr17)).1
theorem pr2851 : Pr 2851 := (cert_ok (g := 2) (f := 12) (l := [2, 3, 5, 5, 19]) (by decide +kernel) (by simp only [List.mem_cons, List.not_mem_nil, or_false]; rintro q (rfl | rfl | rfl | rfl | rfl); exact pr2; exact pr3; exact pr5; exact pr5; exact pr19)).1
theorem pr2551 : Pr 2551 := (cert_ok (g := 6) (f := 12) (l := [2, 3, 5, 5, 17]) (by decide +kernel) (by simp only [List.mem_cons, List.not_mem_nil, or_false]; rintro q (rfl | rfl | rfl | rfl | rfl); exact pr2; exact pr3; exact pr5; exact pr5; exact pr17)).1
theorem pr1224481 : Pr 1224481 := (cert_ok (g := 13) (f := 21) (l := [2, 2, 2, 2, 2, 3, 5, 2551]) (by decide +kernel) (by simp only [List.mem_cons, List.not_mem_nil, or_false]; rintro q (rfl | rfl | rfl | rfl | rfl | rfl | rfl | rfl); exact pr2; exact pr2; exact pr2; exact pr2; exact pr2; exact pr3; exact pr5; exact pr2551)).1
theorem pr3797 : Pr 3797 := (cert_ok (g := 2) (f := 12) (l := [2, 2, 13, 73]) (by decide +kernel) (by simp only [List.mem_cons, List.not_mem_nil, or_false]; rintro q (rfl | rfl | rfl | rfl); exact pr2; exact pr2; exact pr13; exact pr73)).1
theorem pr531581 : Pr 531581 := (cert_ok (g := 2) (f := 20) (l := [2, 2, 5, 7, 3797]) (by decide +kernel) (by simp only [List.mem_cons, List.not_mem_nil, or_false]; rintro q (rfl | rfl | rfl | rfl | rfl); exact pr2; exact pr2; exact pr5; exact pr7; exact pr3797)).1
theorem pr1257559732178653 : Pr 1257559732178653 := (cert_ok (g := 2) (f := 51) (l := [2, 2, 3, 7, 23, 531581, 1224481]) (by decide +kernel) (by simp only [List.mem_cons, List.not_mem_nil, or_false]; rintro q (rfl | rfl | rfl | rfl | rfl | rfl | rfl); exact pr2; exact pr2; exact pr3; exact pr7; exact pr23; exact pr531581; exact pr1224481)).1
theorem pr4434155615661930479 : Pr 4434155615661930479 := (cert_ok (g := 17) (f := 62) (l := [2, 41, 43, 1257559732178653]) (by decide +kernel) (by simp only [List.mem_cons, List.not_mem_nil, or_false]; rintro q (rfl | rfl | rfl | rfl); exact pr2; exact pr41; exact pr43; exact pr1257559732178653)).1
theorem pr172054593956031949258510691 : Pr 172054593956031949258510691 := (cert_ok (g := 2) (f := 88) (l := [2, 5, 1361, 2851, 4434155615661930479]) (by decide +kernel) (by simp only [List.mem_cons, List.not_mem_nil, or_false]; rintro q (rfl | rfl | rfl | rfl | rfl); exact pr2; exact pr5; exact pr1361; exact pr2851; exact pr4434155615661930479)).1
theorem pr19757330305831588566944191468367130476339 : Pr 19757330305831588566944191468367130476339 := (cert_ok (g := 2) (f := 134) (l := [2, 269, 213441916511, 172054593956031949258510691]) (by decide +kernel) (by simp only [List.mem_cons, List.not_mem_nil, or_false]; rintro q (rfl | rfl | rfl | rfl); exact pr2; exact pr269; exact pr213441916511; exact pr172054593956031949258510691)).1
theorem pr276602624281642239937218680557139826668747 : Pr 276602624281642239937218680557139826668747 := (cert_ok (g := 2) (f := 138) (l := [2, 7, 19757330305831588566944191468367130476339]) (by decide +kernel) (by simp only [List.mem_cons, List.not_mem_nil, or_false]; rintro q (rfl | rfl | rfl); exact pr2; exact pr7; exact pr19757330305831588566944191468367130476339)).1
def Lo : Nat := 7237005577332262213973186563042994240857116359379907606001950938285454250989
theorem Lo_pr : Pr Lo := (cert_ok (g := 2) (f := 253) (l := [2, 2, 3, 11, 198211423230930754013084525763697, 276602624281642239937218680557139826668747]) (by decide +kernel) (by simp only [List.mem_cons, List.not_mem_nil, or_false]; rintro q (rfl | rfl | rfl | rfl | rfl | rfl); exact pr2; exact pr2; exact pr3; exact pr11; exact pr198211423230930754013084525763697; exact pr276602624281642239937218680557139826668747)).1
section
variable {p : Nat} [NeZero p]
structure Fld (p : Nat) [NeZero p] (d : Fin p) : Prop where
 inv : ∀ a : Fin p, a ≠ 0 → ∃ b, a * b = 1
 two : (2 : Fin p) ≠ 0
 nsq : ∀ a b : Fin p, a * a = d * (b * b) → b = 0
 dd : 121666 * d = (121665 : Fin p)
 big : (121666 : Fin p) ≠ 0
variable {d : Fin p}
theorem Fld.dom (h : Fld p d) {a b : Fin p} (e : a * b = 0) : a = 0 ∨ b = 0 := by
 by_cases ha : a = 0
 ·exact Or.inl ha
 obtain ⟨c, hc⟩ := h.inv a ha
 right
 have : b = (a * c) * b := by rw [hc]; grind
 rw [this]; grind
theorem Fld.can (h : Fld p d) {a b c : Fin p} (ha : a ≠ 0) (e : a * b = a * c) : b = c := by
 have : a * (b - c) = 0 := by grind
 rcases h.dom this with h1 | h1
 ·exact absurd h1 ha
 grind
def On (d x y : Fin p) : Prop := x*x + y*y = 1 + d*(x*x)*(y*y)
theorem Fld.comp (h : Fld p d) {x1 y1 x2 y2 e : Fin p} (h1 : On d x1 y1) (h2 : On d x2 y2) (he : e * e = 1) (hd : d*x1*x2*y1*y2 = e) : False := by
 unfold On at h1 h2
 have e0 : e ≠ 0 := fun z => by
  have : (1 : Fin p) = 0 := by rw [← he, z]; grind
  exact h.two (by grind)
 have k1 : (x1 + e*y1)*(x1 + e*y1) = d*((x1*y1*(x2+y2))*(x1*y1*(x2+y2))) := by grind
 have k2 : (x1 - e*y1)*(x1 - e*y1) = d*((x1*y1*(x2-y2))*(x1*y1*(x2-y2))) := by grind
 have z1 := h.nsq _ _ k1
 have z2 := h.nsq _ _ k2
 have a1 : x1 * y1 ≠ 0 := fun z => e0 (by rw [← hd]; grind)
 have b1 : x2 + y2 = 0 := by rcases h.dom z1 with z | z; exact absurd z a1; exact z
 have b2 : x2 - y2 = 0 := by rcases h.dom z2 with z | z; exact absurd z a1; exact z
 have c1 : 2 * x2 = 0 := by grind
 rcases h.dom c1 with z | z
 ·exact h.two z
 exact e0 (by rw [← hd, z]; grind)
theorem Fld.d1 (h : Fld p d) {x1 y1 x2 y2 : Fin p} (h1 : On d x1 y1) (h2 : On d x2 y2) : 1 + d*x1*x2*y1*y2 ≠ 0 := fun z =>
 h.comp (e := -1) h1 h2 (by grind) (by grind)
theorem Fld.d2 (h : Fld p d) {x1 y1 x2 y2 : Fin p} (h1 : On d x1 y1) (h2 : On d x2 y2) : 1 - d*x1*x2*y1*y2 ≠ 0 := fun z =>
 h.comp (e := 1) h1 h2 (by grind) (by grind)
theorem closed (x1 y1 x2 y2 : Fin p)
 (e1 : x1^2 + y1^2 = 1 + d*x1^2*y1^2) (e2 : x2^2 + y2^2 = 1 + d*x2^2*y2^2) :
 (x1*y2+x2*y1)^2*(1-d*x1*x2*y1*y2)^2 + (y1*y2-x1*x2)^2*(1+d*x1*x2*y1*y2)^2 = (1-d*x1*x2*y1*y2)^2*(1+d*x1*x2*y1*y2)^2 + d*(x1*y2+x2*y1)^2*(y1*y2-x1*x2)^2 := by
 grind
structure Sum (d x1 y1 x2 y2 x3 y3 : Fin p) : Prop where
 x : x3 * (1 + d*x1*x2*y1*y2) = x1*y2 + x2*y1
 y : y3 * (1 - d*x1*x2*y1*y2) = y1*y2 - x1*x2
theorem Fld.sum_on (h : Fld p d) {x1 y1 x2 y2 x3 y3 : Fin p} (h1 : On d x1 y1) (h2 : On d x2 y2) (s : Sum d x1 y1 x2 y2 x3 y3) : On d x3 y3 := by
 have n1 := h.d1 h1 h2
 have n2 := h.d2 h1 h2
 obtain ⟨sx, sy⟩ := s
 unfold On at *
 obtain ⟨u, hu⟩ : ∃ u, u = d*x1*x2*y1*y2 := ⟨_, rfl⟩
 have key := closed (d := d) x1 y1 x2 y2 (by grind) (by grind)
 rw [← sx, ← sy] at key
 rw [← hu] at key n1 n2
 clear h1 h2 sx sy hu
 have k2 : ((1+u)*(1+u)*((1-u)*(1-u))) * (x3*x3 + y3*y3) = ((1+u)*(1+u)*((1-u)*(1-u))) * (1 + d*(x3*x3)*(y3*y3)) := by grind
 refine h.can ?_ k2
 intro z
 rcases h.dom z with z | z <;> rcases h.dom z with z | z <;> contradiction
theorem Fld.sum_uniq (h : Fld p d) {x1 y1 x2 y2 x3 y3 x4 y4 : Fin p} (h1 : On d x1 y1) (h2 : On d x2 y2) (s : Sum d x1 y1 x2 y2 x3 y3) (t : Sum d x1 y1 x2 y2 x4 y4) : x3 = x4 ∧ y3 = y4 := by
 have n1 := h.d1 h1 h2
 have n2 := h.d2 h1 h2
 exact ⟨h.can n1 (by rw [show (1 + d*x1*x2*y1*y2) * x3 = x3 * (1 + d*x1*x2*y1*y2) by grind, s.x, ← t.x]; grind), h.can n2 (by rw [show (1 - d*x1*x2*y1*y2) * y3 = y3 * (1 - d*x1*x2*y1*y2) by grind, s.y, ← t.y]; grind)⟩
theorem Fld.sum_ex (h : Fld p d) {x1 y1 x2 y2 : Fin p} (h1 : On d x1 y1) (h2 : On d x2 y2) : ∃ x3 y3, Sum d x1 y1 x2 y2 x3 y3 := by
 obtain ⟨a, ha⟩ := h.inv _ (h.d1 h1 h2)
 obtain ⟨b, hb⟩ := h.inv _ (h.d2 h1 h2)
 exact ⟨(x1*y2+x2*y1)*a, (y1*y2-x1*x2)*b, ⟨by rw [show ∀ q r s : Fin p, q*r*s = q*(s*r) by intro q r s; grind, ha]; grind, by rw [show ∀ q r s : Fin p, q*r*s = q*(s*r) by intro q r s; grind, hb]; grind⟩⟩
theorem Sum.comm {x1 y1 x2 y2 x3 y3 : Fin p} (s : Sum d x1 y1 x2 y2 x3 y3) : Sum d x2 y2 x1 y1 x3 y3 := ⟨by have := s.x; grind, by have := s.y; grind⟩
theorem assoc_x (x1 y1 x2 y2 x3 y3 : Fin p)
 (e1 : x1^2 + y1^2 = 1 + d*x1^2*y1^2) (e2 : x2^2 + y2^2 = 1 + d*x2^2*y2^2) (e3 : x3^2 + y3^2 = 1 + d*x3^2*y3^2) :
 ((x1*y2+x2*y1)*(1-d*x1*x2*y1*y2)*y3 + x3*(y1*y2-x1*x2)*(1+d*x1*x2*y1*y2)) * ((1+d*x2*x3*y2*y3)*(1-d*x2*x3*y2*y3) + d*(x2*y3+x3*y2)*(y2*y3-x2*x3)*x1*y1)
 = (x1*(y2*y3-x2*x3)*(1+d*x2*x3*y2*y3) + (x2*y3+x3*y2)*(1-d*x2*x3*y2*y3)*y1) * ((1+d*x1*x2*y1*y2)*(1-d*x1*x2*y1*y2) + d*(x1*y2+x2*y1)*(y1*y2-x1*x2)*x3*y3) := by
 grind
theorem assoc_y (x1 y1 x2 y2 x3 y3 : Fin p)
 (e1 : x1^2 + y1^2 = 1 + d*x1^2*y1^2) (e2 : x2^2 + y2^2 = 1 + d*x2^2*y2^2) (e3 : x3^2 + y3^2 = 1 + d*x3^2*y3^2) :
 ((y1*y2-x1*x2)*(1+d*x1*x2*y1*y2)*y3 - x3*(x1*y2+x2*y1)*(1-d*x1*x2*y1*y2)) * ((1+d*x2*x3*y2*y3)*(1-d*x2*x3*y2*y3) - d*(x2*y3+x3*y2)*(y2*y3-x2*x3)*x1*y1)
 = (y1*(y2*y3-x2*x3)*(1+d*x2*x3*y2*y3) - (x2*y3+x3*y2)*(1-d*x2*x3*y2*y3)*x1) * ((1+d*x1*x2*y1*y2)*(1-d*x1*x2*y1*y2) - d*(x1*y2+x2*y1)*(y1*y2-x1*x2)*x3*y3) := by
 grind
theorem Fld.assoc (h : Fld p d) {x1 y1 x2 y2 x3 y3 a b c e f g k l : Fin p} (h1 : On d x1 y1) (h2 : On d x2 y2) (h3 : On d x3 y3)
  (s12 : Sum d x1 y1 x2 y2 a b) (s123 : Sum d a b x3 y3 c e) (s23 : Sum d x2 y2 x3 y3 f g) (t : Sum d x1 y1 f g k l) : c = k ∧ e = l := by
 have o12 := h.sum_on h1 h2 s12
 have o23 := h.sum_on h2 h3 s23
 have p1 := h.d1 h1 h2
 have p2 := h.d2 h1 h2
 have q1 := h.d1 h2 h3
 have q2 := h.d2 h2 h3
 have r1 := h.d1 o12 h3
 have r2 := h.d2 o12 h3
 have t1 := h.d1 h1 o23
 have t2 := h.d2 h1 o23
 have kx := assoc_x (d := d) x1 y1 x2 y2 x3 y3 (by unfold On at h1; grind) (by unfold On at h2; grind) (by unfold On at h3; grind)
 have ky := assoc_y (d := d) x1 y1 x2 y2 x3 y3 (by unfold On at h1; grind) (by unfold On at h2; grind) (by unfold On at h3; grind)
 obtain ⟨sx, sy⟩ := s12
 obtain ⟨ux, uy⟩ := s23
 obtain ⟨vx, vy⟩ := s123
 obtain ⟨wx, wy⟩ := t
 rw [← sx, ← sy, ← ux, ← uy] at kx ky
 obtain ⟨u, hu⟩ : ∃ u, u = d*x1*x2*y1*y2 := ⟨_, rfl⟩
 obtain ⟨v, hv⟩ : ∃ u, u = d*x2*x3*y2*y3 := ⟨_, rfl⟩
 rw [← hu, ← hv] at kx ky
 rw [← hu] at p1 p2
 rw [← hv] at q1 q2
 clear hu hv sx sy ux uy
 have fx : ((1+u)*(1-u)*((1+v)*(1-v))) * ((a*y3 + x3*b) * (1 + d*x1*f*y1*g)) = ((1+u)*(1-u)*((1+v)*(1-v))) * ((x1*g + f*y1) * (1 + d*a*x3*b*y3)) := by
  clear ky h1 h2 h3 o12 o23 r1 r2 t1 t2 vx vy wx wy p1 p2 q1 q2
  grind
 have fy : ((1+u)*(1-u)*((1+v)*(1-v))) * ((b*y3 - a*x3) * (1 - d*x1*f*y1*g)) = ((1+u)*(1-u)*((1+v)*(1-v))) * ((y1*g - x1*f) * (1 - d*a*x3*b*y3)) := by
  clear kx fx h1 h2 h3 o12 o23 r1 r2 t1 t2 vx vy wx wy p1 p2 q1 q2
  grind
 have nz : (1+u)*(1-u)*((1+v)*(1-v)) ≠ 0 := fun z => by
  rcases h.dom z with z | z <;> rcases h.dom z with z | z <;> contradiction
 have gx := h.can nz fx
 have gy := h.can nz fy
 constructor
 ·refine h.can (a := (1 + d*a*x3*b*y3) * (1 + d*x1*f*y1*g)) (fun z => by rcases h.dom z with z | z <;> contradiction) ?_
  have vx' : c * (1 + d*a*x3*b*y3) = a*y3 + x3*b := vx
  have wx' : k * (1 + d*x1*f*y1*g) = x1*g + f*y1 := wx
  rw [← vx', ← wx'] at gx
  clear gy fx fy kx ky nz h1 h2 h3 o12 o23 r1 r2 t1 t2 vx vy wx wy p1 p2 q1 q2 vx' wx'
  grind
 refine h.can (a := (1 - d*a*x3*b*y3) * (1 - d*x1*f*y1*g)) (fun z => by rcases h.dom z with z | z <;> contradiction) ?_
 have vy' : e * (1 - d*a*x3*b*y3) = b*y3 - a*x3 := vy
 have wy' : l * (1 - d*x1*f*y1*g) = y1*g - x1*f := wy
 rw [← vy', ← wy'] at gy
 clear gx fx fy kx ky nz h1 h2 h3 o12 o23 r1 r2 t1 t2 vx vy wx wy p1 p2 q1 q2 vy' wy'
 grind
theorem Fld.minus (h : Fld p d) {x1 y1 xB yB x2 y2 : Fin p} (h1 : On d x1 y1) (hB : On d xB yB) (s : Sum d x1 y1 xB yB x2 y2) : yB * (1 + d*x1*x2*y1*y2) = y1*y2 + x1*x2 := by
 have hm : On d (-x1) y1 := by unfold On at *; grind
 have h2 := h.sum_on h1 hB s
 have s12 : Sum d (-x1) y1 x1 y1 0 1 := ⟨by grind, by unfold On at h1; grind⟩
 have s123 : Sum d 0 1 xB yB xB yB := ⟨by grind, by grind⟩
 obtain ⟨k, l, t⟩ := h.sum_ex hm h2
 obtain ⟨_, e⟩ := h.assoc hm h1 hB s12 s123 s t
 have ty := t.y
 rw [← e] at ty
 clear e t s123 s12 h2 hm s hB h1
 grind
theorem dadd_id (x1 y1 x2 y2 : Fin p) (e1 : x1^2 + y1^2 = 1 + d*x1^2*y1^2) (e2 : x2^2 + y2^2 = 1 + d*x2^2*y2^2) :
  (1 - d*x1*x2*y1*y2 + (y1*y2 - x1*x2)) * (1 + d*x1*x2*y1*y2 + (y1*y2 + x1*x2)) * (y2 - y1)^2 = (1 - d*x1*x2*y1*y2 - (y1*y2 - x1*x2)) * (1 + d*x1*x2*y1*y2 - (y1*y2 + x1*x2)) * (y1 + y2)^2 := by
 grind
theorem add_ne {a : Fin p} (n : a ≠ -1) : 1 + a ≠ 0 := fun z => n (by grind)
theorem sub_ne {a : Fin p} (n : a ≠ 1) : 1 - a ≠ 0 := fun z => n (by grind)
def Rep (y X Z : Fin p) : Prop := ∃ l, l ≠ 0 ∧ X = l * (1 + y) ∧ Z = l * (1 - y)
theorem Fld.rep (h : Fld p d) {y X Z : Fin p} (hc : X * (1 - y) = Z * (1 + y)) (hn : ¬ (X = 0 ∧ Z = 0)) : Rep y X Z := by
 obtain ⟨c, hc2⟩ := h.inv 2 h.two
 have e1 : (X + Z) * y = X - Z := by grind
 refine ⟨(X + Z) * c, fun z => hn ?_, ?_, ?_⟩
 ·have c0 : c ≠ 0 := fun z => by rw [z] at hc2; exact h.two (by grind)
  have s0 : X + Z = 0 := by rcases h.dom z with z | z; exact z; exact absurd z c0
  have d0 : X - Z = 0 := by rw [← e1, s0]; grind
  have a0 : 2 * X = 0 := by grind
  have x0 : X = 0 := by rcases h.dom a0 with z | z; exact absurd z h.two; exact z
  exact ⟨x0, by rw [x0] at s0; grind⟩
 ·clear hn; grind
 clear hn; grind
theorem Fld.dadd (h : Fld p d) {x1 y1 xB yB x2 y2 x3 y3 u X1 Z1 X2 Z2 : Fin p} (h1 : On d x1 y1) (hB : On d xB yB) (s : Sum d x1 y1 xB yB x2 y2) (t : Sum d x1 y1 x2 y2 x3 y3)
  (hu : u * (1 - yB) = 1 + yB) (n1 : yB ≠ 1) (n2 : yB ≠ -1) (r1 : Rep y1 X1 Z1) (r2 : Rep y2 X2 Z2) :
  Rep y3 (((X2 - Z2) * (X1 + Z1) + (X2 + Z2) * (X1 - Z1)) * ((X2 - Z2) * (X1 + Z1) + (X2 + Z2) * (X1 - Z1))) (u * (((X2 - Z2) * (X1 + Z1) - (X2 + Z2) * (X1 - Z1)) * ((X2 - Z2) * (X1 + Z1) - (X2 + Z2) * (X1 - Z1)))) := by
 have h2 := h.sum_on h1 hB s
 have hm := h.minus h1 hB s
 have ty := t.y
 have q1 := h.d1 h1 h2
 have q2 := h.d2 h1 h2
 have id := dadd_id (d := d) x1 y1 x2 y2 (by unfold On at h1; grind) (by unfold On at h2; grind)
 obtain ⟨l, l0, e1, e2⟩ := r1
 obtain ⟨m, m0, e3, e4⟩ := r2
 have es : (X2 - Z2) * (X1 + Z1) + (X2 + Z2) * (X1 - Z1) = 4*(l*m)*(y1+y2) := by rw [e1, e2, e3, e4]; clear id ty hm q1 q2; grind
 have et : (X2 - Z2) * (X1 + Z1) - (X2 + Z2) * (X1 - Z1) = 4*(l*m)*(y2-y1) := by rw [e1, e2, e3, e4]; clear id ty hm q1 q2 es; grind
 rw [es, et]
 have n1' : 1 - yB ≠ 0 := sub_ne n1
 have n2' : 1 + yB ≠ 0 := add_ne n2
 have u0 : u ≠ 0 := fun z => n2' (by rw [← hu, z]; grind)
 have l4 : (4 : Fin p) * (l*m) ≠ 0 := fun z => by
  have e4 : (4 : Fin p) = 2*2 := by grind
  rw [e4] at z
  rcases h.dom z with z | z
  ·rcases h.dom z with z | z <;> exact h.two z
  ·rcases h.dom z with z | z <;> contradiction
 obtain ⟨E, hE⟩ : ∃ E, E = d*x1*x2*y1*y2 := ⟨_, rfl⟩
 rw [← hE] at q1 q2 hm ty id
 rw [← hm, ← ty] at id
 have core : (1 + y3) * (1 + yB) * ((y2 - y1)*(y2 - y1)) = (1 - y3) * (1 - yB) * ((y1 + y2)*(y1 + y2)) := by
  refine h.can (a := (1 - E) * (1 + E)) (fun z => by rcases h.dom z with z | z <;> contradiction) ?_
  clear l4 u0 n1' n2' es et e1 e2 e3 e4 hu n1 n2 q1 q2 hm ty h1 hB s t h2 hE l0 m0
  grind
 refine h.rep ?_ ?_
 ·refine h.can n1' ?_
  rw [← hu] at core
  clear l4 u0 n1' n2' es et e1 e2 e3 e4 n1 n2 q1 q2 hm ty h1 hB s t h2 hE l0 m0 id hu
  grind
 rintro ⟨zx, zz⟩
 have a0 : y1 + y2 = 0 := by
  rcases h.dom zx with z | z <;> rcases h.dom z with z | z <;> first | exact absurd z l4 | exact z
 have b0 : y2 - y1 = 0 := by
  rcases h.dom zz with z | z
  ·exact absurd z u0
  ·rcases h.dom z with z | z <;> rcases h.dom z with z | z <;> first | exact absurd z l4 | exact z
 have c0 : 2 * y1 = 0 := by clear id core; grind
 have y10 : y1 = 0 := by rcases h.dom c0 with z | z; exact absurd z h.two; exact z
 have y20 : y2 = 0 := by rw [y10] at a0; clear id core; grind
 unfold On at h1 h2
 rw [y10] at h1
 rw [y20] at h2
 have k1 : (x1*x2)*(x1*x2) = 1 := by clear id core hm ty; grind
 have k2 : yB = x1*x2 := by rw [hE, y10, y20] at hm; clear id core ty k1 h1 h2; grind
 have k3 : (yB - 1) * (yB + 1) = 0 := by rw [k2]; clear id core hm ty; grind
 rcases h.dom k3 with z | z
 ·exact n1 (by clear id core hm ty k3; grind)
 exact n2 (by clear id core hm ty k3; grind)
theorem Fld.dbl (h : Fld p d) {x y x2 y2 X Z : Fin p} (h1 : On d x y) (s : Sum d x y x y x2 y2) (r : Rep y X Z) :
  Rep y2 (((X + Z) * (X + Z)) * ((X - Z) * (X - Z))) (((X + Z) * (X + Z) - (X - Z) * (X - Z)) * ((X + Z) * (X + Z) + 121665 * ((X + Z) * (X + Z) - (X - Z) * (X - Z)))) := by
 obtain ⟨l, l0, e1, e2⟩ := r
 have ty := s.y
 have q2 := h.d2 h1 h1
 have dd := h.dd
 have ea : X + Z = 2*l := by rw [e1, e2]; clear dd ty; grind
 have ed : X - Z = 2*l*y := by rw [e1, e2]; clear dd ty; grind
 rw [ea, ed]
 obtain ⟨K, hK⟩ : ∃ K, K = 1 + 121665 * (1 - y*y) := ⟨_, rfl⟩
 unfold On at h1
 have kk : K * (1 - x*x) = y*y := by
  refine h.can h.big ?_
  rw [hK]
  clear ty q2 ea ed e1 e2 hK
  grind
 have K0 : K ≠ 0 := fun z => by
  have yy : y*y = 0 := by rw [← kk, z]; clear kk; grind
  rw [yy] at hK
  exact h.big (by rw [z] at hK; clear dd ty kk; grind)
 refine ⟨8*(l*l*l*l)*K*(1 - d*x*x*y*y), fun z => ?_, ?_, ?_⟩
 ·have e8 : (8 : Fin p) = 2*2*2 := by clear dd; grind
  rw [e8] at z
  have := @h.dom
  rcases h.dom z with z | z
  ·rcases h.dom z with z | z
   ·rcases h.dom z with z | z
    ·rcases h.dom z with z | z
     ·rcases h.dom z with z | z <;> exact h.two z
     exact h.two z
    rcases h.dom z with z | z
    ·rcases h.dom z with z | z
     ·rcases h.dom z with z | z <;> exact l0 z
     exact l0 z
    exact l0 z
   exact K0 z
  exact q2 z
 ·clear dd q2 ea ed e1 e2 K0 hK l0
  grind
 clear dd q2 ea ed e1 e2 K0 l0
 grind
structure Pt (d : Fin p) where
 x : Fin p
 y : Fin p
 on : On d x y
theorem Pt.eq {P Q : Pt d} (h1 : P.x = Q.x) (h2 : P.y = Q.y) : P = Q := by
 cases P; cases Q; simp_all
theorem Fld.add_ex (h : Fld p d) (P Q : Pt d) : ∃ R : Pt d, Sum d P.x P.y Q.x Q.y R.x R.y := by
 obtain ⟨x, y, s⟩ := h.sum_ex P.on Q.on
 exact ⟨⟨x, y, h.sum_on P.on Q.on s⟩, s⟩
noncomputable def Fld.add (h : Fld p d) (P Q : Pt d) : Pt d := Classical.choose (h.add_ex P Q)
theorem Fld.add_sum (h : Fld p d) (P Q : Pt d) : Sum d P.x P.y Q.x Q.y (h.add P Q).x (h.add P Q).y := Classical.choose_spec (h.add_ex P Q)
theorem Fld.add_eq (h : Fld p d) {P Q R : Pt d} (s : Sum d P.x P.y Q.x Q.y R.x R.y) : h.add P Q = R := by
 have := h.sum_uniq P.on Q.on (h.add_sum P Q) s
 exact Pt.eq this.1 this.2
theorem Fld.add_comm (h : Fld p d) (P Q : Pt d) : h.add P Q = h.add Q P := h.add_eq (h.add_sum Q P).comm
theorem Fld.add_assoc (h : Fld p d) (P Q R : Pt d) : h.add (h.add P Q) R = h.add P (h.add Q R) := by
 have := h.assoc P.on Q.on R.on (h.add_sum P Q) (h.add_sum (h.add P Q) R) (h.add_sum Q R) (h.add_sum P (h.add Q R))
 exact Pt.eq this.1 this.2
def Pt.zero (d : Fin p) : Pt d := ⟨0, 1, by unfold On; grind⟩
def Pt.neg (P : Pt d) : Pt d := ⟨-P.x, P.y, by have := P.on; unfold On at *; grind⟩
theorem Fld.add_zero (h : Fld p d) (P : Pt d) : h.add P (Pt.zero d) = P := h.add_eq ⟨by show P.x * (1 + d*P.x*0*P.y*1) = P.x*1 + 0*P.y; grind, by show P.y * (1 - d*P.x*0*P.y*1) = P.y*1 - P.x*0; grind⟩
theorem Fld.add_neg (h : Fld p d) (P : Pt d) : h.add P P.neg = Pt.zero d := h.add_eq ⟨by show 0 * (1 + d*P.x*(-P.x)*P.y*P.y) = P.x*P.y + (-P.x)*P.y; grind, by have := P.on; unfold On at this; show 1 * (1 - d*P.x*(-P.x)*P.y*P.y) = P.y*P.y - P.x*(-P.x); grind⟩
noncomputable def Fld.mul (h : Fld p d) (P : Pt d) : Nat → Pt d
 | 0 => Pt.zero d
 | n + 1 => h.add (h.mul P n) P
theorem Fld.mul_add (h : Fld p d) (P : Pt d) (m : Nat) : ∀ n, h.mul P (m + n) = h.add (h.mul P m) (h.mul P n)
 | 0 => (h.add_zero _).symm
 | n + 1 => by
  show h.add (h.mul P (m + n)) P = h.add (h.mul P m) (h.add (h.mul P n) P)
  rw [h.mul_add P m n, h.add_assoc]
theorem Fld.mul_zero (h : Fld p d) : ∀ n, h.mul (Pt.zero d) n = Pt.zero d
 | 0 => rfl
 | n + 1 => by show h.add (h.mul _ n) _ = _; rw [h.mul_zero n, h.add_zero]
theorem Fld.mul_mul (h : Fld p d) (P : Pt d) (m : Nat) : ∀ n, h.mul (h.mul P m) n = h.mul P (m * n)
 | 0 => rfl
 | n + 1 => by
  show h.add (h.mul (h.mul P m) n) (h.mul P m) = _
  rw [h.mul_mul P m n, Nat.mul_succ, h.mul_add]
structure St (p : Nat) where
 x0 : Fin p
 z0 : Fin p
 x1 : Fin p
 z1 : Fin p
def dblX (X Z : Fin p) : Fin p := ((X + Z) * (X + Z)) * ((X - Z) * (X - Z))
def dblZ (X Z : Fin p) : Fin p := ((X + Z) * (X + Z) - (X - Z) * (X - Z)) * ((X + Z) * (X + Z) + 121665 * ((X + Z) * (X + Z) - (X - Z) * (X - Z)))
def addX (X1 Z1 X2 Z2 : Fin p) : Fin p := ((X2 - Z2) * (X1 + Z1) + (X2 + Z2) * (X1 - Z1)) * ((X2 - Z2) * (X1 + Z1) + (X2 + Z2) * (X1 - Z1))
def addZ (u X1 Z1 X2 Z2 : Fin p) : Fin p := u * (((X2 - Z2) * (X1 + Z1) - (X2 + Z2) * (X1 - Z1)) * ((X2 - Z2) * (X1 + Z1) - (X2 + Z2) * (X1 - Z1)))
def stepL (u : Fin p) (b : Bool) (s : St p) : St p :=
 if b then ⟨addX s.x1 s.z1 s.x0 s.z0, addZ u s.x1 s.z1 s.x0 s.z0, dblX s.x1 s.z1, dblZ s.x1 s.z1⟩
 else ⟨dblX s.x0 s.z0, dblZ s.x0 s.z0, addX s.x0 s.z0 s.x1 s.z1, addZ u s.x0 s.z0 s.x1 s.z1⟩
def At (h : Fld p d) (P : Pt d) (k : Nat) (s : St p) : Prop := Rep (h.mul P k).y s.x0 s.z0 ∧ Rep (h.mul P (k + 1)).y s.x1 s.z1
theorem Fld.mul_two (h : Fld p d) (P : Pt d) (k : Nat) : h.mul P (2 * k) = h.add (h.mul P k) (h.mul P k) := by rw [Nat.two_mul, h.mul_add]
theorem At.step {h : Fld p d} {P : Pt d} {k : Nat} {s : St p} {u : Fin p} (a : At h P k s) (hu : u * (1 - P.y) = 1 + P.y) (n1 : P.y ≠ 1) (n2 : P.y ≠ -1) (b : Bool) : At h P (2 * k + if b then 1 else 0) (stepL u b s) := by
 obtain ⟨r0, r1⟩ := a
 have e1 : h.add (h.mul P k) P = h.mul P (k + 1) := rfl
 have e2 : h.add (h.mul P (k + 1)) P.neg = h.mul P k := by rw [← e1, h.add_assoc, h.add_neg, h.add_zero]
 have e3 : h.mul P (2 * k + 1) = h.add (h.mul P k) (h.mul P (k + 1)) := by rw [show 2 * k + 1 = k + (k + 1) by omega, h.mul_add]
 have e4 : h.mul P (2 * k + 1 + 1) = h.add (h.mul P (k + 1)) (h.mul P (k + 1)) := by rw [show 2 * k + 1 + 1 = (k + 1) + (k + 1) by omega, h.mul_add]
 cases b
 ·refine ⟨?_, ?_⟩
  ·show Rep (h.mul P (2 * k)).y _ _
   rw [h.mul_two]
   exact h.dbl (h.mul P k).on (h.add_sum _ _) r0
  show Rep (h.mul P (2 * k + 1)).y _ _
  rw [e3]
  exact h.dadd (h.mul P k).on P.on (by have := h.add_sum (h.mul P k) P; rw [e1] at this; exact this) (h.add_sum _ _) hu n1 n2 r0 r1
 refine ⟨?_, ?_⟩
 ·show Rep (h.mul P (2 * k + 1)).y _ _
  rw [e3, h.add_comm]
  exact h.dadd (h.mul P (k + 1)).on P.neg.on (by have := h.add_sum (h.mul P (k + 1)) P.neg; rw [e2] at this; exact this) (h.add_sum _ _) hu n1 n2 r1 r0
 show Rep (h.mul P (2 * k + 1 + 1)).y _ _
 rw [e4]
 exact h.dbl (h.mul P (k + 1)).on (h.add_sum _ _) r1
def runL (u : Fin p) (k : Nat) : Nat → St p → St p
 | 0, s => s
 | n + 1, s => runL u k n (stepL u (decide (k / 2 ^ n % 2 = 1)) s)
theorem At.run {h : Fld p d} {P : Pt d} {u : Fin p} (hu : u * (1 - P.y) = 1 + P.y) (n1 : P.y ≠ 1) (n2 : P.y ≠ -1) (k : Nat) : ∀ (n : Nat) (s : St p), At h P (k / 2 ^ n) s → At h P k (runL u k n s)
 | 0, s, a => by rw [Nat.pow_zero, Nat.div_one] at a; exact a
 | n + 1, s, a => by
  refine At.run hu n1 n2 k n _ ?_
  have := a.step hu n1 n2 (decide (k / 2 ^ n % 2 = 1))
  have e : k / 2 ^ n = 2 * (k / 2 ^ (n + 1)) + if decide (k / 2 ^ n % 2 = 1) then 1 else 0 := by
   have h1 : k / 2 ^ (n + 1) = k / 2 ^ n / 2 := by rw [Nat.pow_succ, Nat.div_div_eq_div_mul]
   rw [h1]
   by_cases hb : k / 2 ^ n % 2 = 1
   ·rw [decide_eq_true hb]
    show k / 2 ^ n = 2 * (k / 2 ^ n / 2) + 1
    omega
   ·rw [decide_eq_false hb]
    show k / 2 ^ n = 2 * (k / 2 ^ n / 2) + 0
    omega
  rw [← e] at this
  exact this
theorem At.start {h : Fld p d} {P : Pt d} {u : Fin p} (hu : u * (1 - P.y) = 1 + P.y) (n1 : P.y ≠ 1) : At h P 0 ⟨1, 0, u, 1⟩ := by
 have z1 : h.mul P 1 = P := by show h.add (Pt.zero d) P = P; rw [h.add_comm, h.add_zero]
 refine ⟨h.rep ?_ (fun z => ?_), ?_⟩
 ·show (1 : Fin p) * (1 - 1) = 0 * (1 + 1)
  grind
 ·have z0 : (1 : Fin p) = 0 := z.1
  exact h.two (by grind)
 show Rep (h.mul P 1).y u 1
 rw [z1]
 refine h.rep (by rw [hu]; grind) (fun z => ?_)
 have z0 : (1 : Fin p) = 0 := z.2
 exact h.two (by grind)
end
instance : NeZero P := ⟨by decide⟩
abbrev F := Fin P
def dd : F := 20800338683988658368647408995589388737092878452977063003340006470870624536394
def bx : F := 9771384041963202563870679428059935816164187996444183106833894008023910952347
def bY : F := 46316835694926478169428394003475163141307993866256225615783033603165251855960
theorem f_pow (a : Nat) (h : a % P ≠ 0) : a ^ (P - 1) % P = 1 := P_cert.2 a (fun hd => h (Nat.mod_eq_zero_of_dvd hd))
theorem val_ne {a : F} (h : a ≠ 0) : a.val % P ≠ 0 := fun e => h (Fin.ext (by rw [Nat.mod_eq_of_lt a.isLt] at e; exact e))
theorem f_inv (a : F) (h : a ≠ 0) : ∃ b, a * b = 1 := by
 refine ⟨Fin.ofNat P (a.val ^ (P - 2)), Fin.ext ?_⟩
 have h1 := f_pow a.val (val_ne h)
 show a.val * (a.val ^ (P - 2) % P) % P = 1 % P
 rw [Nat.mul_mod, Nat.mod_mod, ← Nat.mul_mod, Nat.mul_comm, ← Nat.pow_succ]
 have e : P - 2 + 1 = P - 1 := by decide
 show a.val ^ (P - 2 + 1) % P = _
 rw [e, h1]
 decide
theorem f_nsq (a b : F) (h : a * a = dd * (b * b)) : b = 0 := by
 apply Classical.byContradiction
 intro hb
 have hv : a.val * a.val % P = dd.val * (b.val * b.val) % P := by
  have := congrArg Fin.val h
  have e1 : (a * a).val = a.val * a.val % P := rfl
  have e2 : (dd * (b * b)).val = dd.val * (b.val * b.val % P) % P := rfl
  rw [e1, e2] at this
  rw [this, Nat.mul_mod, Nat.mod_mod, ← Nat.mul_mod]
 have ha : a ≠ 0 := fun ha => by
  rw [ha] at hv
  have h0 : (0 : F).val * (0 : F).val % P = 0 := by decide
  rw [h0] at hv
  have hd := Nat.dvd_of_mod_eq_zero hv.symm
  rcases P_cert.1.2 _ _ hd with h1 | h1
  ·exact absurd (Nat.mod_eq_zero_of_dvd h1) (by decide +kernel)
  ·rcases P_cert.1.2 _ _ h1 with h1 | h1 <;> exact val_ne hb (Nat.mod_eq_zero_of_dvd h1)
 have k : (P - 1) = 2 * ((P - 1) / 2) := by decide
 have p1 : (a.val * a.val) ^ ((P - 1) / 2) % P = 1 := by
  rw [← Nat.pow_two, ← Nat.pow_mul, ← k]; exact f_pow _ (val_ne ha)
 have p2 : (b.val * b.val) ^ ((P - 1) / 2) % P = 1 := by
  rw [← Nat.pow_two, ← Nat.pow_mul, ← k]; exact f_pow _ (val_ne hb)
 rw [Nat.pow_mod, hv, ← Nat.pow_mod, Nat.mul_pow, Nat.mul_mod, p2, Nat.mul_one, Nat.mod_mod] at p1
 rw [pm_pow (f := 255) (by decide)] at p1
 exact absurd p1 (by decide +kernel)
theorem fld : Fld P dd := ⟨f_inv, by decide +kernel, f_nsq, by decide +kernel, by decide +kernel⟩
theorem base_on : On dd bx bY := by unfold On; decide +kernel
def B : Pt dd := ⟨bx, bY, base_on⟩
theorem B_u : (9 : F) * (1 - B.y) = 1 + B.y := by decide +kernel
theorem B_1 : B.y ≠ 1 := by decide +kernel
theorem B_2 : B.y ≠ -1 := by decide +kernel
theorem Lo_z : (runL (9 : F) Lo 253 ⟨1, 0, 9, 1⟩).z0 = 0 := by decide +kernel
theorem y_one {Q : Pt dd} (h : Q.y = 1) : Q = Pt.zero dd := by
 have := Q.on
 unfold On at this
 rw [h] at this
 have e : (1 - dd) * (Q.x * Q.x) = 0 := by grind
 have n : (1 : F) - dd ≠ 0 := by decide +kernel
 have x0 : Q.x = 0 := by
  rcases fld.dom e with z | z
  ·exact absurd z n
  ·rcases fld.dom z with z | z <;> exact z
 exact Pt.eq x0 h
theorem Lo_zero : fld.mul B Lo = Pt.zero dd := by
 have a := At.run (h := fld) B_u B_1 B_2 Lo 253 ⟨1, 0, 9, 1⟩ (by rw [show Lo / 2 ^ 253 = 0 by decide +kernel]; exact At.start B_u B_1)
 obtain ⟨l, l0, _, e⟩ := a.1
 rw [Lo_z] at e
 apply y_one
 rcases fld.dom e.symm with z | z
 ·exact absurd z l0
 grind
theorem mul_cut {Q : Pt dd} {m : Nat} (hm : fld.mul Q m = Pt.zero dd) (k : Nat) : fld.mul Q k = fld.mul Q (k % m) := by
 have e : k = m * (k / m) + k % m := (Nat.div_add_mod k m).symm
 have h1 : fld.mul Q (m * (k / m)) = Pt.zero dd := by rw [← fld.mul_mul, hm, fld.mul_zero]
 have h2 : fld.mul Q (m * (k / m) + k % m) = fld.mul Q (k % m) := by rw [fld.mul_add, h1, fld.add_comm, fld.add_zero]
 rw [← h2, ← e]
theorem B_ord {k : Nat} (h : fld.mul B k = Pt.zero dd) : Lo ∣ k := by
 obtain ⟨m, ⟨hm0, hm1⟩, hmin⟩ := least (Q := fun m => 0 < m ∧ fld.mul B m = Pt.zero dd) Lo ⟨by decide +kernel, Lo_zero⟩
 have cut : ∀ j, fld.mul B j = Pt.zero dd → m ∣ j := fun j hj => by
  apply Nat.dvd_of_mod_eq_zero
  apply Classical.byContradiction
  intro h0
  exact hmin (j % m) (Nat.mod_lt _ hm0) ⟨by omega, by rw [← mul_cut hm1]; exact hj⟩
 have hm : m = Lo := by
  refine Lo_pr.div (cut Lo Lo_zero) (fun e => ?_)
  rw [e] at hm1
  have z1 : fld.mul B 1 = B := by show fld.add (Pt.zero dd) B = B; rw [fld.add_comm, fld.add_zero]
  rw [z1] at hm1
  exact B_1 (by rw [hm1]; rfl)
 rw [← hm]
 exact cut k h
theorem mul_far {k : Nat} (h : ¬ Lo ∣ k) : (fld.mul B k).y ≠ 1 ∧ (fld.mul B k).y ≠ -1 := by
 refine ⟨fun e => h (B_ord (y_one e)), fun e => ?_⟩
 have hz : fld.mul B (2 * k) = Pt.zero dd := by
  rw [fld.mul_two]
  have := (fld.mul B k).on
  unfold On at this
  rw [e] at this
  have e2 : (1 - dd) * ((fld.mul B k).x * (fld.mul B k).x) = 0 := by grind
  have n : (1 : F) - dd ≠ 0 := by decide +kernel
  have x0 : (fld.mul B k).x = 0 := by
   rcases fld.dom e2 with z | z
   ·exact absurd z n
   ·rcases fld.dom z with z | z <;> exact z
  refine fld.add_eq ⟨?_, ?_⟩
  ·rw [x0, e]; show (0 : F) * (1 + dd*0*0*(-1)*(-1)) = 0*(-1) + 0*(-1); decide +kernel
  ·rw [x0, e]; show (1 : F) * (1 - dd*0*0*(-1)*(-1)) = (-1)*(-1) - 0*0; decide +kernel
 rcases Lo_pr.2 2 k (B_ord hz) with z | z
 ·exact absurd (Nat.le_of_dvd (by decide) z) (by decide +kernel)
 exact h z
def pw (a : F) : Nat → F
 | 0 => 1
 | n + 1 => pw a n * a
theorem pw_mul (a b : F) : ∀ n, pw (a * b) n = pw a n * pw b n
 | 0 => by show (1 : F) = 1 * 1; grind
 | n + 1 => by show pw (a * b) n * (a * b) = pw a n * a * (pw b n * b); rw [pw_mul a b n]; grind
theorem pw_val (a : F) : ∀ n, (pw a n).val = a.val ^ n % P
 | 0 => by show 1 % P = _; rw [Nat.pow_zero]
 | n + 1 => by
  show (pw a n).val * a.val % P = _
  rw [pw_val a n, Nat.pow_succ, Nat.mul_mod, Nat.mod_mod, ← Nat.mul_mod]
def iv (a : F) : F := pw a (P - 2)
theorem iv_val (a : F) : (iv a).val = a.val ^ (P - 2) % P := pw_val a _
theorem iv_one {a : F} (h : a ≠ 0) : a * iv a = 1 := by
 have h1 := f_pow a.val (val_ne h)
 have hv := iv_val a
 generalize iv a = b at *
 apply Fin.ext
 have e : P - 2 + 1 = P - 1 := by decide
 have one : (1 : F).val = 1 := by decide
 rw [Fin.val_mul, hv, one, Nat.mul_mod, Nat.mod_mod, ← Nat.mul_mod, Nat.mul_comm, ← Nat.pow_succ]
 show a.val ^ (P - 2 + 1) % P = _
 rw [e, h1]
def uOf (y : F) : F := (1 + y) * iv (1 - y)
theorem rep_u {y X Z : F} (r : Rep y X Z) : X * iv Z = uOf y := by
 obtain ⟨l, l0, e1, e2⟩ := r
 have hl := iv_one l0
 have hm : iv (l * (1 - y)) = iv l * iv (1 - y) := pw_mul _ _ _
 rw [e1, e2, hm]
 unfold uOf
 generalize iv l = a at *
 generalize iv (1 - y) = b at *
 clear hm e1 e2
 have : l * (1 + y) * (a * b) = (l * a) * ((1 + y) * b) := by clear hl; grind
 rw [this, hl]
 clear this hl
 grind
theorem u_point {y : F} (h : y ≠ 1) : uOf y * (1 - y) = 1 + y := by
 have := iv_one (sub_ne h)
 unfold uOf
 generalize iv (1 - y) = b at *
 have e : (1 + y) * b * (1 - y) = (1 + y) * ((1 - y) * b) := by clear this; grind
 rw [e, this]
 clear this e
 grind
def lad (k : Nat) (u : F) : F := (runL u k 255 ⟨1, 0, u, 1⟩).x0 * iv (runL u k 255 ⟨1, 0, u, 1⟩).z0
theorem lad_mul {Q : Pt dd} (n1 : Q.y ≠ 1) (n2 : Q.y ≠ -1) {k : Nat} (hk : k < 2 ^ 255) : lad k (uOf Q.y) = uOf (fld.mul Q k).y := by
 have a := At.run (h := fld) (u_point n1) n1 n2 k 255 ⟨1, 0, uOf Q.y, 1⟩ (by rw [Nat.div_eq_of_lt hk]; exact At.start (u_point n1) n1)
 exact rep_u a.1
theorem nine : uOf bY = 9 := by
 have h := u_point B_1
 have e : uOf B.y * (1 - B.y) = 9 * (1 - B.y) := by rw [h, B_u]
 refine fld.can (sub_ne B_1) ?_
 show (1 - B.y) * uOf B.y = (1 - B.y) * 9
 generalize uOf B.y = a at *
 clear h
 grind
theorem exchange {a b : Nat} (ha : a < 2 ^ 255) (hb : b < 2 ^ 255) (na : ¬ Lo ∣ a) (nb : ¬ Lo ∣ b) : lad a (lad b 9) = lad b (lad a 9) ∧ lad a (lad b 9) ≠ 0 := by
 have pb : lad b 9 = uOf (fld.mul B b).y := by rw [← nine]; exact lad_mul (Q := B) B_1 B_2 hb
 have pa : lad a 9 = uOf (fld.mul B a).y := by rw [← nine]; exact lad_mul (Q := B) B_1 B_2 ha
 have fb := mul_far nb
 have fa := mul_far na
 have e1 : lad a (lad b 9) = uOf (fld.mul B (b * a)).y := by rw [pb, lad_mul fb.1 fb.2 ha, fld.mul_mul]
 have e2 : lad b (lad a 9) = uOf (fld.mul B (a * b)).y := by rw [pa, lad_mul fa.1 fa.2 hb, fld.mul_mul]
 refine ⟨by rw [e1, e2, Nat.mul_comm], fun z => ?_⟩
 have nab : ¬ Lo ∣ b * a := fun h => by rcases Lo_pr.2 b a h with h | h; exact nb h; exact na h
 have f := mul_far nab
 have h := u_point f.1
 rw [← e1, z] at h
 exact add_ne f.2 (by rw [← h]; grind)
theorem clamp_far {k : Nat} (h8 : k % 8 = 0) (h1 : 2 ^ 254 ≤ k) (h2 : k < 2 ^ 255) : ¬ Lo ∣ k := by
 rintro ⟨c, hc⟩
 have hL : Lo % 8 = 5 ∧ 2 ^ 255 < 8 * Lo ∧ 0 < Lo := by decide +kernel
 have hc8 : c < 8 := by
  apply Classical.byContradiction
  intro h
  have : Lo * 8 ≤ Lo * c := Nat.mul_le_mul_left _ (by omega)
  omega
 have hm : (Lo * c) % 8 = (5 * c) % 8 := by rw [Nat.mul_mod, hL.1, Nat.mul_mod 5 c, show 5 % 8 = 5 from rfl]
 have hp : 0 < 2 ^ 254 := by decide
 have h0 : c ≠ 0 := fun e => by
  rw [e, Nat.mul_zero] at hc
  omega
 rw [hc, hm] at h8
 omega
end T
