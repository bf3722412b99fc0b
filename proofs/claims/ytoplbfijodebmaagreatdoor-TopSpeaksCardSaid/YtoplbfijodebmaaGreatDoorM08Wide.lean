/-
  The walk.
-/
import Derived.Test.YtoplbfijodebmaaGreatDoorM07Keep
import Derived.Lib.Mul64
import Derived.Laws.Externs
set_option linter.unusedVariables false
set_option linter.unusedSimpArgs false
set_option maxRecDepth 100000
set_option maxHeartbeats 40000000
namespace Go.Proofs.YtoplbfijodebmaaGreatDoor
open Go.RowKit
theorem u64w {x : Int} {n : Nat} (h : x = n) (hn : n < 18446744073709551616) : IntKind.u64.wrap x = n := by
 subst h; simp [IntKind.wrap, IntKind.bits, IntKind.signed]; omega
theorem and_mask (x m k : Nat) (hk : m = 2 ^ k - 1) (hm : m < 18446744073709551616) (hx : x < 18446744073709551616) : bits .and .u64 (x : Int) (m : Int) = ((x % 2 ^ k : Nat) : Int) := by
 rw [u64_and_nat x m hx hm, hk, Nat.and_two_pow_sub_one_eq_mod]
theorem and32 (x : Nat) (hx : x < 18446744073709551616) : bits .and .u64 (x : Int) 4294967295 = ((x % 4294967296 : Nat) : Int) := and_mask x 4294967295 32 rfl (by decide) hx
theorem div32 (x : Nat) : (x : Int) / 4294967296 = ((x / 4294967296 : Nat) : Int) := by omega
theorem add64_run (x y c : Nat) (hc : c ≤ 1) (w : World) : (callFunc 122 #[.int .u64 (x : Int), .int .u64 (y : Int), .int .u64 (c : Int)]).run Tryz.prog w =
   .ok (.value (.tuple #[.int .u64 (((x + y + c) % 18446744073709551616 : Nat) : Int), .int .u64 (((x + y + c) / 18446744073709551616 : Nat) : Int)])) w := by
 rw [run_callFunc_extern (P := Tryz.prog) (fn := Tryz.f122) (by kernel_rfl) (by kernel_rfl) (by kernel_rfl) (by kernel_rfl) (e := add64Entry) (by kernel_rfl), run_add64 x y c (by omega) (by omega) (by omega) (by omega)]
 simp only [Result.andThen]
 congr 5 <;> omega
theorem mul64_any (x y : Nat) (w : World) (hx : x < 18446744073709551616) (hy : y < 18446744073709551616) :
  Calls Tryz.prog 121 #[.int .u64 (x : Int), .int .u64 (y : Int)] w fun e w' => e = .returned (.tuple #[.int .u64 ((x * y / 18446744073709551616 : Nat) : Int), .int .u64 ((x * y % 18446744073709551616 : Nat) : Int)]) ∧ w' = w := by
 obtain ⟨m1, m2, m3, m4⟩ := Lib.mul64_hi x y hx hy
 have a1 := and32 x hx
 have a2 := and32 y hy
 have d1 := div32 x
 have d2 := div32 y
 have hlo : IntKind.u64.wrap ((x : Int) * y) = ((x * y % 18446744073709551616 : Nat) : Int) := by simp [IntKind.wrap, IntKind.bits, IntKind.signed]
 obtain ⟨lo, hlo2⟩ := nm (x * y % 18446744073709551616)
 obtain ⟨hi, hhi⟩ := nm (x * y / 18446744073709551616)
 have hlt0 : hi < 18446744073709551616 := by rw [hhi]; exact Nat.div_lt_of_lt_mul (Nat.mul_lt_mul_of_lt_of_lt hx hy)
 rw [← hhi] at m4
 rw [← hlo2] at hlo
 rw [← hlo2, ← hhi]
 clear hlo2 hhi
 obtain ⟨x0, hx0⟩ := nm (x % 4294967296)
 obtain ⟨x1, hx1⟩ := nm (x / 4294967296)
 obtain ⟨y0, hy0⟩ := nm (y % 4294967296)
 obtain ⟨y1, hy1⟩ := nm (y / 4294967296)
 rw [← hx0] at a1 m1 m2 m3 m4
 rw [← hy0] at a2 m1 m2 m3 m4
 rw [← hx1] at d1 m2 m3 m4
 rw [← hy1] at d2 m3 m4
 clear hx0 hx1 hy0 hy1 hx hy
 obtain ⟨w0, hw0⟩ := nm (x0 * y0)
 obtain ⟨p, hp⟩ := nm (x1 * y0)
 obtain ⟨q, hq⟩ := nm (x0 * y1)
 obtain ⟨r, hr⟩ := nm (x1 * y1)
 rw [← hw0] at m1 m2 m3 m4
 rw [← hp] at m2 m3 m4
 rw [← hq] at m3 m4
 rw [← hr] at m4
 have E0 : IntKind.u64.wrap ((x0 : Int) * y0) = w0 := u64w (by rw [hw0]; simp) m1
 have E1 := div32 w0
 obtain ⟨w3, hw3⟩ := nm (w0 / 4294967296)
 rw [← hw3] at E1 m2 m3 m4
 have E2 : IntKind.u64.wrap ((x1 : Int) * y0) = p := u64w (by rw [hp]; simp) (by omega)
 obtain ⟨t, ht⟩ := nm (p + w3)
 rw [← ht] at m2 m3 m4
 have E3 : IntKind.u64.wrap ((p : Int) + w3) = t := u64w (by omega) m2
 have E4 := and32 t m2
 have E5 := div32 t
 obtain ⟨t0, ht0⟩ := nm (t % 4294967296)
 obtain ⟨t1, ht1⟩ := nm (t / 4294967296)
 rw [← ht0] at E4 m3 m4
 rw [← ht1] at E5 m4
 have E6 : IntKind.u64.wrap ((x0 : Int) * y1) = q := u64w (by rw [hq]; simp) (by omega)
 obtain ⟨s, hs⟩ := nm (t0 + q)
 rw [← hs] at m3 m4
 have E7 : IntKind.u64.wrap ((t0 : Int) + q) = s := u64w (by omega) m3
 have E8 := div32 s
 obtain ⟨s1, hs1⟩ := nm (s / 4294967296)
 rw [← hs1] at E8 m4
 have hlt : hi < 18446744073709551616 := hlt0
 have E9 : IntKind.u64.wrap ((x1 : Int) * y1) = r := u64w (by rw [hr]; simp) (by omega)
 obtain ⟨z, hz⟩ := nm (r + t1)
 have E10 : IntKind.u64.wrap ((r : Int) + t1) = z := u64w (by omega) (by omega)
 have E11 : IntKind.u64.wrap ((z : Int) + s1) = hi := u64w (by omega) hlt
 clear m1 m2 m3 m4 hw0 hp hq hr hw3 ht ht0 ht1 hs hs1 hz hlt hlt0
 go_enter Tryz.func121, Tryz.ntmps121
 go_wp2_with fail
 go_ret2
 exact ⟨rfl, rfl⟩
theorem ag181 : AgTy 181 2 := agTy (by kernel_rfl)
theorem plus_any (h l a b : Nat) (w : World) (H : Hid (a < 18446744073709551616 ∧ b < 18446744073709551616 ∧ h < 18446744073709551616 ∧ l < 18446744073709551616 ∧ h * 18446744073709551616 + l + a * b < 340282366920938463463374607431768211456)) :
  Calls Tryz.prog 110 #[.agg #[.int .u64 (h : Int), .int .u64 (l : Int)], .int .u64 (a : Int), .int .u64 (b : Int)] w fun e w' => (∃ I L : Nat, e = .returned (.agg #[.int .u64 (I : Int), .int .u64 (L : Int)]) ∧ I * 18446744073709551616 + L = h * 18446744073709551616 + l + a * b ∧ I < 18446744073709551616 ∧ L < 18446744073709551616) ∧ Below w.heap.size w w' := by
 go_enter Tryz.func110, Tryz.ntmps110
 have HK0 := hDx (KS.start w)
 go_upto_region 1 with (fail)
 have hm1 := ((HK0.out.made (.cells #[.int .u64 (h : Int), .int .u64 (l : Int)] 181)).made (.cells #[.int .u64 0, .int .u64 0] 181))
 try rw [show ((World.alloc w (.cells #[.int .u64 (h : Int), .int .u64 (l : Int)] 181))).heap.size = w.heap.size + 1 by simp] at hm1
 obtain ⟨R, hgR⟩ := nm (w.heap.size + 1)
 obtain ⟨A, hgA⟩ := nm w.heap.size
 obtain ⟨ww1, hv1⟩ := nm (World.alloc (World.alloc w (.cells #[.int .u64 (h : Int), .int .u64 (l : Int)] 181)) (.cells #[.int .u64 0, .int .u64 0] 181))
 rw [← hv1, ← hgR, ← hgA] at hm1
 rw [← hv1]
 try rw [← hgR]
 try rw [← hgA]
 have HK1 : Hid (KS [(R, .cells #[.int .u64 0, .int .u64 0] 181), (A, .cells #[.int .u64 (h : Int), .int .u64 (l : Int)] 181)] [] w ww1) := hDx hm1
 clear hm1 hv1 hgA hgR
 have c0 : ww1.cell? ⟨A, 0, none⟩ = some (.int .u64 (h : Int)) := (HK1.out.cells 1 rfl).cell 0 _ rfl
 have c1 : ww1.cell? ⟨A, 1, none⟩ = some (.int .u64 (l : Int)) := (HK1.out.cells 1 rfl).cell 1 _ rfl
 have c2 : ww1.cell? ⟨R, 0, none⟩ = some (.int .u64 0) := (HK1.out.cells 0 rfl).cell 0 _ rfl
 have c3 : ww1.cell? ⟨R, 1, none⟩ = some (.int .u64 0) := (HK1.out.cells 0 rfl).cell 1 _ rfl
 have fz : ∀ i, ww1.frozen? ⟨R, i, none⟩ = false := fun i => (HK1.out.cells 0 rfl).fz i
 go_wp2_with fail
 refine (mul64_any a b _ H.out.1 H.out.2.1).mono ?_
 rintro e w1 ⟨rfl, rfl⟩
 simp only []
 obtain ⟨P, hP⟩ := nm (a * b / 18446744073709551616)
 obtain ⟨Q, hQ⟩ := nm (a * b % 18446744073709551616)
 rw [← hP, ← hQ]
 have A1 := fun u => add64_run l Q 0 (by decide) u
 obtain ⟨C, hC⟩ := nm ((l + Q + 0) / 18446744073709551616)
 obtain ⟨L, hL⟩ := nm ((l + Q + 0) % 18446744073709551616)
 rw [← hC, ← hL] at A1
 have hC1 : C ≤ 1 := by rw [hC]; have := H.out.2.2.2.1; omega
 have A2 := fun u => add64_run h P C hC1 u
 obtain ⟨G, hG⟩ := nm ((h + P + C) / 18446744073709551616)
 obtain ⟨I, hI⟩ := nm ((h + P + C) % 18446744073709551616)
 rw [← hG, ← hI] at A2
 have HS : I * 18446744073709551616 + L = h * 18446744073709551616 + l + a * b := by
  have := H.out.2.2.2.2
  have e : a * b = P * 18446744073709551616 + Q := by rw [hP, hQ]; exact (Nat.div_add_mod' _ _).symm
  rw [e] at this ⊢
  omega
 have HL : I < 18446744073709551616 ∧ L < 18446744073709551616 := by omega
 have HX := hDx (And.intro HS HL)
 clear hP hQ hC hL hC1 hG hI HS HL
 replace A1 : ∀ u, (callFunc 122 #[.int .u64 (l : Int), .int .u64 (Q : Int), .int .u64 0]).run Tryz.prog u = .ok (.value (.tuple #[.int .u64 (L : Int), .int .u64 (C : Int)])) u := A1
 go_wp2_with fail
 have K2 := ((HK1.out.set 0 rfl 0 (.int .u64 (I : Int))).set 0 rfl 1 (.int .u64 (L : Int)))
 exact bodyPost_ret (results_loadM (p := 6) (n := 2) (C := #[.int .u64 (I : Int), .int .u64 (L : Int)]) (by kernel_rfl) (by rfl) (K2.get 0 rfl) ag181 rfl) rfl ⟨⟨I, L, rfl, HX.out.1, HX.out.2⟩, K2.below⟩
end Go.Proofs.YtoplbfijodebmaaGreatDoor
