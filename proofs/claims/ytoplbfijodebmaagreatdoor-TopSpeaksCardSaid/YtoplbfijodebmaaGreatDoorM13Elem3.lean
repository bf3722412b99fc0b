/-
  The walk.
-/
import Derived.Test.YtoplbfijodebmaaGreatDoorM09Elem1
import Derived.Test.YtoplbfijodebmaaGreatDoorM10Calm
import Derived.Test.YtoplbfijodebmaaGreatDoorM11Curve
import Derived.Test.YtoplbfijodebmaaGreatDoorM12Limbs
set_option linter.unusedVariables false
set_option linter.unusedSimpArgs false
set_option maxRecDepth 100000
set_option maxHeartbeats 40000000
namespace Go.Proofs.YtoplbfijodebmaaGreatDoor
section
open Go.RowKit
theorem run_index_lk {t e n i : Nat} {k k2 : IntKind} {v : List Int} (hu : Tryz.prog.underlying t = some (.array n e)) (he : Tryz.prog.underlying e = some (.int k2)) (hs : (Tryz.prog.info? e).map (·.size) = some 1) (hv : v.length = n) (hi : i < n) (w : World) : (Instr.index t (.agg (lk k v)) (.int .i64 (i : Int))).run Tryz.prog w = .ok (.int k (ia v i)) w := by
 obtain ⟨inf, hinf, hsz⟩ : ∃ inf, Tryz.prog.info? e = some inf ∧ inf.size = 1 := by
  cases hq : Tryz.prog.info? e with
  | none => simp [hq] at hs
  | some i => exact ⟨i, rfl, by simpa [hq] using hs⟩
 have hagg : (isAgg e).run Tryz.prog w = .ok false w := by
  unfold isAgg
  rw [Sem.run_bind, run_underlying he w]
  rfl
 have hso : (sizeOf e).run Tryz.prog w = .ok 1 w := by
  simp [sizeOf, typeInfo, hinf, hsz]
 have hb : (0 : Int) ≤ i ∧ (i : Int) < (n : Int) := by omega
 have hpart : (Go.part e (lk k v) ((i : Int).toNat * 1)).run Tryz.prog w = .ok (.int k (ia v i)) w := by
  have := lk_at (k := k) hv hi
  simp only [Go.part, Sem.run_bind, hagg, Result.andThen_ok, if_false, Bool.false_eq_true, Sem.run_pure, Int.toNat_natCast, Nat.mul_one, this]
 simp only [Instr.index, asIntOf, Sem.run_bind, Sem.run_pure, Result.andThen_ok, run_underlying hu, hb, and_self, if_true, hso, hpart]
theorem idx141 {v : List Int} {i : Nat} (hv : v.length = 5) (hi : i < 5) (w : World) : (Instr.index 141 (.agg (lk .u64 v)) (.int .i64 (i : Int))).run Tryz.prog w = .ok (.int .u64 (ia v i)) w := run_index_lk (by kernel_rfl : Tryz.prog.underlying 141 = some (.array 5 29)) (by kernel_rfl : Tryz.prog.underlying 29 = some (.int .u64)) (by kernel_rfl) hv hi w
def wd (n : Nat) : Array Value := #[.int .u64 ((n / 18446744073709551616 : Nat) : Int), .int .u64 ((n % 18446744073709551616 : Nat) : Int)]
def wl (l : List Nat) : Array Value := (l.flatMap fun n => [Value.int .u64 ((n / 18446744073709551616 : Nat) : Int), .int .u64 ((n % 18446744073709551616 : Nat) : Int)]).toArray
def nn (l : List Nat) (i : Nat) : Nat := l.getD i 0
def ni (l : List Nat) : List Int := l.map fun n : Nat => (n : Int)
theorem ni_len (l : List Nat) : (ni l).length = l.length := List.length_map _
theorem ia_ni (l : List Nat) (i : Nat) : ia (ni l) i = (nn l i : Int) := by
 unfold ia ni nn
 rw [List.getD_eq_getElem?_getD, List.getD_eq_getElem?_getD, List.getElem?_map]
 cases l[i]? <;> rfl
theorem five {α : Type} {l : List α} (h : l.length = 5) : ∃ a b c d e, l = [a, b, c, d, e] := by
 match l, h with
 | [a, b, c, d, e], _ => exact ⟨a, b, c, d, e, rfl⟩
theorem wl_len {l : List Nat} (h : l.length = 5) : (wl l).size = 10 := by
 obtain ⟨a, b, c, d, e, rfl⟩ := five h
 rfl
theorem lt5 {m : Nat} (h : m < 5) : m = 0 ∨ m = 1 ∨ m = 2 ∨ m = 3 ∨ m = 4 := by omega
theorem wl_ext {l : List Nat} (h : l.length = 5) {m : Nat} (hm : m < 5) : (wl l).extract (m * 2) (m * 2 + 2) = wd (nn l m) := by
 obtain ⟨a, b, c, d, e, rfl⟩ := five h
 rcases lt5 hm with rfl | rfl | rfl | rfl | rfl <;> rfl
theorem wl_lay {l : List Nat} (h : l.length = 5) {m : Nat} (hm : m < 5) (x : Nat) : lay (wl l) (m * 2) (wd x) = wl (l.set m x) := by
 obtain ⟨a, b, c, d, e, rfl⟩ := five h
 rcases lt5 hm with rfl | rfl | rfl | rfl | rfl <;> rfl
theorem wl_lo {l : List Nat} (h : l.length = 5) {m : Nat} (hm : m < 5) : (wl l)[m * 2 + 1]? = some (.int .u64 ((nn l m % 18446744073709551616 : Nat) : Int)) := by
 obtain ⟨a, b, c, d, e, rfl⟩ := five h
 rcases lt5 hm with rfl | rfl | rfl | rfl | rfl <;> rfl
theorem wl_fit {l : List Nat} (h : l.length = 5) {m : Nat} (hm : m < 5) : m * 2 + 2 ≤ (wl l).size := by rw [wl_len h]; omega
theorem wd_one (x : Nat) : (wd x).all (·.oneCell') = true := by simp [wd, Value.oneCell']
theorem nn_zero : ∀ m, nn [0, 0, 0, 0, 0] m = 0
 | 0 | 1 | 2 | 3 | 4 => rfl
 | _ + 5 => rfl
theorem plus_run (n a b : Nat) (w : World) (ha : a < 18446744073709551616) (hb : b < 18446744073709551616) (hn : n + a * b < 340282366920938463463374607431768211456) :
  Calls Tryz.prog 110 #[.agg (wd n), .int .u64 (a : Int), .int .u64 (b : Int)] w fun e w' => e = .returned (.agg (wd (n + a * b))) ∧ Below w.heap.size w w' := by
 have e : n / 18446744073709551616 * 18446744073709551616 + n % 18446744073709551616 = n := Nat.div_add_mod' _ _
 obtain ⟨p, hp⟩ := nm (a * b)
 rw [← hp] at hn
 refine (plus_any (n / 18446744073709551616) (n % 18446744073709551616) a b w (hDx ⟨ha, hb, by omega, by omega, by rw [e, ← hp]; exact hn⟩)).mono ?_
 rintro r w1 ⟨⟨I, L, rfl, h1, h2, h3⟩, h4⟩
 refine ⟨?_, h4⟩
 rw [e, ← hp] at h1
 rw [← hp, show I = (n + p) / 18446744073709551616 by omega, show L = (n + p) % 18446744073709551616 by omega]
 rfl
def mulT (x y : List Nat) (t : Nat) : Nat := nn x (t / 5) * (if t / 5 + t % 5 < 5 then nn y (t % 5) else 19 * nn y (t % 5))
def mulS (x y : List Nat) : Nat → List Nat
 | 0 => [0, 0, 0, 0, 0]
 | t + 1 => (mulS x y t).set ((t / 5 + t % 5) % 5) (nn (mulS x y t) ((t / 5 + t % 5) % 5) + mulT x y t)
theorem mulS_len (x y : List Nat) : ∀ t, (mulS x y t).length = 5
 | 0 => rfl
 | t + 1 => by rw [mulS, List.length_set, mulS_len x y t]
theorem nn_set (l : List Nat) (i j x : Nat) (hi : i < l.length) : nn (l.set i x) j = if i = j then x else nn l j := by
 unfold nn
 rw [List.getD_eq_getElem?_getD, List.getD_eq_getElem?_getD, List.getElem?_set]
 by_cases h : i = j
 ·subst h; simp [hi]
 simp [h]
def Sm (x : List Nat) : Prop := x.length = 5 ∧ ∀ i, nn x i ≤ 4503599627370496
theorem mulT_le {x y : List Nat} (hx : Sm x) (hy : Sm y) (t : Nat) : mulT x y t ≤ 385376968019105259190681972801536 := by
 unfold mulT
 have h1 := hx.2 (t / 5)
 have h2 := hy.2 (t % 5)
 have h3 : (if t / 5 + t % 5 < 5 then nn y (t % 5) else 19 * nn y (t % 5)) ≤ 85568392920039424 := by split <;> omega
 exact Nat.le_trans (Nat.mul_le_mul h1 h3) (by decide)
theorem mulS_le {x y : List Nat} (hx : Sm x) (hy : Sm y) : ∀ t m, nn (mulS x y t) m ≤ t * 385376968019105259190681972801536
 | 0, m => by
  rw [mulS, nn_zero, Nat.zero_mul]; exact Nat.le_refl _
 | t + 1, m => by
  have h := mulS_le hx hy t
  have h1 := mulT_le hx hy t
  rw [mulS, nn_set _ _ _ _ (by rw [mulS_len]; omega)]
  split
  ·rw [Nat.add_mul, Nat.one_mul]; exact Nat.add_le_add (h _) h1
  ·exact Nat.le_trans (h m) (Nat.mul_le_mul_right _ (Nat.le_succ t))
theorem ixs {i k m : Nat} (h : m = i + k) (hm : m < 1000) : (i : Int) + k = m ∧ wrap64 ((i : Int) + k) = m ∧ IntKind.i64.wrap ((i : Int) + k) = m ∧ wrap64 (m : Int) = m ∧ IntKind.i64.wrap (m : Int) = m := by
 have e : (i : Int) + k = m := by omega
 obtain ⟨a1, a2⟩ := i64w (x := (i : Int) + k) (n := m) e hm
 obtain ⟨a3, a4⟩ := i64w (x := (m : Int)) (n := m) rfl hm
 exact ⟨e, a1, a2, a3, a4⟩
theorem ixm {j m : Nat} (h : j = m + 5) (hm : m < 5) : ¬ ((j : Int) < 5) ∧ (j : Int) - 5 = m ∧ wrap64 (m : Int) = m ∧ IntKind.i64.wrap (m : Int) = m := by
 obtain ⟨a3, a4⟩ := i64w (x := (m : Int)) (n := m) rfl (by omega)
 exact ⟨by omega, by omega, a3, a4⟩
theorem ix10 {i k : Nat} (hi : i < 5) (hk : k < 5) : i + k < 1000 := by omega
theorem w19 {q r : Nat} (h : r = 19 * q) (hr : r < 18446744073709551616) : IntKind.u64.wrap (19 * (q : Int)) = (r : Int) := u64w (by omega) hr
theorem mul_one {x y : List Nat} (hx : Sm x) (hy : Sm y) {i k : Nat} (hi : i < 5) (hk : k < 5) : ∃ m r, (i + k < 5 ∧ m = i + k ∧ r = nn y k ∨ ¬ i + k < 5 ∧ i + k = m + 5 ∧ r = 19 * nn y k) ∧ m < 5 ∧ r < 18446744073709551616 ∧ nn x i < 18446744073709551616 ∧
  mulS x y (5 * i + (k + 1)) = (mulS x y (5 * i + k)).set m (nn (mulS x y (5 * i + k)) m + nn x i * r) ∧ nn (mulS x y (5 * i + k)) m + nn x i * r < 340282366920938463463374607431768211456 := by
 have T5 : (5 * i + k) / 5 = i := by omega
 have T6 : (5 * i + k) % 5 = k := by omega
 have hT : mulT x y (5 * i + k) = nn x i * (if i + k < 5 then nn y k else 19 * nn y k) := by rw [mulT, T5, T6]
 have es : mulS x y (5 * i + (k + 1)) = (mulS x y (5 * i + k)).set ((i + k) % 5) (nn (mulS x y (5 * i + k)) ((i + k) % 5) + mulT x y (5 * i + k)) := by
  rw [show 5 * i + (k + 1) = (5 * i + k) + 1 by omega, mulS, T5, T6]
 have bx := hx.2 i
 have byy := hy.2 k
 refine ⟨(i + k) % 5, if i + k < 5 then nn y k else 19 * nn y k, ?_, Nat.mod_lt _ (by decide), ?_, ?_, ?_, ?_⟩
 ·by_cases h : i + k < 5
  ·exact Or.inl ⟨h, Nat.mod_eq_of_lt h, if_pos h⟩
  exact Or.inr ⟨h, by omega, if_neg h⟩
 ·clear hT es T5 T6
  split <;> omega
 ·clear hT es T5 T6
  omega
 ·rw [← hT]; exact es
 rw [← hT]
 have b1 := Nat.le_trans (mulS_le hx hy (5 * i + k) ((i + k) % 5)) (Nat.mul_le_mul_right 385376968019105259190681972801536 (show 5 * i + k ≤ 25 by omega))
 have b2 := mulT_le hx hy (5 * i + k)
 exact Nat.lt_of_le_of_lt (Nat.add_le_add b1 b2) (by decide)
def loD (l : List Nat) : Nat → List Int := runS (fun k _ => bits .and .u64 ((nn l k % 18446744073709551616 : Nat) : Int) 2251799813685247) id (zi 5)
def hiD (l : List Nat) : Nat → List Int := runS (fun k V => IntKind.u64.wrap (ia V (k + 1) + ((nn l k / 2251799813685248 : Nat) : Int))) Nat.succ (loD l 5)
def mulC (l : List Nat) : List Int := (hiD l 4).set 0 (IntKind.u64.wrap (ia (hiD l 4) 0 + IntKind.u64.wrap (19 * ((nn l 4 / 2251799813685248 : Nat) : Int))))
theorem loD_len (l : List Nat) (k : Nat) : (loD l k).length = 5 := runS_len _ _ _ _
theorem hiD_len (l : List Nat) (k : Nat) : (hiD l k).length = 5 := (runS_len _ _ _ _).trans (loD_len l 5)
theorem mulC_len (l : List Nat) : (mulC l).length = 5 := (List.length_set ..).trans (hiD_len l 4)
theorem shift_run (n : Nat) (w : World) (hn : n < 41538374868278621028243970633760768) : Calls Tryz.prog 111 #[.agg (wd n)] w fun e w' => e = .returned (.int .u64 ((n / 2251799813685248 : Nat) : Int)) ∧ Below w.heap.size w w' := by
 obtain ⟨h, hh⟩ := nm (n / 18446744073709551616)
 obtain ⟨l, hl⟩ := nm (n % 18446744073709551616)
 obtain ⟨H, hH⟩ : ∃ H, H = 8192 * h := ⟨_, rfl⟩
 obtain ⟨L, hL⟩ := nm (l / 2251799813685248)
 obtain ⟨N, hN⟩ := nm (n / 2251799813685248)
 have e1 : IntKind.u64.wrap ((h : Int) * 8192) = (H : Int) := u64w (by omega) (by omega)
 have e2 : (l : Int) / 2251799813685248 = (L : Int) := by omega
 have e3 : bits .or .u64 (H : Int) (L : Int) = (N : Int) := by
  rw [u64_or_nat _ _ (by omega) (by omega), hH, hL, hN]
  have e : 8192 * h ||| l / 2251799813685248 = 8192 * h + l / 2251799813685248 := by
   have := Nat.two_pow_add_eq_or_of_lt (i := 13) (b := l / 2251799813685248) (by omega) h
   simpa using this.symm
  rw [e]
  congr 1
  omega
 unfold wd
 rw [← hh, ← hl, ← hN]
 clear hh hl hH hL hN hn
 go_enter Tryz.func111, Tryz.ntmps111
 have HK0 := hDx (KS.start w)
 go_upto_region 1 with (fail)
 have hm1 := (HK0.out.made (.cells #[.int .u64 (h : Int), .int .u64 (l : Int)] 181))
 obtain ⟨A, hgA⟩ := nm w.heap.size
 obtain ⟨ww1, hv1⟩ := nm (World.alloc w (.cells #[.int .u64 (h : Int), .int .u64 (l : Int)] 181))
 rw [← hv1, ← hgA] at hm1
 rw [← hv1]
 try rw [← hgA]
 have HK1 : Hid (KS [(A, .cells #[.int .u64 (h : Int), .int .u64 (l : Int)] 181)] [] w ww1) := hDx hm1
 clear hm1 hv1 hgA
 have c0 : ww1.cell? ⟨A, 0, none⟩ = some (.int .u64 (h : Int)) := (HK1.out.cells 0 rfl).cell 0 _ rfl
 have c1 : ww1.cell? ⟨A, 1, none⟩ = some (.int .u64 (l : Int)) := (HK1.out.cells 0 rfl).cell 1 _ rfl
 go_wp2_with fail
 go_ret
 exact ⟨rfl, HK1.out.below⟩
theorem mul_run (x y : List Nat) (hx : Sm x) (hy : Sm y) (w : World) : Calls Tryz.prog 85 #[.agg (lk .u64 (ni x)), .agg (lk .u64 (ni y))] w fun e w' => e = .returned (.agg (lk .u64 (carF (mulC (mulS x y 25))))) ∧ Below w.heap.size w w' := by
 go_enter Tryz.func85, Tryz.ntmps85
 have HK0 := hDx (KS.start w)
 go_upto_region 2 with (fail)
 have hm1 := ((((HK0.out.made (.cells (lk .u64 (ni x)) 141)).made (.cells (lk .u64 (ni y)) 141)).made (.cells #[.int .u64 0, .int .u64 0, .int .u64 0, .int .u64 0, .int .u64 0] 141)).made (.cells ZRu64x10 182))
 try rw [show ((World.alloc (World.alloc (World.alloc w (.cells (lk .u64 (ni x)) 141)) (.cells (lk .u64 (ni y)) 141)) (.cells #[.int .u64 0, .int .u64 0, .int .u64 0, .int .u64 0, .int .u64 0] 141))).heap.size = w.heap.size + 3 by simp] at hm1
 try rw [show ((World.alloc (World.alloc w (.cells (lk .u64 (ni x)) 141)) (.cells (lk .u64 (ni y)) 141))).heap.size = w.heap.size + 2 by simp] at hm1
 try rw [show ((World.alloc w (.cells (lk .u64 (ni x)) 141))).heap.size = w.heap.size + 1 by simp] at hm1
 obtain ⟨M, hgM⟩ := nm (w.heap.size + 3)
 obtain ⟨R, hgR⟩ := nm (w.heap.size + 2)
 obtain ⟨B, hgB⟩ := nm (w.heap.size + 1)
 obtain ⟨A, hgA⟩ := nm w.heap.size
 obtain ⟨ww1, hv1⟩ := nm (World.alloc (World.alloc (World.alloc (World.alloc w (.cells (lk .u64 (ni x)) 141)) (.cells (lk .u64 (ni y)) 141)) (.cells #[.int .u64 0, .int .u64 0, .int .u64 0, .int .u64 0, .int .u64 0] 141)) (.cells ZRu64x10 182))
 rw [← hv1, ← hgM, ← hgR, ← hgB, ← hgA] at hm1
 rw [← hv1]
 try rw [← hgM]
 try rw [← hgR]
 try rw [← hgB]
 try rw [← hgA]
 have HK1 : Hid (KS [(M, .cells (wl (mulS x y 0)) 182), (R, .cells (lk .u64 (zi 5)) 141), (B, .cells (lk .u64 (ni y)) 141), (A, .cells (lk .u64 (ni x)) 141)] [] w ww1) := hDx hm1
 clear hm1 hv1 hgA hgB hgR hgM
 have lx : (ni x).length = 5 := (ni_len x).trans hx.1
 have ly : (ni y).length = 5 := (ni_len y).trans hy.1
 have FA := (HK1.out.rk 3 rfl lx)
 go_upto_region 3 with (refine wpList_load_rk rfl _ rfl rfl FA ty141 ?_)
 clear FA
 go_loopw [14] (fun vS wr => ∃ i : Nat, i ≤ 5 ∧ vS = .int .i64 (i : Int) ∧ KS [(M, .cells (wl (mulS x y (5 * i))) 182), (R, .cells (lk .u64 (zi 5)) 141), (B, .cells (lk .u64 (ni y)) 141), (A, .cells (lk .u64 (ni x)) 141)] [] w wr) (fun vS _ => 5 - (intOf vS).toNat)
 case atStart => exact ⟨0, Nat.zero_le _, rfl, HK1.out⟩
 case round =>
  obtain ⟨i, hi, rfl, HK⟩ := hrel
  have HK2 := hDx HK
  clear HK
  by_cases hlt : i < 5
  ·have hi1 : (0 : Int) ≤ i := by omega
   have hi2 : (i : Int) < 5 := by omega
   obtain ⟨hi3, hi4⟩ := i64w (x := (i : Int) + 1) (n := i + 1) (by omega) (by omega)
   have HI := hDx hlt
   have kx := fun w => idx141 lx hlt w
   simp only [ia_ni] at kx
   have FB := (HK2.out.rk 2 rfl ly)
   go_upto_region 6 with (refine wpList_load_rk rfl _ rfl rfl FB ty141 ?_)
   clear FB kx
   go_loopw [19] (fun vS wr => ∃ k : Nat, k ≤ 5 ∧ vS = .int .i64 (k : Int) ∧ KS [(M, .cells (wl (mulS x y (5 * i + k))) 182), (R, .cells (lk .u64 (zi 5)) 141), (B, .cells (lk .u64 (ni y)) 141), (A, .cells (lk .u64 (ni x)) 141)] [] w wr) (fun vS _ => 5 - (intOf vS).toNat)
   case atStart => exact ⟨0, Nat.zero_le _, rfl, HK2.out⟩
   obtain ⟨k, hk, rfl, HK⟩ := hrel
   have HK3 := hDx HK
   clear HK
   by_cases hlt : k < 5
   ·have hk1 : (0 : Int) ≤ k := by omega
    have hk2 : (k : Int) < 5 := by omega
    obtain ⟨hk3, hk4⟩ := i64w (x := (k : Int) + 1) (n := k + 1) (by omega) (by omega)
    have ky := fun w => idx141 ly hlt w
    simp only [ia_ni] at ky
    go_upto_region 8 with fail
    clear ky
    obtain ⟨m, r, hcase, hm5, hr64, hp64, es, hb⟩ := mul_one hx hy HI.out hlt
    have ex := mulS_len x y (5 * i + k)
    obtain ⟨N, hN⟩ := nm (mulS x y (5 * i + k))
    rw [← hN] at es hb ex HK3
    obtain ⟨p, hp⟩ := nm (nn x i)
    obtain ⟨q, hq⟩ := nm (nn y k)
    rw [← hp] at hp64 es hb
    rw [← hq] at hcase
    rw [← hp, ← hq]
    have HJ := hDx (And.intro ex (And.intro hm5 (And.intro hr64 (And.intro hp64 (And.intro es (And.intro hb (And.intro hk hlt)))))))
    have HPQ := hDx (And.intro hp hq)
    clear ex es hb hN hp hq hp64
    have hmi : (m : Int) < 5 := by clear hcase; omega
    have hm0 : (0 : Int) ≤ m := by clear hcase; omega
    have hi5 := HI.out
    rcases hcase with ⟨hik, hm, hr⟩ | ⟨hik, hm, hr⟩
    ·obtain ⟨a0, a1, a2, a3, a4⟩ := ixs hm (hm ▸ ix10 hi5 hlt)
     subst hr
     clear hr64 hm5 hk hlt hm hik hi5
     go_upto_region 9 with (fail)
     go_wp2_with (refine wpList_loadM rfl _ rfl rfl (HK3.out.get 0 rfl) ag181 (wl_ext HJ.out.1 HJ.out.2.1) rfl ?_)
     skip
     refine (plus_run _ _ _ _ HJ.out.2.2.2.1 HJ.out.2.2.1 HJ.out.2.2.2.2.2.1).mono ?_
     rintro e ww4 ⟨rfl, B1⟩
     simp only []
     have HK4 := hDx (HK3.out.call B1)
     clear B1
     go_wp2_with (refine wpList_storeM rfl _ _ rfl rfl rfl (HK4.out.get 0 rfl) (wl_fit HJ.out.1 HJ.out.2.1) ag181 rfl (wd_one _) ?_)
     obtain ⟨hp, hq⟩ := HPQ.out
     clear HPQ
     subst hp
     subst hq
     go_roundw
     case rel =>
      refine ⟨k + 1, HJ.out.2.2.2.2.2.2.2, by first | rfl | go_num, ?_⟩
      rw [HJ.out.2.2.2.2.1, ← wl_lay HJ.out.1 HJ.out.2.1]
      exact HK4.out.lay 0 rfl (m * 2) (wd _) (wl_fit HJ.out.1 HJ.out.2.1)
     have := HJ.out.2.2.2.2.2.2.2; simp [intOf]; omega
    obtain ⟨j, hj⟩ := nm (i + k)
    obtain ⟨a0, a1, a2, a3, a4⟩ := ixs hj (hj ▸ ix10 hi5 hlt)
    obtain ⟨b0, c0, c1, c2⟩ := ixm (hj.trans hm) hm5
    have d0 := w19 hr hr64
    clear hj hr
    clear hr64 hm5 hk hlt hm hik hi5
    go_upto_region 10 with (fail)
    go_wp2_with (refine wpList_loadM rfl _ rfl rfl (HK3.out.get 0 rfl) ag181 (wl_ext HJ.out.1 HJ.out.2.1) rfl ?_)
    skip
    refine (plus_run _ _ _ _ HJ.out.2.2.2.1 HJ.out.2.2.1 HJ.out.2.2.2.2.2.1).mono ?_
    rintro e ww4 ⟨rfl, B1⟩
    simp only []
    have HK4 := hDx (HK3.out.call B1)
    clear B1
    go_wp2_with (refine wpList_storeM rfl _ _ rfl rfl rfl (HK4.out.get 0 rfl) (wl_fit HJ.out.1 HJ.out.2.1) ag181 rfl (wd_one _) ?_)
    obtain ⟨hp, hq⟩ := HPQ.out
    clear HPQ
    subst hp
    subst hq
    go_roundw
    case rel =>
     refine ⟨k + 1, HJ.out.2.2.2.2.2.2.2, by first | rfl | go_num, ?_⟩
     rw [HJ.out.2.2.2.2.1, ← wl_lay HJ.out.1 HJ.out.2.1]
     exact HK4.out.lay 0 rfl (m * 2) (wd _) (wl_fit HJ.out.1 HJ.out.2.1)
    have := HJ.out.2.2.2.2.2.2.2; simp [intOf]; omega
   obtain rfl : k = 5 := by omega
   try simp only [Int.cast_ofNat_Int]
   obtain ⟨i1, hi1⟩ : ∃ i1, i1 = i + 1 := ⟨_, rfl⟩
   have e5 : 5 * i + 5 = 5 * i1 := by omega
   rw [e5] at HK3
   rw [← hi1] at hi3 hi4
   clear e5
   go_wp2_with fail
   go_roundw
   case rel =>
    exact ⟨i1, by omega, by first | rfl | go_num, HK3.out⟩
   first | exact measI _ _ hlt | (simp [intOf]; omega)
  obtain rfl : i = 5 := by omega
  try simp only [Int.cast_ofNat_Int]
  have hNb : ∀ m, nn (mulS x y (5 * 5)) m < 41538374868278621028243970633760768 := fun m => Nat.lt_of_le_of_lt (mulS_le hx hy (5 * 5) m) (by decide)
  have hNl := mulS_len x y (5 * 5)
  obtain ⟨N, hN⟩ := nm (mulS x y (5 * 5))
  rw [← hN] at HK2 hNb hNl
  have HN := hDx (And.intro hN (And.intro hNb hNl))
  clear hN hNb hNl
  go_upto_region 14 with (fail)
  have hm3 := (HK2.out.made (.cells #[.int .u64 0, .int .u64 0, .int .u64 0, .int .u64 0, .int .u64 0] 141))
  obtain ⟨C, hgC⟩ := nm wr.heap.size
  obtain ⟨ww3, hv3⟩ := nm (World.alloc wr (.cells #[.int .u64 0, .int .u64 0, .int .u64 0, .int .u64 0, .int .u64 0] 141))
  rw [← hv3, ← hgC] at hm3
  rw [← hv3]
  try rw [← hgC]
  have HK3 : Hid (KS [(C, .cells (lk .u64 (loD N 0)) 141), (M, .cells (wl N) 182), (R, .cells (lk .u64 (zi 5)) 141), (B, .cells (lk .u64 (ni y)) 141), (A, .cells (lk .u64 (ni x)) 141)] [] w ww3) := hDx hm3
  clear hm3 hv3 hgC
  go_upto_region 15 with (fail)
  go_loopw [56] (fun vS wr => ∃ a : Nat, a ≤ 5 ∧ vS = .int .i64 (a : Int) ∧ KS [(C, .cells (lk .u64 (loD N a)) 141), (M, .cells (wl N) 182), (R, .cells (lk .u64 (zi 5)) 141), (B, .cells (lk .u64 (ni y)) 141), (A, .cells (lk .u64 (ni x)) 141)] [] w wr) (fun vS _ => 5 - (intOf vS).toNat)
  case atStart => exact ⟨0, Nat.zero_le _, rfl, HK3.out⟩
  case round =>
   obtain ⟨a, ha, rfl, HK⟩ := hrel
   have HK4 := hDx HK
   clear HK
   by_cases hlt : a < 5
   ·have ha1 : (0 : Int) ≤ a := by omega
    have ha2 : (a : Int) < 5 := by omega
    obtain ⟨ha3, ha4⟩ := i64w (x := (a : Int) + 1) (n := a + 1) (by omega) (by omega)
    have hs : loD N (a + 1) = (loD N a).set a (bits .and .u64 ((nn N a % 18446744073709551616 : Nat) : Int) 2251799813685247) := rfl
    have hl : (loD N a).length = 5 := loD_len N a
    obtain ⟨V, hV⟩ := nm (loD N a)
    obtain ⟨L, hL⟩ := nm (nn N a % 18446744073709551616)
    have c1 := (HK4.out.cells 1 rfl).cell (a * 2 + 1) _ (wl_lo HN.out.2.2 hlt)
    rw [← hL] at c1 hs
    rw [← hV] at HK4 hl hs
    have c0 := (HK4.out.rk 0 rfl hl).cell a hlt
    have fz := (HK4.out.rk 0 rfl hl).fz
    have HJ := hDx hs
    clear hs hV hL hl
    go_upto_region 17 with fail
    go_wp2_with fail
    go_roundw
    case rel =>
     exact ⟨a + 1, by omega, by first | rfl | go_num, by rw [HJ.out]; exact (HK4.out.setK 0 rfl a _)⟩
    first | exact measI _ _ hlt | (simp [intOf]; omega)
   obtain rfl : a = 5 := by omega
   try simp only [Int.cast_ofNat_Int]
   change Hid (KS [(C, .cells (lk .u64 (hiD N 0)) 141), (M, .cells (wl N) 182), (R, .cells (lk .u64 (zi 5)) 141), (B, .cells (lk .u64 (ni y)) 141), (A, .cells (lk .u64 (ni x)) 141)] [] w wr) at HK4
   go_upto_region 20 with fail
   go_loopw [67] (fun vS wr => ∃ d : Nat, d ≤ 4 ∧ vS = .int .i64 (d : Int) ∧ KS [(C, .cells (lk .u64 (hiD N d)) 141), (M, .cells (wl N) 182), (R, .cells (lk .u64 (zi 5)) 141), (B, .cells (lk .u64 (ni y)) 141), (A, .cells (lk .u64 (ni x)) 141)] [] w wr) (fun vS _ => 4 - (intOf vS).toNat)
   case atStart => exact ⟨0, Nat.zero_le _, rfl, HK4.out⟩
   obtain ⟨d, hd, rfl, HK⟩ := hrel
   have HK5 := hDx HK
   clear HK
   by_cases hlt : d < 4
   ·have hd1 : (0 : Int) ≤ d := by omega
    have hd2 : (d : Int) < 4 := by omega
    obtain ⟨hd3, hd4⟩ := i64w (x := (d : Int) + 1) (n := d + 1) (by omega) (by omega)
    have hs : hiD N (d + 1) = (hiD N d).set (d + 1) (IntKind.u64.wrap (ia (hiD N d) (d + 1) + ((nn N d / 2251799813685248 : Nat) : Int))) := rfl
    have hl : (hiD N d).length = 5 := hiD_len N d
    obtain ⟨V, hV⟩ := nm (hiD N d)
    obtain ⟨m, hm⟩ : ∃ m, m = d + 1 := ⟨_, rfl⟩
    obtain ⟨L, hL⟩ := nm (nn N d / 2251799813685248)
    rw [← hL, ← hm] at hs
    rw [← hm] at hd3 hd4
    have hm5 : m < 5 := by omega
    have hm1 : (0 : Int) ≤ m := by omega
    have hm2 : (m : Int) < 5 := by omega
    have hd0 : (d : Int) < 5 := by omega
    have hd5 : d < 5 := by omega
    rw [← hV] at HK5 hl hs
    clear hV
    have fz := (HK5.out.rk 0 rfl hl).fz
    have HJ := hDx (And.intro hs (And.intro hL (And.intro hm hlt)))
    clear hs hL hm hlt
    go_upto_region 22 with fail
    try simp only [Act.put, sAx, s0x, s1x]
    refine wp_region_cv 10 [70, 71, 72, 73, 74, 75, 76, 77, 78, 79] [[], [70], [71], [72], [], [74], [75], [76], [73, 77], [71]] [(70, .int .i64 (d : Int)), (71, .int .i64 (m : Int)), (72, .pointer (some ⟨C, m, none⟩)), (73, .int .u64 (ia V m)), (74, .int .i64 (d : Int)), (75, .pointer (some ⟨M, d * 2, none⟩)), (76, .agg (wd (nn N d))), (77, .int .u64 (L : Int)), (78, .int .u64 (IntKind.u64.wrap (ia V m + (L : Int)))), (79, .pointer (some ⟨C, m, none⟩))] rfl (by kernel_rfl) (by kernel_rfl) (by rfl) (by kernel_rfl) ?hO1 ?hE1
    case hO1 =>
     refine ⟨?_, ?_, ?_, ?_, ?_, ?_, ?_, ?_, ?_, ?_, trivial⟩
     ·intro act u HB HO HA
      have e12 := gE (x := .int .i64 (d : Int)) (HO 12 (by decide))
      refine calm_val 70 _ rfl ?_ rfl rfl
      clear HB HO HA
      go_simp
      try rfl
     ·intro act u HB HO HA
      have e70 : _ = _ := gE (qA HA 70)
      refine calm_val 71 _ rfl ?_ rfl rfl
      clear HB HO HA
      go_simp
      try rfl
     ·intro act u HB HO HA
      have e10 := gE (x := .pointer (some ⟨C, 0, none⟩)) (HO 10 (by decide))
      have e71 : _ = _ := gE (qA HA 71)
      refine calm_val 72 _ rfl ?_ rfl rfl
      clear HB HO HA
      go_simp
      try rfl
     ·intro act u HB HO HA
      have e72 : _ = _ := gE (qA HA 72)
      have HS := HK5.out.drew.call HB
      have lT : u.cell? ⟨C, m, none⟩ = some (.int .u64 (ia V m)) := (HS.rk 0 rfl hl).cell _ hm5
      refine calm_val 73 _ rfl ?_ rfl rfl
      clear HB HO HA HS
      go_simp
     ·intro act u HB HO HA
      have e12 := gE (x := .int .i64 (d : Int)) (HO 12 (by decide))
      refine calm_val 74 _ rfl ?_ rfl rfl
      clear HB HO HA
      go_simp
      try rfl
     ·intro act u HB HO HA
      have e5 := gE (x := .pointer (some ⟨M, 0, none⟩)) (HO 5 (by decide))
      have e74 : _ = _ := gE (qA HA 74)
      refine calm_val 75 _ rfl ?_ rfl rfl
      clear HB HO HA
      go_simp
      try rfl
     ·intro act u HB HO HA
      have e75 : _ = _ := qA HA 75
      have HS := HK5.out.drew.call HB
      exact calm_lM 76 75 e75 (HS.get 1 rfl) ag181 (wl_ext HN.out.2.2 hd5) rfl rfl rfl rfl rfl
     ·intro act u HB HO HA
      have e76 : _ = _ := qA HA 76
      refine calm_call 77 #[.agg (wd (nn N d))] rfl rfl ?_ (by kernel_rfl) (shift_run (nn N d) u (HN.out.2.1 d)) ?_ rfl
      ·simp only [mTx, mCx, mNx, e76]
       try rfl
      rintro e u1 ⟨rfl, B1⟩
      exact ⟨_, rfl, by rw [HJ.out.2.1]; rfl, B1⟩
     ·intro act u HB HO HA
      have e73 : _ = _ := gE (qA HA 73)
      have e77 : _ = _ := gE (qA HA 77)
      refine calm_val 78 _ rfl ?_ rfl rfl
      clear HB HO HA
      go_simp
      try rfl
     intro act u HB HO HA
     have e10 := gE (x := .pointer (some ⟨C, 0, none⟩)) (HO 10 (by decide))
     have e71 : _ = _ := gE (qA HA 71)
     refine calm_val 79 _ rfl ?_ rfl rfl
     clear HB HO HA
     go_simp
     try rfl
    intro ww6 HB
    have HK6 := hDx (HK5.out.drew.call HB)
    simp only [fillL, Act.put, sAx, s0x, s1x, dSx, d0x]
    clear HB
    have fz := (HK6.out.rk 0 rfl hl).fz
    have cm := (HK6.out.rk 0 rfl hl).cell m hm5
    go_wp2_with fail
    go_roundw
    case rel =>
     exact ⟨m, by have := HJ.out.2.2; omega, by first | rfl | go_num, by have e := HJ.out.2.2.1; have h := HJ.out.1; subst e; rw [h]; exact (HK6.out.setK 0 rfl (d + 1) _)⟩
    have := HJ.out.2.2; simp [intOf]; omega
   obtain rfl : d = 4 := by omega
   try simp only [Int.cast_ofNat_Int]
   have hl : (hiD N 4).length = 5 := hiD_len N 4
   obtain ⟨L, hL⟩ := nm (nn N 4 / 2251799813685248)
   have hs : mulC N = (hiD N 4).set 0 (IntKind.u64.wrap (ia (hiD N 4) 0 + IntKind.u64.wrap (19 * (L : Int)))) := by rw [hL]; rfl
   obtain ⟨V, hV⟩ := nm (hiD N 4)
   rw [← hV] at HK5 hl hs
   have HJ := hDx (And.intro hs hL)
   clear hs hL hV
   go_upto_region 24 with fail
   try simp only [Act.put, sAx, s0x, s1x]
   refine wp_region_cv 8 [81, 82, 83, 84, 85, 86, 87, 88] [[], [81], [], [83], [84], [85], [82, 86], []] [(81, .pointer (some ⟨C, 0, none⟩)), (82, .int .u64 (ia V 0)), (83, .pointer (some ⟨M, 8, none⟩)), (84, .agg (wd (nn N 4))), (85, .int .u64 (L : Int)), (86, .int .u64 (IntKind.u64.wrap (19 * (L : Int)))), (87, .int .u64 (IntKind.u64.wrap (ia V 0 + IntKind.u64.wrap (19 * (L : Int))))), (88, .pointer (some ⟨C, 0, none⟩))] rfl (by kernel_rfl) (by kernel_rfl) (by rfl) (by kernel_rfl) ?hO2 ?hE2
   case hO2 =>
    refine ⟨?_, ?_, ?_, ?_, ?_, ?_, ?_, ?_, trivial⟩
    ·intro act u HB HO HA
     have e10 := gE (x := .pointer (some ⟨C, 0, none⟩)) (HO 10 (by decide))
     refine calm_val 81 _ rfl ?_ rfl rfl
     clear HB HO HA
     go_simp
     try rfl
    ·intro act u HB HO HA
     have e81 : _ = _ := gE (qA HA 81)
     have HS := HK5.out.drew.call HB
     have lT : u.cell? ⟨C, 0, none⟩ = some (.int .u64 (ia V 0)) := (HS.rk 0 rfl hl).cell _ (by decide)
     refine calm_val 82 _ rfl ?_ rfl rfl
     clear HB HO HA HS
     go_simp
    ·intro act u HB HO HA
     have e5 := gE (x := .pointer (some ⟨M, 0, none⟩)) (HO 5 (by decide))
     refine calm_val 83 _ rfl ?_ rfl rfl
     clear HB HO HA
     go_simp
     try rfl
    ·intro act u HB HO HA
     have e83 : _ = _ := qA HA 83
     have HS := HK5.out.drew.call HB
     exact calm_lM 84 83 e83 (HS.get 1 rfl) ag181 (wl_ext (m := 4) HN.out.2.2 (by decide)) rfl rfl rfl rfl rfl
    ·intro act u HB HO HA
     have e84 : _ = _ := qA HA 84
     refine calm_call 85 #[.agg (wd (nn N 4))] rfl rfl ?_ (by kernel_rfl) (shift_run (nn N 4) u (HN.out.2.1 4)) ?_ rfl
     ·simp only [mTx, mCx, mNx, e84]
      try rfl
     rintro e u1 ⟨rfl, B1⟩
     exact ⟨_, rfl, by rw [HJ.out.2]; rfl, B1⟩
    ·intro act u HB HO HA
     have e85 : _ = _ := gE (qA HA 85)
     refine calm_val 86 _ rfl ?_ rfl rfl
     clear HB HO HA
     go_simp
     try rfl
    ·intro act u HB HO HA
     have e82 : _ = _ := gE (qA HA 82)
     have e86 : _ = _ := gE (qA HA 86)
     refine calm_val 87 _ rfl ?_ rfl rfl
     clear HB HO HA
     go_simp
     try rfl
    intro act u HB HO HA
    have e10 := gE (x := .pointer (some ⟨C, 0, none⟩)) (HO 10 (by decide))
    refine calm_val 88 _ rfl ?_ rfl rfl
    clear HB HO HA
    go_simp
    try rfl
   intro ww6 HB
   have HK6 := hDx (HK5.out.drew.call HB)
   simp only [fillL, Act.put, sAx, s0x, s1x, dSx, d0x]
   clear HB
   have fz := (HK6.out.rk 0 rfl hl).fz
   have cm := (HK6.out.rk 0 rfl hl).cell 0 (by decide)
   go_upto_region 25 with fail
   obtain ⟨ww7, hv7⟩ := nm (World.setCell ww6 ⟨C, 0, none⟩ (.int .u64 (IntKind.u64.wrap (ia V 0 + IntKind.u64.wrap (19 * (L : Int))))))
   have HK7 : Hid (KS [(C, .cells (lk .u64 (V.set 0 (IntKind.u64.wrap (ia V 0 + IntKind.u64.wrap (19 * (L : Int)))))) 141), (M, .cells (wl N) 182), (R, .cells (lk .u64 (zi 5)) 141), (B, .cells (lk .u64 (ni y)) 141), (A, .cells (lk .u64 (ni x)) 141)] [] w ww7) := by rw [hv7]; exact hDx (HK6.out.setK 0 rfl 0 (IntKind.u64.wrap (ia V 0 + IntKind.u64.wrap (19 * (L : Int)))))
   rw [← hv7]
   clear hv7
   rw [← HJ.out.1] at HK7
   have FC := (HK7.out.rk 0 rfl (mulC_len N))
   go_wp2_with (refine wpList_load_rk rfl _ rfl rfl FC ty141 ?_)
   refine (carried_any _ (mulC_len N) _).mono ?_
   rintro e ww8 ⟨rfl, B1⟩
   simp only []
   have HK8 := hDx (HK7.out.call B1)
   clear B1
   have FR := (HK8.out.rk 2 rfl (zi_len 5))
   go_wp2_with (refine wpList_store_rk rfl _ _ rfl rfl rfl FR ty141 ((carF_len _).trans (mulC_len N)) ?_)
   have KE := HK8.out.setRow 2 rfl (lk .u64 (carF (mulC N)))
   try simp only [Exit.inBlock, Exit.then]
   refine bodyPost_ret (results_rk (p := 4) (by kernel_rfl) (by rfl) (KE.rk 2 rfl ((carF_len _).trans (mulC_len N))) ty141) rfl ?_
   exact ⟨by rw [HN.out.1], KE.below⟩
end
section
open Go.RowKit T
def fe (n : Nat) : F := Fin.ofNat P n
theorem fe_val (n : Nat) : (fe n).val = n % P := rfl
theorem fe_eq {a b : Nat} (h : a % P = b % P) : fe a = fe b := Fin.ext h
theorem fe_add (a b : Nat) : fe (a + b) = fe a + fe b := Fin.ext (by rw [Fin.val_add]; simp only [fe_val]; exact Nat.add_mod a b P)
theorem fe_mul (a b : Nat) : fe (a * b) = fe a * fe b := Fin.ext (by rw [Fin.val_mul]; simp only [fe_val]; exact Nat.mul_mod a b P)
theorem fe_P (a b : Nat) : fe (a + P * b) = fe a := fe_eq (Nat.add_mul_mod_self_left a P b)
theorem fe_sub {a b c k : Nat} (h : c + b = a + k * P) : fe c = fe a - fe b := by
 have h1 : fe c + fe b = fe a := by rw [← fe_add, h, Nat.mul_comm, fe_P]
 have h2 : fe c = fe c + fe b - fe b := by
  generalize fe c = x
  generalize fe b = y
  grind
 rw [h2, h1]
def El.l (x : El) : List Nat := [x.a, x.b, x.c, x.d, x.e]
def El.le (x : El) (n : Nat) : Prop := x.a ≤ n ∧ x.b ≤ n ∧ x.c ≤ n ∧ x.d ≤ n ∧ x.e ≤ n
theorem El.sm {x : El} (h : El.le x 4503599627370496) : Sm (El.l x) := ⟨rfl, fun i => by
 obtain ⟨h0, h1, h2, h3, h4⟩ := h
 match i with
 | 0 => exact h0
 | 1 => exact h1
 | 2 => exact h2
 | 3 => exact h3
 | 4 => exact h4
 | _ + 5 => exact Nat.zero_le _⟩
theorem carF_five (a b c d e : Int) : carF [a, b, c, d, e] = [IntKind.u64.wrap (bits .and .u64 a 2251799813685247 + IntKind.u64.wrap (19 * (e / 2251799813685248))), IntKind.u64.wrap (bits .and .u64 b 2251799813685247 + a / 2251799813685248), IntKind.u64.wrap (bits .and .u64 c 2251799813685247 + b / 2251799813685248), IntKind.u64.wrap (bits .and .u64 d 2251799813685247 + c / 2251799813685248), IntKind.u64.wrap (bits .and .u64 e 2251799813685247 + d / 2251799813685248)] := rfl
theorem and51 (x : Nat) (hx : x < 18446744073709551616) : bits .and .u64 (x : Int) 2251799813685247 = ((x % 2251799813685248 : Nat) : Int) := and_mask x 2251799813685247 51 rfl (by decide) hx
theorem div51 (x : Nat) : (x : Int) / 2251799813685248 = ((x / 2251799813685248 : Nat) : Int) := by omega
theorem car1 (x y : Nat) (hx : x < 18446744073709551616) (hy : y < 18446744073709551616) : IntKind.u64.wrap (bits .and .u64 (x : Int) 2251799813685247 + (y : Int) / 2251799813685248) = ((x % 2251799813685248 + y / 2251799813685248 : Nat) : Int) := by
 rw [and51 x hx, div51, ← Int.natCast_add]
 exact u64w rfl (by omega)
theorem car0 (x y : Nat) (hx : x < 18446744073709551616) (hy : y < 18446744073709551616) : IntKind.u64.wrap (bits .and .u64 (x : Int) 2251799813685247 + IntKind.u64.wrap (19 * ((y : Int) / 2251799813685248))) = ((x % 2251799813685248 + 19 * (y / 2251799813685248) : Nat) : Int) := by
 rw [and51 x hx, div51]
 have h1 : y / 2251799813685248 < 8192 := by omega
 generalize y / 2251799813685248 = q at h1
 rw [w19 (q := q) (r := 19 * q) rfl (by omega), ← Int.natCast_add]
 exact u64w rfl (by omega)
theorem carF_el (x : El) (h : El.le x 18446744073709551615) : carF (ni (El.l x)) = ni (El.l x.carry) := by
 obtain ⟨h0, h1, h2, h3, h4⟩ := h
 show carF [(x.a : Int), (x.b : Int), (x.c : Int), (x.d : Int), (x.e : Int)] = _
 rw [carF_five, car0 x.a x.e (by omega) (by omega), car1 x.b x.a (by omega) (by omega), car1 x.c x.b (by omega) (by omega), car1 x.d x.c (by omega) (by omega), car1 x.e x.d (by omega) (by omega)]
 rfl
theorem carry_le (x : El) (h : El.le x 18446744073709551615) : El.le x.carry 2251799813947392 := by
 obtain ⟨h0, h1, h2, h3, h4⟩ := h
 unfold El.carry El.le
 simp only []
 omega
theorem carry_fe (x : El) : fe x.carry.v = fe x.v := by
 rw [← El.carry_v x]
 exact (fe_P _ _).symm
def IsE (v : Value) (X : F) : Prop := ∃ x : El, v = .agg (lk .u64 (ni (El.l x))) ∧ El.le x 2251799813947392 ∧ fe x.v = X
theorem le_mono {x : El} {m n : Nat} (h : El.le x m) (hm : m ≤ n) : El.le x n := ⟨Nat.le_trans h.1 hm, Nat.le_trans h.2.1 hm, Nat.le_trans h.2.2.1 hm, Nat.le_trans h.2.2.2.1 hm, Nat.le_trans h.2.2.2.2 hm⟩
theorem addD_five (a b c d e f g h i j : Int) : addD [a, b, c, d, e] [f, g, h, i, j] 5 = [IntKind.u64.wrap (a + f), IntKind.u64.wrap (b + g), IntKind.u64.wrap (c + h), IntKind.u64.wrap (d + i), IntKind.u64.wrap (e + j)] := rfl
theorem eadd_any {x y : Value} {X Y : F} (hx : IsE x X) (hy : IsE y Y) (w : World) : Calls Tryz.prog 108 #[x, y] w fun e w' => (∃ z, e = .returned z ∧ IsE z (X + Y)) ∧ Below w.heap.size w w' := by
 obtain ⟨p, rfl, ⟨p0, p1, p2, p3, p4⟩, rfl⟩ := hx
 obtain ⟨q, rfl, ⟨q0, q1, q2, q3, q4⟩, rfl⟩ := hy
 refine (add_run _ _ rfl rfl w).mono ?_
 rintro e w1 ⟨rfl, hb⟩
 have e1 : addD (ni (El.l p)) (ni (El.l q)) 5 = ni (El.l ⟨p.a + q.a, p.b + q.b, p.c + q.c, p.d + q.d, p.e + q.e⟩) := by
  show addD [(p.a : Int), (p.b : Int), (p.c : Int), (p.d : Int), (p.e : Int)] [(q.a : Int), (q.b : Int), (q.c : Int), (q.d : Int), (q.e : Int)] 5 = _
  rw [addD_five, u64w (x := (p.a : Int) + q.a) (n := p.a + q.a) (by omega) (by omega), u64w (x := (p.b : Int) + q.b) (n := p.b + q.b) (by omega) (by omega), u64w (x := (p.c : Int) + q.c) (n := p.c + q.c) (by omega) (by omega), u64w (x := (p.d : Int) + q.d) (n := p.d + q.d) (by omega) (by omega), u64w (x := (p.e : Int) + q.e) (n := p.e + q.e) (by omega) (by omega)]
  rfl
 have hl : El.le ⟨p.a + q.a, p.b + q.b, p.c + q.c, p.d + q.d, p.e + q.e⟩ 18446744073709551615 := by unfold El.le; simp only []; omega
 rw [e1, carF_el _ hl]
 refine ⟨⟨_, rfl, _, rfl, carry_le _ hl, ?_⟩, hb⟩
 rw [carry_fe, ← fe_add]
 congr 1
 unfold El.v
 simp only []
 omega
theorem subD_five (a b c d e f g h i j : Int) : subD [a, b, c, d, e] [f, g, h, i, j] 5 = [IntKind.u64.wrap (IntKind.u64.wrap (a + 4503599627370458) - f), IntKind.u64.wrap (IntKind.u64.wrap (b + 4503599627370494) - g), IntKind.u64.wrap (IntKind.u64.wrap (c + 4503599627370494) - h), IntKind.u64.wrap (IntKind.u64.wrap (d + 4503599627370494) - i), IntKind.u64.wrap (IntKind.u64.wrap (e + 4503599627370494) - j)] := rfl
theorem subw (x y k : Nat) (hx : x ≤ 2251799813947392) (hk : k ≤ 4503599627370494) (hy : y ≤ k) : IntKind.u64.wrap (IntKind.u64.wrap ((x : Int) + (k : Int)) - (y : Int)) = ((x + k - y : Nat) : Int) := by
 rw [u64w (x := (x : Int) + k) (n := x + k) (by omega) (by omega)]
 exact u64w (by omega) (by omega)
theorem sub_any {x y : Value} {X Y : F} (hx : IsE x X) (hy : IsE y Y) (w : World) : Calls Tryz.prog 109 #[x, y] w fun e w' => (∃ z, e = .returned z ∧ IsE z (X - Y)) ∧ Below w.heap.size w w' := by
 obtain ⟨p, rfl, ⟨p0, p1, p2, p3, p4⟩, rfl⟩ := hx
 obtain ⟨q, rfl, ⟨q0, q1, q2, q3, q4⟩, rfl⟩ := hy
 refine (sub_run _ _ rfl rfl w).mono ?_
 rintro e w1 ⟨rfl, hb⟩
 have e1 : subD (ni (El.l p)) (ni (El.l q)) 5 = ni (El.l (p.sub q)) := by
  show subD [(p.a : Int), (p.b : Int), (p.c : Int), (p.d : Int), (p.e : Int)] [(q.a : Int), (q.b : Int), (q.c : Int), (q.d : Int), (q.e : Int)] 5 = _
  rw [subD_five]
  have s0 := subw p.a q.a 4503599627370458 p0 (by decide) (by omega)
  have s1 := subw p.b q.b 4503599627370494 p1 (by decide) (by omega)
  have s2 := subw p.c q.c 4503599627370494 p2 (by decide) (by omega)
  have s3 := subw p.d q.d 4503599627370494 p3 (by decide) (by omega)
  have s4 := subw p.e q.e 4503599627370494 p4 (by decide) (by omega)
  simp only [Int.cast_ofNat_Int] at s0 s1 s2 s3 s4
  rw [s0, s1, s2, s3, s4]
  rfl
 have hl : El.le (p.sub q) 18446744073709551615 := by unfold El.le El.sub; simp only []; omega
 rw [e1, carF_el _ hl]
 refine ⟨⟨_, rfl, _, rfl, carry_le _ hl, ?_⟩, hb⟩
 rw [carry_fe]
 have hv := El.sub_v p q (by omega)
 exact fe_sub (k := 2) hv
def mulE (x y : El) : El := ⟨x.lo0 y + 19 * x.hi0 y, x.lo1 y + 19 * x.hi1 y, x.lo2 y + 19 * x.hi2 y, x.lo3 y + 19 * x.hi3 y, x.lo4 y + 19 * x.hi4 y⟩
theorem mulS_five (a b c d e f g h i j : Nat) : mulS [a, b, c, d, e] [f, g, h, i, j] 25 = [0 + a * f + b * (19 * j) + c * (19 * i) + d * (19 * h) + e * (19 * g), 0 + a * g + b * f + c * (19 * j) + d * (19 * i) + e * (19 * h), 0 + a * h + b * g + c * f + d * (19 * j) + e * (19 * i), 0 + a * i + b * h + c * g + d * f + e * (19 * j), 0 + a * j + b * i + c * h + d * g + e * f] := by
 simp [mulS, mulT, nn]
theorem mulS_el (x y : El) : mulS (El.l x) (El.l y) 25 = El.l (mulE x y) := by
 refine (mulS_five x.a x.b x.c x.d x.e y.a y.b y.c y.d y.e).trans ?_
 unfold El.l mulE El.lo0 El.hi0 El.lo1 El.hi1 El.lo2 El.hi2 El.lo3 El.hi3 El.lo4 El.hi4
 simp only [List.cons.injEq, and_true]
 refine ⟨?_, ?_, ?_, ?_, ?_⟩ <;> grind
theorem mulC_five (a b c d e : Nat) : mulC [a, b, c, d, e] = [IntKind.u64.wrap (bits .and .u64 ((a % 18446744073709551616 : Nat) : Int) 2251799813685247 + IntKind.u64.wrap (19 * ((e / 2251799813685248 : Nat) : Int))), IntKind.u64.wrap (bits .and .u64 ((b % 18446744073709551616 : Nat) : Int) 2251799813685247 + ((a / 2251799813685248 : Nat) : Int)), IntKind.u64.wrap (bits .and .u64 ((c % 18446744073709551616 : Nat) : Int) 2251799813685247 + ((b / 2251799813685248 : Nat) : Int)), IntKind.u64.wrap (bits .and .u64 ((d % 18446744073709551616 : Nat) : Int) 2251799813685247 + ((c / 2251799813685248 : Nat) : Int)), IntKind.u64.wrap (bits .and .u64 ((e % 18446744073709551616 : Nat) : Int) 2251799813685247 + ((d / 2251799813685248 : Nat) : Int))] := rfl
theorem and51' (x : Nat) : bits .and .u64 ((x % 18446744073709551616 : Nat) : Int) 2251799813685247 = ((x % 2251799813685248 : Nat) : Int) := by
 rw [and51 _ (by omega)]
 congr 1
 omega
theorem mc1 (x y : Nat) (hy : y ≤ 10000000000000000000000000000000000) : IntKind.u64.wrap (bits .and .u64 ((x % 18446744073709551616 : Nat) : Int) 2251799813685247 + ((y / 2251799813685248 : Nat) : Int)) = ((x % 2251799813685248 + y / 2251799813685248 : Nat) : Int) := by
 rw [and51', ← Int.natCast_add]
 exact u64w rfl (by omega)
theorem mc0 (x y : Nat) (hy : y / 2251799813685248 < 500000000000000000) : IntKind.u64.wrap (bits .and .u64 ((x % 18446744073709551616 : Nat) : Int) 2251799813685247 + IntKind.u64.wrap (19 * ((y / 2251799813685248 : Nat) : Int))) = ((x % 2251799813685248 + 19 * (y / 2251799813685248) : Nat) : Int) := by
 rw [and51']
 generalize y / 2251799813685248 = q at hy
 rw [w19 (q := q) (r := 19 * q) rfl (by omega), ← Int.natCast_add]
 exact u64w rfl (by omega)
theorem prod_le {x y : El} (hx : El.le x 2251799813947392) (hy : El.le y 2251799813947392) : El.le (mulE x y) 10000000000000000000000000000000000 ∧ (mulE x y).e ≤ 50000000000000000000000000000000 := by
 obtain ⟨p0, p1, p2, p3, p4⟩ := hx
 obtain ⟨q0, q1, q2, q3, q4⟩ := hy
 have b : ∀ u v : Nat, u ≤ 2251799813947392 → v ≤ 2251799813947392 → u * v ≤ 5070602402093538217786985643264 + 100000000000000000000000000000 := fun u v hu hv => Nat.le_trans (Nat.mul_le_mul hu hv) (by decide)
 have := b x.a y.a p0 q0
 have := b x.a y.b p0 q1
 have := b x.a y.c p0 q2
 have := b x.a y.d p0 q3
 have := b x.a y.e p0 q4
 have := b x.b y.a p1 q0
 have := b x.b y.b p1 q1
 have := b x.b y.c p1 q2
 have := b x.b y.d p1 q3
 have := b x.b y.e p1 q4
 have := b x.c y.a p2 q0
 have := b x.c y.b p2 q1
 have := b x.c y.c p2 q2
 have := b x.c y.d p2 q3
 have := b x.c y.e p2 q4
 have := b x.d y.a p3 q0
 have := b x.d y.b p3 q1
 have := b x.d y.c p3 q2
 have := b x.d y.d p3 q3
 have := b x.d y.e p3 q4
 have := b x.e y.a p4 q0
 have := b x.e y.b p4 q1
 have := b x.e y.c p4 q2
 have := b x.e y.d p4 q3
 have := b x.e y.e p4 q4
 clear b
 unfold El.le mulE El.lo0 El.hi0 El.lo1 El.hi1 El.lo2 El.hi2 El.lo3 El.hi3 El.lo4 El.hi4
 simp only []
 omega
theorem mulE_fe (x y : El) : fe (mulE x y).v = fe x.v * fe y.v := by
 rw [← fe_mul, El.mul_v]
 have e : (x.lo0 y + 2251799813685248 * x.lo1 y + 5070602400912917605986812821504 * x.lo2 y + 11417981541647679048466287755595961091061972992 * x.lo3 y + 25711008708143844408671393477458601640355247900524685364822016 * x.lo4 y) + 57896044618658097711785492504343953926634992332820282019728792003956564819968 * (x.hi0 y + 2251799813685248 * x.hi1 y + 5070602400912917605986812821504 * x.hi2 y + 11417981541647679048466287755595961091061972992 * x.hi3 y + 25711008708143844408671393477458601640355247900524685364822016 * x.hi4 y) =
   (mulE x y).v + P * (x.hi0 y + 2251799813685248 * x.hi1 y + 5070602400912917605986812821504 * x.hi2 y + 11417981541647679048466287755595961091061972992 * x.hi3 y + 25711008708143844408671393477458601640355247900524685364822016 * x.hi4 y) := by
  unfold El.v mulE P
  simp only []
  omega
 rw [e, fe_P]
theorem mulC_el (z : El) (h : El.le z 10000000000000000000000000000000000) (h2 : z.e ≤ 50000000000000000000000000000000) : mulC (El.l z) = ni (El.l z.carry) ∧ El.le z.carry 18446744073709551615 := by
 obtain ⟨h0, h1, h2', h3, h4⟩ := h
 constructor
 ·refine (mulC_five z.a z.b z.c z.d z.e).trans ?_
  rw [mc0 z.a z.e (by omega), mc1 z.b z.a (by omega), mc1 z.c z.b (by omega), mc1 z.d z.c (by omega), mc1 z.e z.d (by omega)]
  rfl
 unfold El.carry El.le
 simp only []
 omega
theorem mul_any {x y : Value} {X Y : F} (hx : IsE x X) (hy : IsE y Y) (w : World) : Calls Tryz.prog 85 #[x, y] w fun e w' => (∃ z, e = .returned z ∧ IsE z (X * Y)) ∧ Below w.heap.size w w' := by
 obtain ⟨p, rfl, hp, rfl⟩ := hx
 obtain ⟨q, rfl, hq, rfl⟩ := hy
 refine (mul_run _ _ (El.sm (le_mono hp (by decide))) (El.sm (le_mono hq (by decide))) w).mono ?_
 rintro e w1 ⟨rfl, hb⟩
 obtain ⟨k1, k2⟩ := prod_le hp hq
 obtain ⟨m1, m2⟩ := mulC_el (mulE p q) k1 k2
 rw [mulS_el, m1, carF_el _ m2]
 refine ⟨⟨_, rfl, _, rfl, carry_le _ m2, ?_⟩, hb⟩
 rw [carry_fe, carry_fe, mulE_fe]
theorem small_any (n : Nat) (hn : n < 4294967296) (w : World) : Calls Tryz.prog 83 #[.int .u32 (n : Int)] w fun e w' => (∃ z, e = .returned z ∧ IsE z (fe n)) ∧ Below w.heap.size w w' := by
 have e1 : IntKind.u64.wrap (n : Int) = (n : Int) := u64w rfl (by omega)
 have hn2 : (n : Int) < 4294967296 := by omega
 go_enter Tryz.func83, Tryz.ntmps83
 have HK0 := hDx (KS.start w)
 go_upto_region 1 with (fail)
 have hm1 := (HK0.out.made (.cells #[.int .u64 0, .int .u64 0, .int .u64 0, .int .u64 0, .int .u64 0] 141))
 obtain ⟨R, hgR⟩ := nm w.heap.size
 obtain ⟨ww1, hv1⟩ := nm (World.alloc w (.cells #[.int .u64 0, .int .u64 0, .int .u64 0, .int .u64 0, .int .u64 0] 141))
 rw [← hv1, ← hgR] at hm1
 rw [← hv1]
 try rw [← hgR]
 have HK1 : Hid (KS [(R, .cells (lk .u64 (zi 5)) 141)] [] w ww1) := hDx hm1
 clear hm1 hv1 hgR
 have FR := (HK1.out.rk 0 rfl (zi_len 5))
 go_wp2_with (refine wpList_store_rk (u := [(n : Int), 0, 0, 0, 0]) rfl _ _ rfl rfl rfl FR ty141 rfl ?_)
 have KE := HK1.out.setRow 0 rfl (lk .u64 [(n : Int), 0, 0, 0, 0])
 try simp only [Exit.inBlock, Exit.then]
 refine bodyPost_ret (results_rk (p := 2) (by kernel_rfl) (by rfl) (KE.rk 0 rfl rfl) ty141) rfl ?_
 exact ⟨⟨_, rfl, ⟨n, 0, 0, 0, 0⟩, rfl, ⟨by simp only []; omega, Nat.zero_le _, Nat.zero_le _, Nat.zero_le _, Nat.zero_le _⟩, by unfold El.v; simp⟩, KE.below⟩
end
section
open Go.RowKit T
def ev (p : El) : List Int := ni (El.l p)
theorem ev_len (p : El) : (ev p).length = 5 := rfl
structure EV (p : El) (X : F) : Prop where
 le : El.le p 2251799813947392
 fe : fe p.v = X
theorem EV.is {p : El} {X : F} (h : EV p X) : IsE (.agg (lk .u64 (ev p))) X := ⟨p, rfl, h.le, h.fe⟩
theorem IsE.ev {v : Value} {X : F} (h : IsE v X) : ∃ p, v = .agg (lk .u64 (ev p)) ∧ EV p X := by
 obtain ⟨p, h1, h2, h3⟩ := h
 exact ⟨p, h1, h2, h3⟩
theorem ag141 : AgTy 141 5 := agTy (by kernel_rfl)
theorem ev_ext (p : El) : (lk .u64 (ev p)).extract 0 (0 + 5) = lk .u64 (ev p) := rfl
theorem ev_sz (p : El) : (lk .u64 (ev p)).size = 5 := rfl
theorem ev_zero : EV ⟨0, 0, 0, 0, 0⟩ 0 := ⟨⟨Nat.zero_le _, Nat.zero_le _, Nat.zero_le _, Nat.zero_le _, Nat.zero_le _⟩, by unfold El.v; rfl⟩
def sq (X : F) : Nat → F
 | 0 => X
 | n + 1 => sq X n * sq X n
theorem pw_add (a : F) (m : Nat) : ∀ n, T.pw a (m + n) = T.pw a m * T.pw a n
 | 0 => by
  show T.pw a m = T.pw a m * 1
  generalize T.pw a m = x
  grind
 | n + 1 => by
  show T.pw a (m + n) * a = T.pw a m * (T.pw a n * a)
  rw [pw_add a m n]
  generalize T.pw a m = x
  generalize T.pw a n = y
  grind
theorem sq_pw (X : F) (m : Nat) : ∀ n, sq (T.pw X m) n = T.pw X (m * 2 ^ n)
 | 0 => by rw [Nat.pow_zero, Nat.mul_one]; rfl
 | n + 1 => by
  show sq (T.pw X m) n * sq (T.pw X m) n = _
  rw [sq_pw X m n, ← pw_add, show m * 2 ^ n + m * 2 ^ n = m * 2 ^ (n + 1) by rw [Nat.pow_succ, ← Nat.mul_assoc, Nat.mul_two]]
theorem pw_one (X : F) : T.pw X 1 = X := by
 show 1 * X = X
 grind
theorem squares_any {x : Value} {X : F} (hx : IsE x X) (n : Nat) (hn : n < 1000) (w : World) : Calls Tryz.prog 112 #[x, .int .i64 (n : Int)] w fun e w' => (∃ z, e = .returned z ∧ IsE z (sq X n)) ∧ Below w.heap.size w w' := by
 obtain ⟨p, rfl, hp⟩ := hx.ev
 have hn2 : (n : Int) < 1000 := by omega
 go_enter Tryz.func112, Tryz.ntmps112
 have HK0 := hDx (KS.start w)
 go_upto_region 1 with (fail)
 have hm1 := ((HK0.out.made (.cells (lk .u64 (ev p)) 141)).made (.cells #[.int .u64 0, .int .u64 0, .int .u64 0, .int .u64 0, .int .u64 0] 141))
 try rw [show ((World.alloc w (.cells (lk .u64 (ev p)) 141))).heap.size = w.heap.size + 1 by simp] at hm1
 obtain ⟨R, hgR⟩ := nm (w.heap.size + 1)
 obtain ⟨A, hgA⟩ := nm w.heap.size
 obtain ⟨ww1, hv1⟩ := nm (World.alloc (World.alloc w (.cells (lk .u64 (ev p)) 141)) (.cells #[.int .u64 0, .int .u64 0, .int .u64 0, .int .u64 0, .int .u64 0] 141))
 rw [← hv1, ← hgR, ← hgA] at hm1
 rw [← hv1]
 try rw [← hgR]
 try rw [← hgA]
 have HK1 : Hid (KS [(R, .cells (lk .u64 (zi 5)) 141), (A, .cells (lk .u64 (ev p)) 141)] [] w ww1) := hDx hm1
 clear hm1 hv1 hgA hgR
 go_upto_region 2 with (fail)
 go_loopw [6] (fun vS wr => ∃ k : Nat, k ≤ n ∧ vS = .int .i64 (k : Int) ∧ ∃ q : El, EV q (sq X k) ∧ KS [(R, .cells (lk .u64 (zi 5)) 141), (A, .cells (lk .u64 (ev q)) 141)] [] w wr) (fun vS _ => n - (intOf vS).toNat)
 case atStart => exact ⟨0, Nat.zero_le _, rfl, p, hp, HK1.out⟩
 obtain ⟨k, hk, rfl, q, hq, HK⟩ := hrel
 have HK2 := hDx HK
 clear HK
 by_cases hlt : k < n
 ·have hk1 : (0 : Int) ≤ k := by omega
  have hk2 : (k : Int) < n := by omega
  obtain ⟨hk3, hk4⟩ := i64w (x := (k : Int) + 1) (n := k + 1) (by omega) (by omega)
  have FA := (HK2.out.rk 1 rfl (ev_len q))
  go_upto_region 3 with (fail)
  go_wp2_with (refine wpList_load_rk rfl _ rfl rfl FA ty141 ?_)
  refine (mul_any hq.is hq.is _).mono ?_
  rintro e ww3 ⟨⟨y, rfl, hy⟩, B1⟩
  simp only []
  have HK3 := hDx (HK2.out.call B1)
  clear B1
  obtain ⟨r, rfl, hr⟩ := hy.ev
  have FB := (HK3.out.rk 1 rfl (ev_len q))
  go_wp2_with (refine wpList_store_rk rfl _ _ rfl rfl rfl FB ty141 (ev_len r) ?_)
  go_roundw
  case rel =>
   exact ⟨k + 1, by omega, by first | rfl | go_num, r, hr, HK3.out.setRow 1 rfl _⟩
  first | exact measI _ _ hlt | (simp [intOf]; omega)
 have ekn : k = n := by omega
 subst ekn
 have FA := (HK2.out.rk 1 rfl (ev_len q))
 have FR := (HK2.out.rk 0 rfl (zi_len 5))
 go_wp2_with (first | (refine wpList_load_rk rfl _ rfl rfl FA ty141 ?_) | (refine wpList_store_rk rfl _ _ rfl rfl rfl FR ty141 (ev_len q) ?_))
 have KE := HK2.out.setRow 0 rfl (lk .u64 (ev q))
 try simp only [Exit.inBlock, Exit.then]
 refine bodyPost_ret (results_rk (p := 4) (by kernel_rfl) (by rfl) (KE.rk 0 rfl (ev_len q)) ty141) rfl ?_
 exact ⟨⟨_, rfl, hq.is⟩, KE.below⟩
theorem ones_any (n : Nat) : 1 ≤ n → n ≤ 250 → ∀ {x : Value} {X : F}, IsE x X → ∀ w : World, Calls Tryz.prog 113 #[x, .int .i64 (n : Int)] w fun e w' => (∃ z, e = .returned z ∧ IsE z (T.pw X (2 ^ n - 1))) ∧ Below w.heap.size w w' := by
 induction n using Nat.strongRecOn with
 | _ n ih =>
  intro h0 hn x X hx w
  obtain ⟨p, rfl, hp⟩ := hx.ev
  go_enter Tryz.func113, Tryz.ntmps113
  have HK0 := hDx (KS.start w)
  go_upto_region 1 with (fail)
  have hm1 := ((HK0.out.made (.cells (lk .u64 (ev p)) 141)).made (.cells #[.int .u64 0, .int .u64 0, .int .u64 0, .int .u64 0, .int .u64 0] 141))
  try rw [show ((World.alloc w (.cells (lk .u64 (ev p)) 141))).heap.size = w.heap.size + 1 by simp] at hm1
  obtain ⟨R, hgR⟩ := nm (w.heap.size + 1)
  obtain ⟨A, hgA⟩ := nm w.heap.size
  obtain ⟨ww1, hv1⟩ := nm (World.alloc (World.alloc w (.cells (lk .u64 (ev p)) 141)) (.cells #[.int .u64 0, .int .u64 0, .int .u64 0, .int .u64 0, .int .u64 0] 141))
  rw [← hv1, ← hgR, ← hgA] at hm1
  rw [← hv1]
  try rw [← hgR]
  try rw [← hgA]
  have HK1 : Hid (KS [(R, .cells (lk .u64 (zi 5)) 141), (A, .cells (lk .u64 (ev p)) 141)] [] w ww1) := hDx hm1
  clear hm1 hv1 hgA hgR
  by_cases h1 : n = 1
  ·have e1 : ((n : Int) = 1) := by omega
   have HX := hDx h1
   clear h0 hn h1
   go_upto_region 2 with (fail)
   have FA := (HK1.out.rk 1 rfl (ev_len p))
   have FR := (HK1.out.rk 0 rfl (zi_len 5))
   go_wp2_with (first | (refine wpList_load_rk rfl _ rfl rfl FA ty141 ?_) | (refine wpList_store_rk rfl _ _ rfl rfl rfl FR ty141 (ev_len p) ?_))
   have KE := HK1.out.setRow 0 rfl (lk .u64 (ev p))
   try simp only [Exit.inBlock, Exit.then]
   refine bodyPost_ret (results_rk (p := 4) (by kernel_rfl) (by rfl) (KE.rk 0 rfl (ev_len p)) ty141) rfl ?_
   exact ⟨⟨_, rfl, by rw [HX.out, show 2 ^ 1 - 1 = 1 from rfl, pw_one]; exact hp.is⟩, KE.below⟩
  ·have e1 : ¬ ((n : Int) = 1) := by omega
   obtain ⟨m, hm⟩ := nm (n / 2)
   obtain ⟨r, hr⟩ := nm (n % 2)
   have e2 : (n : Int).tdiv 2 = (m : Int) := by rw [Int.tdiv_eq_ediv_of_nonneg (by omega)]; omega
   have e3 : (n : Int).tmod 2 = (r : Int) := by rw [Int.tmod_eq_emod_of_nonneg (by omega)]; omega
   obtain ⟨e4, e5⟩ := i64w (x := (m : Int)) (n := m) rfl (by omega)
   obtain ⟨e6, e7⟩ := i64w (x := (r : Int)) (n := r) rfl (by omega)
   have b1 : m < n := by omega
   have b2 : 1 ≤ m := by omega
   have b3 : m ≤ 250 := by omega
   have b4 : m < 1000 := by omega
   have b5 : n = 2 * m + r := by omega
   have b6 : r < 2 := by omega
   have HM := hDx (And.intro b1 (And.intro b2 (And.intro b3 (And.intro b4 (And.intro b5 b6)))))
   clear b1 b2 b3 b4 b5 h0 hn h1 hm hr
   have FA := (HK1.out.rk 1 rfl (ev_len _))
   go_wp2_with (refine wpList_load_rk rfl _ rfl rfl FA ty141 ?_)
   refine (ih m HM.out.1 HM.out.2.1 HM.out.2.2.1 hp.is _).mono ?_
   rintro e ww2 ⟨⟨y, rfl, hy⟩, B1⟩
   simp only []
   have HK2 := hDx (HK1.out.call B1)
   clear B1
   obtain ⟨q, rfl, hq⟩ := hy.ev
   have FH3 := rk_new ww2 141 5 .u64 (zi 5) (zi_len 5)
   go_upto_region 4 with (refine wpList_store_rk rfl _ _ rfl rfl rfl FH3 ty141 (ev_len q) ?_)
   have hm3 := (HK2.out.made (.cells #[.int .u64 0, .int .u64 0, .int .u64 0, .int .u64 0, .int .u64 0] 141)).setRow 0 rfl (lk .u64 (ev q))
   obtain ⟨H, hgH⟩ := nm ww2.heap.size
   obtain ⟨ww3, hv3⟩ := nm (World.setRow (World.alloc ww2 (.cells #[.int .u64 0, .int .u64 0, .int .u64 0, .int .u64 0, .int .u64 0] 141)) ww2.heap.size (lk .u64 (ev q)))
   rw [← hv3, ← hgH] at hm3
   rw [← hv3]
   try rw [← hgH]
   have HK3 : Hid (KS [(H, .cells (lk .u64 (ev q)) 141), (R, .cells (lk .u64 (zi 5)) 141), (A, .cells (lk .u64 (ev p)) 141)] [] w ww3) := hDx hm3
   clear hm3 hv3 hgH
   try simp only [Act.put, sAx, s0x, s1x]
   refine wp_region_calm 6 [13, 14, 15, 16, 17, 18] [] [[], [], [14], [13, 15], [], [16, 17]] (Ftab [(13, .val (.agg (lk .u64 (ev q)))), (14, .val (.int .i64 (n : Int))), (15, .val (.int .i64 (m : Int))), (16, .of (fun v => IsE v (sq (T.pw X (2 ^ m - 1)) m))), (17, .val (.agg (lk .u64 (ev q)))), (18, .of (fun v => IsE v (sq (T.pw X (2 ^ m - 1)) m * T.pw X (2 ^ m - 1))))]) (by kernel_rfl) (by kernel_rfl) (by rfl) (by kernel_rfl) ?hO1 ?hE1
   case hO1 =>
    refine ⟨?_, ?_, ?_, ?_, ?_, ?_, trivial⟩
    ·intro act u HB HO HA
     have e5 : act.eval (.tmp 5) = .pointer (some ⟨H, 0, none⟩) := HO 5 (by decide)
     have HS := HK3.out.drew.call HB
     exact calm_lM 13 5 e5 (HS.get 0 rfl) ag141 (ev_ext _) (ev_sz _) rfl rfl rfl rfl
    ·intro act u HB HO HA
     have e1 := gE (x := .int .i64 (n : Int)) (HO 1 (by decide))
     refine calm_val 14 _ rfl ?_ rfl rfl
     clear HB HO HA
     go_simp
     try rfl
    ·intro act u HB HO HA
     have e14 : _ = _ := gE (qA HA 14)
     refine calm_val 15 _ rfl ?_ rfl rfl
     clear HB HO HA
     go_simp
     try rfl
    ·intro act u HB HO HA
     have e13 : _ = _ := qA HA 13
     have e15 : _ = _ := qA HA 15
     refine calm_call 16 #[.agg (lk .u64 (ev q)), .int .i64 (m : Int)] rfl rfl ?_ (by kernel_rfl) (squares_any hq.is m HM.out.2.2.2.1 u) ?_ rfl
     ·simp only [mTx, mCx, mNx, e13, e15]
      try rfl
     ·rintro e u1 ⟨⟨y, rfl, hy⟩, B1⟩
      exact ⟨_, rfl, hy, B1⟩
    ·intro act u HB HO HA
     have e5 : act.eval (.tmp 5) = .pointer (some ⟨H, 0, none⟩) := HO 5 (by decide)
     have HS := HK3.out.drew.call HB
     exact calm_lM 17 5 e5 (HS.get 0 rfl) ag141 (ev_ext _) (ev_sz _) rfl rfl rfl rfl
    ·intro act u HB HO HA
     have p16 : (fun v => IsE v (sq (T.pw X (2 ^ m - 1)) m)) (act.eval (.tmp 16)) := qA HA 16
     obtain ⟨x16, e16⟩ : ∃ x, act.eval (.tmp 16) = x := ⟨_, rfl⟩
     rw [e16] at p16
     have e17 : _ = _ := qA HA 17
     refine calm_call 18 #[x16, .agg (lk .u64 (ev q))] rfl rfl ?_ (by kernel_rfl) (mul_any p16 hq.is u) ?_ rfl
     ·simp only [mTx, mCx, mNx, e16, e17]
      try rfl
     ·rintro e u1 ⟨⟨y, rfl, hy⟩, B1⟩
      exact ⟨_, rfl, hy, B1⟩
   case hE1 =>
    intro vT ww4 HB HF HN
    have f13 : _ = _ := qA HF 13
    have f14 : _ = _ := qA HF 14
    have f15 : _ = _ := qA HF 15
    have p16 : (fun v => IsE v (sq (T.pw X (2 ^ m - 1)) m)) (vT 16) := qA HF 16
    obtain ⟨x16, f16⟩ : ∃ x, vT 16 = x := ⟨_, rfl⟩
    rw [f16] at p16
    have f17 : _ = _ := qA HF 17
    have p18 : (fun v => IsE v (sq (T.pw X (2 ^ m - 1)) m * T.pw X (2 ^ m - 1))) (vT 18) := qA HF 18
    obtain ⟨x18, f18⟩ : ∃ x, vT 18 = x := ⟨_, rfl⟩
    rw [f18] at p18
    have HK4 := hDx (HK3.out.drew.call HB)
    simp only [fill, Act.put, sAx, s0x, s1x, dSx, d0x, f13, f14, f15, f16, f17, f18]
    clear HB HF HN f13 f14 f15 f16 f17 f18
    obtain ⟨y1, rfl, hy1⟩ := p18.ev
    clear p18 p16
    have FS := (HK4.out.rk 0 rfl (ev_len _))
    go_upto_region 5 with (refine wpList_store_rk rfl _ _ rfl rfl rfl FS ty141 (ev_len _) ?_)
    obtain ⟨ww5, hv5⟩ := nm (World.setRow ww4 H (lk .u64 (ev y1)))
    have HK5 : Hid (KS [(H, .cells (lk .u64 (ev y1)) 141), (R, .cells (lk .u64 (zi 5)) 141), (A, .cells (lk .u64 (ev p)) 141)] [] w ww5) := by rw [hv5]; exact hDx (HK4.out.setRow 0 rfl _)
    rw [← hv5]
    clear hv5
    clear FS
    have PW : sq (T.pw X (2 ^ m - 1)) m * T.pw X (2 ^ m - 1) = T.pw X (2 ^ (2 * m) - 1) := by
     rw [sq_pw, ← pw_add]
     congr 1
     have h1 : 1 ≤ 2 ^ m := Nat.one_le_two_pow
     have h2 : 2 ^ (2 * m) = 2 ^ m * 2 ^ m := by rw [Nat.two_mul, Nat.pow_add]
     rw [h2, Nat.sub_mul, Nat.one_mul]
     have h3 : 2 ^ m ≤ 2 ^ m * 2 ^ m := Nat.le_mul_of_pos_left _ h1
     omega
    rw [PW] at hy1
    clear PW
    rcases (by omega : r = 0 ∨ r = 1) with h0 | h0
    ·have e8 : ¬ ((r : Int) = 1) := by omega
     have HR := hDx h0
     clear h0 b6
     go_upto_region 7 with (fail)
     have FA := (HK5.out.rk 0 rfl (ev_len _))
     have FR := (HK5.out.rk 1 rfl (zi_len 5))
     go_wp2_with (first | (refine wpList_load_rk rfl _ rfl rfl FA ty141 ?_) | (refine wpList_store_rk rfl _ _ rfl rfl rfl FR ty141 (ev_len _) ?_))
     have KE := HK5.out.setRow 1 rfl (lk .u64 (ev y1))
     try simp only [Exit.inBlock, Exit.then]
     refine bodyPost_ret (results_rk (p := 4) (by kernel_rfl) (by rfl) (KE.rk 1 rfl (ev_len _)) ty141) rfl ?_
     exact ⟨⟨_, rfl, by rw [HM.out.2.2.2.2.1, HR.out]; exact hy1.is⟩, KE.below⟩
    ·have e8 : (r : Int) = 1 := by omega
     have HR := hDx h0
     clear h0 b6
     go_upto_region 6 with (fail)
     try simp only [Act.put, sAx, s0x, s1x]
     refine wp_region_calm 4 [22, 23, 24, 25] [] [[], [22], [], [23, 24]] (Ftab [(22, .val (.agg (lk .u64 (ev y1)))), (23, .of (fun v => IsE v (sq (T.pw X (2 ^ (2 * m) - 1)) 1))), (24, .val (.agg (lk .u64 (ev p)))), (25, .of (fun v => IsE v (sq (T.pw X (2 ^ (2 * m) - 1)) 1 * X)))]) (by kernel_rfl) (by kernel_rfl) (by rfl) (by kernel_rfl) ?hO2 ?hE2
     case hO2 =>
      refine ⟨?_, ?_, ?_, ?_, trivial⟩
      ·intro act u HB HO HA
       have e5 : act.eval (.tmp 5) = .pointer (some ⟨H, 0, none⟩) := HO 5 (by decide)
       have HS := HK5.out.drew.call HB
       exact calm_lM 22 5 e5 (HS.get 0 rfl) ag141 (ev_ext _) (ev_sz _) rfl rfl rfl rfl
      ·intro act u HB HO HA
       have e22 : _ = _ := qA HA 22
       refine calm_call 23 #[.agg (lk .u64 (ev y1)), .int .i64 1] rfl rfl ?_ (by kernel_rfl) (squares_any hy1.is 1 (by decide) u) ?_ rfl
       ·simp only [mTx, mCx, mNx, e22]
        try rfl
       ·rintro e u1 ⟨⟨y, rfl, hy⟩, B1⟩
        exact ⟨_, rfl, hy, B1⟩
      ·intro act u HB HO HA
       have e2 : act.eval (.tmp 2) = .pointer (some ⟨A, 0, none⟩) := HO 2 (by decide)
       have HS := HK5.out.drew.call HB
       exact calm_lM 24 2 e2 (HS.get 2 rfl) ag141 (ev_ext _) (ev_sz _) rfl rfl rfl rfl
      ·intro act u HB HO HA
       have p23 : (fun v => IsE v (sq (T.pw X (2 ^ (2 * m) - 1)) 1)) (act.eval (.tmp 23)) := qA HA 23
       obtain ⟨x23, e23⟩ : ∃ x, act.eval (.tmp 23) = x := ⟨_, rfl⟩
       rw [e23] at p23
       have e24 : _ = _ := qA HA 24
       refine calm_call 25 #[x23, .agg (lk .u64 (ev p))] rfl rfl ?_ (by kernel_rfl) (mul_any p23 hp.is u) ?_ rfl
       ·simp only [mTx, mCx, mNx, e23, e24]
        try rfl
       ·rintro e u1 ⟨⟨y, rfl, hy⟩, B1⟩
        exact ⟨_, rfl, hy, B1⟩
     case hE2 =>
      intro vT ww6 HB HF HN
      have f22 : _ = _ := qA HF 22
      have p23 : (fun v => IsE v (sq (T.pw X (2 ^ (2 * m) - 1)) 1)) (vT 23) := qA HF 23
      obtain ⟨x23, f23⟩ : ∃ x, vT 23 = x := ⟨_, rfl⟩
      rw [f23] at p23
      have f24 : _ = _ := qA HF 24
      have p25 : (fun v => IsE v (sq (T.pw X (2 ^ (2 * m) - 1)) 1 * X)) (vT 25) := qA HF 25
      obtain ⟨x25, f25⟩ : ∃ x, vT 25 = x := ⟨_, rfl⟩
      rw [f25] at p25
      have HK6 := hDx (HK5.out.drew.call HB)
      simp only [fill, Act.put, sAx, s0x, s1x, dSx, d0x, f22, f23, f24, f25]
      clear HB HF HN f22 f23 f24 f25
      obtain ⟨y2, rfl, hy2⟩ := p25.ev
      clear p25 p23
      have FS := (HK6.out.rk 0 rfl (ev_len _))
      go_upto_region 7 with (refine wpList_store_rk rfl _ _ rfl rfl rfl FS ty141 (ev_len _) ?_)
      obtain ⟨ww7, hv7⟩ := nm (World.setRow ww6 H (lk .u64 (ev y2)))
      have HK7 : Hid (KS [(H, .cells (lk .u64 (ev y2)) 141), (R, .cells (lk .u64 (zi 5)) 141), (A, .cells (lk .u64 (ev p)) 141)] [] w ww7) := by rw [hv7]; exact hDx (HK6.out.setRow 0 rfl _)
      rw [← hv7]
      clear hv7
      clear FS
      have PW : sq (T.pw X (2 ^ (2 * m) - 1)) 1 * X = T.pw X (2 ^ (2 * m + 1) - 1) := by
       have h0 := pw_one X
       have h3 : sq (T.pw X (2 ^ (2 * m) - 1)) 1 * T.pw X 1 = T.pw X (2 ^ (2 * m + 1) - 1) := by
        rw [sq_pw, ← pw_add]
        congr 1
        have h1 : 1 ≤ 2 ^ (2 * m) := Nat.one_le_two_pow
        have h2 : 2 ^ (2 * m + 1) = 2 ^ (2 * m) * 2 := Nat.pow_succ ..
        rw [h2]
        omega
       rw [h0] at h3
       exact h3
      rw [PW] at hy2
      clear PW
      have FA := (HK7.out.rk 0 rfl (ev_len _))
      have FR := (HK7.out.rk 1 rfl (zi_len 5))
      go_wp2_with (first | (refine wpList_load_rk rfl _ rfl rfl FA ty141 ?_) | (refine wpList_store_rk rfl _ _ rfl rfl rfl FR ty141 (ev_len _) ?_))
      have KE := HK7.out.setRow 1 rfl (lk .u64 (ev y2))
      try simp only [Exit.inBlock, Exit.then]
      refine bodyPost_ret (results_rk (p := 4) (by kernel_rfl) (by rfl) (KE.rk 1 rfl (ev_len _)) ty141) rfl ?_
      exact ⟨⟨_, rfl, by rw [HM.out.2.2.2.2.1, HR.out]; exact hy2.is⟩, KE.below⟩
end
section
open Go.RowKit T
theorem inv_eq (X : F) : sq (T.pw X (2 ^ 250 - 1)) 5 * (X * X * X * sq X 3) = T.iv X := by
 have e3 : X * X * X = T.pw X 3 := by
  show _ = 1 * X * X * X
  grind
 have e8 : sq X 3 = T.pw X 8 := by
  have h := sq_pw X 1 3
  rw [pw_one] at h
  exact h
 rw [e3, e8, sq_pw, ← pw_add, ← pw_add]
 unfold T.iv
 congr 1
theorem ones250 {x : Value} {X Y : F} (hY : Y = T.pw X (2 ^ 250 - 1)) (hx : IsE x X) (w : World) : Calls Tryz.prog 113 #[x, .int .i64 250] w fun e w' => (∃ z, e = .returned z ∧ IsE z Y) ∧ Below w.heap.size w w' := by
 rw [hY]; exact ones_any 250 (by decide) (by decide) hx w
theorem inv_any {x : Value} {X : F} (hx : IsE x X) (w : World) : Calls Tryz.prog 86 #[x] w fun e w' => (∃ z, e = .returned z ∧ IsE z (T.iv X)) ∧ Below w.heap.size w w' := by
 obtain ⟨p, rfl, hp⟩ := hx.ev
 obtain ⟨Y, hY⟩ := nm (T.pw X (2 ^ 250 - 1))
 have IE := inv_eq X
 rw [← hY] at IE
 obtain ⟨I, hI⟩ := nm (T.iv X)
 rw [← hI] at IE
 rw [← hI]
 clear hI
 have HY := hDx (And.intro hY IE)
 clear hY IE
 go_enter Tryz.func86, Tryz.ntmps86
 have HK0 := hDx (KS.start w)
 go_upto_region 1 with (fail)
 have hm1 := ((HK0.out.made (.cells (lk .u64 (ev p)) 141)).made (.cells #[.int .u64 0, .int .u64 0, .int .u64 0, .int .u64 0, .int .u64 0] 141))
 try rw [show ((World.alloc w (.cells (lk .u64 (ev p)) 141))).heap.size = w.heap.size + 1 by simp] at hm1
 obtain ⟨R, hgR⟩ := nm (w.heap.size + 1)
 obtain ⟨A, hgA⟩ := nm w.heap.size
 obtain ⟨ww1, hv1⟩ := nm (World.alloc (World.alloc w (.cells (lk .u64 (ev p)) 141)) (.cells #[.int .u64 0, .int .u64 0, .int .u64 0, .int .u64 0, .int .u64 0] 141))
 rw [← hv1, ← hgR, ← hgA] at hm1
 rw [← hv1]
 try rw [← hgR]
 try rw [← hgA]
 have HK1 : Hid (KS [(R, .cells (lk .u64 (zi 5)) 141), (A, .cells (lk .u64 (ev p)) 141)] [] w ww1) := hDx hm1
 clear hm1 hv1 hgA hgR
 try simp only [Act.put, sAx, s0x, s1x]
 refine wp_region_calm 6 [5, 6, 7, 8, 9, 3] [3] [[], [], [5, 6], [], [7, 8], []] (Ftab [(5, .val (.agg (lk .u64 (ev p)))), (6, .val (.agg (lk .u64 (ev p)))), (7, .of (fun v => IsE v (X * X))), (8, .val (.agg (lk .u64 (ev p)))), (9, .of (fun v => IsE v (X * X * X))), (3, .obj ww1.heap.size (.cells #[.int .u64 0, .int .u64 0, .int .u64 0, .int .u64 0, .int .u64 0] 141))]) (by kernel_rfl) (by kernel_rfl) (by rfl) (by kernel_rfl) ?hO1 ?hE1
 case hO1 =>
  refine ⟨?_, ?_, ?_, ?_, ?_, ?_, trivial⟩
  ·intro act u HB HO HA
   have e1 : act.eval (.tmp 1) = .pointer (some ⟨A, 0, none⟩) := HO 1 (by decide)
   have HS := HK1.out.drew.call HB
   exact calm_lM 5 1 e1 (HS.get 1 rfl) ag141 (ev_ext _) (ev_sz _) rfl rfl rfl rfl
  ·intro act u HB HO HA
   have e1 : act.eval (.tmp 1) = .pointer (some ⟨A, 0, none⟩) := HO 1 (by decide)
   have HS := HK1.out.drew.call HB
   exact calm_lM 6 1 e1 (HS.get 1 rfl) ag141 (ev_ext _) (ev_sz _) rfl rfl rfl rfl
  ·intro act u HB HO HA
   have e5 : _ = _ := qA HA 5
   have e6 : _ = _ := qA HA 6
   refine calm_call 7 #[.agg (lk .u64 (ev p)), .agg (lk .u64 (ev p))] rfl rfl ?_ (by kernel_rfl) (mul_any hp.is hp.is u) ?_ rfl
   ·simp only [mTx, mCx, mNx, e5, e6]
    try rfl
   rintro e u1 ⟨⟨y, rfl, hy⟩, B1⟩
   exact ⟨_, rfl, hy, B1⟩
  ·intro act u HB HO HA
   have e1 : act.eval (.tmp 1) = .pointer (some ⟨A, 0, none⟩) := HO 1 (by decide)
   have HS := HK1.out.drew.call HB
   exact calm_lM 8 1 e1 (HS.get 1 rfl) ag141 (ev_ext _) (ev_sz _) rfl rfl rfl rfl
  ·intro act u HB HO HA
   have p7 : (fun v => IsE v (X * X)) (act.eval (.tmp 7)) := qA HA 7
   obtain ⟨x7, e7⟩ : ∃ x, act.eval (.tmp 7) = x := ⟨_, rfl⟩
   rw [e7] at p7
   have e8 : _ = _ := qA HA 8
   refine calm_call 9 #[x7, .agg (lk .u64 (ev p))] rfl rfl ?_ (by kernel_rfl) (mul_any p7 hp.is u) ?_ rfl
   ·simp only [mTx, mCx, mNx, e7, e8]
    try rfl
   rintro e u1 ⟨⟨y, rfl, hy⟩, B1⟩
   exact ⟨_, rfl, hy, B1⟩
  intro act u HB HO HA
  refine calm_new 3 (.cells #[.int .u64 0, .int .u64 0, .int .u64 0, .int .u64 0, .int .u64 0] 141) rfl ?_ (obj_new _ u _ (Nat.le_trans (by exact Nat.le_refl _) HB.size))
  go_simp
 intro vT ww2 HB HF HN
 have f5 : _ = _ := qA HF 5
 have f6 : _ = _ := qA HF 6
 have p7 : (fun v => IsE v (X * X)) (vT 7) := qA HF 7
 obtain ⟨x7, f7⟩ : ∃ x, vT 7 = x := ⟨_, rfl⟩
 rw [f7] at p7
 have f8 : _ = _ := qA HF 8
 have p9 : (fun v => IsE v (X * X * X)) (vT 9) := qA HF 9
 obtain ⟨x9, f9⟩ : ∃ x, vT 9 = x := ⟨_, rfl⟩
 rw [f9] at p9
 obtain ⟨C3, f3, q3, b3⟩ : (Fct.obj ww1.heap.size (.cells #[.int .u64 0, .int .u64 0, .int .u64 0, .int .u64 0, .int .u64 0] 141)).p (vT 3) ww2 := qA HF 3
 have HK2 := hDx (KS.grow1 HK1.out.drew HB ⟨q3, b3⟩)
 clear q3 b3
 simp only [fill, Act.put, sAx, s0x, s1x, dSx, d0x, f5, f6, f7, f8, f9, f3]
 clear HB HF HN f5 f6 f7 f8 f9 f3
 obtain ⟨y3, rfl, hy3⟩ := p9.ev
 replace hy3 := hDx hy3
 clear p9 p7
 have FS := (HK2.out.rk 0 rfl (show (zi 5).length = 5 from rfl))
 go_upto_region 2 with (refine wpList_store_rk rfl _ _ rfl rfl rfl FS ty141 (ev_len _) ?_)
 obtain ⟨ww3, hv3⟩ := nm (World.setRow ww2 C3 (lk .u64 (ev y3)))
 have HK3 : Hid (KS [(C3, .cells (lk .u64 (ev y3)) 141), (R, .cells (lk .u64 (zi 5)) 141), (A, .cells (lk .u64 (ev p)) 141)] [] w ww3) := by rw [hv3]; exact hDx (HK2.out.setRow 0 rfl _)
 rw [← hv3]
 clear hv3
 clear FS
 try simp only [Act.put, sAx, s0x, s1x]
 refine wp_region_calm 5 [10, 11, 12, 13, 4] [4] [[], [], [11], [10, 12], []] (Ftab [(10, .val (.agg (lk .u64 (ev y3)))), (11, .val (.agg (lk .u64 (ev p)))), (12, .of (fun v => IsE v (sq X 3))), (13, .of (fun v => IsE v (X * X * X * sq X 3))), (4, .obj ww3.heap.size (.cells #[.int .u64 0, .int .u64 0, .int .u64 0, .int .u64 0, .int .u64 0] 141))]) (by kernel_rfl) (by kernel_rfl) (by rfl) (by kernel_rfl) ?hO2 ?hE2
 case hO2 =>
  refine ⟨?_, ?_, ?_, ?_, ?_, trivial⟩
  ·intro act u HB HO HA
   have e3 : act.eval (.tmp 3) = .pointer (some ⟨C3, 0, none⟩) := HO 3 (by decide)
   have HS := HK3.out.drew.call HB
   exact calm_lM 10 3 e3 (HS.get 0 rfl) ag141 (ev_ext _) (ev_sz _) rfl rfl rfl rfl
  ·intro act u HB HO HA
   have e1 : act.eval (.tmp 1) = .pointer (some ⟨A, 0, none⟩) := HO 1 (by decide)
   have HS := HK3.out.drew.call HB
   exact calm_lM 11 1 e1 (HS.get 2 rfl) ag141 (ev_ext _) (ev_sz _) rfl rfl rfl rfl
  ·intro act u HB HO HA
   have e11 : _ = _ := qA HA 11
   refine calm_call 12 #[.agg (lk .u64 (ev p)), .int .i64 3] rfl rfl ?_ (by kernel_rfl) (squares_any hp.is 3 (by decide) u) ?_ rfl
   ·simp only [mTx, mCx, mNx, e11]
    try rfl
   rintro e u1 ⟨⟨y, rfl, hy⟩, B1⟩
   exact ⟨_, rfl, hy, B1⟩
  ·intro act u HB HO HA
   have e10 : _ = _ := qA HA 10
   have p12 : (fun v => IsE v (sq X 3)) (act.eval (.tmp 12)) := qA HA 12
   obtain ⟨x12, e12⟩ : ∃ x, act.eval (.tmp 12) = x := ⟨_, rfl⟩
   rw [e12] at p12
   refine calm_call 13 #[.agg (lk .u64 (ev y3)), x12] rfl rfl ?_ (by kernel_rfl) (mul_any hy3.out.is p12 u) ?_ rfl
   ·simp only [mTx, mCx, mNx, e10, e12]
    try rfl
   rintro e u1 ⟨⟨y, rfl, hy⟩, B1⟩
   exact ⟨_, rfl, hy, B1⟩
  intro act u HB HO HA
  refine calm_new 4 (.cells #[.int .u64 0, .int .u64 0, .int .u64 0, .int .u64 0, .int .u64 0] 141) rfl ?_ (obj_new _ u _ (Nat.le_trans (by exact Nat.le_refl _) HB.size))
  go_simp
 intro vT ww4 HB HF HN
 have f10 : _ = _ := qA HF 10
 have f11 : _ = _ := qA HF 11
 have p12 : (fun v => IsE v (sq X 3)) (vT 12) := qA HF 12
 obtain ⟨x12, f12⟩ : ∃ x, vT 12 = x := ⟨_, rfl⟩
 rw [f12] at p12
 have p13 : (fun v => IsE v (X * X * X * sq X 3)) (vT 13) := qA HF 13
 obtain ⟨x13, f13⟩ : ∃ x, vT 13 = x := ⟨_, rfl⟩
 rw [f13] at p13
 obtain ⟨C4, f4, q4, b4⟩ : (Fct.obj ww3.heap.size (.cells #[.int .u64 0, .int .u64 0, .int .u64 0, .int .u64 0, .int .u64 0] 141)).p (vT 4) ww4 := qA HF 4
 have HK4 := hDx (KS.grow1 HK3.out.drew HB ⟨q4, b4⟩)
 clear q4 b4
 simp only [fill, Act.put, sAx, s0x, s1x, dSx, d0x, f10, f11, f12, f13, f4]
 clear HB HF HN f10 f11 f12 f13 f4
 obtain ⟨y4, rfl, hy4⟩ := p13.ev
 replace hy4 := hDx hy4
 clear p13 p12
 have FS := (HK4.out.rk 0 rfl (show (zi 5).length = 5 from rfl))
 go_upto_region 3 with (refine wpList_store_rk rfl _ _ rfl rfl rfl FS ty141 (ev_len _) ?_)
 obtain ⟨ww5, hv5⟩ := nm (World.setRow ww4 C4 (lk .u64 (ev y4)))
 have HK5 : Hid (KS [(C4, .cells (lk .u64 (ev y4)) 141), (C3, .cells (lk .u64 (ev y3)) 141), (R, .cells (lk .u64 (zi 5)) 141), (A, .cells (lk .u64 (ev p)) 141)] [] w ww5) := by rw [hv5]; exact hDx (HK4.out.setRow 0 rfl _)
 rw [← hv5]
 clear hv5
 clear FS
 try simp only [Act.put, sAx, s0x, s1x]
 refine wp_region_calm 5 [14, 15, 16, 17, 18] [] [[], [14], [15], [], [16, 17]] (Ftab [(14, .val (.agg (lk .u64 (ev p)))), (15, .of (fun v => IsE v (Y))), (16, .of (fun v => IsE v (sq Y 5))), (17, .val (.agg (lk .u64 (ev y4)))), (18, .of (fun v => IsE v (sq Y 5 * (X * X * X * sq X 3))))]) (by kernel_rfl) (by kernel_rfl) (by rfl) (by kernel_rfl) ?hO3 ?hE3
 case hO3 =>
  refine ⟨?_, ?_, ?_, ?_, ?_, trivial⟩
  ·intro act u HB HO HA
   have e1 : act.eval (.tmp 1) = .pointer (some ⟨A, 0, none⟩) := HO 1 (by decide)
   have HS := HK5.out.drew.call HB
   exact calm_lM 14 1 e1 (HS.get 3 rfl) ag141 (ev_ext _) (ev_sz _) rfl rfl rfl rfl
  ·intro act u HB HO HA
   have e14 : _ = _ := qA HA 14
   refine calm_call 15 #[.agg (lk .u64 (ev p)), .int .i64 250] rfl rfl ?_ (by kernel_rfl) (ones250 HY.out.1 hp.is u) ?_ rfl
   ·simp only [mTx, mCx, mNx, e14]
    try rfl
   rintro e u1 ⟨⟨y, rfl, hy⟩, B1⟩
   exact ⟨_, rfl, hy, B1⟩
  ·intro act u HB HO HA
   have p15 : (fun v => IsE v (Y)) (act.eval (.tmp 15)) := qA HA 15
   obtain ⟨x15, e15⟩ : ∃ x, act.eval (.tmp 15) = x := ⟨_, rfl⟩
   rw [e15] at p15
   refine calm_call 16 #[x15, .int .i64 5] rfl rfl ?_ (by kernel_rfl) (squares_any p15 5 (by decide) u) ?_ rfl
   ·simp only [mTx, mCx, mNx, e15]
    try rfl
   rintro e u1 ⟨⟨y, rfl, hy⟩, B1⟩
   exact ⟨_, rfl, hy, B1⟩
  ·intro act u HB HO HA
   have e4 : act.eval (.tmp 4) = .pointer (some ⟨C4, 0, none⟩) := HO 4 (by decide)
   have HS := HK5.out.drew.call HB
   exact calm_lM 17 4 e4 (HS.get 0 rfl) ag141 (ev_ext _) (ev_sz _) rfl rfl rfl rfl
  intro act u HB HO HA
  have p16 : (fun v => IsE v (sq Y 5)) (act.eval (.tmp 16)) := qA HA 16
  obtain ⟨x16, e16⟩ : ∃ x, act.eval (.tmp 16) = x := ⟨_, rfl⟩
  rw [e16] at p16
  have e17 : _ = _ := qA HA 17
  refine calm_call 18 #[x16, .agg (lk .u64 (ev y4))] rfl rfl ?_ (by kernel_rfl) (mul_any p16 hy4.out.is u) ?_ rfl
  ·simp only [mTx, mCx, mNx, e16, e17]
   try rfl
  rintro e u1 ⟨⟨y, rfl, hy⟩, B1⟩
  exact ⟨_, rfl, hy, B1⟩
 intro vT ww6 HB HF HN
 have f14 : _ = _ := qA HF 14
 have p15 : (fun v => IsE v (Y)) (vT 15) := qA HF 15
 obtain ⟨x15, f15⟩ : ∃ x, vT 15 = x := ⟨_, rfl⟩
 rw [f15] at p15
 have p16 : (fun v => IsE v (sq Y 5)) (vT 16) := qA HF 16
 obtain ⟨x16, f16⟩ : ∃ x, vT 16 = x := ⟨_, rfl⟩
 rw [f16] at p16
 have f17 : _ = _ := qA HF 17
 have p18 : (fun v => IsE v (sq Y 5 * (X * X * X * sq X 3))) (vT 18) := qA HF 18
 obtain ⟨x18, f18⟩ : ∃ x, vT 18 = x := ⟨_, rfl⟩
 rw [f18] at p18
 have HK6 := hDx (HK5.out.drew.call HB)
 simp only [fill, Act.put, sAx, s0x, s1x, dSx, d0x, f14, f15, f16, f17, f18]
 clear HB HF HN f14 f15 f16 f17 f18
 obtain ⟨y5, rfl, hy5⟩ := p18.ev
 replace hy5 := hDx hy5
 clear p18 p16 p15
 have FS := (HK6.out.rk 2 rfl (show (zi 5).length = 5 from rfl))
 go_wp2_with (refine wpList_store_rk rfl _ _ rfl rfl rfl FS ty141 (ev_len _) ?_)
 obtain ⟨ww7, hv7⟩ := nm (World.setRow ww6 R (lk .u64 (ev y5)))
 have HK7 : Hid (KS [(C4, .cells (lk .u64 (ev y4)) 141), (C3, .cells (lk .u64 (ev y3)) 141), (R, .cells (lk .u64 (ev y5)) 141), (A, .cells (lk .u64 (ev p)) 141)] [] w ww7) := by rw [hv7]; exact hDx (HK6.out.setRow 2 rfl _)
 rw [← hv7]
 clear hv7
 clear FS
 try simp only [Exit.inBlock, Exit.then]
 refine bodyPost_ret (results_rk (p := 2) (by kernel_rfl) (by rfl) (HK7.out.rk 2 rfl (ev_len _)) ty141) rfl ?_
 exact ⟨⟨_, rfl, by have h := hy5.out.is; rw [HY.out.2] at h; exact h⟩, HK7.out.below⟩
end
end Go.Proofs.YtoplbfijodebmaaGreatDoor
