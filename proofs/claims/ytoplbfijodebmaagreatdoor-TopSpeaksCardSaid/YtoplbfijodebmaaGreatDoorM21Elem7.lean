/-
  The walk.
-/
import Derived.Test.YtoplbfijodebmaaGreatDoorM20Oct
import Derived.Laws.ResultCell
set_option linter.unusedVariables false
set_option linter.unusedSimpArgs false
set_option maxRecDepth 100000
set_option maxHeartbeats 40000000
namespace Go.Proofs.YtoplbfijodebmaaGreatDoor
section
open Go.RowKit T
theorem bt_ext {s : ByteArray} {i j k : Nat} (h : i + k < j) (hj : j ≤ s.size) : bt (s.extract i j) k = bt s (i + k) := by
 unfold bt
 rw [gDx, gDx]
 have e : (s.extract i j).data = s.data.extract i j := ByteArray.data_extract
 have hs : s.size = s.data.size := rfl
 rw [e, Array.getElem?_extract, if_pos (by omega)]
theorem leN_ext (s : ByteArray) (i : Nat) (hi : i ≤ s.size) : ∀ n, i + n ≤ s.size → leN s (i + n) = leN s i + 256 ^ i * leN (s.extract i s.size) n
 | 0, _ => by simp [leN]
 | n + 1, h => by
  rw [show i + (n + 1) = (i + n) + 1 by omega, leN, leN, leN_ext s i hi n (by omega), bt_ext (by omega) (Nat.le_refl _), Nat.pow_add, Nat.mul_add, Nat.mul_left_comm, ← Nat.add_assoc]
theorem leN_mid (s : ByteArray) (i n : Nat) (h : i + n ≤ s.size) : leN (s.extract i s.size) n = leN s (i + n) / 256 ^ i := by
 have h1 := leN_ext s i (by omega) n h
 have h2 := leN_lt s i
 rw [h1, Nat.mul_comm, Nat.add_mul_div_right _ _ (Nat.pow_pos (by decide)), Nat.div_eq_of_lt h2, Nat.zero_add]
theorem leN_mod (s : ByteArray) (i : Nat) : ∀ n, leN s (i + n) % 256 ^ i = leN s i
 | 0 => Nat.mod_eq_of_lt (leN_lt s i)
 | n + 1 => by
  rw [← Nat.add_assoc, leN, Nat.pow_add, Nat.mul_left_comm, Nat.add_mul_mod_self_left]
  exact leN_mod s i n
theorem leN_win (s : ByteArray) (i n m : Nat) (h : i + n ≤ m) (hm : m ≤ s.size) : leN (s.extract i s.size) n = leN s m / 256 ^ i % 256 ^ n := by
 rw [leN_mid s i n (by omega), ← leN_mod s (i + n) (m - (i + n)), show i + n + (m - (i + n)) = m by omega, Nat.pow_add, Nat.mod_mul_right_div_self]
def ofP (s : ByteArray) : El := ⟨leN s 32 % 2251799813685248, leN s 32 / 2251799813685248 % 2251799813685248, leN s 32 / 5070602400912917605986812821504 % 2251799813685248, leN s 32 / 11417981541647679048466287755595961091061972992 % 2251799813685248, leN s 32 / 25711008708143844408671393477458601640355247900524685364822016 % 2251799813685248⟩
theorem ofP_v (s : ByteArray) : (ofP s).v + 57896044618658097711785492504343953926634992332820282019728792003956564819968 * (leN s 32 / 57896044618658097711785492504343953926634992332820282019728792003956564819968) = leN s 32 := by
 generalize e : leN s 32 = n
 unfold ofP El.v
 simp only [e]
 omega
theorem ofA (s : ByteArray) (i n d : Nat) (h : i + n ≤ 32) (hs : s.size = 32) : (leN (s.extract i 32) n : Nat) = leN s 32 / 256 ^ i % 256 ^ n := by
 have := leN_win s i n 32 h (by omega)
 rwa [hs] at this
theorem of_parts (s : ByteArray) (hs : s.size = 32) : ∃ p : El, p = ofP s ∧ ∃ r1 r2 r3 r4 : Nat, bits .and .u64 (leN s 8 : Int) 2251799813685247 = (p.a : Int) ∧
  (leN (s.extract 6 32) 8 : Int) / 8 = r1 ∧ bits .and .u64 (r1 : Int) 2251799813685247 = (p.b : Int) ∧ (leN (s.extract 12 32) 8 : Int) / 64 = r2 ∧ bits .and .u64 (r2 : Int) 2251799813685247 = (p.c : Int) ∧
  (leN (s.extract 19 32) 8 : Int) / 2 = r3 ∧ bits .and .u64 (r3 : Int) 2251799813685247 = (p.d : Int) ∧ (leN (s.extract 24 32) 8 : Int) / 4096 = r4 ∧ bits .and .u64 (r4 : Int) 2251799813685247 = (p.e : Int) := by
 have l0 : leN s 8 = leN s 32 % 18446744073709551616 := (leN_mod s 8 24).symm
 have l1 := ofA s 6 8 0 (by decide) hs
 have l2 := ofA s 12 8 0 (by decide) hs
 have l3 := ofA s 19 8 0 (by decide) hs
 have l4 := ofA s 24 8 0 (by decide) hs
 generalize leN s 8 = a0 at l0
 generalize leN (s.extract 6 32) 8 = a1 at l1
 generalize leN (s.extract 12 32) 8 = a2 at l2
 generalize leN (s.extract 19 32) 8 = a3 at l3
 generalize leN (s.extract 24 32) 8 = a4 at l4
 refine ⟨ofP s, rfl, a1 / 8, a2 / 64, a3 / 2, a4 / 4096, ?_, by omega, ?_, by omega, ?_, by omega, ?_, by omega, ?_⟩
 ·rw [and51 _ (by omega)]
  unfold ofP
  simp only []
  generalize leN s 32 = n at l0
  omega
 ·rw [and51 _ (by omega)]
  unfold ofP
  simp only []
  generalize leN s 32 = n at l1
  simp only [Nat.reducePow] at l1
  omega
 ·rw [and51 _ (by omega)]
  unfold ofP
  simp only []
  generalize leN s 32 = n at l2
  simp only [Nat.reducePow] at l2
  omega
 ·rw [and51 _ (by omega)]
  unfold ofP
  simp only []
  generalize leN s 32 = n at l3
  simp only [Nat.reducePow] at l3
  omega
 rw [and51 _ (by omega)]
 unfold ofP
 simp only []
 generalize leN s 32 = n at l4
 simp only [Nat.reducePow] at l4
 omega
theorem results_rkt {fn : Func} {p q : Tmp} {tmps : Array Value} {w : World} {b n t : Nat} {k : IntKind} {v : List Int} {x : Value} (h : fn.results = #[.cell p t, .tmp q]) (hp : tmps.getD p undef = .pointer (some ⟨b, 0, none⟩)) (hq : tmps.getD q undef = x) (hr : Rk w b t k n v) (ht : RowTy t n) :
  (results fn tmps).run Tryz.prog w = .ok (.tuple #[.agg (lk k v), x]) w := by
 rw [results_cell_tmp h, hp, hq]
 simp only [asAddr, Sem.run_pure, Result.andThen_ok, hr.loadVar ht]
theorem top7 (s : ByteArray) (hs : s.size = 32) : ∃ t m : Nat, (bt s 31 : Int) / 128 = t ∧ IntKind.u64.wrap (t : Int) = t ∧ IntKind.u64.wrap (19 * (t : Int)) = m ∧ m = 19 * t ∧ t ≤ 1 ∧ t = leN s 32 / 57896044618658097711785492504343953926634992332820282019728792003956564819968 := by
 have hb := bt_lt s 31
 refine ⟨bt s 31 / 128, 19 * (bt s 31 / 128), by omega, u64w rfl (by omega), u64w (by omega) (by omega), rfl, by omega, ?_⟩
 have h1 := leN_lt s 31
 rw [leN]
 generalize leN s 31 = n at h1
 generalize bt s 31 = b at hb
 simp only [Nat.reducePow] at h1 ⊢
 omega
theorem of32_any (s : ByteArray) (hs : s.size = 32) (w : World) : Calls Tryz.prog 82 #[.string s] w fun e w' => (∃ z, e = .returned (.tuple #[z, .int .i64 0]) ∧ IsE z (fe (leN s 32))) ∧ Below w.heap.size w w' := by
 have hs2 : (s.size : Int) = 32 := by omega
 obtain ⟨p, hp, r1, r2, r3, r4, h0, h1a, h1, h2a, h2, h3a, h3, h4a, h4⟩ := of_parts s hs
 obtain ⟨t7, m7, k1, k2, k3, k4, k5, k6⟩ := top7 s hs
 have hpl : El.le p 2251799813685247 := by rw [hp]; unfold ofP El.le; simp only []; omega
 have hn : IntKind.u64.wrap ((p.a : Int) + m7) = ((p.a + m7 : Nat) : Int) := u64w (by omega) (by have := hpl.1; omega)
 have hpv := ofP_v s
 rw [← hp, ← k6] at hpv
 have ce := carF_el ⟨p.a + m7, p.b, p.c, p.d, p.e⟩ (by have := hpl.1; have := hpl.2; unfold El.le; simp only []; omega)
 have cl := carry_le ⟨p.a + m7, p.b, p.c, p.d, p.e⟩ (by have := hpl.1; have := hpl.2; unfold El.le; simp only []; omega)
 have cf := carry_fe ⟨p.a + m7, p.b, p.c, p.d, p.e⟩
 have hfe : fe (El.v ⟨p.a + m7, p.b, p.c, p.d, p.e⟩) = fe (leN s 32) := by
  rw [← hpv, k4]
  refine fe_eq ?_
  rw [show p.v + 57896044618658097711785492504343953926634992332820282019728792003956564819968 * t7 = El.v ⟨p.a + 19 * t7, p.b, p.c, p.d, p.e⟩ + P * t7 by unfold El.v P; simp only []; omega, Nat.add_mul_mod_self_left]
 rw [hfe] at cf
 obtain ⟨q, hq⟩ := nm (p.a + m7)
 rw [← hq] at hn ce cl cf
 obtain ⟨a0, a1, a2, a3, a4⟩ := p
 simp only [] at h0 h1 h2 h3 h4 hn ce cl cf
 have HX := hDx (And.intro ce (And.intro cl cf))
 have E6 : (s.extract 6 32).size = 26 := by rw [ByteArray.size_extract, hs]; rfl
 have E12 : (s.extract 12 32).size = 20 := by rw [ByteArray.size_extract, hs]; rfl
 have E19 : (s.extract 19 32).size = 13 := by rw [ByteArray.size_extract, hs]; rfl
 have E24 : (s.extract 24 32).size = 8 := by rw [ByteArray.size_extract, hs]; rfl
 have HE := hDx (And.intro E6 (And.intro E12 (And.intro E19 E24)))
 have HS := hDx hs
 clear ce cl cf hfe hpv hq hp hpl k4 k5 k6 E6 E12 E19 E24
 have ks := fun u => idxS (s := s) (k := 31) (by omega) u
 simp only [Int.cast_ofNat_Int] at ks
 go_enter Tryz.func82, Tryz.ntmps82
 have HK0 := hDx (KS.start w)
 go_upto_region 1 with (fail)
 have hm1 := (HK0.out.made (.cells #[.int .u64 0, .int .u64 0, .int .u64 0, .int .u64 0, .int .u64 0] 141))
 obtain ⟨R, hgR⟩ := nm w.heap.size
 obtain ⟨ww1, hv1⟩ := nm (World.alloc w (.cells #[.int .u64 0, .int .u64 0, .int .u64 0, .int .u64 0, .int .u64 0] 141))
 rw [← hv1, ← hgR] at hm1
 rw [← hv1]
 try rw [← hgR]
 have HK1 : Hid (KS [(R, .cells (lk .u64 (zi 5)) 141)] [] w ww1) := hDx hm1
 clear hm1 hv1 hgR
 go_upto_region 3 with (fail)
 try simp only [Act.put, sAx, s0x, s1x]
 refine wp_region_calm 25 [9, 10, 11, 12, 13, 14, 15, 16, 17, 18, 19, 20, 21, 22, 23, 24, 25, 26, 27, 28, 29, 30, 31, 32, 4] [4] [[], [9], [10], [], [12], [13], [14], [15], [], [17], [18], [19], [20], [], [22], [23], [24], [25], [], [27], [28], [29], [30], [11, 16, 21, 26, 31], []] (Ftab [(9, .val (.string s)), (10, .val (.int .u64 (leN s 8 : Int))), (11, .val (.int .u64 (a0 : Int))), (12, .val (.string s)), (13, .val (.string (s.extract 6 32))), (14, .val (.int .u64 (leN (s.extract 6 32) 8 : Int))), (15, .val (.int .u64 (r1 : Int))), (16, .val (.int .u64 (a1 : Int))), (17, .val (.string s)), (18, .val (.string (s.extract 12 32))), (19, .val (.int .u64 (leN (s.extract 12 32) 8 : Int))), (20, .val (.int .u64 (r2 : Int))), (21, .val (.int .u64 (a2 : Int))), (22, .val (.string s)), (23, .val (.string (s.extract 19 32))), (24, .val (.int .u64 (leN (s.extract 19 32) 8 : Int))), (25, .val (.int .u64 (r3 : Int))), (26, .val (.int .u64 (a3 : Int))), (27, .val (.string s)), (28, .val (.string (s.extract 24 32))), (29, .val (.int .u64 (leN (s.extract 24 32) 8 : Int))), (30, .val (.int .u64 (r4 : Int))), (31, .val (.int .u64 (a4 : Int))), (32, .val (.agg (lk .u64 [(a0 : Int), a1, a2, a3, a4]))), (4, .obj ww1.heap.size (.cells #[.int .u64 0, .int .u64 0, .int .u64 0, .int .u64 0, .int .u64 0] 141))]) (by kernel_rfl) (by kernel_rfl) (by rfl) (by kernel_rfl) ?hO ?hE
 case hO =>
  refine ⟨?_, ?_, ?_, ?_, ?_, ?_, ?_, ?_, ?_, ?_, ?_, ?_, ?_, ?_, ?_, ?_, ?_, ?_, ?_, ?_, ?_, ?_, ?_, ?_, ?_, trivial⟩
  ·intro act u HB HO HA
   have e0 := gE (x := .string s) (HO 0 (by decide))
   refine calm_val 9 _ rfl ?_ rfl rfl
   clear HB HO HA
   go_simp
   try rfl
  ·intro act u HB HO HA
   have e9 : _ = _ := qA HA 9
   refine calm_call 10 #[.string s] rfl rfl ?_ (by kernel_rfl) (word_any s (by have := HS.out; omega) u) ?_ rfl
   ·simp only [mTx, mCx, mNx, e9]
    try rfl
   rintro e u1 ⟨rfl, B1⟩
   exact ⟨_, rfl, rfl, B1⟩
  ·intro act u HB HO HA
   have e10 : _ = _ := gE (qA HA 10)
   refine calm_val 11 _ rfl ?_ rfl rfl
   clear HB HO HA
   go_simp
   try rfl
  ·intro act u HB HO HA
   have e0 := gE (x := .string s) (HO 0 (by decide))
   refine calm_val 12 _ rfl ?_ rfl rfl
   clear HB HO HA
   go_simp
   try rfl
  ·intro act u HB HO HA
   have e12 : _ = _ := gE (qA HA 12)
   refine calm_val 13 _ rfl ?_ rfl rfl
   clear HB HO HA
   go_simp
   try rfl
  ·intro act u HB HO HA
   have e13 : _ = _ := qA HA 13
   refine calm_call 14 #[.string (s.extract 6 32)] rfl rfl ?_ (by kernel_rfl) (word_any (s.extract 6 32) (by have := HE.out.1; omega) u) ?_ rfl
   ·simp only [mTx, mCx, mNx, e13]
    try rfl
   rintro e u1 ⟨rfl, B1⟩
   exact ⟨_, rfl, rfl, B1⟩
  ·intro act u HB HO HA
   have e14 : _ = _ := gE (qA HA 14)
   refine calm_val 15 _ rfl ?_ rfl rfl
   clear HB HO HA
   go_simp
   try rfl
  ·intro act u HB HO HA
   have e15 : _ = _ := gE (qA HA 15)
   refine calm_val 16 _ rfl ?_ rfl rfl
   clear HB HO HA
   go_simp
   try rfl
  ·intro act u HB HO HA
   have e0 := gE (x := .string s) (HO 0 (by decide))
   refine calm_val 17 _ rfl ?_ rfl rfl
   clear HB HO HA
   go_simp
   try rfl
  ·intro act u HB HO HA
   have e17 : _ = _ := gE (qA HA 17)
   refine calm_val 18 _ rfl ?_ rfl rfl
   clear HB HO HA
   go_simp
   try rfl
  ·intro act u HB HO HA
   have e18 : _ = _ := qA HA 18
   refine calm_call 19 #[.string (s.extract 12 32)] rfl rfl ?_ (by kernel_rfl) (word_any (s.extract 12 32) (by have := HE.out.2.1; omega) u) ?_ rfl
   ·simp only [mTx, mCx, mNx, e18]
    try rfl
   rintro e u1 ⟨rfl, B1⟩
   exact ⟨_, rfl, rfl, B1⟩
  ·intro act u HB HO HA
   have e19 : _ = _ := gE (qA HA 19)
   refine calm_val 20 _ rfl ?_ rfl rfl
   clear HB HO HA
   go_simp
   try rfl
  ·intro act u HB HO HA
   have e20 : _ = _ := gE (qA HA 20)
   refine calm_val 21 _ rfl ?_ rfl rfl
   clear HB HO HA
   go_simp
   try rfl
  ·intro act u HB HO HA
   have e0 := gE (x := .string s) (HO 0 (by decide))
   refine calm_val 22 _ rfl ?_ rfl rfl
   clear HB HO HA
   go_simp
   try rfl
  ·intro act u HB HO HA
   have e22 : _ = _ := gE (qA HA 22)
   refine calm_val 23 _ rfl ?_ rfl rfl
   clear HB HO HA
   go_simp
   try rfl
  ·intro act u HB HO HA
   have e23 : _ = _ := qA HA 23
   refine calm_call 24 #[.string (s.extract 19 32)] rfl rfl ?_ (by kernel_rfl) (word_any (s.extract 19 32) (by have := HE.out.2.2.1; omega) u) ?_ rfl
   ·simp only [mTx, mCx, mNx, e23]
    try rfl
   rintro e u1 ⟨rfl, B1⟩
   exact ⟨_, rfl, rfl, B1⟩
  ·intro act u HB HO HA
   have e24 : _ = _ := gE (qA HA 24)
   refine calm_val 25 _ rfl ?_ rfl rfl
   clear HB HO HA
   go_simp
   try rfl
  ·intro act u HB HO HA
   have e25 : _ = _ := gE (qA HA 25)
   refine calm_val 26 _ rfl ?_ rfl rfl
   clear HB HO HA
   go_simp
   try rfl
  ·intro act u HB HO HA
   have e0 := gE (x := .string s) (HO 0 (by decide))
   refine calm_val 27 _ rfl ?_ rfl rfl
   clear HB HO HA
   go_simp
   try rfl
  ·intro act u HB HO HA
   have e27 : _ = _ := gE (qA HA 27)
   refine calm_val 28 _ rfl ?_ rfl rfl
   clear HB HO HA
   go_simp
   try rfl
  ·intro act u HB HO HA
   have e28 : _ = _ := qA HA 28
   refine calm_call 29 #[.string (s.extract 24 32)] rfl rfl ?_ (by kernel_rfl) (word_any (s.extract 24 32) (by have := HE.out.2.2.2; omega) u) ?_ rfl
   ·simp only [mTx, mCx, mNx, e28]
    try rfl
   rintro e u1 ⟨rfl, B1⟩
   exact ⟨_, rfl, rfl, B1⟩
  ·intro act u HB HO HA
   have e29 : _ = _ := gE (qA HA 29)
   refine calm_val 30 _ rfl ?_ rfl rfl
   clear HB HO HA
   go_simp
   try rfl
  ·intro act u HB HO HA
   have e30 : _ = _ := gE (qA HA 30)
   refine calm_val 31 _ rfl ?_ rfl rfl
   clear HB HO HA
   go_simp
   try rfl
  ·intro act u HB HO HA
   have e11 : _ = _ := gE (qA HA 11)
   have e16 : _ = _ := gE (qA HA 16)
   have e21 : _ = _ := gE (qA HA 21)
   have e26 : _ = _ := gE (qA HA 26)
   have e31 : _ = _ := gE (qA HA 31)
   refine calm_val 32 _ rfl ?_ rfl rfl
   clear HB HO HA
   go_simp
   try rfl
  intro act u HB HO HA
  refine calm_new 4 (.cells #[.int .u64 0, .int .u64 0, .int .u64 0, .int .u64 0, .int .u64 0] 141) rfl ?_ (obj_new _ u _ (Nat.le_trans (by exact Nat.le_refl _) HB.size))
  go_simp
 intro vT ww2 HB HF HN
 have f9 : _ = _ := qA HF 9
 have f10 : _ = _ := qA HF 10
 have f11 : _ = _ := qA HF 11
 have f12 : _ = _ := qA HF 12
 have f13 : _ = _ := qA HF 13
 have f14 : _ = _ := qA HF 14
 have f15 : _ = _ := qA HF 15
 have f16 : _ = _ := qA HF 16
 have f17 : _ = _ := qA HF 17
 have f18 : _ = _ := qA HF 18
 have f19 : _ = _ := qA HF 19
 have f20 : _ = _ := qA HF 20
 have f21 : _ = _ := qA HF 21
 have f22 : _ = _ := qA HF 22
 have f23 : _ = _ := qA HF 23
 have f24 : _ = _ := qA HF 24
 have f25 : _ = _ := qA HF 25
 have f26 : _ = _ := qA HF 26
 have f27 : _ = _ := qA HF 27
 have f28 : _ = _ := qA HF 28
 have f29 : _ = _ := qA HF 29
 have f30 : _ = _ := qA HF 30
 have f31 : _ = _ := qA HF 31
 have f32 : _ = _ := qA HF 32
 obtain ⟨A, f4, q4, b4⟩ : (Fct.obj ww1.heap.size (.cells #[.int .u64 0, .int .u64 0, .int .u64 0, .int .u64 0, .int .u64 0] 141)).p (vT 4) ww2 := qA HF 4
 have HK2 := hDx (KS.grow1 HK1.out.drew HB ⟨q4, b4⟩)
 clear q4 b4
 simp only [fill, Act.put, sAx, s0x, s1x, dSx, d0x, f9, f10, f11, f12, f13, f14, f15, f16, f17, f18, f19, f20, f21, f22, f23, f24, f25, f26, f27, f28, f29, f30, f31, f32, f4]
 clear HB HF HN f9 f10 f11 f12 f13 f14 f15 f16 f17 f18 f19 f20 f21 f22 f23 f24 f25 f26 f27 f28 f29 f30 f31 f32 f4
 clear h0 h1a h1 h2a h2 h3a h3 h4a h4
 have FS := (HK2.out.rk 0 rfl (show (zi 5).length = 5 from rfl))
 go_upto_region 4 with (refine wpList_store_rk rfl _ _ rfl rfl rfl FS ty141 (show [(a0 : Int), a1, a2, a3, a4].length = 5 from rfl) ?_)
 obtain ⟨ww3, hv3⟩ := nm (World.setRow ww2 A (lk .u64 ([(a0 : Int), a1, a2, a3, a4])))
 have HK3 : Hid (KS [(A, .cells (lk .u64 ([(a0 : Int), a1, a2, a3, a4])) 141), (R, .cells (lk .u64 (zi 5)) 141)] [] w ww3) := by rw [hv3]; exact hDx (HK2.out.setRow 0 rfl _)
 rw [← hv3]
 clear hv3
 clear FS
 have cm := (HK3.out.rk 0 rfl (show [(a0 : Int), a1, a2, a3, a4].length = 5 from rfl)).cell 0 (by decide)
 have fz := (HK3.out.rk 0 rfl (show [(a0 : Int), a1, a2, a3, a4].length = 5 from rfl)).fz
 have e0 : ia [(a0 : Int), a1, a2, a3, a4] 0 = (a0 : Int) := rfl
 rw [e0] at cm
 go_still_tail 9, (by kernel_rfl)
 go_upto_region 5 with (fail)
 obtain ⟨ww4, hv4⟩ := nm (World.drew (World.setCell ww3 ⟨A, 0, none⟩ (.int .u64 ((q : Int)))))
 have HK4 : Hid (KS [(A, .cells (lk .u64 ([(q : Int), a1, a2, a3, a4])) 141), (R, .cells (lk .u64 (zi 5)) 141)] [] w ww4) := by rw [hv4]; exact hDx ((HK3.out.setK 0 rfl 0 ((q : Int))).drew)
 rw [← hv4]
 clear hv4
 clear cm fz e0
 have FA := (HK4.out.rk 0 rfl (show [(q : Int), a1, a2, a3, a4].length = 5 from rfl))
 go_wp2_with (refine wpList_load_rk rfl _ rfl rfl FA ty141 ?_)
 refine (carried_any [(q : Int), a1, a2, a3, a4] rfl _).mono ?_
 rintro e ww5 ⟨rfl, B1⟩
 simp only []
 have HK5 := hDx (HK4.out.call B1)
 clear B1
 have FR := (HK5.out.rk 1 rfl (zi_len 5))
 go_wp2_with (refine wpList_store_rk rfl _ _ rfl rfl rfl FR ty141 (carF_len _) ?_)
 have KE := HK5.out.setRow 1 rfl (lk .u64 (carF [(q : Int), a1, a2, a3, a4]))
 try simp only [Exit.inBlock, Exit.then]
 refine bodyPost_ret (results_rkt (p := 2) (q := 3) (by kernel_rfl) (by rfl) (by rfl) (KE.rk 1 rfl (carF_len _)) ty141) rfl ?_
 exact ⟨⟨_, rfl, _, congrArg (fun x => Value.agg (lk .u64 x)) HX.out.1, HX.out.2.1, HX.out.2.2⟩, KE.below⟩
end
section
open Go.RowKit T
def upF (f : Nat → Int) (m k : Nat) : List Int := (List.range m).map fun j => if j < k then f j else 0
theorem upF_len (f : Nat → Int) (m k : Nat) : (upF f m k).length = m := by simp [upF]
theorem upF_zero (f : Nat → Int) (m : Nat) : upF f m 0 = zi m := by
 apply List.ext_getElem?
 intro i
 unfold upF zi
 rw [List.getElem?_map, List.getElem?_replicate]
 by_cases h : i < m
 ·simp [h]
 simp [h]
theorem upF_get (f : Nat → Int) (m k i : Nat) (h : i < m) : (upF f m k)[i]? = some (if i < k then f i else 0) := by
 unfold upF
 rw [List.getElem?_map, List.getElem?_range h]
 rfl
theorem upF_at (f : Nat → Int) (m k i : Nat) (h : i < m) : ia (upF f m k) i = if i < k then f i else 0 := by
 unfold ia
 rw [List.getD_eq_getElem?_getD, upF_get f m k i h]
 rfl
theorem upF_set (f : Nat → Int) (m k : Nat) (h : k < m) : (upF f m k).set k (f k) = upF f m (k + 1) := by
 apply List.ext_getElem?
 intro i
 rw [List.getElem?_set]
 by_cases hi : i < m
 ·rw [upF_get f m k i hi, upF_get f m (k + 1) i hi, upF_len]
  by_cases e : k = i
  ·subst e
   rw [if_pos rfl, if_pos h, if_pos (by omega)]
  rw [if_neg e]
  congr 1
  by_cases e2 : i < k
  ·rw [if_pos e2, if_pos (by omega)]
  rw [if_neg e2, if_neg (by omega)]
 have h1 : (upF f m k)[i]? = none := List.getElem?_eq_none (by rw [upF_len]; omega)
 have h2 : (upF f m (k + 1))[i]? = none := List.getElem?_eq_none (by rw [upF_len]; omega)
 rw [h1, h2, if_neg (by omega)]
def redC (l : List Nat) : Nat → Nat
 | 0 => (nn l 0 + 19) / 2251799813685248
 | k + 1 => (nn l (k + 1) + redC l k) / 2251799813685248
def redD (v : List Int) : Nat → List Int
 | 0 => v
 | k + 1 => ((redD v k).set (k + 1) (IntKind.u64.wrap (ia (redD v k) (k + 1) + ia (redD v k) k / 2251799813685248))).set k (bits .and .u64 (ia (redD v k) k) 2251799813685247)
theorem redD_len (v : List Int) : ∀ k, (redD v k).length = v.length
 | 0 => rfl
 | k + 1 => by rw [redD, List.length_set, List.length_set, redD_len v k]
def redL (v : List Int) (c : Int) : List Int := (redD (v.set 0 (IntKind.u64.wrap (ia v 0 + IntKind.u64.wrap (19 * c)))) 4).set 4 (bits .and .u64 (ia (redD (v.set 0 (IntKind.u64.wrap (ia v 0 + IntKind.u64.wrap (19 * c)))) 4) 4) 2251799813685247)
theorem redL_five (a b c d e t : Int) : redL [a, b, c, d, e] t = [bits .and .u64 (IntKind.u64.wrap (a + IntKind.u64.wrap (19 * t))) 2251799813685247, bits .and .u64 (IntKind.u64.wrap (b + IntKind.u64.wrap (a + IntKind.u64.wrap (19 * t)) / 2251799813685248)) 2251799813685247,
  bits .and .u64 (IntKind.u64.wrap (c + IntKind.u64.wrap (b + IntKind.u64.wrap (a + IntKind.u64.wrap (19 * t)) / 2251799813685248) / 2251799813685248)) 2251799813685247,
  bits .and .u64 (IntKind.u64.wrap (d + IntKind.u64.wrap (c + IntKind.u64.wrap (b + IntKind.u64.wrap (a + IntKind.u64.wrap (19 * t)) / 2251799813685248) / 2251799813685248) / 2251799813685248)) 2251799813685247,
  bits .and .u64 (IntKind.u64.wrap (e + IntKind.u64.wrap (d + IntKind.u64.wrap (c + IntKind.u64.wrap (b + IntKind.u64.wrap (a + IntKind.u64.wrap (19 * t)) / 2251799813685248) / 2251799813685248) / 2251799813685248) / 2251799813685248)) 2251799813685247] := rfl
theorem addq (x y : Nat) (hx : x ≤ 9007199254740992) (hy : y ≤ 9007199254740992) : IntKind.u64.wrap ((x : Int) + (y : Int) / 2251799813685248) = ((x + y / 2251799813685248 : Nat) : Int) := u64w (by omega) (by omega)
def El.sm5 (x : El) : Prop := x.a < 2251799813685248 ∧ x.b < 2251799813685248 ∧ x.c < 2251799813685248 ∧ x.d < 2251799813685248 ∧ x.e < 2251799813685248
theorem dm (x : Nat) : ∃ r, x = 2251799813685248 * (x / 2251799813685248) + r ∧ x % 2251799813685248 = r ∧ r < 2251799813685248 := ⟨x % 2251799813685248, (Nat.div_add_mod x _).symm, rfl, Nat.mod_lt _ (by decide)⟩
theorem red_num (V r s c q : Nat) (h1 : V + 19 = r + 57896044618658097711785492504343953926634992332820282019728792003956564819968 * c) (h2 : V + 19 * c = s + 57896044618658097711785492504343953926634992332820282019728792003956564819968 * q) (hr : r < 57896044618658097711785492504343953926634992332820282019728792003956564819968) (hs : s < 57896044618658097711785492504343953926634992332820282019728792003956564819968) (hc : c ≤ 1) (hV : V < 115000000000000000000000000000000000000000000000000000000000000000000000000000) : s = V % P := by
 rcases (show c = 0 ∨ c = 1 by omega) with rfl | rfl
 ·rw [Nat.mod_eq_of_lt (by unfold P; omega)]
  omega
 rw [Nat.mod_eq_sub_mod (by unfold P; omega), Nat.mod_eq_of_lt (by unfold P; omega)]
 unfold P
 omega
theorem red_v {a b c d e c0 c1 c2 c3 c4 A B C D E : Nat} (h0 : a ≤ 2251799813685267) (h1 : b ≤ 2251799813685267) (h2 : c ≤ 2251799813685267) (h3 : d ≤ 2251799813685267) (h4 : e ≤ 2251799813685267)
  (hc0 : c0 = (a + 19) / 2251799813685248) (hc1 : c1 = (b + c0) / 2251799813685248) (hc2 : c2 = (c + c1) / 2251799813685248) (hc3 : c3 = (d + c2) / 2251799813685248) (hc4 : c4 = (e + c3) / 2251799813685248) (b4 : c4 ≤ 1)
  (hA : A = a + 19 * c4) (hB : B = b + A / 2251799813685248) (hC : C = c + B / 2251799813685248) (hD : D = d + C / 2251799813685248) (hE : E = e + D / 2251799813685248) :
  El.v ⟨A % 2251799813685248, B % 2251799813685248, C % 2251799813685248, D % 2251799813685248, E % 2251799813685248⟩ = El.v ⟨a, b, c, d, e⟩ % P := by
 obtain ⟨r0, r0a, r0b, r0c⟩ := dm (a + 19)
 obtain ⟨r1, r1a, r1b, r1c⟩ := dm (b + c0)
 obtain ⟨r2, r2a, r2b, r2c⟩ := dm (c + c1)
 obtain ⟨r3, r3a, r3b, r3c⟩ := dm (d + c2)
 obtain ⟨r4, r4a, r4b, r4c⟩ := dm (e + c3)
 obtain ⟨s0, s0a, s0b, s0c⟩ := dm A
 obtain ⟨s1, s1a, s1b, s1c⟩ := dm B
 obtain ⟨s2, s2a, s2b, s2c⟩ := dm C
 obtain ⟨s3, s3a, s3b, s3c⟩ := dm D
 obtain ⟨s4, s4a, s4b, s4c⟩ := dm E
 rw [← hc0] at r0a
 rw [← hc1] at r1a
 rw [← hc2] at r2a
 rw [← hc3] at r3a
 rw [← hc4] at r4a
 generalize A / 2251799813685248 = q0 at s0a hB
 generalize B / 2251799813685248 = q1 at s1a hC
 generalize C / 2251799813685248 = q2 at s2a hD
 generalize D / 2251799813685248 = q3 at s3a hE
 generalize E / 2251799813685248 = q4 at s4a
 clear hc0 hc1 hc2 hc3 hc4 r0b r1b r2b r3b r4b
 rw [s0b, s1b, s2b, s3b, s4b]
 refine red_num _ (El.v ⟨r0, r1, r2, r3, r4⟩) _ c4 q4 ?_ ?_ ?_ ?_ b4 ?_
 ·clear s0a s1a s2a s3a s4a hA hB hC hD hE
  unfold El.v
  simp only []
  omega
 ·clear r0a r1a r2a r3a r4a
  unfold El.v
  simp only []
  omega
 ·clear r0a r1a r2a r3a r4a s0a s1a s2a s3a s4a hA hB hC hD hE
  unfold El.v
  simp only []
  omega
 ·clear r0a r1a r2a r3a r4a s0a s1a s2a s3a s4a hA hB hC hD hE
  unfold El.v
  simp only []
  omega
 clear r0a r1a r2a r3a r4a s0a s1a s2a s3a s4a hA hB hC hD hE
 unfold El.v
 simp only []
 omega
theorem red_el (x : El) (h : El.le x 2251799813685267) : ∃ r : El, redL (ni (El.l x)) (redC (El.l x) 4) = ni (El.l r) ∧ El.sm5 r ∧ r.v = x.v % P := by
 obtain ⟨a, b, c, d, e⟩ := x
 obtain ⟨h0, h1, h2, h3, h4⟩ := h
 simp only [] at h0 h1 h2 h3 h4
 obtain ⟨c0, hc0⟩ : ∃ y, y = (a + 19) / 2251799813685248 := ⟨_, rfl⟩
 obtain ⟨c1, hc1⟩ := nm ((b + c0) / 2251799813685248)
 obtain ⟨c2, hc2⟩ := nm ((c + c1) / 2251799813685248)
 obtain ⟨c3, hc3⟩ := nm ((d + c2) / 2251799813685248)
 obtain ⟨c4, hc4⟩ := nm ((e + c3) / 2251799813685248)
 have hc : redC (El.l ⟨a, b, c, d, e⟩) 4 = c4 := by rw [hc4, hc3, hc2, hc1, hc0]; rfl
 obtain ⟨A, hA⟩ : ∃ y, y = a + 19 * c4 := ⟨_, rfl⟩
 obtain ⟨B, hB⟩ := nm (b + A / 2251799813685248)
 obtain ⟨C, hC⟩ := nm (c + B / 2251799813685248)
 obtain ⟨D, hD⟩ := nm (d + C / 2251799813685248)
 obtain ⟨E, hE⟩ := nm (e + D / 2251799813685248)
 have b0 : c0 ≤ 1 := by omega
 have b1 : c1 ≤ 1 := by omega
 have b2 : c2 ≤ 1 := by omega
 have b3 : c3 ≤ 1 := by omega
 have b4 : c4 ≤ 1 := by omega
 have bA : A ≤ 9007199254740991 := by omega
 have bB : B ≤ 9007199254740991 := by omega
 have bC : C ≤ 9007199254740991 := by omega
 have bD : D ≤ 9007199254740991 := by omega
 have bE : E ≤ 9007199254740991 := by omega
 refine ⟨⟨A % 2251799813685248, B % 2251799813685248, C % 2251799813685248, D % 2251799813685248, E % 2251799813685248⟩, ?_, ?_, ?_⟩
 ·rw [hc]
  show redL [(a : Int), (b : Int), (c : Int), (d : Int), (e : Int)] (c4 : Int) = _
  rw [redL_five, w19 (q := c4) (r := 19 * c4) rfl (by omega), show IntKind.u64.wrap ((a : Int) + ((19 * c4 : Nat) : Int)) = (A : Int) from u64w (by omega) (by omega),
   show IntKind.u64.wrap ((b : Int) + (A : Int) / 2251799813685248) = (B : Int) by rw [addq b A (by omega) (by omega), hB], show IntKind.u64.wrap ((c : Int) + (B : Int) / 2251799813685248) = (C : Int) by rw [addq c B (by omega) (by omega), hC],
   show IntKind.u64.wrap ((d : Int) + (C : Int) / 2251799813685248) = (D : Int) by rw [addq d C (by omega) (by omega), hD], show IntKind.u64.wrap ((e : Int) + (D : Int) / 2251799813685248) = (E : Int) by rw [addq e D (by omega) (by omega), hE],
   and51 A (by omega), and51 B (by omega), and51 C (by omega), and51 D (by omega), and51 E (by omega)]
  rfl
 ·exact ⟨Nat.mod_lt _ (by decide), Nat.mod_lt _ (by decide), Nat.mod_lt _ (by decide), Nat.mod_lt _ (by decide), Nat.mod_lt _ (by decide)⟩
 exact red_v h0 h1 h2 h3 h4 hc0 hc1 hc2 hc3 hc4 b4 hA hB hC hD hE
theorem carry_le2 (x : El) (h : El.le x 2251799813947392) : El.le x.carry 2251799813685267 := by
 obtain ⟨h0, h1, h2, h3, h4⟩ := h
 unfold El.carry El.le
 simp only []
 omega
theorem redC_le (l : List Nat) (h : ∀ i, nn l i ≤ 4503599627370496) : ∀ k, redC l k ≤ 10
 | 0 => by have := h 0; rw [redC]; omega
 | k + 1 => by have := h (k + 1); have := redC_le l h k; rw [redC]; omega
theorem redC_step (l : List Nat) (h : ∀ i, nn l i ≤ 4503599627370496) (k : Nat) : ∃ t : Nat, IntKind.u64.wrap ((nn l (k + 1) : Int) + (redC l k : Int)) = t ∧ (t : Int) / 2251799813685248 = (redC l (k + 1) : Int) := by
 have h1 := h (k + 1)
 have h2 := redC_le l h k
 exact ⟨_, u64w rfl (by omega), by rw [redC]; omega⟩
theorem measM (n : Nat) {d m : Nat} (hd : d < n) (hm : m = d + 1) : n - (intOf (.int .i64 (m : Int))).toNat < n - (intOf (.int .i64 (d : Int))).toNat := by
 subst hm; simp [intOf]; omega
theorem red_ix (V : List Int) (x : Int) {d m : Nat} (hl : V.length = 5) (hd : d < 4) (hm : m = d + 1) : (0 : Int) ≤ m ∧ (m : Int) < 5 ∧ (d : Int) < 5 ∧ ia (V.set m x) d = ia V d ∧ m < 5 ∧ d < 5 ∧ (V.set m x).length = 5 := by
 refine ⟨by omega, by omega, by omega, ?_, by omega, by omega, by rw [List.length_set, hl]⟩
 rw [ia_set _ _ _ _ (by omega), if_neg (by omega)]
theorem reduced_run (x : El) (hx : El.le x 2251799813947392) (w : World) : Calls Tryz.prog 114 #[.agg (lk .u64 (ev x))] w fun e w' => (∃ r : El, e = .returned (.agg (lk .u64 (ev r))) ∧ El.sm5 r ∧ r.v = (fe x.v).val) ∧ Below w.heap.size w w' := by
 obtain ⟨y, hy⟩ := nm x.carry
 obtain ⟨z, hz⟩ := nm y.carry
 have c1 : carF (ev x) = ev y := by rw [hy]; exact carF_el x (le_mono hx (by decide))
 have ly : El.le y 2251799813947392 := by rw [hy]; exact carry_le x (le_mono hx (by decide))
 have c2 : carF (ev y) = ev z := by rw [hz]; exact carF_el y (le_mono ly (by decide))
 have lz : El.le z 2251799813685267 := by rw [hz]; exact carry_le2 y ly
 have fz : fe z.v = fe x.v := by rw [hz, hy, carry_fe, carry_fe]
 obtain ⟨r, hr, hr5, hrv⟩ := red_el z lz
 have hsm : ∀ i, nn (El.l z) i ≤ 4503599627370496 := (El.sm (le_mono lz (by decide))).2
 rw [show z.v % P = (fe z.v).val from rfl, fz] at hrv
 obtain ⟨l, hl⟩ := nm (El.l z)
 have hlen : l.length = 5 := by rw [hl]; rfl
 have hv : ev z = ni l := by rw [hl]; rfl
 rw [hv] at c2
 rw [← hl] at hr hsm
 have HX := hDx (And.intro hr (And.intro hr5 hrv))
 have HC := hDx (And.intro c1 (And.intro c2 hsm))
 have hnl : (ni l).length = 5 := (ni_len l).trans hlen
 clear hx hy hz c1 c2 ly lz fz hr hr5 hrv hsm hl hv hlen
 obtain ⟨n0, hn0⟩ := nm (nn l 0)
 have e0 : ia (ni l) 0 = (n0 : Int) := by rw [ia_ni, hn0]
 obtain ⟨M, hM⟩ : ∃ M, M = n0 + 19 := ⟨_, rfl⟩
 have hnb := HC.out.2.2 0
 rw [← hn0] at hnb
 have k0 : IntKind.u64.wrap ((n0 : Int) + 19) = (M : Int) := u64w (by omega) (by omega)
 have k1 : (M : Int) / 2251799813685248 = (redC l 0 : Int) := by rw [redC, ← hn0, hM]; omega
 have HN := hDx (And.intro hn0 hnb)
 clear hn0 hM hnb
 go_enter Tryz.func114, Tryz.ntmps114
 have HK0 := hDx (KS.start w)
 go_upto_region 1 with (fail)
 have hm1 := ((HK0.out.made (.cells (lk .u64 (ev x)) 141)).made (.cells #[.int .u64 0, .int .u64 0, .int .u64 0, .int .u64 0, .int .u64 0] 141))
 try rw [show ((World.alloc w (.cells (lk .u64 (ev x)) 141))).heap.size = w.heap.size + 1 by simp] at hm1
 obtain ⟨R, hgR⟩ := nm (w.heap.size + 1)
 obtain ⟨A, hgA⟩ := nm w.heap.size
 obtain ⟨ww1, hv1⟩ := nm (World.alloc (World.alloc w (.cells (lk .u64 (ev x)) 141)) (.cells #[.int .u64 0, .int .u64 0, .int .u64 0, .int .u64 0, .int .u64 0] 141))
 rw [← hv1, ← hgR, ← hgA] at hm1
 rw [← hv1]
 try rw [← hgR]
 try rw [← hgA]
 have HK1 : Hid (KS [(R, .cells (lk .u64 (zi 5)) 141), (A, .cells (lk .u64 (ev x)) 141)] [] w ww1) := hDx hm1
 clear hm1 hv1 hgA hgR
 have FA := (HK1.out.rk 1 rfl (ev_len x))
 go_wp2_with (refine wpList_load_rk rfl _ rfl rfl FA ty141 ?_)
 refine (carried_any (ev x) (ev_len x) _).mono ?_
 rintro e ww2 ⟨rfl, B1⟩
 simp only []
 have HK2 := hDx (HK1.out.call B1)
 clear B1
 rw [HC.out.1]
 go_wp2_with fail
 refine (carried_any (ev y) (ev_len y) _).mono ?_
 rintro e ww3 ⟨rfl, B1⟩
 simp only []
 have HK3 := hDx (HK2.out.call B1)
 clear B1
 rw [HC.out.2.1]
 clear FA
 have FS := (HK3.out.rk 1 rfl (ev_len x))
 go_upto_region 2 with (refine wpList_store_rk rfl _ _ rfl rfl rfl FS ty141 hnl ?_)
 obtain ⟨ww4, hv4⟩ := nm (World.setRow ww3 A (lk .u64 (ni l)))
 have HK4 : Hid (KS [(R, .cells (lk .u64 (zi 5)) 141), (A, .cells (lk .u64 (ni l)) 141)] [] w ww4) := by rw [hv4]; exact hDx (HK3.out.setRow 1 rfl _)
 rw [← hv4]
 clear hv4
 clear FS
 have c0 := (HK4.out.rk 1 rfl hnl).cell 0 (by decide)
 rw [e0] at c0
 go_upto_region 4 with fail
 go_loopw [3, 16] (fun vX vS wr => ∃ k : Nat, k ≤ 4 ∧ vS = .int .i64 (k : Int) ∧ vX = .int .u64 (redC l k : Int) ∧ KS [(R, .cells (lk .u64 (zi 5)) 141), (A, .cells (lk .u64 (ni l)) 141)] [] w wr) (fun vX vS _ => 4 - (intOf vS).toNat)
 case atStart => exact ⟨0, Nat.zero_le _, rfl, rfl, HK4.out⟩
 case round =>
  obtain ⟨k, hk, rfl, rfl, HK⟩ := hrel
  have HK5 := hDx HK
  clear HK
  by_cases hlt : k < 4
  ·have hk1 : (0 : Int) ≤ k := by omega
   have hk2 : (k : Int) < 4 := by omega
   obtain ⟨hk3, hk4⟩ := i64w (x := (k : Int) + 1) (n := k + 1) (by omega) (by omega)
   obtain ⟨t, t1, t2⟩ := redC_step l HC.out.2.2 k
   have cm := (HK5.out.rk 1 rfl hnl).cell (1 + k) (by omega)
   rw [show 1 + k = k + 1 by omega, ia_ni] at cm
   rw [show k + 1 = 1 + k by omega] at cm t1 t2
   obtain ⟨q, hq⟩ := nm (nn l (1 + k))
   rw [← hq] at cm t1
   clear hq c0
   go_wp2_with fail
   go_roundw
   case rel =>
    exact ⟨k + 1, by omega, by first | rfl | go_num, by rw [show k + 1 = 1 + k by omega], HK5.out⟩
   first | exact measI _ _ hlt | (simp [intOf]; omega)
  obtain rfl : k = 4 := by omega
  try simp only [Int.cast_ofNat_Int]
  obtain ⟨C, hC⟩ := nm (redC l 4)
  rw [← hC]
  have hC1 : C ≤ 10 := by rw [hC]; exact redC_le l HC.out.2.2 4
  have g1 : IntKind.u64.wrap (19 * (C : Int)) = ((19 * C : Nat) : Int) := u64w (by omega) (by omega)
  obtain ⟨Q, hQ⟩ : ∃ Q, Q = 19 * C := ⟨_, rfl⟩
  rw [← hQ] at g1
  obtain ⟨S, hS⟩ := nm (n0 + Q)
  have g2 : IntKind.u64.wrap ((n0 : Int) + Q) = (S : Int) := u64w (by omega) (by have := HN.out.2; omega)
  have hW : redL (ni l) (redC l 4) = (redD ((ni l).set 0 (S : Int)) 4).set 4 (bits .and .u64 (ia (redD ((ni l).set 0 (S : Int)) 4) 4) 2251799813685247) := by rw [← hC, ← g2, ← g1, ← e0]; rfl
  have HW := hDx hW
  clear hW hC hC1 hQ hS
  have cm := (HK5.out.rk 1 rfl hnl).cell 0 (by decide)
  rw [e0] at cm
  have cz := (HK5.out.rk 1 rfl hnl).fz
  go_upto_region 9 with fail
  obtain ⟨ww6, hv6⟩ := nm (World.setCell wr ⟨A, 0, none⟩ (.int .u64 ((S : Int))))
  have HK6 : Hid (KS [(R, .cells (lk .u64 (zi 5)) 141), (A, .cells (lk .u64 ((ni l).set 0 (S : Int))) 141)] [] w ww6) := by rw [hv6]; exact hDx (HK5.out.setK 1 rfl 0 ((S : Int)))
  rw [← hv6]
  clear hv6
  clear cm cz c0
  obtain ⟨V0, hV0⟩ := nm ((ni l).set 0 (S : Int))
  have hV0l : V0.length = 5 := by rw [hV0, List.length_set, hnl]
  rw [← hV0] at HK6 HW
  clear hV0
  go_upto_region 10 with fail
  go_loopw [31] (fun vS wq => ∃ d : Nat, d ≤ 4 ∧ vS = .int .i64 (d : Int) ∧ KS [(R, .cells (lk .u64 (zi 5)) 141), (A, .cells (lk .u64 (redD V0 d)) 141)] [] w wq) (fun vS _ => 4 - (intOf vS).toNat)
  case atStart => exact ⟨0, Nat.zero_le _, rfl, HK6.out⟩
  obtain ⟨d, hd, rfl, HK⟩ := hrel
  have HK7 := hDx HK
  clear HK
  by_cases hlt : d < 4
  ·have hd1 : (0 : Int) ≤ d := by omega
   have hd2 : (d : Int) < 4 := by omega
   obtain ⟨hd3, hd4⟩ := i64w (x := (d : Int) + 1) (n := d + 1) (by omega) (by omega)
   have hs : redD V0 (d + 1) = ((redD V0 d).set (d + 1) (IntKind.u64.wrap (ia (redD V0 d) (d + 1) + ia (redD V0 d) d / 2251799813685248))).set d (bits .and .u64 (ia (redD V0 d) d) 2251799813685247) := rfl
   have hl : (redD V0 d).length = 5 := (redD_len V0 d).trans hV0l
   obtain ⟨V, hV⟩ := nm (redD V0 d)
   rw [← hV] at HK7 hl hs
   obtain ⟨m, hm⟩ : ∃ m, m = d + 1 := ⟨_, rfl⟩
   rw [← hm] at hs hd3 hd4
   obtain ⟨hm1, hm2, hd9, hne, hm5, hd5, hl2⟩ := red_ix V (IntKind.u64.wrap (ia V m + ia V d / 2251799813685248)) hl hlt hm
   have HJ := hDx (And.intro hm (And.intro hs hne))
   clear hV hs hne
   have c0 := (HK7.out.rk 1 rfl hl).cell m hm5
   have c1 := (HK7.out.rk 1 rfl hl).cell d hd5
   have cz := (HK7.out.rk 1 rfl hl).fz
   clear hm
   go_upto_region 12 with (fail)
   go_still_tail 10, (by kernel_rfl)
   go_upto_region 13 with (fail)
   obtain ⟨ww8, hv8⟩ := nm (World.drew (World.setCell wr ⟨A, m, none⟩ (.int .u64 (IntKind.u64.wrap (ia V m + ia V d / 2251799813685248)))))
   have HK8 : Hid (KS [(R, .cells (lk .u64 (zi 5)) 141), (A, .cells (lk .u64 (V.set m (IntKind.u64.wrap (ia V m + ia V d / 2251799813685248)))) 141)] [] w ww8) := by rw [hv8]; exact hDx ((HK7.out.setK 1 rfl m (IntKind.u64.wrap (ia V m + ia V d / 2251799813685248))).drew)
   rw [← hv8]
   clear hv8
   clear c0 c1 cz
   have c1 := (HK8.out.rk 1 rfl hl2).cell d hd5
   rw [HJ.out.2.2] at c1
   have cz := (HK8.out.rk 1 rfl hl2).fz
   go_wp2_with fail
   go_roundw
   case rel =>
    exact ⟨d + 1, hlt, by rw [HJ.out.1], by rw [← HJ.out.1, HJ.out.2.1]; exact HK8.out.setK 1 rfl d _⟩
   exact measM 4 hlt HJ.out.1
  obtain rfl : d = 4 := by omega
  try simp only [Int.cast_ofNat_Int]
  have hl : (redD V0 4).length = 5 := (redD_len V0 4).trans hV0l
  obtain ⟨V, hV⟩ := nm (redD V0 4)
  rw [← hV] at HK7 hl HW
  clear hV
  have c0 := (HK7.out.rk 1 rfl hl).cell 4 (by decide)
  have cz := (HK7.out.rk 1 rfl hl).fz
  go_upto_region 16 with fail
  obtain ⟨ww8, hv8⟩ := nm (World.setCell wr ⟨A, 4, none⟩ (.int .u64 (bits .and .u64 (ia V 4) 2251799813685247)))
  have HK8 : Hid (KS [(R, .cells (lk .u64 (zi 5)) 141), (A, .cells (lk .u64 (V.set 4 (bits .and .u64 (ia V 4) 2251799813685247))) 141)] [] w ww8) := by rw [hv8]; exact hDx (HK7.out.setK 1 rfl 4 (bits .and .u64 (ia V 4) 2251799813685247))
  rw [← hv8]
  clear hv8
  clear c0 cz
  rw [← HW.out, HX.out.1] at HK8
  have FA := (HK8.out.rk 1 rfl (ev_len r))
  have FR := (HK8.out.rk 0 rfl (zi_len 5))
  go_wp2_with (first | (refine wpList_load_rk rfl _ rfl rfl FA ty141 ?_) | (refine wpList_store_rk rfl _ _ rfl rfl rfl FR ty141 (ev_len r) ?_))
  have KE := HK8.out.setRow 0 rfl (lk .u64 (ev r))
  try simp only [Exit.inBlock, Exit.then]
  refine bodyPost_ret (results_rk (p := 2) (by kernel_rfl) (by rfl) (KE.rk 0 rfl (ev_len r)) ty141) rfl ?_
  exact ⟨⟨r, rfl, HX.out.2⟩, KE.below⟩
end
section
open Go.RowKit T
theorem u8w (x : Nat) : IntKind.u8.wrap (x : Int) = ((x % 256 : Nat) : Int) := by simp [IntKind.wrap, IntKind.bits, IntKind.signed]
theorem or8_add (g y s : Nat) (hg : g < 2 ^ s) (hs : s ≤ 8) : bits .or .u8 (g : Int) ((y * 2 ^ s % 256 : Nat) : Int) = ((g + y * 2 ^ s % 256 : Nat) : Int) := by
 have hp : (2 : Nat) ^ s ≤ 256 := Nat.pow_le_pow_right (n := 2) (by decide) hs
 have e : y * 2 ^ s % 256 = (y % 2 ^ (8 - s)) * 2 ^ s := by
  rw [show (256 : Nat) = 2 ^ (8 - s) * 2 ^ s by rw [← Nat.pow_add, Nat.sub_add_cancel hs], Nat.mul_mod_mul_right]
 rw [u8_or_nat g _ (by omega) (Nat.mod_lt _ (by decide)), e]
 congr 1
 rw [Nat.or_comm, Nat.mul_comm _ (2 ^ s), ← Nat.two_pow_add_eq_or_of_lt hg, Nat.add_comm]
theorem byte_0 (a b c d e : Nat) (h0 : a < 2251799813685248) (h1 : b < 2251799813685248) (h2 : c < 2251799813685248) (h3 : d < 2251799813685248) (h4 : e < 2251799813685248) : a / 1 % 256 = El.v ⟨a, b, c, d, e⟩ / 1 % 256 := by
 unfold El.v
 simp only []
 omega
theorem byte_1 (a b c d e : Nat) (h0 : a < 2251799813685248) (h1 : b < 2251799813685248) (h2 : c < 2251799813685248) (h3 : d < 2251799813685248) (h4 : e < 2251799813685248) : a / 256 % 256 = El.v ⟨a, b, c, d, e⟩ / 256 % 256 := by
 unfold El.v
 simp only []
 omega
theorem byte_2 (a b c d e : Nat) (h0 : a < 2251799813685248) (h1 : b < 2251799813685248) (h2 : c < 2251799813685248) (h3 : d < 2251799813685248) (h4 : e < 2251799813685248) : a / 65536 % 256 = El.v ⟨a, b, c, d, e⟩ / 65536 % 256 := by
 unfold El.v
 simp only []
 omega
theorem byte_3 (a b c d e : Nat) (h0 : a < 2251799813685248) (h1 : b < 2251799813685248) (h2 : c < 2251799813685248) (h3 : d < 2251799813685248) (h4 : e < 2251799813685248) : a / 16777216 % 256 = El.v ⟨a, b, c, d, e⟩ / 16777216 % 256 := by
 unfold El.v
 simp only []
 omega
theorem byte_4 (a b c d e : Nat) (h0 : a < 2251799813685248) (h1 : b < 2251799813685248) (h2 : c < 2251799813685248) (h3 : d < 2251799813685248) (h4 : e < 2251799813685248) : a / 4294967296 % 256 = El.v ⟨a, b, c, d, e⟩ / 4294967296 % 256 := by
 unfold El.v
 simp only []
 omega
theorem byte_5 (a b c d e : Nat) (h0 : a < 2251799813685248) (h1 : b < 2251799813685248) (h2 : c < 2251799813685248) (h3 : d < 2251799813685248) (h4 : e < 2251799813685248) : a / 1099511627776 % 256 = El.v ⟨a, b, c, d, e⟩ / 1099511627776 % 256 := by
 unfold El.v
 simp only []
 omega
theorem byte_6 (a b c d e : Nat) (h0 : a < 2251799813685248) (h1 : b < 2251799813685248) (h2 : c < 2251799813685248) (h3 : d < 2251799813685248) (h4 : e < 2251799813685248) : a / 281474976710656 % 256 + b * 8 % 256 = El.v ⟨a, b, c, d, e⟩ / 281474976710656 % 256 := by
 unfold El.v
 simp only []
 omega
theorem byte_7 (a b c d e : Nat) (h0 : a < 2251799813685248) (h1 : b < 2251799813685248) (h2 : c < 2251799813685248) (h3 : d < 2251799813685248) (h4 : e < 2251799813685248) : b / 32 % 256 = El.v ⟨a, b, c, d, e⟩ / 72057594037927936 % 256 := by
 unfold El.v
 simp only []
 omega
theorem byte_8 (a b c d e : Nat) (h0 : a < 2251799813685248) (h1 : b < 2251799813685248) (h2 : c < 2251799813685248) (h3 : d < 2251799813685248) (h4 : e < 2251799813685248) : b / 8192 % 256 = El.v ⟨a, b, c, d, e⟩ / 18446744073709551616 % 256 := by
 unfold El.v
 simp only []
 omega
theorem byte_9 (a b c d e : Nat) (h0 : a < 2251799813685248) (h1 : b < 2251799813685248) (h2 : c < 2251799813685248) (h3 : d < 2251799813685248) (h4 : e < 2251799813685248) : b / 2097152 % 256 = El.v ⟨a, b, c, d, e⟩ / 4722366482869645213696 % 256 := by
 unfold El.v
 simp only []
 omega
theorem byte_10 (a b c d e : Nat) (h0 : a < 2251799813685248) (h1 : b < 2251799813685248) (h2 : c < 2251799813685248) (h3 : d < 2251799813685248) (h4 : e < 2251799813685248) : b / 536870912 % 256 = El.v ⟨a, b, c, d, e⟩ / 1208925819614629174706176 % 256 := by
 unfold El.v
 simp only []
 omega
theorem byte_11 (a b c d e : Nat) (h0 : a < 2251799813685248) (h1 : b < 2251799813685248) (h2 : c < 2251799813685248) (h3 : d < 2251799813685248) (h4 : e < 2251799813685248) : b / 137438953472 % 256 = El.v ⟨a, b, c, d, e⟩ / 309485009821345068724781056 % 256 := by
 unfold El.v
 simp only []
 omega
theorem byte_12 (a b c d e : Nat) (h0 : a < 2251799813685248) (h1 : b < 2251799813685248) (h2 : c < 2251799813685248) (h3 : d < 2251799813685248) (h4 : e < 2251799813685248) : b / 35184372088832 % 256 + c * 64 % 256 = El.v ⟨a, b, c, d, e⟩ / 79228162514264337593543950336 % 256 := by
 unfold El.v
 simp only []
 omega
theorem byte_13 (a b c d e : Nat) (h0 : a < 2251799813685248) (h1 : b < 2251799813685248) (h2 : c < 2251799813685248) (h3 : d < 2251799813685248) (h4 : e < 2251799813685248) : c / 4 % 256 = El.v ⟨a, b, c, d, e⟩ / 20282409603651670423947251286016 % 256 := by
 unfold El.v
 simp only []
 omega
theorem byte_14 (a b c d e : Nat) (h0 : a < 2251799813685248) (h1 : b < 2251799813685248) (h2 : c < 2251799813685248) (h3 : d < 2251799813685248) (h4 : e < 2251799813685248) : c / 1024 % 256 = El.v ⟨a, b, c, d, e⟩ / 5192296858534827628530496329220096 % 256 := by
 unfold El.v
 simp only []
 omega
theorem byte_15 (a b c d e : Nat) (h0 : a < 2251799813685248) (h1 : b < 2251799813685248) (h2 : c < 2251799813685248) (h3 : d < 2251799813685248) (h4 : e < 2251799813685248) : c / 262144 % 256 = El.v ⟨a, b, c, d, e⟩ / 1329227995784915872903807060280344576 % 256 := by
 unfold El.v
 simp only []
 omega
theorem byte_16 (a b c d e : Nat) (h0 : a < 2251799813685248) (h1 : b < 2251799813685248) (h2 : c < 2251799813685248) (h3 : d < 2251799813685248) (h4 : e < 2251799813685248) : c / 67108864 % 256 = El.v ⟨a, b, c, d, e⟩ / 340282366920938463463374607431768211456 % 256 := by
 unfold El.v
 simp only []
 omega
theorem byte_17 (a b c d e : Nat) (h0 : a < 2251799813685248) (h1 : b < 2251799813685248) (h2 : c < 2251799813685248) (h3 : d < 2251799813685248) (h4 : e < 2251799813685248) : c / 17179869184 % 256 = El.v ⟨a, b, c, d, e⟩ / 87112285931760246646623899502532662132736 % 256 := by
 unfold El.v
 simp only []
 omega
theorem byte_18 (a b c d e : Nat) (h0 : a < 2251799813685248) (h1 : b < 2251799813685248) (h2 : c < 2251799813685248) (h3 : d < 2251799813685248) (h4 : e < 2251799813685248) : c / 4398046511104 % 256 = El.v ⟨a, b, c, d, e⟩ / 22300745198530623141535718272648361505980416 % 256 := by
 unfold El.v
 simp only []
 omega
theorem byte_19 (a b c d e : Nat) (h0 : a < 2251799813685248) (h1 : b < 2251799813685248) (h2 : c < 2251799813685248) (h3 : d < 2251799813685248) (h4 : e < 2251799813685248) : c / 1125899906842624 % 256 + d * 2 % 256 = El.v ⟨a, b, c, d, e⟩ / 5708990770823839524233143877797980545530986496 % 256 := by
 unfold El.v
 simp only []
 omega
theorem byte_20 (a b c d e : Nat) (h0 : a < 2251799813685248) (h1 : b < 2251799813685248) (h2 : c < 2251799813685248) (h3 : d < 2251799813685248) (h4 : e < 2251799813685248) : d / 128 % 256 = El.v ⟨a, b, c, d, e⟩ / 1461501637330902918203684832716283019655932542976 % 256 := by
 unfold El.v
 simp only []
 omega
theorem byte_21 (a b c d e : Nat) (h0 : a < 2251799813685248) (h1 : b < 2251799813685248) (h2 : c < 2251799813685248) (h3 : d < 2251799813685248) (h4 : e < 2251799813685248) : d / 32768 % 256 = El.v ⟨a, b, c, d, e⟩ / 374144419156711147060143317175368453031918731001856 % 256 := by
 unfold El.v
 simp only []
 omega
theorem byte_22 (a b c d e : Nat) (h0 : a < 2251799813685248) (h1 : b < 2251799813685248) (h2 : c < 2251799813685248) (h3 : d < 2251799813685248) (h4 : e < 2251799813685248) : d / 8388608 % 256 = El.v ⟨a, b, c, d, e⟩ / 95780971304118053647396689196894323976171195136475136 % 256 := by
 unfold El.v
 simp only []
 omega
theorem byte_23 (a b c d e : Nat) (h0 : a < 2251799813685248) (h1 : b < 2251799813685248) (h2 : c < 2251799813685248) (h3 : d < 2251799813685248) (h4 : e < 2251799813685248) : d / 2147483648 % 256 = El.v ⟨a, b, c, d, e⟩ / 24519928653854221733733552434404946937899825954937634816 % 256 := by
 unfold El.v
 simp only []
 omega
theorem byte_24 (a b c d e : Nat) (h0 : a < 2251799813685248) (h1 : b < 2251799813685248) (h2 : c < 2251799813685248) (h3 : d < 2251799813685248) (h4 : e < 2251799813685248) : d / 549755813888 % 256 = El.v ⟨a, b, c, d, e⟩ / 6277101735386680763835789423207666416102355444464034512896 % 256 := by
 unfold El.v
 simp only []
 omega
theorem byte_25 (a b c d e : Nat) (h0 : a < 2251799813685248) (h1 : b < 2251799813685248) (h2 : c < 2251799813685248) (h3 : d < 2251799813685248) (h4 : e < 2251799813685248) : d / 140737488355328 % 256 + e * 16 % 256 = El.v ⟨a, b, c, d, e⟩ / 1606938044258990275541962092341162602522202993782792835301376 % 256 := by
 unfold El.v
 simp only []
 omega
theorem byte_26 (a b c d e : Nat) (h0 : a < 2251799813685248) (h1 : b < 2251799813685248) (h2 : c < 2251799813685248) (h3 : d < 2251799813685248) (h4 : e < 2251799813685248) : e / 16 % 256 = El.v ⟨a, b, c, d, e⟩ / 411376139330301510538742295639337626245683966408394965837152256 % 256 := by
 unfold El.v
 simp only []
 omega
theorem byte_27 (a b c d e : Nat) (h0 : a < 2251799813685248) (h1 : b < 2251799813685248) (h2 : c < 2251799813685248) (h3 : d < 2251799813685248) (h4 : e < 2251799813685248) : e / 4096 % 256 = El.v ⟨a, b, c, d, e⟩ / 105312291668557186697918027683670432318895095400549111254310977536 % 256 := by
 unfold El.v
 simp only []
 omega
theorem byte_28 (a b c d e : Nat) (h0 : a < 2251799813685248) (h1 : b < 2251799813685248) (h2 : c < 2251799813685248) (h3 : d < 2251799813685248) (h4 : e < 2251799813685248) : e / 1048576 % 256 = El.v ⟨a, b, c, d, e⟩ / 26959946667150639794667015087019630673637144422540572481103610249216 % 256 := by
 unfold El.v
 simp only []
 omega
theorem byte_29 (a b c d e : Nat) (h0 : a < 2251799813685248) (h1 : b < 2251799813685248) (h2 : c < 2251799813685248) (h3 : d < 2251799813685248) (h4 : e < 2251799813685248) : e / 268435456 % 256 = El.v ⟨a, b, c, d, e⟩ / 6901746346790563787434755862277025452451108972170386555162524223799296 % 256 := by
 unfold El.v
 simp only []
 omega
theorem byte_30 (a b c d e : Nat) (h0 : a < 2251799813685248) (h1 : b < 2251799813685248) (h2 : c < 2251799813685248) (h3 : d < 2251799813685248) (h4 : e < 2251799813685248) : e / 68719476736 % 256 = El.v ⟨a, b, c, d, e⟩ / 1766847064778384329583297500742918515827483896875618958121606201292619776 % 256 := by
 unfold El.v
 simp only []
 omega
theorem byte_31 (a b c d e : Nat) (h0 : a < 2251799813685248) (h1 : b < 2251799813685248) (h2 : c < 2251799813685248) (h3 : d < 2251799813685248) (h4 : e < 2251799813685248) : e / 17592186044416 % 256 = El.v ⟨a, b, c, d, e⟩ / 452312848583266388373324160190187140051835877600158453279131187530910662656 % 256 := by
 unfold El.v
 simp only []
 omega
theorem byte_v (x : El) (h : El.sm5 x) (k : Nat) (hk : k < 32) : (¬ (43 < 8 * k % 51 ∧ 8 * k / 51 < 4) → nn (El.l x) (8 * k / 51) / 2 ^ (8 * k % 51) % 256 = x.v / 256 ^ k % 256) ∧
  (43 < 8 * k % 51 ∧ 8 * k / 51 < 4 → nn (El.l x) (8 * k / 51) / 2 ^ (8 * k % 51) % 256 + nn (El.l x) (8 * k / 51 + 1) * 2 ^ (51 - 8 * k % 51) % 256 = x.v / 256 ^ k % 256) := by
 obtain ⟨a, b, c, d, e⟩ := x
 obtain ⟨h0, h1, h2, h3, h4⟩ := h
 simp only [] at h0 h1 h2 h3 h4
 have hc : k = 0 ∨ k = 1 ∨ k = 2 ∨ k = 3 ∨ k = 4 ∨ k = 5 ∨ k = 6 ∨ k = 7 ∨ k = 8 ∨ k = 9 ∨ k = 10 ∨ k = 11 ∨ k = 12 ∨ k = 13 ∨ k = 14 ∨ k = 15 ∨ k = 16 ∨ k = 17 ∨ k = 18 ∨ k = 19 ∨ k = 20 ∨ k = 21 ∨ k = 22 ∨ k = 23 ∨ k = 24 ∨ k = 25 ∨ k = 26 ∨ k = 27 ∨ k = 28 ∨ k = 29 ∨ k = 30 ∨ k = 31 := by omega
 rcases hc with rfl | rfl | rfl | rfl | rfl | rfl | rfl | rfl | rfl | rfl | rfl | rfl | rfl | rfl | rfl | rfl | rfl | rfl | rfl | rfl | rfl | rfl | rfl | rfl | rfl | rfl | rfl | rfl | rfl | rfl | rfl | rfl
 ·exact ⟨fun _ => byte_0 a b c d e h0 h1 h2 h3 h4, fun h => absurd h (by decide)⟩
 ·exact ⟨fun _ => byte_1 a b c d e h0 h1 h2 h3 h4, fun h => absurd h (by decide)⟩
 ·exact ⟨fun _ => byte_2 a b c d e h0 h1 h2 h3 h4, fun h => absurd h (by decide)⟩
 ·exact ⟨fun _ => byte_3 a b c d e h0 h1 h2 h3 h4, fun h => absurd h (by decide)⟩
 ·exact ⟨fun _ => byte_4 a b c d e h0 h1 h2 h3 h4, fun h => absurd h (by decide)⟩
 ·exact ⟨fun _ => byte_5 a b c d e h0 h1 h2 h3 h4, fun h => absurd h (by decide)⟩
 ·exact ⟨fun h => absurd (by decide) h, fun _ => byte_6 a b c d e h0 h1 h2 h3 h4⟩
 ·exact ⟨fun _ => byte_7 a b c d e h0 h1 h2 h3 h4, fun h => absurd h (by decide)⟩
 ·exact ⟨fun _ => byte_8 a b c d e h0 h1 h2 h3 h4, fun h => absurd h (by decide)⟩
 ·exact ⟨fun _ => byte_9 a b c d e h0 h1 h2 h3 h4, fun h => absurd h (by decide)⟩
 ·exact ⟨fun _ => byte_10 a b c d e h0 h1 h2 h3 h4, fun h => absurd h (by decide)⟩
 ·exact ⟨fun _ => byte_11 a b c d e h0 h1 h2 h3 h4, fun h => absurd h (by decide)⟩
 ·exact ⟨fun h => absurd (by decide) h, fun _ => byte_12 a b c d e h0 h1 h2 h3 h4⟩
 ·exact ⟨fun _ => byte_13 a b c d e h0 h1 h2 h3 h4, fun h => absurd h (by decide)⟩
 ·exact ⟨fun _ => byte_14 a b c d e h0 h1 h2 h3 h4, fun h => absurd h (by decide)⟩
 ·exact ⟨fun _ => byte_15 a b c d e h0 h1 h2 h3 h4, fun h => absurd h (by decide)⟩
 ·exact ⟨fun _ => byte_16 a b c d e h0 h1 h2 h3 h4, fun h => absurd h (by decide)⟩
 ·exact ⟨fun _ => byte_17 a b c d e h0 h1 h2 h3 h4, fun h => absurd h (by decide)⟩
 ·exact ⟨fun _ => byte_18 a b c d e h0 h1 h2 h3 h4, fun h => absurd h (by decide)⟩
 ·exact ⟨fun h => absurd (by decide) h, fun _ => byte_19 a b c d e h0 h1 h2 h3 h4⟩
 ·exact ⟨fun _ => byte_20 a b c d e h0 h1 h2 h3 h4, fun h => absurd h (by decide)⟩
 ·exact ⟨fun _ => byte_21 a b c d e h0 h1 h2 h3 h4, fun h => absurd h (by decide)⟩
 ·exact ⟨fun _ => byte_22 a b c d e h0 h1 h2 h3 h4, fun h => absurd h (by decide)⟩
 ·exact ⟨fun _ => byte_23 a b c d e h0 h1 h2 h3 h4, fun h => absurd h (by decide)⟩
 ·exact ⟨fun _ => byte_24 a b c d e h0 h1 h2 h3 h4, fun h => absurd h (by decide)⟩
 ·exact ⟨fun h => absurd (by decide) h, fun _ => byte_25 a b c d e h0 h1 h2 h3 h4⟩
 ·exact ⟨fun _ => byte_26 a b c d e h0 h1 h2 h3 h4, fun h => absurd h (by decide)⟩
 ·exact ⟨fun _ => byte_27 a b c d e h0 h1 h2 h3 h4, fun h => absurd h (by decide)⟩
 ·exact ⟨fun _ => byte_28 a b c d e h0 h1 h2 h3 h4, fun h => absurd h (by decide)⟩
 ·exact ⟨fun _ => byte_29 a b c d e h0 h1 h2 h3 h4, fun h => absurd h (by decide)⟩
 ·exact ⟨fun _ => byte_30 a b c d e h0 h1 h2 h3 h4, fun h => absurd h (by decide)⟩
 exact ⟨fun _ => byte_31 a b c d e h0 h1 h2 h3 h4, fun h => absurd h (by decide)⟩
theorem pow_ix (k : Nat) (hk : k < 32) : ∃ m q r : Nat, m = 8 * k ∧ q = m / 51 ∧ r = m % 51 ∧ 8 * (k : Int) = m ∧ (k : Int) * 8 = m ∧ IntKind.i64.wrap (m : Int) = m ∧ wrap64 (m : Int) = m ∧ binOp .quo 3 (.int .i64 (m : Int)) (.int .i64 51) = pure (.int .i64 (q : Int)) ∧ binOp .rem 3 (.int .i64 (m : Int)) (.int .i64 51) = pure (.int .i64 (r : Int)) ∧ IntKind.i64.wrap (q : Int) = q ∧ wrap64 (q : Int) = q ∧
  IntKind.i64.wrap (r : Int) = r ∧ wrap64 (r : Int) = r ∧ IntKind.u64.wrap (r : Int) = r ∧ (0 : Int) ≤ q ∧ (q : Int) < 5 ∧ q < 5 ∧ (0 : Int) ≤ r ∧ (r : Int) ≤ 64 ∧ (r : Int) < 51 := by
 obtain ⟨a1, a2⟩ := i64w (x := ((8 * k : Nat) : Int)) (n := 8 * k) rfl (by omega)
 obtain ⟨b1, b2⟩ := i64w (x := ((8 * k / 51 : Nat) : Int)) (n := 8 * k / 51) rfl (by omega)
 obtain ⟨c1, c2⟩ := i64w (x := ((8 * k % 51 : Nat) : Int)) (n := 8 * k % 51) rfl (by omega)
 refine ⟨8 * k, 8 * k / 51, 8 * k % 51, rfl, rfl, rfl, by omega, by omega, a2, a1, ?_, ?_, b2, b1, c2, c1, u64w rfl (by omega), by omega, by omega, by omega, by omega, by omega, by omega⟩
 ·exact quo_i 3 _ 51 _ (by decide) rfl (by omega)
 exact rem_i 3 _ 51 _ (by decide) rfl (by omega)
theorem td51 (m : Nat) : (m : Int).tdiv 51 = ((m / 51 : Nat) : Int) ∧ (m : Int).tmod 51 = ((m % 51 : Nat) : Int) :=
 ⟨Int.tdiv_eq_ediv_of_nonneg (by omega), Int.tmod_eq_emod_of_nonneg (by omega)⟩
theorem byte_i (x : El) (h : El.sm5 x) {k m q r : Nat} (hk : k < 32) (hm : m = 8 * k) (hq : q = m / 51) (hr : r = m % 51) : ∃ G Z : Nat, Op.shift .shr .u64 (nn (El.l x) q : Int) .u64 (r : Int) = pure (.int .u64 (Z : Int)) ∧ IntKind.u8.wrap (Z : Int) = G ∧
  ((¬ ((43 : Int) < r) ∧ G = x.v / 256 ^ k % 256) ∨ ((43 : Int) < r ∧ ¬ ((q : Int) < 4) ∧ G = x.v / 256 ^ k % 256) ∨
   ((43 : Int) < r ∧ (q : Int) < 4 ∧ ∃ q1 s Tt Hh : Nat, (q : Int) + 1 = q1 ∧ IntKind.i64.wrap (q1 : Int) = q1 ∧ wrap64 (q1 : Int) = q1 ∧ (0 : Int) ≤ q1 ∧ (q1 : Int) < 5 ∧ q1 < 5 ∧ 51 - (r : Int) = s ∧ IntKind.i64.wrap (s : Int) = s ∧ wrap64 (s : Int) = s ∧ IntKind.u64.wrap (s : Int) = s ∧
    (0 : Int) ≤ s ∧ (s : Int) ≤ 64 ∧ (s : Int) ≤ 64 ∧ Op.shift .shl .u64 (nn (El.l x) q1 : Int) .u64 (s : Int) = pure (.int .u64 (Tt : Int)) ∧ IntKind.u8.wrap (Tt : Int) = Hh ∧ bits .or .u8 (G : Int) (Hh : Int) = ((x.v / 256 ^ k % 256 : Nat) : Int))) := by
 obtain ⟨v1, v2⟩ := byte_v x h k hk
 rw [← hm, ← hq, ← hr] at v1 v2
 have hr51 : r < 51 := by rw [hr]; exact Nat.mod_lt _ (by decide)
 have hdiv : ((nn (El.l x) q : Int) / 2 ^ r) = ((nn (El.l x) q / 2 ^ r : Nat) : Int) := by simp
 refine ⟨nn (El.l x) q / 2 ^ r % 256, nn (El.l x) q / 2 ^ r, by rw [shift_shr _ _ _ _ (by omega) (by show (r : Int) ≤ 64; omega), Int.toNat_natCast, hdiv], u8w _, ?_⟩
 by_cases h1 : 43 < r
 ·by_cases h2 : q < 4
  ·refine Or.inr (Or.inr ⟨by omega, by omega, q + 1, 51 - r, nn (El.l x) (q + 1) * 2 ^ (51 - r) % 18446744073709551616, nn (El.l x) (q + 1) * 2 ^ (51 - r) % 256, ?_⟩)
   obtain ⟨a1, a2⟩ := i64w (x := ((q + 1 : Nat) : Int)) (n := q + 1) rfl (by omega)
   obtain ⟨b1, b2⟩ := i64w (x := ((51 - r : Nat) : Int)) (n := 51 - r) rfl (by omega)
   refine ⟨by omega, a2, a1, by omega, by omega, by omega, by omega, b2, b1, u64w rfl (by omega), by omega, by omega, by omega, ?_, ?_, ?_⟩
   ·have : ((nn (El.l x) (q + 1) : Int) * 2 ^ (51 - r)) = ((nn (El.l x) (q + 1) * 2 ^ (51 - r) : Nat) : Int) := by simp
    rw [shift_shl _ _ _ _ (by omega) (by show ((51 - r : Nat) : Int) ≤ 64; omega), Int.toNat_natCast, this]
    simp [IntKind.wrap, IntKind.bits, IntKind.signed]
   ·rw [u8w]
    congr 1
    omega
   rw [← v2 ⟨h1, h2⟩]
   have hlt : nn (El.l x) q / 2 ^ r < 2 ^ (51 - r) := by
    have hb : nn (El.l x) q < 2251799813685248 := by
     obtain ⟨h0, h1', h2', h3, h4⟩ := h
     match q, h2 with
     | 0, _ => exact h0
     | 1, _ => exact h1'
     | 2, _ => exact h2'
     | 3, _ => exact h3
    rw [Nat.div_lt_iff_lt_mul (Nat.pow_pos (by decide)), ← Nat.pow_add, show 51 - r + r = 51 by omega]
    exact hb
   have hp : (2 : Nat) ^ (51 - r) ≤ 256 := Nat.le_trans (Nat.pow_le_pow_right (n := 2) (by decide) (show 51 - r ≤ 8 by omega)) (by decide)
   rw [Nat.mod_eq_of_lt (show nn (El.l x) q / 2 ^ r < 256 by omega)]
   exact or8_add _ _ _ hlt (by omega)
  exact Or.inr (Or.inl ⟨by omega, by omega, v1 (fun hh => h2 hh.2)⟩)
 exact Or.inl ⟨by omega, v1 (fun hh => h1 hh.1)⟩
def leF (n : Nat) (j : Nat) : Int := ((n / 256 ^ j % 256 : Nat) : Int)
def leS (n m : Nat) : ByteArray := strOfNums (upF (leF n) m m)
theorem leS_size (n m : Nat) : (leS n m).size = m := by rw [leS, sb_size, upF_len]
theorem byt_upF (f : Nat → Int) (m k : Nat) (h : ∀ j, 0 ≤ f j ∧ f j < 256) : Byt (upF f m k) := fun i => by
 rcases Nat.lt_or_ge i m with hi | hi
 ·rw [upF_at f m k i hi]
  split
  ·exact h i
  ·omega
 ·have : ia (upF f m k) i = 0 := by
   unfold ia
   rw [List.getD_eq_getElem?_getD, List.getElem?_eq_none (by rw [upF_len]; exact hi)]
   rfl
  omega
theorem leF_byt (n j : Nat) : 0 ≤ leF n j ∧ leF n j < 256 := by unfold leF; omega
theorem leS_bt (n m j : Nat) (h : j < m) : bt (leS n m) j = n / 256 ^ j % 256 := by
 have := bt_sb (upF (leF n) m m) (byt_upF _ _ _ (leF_byt n)) j
 rw [upF_at _ _ _ _ h, if_pos h] at this
 exact Int.ofNat_inj.1 this
theorem leN_leS (n m : Nat) : ∀ k, k ≤ m → leN (leS n m) k = n % 256 ^ k
 | 0, _ => by rw [leN, Nat.pow_zero, Nat.mod_one]
 | k + 1, h => by
  rw [leN, leN_leS n m k (by omega), leS_bt n m k h, Nat.pow_succ, Nat.mod_mul, Nat.mul_comm]
theorem bytes_any {v : Value} {X : F} (hv : IsE v X) (w : World) : Calls Tryz.prog 87 #[v] w fun e w' => e = .returned (.string (leS X.val 32)) ∧ Below w.heap.size w w' := by
 obtain ⟨x, rfl, hx⟩ := hv.ev
 go_enter Tryz.func87, Tryz.ntmps87
 have HK0 := hDx (KS.start w)
 go_upto_region 1 with (fail)
 have hm1 := (HK0.out.made (.cells (lk .u64 (ev x)) 141))
 obtain ⟨A, hgA⟩ := nm w.heap.size
 obtain ⟨ww1, hv1⟩ := nm (World.alloc w (.cells (lk .u64 (ev x)) 141))
 rw [← hv1, ← hgA] at hm1
 rw [← hv1]
 try rw [← hgA]
 have HK1 : Hid (KS [(A, .cells (lk .u64 (ev x)) 141)] [] w ww1) := hDx hm1
 clear hm1 hv1 hgA
 have FA := (HK1.out.rk 0 rfl (ev_len x))
 go_wp2_with (refine wpList_load_rk rfl _ rfl rfl FA ty141 ?_)
 refine (reduced_run x hx.le _).mono ?_
 rintro e ww2 ⟨⟨y, rfl, hy5, hyv⟩, B1⟩
 simp only []
 have HK2 := hDx (HK1.out.call B1)
 clear B1
 rw [hx.fe] at hyv
 clear FA
 have FS := (HK2.out.rk 0 rfl (ev_len x))
 go_upto_region 2 with (refine wpList_store_rk rfl _ _ rfl rfl rfl FS ty141 (ev_len y) ?_)
 obtain ⟨ww3, hv3⟩ := nm (World.setRow ww2 A (lk .u64 (ev y)))
 have HK3 : Hid (KS [(A, .cells (lk .u64 (ev y)) 141)] [] w ww3) := by rw [hv3]; exact hDx (HK2.out.setRow 0 rfl _)
 rw [← hv3]
 clear hv3
 clear FS hv
 obtain ⟨n, hn⟩ := nm y.v
 obtain ⟨l, hl⟩ := nm (El.l y)
 have ll : l.length = 5 := by rw [hl]; rfl
 have HY := hDx (And.intro hy5 (And.intro hyv (And.intro hn hl)))
 have el : (ni l).length = 5 := (ni_len l).trans ll
 rw [show ev y = ni l by rw [hl]; rfl] at HK3
 clear hy5 hyv hn hl ll
 go_upto_region 3 with (fail)
 have hm4 := (HK3.out.made (.cells ZRu8x32 115))
 obtain ⟨B, hgB⟩ := nm ww3.heap.size
 obtain ⟨ww4, hv4⟩ := nm (World.alloc ww3 (.cells ZRu8x32 115))
 rw [← hv4, ← hgB] at hm4
 rw [← hv4]
 try rw [← hgB]
 have HK4 : Hid (KS [(B, .cells (lk .u8 (upF (leF n) 32 0)) 115), (A, .cells (lk .u64 (ni l)) 141)] [] w ww4) := hDx hm4
 clear hm4 hv4 hgB
 go_upto_region 4 with (fail)
 go_loopw [8] (fun vS wr => ∃ k : Nat, k ≤ 32 ∧ vS = .int .i64 (k : Int) ∧ KS [(B, .cells (lk .u8 (upF (leF n) 32 k)) 115), (A, .cells (lk .u64 (ni l)) 141)] [] w wr) (fun vS _ => 32 - (intOf vS).toNat)
 case atStart => exact ⟨0, Nat.zero_le _, rfl, HK4.out⟩
 obtain ⟨k, hk, rfl, HK⟩ := hrel
 have HK5 := hDx HK
 clear HK
 by_cases hlt : k < 32
 ·have hk1 : (0 : Int) ≤ k := by omega
  have hk2 : (k : Int) < 32 := by omega
  obtain ⟨hk3, hk4⟩ := i64w (x := (k : Int) + 1) (n := k + 1) (by omega) (by omega)
  have lB := upF_len (leF n) 32 k
  have hs := upF_set (leF n) 32 k hlt
  obtain ⟨V, hV⟩ := nm (upF (leF n) 32 k)
  rw [← hV] at HK5 lB hs
  clear hV
  obtain ⟨m, q, r, hm, hq, hr, m1, m2, m3, m4, q1, r1, q2, q3, r2, r3, r4, q5, q6, q7, r5, r6, r7⟩ := pow_ix k hlt
  obtain ⟨G, Z, hZ, hG, hcase⟩ := byte_i y HY.out.1 hlt hm hq hr
  have hBy : leF n k = ((y.v / 256 ^ k % 256 : Nat) : Int) := by rw [HY.out.2.2.1]; rfl
  obtain ⟨By, hby⟩ := nm (y.v / 256 ^ k % 256)
  rw [← hby] at hBy hcase
  rw [hBy] at hs
  rw [← HY.out.2.2.2] at hZ hcase
  have cq := (HK5.out.rk 1 rfl el).cell q q7
  rw [ia_ni] at cq
  obtain ⟨Y, hY⟩ := nm (nn l q)
  rw [← hY] at hZ cq
  have fb := (HK5.out.rk 0 rfl lB).fz
  have cb := (HK5.out.rk 0 rfl lB).cell k hlt
  have HJ := hDx (And.intro hs (And.intro hm (And.intro hq hr)))
  clear r5 r6 r7 q2 q3 r2 r3
  clear hs hm hq hr hby hBy hY
  rcases hcase with ⟨hc1, hc2⟩ | ⟨hc1, hc2, hc3⟩ | ⟨hc1, hc2, hc3⟩
  ·have gB := hDx hc2
   clear hc2
   go_upto_region 8 with (first | (with_reducible show Oper.wp _ _ _ _ _ _; refine wp_shift hZ (Or.inl rfl) rfl rfl rfl ?_) | (with_reducible show Oper.wp _ _ _ _ _ _; refine wp_bin q1 rfl rfl rfl ?_) | (with_reducible show Oper.wp _ _ _ _ _ _; refine wp_bin r1 rfl rfl rfl ?_))
   obtain ⟨ww6, hv6⟩ := nm (World.setCell wr ⟨B, k, none⟩ (.int .u8 ((G : Int))))
   have HK6 : Hid (KS [(B, .cells (lk .u8 (V.set k (G : Int))) 115), (A, .cells (lk .u64 (ni l)) 141)] [] w ww6) := by rw [hv6]; exact hDx (HK5.out.setK 0 rfl k ((G : Int)))
   rw [← hv6]
   clear hv6
   clear cq fb cb r4
   go_upto_region 10 with (fail)
   go_wp2_with fail
   go_roundw
   case rel =>
    exact ⟨k + 1, hlt, by first | rfl | go_num, by rw [← HJ.out.1, ← gB.out]; exact HK6.out⟩
   first | exact measI _ _ hlt | (simp [intOf]; omega)
  ·have gB := hDx hc3
   clear hc3
   go_upto_region 8 with (first | (with_reducible show Oper.wp _ _ _ _ _ _; refine wp_shift hZ (Or.inl rfl) rfl rfl rfl ?_) | (with_reducible show Oper.wp _ _ _ _ _ _; refine wp_bin q1 rfl rfl rfl ?_) | (with_reducible show Oper.wp _ _ _ _ _ _; refine wp_bin r1 rfl rfl rfl ?_))
   obtain ⟨ww6, hv6⟩ := nm (World.setCell wr ⟨B, k, none⟩ (.int .u8 ((G : Int))))
   have HK6 : Hid (KS [(B, .cells (lk .u8 (V.set k (G : Int))) 115), (A, .cells (lk .u64 (ni l)) 141)] [] w ww6) := by rw [hv6]; exact hDx (HK5.out.setK 0 rfl k ((G : Int)))
   rw [← hv6]
   clear hv6
   clear cq fb cb r4
   go_upto_region 10 with (fail)
   go_wp2_with fail
   go_roundw
   case rel =>
    exact ⟨k + 1, hlt, by first | rfl | go_num, by rw [← HJ.out.1, ← gB.out]; exact HK6.out⟩
   first | exact measI _ _ hlt | (simp [intOf]; omega)
  obtain ⟨q1n, s1, Tt, Hh, x1, x2, x3, x4, x5, x6, y1, y2, y3, y4, y5, y6, y7, t1, t2, t3⟩ := hc3
  have cq1 := (HK5.out.rk 1 rfl el).cell q1n x6
  rw [ia_ni] at cq1
  obtain ⟨Y1, hY1⟩ := nm (nn l q1n)
  rw [← hY1] at t1 cq1
  go_upto_region 8 with (first | (with_reducible show Oper.wp _ _ _ _ _ _; refine wp_shift hZ (Or.inl rfl) rfl rfl rfl ?_) | (with_reducible show Oper.wp _ _ _ _ _ _; refine wp_bin q1 rfl rfl rfl ?_) | (with_reducible show Oper.wp _ _ _ _ _ _; refine wp_bin r1 rfl rfl rfl ?_))
  obtain ⟨ww6, hv6⟩ := nm (World.setCell wr ⟨B, k, none⟩ (.int .u8 ((G : Int))))
  have HK6 : Hid (KS [(B, .cells (lk .u8 (V.set k (G : Int))) 115), (A, .cells (lk .u64 (ni l)) 141)] [] w ww6) := by rw [hv6]; exact hDx (HK5.out.setK 0 rfl k ((G : Int)))
  rw [← hv6]
  clear hv6
  clear cq fb cb cq1 r4
  have lB2 : (V.set k (G : Int)).length = 32 := by rw [List.length_set, lB]
  have cb := (HK6.out.rk 0 rfl lB2).cell k hlt
  rw [ia_set _ _ _ _ (by rw [lB]; exact hlt), if_pos rfl] at cb
  have fb := (HK6.out.rk 0 rfl lB2).fz
  have cq1 := (HK6.out.rk 1 rfl el).cell q1n x6
  rw [ia_ni] at cq1
  obtain ⟨Y2, hY2⟩ := nm (nn l q1n)
  rw [← hY2] at cq1
  rw [show Y1 = Y2 from hY1.trans hY2.symm] at t1
  clear hY1 hY2
  go_upto_region 9 with (first | (with_reducible show Oper.wp _ _ _ _ _ _; refine wp_bin q1 rfl rfl rfl ?_) | (with_reducible show Oper.wp _ _ _ _ _ _; refine wp_bin r1 rfl rfl rfl ?_))
  obtain ⟨u1, u2⟩ := td51 m
  rw [← HJ.out.2.2.1] at u1
  rw [← HJ.out.2.2.2] at u2
  go_still_tail 16, (by kernel_rfl)
  clear u1 u2
  go_upto_region 10 with (fail)
  obtain ⟨ww7, hv7⟩ := nm (World.drew (World.setCell ww6 ⟨B, k, none⟩ (.int .u8 ((By : Int)))))
  have HK7 : Hid (KS [(B, .cells (lk .u8 ((V.set k (G : Int)).set k (By : Int))) 115), (A, .cells (lk .u64 (ni l)) 141)] [] w ww7) := by rw [hv7]; exact hDx ((HK6.out.setK 0 rfl k ((By : Int))).drew)
  rw [← hv7]
  clear hv7
  go_wp2_with fail
  go_roundw
  case rel =>
   exact ⟨k + 1, hlt, by first | rfl | go_num, by rw [← HJ.out.1, ← List.set_set (a := (G : Int))]; exact HK7.out⟩
  first | exact measI _ _ hlt | (simp [intOf]; omega)
 obtain rfl : k = 32 := by omega
 try simp only [Int.cast_ofNat_Int]
 have FB := (HK5.out.rk 0 rfl (upF_len _ _ _))
 have hcv := FB.conv 32
 rw [show strOfNums (upF (leF n) 32 32) = leS n 32 from rfl] at hcv
 go_wp2_with fail
 go_ret
 exact ⟨by rw [← HY.out.2.1, ← HY.out.2.2.1]; rfl, HK5.out.below⟩
end
end Go.Proofs.YtoplbfijodebmaaGreatDoor
