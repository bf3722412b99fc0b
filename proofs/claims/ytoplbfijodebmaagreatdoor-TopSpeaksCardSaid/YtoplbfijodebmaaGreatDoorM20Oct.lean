/-
  The walk.
-/
import Derived.Test.YtoplbfijodebmaaGreatDoorM13Elem3
import Derived.Test.YtoplbfijodebmaaGreatDoorM19Expand
import Derived.Laws.BytesArg
set_option linter.unusedVariables false
set_option linter.unusedSimpArgs false
set_option maxRecDepth 100000
set_option maxHeartbeats 40000000
namespace Go.Proofs.YtoplbfijodebmaaGreatDoor
open Go.RowKit T
def leN (s : ByteArray) : Nat → Nat
 | 0 => 0
 | n + 1 => leN s n + bt s n * 256 ^ n
theorem leN_lt (s : ByteArray) : ∀ n, leN s n < 256 ^ n
 | 0 => by simp [leN]
 | n + 1 => by
  have h := leN_lt s n
  have hb := bt_lt s n
  rw [leN, Nat.pow_succ]
  have : bt s n * 256 ^ n ≤ 255 * 256 ^ n := Nat.mul_le_mul_right _ (by omega)
  omega
theorem idxS {s : ByteArray} {k : Nat} (h : k < s.size) (w : World) : (Instr.index 9 (.string s) (.int .i64 (k : Int))).run Tryz.prog w = .ok (.int .u8 (bt s k : Int)) w := by
 have h2 : (0 : Int) ≤ k ∧ (k : Int) < s.size := by omega
 simp [go_sem, und9, h, h2, bt_get]
theorem or_addu (a b k : Nat) (ha : a < 2 ^ k) (h : a + b * 2 ^ k < 18446744073709551616) : bits .or .u64 (a : Int) ((b * 2 ^ k : Nat) : Int) = ((a + b * 2 ^ k : Nat) : Int) := by
 have e : a ||| b * 2 ^ k = a + b * 2 ^ k := by
  rw [Nat.or_comm, Nat.mul_comm b, ← Nat.two_pow_add_eq_or_of_lt ha, Nat.add_comm]
 rw [u64_or_nat a (b * 2 ^ k) (by omega) (by omega), e]
theorem p256 (k : Nat) : 256 ^ k = 2 ^ (8 * k) := by rw [show (256 : Nat) = 2 ^ 8 from rfl, ← Nat.pow_mul]
theorem leN_step (s : ByteArray) {k m : Nat} (h : k < 8) (hm : m = 8 * k) : bits .or .u64 (leN s k : Int) (IntKind.u64.wrap ((bt s k : Int) * 2 ^ m)) = (leN s (k + 1) : Int) := by
 have h1 := leN_lt s k
 have h2 := leN_lt s (k + 1)
 have h3 : (256 : Nat) ^ (k + 1) ≤ 256 ^ 8 := Nat.pow_le_pow_right (by decide) (by omega)
 have h4 : leN s (k + 1) < 18446744073709551616 := Nat.lt_of_lt_of_le h2 h3
 have e : leN s (k + 1) = leN s k + bt s k * 2 ^ m := by rw [leN, p256, hm]
 rw [e] at h4 ⊢
 have e2 : IntKind.u64.wrap ((bt s k : Int) * 2 ^ m) = ((bt s k * 2 ^ m : Nat) : Int) := u64w (by push_cast; rfl) (by omega)
 rw [e2]
 exact or_addu _ _ _ (by rw [hm, ← p256]; exact h1) h4
theorem eight_i (k : Nat) (h : k < 8) : ∃ m : Nat, m = 8 * k ∧ (8 * (k : Int)) = m ∧ ((k : Int) * 8) = m ∧ IntKind.i64.wrap (m : Int) = m ∧ wrap64 (m : Int) = m ∧ IntKind.u64.wrap (m : Int) = m ∧ (0 : Int) ≤ m ∧ (m : Int) < 64 ∧ ¬ (64 : Int) ≤ m := by
 obtain ⟨a1, a2⟩ := i64w (x := ((8 * k : Nat) : Int)) (n := 8 * k) rfl (by omega)
 exact ⟨_, rfl, by omega, by omega, a2, a1, u64w rfl (by omega), by omega, by omega, by omega⟩
theorem bt64 (s : ByteArray) (k : Nat) : IntKind.u64.wrap (bt s k : Int) = bt s k := u64w rfl (by have := bt_lt s k; omega)
theorem word_any (s : ByteArray) (h8 : 8 ≤ s.size) (w : World) : Calls Tryz.prog 106 #[.string s] w fun e w' => e = .returned (.int .u64 (leN s 8 : Int)) ∧ Below w.heap.size w w' := by
 go_enter Tryz.func106, Tryz.ntmps106
 have HK0 := hDx (KS.start w)
 go_upto_region 3 with (fail)
 go_loopw [3, 5] (fun vX vS wr => ∃ k : Nat, k ≤ 8 ∧ vS = .int .i64 (k : Int) ∧ vX = .int .u64 (leN s k : Int) ∧ KS [] [] w wr) (fun vX vS _ => 8 - (intOf vS).toNat)
 case atStart => exact ⟨0, Nat.zero_le _, rfl, rfl, HK0.out⟩
 obtain ⟨k, hk, rfl, rfl, HK⟩ := hrel
 have HK1 := hDx HK
 clear HK
 by_cases hlt : k < 8
 ·have hk1 : (0 : Int) ≤ k := by omega
  have hk2 : (k : Int) < 8 := by omega
  obtain ⟨hk3, hk4⟩ := i64w (x := (k : Int) + 1) (n := k + 1) (by omega) (by omega)
  have ks := idxS (s := s) (k := k) (by omega)
  obtain ⟨m, hm, m1, m2, m3, m4, m5, m6, m7, m8⟩ := eight_i k hlt
  have HM := hDx hm
  clear hm
  have mb := bt64 s k
  go_wp2_with fail
  go_roundw
  case rel =>
   exact ⟨k + 1, by omega, by first | rfl | go_num, by rw [leN_step s hlt HM.out], HK1.out⟩
  first | exact measI _ _ hlt | (simp [intOf]; omega)
 obtain rfl : k = 8 := by omega
 try simp only [Int.cast_ofNat_Int]
 go_wp2_with fail
 go_ret
 exact ⟨rfl, HK1.out.below⟩
theorem wp_shift {P : Program} {o : Oper} {a : Act} {w : World} {K : Act → World → Prop} {Q : Exit → Act → World → Prop} {t t2 : TypeId} {x y : Operand} {k yk : IntKind} {X Y : Int} {v : Value} {b : BinOp} (hv : Op.shift b k X yk Y = pure v) (hb : b = .shr ∨ b = .shl) (ho : o.op = .binOp b t x y t2) (hx : a.eval x = .int k X) (hy : a.eval y = .int yk Y)
  (h : K (a.put o.dst v) w) : o.wp P a w K Q := by
 rcases hb with rfl | rfl
 ·unfold Oper.wp execOp
  simp only [ho, hx, hy, eqGuard_at_int, binOp_shr, hv]
  exact h
 unfold Oper.wp execOp
 simp only [ho, hx, hy, eqGuard_at_int, binOp_shl, hv]
 exact h
theorem wp_bin {P : Program} {o : Oper} {a : Act} {w : World} {K : Act → World → Prop} {Q : Exit → Act → World → Prop} {t t2 : TypeId} {x y : Operand} {k : IntKind} {X : Int} {Y v : Value} {b : BinOp} (hv : binOp b t (.int k X) Y = pure v) (ho : o.op = .binOp b t x y t2) (hx : a.eval x = .int k X) (hy : a.eval y = Y)
  (h : K (a.put o.dst v) w) : o.wp P a w K Q := by
 unfold Oper.wp execOp
 simp only [ho, hx, hy, eqGuard_at_int, hv]
 exact h
theorem quo_i (t : TypeId) (m d q : Nat) (hd : 0 < d) (hq : m / d = q) (hb : q < 1000) : binOp .quo t (.int .i64 (m : Int)) (.int .i64 (d : Int)) = pure (.int .i64 (q : Int)) := by
 obtain ⟨a1, a2⟩ := i64w (x := (q : Int)) (n := q) rfl hb
 have e : (m : Int).tdiv (d : Int) = q := by rw [Int.tdiv_eq_ediv_of_nonneg (by omega), ← hq]; rfl
 have e2 : ¬ ((d : Int) = 0) := by omega
 simp [go_sem, e, a2]
 omega
theorem rem_i (t : TypeId) (m d q : Nat) (hd : 0 < d) (hq : m % d = q) (hb : q < 1000) : binOp .rem t (.int .i64 (m : Int)) (.int .i64 (d : Int)) = pure (.int .i64 (q : Int)) := by
 obtain ⟨a1, a2⟩ := i64w (x := (q : Int)) (n := q) rfl hb
 have e : (m : Int).tmod (d : Int) = q := by rw [Int.tmod_eq_emod_of_nonneg (by omega), ← hq]; rfl
 have e2 : ¬ ((d : Int) = 0) := by omega
 simp [go_sem, e, a2]
 omega
def bl (s : ByteArray) : List Int := s.data.toList.map fun b => (b.toNat : Int)
theorem bl_len (s : ByteArray) : (bl s).length = s.size := (List.length_map ..).trans Array.length_toList
theorem bl_at (s : ByteArray) (i : Nat) : ia (bl s) i = (bt s i : Int) := by
 unfold ia bl bt
 rw [List.getD_eq_getElem?_getD, List.getElem?_map, Array.getElem?_toList, gDx]
 cases s.data[i]? <;> rfl
def Byt (v : List Int) : Prop := ∀ i, 0 ≤ ia v i ∧ ia v i < 256
theorem byt_bl (s : ByteArray) : Byt (bl s) := fun i => by
 rw [bl_at]
 have := bt_lt s i
 omega
theorem bt_sb (v : List Int) (h : Byt v) (i : Nat) : (bt (strOfNums v) i : Int) = ia v i := by
 have e : bt (strOfNums v) i = (UInt8.ofNat (ia v i).toNat).toNat := by
  unfold bt ia
  rw [gDx, ← Array.getElem?_toList, strOfNums_data, List.getElem?_map, List.getD_eq_getElem?_getD]
  cases v[i]? <;> rfl
 have h1 := h i
 rw [e, UInt8.toNat_ofNat']
 omega
theorem sb_size (v : List Int) : (strOfNums v).size = v.length := strOfNums_size v
theorem str_ext {a b : ByteArray} (hs : a.size = b.size) (h : ∀ i, i < a.size → bt a i = bt b i) : a = b := by
 apply ByteArray.ext
 apply Array.ext
 ·exact hs
 intro i h1 h2
 have := h i h1
 unfold bt at this
 rw [gDx, gDx, Array.getElem?_eq_getElem h1, Array.getElem?_eq_getElem h2] at this
 exact UInt8.toNat_inj.1 this
def bob (v : List Int) (z : Nat) : Obj := .cells (lk .u8 (v ++ zi z)) 5 (v.length + z, v.length + z + 1)
theorem run_bytes (s : ByteArray) (w : World) : ∃ z cap, (convert 9 52 (.string s)).run Tryz.prog w = .ok (.slice (some ⟨w.heap.size, 0, none⟩) s.size cap) (w.drew.alloc (bob (bl s) z)) := by
 refine ⟨grownCap w s.size 0 5 - s.size, grownCap w s.size 0 5, ?_⟩
 rw [run_bytes_of_string w 9 52 5 s und9 Tryz.underlying52 (by kernel_rfl)]
 have e : bytesRow s (grownCap w s.size 0 5) = lk .u8 (bl s ++ zi (grownCap w s.size 0 5 - s.size)) := by
  apply Array.toList_inj.1
  simp [bytesRow, lk, bl, zi, List.map_map, Function.comp_def]
 rw [e]
 unfold bob
 rw [lk_size, List.length_append, zi_len]
theorem lk_app {k : IntKind} {v u : List Int} {i : Nat} (h : i < v.length) : (lk k (v ++ u))[i]? = some (.int k (ia v i)) := by
 have := lk_at (k := k) (v := v ++ u) rfl (i := i) (by rw [List.length_append]; omega)
 rw [this]
 unfold ia
 rw [List.getD_eq_getElem?_getD, List.getD_eq_getElem?_getD, List.getElem?_append_left h]
namespace KS
variable {L : List (Nat × Obj)} {X : List Nat} {w u : World}
theorem bcell (h : KS L X w u) (j : Nat) {g z : Nat} {v : List Int} (e : L[j]? = some (g, bob v z)) (i : Nat) (hi : i < v.length) : u.cell? ⟨g, i, none⟩ = some (.int .u8 (ia v i)) := by
 have := h.get j e
 simp [World.cell?, this, bob, lk_app hi]
theorem bfz (h : KS L X w u) (j : Nat) {g z : Nat} {v : List Int} (e : L[j]? = some (g, bob v z)) (i : Nat) (hi : i < v.length) : u.frozen? ⟨g, i, none⟩ = false := by
 have := h.get j e
 simp [World.frozen?, this, bob]
 omega
theorem bset (h : KS L X w u) (j : Nat) {g z : Nat} {v : List Int} (e : L[j]? = some (g, bob v z)) (i : Nat) (hi : i < v.length) (x : Int) : KS (L.set j (g, bob (v.set i x) z)) X w (u.setCell ⟨g, i, none⟩ (.int .u8 x)) := by
 refine h.turn j e (by simp) rfl rfl rfl ?_ (fun i' hi' => Below.heap_setCell _ _ _ _ hi')
 have := h.get j e
 simp only [World.setCell, Array.getElem?_modify, this, if_true, Option.map_some, bob, List.length_set]
 congr 2
 rw [← List.set_append_left _ _ hi]
 simp [lk, List.map_set]
theorem bconv (h : KS L X w u) (j : Nat) {g z n : Nat} {v : List Int} (e : L[j]? = some (g, bob v z)) (hn : v.length = n) (cap : Nat) : (convert 52 9 (.slice (some ⟨g, 0, none⟩) n cap)).run Tryz.prog u = .ok (.string (strOfNums v)) u :=
 run_convert_bytes_arg u 52 5 Tryz.underlying52 (by kernel_rfl) g 0 n cap v hn (fun i hi => by rw [Nat.zero_add]; exact h.bcell j e i (by omega)) 9 und9
end KS
theorem Rk.conv {w : World} {b n : Nat} {t : TypeId} {v : List Int} (h : Rk w b t .u8 n v) (cap : Nat) : (convert 52 9 (.slice (some ⟨b, 0, none⟩) n cap)).run Tryz.prog w = .ok (.string (strOfNums v)) w :=
 run_convert_bytes_arg w 52 5 Tryz.underlying52 (by kernel_rfl) b 0 n cap v h.len (fun i hi => by rw [Nat.zero_add]; exact h.cell i hi) 9 und9
def clampL (v : List Int) : List Int := (v.set 0 (bits .and .u8 (ia v 0) 248)).set 31 (bits .or .u8 (bits .and .u8 (ia v 31) 127) 64)
def clampS (s : ByteArray) : ByteArray := strOfNums (clampL (bl s))
theorem clampL_len (v : List Int) : (clampL v).length = v.length := by simp [clampL]
theorem clampS_size (s : ByteArray) : (clampS s).size = s.size := by rw [clampS, sb_size, clampL_len, bl_len]
theorem clamp_any (s : ByteArray) (h32 : s.size = 32) (w : World) : Calls Tryz.prog 81 #[.string s] w fun e w' => e = .returned (.tuple #[.string (clampS s), .int .i64 0]) ∧ Below w.heap.size w w' := by
 have h33 : (s.size : Int) = 32 := by omega
 have hl : (bl s).length = 32 := (bl_len s).trans h32
 obtain ⟨zz, cap, hcv⟩ := run_bytes s w
 rw [h32] at hcv
 go_enter Tryz.func81, Tryz.ntmps81
 have HK0 := hDx (KS.start w)
 go_upto_region 4 with (fail)
 have hm1 := (HK0.out.made (bob (bl s) zz)).drew
 obtain ⟨A, hgA⟩ := nm w.heap.size
 obtain ⟨ww1, hv1⟩ := nm (World.drew (World.alloc w (bob (bl s) zz)))
 rw [← hv1, ← hgA] at hm1
 rw [← hv1]
 try rw [← hgA]
 have HK1 : Hid (KS [(A, bob (bl s) zz)] [] w ww1) := hDx hm1
 clear hm1 hv1 hgA
 clear hcv
 have c0 := HK1.out.bcell 0 rfl 0 (by omega)
 have z0 := HK1.out.bfz 0 rfl 0 (by omega)
 go_upto_region 5 with (fail)
 obtain ⟨ww2, hv2⟩ := nm (World.setCell ww1 ⟨A, 0, none⟩ (.int .u8 (bits .and .u8 (ia (bl s) 0) 248)))
 have HK2 : Hid (KS [(A, bob ((bl s).set 0 (bits .and .u8 (ia (bl s) 0) 248)) zz)] [] w ww2) := by rw [hv2]; exact hDx (HK1.out.bset 0 rfl 0 (by first | omega | (simp; omega)) (bits .and .u8 (ia (bl s) 0) 248))
 rw [← hv2]
 clear hv2
 have hl2 : ((bl s).set 0 (bits .and .u8 (ia (bl s) 0) 248)).length = 32 := by simp [hl]
 have c1 := HK2.out.bcell 0 rfl 31 (by omega)
 have z1 := HK2.out.bfz 0 rfl 31 (by omega)
 have e31 : ia ((bl s).set 0 (bits .and .u8 (ia (bl s) 0) 248)) 31 = ia (bl s) 31 := by rw [ia_set _ _ _ _ (by omega)]; simp
 rw [e31] at c1
 go_upto_region 6 with (fail)
 obtain ⟨ww3, hv3⟩ := nm (World.setCell ww2 ⟨A, 31, none⟩ (.int .u8 (bits .or .u8 (bits .and .u8 (ia (bl s) 31) 127) 64)))
 have HK3 : Hid (KS [(A, bob (clampL (bl s)) zz)] [] w ww3) := by rw [hv3]; exact hDx (HK2.out.bset 0 rfl 31 (by first | omega | (simp; omega)) (bits .or .u8 (bits .and .u8 (ia (bl s) 31) 127) 64))
 rw [← hv3]
 clear hv3
 have hcv := HK3.out.bconv 0 rfl ((clampL_len _).trans hl) cap
 go_wp2_with fail
 go_ret2
 exact ⟨rfl, HK3.out.below⟩
theorem rclamp_any (s : ByteArray) (h32 : s.size = 32) (w : World) : Calls Tryz.prog 52 #[.string s] w fun e w' => e = .returned (.string (clampS s)) ∧ Below w.heap.size w w' := by
 have h33 : (s.size : Int) = 32 := by omega
 have hl : (bl s).length = 32 := (bl_len s).trans h32
 obtain ⟨zz, cap, hcv⟩ := run_bytes s w
 rw [h32] at hcv
 go_enter Tryz.func52, Tryz.ntmps52
 have HK0 := hDx (KS.start w)
 go_upto_region 2 with (fail)
 have hm1 := (HK0.out.made (bob (bl s) zz)).drew
 obtain ⟨A, hgA⟩ := nm w.heap.size
 obtain ⟨ww1, hv1⟩ := nm (World.drew (World.alloc w (bob (bl s) zz)))
 rw [← hv1, ← hgA] at hm1
 rw [← hv1]
 try rw [← hgA]
 have HK1 : Hid (KS [(A, bob (bl s) zz)] [] w ww1) := hDx hm1
 clear hm1 hv1 hgA
 clear hcv
 have c0 := HK1.out.bcell 0 rfl 0 (by omega)
 have z0 := HK1.out.bfz 0 rfl 0 (by omega)
 go_upto_region 3 with (fail)
 obtain ⟨ww2, hv2⟩ := nm (World.setCell ww1 ⟨A, 0, none⟩ (.int .u8 (bits .and .u8 (ia (bl s) 0) 248)))
 have HK2 : Hid (KS [(A, bob ((bl s).set 0 (bits .and .u8 (ia (bl s) 0) 248)) zz)] [] w ww2) := by rw [hv2]; exact hDx (HK1.out.bset 0 rfl 0 (by first | omega | (simp; omega)) (bits .and .u8 (ia (bl s) 0) 248))
 rw [← hv2]
 clear hv2
 have hl2 : ((bl s).set 0 (bits .and .u8 (ia (bl s) 0) 248)).length = 32 := by simp [hl]
 have c1 := HK2.out.bcell 0 rfl 31 (by omega)
 have z1 := HK2.out.bfz 0 rfl 31 (by omega)
 have e31 : ia ((bl s).set 0 (bits .and .u8 (ia (bl s) 0) 248)) 31 = ia (bl s) 31 := by rw [ia_set _ _ _ _ (by omega)]; simp
 rw [e31] at c1
 go_upto_region 4 with (fail)
 obtain ⟨ww3, hv3⟩ := nm (World.setCell ww2 ⟨A, 31, none⟩ (.int .u8 (bits .or .u8 (bits .and .u8 (ia (bl s) 31) 127) 64)))
 have HK3 : Hid (KS [(A, bob (clampL (bl s)) zz)] [] w ww3) := by rw [hv3]; exact hDx (HK2.out.bset 0 rfl 31 (by first | omega | (simp; omega)) (bits .or .u8 (bits .and .u8 (ia (bl s) 31) 127) 64))
 rw [← hv3]
 clear hv3
 have hcv := HK3.out.bconv 0 rfl ((clampL_len _).trans hl) cap
 go_wp2_with fail
 go_ret
 exact ⟨rfl, HK3.out.below⟩
end Go.Proofs.YtoplbfijodebmaaGreatDoor
