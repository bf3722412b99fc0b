/-
  The walk.
-/
import Derived.Test.YtoplbfijodebmaaGreatDoorM16Sums
import Derived.Laws.Closers25
import Derived.Laws.Concat
set_option linter.unusedVariables false
set_option linter.unusedSimpArgs false
set_option maxRecDepth 100000
set_option maxHeartbeats 40000000
namespace Go.Proofs.YtoplbfijodebmaaGreatDoor
section
open Go.RowKit
open Go.Lib (strCells)
def word0 (size : Nat) (key : ByteArray) : Nat := at_ iv 0 ^^^ (16842752 ^^^ key.size * 256 ^^^ size)
def zeroB (n : Nat) : ByteArray := ⟨Array.replicate n 0⟩
def newS (size : Nat) (key : ByteArray) : HSt :=
 if key.size = 0 then { h := iv.set 0 (word0 size key), r := .empty, n := 0 } else HSt.add { h := iv.set 0 (word0 size key), r := .empty, n := 0 } (key ++ zeroB (64 - key.size))
def may (size : Int) (key : ByteArray) : Prop := 1 ≤ size ∧ size ≤ 32 ∧ key.size ≤ 32
theorem new_bad (size : Int) (key : ByteArray) (w : World) (h : ¬ may size key) : Calls Tryz.prog 103 #[.int .i64 size, .string key] w fun e w' => e = .returned (.tuple #[.pointer none, .int .i64 2]) ∧ w' = w := by
 by_cases h1 : size < 1
 ·clear h
  go_enter Tryz.func103, Tryz.ntmps103
  go_wp2_with fail
  go_ret2
  exact ⟨rfl, rfl⟩
 by_cases h2 : 32 < size
 ·clear h
  go_enter Tryz.func103, Tryz.ntmps103
  go_wp2_with fail
  go_ret2
  exact ⟨rfl, rfl⟩
 have h3 : (32 : Int) < (key.size : Int) := by unfold may at h; omega
 clear h
 go_enter Tryz.func103, Tryz.ntmps103
 go_wp2_with fail
 go_ret2
 exact ⟨rfl, rfl⟩
theorem wrap32_small (n : Nat) (h : n < 4294967296) : IntKind.u32.wrap (n : Int) = n := by rw [wrap32, Nat.mod_eq_of_lt h]
theorem word0_int (size z : Nat) (hs : size ≤ 32) (hz : z ≤ 32) : ∃ K a1 a2 a3 : Nat, IntKind.u32.wrap (z : Int) = z ∧ IntKind.u32.wrap ((z : Int) * 256) = K ∧ IntKind.u32.wrap (size : Int) = size ∧ bits .xor .u32 (16842752 : Int) (K : Int) = a1 ∧ bits .xor .u32 (a1 : Int) (size : Int) = a2 ∧ bits .xor .u32 ((at_ iv 0 : Nat) : Int) (a2 : Int) = a3 ∧ a3 = at_ iv 0 ^^^ (16842752 ^^^ z * 256 ^^^ size) ∧ a3 < 4294967296 := by
 have l1 : z * 256 < 4294967296 := by omega
 have l2 : size < 4294967296 := by omega
 have l3 : 16842752 ^^^ z * 256 < 4294967296 := xor32_lt _ _ (by decide) l1
 have l4 : 16842752 ^^^ z * 256 ^^^ size < 4294967296 := xor32_lt _ _ l3 l2
 refine ⟨z * 256, 16842752 ^^^ z * 256, 16842752 ^^^ z * 256 ^^^ size, at_ iv 0 ^^^ (16842752 ^^^ z * 256 ^^^ size), wrap32_small z (by omega), ?_, wrap32_small size l2, u32_xor_nat 16842752 (z * 256) (by decide) l1, u32_xor_nat _ _ l3 l2, u32_xor_nat _ _ (iv_lt 0) l4, rfl, xor32_lt _ _ (iv_lt 0) l4⟩
 have := wrap32_small (z * 256) l1
 rw [← this]
 congr 1
theorem not_empty {key : ByteArray} (h : ¬ key = .empty) : key.toList.isEmpty = false := by
 rw [← decide_eq_emptyBytes key]
 exact decide_eq_false h
theorem size_pos {key : ByteArray} (h : ¬ key = .empty) : key.size ≠ 0 := by
 intro e
 apply h
 apply ByteArray.ext
 have h2 : key.data.size = 0 := e
 rw [Array.eq_empty_of_size_eq_zero h2]
 rfl
theorem ne0 {n : Nat} (h : 1 ≤ n) : (n : Int) ≠ 0 := by omega
theorem sub64 (z : Nat) (h : z ≤ 32) : ∃ m : Nat, m = 64 - z ∧ IntKind.i64.wrap (64 - (z : Int)) = m ∧ wrap64 (64 - (z : Int)) = m :=
 ⟨64 - z, rfl, (i64w (by omega) (by omega)).2, (i64w (by omega) (by omega)).1⟩
theorem zero_conv (w : World) (m : Nat) : (convert 52 9 (.slice (some ⟨w.heap.size, 0, none⟩) m m)).run Tryz.prog (w.alloc (.cells (madeCells #[.int .u8 0] m) 5)) = .ok (.string (zeroB m)) (w.alloc (.cells (madeCells #[.int .u8 0] m) 5)) := by
 have hb := heap_alloc_last w (.cells (madeCells #[.int .u8 0] m) 5)
 have := run_convert_bytes_back (P := Tryz.prog) (w.alloc (.cells (madeCells #[.int .u8 0] m) 5)) 52 9 5 ⟨w.heap.size, 0, none⟩ m (List.replicate m 0) Tryz.underlying52 (by kernel_rfl) (by kernel_rfl) (fun j hj => by
  have hj' : j < m := by simpa using hj
  rw [Addr.add_mid, Nat.zero_add]
  unfold World.cell?
  rw [hb]
  simp [madeCells, hj', Nat.mod_one])
 simpa [zeroB] using this
theorem new_any (size : Nat) (key : ByteArray) (w : World) (hT : Tab w) (h1 : 1 ≤ size) (h32 : size ≤ 32) (hk : key.size ≤ 32) :
  Calls Tryz.prog 103 #[.int .i64 size, .string key] w fun e w' => ∃ b v, w.heap.size ≤ b ∧ e = .returned (.tuple #[.pointer (some ⟨b, 0, none⟩), .int .i64 0]) ∧ HV w.heap.size w' b size v (newS size key) ∧ Below w.heap.size w w' := by
 have n1 : ¬ (size : Int) < 1 := by omega
 have n2 : ¬ (32 : Int) < size := by omega
 obtain ⟨z, hz⟩ := nm key.size
 have n3 : ¬ (32 : Int) < ((key.size : Nat) : Int) := by omega
 have H0 := hDx (And.intro hT (And.intro h1 (And.intro h32 (And.intro hk hz))))
 clear hT h1 h32 hk hz
 go_enter Tryz.func103, Tryz.ntmps103
 go_wp2_with fail
 refine (first_any w).mono ?_
 rintro e w1 ⟨rfl, B1⟩
 simp only []
 go_wp2_with fail
 have hcells : ((Array.foldl (fun cs x => cs.setIfInBounds x.snd x.fst) #[.int .u32 0, .int .u32 0, .int .u32 0, .int .u32 0, .int .u32 0, .int .u32 0, .int .u32 0, .int .u32 0, .int .i64 0, .slice none 0 0, .int .u64 0] (ws iv).zipIdx 0 (ws iv).size).setIfInBounds 8 (.int .i64 (size : Int))) = cells60 iv size (.slice none 0 0) 0 := rfl
 rw [hcells]
 have S1 : Hs (w1.alloc (.cells (cells60 iv size (.slice none 0 0) 0) 193)) w1.heap.size iv size (.slice none 0 0) 0 := ⟨heap_alloc_last w1 _, iv_len, iv_lt⟩
 have B2 := B1.alloc B1.size (.cells (cells60 iv size (.slice none 0 0) 0) 193)
 have hb := B1.size
 obtain ⟨b, hbb⟩ := nm w1.heap.size
 rw [← hbb] at S1 hb
 rw [← hbb]
 obtain ⟨w2, hw2⟩ := nm (w1.alloc (.cells (cells60 iv size (.slice none 0 0) 0) 193))
 rw [← hw2] at S1 B2
 rw [← hw2]
 obtain ⟨K, a1, a2, a3, k1, k2, k3, e1, e2, e3, e4, l3⟩ := word0_int size key.size H0.out.2.2.1 H0.out.2.2.2.1
 have c0 := S1.cell 0 (by decide)
 have f0 := S1.drew.fz 0
 obtain ⟨I0, hI⟩ := nm (at_ iv 0)
 rw [← hI] at c0 e3
 have S2 := (S1.set 0 a3 (by decide) l3).drew
 have B3 := (B2.setCell (p := ⟨b, 0, none⟩) hb (.int .u32 (a3 : Int))).drew
 have H2 := hDx (And.intro S2 (And.intro B3 (And.intro hb e4)))
 clear S1 S2 B1 B2 B3 hb hbb hw2 hcells hI e4 l3
 go_still_tail 17, (by kernel_rfl)
 obtain ⟨w3, hw3⟩ := nm ((w2.setCell ⟨b, 0, none⟩ (.int .u32 (a3 : Int))).drew)
 have hh := H2.out
 rw [← hw3] at hh
 have H3 := hDx hh
 clear hh H2
 by_cases hke : key = .empty
 ·subst hke
  go_upto_if 40 with (fail)
  rw [← hw3]
  go_wp2_with fail
  go_ret2
  refine ⟨b, .slice none 0 0, H3.out.2.2.1, rfl, ?_, H3.out.2.1⟩
  have hs := H3.out.1
  rw [H3.out.2.2.2] at hs
  exact ⟨hs, World.ownsRow_nil _ _ _ _, by simp [Value.ownBlock], (show (0 : Nat) < 18446744073709551616 by decide), (show (0 : Nat) ≤ 64 by decide)⟩
 have hk1 : key.toList.isEmpty = false := not_empty hke
 have hz1 := size_pos hke
 have hmk := run_make_row' (P := Tryz.prog) 52 5 (.int .u8 0) 1 Tryz.underlying52 Tryz.info5 rfl .i64 .i64
 obtain ⟨m, hm, m1, m2⟩ := sub64 key.size H0.out.2.2.2.1
 have hmk := run_make_row' (P := Tryz.prog) 52 5 (.int .u8 0) 1 Tryz.underlying52 Tryz.info5 rfl .i64 .i64 m (by rw [hm]; omega) (by rw [hm]; omega)
 have hcv := zero_conv w3 m
 obtain ⟨Z, hZ⟩ := nm (zeroB m)
 rw [← hZ] at hcv
 have hZs : Z.size = m := by rw [hZ]; simp [zeroB, ByteArray.size]
 have hadd : ∀ u, (Op.stringOp .add key Z).run Tryz.prog u = .ok (.string (key ++ Z)) u := fun u => run_string_add_sum u _ _ (by rw [hZs, hm]; have := H0.out.2.2.2.1; omega)
 have V3 : HV w.heap.size w3 b size (.slice none 0 0) { h := iv.set 0 a3, r := .empty, n := 0 } := ⟨H3.out.1, World.ownsRow_nil _ _ _ _, by simp [Value.ownBlock], (show (0 : Nat) < 18446744073709551616 by decide), (show (0 : Nat) ≤ 64 by decide)⟩
 have B4 := H3.out.2.1.alloc H3.out.2.1.size (.cells (madeCells #[.int .u8 0] m) 5)
 have V4 := V3.alloc (.cells (madeCells #[.int .u8 0] m) 5)
 have HK := hDx (And.intro V4 (And.intro B4 (And.intro hz1 (And.intro hm (And.intro hZ hZs)))))
 clear V3 V4 B4 hz1 hm hZ hZs
 go_upto_if 40 with (fail)
 rw [← hw3]
 clear hw3
 go_wp2_with fail
 refine (add_any w.heap.size (key ++ Z) (H0.out.1.more HK.out.2.1) HK.out.1 HK.out.2.1.size H0.out.1.lt H3.out.2.2.1 (ne0 H0.out.2.1) (by rw [ByteArray.size_append, HK.out.2.2.2.2.2, HK.out.2.2.2.1]; have := H0.out.2.2.2.1; unfold maxLen; omega)).mono ?_
 rintro e w5 ⟨rfl, ⟨v5, V5⟩, B5⟩
 simp only []
 have HE := hDx (And.intro V5 (HK.out.2.1.trans B5))
 clear V5 B5
 go_wp2_with fail
 go_ret2
 refine ⟨b, v5, H3.out.2.2.1, rfl, ?_, HE.out.2⟩
 have hv := HE.out.1
 rw [HK.out.2.2.2.2.1, HK.out.2.2.2.1, H3.out.2.2.2] at hv
 unfold newS
 rw [if_neg HK.out.2.2.1]
 exact hv
end
section
open Go.ChangeShapes Go.WideShapes Go.ChangeAt Go.RowKit
open Go.Lib (strCells)
def HSt.sum (x : HSt) (size : Nat) : ByteArray := digs (compress x.h (pad x.r) (w64 (x.n + x.r.size)) true) size
def hashS (size : Nat) (key s : ByteArray) : ByteArray := ((newS size key).add s).sum size
theorem sum_any (size : Nat) (key s : ByteArray) (w : World) (hT : Tab w) (h1 : 1 ≤ size) (h32 : size ≤ 32) (hk : key.size ≤ 32) (hs : s.size ≤ maxLen) :
  Calls Tryz.prog 80 #[.int .i64 size, .string key, .string s] w fun e w' => e = .returned (.tuple #[.string (hashS size key s), .int .i64 0]) ∧ Below w.heap.size w w' := by
 have H0 := hDx (And.intro hT (And.intro h1 (And.intro h32 (And.intro hk hs))))
 clear hT h1 h32 hk hs
 go_enter Tryz.func80, Tryz.ntmps80
 go_wp2_with fail
 refine (new_any size key w H0.out.1 H0.out.2.1 H0.out.2.2.1 H0.out.2.2.2.1).mono ?_
 rintro e w1 ⟨b, v, hb, rfl, V1, B1⟩
 have H1 := hDx (And.intro V1 (And.intro B1 hb))
 clear V1 B1 hb
 simp only []
 go_wp2_with fail
 refine (add_any w.heap.size s (H0.out.1.more H1.out.2.1) H1.out.1 H1.out.2.1.size H0.out.1.lt H1.out.2.2 (ne0 H0.out.2.1) H0.out.2.2.2.2).mono ?_
 rintro e w2 ⟨rfl, ⟨v2, V2⟩, B2⟩
 have H2 := hDx (And.intro V2 (H1.out.2.1.trans B2))
 clear V2 B2
 simp only []
 go_wp2_with fail
 refine (hsum_any w.heap.size (H0.out.1.more H2.out.2) H2.out.1 H0.out.2.1 H0.out.2.2.1).mono ?_
 rintro e w3 ⟨rfl, B3⟩
 have H3 := hDx (H2.out.2.trans (B3.mono H2.out.2.size))
 clear B3
 simp only []
 go_wp2_with fail
 go_ret2
 exact ⟨rfl, H3.out⟩
theorem of_any (s : ByteArray) (w : World) (hT : Tab w) (hs : s.size ≤ maxLen) :
  Calls Tryz.prog 60 #[.string s] w fun e w' => e = .returned (.string (hashS 32 .empty s)) ∧ Below w.heap.size w w' := by
 go_enter Tryz.func60, Tryz.ntmps60
 go_wp2_with fail
 refine (sum_any 32 .empty s w hT (by decide) (by decide) (by decide) hs).mono ?_
 rintro e w1 ⟨rfl, B1⟩
 simp only []
 go_wp2_with fail
 go_ret
 exact ⟨rfl, B1⟩
theorem digs_size (h : List Nat) (n : Nat) : (digs h n).size = n := by show (((List.range n).map fun i => UInt8.ofNat (dig h i)).toArray).size = n; simp
theorem hashS_size (size : Nat) (key s : ByteArray) : (hashS size key s).size = size := digs_size _ _
end
section
def whole (n : Nat) : Nat := (n - 1) / 64
theorem ext_size (a : ByteArray) (i j : Nat) (h : j ≤ a.size) : (a.extract i j).size = j - i := by
 rw [ByteArray.size_extract, Nat.min_eq_left h]
theorem ext_nil (a : ByteArray) (i : Nat) : a.extract i i = .empty := by
 apply ByteArray.ext
 rw [ByteArray.data_extract]
 simp
 exact Nat.min_le_left _ _
end
end Go.Proofs.YtoplbfijodebmaaGreatDoor
