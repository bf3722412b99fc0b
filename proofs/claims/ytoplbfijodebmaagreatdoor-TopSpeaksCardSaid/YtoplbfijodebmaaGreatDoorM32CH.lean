/-
  The walk.
-/
import Derived.Test.YtoplbfijodebmaaGreatDoorM30CG
import Derived.Test.YtoplbfijodebmaaGreatDoorM31Rng
import Derived.Shelf.Abstract
import Derived.WalkKit
import Derived.OwnWalkIn
import Derived.TacticsInMore
import Derived.LoopNIn
import Derived.LoopIn
set_option linter.unusedVariables false
set_option linter.unusedSimpArgs false
set_option maxRecDepth 100000
set_option maxHeartbeats 40000000
namespace Go.Proofs.YtoplbfijodebmaaGreatDoor
section
open Go.RowKit T
attribute [local go_sem] Oper.semAt_some
theorem may_w (key nonce : ByteArray) (w : World) (h32 : key.size = 32) (h12 : nonce.size = 12) : Calls Tryz.prog 64 #[.string key, .string nonce] w fun e w' => e = .returned (.bool true) ∧ w' = w := by
 have a1 : (key.size : Int) = 32 := by omega
 have a2 : (nonce.size : Int) = 12 := by omega
 go_enter Tryz.func64, Tryz.ntmps64
 go_wp2_with fail
 go_ret
 exact ⟨rfl, rfl⟩
def ksN (key nonce : ByteArray) (n i : Nat) : Nat := blkF (allS key nonce (n + i / 64)) (i % 64)
theorem ksN_lt (key nonce : ByteArray) (n i : Nat) : ksN key nonce n i < 256 := oB_lt _ _ _
theorem i64b {x : Int} {n : Nat} (h : x = n) (hn : n < 4611686018427387904) : wrap64 x = n ∧ IntKind.i64.wrap x = n := by
 subst h
 constructor
 ·simp [wrap64]; omega
 simp [IntKind.wrap, IntKind.bits, IntKind.signed]; omega
def strB (key nonce : ByteArray) (n i : Nat) : Array Value := #[.int .i64 (i : Int), .int .u8 (ksN key nonce n i : Int)]
def Cap90 (bk bn bc : Nat) (key nonce : ByteArray) (n : Nat) (W : World) : Prop := W.cell? ⟨bk, 0, none⟩ = some (.string key) ∧ W.cell? ⟨bn, 0, none⟩ = some (.string nonce) ∧ W.cell? ⟨bc, 0, none⟩ = some (.int .u32 (n : Int))
theorem at_i (r n : Nat) (hr : r ≤ 2000) (hn : n ≤ 1000) : ∃ A c : Nat, A = 64 * r ∧ c = n + r ∧ c < 4294967296 ∧ (A : Int).tdiv 64 = (r : Int) ∧ IntKind.i64.wrap (r : Int) = r ∧ wrap64 (r : Int) = r ∧ IntKind.u32.wrap (r : Int) = r ∧ IntKind.u32.wrap ((n : Int) + (r : Int)) = c := by
 obtain ⟨a1, a2⟩ := i64b (x := ((r : Nat) : Int)) (n := r) rfl (by omega)
 refine ⟨64 * r, n + r, rfl, rfl, by omega, ?_, a2, a1, ?_, ?_⟩
 ·rw [Int.tdiv_eq_ediv_of_nonneg (by omega)]; omega
 ·rw [wrap32, Nat.mod_eq_of_lt (by omega)]
 rw [show (n : Int) + (r : Int) = ((n + r : Nat) : Int) by omega, wrap32, Nat.mod_eq_of_lt (by omega)]
theorem idx154 {v : List Int} {i : Nat} (hv : v.length = 64) (hi : i < 64) (w : World) : (Instr.index 154 (.agg (lk .u8 v)) (.int .i64 (i : Int))).run Tryz.prog w = .ok (.int .u8 (ia v i)) w := run_index_lk (by kernel_rfl : Tryz.prog.underlying 154 = some (.array 64 5)) (by kernel_rfl : Tryz.prog.underlying 5 = some (.int .u8)) (by kernel_rfl) hv hi w
theorem rnd_i (A k r M n c : Nat) (hk : k < 64) (hA : A = 64 * r) (hkM : A + k ≤ M) (hM : M ≤ 100000) (hc : c = n + r) : ∃ i : Nat, i = A + k ∧ IntKind.i64.wrap ((A : Int) + (k : Int)) = i ∧ wrap64 ((A : Int) + (k : Int)) = i ∧ IntKind.i64.wrap ((k : Int) + 1) = ((k + 1 : Nat) : Int) ∧ wrap64 ((k : Int) + 1) = ((k + 1 : Nat) : Int) ∧ n + i / 64 = c ∧ i % 64 = k ∧ (k : Int) < 64 ∧ (0 : Int) ≤ k ∧ A + (k + 1) = i + 1 ∧ i ≤ M := by
 obtain ⟨a1, a2⟩ := i64b (x := (A : Int) + (k : Int)) (n := A + k) (by omega) (by omega)
 obtain ⟨b1, b2⟩ := i64w (x := (k : Int) + 1) (n := k + 1) (by omega) (by omega)
 exact ⟨A + k, rfl, a2, a1, b2, b1, by omega, by omega, by omega, by omega, by omega, hkM⟩
theorem end_i (A r M : Nat) (hA : A = 64 * r) (hkM : A + 64 ≤ M) (hM : M ≤ 100000) : ∃ B : Nat, B = A + 64 ∧ IntKind.i64.wrap ((A : Int) + 64) = B ∧ wrap64 ((A : Int) + 64) = B ∧ B = 64 * (r + 1) ∧ B ≤ M ∧ M + 1 - (intOf (.int .i64 (B : Int))).toNat < M + 1 - (intOf (.int .i64 (A : Int))).toNat := by
 obtain ⟨a1, a2⟩ := i64b (x := (A : Int) + 64) (n := A + 64) (by omega) (by omega)
 refine ⟨A + 64, rfl, a2, a1, by omega, hkM, ?_⟩
 simp only [intOf, Int.toNat_natCast]
 omega
theorem start_i (r M : Nat) (hr : 64 * r ≤ M) (hM : M ≤ 100000) : r ≤ 2000 := by omega
theorem last_i (k : Nat) (h : k ≤ 64) (h2 : ¬ k < 64) : k = 64 := by omega
theorem stream_tells (key nonce : ByteArray) (n M bk bn bc nn : Nat) (h32 : key.size = 32) (h12 : nonce.size = 12) (hM : M ≤ 100000) (hn : n ≤ 1000) :
  Tells Fence.wide nn Tryz.prog 90 #[.pointer (some ⟨bk, 0, none⟩), .pointer (some ⟨bn, 0, none⟩), .pointer (some ⟨bc, 0, none⟩)] (strB key nonce n) (fun i => i ≤ M) (fun i => i < M) (fun _ => False) (Cap90 bk bn bc key nonce n) := by
 intro l J Jx W hJ hcap hY h0
 have HJ := hDx hJ
 have HC := hDx hcap
 have HY := hDx hY
 have HH := hDx (And.intro hM hn)
 clear hJ hcap hY hM hn
 refine callsIn_of_wp Tryz.func90 rfl trivial ?_ rfl
 simp only [Tryz.ntmps90, List.size_toArray, List.length_cons, List.length_nil, Nat.reduceAdd, Nat.reduceSub, Array.replicate_succ, Array.replicate_zero, List.push_toArray, List.append_toArray, List.nil_append, List.cons_append]
 gi_wp2
 gi_loopw [5] (fun p wr => ∃ r : Nat, 64 * r ≤ M ∧ p = .int .i64 ((64 * r : Nat) : Int) ∧ J (64 * r) wr) (fun p _ => M + 1 - (intOf p).toNat)
 case atStart => exact ⟨0, Nat.zero_le _, rfl, h0⟩
 obtain ⟨r, hr, rfl, hj⟩ := hrel
 obtain ⟨A, c, hA, hc, c1, c2, c3, c4, c5, c6⟩ := at_i r n (start_i r M hr HH.out.1) HH.out.2
 obtain ⟨k1, k2, k3⟩ := HC.out _ _ hj
 rw [← hA] at hj hr ⊢
 have HB := hDx (And.intro hA (And.intro hc hr))
 clear hA hc hr h0
 gi_wp2
 refine ⟨trivial, fun h => (by cases h), (callsIn_wide.2 (block_any key nonce c _ h32 h12 c1)).mono ?_⟩
 rintro e w1 ⟨rfl, B1⟩
 simp only []
 have hj1 := HJ.out _ _ _ hj B1
 clear B1
 obtain ⟨V, hV⟩ := nm (rw_ 64 (blkF (allS key nonce c)))
 have lV : V.length = 64 := by rw [hV, rw_len']
 rw [← hV]
 replace hV := hDx hV
 clear k1 k2 k3 c2 c3 c4 c5 c6 hj
 gi_wp2
 gi_loopw [18] (fun p wr => ∃ k : Nat, k ≤ 64 ∧ A + k ≤ M ∧ p = .int .i64 (k : Int) ∧ J (A + k) wr) (fun p _ => 64 - (intOf p).toNat)
 case atStart => exact ⟨0, Nat.zero_le _, HB.out.2.2, rfl, hj1⟩
 obtain ⟨k, hk, hkM, rfl, hj⟩ := hrel
 clear hj1
 by_cases hlt : k < 64
 ·obtain ⟨i, hi, i1, i2, i3, i4, i5, i6, i7, i8, i9, i10⟩ := rnd_i A k r M n c hlt HB.out.1 hkM HH.out.1 HB.out.2.1
  rw [← hi] at hj
  have hyy := HY.out i _ hj i10
  have hks : ia V k = (ksN key nonce n i : Int) := by
   rw [hV.out, rw_at' _ _ _ hlt, ksN, i5, i6]
  have hix := fun u => idx154 lV hlt u
  rw [hks] at hix
  unfold strB at hyy
  obtain ⟨b, hb⟩ := nm (ksN key nonce n i)
  rw [← hb] at hix hyy
  obtain ⟨fn, tmps, assign, body, hy, hR⟩ := hyy
  have HL := hDx (And.intro hlt i9)
  clear hlt hkM hi hks hb hk hj i5 i6 i9 i10 c1
  gi_wp2
  refine ⟨fun h => (by cases h), hR.mono ?_⟩
  rintro e W3 (⟨rfl, hgo, hJ3⟩ | ⟨rfl, hJx3⟩)
  ·have HG := hDx hgo
   clear hgo
   gi_wp2
   go_roundw
   case rel => exact ⟨k + 1, HL.out.1, by rw [HL.out.2]; exact HG.out, by first | rfl | go_num, by rw [HL.out.2]; exact hJ3⟩
   exact measI 64 k HL.out.1
  gi_wp2
  refine bodyPost_ret (results_none rfl _ _ _) rfl ?_
  exact ⟨⟨_, rfl⟩, .inr hJx3⟩
 obtain rfl := last_i k hk hlt
 obtain ⟨B, hB, d1, d2, d3, d4, d5⟩ := end_i A r M HB.out.1 hkM HH.out.1
 have HL := hDx (And.intro d3 (And.intro d4 d5))
 rw [← hB] at hj
 clear hlt hkM hk hB d3 d4 d5 c1
 gi_wp2
 go_roundw
 case rel => exact ⟨r + 1, by rw [← HL.out.1]; exact HL.out.2.1, by rw [← HL.out.1], by rw [← HL.out.1]; exact hj⟩
 exact HL.out.2.2
end
section
open Go.RowKit T
attribute [local go_sem] Oper.semAt_some
theorem stream_w (key nonce : ByteArray) (n : Nat) (w : World) : Calls Tryz.prog 65 #[.string key, .string nonce, .int .u32 (n : Int)] w fun e w' =>
  e = .returned (.func (.func 90) #[] #[.pointer (some ⟨w.heap.size, 0, none⟩), .pointer (some ⟨w.heap.size + 1, 0, none⟩), .pointer (some ⟨w.heap.size + 1 + 1, 0, none⟩)]) ∧ w' = ((w.alloc (.cells #[.string key] 9)).alloc (.cells #[.string nonce] 9)).alloc (.cells #[.int .u32 (n : Int)] 79) := by
 go_enter Tryz.func65, Tryz.ntmps65
 go_wp2_with fail
 go_ret
 exact ⟨rfl, rfl⟩
def tF (s key nonce : ByteArray) (n i j : Nat) : Nat := if j < i then bt s j ^^^ ksN key nonce n j else bt s j
def trnS (key nonce : ByteArray) (n : Nat) (s : ByteArray) : ByteArray := strOfNums (rw_ s.size (fun j => bt s j ^^^ ksN key nonce n j))
theorem bl_rw (s : ByteArray) : bl s = rw_ s.size (bt s) := by
 apply List.ext_getElem?
 intro i
 rcases Nat.lt_or_ge i s.size with h | h
 ·rw [rw_get _ _ _ h]
  have h1 := bl_at s i
  unfold ia at h1
  rw [List.getD_eq_getElem?_getD, List.getElem?_eq_getElem (by rw [bl_len]; exact h)] at h1
  rw [List.getElem?_eq_getElem (by rw [bl_len]; exact h)]
  exact congrArg some h1
 rw [List.getElem?_eq_none (by rw [bl_len]; exact h), List.getElem?_eq_none (by rw [rw_len']; exact h)]
theorem tF_zero (s key nonce : ByteArray) (n : Nat) : rw_ s.size (tF s key nonce n 0) = bl s := by
 rw [bl_rw]
 exact rw_ext fun j _ => by unfold tF; rw [if_neg (by omega)]
theorem tF_all (s key nonce : ByteArray) (n : Nat) : strOfNums (rw_ s.size (tF s key nonce n s.size)) = trnS key nonce n s := by
 unfold trnS
 congr 1
 exact rw_ext fun j hj => by unfold tF; rw [if_pos hj]
theorem tF_set (s key nonce : ByteArray) (n i : Nat) : rw_ s.size (tF s key nonce n (i + 1)) = (rw_ s.size (tF s key nonce n i)).set i ((bt s i ^^^ ksN key nonce n i : Nat) : Int) := by
 rw [rw_set]
 congr 1
 funext j
 unfold tF upd
 by_cases e : j = i
 ·subst e; rw [if_pos (by omega), if_pos rfl]
 rw [if_neg e]
 simp only []
 by_cases h : j < i
 ·rw [if_pos (by omega), if_pos h]
 rw [if_neg (by omega), if_neg h]
theorem xor_lt8 (a b : Nat) (ha : a < 256) (hb : b < 256) : a ^^^ b < 256 := Nat.xor_lt_two_pow (n := 8) ha hb
theorem byt_lt (s key nonce : ByteArray) (n j : Nat) : bt s j ^^^ ksN key nonce n j < 256 := xor_lt8 _ _ (bt_lt _ _) (ksN_lt _ _ _ _)
theorem trnS_size (key nonce : ByteArray) (n : Nat) (s : ByteArray) : (trnS key nonce n s).size = s.size := by rw [trnS, sb_size, rw_len']
theorem trnS_bt (key nonce : ByteArray) (n : Nat) (s : ByteArray) (j : Nat) (h : j < s.size) : bt (trnS key nonce n s) j = bt s j ^^^ ksN key nonce n j := by
 have := bt_sb (rw_ s.size (fun j => bt s j ^^^ ksN key nonce n j)) (byt_rw _ _ (fun j => byt_lt s key nonce n j)) j
 rw [rw_at' _ _ _ h] at this
 exact Int.ofNat_inj.1 this
theorem trnS_twice (key nonce : ByteArray) (n : Nat) (s : ByteArray) : trnS key nonce n (trnS key nonce n s) = s := by
 refine str_ext (by rw [trnS_size, trnS_size]) fun i hi => ?_
 rw [trnS_size] at hi
 rw [trnS_bt _ _ _ _ _ hi, trnS_bt _ _ _ _ _ (by rw [trnS_size] at hi; exact hi), Nat.xor_assoc, Nat.xor_self, Nat.xor_zero]
theorem turn_i (N n : Nat) (hN : N ≤ 90000) (hn : n ≤ 1000) : ∃ q c : Nat, IntKind.i64.wrap ((N : Int) + 63) = ((N + 63 : Nat) : Int) ∧ wrap64 ((N : Int) + 63) = ((N + 63 : Nat) : Int) ∧ IntKind.u64.wrap ((N + 63 : Nat) : Int) = ((N + 63 : Nat) : Int) ∧ ((N + 63 : Nat) : Int).tdiv 64 = q ∧ ((N + 63 : Nat) : Int) / 64 = q ∧ IntKind.u64.wrap (n : Int) = n ∧ IntKind.u64.wrap (q : Int) = q ∧ IntKind.u64.wrap ((n : Int) + q) = c ∧ ¬ ((4294967296 : Int) < c) ∧ (c : Int) ≤ 4294967296 := by
 obtain ⟨a1, a2⟩ := i64b (x := (N : Int) + 63) (n := N + 63) (by omega) (by omega)
 refine ⟨(N + 63) / 64, n + (N + 63) / 64, a2, a1, u64w rfl (by omega), ?_, by omega, u64w rfl (by omega), u64w rfl (by omega), u64w (by omega) (by omega), by omega, by omega⟩
 rw [Int.tdiv_eq_ediv_of_nonneg (by omega)]
 omega
theorem idx_i {i N : Nat} (h : i < N) : (0 : Int) ≤ i ∧ (i : Int) < N ∧ ¬ ((i : Int) = (N : Int)) := by omega
theorem eq_i {i N : Nat} (h : i ≤ N) (h2 : ¬ i < N) : (i : Int) = (N : Int) := by omega
theorem tF_at (s key nonce : ByteArray) (n i : Nat) : tF s key nonce n i i = bt s i := by unfold tF; rw [if_neg (by omega)]
theorem turn_any (key nonce : ByteArray) (n : Nat) (s : ByteArray) (w : World) (h32 : key.size = 32) (h12 : nonce.size = 12) (hn : n ≤ 1000) (hs : s.size ≤ 90000) :
  Calls Tryz.prog 43 #[.string key, .string nonce, .int .u32 (n : Int), .string s] w fun e w' => e = .returned (.tuple #[.string (trnS key nonce n s), .int .i64 0]) ∧ Below w.heap.size w w' := by
 obtain ⟨q, c, a1, a2, a3, a4, a5, a6, a7, a8, a9, a10⟩ := turn_i s.size n hs hn
 obtain ⟨N63, hN63⟩ : ∃ x : Nat, x = s.size + 63 := ⟨_, rfl⟩
 rw [← hN63] at a1 a2 a3 a4 a5
 have HH := hDx (And.intro h32 (And.intro h12 (And.intro hn hs)))
 clear hN63 hn hs
 refine (callsIn_wide (n := 9)).1 ?_
 refine callsIn_of_wp_marks Tryz.func43 rfl trivial ?_ rfl
 simp only [Tryz.ntmps43, List.size_toArray, List.length_cons, List.length_nil, Nat.reduceAdd, Nat.reduceSub, Array.replicate_succ, Array.replicate_zero, List.push_toArray, List.append_toArray, List.nil_append, List.cons_append]
 gi_wp2
 refine ⟨trivial, (callsIn_wide.2 (may_w key nonce _ h32 h12)).mono ?_⟩
 rintro e w1 ⟨rfl, rfl⟩
 simp only []
 clear h32 h12
 obtain ⟨zz, cap, hcv⟩ := run_bytes s w1
 gi_wp2
 obtain ⟨B, hB⟩ := nm w1.heap.size
 obtain ⟨SB, hSB⟩ := nm (w1.heap.size + 1)
 rw [← hSB, ← hB]
 obtain ⟨W2, hW2⟩ := nm (((w1.alloc (bob (bl s) zz)).alloc (.cells #[.slice (some ⟨B, 0, none⟩) s.size cap] 52)).drew)
 have HK2 : KS [(SB, .cells #[.slice (some ⟨B, 0, none⟩) s.size cap] 52), (B, bob (rw_ s.size (tF s key nonce n 0)) zz)] [] w1 W2 := by
  have h := (((KS.start w1).made (bob (bl s) zz)).made (.cells #[.slice (some ⟨B, 0, none⟩) s.size cap] 52)).drew
  rw [World.size_alloc, ← hSB, ← hB, ← hW2, ← tF_zero s key nonce n] at h
  exact h
 rw [← hW2]
 clear hcv hW2 hB hSB
 refine ⟨trivial, (callsIn_wide.2 (stream_w key nonce n W2)).mono ?_⟩
 rintro e w3 ⟨rfl, hw3⟩
 simp only []
 obtain ⟨bk, hbk⟩ := nm W2.heap.size
 obtain ⟨bn, hbn⟩ := nm (W2.heap.size + 1)
 obtain ⟨bc, hbc⟩ := nm (W2.heap.size + 1 + 1)
 have HK3 : KS [(bc, .cells #[.int .u32 (n : Int)] 79), (bn, .cells #[.string nonce] 9), (bk, .cells #[.string key] 9), (SB, .cells #[.slice (some ⟨B, 0, none⟩) s.size cap] 52), (B, bob (rw_ s.size (tF s key nonce n 0)) zz)] [] w1 w3 := by
  have h := ((HK2.made (.cells #[.string key] 9)).made (.cells #[.string nonce] 9)).made (.cells #[.int .u32 (n : Int)] 79)
  rw [World.size_alloc, World.size_alloc, ← hbc, ← hbn, ← hbk, ← hw3] at h
  exact h
 rw [← hbc, ← hbn, ← hbk]
 have H3 := hDx HK3
 clear hbk hbn hbc hw3 HK2 HK3
 gi_wp2
 refine wpIn_range_ks (wB := w1) (X := []) rfl (by decide) rfl trivial (enters_of Tryz.func90 (by kernel_rfl) rfl) (strB key nonce n) (fun i => i ≤ s.size) (fun i => i < s.size) (fun _ => False) (Cap90 bk bn bc key nonce n)
  (stream_tells key nonce n s.size bk bn bc _ HH.out.1 HH.out.2.1 (Nat.le_trans HH.out.2.2.2 (by decide)) HH.out.2.2.1) (fun _ => rfl)
  (fun k => [(bc, .cells #[.int .u32 (n : Int)] 79), (bn, .cells #[.string nonce] 9), (bk, .cells #[.string key] 9), (SB, .cells #[.slice (some ⟨B, 0, none⟩) s.size cap] 52), (B, bob (rw_ s.size (tF s key nonce n k)) zz)]) (.exit 1) [(bc, .cells #[.int .u32 (n : Int)] 79), (bn, .cells #[.string nonce] 9), (bk, .cells #[.string key] 9), (SB, .cells #[.slice (some ⟨B, 0, none⟩) s.size cap] 52), (B, bob (rw_ s.size (tF s key nonce n s.size)) zz)]
  (fun k W h => ⟨(h.cells 2 rfl).cell 0 _ rfl, (h.cells 1 rfl).cell 0 _ rfl, (h.cells 0 rfl).cell 0 _ rfl⟩) H3.out
  (fun i => { tmps := #[.string key, .string nonce, .int .u32 (n : Int), .string s, undef, undef, undef, undef, .string { data := #[] }, .int .i64 0, .pointer (some ⟨SB, 0, none⟩), .int .i64 (i : Int), .int .u8 (ksN key nonce n i : Int), .bool false, .string key, .string nonce, .bool true, .bool false, .bool (decide ((4294967296 : Int) < c)), .int .u32 (n : Int), .int .u64 (n : Int), .string s, .int .i64 (s.size : Int), .int .i64 (N63 : Int), .int .u64 (N63 : Int), .int .u64 (q : Int), .int .u64 (c : Int), .bool (decide ((4294967296 : Int) < c)), .string s, .slice (some ⟨B, 0, none⟩) s.size cap, .string key, .string nonce, .int .u32 (n : Int), .func (.func 90) #[] #[.pointer (some ⟨bk, 0, none⟩), .pointer (some ⟨bn, 0, none⟩), .pointer (some ⟨bc, 0, none⟩)], .int .i64 (i : Int), .int .u8 (ksN key nonce n i : Int), undef, undef, undef, undef, undef, undef, undef, undef, undef, undef, undef, undef, undef], defers := [] }) ?assign ?body ?done ?stop
 case assign =>
  intro l i W K hK
  unfold strB
  gi_wp2
  exact hK
 case body =>
  intro l D i ol od W hi HK
  have hc0 : W.cell? ⟨SB, 0, none⟩ = some (.slice (some ⟨B, 0, none⟩) s.size cap) := (HK.cells 5 rfl).cell 0 _ rfl
  by_cases hlt : i < s.size
  ·obtain ⟨g1, g2, g3⟩ := idx_i hlt
   have hv := tF_set s key nonce n i
   have hb := HK.bcell 6 rfl i (by rw [rw_len']; exact hlt)
   have hz := HK.bfz 6 rfl i (by rw [rw_len']; exact hlt)
   rw [rw_at' _ _ _ hlt, tF_at] at hb
   obtain ⟨x, hx⟩ := nm (bt s i)
   obtain ⟨y, hy⟩ := nm (ksN key nonce n i)
   have hxy := u8_xor_nat x y (by rw [hx]; exact bt_lt _ _) (by rw [hy]; exact ksN_lt _ _ _ _)
   rw [← hx] at hb hv
   rw [← hy] at hv
   rw [← hy]
   obtain ⟨v, hvv⟩ := nm (x ^^^ y)
   rw [← hvv] at hv hxy
   have hset := HK.bset 6 rfl i (by rw [rw_len']; exact hlt) (v : Int)
   rw [← hv] at hset
   have HS := hDx hset
   have HL := hDx hlt
   clear hv hset hx hy hvv HK hi hlt
   gi_wp2
   exact ⟨HL.out, HS.out⟩
  have hin : (i : Int) = (s.size : Int) := eq_i hi hlt
  have e : i = s.size := Int.ofNat_inj.1 hin
  subst e
  have HS := hDx HK
  clear HK hi hlt hin
  gi_wp2
  exact ⟨rfl, HS.out⟩
 case done =>
  intro l D m ol W hf _
  exact hf.elim
 case stop =>
  intro l D ol W HK
  have hc0 : W.cell? ⟨SB, 0, none⟩ = some (.slice (some ⟨B, 0, none⟩) s.size cap) := (HK.cells 5 rfl).cell 0 _ rfl
  have hcv := HK.bconv 6 rfl (rw_len' _ _) cap
  rw [tF_all] at hcv
  have HS := hDx HK
  clear HK
  gi_wp2
  refine ⟨by simp, .inl ⟨_, _, rfl, run_takeDeferred (HS.out.get 1 rfl), ?_⟩⟩
  exact ⟨_, results_tmp2 rfl _ _ _, rfl, (HS.out.put 1 rfl _).below⟩
end
section
open Go.RowKit T
theorem quo_b (t : TypeId) (m d q : Nat) (hd : 0 < d) (hq : m / d = q) (hb : q < 1000000) : binOp .quo t (.int .i64 (m : Int)) (.int .i64 (d : Int)) = pure (.int .i64 (q : Int)) := by
 obtain ⟨a1, a2⟩ := i64b (x := (q : Int)) (n := q) rfl (by omega)
 have e : (m : Int).tdiv (d : Int) = q := by rw [Int.tdiv_eq_ediv_of_nonneg (by omega), ← hq]; rfl
 have e2 : ¬ ((d : Int) = 0) := by omega
 simp [go_sem, e, a2]
 omega
theorem rt_i (i N n : Nat) (hi : i < N) (hN : N ≤ 90000) (hn : n ≤ 1000) : ∃ q m c : Nat, q = i / 64 ∧ m = i % 64 ∧ m < 64 ∧ binOp .quo 3 (.int .i64 (i : Int)) (.int .i64 64) = pure (.int .i64 (q : Int)) ∧ binOp .rem 3 (.int .i64 (i : Int)) (.int .i64 64) = pure (.int .i64 (m : Int)) ∧ IntKind.u32.wrap (q : Int) = q ∧ IntKind.u32.wrap ((n : Int) + (q : Int)) = c ∧ c = n + q ∧ c < 4294967296 ∧ (0 : Int) ≤ i ∧ (i : Int) < N ∧ IntKind.i64.wrap ((i : Int) + 1) = ((i + 1 : Nat) : Int) ∧ wrap64 ((i : Int) + 1) = ((i + 1 : Nat) : Int) ∧ (0 : Int) ≤ m ∧ (m : Int) < 64 := by
 obtain ⟨b1, b2⟩ := i64b (x := (i : Int) + 1) (n := i + 1) (by omega) (by omega)
 refine ⟨i / 64, i % 64, n + i / 64, rfl, rfl, by omega, quo_b 3 i 64 _ (by decide) rfl (by omega), rem_i 3 i 64 _ (by decide) rfl (by omega), ?_, ?_, rfl, by omega, by omega, by omega, b2, b1, by omega, by omega⟩
 ·rw [wrap32, Nat.mod_eq_of_lt (by omega)]
 rw [show (n : Int) + ((i / 64 : Nat) : Int) = ((n + i / 64 : Nat) : Int) by omega, wrap32, Nat.mod_eq_of_lt (by omega)]
theorem nx_i (i : Nat) (h : (i + 1) % 64 ≠ 0) : (i + 1) / 64 = i / 64 := by omega
theorem mea_i (N i : Nat) (h : i < N) : N - (intOf (.int .i64 ((i + 1 : Nat) : Int))).toNat < N - (intOf (.int .i64 (i : Int))).toNat := by
 simp only [intOf, Int.toNat_natCast]
 omega
theorem rturn_any (key nonce : ByteArray) (n : Nat) (s : ByteArray) (w : World) (h32 : key.size = 32) (h12 : nonce.size = 12) (hn : n ≤ 1000) (hs : s.size ≤ 90000) :
  Calls Tryz.prog 27 #[.string key, .string nonce, .int .u32 (n : Int), .string s] w fun e w' => e = .returned (.tuple #[.string (trnS key nonce n s), .int .i64 0]) ∧ Below w.heap.size w w' := by
 obtain ⟨qq, cc, a1, a2, a3, a4, a5, a6, a7, a8, a9, a10⟩ := turn_i s.size n hs hn
 obtain ⟨N63, hN63⟩ : ∃ x : Nat, x = s.size + 63 := ⟨_, rfl⟩
 rw [← hN63] at a1 a2 a3 a4 a5
 have HH := hDx (And.intro h32 (And.intro h12 (And.intro hn hs)))
 clear hN63 hn hs
 go_enter Tryz.func27, Tryz.ntmps27
 have HK0 := hDx (KS.start w)
 go_wp2_with fail
 refine (rmay_any key nonce _ h32 h12).mono ?_
 rintro e ww1 ⟨rfl, B1⟩
 simp only []
 have HK1 := hDx (HK0.out.call B1)
 clear B1
 obtain ⟨zz, cap, hcv⟩ := run_bytes s ww1
 clear h32 h12
 go_upto_region 7 with fail
 have hm := (HK1.out.made (bob (bl s) zz)).drew
 obtain ⟨B, hgB⟩ := nm ww1.heap.size
 obtain ⟨ww2, hv⟩ := nm (World.drew (World.alloc ww1 (bob (bl s) zz)))
 rw [← hv, ← tF_zero s key nonce n] at hm
 have hm2 : KS [(B, bob (rw_ s.size (tF s key nonce n 0)) zz)] [] w ww2 := by rw [hgB]; exact hm
 have HK2 := hDx hm2
 try rw [← hv]
 try rw [← hgB]
 clear hm hm2 hv hgB hcv a1 a2 a3 a4 a5 a6 a7 a8 a9 a10
 go_upto_region 9 with fail
 go_loopw [12, 13] (fun vK vS wr => ∃ (i : Nat) (K : ByteArray), i ≤ s.size ∧ vS = .int .i64 (i : Int) ∧ vK = .string K ∧ (i % 64 ≠ 0 → K = blkS key nonce (n + i / 64)) ∧ KS [(B, bob (rw_ s.size (tF s key nonce n i)) zz)] [] w wr) (fun vK vS _ => s.size - (intOf vS).toNat)
 case atStart => exact ⟨0, .empty, Nat.zero_le _, rfl, rfl, fun h => absurd rfl h, HK2.out⟩
 obtain ⟨i, K, hi, rfl, rfl, hK, HK⟩ := hrel
 have HK3 := hDx HK
 clear HK
 by_cases hlt : i < s.size
 ·obtain ⟨q, m, c, hq, hm, hm64, hquo, hrem, u1, u2, hc, hc2, g1, g2, g3, g4, m1, m2⟩ := rt_i i s.size n hlt HH.out.2.2.2 HH.out.2.2.1
  have hv := tF_set s key nonce n i
  have hbi := HK3.out.bcell 0 rfl i (by rw [rw_len']; exact hlt)
  have hzi := HK3.out.bfz 0 rfl i (by rw [rw_len']; exact hlt)
  rw [rw_at' _ _ _ hlt, tF_at] at hbi
  obtain ⟨x, hx⟩ := nm (bt s i)
  obtain ⟨y, hy⟩ := nm (ksN key nonce n i)
  have hxy := u8_xor_nat x y (by rw [hx]; exact bt_lt _ _) (by rw [hy]; exact ksN_lt _ _ _ _)
  rw [← hx] at hbi hv
  rw [← hy] at hv
  obtain ⟨v, hvv⟩ := nm (x ^^^ y)
  rw [← hvv] at hv hxy
  obtain ⟨V, hV⟩ := nm (rw_ s.size (tF s key nonce n i))
  have lV : V.length = s.size := by rw [hV, rw_len']
  have hks : bt (blkS key nonce c) m = y := by rw [hy, blkS_bt _ _ _ _ hm64, hc, hq, hm]; rfl
  have hbsz : (blkS key nonce c).size = 64 := blkS_size _ _ _
  have hK2 : m ≠ 0 → K = blkS key nonce c := by rw [hm, hc, hq]; exact hK
  rw [← hV] at hv HK3
  replace hv := hDx hv
  have HL := hDx hlt
  have Hy := hDx hks
  have Hb := hDx hbsz
  have Hk := hDx hK2
  have Hi : ia V i = (x : Int) := by rw [hV, rw_at' _ _ _ hlt, tF_at, hx]
  have HN := hDx (show i + 1 ≤ s.size from hlt)
  have Hx : Hid (∀ K', K' = blkS key nonce c → ((i + 1) % 64 ≠ 0 → K' = blkS key nonce (n + (i + 1) / 64))) := hDx (fun K' e h => by rw [e, hc, hq, nx_i i h])
  clear hx hy hvv hV hks hbsz hK hK2 hi hq hm hc
  by_cases hz0 : m = 0
  ·have hb0 : (m : Int) = 0 := by rw [hz0]; rfl
   clear hz0
   go_upto_region 12 with (first | (with_reducible show Oper.wp _ _ _ _ _ _; refine wp_bin hrem rfl rfl rfl ?_))
   clear hbi hzi hb0
   go_wp2_with (first | (with_reducible show Oper.wp _ _ _ _ _ _; refine wp_bin hquo rfl rfl rfl ?_))
   refine (rblock_any key nonce c _ HH.out.1 HH.out.2.1 hc2).mono ?_
   rintro e ww4 ⟨rfl, B1⟩
   simp only []
   have HK4 := hDx (HK3.out.call B1)
   clear B1
   obtain ⟨KK, hKK⟩ := nm (blkS key nonce c)
   rw [← hKK]
   have HKs : Hid (KK.size = 64) := hDx (by rw [hKK]; exact Hb.out)
   have hkb : bt KK m = y := by rw [hKK]; exact Hy.out
   have HKx : Hid ((i + 1) % 64 ≠ 0 → KK = blkS key nonce (n + (i + 1) / 64)) := hDx (by rw [hKK]; exact Hx.out _ rfl)
   clear hKK
   have ks := fun u => idxS (s := KK) (k := m) (by rw [HKs.out]; exact hm64) u
   rw [hkb] at ks
   clear hkb
   go_upto_region 13 with fail
   try simp only [Act.put, sAx, s0x, s1x]
   refine wp_region_cv 11 [47, 48, 49, 50, 51, 52, 53, 54, 55, 56, 57] [[], [], [], [], [49, 50], [51], [], [], [54], [53, 55], [52, 56]] [(47, .slice (some ⟨B, 0, none⟩) s.size cap), (48, .int .i64 (i : Int)), (49, .slice (some ⟨B, 0, none⟩) s.size cap), (50, .int .i64 (i : Int)), (51, .pointer (some ⟨B, i, none⟩)), (52, .int .u8 (x : Int)), (53, .string KK), (54, .int .i64 (i : Int)), (55, .int .i64 (m : Int)), (56, .int .u8 (y : Int)), (57, .int .u8 (v : Int))] rfl (by kernel_rfl) (by kernel_rfl) (by rfl) (by kernel_rfl) ?hO1 ?hE1
   case hO1 =>
    refine ⟨?_, ?_, ?_, ?_, ?_, ?_, ?_, ?_, ?_, ?_, ?_, trivial⟩
    ·intro act u HB HO HA
     have e11 := gE (x := .slice (some ⟨B, 0, none⟩) s.size cap) (HO 11 (by decide))
     refine calm_val 47 _ rfl ?_ rfl rfl
     clear HB HO HA
     go_simp
     try rfl
    ·intro act u HB HO HA
     have e13 := gE (x := .int .i64 (i : Int)) (HO 13 (by decide))
     refine calm_val 48 _ rfl ?_ rfl rfl
     clear HB HO HA
     go_simp
     try rfl
    ·intro act u HB HO HA
     have e11 := gE (x := .slice (some ⟨B, 0, none⟩) s.size cap) (HO 11 (by decide))
     refine calm_val 49 _ rfl ?_ rfl rfl
     clear HB HO HA
     go_simp
     try rfl
    ·intro act u HB HO HA
     have e13 := gE (x := .int .i64 (i : Int)) (HO 13 (by decide))
     refine calm_val 50 _ rfl ?_ rfl rfl
     clear HB HO HA
     go_simp
     try rfl
    ·intro act u HB HO HA
     have e49 : _ = _ := gE (qA HA 49)
     have e50 : _ = _ := gE (qA HA 50)
     refine calm_val 51 _ rfl ?_ rfl rfl
     clear HB HO HA
     go_simp
     try rfl
    ·intro act u HB HO HA
     have e51 : _ = _ := gE (qA HA 51)
     have HS := HK4.out.drew.call HB
     have lT : u.cell? ⟨B, i, none⟩ = some (.int .u8 (x : Int)) := by
      have q := HS.bcell 0 rfl i (by rw [lV]; exact hlt)
      rw [Hi] at q
      exact q
     refine calm_val 52 _ rfl ?_ rfl rfl
     clear HB HO HA HS
     go_simp
     try rfl
    ·intro act u HB HO HA
     have e12 := gE (x := .string KK) (HO 12 (by decide))
     refine calm_val 53 _ rfl ?_ rfl rfl
     clear HB HO HA
     go_simp
     try rfl
    ·intro act u HB HO HA
     have e13 := gE (x := .int .i64 (i : Int)) (HO 13 (by decide))
     refine calm_val 54 _ rfl ?_ rfl rfl
     clear HB HO HA
     go_simp
     try rfl
    ·intro act u HB HO HA
     have e54 : _ = _ := qA HA 54
     exact calm_val 55 _ rfl (run_bin rfl e54 rfl hrem) rfl rfl
    ·intro act u HB HO HA
     have e53 : _ = _ := gE (qA HA 53)
     have e55 : _ = _ := gE (qA HA 55)
     have ks2 := ks u
     refine calm_val 56 _ rfl ?_ rfl rfl
     clear HB HO HA
     go_simp
     try rfl
    intro act u HB HO HA
    have e52 : _ = _ := gE (qA HA 52)
    have e56 : _ = _ := gE (qA HA 56)
    refine calm_val 57 _ rfl ?_ rfl rfl
    clear HB HO HA
    go_simp
    try rfl
   intro ww5 HB
   have HK5 := hDx (HK4.out.drew.call HB)
   simp only [fillL, Act.put, sAx, s0x, s1x, dSx, d0x]
   clear HB
   clear hquo hrem ks hxy u1 u2 m1 m2
   have z0 := HK5.out.bfz 0 rfl i (by rw [lV]; exact hlt)
   have c0 := HK5.out.bcell 0 rfl i (by rw [lV]; exact hlt)
   clear hlt hm64 hc2 Hi
   go_upto_region 10 with fail
   obtain ⟨ww6, hv6⟩ := nm (World.setCell ww5 ⟨B, i, none⟩ (.int .u8 (v : Int)))
   have HK6 : Hid (KS [(B, bob (rw_ s.size (tF s key nonce n (i + 1))) zz)] [] w ww6) := by rw [hv6, hv.out]; exact hDx (HK5.out.bset 0 rfl i (by rw [lV]; exact HL.out) (v : Int))
   rw [← hv6]
   clear hv6 c0 z0 lV
   go_wp2_with fail
   go_roundw
   case rel => exact ⟨i + 1, KK, HN.out, by first | rfl | go_num, rfl, HKx.out, HK6.out⟩
   exact mea_i _ _ HL.out
  have hKe := Hk.out hz0
  have HKs : Hid (K.size = 64) := hDx (by rw [hKe]; exact Hb.out)
  have hkb : bt K m = y := by rw [hKe]; exact Hy.out
  have HKx : Hid ((i + 1) % 64 ≠ 0 → K = blkS key nonce (n + (i + 1) / 64)) := hDx (by rw [hKe]; exact Hx.out _ rfl)
  clear hKe hbi hzi
  have hne : ¬ ((m : Int) = 0) := by exact Int.ofNat_ne_zero.2 hz0
  clear hz0
  go_upto_region 13 with (first | (with_reducible show Oper.wp _ _ _ _ _ _; refine wp_bin hrem rfl rfl rfl ?_))
  have ks := fun u => idxS (s := K) (k := m) (by rw [HKs.out]; exact hm64) u
  rw [hkb] at ks
  clear hkb
  go_upto_region 13 with fail
  try simp only [Act.put, sAx, s0x, s1x]
  refine wp_region_cv 11 [47, 48, 49, 50, 51, 52, 53, 54, 55, 56, 57] [[], [], [], [], [49, 50], [51], [], [], [54], [53, 55], [52, 56]] [(47, .slice (some ⟨B, 0, none⟩) s.size cap), (48, .int .i64 (i : Int)), (49, .slice (some ⟨B, 0, none⟩) s.size cap), (50, .int .i64 (i : Int)), (51, .pointer (some ⟨B, i, none⟩)), (52, .int .u8 (x : Int)), (53, .string K), (54, .int .i64 (i : Int)), (55, .int .i64 (m : Int)), (56, .int .u8 (y : Int)), (57, .int .u8 (v : Int))] rfl (by kernel_rfl) (by kernel_rfl) (by rfl) (by kernel_rfl) ?hO2 ?hE2
  case hO2 =>
   refine ⟨?_, ?_, ?_, ?_, ?_, ?_, ?_, ?_, ?_, ?_, ?_, trivial⟩
   ·intro act u HB HO HA
    have e11 := gE (x := .slice (some ⟨B, 0, none⟩) s.size cap) (HO 11 (by decide))
    refine calm_val 47 _ rfl ?_ rfl rfl
    clear HB HO HA
    go_simp
    try rfl
   ·intro act u HB HO HA
    have e13 := gE (x := .int .i64 (i : Int)) (HO 13 (by decide))
    refine calm_val 48 _ rfl ?_ rfl rfl
    clear HB HO HA
    go_simp
    try rfl
   ·intro act u HB HO HA
    have e11 := gE (x := .slice (some ⟨B, 0, none⟩) s.size cap) (HO 11 (by decide))
    refine calm_val 49 _ rfl ?_ rfl rfl
    clear HB HO HA
    go_simp
    try rfl
   ·intro act u HB HO HA
    have e13 := gE (x := .int .i64 (i : Int)) (HO 13 (by decide))
    refine calm_val 50 _ rfl ?_ rfl rfl
    clear HB HO HA
    go_simp
    try rfl
   ·intro act u HB HO HA
    have e49 : _ = _ := gE (qA HA 49)
    have e50 : _ = _ := gE (qA HA 50)
    refine calm_val 51 _ rfl ?_ rfl rfl
    clear HB HO HA
    go_simp
    try rfl
   ·intro act u HB HO HA
    have e51 : _ = _ := gE (qA HA 51)
    have HS := HK3.out.drew.call HB
    have lT : u.cell? ⟨B, i, none⟩ = some (.int .u8 (x : Int)) := by
     have q := HS.bcell 0 rfl i (by rw [lV]; exact hlt)
     rw [Hi] at q
     exact q
    refine calm_val 52 _ rfl ?_ rfl rfl
    clear HB HO HA HS
    go_simp
    try rfl
   ·intro act u HB HO HA
    have e12 := gE (x := .string K) (HO 12 (by decide))
    refine calm_val 53 _ rfl ?_ rfl rfl
    clear HB HO HA
    go_simp
    try rfl
   ·intro act u HB HO HA
    have e13 := gE (x := .int .i64 (i : Int)) (HO 13 (by decide))
    refine calm_val 54 _ rfl ?_ rfl rfl
    clear HB HO HA
    go_simp
    try rfl
   ·intro act u HB HO HA
    have e54 : _ = _ := qA HA 54
    exact calm_val 55 _ rfl (run_bin rfl e54 rfl hrem) rfl rfl
   ·intro act u HB HO HA
    have e53 : _ = _ := gE (qA HA 53)
    have e55 : _ = _ := gE (qA HA 55)
    have ks2 := ks u
    refine calm_val 56 _ rfl ?_ rfl rfl
    clear HB HO HA
    go_simp
    try rfl
   intro act u HB HO HA
   have e52 : _ = _ := gE (qA HA 52)
   have e56 : _ = _ := gE (qA HA 56)
   refine calm_val 57 _ rfl ?_ rfl rfl
   clear HB HO HA
   go_simp
   try rfl
  intro ww4 HB
  have HK4 := hDx (HK3.out.drew.call HB)
  simp only [fillL, Act.put, sAx, s0x, s1x, dSx, d0x]
  clear HB
  clear hquo hrem ks hxy u1 u2 m1 m2
  have z0 := HK4.out.bfz 0 rfl i (by rw [lV]; exact hlt)
  have c0 := HK4.out.bcell 0 rfl i (by rw [lV]; exact hlt)
  clear hlt hm64 hc2 Hi
  go_upto_region 10 with fail
  obtain ⟨ww5, hv5⟩ := nm (World.setCell ww4 ⟨B, i, none⟩ (.int .u8 (v : Int)))
  have HK5 : Hid (KS [(B, bob (rw_ s.size (tF s key nonce n (i + 1))) zz)] [] w ww5) := by rw [hv5, hv.out]; exact hDx (HK4.out.bset 0 rfl i (by rw [lV]; exact HL.out) (v : Int))
  rw [← hv5]
  clear hv5 c0 z0 lV
  go_wp2_with fail
  go_roundw
  case rel => exact ⟨i + 1, K, HN.out, by first | rfl | go_num, rfl, HKx.out, HK5.out⟩
  exact mea_i _ _ HL.out
 have e : i = s.size := Nat.le_antisymm hi (Nat.le_of_not_lt hlt)
 subst e
 have hcv := HK3.out.bconv 0 rfl (rw_len' _ _) cap
 rw [tF_all] at hcv
 clear hi hlt hK
 go_wp2_with fail
 go_ret2
 exact ⟨rfl, HK3.out.below⟩
end
end Go.Proofs.YtoplbfijodebmaaGreatDoor
