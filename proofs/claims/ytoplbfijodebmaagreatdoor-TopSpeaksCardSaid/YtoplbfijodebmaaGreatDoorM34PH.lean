/-
  The walk.
-/
import Derived.Test.YtoplbfijodebmaaGreatDoorM33PC
set_option linter.unusedVariables false
set_option linter.unusedSimpArgs false
set_option maxRecDepth 100000
set_option maxHeartbeats 40000000
namespace Go.Proofs.YtoplbfijodebmaaGreatDoor
open Go.RowKit T
attribute [local go_sem] Oper.semAt_some
theorem ka_i (key : ByteArray) (k : Nat) (hk : k < 4) : ∃ i b v : Nat, i = 3 + 4 * k ∧ i < 32 ∧ (0 : Int) ≤ i ∧ (i : Int) < 32 ∧ (i : Int) < 16 ∧ IntKind.i64.wrap ((i : Int) + 4) = ((3 + 4 * (k + 1) : Nat) : Int) ∧ wrap64 ((i : Int) + 4) = ((3 + 4 * (k + 1) : Nat) : Int) ∧ bits .and .u8 (b : Int) 15 = (v : Int) ∧ rw_ 32 (kA key (k + 1)) = (rw_ 32 (kA key k)).set i (v : Int) ∧ ia (rw_ 32 (kA key k)) i = (b : Int) ∧ (intOf (.int .i64 ((3 + 4 * (k + 1) : Nat) : Int))).toNat = 3 + 4 * (k + 1) ∧ 20 - (intOf (.int .i64 ((3 + 4 * (k + 1) : Nat) : Int))).toNat < 20 - (intOf (.int .i64 (i : Int))).toNat := by
 obtain ⟨a1, a2⟩ := i64w (x := ((3 + 4 * k : Nat) : Int) + 4) (n := 3 + 4 * (k + 1)) (by omega) (by omega)
 obtain ⟨h1, h2⟩ := kA_set key k
 refine ⟨3 + 4 * k, bt key (3 + 4 * k), bt key (3 + 4 * k) &&& 15, rfl, by omega, by omega, by omega, by omega, a2, a1, u8_and_nat _ 15 (bt_lt _ _) (by decide), h1, by rw [rw_at' _ _ _ (by omega), h2], by simp only [intOf, Int.toNat_natCast], ?_⟩
 simp only [intOf, Int.toNat_natCast]
 omega
theorem kb_i (key : ByteArray) (k : Nat) (hk : k < 3) : ∃ i b v : Nat, i = 4 + 4 * k ∧ i < 32 ∧ (0 : Int) ≤ i ∧ (i : Int) < 32 ∧ (i : Int) < 16 ∧ IntKind.i64.wrap ((i : Int) + 4) = ((4 + 4 * (k + 1) : Nat) : Int) ∧ wrap64 ((i : Int) + 4) = ((4 + 4 * (k + 1) : Nat) : Int) ∧ bits .and .u8 (b : Int) 252 = (v : Int) ∧ rw_ 32 (kB key (k + 1)) = (rw_ 32 (kB key k)).set i (v : Int) ∧ ia (rw_ 32 (kB key k)) i = (b : Int) ∧ (intOf (.int .i64 ((4 + 4 * (k + 1) : Nat) : Int))).toNat = 4 + 4 * (k + 1) ∧ 20 - (intOf (.int .i64 ((4 + 4 * (k + 1) : Nat) : Int))).toNat < 20 - (intOf (.int .i64 (i : Int))).toNat := by
 obtain ⟨a1, a2⟩ := i64w (x := ((4 + 4 * k : Nat) : Int) + 4) (n := 4 + 4 * (k + 1)) (by omega) (by omega)
 obtain ⟨h1, h2⟩ := kB_set key k hk
 refine ⟨4 + 4 * k, bt key (4 + 4 * k), bt key (4 + 4 * k) &&& 252, rfl, by omega, by omega, by omega, by omega, a2, a1, u8_and_nat _ 252 (bt_lt _ _) (by decide), h1, by rw [rw_at' _ _ _ (by omega), h2], by simp only [intOf, Int.toNat_natCast], ?_⟩
 simp only [intOf, Int.toNat_natCast]
 omega
theorem cap16 {c n z : Nat} (h : c = n + z) (h2 : n = 32) : (16 : Int) ≤ c := by omega
theorem ka_end (k : Nat) (h : k ≤ 4) (h2 : ¬ k < 4) : k = 4 := by omega
theorem kb_end (k : Nat) (h : k ≤ 3) (h2 : ¬ k < 3) : k = 3 := by omega
theorem Rk.otherRow {w : World} {b n : Nat} {t : TypeId} {k : IntKind} {v : List Int} (h : Rk w b t k n v) {c : Nat} (hc : b ≠ c) (cs : Array Value) : Rk (w.setRow c cs) b t k n v := h.keep (setRow_other _ _ _ _ hc)
theorem wpIn_range_ks2 {F : Fence} {n : Nat} {P : Program} {g : Operand} {ps : Array Tmp} {assign body : Code} {Q : Exit → Act → World → Prop} {a : Act} {wB w : World} {X : List Nat}
  (hro : F.round = none) (h1 : 1 ≤ n) {gf : Nat} {lb : Array Value} (hg : a.eval g = .func (.func gf) #[] lb) (hFg : F.fn gf) (eg : ∀ args w, (callFunc gf args).run P w = .ok (.enter gf args) w)
  (xs : Nat → Array Value) (al go fin : Nat → Prop) (Cap : World → Prop) (hseq : Tells F (n - 1) P gf lb xs al go fin Cap) (hps : ∀ i, (xs i).size = ps.size)
  (L : Nat → List (Nat × Obj)) (c0 : Code) (Lx : List (Nat × Obj)) (hcap : ∀ i W, KS (L i) X wB W → Cap W) (h0 : KS (L 0) X wB w) (up : Nat → Array Value → Array Value)
  (hassign : ∀ (l i : Nat) (W : World) (K : Act → World → Prop), K { tmps := up i a.tmps, defers := [] } W →
   assign.wpIn (F.inRound l) (n - 1 - 1) P (Exit.then K (fun _ _ _ => False)) { tmps := (ps.zip (xs i)).foldl (fun t (p, v) => t.setIfInBounds p v) a.tmps, defers := [] } W)
  (hbody : ∀ (l D i : Nat) (ol od : Obj) (W : World), al i → KS ((l, ol) :: (D, od) :: L i) X wB W →
   body.wpIn (F.inRound l) (n - 1 - 1) P (rngPost (go i) c0 (fun W' => KS ((l, ol) :: (D, od) :: L (i + 1)) X wB W') (fun W' => KS ((l, ol) :: (D, od) :: Lx) X wB W')) { tmps := up i a.tmps, defers := [] } W)
  (hdone : ∀ (l D m : Nat) (ol : Obj) (W : World), fin m → KS ((l, ol) :: (D, .deferred (some [])) :: L m) X wB W → Q .normal { a with defers := { target := .collected D, args := #[] } :: a.defers } W)
  (hstop : ∀ (l D : Nat) (ol : Obj) (W : World), KS ((l, ol) :: (D, .deferred (some [])) :: Lx) X wB W → c0.wpIn F n P Q { a with defers := { target := .collected D, args := #[] } :: a.defers } W) :
  (Code.rangeFunc g ps assign body).wpIn F n P Q a w :=
 wpIn_range_ks hro h1 hg hFg eg xs al go fin Cap hseq hps L c0 Lx hcap h0 (fun i => { tmps := up i a.tmps, defers := [] }) hassign hbody hdone hstop
theorem pa_i (key s : ByteArray) (i k : Nat) (hk : k < 5) : ∃ x y v : Nat, ia (rw_ 5 (lim 67108864 (pcV s i))) k = (y : Int) ∧ ia (rw_ 5 (aF5 (hF5 key s i) (lim 67108864 (pcV s i)) k)) k = (x : Int) ∧ IntKind.u64.wrap ((x : Int) + (y : Int)) = v ∧ rw_ 5 (aF5 (hF5 key s i) (lim 67108864 (pcV s i)) (k + 1)) = (rw_ 5 (aF5 (hF5 key s i) (lim 67108864 (pcV s i)) k)).set k (v : Int) ∧ (0 : Int) ≤ k ∧ (k : Int) < 5 ∧ IntKind.i64.wrap ((k : Int) + 1) = ((k + 1 : Nat) : Int) ∧ wrap64 ((k : Int) + 1) = ((k + 1 : Nat) : Int) := by
 have a1 := (hF5_all key s i).1.le k hk
 have a2 := lim_lt (b := 67108864) (by decide) (pcV s i) k
 obtain ⟨h1, h2⟩ := aF5_set (hF5 key s i) (lim 67108864 (pcV s i)) k
 obtain ⟨b1, b2⟩ := i64w (x := (k : Int) + 1) (n := k + 1) (by omega) (by omega)
 exact ⟨hF5 key s i k, lim 67108864 (pcV s i) k, hF5 key s i k + lim 67108864 (pcV s i) k, rw_at' _ _ _ hk, by rw [rw_at' _ _ _ hk, h2], u64w (by omega) (by omega), h1, by omega, by omega, b2, b1⟩
theorem five_end (k : Nat) (h : k ≤ 5) (h2 : ¬ k < 5) : k = 5 := by omega
theorem ag156 : AgTy 156 5 := agTy (by kernel_rfl)
theorem ext5 (f : Nat → Nat) : (lk .u64 (rw_ 5 f)).extract 0 (0 + 5) = lk .u64 (rw_ 5 f) := by
 have h : (lk .u64 (rw_ 5 f)).size = 0 + 5 := by rw [lk_size, rw_len']
 rw [← h, Array.extract_size]
theorem sz5 (f : Nat → Nat) : (lk .u64 (rw_ 5 f)).size = 5 := by rw [lk_size, rw_len']
theorem tg_n (i : Nat) (hi : i < 16) : ∃ k8 q m j16 : Nat, k8 = 8 * i ∧ q = 8 * i / 26 ∧ m = 8 * i % 26 ∧ j16 = 16 + i ∧ IntKind.i64.wrap (8 * (i : Int)) = k8 ∧ wrap64 (8 * (i : Int)) = k8 ∧ binOp .quo 3 (.int .i64 (k8 : Int)) (.int .i64 26) = pure (.int .i64 (q : Int)) ∧ binOp .rem 3 (.int .i64 (k8 : Int)) (.int .i64 26) = pure (.int .i64 (m : Int)) ∧ q < 5 ∧ (0 : Int) ≤ q ∧ (q : Int) < 5 ∧ IntKind.u64.wrap (m : Int) = m ∧ m ≤ 30 ∧
  IntKind.i64.wrap (16 + (i : Int)) = j16 ∧ wrap64 (16 + (i : Int)) = j16 ∧ (0 : Int) ≤ j16 ∧ (j16 : Int) < 32 ∧ j16 < 32 ∧ (18 < m → q + 1 < 5 ∧ IntKind.i64.wrap ((q : Int) + 1) = ((q + 1 : Nat) : Int) ∧ wrap64 ((q : Int) + 1) = ((q + 1 : Nat) : Int) ∧ (0 : Int) ≤ ((q + 1 : Nat) : Int) ∧ ((q + 1 : Nat) : Int) < 5 ∧ IntKind.i64.wrap (26 - (m : Int)) = ((26 - m : Nat) : Int) ∧ wrap64 (26 - (m : Int)) = ((26 - m : Nat) : Int) ∧ IntKind.u64.wrap ((26 - m : Nat) : Int) = ((26 - m : Nat) : Int) ∧ 26 - m ≤ 30 ∧ 26 - m ≤ 8) := by
 obtain ⟨a1, a2⟩ := i64w (x := 8 * (i : Int)) (n := 8 * i) (by omega) (by omega)
 obtain ⟨b1, b2⟩ := i64w (x := 16 + (i : Int)) (n := 16 + i) (by omega) (by omega)
 obtain ⟨c1, c2⟩ := i64w (x := ((8 * i / 26 : Nat) : Int) + 1) (n := 8 * i / 26 + 1) (by omega) (by omega)
 refine ⟨8 * i, 8 * i / 26, 8 * i % 26, 16 + i, rfl, rfl, rfl, rfl, a2, a1, quo_i 3 (8 * i) 26 _ (by decide) rfl (by omega), rem_i 3 (8 * i) 26 _ (by decide) rfl (by omega), by omega, by omega, by omega, u64w rfl (by omega), by omega, b2, b1, by omega, by omega, by omega, fun h => ?_⟩
 obtain ⟨d1, d2⟩ := i64w (x := 26 - ((8 * i % 26 : Nat) : Int)) (n := 26 - 8 * i % 26) (by omega) (by omega)
 exact ⟨by omega, c2, c1, by omega, by omega, d2, d1, u64w rfl (by omega), by omega, by omega⟩
theorem tg_s {c x k : Nat} (hc : c ≤ 1) (hx : x < 256) (hk : k < 256) : IntKind.u64.wrap ((x : Int) + (k : Int)) = ((x + k : Nat) : Int) ∧ IntKind.u64.wrap ((c : Int) + ((x + k : Nat) : Int)) = ((c + (x + k) : Nat) : Int) ∧ ((c + (x + k) : Nat) : Int) / 256 = (((c + (x + k)) / 256 : Nat) : Int) ∧ IntKind.u64.wrap (k : Int) = k :=
 ⟨u64w (by omega) (by omega), u64w (by omega) (by omega), by omega, u64w rfl (by omega)⟩
theorem tg_o (a b e : Nat) (ha : a < 67108864) (hb : b < 67108864) (he : e ≤ 8) : b * 2 ^ e < 18446744073709551616 ∧ (a ||| b * 2 ^ e) < 18446744073709551616 ∧ True := by
 have hp : 2 ^ e ≤ 2 ^ 8 := Nat.pow_le_pow_right (by decide) he
 have h2 : b * 2 ^ e ≤ 67108864 * 2 ^ 8 := Nat.mul_le_mul (Nat.le_of_lt hb) hp
 have h3 : (a ||| b * 2 ^ e) < 2 ^ 40 := Nat.or_lt_two_pow (Nat.lt_trans ha (by decide)) (Nat.lt_of_le_of_lt h2 (by decide))
 exact ⟨Nat.lt_of_le_of_lt h2 (by decide), Nat.lt_trans h3 (by decide), trivial⟩
theorem tg_i (key : ByteArray) (N i : Nat) (hN : N < Q) (hi : i < 16) : ∃ k8 q m c A0 y1 kb v w1 cn j16 : Nat, IntKind.i64.wrap (8 * (i : Int)) = k8 ∧ wrap64 (8 * (i : Int)) = k8 ∧ binOp .quo 3 (.int .i64 (k8 : Int)) (.int .i64 26) = pure (.int .i64 (q : Int)) ∧ binOp .rem 3 (.int .i64 (k8 : Int)) (.int .i64 26) = pure (.int .i64 (m : Int)) ∧ q < 5 ∧ (0 : Int) ≤ q ∧ (q : Int) < 5 ∧ IntKind.u64.wrap (m : Int) = m ∧ Op.shift .shr .u64 (A0 : Int) .u64 (m : Int) = pure (.int .u64 (y1 : Int)) ∧
    ia (rw_ 5 (lim 67108864 N)) q = (A0 : Int) ∧ cS N (SN key) i = c ∧ IntKind.i64.wrap (16 + (i : Int)) = j16 ∧ wrap64 (16 + (i : Int)) = j16 ∧ (0 : Int) ≤ j16 ∧ (j16 : Int) < 32 ∧ j16 < 32 ∧ IntKind.u64.wrap (kb : Int) = kb ∧ ia (rw_ 32 (pkB key)) j16 = (kb : Int) ∧ cS N (SN key) (i + 1) = cn ∧ rw_ 16 (tK (N + SN key) (i + 1)) = (rw_ 16 (tK (N + SN key) i)).set i (w1 : Int) ∧
    ((18 < m → ∃ qn mm A1 y2 y3 x8 s1 : Nat, IntKind.i64.wrap ((q : Int) + 1) = qn ∧ wrap64 ((q : Int) + 1) = qn ∧ (0 : Int) ≤ qn ∧ (qn : Int) < 5 ∧ qn < 5 ∧ IntKind.i64.wrap (26 - (m : Int)) = mm ∧ wrap64 (26 - (m : Int)) = mm ∧ IntKind.u64.wrap (mm : Int) = mm ∧ Op.shift .shl .u64 (A1 : Int) .u64 (mm : Int) = pure (.int .u64 (y2 : Int)) ∧ ia (rw_ 5 (lim 67108864 N)) qn = (A1 : Int) ∧ bits .or .u64 (y1 : Int) (y2 : Int) = y3 ∧ bits .and .u64 (y3 : Int) 255 = x8 ∧ IntKind.u64.wrap ((x8 : Int) + (kb : Int)) = s1 ∧ IntKind.u64.wrap ((c : Int) + (s1 : Int)) = v ∧ IntKind.u8.wrap (v : Int) = w1 ∧ (v : Int) / 256 = cn) ∧
     (¬ 18 < m → ∃ x8 s1 : Nat, bits .and .u64 (y1 : Int) 255 = x8 ∧ IntKind.u64.wrap ((x8 : Int) + (kb : Int)) = s1 ∧ IntKind.u64.wrap ((c : Int) + (s1 : Int)) = v ∧ IntKind.u8.wrap (v : Int) = w1 ∧ (v : Int) / 256 = cn)) := by
  have hl : ∀ j, j < 5 → lim 67108864 N j < 67108864 := fun j _ => lim_lt (by decide) N j
  have hby := byU_lim hl i hi
  rw [lim5 (Nat.lt_trans hN (by decide))] at hby
  obtain ⟨hs1, hs2⟩ := cS_step N (SN key) i
  have hx := lim_lt (b := 256) (by decide) N i
  have hk := lim_lt (b := 256) (by decide) (SN key) i
  obtain ⟨k8, q, m, j16, e1, e2, e3, e4, t1, t2, t3, t4, t5, t6, t7, t8, t9, t10, t11, t12, t13, t14, t15⟩ := tg_n i hi
  obtain ⟨f1, f2, f3, f4⟩ := tg_s (cS_le N (SN key) i) hx hk
  have hA := hl q t5
  have hy1 : lim 67108864 N q / 2 ^ m < 67108864 := Nat.lt_of_le_of_lt (Nat.div_le_self _ _) hA
  refine ⟨k8, q, m, cS N (SN key) i, lim 67108864 N q, lim 67108864 N q / 2 ^ m, lim 256 (SN key) i, cS N (SN key) i + (lim 256 N i + lim 256 (SN key) i), lim 256 (N + SN key) i, cS N (SN key) (i + 1), j16, t1, t2, t3, t4, t5, t6, t7, t8, shr64 _ _ _ t9 rfl, rw_at' _ _ _ t5, rfl, t10, t11, t12, t13, t14, f4, ?_, rfl, tK_set _ _ _, fun h18 => ?_, fun h18 => ?_⟩
  · rw [rw_at' _ _ _ t14, e4, pkB_hi key _ (Nat.le_add_right _ _), SN_byte key i hi]
  · obtain ⟨g0, g1, g2, g3, g4, g5, g6, g7, g8, g9⟩ := t15 h18
    have hA1 := hl (q + 1) g0
    obtain ⟨y1, y2, y3⟩ := tg_o (lim 67108864 N q / 2 ^ m) (lim 67108864 N (q + 1)) (26 - m) hy1 hA1 g9
    have e : byU (lim 67108864 N) i = lim 67108864 N q / 2 ^ m ||| lim 67108864 N (q + 1) * 2 ^ (26 - m) := by
      unfold byU; rw [← e2, ← e3, if_pos h18]
    refine ⟨q + 1, 26 - m, lim 67108864 N (q + 1), lim 67108864 N (q + 1) * 2 ^ (26 - m), _, lim 256 N i, lim 256 N i + lim 256 (SN key) i, g1, g2, g3, g4, g0, g5, g6, g7, shl64 _ _ _ g8 rfl y1, rw_at' _ _ _ g0, or64 _ _ (Nat.lt_trans hy1 (by decide)) y1, ?_, f1, f2, by rw [u8wm, hs1], by rw [← hs2]; exact f3⟩
    rw [← hby, e]
    exact and_mask _ 255 8 rfl (by decide) y2
  have e : byU (lim 67108864 N) i = lim 67108864 N q / 2 ^ m := by
    unfold byU; rw [← e2, ← e3, if_neg h18]
  refine ⟨lim 256 N i, lim 256 N i + lim 256 (SN key) i, ?_, f1, f2, by rw [u8wm, hs1], by rw [← hs2]; exact f3⟩
  rw [← hby, e]
  exact and_mask _ 255 8 rfl (by decide) (Nat.lt_trans hy1 (by decide))
theorem chk_ix (N i j : Nat) (h : j < chE N i) : 16 * i + j < N := by unfold chE at h; omega
theorem tag_any (key s : ByteArray) (w : World) (h32 : key.size = 32) (hs : s.size ≤ 200000) :
  Calls Tryz.prog 67 #[.string key, .string s] w fun e w' => e = .returned (.tuple #[.string (tagS key s), .int .i64 0]) ∧ Below w.heap.size w w' := by
 have h32i : (key.size : Int) = 32 := by rw [h32]; rfl
 have lk0 := kA_zero key h32
 obtain ⟨zk, capk, hck, hcv⟩ := run_bytes2 key w
 rw [h32, ← lk0] at hcv
 have h16 := cap16 hck h32
 clear hck
 have HH := hDx (And.intro h32 hs)
 clear h32 hs lk0
 refine (callsIn_wide (n := 9)).1 ?_
 refine callsIn_of_wp_marks Tryz.func67 rfl trivial ?_ rfl
 refine wpIn_wide.2 ?_
 simp only [Tryz.ntmps67, List.size_toArray, List.length_cons, List.length_nil, Nat.reduceAdd, Nat.reduceSub, Array.replicate_succ, Array.replicate_zero, List.push_toArray, List.append_toArray, List.nil_append, List.cons_append]
 have HK0 := hDx (KS.start w)
 go_upto_region 4 with fail
 have hm1 := (HK0.out.made (bob (rw_ 32 (kA key 0)) zk)).drew
 obtain ⟨K, hgK⟩ := nm w.heap.size
 obtain ⟨ww1, hv1⟩ := nm (World.drew (World.alloc w (bob (rw_ 32 (kA key 0)) zk)))
 rw [← hv1, ← hgK] at hm1
 rw [← hv1]
 try rw [← hgK]
 have HK1 : Hid (KS [(K, bob (rw_ 32 (kA key 0)) zk)] [] w ww1) := hDx hm1
 clear hm1 hv1 hgK
 clear hcv h32i
 go_upto_region 5 with fail
 go_loopw [7] (fun vS wr => ∃ k : Nat, k ≤ 4 ∧ vS = .int .i64 ((3 + 4 * k : Nat) : Int) ∧ KS [(K, bob (rw_ 32 (kA key k)) zk)] [] w wr) (fun vS _ => 20 - (intOf vS).toNat)
 case atStart => exact ⟨0, Nat.zero_le _, rfl, HK1.out⟩
 case round =>
  obtain ⟨k, hk, rfl, HK⟩ := hrel
  have HK2 := hDx HK
  clear HK
  by_cases hlt : k < 4
  ·obtain ⟨i, b, v, hi, i32, g1, g2, g3, g4, g5, hand, es, ha, hm0, hm⟩ := ka_i key k hlt
   rw [← hi]
   obtain ⟨V, hV⟩ := nm (rw_ 32 (kA key k))
   have lV : V.length = 32 := by rw [hV, rw_len']
   rw [← hV] at es ha HK2
   have c0 := HK2.out.bcell 0 rfl i (by rw [lV]; exact i32)
   rw [ha] at c0
   have z0 := HK2.out.bfz 0 rfl i (by rw [lV]; exact i32)
   have HJ := hDx (And.intro es (And.intro hlt hm))
   have HI := hDx i32
   clear hi hV es ha hlt hm hm0 hk i32
   go_upto_region 6 with fail
   obtain ⟨ww3, hv3⟩ := nm (World.setCell wr ⟨K, i, none⟩ (.int .u8 ((v : Int))))
   have HK3 : Hid (KS [(K, bob (V.set i (v : Int)) zk)] [] w ww3) := by rw [hv3]; exact hDx (HK2.out.bset 0 rfl i (by rw [lV]; exact HI.out) ((v : Int)))
   rw [← hv3]
   clear hv3
   rw [← HJ.out.1] at HK3
   clear c0 z0 hand lV
   go_wp2_with fail
   go_roundw
   case rel => exact ⟨k + 1, HJ.out.2.1, by first | rfl | go_num, HK3.out⟩
   exact HJ.out.2.2
  obtain rfl := ka_end k hk hlt
  clear hk hlt
  rw [kA_four] at HK2
  go_upto_region 9 with fail
  go_loopw [8] (fun vS wr => ∃ k : Nat, k ≤ 3 ∧ vS = .int .i64 ((4 + 4 * k : Nat) : Int) ∧ KS [(K, bob (rw_ 32 (kB key k)) zk)] [] w wr) (fun vS _ => 20 - (intOf vS).toNat)
  case atStart => exact ⟨0, Nat.zero_le _, rfl, HK2.out⟩
  case round =>
   obtain ⟨k, hk, rfl, HK⟩ := hrel
   have HK3 := hDx HK
   clear HK
   by_cases hlt : k < 3
   ·obtain ⟨i, b, v, hi, i32, g1, g2, g3, g4, g5, hand, es, ha, hm0, hm⟩ := kb_i key k hlt
    rw [← hi]
    obtain ⟨V, hV⟩ := nm (rw_ 32 (kB key k))
    have lV : V.length = 32 := by rw [hV, rw_len']
    rw [← hV] at es ha HK3
    have c0 := HK3.out.bcell 0 rfl i (by rw [lV]; exact i32)
    rw [ha] at c0
    have z0 := HK3.out.bfz 0 rfl i (by rw [lV]; exact i32)
    have HJ := hDx (And.intro es (And.intro hlt hm))
    have HI := hDx i32
    clear hi hV es ha hlt hm hm0 hk i32
    go_upto_region 10 with fail
    obtain ⟨ww4, hv4⟩ := nm (World.setCell wr ⟨K, i, none⟩ (.int .u8 ((v : Int))))
    have HK4 : Hid (KS [(K, bob (V.set i (v : Int)) zk)] [] w ww4) := by rw [hv4]; exact hDx (HK3.out.bset 0 rfl i (by rw [lV]; exact HI.out) ((v : Int)))
    rw [← hv4]
    clear hv4
    rw [← HJ.out.1] at HK4
    clear c0 z0 hand lV
    go_wp2_with fail
    go_roundw
    case rel => exact ⟨k + 1, HJ.out.2.1, by first | rfl | go_num, HK4.out⟩
    exact HJ.out.2.2
   obtain rfl := kb_end k hk hlt
   clear hk hlt
   change Hid (KS [(K, bob (rw_ 32 (pkB key)) zk)] [] w wr) at HK3
   go_wp2_with fail
   try simp only [Int.cast_ofNat_Int]
   refine (pof_any K 0 16 0 _ (pkB key) _ (pkB_lt key) (by decide) (.inl rfl) (fun j hj => by rw [Nat.zero_add]; have q := HK3.out.bcell 0 rfl j (by rw [rw_len']; exact Nat.lt_of_lt_of_le hj (by decide)); rw [rw_at' _ _ _ (Nat.lt_of_lt_of_le hj (by decide))] at q; exact q) (HK3.out.lt 0 rfl)).mono ?_
   rintro e ww4 ⟨rfl, B1⟩
   simp only []
   have HK4 := hDx (HK3.out.call B1)
   clear B1
   rw [RN_ofV]
   obtain ⟨RF, hRF⟩ := nm (rw_ 5 (lim 67108864 (RN key)))
   have lRF : RF.length = 5 := by rw [hRF, rw_len']
   rw [← hRF]
   replace hRF := hDx hRF
   have FR : Rk ((World.alloc ww4 (.cells #[.int .u64 0, .int .u64 0, .int .u64 0, .int .u64 0, .int .u64 0] 156)).alloc (.cells #[.int .u64 0, .int .u64 0, .int .u64 0, .int .u64 0, .int .u64 0] 156)) ww4.heap.size 156 .u64 5 (zi 5) := (rk_new ww4 156 5 .u64 (zi 5) (zi_len 5)).alloc (.cells #[.int .u64 0, .int .u64 0, .int .u64 0, .int .u64 0, .int .u64 0] 156)
   have FH : Rk ((World.alloc ww4 (.cells #[.int .u64 0, .int .u64 0, .int .u64 0, .int .u64 0, .int .u64 0] 156)).alloc (.cells #[.int .u64 0, .int .u64 0, .int .u64 0, .int .u64 0, .int .u64 0] 156)) (ww4.heap.size + 1) 156 .u64 5 (zi 5) := by
    have q := rk_new (World.alloc ww4 (.cells #[.int .u64 0, .int .u64 0, .int .u64 0, .int .u64 0, .int .u64 0] 156)) 156 5 .u64 (zi 5) (zi_len 5)
    rw [World.size_alloc] at q
    exact q
   have FH2 := FH.otherRow (Nat.succ_ne_self _) (lk .u64 RF)
   go_upto_region 13 with (first | (with_reducible show wpList _ _ _ _ _ _; refine wpList_store_rk (u := RF) rfl _ _ rfl rfl rfl FR ty156 lRF ?_) | (with_reducible show wpList _ _ _ _ _ _; refine wpList_store_rk (u := zi 5) rfl _ _ rfl rfl rfl FH2 ty156 (zi_len 5) ?_))
   clear FR FH FH2
   have hm := (((HK4.out.made (.cells #[.int .u64 0, .int .u64 0, .int .u64 0, .int .u64 0, .int .u64 0] 156)).made (.cells #[.int .u64 0, .int .u64 0, .int .u64 0, .int .u64 0, .int .u64 0] 156)).setRow 1 rfl (lk .u64 RF)).setRow 0 rfl (lk .u64 (zi 5))
   rw [World.size_alloc] at hm
   obtain ⟨R, hR⟩ := nm ww4.heap.size
   obtain ⟨H, hH⟩ := nm (ww4.heap.size + 1)
   rw [← hH, ← hR] at hm
   rw [← hH, ← hR]
   obtain ⟨ww5, hv⟩ := nm (World.setRow (World.setRow ((World.alloc ww4 (.cells #[.int .u64 0, .int .u64 0, .int .u64 0, .int .u64 0, .int .u64 0] 156)).alloc (.cells #[.int .u64 0, .int .u64 0, .int .u64 0, .int .u64 0, .int .u64 0] 156)) R (lk .u64 RF)) H (lk .u64 (zi 5)))
   rw [← hv] at hm
   rw [← hv]
   have hm2 : KS [(H, .cells (lk .u64 (rw_ 5 (hF5 key s 0))) 156), (R, .cells (lk .u64 RF) 156), (K, bob (rw_ 32 (pkB key)) zk)] [] w ww5 := hm
   have HK5 := hDx hm2
   clear hm hm2 hv hH hR h16
   obtain ⟨zm, capm, hcm, hcv⟩ := run_bytes2 s ww5
   have hcap : Hid (s.size ≤ capm) := hDx (by rw [hcm]; exact Nat.le_add_right _ _)
   clear hcm
   go_wp2_with fail
   have hm6 := (HK5.out.made (bob (bl s) zm)).drew
   obtain ⟨M, hgM⟩ := nm ww5.heap.size
   obtain ⟨ww6, hv6⟩ := nm (World.drew (World.alloc ww5 (bob (bl s) zm)))
   rw [← hv6, ← hgM] at hm6
   rw [← hv6]
   try rw [← hgM]
   have HK6 : Hid (KS [(M, bob (bl s) zm), (H, .cells (lk .u64 (rw_ 5 (hF5 key s 0))) 156), (R, .cells (lk .u64 RF) 156), (K, bob (rw_ 32 (pkB key)) zk)] [] w ww6) := hDx hm6
   clear hm6 hv6 hgM
   clear hcv
   refine (chunk_w M s.size capm ww6).mono ?_
   rintro e ww7 ⟨rfl, hw3⟩
   simp only []
   have hm := (HK6.out.made (.cells #[.slice (some ⟨M, 0, none⟩) s.size capm] 52)).made (.cells #[.int .i64 16] 3)
   rw [World.size_alloc, ← hw3] at hm
   obtain ⟨bs, hbs⟩ := nm ww6.heap.size
   obtain ⟨bz, hbz⟩ := nm (ww6.heap.size + 1)
   rw [← hbz, ← hbs] at hm
   rw [← hbz, ← hbs]
   have HK7 := hDx hm
   clear hm hw3 hbs hbz
   go_wp2_with fail
   refine (wpIn_wide (n := 9)).1 ?_
   refine wpIn_range_ks2 (wB := w) (X := []) rfl (by decide) rfl trivial (enters_of Tryz.func117 (by kernel_rfl) rfl) (chkB M s.size) (fun i => i < nch s.size) (fun _ => True) (fun m => m = nch s.size) (Cap117 bs bz M s.size capm)
    (chunk_tells M s.size capm bs bz _ (Nat.le_trans HH.out.2 (by decide)) hcap.out) (fun _ => rfl)
    (fun k => [(bz, .cells #[.int .i64 16] 3), (bs, .cells #[.slice (some ⟨M, 0, none⟩) s.size capm] 52), (M, bob (bl s) zm), (H, .cells (lk .u64 (rw_ 5 (hF5 key s k))) 156), (R, .cells (lk .u64 RF) 156), (K, bob (rw_ 32 (pkB key)) zk)]) .skip [(0, .deferred none), (0, .deferred none)]
    (fun k W h => ⟨(h.cells 1 rfl).cell 0 _ rfl, (h.cells 0 rfl).cell 0 _ rfl⟩) HK7.out
    (fun i fr => (fr.setIfInBounds 51 (.slice (some ⟨M, 16 * i, none⟩) (chE s.size i) (chE s.size i))).setIfInBounds 11 (.slice (some ⟨M, 16 * i, none⟩) (chE s.size i) (chE s.size i))) ?assign ?body ?done ?stop
   case assign =>
    intro l i W K hK
    unfold chkB
    simp only [sAx, s0x, s1x] at hK
    gi_wp2
    exact hK
   case body =>
    intro l D i ol od W hi HK
    simp only [sAx, s0x, s1x]
    have HB0 := hDx HK
    clear HK
    have hE := chE_le s.size i
    obtain ⟨E, hEE⟩ := nm (chE s.size i)
    have hcon := fun (u : World) => pof_any M (16 * i) E E E (fun j => bt s (16 * i + j)) u (fun j => bt_lt _ _) (by rw [hEE]; exact hE) (.inr rfl)
    have hpv : ofV (fun j => bt s (16 * i + j)) E E = pcV s i := by rw [hEE]; rfl
    rw [hpv] at hcon
    rw [← hEE]
    replace hEE := hDx hEE
    replace hcon := hDx hcon
    clear hE hi hpv
    gi_wp2
    refine ⟨trivial, (CallsIn.inRound l (callsIn_wide.2 (hcon.out _ (fun j hj => ?_) (HB0.out.lt 4 rfl)))).mono ?_⟩
    ·have hlt : 16 * i + j < s.size := chk_ix _ _ _ (by rw [hEE.out] at hj; exact hj)
     have q := HB0.out.bcell 4 rfl (16 * i + j) (by rw [bl_len]; exact hlt)
     rw [bl_at] at q
     exact q
    rintro e W1 ⟨rfl, B1⟩
    simp only []
    have HB1 := hDx (HB0.out.call B1)
    clear B1 hcon
    obtain ⟨G, hG⟩ := nm (rw_ 5 (lim 67108864 (pcV s i)))
    have lG : G.length = 5 := by rw [hG, rw_len']
    rw [← hG]
    gi_wp2
    gi_loopw [56] (fun p wr => ∃ k : Nat, k ≤ 5 ∧ p = .int .i64 (k : Int) ∧ KS [(l, ol), (D, od), (bz, .cells #[.int .i64 16] 3), (bs, .cells #[.slice (some ⟨M, 0, none⟩) s.size capm] 52), (M, bob (bl s) zm), (H, .cells (lk .u64 (rw_ 5 (aF5 (hF5 key s i) (lim 67108864 (pcV s i)) k))) 156), (R, .cells (lk .u64 RF) 156), (K, bob (rw_ 32 (pkB key)) zk)] [] w wr) (fun p _ => 5 - (intOf p).toNat)
    case atStart => exact ⟨0, Nat.zero_le _, rfl, by rw [aF5_zero]; exact HB1.out⟩
    obtain ⟨k, hk, rfl, HK⟩ := hrel
    have HB2 := hDx HK
    clear HK
    by_cases hlt : k < 5
    ·obtain ⟨x, y, v, e1, e2, e3, e4, g1, g2, g3, g4⟩ := pa_i key s i k hlt
     have hix := fun u => idx156 lG hlt u
     rw [← hG] at e1
     rw [e1] at hix
     obtain ⟨V, hV⟩ := nm (rw_ 5 (aF5 (hF5 key s i) (lim 67108864 (pcV s i)) k))
     have lV : V.length = 5 := by rw [hV, rw_len']
     rw [← hV] at HB2 e2 e4
     have c0 := (HB2.out.rk 5 rfl lV).cell k hlt
     rw [e2] at c0
     have z0 := (HB2.out.rk 5 rfl lV).fz
     have hset : KS [(l, ol), (D, od), (bz, .cells #[.int .i64 16] 3), (bs, .cells #[.slice (some ⟨M, 0, none⟩) s.size capm] 52), (M, bob (bl s) zm), (H, .cells (lk .u64 (V.set k (v : Int))) 156), (R, .cells (lk .u64 RF) 156), (K, bob (rw_ 32 (pkB key)) zk)] [] w (wr.setCell ⟨H, k, none⟩ (.int .u64 (v : Int))) := HB2.out.setK 5 rfl k (v : Int)
     rw [← e4] at hset
     have HB3 := hDx hset
     have HJ := hDx hlt
     clear hV e2 e1 e4 hlt hk hG hset
     gi_wp2
     go_roundw
     case rel => exact ⟨k + 1, HJ.out, by first | rfl | go_num, HB3.out⟩
     exact measI 5 k HJ.out
    obtain rfl := five_end k hk hlt
    clear hk hlt hG
    gi_wp2
    obtain ⟨A5, hA5⟩ := nm (aF5 (hF5 key s i) (lim 67108864 (pcV s i)) 5)
    have bA : Bg A5 := by rw [hA5]; exact hF5_bg key s i
    have hS : hF5 key s (i + 1) = car (tmF (car A5) (rF5 key) 25) := by rw [hA5]; rfl
    rw [← hA5] at HB2
    have hRF2 := hDx (show RF = rw_ 5 (rF5 key) from hRF.out)
    have HQ5 := hDx (And.intro bA hS)
    clear hA5 bA hS
    have HB4 : Hid (KS [(l, ol), (D, od), (bz, .cells #[.int .i64 16] 3), (bs, .cells #[.slice (some ⟨M, 0, none⟩) s.size capm] 52), (M, bob (bl s) zm), (H, .cells (lk .u64 (rw_ 5 A5)) 156), (R, .cells (lk .u64 (rw_ 5 (rF5 key))) 156), (K, bob (rw_ 32 (pkB key)) zk)] [] w wr) := hDx (by have q := HB2.out; rw [hRF2.out] at q; exact q)
    try simp only [Act.put, sAx, s0x, s1x]
    refine wpIn_region_calm 4 [67, 68, 69, 70] [] [[], [67], [], [68, 69]] (Ftab [(67, .val (.agg (lk .u64 (rw_ 5 (A5))))), (68, .val (.agg (lk .u64 (rw_ 5 (car A5))))), (69, .val (.agg (lk .u64 (rw_ 5 (rF5 key))))), (70, .val (.agg (lk .u64 (rw_ 5 (car (tmF (car A5) (rF5 key) 25))))))]) (by kernel_rfl) (fun ⟨_, _, h⟩ => h) (by kernel_rfl) (by kernel_rfl) (by rfl) (by kernel_rfl) ?hO ?hE
    case hO =>
     refine ⟨?_, ?_, ?_, ?_, trivial⟩
     ·intro act u HB HO HA
      have e10 : act.eval (.tmp 10) = .pointer (some ⟨H, 0, none⟩) := HO 10 (by decide)
      have HS := HB4.out.drew.call HB
      exact calm_lM 67 10 e10 (HS.get 5 rfl) ag156 (ext5 _) (sz5 _) rfl rfl rfl rfl
     ·intro act u HB HO HA
      have e67 : _ = _ := qA HA 67
      refine calm_call 68 #[.agg (lk .u64 (rw_ 5 (A5)))] rfl rfl ?_ (by kernel_rfl) (pcarried_any A5 HQ5.out.1 u) ?_ rfl
      ·simp only [mTx, mCx, mNx, e67]
       try rfl
      rintro e u1 ⟨rfl, B1⟩
      exact ⟨_, rfl, rfl, B1⟩
     ·intro act u HB HO HA
      have e9 : act.eval (.tmp 9) = .pointer (some ⟨R, 0, none⟩) := HO 9 (by decide)
      have HS := HB4.out.drew.call HB
      exact calm_lM 69 9 e9 (HS.get 6 rfl) ag156 (ext5 _) (sz5 _) rfl rfl rfl rfl
     intro act u HB HO HA
     have e68 : _ = _ := qA HA 68
     have e69 : _ = _ := qA HA 69
     refine calm_call 70 #[.agg (lk .u64 (rw_ 5 (car A5))), .agg (lk .u64 (rw_ 5 (rF5 key)))] rfl rfl ?_ (by kernel_rfl) (ptimes_any (car A5) (rF5 key) (car_nc HQ5.out.1).le (rF5_le key) u) ?_ rfl
     ·simp only [mTx, mCx, mNx, e68, e69]
      try rfl
     rintro e u1 ⟨rfl, B1⟩
     exact ⟨_, rfl, rfl, B1⟩
    intro vT ww9 HB HF HN
    have f67 : _ = _ := qA HF 67
    have f68 : _ = _ := qA HF 68
    have f69 : _ = _ := qA HF 69
    have f70 : _ = _ := qA HF 70
    have HK9 := hDx (HB4.out.drew.call HB)
    simp only [fill, Act.put, sAx, s0x, s1x, dSx, d0x, f67, f68, f69, f70]
    clear HB HF HN f67 f68 f69 f70
    have FS := (HK9.out.rk 5 rfl (rw_len' _ _))
    refine wpList_store_rk (u := rw_ 5 (car (tmF (car A5) (rF5 key) 25))) rfl _ _ rfl rfl rfl FS ty156 (rw_len' _ _) ?_
    obtain ⟨ww10, hv10⟩ := nm (World.setRow ww9 H (lk .u64 (rw_ 5 (car (tmF (car A5) (rF5 key) 25)))))
    have HK10 : Hid (KS [(l, ol), (D, od), (bz, .cells #[.int .i64 16] 3), (bs, .cells #[.slice (some ⟨M, 0, none⟩) s.size capm] 52), (M, bob (bl s) zm), (H, .cells (lk .u64 (rw_ 5 (car (tmF (car A5) (rF5 key) 25)))) 156), (R, .cells (lk .u64 (rw_ 5 (rF5 key))) 156), (K, bob (rw_ 32 (pkB key)) zk)] [] w ww10) := by rw [hv10]; exact hDx (HK9.out.setRow 5 rfl _)
    rw [← hv10]
    clear hv10
    rw [← HQ5.out.2, ← hRF2.out] at HK10
    clear FS
    gi_wp2
    exact ⟨trivial, HK10.out⟩
   case done =>
    intro l D m ol W hm HK
    have HD0 := hDx HK
    clear HK
    obtain ⟨hNc, hV⟩ := hF5_all key s m
    obtain ⟨PN, hPN⟩ := nm (PHn key s m)
    have hrow : rw_ 5 (limQ (vs 67108864 (hF5 key s m) 5)) = rw_ 5 (lim 67108864 PN) := by
     unfold limQ; rw [hV, hPN]
    have hPQ : PN < Q := by rw [hPN]; exact PHn_lt key s m
    have hT : tagS key s = strOfNums (rw_ 16 (lim 256 (PN + SN key))) := by unfold tagS tagN; rw [hPN, hm]
    have HT := hDx (And.intro hT (And.intro hPQ hNc))
    replace hrow := hDx hrow
    clear hNc hV hPN hPQ hT hm
    have FH := (HD0.out.rk 5 rfl (rw_len' _ _))
    go_wp2_with (with_reducible show wpList _ _ _ _ _ _; refine wpList_load_rk (b := H) rfl _ rfl rfl FH ty156 ?_)
    refine (preduced_any _ HT.out.2.2 _).mono ?_
    rintro e ww9 ⟨rfl, B1⟩
    simp only []
    have HK9 := hDx (HD0.out.call B1)
    clear B1
    clear FH
    rw [hrow.out]
    have FS := (HK9.out.rk 5 rfl (rw_len' _ _))
    go_upto_region 22 with (refine wpList_store_rk rfl _ _ rfl rfl rfl FS ty156 (rw_len' _ _) ?_)
    obtain ⟨ww10, hv10⟩ := nm (World.setRow ww9 H (lk .u64 (rw_ 5 (lim 67108864 PN))))
    have HK10 : Hid (KS [(l, ol), (D, .deferred (some [])), (bz, .cells #[.int .i64 16] 3), (bs, .cells #[.slice (some ⟨M, 0, none⟩) s.size capm] 52), (M, bob (bl s) zm), (H, .cells (lk .u64 (rw_ 5 (lim 67108864 PN))) 156), (R, .cells (lk .u64 RF) 156), (K, bob (rw_ 32 (pkB key)) zk)] [] w ww10) := by rw [hv10]; exact hDx (HK9.out.setRow 5 rfl _)
    rw [← hv10]
    clear hv10
    clear FS
    clear hrow
    go_upto_region 23 with fail
    have hm11 := (HK10.out.made (.cells ZRu8x16 163))
    obtain ⟨TT, hgTT⟩ := nm ww10.heap.size
    obtain ⟨ww11, hv11⟩ := nm (World.alloc ww10 (.cells ZRu8x16 163))
    rw [← hv11, ← hgTT] at hm11
    rw [← hv11]
    try rw [← hgTT]
    have HK11 : Hid (KS [(TT, .cells (lk .u8 (rw_ 16 (fun _ => 0))) 163), (l, ol), (D, .deferred (some [])), (bz, .cells #[.int .i64 16] 3), (bs, .cells #[.slice (some ⟨M, 0, none⟩) s.size capm] 52), (M, bob (bl s) zm), (H, .cells (lk .u64 (rw_ 5 (lim 67108864 PN))) 156), (R, .cells (lk .u64 RF) 156), (K, bob (rw_ 32 (pkB key)) zk)] [] w ww11) := hDx hm11
    clear hm11 hv11 hgTT
    rw [← tK_zero 16 (PN + SN key)] at HK11
    go_upto_region 25 with fail
    go_loopw [15, 73] (fun vX vS wr => ∃ i : Nat, i ≤ 16 ∧ vS = .int .i64 (i : Int) ∧ vX = .int .u64 (cS PN (SN key) i : Int) ∧ KS [(TT, .cells (lk .u8 (rw_ 16 (tK (PN + SN key) i))) 163), (l, ol), (D, .deferred (some [])), (bz, .cells #[.int .i64 16] 3), (bs, .cells #[.slice (some ⟨M, 0, none⟩) s.size capm] 52), (M, bob (bl s) zm), (H, .cells (lk .u64 (rw_ 5 (lim 67108864 PN))) 156), (R, .cells (lk .u64 RF) 156), (K, bob (rw_ 32 (pkB key)) zk)] [] w wr) (fun vX vS _ => 16 - (intOf vS).toNat)
    case atStart => exact ⟨0, Nat.zero_le _, rfl, by rw [cS_zero]; rfl, HK11.out⟩
    obtain ⟨i, hi, rfl, rfl, HK⟩ := hrel
    have HK12 := hDx HK
    clear HK
    by_cases hlt : i < 16
    ·have hi1 : (0 : Int) ≤ i := by omega
     have hi2 : (i : Int) < 16 := by omega
     obtain ⟨hi3, hi4⟩ := i64w (x := (i : Int) + 1) (n := i + 1) (by omega) (by omega)
     obtain ⟨k8, q, m, c, A0, y1, kb, v, w1, cn, j16, p1, p2, hquo, hrem, q5, q1, q2, um, hsh, a0, hc, j1, j2, j3, j4, j5, ukb, hkb, hnx, es, hrest⟩ := tg_i key PN i HT.out.2.1 hlt
     rw [hc]
     obtain ⟨V, hV⟩ := nm (rw_ 16 (tK (PN + SN key) i))
     have lV : V.length = 16 := by rw [hV, rw_len']
     rw [← hV] at HK12
     rw [← hV] at es
     have c0 := (HK12.out.rk 6 rfl (rw_len' _ _)).cell q q5
     rw [a0] at c0
     have ck := HK12.out.bcell 8 rfl j16 (by rw [rw_len']; exact j5)
     rw [hkb] at ck
     have HJ := hDx (And.intro es (And.intro hlt hnx))
     have HI := hDx hlt
     replace hrest := hDx hrest
     clear hV es hlt hnx a0 hkb hc j5 q5
     by_cases h18 : 18 < m
     ·obtain ⟨qn, mm, A1, y2, y3, x8, s1, n1, n2, n3, n4, n5, e1, e2, um1, hs2, a1, ho, han, hsum1, hsum2, hby, hsh8⟩ := hrest.out.1 h18
      have c2 := (HK12.out.rk 6 rfl (rw_len' _ _)).cell qn n5
      rw [a1] at c2
      have g18 := gt18 h18
      clear hrest h18 a1 n5
      go_upto_region 31 with (first | (with_reducible show Oper.wp _ _ _ _ _ _; refine wp_bin hquo rfl rfl rfl ?_) | (with_reducible show Oper.wp _ _ _ _ _ _; refine wp_bin hrem rfl rfl rfl ?_) | (with_reducible show Oper.wp _ _ _ _ _ _; refine wp_shift hsh (Or.inl rfl) rfl rfl rfl ?_) | (with_reducible show Oper.wp _ _ _ _ _ _; refine wp_shift hs2 (Or.inr rfl) rfl rfl rfl ?_))
      have z1 := (HK12.out.rk 0 rfl lV).fz
      have c1 := (HK12.out.rk 0 rfl lV).cell i HI.out
      go_upto_region 33 with fail
      obtain ⟨ww13, hv13⟩ := nm (World.setCell wr ⟨TT, i, none⟩ (.int .u8 ((w1 : Int))))
      have HK13 : Hid (KS [(TT, .cells (lk .u8 (V.set i (w1 : Int))) 163), (l, ol), (D, .deferred (some [])), (bz, .cells #[.int .i64 16] 3), (bs, .cells #[.slice (some ⟨M, 0, none⟩) s.size capm] 52), (M, bob (bl s) zm), (H, .cells (lk .u64 (rw_ 5 (lim 67108864 PN))) 156), (R, .cells (lk .u64 RF) 156), (K, bob (rw_ 32 (pkB key)) zk)] [] w ww13) := by rw [hv13]; exact hDx (HK12.out.setK 0 rfl i ((w1 : Int)))
      rw [← hv13]
      clear hv13
      rw [← HJ.out.1] at HK13
      go_wp2_with fail
      go_roundw
      case rel =>
       exact ⟨i + 1, HJ.out.2.1, by first | rfl | go_num, by rw [HJ.out.2.2], HK13.out⟩
      exact measI 16 _ HJ.out.2.1
     obtain ⟨x8, s1, han, hsum1, hsum2, hby, hsh8⟩ := hrest.out.2 h18
     have g18 := ngt18 h18
     clear hrest h18
     go_upto_region 31 with (first | (with_reducible show Oper.wp _ _ _ _ _ _; refine wp_bin hquo rfl rfl rfl ?_) | (with_reducible show Oper.wp _ _ _ _ _ _; refine wp_bin hrem rfl rfl rfl ?_) | (with_reducible show Oper.wp _ _ _ _ _ _; refine wp_shift hsh (Or.inl rfl) rfl rfl rfl ?_))
     have z1 := (HK12.out.rk 0 rfl lV).fz
     have c1 := (HK12.out.rk 0 rfl lV).cell i HI.out
     go_upto_region 33 with fail
     obtain ⟨ww13, hv13⟩ := nm (World.setCell wr ⟨TT, i, none⟩ (.int .u8 ((w1 : Int))))
     have HK13 : Hid (KS [(TT, .cells (lk .u8 (V.set i (w1 : Int))) 163), (l, ol), (D, .deferred (some [])), (bz, .cells #[.int .i64 16] 3), (bs, .cells #[.slice (some ⟨M, 0, none⟩) s.size capm] 52), (M, bob (bl s) zm), (H, .cells (lk .u64 (rw_ 5 (lim 67108864 PN))) 156), (R, .cells (lk .u64 RF) 156), (K, bob (rw_ 32 (pkB key)) zk)] [] w ww13) := by rw [hv13]; exact hDx (HK12.out.setK 0 rfl i ((w1 : Int)))
     rw [← hv13]
     clear hv13
     rw [← HJ.out.1] at HK13
     go_wp2_with fail
     go_roundw
     case rel =>
      exact ⟨i + 1, HJ.out.2.1, by first | rfl | go_num, by rw [HJ.out.2.2], HK13.out⟩
     exact measI 16 _ HJ.out.2.1
    obtain rfl : i = 16 := by omega
    try simp only [Int.cast_ofNat_Int]
    rw [tK_all] at HK12
    have hcv := (HK12.out.rk 0 rfl (rw_len' _ _)).conv 16
    rw [← HT.out.1] at hcv
    go_wp2_with fail
    refine ⟨by simp, .inl ⟨_, _, rfl, run_takeDeferred (HK12.out.get 2 rfl), ?_⟩⟩
    exact ⟨_, results_tmp2 rfl _ _ _, rfl, (HK12.out.put 2 rfl _).below⟩
   case stop =>
    intro l D ol W HK
    exact absurd rfl ((List.pairwise_cons.1 HK.tail.tail.ne).1 _ (List.mem_cons_self ..))
end Go.Proofs.YtoplbfijodebmaaGreatDoor
