/-
  The walk.
-/
import Derived.Test.YtoplbfijodebmaaGreatDoorM21Elem7
set_option linter.unusedVariables false
set_option linter.unusedSimpArgs false
set_option maxRecDepth 100000
set_option maxHeartbeats 40000000
namespace Go.Proofs.YtoplbfijodebmaaGreatDoor
section
open Go.RowKit T
def pz (p q : El) : List Int := ev p ++ ev q
theorem pt_ext0 (p q : El) : (lk .u64 (pz p q)).extract 0 (0 + 5) = lk .u64 (ev p) := rfl
theorem pt_ext5 (p q : El) : (lk .u64 (pz p q)).extract 5 (5 + 5) = lk .u64 (ev q) := rfl
theorem build_pt (p q : El) (w : World) : (Instr.build 146 #[(0, .agg (lk .u64 (ev p))), (1, .agg (lk .u64 (ev q)))]).run Tryz.prog w = .ok (.agg (lk .u64 (pz p q))) w := by
 simp [go_sem, lk, ev, ni, El.l, pz]
theorem ag146 : AgTy 146 10 := agTy (by kernel_rfl)
theorem zp_fit : 0 + 10 ≤ (lk .u64 (zi 10)).size := Nat.le_refl 10
theorem lay_zp (p q : El) : lay (lk .u64 (zi 10)) 0 (lk .u64 (pz p q)) = lk .u64 (pz p q) := lay_all _ _ rfl
theorem results_cell2 {fn : Func} {p u : Tmp} {ty ty2 : TypeId} (h : fn.results = #[.cell p ty, .cell u ty2]) (tmps : Array Value) (P : Program) (w : World) :
  (results fn tmps).run P w = ((asAddr (tmps.getD p undef)).run P w).andThen fun a w₁ => ((loadVar ty a).run P w₁).andThen fun v w₂ => ((asAddr (tmps.getD u undef)).run P w₂).andThen fun a2 w₃ => ((loadVar ty2 a2).run P w₃).andThen fun v2 w₄ => .ok (.tuple #[v, v2]) w₄ := by
 simp only [results, h]
 simp [Sem.run_bind, Result.andThen]
theorem run_loadV {w : World} {b n t t' : Nat} {C : Array Value} (hb : w.heap[b]? = some (.cells C t')) (ht : AgTy t n) (hn : C.size = n) : (Go.loadVar t ⟨b, 0, none⟩).run Tryz.prog w = .ok (.agg C) w := by
 obtain ⟨⟨d, hu, hd⟩, hs⟩ := ht
 have := run_loadVar_mid (P := Tryz.prog) w b 0 t C.toList d (range_of_block (n := n) hb (by rw [Nat.zero_add, ← hn]; simp)) hu hd (by rw [hs, Array.length_toList, hn])
 simpa using this
theorem results_two {fn : Func} {p u : Tmp} {tmps : Array Value} {w : World} {b c n t t' t'' : Nat} {C D : Array Value} (h : fn.results = #[.cell p t, .cell u t]) (hp : tmps.getD p undef = .pointer (some ⟨b, 0, none⟩)) (hu : tmps.getD u undef = .pointer (some ⟨c, 0, none⟩))
  (hb : w.heap[b]? = some (.cells C t')) (hc : w.heap[c]? = some (.cells D t'')) (ht : AgTy t n) (hn : C.size = n) (hm : D.size = n) : (results fn tmps).run Tryz.prog w = .ok (.tuple #[.agg C, .agg D]) w := by
 rw [results_cell2 h, hp, hu]
 simp only [asAddr, Sem.run_pure, Result.andThen_ok, run_loadV hb ht hn, run_loadV hc ht hm]
def IsP (v : Value) (X Z : F) : Prop := ∃ p q : El, v = .agg (lk .u64 (pz p q)) ∧ EV p X ∧ EV q Z
theorem small1 (w : World) : Calls Tryz.prog 83 #[.int .u32 1] w fun e w' => (∃ z, e = .returned z ∧ IsE z 1) ∧ Below w.heap.size w w' := small_any 1 (by decide) w
theorem small121 (w : World) : Calls Tryz.prog 83 #[.int .u32 121665] w fun e w' => (∃ z, e = .returned z ∧ IsE z 121665) ∧ Below w.heap.size w w' := small_any 121665 (by decide) w
theorem step_any {x y u : Value} {X1 Z1 X2 Z2 U : F} (hx : IsP x X1 Z1) (hy : IsP y X2 Z2) (hu : IsE u U) (w : World) : Calls Tryz.prog 84 #[x, y, u] w fun e w' => (∃ a b, e = .returned (.tuple #[a, b]) ∧ IsP a (dblX X1 Z1) (dblZ X1 Z1) ∧ IsP b (addX X1 Z1 X2 Z2) (addZ U X1 Z1 X2 Z2)) ∧ Below w.heap.size w w' := by
 obtain ⟨p1, q1, rfl, hp1, hq1⟩ := hx
 obtain ⟨p2, q2, rfl, hp2, hq2⟩ := hy
 obtain ⟨u0, rfl, hu0⟩ := hu.ev
 obtain ⟨A, hA⟩ := nm (X1 + Z1)
 obtain ⟨D, hD⟩ := nm (X1 - Z1)
 obtain ⟨E, hE⟩ := nm (A * A - D * D)
 obtain ⟨DA, hDA⟩ := nm ((X2 - Z2) * A)
 obtain ⟨CB, hCB⟩ := nm ((X2 + Z2) * D)
 have HH := hDx (And.intro hA (And.intro hD (And.intro hE (And.intro hDA hCB))))
 clear hA hD hE hDA hCB
 go_enter Tryz.func84, Tryz.ntmps84
 have HK0 := hDx (KS.start w)
 go_upto_region 1 with (fail)
 have hm1 := (((((HK0.out.made (.cells (lk .u64 (pz p1 q1)) 146)).made (.cells (lk .u64 (pz p2 q2)) 146)).made (.cells (lk .u64 (ev u0)) 141)).made (.cells ZRu64x10 146)).made (.cells ZRu64x10 146))
 try rw [show ((World.alloc (World.alloc (World.alloc (World.alloc w (.cells (lk .u64 (pz p1 q1)) 146)) (.cells (lk .u64 (pz p2 q2)) 146)) (.cells (lk .u64 (ev u0)) 141)) (.cells ZRu64x10 146))).heap.size = w.heap.size + 4 by simp] at hm1
 try rw [show ((World.alloc (World.alloc (World.alloc w (.cells (lk .u64 (pz p1 q1)) 146)) (.cells (lk .u64 (pz p2 q2)) 146)) (.cells (lk .u64 (ev u0)) 141))).heap.size = w.heap.size + 3 by simp] at hm1
 try rw [show ((World.alloc (World.alloc w (.cells (lk .u64 (pz p1 q1)) 146)) (.cells (lk .u64 (pz p2 q2)) 146))).heap.size = w.heap.size + 2 by simp] at hm1
 try rw [show ((World.alloc w (.cells (lk .u64 (pz p1 q1)) 146))).heap.size = w.heap.size + 1 by simp] at hm1
 obtain ⟨R2, hgR2⟩ := nm (w.heap.size + 4)
 obtain ⟨R1, hgR1⟩ := nm (w.heap.size + 3)
 obtain ⟨BU, hgBU⟩ := nm (w.heap.size + 2)
 obtain ⟨P2, hgP2⟩ := nm (w.heap.size + 1)
 obtain ⟨P1, hgP1⟩ := nm w.heap.size
 obtain ⟨ww1, hv1⟩ := nm (World.alloc (World.alloc (World.alloc (World.alloc (World.alloc w (.cells (lk .u64 (pz p1 q1)) 146)) (.cells (lk .u64 (pz p2 q2)) 146)) (.cells (lk .u64 (ev u0)) 141)) (.cells ZRu64x10 146)) (.cells ZRu64x10 146))
 rw [← hv1, ← hgR2, ← hgR1, ← hgBU, ← hgP2, ← hgP1] at hm1
 rw [← hv1]
 try rw [← hgR2]
 try rw [← hgR1]
 try rw [← hgBU]
 try rw [← hgP2]
 try rw [← hgP1]
 have HK1 : Hid (KS [(R2, .cells (lk .u64 (zi 10)) 146), (R1, .cells (lk .u64 (zi 10)) 146), (BU, .cells (lk .u64 (ev u0)) 141), (P2, .cells (lk .u64 (pz p2 q2)) 146), (P1, .cells (lk .u64 (pz p1 q1)) 146)] [] w ww1) := hDx hm1
 clear hm1 hv1 hgP1 hgP2 hgBU hgR1 hgR2
 try simp only [Act.put, sAx, s0x, s1x]
 refine wp_region_calm 12 [17, 18, 19, 20, 21, 22, 23, 24, 25, 26, 8, 9] [8, 9] [[], [17], [], [19], [18, 20], [], [22], [], [24], [23, 25], [], []] (Ftab [(17, .val (.pointer (some ⟨P1, 0, none⟩))), (18, .val (.agg (lk .u64 (ev p1)))), (19, .val (.pointer (some ⟨P1, 5, none⟩))), (20, .val (.agg (lk .u64 (ev q1)))), (21, .of (fun v => IsE v (A))), (22, .val (.pointer (some ⟨P1, 0, none⟩))), (23, .val (.agg (lk .u64 (ev p1)))), (24, .val (.pointer (some ⟨P1, 5, none⟩))), (25, .val (.agg (lk .u64 (ev q1)))), (26, .of (fun v => IsE v (D))), (8, .obj ww1.heap.size (.cells #[.int .u64 0, .int .u64 0, .int .u64 0, .int .u64 0, .int .u64 0] 141)), (9, .obj ww1.heap.size (.cells #[.int .u64 0, .int .u64 0, .int .u64 0, .int .u64 0, .int .u64 0] 141))]) (by kernel_rfl) (by kernel_rfl) (by rfl) (by kernel_rfl) ?hO1 ?hE1
 case hO1 =>
  refine ⟨?_, ?_, ?_, ?_, ?_, ?_, ?_, ?_, ?_, ?_, ?_, ?_, trivial⟩
  ·intro act u HB HO HA
   have e3 := gE (x := .pointer (some ⟨P1, 0, none⟩)) (HO 3 (by decide))
   refine calm_val 17 _ rfl ?_ rfl rfl
   clear HB HO HA
   go_simp
   try rfl
  ·intro act u HB HO HA
   have e17 : _ = _ := qA HA 17
   have HS := HK1.out.drew.call HB
   exact calm_lM 18 17 e17 (HS.get 4 rfl) ag141 (pt_ext0 _ _) (ev_sz _) rfl rfl rfl rfl
  ·intro act u HB HO HA
   have e3 := gE (x := .pointer (some ⟨P1, 0, none⟩)) (HO 3 (by decide))
   refine calm_val 19 _ rfl ?_ rfl rfl
   clear HB HO HA
   go_simp
   try rfl
  ·intro act u HB HO HA
   have e19 : _ = _ := qA HA 19
   have HS := HK1.out.drew.call HB
   exact calm_lM 20 19 e19 (HS.get 4 rfl) ag141 (pt_ext5 _ _) (ev_sz _) rfl rfl rfl rfl
  ·intro act u HB HO HA
   have e18 : _ = _ := qA HA 18
   have e20 : _ = _ := qA HA 20
   refine calm_call 21 #[.agg (lk .u64 (ev p1)), .agg (lk .u64 (ev q1))] rfl rfl ?_ (by kernel_rfl) (eadd_any hp1.is hq1.is u) ?_ rfl
   ·simp only [mTx, mCx, mNx, e18, e20]
    try rfl
   rintro e u1 ⟨⟨y, rfl, hy⟩, B1⟩
   exact ⟨_, rfl, by rw [HH.out.1]; exact hy, B1⟩
  ·intro act u HB HO HA
   have e3 := gE (x := .pointer (some ⟨P1, 0, none⟩)) (HO 3 (by decide))
   refine calm_val 22 _ rfl ?_ rfl rfl
   clear HB HO HA
   go_simp
   try rfl
  ·intro act u HB HO HA
   have e22 : _ = _ := qA HA 22
   have HS := HK1.out.drew.call HB
   exact calm_lM 23 22 e22 (HS.get 4 rfl) ag141 (pt_ext0 _ _) (ev_sz _) rfl rfl rfl rfl
  ·intro act u HB HO HA
   have e3 := gE (x := .pointer (some ⟨P1, 0, none⟩)) (HO 3 (by decide))
   refine calm_val 24 _ rfl ?_ rfl rfl
   clear HB HO HA
   go_simp
   try rfl
  ·intro act u HB HO HA
   have e24 : _ = _ := qA HA 24
   have HS := HK1.out.drew.call HB
   exact calm_lM 25 24 e24 (HS.get 4 rfl) ag141 (pt_ext5 _ _) (ev_sz _) rfl rfl rfl rfl
  ·intro act u HB HO HA
   have e23 : _ = _ := qA HA 23
   have e25 : _ = _ := qA HA 25
   refine calm_call 26 #[.agg (lk .u64 (ev p1)), .agg (lk .u64 (ev q1))] rfl rfl ?_ (by kernel_rfl) (sub_any hp1.is hq1.is u) ?_ rfl
   ·simp only [mTx, mCx, mNx, e23, e25]
    try rfl
   rintro e u1 ⟨⟨y, rfl, hy⟩, B1⟩
   exact ⟨_, rfl, by rw [HH.out.2.1]; exact hy, B1⟩
  ·intro act u HB HO HA
   refine calm_new 8 (.cells #[.int .u64 0, .int .u64 0, .int .u64 0, .int .u64 0, .int .u64 0] 141) rfl ?_ (obj_new _ u _ (Nat.le_trans (by exact Nat.le_refl _) HB.size))
   go_simp
  intro act u HB HO HA
  refine calm_new 9 (.cells #[.int .u64 0, .int .u64 0, .int .u64 0, .int .u64 0, .int .u64 0] 141) rfl ?_ (obj_new _ u _ (Nat.le_trans (by exact Nat.le_refl _) HB.size))
  go_simp
 intro vT ww2 HB HF HN
 have f17 : _ = _ := qA HF 17
 have f18 : _ = _ := qA HF 18
 have f19 : _ = _ := qA HF 19
 have f20 : _ = _ := qA HF 20
 have p21 : (fun v => IsE v (A)) (vT 21) := qA HF 21
 obtain ⟨x21, f21⟩ : ∃ x, vT 21 = x := ⟨_, rfl⟩
 rw [f21] at p21
 have f22 : _ = _ := qA HF 22
 have f23 : _ = _ := qA HF 23
 have f24 : _ = _ := qA HF 24
 have f25 : _ = _ := qA HF 25
 have p26 : (fun v => IsE v (D)) (vT 26) := qA HF 26
 obtain ⟨x26, f26⟩ : ∃ x, vT 26 = x := ⟨_, rfl⟩
 rw [f26] at p26
 obtain ⟨CA, f8, q8, b8⟩ : (Fct.obj ww1.heap.size (.cells #[.int .u64 0, .int .u64 0, .int .u64 0, .int .u64 0, .int .u64 0] 141)).p (vT 8) ww2 := qA HF 8
 obtain ⟨CD, f9, q9, b9⟩ : (Fct.obj ww1.heap.size (.cells #[.int .u64 0, .int .u64 0, .int .u64 0, .int .u64 0, .int .u64 0] 141)).p (vT 9) ww2 := qA HF 9
 have n12 : CD ≠ CA := fun e => HN 9 8 (by decide) (by decide) (by decide) (by decide) (by decide) (by rw [f9, f8, e])
 have HK2 := hDx (KS.grow2 HK1.out.drew HB ⟨q9, b9⟩ ⟨q8, b8⟩ n12)
 clear n12 q8 b8 q9 b9
 simp only [fill, Act.put, sAx, s0x, s1x, dSx, d0x, f17, f18, f19, f20, f21, f22, f23, f24, f25, f26, f8, f9]
 clear HB HF HN f17 f18 f19 f20 f21 f22 f23 f24 f25 f26 f8 f9
 obtain ⟨ya, rfl, hya⟩ := p21.ev
 obtain ⟨yd, rfl, hyd⟩ := p26.ev
 replace hya := hDx hya
 replace hyd := hDx hyd
 have FS := (HK2.out.rk 1 rfl (show (zi 5).length = 5 from rfl))
 have K2 := HK2.out.setRow 1 rfl (lk .u64 (ev ya))
 have FT := K2.rk 0 rfl (show (zi 5).length = 5 from rfl)
 go_upto_region 2 with (first | (refine wpList_store_rk rfl _ _ rfl rfl rfl FS ty141 (ev_len _) ?_) | (refine wpList_store_rk rfl _ _ rfl rfl rfl FT ty141 (ev_len _) ?_))
 have K3 := K2.setRow 0 rfl (lk .u64 (ev yd))
 obtain ⟨ww3, hv3⟩ := nm (World.setRow (World.setRow ww2 CA (lk .u64 (ev ya))) CD (lk .u64 (ev yd)))
 rw [← hv3] at K3
 rw [← hv3]
 have HK3 : Hid (KS [(CD, .cells (lk .u64 (ev yd)) 141), (CA, .cells (lk .u64 (ev ya)) 141), (R2, .cells (lk .u64 (zi 10)) 146), (R1, .cells (lk .u64 (zi 10)) 146), (BU, .cells (lk .u64 (ev u0)) 141), (P2, .cells (lk .u64 (pz p2 q2)) 146), (P1, .cells (lk .u64 (pz p1 q1)) 146)] [] w ww3) := hDx K3
 clear K2 K3 hv3 FS FT
 clear p21 p26
 try simp only [Act.put, sAx, s0x, s1x]
 refine wp_region_calm 8 [27, 28, 29, 30, 31, 32, 10, 11] [10, 11] [[], [], [27, 28], [], [], [30, 31], [], []] (Ftab [(27, .val (.agg (lk .u64 (ev ya)))), (28, .val (.agg (lk .u64 (ev ya)))), (29, .of (fun v => IsE v (A * A))), (30, .val (.agg (lk .u64 (ev yd)))), (31, .val (.agg (lk .u64 (ev yd)))), (32, .of (fun v => IsE v (D * D))), (10, .obj ww3.heap.size (.cells #[.int .u64 0, .int .u64 0, .int .u64 0, .int .u64 0, .int .u64 0] 141)), (11, .obj ww3.heap.size (.cells #[.int .u64 0, .int .u64 0, .int .u64 0, .int .u64 0, .int .u64 0] 141))]) (by kernel_rfl) (by kernel_rfl) (by rfl) (by kernel_rfl) ?hO2 ?hE2
 case hO2 =>
  refine ⟨?_, ?_, ?_, ?_, ?_, ?_, ?_, ?_, trivial⟩
  ·intro act u HB HO HA
   have e8 : act.eval (.tmp 8) = .pointer (some ⟨CA, 0, none⟩) := HO 8 (by decide)
   have HS := HK3.out.drew.call HB
   exact calm_lM 27 8 e8 (HS.get 1 rfl) ag141 (ev_ext _) (ev_sz _) rfl rfl rfl rfl
  ·intro act u HB HO HA
   have e8 : act.eval (.tmp 8) = .pointer (some ⟨CA, 0, none⟩) := HO 8 (by decide)
   have HS := HK3.out.drew.call HB
   exact calm_lM 28 8 e8 (HS.get 1 rfl) ag141 (ev_ext _) (ev_sz _) rfl rfl rfl rfl
  ·intro act u HB HO HA
   have e27 : _ = _ := qA HA 27
   have e28 : _ = _ := qA HA 28
   refine calm_call 29 #[.agg (lk .u64 (ev ya)), .agg (lk .u64 (ev ya))] rfl rfl ?_ (by kernel_rfl) (mul_any hya.out.is hya.out.is u) ?_ rfl
   ·simp only [mTx, mCx, mNx, e27, e28]
    try rfl
   rintro e u1 ⟨⟨y, rfl, hy⟩, B1⟩
   exact ⟨_, rfl, hy, B1⟩
  ·intro act u HB HO HA
   have e9 : act.eval (.tmp 9) = .pointer (some ⟨CD, 0, none⟩) := HO 9 (by decide)
   have HS := HK3.out.drew.call HB
   exact calm_lM 30 9 e9 (HS.get 0 rfl) ag141 (ev_ext _) (ev_sz _) rfl rfl rfl rfl
  ·intro act u HB HO HA
   have e9 : act.eval (.tmp 9) = .pointer (some ⟨CD, 0, none⟩) := HO 9 (by decide)
   have HS := HK3.out.drew.call HB
   exact calm_lM 31 9 e9 (HS.get 0 rfl) ag141 (ev_ext _) (ev_sz _) rfl rfl rfl rfl
  ·intro act u HB HO HA
   have e30 : _ = _ := qA HA 30
   have e31 : _ = _ := qA HA 31
   refine calm_call 32 #[.agg (lk .u64 (ev yd)), .agg (lk .u64 (ev yd))] rfl rfl ?_ (by kernel_rfl) (mul_any hyd.out.is hyd.out.is u) ?_ rfl
   ·simp only [mTx, mCx, mNx, e30, e31]
    try rfl
   rintro e u1 ⟨⟨y, rfl, hy⟩, B1⟩
   exact ⟨_, rfl, hy, B1⟩
  ·intro act u HB HO HA
   refine calm_new 10 (.cells #[.int .u64 0, .int .u64 0, .int .u64 0, .int .u64 0, .int .u64 0] 141) rfl ?_ (obj_new _ u _ (Nat.le_trans (by exact Nat.le_refl _) HB.size))
   go_simp
  intro act u HB HO HA
  refine calm_new 11 (.cells #[.int .u64 0, .int .u64 0, .int .u64 0, .int .u64 0, .int .u64 0] 141) rfl ?_ (obj_new _ u _ (Nat.le_trans (by exact Nat.le_refl _) HB.size))
  go_simp
 intro vT ww4 HB HF HN
 have f27 : _ = _ := qA HF 27
 have f28 : _ = _ := qA HF 28
 have p29 : (fun v => IsE v (A * A)) (vT 29) := qA HF 29
 obtain ⟨x29, f29⟩ : ∃ x, vT 29 = x := ⟨_, rfl⟩
 rw [f29] at p29
 have f30 : _ = _ := qA HF 30
 have f31 : _ = _ := qA HF 31
 have p32 : (fun v => IsE v (D * D)) (vT 32) := qA HF 32
 obtain ⟨x32, f32⟩ : ∃ x, vT 32 = x := ⟨_, rfl⟩
 rw [f32] at p32
 obtain ⟨AA, f10, q10, b10⟩ : (Fct.obj ww3.heap.size (.cells #[.int .u64 0, .int .u64 0, .int .u64 0, .int .u64 0, .int .u64 0] 141)).p (vT 10) ww4 := qA HF 10
 obtain ⟨DD, f11, q11, b11⟩ : (Fct.obj ww3.heap.size (.cells #[.int .u64 0, .int .u64 0, .int .u64 0, .int .u64 0, .int .u64 0] 141)).p (vT 11) ww4 := qA HF 11
 have n12 : DD ≠ AA := fun e => HN 11 10 (by decide) (by decide) (by decide) (by decide) (by decide) (by rw [f11, f10, e])
 have HK4 := hDx (KS.grow2 HK3.out.drew HB ⟨q11, b11⟩ ⟨q10, b10⟩ n12)
 clear n12 q10 b10 q11 b11
 simp only [fill, Act.put, sAx, s0x, s1x, dSx, d0x, f27, f28, f29, f30, f31, f32, f10, f11]
 clear HB HF HN f27 f28 f29 f30 f31 f32 f10 f11
 obtain ⟨yaa, rfl, hyaa⟩ := p29.ev
 obtain ⟨ydd, rfl, hydd⟩ := p32.ev
 replace hyaa := hDx hyaa
 replace hydd := hDx hydd
 have FS := (HK4.out.rk 1 rfl (show (zi 5).length = 5 from rfl))
 have K2 := HK4.out.setRow 1 rfl (lk .u64 (ev yaa))
 have FT := K2.rk 0 rfl (show (zi 5).length = 5 from rfl)
 go_upto_region 3 with (first | (refine wpList_store_rk rfl _ _ rfl rfl rfl FS ty141 (ev_len _) ?_) | (refine wpList_store_rk rfl _ _ rfl rfl rfl FT ty141 (ev_len _) ?_))
 have K3 := K2.setRow 0 rfl (lk .u64 (ev ydd))
 obtain ⟨ww5, hv5⟩ := nm (World.setRow (World.setRow ww4 AA (lk .u64 (ev yaa))) DD (lk .u64 (ev ydd)))
 rw [← hv5] at K3
 rw [← hv5]
 have HK5 : Hid (KS [(DD, .cells (lk .u64 (ev ydd)) 141), (AA, .cells (lk .u64 (ev yaa)) 141), (CD, .cells (lk .u64 (ev yd)) 141), (CA, .cells (lk .u64 (ev ya)) 141), (R2, .cells (lk .u64 (zi 10)) 146), (R1, .cells (lk .u64 (zi 10)) 146), (BU, .cells (lk .u64 (ev u0)) 141), (P2, .cells (lk .u64 (pz p2 q2)) 146), (P1, .cells (lk .u64 (pz p1 q1)) 146)] [] w ww5) := hDx K3
 clear K2 K3 hv5 FS FT
 clear p29 p32
 have F1 := (HK5.out.rk 1 rfl (ev_len _))
 have F2 := (HK5.out.rk 0 rfl (ev_len _))
 go_wp2_with (first | (refine wpList_load_rk rfl _ rfl rfl F1 ty141 ?_) | (refine wpList_load_rk rfl _ rfl rfl F2 ty141 ?_))
 refine (sub_any hyaa.out.is hydd.out.is _).mono ?_
 rintro e ww6 ⟨⟨y, rfl, hye0⟩, B1⟩
 simp only []
 have HK6 := hDx (HK5.out.call B1)
 clear B1
 rw [← HH.out.2.2.1] at hye0
 obtain ⟨ye, rfl, hye⟩ := hye0.ev
 clear hye0 F1 F2
 replace hye := hDx hye
 have FH7 := rk_new ww6 141 5 .u64 (zi 5) (zi_len 5)
 go_upto_region 4 with (refine wpList_store_rk rfl _ _ rfl rfl rfl FH7 ty141 (ev_len ye) ?_)
 have hm7 := (HK6.out.made (.cells #[.int .u64 0, .int .u64 0, .int .u64 0, .int .u64 0, .int .u64 0] 141)).setRow 0 rfl (lk .u64 (ev ye))
 obtain ⟨EE, hgEE⟩ := nm ww6.heap.size
 obtain ⟨ww7, hv7⟩ := nm (World.setRow (World.alloc ww6 (.cells #[.int .u64 0, .int .u64 0, .int .u64 0, .int .u64 0, .int .u64 0] 141)) ww6.heap.size (lk .u64 (ev ye)))
 rw [← hv7, ← hgEE] at hm7
 rw [← hv7]
 try rw [← hgEE]
 have HK7 : Hid (KS [(EE, .cells (lk .u64 (ev ye)) 141), (DD, .cells (lk .u64 (ev ydd)) 141), (AA, .cells (lk .u64 (ev yaa)) 141), (CD, .cells (lk .u64 (ev yd)) 141), (CA, .cells (lk .u64 (ev ya)) 141), (R2, .cells (lk .u64 (zi 10)) 146), (R1, .cells (lk .u64 (zi 10)) 146), (BU, .cells (lk .u64 (ev u0)) 141), (P2, .cells (lk .u64 (pz p2 q2)) 146), (P1, .cells (lk .u64 (pz p1 q1)) 146)] [] w ww7) := hDx hm7
 clear hm7 hv7 hgEE
 try simp only [Act.put, sAx, s0x, s1x]
 refine wp_region_calm 16 [36, 37, 38, 39, 40, 41, 42, 43, 44, 45, 46, 47, 48, 49, 13, 14] [13, 14] [[], [36], [], [38], [37, 39], [], [40, 41], [], [43], [], [45], [44, 46], [], [47, 48], [], []] (Ftab [(36, .val (.pointer (some ⟨P2, 0, none⟩))), (37, .val (.agg (lk .u64 (ev p2)))), (38, .val (.pointer (some ⟨P2, 5, none⟩))), (39, .val (.agg (lk .u64 (ev q2)))), (40, .of (fun v => IsE v (X2 - Z2))), (41, .val (.agg (lk .u64 (ev ya)))), (42, .of (fun v => IsE v (DA))), (43, .val (.pointer (some ⟨P2, 0, none⟩))), (44, .val (.agg (lk .u64 (ev p2)))), (45, .val (.pointer (some ⟨P2, 5, none⟩))), (46, .val (.agg (lk .u64 (ev q2)))), (47, .of (fun v => IsE v (X2 + Z2))), (48, .val (.agg (lk .u64 (ev yd)))), (49, .of (fun v => IsE v (CB))), (13, .obj ww7.heap.size (.cells #[.int .u64 0, .int .u64 0, .int .u64 0, .int .u64 0, .int .u64 0] 141)), (14, .obj ww7.heap.size (.cells #[.int .u64 0, .int .u64 0, .int .u64 0, .int .u64 0, .int .u64 0] 141))]) (by kernel_rfl) (by kernel_rfl) (by rfl) (by kernel_rfl) ?hO3 ?hE3
 case hO3 =>
  refine ⟨?_, ?_, ?_, ?_, ?_, ?_, ?_, ?_, ?_, ?_, ?_, ?_, ?_, ?_, ?_, ?_, trivial⟩
  ·intro act u HB HO HA
   have e4 := gE (x := .pointer (some ⟨P2, 0, none⟩)) (HO 4 (by decide))
   refine calm_val 36 _ rfl ?_ rfl rfl
   clear HB HO HA
   go_simp
   try rfl
  ·intro act u HB HO HA
   have e36 : _ = _ := qA HA 36
   have HS := HK7.out.drew.call HB
   exact calm_lM 37 36 e36 (HS.get 8 rfl) ag141 (pt_ext0 _ _) (ev_sz _) rfl rfl rfl rfl
  ·intro act u HB HO HA
   have e4 := gE (x := .pointer (some ⟨P2, 0, none⟩)) (HO 4 (by decide))
   refine calm_val 38 _ rfl ?_ rfl rfl
   clear HB HO HA
   go_simp
   try rfl
  ·intro act u HB HO HA
   have e38 : _ = _ := qA HA 38
   have HS := HK7.out.drew.call HB
   exact calm_lM 39 38 e38 (HS.get 8 rfl) ag141 (pt_ext5 _ _) (ev_sz _) rfl rfl rfl rfl
  ·intro act u HB HO HA
   have e37 : _ = _ := qA HA 37
   have e39 : _ = _ := qA HA 39
   refine calm_call 40 #[.agg (lk .u64 (ev p2)), .agg (lk .u64 (ev q2))] rfl rfl ?_ (by kernel_rfl) (sub_any hp2.is hq2.is u) ?_ rfl
   ·simp only [mTx, mCx, mNx, e37, e39]
    try rfl
   rintro e u1 ⟨⟨y, rfl, hy⟩, B1⟩
   exact ⟨_, rfl, hy, B1⟩
  ·intro act u HB HO HA
   have e8 : act.eval (.tmp 8) = .pointer (some ⟨CA, 0, none⟩) := HO 8 (by decide)
   have HS := HK7.out.drew.call HB
   exact calm_lM 41 8 e8 (HS.get 4 rfl) ag141 (ev_ext _) (ev_sz _) rfl rfl rfl rfl
  ·intro act u HB HO HA
   have p40 : (fun v => IsE v (X2 - Z2)) (act.eval (.tmp 40)) := qA HA 40
   obtain ⟨x40, e40⟩ : ∃ x, act.eval (.tmp 40) = x := ⟨_, rfl⟩
   rw [e40] at p40
   have e41 : _ = _ := qA HA 41
   refine calm_call 42 #[x40, .agg (lk .u64 (ev ya))] rfl rfl ?_ (by kernel_rfl) (mul_any p40 hya.out.is u) ?_ rfl
   ·simp only [mTx, mCx, mNx, e40, e41]
    try rfl
   rintro e u1 ⟨⟨y, rfl, hy⟩, B1⟩
   exact ⟨_, rfl, by rw [HH.out.2.2.2.1]; exact hy, B1⟩
  ·intro act u HB HO HA
   have e4 := gE (x := .pointer (some ⟨P2, 0, none⟩)) (HO 4 (by decide))
   refine calm_val 43 _ rfl ?_ rfl rfl
   clear HB HO HA
   go_simp
   try rfl
  ·intro act u HB HO HA
   have e43 : _ = _ := qA HA 43
   have HS := HK7.out.drew.call HB
   exact calm_lM 44 43 e43 (HS.get 8 rfl) ag141 (pt_ext0 _ _) (ev_sz _) rfl rfl rfl rfl
  ·intro act u HB HO HA
   have e4 := gE (x := .pointer (some ⟨P2, 0, none⟩)) (HO 4 (by decide))
   refine calm_val 45 _ rfl ?_ rfl rfl
   clear HB HO HA
   go_simp
   try rfl
  ·intro act u HB HO HA
   have e45 : _ = _ := qA HA 45
   have HS := HK7.out.drew.call HB
   exact calm_lM 46 45 e45 (HS.get 8 rfl) ag141 (pt_ext5 _ _) (ev_sz _) rfl rfl rfl rfl
  ·intro act u HB HO HA
   have e44 : _ = _ := qA HA 44
   have e46 : _ = _ := qA HA 46
   refine calm_call 47 #[.agg (lk .u64 (ev p2)), .agg (lk .u64 (ev q2))] rfl rfl ?_ (by kernel_rfl) (eadd_any hp2.is hq2.is u) ?_ rfl
   ·simp only [mTx, mCx, mNx, e44, e46]
    try rfl
   rintro e u1 ⟨⟨y, rfl, hy⟩, B1⟩
   exact ⟨_, rfl, hy, B1⟩
  ·intro act u HB HO HA
   have e9 : act.eval (.tmp 9) = .pointer (some ⟨CD, 0, none⟩) := HO 9 (by decide)
   have HS := HK7.out.drew.call HB
   exact calm_lM 48 9 e9 (HS.get 3 rfl) ag141 (ev_ext _) (ev_sz _) rfl rfl rfl rfl
  ·intro act u HB HO HA
   have p47 : (fun v => IsE v (X2 + Z2)) (act.eval (.tmp 47)) := qA HA 47
   obtain ⟨x47, e47⟩ : ∃ x, act.eval (.tmp 47) = x := ⟨_, rfl⟩
   rw [e47] at p47
   have e48 : _ = _ := qA HA 48
   refine calm_call 49 #[x47, .agg (lk .u64 (ev yd))] rfl rfl ?_ (by kernel_rfl) (mul_any p47 hyd.out.is u) ?_ rfl
   ·simp only [mTx, mCx, mNx, e47, e48]
    try rfl
   rintro e u1 ⟨⟨y, rfl, hy⟩, B1⟩
   exact ⟨_, rfl, by rw [HH.out.2.2.2.2]; exact hy, B1⟩
  ·intro act u HB HO HA
   refine calm_new 13 (.cells #[.int .u64 0, .int .u64 0, .int .u64 0, .int .u64 0, .int .u64 0] 141) rfl ?_ (obj_new _ u _ (Nat.le_trans (by exact Nat.le_refl _) HB.size))
   go_simp
  intro act u HB HO HA
  refine calm_new 14 (.cells #[.int .u64 0, .int .u64 0, .int .u64 0, .int .u64 0, .int .u64 0] 141) rfl ?_ (obj_new _ u _ (Nat.le_trans (by exact Nat.le_refl _) HB.size))
  go_simp
 intro vT ww8 HB HF HN
 have f36 : _ = _ := qA HF 36
 have f37 : _ = _ := qA HF 37
 have f38 : _ = _ := qA HF 38
 have f39 : _ = _ := qA HF 39
 have p40 : (fun v => IsE v (X2 - Z2)) (vT 40) := qA HF 40
 obtain ⟨x40, f40⟩ : ∃ x, vT 40 = x := ⟨_, rfl⟩
 rw [f40] at p40
 have f41 : _ = _ := qA HF 41
 have p42 : (fun v => IsE v (DA)) (vT 42) := qA HF 42
 obtain ⟨x42, f42⟩ : ∃ x, vT 42 = x := ⟨_, rfl⟩
 rw [f42] at p42
 have f43 : _ = _ := qA HF 43
 have f44 : _ = _ := qA HF 44
 have f45 : _ = _ := qA HF 45
 have f46 : _ = _ := qA HF 46
 have p47 : (fun v => IsE v (X2 + Z2)) (vT 47) := qA HF 47
 obtain ⟨x47, f47⟩ : ∃ x, vT 47 = x := ⟨_, rfl⟩
 rw [f47] at p47
 have f48 : _ = _ := qA HF 48
 have p49 : (fun v => IsE v (CB)) (vT 49) := qA HF 49
 obtain ⟨x49, f49⟩ : ∃ x, vT 49 = x := ⟨_, rfl⟩
 rw [f49] at p49
 obtain ⟨XDA, f13, q13, b13⟩ : (Fct.obj ww7.heap.size (.cells #[.int .u64 0, .int .u64 0, .int .u64 0, .int .u64 0, .int .u64 0] 141)).p (vT 13) ww8 := qA HF 13
 obtain ⟨XCB, f14, q14, b14⟩ : (Fct.obj ww7.heap.size (.cells #[.int .u64 0, .int .u64 0, .int .u64 0, .int .u64 0, .int .u64 0] 141)).p (vT 14) ww8 := qA HF 14
 have n12 : XCB ≠ XDA := fun e => HN 14 13 (by decide) (by decide) (by decide) (by decide) (by decide) (by rw [f14, f13, e])
 have HK8 := hDx (KS.grow2 HK7.out.drew HB ⟨q14, b14⟩ ⟨q13, b13⟩ n12)
 clear n12 q13 b13 q14 b14
 simp only [fill, Act.put, sAx, s0x, s1x, dSx, d0x, f36, f37, f38, f39, f40, f41, f42, f43, f44, f45, f46, f47, f48, f49, f13, f14]
 clear HB HF HN f36 f37 f38 f39 f40 f41 f42 f43 f44 f45 f46 f47 f48 f49 f13 f14
 obtain ⟨yda, rfl, hyda⟩ := p42.ev
 obtain ⟨ycb, rfl, hycb⟩ := p49.ev
 replace hyda := hDx hyda
 replace hycb := hDx hycb
 have FS := (HK8.out.rk 1 rfl (show (zi 5).length = 5 from rfl))
 have K2 := HK8.out.setRow 1 rfl (lk .u64 (ev yda))
 have FT := K2.rk 0 rfl (show (zi 5).length = 5 from rfl)
 go_upto_region 5 with (first | (refine wpList_store_rk rfl _ _ rfl rfl rfl FS ty141 (ev_len _) ?_) | (refine wpList_store_rk rfl _ _ rfl rfl rfl FT ty141 (ev_len _) ?_))
 have K3 := K2.setRow 0 rfl (lk .u64 (ev ycb))
 obtain ⟨ww9, hv9⟩ := nm (World.setRow (World.setRow ww8 XDA (lk .u64 (ev yda))) XCB (lk .u64 (ev ycb)))
 rw [← hv9] at K3
 rw [← hv9]
 have HK9 : Hid (KS [(XCB, .cells (lk .u64 (ev ycb)) 141), (XDA, .cells (lk .u64 (ev yda)) 141), (EE, .cells (lk .u64 (ev ye)) 141), (DD, .cells (lk .u64 (ev ydd)) 141), (AA, .cells (lk .u64 (ev yaa)) 141), (CD, .cells (lk .u64 (ev yd)) 141), (CA, .cells (lk .u64 (ev ya)) 141), (R2, .cells (lk .u64 (zi 10)) 146), (R1, .cells (lk .u64 (zi 10)) 146), (BU, .cells (lk .u64 (ev u0)) 141), (P2, .cells (lk .u64 (pz p2 q2)) 146), (P1, .cells (lk .u64 (pz p1 q1)) 146)] [] w ww9) := hDx K3
 clear K2 K3 hv9 FS FT
 clear p40 p42 p47 p49
 try simp only [Act.put, sAx, s0x, s1x]
 refine wp_region_calm 8 [50, 51, 52, 53, 54, 55, 15, 16] [15, 16] [[], [], [50, 51], [], [], [53, 54], [], []] (Ftab [(50, .val (.agg (lk .u64 (ev yda)))), (51, .val (.agg (lk .u64 (ev ycb)))), (52, .of (fun v => IsE v (DA + CB))), (53, .val (.agg (lk .u64 (ev yda)))), (54, .val (.agg (lk .u64 (ev ycb)))), (55, .of (fun v => IsE v (DA - CB))), (15, .obj ww9.heap.size (.cells #[.int .u64 0, .int .u64 0, .int .u64 0, .int .u64 0, .int .u64 0] 141)), (16, .obj ww9.heap.size (.cells #[.int .u64 0, .int .u64 0, .int .u64 0, .int .u64 0, .int .u64 0] 141))]) (by kernel_rfl) (by kernel_rfl) (by rfl) (by kernel_rfl) ?hO4 ?hE4
 case hO4 =>
  refine ⟨?_, ?_, ?_, ?_, ?_, ?_, ?_, ?_, trivial⟩
  ·intro act u HB HO HA
   have e13 : act.eval (.tmp 13) = .pointer (some ⟨XDA, 0, none⟩) := HO 13 (by decide)
   have HS := HK9.out.drew.call HB
   exact calm_lM 50 13 e13 (HS.get 1 rfl) ag141 (ev_ext _) (ev_sz _) rfl rfl rfl rfl
  ·intro act u HB HO HA
   have e14 : act.eval (.tmp 14) = .pointer (some ⟨XCB, 0, none⟩) := HO 14 (by decide)
   have HS := HK9.out.drew.call HB
   exact calm_lM 51 14 e14 (HS.get 0 rfl) ag141 (ev_ext _) (ev_sz _) rfl rfl rfl rfl
  ·intro act u HB HO HA
   have e50 : _ = _ := qA HA 50
   have e51 : _ = _ := qA HA 51
   refine calm_call 52 #[.agg (lk .u64 (ev yda)), .agg (lk .u64 (ev ycb))] rfl rfl ?_ (by kernel_rfl) (eadd_any hyda.out.is hycb.out.is u) ?_ rfl
   ·simp only [mTx, mCx, mNx, e50, e51]
    try rfl
   rintro e u1 ⟨⟨y, rfl, hy⟩, B1⟩
   exact ⟨_, rfl, hy, B1⟩
  ·intro act u HB HO HA
   have e13 : act.eval (.tmp 13) = .pointer (some ⟨XDA, 0, none⟩) := HO 13 (by decide)
   have HS := HK9.out.drew.call HB
   exact calm_lM 53 13 e13 (HS.get 1 rfl) ag141 (ev_ext _) (ev_sz _) rfl rfl rfl rfl
  ·intro act u HB HO HA
   have e14 : act.eval (.tmp 14) = .pointer (some ⟨XCB, 0, none⟩) := HO 14 (by decide)
   have HS := HK9.out.drew.call HB
   exact calm_lM 54 14 e14 (HS.get 0 rfl) ag141 (ev_ext _) (ev_sz _) rfl rfl rfl rfl
  ·intro act u HB HO HA
   have e53 : _ = _ := qA HA 53
   have e54 : _ = _ := qA HA 54
   refine calm_call 55 #[.agg (lk .u64 (ev yda)), .agg (lk .u64 (ev ycb))] rfl rfl ?_ (by kernel_rfl) (sub_any hyda.out.is hycb.out.is u) ?_ rfl
   ·simp only [mTx, mCx, mNx, e53, e54]
    try rfl
   rintro e u1 ⟨⟨y, rfl, hy⟩, B1⟩
   exact ⟨_, rfl, hy, B1⟩
  ·intro act u HB HO HA
   refine calm_new 15 (.cells #[.int .u64 0, .int .u64 0, .int .u64 0, .int .u64 0, .int .u64 0] 141) rfl ?_ (obj_new _ u _ (Nat.le_trans (by exact Nat.le_refl _) HB.size))
   go_simp
  intro act u HB HO HA
  refine calm_new 16 (.cells #[.int .u64 0, .int .u64 0, .int .u64 0, .int .u64 0, .int .u64 0] 141) rfl ?_ (obj_new _ u _ (Nat.le_trans (by exact Nat.le_refl _) HB.size))
  go_simp
 intro vT ww10 HB HF HN
 have f50 : _ = _ := qA HF 50
 have f51 : _ = _ := qA HF 51
 have p52 : (fun v => IsE v (DA + CB)) (vT 52) := qA HF 52
 obtain ⟨x52, f52⟩ : ∃ x, vT 52 = x := ⟨_, rfl⟩
 rw [f52] at p52
 have f53 : _ = _ := qA HF 53
 have f54 : _ = _ := qA HF 54
 have p55 : (fun v => IsE v (DA - CB)) (vT 55) := qA HF 55
 obtain ⟨x55, f55⟩ : ∃ x, vT 55 = x := ⟨_, rfl⟩
 rw [f55] at p55
 obtain ⟨SS, f15, q15, b15⟩ : (Fct.obj ww9.heap.size (.cells #[.int .u64 0, .int .u64 0, .int .u64 0, .int .u64 0, .int .u64 0] 141)).p (vT 15) ww10 := qA HF 15
 obtain ⟨TT, f16, q16, b16⟩ : (Fct.obj ww9.heap.size (.cells #[.int .u64 0, .int .u64 0, .int .u64 0, .int .u64 0, .int .u64 0] 141)).p (vT 16) ww10 := qA HF 16
 have n12 : TT ≠ SS := fun e => HN 16 15 (by decide) (by decide) (by decide) (by decide) (by decide) (by rw [f16, f15, e])
 have HK10 := hDx (KS.grow2 HK9.out.drew HB ⟨q16, b16⟩ ⟨q15, b15⟩ n12)
 clear n12 q15 b15 q16 b16
 simp only [fill, Act.put, sAx, s0x, s1x, dSx, d0x, f50, f51, f52, f53, f54, f55, f15, f16]
 clear HB HF HN f50 f51 f52 f53 f54 f55 f15 f16
 obtain ⟨ys, rfl, hys⟩ := p52.ev
 obtain ⟨yt, rfl, hyt⟩ := p55.ev
 replace hys := hDx hys
 replace hyt := hDx hyt
 have FS := (HK10.out.rk 1 rfl (show (zi 5).length = 5 from rfl))
 have K2 := HK10.out.setRow 1 rfl (lk .u64 (ev ys))
 have FT := K2.rk 0 rfl (show (zi 5).length = 5 from rfl)
 go_upto_region 6 with (first | (refine wpList_store_rk rfl _ _ rfl rfl rfl FS ty141 (ev_len _) ?_) | (refine wpList_store_rk rfl _ _ rfl rfl rfl FT ty141 (ev_len _) ?_))
 have K3 := K2.setRow 0 rfl (lk .u64 (ev yt))
 obtain ⟨ww11, hv11⟩ := nm (World.setRow (World.setRow ww10 SS (lk .u64 (ev ys))) TT (lk .u64 (ev yt)))
 rw [← hv11] at K3
 rw [← hv11]
 have HK11 : Hid (KS [(TT, .cells (lk .u64 (ev yt)) 141), (SS, .cells (lk .u64 (ev ys)) 141), (XCB, .cells (lk .u64 (ev ycb)) 141), (XDA, .cells (lk .u64 (ev yda)) 141), (EE, .cells (lk .u64 (ev ye)) 141), (DD, .cells (lk .u64 (ev ydd)) 141), (AA, .cells (lk .u64 (ev yaa)) 141), (CD, .cells (lk .u64 (ev yd)) 141), (CA, .cells (lk .u64 (ev ya)) 141), (R2, .cells (lk .u64 (zi 10)) 146), (R1, .cells (lk .u64 (zi 10)) 146), (BU, .cells (lk .u64 (ev u0)) 141), (P2, .cells (lk .u64 (pz p2 q2)) 146), (P1, .cells (lk .u64 (pz p1 q1)) 146)] [] w ww11) := hDx K3
 clear K2 K3 hv11 FS FT
 clear p52 p55
 try simp only [Act.put, sAx, s0x, s1x]
 refine wp_region_calm_late 20 19 [56, 57, 58, 59, 60, 61, 62, 63, 64, 65, 66, 67, 68, 69, 70, 71, 72, 73, 74, 75] [] [[], [], [56, 57], [], [], [], [], [61, 62], [60, 63], [59, 64], [58, 65], [], [], [67, 68], [], [], [], [71, 72], [70, 73], [69, 74]] (Ftab [(56, .val (.agg (lk .u64 (ev yaa)))), (57, .val (.agg (lk .u64 (ev ydd)))), (58, .of (fun v => IsE v (A * A * (D * D)))), (59, .val (.agg (lk .u64 (ev ye)))), (60, .val (.agg (lk .u64 (ev yaa)))), (61, .of (fun v => IsE v (121665))), (62, .val (.agg (lk .u64 (ev ye)))), (63, .of (fun v => IsE v (121665 * E))), (64, .of (fun v => IsE v (A * A + 121665 * E))), (65, .of (fun v => IsE v (E * (A * A + 121665 * E)))), (66, .of (fun v => IsP v (A * A * (D * D)) (E * (A * A + 121665 * E)))), (67, .val (.agg (lk .u64 (ev ys)))), (68, .val (.agg (lk .u64 (ev ys)))), (69, .of (fun v => IsE v ((DA + CB) * (DA + CB)))), (70, .val (.agg (lk .u64 (ev u0)))), (71, .val (.agg (lk .u64 (ev yt)))), (72, .val (.agg (lk .u64 (ev yt)))), (73, .of (fun v => IsE v ((DA - CB) * (DA - CB)))), (74, .of (fun v => IsE v (U * ((DA - CB) * (DA - CB))))), (75, .of (fun v => IsP v ((DA + CB) * (DA + CB)) (U * ((DA - CB) * (DA - CB)))))]) (by kernel_rfl) (by kernel_rfl) (by rfl) (by kernel_rfl) 75 rfl rfl (by kernel_rfl) rfl (fun _ _ _ _ h => h) ?hY5 ?hO5 ?hE5
 case hY5 =>
  intro act u HB HO HA
  have p69 : (fun v => IsE v ((DA + CB) * (DA + CB))) (act.eval (.tmp 69)) := qA HA 69
  obtain ⟨x69, e69⟩ : ∃ x, act.eval (.tmp 69) = x := ⟨_, rfl⟩
  rw [e69] at p69
  have p74 : (fun v => IsE v (U * ((DA - CB) * (DA - CB)))) (act.eval (.tmp 74)) := qA HA 74
  obtain ⟨x74, e74⟩ : ∃ x, act.eval (.tmp 74) = x := ⟨_, rfl⟩
  rw [e74] at p74
  obtain ⟨a, rfl, ha⟩ := p69.ev
  obtain ⟨b, rfl, hb⟩ := p74.ev
  exact ⟨.agg (lk .u64 (pz a b)), fun w => run_build rfl (by simp only [mTx, mCx, mNx, e69, e74]) (build_pt a b w), ⟨a, b, rfl, ha, hb⟩⟩
 case hO5 =>
  refine ⟨?_, ?_, ?_, ?_, ?_, ?_, ?_, ?_, ?_, ?_, ?_, ?_, ?_, ?_, ?_, ?_, ?_, ?_, ?_, ?_, trivial⟩
  ·intro act u HB HO HA
   have e10 : act.eval (.tmp 10) = .pointer (some ⟨AA, 0, none⟩) := HO 10 (by decide)
   have HS := HK11.out.drew.call HB
   exact calm_lM 56 10 e10 (HS.get 6 rfl) ag141 (ev_ext _) (ev_sz _) rfl rfl rfl rfl
  ·intro act u HB HO HA
   have e11 : act.eval (.tmp 11) = .pointer (some ⟨DD, 0, none⟩) := HO 11 (by decide)
   have HS := HK11.out.drew.call HB
   exact calm_lM 57 11 e11 (HS.get 5 rfl) ag141 (ev_ext _) (ev_sz _) rfl rfl rfl rfl
  ·intro act u HB HO HA
   have e56 : _ = _ := qA HA 56
   have e57 : _ = _ := qA HA 57
   refine calm_call 58 #[.agg (lk .u64 (ev yaa)), .agg (lk .u64 (ev ydd))] rfl rfl ?_ (by kernel_rfl) (mul_any hyaa.out.is hydd.out.is u) ?_ rfl
   ·simp only [mTx, mCx, mNx, e56, e57]
    try rfl
   rintro e u1 ⟨⟨y, rfl, hy⟩, B1⟩
   exact ⟨_, rfl, hy, B1⟩
  ·intro act u HB HO HA
   have e12 : act.eval (.tmp 12) = .pointer (some ⟨EE, 0, none⟩) := HO 12 (by decide)
   have HS := HK11.out.drew.call HB
   exact calm_lM 59 12 e12 (HS.get 4 rfl) ag141 (ev_ext _) (ev_sz _) rfl rfl rfl rfl
  ·intro act u HB HO HA
   have e10 : act.eval (.tmp 10) = .pointer (some ⟨AA, 0, none⟩) := HO 10 (by decide)
   have HS := HK11.out.drew.call HB
   exact calm_lM 60 10 e10 (HS.get 6 rfl) ag141 (ev_ext _) (ev_sz _) rfl rfl rfl rfl
  ·intro act u HB HO HA
   refine calm_call 61 #[.int .u32 121665] rfl rfl ?_ (by kernel_rfl) (small121 u) ?_ rfl
   ·simp only [mTx, mCx, mNx]
    try rfl
   rintro e u1 ⟨⟨y, rfl, hy⟩, B1⟩
   exact ⟨_, rfl, hy, B1⟩
  ·intro act u HB HO HA
   have e12 : act.eval (.tmp 12) = .pointer (some ⟨EE, 0, none⟩) := HO 12 (by decide)
   have HS := HK11.out.drew.call HB
   exact calm_lM 62 12 e12 (HS.get 4 rfl) ag141 (ev_ext _) (ev_sz _) rfl rfl rfl rfl
  ·intro act u HB HO HA
   have p61 : (fun v => IsE v (121665)) (act.eval (.tmp 61)) := qA HA 61
   obtain ⟨x61, e61⟩ : ∃ x, act.eval (.tmp 61) = x := ⟨_, rfl⟩
   rw [e61] at p61
   have e62 : _ = _ := qA HA 62
   refine calm_call 63 #[x61, .agg (lk .u64 (ev ye))] rfl rfl ?_ (by kernel_rfl) (mul_any p61 hye.out.is u) ?_ rfl
   ·simp only [mTx, mCx, mNx, e61, e62]
    try rfl
   rintro e u1 ⟨⟨y, rfl, hy⟩, B1⟩
   exact ⟨_, rfl, hy, B1⟩
  ·intro act u HB HO HA
   have e60 : _ = _ := qA HA 60
   have p63 : (fun v => IsE v (121665 * E)) (act.eval (.tmp 63)) := qA HA 63
   obtain ⟨x63, e63⟩ : ∃ x, act.eval (.tmp 63) = x := ⟨_, rfl⟩
   rw [e63] at p63
   refine calm_call 64 #[.agg (lk .u64 (ev yaa)), x63] rfl rfl ?_ (by kernel_rfl) (eadd_any hyaa.out.is p63 u) ?_ rfl
   ·simp only [mTx, mCx, mNx, e60, e63]
    try rfl
   rintro e u1 ⟨⟨y, rfl, hy⟩, B1⟩
   exact ⟨_, rfl, hy, B1⟩
  ·intro act u HB HO HA
   have e59 : _ = _ := qA HA 59
   have p64 : (fun v => IsE v (A * A + 121665 * E)) (act.eval (.tmp 64)) := qA HA 64
   obtain ⟨x64, e64⟩ : ∃ x, act.eval (.tmp 64) = x := ⟨_, rfl⟩
   rw [e64] at p64
   refine calm_call 65 #[.agg (lk .u64 (ev ye)), x64] rfl rfl ?_ (by kernel_rfl) (mul_any hye.out.is p64 u) ?_ rfl
   ·simp only [mTx, mCx, mNx, e59, e64]
    try rfl
   rintro e u1 ⟨⟨y, rfl, hy⟩, B1⟩
   exact ⟨_, rfl, hy, B1⟩
  ·intro act u HB HO HA
   have p58 : (fun v => IsE v (A * A * (D * D))) (act.eval (.tmp 58)) := qA HA 58
   obtain ⟨x58, e58⟩ : ∃ x, act.eval (.tmp 58) = x := ⟨_, rfl⟩
   rw [e58] at p58
   have p65 : (fun v => IsE v (E * (A * A + 121665 * E))) (act.eval (.tmp 65)) := qA HA 65
   obtain ⟨x65, e65⟩ : ∃ x, act.eval (.tmp 65) = x := ⟨_, rfl⟩
   rw [e65] at p65
   obtain ⟨a, rfl, ha⟩ := p58.ev
   obtain ⟨b, rfl, hb⟩ := p65.ev
   exact calm_val 66 _ rfl (run_build rfl (by simp only [mTx, mCx, mNx, e58, e65]) (build_pt a b u)) (⟨a, b, rfl, ha, hb⟩) rfl
  ·intro act u HB HO HA
   have e15 : act.eval (.tmp 15) = .pointer (some ⟨SS, 0, none⟩) := HO 15 (by decide)
   have HS := HK11.out.drew.call HB
   exact calm_lM 67 15 e15 (HS.get 1 rfl) ag141 (ev_ext _) (ev_sz _) rfl rfl rfl rfl
  ·intro act u HB HO HA
   have e15 : act.eval (.tmp 15) = .pointer (some ⟨SS, 0, none⟩) := HO 15 (by decide)
   have HS := HK11.out.drew.call HB
   exact calm_lM 68 15 e15 (HS.get 1 rfl) ag141 (ev_ext _) (ev_sz _) rfl rfl rfl rfl
  ·intro act u HB HO HA
   have e67 : _ = _ := qA HA 67
   have e68 : _ = _ := qA HA 68
   refine calm_call 69 #[.agg (lk .u64 (ev ys)), .agg (lk .u64 (ev ys))] rfl rfl ?_ (by kernel_rfl) (mul_any hys.out.is hys.out.is u) ?_ rfl
   ·simp only [mTx, mCx, mNx, e67, e68]
    try rfl
   rintro e u1 ⟨⟨y, rfl, hy⟩, B1⟩
   exact ⟨_, rfl, hy, B1⟩
  ·intro act u HB HO HA
   have e5 : act.eval (.tmp 5) = .pointer (some ⟨BU, 0, none⟩) := HO 5 (by decide)
   have HS := HK11.out.drew.call HB
   exact calm_lM 70 5 e5 (HS.get 11 rfl) ag141 (ev_ext _) (ev_sz _) rfl rfl rfl rfl
  ·intro act u HB HO HA
   have e16 : act.eval (.tmp 16) = .pointer (some ⟨TT, 0, none⟩) := HO 16 (by decide)
   have HS := HK11.out.drew.call HB
   exact calm_lM 71 16 e16 (HS.get 0 rfl) ag141 (ev_ext _) (ev_sz _) rfl rfl rfl rfl
  ·intro act u HB HO HA
   have e16 : act.eval (.tmp 16) = .pointer (some ⟨TT, 0, none⟩) := HO 16 (by decide)
   have HS := HK11.out.drew.call HB
   exact calm_lM 72 16 e16 (HS.get 0 rfl) ag141 (ev_ext _) (ev_sz _) rfl rfl rfl rfl
  ·intro act u HB HO HA
   have e71 : _ = _ := qA HA 71
   have e72 : _ = _ := qA HA 72
   refine calm_call 73 #[.agg (lk .u64 (ev yt)), .agg (lk .u64 (ev yt))] rfl rfl ?_ (by kernel_rfl) (mul_any hyt.out.is hyt.out.is u) ?_ rfl
   ·simp only [mTx, mCx, mNx, e71, e72]
    try rfl
   rintro e u1 ⟨⟨y, rfl, hy⟩, B1⟩
   exact ⟨_, rfl, hy, B1⟩
  ·intro act u HB HO HA
   have e70 : _ = _ := qA HA 70
   have p73 : (fun v => IsE v ((DA - CB) * (DA - CB))) (act.eval (.tmp 73)) := qA HA 73
   obtain ⟨x73, e73⟩ : ∃ x, act.eval (.tmp 73) = x := ⟨_, rfl⟩
   rw [e73] at p73
   refine calm_call 74 #[.agg (lk .u64 (ev u0)), x73] rfl rfl ?_ (by kernel_rfl) (mul_any hu0.is p73 u) ?_ rfl
   ·simp only [mTx, mCx, mNx, e70, e73]
    try rfl
   rintro e u1 ⟨⟨y, rfl, hy⟩, B1⟩
   exact ⟨_, rfl, hy, B1⟩
  intro act u HB HO HA
  have p69 : (fun v => IsE v ((DA + CB) * (DA + CB))) (act.eval (.tmp 69)) := qA HA 69
  obtain ⟨x69, e69⟩ : ∃ x, act.eval (.tmp 69) = x := ⟨_, rfl⟩
  rw [e69] at p69
  have p74 : (fun v => IsE v (U * ((DA - CB) * (DA - CB)))) (act.eval (.tmp 74)) := qA HA 74
  obtain ⟨x74, e74⟩ : ∃ x, act.eval (.tmp 74) = x := ⟨_, rfl⟩
  rw [e74] at p74
  obtain ⟨a, rfl, ha⟩ := p69.ev
  obtain ⟨b, rfl, hb⟩ := p74.ev
  exact calm_val 75 _ rfl (run_build rfl (by simp only [mTx, mCx, mNx, e69, e74]) (build_pt a b u)) (⟨a, b, rfl, ha, hb⟩) rfl
 intro vT ww12 HB HF HN
 have f56 : _ = _ := qA HF 56
 have f57 : _ = _ := qA HF 57
 have p58 : (fun v => IsE v (A * A * (D * D))) (vT 58) := qA HF 58
 obtain ⟨x58, f58⟩ : ∃ x, vT 58 = x := ⟨_, rfl⟩
 rw [f58] at p58
 have f59 : _ = _ := qA HF 59
 have f60 : _ = _ := qA HF 60
 have p61 : (fun v => IsE v (121665)) (vT 61) := qA HF 61
 obtain ⟨x61, f61⟩ : ∃ x, vT 61 = x := ⟨_, rfl⟩
 rw [f61] at p61
 have f62 : _ = _ := qA HF 62
 have p63 : (fun v => IsE v (121665 * E)) (vT 63) := qA HF 63
 obtain ⟨x63, f63⟩ : ∃ x, vT 63 = x := ⟨_, rfl⟩
 rw [f63] at p63
 have p64 : (fun v => IsE v (A * A + 121665 * E)) (vT 64) := qA HF 64
 obtain ⟨x64, f64⟩ : ∃ x, vT 64 = x := ⟨_, rfl⟩
 rw [f64] at p64
 have p65 : (fun v => IsE v (E * (A * A + 121665 * E))) (vT 65) := qA HF 65
 obtain ⟨x65, f65⟩ : ∃ x, vT 65 = x := ⟨_, rfl⟩
 rw [f65] at p65
 have p66 : (fun v => IsP v (A * A * (D * D)) (E * (A * A + 121665 * E))) (vT 66) := qA HF 66
 obtain ⟨x66, f66⟩ : ∃ x, vT 66 = x := ⟨_, rfl⟩
 rw [f66] at p66
 have f67 : _ = _ := qA HF 67
 have f68 : _ = _ := qA HF 68
 have p69 : (fun v => IsE v ((DA + CB) * (DA + CB))) (vT 69) := qA HF 69
 obtain ⟨x69, f69⟩ : ∃ x, vT 69 = x := ⟨_, rfl⟩
 rw [f69] at p69
 have f70 : _ = _ := qA HF 70
 have f71 : _ = _ := qA HF 71
 have f72 : _ = _ := qA HF 72
 have p73 : (fun v => IsE v ((DA - CB) * (DA - CB))) (vT 73) := qA HF 73
 obtain ⟨x73, f73⟩ : ∃ x, vT 73 = x := ⟨_, rfl⟩
 rw [f73] at p73
 have p74 : (fun v => IsE v (U * ((DA - CB) * (DA - CB)))) (vT 74) := qA HF 74
 obtain ⟨x74, f74⟩ : ∃ x, vT 74 = x := ⟨_, rfl⟩
 rw [f74] at p74
 have p75 : (fun v => IsP v ((DA + CB) * (DA + CB)) (U * ((DA - CB) * (DA - CB)))) (vT 75) := qA HF 75
 obtain ⟨x75, f75⟩ : ∃ x, vT 75 = x := ⟨_, rfl⟩
 rw [f75] at p75
 have HK12 := hDx (HK11.out.drew.call HB)
 simp only [fill, Act.put, sAx, s0x, s1x, dSx, d0x, f56, f57, f58, f59, f60, f61, f62, f63, f64, f65, f66, f67, f68, f69, f70, f71, f72, f73, f74, f75]
 clear HB HF HN f56 f57 f58 f59 f60 f61 f62 f63 f64 f65 f66 f67 f68 f69 f70 f71 f72 f73 f74 f75
 obtain ⟨a1, a2, rfl, ha1, ha2⟩ := p66
 obtain ⟨b1, b2, rfl, hb1, hb2⟩ := p75
 refine wpList_storeM (b := R1) (o := 0) (n := 10) (cs := lk .u64 (pz a1 a2)) rfl _ _ rfl rfl rfl (HK12.out.get 10 rfl) zp_fit ag146 rfl (lk_one _ _) ?_
 have hm13 := HK12.out.lay 10 rfl (0) (lk .u64 (pz a1 a2)) zp_fit
 rw [lay_zp] at hm13
 obtain ⟨ww13, hv13⟩ := nm (World.setCells ww12 R1 (0) (lk .u64 (pz a1 a2)).toList)
 rw [← hv13] at hm13
 rw [← hv13]
 have HK13 : Hid (KS [(TT, .cells (lk .u64 (ev yt)) 141), (SS, .cells (lk .u64 (ev ys)) 141), (XCB, .cells (lk .u64 (ev ycb)) 141), (XDA, .cells (lk .u64 (ev yda)) 141), (EE, .cells (lk .u64 (ev ye)) 141), (DD, .cells (lk .u64 (ev ydd)) 141), (AA, .cells (lk .u64 (ev yaa)) 141), (CD, .cells (lk .u64 (ev yd)) 141), (CA, .cells (lk .u64 (ev ya)) 141), (R2, .cells (lk .u64 (zi 10)) 146), (R1, .cells (lk .u64 (pz a1 a2)) 146), (BU, .cells (lk .u64 (ev u0)) 141), (P2, .cells (lk .u64 (pz p2 q2)) 146), (P1, .cells (lk .u64 (pz p1 q1)) 146)] [] w ww13) := hDx hm13
 clear hm13 hv13
 refine wpList_storeM (b := R2) (o := 0) (n := 10) (cs := lk .u64 (pz b1 b2)) rfl _ _ rfl rfl rfl (HK13.out.get 9 rfl) zp_fit ag146 rfl (lk_one _ _) ?_
 have hm14 := HK13.out.lay 9 rfl (0) (lk .u64 (pz b1 b2)) zp_fit
 rw [lay_zp] at hm14
 obtain ⟨ww14, hv14⟩ := nm (World.setCells ww13 R2 (0) (lk .u64 (pz b1 b2)).toList)
 rw [← hv14] at hm14
 rw [← hv14]
 have HK14 : Hid (KS [(TT, .cells (lk .u64 (ev yt)) 141), (SS, .cells (lk .u64 (ev ys)) 141), (XCB, .cells (lk .u64 (ev ycb)) 141), (XDA, .cells (lk .u64 (ev yda)) 141), (EE, .cells (lk .u64 (ev ye)) 141), (DD, .cells (lk .u64 (ev ydd)) 141), (AA, .cells (lk .u64 (ev yaa)) 141), (CD, .cells (lk .u64 (ev yd)) 141), (CA, .cells (lk .u64 (ev ya)) 141), (R2, .cells (lk .u64 (pz b1 b2)) 146), (R1, .cells (lk .u64 (pz a1 a2)) 146), (BU, .cells (lk .u64 (ev u0)) 141), (P2, .cells (lk .u64 (pz p2 q2)) 146), (P1, .cells (lk .u64 (pz p1 q1)) 146)] [] w ww14) := hDx hm14
 clear hm14 hv14
 go_wp2_with fail
 have K3 := HK14.out
 try simp only [Exit.inBlock, Exit.then]
 refine bodyPost_ret (results_two (p := 6) (u := 7) (by kernel_rfl) (by rfl) (by rfl) (K3.get 10 rfl) (K3.get 9 rfl) ag146 rfl rfl) rfl ?_
 have hE := HH.out.2.2.1
 rw [HH.out.1, HH.out.2.1] at hE
 refine ⟨⟨_, _, rfl, ⟨a1, a2, rfl, ?_, ?_⟩, ⟨b1, b2, rfl, ?_, ?_⟩⟩, K3.below⟩
 ·rw [HH.out.1, HH.out.2.1] at ha1
  exact ha1
 ·rw [hE, HH.out.1] at ha2
  exact ha2
 ·rw [HH.out.2.2.2.1, HH.out.2.2.2.2, HH.out.1, HH.out.2.1] at hb1
  exact hb1
 rw [HH.out.2.2.2.1, HH.out.2.2.2.2, HH.out.1, HH.out.2.1] at hb2
 exact hb2
end
section
open Go.RowKit T
def qz (a b c d : El) : List Int := pz a b ++ pz c d
theorem qz_ext0 (a b c d : El) : (lk .u64 (qz a b c d)).extract 0 (0 + 10) = lk .u64 (pz a b) := rfl
theorem qz_ext10 (a b c d : El) : (lk .u64 (qz a b c d)).extract 10 (10 + 10) = lk .u64 (pz c d) := rfl
theorem qz_f0 (a b c d : El) : (lk .u64 (qz a b c d)).extract 0 (0 + 5) = lk .u64 (ev a) := rfl
theorem qz_f5 (a b c d : El) : (lk .u64 (qz a b c d)).extract 5 (5 + 5) = lk .u64 (ev b) := rfl
theorem lay_left (A B C : Array Value) (h : C.size = A.size) : lay (A ++ B) 0 C = C ++ B := by
 unfold lay
 apply Array.ext'
 simp [h]
theorem lay_right (A B C : Array Value) {n : Nat} (h : A.size = n) (hB : C.size = B.size) : lay (A ++ B) n C = A ++ C := by
 subst h
 unfold lay
 apply Array.ext'
 simp [hB]
theorem lk_app2 (k : IntKind) (v u : List Int) : lk k (v ++ u) = lk k v ++ lk k u := by simp [lk]
theorem qz_lay0 (a b c d e f : El) : lay (lk .u64 (qz a b c d)) 0 (lk .u64 (pz e f)) = lk .u64 (qz e f c d) := by
 unfold qz
 rw [lk_app2, lk_app2]
 exact lay_left _ _ _ rfl
theorem qz_lay10 (a b c d e f : El) : lay (lk .u64 (qz a b c d)) 10 (lk .u64 (pz e f)) = lk .u64 (qz a b e f) := by
 unfold qz
 rw [lk_app2, lk_app2]
 exact lay_right _ _ _ rfl rfl
theorem qz_fit0 (a b c d : El) : 0 + 10 ≤ (lk .u64 (qz a b c d)).size := by show 0 + 10 ≤ 20; decide
theorem qz_fit10 (a b c d : El) : 10 + 10 ≤ (lk .u64 (qz a b c d)).size := Nat.le_refl 20
theorem qz_fitb (a b c d e f : El) : 10 + (lk .u64 (pz e f)).size ≤ (lk .u64 (qz a b c d)).size := Nat.le_refl 20
theorem zq_fit : 0 + 20 ≤ (lk .u64 (zi 20)).size := Nat.le_refl 20
theorem lay_zq (a b c d : El) : lay (lk .u64 (zi 20)) 0 (lk .u64 (qz a b c d)) = lk .u64 (qz a b c d) := lay_all _ _ rfl
theorem ag147 : AgTy 147 20 := agTy (by kernel_rfl)
def ez : El := ⟨0, 0, 0, 0, 0⟩
theorem build_ez (w : World) : (Instr.build 141 #[]).run Tryz.prog w = .ok (.agg (lk .u64 (ev ez))) w := by
 simp [go_sem, lk, ev, ni, El.l, ez]
theorem build_qz (a b c d : El) (w : World) : (Instr.build 147 #[(0, .agg (lk .u64 (pz a b))), (1, .agg (lk .u64 (pz c d)))]).run Tryz.prog w = .ok (.agg (lk .u64 (qz a b c d))) w := by
 simp [go_sem, lk, ev, ni, El.l, pz, qz]
def u127 (u : ByteArray) : ByteArray := strOfNums ((bl u).set 31 (bits .and .u8 (ia (bl u) 31) 127))
theorem u127_size (u : ByteArray) : (u127 u).size = u.size := by rw [u127, sb_size, List.length_set, bl_len]
theorem and8 (x m k : Nat) (hk : m = 2 ^ k - 1) (hm : m < 256) (hx : x < 256) : bits .and .u8 (x : Int) (m : Int) = ((x % 2 ^ k : Nat) : Int) := by
 rw [u8_and_nat x m hx hm, hk, Nat.and_two_pow_sub_one_eq_mod]
theorem ia_set_o (v : List Int) (i j : Nat) (x : Int) (h : i ≠ j) : ia (v.set i x) j = ia v j := by
 unfold ia
 rw [List.getD_eq_getElem?_getD, List.getD_eq_getElem?_getD, List.getElem?_set_ne h]
theorem byt_set {v : List Int} (h : Byt v) (i : Nat) (x : Int) (hx : 0 ≤ x ∧ x < 256) : Byt (v.set i x) := fun j => by
 by_cases e : i = j
 ·subst e
  by_cases hl : i < v.length
  ·rw [ia_set v i i x hl, if_pos rfl]; exact hx
  ·rw [List.set_eq_of_length_le (by omega)]; exact h i
 ·rw [ia_set_o v i j x e]; exact h j
theorem u127_bt (u : ByteArray) (hu : u.size = 32) (j : Nat) : bt (u127 u) j = if j = 31 then bt u 31 % 128 else bt u j := by
 have hb := bt_lt u 31
 have e0 : bits .and .u8 (ia (bl u) 31) 127 = ((bt u 31 % 128 : Nat) : Int) := by rw [bl_at]; exact and8 _ 127 7 rfl (by decide) hb
 have h1 := bt_sb ((bl u).set 31 (bits .and .u8 (ia (bl u) 31) 127)) (byt_set (byt_bl u) _ _ (by rw [e0]; omega)) j
 unfold u127
 by_cases e : j = 31
 ·subst e
  rw [if_pos rfl]
  have h3 : ia ((bl u).set 31 (bits .and .u8 (ia (bl u) 31) 127)) 31 = ((bt u 31 % 128 : Nat) : Int) := by rw [ia_set _ _ _ _ (by rw [bl_len]; omega), if_pos rfl, e0]
  exact Int.ofNat_inj.1 (h1.trans h3)
 rw [if_neg e]
 have h3 : ia ((bl u).set 31 (bits .and .u8 (ia (bl u) 31) 127)) j = ((bt u j : Nat) : Int) := by rw [ia_set_o _ _ _ _ (fun x => e x.symm), bl_at]
 exact Int.ofNat_inj.1 (h1.trans h3)
theorem leN_same {a b : ByteArray} : ∀ n, (∀ j, j < n → bt a j = bt b j) → leN a n = leN b n
 | 0, _ => rfl
 | n + 1, h => by rw [leN, leN, leN_same n (fun j hj => h j (by omega)), h n (by omega)]
theorem u127_leN (u : ByteArray) (hu : u.size = 32) : leN (u127 u) 32 = leN u 32 % 57896044618658097711785492504343953926634992332820282019728792003956564819968 := by
 have h1 : leN (u127 u) 31 = leN u 31 := leN_same 31 (fun j hj => by rw [u127_bt u hu, if_neg (by omega)])
 show leN (u127 u) 31 + bt (u127 u) 31 * 256 ^ 31 = (leN u 31 + bt u 31 * 256 ^ 31) % _
 rw [h1, u127_bt u hu, if_pos rfl]
 have h2 := leN_lt u 31
 have h3 := bt_lt u 31
 generalize leN u 31 = n at h2
 generalize bt u 31 = b at h3
 simp only [Nat.reducePow] at h2 ⊢
 omega
theorem leN_byte (s : ByteArray) (m : Nat) : ∀ n, m < n → leN s n / 256 ^ m % 256 = bt s m
 | 0, h => by omega
 | n + 1, h => by
  rw [leN]
  have hb := bt_lt s m
  by_cases e : m = n
  ·subst e
   rw [Nat.add_mul_div_right _ _ (Nat.pow_pos (by decide)), Nat.div_eq_of_lt (leN_lt s m), Nat.zero_add, Nat.mod_eq_of_lt hb]
  ·have h1 : n = m + (n - m - 1) + 1 := by omega
   have e2 : bt s n * 256 ^ n = (bt s n * 256 ^ (n - m - 1) * 256) * 256 ^ m := by
    rw [Nat.mul_assoc, Nat.mul_assoc, ← Nat.pow_succ', ← Nat.pow_add]
    congr 2
    omega
   rw [e2, Nat.add_mul_div_right _ _ (Nat.pow_pos (by decide)), Nat.add_mul_mod_self_right]
   exact leN_byte s m n (by omega)
theorem bit_of (s : ByteArray) (i n : Nat) (h : i / 8 < n) : leN s n / 2 ^ i % 2 = bt s (i / 8) / 2 ^ (i % 8) % 2 := by
 rw [← leN_byte s (i / 8) n h]
 have e : 2 ^ i = 256 ^ (i / 8) * 2 ^ (i % 8) := by
  rw [p256, ← Nat.pow_add]
  congr 1
  omega
 rw [e, ← Nat.div_div_eq_div_mul]
 generalize leN s n / 256 ^ (i / 8) = x
 have h8 : i % 8 < 8 := Nat.mod_lt _ (by decide)
 have e2 : (256 : Nat) = 2 ^ (i % 8) * (2 ^ (7 - i % 8) * 2) := by
  rw [← Nat.pow_succ, ← Nat.pow_add, show i % 8 + (7 - i % 8 + 1) = 8 by omega]
 rw [e2, Nat.mod_mul_right_div_self, Nat.mod_mul_left_mod]
def ladS (s u : ByteArray) : ByteArray := leS (lad (leN (clampS s) 32) (fe (leN (u127 u) 32))).val 32
theorem ladS_size (s u : ByteArray) : (ladS s u).size = 32 := leS_size _ _
theorem bit_i (s : ByteArray) (hs : s.size = 32) (i : Nat) (hi : i < 255) : ∃ q r Z : Nat, binOp .quo 3 (.int .i64 (i : Int)) (.int .i64 8) = pure (.int .i64 (q : Int)) ∧ binOp .rem 3 (.int .i64 (i : Int)) (.int .i64 8) = pure (.int .i64 (r : Int)) ∧ IntKind.u64.wrap (r : Int) = r ∧ q < 32 ∧
  Op.shift .shr .u8 (bt s q : Int) .u64 (r : Int) = pure (.int .u8 (Z : Int)) ∧ ((leN s 32 / 2 ^ i % 2 = 0 ∧ bits .and .u8 (Z : Int) 1 = 0) ∨ (leN s 32 / 2 ^ i % 2 = 1 ∧ bits .and .u8 (Z : Int) 1 = 1)) := by
 have h1 := bit_of s i 32 (by omega)
 have hr : i % 8 < 8 := Nat.mod_lt _ (by decide)
 have hb := bt_lt s (i / 8)
 have hz : bt s (i / 8) / 2 ^ (i % 8) < 256 := Nat.lt_of_le_of_lt (Nat.div_le_self _ _) hb
 refine ⟨i / 8, i % 8, bt s (i / 8) / 2 ^ (i % 8), quo_i 3 _ 8 _ (by decide) rfl (by omega), rem_i 3 _ 8 _ (by decide) rfl (by omega), u64w rfl (by omega), by omega, ?_, ?_⟩
 ·rw [shift_shr _ _ _ _ (by omega) (by show ((i % 8 : Nat) : Int) ≤ 8; omega), Int.toNat_natCast]
  simp
 have e := and8 (bt s (i / 8) / 2 ^ (i % 8)) 1 1 rfl (by decide) hz
 rw [h1]
 generalize bt s (i / 8) / 2 ^ (i % 8) = z at e
 have h2 : z % 2 = 0 ∨ z % 2 = 1 := by omega
 rcases h2 with h2 | h2
 ·refine Or.inl ⟨h2, ?_⟩
  have := e
  simp only [Nat.pow_one, h2] at this
  exact this
 refine Or.inr ⟨h2, ?_⟩
 have := e
 simp only [Nat.pow_one, h2] at this
 exact this
theorem runL_bit (U : F) (K m : Nat) (s : St P) (b : Bool) (h : K / 2 ^ m % 2 = if b then 1 else 0) : runL U K (m + 1) s = runL U K m (stepL U b s) := by
 rw [runL]
 cases b
 ·rw [show decide (K / 2 ^ m % 2 = 1) = false by rw [h]; rfl]
 rw [show decide (K / 2 ^ m % 2 = 1) = true by rw [h]; rfl]
theorem im1 (m : Nat) : ((m + 1 : Nat) : Int) - 1 = m := by omega
theorem measD (m : Nat) : ((intOf (.int .i64 ((m : Int) - 1))) + 1).toNat < ((intOf (.int .i64 (m : Int))) + 1).toNat := by
 simp only [intOf]
 omega
theorem pre254 (m : Nat) (h : m + 1 ≤ 255) : m < 255 ∧ (0 : Int) ≤ m ∧ wrap64 ((m : Int) - 1) = (m : Int) - 1 ∧ IntKind.i64.wrap ((m : Int) - 1) = (m : Int) - 1 := by
 refine ⟨by omega, by omega, by unfold wrap64; omega, IntWalk.i64_in _ (by omega)⟩
theorem ladder_any (s u : ByteArray) (hs : s.size = 32) (hu : u.size = 32) (w : World) : Calls Tryz.prog 61 #[.string s, .string u] w fun e w' => e = .returned (.string (ladS s u)) ∧ Below w.heap.size w w' := by
 obtain ⟨K, hK⟩ := nm (leN (clampS s) 32)
 obtain ⟨U, hU⟩ := nm (fe (leN (u127 u) 32))
 have hL : ladS s u = leS (lad K U).val 32 := by rw [hK, hU]; rfl
 obtain ⟨kk, hkk⟩ := nm (clampS s)
 have hks : kk.size = 32 := by rw [hkk, clampS_size, hs]
 rw [← hkk] at hK
 have hl : (bl u).length = 32 := (bl_len u).trans hu
 have HL := hDx (And.intro hL (And.intro hK (And.intro hU (And.intro hks hu))))
 have hus : (u.size : Int) = 32 := by omega
 have hcl := fun w => clamp_any s hs w
 rw [← hkk] at hcl
 rw [hL]
 clear hL hK hU hks hkk hs hu
 go_enter Tryz.func61, Tryz.ntmps61
 have HK0 := hDx (KS.start w)
 go_wp2_with fail
 refine (hcl _).mono ?_
 rintro e ww1 ⟨rfl, B1⟩
 simp only []
 have HK1 := hDx (HK0.out.call B1)
 clear B1
 clear hcl
 go_upto_region 2 with fail
 obtain ⟨zz, cap, hcv⟩ := run_bytes u ww1
 rw [HL.out.2.2.2.2] at hcv
 go_upto_region 3 with fail
 have hm2 := (HK1.out.made (bob (bl u) zz)).drew
 obtain ⟨BB, hgBB⟩ := nm ww1.heap.size
 obtain ⟨ww2, hv2⟩ := nm (World.drew (World.alloc ww1 (bob (bl u) zz)))
 rw [← hv2, ← hgBB] at hm2
 rw [← hv2]
 try rw [← hgBB]
 have HK2 : Hid (KS [(BB, bob (bl u) zz)] [] w ww2) := hDx hm2
 clear hm2 hv2 hgBB
 clear hcv
 have c0 := HK2.out.bcell 0 rfl 31 (by omega)
 have z0 := HK2.out.bfz 0 rfl 31 (by omega)
 go_upto_region 4 with fail
 obtain ⟨ww3, hv3⟩ := nm (World.setCell ww2 ⟨BB, 31, none⟩ (.int .u8 (bits .and .u8 (ia (bl u) 31) 127)))
 have HK3 : Hid (KS [(BB, bob ((bl u).set 31 (bits .and .u8 (ia (bl u) 31) 127)) zz)] [] w ww3) := by rw [hv3]; exact hDx (HK2.out.bset 0 rfl 31 (by omega) (bits .and .u8 (ia (bl u) 31) 127))
 rw [← hv3]
 clear hv3
 clear c0 z0
 have hcv := HK3.out.bconv 0 rfl ((List.length_set ..).trans hl) cap
 rw [show strOfNums ((bl u).set 31 (bits .and .u8 (ia (bl u) 31) 127)) = u127 u from rfl] at hcv
 go_wp2_with fail
 refine (of32_any (u127 u) ((u127_size u).trans HL.out.2.2.2.2) _).mono ?_
 rintro e ww4 ⟨⟨y, rfl, hy⟩, B1⟩
 simp only []
 have HK4 := hDx (HK3.out.call B1)
 clear B1
 rw [← HL.out.2.2.1] at hy
 obtain ⟨xe, rfl, hxe⟩ := hy.ev
 clear hy hcv
 replace hxe := hDx hxe
 have FH5 := rk_new ww4 141 5 .u64 (zi 5) (zi_len 5)
 go_upto_region 5 with (refine wpList_store_rk rfl _ _ rfl rfl rfl FH5 ty141 (ev_len xe) ?_)
 have hm5 := (HK4.out.made (.cells #[.int .u64 0, .int .u64 0, .int .u64 0, .int .u64 0, .int .u64 0] 141)).setRow 0 rfl (lk .u64 (ev xe))
 obtain ⟨XX, hgXX⟩ := nm ww4.heap.size
 obtain ⟨ww5, hv5⟩ := nm (World.setRow (World.alloc ww4 (.cells #[.int .u64 0, .int .u64 0, .int .u64 0, .int .u64 0, .int .u64 0] 141)) ww4.heap.size (lk .u64 (ev xe)))
 rw [← hv5, ← hgXX] at hm5
 rw [← hv5]
 try rw [← hgXX]
 have HK5 : Hid (KS [(XX, .cells (lk .u64 (ev xe)) 141), (BB, bob ((bl u).set 31 (bits .and .u8 (ia (bl u) 31) 127)) zz)] [] w ww5) := hDx hm5
 clear hm5 hv5 hgXX
 try simp only [Act.put, sAx, s0x, s1x]
 refine wp_region_calm 8 [31, 32, 33, 34, 35, 36, 37, 10] [10] [[], [], [31, 32], [], [], [34, 35], [33, 36], []] (Ftab [(31, .of (fun v => IsE v (1))), (32, .val (.agg (lk .u64 (ev ez)))), (33, .of (fun v => IsP v 1 0)), (34, .val (.agg (lk .u64 (ev xe)))), (35, .of (fun v => IsE v (1))), (36, .of (fun v => IsP v U 1)), (37, .of (fun v => ∃ a b c d, v = .agg (lk .u64 (qz a b c d)) ∧ EV a 1 ∧ EV b 0 ∧ EV c U ∧ EV d 1)), (10, .obj ww5.heap.size (.cells ZRu64x20 147))]) (by kernel_rfl) (by kernel_rfl) (by rfl) (by kernel_rfl) ?hO1 ?hE1
 case hO1 =>
  refine ⟨?_, ?_, ?_, ?_, ?_, ?_, ?_, ?_, trivial⟩
  ·intro act u HB HO HA
   refine calm_call 31 #[.int .u32 1] rfl rfl ?_ (by kernel_rfl) (small1 u) ?_ rfl
   ·simp only [mTx, mCx, mNx]
    try rfl
   rintro e u1 ⟨⟨y, rfl, hy⟩, B1⟩
   exact ⟨_, rfl, hy, B1⟩
  ·intro act u HB HO HA
   skip
   exact calm_val 32 _ rfl (run_build rfl (by simp only [mTx, mCx, mNx]) (build_ez u)) (rfl) rfl
  ·intro act u HB HO HA
   have p31 : (fun v => IsE v (1)) (act.eval (.tmp 31)) := qA HA 31
   obtain ⟨x31, e31⟩ : ∃ x, act.eval (.tmp 31) = x := ⟨_, rfl⟩
   rw [e31] at p31
   have e32 : _ = _ := qA HA 32
   obtain ⟨a, rfl, ha⟩ := p31.ev
   exact calm_val 33 _ rfl (run_build rfl (by simp only [mTx, mCx, mNx, e31, e32]) (build_pt a ez u)) (⟨a, ez, rfl, ha, ev_zero⟩) rfl
  ·intro act u HB HO HA
   have e8 : act.eval (.tmp 8) = .pointer (some ⟨XX, 0, none⟩) := HO 8 (by decide)
   have HS := HK5.out.drew.call HB
   exact calm_lM 34 8 e8 (HS.get 0 rfl) ag141 (ev_ext _) (ev_sz _) rfl rfl rfl rfl
  ·intro act u HB HO HA
   refine calm_call 35 #[.int .u32 1] rfl rfl ?_ (by kernel_rfl) (small1 u) ?_ rfl
   ·simp only [mTx, mCx, mNx]
    try rfl
   rintro e u1 ⟨⟨y, rfl, hy⟩, B1⟩
   exact ⟨_, rfl, hy, B1⟩
  ·intro act u HB HO HA
   have e34 : _ = _ := qA HA 34
   have p35 : (fun v => IsE v (1)) (act.eval (.tmp 35)) := qA HA 35
   obtain ⟨x35, e35⟩ : ∃ x, act.eval (.tmp 35) = x := ⟨_, rfl⟩
   rw [e35] at p35
   obtain ⟨a, rfl, ha⟩ := p35.ev
   exact calm_val 36 _ rfl (run_build rfl (by simp only [mTx, mCx, mNx, e34, e35]) (build_pt xe a u)) (⟨xe, a, rfl, hxe.out, ha⟩) rfl
  ·intro act u HB HO HA
   have p33 : (fun v => IsP v 1 0) (act.eval (.tmp 33)) := qA HA 33
   obtain ⟨x33, e33⟩ : ∃ x, act.eval (.tmp 33) = x := ⟨_, rfl⟩
   rw [e33] at p33
   have p36 : (fun v => IsP v U 1) (act.eval (.tmp 36)) := qA HA 36
   obtain ⟨x36, e36⟩ : ∃ x, act.eval (.tmp 36) = x := ⟨_, rfl⟩
   rw [e36] at p36
   obtain ⟨a, b, rfl, ha, hb⟩ := p33
   obtain ⟨c, d, rfl, hc, hd⟩ := p36
   exact calm_val 37 _ rfl (run_build rfl (by simp only [mTx, mCx, mNx, e33, e36]) (build_qz a b c d u)) (⟨a, b, c, d, rfl, ha, hb, hc, hd⟩) rfl
  intro act u HB HO HA
  refine calm_new 10 (.cells ZRu64x20 147) rfl ?_ (obj_new _ u _ (Nat.le_trans (by exact Nat.le_refl _) HB.size))
  go_simp
 intro vT ww6 HB HF HN
 have p31 : (fun v => IsE v (1)) (vT 31) := qA HF 31
 obtain ⟨x31, f31⟩ : ∃ x, vT 31 = x := ⟨_, rfl⟩
 rw [f31] at p31
 have f32 : _ = _ := qA HF 32
 have p33 : (fun v => IsP v 1 0) (vT 33) := qA HF 33
 obtain ⟨x33, f33⟩ : ∃ x, vT 33 = x := ⟨_, rfl⟩
 rw [f33] at p33
 have f34 : _ = _ := qA HF 34
 have p35 : (fun v => IsE v (1)) (vT 35) := qA HF 35
 obtain ⟨x35, f35⟩ : ∃ x, vT 35 = x := ⟨_, rfl⟩
 rw [f35] at p35
 have p36 : (fun v => IsP v U 1) (vT 36) := qA HF 36
 obtain ⟨x36, f36⟩ : ∃ x, vT 36 = x := ⟨_, rfl⟩
 rw [f36] at p36
 have p37 : (fun v => ∃ a b c d, v = .agg (lk .u64 (qz a b c d)) ∧ EV a 1 ∧ EV b 0 ∧ EV c U ∧ EV d 1) (vT 37) := qA HF 37
 obtain ⟨x37, f37⟩ : ∃ x, vT 37 = x := ⟨_, rfl⟩
 rw [f37] at p37
 obtain ⟨BO, f10, q10, b10⟩ : (Fct.obj ww5.heap.size (.cells #[.int .u64 0, .int .u64 0, .int .u64 0, .int .u64 0, .int .u64 0, .int .u64 0, .int .u64 0, .int .u64 0, .int .u64 0, .int .u64 0, .int .u64 0, .int .u64 0, .int .u64 0, .int .u64 0, .int .u64 0, .int .u64 0, .int .u64 0, .int .u64 0, .int .u64 0, .int .u64 0] 147)).p (vT 10) ww6 := qA HF 10
 have HK6 := hDx (KS.grow1 HK5.out.drew HB ⟨q10, b10⟩)
 clear q10 b10
 simp only [fill, Act.put, sAx, s0x, s1x, dSx, d0x, f31, f32, f33, f34, f35, f36, f37, f10]
 clear HB HF HN f31 f32 f33 f34 f35 f36 f37 f10
 obtain ⟨a0, b0, c0, d0, rfl, ha0, hb0, hc0, hd0⟩ := p37
 clear p31 p33 p35 p36
 change Hid (KS [(BO, .cells (lk .u64 (zi 20)) 147), (XX, .cells (lk .u64 (ev xe)) 141), (BB, bob ((bl u).set 31 (bits .and .u8 (ia (bl u) 31) 127)) zz)] [] w ww6) at HK6
 refine wpList_storeM (b := BO) (o := 0) (n := 20) (cs := lk .u64 (qz a0 b0 c0 d0)) rfl _ _ rfl rfl rfl (HK6.out.get 0 rfl) zq_fit ag147 rfl (lk_one _ _) ?_
 have hm7 := HK6.out.lay 0 rfl (0) (lk .u64 (qz a0 b0 c0 d0)) zq_fit
 rw [lay_zq] at hm7
 obtain ⟨ww7, hv7⟩ := nm (World.setCells ww6 BO (0) (lk .u64 (qz a0 b0 c0 d0)).toList)
 rw [← hv7] at hm7
 rw [← hv7]
 have HK7 : Hid (KS [(BO, .cells (lk .u64 (qz a0 b0 c0 d0)) 147), (XX, .cells (lk .u64 (ev xe)) 141), (BB, bob ((bl u).set 31 (bits .and .u8 (ia (bl u) 31) 127)) zz)] [] w ww7) := hDx hm7
 clear hm7 hv7
 go_upto_region 7 with fail
 go_loopw [11] (fun vS wr => ∃ (j : Nat) (S : St P) (a b c d : El), j ≤ 255 ∧ vS = .int .i64 ((j : Int) - 1) ∧ runL U K j S = runL U K 255 ⟨1, 0, U, 1⟩ ∧ EV a S.x0 ∧ EV b S.z0 ∧ EV c S.x1 ∧ EV d S.z1 ∧ KS [(BO, .cells (lk .u64 (qz a b c d)) 147), (XX, .cells (lk .u64 (ev xe)) 141), (BB, bob ((bl u).set 31 (bits .and .u8 (ia (bl u) 31) 127)) zz)] [] w wr) (fun vS _ => ((intOf vS) + 1).toNat)
 case atStart => exact ⟨255, ⟨1, 0, U, 1⟩, a0, b0, c0, d0, Nat.le_refl _, rfl, rfl, ha0, hb0, hc0, hd0, HK7.out⟩
 obtain ⟨j, S, a, b, c, d, hj, rfl, hS, ha, hb, hc, hd, HK⟩ := hrel
 have HK8 := hDx HK
 clear HK ha0 hb0 hc0 hd0
 have HV := hDx (And.intro hS (And.intro ha (And.intro hb (And.intro hc hd))))
 clear hS ha hb hc hd
 rcases j with _ | m
 ·rw [show ((0 : Nat) : Int) - 1 = -1 from rfl]
  clear hj
  go_upto_region 13 with fail
  try simp only [Act.put, sAx, s0x, s1x]
  refine wp_region_calm 9 [80, 81, 82, 83, 84, 85, 86, 87, 88] [] [[], [80], [81], [], [83], [84], [85], [82, 86], [87]] (Ftab [(80, .val (.pointer (some ⟨BO, 0, none⟩))), (81, .val (.pointer (some ⟨BO, 0, none⟩))), (82, .val (.agg (lk .u64 (ev a)))), (83, .val (.pointer (some ⟨BO, 0, none⟩))), (84, .val (.pointer (some ⟨BO, 5, none⟩))), (85, .val (.agg (lk .u64 (ev b)))), (86, .of (fun v => IsE v (T.iv S.z0))), (87, .of (fun v => IsE v (S.x0 * T.iv S.z0))), (88, .val (.string (leS (S.x0 * T.iv S.z0).val 32)))]) (by kernel_rfl) (by kernel_rfl) (by rfl) (by kernel_rfl) ?hO2 ?hE2
  case hO2 =>
   refine ⟨?_, ?_, ?_, ?_, ?_, ?_, ?_, ?_, ?_, trivial⟩
   ·intro act u HB HO HA
    have e10 := gE (x := .pointer (some ⟨BO, 0, none⟩)) (HO 10 (by decide))
    refine calm_val 80 _ rfl ?_ rfl rfl
    clear HB HO HA
    go_simp
    try rfl
   ·intro act u HB HO HA
    have e80 : _ = _ := gE (qA HA 80)
    refine calm_val 81 _ rfl ?_ rfl rfl
    clear HB HO HA
    go_simp
    try rfl
   ·intro act u HB HO HA
    have e81 : _ = _ := qA HA 81
    have HS := HK8.out.drew.call HB
    exact calm_lM 82 81 e81 (HS.get 0 rfl) ag141 (qz_f0 _ _ _ _) (ev_sz _) rfl rfl rfl rfl
   ·intro act u HB HO HA
    have e10 := gE (x := .pointer (some ⟨BO, 0, none⟩)) (HO 10 (by decide))
    refine calm_val 83 _ rfl ?_ rfl rfl
    clear HB HO HA
    go_simp
    try rfl
   ·intro act u HB HO HA
    have e83 : _ = _ := gE (qA HA 83)
    refine calm_val 84 _ rfl ?_ rfl rfl
    clear HB HO HA
    go_simp
    try rfl
   ·intro act u HB HO HA
    have e84 : _ = _ := qA HA 84
    have HS := HK8.out.drew.call HB
    exact calm_lM 85 84 e84 (HS.get 0 rfl) ag141 (qz_f5 _ _ _ _) (ev_sz _) rfl rfl rfl rfl
   ·intro act u HB HO HA
    have e85 : _ = _ := qA HA 85
    refine calm_call 86 #[.agg (lk .u64 (ev b))] rfl rfl ?_ (by kernel_rfl) (inv_any HV.out.2.2.1.is u) ?_ rfl
    ·simp only [mTx, mCx, mNx, e85]
     try rfl
    rintro e u1 ⟨⟨y, rfl, hy⟩, B1⟩
    exact ⟨_, rfl, hy, B1⟩
   ·intro act u HB HO HA
    have e82 : _ = _ := qA HA 82
    have p86 : (fun v => IsE v (T.iv S.z0)) (act.eval (.tmp 86)) := qA HA 86
    obtain ⟨x86, e86⟩ : ∃ x, act.eval (.tmp 86) = x := ⟨_, rfl⟩
    rw [e86] at p86
    refine calm_call 87 #[.agg (lk .u64 (ev a)), x86] rfl rfl ?_ (by kernel_rfl) (mul_any HV.out.2.1.is p86 u) ?_ rfl
    ·simp only [mTx, mCx, mNx, e82, e86]
     try rfl
    rintro e u1 ⟨⟨y, rfl, hy⟩, B1⟩
    exact ⟨_, rfl, hy, B1⟩
   intro act u HB HO HA
   have p87 : (fun v => IsE v (S.x0 * T.iv S.z0)) (act.eval (.tmp 87)) := qA HA 87
   obtain ⟨x87, e87⟩ : ∃ x, act.eval (.tmp 87) = x := ⟨_, rfl⟩
   rw [e87] at p87
   refine calm_call 88 #[x87] rfl rfl ?_ (by kernel_rfl) (bytes_any p87 u) ?_ rfl
   ·simp only [mTx, mCx, mNx, e87]
    try rfl
   rintro e u1 ⟨rfl, B1⟩
   exact ⟨_, rfl, rfl, B1⟩
  intro vT ww9 HB HF HN
  have f80 : _ = _ := qA HF 80
  have f81 : _ = _ := qA HF 81
  have f82 : _ = _ := qA HF 82
  have f83 : _ = _ := qA HF 83
  have f84 : _ = _ := qA HF 84
  have f85 : _ = _ := qA HF 85
  have p86 : (fun v => IsE v (T.iv S.z0)) (vT 86) := qA HF 86
  obtain ⟨x86, f86⟩ : ∃ x, vT 86 = x := ⟨_, rfl⟩
  rw [f86] at p86
  have p87 : (fun v => IsE v (S.x0 * T.iv S.z0)) (vT 87) := qA HF 87
  obtain ⟨x87, f87⟩ : ∃ x, vT 87 = x := ⟨_, rfl⟩
  rw [f87] at p87
  have f88 : _ = _ := qA HF 88
  have HK9 := hDx (HK8.out.drew.call HB)
  simp only [fill, Act.put, sAx, s0x, s1x, dSx, d0x, f80, f81, f82, f83, f84, f85, f86, f87, f88]
  clear HB HF HN f80 f81 f82 f83 f84 f85 f86 f87 f88
  clear p86 p87
  have e : S.x0 * T.iv S.z0 = lad K U := by
   have h := HV.out.1
   rw [runL] at h
   rw [h]
   rfl
  rw [e]
  go_wp2_with fail
  go_ret
  exact ⟨rfl, HK9.out.below⟩
 rw [im1 m]
 obtain ⟨hm255, hm0, hm1, hm2⟩ := pre254 m hj
 have hm3 : ((m : Int) ≥ 0) := hm0
 obtain ⟨q, r, Z, q1, r1, r4, hq32, hZ, hbit⟩ := bit_i kk HL.out.2.2.2.1 m hm255
 rw [← HL.out.2.1] at hbit
 have hix := fun u => idxS (s := kk) (k := q) (by rw [HL.out.2.2.2.1]; exact hq32) u
 have hj2 : m ≤ 255 := Nat.le_of_lt hm255
 clear hm255 hj hq32 hm3
 replace hj2 := hDx hj2
 rcases hbit with ⟨hk, hbit⟩ | ⟨hk, hbit⟩
 ·go_upto_region 10 with (first | (with_reducible show Oper.wp _ _ _ _ _ _; refine wp_bin q1 rfl rfl rfl ?_) | (with_reducible show Oper.wp _ _ _ _ _ _; refine wp_bin r1 rfl rfl rfl ?_) | (with_reducible show Oper.wp _ _ _ _ _ _; refine wp_shift hZ (Or.inl rfl) rfl rfl rfl ?_))
  clear q1 r1 r4 hZ hix hbit
  try simp only [Act.put, sAx, s0x, s1x]
  refine wp_region_cv 7 [51, 52, 53, 54, 55, 56, 57] [[], [51], [52], [], [54], [55], [56]] [(51, .int .u8 0), (52, .pointer (some ⟨BO, 0, none⟩)), (53, .agg (lk .u64 (pz a b))), (54, .int .u8 0), (55, .int .u8 1), (56, .pointer (some ⟨BO, 10, none⟩)), (57, .agg (lk .u64 (pz c d)))] rfl (by kernel_rfl) (by kernel_rfl) (by rfl) (by kernel_rfl) ?hO3 ?hE3
  case hO3 =>
   refine ⟨?_, ?_, ?_, ?_, ?_, ?_, ?_, trivial⟩
   ·intro act u HB HO HA
    have e12 := gE (x := .int .u8 0) (HO 12 (by decide))
    refine calm_val 51 _ rfl ?_ rfl rfl
    clear HB HO HA
    go_simp
    try rfl
   ·intro act u HB HO HA
    have e10 := gE (x := .pointer (some ⟨BO, 0, none⟩)) (HO 10 (by decide))
    have e51 : _ = _ := gE (qA HA 51)
    refine calm_val 52 _ rfl ?_ rfl rfl
    clear HB HO HA
    go_simp
    try rfl
   ·intro act u HB HO HA
    have e52 : _ = _ := qA HA 52
    have HS := HK8.out.drew.call HB
    exact calm_lM 53 52 e52 (HS.get 0 rfl) ag146 (qz_ext0 _ _ _ _) rfl rfl rfl rfl rfl
   ·intro act u HB HO HA
    have e12 := gE (x := .int .u8 0) (HO 12 (by decide))
    refine calm_val 54 _ rfl ?_ rfl rfl
    clear HB HO HA
    go_simp
    try rfl
   ·intro act u HB HO HA
    have e54 : _ = _ := gE (qA HA 54)
    refine calm_val 55 _ rfl ?_ rfl rfl
    clear HB HO HA
    go_simp
    try rfl
   ·intro act u HB HO HA
    have e10 := gE (x := .pointer (some ⟨BO, 0, none⟩)) (HO 10 (by decide))
    have e55 : _ = _ := gE (qA HA 55)
    refine calm_val 56 _ rfl ?_ rfl rfl
    clear HB HO HA
    go_simp
    try rfl
   intro act u HB HO HA
   have e56 : _ = _ := qA HA 56
   have HS := HK8.out.drew.call HB
   exact calm_lM 57 56 e56 (HS.get 0 rfl) ag146 (qz_ext10 _ _ _ _) rfl rfl rfl rfl rfl
  intro ww9 HB
  have HK9 := hDx (HK8.out.drew.call HB)
  simp only [fillL, Act.put, sAx, s0x, s1x, dSx, d0x]
  clear HB
  have S1 := (HK9.out.get 0 rfl)
  have K2 := HK9.out.lay 0 rfl 0 (lk .u64 (pz a b)) (qz_fit0 _ _ _ _)
  rw [qz_lay0] at K2
  go_upto_region 11 with (first | (with_reducible show wpList _ _ _ _ _ _; have S0 := S1; clear S0; refine wpList_storeM (b := BO) (o := 0) (n := 10) (cs := lk .u64 (pz a b)) rfl _ _ rfl rfl rfl S1 (qz_fit0 _ _ _ _) ag146 rfl (lk_one _ _) ?_; obtain ⟨wA, hwA⟩ : ∃ wX, wX = World.setCells ww9 BO 0 (lk .u64 (pz a b)).toList := ⟨_, rfl⟩; rw [← hwA] at K2; rw [← hwA]; clear S1 hwA; have S2 : wA.heap[BO]? = some (.cells (lk .u64 (qz a b c d)) 147) := K2.get 0 rfl) | (with_reducible show wpList _ _ _ _ _ _; have S0 := S2; clear S0; refine wpList_storeM (b := BO) (o := 10) (n := 10) (cs := lk .u64 (pz c d)) rfl _ _ rfl rfl rfl S2 (qz_fit10 _ _ _ _) ag146 rfl (lk_one _ _) ?_; have K3 := K2.lay 0 rfl 10 (lk .u64 (pz c d)) (qz_fitb _ _ _ _ _ _); rw [qz_lay10] at K3; obtain ⟨wB, hwB⟩ : ∃ wX, wX = World.setCells wA BO 10 (lk .u64 (pz c d)).toList := ⟨_, rfl⟩; rw [← hwB] at K3; rw [← hwB]; clear S2 hwB))
  obtain ⟨ww10, hw10⟩ := nm wB
  rw [← hw10] at K3
  rw [← hw10]
  have HK10 : Hid (KS [(BO, .cells (lk .u64 (qz a b c d)) 147), (XX, .cells (lk .u64 (ev xe)) 141), (BB, bob ((bl u).set 31 (bits .and .u8 (ia (bl u) 31) 127)) zz)] [] w ww10) := hDx K3
  clear K2 K3 hw10
  have T1 := (HK10.out.get 0 rfl)
  have T2 := (HK10.out.get 1 rfl)
  go_wp2_with (first | (with_reducible show wpList _ _ _ _ _ _; refine wpList_loadM (b := BO) (o := 0) (n := 10) rfl _ rfl rfl T1 ag146 (qz_ext0 _ _ _ _) rfl ?_) | (with_reducible show wpList _ _ _ _ _ _; refine wpList_loadM (b := BO) (o := 10) (n := 10) rfl _ rfl rfl T1 ag146 (qz_ext10 _ _ _ _) rfl ?_) | (with_reducible show wpList _ _ _ _ _ _; refine wpList_loadM (b := XX) (o := 0) (n := 5) rfl _ rfl rfl T2 ag141 (ev_ext _) rfl ?_))
  refine (step_any ⟨a, b, rfl, HV.out.2.1, HV.out.2.2.1⟩ ⟨c, d, rfl, HV.out.2.2.2.1, HV.out.2.2.2.2⟩ hxe.out.is _).mono ?_
  rintro e ww11 ⟨⟨v1, v2, rfl, ⟨p1, p2, rfl, hp1, hp2⟩, ⟨p3, p4, rfl, hp3, hp4⟩⟩, B1⟩
  simp only []
  have HK11 := hDx (HK10.out.call B1)
  clear B1
  clear T1 T2
  have HW := hDx (And.intro hp1 (And.intro hp2 (And.intro hp3 hp4)))
  clear hp1 hp2 hp3 hp4
  have S1 := (HK11.out.get 0 rfl)
  have K2 := HK11.out.lay 0 rfl 0 (lk .u64 (pz p1 p2)) (qz_fit0 _ _ _ _)
  rw [qz_lay0] at K2
  go_upto_region 12 with (first | (with_reducible show wpList _ _ _ _ _ _; have S0 := S1; clear S0; refine wpList_storeM (b := BO) (o := 0) (n := 10) (cs := lk .u64 (pz p1 p2)) rfl _ _ rfl rfl rfl S1 (qz_fit0 _ _ _ _) ag146 rfl (lk_one _ _) ?_; obtain ⟨wA, hwA⟩ : ∃ wX, wX = World.setCells ww11 BO 0 (lk .u64 (pz p1 p2)).toList := ⟨_, rfl⟩; rw [← hwA] at K2; rw [← hwA]; clear S1 hwA; have S2 : wA.heap[BO]? = some (.cells (lk .u64 (qz p1 p2 c d)) 147) := K2.get 0 rfl) | (with_reducible show wpList _ _ _ _ _ _; have S0 := S2; clear S0; refine wpList_storeM (b := BO) (o := 10) (n := 10) (cs := lk .u64 (pz p3 p4)) rfl _ _ rfl rfl rfl S2 (qz_fit10 _ _ _ _) ag146 rfl (lk_one _ _) ?_; have K3 := K2.lay 0 rfl 10 (lk .u64 (pz p3 p4)) (qz_fitb _ _ _ _ _ _); rw [qz_lay10] at K3; obtain ⟨wB, hwB⟩ : ∃ wX, wX = World.setCells wA BO 10 (lk .u64 (pz p3 p4)).toList := ⟨_, rfl⟩; rw [← hwB] at K3; rw [← hwB]; clear S2 hwB))
  obtain ⟨ww12, hw12⟩ := nm wB
  rw [← hw12] at K3
  rw [← hw12]
  have HK12 : Hid (KS [(BO, .cells (lk .u64 (qz p1 p2 p3 p4)) 147), (XX, .cells (lk .u64 (ev xe)) 141), (BB, bob ((bl u).set 31 (bits .and .u8 (ia (bl u) 31) 127)) zz)] [] w ww12) := hDx K3
  clear K2 K3 hw12
  try simp only [Act.put, sAx, s0x, s1x]
  refine wp_region_cv 7 [71, 72, 73, 74, 75, 76, 77] [[], [71], [72], [], [74], [75], [76]] [(71, .int .u8 0), (72, .pointer (some ⟨BO, 0, none⟩)), (73, .agg (lk .u64 (pz p1 p2))), (74, .int .u8 0), (75, .int .u8 1), (76, .pointer (some ⟨BO, 10, none⟩)), (77, .agg (lk .u64 (pz p3 p4)))] rfl (by kernel_rfl) (by kernel_rfl) (by rfl) (by kernel_rfl) ?hO4 ?hE4
  case hO4 =>
   refine ⟨?_, ?_, ?_, ?_, ?_, ?_, ?_, trivial⟩
   ·intro act u HB HO HA
    have e12 := gE (x := .int .u8 0) (HO 12 (by decide))
    refine calm_val 71 _ rfl ?_ rfl rfl
    clear HB HO HA
    go_simp
    try rfl
   ·intro act u HB HO HA
    have e10 := gE (x := .pointer (some ⟨BO, 0, none⟩)) (HO 10 (by decide))
    have e71 : _ = _ := gE (qA HA 71)
    refine calm_val 72 _ rfl ?_ rfl rfl
    clear HB HO HA
    go_simp
    try rfl
   ·intro act u HB HO HA
    have e72 : _ = _ := qA HA 72
    have HS := HK12.out.drew.call HB
    exact calm_lM 73 72 e72 (HS.get 0 rfl) ag146 (qz_ext0 _ _ _ _) rfl rfl rfl rfl rfl
   ·intro act u HB HO HA
    have e12 := gE (x := .int .u8 0) (HO 12 (by decide))
    refine calm_val 74 _ rfl ?_ rfl rfl
    clear HB HO HA
    go_simp
    try rfl
   ·intro act u HB HO HA
    have e74 : _ = _ := gE (qA HA 74)
    refine calm_val 75 _ rfl ?_ rfl rfl
    clear HB HO HA
    go_simp
    try rfl
   ·intro act u HB HO HA
    have e10 := gE (x := .pointer (some ⟨BO, 0, none⟩)) (HO 10 (by decide))
    have e75 : _ = _ := gE (qA HA 75)
    refine calm_val 76 _ rfl ?_ rfl rfl
    clear HB HO HA
    go_simp
    try rfl
   intro act u HB HO HA
   have e76 : _ = _ := qA HA 76
   have HS := HK12.out.drew.call HB
   exact calm_lM 77 76 e76 (HS.get 0 rfl) ag146 (qz_ext10 _ _ _ _) rfl rfl rfl rfl rfl
  intro ww13 HB
  have HK13 := hDx (HK12.out.drew.call HB)
  simp only [fillL, Act.put, sAx, s0x, s1x, dSx, d0x]
  clear HB
  have S1 := (HK13.out.get 0 rfl)
  have K2 := HK13.out.lay 0 rfl 0 (lk .u64 (pz p1 p2)) (qz_fit0 _ _ _ _)
  rw [qz_lay0] at K2
  go_upto_region 8 with (first | (with_reducible show wpList _ _ _ _ _ _; have S0 := S1; clear S0; refine wpList_storeM (b := BO) (o := 0) (n := 10) (cs := lk .u64 (pz p1 p2)) rfl _ _ rfl rfl rfl S1 (qz_fit0 _ _ _ _) ag146 rfl (lk_one _ _) ?_; obtain ⟨wA, hwA⟩ : ∃ wX, wX = World.setCells ww13 BO 0 (lk .u64 (pz p1 p2)).toList := ⟨_, rfl⟩; rw [← hwA] at K2; rw [← hwA]; clear S1 hwA; have S2 : wA.heap[BO]? = some (.cells (lk .u64 (qz p1 p2 p3 p4)) 147) := K2.get 0 rfl) | (with_reducible show wpList _ _ _ _ _ _; have S0 := S2; clear S0; refine wpList_storeM (b := BO) (o := 10) (n := 10) (cs := lk .u64 (pz p3 p4)) rfl _ _ rfl rfl rfl S2 (qz_fit10 _ _ _ _) ag146 rfl (lk_one _ _) ?_; have K3 := K2.lay 0 rfl 10 (lk .u64 (pz p3 p4)) (qz_fitb _ _ _ _ _ _); rw [qz_lay10] at K3; obtain ⟨wB, hwB⟩ : ∃ wX, wX = World.setCells wA BO 10 (lk .u64 (pz p3 p4)).toList := ⟨_, rfl⟩; rw [← hwB] at K3; rw [← hwB]; clear S2 hwB))
  obtain ⟨ww14, hw14⟩ := nm wB
  rw [← hw14] at K3
  rw [← hw14]
  have HK14 : Hid (KS [(BO, .cells (lk .u64 (qz p1 p2 p3 p4)) 147), (XX, .cells (lk .u64 (ev xe)) 141), (BB, bob ((bl u).set 31 (bits .and .u8 (ia (bl u) 31) 127)) zz)] [] w ww14) := hDx K3
  clear K2 K3 hw14
  go_wp2_with fail
  go_roundw
  case rel => exact ⟨m, stepL U false S, p1, p2, p3, p4, hj2.out, rfl, by rw [← runL_bit U K m S false hk]; exact HV.out.1, HW.out.1, HW.out.2.1, HW.out.2.2.1, HW.out.2.2.2, HK14.out⟩
  exact measD m
 go_upto_region 10 with (first | (with_reducible show Oper.wp _ _ _ _ _ _; refine wp_bin q1 rfl rfl rfl ?_) | (with_reducible show Oper.wp _ _ _ _ _ _; refine wp_bin r1 rfl rfl rfl ?_) | (with_reducible show Oper.wp _ _ _ _ _ _; refine wp_shift hZ (Or.inl rfl) rfl rfl rfl ?_))
 clear q1 r1 r4 hZ hix hbit
 try simp only [Act.put, sAx, s0x, s1x]
 refine wp_region_cv 7 [51, 52, 53, 54, 55, 56, 57] [[], [51], [52], [], [54], [55], [56]] [(51, .int .u8 1), (52, .pointer (some ⟨BO, 10, none⟩)), (53, .agg (lk .u64 (pz c d))), (54, .int .u8 1), (55, .int .u8 0), (56, .pointer (some ⟨BO, 0, none⟩)), (57, .agg (lk .u64 (pz a b)))] rfl (by kernel_rfl) (by kernel_rfl) (by rfl) (by kernel_rfl) ?hO5 ?hE5
 case hO5 =>
  refine ⟨?_, ?_, ?_, ?_, ?_, ?_, ?_, trivial⟩
  ·intro act u HB HO HA
   have e12 := gE (x := .int .u8 1) (HO 12 (by decide))
   refine calm_val 51 _ rfl ?_ rfl rfl
   clear HB HO HA
   go_simp
   try rfl
  ·intro act u HB HO HA
   have e10 := gE (x := .pointer (some ⟨BO, 0, none⟩)) (HO 10 (by decide))
   have e51 : _ = _ := gE (qA HA 51)
   refine calm_val 52 _ rfl ?_ rfl rfl
   clear HB HO HA
   go_simp
   try rfl
  ·intro act u HB HO HA
   have e52 : _ = _ := qA HA 52
   have HS := HK8.out.drew.call HB
   exact calm_lM 53 52 e52 (HS.get 0 rfl) ag146 (qz_ext10 _ _ _ _) rfl rfl rfl rfl rfl
  ·intro act u HB HO HA
   have e12 := gE (x := .int .u8 1) (HO 12 (by decide))
   refine calm_val 54 _ rfl ?_ rfl rfl
   clear HB HO HA
   go_simp
   try rfl
  ·intro act u HB HO HA
   have e54 : _ = _ := gE (qA HA 54)
   refine calm_val 55 _ rfl ?_ rfl rfl
   clear HB HO HA
   go_simp
   try rfl
  ·intro act u HB HO HA
   have e10 := gE (x := .pointer (some ⟨BO, 0, none⟩)) (HO 10 (by decide))
   have e55 : _ = _ := gE (qA HA 55)
   refine calm_val 56 _ rfl ?_ rfl rfl
   clear HB HO HA
   go_simp
   try rfl
  intro act u HB HO HA
  have e56 : _ = _ := qA HA 56
  have HS := HK8.out.drew.call HB
  exact calm_lM 57 56 e56 (HS.get 0 rfl) ag146 (qz_ext0 _ _ _ _) rfl rfl rfl rfl rfl
 intro ww9 HB
 have HK9 := hDx (HK8.out.drew.call HB)
 simp only [fillL, Act.put, sAx, s0x, s1x, dSx, d0x]
 clear HB
 have S1 := (HK9.out.get 0 rfl)
 have K2 := HK9.out.lay 0 rfl 0 (lk .u64 (pz c d)) (qz_fit0 _ _ _ _)
 rw [qz_lay0] at K2
 go_upto_region 11 with (first | (with_reducible show wpList _ _ _ _ _ _; have S0 := S1; clear S0; refine wpList_storeM (b := BO) (o := 0) (n := 10) (cs := lk .u64 (pz c d)) rfl _ _ rfl rfl rfl S1 (qz_fit0 _ _ _ _) ag146 rfl (lk_one _ _) ?_; obtain ⟨wA, hwA⟩ : ∃ wX, wX = World.setCells ww9 BO 0 (lk .u64 (pz c d)).toList := ⟨_, rfl⟩; rw [← hwA] at K2; rw [← hwA]; clear S1 hwA; have S2 : wA.heap[BO]? = some (.cells (lk .u64 (qz c d c d)) 147) := K2.get 0 rfl) | (with_reducible show wpList _ _ _ _ _ _; have S0 := S2; clear S0; refine wpList_storeM (b := BO) (o := 10) (n := 10) (cs := lk .u64 (pz a b)) rfl _ _ rfl rfl rfl S2 (qz_fit10 _ _ _ _) ag146 rfl (lk_one _ _) ?_; have K3 := K2.lay 0 rfl 10 (lk .u64 (pz a b)) (qz_fitb _ _ _ _ _ _); rw [qz_lay10] at K3; obtain ⟨wB, hwB⟩ : ∃ wX, wX = World.setCells wA BO 10 (lk .u64 (pz a b)).toList := ⟨_, rfl⟩; rw [← hwB] at K3; rw [← hwB]; clear S2 hwB))
 obtain ⟨ww10, hw10⟩ := nm wB
 rw [← hw10] at K3
 rw [← hw10]
 have HK10 : Hid (KS [(BO, .cells (lk .u64 (qz c d a b)) 147), (XX, .cells (lk .u64 (ev xe)) 141), (BB, bob ((bl u).set 31 (bits .and .u8 (ia (bl u) 31) 127)) zz)] [] w ww10) := hDx K3
 clear K2 K3 hw10
 have T1 := (HK10.out.get 0 rfl)
 have T2 := (HK10.out.get 1 rfl)
 go_wp2_with (first | (with_reducible show wpList _ _ _ _ _ _; refine wpList_loadM (b := BO) (o := 0) (n := 10) rfl _ rfl rfl T1 ag146 (qz_ext0 _ _ _ _) rfl ?_) | (with_reducible show wpList _ _ _ _ _ _; refine wpList_loadM (b := BO) (o := 10) (n := 10) rfl _ rfl rfl T1 ag146 (qz_ext10 _ _ _ _) rfl ?_) | (with_reducible show wpList _ _ _ _ _ _; refine wpList_loadM (b := XX) (o := 0) (n := 5) rfl _ rfl rfl T2 ag141 (ev_ext _) rfl ?_))
 refine (step_any ⟨c, d, rfl, HV.out.2.2.2.1, HV.out.2.2.2.2⟩ ⟨a, b, rfl, HV.out.2.1, HV.out.2.2.1⟩ hxe.out.is _).mono ?_
 rintro e ww11 ⟨⟨v1, v2, rfl, ⟨p1, p2, rfl, hp1, hp2⟩, ⟨p3, p4, rfl, hp3, hp4⟩⟩, B1⟩
 simp only []
 have HK11 := hDx (HK10.out.call B1)
 clear B1
 clear T1 T2
 have HW := hDx (And.intro hp1 (And.intro hp2 (And.intro hp3 hp4)))
 clear hp1 hp2 hp3 hp4
 have S1 := (HK11.out.get 0 rfl)
 have K2 := HK11.out.lay 0 rfl 0 (lk .u64 (pz p1 p2)) (qz_fit0 _ _ _ _)
 rw [qz_lay0] at K2
 go_upto_region 12 with (first | (with_reducible show wpList _ _ _ _ _ _; have S0 := S1; clear S0; refine wpList_storeM (b := BO) (o := 0) (n := 10) (cs := lk .u64 (pz p1 p2)) rfl _ _ rfl rfl rfl S1 (qz_fit0 _ _ _ _) ag146 rfl (lk_one _ _) ?_; obtain ⟨wA, hwA⟩ : ∃ wX, wX = World.setCells ww11 BO 0 (lk .u64 (pz p1 p2)).toList := ⟨_, rfl⟩; rw [← hwA] at K2; rw [← hwA]; clear S1 hwA; have S2 : wA.heap[BO]? = some (.cells (lk .u64 (qz p1 p2 a b)) 147) := K2.get 0 rfl) | (with_reducible show wpList _ _ _ _ _ _; have S0 := S2; clear S0; refine wpList_storeM (b := BO) (o := 10) (n := 10) (cs := lk .u64 (pz p3 p4)) rfl _ _ rfl rfl rfl S2 (qz_fit10 _ _ _ _) ag146 rfl (lk_one _ _) ?_; have K3 := K2.lay 0 rfl 10 (lk .u64 (pz p3 p4)) (qz_fitb _ _ _ _ _ _); rw [qz_lay10] at K3; obtain ⟨wB, hwB⟩ : ∃ wX, wX = World.setCells wA BO 10 (lk .u64 (pz p3 p4)).toList := ⟨_, rfl⟩; rw [← hwB] at K3; rw [← hwB]; clear S2 hwB))
 obtain ⟨ww12, hw12⟩ := nm wB
 rw [← hw12] at K3
 rw [← hw12]
 have HK12 : Hid (KS [(BO, .cells (lk .u64 (qz p1 p2 p3 p4)) 147), (XX, .cells (lk .u64 (ev xe)) 141), (BB, bob ((bl u).set 31 (bits .and .u8 (ia (bl u) 31) 127)) zz)] [] w ww12) := hDx K3
 clear K2 K3 hw12
 try simp only [Act.put, sAx, s0x, s1x]
 refine wp_region_cv 7 [71, 72, 73, 74, 75, 76, 77] [[], [71], [72], [], [74], [75], [76]] [(71, .int .u8 1), (72, .pointer (some ⟨BO, 10, none⟩)), (73, .agg (lk .u64 (pz p3 p4))), (74, .int .u8 1), (75, .int .u8 0), (76, .pointer (some ⟨BO, 0, none⟩)), (77, .agg (lk .u64 (pz p1 p2)))] rfl (by kernel_rfl) (by kernel_rfl) (by rfl) (by kernel_rfl) ?hO6 ?hE6
 case hO6 =>
  refine ⟨?_, ?_, ?_, ?_, ?_, ?_, ?_, trivial⟩
  ·intro act u HB HO HA
   have e12 := gE (x := .int .u8 1) (HO 12 (by decide))
   refine calm_val 71 _ rfl ?_ rfl rfl
   clear HB HO HA
   go_simp
   try rfl
  ·intro act u HB HO HA
   have e10 := gE (x := .pointer (some ⟨BO, 0, none⟩)) (HO 10 (by decide))
   have e71 : _ = _ := gE (qA HA 71)
   refine calm_val 72 _ rfl ?_ rfl rfl
   clear HB HO HA
   go_simp
   try rfl
  ·intro act u HB HO HA
   have e72 : _ = _ := qA HA 72
   have HS := HK12.out.drew.call HB
   exact calm_lM 73 72 e72 (HS.get 0 rfl) ag146 (qz_ext10 _ _ _ _) rfl rfl rfl rfl rfl
  ·intro act u HB HO HA
   have e12 := gE (x := .int .u8 1) (HO 12 (by decide))
   refine calm_val 74 _ rfl ?_ rfl rfl
   clear HB HO HA
   go_simp
   try rfl
  ·intro act u HB HO HA
   have e74 : _ = _ := gE (qA HA 74)
   refine calm_val 75 _ rfl ?_ rfl rfl
   clear HB HO HA
   go_simp
   try rfl
  ·intro act u HB HO HA
   have e10 := gE (x := .pointer (some ⟨BO, 0, none⟩)) (HO 10 (by decide))
   have e75 : _ = _ := gE (qA HA 75)
   refine calm_val 76 _ rfl ?_ rfl rfl
   clear HB HO HA
   go_simp
   try rfl
  intro act u HB HO HA
  have e76 : _ = _ := qA HA 76
  have HS := HK12.out.drew.call HB
  exact calm_lM 77 76 e76 (HS.get 0 rfl) ag146 (qz_ext0 _ _ _ _) rfl rfl rfl rfl rfl
 intro ww13 HB
 have HK13 := hDx (HK12.out.drew.call HB)
 simp only [fillL, Act.put, sAx, s0x, s1x, dSx, d0x]
 clear HB
 have S1 := (HK13.out.get 0 rfl)
 have K2 := HK13.out.lay 0 rfl 0 (lk .u64 (pz p3 p4)) (qz_fit0 _ _ _ _)
 rw [qz_lay0] at K2
 go_upto_region 8 with (first | (with_reducible show wpList _ _ _ _ _ _; have S0 := S1; clear S0; refine wpList_storeM (b := BO) (o := 0) (n := 10) (cs := lk .u64 (pz p3 p4)) rfl _ _ rfl rfl rfl S1 (qz_fit0 _ _ _ _) ag146 rfl (lk_one _ _) ?_; obtain ⟨wA, hwA⟩ : ∃ wX, wX = World.setCells ww13 BO 0 (lk .u64 (pz p3 p4)).toList := ⟨_, rfl⟩; rw [← hwA] at K2; rw [← hwA]; clear S1 hwA; have S2 : wA.heap[BO]? = some (.cells (lk .u64 (qz p3 p4 p3 p4)) 147) := K2.get 0 rfl) | (with_reducible show wpList _ _ _ _ _ _; have S0 := S2; clear S0; refine wpList_storeM (b := BO) (o := 10) (n := 10) (cs := lk .u64 (pz p1 p2)) rfl _ _ rfl rfl rfl S2 (qz_fit10 _ _ _ _) ag146 rfl (lk_one _ _) ?_; have K3 := K2.lay 0 rfl 10 (lk .u64 (pz p1 p2)) (qz_fitb _ _ _ _ _ _); rw [qz_lay10] at K3; obtain ⟨wB, hwB⟩ : ∃ wX, wX = World.setCells wA BO 10 (lk .u64 (pz p1 p2)).toList := ⟨_, rfl⟩; rw [← hwB] at K3; rw [← hwB]; clear S2 hwB))
 obtain ⟨ww14, hw14⟩ := nm wB
 rw [← hw14] at K3
 rw [← hw14]
 have HK14 : Hid (KS [(BO, .cells (lk .u64 (qz p3 p4 p1 p2)) 147), (XX, .cells (lk .u64 (ev xe)) 141), (BB, bob ((bl u).set 31 (bits .and .u8 (ia (bl u) 31) 127)) zz)] [] w ww14) := hDx K3
 clear K2 K3 hw14
 go_wp2_with fail
 go_roundw
 case rel => exact ⟨m, stepL U true S, p3, p4, p1, p2, hj2.out, rfl, by rw [← runL_bit U K m S true hk]; exact HV.out.1, HW.out.2.2.1, HW.out.2.2.2, HW.out.1, HW.out.2.1, HK14.out⟩
 exact measD m
end
end Go.Proofs.YtoplbfijodebmaaGreatDoor
