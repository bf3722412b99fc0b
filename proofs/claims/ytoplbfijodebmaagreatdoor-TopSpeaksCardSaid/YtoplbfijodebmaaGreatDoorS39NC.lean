/-
  The walk.
-/
import Derived.Test.YtoplbfijodebmaaGreatDoorS38NA
import Derived.Laws.ResultCell
set_option linter.unusedVariables false
set_option linter.unusedSimpArgs false
set_option maxRecDepth 100000
set_option maxHeartbeats 40000000
namespace Go.Proofs.YtoplbfijodebmaaGreatDoor
open Go.RowKit T
theorem ext_mid (a b c : ByteArray) (n m : Nat) (h1 : a.size = n) (h2 : (a ++ b).size = m) : ((a ++ b) ++ c).extract n m = b := by
 apply ByteArray.ext
 apply Array.ext'
 have e1 : a.data.toList.length = n := by rw [← h1]; rfl
 have e2 : a.data.toList.length + b.data.toList.length = m := by rw [← h2, ByteArray.size_append]; rfl
 simp only [ByteArray.data_extract, ByteArray.data_append, Array.toList_extract, Array.toList_append, List.extract_eq_take_drop]
 rw [List.append_assoc, List.drop_append_of_le_length (by omega), List.drop_of_length_le (by omega), List.nil_append, List.take_append_of_le_length (by omega), List.take_of_length_le (by omega)]
theorem ext_pre (a b : ByteArray) (n : Nat) (h1 : a.size = n) : (a ++ b).extract 0 n = a := ByteArray.extract_append_eq_left h1.symm
theorem ext_suf (a b : ByteArray) (n m : Nat) (h1 : a.size = n) (h2 : (a ++ b).size = m) : (a ++ b).extract n m = b := ByteArray.extract_append_eq_right h1.symm (by rw [← h2, ByteArray.size_append])
theorem sl_to (m : ByteArray) (j : Nat) (h : j ≤ m.size) (u : World) : (Instr.slice 9 (.string m) none (some (.int .i64 (j : Int))) none).run Tryz.prog u = .ok (.string (m.extract 0 j)) u := by
 have h1 : (0 : Int) ≤ j := Int.natCast_nonneg _
 have h2 : (j : Int) ≤ m.size := Int.ofNat_le.2 h
 go_simp
theorem sl_mid (m : ByteArray) (i j : Nat) (h0 : i ≤ j) (h : j ≤ m.size) (u : World) : (Instr.slice 9 (.string m) (some (.int .i64 (i : Int))) (some (.int .i64 (j : Int))) none).run Tryz.prog u = .ok (.string (m.extract i j)) u := by
 have h1 : (0 : Int) ≤ i := Int.natCast_nonneg _
 have h2 : (j : Int) ≤ m.size := Int.ofNat_le.2 h
 have h3 : (i : Int) ≤ j := Int.ofNat_le.2 h0
 go_simp
theorem sl_from (m : ByteArray) (i : Nat) (h : i ≤ m.size) (u : World) : (Instr.slice 9 (.string m) (some (.int .i64 (i : Int))) none none).run Tryz.prog u = .ok (.string (m.extract i m.size)) u := by
 have h1 : (0 : Int) ≤ i := Int.natCast_nonneg _
 have h2 : (i : Int) ≤ m.size := Int.ofNat_le.2 h
 go_simp
theorem results_tct {fn : Func} {p a c : Tmp} {tmps : Array Value} {w : World} {b n t t' : Nat} {C : Array Value} (h : fn.results = #[.tmp a, .cell p t, .tmp c]) (hp : tmps.getD p undef = .pointer (some ⟨b, 0, none⟩)) (hb : w.heap[b]? = some (.cells C t')) (ht : AgTy t n) (hn : C.size = n) :
  (results fn tmps).run Tryz.prog w = .ok (.tuple #[tmps.getD a undef, .agg C, tmps.getD c undef]) w := by
 obtain ⟨⟨d, hu, hd⟩, hs⟩ := ht
 have := run_loadVar_mid (P := Tryz.prog) w b 0 t C.toList d (range_of_block (n := n) hb (by rw [Nat.zero_add, ← hn]; simp)) hu hd (by rw [hs, Array.length_toList, hn])
 rw [gDx] at hp
 simp only [results, h]
 simp [Sem.run_bind, Result.andThen, hp, asAddr]
 simp only [Array.toArray_toList] at this
 rw [this]
theorem results_ct {fn : Func} {p c : Tmp} {tmps : Array Value} {w : World} {b n t t' : Nat} {C : Array Value} (h : fn.results = #[.cell p t, .tmp c]) (hp : tmps.getD p undef = .pointer (some ⟨b, 0, none⟩)) (hb : w.heap[b]? = some (.cells C t')) (ht : AgTy t n) (hn : C.size = n) :
  (results fn tmps).run Tryz.prog w = .ok (.tuple #[.agg C, tmps.getD c undef]) w := by
 obtain ⟨⟨d, hu, hd⟩, hs⟩ := ht
 have := run_loadVar_mid (P := Tryz.prog) w b 0 t C.toList d (range_of_block (n := n) hb (by rw [Nat.zero_add, ← hn]; simp)) hu hd (by rw [hs, Array.length_toList, hn])
 rw [gDx] at hp
 simp only [results, h]
 simp [Sem.run_bind, Result.andThen, hp, asAddr]
 simp only [Array.toArray_toList] at this
 rw [this]
def gotV (a l s r h : ByteArray) : Array Value := #[.string a, .string l, .string s, .string r, .string h]
def got0 : Obj := .cells #[.string .empty, .string .empty, .string .empty, .string .empty, .string .empty] 61
theorem M1_size (p o e x a y l : ByteArray) (he : e.size = 32) (ha : a.size = 32) : (M1 p o e x a y l).size = 96 + l.size := by
 unfold M1
 rw [ByteArray.size_append, ByteArray.size_append, C1_size, C2_size, he, ha]
 omega
theorem m_i {m l : ByteArray} (h : m.size = 96 + l.size) (hl : l.size ≤ 4096) : ¬ (4192 : Int) < m.size ∧ ¬ (m.size : Int) < 96 ∧ 32 ≤ m.size ∧ 80 ≤ m.size := by omega
theorem second_st (B p e a x y l : ByteArray) (w : World) (hT : Tab w) (hB : B.size = 32) (he : e.size = 32) (ha : a.size = 32) (hp : p.size ≤ 4096) (hl : l.size ≤ 4096) (hx : x = ladS B e) (hy : y = ladS B a) (z1 : ladS B e ≠ zeroB 32) (z2 : ladS B a ≠ zeroB 32) :
  Calls Tryz.prog 17 #[.string B, .string p, .string (M1 p (pubS B) e x a y l)] w fun r w' => ∃ ob,
   r = .returned (.tuple #[.pointer (some ⟨ob, 0, none⟩), .agg (gotV a l .empty .empty .empty), .int .i64 0]) ∧
   KS [(ob, stO (H5 p (pubS B) e x a y l) (CK2 x y) (K2 x y) 0 [.string a, .string e] 92)] [] w w' := by
 have M := M1_size p (pubS B) e x a y l he ha
 obtain ⟨m1, m2, m3, m4⟩ := m_i M hl
 have k1 : (M1 p (pubS B) e x a y l).extract 0 32 = e := by unfold M1; rw [ByteArray.append_assoc]; exact ext_pre _ _ _ he
 have k2 : (M1 p (pubS B) e x a y l).extract 32 80 = C1 p (pubS B) e x a := ext_mid _ _ _ _ _ he (by rw [ByteArray.size_append, C1_size, he, ha])
 have k3 : (M1 p (pubS B) e x a y l).extract 80 (M1 p (pubS B) e x a y l).size = C2 p (pubS B) e x a y l := ext_suf _ _ _ _ (by rw [ByteArray.size_append, C1_size, he, ha]) rfl
 have s1 := sl_to _ _ m3
 have s2 := sl_mid _ 32 80 (by decide) m4
 have s3 := sl_from _ _ m4
 rw [k1] at s1
 rw [k2] at s2
 rw [k3] at s3
 simp only [Int.cast_ofNat_Int] at s1 s2 s3
 clear M m3 m4
 obtain ⟨o, ho⟩ := nm (pubS B)
 rw [← ho] at m1 m2 k1 k2 k3 s1 s2 s3
 rw [← ho]
 obtain ⟨m, hm⟩ := nm (M1 p o e x a y l)
 rw [← hm] at m1 m2 k1 k2 k3 s1 s2 s3
 rw [← hm]
 clear hm
 have HP := hDx (And.intro hT (And.intro (show p.size ≤ 9000 by omega) (And.intro (show o.size ≤ 9000 by rw [ho, pubS_size]; decide) (And.intro hB (And.intro he ha)))))
 have HZ := hDx (And.intro z1 (And.intro z2 (And.intro hx (And.intro hy hl))))
 have HO := hDx ho
 have HR := hDx (And.intro s1 (And.intro s2 s3))
 have g1 := i32 hB
 have g4 := p4096 hp
 clear hT hB he ha hp hl z1 z2 hx hy ho s1 s2 s3 k1 k2 k3
 go_enter Tryz.func17, Tryz.ntmps17
 go_upto_region 1 with (fail)
 have HK0 := hDx (KS.start w)
 have hm1 := (HK0.out.made (.cells #[.string ⟨#[]⟩, .string ⟨#[]⟩, .string ⟨#[]⟩, .string ⟨#[]⟩, .string ⟨#[]⟩] 61))
 obtain ⟨rb, hgrb⟩ := nm w.heap.size
 obtain ⟨ww1, hv1⟩ := nm (World.alloc w (.cells #[.string ⟨#[]⟩, .string ⟨#[]⟩, .string ⟨#[]⟩, .string ⟨#[]⟩, .string ⟨#[]⟩] 61))
 rw [← hv1, ← hgrb] at hm1
 rw [← hv1]
 try rw [← hgrb]
 have HK1 : Hid (KS [(rb, got0)] [] w ww1) := hDx hm1
 clear hm1 hv1 hgrb
 go_upto_region 8 with (go_at_call 34; refine (public_any B HP.out.2.2.2.1 _).mono ?_; rintro r w2 ⟨rfl, B1⟩; rw [pubS_def, ← HO.out]; have J2 := hDx (HK1.out.call B1); clear B1)
 clear g1 g4 m1 m2
 try simp only [Act.put, sAx, s0x, s1x]
 refine wp_region_calm 7 [38, 39, 40, 41, 42, 43, 44] [44] [[], [], [38, 39], [], [41], [40, 42], [43]] (Ftab [(38, .val (.string (p))), (39, .val (.string (o))), (40, .val (.agg #[.string (h2S p o), .string h0S, .string .empty, .int .i64 0])), (41, .val (.string (m))), (42, .val (.string (e))), (43, .val (.agg #[.string (h2S p o), .string h0S, .string .empty, .int .i64 0, .string .empty, .string e])), (44, .obj w2.heap.size (stO (h2S p o) h0S .empty 0 [.string .empty, .string e] 92))]) (by kernel_rfl) (by kernel_rfl) (by rfl) (by kernel_rfl) ?hO1 ?hE1
 case hO1 =>
  refine ⟨?_, ?_, ?_, ?_, ?_, ?_, ?_, trivial⟩
  ·intro act u HB HO HA
   have e1 := gE (x := .string (p)) (HO 1 (by decide))
   refine calm_val 38 _ rfl ?_ rfl rfl
   clear HB HO HA
   go_simp
   try rfl
  ·intro act u HB HO HA
   have e9 := gE (x := .string (o)) (HO 9 (by decide))
   refine calm_val 39 _ rfl ?_ rfl rfl
   clear HB HO HA
   go_simp
   try rfl
  ·intro act u HB HO HA
   have e38 : _ = _ := qA HA 38
   have e39 : _ = _ := qA HA 39
   refine calm_call 40 #[.string (p), .string (o)] rfl rfl ?_ (by kernel_rfl) (begin_st p o u (HP.out.1.more ((J2.out.drew.call HB).below)) HP.out.2.1 HP.out.2.2.1) ?_ rfl
   ·simp only [mTx, mCx, mNx, e38, e39]
    try rfl
   rintro r u1 ⟨rfl, B1⟩
   exact ⟨_, rfl, rfl, B1⟩
  ·intro act u HB HO HA
   have e2 := gE (x := .string (m)) (HO 2 (by decide))
   refine calm_val 41 _ rfl ?_ rfl rfl
   clear HB HO HA
   go_simp
   try rfl
  ·intro act u HB HO HA
   have e41 : _ = _ := gE (qA HA 41)
   have k1 := HR.out.1
   refine calm_val 42 _ rfl ?_ rfl rfl
   clear HB HO HA
   go_simp
  ·intro act u HB HO HA
   have e40 : _ = _ := gE (qA HA 40)
   have e42 : _ = _ := gE (qA HA 42)
   refine calm_val 43 _ rfl ?_ rfl rfl
   clear HB HO HA
   go_simp
   try rfl
  intro act u HB HO HA
  have e43 : _ = _ := gE (qA HA 43)
  refine calm_new 44 (stO (h2S p o) h0S .empty 0 [.string .empty, .string e] 92) rfl ?_ (obj_new _ u _ (Nat.le_trans (by exact Nat.le_refl _) HB.size))
  clear HB HO HA
  go_simp
  rfl
 intro vT ww2 HB HF HN
 have f38 : _ = _ := qA HF 38
 have f39 : _ = _ := qA HF 39
 have f40 : _ = _ := qA HF 40
 have f41 : _ = _ := qA HF 41
 have f42 : _ = _ := qA HF 42
 have f43 : _ = _ := qA HF 43
 obtain ⟨ob, f44, q44, b44⟩ : (Fct.obj w2.heap.size (stO (h2S p o) h0S .empty 0 [.string .empty, .string e] 92)).p (vT 44) ww2 := qA HF 44
 have HK2 := hDx (KS.grow1 J2.out.drew HB ⟨q44, b44⟩)
 clear q44 b44
 simp only [fill, Act.put, sAx, s0x, s1x, dSx, d0x, f38, f39, f40, f41, f42, f43, f44]
 clear HB HF HN f38 f39 f40 f41 f42 f43 f44
 go_upto_region 9 with (fail)
 have HB0 := hDx (neX HP.out.1 (Nat.le_refl _) ((HK2.out.mem 0 rfl).resolve_left (by simp)))
 try simp only [Act.put, sAx, s0x, s1x]
 refine wp_region_cv 7 [45, 46, 47, 48, 49, 50, 51] [[], [45], [46], [], [48], [49], [50]] [(45, .pointer (some ⟨ob, 0, none⟩)), (46, .pointer (some ⟨ob, 0, none⟩)), (47, .pointer (some ⟨ob, 0, none⟩)), (48, .pointer (some ⟨ob, 0, none⟩)), (49, .pointer (some ⟨ob, 0, none⟩)), (50, .pointer (some ⟨ob, 5, none⟩)), (51, .string (e))] rfl (by kernel_rfl) (by kernel_rfl) (by rfl) (by kernel_rfl) ?hO2 ?hE2
 case hO2 =>
  refine ⟨?_, ?_, ?_, ?_, ?_, ?_, ?_, trivial⟩
  ·intro act u HB HO HA
   have e11 := gE (x := .pointer (some ⟨ob, 0, none⟩)) (HO 11 (by decide))
   refine calm_val 45 _ rfl ?_ rfl rfl
   clear HB HO HA
   go_simp
   try rfl
  ·intro act u HB HO HA
   have e45 : _ = _ := gE (qA HA 45)
   refine calm_val 46 _ rfl ?_ rfl rfl
   clear HB HO HA
   go_simp
   try rfl
  ·intro act u HB HO HA
   have e46 : _ = _ := gE (qA HA 46)
   refine calm_val 47 _ rfl ?_ rfl rfl
   clear HB HO HA
   go_simp
   try rfl
  ·intro act u HB HO HA
   have e11 := gE (x := .pointer (some ⟨ob, 0, none⟩)) (HO 11 (by decide))
   refine calm_val 48 _ rfl ?_ rfl rfl
   clear HB HO HA
   go_simp
   try rfl
  ·intro act u HB HO HA
   have e48 : _ = _ := gE (qA HA 48)
   refine calm_val 49 _ rfl ?_ rfl rfl
   clear HB HO HA
   go_simp
   try rfl
  ·intro act u HB HO HA
   have e49 : _ = _ := gE (qA HA 49)
   refine calm_val 50 _ rfl ?_ rfl rfl
   clear HB HO HA
   go_simp
   try rfl
  intro act u HB HO HA
  have e50 : _ = _ := gE (qA HA 50)
  have HS := HK2.out.drew.call HB
  have lT : u.cell? ⟨ob, 5, none⟩ = some (.string (e)) := (HS.cells 0 rfl).cell _ _ (rfl)
  refine calm_val 51 _ rfl ?_ rfl rfl
  clear HB HO HA HS
  go_simp
 intro ww3 HB
 have HK3 := hDx (HK2.out.drew.call HB)
 simp only [fillL, Act.put, sAx, s0x, s1x, dSx, d0x]
 clear HB
 go_upto_region 10 with (go_at_call 35; refine (mix_any ob (h2S p o) h0S .empty e 0 [.string .empty, .string e] 92 _ (HK3.out.get 0 rfl) (HP.out.1.more HK3.out.below) (mixS_size _ _) (by have := HP.out.2.2.2.2.1; omega)).mono ?_; rintro r w3 ⟨rfl, K⟩; have J3 : Hid (KS [(ob, stO (H3 p o e) h0S .empty 0 [.string .empty, .string e] 92), (rb, got0)] [] w w3) := hDx (HK3.out.callT 0 rfl K.only (K.get 0 rfl)); clear K)
 try simp only [Act.put, sAx, s0x, s1x]
 refine wp_region_cv 8 [53, 54, 55, 56, 57, 58, 59, 60] [[], [53], [54], [], [], [57], [58], [59]] [(53, .pointer (some ⟨ob, 0, none⟩)), (54, .pointer (some ⟨ob, 0, none⟩)), (55, .pointer (some ⟨ob, 0, none⟩)), (56, .string (B)), (57, .pointer (some ⟨ob, 0, none⟩)), (58, .pointer (some ⟨ob, 0, none⟩)), (59, .pointer (some ⟨ob, 5, none⟩)), (60, .string (e))] rfl (by kernel_rfl) (by kernel_rfl) (by rfl) (by kernel_rfl) ?hO3 ?hE3
 case hO3 =>
  refine ⟨?_, ?_, ?_, ?_, ?_, ?_, ?_, ?_, trivial⟩
  ·intro act u HB HO HA
   have e11 := gE (x := .pointer (some ⟨ob, 0, none⟩)) (HO 11 (by decide))
   refine calm_val 53 _ rfl ?_ rfl rfl
   clear HB HO HA
   go_simp
   try rfl
  ·intro act u HB HO HA
   have e53 : _ = _ := gE (qA HA 53)
   refine calm_val 54 _ rfl ?_ rfl rfl
   clear HB HO HA
   go_simp
   try rfl
  ·intro act u HB HO HA
   have e54 : _ = _ := gE (qA HA 54)
   refine calm_val 55 _ rfl ?_ rfl rfl
   clear HB HO HA
   go_simp
   try rfl
  ·intro act u HB HO HA
   have e0 := gE (x := .string (B)) (HO 0 (by decide))
   refine calm_val 56 _ rfl ?_ rfl rfl
   clear HB HO HA
   go_simp
   try rfl
  ·intro act u HB HO HA
   have e11 := gE (x := .pointer (some ⟨ob, 0, none⟩)) (HO 11 (by decide))
   refine calm_val 57 _ rfl ?_ rfl rfl
   clear HB HO HA
   go_simp
   try rfl
  ·intro act u HB HO HA
   have e57 : _ = _ := gE (qA HA 57)
   refine calm_val 58 _ rfl ?_ rfl rfl
   clear HB HO HA
   go_simp
   try rfl
  ·intro act u HB HO HA
   have e58 : _ = _ := gE (qA HA 58)
   refine calm_val 59 _ rfl ?_ rfl rfl
   clear HB HO HA
   go_simp
   try rfl
  intro act u HB HO HA
  have e59 : _ = _ := gE (qA HA 59)
  have HS := J3.out.drew.call HB
  have lT : u.cell? ⟨ob, 5, none⟩ = some (.string (e)) := (HS.cells 0 rfl).cell _ _ (rfl)
  refine calm_val 60 _ rfl ?_ rfl rfl
  clear HB HO HA HS
  go_simp
 intro ww4 HB
 have HK4 := hDx (J3.out.drew.call HB)
 simp only [fillL, Act.put, sAx, s0x, s1x, dSx, d0x]
 clear HB
 go_upto_region 11 with (go_at_call 36; refine (add_st ob (H3 p o e) h0S .empty B e [.string .empty, .string e] 92 _ (HK4.out.get 0 rfl) (HP.out.1.more HK4.out.below) HB0.out HP.out.2.2.2.1 HP.out.2.2.2.2.1 HZ.out.1 h0S_size).mono ?_; rintro r w4 ⟨rfl, K⟩; have J4 : Hid (KS [(ob, stO (H3 p o e) (ckS h0S x) (kyS h0S x) 0 [.string .empty, .string e] 92), (rb, got0)] [] w w4) := (by rw [HZ.out.2.2.1]; exact hDx (HK4.out.callT 0 rfl K.only (K.get 0 rfl))); clear K)
 try simp only [Act.put, sAx, s0x, s1x]
 refine wp_region_cvl 6 0 [62, 63, 64, 65, 66, 67] [[], [], [63], [64], [], [66]] [(62, .pointer (some ⟨ob, 0, none⟩)), (63, .pointer (some ⟨ob, 0, none⟩)), (64, .pointer (some ⟨ob, 0, none⟩)), (65, .pointer (some ⟨ob, 0, none⟩)), (66, .string (m)), (67, .string (C1 p o e x a))] rfl (by kernel_rfl) (by kernel_rfl) (by rfl) (by kernel_rfl) 62 rfl rfl (by kernel_rfl) (fun _ _ _ _ h => h) ?hY4 ?hO4 ?hE4
 case hY4 =>
  intro act u HB HO HA
  have e11 : act.eval (.tmp 11) = .pointer (some ⟨ob, 0, none⟩) := HO 11 (by decide)
  exact ⟨.pointer (some ⟨ob, 0, none⟩), fun w => run_mv rfl e11, rfl⟩
 case hO4 =>
  refine ⟨?_, ?_, ?_, ?_, ?_, ?_, trivial⟩
  ·intro act u HB HO HA
   have e11 : act.eval (.tmp 11) = .pointer (some ⟨ob, 0, none⟩) := HO 11 (by decide)
   exact calm_val 62 _ rfl (run_mv rfl e11) rfl rfl
  ·intro act u HB HO HA
   have e11 := gE (x := .pointer (some ⟨ob, 0, none⟩)) (HO 11 (by decide))
   refine calm_val 63 _ rfl ?_ rfl rfl
   clear HB HO HA
   go_simp
   try rfl
  ·intro act u HB HO HA
   have e63 : _ = _ := gE (qA HA 63)
   refine calm_val 64 _ rfl ?_ rfl rfl
   clear HB HO HA
   go_simp
   try rfl
  ·intro act u HB HO HA
   have e64 : _ = _ := gE (qA HA 64)
   refine calm_val 65 _ rfl ?_ rfl rfl
   clear HB HO HA
   go_simp
   try rfl
  ·intro act u HB HO HA
   have e2 := gE (x := .string (m)) (HO 2 (by decide))
   refine calm_val 66 _ rfl ?_ rfl rfl
   clear HB HO HA
   go_simp
   try rfl
  intro act u HB HO HA
  have e66 : _ = _ := gE (qA HA 66)
  have k2 := HR.out.2.1
  refine calm_val 67 _ rfl ?_ rfl rfl
  clear HB HO HA
  go_simp
 intro ww5 HB
 have HK5 := hDx (J4.out.drew.call HB)
 simp only [fillL, Act.put, sAx, s0x, s1x, dSx, d0x]
 clear HB
 go_upto_region 12 with (go_at_call 38; refine (open_st ob (H3 p o e) (ckS h0S x) (kyS h0S x) (C1 p o e x a) [.string .empty, .string e] 92 _ (HK5.out.get 0 rfl) (HP.out.1.more HK5.out.below) HB0.out (mixS_size _ _) (kyS_size _ _) (by rw [C1_size]; omega) (by rw [C1_size, HP.out.2.2.2.2.2]; decide) (opens_seal _ _ _ _)).mono ?_; rintro r w5 ⟨rfl, K⟩; have J5 : Hid (KS [(ob, stO (H4 p o e x a) (ckS h0S x) (kyS h0S x) 0 [.string .empty, .string e] 92), (rb, got0)] [] w w5) := hDx (HK5.out.callT 0 rfl K.only (K.get 0 rfl)); clear K; rw [show trnS (kyS h0S x) (nonS 0) 1 (cutS (C1 p o e x a)) = a from open_seal _ _ _ _]; have d4 := (J5.out.cells 0 rfl).cell 4 _ rfl; have y4 := stfz (J5.out.get 0 rfl) 4)
 clear d4 y4
 have J6 : Hid (KS [(ob, stO (H4 p o e x a) (ckS h0S x) (kyS h0S x) 0 [.string a, .string e] 92), (rb, got0)] [] w (w5.setCell ⟨ob, 4, none⟩ (.string a))) := hDx (J5.out.set 0 rfl 4 (.string a))
 obtain ⟨w6, hv6⟩ := nm (w5.setCell ⟨ob, 4, none⟩ (.string a))
 rw [← hv6] at J6
 rw [← hv6]
 clear hv6
 try simp only [Act.put, sAx, s0x, s1x]
 refine wp_region_cv 8 [71, 72, 73, 74, 75, 76, 77, 78] [[], [71], [72], [], [], [75], [76], [77]] [(71, .pointer (some ⟨ob, 0, none⟩)), (72, .pointer (some ⟨ob, 0, none⟩)), (73, .pointer (some ⟨ob, 0, none⟩)), (74, .string (B)), (75, .pointer (some ⟨ob, 0, none⟩)), (76, .pointer (some ⟨ob, 0, none⟩)), (77, .pointer (some ⟨ob, 4, none⟩)), (78, .string (a))] rfl (by kernel_rfl) (by kernel_rfl) (by rfl) (by kernel_rfl) ?hO5 ?hE5
 case hO5 =>
  refine ⟨?_, ?_, ?_, ?_, ?_, ?_, ?_, ?_, trivial⟩
  ·intro act u HB HO HA
   have e11 := gE (x := .pointer (some ⟨ob, 0, none⟩)) (HO 11 (by decide))
   refine calm_val 71 _ rfl ?_ rfl rfl
   clear HB HO HA
   go_simp
   try rfl
  ·intro act u HB HO HA
   have e71 : _ = _ := gE (qA HA 71)
   refine calm_val 72 _ rfl ?_ rfl rfl
   clear HB HO HA
   go_simp
   try rfl
  ·intro act u HB HO HA
   have e72 : _ = _ := gE (qA HA 72)
   refine calm_val 73 _ rfl ?_ rfl rfl
   clear HB HO HA
   go_simp
   try rfl
  ·intro act u HB HO HA
   have e0 := gE (x := .string (B)) (HO 0 (by decide))
   refine calm_val 74 _ rfl ?_ rfl rfl
   clear HB HO HA
   go_simp
   try rfl
  ·intro act u HB HO HA
   have e11 := gE (x := .pointer (some ⟨ob, 0, none⟩)) (HO 11 (by decide))
   refine calm_val 75 _ rfl ?_ rfl rfl
   clear HB HO HA
   go_simp
   try rfl
  ·intro act u HB HO HA
   have e75 : _ = _ := gE (qA HA 75)
   refine calm_val 76 _ rfl ?_ rfl rfl
   clear HB HO HA
   go_simp
   try rfl
  ·intro act u HB HO HA
   have e76 : _ = _ := gE (qA HA 76)
   refine calm_val 77 _ rfl ?_ rfl rfl
   clear HB HO HA
   go_simp
   try rfl
  intro act u HB HO HA
  have e77 : _ = _ := gE (qA HA 77)
  have HS := J6.out.drew.call HB
  have lT : u.cell? ⟨ob, 4, none⟩ = some (.string (a)) := (HS.cells 0 rfl).cell _ _ (rfl)
  refine calm_val 78 _ rfl ?_ rfl rfl
  clear HB HO HA HS
  go_simp
 intro ww6 HB
 have HK6 := hDx (J6.out.drew.call HB)
 simp only [fillL, Act.put, sAx, s0x, s1x, dSx, d0x]
 clear HB
 go_upto_region 13 with (go_at_call 36; refine (add_st ob (H4 p o e x a) (ckS h0S x) (kyS h0S x) B a [.string a, .string e] 92 _ (HK6.out.get 0 rfl) (HP.out.1.more HK6.out.below) HB0.out HP.out.2.2.2.1 HP.out.2.2.2.2.2 HZ.out.2.1 (ckS_size _ _)).mono ?_; rintro r w7 ⟨rfl, K⟩; have J7 : Hid (KS [(ob, stO (H4 p o e x a) (CK2 x y) (K2 x y) 0 [.string a, .string e] 92), (rb, got0)] [] w w7) := (by rw [HZ.out.2.2.2.1]; exact hDx (HK6.out.callT 0 rfl K.only (K.get 0 rfl))); clear K)
 try simp only [Act.put, sAx, s0x, s1x]
 refine wp_region_cv 5 [80, 81, 82, 83, 84] [[], [80], [81], [], [83]] [(80, .pointer (some ⟨ob, 0, none⟩)), (81, .pointer (some ⟨ob, 0, none⟩)), (82, .pointer (some ⟨ob, 0, none⟩)), (83, .string (m)), (84, .string (C2 p o e x a y l))] rfl (by kernel_rfl) (by kernel_rfl) (by rfl) (by kernel_rfl) ?hO6 ?hE6
 case hO6 =>
  refine ⟨?_, ?_, ?_, ?_, ?_, trivial⟩
  ·intro act u HB HO HA
   have e11 := gE (x := .pointer (some ⟨ob, 0, none⟩)) (HO 11 (by decide))
   refine calm_val 80 _ rfl ?_ rfl rfl
   clear HB HO HA
   go_simp
   try rfl
  ·intro act u HB HO HA
   have e80 : _ = _ := gE (qA HA 80)
   refine calm_val 81 _ rfl ?_ rfl rfl
   clear HB HO HA
   go_simp
   try rfl
  ·intro act u HB HO HA
   have e81 : _ = _ := gE (qA HA 81)
   refine calm_val 82 _ rfl ?_ rfl rfl
   clear HB HO HA
   go_simp
   try rfl
  ·intro act u HB HO HA
   have e2 := gE (x := .string (m)) (HO 2 (by decide))
   refine calm_val 83 _ rfl ?_ rfl rfl
   clear HB HO HA
   go_simp
   try rfl
  intro act u HB HO HA
  have e83 : _ = _ := gE (qA HA 83)
  have k3 := HR.out.2.2
  refine calm_val 84 _ rfl ?_ rfl rfl
  clear HB HO HA
  go_simp
 intro ww7 HB
 have HK7 := hDx (J7.out.drew.call HB)
 simp only [fillL, Act.put, sAx, s0x, s1x, dSx, d0x]
 clear HB
 go_upto_region 14 with (go_at_call 38; refine (open_st ob (H4 p o e x a) (CK2 x y) (K2 x y) (C2 p o e x a y l) [.string a, .string e] 92 _ (HK7.out.get 0 rfl) (HP.out.1.more HK7.out.below) HB0.out (mixS_size _ _) (kyS_size _ _) (by rw [C2_size]; omega) (by rw [C2_size]; have := HZ.out.2.2.2.2; omega) (opens_seal _ _ _ _)).mono ?_; rintro r w8 ⟨rfl, K⟩; have J8 : Hid (KS [(ob, stO (H5 p o e x a y l) (CK2 x y) (K2 x y) 0 [.string a, .string e] 92), (rb, got0)] [] w w8) := hDx (HK7.out.callT 0 rfl K.only (K.get 0 rfl)); clear K; rw [show trnS (K2 x y) (nonS 0) 1 (cutS (C2 p o e x a y l)) = l from open_seal _ _ _ _])
 have d3 := stc3 (J8.out.get 0 rfl)
 go_upto_region 16 with (fail)
 clear d3
 try simp only [Act.put, sAx, s0x, s1x]
 refine wp_region_cv 8 [98, 99, 100, 101, 102, 103, 104, 6] [[], [], [99], [100], [101], [], [102, 103], [98]] [(98, .pointer (some ⟨ob, 0, none⟩)), (99, .pointer (some ⟨ob, 0, none⟩)), (100, .pointer (some ⟨ob, 0, none⟩)), (101, .pointer (some ⟨ob, 4, none⟩)), (102, .string (a)), (103, .string (l)), (104, .agg (gotV a l .empty .empty .empty)), (6, .pointer (some ⟨ob, 0, none⟩))] rfl (by kernel_rfl) (by kernel_rfl) (by rfl) (by kernel_rfl) ?hO7 ?hE7
 case hO7 =>
  refine ⟨?_, ?_, ?_, ?_, ?_, ?_, ?_, ?_, trivial⟩
  ·intro act u HB HO HA
   have e11 := gE (x := .pointer (some ⟨ob, 0, none⟩)) (HO 11 (by decide))
   refine calm_val 98 _ rfl ?_ rfl rfl
   clear HB HO HA
   go_simp
   try rfl
  ·intro act u HB HO HA
   have e11 := gE (x := .pointer (some ⟨ob, 0, none⟩)) (HO 11 (by decide))
   refine calm_val 99 _ rfl ?_ rfl rfl
   clear HB HO HA
   go_simp
   try rfl
  ·intro act u HB HO HA
   have e99 : _ = _ := gE (qA HA 99)
   refine calm_val 100 _ rfl ?_ rfl rfl
   clear HB HO HA
   go_simp
   try rfl
  ·intro act u HB HO HA
   have e100 : _ = _ := gE (qA HA 100)
   refine calm_val 101 _ rfl ?_ rfl rfl
   clear HB HO HA
   go_simp
   try rfl
  ·intro act u HB HO HA
   have e101 : _ = _ := gE (qA HA 101)
   have HS := J8.out.drew.call HB
   have lT : u.cell? ⟨ob, 4, none⟩ = some (.string (a)) := (HS.cells 0 rfl).cell _ _ (rfl)
   refine calm_val 102 _ rfl ?_ rfl rfl
   clear HB HO HA HS
   go_simp
  ·intro act u HB HO HA
   have e12 := gE (x := .string (l)) (HO 12 (by decide))
   refine calm_val 103 _ rfl ?_ rfl rfl
   clear HB HO HA
   go_simp
   try rfl
  ·intro act u HB HO HA
   have e102 : _ = _ := gE (qA HA 102)
   have e103 : _ = _ := gE (qA HA 103)
   refine calm_val 104 _ rfl ?_ rfl rfl
   clear HB HO HA
   go_simp
   try rfl
  intro act u HB HO HA
  have e98 : _ = _ := gE (qA HA 98)
  refine calm_val 6 _ rfl ?_ rfl rfl
  clear HB HO HA
  go_simp
  try rfl
 intro ww8 HB
 have HK8 := hDx (J8.out.drew.call HB)
 simp only [fillL, Act.put, sAx, s0x, s1x, dSx, d0x]
 clear HB
 go_wp2_with (refine wpList_storeM (b := rb) (o := 0) (n := 5) (cs := gotV a l .empty .empty .empty) rfl _ _ rfl rfl rfl (HK8.out.get 1 rfl) (by decide) ag61 rfl (by simp [gotV, Value.oneCell']) ?_)
 have hm := HK8.out.lay 1 rfl 0 (gotV a l .empty .empty .empty) (Nat.le_refl 5)
 rw [lay_all _ _ (by rfl)] at hm
 try simp only [Exit.inBlock, Exit.then]
 refine bodyPost_ret (results_tct (a := 6) (p := 7) (c := 8) (n := 5) (C := gotV a l .empty .empty .empty) (by kernel_rfl) (by rfl) (hm.get 1 rfl) ag61 rfl) rfl ?_
 exact ⟨ob, rfl, hm.sub (.cons_cons _ (.cons _ .slnil))⟩
end Go.Proofs.YtoplbfijodebmaaGreatDoor
