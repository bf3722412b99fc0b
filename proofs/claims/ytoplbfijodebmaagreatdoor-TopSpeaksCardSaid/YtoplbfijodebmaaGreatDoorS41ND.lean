/-
  The walk.
-/
import Derived.Test.YtoplbfijodebmaaGreatDoorS39NC
import Derived.Test.YtoplbfijodebmaaGreatDoorS40TA
import Derived.Test.YtoplbfijodebmaaGreatDoorM26RL
set_option linter.unusedVariables false
set_option linter.unusedSimpArgs false
set_option maxRecDepth 100000
set_option maxHeartbeats 40000000
namespace Go.Proofs.YtoplbfijodebmaaGreatDoor
section
open Go.RowKit T
def CK4 (ck x y : ByteArray) : ByteArray := ckS (ckS ck x) y
def K4 (ck x y : ByteArray) : ByteArray := kyS (ckS ck x) y
def C3 (h ck r x y l : ByteArray) : ByteArray := sealS (K4 ck x y) (nonS 0) (mixS h r) l
def H7 (h ck r x y l : ByteArray) : ByteArray := mixS (mixS h r) (C3 h ck r x y l)
def A1 (ck x y : ByteArray) : ByteArray := ckS (CK4 ck x y) .empty
def A2 (ck x y : ByteArray) : ByteArray := kyS (CK4 ck x y) .empty
theorem C3_size (h ck r x y l : ByteArray) : (C3 h ck r x y l).size = l.size + 16 := sealS_size _ _ _ _
def stQ (h ck k : ByteArray) : Array Value := #[.string h, .string ck, .string k, .int .i64 0]
theorem answer_st (ob : Nat) (h ck k a e F l x y : ByteArray) (w : World) (hT : Tab w) (hob : w.heap[ob]? = some (stO h ck k 0 [.string a, .string e] 92)) (h0 : ob ≠ 0) (hh : h.size = 32) (hck : ck.size = 32) (hF : F.size = 32) (he : e.size = 32) (ha : a.size = 32) (hl : l.size ≤ 4096)
  (hx : x = ladS F e) (hy : y = ladS F a) (z1 : ladS F e ≠ zeroB 32) (z2 : ladS F a ≠ zeroB 32) :
  Calls Tryz.prog 18 #[.pointer (some ⟨ob, 0, none⟩), .string F, .string l] w fun r w' =>
   r = .returned (.tuple #[.string (pubS F ++ C3 h ck (pubS F) x y l), .agg (gotV a .empty (A2 ck x y) (A1 ck x y) (H7 h ck (pubS F) x y l)), .int .i64 0]) ∧ Below w.heap.size w w' := by
 have g0 := nonempty_s hh
 have g1 := i32 hF
 have g5 := p4096 hl
 have HP := hDx (And.intro hT (And.intro (show 0 ∉ [ob] by simpa using Ne.symm h0) (And.intro hh (And.intro hck (And.intro hF (And.intro he ha))))))
 have HZ := hDx (And.intro z1 (And.intro z2 (And.intro hx (And.intro hy (show l.size ≤ 5000 by omega)))))
 have H0 := hDx (KS.startX w hob)
 have c0 := stc0 hob
 obtain ⟨r, hr⟩ := nm (pubS F)
 rw [← hr]
 have HR := hDx (And.intro hr (show r.size = 32 by rw [hr]; exact pubS_size F))
 obtain ⟨v1, hv1⟩ := nm (A1 ck x y)
 obtain ⟨v2, hv2⟩ := nm (A2 ck x y)
 obtain ⟨h7, hv3⟩ := nm (H7 h ck r x y l)
 obtain ⟨c3, hv4⟩ := nm (C3 h ck r x y l)
 rw [← hv1, ← hv2, ← hv3, ← hv4]
 have HN := hDx (And.intro hv1 (And.intro hv2 (And.intro hv3 hv4)))
 clear hT hob h0 hh hck hF he ha hl hx hy z1 z2 hr hv1 hv2 hv3 hv4
 go_enter Tryz.func18, Tryz.ntmps18
 go_upto_region 1 with (fail)
 clear c0
 have hm1 := (H0.out.made (.cells #[.string ⟨#[]⟩, .string ⟨#[]⟩, .string ⟨#[]⟩, .string ⟨#[]⟩, .string ⟨#[]⟩] 61))
 obtain ⟨rb, hgrb⟩ := nm w.heap.size
 obtain ⟨ww1, hv1⟩ := nm (World.alloc w (.cells #[.string ⟨#[]⟩, .string ⟨#[]⟩, .string ⟨#[]⟩, .string ⟨#[]⟩, .string ⟨#[]⟩] 61))
 rw [← hv1, ← hgrb] at hm1
 rw [← hv1]
 try rw [← hgrb]
 have HK1 : Hid (KS [(rb, got0), (ob, stO h ck k 0 [.string a, .string e] 92)] [ob] w ww1) := hDx hm1
 clear hm1 hv1 hgrb
 have c0 := stc0 (HK1.out.get 1 rfl)
 have zst := fun (u : World) => heap_alloc_last u (.cells #[.string ⟨#[]⟩, .string ⟨#[]⟩, .string ⟨#[]⟩, .int .i64 0] 83)
 have ld := (HK1.out.get 1 rfl)
 go_upto_region 7 with (fail)
 go_upto_region 8 with (first | (refine wpList_loadM (t := 83) (n := 4) (b := ob) (o := 0) (cs := stQ h ck k) rfl _ rfl rfl ld ag83 rfl rfl ?_) | (refine wpList_storeM (b := ww1.heap.size) (o := 0) (n := 4) (cs := stQ h ck k) rfl _ _ rfl rfl rfl (zst ww1) (by decide) ag83 rfl (by simp [gotV, stQ, Value.oneCell']) ?_))
 have hm := (HK1.out.made (.cells #[.string ⟨#[]⟩, .string ⟨#[]⟩, .string ⟨#[]⟩, .int .i64 0] 83)).lay 0 rfl 0 (stQ h ck k) (Nat.le_refl 4)
 rw [lay_all _ _ (by rfl)] at hm
 have hn0 : ww1.heap.size ≠ 0 := neX HP.out.1 (HK1.out.size) (Nat.le_refl _)
 obtain ⟨sb, hG⟩ := nm ww1.heap.size
 obtain ⟨wl, hvl⟩ := nm (World.setCells (World.alloc ww1 (.cells #[.string ⟨#[]⟩, .string ⟨#[]⟩, .string ⟨#[]⟩, .int .i64 0] 83)) ww1.heap.size 0 (stQ h ck k).toList)
 rw [← hvl, ← hG] at hm
 rw [← hG] at hn0
 rw [← hvl]
 try rw [← hG]
 have JL : Hid (KS [(sb, stO h ck k 0 [] 83), (rb, got0), (ob, stO h ck k 0 [.string a, .string e] 92)] [ob] w wl) := hDx hm
 have HB0 := hDx hn0
 clear hm hvl hG hn0 ld zst
 clear c0 g0 g1 g5
 go_upto_region 9 with (go_at_call 34; refine (public_any F HP.out.2.2.2.2.1 _).mono ?_; rintro q w2 ⟨rfl, B1⟩; rw [pubS_def, ← HR.out.1]; have J2 := hDx (JL.out.call B1); clear B1)
 go_upto_region 10 with (go_at_call 35; refine (mix_any sb h ck k r 0 [] 83 _ (J2.out.get 0 rfl) (J2.out.tab HP.out.1 HP.out.2.1) HP.out.2.2.1 (by have := HR.out.2; omega)).mono ?_; rintro q w3 ⟨rfl, K⟩; have J3 : Hid (KS [(sb, stO (mixS h r) ck k 0 [] 83), (rb, got0), (ob, stO h ck k 0 [.string a, .string e] 92)] [ob] w w3) := hDx (J2.out.callT 0 rfl K.only (K.get 0 rfl)); clear K)
 have c5 := (J3.out.cells 2 rfl).cell 5 _ rfl
 go_upto_region 11 with (go_at_call 36; refine (add_st sb (mixS h r) ck k F e [] 83 _ (J3.out.get 0 rfl) (J3.out.tab HP.out.1 HP.out.2.1) HB0.out HP.out.2.2.2.2.1 HP.out.2.2.2.2.2.1 HZ.out.1 HP.out.2.2.2.1).mono ?_; rintro q w4 ⟨rfl, K⟩; have J4 : Hid (KS [(sb, stO (mixS h r) (ckS ck x) (kyS ck x) 0 [] 83), (rb, got0), (ob, stO h ck k 0 [.string a, .string e] 92)] [ob] w w4) := (by rw [HZ.out.2.2.1]; exact hDx (J3.out.callT 0 rfl K.only (K.get 0 rfl))); clear K)
 clear c5
 have c4 := (J4.out.cells 2 rfl).cell 4 _ rfl
 go_upto_region 12 with (go_at_call 36; refine (add_st sb (mixS h r) (ckS ck x) (kyS ck x) F a [] 83 _ (J4.out.get 0 rfl) (J4.out.tab HP.out.1 HP.out.2.1) HB0.out HP.out.2.2.2.2.1 HP.out.2.2.2.2.2.2 HZ.out.2.1 (ckS_size _ _)).mono ?_; rintro q w5 ⟨rfl, K⟩; have J5 : Hid (KS [(sb, stO (mixS h r) (CK4 ck x y) (K4 ck x y) 0 [] 83), (rb, got0), (ob, stO h ck k 0 [.string a, .string e] 92)] [ob] w w5) := (by rw [HZ.out.2.2.2.1]; exact hDx (J4.out.callT 0 rfl K.only (K.get 0 rfl))); clear K)
 clear c4
 have as1 := addS r c3 (app_i (by have := HR.out.2; omega) (by rw [HN.out.2.2.2, C3_size]; have := HZ.out.2.2.2.2; omega))
 go_upto_region 13 with (go_at_call 37; refine (seal_st sb (mixS h r) (CK4 ck x y) (K4 ck x y) l [] 83 _ (J5.out.get 0 rfl) (J5.out.tab HP.out.1 HP.out.2.1) HB0.out (mixS_size _ _) (kyS_size _ _) HZ.out.2.2.2.2).mono ?_; rintro q w6 ⟨rfl, K⟩; have J6 : Hid (KS [(sb, stO h7 (CK4 ck x y) (K4 ck x y) 0 [] 83), (rb, got0), (ob, stO h ck k 0 [.string a, .string e] 92)] [ob] w w6) := (by rw [HN.out.2.2.1]; exact hDx (J5.out.callT 0 rfl K.only (K.get 0 rfl))); clear K; rw [show sealS (K4 ck x y) (nonS 0) (mixS h r) l = C3 h ck r x y l from rfl, ← HN.out.2.2.2])
 clear as1
 have d3 := stc3 (J6.out.get 0 rfl)
 go_upto_region 16 with (go_at_call 39; refine (keys_any sb h7 (CK4 ck x y) (K4 ck x y) 0 [] 83 _ (J6.out.get 0 rfl) (J6.out.tab HP.out.1 HP.out.2.1) (ckS_size _ _)).mono ?_; rintro q w7 ⟨rfl, B1⟩; rw [show ckS (CK4 ck x y) .empty = A1 ck x y from rfl, show kyS (CK4 ck x y) .empty = A2 ck x y from rfl, ← HN.out.1, ← HN.out.2.1]; have J7 := hDx (J6.out.call B1); clear B1)
 clear d3
 try simp only [Act.put, sAx, s0x, s1x]
 refine wp_region_cv 11 [73, 74, 75, 76, 77, 78, 79, 80, 81, 82, 6] [[], [], [74], [75], [76], [], [], [], [80], [77, 78, 79, 81], [73]] [(73, .string (r ++ c3)), (74, .pointer (some ⟨ob, 0, none⟩)), (75, .pointer (some ⟨ob, 0, none⟩)), (76, .pointer (some ⟨ob, 4, none⟩)), (77, .string (a)), (78, .string (v2)), (79, .string (v1)), (80, .pointer (some ⟨sb, 0, none⟩)), (81, .string (h7)), (82, .agg (gotV a .empty v2 v1 h7)), (6, .string (r ++ c3))] rfl (by kernel_rfl) (by kernel_rfl) (by rfl) (by kernel_rfl) ?hO ?hE
 case hO =>
  refine ⟨?_, ?_, ?_, ?_, ?_, ?_, ?_, ?_, ?_, ?_, ?_, trivial⟩
  ·intro act u HB HO HA
   have e10 := gE (x := .string (r ++ c3)) (HO 10 (by decide))
   refine calm_val 73 _ rfl ?_ rfl rfl
   clear HB HO HA
   go_simp
   try rfl
  ·intro act u HB HO HA
   have e0 := gE (x := .pointer (some ⟨ob, 0, none⟩)) (HO 0 (by decide))
   refine calm_val 74 _ rfl ?_ rfl rfl
   clear HB HO HA
   go_simp
   try rfl
  ·intro act u HB HO HA
   have e74 : _ = _ := gE (qA HA 74)
   refine calm_val 75 _ rfl ?_ rfl rfl
   clear HB HO HA
   go_simp
   try rfl
  ·intro act u HB HO HA
   have e75 : _ = _ := gE (qA HA 75)
   refine calm_val 76 _ rfl ?_ rfl rfl
   clear HB HO HA
   go_simp
   try rfl
  ·intro act u HB HO HA
   have e76 : _ = _ := gE (qA HA 76)
   have HS := J7.out.drew.call HB
   have lT : u.cell? ⟨ob, 4, none⟩ = some (.string (a)) := (HS.cells 2 rfl).cell _ _ (rfl)
   refine calm_val 77 _ rfl ?_ rfl rfl
   clear HB HO HA HS
   go_simp
  ·intro act u HB HO HA
   have e13 := gE (x := .string (v2)) (HO 13 (by decide))
   refine calm_val 78 _ rfl ?_ rfl rfl
   clear HB HO HA
   go_simp
   try rfl
  ·intro act u HB HO HA
   have e12 := gE (x := .string (v1)) (HO 12 (by decide))
   refine calm_val 79 _ rfl ?_ rfl rfl
   clear HB HO HA
   go_simp
   try rfl
  ·intro act u HB HO HA
   have e9 := gE (x := .pointer (some ⟨sb, 0, none⟩)) (HO 9 (by decide))
   refine calm_val 80 _ rfl ?_ rfl rfl
   clear HB HO HA
   go_simp
   try rfl
  ·intro act u HB HO HA
   have e80 : _ = _ := gE (qA HA 80)
   have HS := J7.out.drew.call HB
   have lT : u.cell? ⟨sb, 0, none⟩ = some (.string (h7)) := (HS.cells 0 rfl).cell _ _ (rfl)
   refine calm_val 81 _ rfl ?_ rfl rfl
   clear HB HO HA HS
   go_simp
  ·intro act u HB HO HA
   have e77 : _ = _ := gE (qA HA 77)
   have e78 : _ = _ := gE (qA HA 78)
   have e79 : _ = _ := gE (qA HA 79)
   have e81 : _ = _ := gE (qA HA 81)
   refine calm_val 82 _ rfl ?_ rfl rfl
   clear HB HO HA
   go_simp
   try rfl
  intro act u HB HO HA
  have e73 : _ = _ := gE (qA HA 73)
  refine calm_val 6 _ rfl ?_ rfl rfl
  clear HB HO HA
  go_simp
  try rfl
 intro ww2 HB
 have HK2 := hDx (J7.out.drew.call HB)
 simp only [fillL, Act.put, sAx, s0x, s1x, dSx, d0x]
 clear HB
 go_wp2_with (refine wpList_storeM (b := rb) (o := 0) (n := 5) (cs := gotV a .empty v2 v1 h7) rfl _ _ rfl rfl rfl (HK2.out.get 1 rfl) (by decide) ag61 rfl (by simp [gotV, stQ, Value.oneCell']) ?_)
 have hm := HK2.out.lay 1 rfl 0 (gotV a .empty v2 v1 h7) (Nat.le_refl 5)
 rw [lay_all _ _ (by rfl)] at hm
 try simp only [Exit.inBlock, Exit.then]
 refine bodyPost_ret (results_tct (a := 6) (p := 7) (c := 8) (n := 5) (C := gotV a .empty v2 v1 h7) (by kernel_rfl) (by rfl) (hm.get 1 rfl) ag61 rfl) rfl ?_
 refine ⟨rfl, ?_⟩
 exact (hm.sub (.cons _ (.cons _ (.cons_cons _ .slnil)))).same H0.out (by simp)
theorem f_i {m l : ByteArray} (h : m.size = 48 + l.size) (hl : l.size ≤ 4096) : ¬ (4144 : Int) < m.size ∧ ¬ (m.size : Int) < 48 ∧ 32 ≤ m.size := by omega
theorem finish_st (hb : Nat) (h ck k A E o r l x y : ByteArray) (w : World) (hT : Tab w) (hob : w.heap[hb]? = some (stO h ck k 0 [.string A, .string E, .string o] 86)) (h0 : hb ≠ 0) (hh : h.size = 32) (hck : ck.size = 32) (hr : r.size = 32) (hA : A.size = 32) (hE : E.size = 32) (hl : l.size ≤ 4096)
  (hx : x = ladS E r) (hy : y = ladS A r) (z1 : ladS E r ≠ zeroB 32) (z2 : ladS A r ≠ zeroB 32) :
  Calls Tryz.prog 19 #[.pointer (some ⟨hb, 0, none⟩), .string (r ++ C3 h ck r x y l)] w fun q w' =>
   q = .returned (.tuple #[.agg (gotV o l (A1 ck x y) (A2 ck x y) (H7 h ck r x y l)), .int .i64 0]) ∧ Below w.heap.size w w' := by
 have M : (r ++ C3 h ck r x y l).size = 48 + l.size := by rw [ByteArray.size_append, C3_size, hr]; omega
 obtain ⟨m1, m2, m3⟩ := f_i M hl
 have s1 := sl_to _ _ m3
 have s3 := sl_from _ _ m3
 rw [ext_pre _ _ _ hr] at s1
 rw [ext_suf _ _ _ _ hr rfl] at s3
 simp only [Int.cast_ofNat_Int] at s1 s3
 have k1 : (r ++ C3 h ck r x y l).extract 0 32 = r := ext_pre _ _ _ hr
 have k3 : (r ++ C3 h ck r x y l).extract 32 (r ++ C3 h ck r x y l).size = C3 h ck r x y l := ext_suf _ _ _ _ hr rfl
 clear M m3
 obtain ⟨m, hm⟩ := nm (r ++ C3 h ck r x y l)
 rw [← hm] at m1 m2 s1 s3 k1 k3
 rw [← hm]
 clear hm
 have g0 := nonempty_s hh
 have HP := hDx (And.intro hT (And.intro (show 0 ∉ [hb] by simpa using Ne.symm h0) (And.intro hh (And.intro hck (And.intro hr (And.intro hA hE))))))
 have HZ := hDx (And.intro z1 (And.intro z2 (And.intro hx (And.intro hy (show (C3 h ck r x y l).size ≤ 5000 ∧ 16 ≤ (C3 h ck r x y l).size by rw [C3_size]; omega)))))
 obtain ⟨v1, hv1⟩ := nm (A1 ck x y)
 obtain ⟨v2, hv2⟩ := nm (A2 ck x y)
 obtain ⟨h7, hv3⟩ := nm (H7 h ck r x y l)
 rw [← hv1, ← hv2, ← hv3]
 have HN := hDx (And.intro hv1 (And.intro hv2 hv3))
 clear hv1 hv2 hv3
 have HK := hDx (And.intro k1 s1)
 have H0 := hDx (KS.startX w hob)
 have c0 := stc0 hob
 clear hT hob h0 hh hck hr hA hE hl hx hy z1 z2
 go_enter Tryz.func19, Tryz.ntmps19
 go_upto_region 1 with (fail)
 clear c0
 have hm1 := (H0.out.made (.cells #[.string ⟨#[]⟩, .string ⟨#[]⟩, .string ⟨#[]⟩, .string ⟨#[]⟩, .string ⟨#[]⟩] 61))
 obtain ⟨rb, hgrb⟩ := nm w.heap.size
 obtain ⟨ww1, hv1⟩ := nm (World.alloc w (.cells #[.string ⟨#[]⟩, .string ⟨#[]⟩, .string ⟨#[]⟩, .string ⟨#[]⟩, .string ⟨#[]⟩] 61))
 rw [← hv1, ← hgrb] at hm1
 rw [← hv1]
 try rw [← hgrb]
 have HK1 : Hid (KS [(rb, got0), (hb, stO h ck k 0 [.string A, .string E, .string o] 86)] [hb] w ww1) := hDx hm1
 clear hm1 hv1 hgrb
 have c0 := stc0 (HK1.out.get 1 rfl)
 have zst := fun (u : World) => heap_alloc_last u (.cells #[.string ⟨#[]⟩, .string ⟨#[]⟩, .string ⟨#[]⟩, .int .i64 0] 83)
 have ld := (HK1.out.get 1 rfl)
 go_upto_region 7 with (fail)
 go_upto_region 8 with (first | (refine wpList_loadM (t := 83) (n := 4) (b := hb) (o := 0) (cs := stQ h ck k) rfl _ rfl rfl ld ag83 rfl rfl ?_) | (refine wpList_storeM (b := ww1.heap.size) (o := 0) (n := 4) (cs := stQ h ck k) rfl _ _ rfl rfl rfl (zst ww1) (by decide) ag83 rfl (by simp [gotV, stQ, Value.oneCell']) ?_))
 have hm := (HK1.out.made (.cells #[.string ⟨#[]⟩, .string ⟨#[]⟩, .string ⟨#[]⟩, .int .i64 0] 83)).lay 0 rfl 0 (stQ h ck k) (Nat.le_refl 4)
 rw [lay_all _ _ (by rfl)] at hm
 have hn0 : ww1.heap.size ≠ 0 := neX HP.out.1 (HK1.out.size) (Nat.le_refl _)
 obtain ⟨sb, hG⟩ := nm ww1.heap.size
 obtain ⟨wl, hvl⟩ := nm (World.setCells (World.alloc ww1 (.cells #[.string ⟨#[]⟩, .string ⟨#[]⟩, .string ⟨#[]⟩, .int .i64 0] 83)) ww1.heap.size 0 (stQ h ck k).toList)
 rw [← hvl, ← hG] at hm
 rw [← hG] at hn0
 rw [← hvl]
 try rw [← hG]
 have JL : Hid (KS [(sb, stO h ck k 0 [] 83), (rb, got0), (hb, stO h ck k 0 [.string A, .string E, .string o] 86)] [hb] w wl) := hDx hm
 have HB0 := hDx hn0
 clear hm hvl hG hn0 ld zst
 clear c0 g0 m1 m2
 go_upto_region 9 with (go_at_call 35; refine (mix_any sb h ck k r 0 [] 83 _ (JL.out.get 0 rfl) (JL.out.tab HP.out.1 HP.out.2.1) HP.out.2.2.1 (by have := HP.out.2.2.2.2.1; omega)).mono ?_; rintro q w3 ⟨rfl, K⟩; have J3 : Hid (KS [(sb, stO (mixS h r) ck k 0 [] 83), (rb, got0), (hb, stO h ck k 0 [.string A, .string E, .string o] 86)] [hb] w w3) := hDx (JL.out.callT 0 rfl K.only (K.get 0 rfl)); clear K)
 clear s1 k1
 try simp only [Act.put, sAx, s0x, s1x]
 refine wp_region_cv 6 [39, 40, 41, 42, 43, 44] [[], [39], [40], [41], [], [43]] [(39, .pointer (some ⟨hb, 0, none⟩)), (40, .pointer (some ⟨hb, 0, none⟩)), (41, .pointer (some ⟨hb, 5, none⟩)), (42, .string (E)), (43, .string (m)), (44, .string (r))] rfl (by kernel_rfl) (by kernel_rfl) (by rfl) (by kernel_rfl) ?hO1 ?hE1
 case hO1 =>
  refine ⟨?_, ?_, ?_, ?_, ?_, ?_, trivial⟩
  ·intro act u HB HO HA
   have e0 := gE (x := .pointer (some ⟨hb, 0, none⟩)) (HO 0 (by decide))
   refine calm_val 39 _ rfl ?_ rfl rfl
   clear HB HO HA
   go_simp
   try rfl
  ·intro act u HB HO HA
   have e39 : _ = _ := gE (qA HA 39)
   refine calm_val 40 _ rfl ?_ rfl rfl
   clear HB HO HA
   go_simp
   try rfl
  ·intro act u HB HO HA
   have e40 : _ = _ := gE (qA HA 40)
   refine calm_val 41 _ rfl ?_ rfl rfl
   clear HB HO HA
   go_simp
   try rfl
  ·intro act u HB HO HA
   have e41 : _ = _ := gE (qA HA 41)
   have HS := J3.out.drew.call HB
   have lT : u.cell? ⟨hb, 5, none⟩ = some (.string (E)) := (HS.cells 2 rfl).cell _ _ (rfl)
   refine calm_val 42 _ rfl ?_ rfl rfl
   clear HB HO HA HS
   go_simp
  ·intro act u HB HO HA
   have e1 := gE (x := .string (m)) (HO 1 (by decide))
   refine calm_val 43 _ rfl ?_ rfl rfl
   clear HB HO HA
   go_simp
   try rfl
  intro act u HB HO HA
  have e43 : _ = _ := gE (qA HA 43)
  have s1 := HK.out.2
  refine calm_val 44 _ rfl ?_ rfl rfl
  clear HB HO HA
  go_simp
 intro ww2 HB
 have HK2 := hDx (J3.out.drew.call HB)
 simp only [fillL, Act.put, sAx, s0x, s1x, dSx, d0x]
 clear HB
 go_upto_region 10 with (go_at_call 36; refine (add_st sb (mixS h r) ck k E r [] 83 _ (HK2.out.get 0 rfl) (HK2.out.tab HP.out.1 HP.out.2.1) HB0.out HP.out.2.2.2.2.2.2 HP.out.2.2.2.2.1 HZ.out.1 HP.out.2.2.2.1).mono ?_; rintro q w4 ⟨rfl, K⟩; have J4 : Hid (KS [(sb, stO (mixS h r) (ckS ck x) (kyS ck x) 0 [] 83), (rb, got0), (hb, stO h ck k 0 [.string A, .string E, .string o] 86)] [hb] w w4) := (by rw [HZ.out.2.2.1]; exact hDx (HK2.out.callT 0 rfl K.only (K.get 0 rfl))); clear K)
 try simp only [Act.put, sAx, s0x, s1x]
 refine wp_region_cv 6 [46, 47, 48, 49, 50, 51] [[], [46], [47], [48], [], [50]] [(46, .pointer (some ⟨hb, 0, none⟩)), (47, .pointer (some ⟨hb, 0, none⟩)), (48, .pointer (some ⟨hb, 4, none⟩)), (49, .string (A)), (50, .string (m)), (51, .string (r))] rfl (by kernel_rfl) (by kernel_rfl) (by rfl) (by kernel_rfl) ?hO2 ?hE2
 case hO2 =>
  refine ⟨?_, ?_, ?_, ?_, ?_, ?_, trivial⟩
  ·intro act u HB HO HA
   have e0 := gE (x := .pointer (some ⟨hb, 0, none⟩)) (HO 0 (by decide))
   refine calm_val 46 _ rfl ?_ rfl rfl
   clear HB HO HA
   go_simp
   try rfl
  ·intro act u HB HO HA
   have e46 : _ = _ := gE (qA HA 46)
   refine calm_val 47 _ rfl ?_ rfl rfl
   clear HB HO HA
   go_simp
   try rfl
  ·intro act u HB HO HA
   have e47 : _ = _ := gE (qA HA 47)
   refine calm_val 48 _ rfl ?_ rfl rfl
   clear HB HO HA
   go_simp
   try rfl
  ·intro act u HB HO HA
   have e48 : _ = _ := gE (qA HA 48)
   have HS := J4.out.drew.call HB
   have lT : u.cell? ⟨hb, 4, none⟩ = some (.string (A)) := (HS.cells 2 rfl).cell _ _ (rfl)
   refine calm_val 49 _ rfl ?_ rfl rfl
   clear HB HO HA HS
   go_simp
  ·intro act u HB HO HA
   have e1 := gE (x := .string (m)) (HO 1 (by decide))
   refine calm_val 50 _ rfl ?_ rfl rfl
   clear HB HO HA
   go_simp
   try rfl
  intro act u HB HO HA
  have e50 : _ = _ := gE (qA HA 50)
  have s1 := HK.out.2
  refine calm_val 51 _ rfl ?_ rfl rfl
  clear HB HO HA
  go_simp
 intro ww3 HB
 have HK3 := hDx (J4.out.drew.call HB)
 simp only [fillL, Act.put, sAx, s0x, s1x, dSx, d0x]
 clear HB
 go_upto_region 11 with (go_at_call 36; refine (add_st sb (mixS h r) (ckS ck x) (kyS ck x) A r [] 83 _ (HK3.out.get 0 rfl) (HK3.out.tab HP.out.1 HP.out.2.1) HB0.out HP.out.2.2.2.2.2.1 HP.out.2.2.2.2.1 HZ.out.2.1 (ckS_size _ _)).mono ?_; rintro q w5 ⟨rfl, K⟩; have J5 : Hid (KS [(sb, stO (mixS h r) (CK4 ck x y) (K4 ck x y) 0 [] 83), (rb, got0), (hb, stO h ck k 0 [.string A, .string E, .string o] 86)] [hb] w w5) := (by rw [HZ.out.2.2.2.1]; exact hDx (HK3.out.callT 0 rfl K.only (K.get 0 rfl))); clear K)
 go_upto_region 12 with (go_at_call 38; refine (open_st sb (mixS h r) (CK4 ck x y) (K4 ck x y) (C3 h ck r x y l) [] 83 _ (J5.out.get 0 rfl) (J5.out.tab HP.out.1 HP.out.2.1) HB0.out (mixS_size _ _) (kyS_size _ _) HZ.out.2.2.2.2.2 HZ.out.2.2.2.2.1 (opens_seal _ _ _ _)).mono ?_; rintro q w6 ⟨rfl, K⟩; have J6 : Hid (KS [(sb, stO h7 (CK4 ck x y) (K4 ck x y) 0 [] 83), (rb, got0), (hb, stO h ck k 0 [.string A, .string E, .string o] 86)] [hb] w w6) := (by rw [HN.out.2.2]; exact hDx (J5.out.callT 0 rfl K.only (K.get 0 rfl))); clear K; rw [show trnS (K4 ck x y) (nonS 0) 1 (cutS (C3 h ck r x y l)) = l from open_seal _ _ _ _])
 clear s3 k3
 have d3 := stc3 (J6.out.get 0 rfl)
 go_upto_region 15 with (go_at_call 39; refine (keys_any sb h7 (CK4 ck x y) (K4 ck x y) 0 [] 83 _ (J6.out.get 0 rfl) (J6.out.tab HP.out.1 HP.out.2.1) (ckS_size _ _)).mono ?_; rintro q w7 ⟨rfl, B1⟩; rw [show ckS (CK4 ck x y) .empty = A1 ck x y from rfl, show kyS (CK4 ck x y) .empty = A2 ck x y from rfl, ← HN.out.1, ← HN.out.2.1]; have J7 := hDx (J6.out.call B1); clear B1)
 clear d3
 try simp only [Act.put, sAx, s0x, s1x]
 refine wp_region_cv 10 [66, 67, 68, 69, 70, 71, 72, 73, 74, 75] [[], [66], [67], [68], [], [], [], [], [73], [69, 70, 71, 72, 74]] [(66, .pointer (some ⟨hb, 0, none⟩)), (67, .pointer (some ⟨hb, 0, none⟩)), (68, .pointer (some ⟨hb, 6, none⟩)), (69, .string (o)), (70, .string (l)), (71, .string (v1)), (72, .string (v2)), (73, .pointer (some ⟨sb, 0, none⟩)), (74, .string (h7)), (75, .agg (gotV o l v1 v2 h7))] rfl (by kernel_rfl) (by kernel_rfl) (by rfl) (by kernel_rfl) ?hO3 ?hE3
 case hO3 =>
  refine ⟨?_, ?_, ?_, ?_, ?_, ?_, ?_, ?_, ?_, ?_, trivial⟩
  ·intro act u HB HO HA
   have e0 := gE (x := .pointer (some ⟨hb, 0, none⟩)) (HO 0 (by decide))
   refine calm_val 66 _ rfl ?_ rfl rfl
   clear HB HO HA
   go_simp
   try rfl
  ·intro act u HB HO HA
   have e66 : _ = _ := gE (qA HA 66)
   refine calm_val 67 _ rfl ?_ rfl rfl
   clear HB HO HA
   go_simp
   try rfl
  ·intro act u HB HO HA
   have e67 : _ = _ := gE (qA HA 67)
   refine calm_val 68 _ rfl ?_ rfl rfl
   clear HB HO HA
   go_simp
   try rfl
  ·intro act u HB HO HA
   have e68 : _ = _ := gE (qA HA 68)
   have HS := J7.out.drew.call HB
   have lT : u.cell? ⟨hb, 6, none⟩ = some (.string (o)) := (HS.cells 2 rfl).cell _ _ (rfl)
   refine calm_val 69 _ rfl ?_ rfl rfl
   clear HB HO HA HS
   go_simp
  ·intro act u HB HO HA
   have e7 := gE (x := .string (l)) (HO 7 (by decide))
   refine calm_val 70 _ rfl ?_ rfl rfl
   clear HB HO HA
   go_simp
   try rfl
  ·intro act u HB HO HA
   have e8 := gE (x := .string (v1)) (HO 8 (by decide))
   refine calm_val 71 _ rfl ?_ rfl rfl
   clear HB HO HA
   go_simp
   try rfl
  ·intro act u HB HO HA
   have e9 := gE (x := .string (v2)) (HO 9 (by decide))
   refine calm_val 72 _ rfl ?_ rfl rfl
   clear HB HO HA
   go_simp
   try rfl
  ·intro act u HB HO HA
   have e6 := gE (x := .pointer (some ⟨sb, 0, none⟩)) (HO 6 (by decide))
   refine calm_val 73 _ rfl ?_ rfl rfl
   clear HB HO HA
   go_simp
   try rfl
  ·intro act u HB HO HA
   have e73 : _ = _ := gE (qA HA 73)
   have HS := J7.out.drew.call HB
   have lT : u.cell? ⟨sb, 0, none⟩ = some (.string (h7)) := (HS.cells 0 rfl).cell _ _ (rfl)
   refine calm_val 74 _ rfl ?_ rfl rfl
   clear HB HO HA HS
   go_simp
  intro act u HB HO HA
  have e69 : _ = _ := gE (qA HA 69)
  have e70 : _ = _ := gE (qA HA 70)
  have e71 : _ = _ := gE (qA HA 71)
  have e72 : _ = _ := gE (qA HA 72)
  have e74 : _ = _ := gE (qA HA 74)
  refine calm_val 75 _ rfl ?_ rfl rfl
  clear HB HO HA
  go_simp
  try rfl
 intro ww4 HB
 have HK4 := hDx (J7.out.drew.call HB)
 simp only [fillL, Act.put, sAx, s0x, s1x, dSx, d0x]
 clear HB
 go_wp2_with (refine wpList_storeM (b := rb) (o := 0) (n := 5) (cs := gotV o l v1 v2 h7) rfl _ _ rfl rfl rfl (HK4.out.get 1 rfl) (by decide) ag61 rfl (by simp [gotV, stQ, Value.oneCell']) ?_)
 have hm := HK4.out.lay 1 rfl 0 (gotV o l v1 v2 h7) (Nat.le_refl 5)
 rw [lay_all _ _ (by rfl)] at hm
 try simp only [Exit.inBlock, Exit.then]
 refine bodyPost_ret (results_ct (p := 4) (c := 5) (n := 5) (C := gotV o l v1 v2 h7) (by kernel_rfl) (by rfl) (hm.get 1 rfl) ag61 rfl) rfl ?_
 refine ⟨rfl, ?_⟩
 exact (hm.sub (.cons _ (.cons _ (.cons_cons _ .slnil)))).same H0.out (by simp)
end
section
open Go.RowKit T
def secS (X : Nat) : ByteArray := zeroB 31 ++ ⟨#[UInt8.ofNat X]⟩
theorem secS_size (X : Nat) : (secS X).size = 32 := by rw [secS, ByteArray.size_append, zeroB_size]; rfl
theorem ag31 : AgTy 31 5 := agTy (by kernel_rfl)
theorem secret_any (X : Nat) (w : World) (hX : X < 256) : Calls Tryz.prog 14 #[.int .u8 (X : Int)] w fun e w' => e = .returned (.string (secS X)) ∧ Below w.heap.size w w' := by
 go_enter Tryz.func14, Tryz.ntmps14
 have HX := hDx hX
 clear hX
 have HK0 := hDx (KS.start w)
 go_upto_region 1 with (fail)
 try simp only [Act.put, sAx, s0x, s1x]
 refine wp_region_calm 6 [3, 4, 5, 6, 7, 8] [] [[], [3], [], [5], [6], [4, 7]] (Ftab [(3, .sl 31 (.cells (lk .u8 (zi 31)) 5)), (4, .val (.string (zeroB 31))), (5, .val (.int .u8 (X : Int))), (6, .sl 1 (.cells #[.int .u8 (X : Int)] 5)), (7, .val (.string ⟨#[UInt8.ofNat X]⟩)), (8, .val (.string (secS X)))]) (by kernel_rfl) (by kernel_rfl) (by rfl) (by kernel_rfl) ?hO ?hE
 case hO =>
  refine ⟨?_, ?_, ?_, ?_, ?_, ?_, trivial⟩
  ·intro act u HB HO HA
   have hmk := make_u8 31 (by decide) u
   simp only [Int.cast_ofNat_Int] at hmk
   refine calm_sl 3 31 (.cells (lk .u8 (zi 31)) 5) rfl ?_ rfl rfl
   go_simp
  ·intro act u HB HO HA
   obtain ⟨g3, e3, b3⟩ : (Fct.sl 31 (.cells (lk .u8 (zi 31)) 5)).p (act.eval (.tmp 3)) u := qA HA 3
   have hcv := conv_zi b3 31
   refine calm_val 4 _ rfl ?_ rfl rfl
   clear HB HO HA
   simp only [Act.eval, gDx] at e3
   go_simp
  ·intro act u HB HO HA
   have e0 := gE (x := .int .u8 (X : Int)) (HO 0 (by decide))
   refine calm_val 5 _ rfl ?_ rfl rfl
   clear HB HO HA
   go_simp
   try rfl
  ·intro act u HB HO HA
   have e5 : _ = _ := gE (qA HA 5)
   refine calm_sl 6 1 (.cells #[.int .u8 (X : Int)] 5) rfl ?_ rfl rfl
   clear HB HO HA
   go_simp
  ·intro act u HB HO HA
   obtain ⟨g6, e6, b6⟩ : (Fct.sl 1 (.cells #[.int .u8 (X : Int)] 5)).p (act.eval (.tmp 6)) u := qA HA 6
   have hcv := one_conv HX.out b6
   refine calm_val 7 _ rfl ?_ rfl rfl
   clear HB HO HA
   simp only [Act.eval, gDx] at e6
   go_simp
  intro act u HB HO HA
  have e4 : _ = _ := qA HA 4
  have e7 : _ = _ := qA HA 7
  exact calm_val 8 _ rfl (run_adds rfl e4 e7 (by rw [zeroB_size]; show 31 + 1 ≤ 9223372036854775807; decide)) rfl rfl
 intro vT ww1 HB HF HN
 obtain ⟨g3, f3, b3⟩ : (Fct.sl 31 (.cells (lk .u8 (zi 31)) 5)).p (vT 3) ww1 := qA HF 3
 clear b3
 have f4 : _ = _ := qA HF 4
 have f5 : _ = _ := qA HF 5
 obtain ⟨g6, f6, b6⟩ : (Fct.sl 1 (.cells #[.int .u8 (X : Int)] 5)).p (vT 6) ww1 := qA HF 6
 clear b6
 have f7 : _ = _ := qA HF 7
 have f8 : _ = _ := qA HF 8
 have HK1 := hDx (HK0.out.drew.call HB)
 simp only [fill, Act.put, sAx, s0x, s1x, dSx, d0x, f3, f4, f5, f6, f7, f8]
 clear HB HF HN f3 f4 f5 f6 f7 f8
 go_wp2_with fail
 go_ret
 exact ⟨rfl, HK1.out.below⟩
theorem limits_any (w : World) : Calls Tryz.prog 7 #[] w fun e w' => e = .returned (.agg limA) ∧ Below w.heap.size w w' := by
 go_enter Tryz.func7, Tryz.ntmps7
 have HK0 := hDx (KS.start w)
 go_upto_region 1 with (fail)
 have hm1 := (HK0.out.made (.cells #[.int .u64 0, .int .u64 0, .int .u64 0, .int .u64 0, .int .i64 0] 31))
 obtain ⟨lb, hglb⟩ := nm w.heap.size
 obtain ⟨ww1, hv1⟩ := nm (World.alloc w (.cells #[.int .u64 0, .int .u64 0, .int .u64 0, .int .u64 0, .int .i64 0] 31))
 rw [← hv1, ← hglb] at hm1
 rw [← hv1]
 try rw [← hglb]
 have HK1 : Hid (KS [(lb, .cells #[.int .u64 0, .int .u64 0, .int .u64 0, .int .u64 0, .int .i64 0] 31)] [] w ww1) := hDx hm1
 clear hm1 hv1 hglb
 go_wp2_with (refine wpList_storeM (b := lb) (o := 0) (n := 5) (cs := limA) rfl _ _ rfl rfl rfl (HK1.out.get 0 rfl) (by decide) ag31 rfl (by simp [gotV, limA, Value.oneCell']) ?_)
 have hm := HK1.out.lay 0 rfl 0 limA (by decide)
 rw [lay_all _ _ (by rfl)] at hm
 try simp only [Exit.inBlock, Exit.then]
 refine bodyPost_ret (results_loadM (p := 0) (n := 5) (C := limA) (by kernel_rfl) (by rfl) (hm.get 0 rfl) ag31 rfl) rfl ?_
 exact ⟨rfl, hm.below⟩
def isS : ByteArray := ⟨#[105, 115, 116, 104, 109, 117, 115]⟩
def sH (A B E : ByteArray) : ByteArray := H5 isS (pubS B) (pubS E) (ladS E (pubS B)) (pubS A) (ladS A (pubS B)) .empty
def sCK (A B E : ByteArray) : ByteArray := CK2 (ladS E (pubS B)) (ladS A (pubS B))
def sK (A B E : ByteArray) : ByteArray := K2 (ladS E (pubS B)) (ladS A (pubS B))
def sM (A B E : ByteArray) : ByteArray := M1 isS (pubS B) (pubS E) (ladS E (pubS B)) (pubS A) (ladS A (pubS B)) .empty
def key1 (A B E F : ByteArray) : ByteArray := A1 (sCK A B E) (ladS E (pubS F)) (ladS A (pubS F))
def key2 (A B E F : ByteArray) : ByteArray := A2 (sCK A B E) (ladS E (pubS F)) (ladS A (pubS F))
def sR (A B E F : ByteArray) : ByteArray := pubS F ++ C3 (sH A B E) (sCK A B E) (pubS F) (ladS E (pubS F)) (ladS A (pubS F)) .empty
def sH7 (A B E F : ByteArray) : ByteArray := H7 (sH A B E) (sCK A B E) (pubS F) (ladS E (pubS F)) (ladS A (pubS F)) .empty
theorem key1_size (A B E F : ByteArray) : (key1 A B E F).size = 32 := ckS_size _ _
theorem key2_size (A B E F : ByteArray) : (key2 A B E F).size = 32 := kyS_size _ _
theorem emp4 : ByteArray.empty.size ≤ 4096 := by decide
theorem is4 : isS.size ≤ 4096 := by decide
section
variable (A B E F : ByteArray) (hA : A.size = 32) (hB : B.size = 32) (hE : E.size = 32) (hF : F.size = 32) (w : World) (hT : Tab w)
include hA hB hE
theorem sh_begin (hT : Tab w) : Calls Tryz.prog 16 #[.string A, .string (pubS B), .string E, .string isS, .string .empty] w fun e w' => ∃ hb,
   e = .returned (.tuple #[.pointer (some ⟨hb, 0, none⟩), .string (sM A B E), .int .i64 0]) ∧ KS [(hb, stO (sH A B E) (sCK A B E) (sK A B E) 0 [.string A, .string E, .string (pubS B)] 86)] [] w w' :=
 first_st A (pubS B) E isS .empty w hT hA (pubS_size B) hE is4 emp4 (same_both E B hE hB).2 (same_both A B hA hB).2
theorem sh_read (hT : Tab w) : Calls Tryz.prog 17 #[.string B, .string isS, .string (sM A B E)] w fun e w' => ∃ ob,
   e = .returned (.tuple #[.pointer (some ⟨ob, 0, none⟩), .agg (gotV (pubS A) .empty .empty .empty .empty), .int .i64 0]) ∧ KS [(ob, stO (sH A B E) (sCK A B E) (sK A B E) 0 [.string (pubS A), .string (pubS E)] 92)] [] w w' :=
 second_st B isS (pubS E) (pubS A) (ladS E (pubS B)) (ladS A (pubS B)) .empty w hT hB (pubS_size E) (pubS_size A) is4 emp4 (same_both E B hE hB).1 (same_both A B hA hB).1 (same_both B E hB hE).2 (same_both B A hB hA).2
include hF
theorem sh_answer (ob : Nat) (hT : Tab w) (h0 : ob ≠ 0) (h : w.heap[ob]? = some (stO (sH A B E) (sCK A B E) (sK A B E) 0 [.string (pubS A), .string (pubS E)] 92)) : Calls Tryz.prog 18 #[.pointer (some ⟨ob, 0, none⟩), .string F, .string .empty] w fun e w' =>
   e = .returned (.tuple #[.string (sR A B E F), .agg (gotV (pubS A) .empty (key2 A B E F) (key1 A B E F) (sH7 A B E F)), .int .i64 0]) ∧ Below w.heap.size w w' :=
 (fun (_ : B.size = 32) => answer_st ob _ _ _ (pubS A) (pubS E) F .empty (ladS E (pubS F)) (ladS A (pubS F)) w hT h h0 (mixS_size _ _) (ckS_size _ _) hF (pubS_size E) (pubS_size A) emp4 (same_both E F hE hF).1 (same_both A F hA hF).1 (same_both F E hF hE).2 (same_both F A hF hA).2) hB
theorem sh_finish (hb : Nat) (hT : Tab w) (h0 : hb ≠ 0) (h : w.heap[hb]? = some (stO (sH A B E) (sCK A B E) (sK A B E) 0 [.string A, .string E, .string (pubS B)] 86)) : Calls Tryz.prog 19 #[.pointer (some ⟨hb, 0, none⟩), .string (sR A B E F)] w fun e w' =>
   e = .returned (.tuple #[.agg (gotV (pubS B) .empty (key1 A B E F) (key2 A B E F) (sH7 A B E F)), .int .i64 0]) ∧ Below w.heap.size w w' :=
 (fun (_ : B.size = 32) => finish_st hb _ _ _ A E (pubS B) (pubS F) .empty (ladS E (pubS F)) (ladS A (pubS F)) w hT h h0 (mixS_size _ _) (ckS_size _ _) (pubS_size F) hA hE emp4 rfl rfl (same_both E F hE hF).2 (same_both A F hA hF).2) hB
end
end
end Go.Proofs.YtoplbfijodebmaaGreatDoor
