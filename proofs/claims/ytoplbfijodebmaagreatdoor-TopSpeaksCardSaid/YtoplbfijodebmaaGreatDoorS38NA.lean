/-
  The walk.
-/
import Derived.Test.YtoplbfijodebmaaGreatDoorM23Mont
import Derived.Test.YtoplbfijodebmaaGreatDoorM19Expand
import Derived.Test.YtoplbfijodebmaaGreatDoorS36DB
import Derived.Test.YtoplbfijodebmaaGreatDoorS37WA
set_option linter.unusedVariables false
set_option linter.unusedSimpArgs false
set_option maxRecDepth 100000
set_option maxHeartbeats 40000000
namespace Go.Proofs.YtoplbfijodebmaaGreatDoor
section
open Go.RowKit T
theorem KS.tab {L : List (Nat × Obj)} {X : List Nat} {w u : World} (h : KS L X w u) (hT : Tab w) (h0 : 0 ∉ X) : Tab u :=
 ⟨fun j v hv => (World.cell?_of_block (w := w) (h.old 0 hT.lt h0)).trans (hT.cells j v hv)⟩
def mixS (h b : ByteArray) : ByteArray := hashS 32 .empty (h ++ b)
def ckS (ck x : ByteArray) : ByteArray := linkS ck x 2 0
def kyS (ck x : ByteArray) : ByteArray := linkS ck x 2 1
theorem mixS_size (h b : ByteArray) : (mixS h b).size = 32 := hashS_size _ _ _
theorem linkS_size (key s : ByteArray) (i : Nat) (h : i < 2) : (linkS key s 2 i).size = 32 := by
 unfold linkS
 rw [ByteArray.size_extract, expS_size]
 omega
theorem ckS_size (ck x : ByteArray) : (ckS ck x).size = 32 := linkS_size _ _ _ (by omega)
theorem kyS_size (ck x : ByteArray) : (kyS ck x).size = 32 := linkS_size _ _ _ (by omega)
def stO (h ck k : ByteArray) (f : Int) (R : List Value) (t : Nat) : Obj := .cells (List.toArray (.string h :: .string ck :: .string k :: .int .i64 f :: R)) t
section
variable {sb t : Nat} {h ck k : ByteArray} {f : Int} {R : List Value} {u w : World}
theorem stc0 (e : u.heap[sb]? = some (stO h ck k f R t)) : u.cell? ⟨sb, 0, none⟩ = some (.string h) := (Lib.cell_of_heap e 0).trans (by simp)
theorem stc1 (e : u.heap[sb]? = some (stO h ck k f R t)) : u.cell? ⟨sb, 1, none⟩ = some (.string ck) := (Lib.cell_of_heap e 1).trans (by simp)
theorem stc2 (e : u.heap[sb]? = some (stO h ck k f R t)) : u.cell? ⟨sb, 2, none⟩ = some (.string k) := (Lib.cell_of_heap e 2).trans (by simp)
theorem stc3 (e : u.heap[sb]? = some (stO h ck k f R t)) : u.cell? ⟨sb, 3, none⟩ = some (.int .i64 f) := (Lib.cell_of_heap e 3).trans (by simp)
theorem stfz (e : u.heap[sb]? = some (stO h ck k f R t)) (i : Nat) : u.frozen? ⟨sb, i, none⟩ = false := Lib.frozen_of_heap e i
variable {L : List (Nat × Obj)} {X : List Nat}
theorem KS.st0 (H : KS L X w u) (j : Nat) (e : L[j]? = some (sb, stO h ck k f R t)) (x : ByteArray) : KS (L.set j (sb, stO x ck k f R t)) X w (u.setCell ⟨sb, 0, none⟩ (.string x)) := by
 have := H.set j e 0 (.string x)
 rwa [show (List.toArray (Value.string h :: .string ck :: .string k :: .int .i64 f :: R)).setIfInBounds 0 (.string x) = List.toArray (.string x :: .string ck :: .string k :: .int .i64 f :: R) by simp] at this
theorem KS.st1 (H : KS L X w u) (j : Nat) (e : L[j]? = some (sb, stO h ck k f R t)) (x : ByteArray) : KS (L.set j (sb, stO h x k f R t)) X w (u.setCell ⟨sb, 1, none⟩ (.string x)) := by
 have := H.set j e 1 (.string x)
 rwa [show (List.toArray (Value.string h :: .string ck :: .string k :: .int .i64 f :: R)).setIfInBounds 1 (.string x) = List.toArray (.string h :: .string x :: .string k :: .int .i64 f :: R) by simp] at this
theorem KS.st2 (H : KS L X w u) (j : Nat) (e : L[j]? = some (sb, stO h ck k f R t)) (x : ByteArray) : KS (L.set j (sb, stO h ck x f R t)) X w (u.setCell ⟨sb, 2, none⟩ (.string x)) := by
 have := H.set j e 2 (.string x)
 rwa [show (List.toArray (Value.string h :: .string ck :: .string k :: .int .i64 f :: R)).setIfInBounds 2 (.string x) = List.toArray (.string h :: .string ck :: .string x :: .int .i64 f :: R) by simp] at this
theorem KS.st3 (H : KS L X w u) (j : Nat) (e : L[j]? = some (sb, stO h ck k f R t)) (x : Int) : KS (L.set j (sb, stO h ck k x R t)) X w (u.setCell ⟨sb, 3, none⟩ (.int .i64 x)) := by
 have := H.set j e 3 (.int .i64 x)
 rwa [show (List.toArray (Value.string h :: .string ck :: .string k :: .int .i64 f :: R)).setIfInBounds 3 (.int .i64 x) = List.toArray (.string h :: .string ck :: .string k :: .int .i64 x :: R) by simp] at this
end
theorem mx_i {h b : ByteArray} (hh : h.size = 32) (hb : b.size ≤ 9000) : (h ++ b).size ≤ maxLen ∧ h.size + b.size ≤ 9223372036854775807 := by
 rw [ByteArray.size_append, hh]
 constructor
 ·have : 10000 ≤ maxLen := by decide
  omega
 omega
theorem mix_any (sb : Nat) (h ck k b : ByteArray) (f : Int) (R : List Value) (t : Nat) (w : World) (hs : w.heap[sb]? = some (stO h ck k f R t)) (hT : Tab w) (hh : h.size = 32) (hb : b.size ≤ 9000) :
  Calls Tryz.prog 35 #[.pointer (some ⟨sb, 0, none⟩), .string b] w fun e w' => e = .returned (.tuple #[]) ∧ KS [(sb, stO (mixS h b) ck k f R t)] [sb] w w' := by
 have H0 := hDx (KS.startX w hs)
 have HT := hDx (And.intro hT (mx_i hh hb).1)
 have HA := addS h b (mx_i hh hb).2
 have c0 := stc0 hs
 clear hs hT hh hb
 go_enter Tryz.func35, Tryz.ntmps35
 go_wp2_with (go_at_call 60; refine (of_any _ _ HT.out.1 HT.out.2).mono ?_; rintro e w1 ⟨rfl, B1⟩; have H1 := hDx (H0.out.call B1); clear B1; have d0 := stc0 (H1.out.get 0 rfl); have y0 := stfz (H1.out.get 0 rfl) 0)
 go_end0
 exact ⟨rfl, H1.out.st0 0 rfl (mixS h b)⟩
theorem run_mv {P : Program} {o : Oper} {a : Act} {w : World} {x : Operand} {v : Value} (ho : o.op = .move x) (hx : a.eval x = v) : (execOp a.eval o).run P w = .ok (.value v) w := by
 unfold execOp
 simp only [ho, hx]
 go_simp
theorem e32i {x : ByteArray} (h : x.size = 32) : x.size ≤ 10000 ∧ x.size ≤ 9000 := by omega
theorem add_st (sb : Nat) (h ck k s p : ByteArray) (R : List Value) (t : Nat) (w : World) (hs : w.heap[sb]? = some (stO h ck k 0 R t)) (hT : Tab w) (h0 : sb ≠ 0) (h1 : s.size = 32) (h2 : p.size = 32) (hz : ladS s p ≠ zeroB 32) (hck : ck.size = 32) :
  Calls Tryz.prog 36 #[.pointer (some ⟨sb, 0, none⟩), .string s, .string p] w fun e w' => e = .returned (.tuple #[]) ∧ KS [(sb, stO h (ckS ck (ladS s p)) (kyS ck (ladS s p)) 0 R t)] [sb] w w' := by
 have H0 := hDx (KS.startX w hs)
 have HT := hDx (And.intro hT (And.intro (show 0 ∉ [sb] by simpa using Ne.symm h0) (And.intro h1 (And.intro h2 (And.intro hz (And.intro (e32i hck).1 (e32i (ladS_size s p)).2))))))
 have c3 := stc3 hs
 clear hs hT h0 h1 h2 hz hck
 go_enter Tryz.func36, Tryz.ntmps36
 go_upto_region 2 with (go_at_call 62; refine (shared_any s p HT.out.2.2.1 HT.out.2.2.2.1 HT.out.2.2.2.2.1 _).mono ?_; rintro e w1 ⟨rfl, B1⟩; have H1 := hDx (H0.out.call B1); clear B1)
 clear c3
 have d3 := stc3 (H1.out.get 0 rfl)
 have y3 := stfz (H1.out.get 0 rfl) 3
 go_upto_region 3 with (fail)
 clear d3 y3
 have H2 := hDx (H1.out.st3 0 rfl 0)
 obtain ⟨w2, hv2⟩ := nm (w1.setCell ⟨sb, 3, none⟩ (.int .i64 0))
 rw [← hv2] at H2
 rw [← hv2]
 clear hv2
 have d1 := stc1 (H2.out.get 0 rfl)
 go_upto_region 5 with (go_at_call 63; refine (chain_any ck (ladS s p) 2 _ (H2.out.tab HT.out.1 HT.out.2.1) HT.out.2.2.2.2.2.1 HT.out.2.2.2.2.2.2 (by decide) (by decide)).mono ?_; rintro e w3 ⟨g, cap, rfl, L1, B1⟩; have H3 := hDx (H2.out.call B1); clear B1)
 clear d1
 have l0 : w3.cell? ⟨g, 0, none⟩ = some (.string (ckS ck (ladS s p))) := L1 0 (by decide)
 have l1 : w3.cell? ⟨g, 1, none⟩ = some (.string (kyS ck (ladS s p))) := L1 1 (by decide)
 clear L1
 obtain ⟨A, hA⟩ := nm (ckS ck (ladS s p))
 obtain ⟨B, hB⟩ := nm (kyS ck (ladS s p))
 rw [← hA] at l0
 rw [← hB] at l1
 have HE := hDx (And.intro hA hB)
 have LT := hDx (And.intro (World.block_lt_of_cell? _ _ l0) (And.intro l0 l1))
 clear hA hB l0 l1
 try simp only [Act.put, sAx, s0x, s1x]
 refine wp_region_cvl 8 1 [36, 37, 38, 39, 40, 41, 42, 43] [[], [], [], [38], [39], [], [41], [42]] [(36, .pointer (some ⟨sb, 0, none⟩)), (37, .pointer (some ⟨sb, 0, none⟩)), (38, .slice (some ⟨g, 0, none⟩) 2 cap), (39, .pointer (some ⟨g, 0, none⟩)), (40, .string (A)), (41, .slice (some ⟨g, 0, none⟩) 2 cap), (42, .pointer (some ⟨g, 1, none⟩)), (43, .string (B))] rfl (by kernel_rfl) (by kernel_rfl) (by rfl) (by kernel_rfl) 37 rfl rfl (by kernel_rfl) (fun _ _ _ _ h => h) ?hY ?hO ?hE
 case hY =>
  intro act u HB HO HA
  have e0 : act.eval (.tmp 0) = .pointer (some ⟨sb, 0, none⟩) := HO 0 (by decide)
  exact ⟨.pointer (some ⟨sb, 0, none⟩), fun w => run_mv rfl e0, rfl⟩
 case hO =>
  refine ⟨?_, ?_, ?_, ?_, ?_, ?_, ?_, ?_, trivial⟩
  ·intro act u HB HO HA
   have e0 := gE (x := .pointer (some ⟨sb, 0, none⟩)) (HO 0 (by decide))
   refine calm_val 36 _ rfl ?_ rfl rfl
   clear HB HO HA
   go_simp
   try rfl
  ·intro act u HB HO HA
   have e0 : act.eval (.tmp 0) = .pointer (some ⟨sb, 0, none⟩) := HO 0 (by decide)
   exact calm_val 37 _ rfl (run_mv rfl e0) rfl rfl
  ·intro act u HB HO HA
   have e8 := gE (x := .slice (some ⟨g, 0, none⟩) 2 cap) (HO 8 (by decide))
   refine calm_val 38 _ rfl ?_ rfl rfl
   clear HB HO HA
   go_simp
   try rfl
  ·intro act u HB HO HA
   have e38 : _ = _ := gE (qA HA 38)
   refine calm_val 39 _ rfl ?_ rfl rfl
   clear HB HO HA
   go_simp
   try rfl
  ·intro act u HB HO HA
   have e39 : _ = _ := gE (qA HA 39)
   have lT : u.cell? ⟨g, 0, none⟩ = some (.string (A)) := (HB.cell (by exact LT.out.1)).trans LT.out.2.1
   refine calm_val 40 _ rfl ?_ rfl rfl
   clear HB HO HA
   go_simp
  ·intro act u HB HO HA
   have e8 := gE (x := .slice (some ⟨g, 0, none⟩) 2 cap) (HO 8 (by decide))
   refine calm_val 41 _ rfl ?_ rfl rfl
   clear HB HO HA
   go_simp
   try rfl
  ·intro act u HB HO HA
   have e41 : _ = _ := gE (qA HA 41)
   refine calm_val 42 _ rfl ?_ rfl rfl
   clear HB HO HA
   go_simp
   try rfl
  intro act u HB HO HA
  have e42 : _ = _ := gE (qA HA 42)
  have lT : u.cell? ⟨g, 1, none⟩ = some (.string (B)) := (HB.cell (by exact LT.out.1)).trans LT.out.2.2
  refine calm_val 43 _ rfl ?_ rfl rfl
  clear HB HO HA
  go_simp
 intro ww1 HB
 have HK1 := hDx (H3.out.drew.call HB)
 simp only [fillL, Act.put, sAx, s0x, s1x, dSx, d0x]
 clear HB
 have d1 := stc1 (HK1.out.get 0 rfl)
 have y1 := stfz (HK1.out.get 0 rfl) 1
 have d2 := stc2 (HK1.out.get 0 rfl)
 have y2 := stfz (HK1.out.get 0 rfl) 2
 go_wp2_with fail
 go_end0
 rw [← HE.out.1, ← HE.out.2]
 exact ⟨rfl, (HK1.out.st1 0 rfl A).st2 0 rfl B⟩
theorem seal_st (sb : Nat) (h ck k s : ByteArray) (R : List Value) (t : Nat) (w : World) (hs : w.heap[sb]? = some (stO h ck k 0 R t)) (hT : Tab w) (h0 : sb ≠ 0) (hh : h.size = 32) (hk : k.size = 32) (hl : s.size ≤ 5000) :
  Calls Tryz.prog 37 #[.pointer (some ⟨sb, 0, none⟩), .string s] w fun e w' => e = .returned (.string (sealS k (nonS 0) h s)) ∧ KS [(sb, stO (mixS h (sealS k (nonS 0) h s)) ck k 0 R t)] [sb] w w' := by
 obtain ⟨C, hC⟩ := nm (sealS k (nonS 0) h s)
 rw [← hC]
 have HT := hDx (And.intro hT (And.intro (show 0 ∉ [sb] by simpa using Ne.symm h0) (And.intro hh (And.intro hk (show C.size ≤ 9000 by rw [hC, sealS_size]; omega)))))
 have HZ := hDx (And.intro (show h.size ≤ 65536 by omega) (show s.size ≤ 65536 by omega))
 have HC := hDx hC
 clear hC
 have H0 := hDx (KS.startX w hs)
 have c3 := stc3 hs
 clear hs hT h0 hh hk hl
 go_enter Tryz.func37, Tryz.ntmps37
 go_upto_region 3 with (fail)
 clear c3
 try simp only [Act.put, sAx, s0x, s1x]
 refine wp_region_cvl 14 13 [13, 14, 15, 16, 17, 18, 19, 20, 21, 22, 23, 12, 24, 25] [[], [13], [14], [15], [], [], [18], [19], [20], [], [16, 17, 21, 22], [23], [12], [12]] [(13, .pointer (some ⟨sb, 0, none⟩)), (14, .pointer (some ⟨sb, 0, none⟩)), (15, .pointer (some ⟨sb, 2, none⟩)), (16, .string (k)), (17, .string (nonS 0)), (18, .pointer (some ⟨sb, 0, none⟩)), (19, .pointer (some ⟨sb, 0, none⟩)), (20, .pointer (some ⟨sb, 0, none⟩)), (21, .string (h)), (22, .string (s)), (23, .tuple #[.string C, .int .i64 0]), (12, .tuple #[.string C, .int .i64 0]), (24, .string (C)), (25, .int .i64 0)] rfl (by kernel_rfl) (by kernel_rfl) (by rfl) (by kernel_rfl) 25 rfl rfl (by kernel_rfl) (fun _ _ _ _ h => h) ?hY ?hO ?hE
 case hY =>
  intro act u HB HO HA
  have e12 : _ = _ := qA HA 12
  exact ⟨.int .i64 0, fun w => run_extr rfl e12 rfl, rfl⟩
 case hO =>
  refine ⟨?_, ?_, ?_, ?_, ?_, ?_, ?_, ?_, ?_, ?_, ?_, ?_, ?_, ?_, trivial⟩
  ·intro act u HB HO HA
   have e0 := gE (x := .pointer (some ⟨sb, 0, none⟩)) (HO 0 (by decide))
   refine calm_val 13 _ rfl ?_ rfl rfl
   clear HB HO HA
   go_simp
   try rfl
  ·intro act u HB HO HA
   have e13 : _ = _ := gE (qA HA 13)
   refine calm_val 14 _ rfl ?_ rfl rfl
   clear HB HO HA
   go_simp
   try rfl
  ·intro act u HB HO HA
   have e14 : _ = _ := gE (qA HA 14)
   refine calm_val 15 _ rfl ?_ rfl rfl
   clear HB HO HA
   go_simp
   try rfl
  ·intro act u HB HO HA
   have e15 : _ = _ := gE (qA HA 15)
   have HS := H0.out.drew.call HB
   have lT := stc2 (HS.get 0 rfl)
   refine calm_val 16 _ rfl ?_ rfl rfl
   clear HB HO HA HS
   go_simp
  ·intro act u HB HO HA
   refine calm_call 17 #[.int .u64 0] rfl rfl ?_ (by kernel_rfl) (nonce_any 0 u) ?_ rfl
   ·simp only [mTx, mCx, mNx]
    try rfl
   rintro e u1 ⟨rfl, B1⟩
   exact ⟨_, rfl, rfl, B1⟩
  ·intro act u HB HO HA
   have e0 := gE (x := .pointer (some ⟨sb, 0, none⟩)) (HO 0 (by decide))
   refine calm_val 18 _ rfl ?_ rfl rfl
   clear HB HO HA
   go_simp
   try rfl
  ·intro act u HB HO HA
   have e18 : _ = _ := gE (qA HA 18)
   refine calm_val 19 _ rfl ?_ rfl rfl
   clear HB HO HA
   go_simp
   try rfl
  ·intro act u HB HO HA
   have e19 : _ = _ := gE (qA HA 19)
   refine calm_val 20 _ rfl ?_ rfl rfl
   clear HB HO HA
   go_simp
   try rfl
  ·intro act u HB HO HA
   have e20 : _ = _ := gE (qA HA 20)
   have HS := H0.out.drew.call HB
   have lT := stc0 (HS.get 0 rfl)
   refine calm_val 21 _ rfl ?_ rfl rfl
   clear HB HO HA HS
   go_simp
  ·intro act u HB HO HA
   have e1 := gE (x := .string (s)) (HO 1 (by decide))
   refine calm_val 22 _ rfl ?_ rfl rfl
   clear HB HO HA
   go_simp
   try rfl
  ·intro act u HB HO HA
   have e16 : _ = _ := qA HA 16
   have e17 : _ = _ := qA HA 17
   have e21 : _ = _ := qA HA 21
   have e22 : _ = _ := qA HA 22
   refine calm_call 23 #[.string (k), .string (nonS 0), .string (h), .string (s)] rfl rfl ?_ (by kernel_rfl) (seal_any k (nonS 0) h s u HT.out.2.2.2.1 (nonS_size 0) HZ.out.1 HZ.out.2) ?_ rfl
   ·simp only [mTx, mCx, mNx, e16, e17, e21, e22]
    try rfl
   rintro e u1 ⟨rfl, B1⟩
   exact ⟨_, rfl, by rw [HC.out]; rfl, B1⟩
  ·intro act u HB HO HA
   have e23 : _ = _ := gE (qA HA 23)
   refine calm_val 12 _ rfl ?_ rfl rfl
   clear HB HO HA
   go_simp
   try rfl
  ·intro act u HB HO HA
   have e12 : _ = _ := gE (qA HA 12)
   refine calm_val 24 _ rfl ?_ rfl rfl
   clear HB HO HA
   go_simp
   try rfl
  intro act u HB HO HA
  have e12 : _ = _ := qA HA 12
  exact calm_val 25 _ rfl (run_extr rfl e12 rfl) rfl rfl
 intro ww1 HB
 have HK1 := hDx (H0.out.drew.call HB)
 simp only [fillL, Act.put, sAx, s0x, s1x, dSx, d0x]
 clear HB
 have d3 := stc3 (HK1.out.get 0 rfl)
 have y3 := stfz (HK1.out.get 0 rfl) 3
 go_upto_region 5 with (fail)
 clear d3 y3
 have H5 := hDx (HK1.out.st3 0 rfl 0)
 obtain ⟨w5, hv5⟩ := nm (ww1.setCell ⟨sb, 3, none⟩ (.int .i64 0))
 rw [← hv5] at H5
 rw [← hv5]
 clear hv5
 go_wp2_with (go_at_call 35; refine (mix_any sb h ck k C 0 R t _ (H5.out.get 0 rfl) (H5.out.tab HT.out.1 HT.out.2.1) HT.out.2.2.1 HT.out.2.2.2.2).mono ?_; rintro e w6 ⟨rfl, K6⟩; have H6 := hDx K6; clear K6)
 go_ret
 exact ⟨rfl, H5.out.over H6.out (by simp) rfl (by simp)⟩
theorem open_good (key nonce a x : ByteArray) (w : World) (h32 : key.size = 32) (h12 : nonce.size = 12) (ha : a.size ≤ 65536) (h16 : 16 ≤ x.size) (hx : x.size ≤ 65552) (ho : opensS key nonce a x) :
  Calls Tryz.prog 30 #[.string key, .string nonce, .string a, .string x] w fun e w' => e = .returned (.tuple #[.string (trnS key nonce 1 (cutS x)), .int .i64 0]) ∧ Below w.heap.size w w' :=
 (open_any key nonce a x w h32 h12 ha h16 hx).mono fun e w' h => ⟨(h.1.resolve_right fun q => q.1 ho).2, h.2⟩
theorem open_st (sb : Nat) (h ck k x : ByteArray) (R : List Value) (t : Nat) (w : World) (hs : w.heap[sb]? = some (stO h ck k 0 R t)) (hT : Tab w) (h0 : sb ≠ 0) (hh : h.size = 32) (hk : k.size = 32) (h16 : 16 ≤ x.size) (hl : x.size ≤ 5000) (ho : opensS k (nonS 0) h x) :
  Calls Tryz.prog 38 #[.pointer (some ⟨sb, 0, none⟩), .string x] w fun e w' => e = .returned (.string (trnS k (nonS 0) 1 (cutS x))) ∧ KS [(sb, stO (mixS h x) ck k 0 R t)] [sb] w w' := by
 obtain ⟨T, hC⟩ := nm (trnS k (nonS 0) 1 (cutS x))
 rw [← hC]
 have HT := hDx (And.intro hT (And.intro (show 0 ∉ [sb] by simpa using Ne.symm h0) (And.intro hh (And.intro hk (show x.size ≤ 9000 by omega)))))
 have HZ := hDx (And.intro (show h.size ≤ 65536 by omega) (And.intro h16 (And.intro (show x.size ≤ 65552 by omega) ho)))
 have HC := hDx hC
 clear hC h16 ho
 have H0 := hDx (KS.startX w hs)
 have c3 := stc3 hs
 clear hs hT h0 hh hk hl
 go_enter Tryz.func38, Tryz.ntmps38
 go_upto_region 3 with (fail)
 clear c3
 try simp only [Act.put, sAx, s0x, s1x]
 refine wp_region_cvl 14 13 [13, 14, 15, 16, 17, 18, 19, 20, 21, 22, 23, 12, 24, 25] [[], [13], [14], [15], [], [], [18], [19], [20], [], [16, 17, 21, 22], [23], [12], [12]] [(13, .pointer (some ⟨sb, 0, none⟩)), (14, .pointer (some ⟨sb, 0, none⟩)), (15, .pointer (some ⟨sb, 2, none⟩)), (16, .string (k)), (17, .string (nonS 0)), (18, .pointer (some ⟨sb, 0, none⟩)), (19, .pointer (some ⟨sb, 0, none⟩)), (20, .pointer (some ⟨sb, 0, none⟩)), (21, .string (h)), (22, .string (x)), (23, .tuple #[.string T, .int .i64 0]), (12, .tuple #[.string T, .int .i64 0]), (24, .string (T)), (25, .int .i64 0)] rfl (by kernel_rfl) (by kernel_rfl) (by rfl) (by kernel_rfl) 25 rfl rfl (by kernel_rfl) (fun _ _ _ _ h => h) ?hY ?hO ?hE
 case hY =>
  intro act u HB HO HA
  have e12 : _ = _ := qA HA 12
  exact ⟨.int .i64 0, fun w => run_extr rfl e12 rfl, rfl⟩
 case hO =>
  refine ⟨?_, ?_, ?_, ?_, ?_, ?_, ?_, ?_, ?_, ?_, ?_, ?_, ?_, ?_, trivial⟩
  ·intro act u HB HO HA
   have e0 := gE (x := .pointer (some ⟨sb, 0, none⟩)) (HO 0 (by decide))
   refine calm_val 13 _ rfl ?_ rfl rfl
   clear HB HO HA
   go_simp
   try rfl
  ·intro act u HB HO HA
   have e13 : _ = _ := gE (qA HA 13)
   refine calm_val 14 _ rfl ?_ rfl rfl
   clear HB HO HA
   go_simp
   try rfl
  ·intro act u HB HO HA
   have e14 : _ = _ := gE (qA HA 14)
   refine calm_val 15 _ rfl ?_ rfl rfl
   clear HB HO HA
   go_simp
   try rfl
  ·intro act u HB HO HA
   have e15 : _ = _ := gE (qA HA 15)
   have HS := H0.out.drew.call HB
   have lT := stc2 (HS.get 0 rfl)
   refine calm_val 16 _ rfl ?_ rfl rfl
   clear HB HO HA HS
   go_simp
  ·intro act u HB HO HA
   refine calm_call 17 #[.int .u64 0] rfl rfl ?_ (by kernel_rfl) (nonce_any 0 u) ?_ rfl
   ·simp only [mTx, mCx, mNx]
    try rfl
   rintro e u1 ⟨rfl, B1⟩
   exact ⟨_, rfl, rfl, B1⟩
  ·intro act u HB HO HA
   have e0 := gE (x := .pointer (some ⟨sb, 0, none⟩)) (HO 0 (by decide))
   refine calm_val 18 _ rfl ?_ rfl rfl
   clear HB HO HA
   go_simp
   try rfl
  ·intro act u HB HO HA
   have e18 : _ = _ := gE (qA HA 18)
   refine calm_val 19 _ rfl ?_ rfl rfl
   clear HB HO HA
   go_simp
   try rfl
  ·intro act u HB HO HA
   have e19 : _ = _ := gE (qA HA 19)
   refine calm_val 20 _ rfl ?_ rfl rfl
   clear HB HO HA
   go_simp
   try rfl
  ·intro act u HB HO HA
   have e20 : _ = _ := gE (qA HA 20)
   have HS := H0.out.drew.call HB
   have lT := stc0 (HS.get 0 rfl)
   refine calm_val 21 _ rfl ?_ rfl rfl
   clear HB HO HA HS
   go_simp
  ·intro act u HB HO HA
   have e1 := gE (x := .string (x)) (HO 1 (by decide))
   refine calm_val 22 _ rfl ?_ rfl rfl
   clear HB HO HA
   go_simp
   try rfl
  ·intro act u HB HO HA
   have e16 : _ = _ := qA HA 16
   have e17 : _ = _ := qA HA 17
   have e21 : _ = _ := qA HA 21
   have e22 : _ = _ := qA HA 22
   refine calm_call 23 #[.string (k), .string (nonS 0), .string (h), .string (x)] rfl rfl ?_ (by kernel_rfl) (open_good k (nonS 0) h x u HT.out.2.2.2.1 (nonS_size 0) HZ.out.1 HZ.out.2.1 HZ.out.2.2.1 HZ.out.2.2.2) ?_ rfl
   ·simp only [mTx, mCx, mNx, e16, e17, e21, e22]
    try rfl
   rintro e u1 ⟨rfl, B1⟩
   exact ⟨_, rfl, by rw [HC.out]; rfl, B1⟩
  ·intro act u HB HO HA
   have e23 : _ = _ := gE (qA HA 23)
   refine calm_val 12 _ rfl ?_ rfl rfl
   clear HB HO HA
   go_simp
   try rfl
  ·intro act u HB HO HA
   have e12 : _ = _ := gE (qA HA 12)
   refine calm_val 24 _ rfl ?_ rfl rfl
   clear HB HO HA
   go_simp
   try rfl
  intro act u HB HO HA
  have e12 : _ = _ := qA HA 12
  exact calm_val 25 _ rfl (run_extr rfl e12 rfl) rfl rfl
 intro ww1 HB
 have HK1 := hDx (H0.out.drew.call HB)
 simp only [fillL, Act.put, sAx, s0x, s1x, dSx, d0x]
 clear HB
 have d3 := stc3 (HK1.out.get 0 rfl)
 have y3 := stfz (HK1.out.get 0 rfl) 3
 go_upto_region 5 with (fail)
 clear d3 y3
 have H5 := hDx (HK1.out.st3 0 rfl 0)
 obtain ⟨w5, hv5⟩ := nm (ww1.setCell ⟨sb, 3, none⟩ (.int .i64 0))
 rw [← hv5] at H5
 rw [← hv5]
 clear hv5
 go_wp2_with (go_at_call 35; refine (mix_any sb h ck k x 0 R t _ (H5.out.get 0 rfl) (H5.out.tab HT.out.1 HT.out.2.1) HT.out.2.2.1 HT.out.2.2.2.2).mono ?_; rintro e w6 ⟨rfl, K6⟩; have H6 := hDx K6; clear K6)
 go_ret
 exact ⟨rfl, H5.out.over H6.out (by simp) rfl (by simp)⟩
theorem keys_any (sb : Nat) (h ck k : ByteArray) (f : Int) (R : List Value) (t : Nat) (w : World) (hs : w.heap[sb]? = some (stO h ck k f R t)) (hT : Tab w) (hck : ck.size = 32) :
  Calls Tryz.prog 39 #[.pointer (some ⟨sb, 0, none⟩)] w fun e w' => e = .returned (.tuple #[.string (ckS ck .empty), .string (kyS ck .empty)]) ∧ Below w.heap.size w w' := by
 have H0 := hDx (KS.start w)
 have HT := hDx (And.intro hT (And.intro (e32i hck).1 (show ByteArray.empty.size ≤ 9000 by decide)))
 have c1 := stc1 hs
 clear hs hT hck
 go_enter Tryz.func39, Tryz.ntmps39
 go_upto_region 2 with (go_at_call 63; refine (chain_any ck .empty 2 _ HT.out.1 HT.out.2.1 HT.out.2.2 (by decide) (by decide)).mono ?_; rintro e w1 ⟨g, cap, rfl, L1, B1⟩; have H1 := hDx (H0.out.call B1); clear B1)
 clear c1
 have l0 := L1 0 (by decide)
 have l1 := L1 1 (by decide)
 clear L1
 go_quiet (fail)
 go_wp2_with fail
 go_ret2
 exact ⟨rfl, (H1.out.drewN nq).below⟩
end
section
open Go.RowKit T
def name0 : ByteArray := ⟨#[78, 111, 105, 115, 101, 95, 73, 75, 95, 50, 53, 53, 49, 57, 95, 67, 104, 97, 67, 104, 97, 80, 111, 108, 121, 95, 66, 76, 65, 75, 69, 50, 115]⟩
def h0S : ByteArray := hashS 32 .empty name0
theorem h0S_size : h0S.size = 32 := hashS_size _ _ _
def h2S (p o : ByteArray) : ByteArray := mixS (mixS h0S p) o
theorem ag83 : AgTy 83 4 := agTy (by kernel_rfl)
theorem ag61 : AgTy 61 5 := agTy (by kernel_rfl)
theorem name0_len : name0.size ≤ maxLen := by
 have h1 : 10000 ≤ maxLen := by decide
 have h2 : name0.size = 33 := rfl
 omega
theorem start_of (u : World) (hT : Tab u) : Calls Tryz.prog 60 #[.string ⟨#[78, 111, 105, 115, 101, 95, 73, 75, 95, 50, 53, 53, 49, 57, 95, 67, 104, 97, 67, 104, 97, 80, 111, 108, 121, 95, 66, 76, 65, 75, 69, 50, 115]⟩] u fun e w' => e = .returned (.string h0S) ∧ Below u.heap.size u w' :=
 of_any name0 u hT name0_len
theorem begin_st (p o : ByteArray) (w : World) (hT : Tab w) (hp : p.size ≤ 9000) (ho : o.size ≤ 9000) :
  Calls Tryz.prog 33 #[.string p, .string o] w fun e w' => e = .returned (.agg #[.string (h2S p o), .string h0S, .string .empty, .int .i64 0]) ∧ Below w.heap.size w w' := by
 have HT := hDx (And.intro hT (And.intro hp ho))
 clear hT hp ho
 go_enter Tryz.func33, Tryz.ntmps33
 go_upto_region 1 with (fail)
 have HK0 := hDx (KS.start w)
 have hm1 := (HK0.out.made (.cells #[.string ⟨#[]⟩, .string ⟨#[]⟩, .string ⟨#[]⟩, .int .i64 0] 83))
 obtain ⟨A, hgA⟩ := nm w.heap.size
 obtain ⟨ww1, hv1⟩ := nm (World.alloc w (.cells #[.string ⟨#[]⟩, .string ⟨#[]⟩, .string ⟨#[]⟩, .int .i64 0] 83))
 rw [← hv1, ← hgA] at hm1
 rw [← hv1]
 try rw [← hgA]
 have HK1 : Hid (KS [(A, .cells #[.string ⟨#[]⟩, .string ⟨#[]⟩, .string ⟨#[]⟩, .int .i64 0] 83)] [] w ww1) := hDx hm1
 clear hm1 hv1 hgA
 go_upto_region 2 with (go_at_call 60; refine (start_of _ (HT.out.1.more HK1.out.below)).mono ?_; rintro e w2 ⟨rfl, B1⟩; have H2 := hDx (HK1.out.call B1); clear B1)
 go_upto_region 3 with (fail)
 have hm := H2.out.made (.cells #[.string h0S, .string h0S, .string ⟨#[]⟩, .int .i64 0] 83)
 obtain ⟨G, hG⟩ := nm w2.heap.size
 obtain ⟨w3, hv3⟩ := nm (World.alloc w2 (.cells #[.string h0S, .string h0S, .string ⟨#[]⟩, .int .i64 0] 83))
 rw [← hv3, ← hG] at hm
 rw [← hv3]
 try rw [← hG]
 have H3 : Hid (KS [(G, stO h0S h0S .empty 0 [] 83), (A, .cells #[.string ⟨#[]⟩, .string ⟨#[]⟩, .string ⟨#[]⟩, .int .i64 0] 83)] [] w w3) := hDx hm
 clear hm hv3 hG
 go_upto_region 4 with (go_at_call 35; refine (mix_any G h0S h0S .empty p 0 [] 83 _ (H3.out.get 0 rfl) (HT.out.1.more H3.out.below) h0S_size HT.out.2.1).mono ?_; rintro e w4 ⟨rfl, K4⟩; have H4 : Hid (KS [(G, stO (mixS h0S p) h0S .empty 0 [] 83), (A, .cells #[.string ⟨#[]⟩, .string ⟨#[]⟩, .string ⟨#[]⟩, .int .i64 0] 83)] [] w w4) := hDx (H3.out.callT 0 rfl K4.only (K4.get 0 rfl)); clear K4)
 go_upto_region 5 with (go_at_call 35; refine (mix_any G (mixS h0S p) h0S .empty o 0 [] 83 _ (H4.out.get 0 rfl) (HT.out.1.more H4.out.below) (mixS_size _ _) HT.out.2.2).mono ?_; rintro e w5 ⟨rfl, K5⟩; have H5 : Hid (KS [(G, stO (h2S p o) h0S .empty 0 [] 83), (A, .cells #[.string ⟨#[]⟩, .string ⟨#[]⟩, .string ⟨#[]⟩, .int .i64 0] 83)] [] w w5) := hDx (H4.out.callT 0 rfl K5.only (K5.get 0 rfl)); clear K5)
 go_wp2_with (first | (refine wpList_loadM (t := 83) (n := 4) (b := G) (o := 0) (C := #[.string (h2S p o), .string h0S, .string .empty, .int .i64 0]) (cs := #[.string (h2S p o), .string h0S, .string .empty, .int .i64 0]) rfl _ rfl rfl (H5.out.get 0 rfl) ag83 rfl rfl ?_) | (refine wpList_storeM (b := A) (o := 0) (n := 4) (cs := #[.string (h2S p o), .string h0S, .string .empty, .int .i64 0]) rfl _ _ rfl rfl rfl (H5.out.get 1 rfl) (by decide) ag83 rfl (by simp [Value.oneCell']) ?_))
 have hm := H5.out.lay 1 rfl 0 #[.string (h2S p o), .string h0S, .string .empty, .int .i64 0] (Nat.le_refl 4)
 rw [lay_all _ _ (by rfl)] at hm
 try simp only [Exit.inBlock, Exit.then]
 refine bodyPost_ret (results_loadM (p := 4) (n := 4) (C := #[.string (h2S p o), .string h0S, .string .empty, .int .i64 0]) (by kernel_rfl) (by rfl) (hm.get 1 rfl) ag83 rfl) rfl ?_
 exact ⟨rfl, hm.below⟩
def H3 (p o e : ByteArray) : ByteArray := mixS (h2S p o) e
def C1 (p o e x a : ByteArray) : ByteArray := sealS (kyS h0S x) (nonS 0) (H3 p o e) a
def H4 (p o e x a : ByteArray) : ByteArray := mixS (H3 p o e) (C1 p o e x a)
def CK2 (x y : ByteArray) : ByteArray := ckS (ckS h0S x) y
def K2 (x y : ByteArray) : ByteArray := kyS (ckS h0S x) y
def C2 (p o e x a y l : ByteArray) : ByteArray := sealS (K2 x y) (nonS 0) (H4 p o e x a) l
def H5 (p o e x a y l : ByteArray) : ByteArray := mixS (H4 p o e x a) (C2 p o e x a y l)
def M1 (p o e x a y l : ByteArray) : ByteArray := (e ++ C1 p o e x a) ++ C2 p o e x a y l
theorem C1_size (p o e x a : ByteArray) : (C1 p o e x a).size = a.size + 16 := sealS_size _ _ _ _
theorem C2_size (p o e x a y l : ByteArray) : (C2 p o e x a y l).size = l.size + 16 := sealS_size _ _ _ _
theorem app_i {a b : ByteArray} (h : a.size ≤ 9000) (h2 : b.size ≤ 9000) : a.size + b.size ≤ 9223372036854775807 := by omega
theorem i32 {s : ByteArray} (h : s.size = 32) : (s.size : Int) = 32 := by rw [h]; rfl
theorem p4096 {s : ByteArray} (h : s.size ≤ 4096) : ¬ (4096 : Int) < s.size := by omega
theorem pubS_def (s : ByteArray) : ladS s nineS = pubS s := rfl
theorem neX {g : Nat} {w : World} (hT : Tab w) {u : World} (h : w.heap.size ≤ u.heap.size) (hg : u.heap.size ≤ g) : g ≠ 0 := by
 have := hT.lt
 omega
theorem first_st (A o E p l : ByteArray) (w : World) (hT : Tab w) (hA : A.size = 32) (hO : o.size = 32) (hE : E.size = 32) (hp : p.size ≤ 4096) (hl : l.size ≤ 4096) (z1 : ladS E o ≠ zeroB 32) (z2 : ladS A o ≠ zeroB 32) :
  Calls Tryz.prog 16 #[.string A, .string o, .string E, .string p, .string l] w fun e w' => ∃ hb,
   e = .returned (.tuple #[.pointer (some ⟨hb, 0, none⟩), .string (M1 p o (pubS E) (ladS E o) (pubS A) (ladS A o) l), .int .i64 0]) ∧
   KS [(hb, stO (H5 p o (pubS E) (ladS E o) (pubS A) (ladS A o) l) (CK2 (ladS E o) (ladS A o)) (K2 (ladS E o) (ladS A o)) 0 [.string A, .string E, .string o] 86)] [] w w' := by
 have HP := hDx (And.intro hT (And.intro (show p.size ≤ 9000 by omega) (And.intro (show o.size ≤ 9000 by omega) (And.intro hA (And.intro hO hE)))))
 have HZ := hDx (And.intro z1 (And.intro z2 (show l.size ≤ 5000 by omega)))
 have HR := hDx (And.intro (ladS_size E nineS) (ladS_size A nineS))
 have g1 := i32 hA
 have g2 := i32 hO
 have g3 := i32 hE
 have g4 := p4096 hp
 have g5 := p4096 hl
 clear hT hA hO hE hp hl z1 z2
 obtain ⟨e1, he1⟩ := nm (pubS E)
 obtain ⟨a1, ha1⟩ := nm (pubS A)
 obtain ⟨x1, hx1⟩ := nm (ladS E o)
 obtain ⟨x2, hx2⟩ := nm (ladS A o)
 rw [← he1, ← ha1, ← hx1, ← hx2]
 have HX := hDx (And.intro he1 (And.intro ha1 (And.intro hx1 (And.intro hx2 (And.intro (show e1.size = 32 by rw [he1]; exact pubS_size E) (show a1.size = 32 by rw [ha1]; exact pubS_size A))))))
 clear he1 ha1 hx1 hx2
 go_enter Tryz.func16, Tryz.ntmps16
 have HK0 := hDx (KS.start w)
 go_upto_region 6 with (go_at_call 33; refine (begin_st p o _ HP.out.1 HP.out.2.1 HP.out.2.2.1).mono ?_; rintro e w1 ⟨rfl, B1⟩; have J1 := hDx (HK0.out.call B1); clear B1)
 clear g1 g2 g3 g4 g5
 have hm1 := (J1.out.made (.cells #[.string (h2S p o), .string h0S, .string .empty, .int .i64 0, .string A, .string E, .string o] 86))
 obtain ⟨hb, hghb⟩ := nm w1.heap.size
 obtain ⟨ww1, hv1⟩ := nm (World.alloc w1 (.cells #[.string (h2S p o), .string h0S, .string .empty, .int .i64 0, .string A, .string E, .string o] 86))
 rw [← hv1, ← hghb] at hm1
 rw [← hv1]
 try rw [← hghb]
 have HK1 : Hid (KS [(hb, stO (h2S p o) h0S .empty 0 [.string A, .string E, .string o] 86)] [] w ww1) := hDx hm1
 clear hm1 hv1 hghb
 have hb0 : hb ≠ 0 := neX HP.out.1 (Nat.le_refl _) ((HK1.out.mem 0 rfl).resolve_left (by simp))
 have HB0 := hDx hb0
 clear hb0
 go_upto_region 7 with (go_at_call 34; refine (public_any E HP.out.2.2.2.2.2 _).mono ?_; rintro e w3 ⟨rfl, B1⟩; rw [pubS_def, ← HX.out.1]; have J3 := hDx (HK1.out.call B1); clear B1)
 go_upto_region 8 with (go_at_call 34; refine (public_any A HP.out.2.2.2.1 _).mono ?_; rintro e w4 ⟨rfl, B1⟩; rw [pubS_def, ← HX.out.2.1]; have J4 := hDx (J3.out.call B1); clear B1)
 go_upto_region 9 with (go_at_call 35; refine (mix_any hb (h2S p o) h0S .empty e1 0 [.string A, .string E, .string o] 86 _ (J4.out.get 0 rfl) (HP.out.1.more J4.out.below) (mixS_size _ _) (by have := HX.out.2.2.2.2.1; omega)).mono ?_; rintro e w5 ⟨rfl, K⟩; have J5 : Hid (KS [(hb, stO (H3 p o e1) h0S .empty 0 [.string A, .string E, .string o] 86)] [] w w5) := hDx (J4.out.callT 0 rfl K.only (K.get 0 rfl)); clear K)
 go_upto_region 10 with (go_at_call 36; refine (add_st hb (H3 p o e1) h0S .empty E o [.string A, .string E, .string o] 86 _ (J5.out.get 0 rfl) (HP.out.1.more J5.out.below) HB0.out HP.out.2.2.2.2.2 HP.out.2.2.2.2.1 HZ.out.1 h0S_size).mono ?_; rintro e w6 ⟨rfl, K⟩; have J6 : Hid (KS [(hb, stO (H3 p o e1) (ckS h0S x1) (kyS h0S x1) 0 [.string A, .string E, .string o] 86)] [] w w6) := (by rw [HX.out.2.2.1]; exact hDx (J5.out.callT 0 rfl K.only (K.get 0 rfl))); clear K)
 have as1 := addS e1 (C1 p o e1 x1 a1) (app_i (by have := HX.out.2.2.2.2.1; omega) (by rw [C1_size]; have := HX.out.2.2.2.2.2; omega))
 go_upto_region 11 with (go_at_call 37; refine (seal_st hb (H3 p o e1) (ckS h0S x1) (kyS h0S x1) a1 [.string A, .string E, .string o] 86 _ (J6.out.get 0 rfl) (HP.out.1.more J6.out.below) HB0.out (mixS_size _ _) (kyS_size _ _) (by have := HX.out.2.2.2.2.2; omega)).mono ?_; rintro e w7 ⟨rfl, K⟩; have J7 : Hid (KS [(hb, stO (H4 p o e1 x1 a1) (ckS h0S x1) (kyS h0S x1) 0 [.string A, .string E, .string o] 86)] [] w w7) := hDx (J6.out.callT 0 rfl K.only (K.get 0 rfl)); clear K; rw [show sealS (kyS h0S x1) (nonS 0) (H3 p o e1) a1 = C1 p o e1 x1 a1 from rfl])
 clear as1
 go_upto_region 12 with (go_at_call 36; refine (add_st hb (H4 p o e1 x1 a1) (ckS h0S x1) (kyS h0S x1) A o [.string A, .string E, .string o] 86 _ (J7.out.get 0 rfl) (HP.out.1.more J7.out.below) HB0.out HP.out.2.2.2.1 HP.out.2.2.2.2.1 HZ.out.2.1 (ckS_size _ _)).mono ?_; rintro e w8 ⟨rfl, K⟩; have J8 : Hid (KS [(hb, stO (H4 p o e1 x1 a1) (CK2 x1 x2) (K2 x1 x2) 0 [.string A, .string E, .string o] 86)] [] w w8) := (by rw [HX.out.2.2.2.1]; exact hDx (J7.out.callT 0 rfl K.only (K.get 0 rfl))); clear K)
 have as2 := addS (e1 ++ C1 p o e1 x1 a1) (C2 p o e1 x1 a1 x2 l) (app_i (by rw [ByteArray.size_append, C1_size]; have := HX.out.2.2.2.2.1; have := HX.out.2.2.2.2.2; omega) (by rw [C2_size]; have := HZ.out.2.2; omega))
 go_upto_region 13 with (go_at_call 37; refine (seal_st hb (H4 p o e1 x1 a1) (CK2 x1 x2) (K2 x1 x2) l [.string A, .string E, .string o] 86 _ (J8.out.get 0 rfl) (HP.out.1.more J8.out.below) HB0.out (mixS_size _ _) (kyS_size _ _) HZ.out.2.2).mono ?_; rintro e w9 ⟨rfl, K⟩; have J9 : Hid (KS [(hb, stO (H5 p o e1 x1 a1 x2 l) (CK2 x1 x2) (K2 x1 x2) 0 [.string A, .string E, .string o] 86)] [] w w9) := hDx (J8.out.callT 0 rfl K.only (K.get 0 rfl)); clear K; rw [show sealS (K2 x1 x2) (nonS 0) (H4 p o e1 x1 a1) l = C2 p o e1 x1 a1 x2 l from rfl])
 clear as2
 have d3 := stc3 (J9.out.get 0 rfl)
 go_wp2_with fail
 go_ret3
 exact ⟨hb, rfl, J9.out⟩
end
end Go.Proofs.YtoplbfijodebmaaGreatDoor
