/-
  The walk.
-/
import Derived.Test.YtoplbfijodebmaaGreatDoorS37WA
set_option linter.unusedVariables false
set_option linter.unusedSimpArgs false
set_option maxRecDepth 100000
set_option maxHeartbeats 40000000
namespace Go.Proofs.YtoplbfijodebmaaGreatDoor
section
open Go.RowKit T
def tunC (wb nb : Nat) (snd rcv : ByteArray) (fst sur : Bool) (nxt : Nat) : Array Value := #[.pointer (some ⟨wb, 0, none⟩), .string snd, .string rcv, .bool fst, .bool sur, .func (.func 42) #[] #[.pointer (some ⟨nb, 0, none⟩)], .int .u64 40, .int .u64 50, .int .u64 10, .int .u64 20, .int .i64 64, .int .u64 (nxt : Int)]
def tunO (wb nb : Nat) (snd rcv : ByteArray) (fst sur : Bool) (nxt : Nat) : Obj := .cells (tunC wb nb snd rcv fst sur nxt) 74
def nowO : Obj := .cells #[.int .u64 0] 29
section
variable {tb wb nb nxt : Nat} {snd rcv : ByteArray} {fst sur : Bool} {u : World}
theorem tcell (h : u.heap[tb]? = some (tunO wb nb snd rcv fst sur nxt)) (i : Nat) : u.cell? ⟨tb, i, none⟩ = (tunC wb nb snd rcv fst sur nxt)[i]? := Lib.cell_of_heap h i
theorem tfz (h : u.heap[tb]? = some (tunO wb nb snd rcv fst sur nxt)) (i : Nat) : u.frozen? ⟨tb, i, none⟩ = false := Lib.frozen_of_heap h i
end
theorem tun_none (tb wb nb nxt : Nat) (snd rcv : ByteArray) (fst sur : Bool) (w : World) (h : w.heap[tb]? = some (tunO wb nb snd rcv fst sur nxt)) : Calls Tryz.prog 21 #[.pointer (some ⟨tb, 0, none⟩)] w fun e w' => e = .returned (.bool false) ∧ w' = w := by
 have c0 : w.cell? ⟨tb, 0, none⟩ = some (.pointer (some ⟨wb, 0, none⟩)) := tcell h 0
 clear h
 go_enter Tryz.func21, Tryz.ntmps21
 go_wp2_with fail
 go_ret
 exact ⟨rfl, rfl⟩
theorem tun_sure (tb wb nb nxt : Nat) (snd rcv : ByteArray) (fst sur : Bool) (w : World) (h : w.heap[tb]? = some (tunO wb nb snd rcv fst sur nxt)) : Calls Tryz.prog 13 #[.pointer (some ⟨tb, 0, none⟩)] w fun e w' => e = .returned (.bool sur) ∧ w' = w := by
 have c4 : w.cell? ⟨tb, 4, none⟩ = some (.bool sur) := tcell h 4
 have H := hDx h
 clear h
 go_enter Tryz.func13, Tryz.ntmps13
 go_wp2_with (go_at_call 21; refine (tun_none tb wb nb nxt snd rcv fst sur _ H.out).mono ?_; rintro e w1 ⟨rfl, rfl⟩)
 go_ret
 exact ⟨rfl, rfl⟩
theorem age_any (nb : Nat) (w : World) (h : w.heap[nb]? = some nowO) : Calls Tryz.prog 42 #[.int .u64 0, .pointer (some ⟨nb, 0, none⟩)] w fun e w' => e = .returned (.int .u64 0) ∧ w' = w := by
 have c0 : w.cell? ⟨nb, 0, none⟩ = some (.int .u64 0) := Lib.cell_of_heap h 0
 clear h
 go_enter Tryz.func42, Tryz.ntmps42
 go_wp2_with fail
 go_ret
 exact ⟨rfl, rfl⟩
theorem nonempty_s {s : ByteArray} (h : s.size = 32) : s.toList.isEmpty = false := by
 rw [ByteArray.toList_eq, List.isEmpty_eq_false_iff]
 intro e
 have h2 : s.data.toList.length = s.size := by simp
 rw [e, h] at h2
 cases h2
theorem tun_over (tb wb nb nxt : Nat) (snd rcv : ByteArray) (fst sur : Bool) (w : World) (h : w.heap[tb]? = some (tunO wb nb snd rcv fst sur nxt)) (hb : w.heap[nb]? = some nowO) (hs : snd.size = 32) :
  Calls Tryz.prog 22 #[.pointer (some ⟨tb, 0, none⟩), .int .u64 0] w fun e w' => e = .returned (.bool false) ∧ ∃ m, w' = w.drewN m := by
 have c1 : w.cell? ⟨tb, 1, none⟩ = some (.string snd) := tcell h 1
 have c5 : w.cell? ⟨tb, 5, none⟩ = some (.func (.func 42) #[] #[.pointer (some ⟨nb, 0, none⟩)]) := tcell h 5
 have c9 : w.cell? ⟨tb, 9, none⟩ = some (.int .u64 20) := tcell h 9
 have hq := nonempty_s hs
 have H := hDx (And.intro h hb)
 clear h hb hs
 go_enter Tryz.func22, Tryz.ntmps22
 go_upto_region 1 with (fail)
 go_quiet (first
  | (go_at_call 21; exact Calls.quiet_of_same (tun_none tb wb nb nxt snd rcv fst sur _ (by exact H.out.1)))
  | (go_at_call 42; exact Calls.quiet_of_same (age_any nb _ (by exact H.out.2))))
 go_wp2_with fail
 go_ret
 exact ⟨rfl, _, rfl⟩
end
section
open Go.RowKit T
theorem nxt_i (n : Nat) (h : n < 50) : (n : Int) < 50 ∧ ¬ (50 : Int) ≤ n ∧ IntKind.u64.wrap ((n : Int) + 1) = ((n + 1 : Nat) : Int) ∧ IntKind.u64.wrap (((n + 1 : Nat) : Int) - 1) = (n : Int) := ⟨by omega, by omega, u64w (by omega) (by omega), u64w (by omega) (by omega)⟩
theorem emp_sz : ByteArray.empty.size ≤ 65536 := by decide
theorem tun_seal (tb wb nb nxt : Nat) (snd rcv s : ByteArray) (fst : Bool) (w : World) (h : w.heap[tb]? = some (tunO wb nb snd rcv fst true nxt)) (hb : w.heap[nb]? = some nowO) (hs : snd.size = 32) (hn : nxt < 50) (hl : s.size ≤ 65536) :
  Calls Tryz.prog 9 #[.pointer (some ⟨tb, 0, none⟩), .int .u64 0, .string s] w fun e w' => e = .returned (.tuple #[.int .u64 (nxt : Int), .string (sealS snd (nonS nxt) .empty s), .int .i64 0]) ∧ KS [(tb, tunO wb nb snd rcv fst true (nxt + 1))] [tb] w w' := by
 obtain ⟨n1, n2, n3, n4⟩ := nxt_i nxt hn
 have c1 := tcell h 1
 have c11 : w.cell? ⟨tb, 11, none⟩ = some (.int .u64 (nxt : Int)) := tcell h 11
 have c7 : w.cell? ⟨tb, 7, none⟩ = some (.int .u64 50) := tcell h 7
 have HA0 := hDx (And.intro h (And.intro hb (And.intro hs hl)))
 have H0 := hDx (KS.startX w h)
 obtain ⟨C, hC⟩ := nm (sealS snd (nonS nxt) .empty s)
 rw [← hC]
 have HC := hDx hC
 clear h hb hs hn hl c1 hC
 go_enter Tryz.func9, Tryz.ntmps9
 go_upto_region 3 with (go_at_call 21; refine (tun_none tb wb nb nxt snd rcv fst true _ HA0.out.1).mono ?_; rintro e w1 ⟨rfl, rfl⟩)
 go_quiet ((go_at_call 22; exact Calls.quiet_of (tun_over tb wb nb nxt snd rcv fst true _ (by exact HA0.out.1) (by exact HA0.out.2.1) HA0.out.2.2.1)))
 obtain ⟨wq, hwq⟩ := nm (w1.drewN nq)
 have HQ := hDx (H0.out.drewN nq)
 rw [← hwq] at HQ
 rw [← hwq]
 clear hwq c11 c7
 have c4 : wq.cell? ⟨tb, 4, none⟩ = some (.bool true) := tcell (HQ.out.get 0 rfl) 4
 go_upto_region 7 with (fail)
 clear c4
 try simp only [Act.put, sAx, s0x, s1x]
 refine wp_region_cvl 14 13 [35, 36, 37, 38, 39, 40, 41, 42, 43, 44, 45, 34, 46, 47] [[], [35], [36], [37], [], [39], [40], [41], [42], [], [38, 43, 44], [45], [34], [34]] [(35, .pointer (some ⟨tb, 0, none⟩)), (36, .pointer (some ⟨tb, 0, none⟩)), (37, .pointer (some ⟨tb, 1, none⟩)), (38, .string (snd)), (39, .pointer (some ⟨tb, 0, none⟩)), (40, .pointer (some ⟨tb, 0, none⟩)), (41, .pointer (some ⟨tb, 11, none⟩)), (42, .int .u64 (nxt : Int)), (43, .string (nonS nxt)), (44, .string (s)), (45, .tuple #[.string C, .int .i64 0]), (34, .tuple #[.string C, .int .i64 0]), (46, .string (C)), (47, .int .i64 0)] rfl (by kernel_rfl) (by kernel_rfl) (by rfl) (by kernel_rfl) 47 rfl rfl (by kernel_rfl) (fun _ _ _ _ h => h) ?hY ?hO ?hE
 case hY =>
  intro act u HB HO HA
  have e34 : _ = _ := qA HA 34
  exact ⟨.int .i64 0, fun w => run_extr rfl e34 rfl, rfl⟩
 case hO =>
  refine ⟨?_, ?_, ?_, ?_, ?_, ?_, ?_, ?_, ?_, ?_, ?_, ?_, ?_, ?_, trivial⟩
  ·intro act u HB HO HA
   have e0 := gE (x := .pointer (some ⟨tb, 0, none⟩)) (HO 0 (by decide))
   refine calm_val 35 _ rfl ?_ rfl rfl
   clear HB HO HA
   go_simp
   try rfl
  ·intro act u HB HO HA
   have e35 : _ = _ := gE (qA HA 35)
   refine calm_val 36 _ rfl ?_ rfl rfl
   clear HB HO HA
   go_simp
   try rfl
  ·intro act u HB HO HA
   have e36 : _ = _ := gE (qA HA 36)
   refine calm_val 37 _ rfl ?_ rfl rfl
   clear HB HO HA
   go_simp
   try rfl
  ·intro act u HB HO HA
   have e37 : _ = _ := gE (qA HA 37)
   have HS := HQ.out.drew.call HB
   have lT : u.cell? ⟨tb, 1, none⟩ = some (.string (snd)) := (HS.cells 0 rfl).cell _ _ (rfl)
   refine calm_val 38 _ rfl ?_ rfl rfl
   clear HB HO HA HS
   go_simp
  ·intro act u HB HO HA
   have e0 := gE (x := .pointer (some ⟨tb, 0, none⟩)) (HO 0 (by decide))
   refine calm_val 39 _ rfl ?_ rfl rfl
   clear HB HO HA
   go_simp
   try rfl
  ·intro act u HB HO HA
   have e39 : _ = _ := gE (qA HA 39)
   refine calm_val 40 _ rfl ?_ rfl rfl
   clear HB HO HA
   go_simp
   try rfl
  ·intro act u HB HO HA
   have e40 : _ = _ := gE (qA HA 40)
   refine calm_val 41 _ rfl ?_ rfl rfl
   clear HB HO HA
   go_simp
   try rfl
  ·intro act u HB HO HA
   have e41 : _ = _ := gE (qA HA 41)
   have HS := HQ.out.drew.call HB
   have lT : u.cell? ⟨tb, 11, none⟩ = some (.int .u64 (nxt : Int)) := (HS.cells 0 rfl).cell _ _ (rfl)
   refine calm_val 42 _ rfl ?_ rfl rfl
   clear HB HO HA HS
   go_simp
  ·intro act u HB HO HA
   have e42 : _ = _ := qA HA 42
   refine calm_call 43 #[.int .u64 (nxt : Int)] rfl rfl ?_ (by kernel_rfl) (nonce_any nxt u) ?_ rfl
   ·simp only [mTx, mCx, mNx, e42]
    try rfl
   rintro e u1 ⟨rfl, B1⟩
   exact ⟨_, rfl, rfl, B1⟩
  ·intro act u HB HO HA
   have e2 := gE (x := .string (s)) (HO 2 (by decide))
   refine calm_val 44 _ rfl ?_ rfl rfl
   clear HB HO HA
   go_simp
   try rfl
  ·intro act u HB HO HA
   have e38 : _ = _ := qA HA 38
   have e43 : _ = _ := qA HA 43
   have e44 : _ = _ := qA HA 44
   refine calm_call 45 #[.string (snd), .string (nonS nxt), .string (.empty), .string (s)] rfl rfl ?_ (by kernel_rfl) (seal_any snd (nonS nxt) .empty s u HA0.out.2.2.1 (nonS_size nxt) emp_sz HA0.out.2.2.2) ?_ rfl
   ·simp only [mTx, mCx, mNx, e38, e43, e44]
    try rfl
   rintro e u1 ⟨rfl, B1⟩
   exact ⟨_, rfl, by rw [HC.out]; rfl, B1⟩
  ·intro act u HB HO HA
   have e45 : _ = _ := gE (qA HA 45)
   refine calm_val 34 _ rfl ?_ rfl rfl
   clear HB HO HA
   go_simp
   try rfl
  ·intro act u HB HO HA
   have e34 : _ = _ := gE (qA HA 34)
   refine calm_val 46 _ rfl ?_ rfl rfl
   clear HB HO HA
   go_simp
   try rfl
  intro act u HB HO HA
  have e34 : _ = _ := qA HA 34
  exact calm_val 47 _ rfl (run_extr rfl e34 rfl) rfl rfl
 intro ww1 HB
 have HK1 := hDx (HQ.out.drew.call HB)
 simp only [fillL, Act.put, sAx, s0x, s1x, dSx, d0x]
 clear HB
 have d11 : ww1.cell? ⟨tb, 11, none⟩ = some (.int .u64 (nxt : Int)) := tcell (HK1.out.get 0 rfl) 11
 have f11 := tfz (HK1.out.get 0 rfl) 11
 go_wp2_with fail
 go_ret3
 exact ⟨rfl, HK1.out.set 0 rfl 11 (.int .u64 ((nxt + 1 : Nat) : Int))⟩
theorem tun_unsure (tb wb nb nxt : Nat) (snd rcv s : ByteArray) (fst : Bool) (w : World) (h : w.heap[tb]? = some (tunO wb nb snd rcv fst false nxt)) (hb : w.heap[nb]? = some nowO) (hs : snd.size = 32) (hn : nxt < 50) :
  Calls Tryz.prog 9 #[.pointer (some ⟨tb, 0, none⟩), .int .u64 0, .string s] w fun e w' => e = .returned (.tuple #[.int .u64 0, .string .empty, .int .i64 3]) ∧ Below w.heap.size w w' := by
 obtain ⟨n1, n2, n3, n4⟩ := nxt_i nxt hn
 have c11 : w.cell? ⟨tb, 11, none⟩ = some (.int .u64 (nxt : Int)) := tcell h 11
 have c7 : w.cell? ⟨tb, 7, none⟩ = some (.int .u64 50) := tcell h 7
 have c4 : w.cell? ⟨tb, 4, none⟩ = some (.bool false) := tcell h 4
 have HA0 := hDx (And.intro h (And.intro hb hs))
 clear h hb hs hn
 go_enter Tryz.func9, Tryz.ntmps9
 go_upto_region 3 with (go_at_call 21; refine (tun_none tb wb nb nxt snd rcv fst false _ HA0.out.1).mono ?_; rintro e w1 ⟨rfl, rfl⟩)
 go_quiet ((go_at_call 22; exact Calls.quiet_of (tun_over tb wb nb nxt snd rcv fst false _ (by exact HA0.out.1) (by exact HA0.out.2.1) HA0.out.2.2)))
 go_wp2_with fail
 go_ret3
 exact ⟨rfl, ((KS.start w1).drewN nq).below⟩
end
section
open Go.RowKit T
theorem tun_start {tb wb nb bb B H nxt : Nat} {any fst sur : Bool} {snd rcv : ByteArray} {w : World} (ht : w.heap[tb]? = some (tunO wb nb snd rcv fst sur nxt)) (h : w.heap[wb]? = some (winO bb H any)) (hb : w.heap[bb]? = some (bitO B)) :
  KS [(tb, tunO wb nb snd rcv fst sur nxt), (wb, winO bb H any), (bb, bitO B)] [tb, wb, bb] w w := by
 have n1 := win_ne h hb
 have n2 : tb ≠ wb := by rintro rfl; rw [ht] at h; simp [tunO, winO] at h
 have n3 : tb ≠ bb := by rintro rfl; rw [ht] at hb; simp [tunO, bitO] at hb
 refine KS.startL w (L := [(tb, tunO wb nb snd rcv fst sur nxt), (wb, winO bb H any), (bb, bitO B)]) ?_ ?_
 ·intro x hx
  simp at hx
  rcases hx with rfl | rfl | rfl
  ·exact ht
  ·exact h
  exact hb
 simp [n1.symm, n2, n3]
theorem tun_marked {tb wb nb bb B H B' H' nxt : Nat} {any any' fst sur : Bool} {snd rcv : ByteArray} {w u u' : World} {X : List Nat} (h : KS [(tb, tunO wb nb snd rcv fst sur nxt), (wb, winO bb H any), (bb, bitO B)] X w u)
  (k : KS [(bb, bitO B'), (wb, winO bb H' any')] [bb, wb] u u') : KS [(tb, tunO wb nb snd rcv fst sur nxt), (wb, winO bb H' any'), (bb, bitO B')] X w u' := by
 have hn := h.ne
 refine KS.over h k ?_ rfl ?_
 ·intro x hx
  simp at hx
  rcases hx with rfl | rfl | rfl
  ·right
   refine ⟨by simp, ?_⟩
   simp at hn
   simp
   exact ⟨hn.1.2, hn.1.1⟩
  ·left; simp
  left; simp
 intro g hg
 simp at hg
 rcases hg with rfl | rfl
 ·exact ⟨bitO B, List.mem_cons_of_mem _ (List.mem_cons_of_mem _ List.mem_cons_self)⟩
 exact ⟨winO bb H any, List.mem_cons_of_mem _ List.mem_cons_self⟩
theorem KS.same {L : List (Nat × Obj)} {X : List Nat} {w u : World} (h : KS L X w u) (h0 : KS L X w w) (hX : ∀ g ∈ X, ∃ o, (g, o) ∈ L) : Below w.heap.size w u := by
 refine ⟨h.os, h.tape, h.output, h.size, fun k hk => ?_⟩
 by_cases hm : k ∈ X
 ·obtain ⟨o, ho⟩ := hX k hm
  exact (h.all _ ho).trans (h0.all _ ho).symm
 exact h.old k hk hm
theorem three_X {a b c : Nat} {x y z : Obj} : ∀ g ∈ [a, b, c], ∃ o, (g, o) ∈ [(a, x), (b, y), (c, z)] := by
 intro g hg
 simp at hg
 rcases hg with rfl | rfl | rfl
 ·exact ⟨x, List.mem_cons_self⟩
 ·exact ⟨y, List.mem_cons_of_mem _ List.mem_cons_self⟩
 exact ⟨z, List.mem_cons_of_mem _ (List.mem_cons_of_mem _ List.mem_cons_self)⟩
theorem tun_there (tb wb nb bb B H nxt n : Nat) (snd rcv x : ByteArray) (any fst sur : Bool) (w : World) (h : w.heap[tb]? = some (tunO wb nb snd rcv fst sur nxt)) (hb : w.heap[nb]? = some nowO) (hw : w.heap[wb]? = some (winO bb H any)) (hbb : w.heap[bb]? = some (bitO B)) (ok : WinOk B H any) (hs : snd.size = 32) (hn : n < 50) (ht : B.testBit n = true) :
  Calls Tryz.prog 12 #[.pointer (some ⟨tb, 0, none⟩), .int .u64 0, .int .u64 (n : Int), .string x] w fun e w' => e = .returned (.tuple #[.string .empty, .int .i64 9]) ∧ Below w.heap.size w w' := by
 obtain ⟨n1, n2, n3, n4⟩ := nxt_i n hn
 have HA0 := hDx (And.intro h (And.intro hb (And.intro hw (And.intro hbb (And.intro ok (And.intro hs ht))))))
 have h64 : n < 64 := by omega
 have H64 := hDx h64
 clear h hb hw hbb ok hs hn ht h64
 have c0 : w.cell? ⟨tb, 0, none⟩ = some (.pointer (some ⟨wb, 0, none⟩)) := tcell HA0.out.1 0
 have c7 : w.cell? ⟨tb, 7, none⟩ = some (.int .u64 50) := tcell HA0.out.1 7
 go_enter Tryz.func12, Tryz.ntmps12
 go_upto_region 3 with (go_at_call 21; refine (tun_none tb wb nb nxt snd rcv fst sur _ HA0.out.1).mono ?_; rintro e w1 ⟨rfl, rfl⟩)
 go_upto_region 5 with (go_at_call 22; refine (tun_over tb wb nb nxt snd rcv fst sur _ HA0.out.1 HA0.out.2.1 HA0.out.2.2.2.2.2.1).mono ?_; rintro e w2 ⟨rfl, m, rfl⟩)
 go_wp2_with (go_at_call 29; refine (win_may wb bb B H n any _ (by exact HA0.out.2.2.1) (by exact HA0.out.2.2.2.1) HA0.out.2.2.2.2.1 H64.out).mono ?_; rw [HA0.out.2.2.2.2.2.2]; rintro e w3 ⟨rfl, B1⟩; have HB := hDx B1; clear B1)
 go_ret2
 exact ⟨rfl, ((KS.start _).drewN m).below.trans HB.out⟩
theorem tun_shut (tb wb nb bb B H nxt n : Nat) (snd rcv x : ByteArray) (any fst sur : Bool) (w : World) (h : w.heap[tb]? = some (tunO wb nb snd rcv fst sur nxt)) (hb : w.heap[nb]? = some nowO) (hw : w.heap[wb]? = some (winO bb H any)) (hbb : w.heap[bb]? = some (bitO B)) (ok : WinOk B H any) (hs : snd.size = 32) (hr : rcv.size = 32) (hn : n < 50) (h16 : 16 ≤ x.size) (hx : x.size ≤ 65552) (ht : B.testBit n = false) (ho : ¬ opensS rcv (nonS n) .empty x) :
  Calls Tryz.prog 12 #[.pointer (some ⟨tb, 0, none⟩), .int .u64 0, .int .u64 (n : Int), .string x] w fun e w' => e = .returned (.tuple #[.string .empty, .int .i64 100]) ∧ Below w.heap.size w w' := by
 obtain ⟨n1, n2, n3, n4⟩ := nxt_i n hn
 have h64 : n < 64 := by omega
 have HA0 := hDx (And.intro h (And.intro hb (And.intro hw (And.intro hbb (And.intro ok (And.intro hs (And.intro ht (And.intro hr (And.intro h16 (And.intro hx ho))))))))))
 have H64 := hDx h64
 have H0 := hDx (tun_start h hw hbb)
 clear h hb hw hbb ok hs hr h16 hx hn ht h64 ho
 have c0 : w.cell? ⟨tb, 0, none⟩ = some (.pointer (some ⟨wb, 0, none⟩)) := tcell HA0.out.1 0
 have c7 : w.cell? ⟨tb, 7, none⟩ = some (.int .u64 50) := tcell HA0.out.1 7
 obtain ⟨R, hR⟩ := nm (trnS rcv (nonS n) 1 (cutS x))
 have HR := hDx hR
 clear hR
 go_enter Tryz.func12, Tryz.ntmps12
 go_upto_region 3 with (go_at_call 21; refine (tun_none tb wb nb nxt snd rcv fst sur _ HA0.out.1).mono ?_; rintro e w1 ⟨rfl, rfl⟩)
 go_upto_region 5 with (go_at_call 22; refine (tun_over tb wb nb nxt snd rcv fst sur _ HA0.out.1 HA0.out.2.1 HA0.out.2.2.2.2.2.1).mono ?_; rintro e w2 ⟨rfl, m, rfl⟩)
 go_upto_region 8 with (go_at_call 29; refine (win_may wb bb B H n any _ (by exact HA0.out.2.2.1) (by exact HA0.out.2.2.2.1) HA0.out.2.2.2.2.1 H64.out).mono ?_; rw [HA0.out.2.2.2.2.2.2.1]; rintro e w3 ⟨rfl, B1⟩; have HK := hDx ((H0.out.drewN m).call B1); clear B1 c0 c7)
 try simp only [Act.put, sAx, s0x, s1x]
 refine wp_region_cvl 11 10 [39, 40, 41, 42, 43, 44, 45, 46, 38, 47, 48] [[], [39], [40], [41], [], [43], [], [42, 44, 45], [46], [38], [38]] [(39, .pointer (some ⟨tb, 0, none⟩)), (40, .pointer (some ⟨tb, 0, none⟩)), (41, .pointer (some ⟨tb, 2, none⟩)), (42, .string (rcv)), (43, .int .u64 (n : Int)), (44, .string (nonS n)), (45, .string (x)), (46, .tuple #[.string (.empty), .int .i64 100]), (38, .tuple #[.string (.empty), .int .i64 100]), (47, .string (.empty)), (48, .int .i64 100)] rfl (by kernel_rfl) (by kernel_rfl) (by rfl) (by kernel_rfl) 48 rfl rfl (by kernel_rfl) (fun _ _ _ _ h => h) ?hY ?hO ?hE
 case hY =>
  intro act u HB HO HA
  have e38 : _ = _ := qA HA 38
  exact ⟨.int .i64 100, fun w => run_extr rfl e38 rfl, rfl⟩
 case hO =>
  refine ⟨?_, ?_, ?_, ?_, ?_, ?_, ?_, ?_, ?_, ?_, ?_, trivial⟩
  ·intro act u HB HO HA
   have e0 := gE (x := .pointer (some ⟨tb, 0, none⟩)) (HO 0 (by decide))
   refine calm_val 39 _ rfl ?_ rfl rfl
   clear HB HO HA
   go_simp
   try rfl
  ·intro act u HB HO HA
   have e39 : _ = _ := gE (qA HA 39)
   refine calm_val 40 _ rfl ?_ rfl rfl
   clear HB HO HA
   go_simp
   try rfl
  ·intro act u HB HO HA
   have e40 : _ = _ := gE (qA HA 40)
   refine calm_val 41 _ rfl ?_ rfl rfl
   clear HB HO HA
   go_simp
   try rfl
  ·intro act u HB HO HA
   have e41 : _ = _ := gE (qA HA 41)
   have HS := HK.out.drew.call HB
   have lT : u.cell? ⟨tb, 2, none⟩ = some (.string (rcv)) := (HS.cells 0 rfl).cell _ _ (rfl)
   refine calm_val 42 _ rfl ?_ rfl rfl
   clear HB HO HA HS
   go_simp
  ·intro act u HB HO HA
   have e2 := gE (x := .int .u64 (n : Int)) (HO 2 (by decide))
   refine calm_val 43 _ rfl ?_ rfl rfl
   clear HB HO HA
   go_simp
   try rfl
  ·intro act u HB HO HA
   have e43 : _ = _ := qA HA 43
   refine calm_call 44 #[.int .u64 (n : Int)] rfl rfl ?_ (by kernel_rfl) (nonce_any n u) ?_ rfl
   ·simp only [mTx, mCx, mNx, e43]
    try rfl
   rintro e u1 ⟨rfl, B1⟩
   exact ⟨_, rfl, rfl, B1⟩
  ·intro act u HB HO HA
   have e3 := gE (x := .string (x)) (HO 3 (by decide))
   refine calm_val 45 _ rfl ?_ rfl rfl
   clear HB HO HA
   go_simp
   try rfl
  ·intro act u HB HO HA
   have e42 : _ = _ := qA HA 42
   have e44 : _ = _ := qA HA 44
   have e45 : _ = _ := qA HA 45
   refine calm_call 46 #[.string (rcv), .string (nonS n), .string (.empty), .string (x)] rfl rfl ?_ (by kernel_rfl) (open_any rcv (nonS n) .empty x u HA0.out.2.2.2.2.2.2.2.1 (nonS_size n) emp_sz HA0.out.2.2.2.2.2.2.2.2.1 HA0.out.2.2.2.2.2.2.2.2.2.1) ?_ rfl
   ·simp only [mTx, mCx, mNx, e42, e44, e45]
    try rfl
   rintro e u1 ⟨hq, B1⟩
   rcases hq with ⟨hq, rfl⟩ | ⟨hq, rfl⟩
   ·exact absurd hq HA0.out.2.2.2.2.2.2.2.2.2.2
   exact ⟨_, rfl, rfl, B1⟩
  ·intro act u HB HO HA
   have e46 : _ = _ := gE (qA HA 46)
   refine calm_val 38 _ rfl ?_ rfl rfl
   clear HB HO HA
   go_simp
   try rfl
  ·intro act u HB HO HA
   have e38 : _ = _ := gE (qA HA 38)
   refine calm_val 47 _ rfl ?_ rfl rfl
   clear HB HO HA
   go_simp
   try rfl
  intro act u HB HO HA
  have e38 : _ = _ := qA HA 38
  exact calm_val 48 _ rfl (run_extr rfl e38 rfl) rfl rfl
 intro ww1 HB
 have HK1 := hDx (HK.out.drew.call HB)
 simp only [fillL, Act.put, sAx, s0x, s1x, dSx, d0x]
 clear HB
 go_wp2_with fail
 go_ret2
 exact ⟨rfl, HK1.out.same H0.out three_X⟩
theorem tun_open (tb wb nb bb B H nxt n : Nat) (snd rcv x : ByteArray) (any fst sur : Bool) (w : World) (h : w.heap[tb]? = some (tunO wb nb snd rcv fst sur nxt)) (hb : w.heap[nb]? = some nowO) (hw : w.heap[wb]? = some (winO bb H any)) (hbb : w.heap[bb]? = some (bitO B)) (ok : WinOk B H any) (hs : snd.size = 32) (hr : rcv.size = 32) (hn : n < 50) (h16 : 16 ≤ x.size) (hx : x.size ≤ 65552) (ht : B.testBit n = false) (ho : opensS rcv (nonS n) .empty x) :
  Calls Tryz.prog 12 #[.pointer (some ⟨tb, 0, none⟩), .int .u64 0, .int .u64 (n : Int), .string x] w fun e w' => e = .returned (.tuple #[.string (trnS rcv (nonS n) 1 (cutS x)), .int .i64 0]) ∧
   KS [(tb, tunO wb nb snd rcv fst true nxt), (wb, winO bb (mkH any H n) true), (bb, bitO (B ||| 2 ^ n))] [tb, wb, bb] w w' := by
 obtain ⟨n1, n2, n3, n4⟩ := nxt_i n hn
 have h64 : n < 64 := by omega
 have HA0 := hDx (And.intro h (And.intro hb (And.intro hw (And.intro hbb (And.intro ok (And.intro hs (And.intro ht (And.intro hr (And.intro h16 (And.intro hx ho))))))))))
 have H64 := hDx h64
 have H0 := hDx (tun_start h hw hbb)
 clear h hb hw hbb ok hs hr h16 hx hn ht h64 ho
 have c0 : w.cell? ⟨tb, 0, none⟩ = some (.pointer (some ⟨wb, 0, none⟩)) := tcell HA0.out.1 0
 have c7 : w.cell? ⟨tb, 7, none⟩ = some (.int .u64 50) := tcell HA0.out.1 7
 obtain ⟨R, hR⟩ := nm (trnS rcv (nonS n) 1 (cutS x))
 rw [← hR]
 have HR := hDx hR
 clear hR
 go_enter Tryz.func12, Tryz.ntmps12
 go_upto_region 3 with (go_at_call 21; refine (tun_none tb wb nb nxt snd rcv fst sur _ HA0.out.1).mono ?_; rintro e w1 ⟨rfl, rfl⟩)
 go_upto_region 5 with (go_at_call 22; refine (tun_over tb wb nb nxt snd rcv fst sur _ HA0.out.1 HA0.out.2.1 HA0.out.2.2.2.2.2.1).mono ?_; rintro e w2 ⟨rfl, m, rfl⟩)
 go_upto_region 8 with (go_at_call 29; refine (win_may wb bb B H n any _ (by exact HA0.out.2.2.1) (by exact HA0.out.2.2.2.1) HA0.out.2.2.2.2.1 H64.out).mono ?_; rw [HA0.out.2.2.2.2.2.2.1]; rintro e w3 ⟨rfl, B1⟩; have HK := hDx ((H0.out.drewN m).call B1); clear B1 c0 c7)
 try simp only [Act.put, sAx, s0x, s1x]
 refine wp_region_cvl 11 10 [39, 40, 41, 42, 43, 44, 45, 46, 38, 47, 48] [[], [39], [40], [41], [], [43], [], [42, 44, 45], [46], [38], [38]] [(39, .pointer (some ⟨tb, 0, none⟩)), (40, .pointer (some ⟨tb, 0, none⟩)), (41, .pointer (some ⟨tb, 2, none⟩)), (42, .string (rcv)), (43, .int .u64 (n : Int)), (44, .string (nonS n)), (45, .string (x)), (46, .tuple #[.string (R), .int .i64 0]), (38, .tuple #[.string (R), .int .i64 0]), (47, .string (R)), (48, .int .i64 0)] rfl (by kernel_rfl) (by kernel_rfl) (by rfl) (by kernel_rfl) 48 rfl rfl (by kernel_rfl) (fun _ _ _ _ h => h) ?hY ?hO ?hE
 case hY =>
  intro act u HB HO HA
  have e38 : _ = _ := qA HA 38
  exact ⟨.int .i64 0, fun w => run_extr rfl e38 rfl, rfl⟩
 case hO =>
  refine ⟨?_, ?_, ?_, ?_, ?_, ?_, ?_, ?_, ?_, ?_, ?_, trivial⟩
  ·intro act u HB HO HA
   have e0 := gE (x := .pointer (some ⟨tb, 0, none⟩)) (HO 0 (by decide))
   refine calm_val 39 _ rfl ?_ rfl rfl
   clear HB HO HA
   go_simp
   try rfl
  ·intro act u HB HO HA
   have e39 : _ = _ := gE (qA HA 39)
   refine calm_val 40 _ rfl ?_ rfl rfl
   clear HB HO HA
   go_simp
   try rfl
  ·intro act u HB HO HA
   have e40 : _ = _ := gE (qA HA 40)
   refine calm_val 41 _ rfl ?_ rfl rfl
   clear HB HO HA
   go_simp
   try rfl
  ·intro act u HB HO HA
   have e41 : _ = _ := gE (qA HA 41)
   have HS := HK.out.drew.call HB
   have lT : u.cell? ⟨tb, 2, none⟩ = some (.string (rcv)) := (HS.cells 0 rfl).cell _ _ (rfl)
   refine calm_val 42 _ rfl ?_ rfl rfl
   clear HB HO HA HS
   go_simp
  ·intro act u HB HO HA
   have e2 := gE (x := .int .u64 (n : Int)) (HO 2 (by decide))
   refine calm_val 43 _ rfl ?_ rfl rfl
   clear HB HO HA
   go_simp
   try rfl
  ·intro act u HB HO HA
   have e43 : _ = _ := qA HA 43
   refine calm_call 44 #[.int .u64 (n : Int)] rfl rfl ?_ (by kernel_rfl) (nonce_any n u) ?_ rfl
   ·simp only [mTx, mCx, mNx, e43]
    try rfl
   rintro e u1 ⟨rfl, B1⟩
   exact ⟨_, rfl, rfl, B1⟩
  ·intro act u HB HO HA
   have e3 := gE (x := .string (x)) (HO 3 (by decide))
   refine calm_val 45 _ rfl ?_ rfl rfl
   clear HB HO HA
   go_simp
   try rfl
  ·intro act u HB HO HA
   have e42 : _ = _ := qA HA 42
   have e44 : _ = _ := qA HA 44
   have e45 : _ = _ := qA HA 45
   refine calm_call 46 #[.string (rcv), .string (nonS n), .string (.empty), .string (x)] rfl rfl ?_ (by kernel_rfl) (open_any rcv (nonS n) .empty x u HA0.out.2.2.2.2.2.2.2.1 (nonS_size n) emp_sz HA0.out.2.2.2.2.2.2.2.2.1 HA0.out.2.2.2.2.2.2.2.2.2.1) ?_ rfl
   ·simp only [mTx, mCx, mNx, e42, e44, e45]
    try rfl
   rintro e u1 ⟨hq, B1⟩
   rcases hq with ⟨hq, rfl⟩ | ⟨hq, rfl⟩
   ·exact ⟨_, rfl, by rw [HR.out]; rfl, B1⟩
   exact absurd HA0.out.2.2.2.2.2.2.2.2.2.2 hq
  ·intro act u HB HO HA
   have e46 : _ = _ := gE (qA HA 46)
   refine calm_val 38 _ rfl ?_ rfl rfl
   clear HB HO HA
   go_simp
   try rfl
  ·intro act u HB HO HA
   have e38 : _ = _ := gE (qA HA 38)
   refine calm_val 47 _ rfl ?_ rfl rfl
   clear HB HO HA
   go_simp
   try rfl
  intro act u HB HO HA
  have e38 : _ = _ := qA HA 38
  exact calm_val 48 _ rfl (run_extr rfl e38 rfl) rfl rfl
 intro ww1 HB
 have HK1 := hDx (HK.out.drew.call HB)
 simp only [fillL, Act.put, sAx, s0x, s1x, dSx, d0x]
 clear HB
 have d0 : ww1.cell? ⟨tb, 0, none⟩ = some (.pointer (some ⟨wb, 0, none⟩)) := tcell (HK1.out.get 0 rfl) 0
 go_upto_region 12 with (go_at_call 31; refine (win_mark wb bb B H n any _ (HK1.out.get 1 rfl) (HK1.out.get 2 rfl) HA0.out.2.2.2.2.1 H64.out HA0.out.2.2.2.2.2.2.1).mono ?_; rintro e w5 ⟨rfl, k5⟩; have HM := hDx (tun_marked HK1.out k5); clear k5)
 clear d0
 have e4 : w5.cell? ⟨tb, 4, none⟩ = some (.bool sur) := tcell (HM.out.get 0 rfl) 4
 have f4 := tfz (HM.out.get 0 rfl) 4
 go_wp2_with fail
 go_ret2
 exact ⟨rfl, HM.out.set 0 rfl 4 (.bool true)⟩
end
section
open Go.RowKit T
def limA : Array Value := #[.int .u64 40, .int .u64 50, .int .u64 10, .int .u64 20, .int .i64 64]
theorem may_lim (w : World) : Calls Tryz.prog 41 #[.agg limA] w fun e w' => e = .returned (.bool true) ∧ Below w.heap.size w w' := by
 unfold limA
 go_enter Tryz.func41, Tryz.ntmps41
 go_wp2_with fail
 go_ret
 exact ⟨rfl, (Below.refl _ _).alloc (Nat.le_refl _) _⟩
def gotA (st pl sd rc hs : ByteArray) : Array Value := #[.string st, .string pl, .string sd, .string rc, .string hs]
theorem tun_new (st pl sd rc hs : ByteArray) (f : Bool) (w : World) (h1 : sd.size = 32) (h2 : rc.size = 32) : Calls Tryz.prog 20 #[.agg (gotA st pl sd rc hs), .bool f, .int .u64 0, .agg limA] w fun e w' =>
  ∃ tb wb bb nb, e = .returned (.tuple #[.pointer (some ⟨tb, 0, none⟩), .int .i64 0]) ∧ KS [(tb, tunO wb nb sd rc f f 0), (wb, winO bb 0 false), (bb, bitO 0), (nb, nowO)] [] w w' := by
 have hmf : ∀ (fn : Fn) (first cap : Array Value) (w : World), (Instr.makeFunc fn first cap).run Tryz.prog w = .ok (.func fn first cap) w := fun _ _ _ _ => rfl
 have g1 : (sd.size : Int) = 32 := by rw [h1]; rfl
 have g2 : (rc.size : Int) = 32 := by rw [h2]; rfl
 clear h1 h2
 unfold gotA limA
 go_enter Tryz.func20, Tryz.ntmps20
 go_upto_region 1 with (fail)
 have HK0 := hDx (KS.start w)
 have hm1 := (((HK0.out.made (.cells #[.string st, .string pl, .string sd, .string rc, .string hs] 61)).made (.cells #[.int .u64 0] 29)).made (.cells #[.int .u64 40, .int .u64 50, .int .u64 10, .int .u64 20, .int .i64 64] 31))
 try rw [show ((World.alloc (World.alloc w (.cells #[.string st, .string pl, .string sd, .string rc, .string hs] 61)) (.cells #[.int .u64 0] 29))).heap.size = w.heap.size + 2 by simp] at hm1
 try rw [show ((World.alloc w (.cells #[.string st, .string pl, .string sd, .string rc, .string hs] 61))).heap.size = w.heap.size + 1 by simp] at hm1
 obtain ⟨lb, hglb⟩ := nm (w.heap.size + 2)
 obtain ⟨nb, hgnb⟩ := nm (w.heap.size + 1)
 obtain ⟨gb, hggb⟩ := nm w.heap.size
 obtain ⟨ww1, hv1⟩ := nm (World.alloc (World.alloc (World.alloc w (.cells #[.string st, .string pl, .string sd, .string rc, .string hs] 61)) (.cells #[.int .u64 0] 29)) (.cells #[.int .u64 40, .int .u64 50, .int .u64 10, .int .u64 20, .int .i64 64] 31))
 rw [← hv1, ← hglb, ← hgnb, ← hggb] at hm1
 rw [← hv1]
 try rw [← hglb]
 try rw [← hgnb]
 try rw [← hggb]
 have HK1 : Hid (KS [(lb, .cells limA 31), (nb, nowO), (gb, .cells #[.string st, .string pl, .string sd, .string rc, .string hs] 61)] [] w ww1) := hDx hm1
 clear hm1 hv1 hggb hgnb hglb
 have l4 : ww1.cell? ⟨lb, 4, none⟩ = some (.int .i64 64) := (HK1.out.cells 0 rfl).cell 4 _ rfl
 go_upto_region 2 with (go_at_call 40; refine (win_new _).mono ?_; rintro e w2 ⟨wb, bb, rfl, k2⟩; have HJ := hDx (HK1.out.join k2); clear k2)
 clear l4
 have s2 : w2.cell? ⟨gb, 2, none⟩ = some (.string sd) := (HJ.out.cells 4 rfl).cell 2 _ rfl
 have s3 : w2.cell? ⟨gb, 3, none⟩ = some (.string rc) := (HJ.out.cells 4 rfl).cell 3 _ rfl
 have hag : AgTy 31 5 := agTy (by kernel_rfl)
 go_upto_region 4 with (first | (go_at_call 41; refine (may_lim _).mono ?_; rintro e w3 ⟨rfl, B1⟩; have HL := hDx (HJ.out.call B1); clear B1) | (with_reducible show Oper.wp _ _ _ _ _ _; refine wp_loadM _ rfl rfl (HJ.out.get 2 rfl) hag rfl rfl ?_))
 have r2 : w3.cell? ⟨gb, 2, none⟩ = some (.string sd) := (HL.out.cells 4 rfl).cell 2 _ rfl
 have r3 : w3.cell? ⟨gb, 3, none⟩ = some (.string rc) := (HL.out.cells 4 rfl).cell 3 _ rfl
 go_wp2_with (refine wpList_loadM (t := 31) (n := 5) (b := lb) (o := 0) (C := limA) rfl _ rfl rfl (HL.out.get 2 rfl) hag rfl rfl ?_)
 go_ret2
 refine ⟨w3.heap.size, wb, bb, nb, rfl, ?_⟩
 exact (HL.out.made (tunO wb nb sd rc f f 0)).sub (.cons_cons _ (.cons_cons _ (.cons_cons _ (.cons _ (.cons_cons _ (.cons _ .slnil))))))
end
end Go.Proofs.YtoplbfijodebmaaGreatDoor
