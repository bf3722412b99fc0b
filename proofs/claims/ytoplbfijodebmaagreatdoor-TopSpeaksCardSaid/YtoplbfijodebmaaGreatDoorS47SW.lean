/-
  The walk.
-/
import Derived.Test.YtoplbfijodebmaaGreatDoorS46SP
import Derived.Deep.CutRange
set_option linter.unusedVariables false
set_option linter.unusedSimpArgs false
set_option maxRecDepth 100000
set_option maxHeartbeats 40000000
namespace Go.Proofs.YtoplbfijodebmaaGreatDoor
open Go.RowKit T
theorem q_i {q n a i l : Nat} (hq : q = a % n) (h0 : ¬ n = 0) (h1 : n ≤ i) (h2 : i < l) (h3 : l ≤ 40) (ha : a < 256) : q < n ∧ ¬ (n : Int) = 0 ∧ (q : Int) < n ∧ (0 : Int) ≤ q ∧ binOp .rem 3 (.int .i64 (a : Int)) (.int .i64 (n : Int)) = pure (.int .i64 (q : Int)) ∧ IntKind.i64.wrap (a : Int) = a ∧ wrap64 (a : Int) = a := by
 have hl : q < n := by rw [hq]; exact Nat.mod_lt _ (by omega)
 refine ⟨hl, by omega, by omega, by omega, rem_j 3 a n q (by omega) hq.symm (by omega), IntWalk.i64_in _ (by omega), ?_⟩
 unfold wrap64
 omega
theorem p_i {p a : Nat} {c x : ByteArray} (hp : p = a % c.size) (hc : c.size = x.size + 16) (hx : x.size ≤ 4096) (ha : a < 65536) : p < c.size ∧ (p : Int) < c.size ∧ (0 : Int) ≤ p ∧ binOp .rem 3 (.int .i64 (a : Int)) (.int .i64 (c.size : Int)) = pure (.int .i64 (p : Int)) ∧ IntKind.i64.wrap (a : Int) = a ∧ wrap64 (a : Int) = a := by
 have hl : p < c.size := by rw [hp]; exact Nat.mod_lt _ (by omega)
 refine ⟨hl, by omega, by omega, rem_j 3 a c.size p (by omega) hp.symm (by omega), IntWalk.i64_in _ (by omega), ?_⟩
 unfold wrap64
 omega
theorem q50 {q n i l : Nat} (h0 : q < n) (h1 : n ≤ i) (h2 : i < l) (h3 : l ≤ 40) : q < 50 := by omega
theorem q64 {q n i l : Nat} (h0 : q < n) (h1 : n ≤ i) (h2 : i < l) (h3 : l ≤ 40) : q < 64 := by omega
theorem SdOk.other {s o o' : Sd} {K : ByteArray} {i : Nat} (h : SdOk s o K i) (hB : o'.B = o.B) : SdOk s o' K i := by
 refine ⟨h.win, ?_, h.txt, h.len, fun j hj => ?_, h.sure⟩
 ·rw [hB]; exact h.row
 rw [hB]; exact h.new j hj
theorem n50 {a i n : Nat} (h : a ≤ i) (h2 : i < n) (h3 : n ≤ 40) : a < 50 := by omega
theorem gt40_i {n : Nat} (h : ¬ n ≤ 40) : (40 : Int) < n := by omega
theorem le40_i {n : Nat} (h : n ≤ 40) : ¬ (40 : Int) < n := by omega
theorem speaks_walk (A B E F : ByteArray) (l : List Sy) (ao : Option Addr) (cap : Nat) (w : World) (hT : Tab w) (hS : SaidAt w ao l) (hlm : l.length ≤ reachN) (hsz : ∀ k (h : k < l.length), l[k].text.size ≤ reachN) :
  Calls Tryz.prog 4 #[.agg (shC A B E F), .slice ao l.length cap] w fun e w' => e = .returned (.bool true) ∧ Below w.heap.size w w' := by
 have HP := hDx (And.intro hT (And.intro hS (And.intro hlm hsz)))
 clear hT hS hlm hsz
 unfold shC
 go_enter Tryz.func4, Tryz.ntmps4
 go_upto_region 1 with (fail)
 have HK0 := hDx (KS.start w)
 have hm1 := (HK0.out.made (.cells #[.string A, .string B, .string E, .string F] 23))
 obtain ⟨xb, hgxb⟩ := nm w.heap.size
 obtain ⟨ww1, hv1⟩ := nm (World.alloc w (.cells #[.string A, .string B, .string E, .string F] 23))
 rw [← hv1, ← hgxb] at hm1
 rw [← hv1]
 try rw [← hgxb]
 have HK1 : Hid (KS [(xb, .cells (shC A B E F) 23)] [] w ww1) := hDx hm1
 clear hm1 hv1 hgxb
 go_wp2_with fail
 go_loopw [5, 6] (fun vN vI wr => ∃ i N : Nat, i ≤ l.length ∧ (∀ j (h : j < l.length), j < i → l[j].text.size ≤ N) ∧ vN = .int .i64 (N : Int) ∧ vI = .int .i64 (i : Int) ∧ KS [(xb, .cells (shC A B E F) 23)] [] w wr) (fun _ vI _ => l.length - (intOf vI).toNat)
 case atStart => exact ⟨0, 0, Nat.zero_le _, fun j _ h => absurd h (Nat.not_lt_zero j), rfl, rfl, HK1.out⟩
 case round =>
  obtain ⟨i, N, hi, hall, rfl, rfl, K⟩ := hrel
  have JR := hDx K
  have HA := hDx hall
  clear K hall
  by_cases hlt : i < l.length
  ·by_cases hN : N ≤ 4096
   ·obtain ⟨bb, off, hal, hbw, r1, r2, q0, r3⟩ := HP.out.2.1 i hlt
    clear r1 r2 r3
    subst hal
    have q1 := (JR.out.below.cell (p := ⟨bb, _, none⟩) hbw).trans q0
    have hs1 := HP.out.2.2.2 i hlt
    obtain ⟨s, hs⟩ := nm l[i].text
    rw [← hs] at q0 q1 hs1
    obtain ⟨R, M, hM, n1, n2, n3, n4, n5⟩ := ap_i hN hs1
    obtain ⟨m1, m2⟩ := sucR hlt HP.out.2.2.1
    have i1 := lt_i hlt
    have hs' : ∀ h : i < l.length, (l[i]'h).text = s := fun h => hs.symm
    have HK := hDx (And.intro hs' (And.intro hM hlt))
    clear hs hs' hlt hN hbw q0 hM hs1 hi
    go_wp2_with fail
    go_roundw
    case rel => exact ⟨i + 1, M, HK.out.2.2, (fun j h hj => by
     rcases Nat.lt_or_ge j i with h1 | h1
     ·exact Nat.le_trans (HA.out j h h1) (by rw [HK.out.2.1]; omega)
     ·have h2 : j = i := by omega
      subst h2
      rw [HK.out.1 h, HK.out.2.1]; omega), rfl, by first | rfl | go_num, JR.out⟩
    exact measI2 _ _ HK.out.2.2
   obtain ⟨n1, n2⟩ := big_i hN
   have i1 := lt_i hlt
   clear hlt hN hi
   go_wp2_with (go_at_call 5; refine (speaks_any _ (HP.out.1.more JR.out.below)).mono ?_; rintro e w90 ⟨rfl, B1⟩; have Z90 := hDx (JR.out.call B1); clear B1)
   go_ret
   exact ⟨rfl, Z90.out.below⟩
  by_cases hN : N ≤ 4096
  ·obtain ⟨n1, n2⟩ := small_i hN
   have i1 := nlt_i hlt
   have hall : ∀ j (h : j < l.length), l[j].text.size ≤ 4096 := fun j h => Nat.le_trans (HA.out j h (by omega)) hN
   have HL := hDx hall
   clear hall hlt hN hi HA
   have c0 : wr.cell? ⟨xb, 0, none⟩ = some (.string A) := (JR.out.cells 0 rfl).cell 0 _ rfl
   have c1 : wr.cell? ⟨xb, 1, none⟩ = some (.string B) := (JR.out.cells 0 rfl).cell 1 _ rfl
   have c2 : wr.cell? ⟨xb, 2, none⟩ = some (.string E) := (JR.out.cells 0 rfl).cell 2 _ rfl
   have c3 : wr.cell? ⟨xb, 3, none⟩ = some (.string F) := (JR.out.cells 0 rfl).cell 3 _ rfl
   by_cases h40 : l.length ≤ 40
   ·have g40 := le40_i h40
    have H40 := hDx h40
    clear h40
    by_cases h0 : A.size = 32
    ·have g0 := i32 h0
     by_cases h1 : B.size = 32
     ·have g1 := i32 h1
      by_cases h2 : E.size = 32
      ·have g2 := i32 h2
       by_cases h3 : F.size = 32
       ·have g3 := i32 h3
        have HZ := hDx (And.intro h0 (And.intro h1 (And.intro h2 h3)))
        clear h0 h1 h2 h3
        obtain ⟨K1, hK1⟩ := nm (key1 A B E F)
        obtain ⟨K2, hK2⟩ := nm (key2 A B E F)
        have HN := hDx (And.intro hK1 hK2)
        have HY := hDx (And.intro (show K1.size = 32 by rw [hK1]; exact key1_size _ _ _ _) (show K2.size = 32 by rw [hK2]; exact key2_size _ _ _ _))
        clear hK1 hK2
        go_upto_region 8 with (fail)
        clear c0 c1 c2 c3 g40 g0 g1 g2 g3 n1 n2 i1
        go_upto_region 9 with (fail)
        have hm1 := (JR.out.made (.cells #[.pointer none, .pointer none] 47))
        obtain ⟨t2, hgt2⟩ := nm wr.heap.size
        obtain ⟨ww1, hv1⟩ := nm (World.alloc wr (.cells #[.pointer none, .pointer none] 47))
        rw [← hv1, ← hgt2] at hm1
        rw [← hv1]
        try rw [← hgt2]
        have HK1 : Hid (KS [(t2, .cells #[.pointer none, .pointer none] 47), (xb, .cells (shC A B E F) 23)] [] w ww1) := hDx hm1
        clear hm1 hv1 hgt2
        try simp only [Act.put, sAx, s0x, s1x]
        refine wp_region_mid 2 [74, 75] [] [[], []] (Ftab [(74, .val (.agg (shC A B E F))), (75, .val (.agg limA))]) 76 73 [77, 78] (by kernel_rfl) (by kernel_rfl) (by rfl) (by rfl) (by kernel_rfl) rfl rfl rfl rfl (by kernel_rfl) (fun _ _ _ _ _ h => h) ?hO1 ?hE1
        case hO1 =>
         refine ⟨?_, ?_, trivial⟩
         ·intro act u HB HO HA
          have e2 : act.eval (.tmp 2) = .pointer (some ⟨xb, 0, none⟩) := HO 2 (by decide)
          have HS := HK1.out.drew.call HB
          exact calm_lM 74 2 e2 (HS.get 1 rfl) ag23 rfl rfl rfl rfl rfl rfl
         intro act u HB HO HA
         refine calm_call 75 #[] rfl rfl ?_ (by kernel_rfl) (limits_any u) ?_ rfl
         ·simp only [mTx, mCx, mNx]
          try rfl
         rintro e u1 ⟨rfl, B1⟩
         exact ⟨_, rfl, rfl, B1⟩
        intro vT ww2 HB HF HN
        have f74 : _ = _ := qA HF 74
        have f75 : _ = _ := qA HF 75
        have HK2 := hDx (HK1.out.drew.call HB)
        simp only [fill, Act.put, sAx, s0x, s1x, dSx, d0x, f74, f75]
        clear HB HF HN f74 f75
        refine ⟨#[.agg (shC A B E F), .agg limA], _, ?_, shaken_any A B E F ww2 (HP.out.1.more HK2.out.below) HZ.out.1 HZ.out.2.1 HZ.out.2.2.1 HZ.out.2.2.2, ?_⟩
        ·simp only [mTx, mCx, mNx]
         try rfl
        rintro e u1 ⟨ta, wa, ba, na, tb, wb, bb, nb, rfl, K⟩
        refine ⟨_, rfl, rfl, ?_⟩
        simp only [exts, Act.put, sAx, s0x, s1x, dSx, d0x, gDx, List.getElem?_toArray, List.getElem?_cons_zero, List.getElem?_cons_succ, Option.getD_some, List.length_cons, List.length_nil, Nat.reduceAdd, Nat.zero_add]
        rw [← HN.out.1, ← HN.out.2] at K
        have J8 : Hid (KS [(tb, tunO wb nb K2 K1 false false 0), (wb, winO bb 0 false), (bb, bitO 0), (nb, nowO), (ta, tunO wa na K1 K2 true true 0), (wa, winO ba 0 false), (ba, bitO 0), (na, nowO), (t2, .cells #[.pointer none, .pointer none] 47), (xb, .cells (shC A B E F) 23)] [] w u1) := hDx (HK2.out.join K)
        clear K
        have d0 := (J8.out.cells 8 rfl).cell 0 _ rfl
        have y0 : u1.frozen? ⟨t2, 0, none⟩ = false := Lib.frozen_of_heap (J8.out.get 8 rfl) 0
        go_upto_region 11 with (fail)
        clear d0 y0
        have J9 : Hid (KS [(tb, tunO wb nb K2 K1 false false 0), (wb, winO bb 0 false), (bb, bitO 0), (nb, nowO), (ta, tunO wa na K1 K2 true true 0), (wa, winO ba 0 false), (ba, bitO 0), (na, nowO), (t2, .cells #[.pointer (some ⟨ta, 0, none⟩), .pointer none] 47), (xb, .cells (shC A B E F) 23)] [] w (u1.setCell ⟨t2, 0, none⟩ (.pointer (some ⟨ta, 0, none⟩)))) := hDx (J8.out.set 8 rfl 0 (.pointer (some ⟨ta, 0, none⟩)))
        obtain ⟨u2, hv⟩ := nm (u1.setCell ⟨t2, 0, none⟩ (.pointer (some ⟨ta, 0, none⟩)))
        rw [← hv] at J9
        rw [← hv]
        clear hv
        have d1 := (J9.out.cells 8 rfl).cell 1 _ rfl
        have y1 : u2.frozen? ⟨t2, 1, none⟩ = false := Lib.frozen_of_heap (J9.out.get 8 rfl) 1
        go_upto_region 12 with (fail)
        clear d1 y1
        have J10 : Hid (KS [(tb, tunO wb nb K2 K1 false false 0), (wb, winO bb 0 false), (bb, bitO 0), (nb, nowO), (ta, tunO wa na K1 K2 true true 0), (wa, winO ba 0 false), (ba, bitO 0), (na, nowO), (t2, .cells #[.pointer (some ⟨ta, 0, none⟩), .pointer (some ⟨tb, 0, none⟩)] 47), (xb, .cells (shC A B E F) 23)] [] w (u2.setCell ⟨t2, 1, none⟩ (.pointer (some ⟨tb, 0, none⟩)))) := hDx (J9.out.set 8 rfl 1 (.pointer (some ⟨tb, 0, none⟩)))
        obtain ⟨u3, hv⟩ := nm (u2.setCell ⟨t2, 1, none⟩ (.pointer (some ⟨tb, 0, none⟩)))
        rw [← hv] at J10
        rw [← hv]
        clear hv
        go_upto_region 15 with (fail)
        have hm3 := (J10.out.made (.cells #[.slice none 0 0, .slice none 0 0] 49))
        obtain ⟨s2, hgs2⟩ := nm u3.heap.size
        obtain ⟨ww3, hv3⟩ := nm (World.alloc u3 (.cells #[.slice none 0 0, .slice none 0 0] 49))
        rw [← hv3, ← hgs2] at hm3
        rw [← hv3]
        try rw [← hgs2]
        have HK3 : Hid (KS [(s2, .cells #[.slice none 0 0, .slice none 0 0] 49), (tb, tunO wb nb K2 K1 false false 0), (wb, winO bb 0 false), (bb, bitO 0), (nb, nowO), (ta, tunO wa na K1 K2 true true 0), (wa, winO ba 0 false), (ba, bitO 0), (na, nowO), (t2, .cells #[.pointer (some ⟨ta, 0, none⟩), .pointer (some ⟨tb, 0, none⟩)] 47), (xb, .cells (shC A B E F) 23)] [] w ww3) := hDx hm3
        clear hm3 hv3 hgs2
        have JS : Hid (KS (stL 0 ⟨ta, wa, ba, na, true, true, false, [], 0, 0, .slice none 0 0, []⟩ ⟨tb, wb, bb, nb, false, false, false, [], 0, 0, .slice none 0 0, []⟩ K1 K2 t2 s2 xb (.cells (shC A B E F) 23)) [] w ww3) := hDx (HK3.out.perm ((List.Perm.cons _ (List.perm_append_comm_assoc [(tb, tunO wb nb K2 K1 false false 0), (wb, winO bb 0 false), (bb, bitO 0), (nb, nowO)] [(ta, tunO wa na K1 K2 true true 0), (wa, winO ba 0 false), (ba, bitO 0), (na, nowO)] [(t2, .cells #[.pointer (some ⟨ta, 0, none⟩), .pointer (some ⟨tb, 0, none⟩)] 47), (xb, .cells (shC A B E F) 23)])).trans (List.perm_middle (l₁ := [(ta, tunO wa na K1 K2 true true 0), (wa, winO ba 0 false), (ba, bitO 0), (na, nowO), (tb, tunO wb nb K2 K1 false false 0), (wb, winO bb 0 false), (bb, bitO 0), (nb, nowO), (t2, .cells #[.pointer (some ⟨ta, 0, none⟩), .pointer (some ⟨tb, 0, none⟩)] 47)]) (l₂ := [(xb, .cells (shC A B E F) 23)])).symm))
        clear JR J8 J9 J10
        go_wp2_with fail
        go_loopw [11] (fun vI wr => ∃ (i : Nat) (m o : Sd), i ≤ l.length ∧ vI = .int .i64 (i : Int) ∧ KS (stL 0 m o K1 K2 t2 s2 xb (.cells (shC A B E F) 23)) [] w wr ∧ SdOk m o K1 i ∧ SdOk o m K2 i ∧ m.fst = true) (fun vI _ => l.length - (intOf vI).toNat)
        case atStart => exact ⟨0, _, _, Nat.zero_le _, rfl, JS.out, ⟨win0, .nil, (fun _ h => nomatch h), Nat.le_refl _, fun j _ => Nat.zero_testBit j, fun _ => rfl⟩, ⟨win0, .nil, (fun _ h => nomatch h), Nat.le_refl _, fun j _ => Nat.zero_testBit j, fun h => (by cases h)⟩, rfl⟩
        obtain ⟨i, m0, o0, hi, rfl, K, hm, ho, hf⟩ := hrel
        have JR2 := hDx K
        have HM0 := hDx (And.intro hm (And.intro ho hf))
        clear K hm ho hf JS
        by_cases hlt : i < l.length
        ·obtain ⟨bs, off, hal, hbw, a0, a1, a2, a3, a4, a5, hok⟩ := HP.out.2.1 i hlt
         subst hal
         have hs1 := HL.out i hlt
         obtain ⟨s, hs⟩ := nm l[i]
         rw [← hs] at a0 a1 a2 a3 a4 a5 hok hs1
         obtain ⟨m1, m2⟩ := sucR hlt HP.out.2.2.1
         have i1 := lt_i hlt
         have HK := hDx (And.intro hlt (And.intro hs1 (And.intro hok hbw)))
         have HC := hDx (And.intro a0 (And.intro a1 (And.intro a2 (And.intro a3 (And.intro a4 a5)))))
         have b0 := (JR2.out.below.cell (p := ⟨bs, _, none⟩) hbw).trans a0
         clear hs hlt hbw a0 a1 a2 a3 a4 a5 hok hs1 hi
         go_upto_if 99 with (fail)
         go_cut [12] from 95 to 244 (fun vk wc => ∃ (k : Nat) (m o : Sd) (K K' : ByteArray), vk = .int .i64 (k : Int) ∧ k ≤ 1 ∧ KS (stL k m o K K' t2 s2 xb (.cells (shC A B E F) 23)) [] w wc ∧ SdOk m o K i ∧ SdOk o m K' i ∧ K.size = 32 ∧ K'.size = 32 ∧ ((k = 0 ∧ K = K1 ∧ K' = K2 ∧ m.fst = true) ∨ (k = 1 ∧ K = K2 ∧ K' = K1 ∧ o.fst = true)))
         case first =>
          obtain ⟨y, hy⟩ := nm s.by'
          rw [← hy] at b0
          rw [← hy]
          clear hy
          cases y
          ·go_wp2_with fail
           go_meet
           exact ⟨0, m0, o0, K1, K2, rfl, by decide, JR2.out, HM0.out.1, HM0.out.2.1, HY.out.1, HY.out.2, .inl ⟨rfl, rfl, rfl, HM0.out.2.2⟩⟩
          go_wp2_with fail
          go_meet
          exact ⟨1, o0, m0, K2, K1, rfl, by decide, JR2.out.perm (stL_swap 0 1 (.inl ⟨rfl, rfl⟩) _ _ _ _ _ _ _ _), HM0.out.2.1, HM0.out.1, HY.out.2, HY.out.1, .inr ⟨rfl, rfl, rfl, HM0.out.2.2⟩⟩
         case rest =>
          obtain ⟨k, m, o, K, K', rfl, hk, KK, hm, ho, hz, hz', who⟩ := hcut
          have JK := hDx KK
          have HMo := hDx (And.intro hm (And.intro ho (And.intro hz (And.intro hz' (show Who k m o K K' K1 K2 from who)))))
          obtain ⟨j, hj, j1, j2, k1, k2, j3, j4, j5, k5⟩ := k_i hk
          have HJ := hDx (And.intro hk (And.intro hj (And.intro j5 k5)))
          clear KK hm ho hz hz' who hk hj j5 k5 b0 HM0
          have b1 : wc.cell? ⟨bs, off + i * 6 + 1, none⟩ = some (.bool s.come) := (JK.out.below.cell (p := ⟨bs, _, none⟩) HK.out.2.2.2).trans HC.out.2.1
          obtain ⟨y, hy⟩ := nm s.come
          rw [← hy] at b1
          clear hy
          cases y
          ·go_upto_region 22 with (fail)
           clear b1
           by_cases hs : m.sur = true
           ·have HS := hDx hs
            clear hs
            try simp only [Act.put, sAx, s0x, s1x]
            refine wp_region_mid 8 [107, 108, 109, 110, 111, 112, 113, 114] [] [[], [107], [108], [], [], [110, 111], [112], [113]] (Ftab [(107, .val (.int .i64 (k : Int))), (108, .val (.pointer (some ⟨t2, k, none⟩))), (109, .val (.pointer (some ⟨m.t, 0, none⟩))), (110, .val (.slice (some ⟨bs, off, none⟩) l.length cap)), (111, .val (.int .i64 (i : Int))), (112, .val (.pointer (some ⟨bs, off + i * 6, none⟩))), (113, .val (.pointer (some ⟨bs, off + i * 6 + 2, none⟩))), (114, .val (.string (s.text)))]) 115 106 [116, 117, 118] (by kernel_rfl) (by kernel_rfl) (by rfl) (by rfl) (by kernel_rfl) rfl rfl rfl rfl (by kernel_rfl) (fun _ _ _ _ _ h => h) ?hO2 ?hE2
            case hO2 =>
             refine ⟨?_, ?_, ?_, ?_, ?_, ?_, ?_, ?_, trivial⟩
             ·intro act u HB HO HA
              have e12 := gE (x := .int .i64 (k : Int)) (HO 12 (by decide))
              refine calm_val 107 _ rfl ?_ rfl rfl
              clear HB HO HA
              go_simp
              try rfl
             ·intro act u HB HO HA
              have e7 := gE (x := .pointer (some ⟨t2, 0, none⟩)) (HO 7 (by decide))
              have e107 : _ = _ := gE (qA HA 107)
              refine calm_val 108 _ rfl ?_ rfl rfl
              clear HB HO HA
              go_simp
              try rfl
             ·intro act u HB HO HA
              have e108 : _ = _ := gE (qA HA 108)
              have HS := JK.out.drew.call HB
              have lT : u.cell? ⟨t2, k, none⟩ = some (.pointer (some ⟨m.t, 0, none⟩)) := (HS.cells 8 rfl).cell _ _ (two_at k HJ.out.1 _ _)
              refine calm_val 109 _ rfl ?_ rfl rfl
              clear HB HO HA HS
              go_simp
             ·intro act u HB HO HA
              have e1 := gE (x := .slice (some ⟨bs, off, none⟩) l.length cap) (HO 1 (by decide))
              refine calm_val 110 _ rfl ?_ rfl rfl
              clear HB HO HA
              go_simp
              try rfl
             ·intro act u HB HO HA
              have e11 := gE (x := .int .i64 (i : Int)) (HO 11 (by decide))
              refine calm_val 111 _ rfl ?_ rfl rfl
              clear HB HO HA
              go_simp
              try rfl
             ·intro act u HB HO HA
              have e110 : _ = _ := gE (qA HA 110)
              have e111 : _ = _ := gE (qA HA 111)
              refine calm_val 112 _ rfl ?_ rfl rfl
              clear HB HO HA
              go_simp
              try rfl
             ·intro act u HB HO HA
              have e112 : _ = _ := gE (qA HA 112)
              refine calm_val 113 _ rfl ?_ rfl rfl
              clear HB HO HA
              go_simp
              try rfl
             intro act u HB HO HA
             have e113 : _ = _ := gE (qA HA 113)
             have lT : u.cell? ⟨bs, off + i * 6 + 2, none⟩ = some (.string (s.text)) := ((JK.out.drew.call HB).below.cell (p := ⟨bs, _, none⟩) HK.out.2.2.2).trans HC.out.2.2.1
             refine calm_val 114 _ rfl ?_ rfl rfl
             clear HB HO HA
             go_simp
            intro vT ww1 HB HF HN
            have f107 : _ = _ := qA HF 107
            have f108 : _ = _ := qA HF 108
            have f109 : _ = _ := qA HF 109
            have f110 : _ = _ := qA HF 110
            have f111 : _ = _ := qA HF 111
            have f112 : _ = _ := qA HF 112
            have f113 : _ = _ := qA HF 113
            have f114 : _ = _ := qA HF 114
            have HK1 := hDx (JK.out.drew.call HB)
            simp only [fill, Act.put, sAx, s0x, s1x, dSx, d0x, f107, f108, f109, f110, f111, f112, f113, f114]
            clear HB HF HN f107 f108 f109 f110 f111 f112 f113 f114
            refine ⟨#[.pointer (some ⟨m.t, 0, none⟩), .int .u64 0, .string (s.text)], _, ?_, tun_seal m.t m.w m.n m.T.length K K' s.text m.fst ww1 (by rw [← HS.out]; exact HK1.out.get 0 rfl) (HK1.out.get 3 rfl) HMo.out.2.2.1 (n50 HMo.out.1.len HK.out.1 H40.out) (Nat.le_trans HK.out.2.1 (by decide)), ?_⟩
            ·simp only [mTx, mCx, mNx]
             try rfl
            rintro e u1 ⟨rfl, KQ⟩
            refine ⟨_, rfl, rfl, ?_⟩
            simp only [exts, Act.put, sAx, s0x, s1x, dSx, d0x, gDx, List.getElem?_toArray, List.getElem?_cons_zero, List.getElem?_cons_succ, Option.getD_some, List.length_cons, List.length_nil, Nat.reduceAdd, Nat.zero_add]
            obtain ⟨C, hC⟩ := nm (sealS K (nonS m.T.length) .empty s.text)
            rw [← hC]
            have HCC := hDx hC
            clear hC
            have J22 : Hid (KS (stL k { m with sur := true, T := m.T ++ [s.text] } o K K' t2 s2 xb (.cells (shC A B E F) 23)) [] w u1) := hDx (by
             have h := HK1.out.callT 0 rfl KQ.only (KQ.get 0 rfl)
             have e : (m.T ++ [s.text]).length = m.T.length + 1 := by simp
             unfold stL Sd.L
             simp only [e]
             exact h)
            clear KQ
            go_upto_region 24 with (fail)
            try simp only [Act.put, sAx, s0x, s1x]
            refine wp_region_calm_late 13 0 [121, 122, 123, 124, 125, 126, 127, 128, 129, 130, 131, 132, 133] [] [[], [], [122], [123], [], [], [], [], [127, 128], [129], [130], [125, 126, 131], [132]] (Ftab [(121, .val (.int .i64 (k : Int))), (122, .val (.int .i64 (k : Int))), (123, .val (.pointer (some ⟨s2, k, none⟩))), (124, .val (m.v)), (125, .val (.int .u64 (m.T.length : Int))), (126, .val (.string (C))), (127, .val (.slice (some ⟨bs, off, none⟩) l.length cap)), (128, .val (.int .i64 (i : Int))), (129, .val (.pointer (some ⟨bs, off + i * 6, none⟩))), (130, .val (.pointer (some ⟨bs, off + i * 6 + 2, none⟩))), (131, .val (.string (s.text))), (132, .val (.agg #[.int .u64 (m.T.length : Int), .string C, .string s.text, .int .i64 0])), (133, .sl 1 (.cells #[.int .u64 (m.T.length : Int), .string C, .string s.text, .int .i64 0] 51))]) (by kernel_rfl) (by kernel_rfl) (by rfl) (by kernel_rfl) 121 rfl rfl (by kernel_rfl) rfl (fun _ _ _ _ h => h) ?hY3 ?hO3 ?hE3
            case hY3 =>
             intro act u HB HO HA
             have e12 : act.eval (.tmp 12) = .int .i64 (k : Int) := HO 12 (by decide)
             exact ⟨.int .i64 (k : Int), fun w => run_mv rfl e12, rfl⟩
            case hO3 =>
             refine ⟨?_, ?_, ?_, ?_, ?_, ?_, ?_, ?_, ?_, ?_, ?_, ?_, ?_, trivial⟩
             ·intro act u HB HO HA
              have e12 : act.eval (.tmp 12) = .int .i64 (k : Int) := HO 12 (by decide)
              exact calm_val 121 _ rfl (run_mv rfl e12) rfl rfl
             ·intro act u HB HO HA
              have e12 := gE (x := .int .i64 (k : Int)) (HO 12 (by decide))
              refine calm_val 122 _ rfl ?_ rfl rfl
              clear HB HO HA
              go_simp
              try rfl
             ·intro act u HB HO HA
              have e10 := gE (x := .pointer (some ⟨s2, 0, none⟩)) (HO 10 (by decide))
              have e122 : _ = _ := gE (qA HA 122)
              refine calm_val 123 _ rfl ?_ rfl rfl
              clear HB HO HA
              go_simp
              try rfl
             ·intro act u HB HO HA
              have e123 : _ = _ := gE (qA HA 123)
              have HS := J22.out.drew.call HB
              have lT : u.cell? ⟨s2, k, none⟩ = some (m.v) := (HS.cells 9 rfl).cell _ _ (two_at k HJ.out.1 _ _)
              refine calm_val 124 _ rfl ?_ rfl rfl
              clear HB HO HA HS
              go_simp
             ·intro act u HB HO HA
              have e13 := gE (x := .int .u64 (m.T.length : Int)) (HO 13 (by decide))
              refine calm_val 125 _ rfl ?_ rfl rfl
              clear HB HO HA
              go_simp
              try rfl
             ·intro act u HB HO HA
              have e14 := gE (x := .string (C)) (HO 14 (by decide))
              refine calm_val 126 _ rfl ?_ rfl rfl
              clear HB HO HA
              go_simp
              try rfl
             ·intro act u HB HO HA
              have e1 := gE (x := .slice (some ⟨bs, off, none⟩) l.length cap) (HO 1 (by decide))
              refine calm_val 127 _ rfl ?_ rfl rfl
              clear HB HO HA
              go_simp
              try rfl
             ·intro act u HB HO HA
              have e11 := gE (x := .int .i64 (i : Int)) (HO 11 (by decide))
              refine calm_val 128 _ rfl ?_ rfl rfl
              clear HB HO HA
              go_simp
              try rfl
             ·intro act u HB HO HA
              have e127 : _ = _ := gE (qA HA 127)
              have e128 : _ = _ := gE (qA HA 128)
              refine calm_val 129 _ rfl ?_ rfl rfl
              clear HB HO HA
              go_simp
              try rfl
             ·intro act u HB HO HA
              have e129 : _ = _ := gE (qA HA 129)
              refine calm_val 130 _ rfl ?_ rfl rfl
              clear HB HO HA
              go_simp
              try rfl
             ·intro act u HB HO HA
              have e130 : _ = _ := gE (qA HA 130)
              have lT : u.cell? ⟨bs, off + i * 6 + 2, none⟩ = some (.string (s.text)) := ((J22.out.drew.call HB).below.cell (p := ⟨bs, _, none⟩) HK.out.2.2.2).trans HC.out.2.2.1
              refine calm_val 131 _ rfl ?_ rfl rfl
              clear HB HO HA
              go_simp
             ·intro act u HB HO HA
              have e125 : _ = _ := gE (qA HA 125)
              have e126 : _ = _ := gE (qA HA 126)
              have e131 : _ = _ := gE (qA HA 131)
              refine calm_val 132 _ rfl ?_ rfl rfl
              clear HB HO HA
              go_simp
              try rfl
             intro act u HB HO HA
             have e132 : _ = _ := gE (qA HA 132)
             refine calm_sl 133 1 (.cells #[.int .u64 (m.T.length : Int), .string C, .string s.text, .int .i64 0] 51) rfl ?_ rfl rfl
             clear HB HO HA
             go_simp
            intro vT ww2 HB HF HN
            have f121 : _ = _ := qA HF 121
            have f122 : _ = _ := qA HF 122
            have f123 : _ = _ := qA HF 123
            have f124 : _ = _ := qA HF 124
            have f125 : _ = _ := qA HF 125
            have f126 : _ = _ := qA HF 126
            have f127 : _ = _ := qA HF 127
            have f128 : _ = _ := qA HF 128
            have f129 : _ = _ := qA HF 129
            have f130 : _ = _ := qA HF 130
            have f131 : _ = _ := qA HF 131
            have f132 : _ = _ := qA HF 132
            obtain ⟨g133, f133, b133⟩ : (Fct.sl 1 (.cells #[.int .u64 (m.T.length : Int), .string C, .string s.text, .int .i64 0] 51)).p (vT 133) ww2 := qA HF 133
            have HG := hDx b133
            clear b133
            have HK2 := hDx (J22.out.drew.call HB)
            simp only [fill, Act.put, sAx, s0x, s1x, dSx, d0x, f121, f122, f123, f124, f125, f126, f127, f128, f129, f130, f131, f132, f133]
            clear HB HF HN f121 f122 f123 f124 f125 f126 f127 f128 f129 f130 f131 f132 f133
            refine wl_app_sd rfl _ _ rfl rfl (HMo.out.1.row.own (fun x hx => HK2.out.all x (by unfold stL; simp [hx]))) g133 1 [.int .u64 (m.T.length : Int), .string C, .string s.text, .int .i64 0] rfl HG.out rfl (by simp [Value.oneCell']) (by have := HMo.out.1.len; have := H40.out; have := HK.out.1; omega) ?_
            intro v' w' hO hG hTr
            rw [HCC.out] at hO
            obtain ⟨R', hR', KA⟩ := KS.app (L := ({ m with sur := true, T := m.T ++ [s.text] } : Sd).L K K' ++ (o.L K' K ++ ([(t2, .cells (two k (.pointer (some ⟨m.t, 0, none⟩)) (.pointer (some ⟨o.t, 0, none⟩))) 47), (s2, .cells (two k m.v o.v) 49), (xb, (.cells (shC A B E F) 23))] ++ o.R))) (by have h := HK2.out; unfold stL at h; simpa only [List.append_assoc] using h) HMo.out.1.row hG hO hTr
            have HR' := hDx hR'
            have JA : Hid (KS (stL k { m with sur := true, T := m.T ++ [s.text], R := R' } o K K' t2 s2 xb (.cells (shC A B E F) 23)) [] w w') := hDx (by
             have h := KA
             simp only [List.append_assoc] at h
             unfold stL
             exact h)
            clear hO hG hTr KA
            obtain ⟨g', cp', hv'⟩ := hR'.shape
            clear hR'
            subst hv'
            have dk : w'.cell? ⟨s2, k, none⟩ = some m.v := (JA.out.cells 9 rfl).cell k _ (two_at k HJ.out.1 _ _)
            have yk : w'.frozen? ⟨s2, k, none⟩ = false := Lib.frozen_of_heap (JA.out.get 9 rfl) k
            go_wp2_with fail
            go_roundw
            case rel =>
             obtain ⟨m3, o3, q1, q2, q3, q4⟩ := back (i := i + 1) (show Who k { m with sur := true, T := m.T ++ [s.text], v := .slice (some ⟨g', 0, none⟩) (m.T.length + 1) cp', R := R' } o K K' K1 K2 from HMo.out.2.2.2.2) (by have h := JA.out.set 9 rfl k (.slice (some ⟨g', 0, none⟩) (m.T.length + 1) cp'); rw [two_set k HJ.out.1] at h; exact h) (HMo.out.1.said HK.out.2.1 HR'.out) (HMo.out.2.1.same rfl)
             exact ⟨i + 1, m3, o3, HK.out.1, by first | rfl | go_num, q1, q2, q3, q4⟩
            exact measI2 _ _ HK.out.1
           have HS := hDx (show m.sur = false by simpa using hs)
           clear hs
           try simp only [Act.put, sAx, s0x, s1x]
           refine wp_region_mid 8 [107, 108, 109, 110, 111, 112, 113, 114] [] [[], [107], [108], [], [], [110, 111], [112], [113]] (Ftab [(107, .val (.int .i64 (k : Int))), (108, .val (.pointer (some ⟨t2, k, none⟩))), (109, .val (.pointer (some ⟨m.t, 0, none⟩))), (110, .val (.slice (some ⟨bs, off, none⟩) l.length cap)), (111, .val (.int .i64 (i : Int))), (112, .val (.pointer (some ⟨bs, off + i * 6, none⟩))), (113, .val (.pointer (some ⟨bs, off + i * 6 + 2, none⟩))), (114, .val (.string (s.text)))]) 115 106 [116, 117, 118] (by kernel_rfl) (by kernel_rfl) (by rfl) (by rfl) (by kernel_rfl) rfl rfl rfl rfl (by kernel_rfl) (fun _ _ _ _ _ h => h) ?hO4 ?hE4
           case hO4 =>
            refine ⟨?_, ?_, ?_, ?_, ?_, ?_, ?_, ?_, trivial⟩
            ·intro act u HB HO HA
             have e12 := gE (x := .int .i64 (k : Int)) (HO 12 (by decide))
             refine calm_val 107 _ rfl ?_ rfl rfl
             clear HB HO HA
             go_simp
             try rfl
            ·intro act u HB HO HA
             have e7 := gE (x := .pointer (some ⟨t2, 0, none⟩)) (HO 7 (by decide))
             have e107 : _ = _ := gE (qA HA 107)
             refine calm_val 108 _ rfl ?_ rfl rfl
             clear HB HO HA
             go_simp
             try rfl
            ·intro act u HB HO HA
             have e108 : _ = _ := gE (qA HA 108)
             have HS := JK.out.drew.call HB
             have lT : u.cell? ⟨t2, k, none⟩ = some (.pointer (some ⟨m.t, 0, none⟩)) := (HS.cells 8 rfl).cell _ _ (two_at k HJ.out.1 _ _)
             refine calm_val 109 _ rfl ?_ rfl rfl
             clear HB HO HA HS
             go_simp
            ·intro act u HB HO HA
             have e1 := gE (x := .slice (some ⟨bs, off, none⟩) l.length cap) (HO 1 (by decide))
             refine calm_val 110 _ rfl ?_ rfl rfl
             clear HB HO HA
             go_simp
             try rfl
            ·intro act u HB HO HA
             have e11 := gE (x := .int .i64 (i : Int)) (HO 11 (by decide))
             refine calm_val 111 _ rfl ?_ rfl rfl
             clear HB HO HA
             go_simp
             try rfl
            ·intro act u HB HO HA
             have e110 : _ = _ := gE (qA HA 110)
             have e111 : _ = _ := gE (qA HA 111)
             refine calm_val 112 _ rfl ?_ rfl rfl
             clear HB HO HA
             go_simp
             try rfl
            ·intro act u HB HO HA
             have e112 : _ = _ := gE (qA HA 112)
             refine calm_val 113 _ rfl ?_ rfl rfl
             clear HB HO HA
             go_simp
             try rfl
            intro act u HB HO HA
            have e113 : _ = _ := gE (qA HA 113)
            have lT : u.cell? ⟨bs, off + i * 6 + 2, none⟩ = some (.string (s.text)) := ((JK.out.drew.call HB).below.cell (p := ⟨bs, _, none⟩) HK.out.2.2.2).trans HC.out.2.2.1
            refine calm_val 114 _ rfl ?_ rfl rfl
            clear HB HO HA
            go_simp
           intro vT ww1 HB HF HN
           have f107 : _ = _ := qA HF 107
           have f108 : _ = _ := qA HF 108
           have f109 : _ = _ := qA HF 109
           have f110 : _ = _ := qA HF 110
           have f111 : _ = _ := qA HF 111
           have f112 : _ = _ := qA HF 112
           have f113 : _ = _ := qA HF 113
           have f114 : _ = _ := qA HF 114
           have HK1 := hDx (JK.out.drew.call HB)
           simp only [fill, Act.put, sAx, s0x, s1x, dSx, d0x, f107, f108, f109, f110, f111, f112, f113, f114]
           clear HB HF HN f107 f108 f109 f110 f111 f112 f113 f114
           refine ⟨#[.pointer (some ⟨m.t, 0, none⟩), .int .u64 0, .string (s.text)], _, ?_, tun_unsure m.t m.w m.n m.T.length K K' s.text m.fst ww1 (by rw [← HS.out]; exact HK1.out.get 0 rfl) (HK1.out.get 3 rfl) HMo.out.2.2.1 (n50 HMo.out.1.len HK.out.1 H40.out), ?_⟩
           ·simp only [mTx, mCx, mNx]
            try rfl
           rintro e u1 ⟨rfl, B1⟩
           refine ⟨_, rfl, rfl, ?_⟩
           simp only [exts, Act.put, sAx, s0x, s1x, dSx, d0x, gDx, List.getElem?_toArray, List.getElem?_cons_zero, List.getElem?_cons_succ, Option.getD_some, List.length_cons, List.length_nil, Nat.reduceAdd, Nat.zero_add]
           have J22 := hDx (HK1.out.call B1)
           clear B1
           have hk1 : ¬ (k : Int) = 0 := by
            rcases HMo.out.2.2.2.2 with ⟨rfl, _, _, hf⟩ | ⟨rfl, _, _, hf⟩
            ·have := HMo.out.1.sure hf
             rw [HS.out] at this
             cases this
            ·decide
           have dk : u1.cell? ⟨t2, k, none⟩ = some (.pointer (some ⟨m.t, 0, none⟩)) := (J22.out.cells 8 rfl).cell k _ (two_at k HJ.out.1 _ _)
           go_wp2_with (go_at_call 13; refine (tun_sure m.t m.w m.n m.T.length K K' m.fst m.sur _ (J22.out.get 0 rfl)).mono ?_; rintro e w13 ⟨rfl, rfl⟩; rw [HS.out])
           go_roundw
           case rel =>
            obtain ⟨m3, o3, q1, q2, q3, q4⟩ := back (i := i + 1) HMo.out.2.2.2.2 J22.out HMo.out.1.up HMo.out.2.1.up
            exact ⟨i + 1, m3, o3, HK.out.1, by first | rfl | go_num, q1, q2, q3, q4⟩
           exact measI2 _ _ HK.out.1
          go_upto_region 27 with (fail)
          clear b1
          have cj : wc.cell? ⟨s2, j, none⟩ = some o.v := (JK.out.cells 9 rfl).cell j _ (two_far k j HJ.out.1 HJ.out.2.1 _ _)
          go_upto_region 28 with (fail)
          clear cj
          rcases HMo.out.2.1.row.2 with ⟨hv, hn, hR⟩ | ⟨g, cp, cur, hv, hR, q1, q2, q3, q4⟩
          ·rw [hv]
           clear hv hn hR
           go_wp2_with fail
           go_roundw
           case rel =>
            obtain ⟨m3, o3, q1, q2, q3, q4⟩ := back (i := i + 1) HMo.out.2.2.2.2 JK.out HMo.out.1.up HMo.out.2.1.up
            exact ⟨i + 1, m3, o3, HK.out.1, by first | rfl | go_num, q1, q2, q3, q4⟩
           exact measI2 _ _ HK.out.1
          rw [hv]
          have HR := hDx (And.intro hv (And.intro hR (And.intro q1 (And.intro q2 (And.intro q3 q4)))))
          clear hv hR q1 q2 q3 q4
          by_cases hn0 : o.T.length = 0
          ·have z0 : (o.T.length : Int) = 0 := by omega
           clear hn0
           go_wp2_with fail
           go_roundw
           case rel =>
            obtain ⟨m3, o3, q1, q2, q3, q4⟩ := back (i := i + 1) HMo.out.2.2.2.2 JK.out HMo.out.1.up HMo.out.2.1.up
            exact ⟨i + 1, m3, o3, HK.out.1, by first | rfl | go_num, q1, q2, q3, q4⟩
           exact measI2 _ _ HK.out.1
          obtain ⟨q, hq⟩ := nm (s.which % o.T.length)
          obtain ⟨hql, z0, z1, z2, hrem, x1, x2⟩ := q_i hq hn0 HMo.out.2.1.len HK.out.1 H40.out HK.out.2.2.1.1
          clear hq
          have b3 : wc.cell? ⟨bs, off + i * 6 + 3, none⟩ = some (.int .u8 s.which) := (JK.out.below.cell (p := ⟨bs, _, none⟩) HK.out.2.2.2).trans HC.out.2.2.2.1
          clear hn0
          go_upto_region 30 with (first | (with_reducible show Oper.wp _ _ _ _ _ _; refine wp_bin hrem rfl rfl rfl ?_))
          clear b3 hrem x1 x2
          obtain ⟨x, hx⟩ := nm (o.T[q]'hql)
          obtain ⟨c, hc⟩ := nm (sealS K' (nonS q) .empty x)
          obtain ⟨hd, hhd⟩ : ∃ h : Int, h = if m.B.testBit q then 1 else 0 := ⟨_, rfl⟩
          have hext : cur.extract (q * 4) (q * 4 + 4) = #[.int .u64 (q : Int), .string c, .string x, .int .i64 hd] := by
           rw [cur_ext rfl HR.out.2.2.2.2.2 hql, ← hx]
           unfold sdE
           rw [← hc, ← hhd]
          have hxs : x.size ≤ 4096 := by rw [hx]; exact HMo.out.2.1.txt _ (List.getElem_mem hql)
          have hcs : c.size = x.size + 16 := by rw [hc, sealS_size]
          have HQ := hDx (And.intro hql (And.intro hc (And.intro hhd (And.intro hxs hcs))))
          have JP : Hid (KS ([(m.t, tunO m.w m.n K K' m.fst m.sur m.T.length), (m.w, winO m.b m.H m.any), (m.b, bitO m.B), (m.n, nowO)] ++ (o.L K' K ++ ([(t2, .cells (two k (.pointer (some ⟨m.t, 0, none⟩)) (.pointer (some ⟨o.t, 0, none⟩))) 47), (s2, .cells (two k m.v o.v) 49), (xb, (.cells (shC A B E F) 23))] ++ ([(g, .cells cur 51)] ++ m.R)))) [] w wc) := hDx (by
           have h := JK.out
           unfold stL at h
           rw [HR.out.2.1] at h
           exact h)
          have ldg := JP.out.get 11 rfl
          clear hx hc hhd hxs hcs hql
          go_upto_region 31 with (refine wpList_loadM (t := 51) (n := 4) (b := g) (o := q * 4) (C := cur) (cs := #[.int .u64 (q : Int), .string c, .string x, .int .i64 hd]) rfl _ rfl rfl ldg ag51 hext rfl ?_)
          clear ldg hext z0 z1 z2
          have hm := JP.out.made (.cells #[.int .u64 (q : Int), .string c, .string x, .int .i64 hd] 51)
          obtain ⟨yb, hG⟩ := nm wc.heap.size
          obtain ⟨w30, hvl⟩ := nm (World.alloc wc (.cells #[.int .u64 (q : Int), .string c, .string x, .int .i64 hd] 51))
          rw [← hvl, ← hG] at hm
          rw [← hvl]
          try rw [← hG]
          have J30 := hDx hm
          clear hm hvl hG
          have y1 : w30.cell? ⟨yb, 1, none⟩ = some (.string c) := (J30.out.cells 0 rfl).cell 1 _ rfl
          obtain ⟨zz, cp2, hcv⟩ := run_bytes c w30
          go_upto_region 32 with (fail)
          clear y1 hcv
          have hm := (J30.out.made (bob (bl c) zz)).drew
          obtain ⟨db, hG⟩ := nm w30.heap.size
          obtain ⟨w31, hvl⟩ := nm (World.drew (World.alloc w30 (bob (bl c) zz)))
          rw [← hvl, ← hG] at hm
          rw [← hvl]
          try rw [← hG]
          have J31 : Hid (KS ([(m.t, tunO m.w m.n K K' m.fst m.sur m.T.length), (m.w, winO m.b m.H m.any), (m.b, bitO m.B), (db, bob (bl c) zz), (yb, .cells #[.int .u64 (q : Int), .string c, .string x, .int .i64 hd] 51), (m.n, nowO)] ++ (o.L K' K ++ ([(t2, .cells (two k (.pointer (some ⟨m.t, 0, none⟩)) (.pointer (some ⟨o.t, 0, none⟩))) 47), (s2, .cells (two k m.v o.v) 49), (xb, (.cells (shC A B E F) 23))] ++ ([(g, .cells cur 51)] ++ m.R)))) [] w w31) := hDx (hm.perm (List.perm_append_comm_assoc [(db, bob (bl c) zz), (yb, .cells #[.int .u64 (q : Int), .string c, .string x, .int .i64 hd] 51)] [(m.t, tunO m.w m.n K K' m.fst m.sur m.T.length), (m.w, winO m.b m.H m.any), (m.b, bitO m.B)] _))
          clear hm hvl hG J30 JP
          obtain ⟨p, hp⟩ := nm (s.at' % c.size)
          obtain ⟨hpl, p0, p1, hremp, x3, x4⟩ := p_i hp HQ.out.2.2.2.2 HQ.out.2.2.2.1 HK.out.2.2.1.2.1
          obtain ⟨bx, hbx⟩ := nm (bt c p)
          have hxor := u8_xor_nat bx s.turn (by rw [hbx]; exact bt_lt _ _) HK.out.2.2.1.2.2
          have HD := hDx (And.intro hpl (And.intro hbx (And.intro hremp hxor)))
          clear hp hpl hbx hremp hxor
          try simp only [Act.put, sAx, s0x, s1x]
          refine wp_region_cv 28 [167, 168, 169, 170, 171, 172, 173, 174, 175, 176, 177, 178, 179, 180, 181, 182, 183, 184, 185, 186, 187, 188, 189, 190, 191, 192, 193, 194] [[], [], [], [168, 169], [170], [171], [172], [], [174], [173, 175], [], [], [], [178, 179], [180], [181], [182], [], [184], [183, 185], [177, 186], [187], [], [], [189, 190], [191], [192], [188, 193]] [(167, .slice (some ⟨db, 0, none⟩) c.size cp2), (168, .slice (some ⟨bs, off, none⟩) l.length cap), (169, .int .i64 (i : Int)), (170, .pointer (some ⟨bs, off + i * 6, none⟩)), (171, .pointer (some ⟨bs, off + i * 6 + 4, none⟩)), (172, .int .u16 (s.at' : Int)), (173, .int .i64 (s.at' : Int)), (174, .slice (some ⟨db, 0, none⟩) c.size cp2), (175, .int .i64 (c.size : Int)), (176, .int .i64 (p : Int)), (177, .slice (some ⟨db, 0, none⟩) c.size cp2), (178, .slice (some ⟨bs, off, none⟩) l.length cap), (179, .int .i64 (i : Int)), (180, .pointer (some ⟨bs, off + i * 6, none⟩)), (181, .pointer (some ⟨bs, off + i * 6 + 4, none⟩)), (182, .int .u16 (s.at' : Int)), (183, .int .i64 (s.at' : Int)), (184, .slice (some ⟨db, 0, none⟩) c.size cp2), (185, .int .i64 (c.size : Int)), (186, .int .i64 (p : Int)), (187, .pointer (some ⟨db, p, none⟩)), (188, .int .u8 (bx : Int)), (189, .slice (some ⟨bs, off, none⟩) l.length cap), (190, .int .i64 (i : Int)), (191, .pointer (some ⟨bs, off + i * 6, none⟩)), (192, .pointer (some ⟨bs, off + i * 6 + 5, none⟩)), (193, .int .u8 (s.turn : Int)), (194, .int .u8 ((bx ^^^ s.turn : Nat) : Int))] rfl (by kernel_rfl) (by kernel_rfl) (by rfl) (by kernel_rfl) ?hO5 ?hE5
          case hO5 =>
           refine ⟨?_, ?_, ?_, ?_, ?_, ?_, ?_, ?_, ?_, ?_, ?_, ?_, ?_, ?_, ?_, ?_, ?_, ?_, ?_, ?_, ?_, ?_, ?_, ?_, ?_, ?_, ?_, ?_, trivial⟩
           ·intro act u HB HO HA
            have e19 := gE (x := .slice (some ⟨db, 0, none⟩) c.size cp2) (HO 19 (by decide))
            refine calm_val 167 _ rfl ?_ rfl rfl
            clear HB HO HA
            go_simp
            try rfl
           ·intro act u HB HO HA
            have e1 := gE (x := .slice (some ⟨bs, off, none⟩) l.length cap) (HO 1 (by decide))
            refine calm_val 168 _ rfl ?_ rfl rfl
            clear HB HO HA
            go_simp
            try rfl
           ·intro act u HB HO HA
            have e11 := gE (x := .int .i64 (i : Int)) (HO 11 (by decide))
            refine calm_val 169 _ rfl ?_ rfl rfl
            clear HB HO HA
            go_simp
            try rfl
           ·intro act u HB HO HA
            have e168 : _ = _ := gE (qA HA 168)
            have e169 : _ = _ := gE (qA HA 169)
            refine calm_val 170 _ rfl ?_ rfl rfl
            clear HB HO HA
            go_simp
            try rfl
           ·intro act u HB HO HA
            have e170 : _ = _ := gE (qA HA 170)
            refine calm_val 171 _ rfl ?_ rfl rfl
            clear HB HO HA
            go_simp
            try rfl
           ·intro act u HB HO HA
            have e171 : _ = _ := gE (qA HA 171)
            have lT : u.cell? ⟨bs, off + i * 6 + 4, none⟩ = some (.int .u16 s.at') := ((J31.out.drew.call HB).below.cell (p := ⟨bs, _, none⟩) HK.out.2.2.2).trans HC.out.2.2.2.2.1
            refine calm_val 172 _ rfl ?_ rfl rfl
            clear HB HO HA
            go_simp
           ·intro act u HB HO HA
            have e172 : _ = _ := gE (qA HA 172)
            refine calm_val 173 _ rfl ?_ rfl rfl
            clear HB HO HA
            go_simp
            try rfl
           ·intro act u HB HO HA
            have e19 := gE (x := .slice (some ⟨db, 0, none⟩) c.size cp2) (HO 19 (by decide))
            refine calm_val 174 _ rfl ?_ rfl rfl
            clear HB HO HA
            go_simp
            try rfl
           ·intro act u HB HO HA
            have e174 : _ = _ := gE (qA HA 174)
            refine calm_val 175 _ rfl ?_ rfl rfl
            clear HB HO HA
            go_simp
            try rfl
           ·intro act u HB HO HA
            have e173 : _ = _ := qA HA 173
            have e175 : _ = _ := qA HA 175
            exact calm_val 176 _ rfl (run_bn HD.out.2.2.1 rfl e173 e175) rfl rfl
           ·intro act u HB HO HA
            have e19 := gE (x := .slice (some ⟨db, 0, none⟩) c.size cp2) (HO 19 (by decide))
            refine calm_val 177 _ rfl ?_ rfl rfl
            clear HB HO HA
            go_simp
            try rfl
           ·intro act u HB HO HA
            have e1 := gE (x := .slice (some ⟨bs, off, none⟩) l.length cap) (HO 1 (by decide))
            refine calm_val 178 _ rfl ?_ rfl rfl
            clear HB HO HA
            go_simp
            try rfl
           ·intro act u HB HO HA
            have e11 := gE (x := .int .i64 (i : Int)) (HO 11 (by decide))
            refine calm_val 179 _ rfl ?_ rfl rfl
            clear HB HO HA
            go_simp
            try rfl
           ·intro act u HB HO HA
            have e178 : _ = _ := gE (qA HA 178)
            have e179 : _ = _ := gE (qA HA 179)
            refine calm_val 180 _ rfl ?_ rfl rfl
            clear HB HO HA
            go_simp
            try rfl
           ·intro act u HB HO HA
            have e180 : _ = _ := gE (qA HA 180)
            refine calm_val 181 _ rfl ?_ rfl rfl
            clear HB HO HA
            go_simp
            try rfl
           ·intro act u HB HO HA
            have e181 : _ = _ := gE (qA HA 181)
            have lT : u.cell? ⟨bs, off + i * 6 + 4, none⟩ = some (.int .u16 s.at') := ((J31.out.drew.call HB).below.cell (p := ⟨bs, _, none⟩) HK.out.2.2.2).trans HC.out.2.2.2.2.1
            refine calm_val 182 _ rfl ?_ rfl rfl
            clear HB HO HA
            go_simp
           ·intro act u HB HO HA
            have e182 : _ = _ := gE (qA HA 182)
            refine calm_val 183 _ rfl ?_ rfl rfl
            clear HB HO HA
            go_simp
            try rfl
           ·intro act u HB HO HA
            have e19 := gE (x := .slice (some ⟨db, 0, none⟩) c.size cp2) (HO 19 (by decide))
            refine calm_val 184 _ rfl ?_ rfl rfl
            clear HB HO HA
            go_simp
            try rfl
           ·intro act u HB HO HA
            have e184 : _ = _ := gE (qA HA 184)
            refine calm_val 185 _ rfl ?_ rfl rfl
            clear HB HO HA
            go_simp
            try rfl
           ·intro act u HB HO HA
            have e183 : _ = _ := qA HA 183
            have e185 : _ = _ := qA HA 185
            exact calm_val 186 _ rfl (run_bn HD.out.2.2.1 rfl e183 e185) rfl rfl
           ·intro act u HB HO HA
            have e177 : _ = _ := gE (qA HA 177)
            have e186 : _ = _ := gE (qA HA 186)
            refine calm_val 187 _ rfl ?_ rfl rfl
            clear HB HO HA
            go_simp
            try rfl
           ·intro act u HB HO HA
            have e187 : _ = _ := gE (qA HA 187)
            have HS := J31.out.drew.call HB
            have lT := HS.bcell 3 rfl p (by rw [bl_len]; exact HD.out.1)
            rw [bl_at, ← HD.out.2.1] at lT
            refine calm_val 188 _ rfl ?_ rfl rfl
            clear HB HO HA HS
            go_simp
           ·intro act u HB HO HA
            have e1 := gE (x := .slice (some ⟨bs, off, none⟩) l.length cap) (HO 1 (by decide))
            refine calm_val 189 _ rfl ?_ rfl rfl
            clear HB HO HA
            go_simp
            try rfl
           ·intro act u HB HO HA
            have e11 := gE (x := .int .i64 (i : Int)) (HO 11 (by decide))
            refine calm_val 190 _ rfl ?_ rfl rfl
            clear HB HO HA
            go_simp
            try rfl
           ·intro act u HB HO HA
            have e189 : _ = _ := gE (qA HA 189)
            have e190 : _ = _ := gE (qA HA 190)
            refine calm_val 191 _ rfl ?_ rfl rfl
            clear HB HO HA
            go_simp
            try rfl
           ·intro act u HB HO HA
            have e191 : _ = _ := gE (qA HA 191)
            refine calm_val 192 _ rfl ?_ rfl rfl
            clear HB HO HA
            go_simp
            try rfl
           ·intro act u HB HO HA
            have e192 : _ = _ := gE (qA HA 192)
            have lT : u.cell? ⟨bs, off + i * 6 + 5, none⟩ = some (.int .u8 s.turn) := ((J31.out.drew.call HB).below.cell (p := ⟨bs, _, none⟩) HK.out.2.2.2).trans HC.out.2.2.2.2.2
            refine calm_val 193 _ rfl ?_ rfl rfl
            clear HB HO HA
            go_simp
           intro act u HB HO HA
           have e188 : _ = _ := gE (qA HA 188)
           have e193 : _ = _ := gE (qA HA 193)
           have hxr := HD.out.2.2.2
           refine calm_val 194 _ rfl ?_ rfl rfl
           clear HB HO HA
           go_simp
          intro ww1 HB
          have HK1 := hDx (J31.out.drew.call HB)
          simp only [fillL, Act.put, sAx, s0x, s1x, dSx, d0x]
          clear HB
          clear J31
          have dp := HK1.out.bcell 3 rfl p (by rw [bl_len]; exact HD.out.1)
          have yp := HK1.out.bfz 3 rfl p (by rw [bl_len]; exact HD.out.1)
          go_upto_region 33 with (fail)
          clear dp yp
          have J32 : Hid (KS ([(m.t, tunO m.w m.n K K' m.fst m.sur m.T.length), (m.w, winO m.b m.H m.any), (m.b, bitO m.B), (db, bob ((bl c).set p ((bx ^^^ s.turn : Nat) : Int)) zz), (yb, .cells #[.int .u64 (q : Int), .string c, .string x, .int .i64 hd] 51), (m.n, nowO)] ++ (o.L K' K ++ ([(t2, .cells (two k (.pointer (some ⟨m.t, 0, none⟩)) (.pointer (some ⟨o.t, 0, none⟩))) 47), (s2, .cells (two k m.v o.v) 49), (xb, (.cells (shC A B E F) 23))] ++ ([(g, .cells cur 51)] ++ m.R)))) [] w (ww1.setCell ⟨db, p, none⟩ (.int .u8 ((bx ^^^ s.turn : Nat) : Int)))) := hDx (HK1.out.bset 3 rfl p (by rw [bl_len]; exact HD.out.1) _)
          obtain ⟨w32, hv⟩ := nm (ww1.setCell ⟨db, p, none⟩ (.int .u8 ((bx ^^^ s.turn : Nat) : Int)))
          rw [← hv] at J32
          rw [← hv]
          clear hv HK1 x3 x4 p0 p1
          obtain ⟨D, hDD⟩ := nm (turnS c p s.turn)
          have hD0 : strOfNums ((bl c).set p ((bx ^^^ s.turn : Nat) : Int)) = D := by rw [hDD, HD.out.2.1]; rfl
          have hDs : 16 ≤ D.size ∧ D.size ≤ 65552 := by rw [hDD, turnS_size]; have := HQ.out.2.2.2; omega
          have HDD := hDx (And.intro hDD (And.intro hD0 hDs))
          clear hDD hD0 hDs
          by_cases htb : m.B.testBit q = true
          ·have HT := hDx htb
           clear htb
           try simp only [Act.put, sAx, s0x, s1x]
           refine wp_region_mid 7 [197, 198, 199, 200, 201, 202, 203] [] [[], [197], [198], [], [200], [], [202]] (Ftab [(197, .val (.int .i64 (k : Int))), (198, .val (.pointer (some ⟨t2, k, none⟩))), (199, .val (.pointer (some ⟨m.t, 0, none⟩))), (200, .val (.pointer (some ⟨yb, 0, none⟩))), (201, .val (.int .u64 (q : Int))), (202, .val (.slice (some ⟨db, 0, none⟩) c.size cp2)), (203, .val (.string (D)))]) 204 196 [205, 206] (by kernel_rfl) (by kernel_rfl) (by rfl) (by rfl) (by kernel_rfl) rfl rfl rfl rfl (by kernel_rfl) (fun _ _ _ _ _ h => h) ?hO6 ?hE6
           case hO6 =>
            refine ⟨?_, ?_, ?_, ?_, ?_, ?_, ?_, trivial⟩
            ·intro act u HB HO HA
             have e12 := gE (x := .int .i64 (k : Int)) (HO 12 (by decide))
             refine calm_val 197 _ rfl ?_ rfl rfl
             clear HB HO HA
             go_simp
             try rfl
            ·intro act u HB HO HA
             have e7 := gE (x := .pointer (some ⟨t2, 0, none⟩)) (HO 7 (by decide))
             have e197 : _ = _ := gE (qA HA 197)
             refine calm_val 198 _ rfl ?_ rfl rfl
             clear HB HO HA
             go_simp
             try rfl
            ·intro act u HB HO HA
             have e198 : _ = _ := gE (qA HA 198)
             have HS := J32.out.drew.call HB
             have lT : u.cell? ⟨t2, k, none⟩ = some (.pointer (some ⟨m.t, 0, none⟩)) := (HS.cells 10 rfl).cell _ _ (two_at k HJ.out.1 _ _)
             refine calm_val 199 _ rfl ?_ rfl rfl
             clear HB HO HA HS
             go_simp
            ·intro act u HB HO HA
             have e18 := gE (x := .pointer (some ⟨yb, 0, none⟩)) (HO 18 (by decide))
             refine calm_val 200 _ rfl ?_ rfl rfl
             clear HB HO HA
             go_simp
             try rfl
            ·intro act u HB HO HA
             have e200 : _ = _ := gE (qA HA 200)
             have HS := J32.out.drew.call HB
             have lT : u.cell? ⟨yb, 0, none⟩ = some (.int .u64 (q : Int)) := (HS.cells 4 rfl).cell _ _ (rfl)
             refine calm_val 201 _ rfl ?_ rfl rfl
             clear HB HO HA HS
             go_simp
            ·intro act u HB HO HA
             have e19 := gE (x := .slice (some ⟨db, 0, none⟩) c.size cp2) (HO 19 (by decide))
             refine calm_val 202 _ rfl ?_ rfl rfl
             clear HB HO HA
             go_simp
             try rfl
            intro act u HB HO HA
            have e202 : _ = _ := gE (qA HA 202)
            have HS := J32.out.drew.call HB
            have hcv := HS.bconv 3 rfl (n := c.size) (by rw [List.length_set, bl_len]) cp2
            rw [HDD.out.2.1] at hcv
            refine calm_val 203 _ rfl ?_ rfl rfl
            clear HB HO HA HS
            go_simp
           intro vT ww2 HB HF HN
           have f197 : _ = _ := qA HF 197
           have f198 : _ = _ := qA HF 198
           have f199 : _ = _ := qA HF 199
           have f200 : _ = _ := qA HF 200
           have f201 : _ = _ := qA HF 201
           have f202 : _ = _ := qA HF 202
           have f203 : _ = _ := qA HF 203
           have HK2 := hDx (J32.out.drew.call HB)
           simp only [fill, Act.put, sAx, s0x, s1x, dSx, d0x, f197, f198, f199, f200, f201, f202, f203]
           clear HB HF HN f197 f198 f199 f200 f201 f202 f203
           refine ⟨#[.pointer (some ⟨m.t, 0, none⟩), .int .u64 0, .int .u64 (q : Int), .string (D)], _, ?_, tun_there m.t m.w m.n m.b m.B m.H m.T.length q K K' D m.any m.fst m.sur ww2 (HK2.out.get 0 rfl) (HK2.out.get 5 rfl) (HK2.out.get 1 rfl) (HK2.out.get 2 rfl) HMo.out.1.win HMo.out.2.2.1 (q50 HQ.out.1 HMo.out.2.1.len HK.out.1 H40.out) HT.out, ?_⟩
           ·simp only [mTx, mCx, mNx]
            try rfl
           rintro e u1 ⟨rfl, B1⟩
           refine ⟨_, rfl, rfl, ?_⟩
           simp only [exts, Act.put, sAx, s0x, s1x, dSx, d0x, gDx, List.getElem?_toArray, List.getElem?_cons_zero, List.getElem?_cons_succ, Option.getD_some, List.length_cons, List.length_nil, Nat.reduceAdd, Nat.zero_add]
           have J33 : Hid (KS ([(m.t, tunO m.w m.n K K' m.fst m.sur m.T.length), (m.w, winO m.b m.H m.any), (m.b, bitO m.B), (db, bob ((bl c).set p ((bx ^^^ s.turn : Nat) : Int)) zz), (yb, .cells #[.int .u64 (q : Int), .string c, .string x, .int .i64 hd] 51), (m.n, nowO)] ++ (o.L K' K ++ ([(t2, .cells (two k (.pointer (some ⟨m.t, 0, none⟩)) (.pointer (some ⟨o.t, 0, none⟩))) 47), (s2, .cells (two k m.v o.v) 49), (xb, (.cells (shC A B E F) 23))] ++ ([(g, .cells cur 51)] ++ m.R)))) [] w u1) := hDx (HK2.out.call B1)
           clear B1 J32 HK2
           have b5 : u1.cell? ⟨bs, off + i * 6 + 5, none⟩ = some (.int .u8 s.turn) := (J33.out.below.cell (p := ⟨bs, _, none⟩) HK.out.2.2.2).trans HC.out.2.2.2.2.2
           have y3 : u1.cell? ⟨yb, 3, none⟩ = some (.int .i64 1) := (J33.out.cells 4 rfl).cell 3 _ (by show some (Value.int .i64 hd) = _; rw [HQ.out.2.2.1, HT.out]; rfl)
           by_cases ht0 : s.turn = 0
           ·have t0 : (s.turn : Int) = 0 := by omega
            clear ht0
            go_wp2_with fail
            go_roundw
            case rel =>
             obtain ⟨m3, o3, q1, q2, q3, q4⟩ := back (i := i + 1) HMo.out.2.2.2.2 (by have h := J33.out.perm (List.perm_append_comm_assoc [(m.t, tunO m.w m.n K K' m.fst m.sur m.T.length), (m.w, winO m.b m.H m.any), (m.b, bitO m.B)] [(db, bob ((bl c).set p ((bx ^^^ s.turn : Nat) : Int)) zz), (yb, .cells #[.int .u64 (q : Int), .string c, .string x, .int .i64 hd] 51)] _); have h2 := h.tail.tail; unfold stL; rw [HR.out.2.1]; exact h2) HMo.out.1.up HMo.out.2.1.up
             exact ⟨i + 1, m3, o3, HK.out.1, by first | rfl | go_num, q1, q2, q3, q4⟩
            exact measI2 _ _ HK.out.1
           have t0 : ¬ (s.turn : Int) = 0 := by omega
           clear ht0
           go_wp2_with fail
           go_roundw
           case rel =>
            obtain ⟨m3, o3, q1, q2, q3, q4⟩ := back (i := i + 1) HMo.out.2.2.2.2 (by have h := J33.out.perm (List.perm_append_comm_assoc [(m.t, tunO m.w m.n K K' m.fst m.sur m.T.length), (m.w, winO m.b m.H m.any), (m.b, bitO m.B)] [(db, bob ((bl c).set p ((bx ^^^ s.turn : Nat) : Int)) zz), (yb, .cells #[.int .u64 (q : Int), .string c, .string x, .int .i64 hd] 51)] _); have h2 := h.tail.tail; unfold stL; rw [HR.out.2.1]; exact h2) HMo.out.1.up HMo.out.2.1.up
            exact ⟨i + 1, m3, o3, HK.out.1, by first | rfl | go_num, q1, q2, q3, q4⟩
           exact measI2 _ _ HK.out.1
          have HT := hDx (show m.B.testBit q = false by simpa using htb)
          clear htb
          by_cases hop : opensS K' (nonS q) .empty D
          ·have HO2 := hDx hop
           clear hop
           try simp only [Act.put, sAx, s0x, s1x]
           refine wp_region_mid 7 [197, 198, 199, 200, 201, 202, 203] [] [[], [197], [198], [], [200], [], [202]] (Ftab [(197, .val (.int .i64 (k : Int))), (198, .val (.pointer (some ⟨t2, k, none⟩))), (199, .val (.pointer (some ⟨m.t, 0, none⟩))), (200, .val (.pointer (some ⟨yb, 0, none⟩))), (201, .val (.int .u64 (q : Int))), (202, .val (.slice (some ⟨db, 0, none⟩) c.size cp2)), (203, .val (.string (D)))]) 204 196 [205, 206] (by kernel_rfl) (by kernel_rfl) (by rfl) (by rfl) (by kernel_rfl) rfl rfl rfl rfl (by kernel_rfl) (fun _ _ _ _ _ h => h) ?hO7 ?hE7
           case hO7 =>
            refine ⟨?_, ?_, ?_, ?_, ?_, ?_, ?_, trivial⟩
            ·intro act u HB HO HA
             have e12 := gE (x := .int .i64 (k : Int)) (HO 12 (by decide))
             refine calm_val 197 _ rfl ?_ rfl rfl
             clear HB HO HA
             go_simp
             try rfl
            ·intro act u HB HO HA
             have e7 := gE (x := .pointer (some ⟨t2, 0, none⟩)) (HO 7 (by decide))
             have e197 : _ = _ := gE (qA HA 197)
             refine calm_val 198 _ rfl ?_ rfl rfl
             clear HB HO HA
             go_simp
             try rfl
            ·intro act u HB HO HA
             have e198 : _ = _ := gE (qA HA 198)
             have HS := J32.out.drew.call HB
             have lT : u.cell? ⟨t2, k, none⟩ = some (.pointer (some ⟨m.t, 0, none⟩)) := (HS.cells 10 rfl).cell _ _ (two_at k HJ.out.1 _ _)
             refine calm_val 199 _ rfl ?_ rfl rfl
             clear HB HO HA HS
             go_simp
            ·intro act u HB HO HA
             have e18 := gE (x := .pointer (some ⟨yb, 0, none⟩)) (HO 18 (by decide))
             refine calm_val 200 _ rfl ?_ rfl rfl
             clear HB HO HA
             go_simp
             try rfl
            ·intro act u HB HO HA
             have e200 : _ = _ := gE (qA HA 200)
             have HS := J32.out.drew.call HB
             have lT : u.cell? ⟨yb, 0, none⟩ = some (.int .u64 (q : Int)) := (HS.cells 4 rfl).cell _ _ (rfl)
             refine calm_val 201 _ rfl ?_ rfl rfl
             clear HB HO HA HS
             go_simp
            ·intro act u HB HO HA
             have e19 := gE (x := .slice (some ⟨db, 0, none⟩) c.size cp2) (HO 19 (by decide))
             refine calm_val 202 _ rfl ?_ rfl rfl
             clear HB HO HA
             go_simp
             try rfl
            intro act u HB HO HA
            have e202 : _ = _ := gE (qA HA 202)
            have HS := J32.out.drew.call HB
            have hcv := HS.bconv 3 rfl (n := c.size) (by rw [List.length_set, bl_len]) cp2
            rw [HDD.out.2.1] at hcv
            refine calm_val 203 _ rfl ?_ rfl rfl
            clear HB HO HA HS
            go_simp
           intro vT ww2 HB HF HN
           have f197 : _ = _ := qA HF 197
           have f198 : _ = _ := qA HF 198
           have f199 : _ = _ := qA HF 199
           have f200 : _ = _ := qA HF 200
           have f201 : _ = _ := qA HF 201
           have f202 : _ = _ := qA HF 202
           have f203 : _ = _ := qA HF 203
           have HK2 := hDx (J32.out.drew.call HB)
           simp only [fill, Act.put, sAx, s0x, s1x, dSx, d0x, f197, f198, f199, f200, f201, f202, f203]
           clear HB HF HN f197 f198 f199 f200 f201 f202 f203
           refine ⟨#[.pointer (some ⟨m.t, 0, none⟩), .int .u64 0, .int .u64 (q : Int), .string (D)], _, ?_, tun_open m.t m.w m.n m.b m.B m.H m.T.length q K K' D m.any m.fst m.sur ww2 (HK2.out.get 0 rfl) (HK2.out.get 5 rfl) (HK2.out.get 1 rfl) (HK2.out.get 2 rfl) HMo.out.1.win HMo.out.2.2.1 HMo.out.2.2.2.1 (q50 HQ.out.1 HMo.out.2.1.len HK.out.1 H40.out) HDD.out.2.2.1 HDD.out.2.2.2 HT.out HO2.out, ?_⟩
           ·simp only [mTx, mCx, mNx]
            try rfl
           rintro e u1 ⟨rfl, KQ⟩
           refine ⟨_, rfl, rfl, ?_⟩
           simp only [exts, Act.put, sAx, s0x, s1x, dSx, d0x, gDx, List.getElem?_toArray, List.getElem?_cons_zero, List.getElem?_cons_succ, Option.getD_some, List.length_cons, List.length_nil, Nat.reduceAdd, Nat.zero_add]
           obtain ⟨tx, htx⟩ := nm (trnS K' (nonS q) 1 (cutS D))
           rw [← htx]
           have HTX := hDx htx
           clear htx
           have J33 : Hid (KS ([(m.t, tunO m.w m.n K K' m.fst true m.T.length), (m.w, winO m.b (mkH m.any m.H q) true), (m.b, bitO (m.B ||| 2 ^ q)), (db, bob ((bl c).set p ((bx ^^^ s.turn : Nat) : Int)) zz), (yb, .cells #[.int .u64 (q : Int), .string c, .string x, .int .i64 hd] 51), (m.n, nowO)] ++ (o.L K' K ++ ([(t2, .cells (two k (.pointer (some ⟨m.t, 0, none⟩)) (.pointer (some ⟨o.t, 0, none⟩))) 47), (s2, .cells (two k m.v o.v) 49), (xb, (.cells (shC A B E F) 23))] ++ ([(g, .cells cur 51)] ++ m.R)))) [] w u1) := hDx (KS.overH (M := [(m.t, tunO m.w m.n K K' m.fst m.sur m.T.length), (m.w, winO m.b m.H m.any), (m.b, bitO m.B)]) (R := [(db, bob ((bl c).set p ((bx ^^^ s.turn : Nat) : Int)) zz), (yb, .cells #[.int .u64 (q : Int), .string c, .string x, .int .i64 hd] 51), (m.n, nowO)] ++ (o.L K' K ++ ([(t2, .cells (two k (.pointer (some ⟨m.t, 0, none⟩)) (.pointer (some ⟨o.t, 0, none⟩))) 47), (s2, .cells (two k m.v o.v) 49), (xb, (.cells (shC A B E F) 23))] ++ ([(g, .cells cur 51)] ++ m.R)))) HK2.out KQ rfl rfl)
           clear KQ J32 HK2
           have b5 : u1.cell? ⟨bs, off + i * 6 + 5, none⟩ = some (.int .u8 s.turn) := (J33.out.below.cell (p := ⟨bs, _, none⟩) HK.out.2.2.2).trans HC.out.2.2.2.2.2
           by_cases ht0 : s.turn = 0
           ·have t0 : (s.turn : Int) = 0 := by omega
            have htx : tx = x := by rw [HTX.out, HDD.out.1, ht0, turnS_zero _ _ HD.out.1, HQ.out.2.1]; exact open_seal _ _ _ _
            subst htx
            clear ht0
            have y3 : u1.cell? ⟨yb, 3, none⟩ = some (.int .i64 0) := (J33.out.cells 4 rfl).cell 3 _ (by show some (Value.int .i64 hd) = _; rw [HQ.out.2.2.1, HT.out]; rfl)
            have y2 : u1.cell? ⟨yb, 2, none⟩ = some (.string tx) := (J33.out.cells 4 rfl).cell 2 _ rfl
            have cj : u1.cell? ⟨s2, j, none⟩ = some (.slice (some ⟨g, 0, none⟩) o.T.length cp) := by
             have h := (J33.out.cells 11 rfl).cell j _ (two_far k j HJ.out.1 HJ.out.2.1 _ _)
             rw [HR.out.1] at h
             exact h
            have cg : u1.cell? ⟨g, q * 4 + 3, none⟩ = some (.int .i64 0) := (J33.out.cells 13 rfl).cell _ _ (by rw [cur_at rfl HR.out.2.2.2.2.2 HQ.out.1, HT.out]; rfl)
            have yg : u1.frozen? ⟨g, q * 4 + 3, none⟩ = false := Lib.frozen_of_heap (J33.out.get 13 rfl) _
            have z0 : (q : Int) < o.T.length := Int.ofNat_lt.2 HQ.out.1
            have z1 : (0 : Int) ≤ q := Int.natCast_nonneg _
            go_wp2_with fail
            go_roundw
            case rel =>
             obtain ⟨m3, o3, q1, q2, q3, q4⟩ := back (i := i + 1) (show Who k { m with sur := true, any := true, B := m.B ||| 2 ^ q, H := mkH m.any m.H q } { o with R := [(g, .cells (cur.setIfInBounds (q * 4 + 3) (.int .i64 1)) 51)] } K K' K1 K2 from HMo.out.2.2.2.2) (by have h := (J33.out.set 13 rfl (q * 4 + 3) (.int .i64 1)).perm (List.perm_append_comm_assoc [(m.t, tunO m.w m.n K K' m.fst true m.T.length), (m.w, winO m.b (mkH m.any m.H q) true), (m.b, bitO (m.B ||| 2 ^ q))] [(db, bob ((bl c).set p ((bx ^^^ s.turn : Nat) : Int)) zz), (yb, .cells #[.int .u64 (q : Int), .string c, .string tx, .int .i64 hd] 51)] _); exact h.tail.tail) ((HMo.out.1.heard (q64 HQ.out.1 HMo.out.2.1.len HK.out.1 H40.out)).other rfl) (HMo.out.2.1.mark rfl HQ.out.1 HR.out.1 HR.out.2.2.1 HR.out.2.2.2.1 HR.out.2.2.2.2.1 HR.out.2.2.2.2.2)
             exact ⟨i + 1, m3, o3, HK.out.1, by first | rfl | go_num, q1, q2, q3, q4⟩
            exact measI2 _ _ HK.out.1
           have t0 : ¬ (s.turn : Int) = 0 := by omega
           clear ht0
           go_wp2_with (go_at_call 5; refine (speaks_any _ (HP.out.1.more J33.out.below)).mono ?_; rintro e w94 ⟨rfl, B1⟩; have Z94 := hDx (J33.out.call B1); clear B1)
           go_ret
           exact ⟨rfl, Z94.out.below⟩
          have HO2 := hDx hop
          clear hop
          try simp only [Act.put, sAx, s0x, s1x]
          refine wp_region_mid 7 [197, 198, 199, 200, 201, 202, 203] [] [[], [197], [198], [], [200], [], [202]] (Ftab [(197, .val (.int .i64 (k : Int))), (198, .val (.pointer (some ⟨t2, k, none⟩))), (199, .val (.pointer (some ⟨m.t, 0, none⟩))), (200, .val (.pointer (some ⟨yb, 0, none⟩))), (201, .val (.int .u64 (q : Int))), (202, .val (.slice (some ⟨db, 0, none⟩) c.size cp2)), (203, .val (.string (D)))]) 204 196 [205, 206] (by kernel_rfl) (by kernel_rfl) (by rfl) (by rfl) (by kernel_rfl) rfl rfl rfl rfl (by kernel_rfl) (fun _ _ _ _ _ h => h) ?hO8 ?hE8
          case hO8 =>
           refine ⟨?_, ?_, ?_, ?_, ?_, ?_, ?_, trivial⟩
           ·intro act u HB HO HA
            have e12 := gE (x := .int .i64 (k : Int)) (HO 12 (by decide))
            refine calm_val 197 _ rfl ?_ rfl rfl
            clear HB HO HA
            go_simp
            try rfl
           ·intro act u HB HO HA
            have e7 := gE (x := .pointer (some ⟨t2, 0, none⟩)) (HO 7 (by decide))
            have e197 : _ = _ := gE (qA HA 197)
            refine calm_val 198 _ rfl ?_ rfl rfl
            clear HB HO HA
            go_simp
            try rfl
           ·intro act u HB HO HA
            have e198 : _ = _ := gE (qA HA 198)
            have HS := J32.out.drew.call HB
            have lT : u.cell? ⟨t2, k, none⟩ = some (.pointer (some ⟨m.t, 0, none⟩)) := (HS.cells 10 rfl).cell _ _ (two_at k HJ.out.1 _ _)
            refine calm_val 199 _ rfl ?_ rfl rfl
            clear HB HO HA HS
            go_simp
           ·intro act u HB HO HA
            have e18 := gE (x := .pointer (some ⟨yb, 0, none⟩)) (HO 18 (by decide))
            refine calm_val 200 _ rfl ?_ rfl rfl
            clear HB HO HA
            go_simp
            try rfl
           ·intro act u HB HO HA
            have e200 : _ = _ := gE (qA HA 200)
            have HS := J32.out.drew.call HB
            have lT : u.cell? ⟨yb, 0, none⟩ = some (.int .u64 (q : Int)) := (HS.cells 4 rfl).cell _ _ (rfl)
            refine calm_val 201 _ rfl ?_ rfl rfl
            clear HB HO HA HS
            go_simp
           ·intro act u HB HO HA
            have e19 := gE (x := .slice (some ⟨db, 0, none⟩) c.size cp2) (HO 19 (by decide))
            refine calm_val 202 _ rfl ?_ rfl rfl
            clear HB HO HA
            go_simp
            try rfl
           intro act u HB HO HA
           have e202 : _ = _ := gE (qA HA 202)
           have HS := J32.out.drew.call HB
           have hcv := HS.bconv 3 rfl (n := c.size) (by rw [List.length_set, bl_len]) cp2
           rw [HDD.out.2.1] at hcv
           refine calm_val 203 _ rfl ?_ rfl rfl
           clear HB HO HA HS
           go_simp
          intro vT ww2 HB HF HN
          have f197 : _ = _ := qA HF 197
          have f198 : _ = _ := qA HF 198
          have f199 : _ = _ := qA HF 199
          have f200 : _ = _ := qA HF 200
          have f201 : _ = _ := qA HF 201
          have f202 : _ = _ := qA HF 202
          have f203 : _ = _ := qA HF 203
          have HK2 := hDx (J32.out.drew.call HB)
          simp only [fill, Act.put, sAx, s0x, s1x, dSx, d0x, f197, f198, f199, f200, f201, f202, f203]
          clear HB HF HN f197 f198 f199 f200 f201 f202 f203
          refine ⟨#[.pointer (some ⟨m.t, 0, none⟩), .int .u64 0, .int .u64 (q : Int), .string (D)], _, ?_, tun_shut m.t m.w m.n m.b m.B m.H m.T.length q K K' D m.any m.fst m.sur ww2 (HK2.out.get 0 rfl) (HK2.out.get 5 rfl) (HK2.out.get 1 rfl) (HK2.out.get 2 rfl) HMo.out.1.win HMo.out.2.2.1 HMo.out.2.2.2.1 (q50 HQ.out.1 HMo.out.2.1.len HK.out.1 H40.out) HDD.out.2.2.1 HDD.out.2.2.2 HT.out HO2.out, ?_⟩
          ·simp only [mTx, mCx, mNx]
           try rfl
          rintro e u1 ⟨rfl, B1⟩
          refine ⟨_, rfl, rfl, ?_⟩
          simp only [exts, Act.put, sAx, s0x, s1x, dSx, d0x, gDx, List.getElem?_toArray, List.getElem?_cons_zero, List.getElem?_cons_succ, Option.getD_some, List.length_cons, List.length_nil, Nat.reduceAdd, Nat.zero_add]
          have J33 : Hid (KS ([(m.t, tunO m.w m.n K K' m.fst m.sur m.T.length), (m.w, winO m.b m.H m.any), (m.b, bitO m.B), (db, bob ((bl c).set p ((bx ^^^ s.turn : Nat) : Int)) zz), (yb, .cells #[.int .u64 (q : Int), .string c, .string x, .int .i64 hd] 51), (m.n, nowO)] ++ (o.L K' K ++ ([(t2, .cells (two k (.pointer (some ⟨m.t, 0, none⟩)) (.pointer (some ⟨o.t, 0, none⟩))) 47), (s2, .cells (two k m.v o.v) 49), (xb, (.cells (shC A B E F) 23))] ++ ([(g, .cells cur 51)] ++ m.R)))) [] w u1) := hDx (HK2.out.call B1)
          clear B1 J32 HK2
          have b5 : u1.cell? ⟨bs, off + i * 6 + 5, none⟩ = some (.int .u8 s.turn) := (J33.out.below.cell (p := ⟨bs, _, none⟩) HK.out.2.2.2).trans HC.out.2.2.2.2.2
          have t0 : ¬ (s.turn : Int) = 0 := fun e => HO2.out (by
           have e0 : s.turn = 0 := by omega
           rw [HDD.out.1, e0, turnS_zero _ _ HD.out.1, HQ.out.2.1]
           exact opens_seal _ _ _ _)
          go_wp2_with fail
          go_roundw
          case rel =>
           obtain ⟨m3, o3, q1, q2, q3, q4⟩ := back (i := i + 1) HMo.out.2.2.2.2 (by have h := J33.out.perm (List.perm_append_comm_assoc [(m.t, tunO m.w m.n K K' m.fst m.sur m.T.length), (m.w, winO m.b m.H m.any), (m.b, bitO m.B)] [(db, bob ((bl c).set p ((bx ^^^ s.turn : Nat) : Int)) zz), (yb, .cells #[.int .u64 (q : Int), .string c, .string x, .int .i64 hd] 51)] _); have h2 := h.tail.tail; unfold stL; rw [HR.out.2.1]; exact h2) HMo.out.1.up HMo.out.2.1.up
           exact ⟨i + 1, m3, o3, HK.out.1, by first | rfl | go_num, q1, q2, q3, q4⟩
          exact measI2 _ _ HK.out.1
        have i1 := nlt_i hlt
        clear hlt hi
        go_wp2_with (go_at_call 5; refine (speaks_any _ (HP.out.1.more JR2.out.below)).mono ?_; rintro e w93 ⟨rfl, B1⟩; have Z93 := hDx (JR2.out.call B1); clear B1)
        go_ret
        exact ⟨rfl, Z93.out.below⟩
       have g3 := n32_i h3
       clear h3
       go_wp2_with (go_at_call 5; refine (speaks_any _ (HP.out.1.more JR.out.below)).mono ?_; rintro e w84 ⟨rfl, B1⟩; have Z84 := hDx (JR.out.call B1); clear B1)
       go_ret
       exact ⟨rfl, Z84.out.below⟩
      have g2 := n32_i h2
      clear h2
      go_wp2_with (go_at_call 5; refine (speaks_any _ (HP.out.1.more JR.out.below)).mono ?_; rintro e w83 ⟨rfl, B1⟩; have Z83 := hDx (JR.out.call B1); clear B1)
      go_ret
      exact ⟨rfl, Z83.out.below⟩
     have g1 := n32_i h1
     clear h1
     go_wp2_with (go_at_call 5; refine (speaks_any _ (HP.out.1.more JR.out.below)).mono ?_; rintro e w82 ⟨rfl, B1⟩; have Z82 := hDx (JR.out.call B1); clear B1)
     go_ret
     exact ⟨rfl, Z82.out.below⟩
    have g0 := n32_i h0
    clear h0
    go_wp2_with (go_at_call 5; refine (speaks_any _ (HP.out.1.more JR.out.below)).mono ?_; rintro e w81 ⟨rfl, B1⟩; have Z81 := hDx (JR.out.call B1); clear B1)
    go_ret
    exact ⟨rfl, Z81.out.below⟩
   have h40 := gt40_i h40
   go_wp2_with (go_at_call 5; refine (speaks_any _ (HP.out.1.more JR.out.below)).mono ?_; rintro e w80 ⟨rfl, B1⟩; have Z80 := hDx (JR.out.call B1); clear B1)
   go_ret
   exact ⟨rfl, Z80.out.below⟩
  obtain ⟨n1, n2⟩ := big_i hN
  have i1 := nlt_i hlt
  clear hlt hN hi
  go_wp2_with (go_at_call 5; refine (speaks_any _ (HP.out.1.more JR.out.below)).mono ?_; rintro e w91 ⟨rfl, B1⟩; have Z91 := hDx (JR.out.call B1); clear B1)
  go_ret
  exact ⟨rfl, Z91.out.below⟩
end Go.Proofs.YtoplbfijodebmaaGreatDoor
