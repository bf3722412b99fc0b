/-
  The walk.
-/
import Derived.Test.YtoplbfijodebmaaGreatDoorM44UA
set_option linter.unusedVariables false
set_option linter.unusedSimpArgs false
set_option maxRecDepth 100000
set_option maxHeartbeats 40000000
namespace Go.Proofs.YtoplbfijodebmaaGreatDoor
open Go.RowKit T
def StrsAt (w : World) (ao : Option Addr) (l : List ByteArray) : Prop :=
 ∀ k (h : k < l.length), ∃ b off, ao = some ⟨b, off, none⟩ ∧ b < w.heap.size ∧ w.cell? ⟨b, off + k, none⟩ = some (.string l[k])
def reachN : Nat := 140737488355328
theorem ag23 : AgTy 23 4 := agTy (by kernel_rfl)
theorem ap_i {N z : Nat} (h : N ≤ 4096) (h2 : z ≤ reachN) : ∃ R M : Nat, M = N + 8 + z ∧ (N : Int) ≤ 4096 ∧ IntKind.i64.wrap ((N : Int) + 8) = R ∧ wrap64 ((N : Int) + 8) = R ∧ IntKind.i64.wrap ((R : Int) + (z : Int)) = M ∧ wrap64 ((R : Int) + (z : Int)) = M := by
 unfold reachN at h2
 refine ⟨N + 8, N + 8 + z, rfl, by omega, ?_, ?_, ?_, ?_⟩
 ·rw [show (N : Int) + 8 = ((N + 8 : Nat) : Int) by omega]; exact IntWalk.i64_in _ (by omega)
 ·unfold wrap64; omega
 ·rw [show ((N + 8 : Nat) : Int) + (z : Int) = ((N + 8 + z : Nat) : Int) by omega]; exact IntWalk.i64_in _ (by omega)
 unfold wrap64; omega
theorem big_i {N : Nat} (h : ¬ N ≤ 4096) : (4096 : Int) < N ∧ ¬ (N : Int) ≤ 4096 := by omega
theorem small_i {N : Nat} (h : N ≤ 4096) : (N : Int) ≤ 4096 ∧ ¬ (4096 : Int) < N := by omega
theorem lt_i {i n : Nat} (h : i < n) : (i : Int) < n := Int.ofNat_lt.2 h
theorem nlt_i {i n : Nat} (h : ¬ i < n) : ¬ (i : Int) < n := fun e => h (Int.ofNat_lt.1 e)
theorem n32_i {s : ByteArray} (h : ¬ s.size = 32) : ¬ (s.size : Int) = 32 := by omega
theorem le20_i {n : Nat} (h : n ≤ 20) : ¬ (20 : Int) < n := by omega
theorem gt20_i {n : Nat} (h : ¬ n ≤ 20) : (20 : Int) < n := by omega
theorem sucR {i n : Nat} (h : i < n) (hn : n ≤ reachN) : IntKind.i64.wrap ((i : Int) + 1) = ((i + 1 : Nat) : Int) ∧ wrap64 ((i : Int) + 1) = ((i + 1 : Nat) : Int) := by
 unfold reachN at hn
 constructor
 ·rw [show (i : Int) + 1 = ((i + 1 : Nat) : Int) by omega]; exact IntWalk.i64_in _ (by omega)
 unfold wrap64; omega
theorem ropen_good (key nonce a x : ByteArray) (w : World) (h32 : key.size = 32) (h12 : nonce.size = 12) (ha : a.size ≤ 65536) (h16 : 16 ≤ x.size) (hx : x.size ≤ 65552) (ho : opensS key nonce a x) :
  Calls Tryz.prog 10 #[.string key, .string nonce, .string a, .string x] w fun e w' => e = .returned (.tuple #[.string (trnS key nonce 1 (cutS x)), .int .i64 0]) ∧ Below w.heap.size w w' :=
 (ropen_any key nonce a x w h32 h12 ha h16 hx).mono fun e w' h => ⟨(h.1.resolve_right fun q => q.1 ho).2, h.2⟩
theorem ropen_bad (key nonce a x : ByteArray) (w : World) (h32 : key.size = 32) (h12 : nonce.size = 12) (ha : a.size ≤ 65536) (h16 : 16 ≤ x.size) (hx : x.size ≤ 65552) (ho : ¬ opensS key nonce a x) :
  Calls Tryz.prog 10 #[.string key, .string nonce, .string a, .string x] w fun e w' => e = .returned (.tuple #[.string .empty, .int .i64 100]) ∧ Below w.heap.size w w' :=
 (ropen_any key nonce a x w h32 h12 ha h16 hx).mono fun e w' h => ⟨(h.1.resolve_left fun q => ho q.1).2, h.2⟩
theorem emp65 : ByteArray.empty.size ≤ 65536 := by decide
theorem t50 {i n : Nat} (h : i < n) (h2 : n ≤ 20) : i < 50 := by omega
theorem apart_walk (A B E F A' B' E' F' : ByteArray) (l : List ByteArray) (ao : Option Addr) (cap : Nat) (w : World) (hT : Tab w) (hS : StrsAt w ao l) (hlm : l.length ≤ reachN) (hsz : ∀ k (h : k < l.length), l[k].size ≤ reachN) :
  Calls Tryz.prog 3 #[.agg (shC A B E F), .agg (shC A' B' E' F'), .slice ao l.length cap] w fun e w' => e = .returned (.bool true) ∧ Below w.heap.size w w' := by
 have HP := hDx (And.intro hT (And.intro hS (And.intro hlm hsz)))
 clear hT hS hlm hsz
 unfold shC
 go_enter Tryz.func3, Tryz.ntmps3
 go_upto_region 1 with (fail)
 have HK0 := hDx (KS.start w)
 have hm1 := ((HK0.out.made (.cells #[.string A, .string B, .string E, .string F] 23)).made (.cells #[.string A', .string B', .string E', .string F'] 23))
 try rw [show ((World.alloc w (.cells #[.string A, .string B, .string E, .string F] 23))).heap.size = w.heap.size + 1 by simp] at hm1
 obtain ⟨yb, hgyb⟩ := nm (w.heap.size + 1)
 obtain ⟨xb, hgxb⟩ := nm w.heap.size
 obtain ⟨ww1, hv1⟩ := nm (World.alloc (World.alloc w (.cells #[.string A, .string B, .string E, .string F] 23)) (.cells #[.string A', .string B', .string E', .string F'] 23))
 rw [← hv1, ← hgyb, ← hgxb] at hm1
 rw [← hv1]
 try rw [← hgyb]
 try rw [← hgxb]
 have HK1 : Hid (KS [(yb, .cells (shC A' B' E' F') 23), (xb, .cells (shC A B E F) 23)] [] w ww1) := hDx hm1
 clear hm1 hv1 hgxb hgyb
 go_wp2_with fail
 go_loopw [7, 8] (fun vN vI wr => ∃ i N : Nat, i ≤ l.length ∧ (∀ j (h : j < l.length), j < i → l[j].size ≤ N) ∧ vN = .int .i64 (N : Int) ∧ vI = .int .i64 (i : Int) ∧ KS [(yb, .cells (shC A' B' E' F') 23), (xb, .cells (shC A B E F) 23)] [] w wr) (fun _ vI _ => l.length - (intOf vI).toNat)
 case atStart => exact ⟨0, 0, Nat.zero_le _, fun j _ h => absurd h (Nat.not_lt_zero j), rfl, rfl, HK1.out⟩
 case round =>
  obtain ⟨i, N, hi, hall, rfl, rfl, K⟩ := hrel
  have JR := hDx K
  have HA := hDx hall
  clear K hall
  by_cases hlt : i < l.length
  ·by_cases hN : N ≤ 4096
   ·obtain ⟨bb, off, hal, hbw, q0⟩ := HP.out.2.1 i hlt
    subst hal
    have q1 := (JR.out.below.cell (p := ⟨bb, _, none⟩) hbw).trans q0
    have hs1 := HP.out.2.2.2 i hlt
    obtain ⟨s, hs⟩ := nm l[i]
    rw [← hs] at q0 q1 hs1
    obtain ⟨R, M, hM, n1, n2, n3, n4, n5⟩ := ap_i hN hs1
    obtain ⟨m1, m2⟩ := sucR hlt HP.out.2.2.1
    have i1 := lt_i hlt
    have hs' : ∀ h : i < l.length, l[i]'h = s := fun h => hs.symm
    have HK := hDx (And.intro hs' (And.intro hM hlt))
    clear hs hs' hlt hN hbw q0 hM hs1 hi
    go_wp2_with fail
    go_roundw
    case rel => exact ⟨i + 1, M, HK.out.2.2, (fun j h hj => by
     rcases Nat.lt_or_ge j i with h1 | h1
     ·exact Nat.le_trans (HA.out j h h1) (by rw [HK.out.2.1]; omega)
     ·have h2 : j = i := by omega
      subst h2
      rw [HK.out.1 h, HK.out.2.1]; omega), rfl, by first | rfl | go_num, JR.out⟩
    exact measI2 _ _ HK.out.2.2
   obtain ⟨n1, n2⟩ := big_i hN
   have i1 := lt_i hlt
   clear hlt hN hi
   go_wp2_with (go_at_call 5; refine (speaks_any _ (HP.out.1.more JR.out.below)).mono ?_; rintro e w90 ⟨rfl, B1⟩; have Z90 := hDx (JR.out.call B1); clear B1)
   go_ret
   exact ⟨rfl, Z90.out.below⟩
  by_cases hN : N ≤ 4096
  ·obtain ⟨n1, n2⟩ := small_i hN
   have i1 := nlt_i hlt
   have hall : ∀ j (h : j < l.length), l[j].size ≤ 4096 := fun j h => Nat.le_trans (HA.out j h (by omega)) hN
   have HL := hDx hall
   clear hall hlt hN hi HA
   have cxb0 : wr.cell? ⟨xb, 0, none⟩ = some (.string A) := (JR.out.cells 1 rfl).cell 0 _ rfl
   have cxb1 : wr.cell? ⟨xb, 1, none⟩ = some (.string B) := (JR.out.cells 1 rfl).cell 1 _ rfl
   have cxb2 : wr.cell? ⟨xb, 2, none⟩ = some (.string E) := (JR.out.cells 1 rfl).cell 2 _ rfl
   have cxb3 : wr.cell? ⟨xb, 3, none⟩ = some (.string F) := (JR.out.cells 1 rfl).cell 3 _ rfl
   have cyb0 : wr.cell? ⟨yb, 0, none⟩ = some (.string A') := (JR.out.cells 0 rfl).cell 0 _ rfl
   have cyb1 : wr.cell? ⟨yb, 1, none⟩ = some (.string B') := (JR.out.cells 0 rfl).cell 1 _ rfl
   have cyb2 : wr.cell? ⟨yb, 2, none⟩ = some (.string E') := (JR.out.cells 0 rfl).cell 2 _ rfl
   have cyb3 : wr.cell? ⟨yb, 3, none⟩ = some (.string F') := (JR.out.cells 0 rfl).cell 3 _ rfl
   by_cases h20 : l.length ≤ 20
   ·have g20 := le20_i h20
    have H20 := hDx h20
    clear h20
    by_cases h0 : A.size = 32
    ·have g0 := i32 h0
     by_cases h1 : B.size = 32
     ·have g1 := i32 h1
      by_cases h2 : E.size = 32
      ·have g2 := i32 h2
       by_cases h3 : F.size = 32
       ·have g3 := i32 h3
        by_cases h4 : A'.size = 32
        ·have g4 := i32 h4
         by_cases h5 : B'.size = 32
         ·have g5 := i32 h5
          by_cases h6 : E'.size = 32
          ·have g6 := i32 h6
           by_cases h7 : F'.size = 32
           ·have g7 := i32 h7
            have HZ := hDx (And.intro h0 (And.intro h1 (And.intro h2 (And.intro h3 (And.intro h4 (And.intro h5 (And.intro h6 h7)))))))
            clear h0 h1 h2 h3 h4 h5 h6 h7
            obtain ⟨K1, hK1⟩ := nm (key1 A B E F)
            obtain ⟨K2, hK2⟩ := nm (key2 A B E F)
            obtain ⟨L1, hL1⟩ := nm (key1 A' B' E' F')
            obtain ⟨L2, hL2⟩ := nm (key2 A' B' E' F')
            have HN := hDx (And.intro hK1 (And.intro hK2 (And.intro hL1 hL2)))
            have HY := hDx (And.intro (show K1.size = 32 by rw [hK1]; exact key1_size _ _ _ _) (And.intro (show K2.size = 32 by rw [hK2]; exact key2_size _ _ _ _) (And.intro (show L1.size = 32 by rw [hL1]; exact key1_size _ _ _ _) (show L2.size = 32 by rw [hL2]; exact key2_size _ _ _ _))))
            clear hK1 hK2 hL1 hL2
            go_upto_region 8 with (fail)
            clear cxb0 cxb1 cxb2 cxb3 cyb0 cyb1 cyb2 cyb3 g20 g0 g1 g2 g3 g4 g5 g6 g7 n1 n2 i1
            try simp only [Act.put, sAx, s0x, s1x]
            refine wp_region_mid 2 [97, 98] [] [[], []] (Ftab [(97, .val (.agg (shC A B E F))), (98, .val (.agg limA))]) 99 96 [100, 101] (by kernel_rfl) (by kernel_rfl) (by rfl) (by rfl) (by kernel_rfl) rfl rfl rfl rfl (by kernel_rfl) (fun _ _ _ _ _ h => h) ?hO1 ?hE1
            case hO1 =>
             refine ⟨?_, ?_, trivial⟩
             ·intro act u HB HO HA
              have e3 : act.eval (.tmp 3) = .pointer (some ⟨xb, 0, none⟩) := HO 3 (by decide)
              have HS := JR.out.drew.call HB
              exact calm_lM 97 3 e3 (HS.get 1 rfl) ag23 rfl rfl rfl rfl rfl rfl
             intro act u HB HO HA
             refine calm_call 98 #[] rfl rfl ?_ (by kernel_rfl) (limits_any u) ?_ rfl
             ·simp only [mTx, mCx, mNx]
              try rfl
             rintro e u1 ⟨rfl, B1⟩
             exact ⟨_, rfl, rfl, B1⟩
            intro vT ww1 HB HF HN
            have f97 : _ = _ := qA HF 97
            have f98 : _ = _ := qA HF 98
            have HK1 := hDx (JR.out.drew.call HB)
            simp only [fill, Act.put, sAx, s0x, s1x, dSx, d0x, f97, f98]
            clear HB HF HN f97 f98
            refine ⟨#[.agg (shC A B E F), .agg limA], _, ?_, shaken_any A B E F ww1 (HP.out.1.more HK1.out.below) HZ.out.1 HZ.out.2.1 HZ.out.2.2.1 HZ.out.2.2.2.1, ?_⟩
            ·simp only [mTx, mCx, mNx]
             try rfl
            rintro e u1 ⟨ta, wa, ba, na, tx, wx, bx, nx, rfl, K⟩
            refine ⟨_, rfl, rfl, ?_⟩
            simp only [exts, Act.put, sAx, s0x, s1x, dSx, d0x, gDx, List.getElem?_toArray, List.getElem?_cons_zero, List.getElem?_cons_succ, Option.getD_some, List.length_cons, List.length_nil, Nat.reduceAdd, Nat.zero_add]
            rw [← HN.out.1, ← HN.out.2.1] at K
            have J8 : Hid (KS [(ta, tunO wa na K1 K2 true true 0), (wa, winO ba 0 false), (ba, bitO 0), (na, nowO), (yb, .cells (shC A' B' E' F') 23), (xb, .cells (shC A B E F) 23)] [] w u1) := hDx ((HK1.out.join K).sub (.cons _ (.cons _ (.cons _ (.cons _ (List.Sublist.refl _))))))
            clear K
            go_upto_region 9 with (fail)
            try simp only [Act.put, sAx, s0x, s1x]
            refine wp_region_mid 2 [103, 104] [] [[], []] (Ftab [(103, .val (.agg (shC A' B' E' F'))), (104, .val (.agg limA))]) 105 102 [106, 107] (by kernel_rfl) (by kernel_rfl) (by rfl) (by rfl) (by kernel_rfl) rfl rfl rfl rfl (by kernel_rfl) (fun _ _ _ _ _ h => h) ?hO2 ?hE2
            case hO2 =>
             refine ⟨?_, ?_, trivial⟩
             ·intro act u HB HO HA
              have e4 : act.eval (.tmp 4) = .pointer (some ⟨yb, 0, none⟩) := HO 4 (by decide)
              have HS := J8.out.drew.call HB
              exact calm_lM 103 4 e4 (HS.get 4 rfl) ag23 rfl rfl rfl rfl rfl rfl
             intro act u HB HO HA
             refine calm_call 104 #[] rfl rfl ?_ (by kernel_rfl) (limits_any u) ?_ rfl
             ·simp only [mTx, mCx, mNx]
              try rfl
             rintro e u1 ⟨rfl, B1⟩
             exact ⟨_, rfl, rfl, B1⟩
            intro vT ww2 HB HF HN
            have f103 : _ = _ := qA HF 103
            have f104 : _ = _ := qA HF 104
            have HK2 := hDx (J8.out.drew.call HB)
            simp only [fill, Act.put, sAx, s0x, s1x, dSx, d0x, f103, f104]
            clear HB HF HN f103 f104
            refine ⟨#[.agg (shC A' B' E' F'), .agg limA], _, ?_, shaken_any A' B' E' F' ww2 (HP.out.1.more HK2.out.below) HZ.out.2.2.2.2.1 HZ.out.2.2.2.2.2.1 HZ.out.2.2.2.2.2.2.1 HZ.out.2.2.2.2.2.2.2, ?_⟩
            ·simp only [mTx, mCx, mNx]
             try rfl
            rintro e u2 ⟨tx, wx, bx, nx, td, wd, bd, nd, rfl, K⟩
            refine ⟨_, rfl, rfl, ?_⟩
            simp only [exts, Act.put, sAx, s0x, s1x, dSx, d0x, gDx, List.getElem?_toArray, List.getElem?_cons_zero, List.getElem?_cons_succ, Option.getD_some, List.length_cons, List.length_nil, Nat.reduceAdd, Nat.zero_add]
            rw [← HN.out.2.2.1, ← HN.out.2.2.2] at K
            have J9 : Hid (KS [(td, tunO wd nd L2 L1 false false 0), (wd, winO bd 0 false), (bd, bitO 0), (nd, nowO), (ta, tunO wa na K1 K2 true true 0), (wa, winO ba 0 false), (ba, bitO 0), (na, nowO), (yb, .cells (shC A' B' E' F') 23), (xb, .cells (shC A B E F) 23)] [] w u2) := hDx ((HK2.out.join K).sub (.cons_cons _ (.cons_cons _ (.cons_cons _ (.cons_cons _ (.cons _ (.cons _ (.cons _ (.cons _ (List.Sublist.refl _))))))))))
            clear K
            go_upto_region 12 with (fail)
            have ld := (J9.out.get 8 rfl)
            go_upto_region 13 with (first | (refine wpList_loadM (t := 23) (n := 4) (b := yb) (o := 0) (cs := (shC A' B' E' F')) rfl _ rfl rfl ld ag23 rfl rfl ?_) | (go_at_call 8; refine (received_any A' B' E' F' _ (HP.out.1.more J9.out.below) HZ.out.2.2.2.2.1 HZ.out.2.2.2.2.2.1 HZ.out.2.2.2.2.2.2.1 HZ.out.2.2.2.2.2.2.2).mono ?_; rintro e w12 ⟨rfl, B1⟩; rw [← HN.out.2.2.1]; have J12 := hDx (J9.out.call B1); clear B1))
            clear ld
            go_wp2_with fail
            go_loopw [14] (fun vI wr => ∃ i : Nat, i ≤ l.length ∧ vI = .int .i64 (i : Int) ∧ KS [(td, tunO wd nd L2 L1 false false 0), (wd, winO bd 0 false), (bd, bitO 0), (nd, nowO), (ta, tunO wa na K1 K2 true true i), (wa, winO ba 0 false), (ba, bitO 0), (na, nowO), (yb, .cells (shC A' B' E' F') 23), (xb, .cells (shC A B E F) 23)] [] w wr) (fun vI _ => l.length - (intOf vI).toNat)
            case atStart => exact ⟨0, Nat.zero_le _, rfl, J12.out⟩
            obtain ⟨i, hi, rfl, K⟩ := hrel
            have JR2 := hDx K
            clear K
            by_cases hlt : i < l.length
            ·obtain ⟨bb2, off, hal, hbw, q0⟩ := HP.out.2.1 i hlt
             subst hal
             have q1 := (JR2.out.below.cell (p := ⟨bb2, _, none⟩) hbw).trans q0
             have hs1 := HL.out i hlt
             obtain ⟨s, hs⟩ := nm l[i]
             rw [← hs] at q0 q1 hs1
             obtain ⟨m1, m2⟩ := sucR hlt HP.out.2.2.1
             have i1 := lt_i hlt
             have HK := hDx (And.intro hlt (And.intro (show s.size ≤ 65536 by omega) (t50 hlt H20.out)))
             obtain ⟨C, hC⟩ := nm (sealS K1 (nonS i) .empty s)
             have HC := hDx (And.intro hC (And.intro (show 16 ≤ C.size by rw [hC]; exact (seal_i _ _ _ _ HK.out.2.1).1) (show C.size ≤ 65552 by rw [hC]; exact (seal_i _ _ _ _ HK.out.2.1).2)))
             clear hs hlt hbw q0 hs1 hi hC
             go_upto_region 19 with (go_at_call 9; refine (tun_seal ta wa na i K1 K2 s true _ (JR2.out.get 4 rfl) (JR2.out.get 7 rfl) HY.out.1 HK.out.2.2 HK.out.2.1).mono ?_; rintro e w16 ⟨rfl, K⟩; rw [← HC.out.1]; have J16 : Hid (KS [(td, tunO wd nd L2 L1 false false 0), (wd, winO bd 0 false), (bd, bitO 0), (nd, nowO), (ta, tunO wa na K1 K2 true true (i + 1)), (wa, winO ba 0 false), (ba, bitO 0), (na, nowO), (yb, .cells (shC A' B' E' F') 23), (xb, .cells (shC A B E F) 23)] [] w w16) := hDx (JR2.out.callT 4 rfl K.only (K.get 0 rfl)); clear K)
             clear q1 i1
             by_cases ho : opensS L1 (nonS i) .empty C
             ·have HO := hDx ho
              clear ho
              go_upto_region 20 with (first | (go_at_call 11; refine (rnonce_any i _).mono ?_; rintro e w17 ⟨rfl, B1⟩; have J17 := hDx (J16.out.call B1); clear B1) | (go_at_call 10; refine (ropen_good L1 (nonS i) .empty C _ HY.out.2.2.1 (nonS_size i) emp65 HC.out.2.1 HC.out.2.2 HO.out).mono ?_; rintro e w18 ⟨rfl, B1⟩; have J18 := hDx (J17.out.call B1); clear B1))
              go_wp2_with (go_at_call 5; refine (speaks_any _ (HP.out.1.more J18.out.below)).mono ?_; rintro e w92 ⟨rfl, B1⟩; have Z92 := hDx (J18.out.call B1); clear B1)
              go_ret
              exact ⟨rfl, Z92.out.below⟩
             have HO := hDx ho
             clear ho
             go_upto_region 22 with (first | (go_at_call 11; refine (rnonce_any i _).mono ?_; rintro e w17 ⟨rfl, B1⟩; have J17 := hDx (J16.out.call B1); clear B1) | (go_at_call 10; refine (ropen_bad L1 (nonS i) .empty C _ HY.out.2.2.1 (nonS_size i) emp65 HC.out.2.1 HC.out.2.2 HO.out).mono ?_; rintro e w18 ⟨rfl, B1⟩; have J18 := hDx (J17.out.call B1); clear B1))
             go_wp2_with (go_at_call 12; refine (tun_shut td wd nd bd 0 0 0 i L2 L1 C false false false _ (J18.out.get 0 rfl) (J18.out.get 3 rfl) (J18.out.get 1 rfl) (J18.out.get 2 rfl) win0 HY.out.2.2.2 HY.out.2.2.1 HK.out.2.2 HC.out.2.1 HC.out.2.2 (bit0 i) HO.out).mono ?_; rintro e w19 ⟨rfl, B1⟩; have J19 := hDx (J18.out.call B1); clear B1)
             go_roundw
             case rel => exact ⟨i + 1, HK.out.1, by first | rfl | go_num, J19.out⟩
             exact measI2 _ _ HK.out.1
            have i1 := nlt_i hlt
            clear hlt hi
            go_wp2_with (go_at_call 5; refine (speaks_any _ (HP.out.1.more JR2.out.below)).mono ?_; rintro e w93 ⟨rfl, B1⟩; have Z93 := hDx (JR2.out.call B1); clear B1)
            go_ret
            exact ⟨rfl, Z93.out.below⟩
           have g7 := n32_i h7
           clear h7
           go_wp2_with (go_at_call 5; refine (speaks_any _ (HP.out.1.more JR.out.below)).mono ?_; rintro e w88 ⟨rfl, B1⟩; have Z88 := hDx (JR.out.call B1); clear B1)
           go_ret
           exact ⟨rfl, Z88.out.below⟩
          have g6 := n32_i h6
          clear h6
          go_wp2_with (go_at_call 5; refine (speaks_any _ (HP.out.1.more JR.out.below)).mono ?_; rintro e w87 ⟨rfl, B1⟩; have Z87 := hDx (JR.out.call B1); clear B1)
          go_ret
          exact ⟨rfl, Z87.out.below⟩
         have g5 := n32_i h5
         clear h5
         go_wp2_with (go_at_call 5; refine (speaks_any _ (HP.out.1.more JR.out.below)).mono ?_; rintro e w86 ⟨rfl, B1⟩; have Z86 := hDx (JR.out.call B1); clear B1)
         go_ret
         exact ⟨rfl, Z86.out.below⟩
        have g4 := n32_i h4
        clear h4
        go_wp2_with (go_at_call 5; refine (speaks_any _ (HP.out.1.more JR.out.below)).mono ?_; rintro e w85 ⟨rfl, B1⟩; have Z85 := hDx (JR.out.call B1); clear B1)
        go_ret
        exact ⟨rfl, Z85.out.below⟩
       have g3 := n32_i h3
       clear h3
       go_wp2_with (go_at_call 5; refine (speaks_any _ (HP.out.1.more JR.out.below)).mono ?_; rintro e w84 ⟨rfl, B1⟩; have Z84 := hDx (JR.out.call B1); clear B1)
       go_ret
       exact ⟨rfl, Z84.out.below⟩
      have g2 := n32_i h2
      clear h2
      go_wp2_with (go_at_call 5; refine (speaks_any _ (HP.out.1.more JR.out.below)).mono ?_; rintro e w83 ⟨rfl, B1⟩; have Z83 := hDx (JR.out.call B1); clear B1)
      go_ret
      exact ⟨rfl, Z83.out.below⟩
     have g1 := n32_i h1
     clear h1
     go_wp2_with (go_at_call 5; refine (speaks_any _ (HP.out.1.more JR.out.below)).mono ?_; rintro e w82 ⟨rfl, B1⟩; have Z82 := hDx (JR.out.call B1); clear B1)
     go_ret
     exact ⟨rfl, Z82.out.below⟩
    have g0 := n32_i h0
    clear h0
    go_wp2_with (go_at_call 5; refine (speaks_any _ (HP.out.1.more JR.out.below)).mono ?_; rintro e w81 ⟨rfl, B1⟩; have Z81 := hDx (JR.out.call B1); clear B1)
    go_ret
    exact ⟨rfl, Z81.out.below⟩
   have h20 := gt20_i h20
   go_wp2_with (go_at_call 5; refine (speaks_any _ (HP.out.1.more JR.out.below)).mono ?_; rintro e w80 ⟨rfl, B1⟩; have Z80 := hDx (JR.out.call B1); clear B1)
   go_ret
   exact ⟨rfl, Z80.out.below⟩
  obtain ⟨n1, n2⟩ := big_i hN
  have i1 := nlt_i hlt
  clear hlt hN hi
  go_wp2_with (go_at_call 5; refine (speaks_any _ (HP.out.1.more JR.out.below)).mono ?_; rintro e w91 ⟨rfl, B1⟩; have Z91 := hDx (JR.out.call B1); clear B1)
  go_ret
  exact ⟨rfl, Z91.out.below⟩
end Go.Proofs.YtoplbfijodebmaaGreatDoor
