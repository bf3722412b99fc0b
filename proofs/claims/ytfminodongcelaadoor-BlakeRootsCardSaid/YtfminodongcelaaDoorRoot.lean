/-
  A root, as the document reckons it.
-/
import Derived.Test.YtfminodongcelaaDoorAbove
set_option linter.unusedVariables false
namespace Go.Proofs.YtfminodongcelaaDoor
open Go.RowKit

def bitL (x : List Nat) (k : Nat) : List Nat := x.set (k / 16) (at_ x (k / 16) ||| 2 ^ (k % 16) % M64)
def stepL (aim x : List Nat) (k : Nat) : List Nat := if aboveN (timesL (bitL x k) (bitL x k)) aim 16 = true then x else bitL x k
def rootN (aim : List Nat) : Nat → List Nat
  | 0 => zeros 16
  | n + 1 => stepL aim (rootN aim n) (70 - n)
def aimL (p : Nat) : List Nat := (zeros 16).set 8 p
def rootV (x : List Nat) : Nat := (at_ x 0 ||| at_ x 1 * 65536 % M64) ||| at_ x 2 * 4294967296 % M64 ||| at_ x 3 * 281474976710656 % M64
def rootL (p : Nat) : Nat := rootV (rootN (aimL p) 71)

theorem ix70 (n : Nat) (h : n < 71) : ∃ k j s : Nat, k = 70 - n ∧ j = k / 16 ∧ s = k % 16 ∧ (70 - (n : Int) = k) ∧ (k : Int).tdiv 16 = j ∧ (k : Int) / 16 = j ∧ IntKind.i64.wrap (j : Int) = j ∧ (k : Int).tmod 16 = s ∧ (k : Int) % 16 = s ∧ IntKind.i64.wrap (s : Int) = s ∧ (0 : Int) ≤ k ∧ (0 : Int) ≤ j ∧ (j : Int) < 16 ∧ j < 16 ∧ s < 16 :=
  ⟨70 - n, (70 - n) / 16, (70 - n) % 16, rfl, rfl, rfl, by omega, by rw [Int.tdiv_eq_ediv_of_nonneg (by omega)]; omega, by omega, IntWalk.i64_in _ (by omega), by rw [Int.tmod_eq_emod_of_nonneg (by omega)]; omega, by omega, IntWalk.i64_in _ (by omega), by omega⟩
theorem pow_u64 (s : Nat) : IntKind.u64.wrap ((2 : Int) ^ s) = ((2 ^ s % M64 : Nat) : Int) := by rw [IntKind.wrap_u64]; simp [M64]
theorem root_stay {aim z y : List Nat} {n k : Nat} (hk : k = 70 - n) (h : aboveN z aim 16 = true) (hz : z = timesL y y) (hy : y = bitL (rootN aim n) k) : rootN aim (n + 1) = rootN aim n := by
  show stepL aim (rootN aim n) (70 - n) = _
  unfold stepL
  rw [← hk, ← hy, ← hz, if_pos h]
theorem root_go {aim z y : List Nat} {n k : Nat} (hk : k = 70 - n) (h : aboveN z aim 16 = false) (hz : z = timesL y y) (hy : y = bitL (rootN aim n) k) : rootN aim (n + 1) = y := by
  show stepL aim (rootN aim n) (70 - n) = _
  unfold stepL
  rw [← hk, ← hy, ← hz, if_neg (by rw [h]; exact Bool.false_ne_true)]
theorem or_u64 (x0 x1 x2 x3 : Nat) (l0 : x0 < M64) : ∃ p1 p2 p3 o1 o2 o3 : Nat, IntKind.u64.wrap ((x1 : Int) * 65536) = p1 ∧ IntKind.u64.wrap ((x2 : Int) * 4294967296) = p2 ∧ IntKind.u64.wrap ((x3 : Int) * 281474976710656) = p3 ∧
    bits .or .u64 (x0 : Int) (p1 : Int) = o1 ∧ bits .or .u64 (o1 : Int) (p2 : Int) = o2 ∧ bits .or .u64 (o2 : Int) (p3 : Int) = o3 ∧ o3 = ((x0 ||| x1 * 65536 % M64) ||| x2 * 4294967296 % M64 ||| x3 * 281474976710656 % M64) := by
  have m : ∀ y, y % M64 < M64 := fun y => Nat.mod_lt _ (by decide)
  have n1 : x0 ||| x1 * 65536 % M64 < M64 := Nat.or_lt_two_pow (n := 64) l0 (m _)
  have n2 : (x0 ||| x1 * 65536 % M64) ||| x2 * 4294967296 % M64 < M64 := Nat.or_lt_two_pow (n := 64) n1 (m _)
  exact ⟨_, _, _, _, _, _, mul_u64 x1 65536, mul_u64 x2 4294967296, mul_u64 x3 281474976710656, u64_or_nat _ _ l0 (m _), u64_or_nat _ _ n1 (m _), u64_or_nat _ _ n2 (m _), rfl⟩
theorem down70 (n k : Nat) (h : 70 - (n : Int) = k) : Value.int .i64 ((k : Int) - 1) = .int .i64 (70 - ((n + 1 : Nat) : Int)) := by congr 1; omega
theorem measD (k : Nat) : (intOf (.int .i64 ((k : Int) - 1)) + 1).toNat < (intOf (.int .i64 (k : Int)) + 1).toNat := downM k

set_option maxHeartbeats 8000000 in
theorem root_any (p : Nat) (w : World) (hp : p < M64) :
    Calls Tryd.prog 33 #[.int .u64 p, .bool false] w fun e w' => e = .returned (.int .u64 (rootL p)) ∧ Below w.heap.size w w' := by
  have la : ∀ i, at_ (aimL p) i < M64 := setM at_zerosM 8 p hp
  have RA := (lw_new w (aimL p) rfl la).alloc (.cells (ls (zeros 16)) 78)
  have RX := lw_new (w.alloc (.cells (ls (aimL p)) 78)) (zeros 16) rfl at_zerosM
  have B0 := ((Below.refl w.heap.size w).alloc (Nat.le_refl _) (.cells (ls (aimL p)) 78)).alloc (by simp) (.cells (ls (zeros 16)) 78)
  rw [show (w.alloc (.cells (ls (aimL p)) 78)).heap.size = w.heap.size + 1 by simp] at RX
  have RZ := lw_new w (zeros 16) rfl at_zerosM
  have fA := RZ.fz 8
  have cA := RZ.cell 8 (by decide)
  rw [ls_zeros] at fA cA
  have HA := Lib.hid (And.intro RA (And.intro RX B0))
  clear RA RX B0 RZ la
  go_enter Tryd.func33, Tryd.ntmps33
  go_wp2_with fail
  rw [← ls_zeros]
  have hz : #[.int .u64 0, .int .u64 0, .int .u64 0, .int .u64 0, .int .u64 0, .int .u64 0, .int .u64 0, .int .u64 0, .int .u64 (p : Int), .int .u64 0, .int .u64 0, .int .u64 0, .int .u64 0, .int .u64 0, .int .u64 0, .int .u64 0] = ls (aimL p) := rfl
  rw [hz]
  clear hz fA cA
  obtain ⟨w0, hw0⟩ : ∃ uu, uu = (w.alloc (.cells (ls (aimL p)) 78)).alloc (.cells (ls (zeros 16)) 78) := ⟨_, rfl⟩
  have hh := HA.out
  rw [← hw0] at hh
  rw [← hw0]
  obtain ⟨A0, X0, q1, q2⟩ : ∃ A B : Nat, A = w.heap.size ∧ B = w.heap.size + 1 := ⟨_, _, rfl, rfl⟩
  have q3 : A0 ≠ X0 ∧ w.heap.size ≤ X0 := by omega
  rw [← q2, ← q1] at hh
  rw [← q2, ← q1]
  have H0 := Lib.hid (And.intro hh (And.intro q1 q3))
  clear hh HA q1 q2 q3 hw0
  obtain ⟨aim, haim⟩ : ∃ aim, aim = aimL p := ⟨_, rfl⟩
  have hh := H0.out
  rw [← haim] at hh
  have H1 := Lib.hid hh
  have HAim := Lib.hid haim
  clear hh H0 haim
  go_loopw [7] (fun i wr => ∃ n : Nat, n ≤ 71 ∧ i = .int .i64 (70 - (n : Int)) ∧ (Lw wr A0 aim ∧ Lw wr X0 (rootN aim n) ∧ Below A0 w wr)) (fun i _ => (intOf i + 1).toNat)
  case atStart => exact ⟨0, Nat.zero_le _, rfl, H1.out.1⟩
  case round =>
    obtain ⟨n, hn, rfl, HH⟩ := hrel
    have HR := Lib.hid HH
    clear HH
    by_cases hlt : n < 71
    · obtain ⟨k, j, s, hk, hj, hs, e0, e1, e2, e3, e4, e5, e6, l1, l2, l3, l4, l5⟩ := ix70 n hlt
      rw [e0]
      have HK := Lib.hid (And.intro hk (And.intro hj (And.intro hs e0)))
      clear hk hj hs e0
      have RY := lw_new wr (zeros 16) rfl at_zerosM
      have HY := Lib.hid RY
      have RX1 := Lib.hid HR.out.2.1
      have HS := Lib.hid (show (ls (rootN aim n)).size = 16 by rw [ls_size]; exact HR.out.2.1.len)
      clear RY
      have Y1 := HY.out.setRow (rootN aim n) HR.out.2.1.len HR.out.2.1.lt
      have cY := Y1.cell j l4
      have fY := Y1.fz j
      obtain ⟨A, hA⟩ : ∃ A, A = at_ (rootN aim n) j := ⟨_, rfl⟩
      rw [← hA] at cY
      have lA : A < M64 := by rw [hA]; exact HR.out.2.1.lt j
      have l2s : 2 ^ s % M64 < M64 := Nat.mod_lt _ (by decide)
      have e8 := pow_u64 s
      obtain ⟨G, hG⟩ : ∃ G, G = 2 ^ s % M64 := ⟨_, rfl⟩
      rw [← hG] at e8 l2s
      have e7 := u64_or_nat A G lA l2s
      obtain ⟨S, hS⟩ : ∃ S, S = A ||| G := ⟨_, rfl⟩
      rw [← hS] at e7
      have lS : S < M64 := by rw [hS]; exact Nat.or_lt_two_pow (n := 64) lA l2s
      have Y2 := Y1.set j S l4 lS
      have hye : (rootN aim n).set j S = bitL (rootN aim n) k := by rw [hS, hG, hA, HK.out.2.1, HK.out.2.2.1]; rfl
      have HY2 := Lib.hid (Y2.of_eq hye)
      have HSY := Lib.hid (show (ls (bitL (rootN aim n) k)).size = 16 by rw [ls_size]; exact HY2.out.len)
      clear Y1 Y2 hye hS lS lA l2s hA hG
      rw [ls_zeros] at HY2 cY fY
      go_wp2_with (first | (refine wpList_load_cells rfl _ rfl rfl RX1.out.cells rowTy78 HS.out ?_) | (refine wpList_store_cells rfl _ _ rfl rfl rfl HY.out.cells rowTy78 (by rfl) HS.out (ls_one _) ?_) | (refine wpList_load_cells rfl _ rfl rfl HY2.out.cells rowTy78 HSY.out ?_))
      obtain ⟨w2, hw2⟩ : ∃ uu, uu = ((wr.alloc (.cells #[.int .u64 0, .int .u64 0, .int .u64 0, .int .u64 0, .int .u64 0, .int .u64 0, .int .u64 0, .int .u64 0, .int .u64 0, .int .u64 0, .int .u64 0, .int .u64 0, .int .u64 0, .int .u64 0, .int .u64 0, .int .u64 0] 78)).setRow wr.heap.size (ls (rootN aim n))).setCell ⟨wr.heap.size, j, none⟩ (.int .u64 (S : Int)) := ⟨_, rfl⟩
      have O2 := (((Only.refl wr.heap.size wr).alloc (.cells #[.int .u64 0, .int .u64 0, .int .u64 0, .int .u64 0, .int .u64 0, .int .u64 0, .int .u64 0, .int .u64 0, .int .u64 0, .int .u64 0, .int .u64 0, .int .u64 0, .int .u64 0, .int .u64 0, .int .u64 0, .int .u64 0] 78)).trans (Only.setRow wr.heap.size _ (ls (rootN aim n)))).setCell j (.int .u64 (S : Int))
      have hy2 := HY2.out
      rw [← hw2] at O2 hy2
      rw [← hw2]
      have HRb := HR.out.2.2.size
      have A2 := HR.out.1.other O2 (Nat.ne_of_lt HR.out.1.size_lt)
      have X2 := HR.out.2.1.other O2 (Nat.ne_of_lt HR.out.2.1.size_lt)
      have B2 := HR.out.2.2.trans (O2.below (B := A0) (Nat.le_of_lt HR.out.1.size_lt) (Nat.le_of_lt HR.out.1.size_lt))
      obtain ⟨y, hy⟩ : ∃ y, y = bitL (rootN aim n) k := ⟨_, rfl⟩
      obtain ⟨Y, hY⟩ : ∃ Y, Y = wr.heap.size := ⟨_, rfl⟩
      rw [← hy, ← hY] at hy2
      rw [← hY]
      try rw [← hy]
      have HyB := Lib.hid hy
      have H2 := Lib.hid (And.intro hy2 (And.intro A2 (And.intro X2 (And.intro B2 hy))))
      have HYX := Lib.hid (show Y ≠ A0 ∧ Y ≠ X0 by rw [hY]; exact ⟨Nat.ne_of_gt HR.out.1.size_lt, Nat.ne_of_gt HR.out.2.1.size_lt⟩)
      clear HY2 HY RX1 hy hY hw2 O2 hy2 A2 X2 B2 HRb cY fY e7 e8 HSY HS
      refine (times_any y y w2 H2.out.1.len H2.out.1.lt H2.out.1.len H2.out.1.lt).mono ?_
      rintro e w3 ⟨rfl, B3, lz, ltz⟩
      simp only []
      obtain ⟨z, hz⟩ : ∃ z, z = timesL y y := ⟨_, rfl⟩
      rw [← hz] at lz ltz
      rw [← hz]
      have RZ := lw_new w3 (zeros 16) rfl at_zerosM
      have RZ2 := RZ.setRow z lz ltz
      have O3 := ((Only.refl w3.heap.size w3).alloc (.cells (ls (zeros 16)) 78)).trans (Only.setRow w3.heap.size _ (ls z))
      have s3 := B3.size
      have A3 := (H2.out.2.1.more B3).other O3 (Nat.ne_of_lt (Nat.lt_of_lt_of_le H2.out.2.1.size_lt s3))
      have X3 := (H2.out.2.2.1.more B3).other O3 (Nat.ne_of_lt (Nat.lt_of_lt_of_le H2.out.2.2.1.size_lt s3))
      have Y3 := (H2.out.1.more B3).other O3 (Nat.ne_of_lt (Nat.lt_of_lt_of_le H2.out.1.size_lt s3))
      have Bl3 := (H2.out.2.2.2.1.trans (B3.mono (Nat.le_of_lt H2.out.2.1.size_lt))).trans (O3.below (B := A0) (Nat.le_trans (Nat.le_of_lt H2.out.2.1.size_lt) s3) (Nat.le_trans (Nat.le_of_lt H2.out.2.1.size_lt) s3))
      rw [ls_zeros] at RZ RZ2 A3 X3 Y3 Bl3
      have HSz := Lib.hid (show (ls z).size = 16 by rw [ls_size]; exact lz)
      have HSa := Lib.hid (show (ls aim).size = 16 by rw [ls_size]; exact A3.len)
      have HSy := Lib.hid (show (ls y).size = 16 by rw [ls_size]; exact Y3.len)
      have H3 := Lib.hid (And.intro RZ (And.intro RZ2 (And.intro A3 (And.intro X3 (And.intro Y3 (And.intro Bl3 hz))))))
      clear RZ RZ2 A3 X3 Y3 Bl3 hz B3 lz ltz O3 s3
      go_wp2_with (first | (refine wpList_store_cells rfl _ _ rfl rfl rfl H3.out.1.cells rowTy78 (by rfl) HSz.out (ls_one _) ?_) | (refine wpList_load_cells rfl _ rfl rfl H3.out.2.1.cells rowTy78 HSz.out ?_) | (refine wpList_load_cells rfl _ rfl rfl H3.out.2.2.1.cells rowTy78 HSa.out ?_))
      obtain ⟨w4, hw4⟩ : ∃ uu, uu = (w3.alloc (.cells #[.int .u64 0, .int .u64 0, .int .u64 0, .int .u64 0, .int .u64 0, .int .u64 0, .int .u64 0, .int .u64 0, .int .u64 0, .int .u64 0, .int .u64 0, .int .u64 0, .int .u64 0, .int .u64 0, .int .u64 0, .int .u64 0] 78)).setRow w3.heap.size (ls z) := ⟨_, rfl⟩
      have hh := H3.out.2
      rw [← hw4] at hh
      rw [← hw4]
      have H4 := Lib.hid hh
      clear hh H3 H2 hw4
      refine (above_any z aim w4 H4.out.1.len H4.out.1.lt H4.out.2.1.len H4.out.2.1.lt).mono ?_
      rintro e w5 ⟨rfl, B5⟩
      simp only []
      have A5 := H4.out.2.1.more B5
      have X5 := H4.out.2.2.1.more B5
      have Y5 := H4.out.2.2.2.1.more B5
      have Bl5 := H4.out.2.2.2.2.1.trans (B5.mono (Nat.le_of_lt H4.out.2.1.size_lt))
      have HM := Lib.hid (down70 n k HK.out.2.2.2)
      by_cases hab : aboveN z aim 16 = true
      · have hx : rootN aim (n + 1) = rootN aim n := root_stay HK.out.1 hab H4.out.2.2.2.2.2 HyB.out
        have H5 := Lib.hid (And.intro A5 (And.intro (X5.of_eq hx.symm) Bl5))
        rw [hab]
        clear A5 X5 Y5 Bl5 B5 hab hx H4
        go_wp2_with fail
        go_roundw
        case rel => exact ⟨n + 1, hlt, HM.out, H5.out⟩
        case measure => exact measD k
      · have hab2 : aboveN z aim 16 = false := by simpa using hab
        have hx : rootN aim (n + 1) = y := root_go HK.out.1 hab2 H4.out.2.2.2.2.2 HyB.out
        have X6 := (X5.setRow y Y5.len Y5.lt).of_eq hx.symm
        have A6 := A5.other (Only.setRow X0 w5 (ls y)) H1.out.2.2.1
        have Bl6 := Bl5.trans ((Only.setRow X0 w5 (ls y)).below (B := A0) (by rw [H1.out.2.1]; exact H1.out.2.2.2) (Nat.le_of_lt A5.size_lt))
        have H5 := Lib.hid (And.intro A6 (And.intro X6 Bl6))
        have H6 := Lib.hid (And.intro X5 Y5)
        rw [hab2]
        clear A5 X5 Y5 Bl5 B5 hab hab2 hx H4 X6 A6 Bl6
        go_wp2_with (first | (refine wpList_load_cells rfl _ rfl rfl H6.out.2.cells rowTy78 HSy.out ?_) | (refine wpList_store_cells rfl _ _ rfl rfl rfl H6.out.1.cells rowTy78 (by rw [ls_size]; exact H6.out.1.len) HSy.out (ls_one _) ?_))
        go_roundw
        case rel => exact ⟨n + 1, hlt, HM.out, H5.out⟩
        case measure => exact measD k
    · have hn71 := isN hn hlt
      have R := HR.out.2.1
      rw [hn71] at R
      rw [hn71]
      obtain ⟨x, hx⟩ : ∃ x, x = rootN aim 71 := ⟨_, rfl⟩
      rw [← hx] at R
      have c0 := R.cell 0 (by decide)
      have c1 := R.cell 1 (by decide)
      have c2 := R.cell 2 (by decide)
      have c3 := R.cell 3 (by decide)
      have l0 := R.lt 0
      obtain ⟨x0, h0⟩ : ∃ u, u = at_ x 0 := ⟨_, rfl⟩
      obtain ⟨x1, h1⟩ : ∃ u, u = at_ x 1 := ⟨_, rfl⟩
      obtain ⟨x2, h2⟩ : ∃ u, u = at_ x 2 := ⟨_, rfl⟩
      obtain ⟨x3, h3⟩ : ∃ u, u = at_ x 3 := ⟨_, rfl⟩
      rw [← h0] at c0 l0
      rw [← h1] at c1
      rw [← h2] at c2
      rw [← h3] at c3
      obtain ⟨p1, p2, p3, o1, o2, o3, e1, e2, e3, e4, e5, e6, e7⟩ := or_u64 x0 x1 x2 x3 l0
      have HO := Lib.hid (show o3 = rootL p by rw [e7, h0, h1, h2, h3, hx, HAim.out]; rfl)
      have HB := Lib.hid HR.out.2.2
      have HA0 := Lib.hid H1.out.2.1
      clear hx R h0 h1 h2 h3 l0 e7 hn hlt hn71
      go_wp2_with fail
      go_ret
      refine ⟨by rw [← HO.out]; rfl, ?_⟩
      have h := HB.out
      rw [HA0.out] at h
      exact h

end Go.Proofs.YtfminodongcelaaDoor
