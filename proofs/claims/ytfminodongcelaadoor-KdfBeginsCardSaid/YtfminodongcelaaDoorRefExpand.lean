/-
  The bytes that come of a key: the document's; chains.
-/
import Derived.Test.YtfminodongcelaaDoorExpand
set_option linter.unusedVariables false
set_option linter.unusedSimpArgs false
namespace Go.Proofs.YtfminodongcelaaDoor
open Go.RowKit
open Go.Lib (strCells)

set_option maxHeartbeats 4000000 in
theorem refexpand_bad (key info : ByteArray) (n : Int) (w : World) (h : n < 0 ∨ 0 ≤ n ∧ 8160 < n) : Calls Tryd.prog 27 #[.string key, .string info, .int .i64 n] w fun e w' => e = .returned (.tuple #[.string .empty, .int .i64 2]) ∧ w' = w := by
  rcases h with h | ⟨h1, h⟩
  · go_enter Tryd.func27, Tryd.ntmps27
    go_wp2_with fail
    go_ret2
    exact ⟨rfl, rfl⟩
  · go_enter Tryd.func27, Tryd.ntmps27
    go_wp2_with fail
    go_ret2
    exact ⟨rfl, rfl⟩
theorem rnd2 (i n : Nat) (h : i ≤ expN n) (hlt : 32 * i < n) (hn : n ≤ 8160) : ∃ X : Nat, X = i + 1 ∧ IntKind.u8.wrap (X : Int) = X ∧ X ≤ expN n ∧ X < 256 ∧ (0 : Int) ≤ X ∧ (X : Int) < 256 ∧ ((X : Int) + 1 = ((X + 1 : Nat) : Int)) := by
  refine ⟨i + 1, rfl, ?_, by unfold expN; omega, by omega, by omega, by omega, by omega⟩
  rw [IntKind.wrap_u8]
  omega
theorem mu2 {i n : Nat} (h : 32 * i < n) : n - 32 * (i + 1) < n - 32 * i := by omega
theorem mu3 {i X n : Nat} (hX : X = i + 1) (h : X ≤ expN n) : expN n + 2 - (intOf (.int .i64 ((X : Int) + 1))).toNat < expN n + 2 - (intOf (.int .i64 (X : Int))).toNat := by
  simp [intOf]
  omega
set_option maxHeartbeats 8000000 in
theorem refexpand_any (key info : ByteArray) (n : Nat) (w : World) (hk : key.size ≤ 10000) (hi : info.size ≤ 9000) (hn : n ≤ 8160) :
    Calls Tryd.prog 27 #[.string key, .string info, .int .i64 n] w fun e w' => e = .returned (.tuple #[.string (expS key info n), .int .i64 0]) ∧ Below w.heap.size w w' := by
  have HT := Lib.hid (And.intro hk (And.intro hi hn))
  have n1 : (0 : Int) ≤ n := by omega
  have n2 : (n : Int) ≤ 8160 := by omega
  clear hk hi hn
  go_enter Tryd.func27, Tryd.ntmps27
  go_wp2_with fail
  go_loopw [8, 9, 10] (fun o l c wr => ∃ i X : Nat, X = i + 1 ∧ i ≤ expN n ∧ c = .int .i64 X ∧ o = .string (outT key info i) ∧ l = .string (lastT key info i) ∧ Below w.heap.size w wr) (fun _ _ c _ => expN n + 2 - (intOf c).toNat)
  case atStart => exact ⟨0, 1, rfl, Nat.zero_le _, rfl, rfl, rfl, Below.refl _ _⟩
  case round =>
    obtain ⟨i, X, hX, hin, rfl, rfl, rfl, bl⟩ := hrel
    obtain ⟨w1, rfl⟩ : ∃ uu : World, uu = wr := ⟨_, rfl⟩
    have HB := Lib.hid bl
    clear bl
    have hos := outT_size key info i
    by_cases hlt : 32 * i < n
    · obtain ⟨Y, hY, y1, y2, y3, y4, y5, y6⟩ := rnd2 i n hin hlt HT.out.2.2
      obtain rfl : Y = X := by omega
      obtain ⟨L, hL⟩ : ∃ L, L = lastT key info i := ⟨_, rfl⟩
      obtain ⟨O, hO⟩ : ∃ L, L = outT key info i := ⟨_, rfl⟩
      rw [← hO] at hos
      rw [← hL, ← hO]
      have l1 : (O.size : Int) < n := by rw [hos]; exact lt32I hlt
      have hLs : L.size ≤ 32 := by rw [hL]; exact lastT_size _ _ _
      obtain ⟨C, hC⟩ : ∃ C : ByteArray, C = ⟨#[UInt8.ofNat Y]⟩ := ⟨_, rfl⟩
      have hCs : C.size = 1 := by rw [hC]; rfl
      have a1 := addS L info (by have := HT.out.2.1; omega)
      have a2 := addS (L ++ info) C (by rw [ByteArray.size_append, hCs]; have := HT.out.2.1; omega)
      have hcv : (convert 58 9 (.slice (some ⟨w1.heap.size, 0, none⟩) 1 1)).run Tryd.prog (w1.alloc (.cells #[.int .u8 (Y : Int)] 5)) = .ok (.string C) (w1.alloc (.cells #[.int .u8 (Y : Int)] 5)) := by rw [hC]; exact one_conv y3 (heap_alloc_last w1 _)
      have hz : (L ++ info ++ C).size ≤ 10000 := by rw [ByteArray.size_append, ByteArray.size_append, hCs]; have := HT.out.2.1; omega
      have BW := HB.out.alloc HB.out.size (.cells #[.int .u8 (Y : Int)] 5)
      have HZ := Lib.hid (And.intro hz (And.intro hL (And.intro hC (And.intro BW (And.intro hO (And.intro hos (And.intro y2 (And.intro hX hlt))))))))
      clear hz hL hC hLs hCs BW hO hos y2 y3 hX hlt hin hY y6
      go_wp2_with fail
      refine (refhmac_any key (L ++ info ++ C) _ HZ.out.1 HT.out.1).mono ?_
      rintro e w2 ⟨rfl, B2⟩
      obtain ⟨T, hTT⟩ : ∃ T, T = hmacS key (L ++ info ++ C) := ⟨_, rfl⟩
      rw [← hTT]
      have hTs : T.size = 32 := by rw [hTT]; exact hmacS_size _ _
      have hTl : T = lastT key info (i + 1) := by rw [hTT, HZ.out.2.1, HZ.out.2.2.1, HZ.out.2.2.2.2.2.2.2.1]; rfl
      have hOT : O ++ T = outT key info (i + 1) := by rw [hTl, HZ.out.2.2.2.2.1]; rfl
      have a3 := addS O T (by rw [hTs, HZ.out.2.2.2.2.2.1]; have := HZ.out.2.2.2.2.2.2.2.2; have := HT.out.2.2; omega)
      have B3 := HZ.out.2.2.2.1.trans (B2.mono HZ.out.2.2.2.1.size)
      rw [hOT] at a3
      have H3 := Lib.hid (And.intro hTl B3)
      clear hTT hTs hTl hOT B3 B2 a1 a2 hcv
      simp only []
      go_wp2_with fail
      go_roundw
      case rel => exact ⟨i + 1, Y + 1, by rw [HZ.out.2.2.2.2.2.2.2.1], by rw [← HZ.out.2.2.2.2.2.2.2.1]; exact HZ.out.2.2.2.2.2.2.1, succI Y, rfl, by rw [H3.out.1], H3.out.2⟩
      case measure => exact mu3 HZ.out.2.2.2.2.2.2.2.1 HZ.out.2.2.2.2.2.2.1
    · obtain ⟨hie, hno⟩ := rndO i n hin hlt
      obtain ⟨O, hO⟩ : ∃ L, L = outT key info i := ⟨_, rfl⟩
      rw [← hO] at hos
      rw [← hO]
      have l1 : ¬ (O.size : Int) < n := by rw [hos]; exact nlt32I hlt
      have l2 : (n : Int) ≤ O.size := by rw [hos]; omega
      have hout : O.extract 0 n = expS key info n := by rw [hO, hie]; rfl
      have HO := Lib.hid hout
      clear hie hno hlt hos hout hO hin hX
      go_wp2_with fail
      go_ret2
      exact ⟨by rw [← HO.out]; rfl, HB.out⟩

end Go.Proofs.YtfminodongcelaaDoor
