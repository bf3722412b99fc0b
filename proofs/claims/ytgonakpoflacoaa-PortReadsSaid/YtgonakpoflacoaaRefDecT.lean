/-
  A packet of TCP told, by the document.
-/
import Derived.Test.YtgonakpoflacoaaRefBase
set_option linter.unusedVariables false
set_option linter.unusedSimpArgs false
namespace Go.Proofs.Ytgonakpoflacoaa
open Go.RowKit

set_option maxHeartbeats 16000000 in
set_option maxRecDepth 100000 in
theorem refDecode_tcp (p : Pk) (w : World) (hok : p.Ok) (hd : p.data.size ≤ 10000) (h0m : mayE p = 0) (hq : p.proto = 6) :
    Calls Try.prog 15 #[p.val] w fun e w' => e = .returned (.tuple #[(decH p).val, .int .i64 (decE p)]) ∧ Below w.heap.size w w' := by
  obtain ⟨⟨v1, h1, l1⟩, ⟨v2, h2, l2⟩, pr, tt, d⟩ := p
  obtain ⟨p, hp⟩ : ∃ p : Pk, p = ⟨⟨v1, h1, l1⟩, ⟨v2, h2, l2⟩, pr, tt, d⟩ := ⟨_, rfl⟩
  have hpv : p.val = .agg #[.bool v1, .int .u64 h1, .int .u64 l1, .bool v2, .int .u64 h2, .int .u64 l2, .int .u8 pr, .int .u8 tt, .string d] := by rw [hp]; rfl
  rw [← hp] at hok hd h0m ⊢
  have hd' : d.size ≤ 10000 := by have := hd; rw [hp] at this; exact this
  have C1 : ∀ u, Calls Try.prog 30 #[.agg #[.bool v1, .int .u64 h1, .int .u64 l1, .bool v2, .int .u64 h2, .int .u64 l2, .int .u8 pr, .int .u8 tt, .string d]] u fun e w' => e = .returned (.int .i64 0) ∧ Below u.heap.size u w' := fun u => by rw [← hpv, ← h0m]; exact refMay_any p u (by omega)
  have C2 : ∀ u, Calls Try.prog 32 #[.agg #[.bool v1, .int .u64 h1, .int .u64 l1, .bool v2, .int .u64 h2, .int .u64 l2, .int .u8 pr, .int .u8 tt, .string d]] u fun e w' => e = .returned (.int .u16 (sumP p)) ∧ Below u.heap.size u w' := fun u => by rw [← hpv]; exact refSum_any p u hok hd
  have HP := Lib.hid (And.intro hp hd')
  have hz : (d.size : Int) ≤ 10000 := by omega
  obtain ⟨h0, hh0⟩ : ∃ x, x = hd1 p := ⟨_, rfl⟩
  have HH0 := Lib.hid (show h0.cells = #[.int .u8 pr, .bool v1, .int .u64 h1, .int .u64 l1, .bool v2, .int .u64 h2, .int .u64 l2, .int .u16 0, .int .u16 0, .int .u8 0, .int .u8 0, .int .u8 0, .int .i64 0] by rw [hh0, hp]; rfl)
  obtain ⟨fs, hfs⟩ := under30
  have U30 := Lib.hid hfs
  obtain ⟨fs', hfs'⟩ := under41
  have U41 := Lib.hid hfs'
  obtain ⟨S, hS⟩ : ∃ x, x = sumP p := ⟨_, rfl⟩
  rw [← hS] at C2
  have HC := Lib.hid (And.intro C1 C2)
  have HS := Lib.hid hS
  have hh0 := Lib.hid hh0
  have HM := Lib.hid h0m
  rw [hpv]
  clear hok hd hpv C1 C2 hp hfs hfs' hS h0m hd'
  have q6 : pr = 6 := hq
  clear hq
  have hq : p.proto = 6 := by rw [HP.out.1]; exact q6
  have HQ := Lib.hid (show decE p = tcpE p ∧ decG p = tcpG p (hd0 p) by unfold decE decG; rw [HM.out]; simp [hq])
  have C6 := Lib.hid (show ((pr : Int) == 6) = true from byEq (b := 6) q6)
  have c17 : ((pr : Int) == 17) = false := byNe (b := 17) (by omega)
  clear hq q6
  by_cases hs8 : d.size < 20
  · have HE := Lib.hid (show decE p = 7 by rw [HQ.out.1]; unfold tcpE; rw [HP.out.1, if_pos (by exact hs8)])
    have l8 : (d.size : Int) < 20 := by omega
    clear hs8
    go_enter Try.func15, Try.ntmps15
    go_wp2_with fail
    refine (HC.out.1 _).mono ?_
    rintro e w1 ⟨rfl, B1⟩
    simp only []
    have Q0 : QS w.heap.size (w.heap.size + 1) w1.heap.size #[.bool v1, .int .u64 h1, .int .u64 l1, .bool v2, .int .u64 h2, .int .u64 l2, .int .u8 pr, .int .u8 tt, .string d] h0 w (w1.alloc (.cells h0.cells 41)) := QS.start B1
    rw [HH0.out] at Q0
    obtain ⟨k0, k1, k2, k3, k4, k5, k6, k7, k8⟩ := pkCells (two_allocs B1).1
    clear B1
    go_upto_region 5 with (fail)
    clear k0 k1 k2 k3 k4 k5 k6 k7 k8
    obtain ⟨H, hH⟩ : ∃ x, x = w1.heap.size := ⟨_, rfl⟩
    obtain ⟨w0, hw0⟩ : ∃ x, x = w1.alloc (.cells #[.int .u8 pr, .bool v1, .int .u64 h1, .int .u64 l1, .bool v2, .int .u64 h2, .int .u64 l2, .int .u16 0, .int .u16 0, .int .u8 0, .int .u8 0, .int .u8 0, .int .i64 0] 41) := ⟨_, rfl⟩
    rw [← hw0, ← hH] at Q0 ⊢
    clear hw0 hH
    obtain ⟨R, hR⟩ : ∃ x, x = w.heap.size + 1 := ⟨_, rfl⟩
    obtain ⟨P, hP⟩ : ∃ x, x = w.heap.size := ⟨_, rfl⟩
    have H0 : Hid (QS P R H #[.bool v1, .int .u64 h1, .int .u64 l1, .bool v2, .int .u64 h2, .int .u64 l2, .int .u8 pr, .int .u8 tt, .string d] h0 w w0) := by rw [hR, hP]; exact Lib.hid Q0
    rw [← hR]
    rw [← hP]
    clear hR hP Q0
    obtain ⟨k0, k1, k2, k3, k4, k5, k6, k7, k8⟩ := pkCells H0.out.pk
    have c6 := C6.out
    go_upto_region 19 with (fail)
    clear c6
    clear k0 k1 k2 k3 k4 k5 k6 k7 k8
    obtain ⟨k0, k1, k2, k3, k4, k5, k6, k7, k8⟩ := pkCells H0.out.pk
    go_wp2_with (first | (refine Go.wpList_store_row rfl 41 _ _ rfl R Hd.zero.cells rfl rfl 41 _ H0.out.rr info41 rfl (hdOne _) ?_))
    clear k0 k1 k2 k3 k4 k5 k6 k7 k8
    have D := setRow_heap w0 R _ Hd.zero.cells _ _ H0.out.rr
    have BW := H0.out.below.trans ((onlyRow R w0 Hd.zero.cells).below H0.out.nR H0.out.below.size)
    obtain ⟨wz, hwz⟩ : ∃ uu, uu = World.setRow w0 R Hd.zero.cells := ⟨_, rfl⟩
    rw [← hwz] at D BW ⊢
    obtain ⟨⟨j0, j1, j2, j3, j4, j5, j6⟩, j7, j8, j9, j10, j11, j12⟩ := hdAll D
    have HF := Lib.hid BW
    clear BW D hwz
    refine bodyPost_ret (v := .tuple #[.agg #[.int .u8 0, .bool false, .int .u64 0, .int .u64 0, .bool false, .int .u64 0, .int .u64 0, .int .u16 0, .int .u16 0, .int .u8 0, .int .u8 0, .int .u8 0, .int .i64 0], .int .i64 7]) (by simp [results, Try.results15, go_sem, j0, j1, j2, j3, j4, j5, j6, j7, j8, j9, j10, j11, j12, Hd.zero]) rfl ⟨?_, HF.out⟩
    rw [show (decH p).val = .agg #[.int .u8 0, .bool false, .int .u64 0, .int .u64 0, .bool false, .int .u64 0, .int .u64 0, .int .u16 0, .int .u16 0, .int .u8 0, .int .u8 0, .int .u8 0, .int .i64 0] by unfold decH; rw [if_neg (by rw [HE.out]; decide)]; rfl, HE.out]
  · have l8 : ¬ (d.size : Int) < 20 := by omega
    obtain ⟨n12, hn12⟩ : ∃ x, x = byt d 12 := ⟨_, rfl⟩
    obtain ⟨n13, hn13⟩ : ∃ x, x = byt d 13 := ⟨_, rfl⟩
    have s2 : ∀ u, (Instr.slice 9 (.string d) (some (.int .i64 2)) none none).run Try.prog u = .ok (.string (Lf d 2)) u := slice_at d 2 (by omega)
    have i12 : ∀ u, (Instr.index 9 (.string d) (.int .i64 12)).run Try.prog u = .ok (.int .u8 n12) u := by rw [hn12]; exact ix_at d 12 (by omega)
    have i13 : ∀ u, (Instr.index 9 (.string d) (.int .i64 13)).run Try.prog u = .ok (.int .u8 n13) u := by rw [hn13]; exact ix_at d 13 (by omega)
    have HXB := Lib.hid (show n12 < 256 by rw [hn12]; exact byt_lt _ _)
    obtain ⟨q, hq⟩ : ∃ x, x = n12 / 16 := ⟨_, rfl⟩
    obtain ⟨hn, hhn⟩ : ∃ x, x = 4 * q := ⟨_, rfl⟩
    have e1 : (n12 : Int) / 16 = q := by omega
    have e2 : (q : Int) * 4 = hn := by omega
    have e3 : (hn : Int) ≤ 60 := by have := HXB.out; omega
    have e4 : (q : Int) ≤ 15 := by have := HXB.out; omega
    have e5 : IntKind.i64.wrap (q : Int) = q := IntWalk.i64_in _ (by omega)
    have e6 : IntKind.i64.wrap (hn : Int) = hn := IntWalk.i64_in _ (by omega)
    have e7 : IntKind.i64.wrap ((d.size : Int) - hn) = (d.size : Int) - hn := IntWalk.i64_in _ (by omega)
    have HY := Lib.hid (And.intro hn12 (And.intro hn13 hs8))
    have HG := Lib.hid (show hdl p = hn by unfold hdl; rw [HP.out.1]; show 4 * (byt d 12 / 16) = hn; rw [← hn12, hhn, hq])
    have HE0 := Lib.hid (show decE p = if hn < 20 ∨ d.size < hn then 8 else if S ≠ 0 then 131 else 0 by rw [HQ.out.1]; unfold tcpE; rw [HG.out, HS.out, HP.out.1, if_neg hs8])
    clear hn12 hn13 hq hhn
    by_cases qA : hn < 20
    · have HE := Lib.hid (show decE p = 8 by rw [HE0.out, if_pos (Or.inl qA)])
      have cA : (hn : Int) < 20 := by omega
      clear qA hs8
      go_enter Try.func15, Try.ntmps15
      go_wp2_with fail
      refine (HC.out.1 _).mono ?_
      rintro e w1 ⟨rfl, B1⟩
      simp only []
      have Q0 : QS w.heap.size (w.heap.size + 1) w1.heap.size #[.bool v1, .int .u64 h1, .int .u64 l1, .bool v2, .int .u64 h2, .int .u64 l2, .int .u8 pr, .int .u8 tt, .string d] h0 w (w1.alloc (.cells h0.cells 41)) := QS.start B1
      rw [HH0.out] at Q0
      obtain ⟨k0, k1, k2, k3, k4, k5, k6, k7, k8⟩ := pkCells (two_allocs B1).1
      clear B1
      go_upto_region 5 with (fail)
      clear k0 k1 k2 k3 k4 k5 k6 k7 k8
      obtain ⟨H, hH⟩ : ∃ x, x = w1.heap.size := ⟨_, rfl⟩
      obtain ⟨w0, hw0⟩ : ∃ x, x = w1.alloc (.cells #[.int .u8 pr, .bool v1, .int .u64 h1, .int .u64 l1, .bool v2, .int .u64 h2, .int .u64 l2, .int .u16 0, .int .u16 0, .int .u8 0, .int .u8 0, .int .u8 0, .int .i64 0] 41) := ⟨_, rfl⟩
      rw [← hw0, ← hH] at Q0 ⊢
      clear hw0 hH
      obtain ⟨R, hR⟩ : ∃ x, x = w.heap.size + 1 := ⟨_, rfl⟩
      obtain ⟨P, hP⟩ : ∃ x, x = w.heap.size := ⟨_, rfl⟩
      have H0 : Hid (QS P R H #[.bool v1, .int .u64 h1, .int .u64 l1, .bool v2, .int .u64 h2, .int .u64 l2, .int .u8 pr, .int .u8 tt, .string d] h0 w w0) := by rw [hR, hP]; exact Lib.hid Q0
      rw [← hR]
      rw [← hP]
      clear hR hP Q0
      obtain ⟨k0, k1, k2, k3, k4, k5, k6, k7, k8⟩ := pkCells H0.out.pk
      have c6 := C6.out
      go_upto_region 19 with (fail)
      clear c6
      clear k0 k1 k2 k3 k4 k5 k6 k7 k8
      obtain ⟨k0, k1, k2, k3, k4, k5, k6, k7, k8⟩ := pkCells H0.out.pk
      go_wp2_with (first | (refine Go.wpList_store_row rfl 41 _ _ rfl R Hd.zero.cells rfl rfl 41 _ H0.out.rr info41 rfl (hdOne _) ?_))
      clear k0 k1 k2 k3 k4 k5 k6 k7 k8
      have D := setRow_heap w0 R _ Hd.zero.cells _ _ H0.out.rr
      have BW := H0.out.below.trans ((onlyRow R w0 Hd.zero.cells).below H0.out.nR H0.out.below.size)
      obtain ⟨wz, hwz⟩ : ∃ uu, uu = World.setRow w0 R Hd.zero.cells := ⟨_, rfl⟩
      rw [← hwz] at D BW ⊢
      obtain ⟨⟨j0, j1, j2, j3, j4, j5, j6⟩, j7, j8, j9, j10, j11, j12⟩ := hdAll D
      have HF := Lib.hid BW
      clear BW D hwz
      refine bodyPost_ret (v := .tuple #[.agg #[.int .u8 0, .bool false, .int .u64 0, .int .u64 0, .bool false, .int .u64 0, .int .u64 0, .int .u16 0, .int .u16 0, .int .u8 0, .int .u8 0, .int .u8 0, .int .i64 0], .int .i64 8]) (by simp [results, Try.results15, go_sem, j0, j1, j2, j3, j4, j5, j6, j7, j8, j9, j10, j11, j12, Hd.zero]) rfl ⟨?_, HF.out⟩
      rw [show (decH p).val = .agg #[.int .u8 0, .bool false, .int .u64 0, .int .u64 0, .bool false, .int .u64 0, .int .u64 0, .int .u16 0, .int .u16 0, .int .u8 0, .int .u8 0, .int .u8 0, .int .i64 0] by unfold decH; rw [if_neg (by rw [HE.out]; decide)]; rfl, HE.out]
    · have cA : ¬ (hn : Int) < 20 := by omega
      by_cases qB : d.size < hn
      · have HE := Lib.hid (show decE p = 8 by rw [HE0.out, if_pos (Or.inr qB)])
        have cB : (d.size : Int) < hn := by omega
        clear qA qB hs8
        go_enter Try.func15, Try.ntmps15
        go_wp2_with fail
        refine (HC.out.1 _).mono ?_
        rintro e w1 ⟨rfl, B1⟩
        simp only []
        have Q0 : QS w.heap.size (w.heap.size + 1) w1.heap.size #[.bool v1, .int .u64 h1, .int .u64 l1, .bool v2, .int .u64 h2, .int .u64 l2, .int .u8 pr, .int .u8 tt, .string d] h0 w (w1.alloc (.cells h0.cells 41)) := QS.start B1
        rw [HH0.out] at Q0
        obtain ⟨k0, k1, k2, k3, k4, k5, k6, k7, k8⟩ := pkCells (two_allocs B1).1
        clear B1
        go_upto_region 5 with (fail)
        clear k0 k1 k2 k3 k4 k5 k6 k7 k8
        obtain ⟨H, hH⟩ : ∃ x, x = w1.heap.size := ⟨_, rfl⟩
        obtain ⟨w0, hw0⟩ : ∃ x, x = w1.alloc (.cells #[.int .u8 pr, .bool v1, .int .u64 h1, .int .u64 l1, .bool v2, .int .u64 h2, .int .u64 l2, .int .u16 0, .int .u16 0, .int .u8 0, .int .u8 0, .int .u8 0, .int .i64 0] 41) := ⟨_, rfl⟩
        rw [← hw0, ← hH] at Q0 ⊢
        clear hw0 hH
        obtain ⟨R, hR⟩ : ∃ x, x = w.heap.size + 1 := ⟨_, rfl⟩
        obtain ⟨P, hP⟩ : ∃ x, x = w.heap.size := ⟨_, rfl⟩
        have H0 : Hid (QS P R H #[.bool v1, .int .u64 h1, .int .u64 l1, .bool v2, .int .u64 h2, .int .u64 l2, .int .u8 pr, .int .u8 tt, .string d] h0 w w0) := by rw [hR, hP]; exact Lib.hid Q0
        rw [← hR]
        rw [← hP]
        clear hR hP Q0
        obtain ⟨k0, k1, k2, k3, k4, k5, k6, k7, k8⟩ := pkCells H0.out.pk
        have c6 := C6.out
        go_upto_region 19 with (fail)
        clear c6
        clear k0 k1 k2 k3 k4 k5 k6 k7 k8
        obtain ⟨k0, k1, k2, k3, k4, k5, k6, k7, k8⟩ := pkCells H0.out.pk
        go_wp2_with (first | (refine Go.wpList_store_row rfl 41 _ _ rfl R Hd.zero.cells rfl rfl 41 _ H0.out.rr info41 rfl (hdOne _) ?_))
        clear k0 k1 k2 k3 k4 k5 k6 k7 k8
        have D := setRow_heap w0 R _ Hd.zero.cells _ _ H0.out.rr
        have BW := H0.out.below.trans ((onlyRow R w0 Hd.zero.cells).below H0.out.nR H0.out.below.size)
        obtain ⟨wz, hwz⟩ : ∃ uu, uu = World.setRow w0 R Hd.zero.cells := ⟨_, rfl⟩
        rw [← hwz] at D BW ⊢
        obtain ⟨⟨j0, j1, j2, j3, j4, j5, j6⟩, j7, j8, j9, j10, j11, j12⟩ := hdAll D
        have HF := Lib.hid BW
        clear BW D hwz
        refine bodyPost_ret (v := .tuple #[.agg #[.int .u8 0, .bool false, .int .u64 0, .int .u64 0, .bool false, .int .u64 0, .int .u64 0, .int .u16 0, .int .u16 0, .int .u8 0, .int .u8 0, .int .u8 0, .int .i64 0], .int .i64 8]) (by simp [results, Try.results15, go_sem, j0, j1, j2, j3, j4, j5, j6, j7, j8, j9, j10, j11, j12, Hd.zero]) rfl ⟨?_, HF.out⟩
        rw [show (decH p).val = .agg #[.int .u8 0, .bool false, .int .u64 0, .int .u64 0, .bool false, .int .u64 0, .int .u64 0, .int .u16 0, .int .u16 0, .int .u8 0, .int .u8 0, .int .u8 0, .int .i64 0] by unfold decH; rw [if_neg (by rw [HE.out]; decide)]; rfl, HE.out]
      · have cB : ¬ (d.size : Int) < hn := by omega
        by_cases qS : S = 0
        · have HE := Lib.hid (show decE p = 0 by rw [HE0.out, if_neg (by omega), if_neg (by simp [qS])])
          have cS : ((S : Int) != 0) = false := by rw [qS]; simp
          clear qA qB qS hs8
          go_enter Try.func15, Try.ntmps15
          go_wp2_with fail
          refine (HC.out.1 _).mono ?_
          rintro e w1 ⟨rfl, B1⟩
          simp only []
          have Q0 : QS w.heap.size (w.heap.size + 1) w1.heap.size #[.bool v1, .int .u64 h1, .int .u64 l1, .bool v2, .int .u64 h2, .int .u64 l2, .int .u8 pr, .int .u8 tt, .string d] h0 w (w1.alloc (.cells h0.cells 41)) := QS.start B1
          rw [HH0.out] at Q0
          obtain ⟨k0, k1, k2, k3, k4, k5, k6, k7, k8⟩ := pkCells (two_allocs B1).1
          clear B1
          go_upto_region 5 with (fail)
          clear k0 k1 k2 k3 k4 k5 k6 k7 k8
          obtain ⟨H, hH⟩ : ∃ x, x = w1.heap.size := ⟨_, rfl⟩
          obtain ⟨w0, hw0⟩ : ∃ x, x = w1.alloc (.cells #[.int .u8 pr, .bool v1, .int .u64 h1, .int .u64 l1, .bool v2, .int .u64 h2, .int .u64 l2, .int .u16 0, .int .u16 0, .int .u8 0, .int .u8 0, .int .u8 0, .int .i64 0] 41) := ⟨_, rfl⟩
          rw [← hw0, ← hH] at Q0 ⊢
          clear hw0 hH
          obtain ⟨R, hR⟩ : ∃ x, x = w.heap.size + 1 := ⟨_, rfl⟩
          obtain ⟨P, hP⟩ : ∃ x, x = w.heap.size := ⟨_, rfl⟩
          have H0 : Hid (QS P R H #[.bool v1, .int .u64 h1, .int .u64 l1, .bool v2, .int .u64 h2, .int .u64 l2, .int .u8 pr, .int .u8 tt, .string d] h0 w w0) := by rw [hR, hP]; exact Lib.hid Q0
          rw [← hR]
          rw [← hP]
          clear hR hP Q0
          obtain ⟨k0, k1, k2, k3, k4, k5, k6, k7, k8⟩ := pkCells H0.out.pk
          have c6 := C6.out
          go_upto_region 19 with (fail)
          clear c6
          clear k0 k1 k2 k3 k4 k5 k6 k7 k8
          obtain ⟨k0, k1, k2, k3, k4, k5, k6, k7, k8⟩ := pkCells H0.out.pk
          go_wp2_with fail
          clear k0 k1 k2 k3 k4 k5 k6 k7 k8
          refine (HC.out.2 _).mono ?_
          rintro e w1 ⟨rfl, B1⟩
          simp only []
          have H1 := Lib.hid (H0.out.call B1)
          clear B1
          obtain ⟨k0, k1, k2, k3, k4, k5, k6, k7, k8⟩ := pkCells H1.out.pk
          go_wp2_with fail
          clear k0 k1 k2 k3 k4 k5 k6 k7 k8
          refine (num_two d _ (by have := HY.out.2.2; omega)).mono ?_
          rintro e w2 ⟨rfl, B1⟩
          simp only []
          have H2 := Lib.hid (H1.out.call B1)
          clear B1
          obtain ⟨⟨g7, g8, g9, g10, g11, g12⟩, ⟨z7, z8, z9, z10, z11, z12⟩⟩ := hdSets H2.out.hd
          obtain ⟨k0, k1, k2, k3, k4, k5, k6, k7, k8⟩ := pkCells H2.out.pk
          go_upto_region 27 with (fail)
          clear g7 g8 g9 g10 g11 g12 z7 z8 z9 z10 z11 z12
          clear k0 k1 k2 k3 k4 k5 k6 k7 k8
          obtain ⟨h3, hh3⟩ : ∃ x : Hd, x = (Hd.mk (Fl.mk h0.fl.proto h0.fl.src h0.fl.dst (n2 d 0) h0.fl.tp) h0.flags h0.kind h0.code h0.size) := ⟨_, rfl⟩
          obtain ⟨w3, hw3⟩ : ∃ x, x = (World.setCell w2 ⟨H, 7, none⟩ (.int .u16 (n2 d 0))) := ⟨_, rfl⟩
          have H3 : Hid (QS P R H #[.bool v1, .int .u64 h1, .int .u64 l1, .bool v2, .int .u64 h2, .int .u64 l2, .int .u8 pr, .int .u8 tt, .string d] h3 w w3) := by rw [hw3, hh3]; exact Lib.hid (H2.out.set (h' := (Hd.mk (Fl.mk h0.fl.proto h0.fl.src h0.fl.dst (n2 d 0) h0.fl.tp) h0.flags h0.kind h0.code h0.size)) rfl)
          rw [← hw3]
          have HH3 := Lib.hid hh3
          clear hw3 hh3
          obtain ⟨k0, k1, k2, k3, k4, k5, k6, k7, k8⟩ := pkCells H3.out.pk
          go_wp2_with fail
          clear k0 k1 k2 k3 k4 k5 k6 k7 k8
          refine (num_at d 2 _ (by have := HY.out.2.2; omega)).mono ?_
          rintro e w4 ⟨rfl, B1⟩
          simp only []
          have H4 := Lib.hid (H3.out.call B1)
          clear B1
          obtain ⟨⟨g7, g8, g9, g10, g11, g12⟩, ⟨z7, z8, z9, z10, z11, z12⟩⟩ := hdSets H4.out.hd
          obtain ⟨k0, k1, k2, k3, k4, k5, k6, k7, k8⟩ := pkCells H4.out.pk
          go_upto_region 28 with (fail)
          clear g7 g8 g9 g10 g11 g12 z7 z8 z9 z10 z11 z12
          clear k0 k1 k2 k3 k4 k5 k6 k7 k8
          obtain ⟨h5, hh5⟩ : ∃ x : Hd, x = (Hd.mk (Fl.mk h3.fl.proto h3.fl.src h3.fl.dst h3.fl.fp (n2 d 2)) h3.flags h3.kind h3.code h3.size) := ⟨_, rfl⟩
          obtain ⟨w5, hw5⟩ : ∃ x, x = (World.setCell w4 ⟨H, 8, none⟩ (.int .u16 (n2 d 2))) := ⟨_, rfl⟩
          have H5 : Hid (QS P R H #[.bool v1, .int .u64 h1, .int .u64 l1, .bool v2, .int .u64 h2, .int .u64 l2, .int .u8 pr, .int .u8 tt, .string d] h5 w w5) := by rw [hw5, hh5]; exact Lib.hid (H4.out.set (h' := (Hd.mk (Fl.mk h3.fl.proto h3.fl.src h3.fl.dst h3.fl.fp (n2 d 2)) h3.flags h3.kind h3.code h3.size)) rfl)
          rw [← hw5]
          have HH5 := Lib.hid hh5
          clear hw5 hh5
          obtain ⟨⟨g7, g8, g9, g10, g11, g12⟩, ⟨z7, z8, z9, z10, z11, z12⟩⟩ := hdSets H5.out.hd
          obtain ⟨k0, k1, k2, k3, k4, k5, k6, k7, k8⟩ := pkCells H5.out.pk
          go_upto_region 29 with (fail)
          clear g7 g8 g9 g10 g11 g12 z7 z8 z9 z10 z11 z12
          clear k0 k1 k2 k3 k4 k5 k6 k7 k8
          obtain ⟨h6, hh6⟩ : ∃ x : Hd, x = (Hd.mk h5.fl n13 h5.kind h5.code h5.size) := ⟨_, rfl⟩
          obtain ⟨w6, hw6⟩ : ∃ x, x = (World.setCell w5 ⟨H, 9, none⟩ (.int .u8 n13)) := ⟨_, rfl⟩
          have H6 : Hid (QS P R H #[.bool v1, .int .u64 h1, .int .u64 l1, .bool v2, .int .u64 h2, .int .u64 l2, .int .u8 pr, .int .u8 tt, .string d] h6 w w6) := by rw [hw6, hh6]; exact Lib.hid (H5.out.set (h' := (Hd.mk h5.fl n13 h5.kind h5.code h5.size)) rfl)
          rw [← hw6]
          have HH6 := Lib.hid hh6
          clear hw6 hh6
          obtain ⟨⟨g7, g8, g9, g10, g11, g12⟩, ⟨z7, z8, z9, z10, z11, z12⟩⟩ := hdSets H6.out.hd
          obtain ⟨k0, k1, k2, k3, k4, k5, k6, k7, k8⟩ := pkCells H6.out.pk
          go_upto_region 44 with (fail)
          clear g7 g8 g9 g10 g11 g12 z7 z8 z9 z10 z11 z12
          clear k0 k1 k2 k3 k4 k5 k6 k7 k8
          obtain ⟨h7, hh7⟩ : ∃ x : Hd, x = (Hd.mk h6.fl h6.flags h6.kind h6.code ((d.size : Int) - hn)) := ⟨_, rfl⟩
          obtain ⟨w7, hw7⟩ : ∃ x, x = (World.setCell w6 ⟨H, 12, none⟩ (.int .i64 ((d.size : Int) - hn))) := ⟨_, rfl⟩
          have H7 : Hid (QS P R H #[.bool v1, .int .u64 h1, .int .u64 l1, .bool v2, .int .u64 h2, .int .u64 l2, .int .u8 pr, .int .u8 tt, .string d] h7 w w7) := by rw [hw7, hh7]; exact Lib.hid (H6.out.set (h' := (Hd.mk h6.fl h6.flags h6.kind h6.code ((d.size : Int) - hn))) rfl)
          rw [← hw7]
          have HH7 := Lib.hid hh7
          clear hw7 hh7
          go_wp2_with (first | (refine Go.wpList_load_row rfl 41 _ rfl H rfl 41 _ (0, 0) _ H7.out.hd U41.out rfl info41 ?_) | (refine Go.wpList_store_row rfl 41 _ _ rfl R (Hd.cells h7) rfl rfl 41 _ H7.out.rr info41 rfl (hdOne _) ?_))
          have D := setRow_heap w7 R _ (Hd.cells h7) _ _ H7.out.rr
          have BW := H7.out.below.trans ((onlyRow R w7 (Hd.cells h7)).below H7.out.nR H7.out.below.size)
          obtain ⟨wz, hwz⟩ : ∃ uu, uu = World.setRow w7 R (Hd.cells h7) := ⟨_, rfl⟩
          rw [← hwz] at D BW ⊢
          obtain ⟨⟨j0, j1, j2, j3, j4, j5, j6⟩, j7, j8, j9, j10, j11, j12⟩ := hdAll D
          have HF := Lib.hid BW
          clear BW D hwz
          refine bodyPost_ret (v := .tuple #[.agg #[.int .u8 h7.fl.proto, .bool h7.fl.src.v6, .int .u64 h7.fl.src.hi, .int .u64 h7.fl.src.lo, .bool h7.fl.dst.v6, .int .u64 h7.fl.dst.hi, .int .u64 h7.fl.dst.lo, .int .u16 h7.fl.fp, .int .u16 h7.fl.tp, .int .u8 h7.flags, .int .u8 h7.kind, .int .u8 h7.code, .int .i64 h7.size], .int .i64 0]) (by simp [results, Try.results15, go_sem, j0, j1, j2, j3, j4, j5, j6, j7, j8, j9, j10, j11, j12]) rfl ⟨?_, HF.out⟩
          have HG : decH p = h7 := by
            unfold decH
            rw [if_pos HE.out, HQ.out.2, HH7.out, HH6.out, HH5.out, HH3.out, hh0.out]
            rw [show tcpG p (hd0 p) = Hd.mk (Fl.mk p.proto p.src p.dst (n2 p.data 0) (n2 p.data 2)) (byt p.data 13) 0 0 ((p.data.size : Int) - hdl p) from rfl, HG.out, HP.out.1, HY.out.2.1]; rfl
          rw [HG, HE.out]
          rfl
        · have HE := Lib.hid (show decE p = 131 by rw [HE0.out, if_neg (by omega), if_pos (by simp [qS])])
          have cS : ((S : Int) != 0) = true := bne_iff_ne.2 (by omega)
          clear qA qB qS hs8
          go_enter Try.func15, Try.ntmps15
          go_wp2_with fail
          refine (HC.out.1 _).mono ?_
          rintro e w1 ⟨rfl, B1⟩
          simp only []
          have Q0 : QS w.heap.size (w.heap.size + 1) w1.heap.size #[.bool v1, .int .u64 h1, .int .u64 l1, .bool v2, .int .u64 h2, .int .u64 l2, .int .u8 pr, .int .u8 tt, .string d] h0 w (w1.alloc (.cells h0.cells 41)) := QS.start B1
          rw [HH0.out] at Q0
          obtain ⟨k0, k1, k2, k3, k4, k5, k6, k7, k8⟩ := pkCells (two_allocs B1).1
          clear B1
          go_upto_region 5 with (fail)
          clear k0 k1 k2 k3 k4 k5 k6 k7 k8
          obtain ⟨H, hH⟩ : ∃ x, x = w1.heap.size := ⟨_, rfl⟩
          obtain ⟨w0, hw0⟩ : ∃ x, x = w1.alloc (.cells #[.int .u8 pr, .bool v1, .int .u64 h1, .int .u64 l1, .bool v2, .int .u64 h2, .int .u64 l2, .int .u16 0, .int .u16 0, .int .u8 0, .int .u8 0, .int .u8 0, .int .i64 0] 41) := ⟨_, rfl⟩
          rw [← hw0, ← hH] at Q0 ⊢
          clear hw0 hH
          obtain ⟨R, hR⟩ : ∃ x, x = w.heap.size + 1 := ⟨_, rfl⟩
          obtain ⟨P, hP⟩ : ∃ x, x = w.heap.size := ⟨_, rfl⟩
          have H0 : Hid (QS P R H #[.bool v1, .int .u64 h1, .int .u64 l1, .bool v2, .int .u64 h2, .int .u64 l2, .int .u8 pr, .int .u8 tt, .string d] h0 w w0) := by rw [hR, hP]; exact Lib.hid Q0
          rw [← hR]
          rw [← hP]
          clear hR hP Q0
          obtain ⟨k0, k1, k2, k3, k4, k5, k6, k7, k8⟩ := pkCells H0.out.pk
          have c6 := C6.out
          go_upto_region 19 with (fail)
          clear c6
          clear k0 k1 k2 k3 k4 k5 k6 k7 k8
          obtain ⟨k0, k1, k2, k3, k4, k5, k6, k7, k8⟩ := pkCells H0.out.pk
          go_wp2_with fail
          clear k0 k1 k2 k3 k4 k5 k6 k7 k8
          refine (HC.out.2 _).mono ?_
          rintro e w1 ⟨rfl, B1⟩
          simp only []
          have H1 := Lib.hid (H0.out.call B1)
          clear B1
          obtain ⟨k0, k1, k2, k3, k4, k5, k6, k7, k8⟩ := pkCells H1.out.pk
          go_wp2_with (first | (refine Go.wpList_store_row rfl 41 _ _ rfl R Hd.zero.cells rfl rfl 41 _ H1.out.rr info41 rfl (hdOne _) ?_))
          clear k0 k1 k2 k3 k4 k5 k6 k7 k8
          have D := setRow_heap w1 R _ Hd.zero.cells _ _ H1.out.rr
          have BW := H1.out.below.trans ((onlyRow R w1 Hd.zero.cells).below H1.out.nR H1.out.below.size)
          obtain ⟨wz, hwz⟩ : ∃ uu, uu = World.setRow w1 R Hd.zero.cells := ⟨_, rfl⟩
          rw [← hwz] at D BW ⊢
          obtain ⟨⟨j0, j1, j2, j3, j4, j5, j6⟩, j7, j8, j9, j10, j11, j12⟩ := hdAll D
          have HF := Lib.hid BW
          clear BW D hwz
          refine bodyPost_ret (v := .tuple #[.agg #[.int .u8 0, .bool false, .int .u64 0, .int .u64 0, .bool false, .int .u64 0, .int .u64 0, .int .u16 0, .int .u16 0, .int .u8 0, .int .u8 0, .int .u8 0, .int .i64 0], .int .i64 131]) (by simp [results, Try.results15, go_sem, j0, j1, j2, j3, j4, j5, j6, j7, j8, j9, j10, j11, j12, Hd.zero]) rfl ⟨?_, HF.out⟩
          rw [show (decH p).val = .agg #[.int .u8 0, .bool false, .int .u64 0, .int .u64 0, .bool false, .int .u64 0, .int .u64 0, .int .u16 0, .int .u16 0, .int .u8 0, .int .u8 0, .int .u8 0, .int .i64 0] by unfold decH; rw [if_neg (by rw [HE.out]; decide)]; rfl, HE.out]

end Go.Proofs.Ytgonakpoflacoaa
