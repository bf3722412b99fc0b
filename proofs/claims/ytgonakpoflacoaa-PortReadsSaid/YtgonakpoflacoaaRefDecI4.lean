/-
  A packet of ICMP told, by the document.
-/
import Derived.Test.YtgonakpoflacoaaRefBase
set_option linter.unusedVariables false
set_option linter.unusedSimpArgs false
namespace Go.Proofs.Ytgonakpoflacoaa
open Go.RowKit

set_option maxHeartbeats 16000000 in
set_option maxRecDepth 100000 in
theorem refDecode_icmp_f (p : Pk) (w : World) (hok : p.Ok) (hd : p.data.size ≤ 10000) (h0m : mayE p = 0) (hq : p.proto = 1 ∨ p.proto = 58) (hv : p.src.v6 = false) :
    Calls Try.prog 15 #[p.val] w fun e w' => e = .returned (.tuple #[(decH p).val, .int .i64 (decE p)]) ∧ Below w.heap.size w w' := by
  obtain ⟨⟨v1, h1, l1⟩, ⟨v2, h2, l2⟩, pr, tt, d⟩ := p
  replace hv : v1 = false := hv
  subst hv
  obtain ⟨p, hp⟩ : ∃ p : Pk, p = ⟨⟨false, h1, l1⟩, ⟨v2, h2, l2⟩, pr, tt, d⟩ := ⟨_, rfl⟩
  have hpv : p.val = .agg #[.bool false, .int .u64 h1, .int .u64 l1, .bool v2, .int .u64 h2, .int .u64 l2, .int .u8 pr, .int .u8 tt, .string d] := by rw [hp]; rfl
  rw [← hp] at hok hd h0m ⊢
  have hd' : d.size ≤ 10000 := by have := hd; rw [hp] at this; exact this
  have C1 : ∀ u, Calls Try.prog 30 #[.agg #[.bool false, .int .u64 h1, .int .u64 l1, .bool v2, .int .u64 h2, .int .u64 l2, .int .u8 pr, .int .u8 tt, .string d]] u fun e w' => e = .returned (.int .i64 0) ∧ Below u.heap.size u w' := fun u => by rw [← hpv, ← h0m]; exact refMay_any p u (by omega)
  have C2 : ∀ u, Calls Try.prog 32 #[.agg #[.bool false, .int .u64 h1, .int .u64 l1, .bool v2, .int .u64 h2, .int .u64 l2, .int .u8 pr, .int .u8 tt, .string d]] u fun e w' => e = .returned (.int .u16 (sumP p)) ∧ Below u.heap.size u w' := fun u => by rw [← hpv]; exact refSum_any p u hok hd
  have HP := Lib.hid (And.intro hp hd')
  have hz : (d.size : Int) ≤ 10000 := by omega
  obtain ⟨h0, hh0⟩ : ∃ x, x = hd1 p := ⟨_, rfl⟩
  have HH0 := Lib.hid (show h0.cells = #[.int .u8 pr, .bool false, .int .u64 h1, .int .u64 l1, .bool v2, .int .u64 h2, .int .u64 l2, .int .u16 0, .int .u16 0, .int .u8 0, .int .u8 0, .int .u8 0, .int .i64 0] by rw [hh0, hp]; rfl)
  obtain ⟨fs, hfs⟩ := under30
  have U30 := Lib.hid hfs
  obtain ⟨fs', hfs'⟩ := under41
  have U41 := Lib.hid hfs'
  obtain ⟨S, hS⟩ : ∃ x, x = sumP p := ⟨_, rfl⟩
  rw [← hS] at C2
  have HC := Lib.hid (And.intro C1 C2)
  have HS := Lib.hid hS
  have hh0 := Lib.hid hh0
  have HM := Lib.hid h0m
  rw [hpv]
  clear hok hd hpv C1 C2 hp hfs hfs' hS h0m hd'
  have q1 : pr = 1 ∨ pr = 58 := hq
  have hq : p.proto = 1 ∨ p.proto = 58 := by rw [HP.out.1]; exact q1
  have HQ := Lib.hid (show decE p = icmpE p ∧ decG p = icmpG p (hd0 p) by
    unfold decE decG
    rw [HM.out, if_neg (by omega : ¬ p.proto = 17), if_neg (by omega : ¬ p.proto = 6), if_pos hq, if_neg (by omega : ¬ p.proto = 17), if_neg (by omega : ¬ p.proto = 6), if_pos hq]
    exact ⟨rfl, rfl⟩)
  have c17 : ((pr : Int) == 17) = false := byNe (b := 17) (by omega)
  have c6 : ((pr : Int) == 6) = false := byNe (b := 6) (by omega)
  clear hq
  by_cases q58 : pr = 58
  · have c58 : ((pr : Int) == 58) = true := byEq (b := 58) q58
    have c1 : ((pr : Int) == 1) = false := byNe (b := 1) (by omega)
    have HE := Lib.hid (show decE p = 8 by rw [HQ.out.1]; unfold icmpE; rw [HP.out.1]; rw [if_pos (by simp [q58])])
    clear q1 q58
    go_enter Try.func15, Try.ntmps15
    go_wp2_with fail
    refine (HC.out.1 _).mono ?_
    rintro e w1 ⟨rfl, B1⟩
    simp only []
    have Q0 : QS w.heap.size (w.heap.size + 1) w1.heap.size #[.bool false, .int .u64 h1, .int .u64 l1, .bool v2, .int .u64 h2, .int .u64 l2, .int .u8 pr, .int .u8 tt, .string d] h0 w (w1.alloc (.cells h0.cells 41)) := QS.start B1
    rw [HH0.out] at Q0
    obtain ⟨k0, k1, k2, k3, k4, k5, k6, k7, k8⟩ := pkCells (two_allocs B1).1
    clear B1
    go_upto_region 5 with (fail)
    clear k0 k1 k2 k3 k4 k5 k6 k7 k8
    obtain ⟨H, hH⟩ : ∃ x, x = w1.heap.size := ⟨_, rfl⟩
    obtain ⟨w0, hw0⟩ : ∃ x, x = w1.alloc (.cells #[.int .u8 pr, .bool false, .int .u64 h1, .int .u64 l1, .bool v2, .int .u64 h2, .int .u64 l2, .int .u16 0, .int .u16 0, .int .u8 0, .int .u8 0, .int .u8 0, .int .i64 0] 41) := ⟨_, rfl⟩
    rw [← hw0, ← hH] at Q0 ⊢
    clear hw0 hH
    obtain ⟨R, hR⟩ : ∃ x, x = w.heap.size + 1 := ⟨_, rfl⟩
    obtain ⟨P, hP⟩ : ∃ x, x = w.heap.size := ⟨_, rfl⟩
    have H0 : Hid (QS P R H #[.bool false, .int .u64 h1, .int .u64 l1, .bool v2, .int .u64 h2, .int .u64 l2, .int .u8 pr, .int .u8 tt, .string d] h0 w w0) := by rw [hR, hP]; exact Lib.hid Q0
    rw [← hR]
    rw [← hP]
    clear hR hP Q0
    obtain ⟨k0, k1, k2, k3, k4, k5, k6, k7, k8⟩ := pkCells H0.out.pk
    go_wp2_with (first | (refine Go.wpList_store_row rfl 41 _ _ rfl R Hd.zero.cells rfl rfl 41 _ H0.out.rr info41 rfl (hdOne _) ?_))
    clear k0 k1 k2 k3 k4 k5 k6 k7 k8
    have D := setRow_heap w0 R _ Hd.zero.cells _ _ H0.out.rr
    have BW := H0.out.below.trans ((onlyRow R w0 Hd.zero.cells).below H0.out.nR H0.out.below.size)
    obtain ⟨wz, hwz⟩ : ∃ uu, uu = World.setRow w0 R Hd.zero.cells := ⟨_, rfl⟩
    rw [← hwz] at D BW ⊢
    obtain ⟨⟨j0, j1, j2, j3, j4, j5, j6⟩, j7, j8, j9, j10, j11, j12⟩ := hdAll D
    have HF := Lib.hid BW
    clear BW D hwz
    refine bodyPost_ret (v := .tuple #[.agg #[.int .u8 0, .bool false, .int .u64 0, .int .u64 0, .bool false, .int .u64 0, .int .u64 0, .int .u16 0, .int .u16 0, .int .u8 0, .int .u8 0, .int .u8 0, .int .i64 0], .int .i64 8]) (by simp [results, Try.results15, go_sem, j0, j1, j2, j3, j4, j5, j6, j7, j8, j9, j10, j11, j12, Hd.zero]) rfl ⟨?_, HF.out⟩
    rw [show (decH p).val = .agg #[.int .u8 0, .bool false, .int .u64 0, .int .u64 0, .bool false, .int .u64 0, .int .u64 0, .int .u16 0, .int .u16 0, .int .u8 0, .int .u8 0, .int .u8 0, .int .i64 0] by unfold decH; rw [if_neg (by rw [HE.out]; decide)]; rfl, HE.out]
  · have c58 : ((pr : Int) == 58) = false := byNe (b := 58) q58
    have c1 : ((pr : Int) == 1) = true := byEq (b := 1) (by omega)
    by_cases hs8 : d.size < 8
    · have HE := Lib.hid (show decE p = 7 by rw [HQ.out.1]; unfold icmpE; rw [HP.out.1]; rw [if_neg (by simp [q58]), if_pos (by exact hs8)])
      have l8 : (d.size : Int) < 8 := by omega
      clear q1 q58 hs8
      go_enter Try.func15, Try.ntmps15
      go_wp2_with fail
      refine (HC.out.1 _).mono ?_
      rintro e w1 ⟨rfl, B1⟩
      simp only []
      have Q0 : QS w.heap.size (w.heap.size + 1) w1.heap.size #[.bool false, .int .u64 h1, .int .u64 l1, .bool v2, .int .u64 h2, .int .u64 l2, .int .u8 pr, .int .u8 tt, .string d] h0 w (w1.alloc (.cells h0.cells 41)) := QS.start B1
      rw [HH0.out] at Q0
      obtain ⟨k0, k1, k2, k3, k4, k5, k6, k7, k8⟩ := pkCells (two_allocs B1).1
      clear B1
      go_upto_region 5 with (fail)
      clear k0 k1 k2 k3 k4 k5 k6 k7 k8
      obtain ⟨H, hH⟩ : ∃ x, x = w1.heap.size := ⟨_, rfl⟩
      obtain ⟨w0, hw0⟩ : ∃ x, x = w1.alloc (.cells #[.int .u8 pr, .bool false, .int .u64 h1, .int .u64 l1, .bool v2, .int .u64 h2, .int .u64 l2, .int .u16 0, .int .u16 0, .int .u8 0, .int .u8 0, .int .u8 0, .int .i64 0] 41) := ⟨_, rfl⟩
      rw [← hw0, ← hH] at Q0 ⊢
      clear hw0 hH
      obtain ⟨R, hR⟩ : ∃ x, x = w.heap.size + 1 := ⟨_, rfl⟩
      obtain ⟨P, hP⟩ : ∃ x, x = w.heap.size := ⟨_, rfl⟩
      have H0 : Hid (QS P R H #[.bool false, .int .u64 h1, .int .u64 l1, .bool v2, .int .u64 h2, .int .u64 l2, .int .u8 pr, .int .u8 tt, .string d] h0 w w0) := by rw [hR, hP]; exact Lib.hid Q0
      rw [← hR]
      rw [← hP]
      clear hR hP Q0
      obtain ⟨k0, k1, k2, k3, k4, k5, k6, k7, k8⟩ := pkCells H0.out.pk
      go_wp2_with (first | (refine Go.wpList_store_row rfl 41 _ _ rfl R Hd.zero.cells rfl rfl 41 _ H0.out.rr info41 rfl (hdOne _) ?_))
      clear k0 k1 k2 k3 k4 k5 k6 k7 k8
      have D := setRow_heap w0 R _ Hd.zero.cells _ _ H0.out.rr
      have BW := H0.out.below.trans ((onlyRow R w0 Hd.zero.cells).below H0.out.nR H0.out.below.size)
      obtain ⟨wz, hwz⟩ : ∃ uu, uu = World.setRow w0 R Hd.zero.cells := ⟨_, rfl⟩
      rw [← hwz] at D BW ⊢
      obtain ⟨⟨j0, j1, j2, j3, j4, j5, j6⟩, j7, j8, j9, j10, j11, j12⟩ := hdAll D
      have HF := Lib.hid BW
      clear BW D hwz
      refine bodyPost_ret (v := .tuple #[.agg #[.int .u8 0, .bool false, .int .u64 0, .int .u64 0, .bool false, .int .u64 0, .int .u64 0, .int .u16 0, .int .u16 0, .int .u8 0, .int .u8 0, .int .u8 0, .int .i64 0], .int .i64 7]) (by simp [results, Try.results15, go_sem, j0, j1, j2, j3, j4, j5, j6, j7, j8, j9, j10, j11, j12, Hd.zero]) rfl ⟨?_, HF.out⟩
      rw [show (decH p).val = .agg #[.int .u8 0, .bool false, .int .u64 0, .int .u64 0, .bool false, .int .u64 0, .int .u64 0, .int .u16 0, .int .u16 0, .int .u8 0, .int .u8 0, .int .u8 0, .int .i64 0] by unfold decH; rw [if_neg (by rw [HE.out]; decide)]; rfl, HE.out]
    · have l8 : ¬ (d.size : Int) < 8 := by omega
      have e8 : IntKind.i64.wrap ((d.size : Int) - 8) = (d.size : Int) - 8 := IntWalk.i64_in _ (by omega)
      obtain ⟨n0, hn0⟩ : ∃ x, x = byt d 0 := ⟨_, rfl⟩
      obtain ⟨m1, hm1⟩ : ∃ x, x = byt d 1 := ⟨_, rfl⟩
      obtain ⟨n4, hn4⟩ : ∃ x, x = n2 d 4 := ⟨_, rfl⟩
      have s4 : ∀ u, (Instr.slice 9 (.string d) (some (.int .i64 4)) none none).run Try.prog u = .ok (.string (Lf d 4)) u := slice_at d 4 (by omega)
      have i0 : ∀ u, (Instr.index 9 (.string d) (.int .i64 0)).run Try.prog u = .ok (.int .u8 n0) u := by rw [hn0]; exact ix_at d 0 (by omega)
      have i1 : ∀ u, (Instr.index 9 (.string d) (.int .i64 1)).run Try.prog u = .ok (.int .u8 m1) u := by rw [hm1]; exact ix_at d 1 (by omega)
      have HY := Lib.hid (And.intro hn0 (And.intro hm1 (And.intro hn4 hs8)))
      clear hn0 hm1 hn4
      by_cases qS : S = 0
      · have HE := Lib.hid (show decE p = 0 by rw [HQ.out.1]; unfold icmpE; rw [HP.out.1]; rw [if_neg (by simp [q58]), if_neg (by exact hs8), if_neg (by rw [← HP.out.1, ← HS.out]; simp [qS])])
        have cS : ((S : Int) != 0) = false := by rw [qS]; simp
        clear q1 q58 hs8 qS
        by_cases qk8 : n0 = 8
        · have ck8 : ((n0 : Int) == 8) = true := byEq (b := 8) qk8
          have ck0 : ((n0 : Int) == 0) = false := byNe (b := 0) (by omega)
          have ck128 : ((n0 : Int) == 128) = false := byNe (b := 128) (by omega)
          have ck129 : ((n0 : Int) == 129) = false := byNe (b := 129) (by omega)
          have HI := Lib.hid (show isEcho p = true by unfold isEcho; rw [HP.out.1]; simp only [Bool.false_eq_true, if_false]; rw [← HY.out.1]; simp [qk8])
          clear qk8
          go_enter Try.func15, Try.ntmps15
          go_wp2_with fail
          refine (HC.out.1 _).mono ?_
          rintro e w1 ⟨rfl, B1⟩
          simp only []
          have Q0 : QS w.heap.size (w.heap.size + 1) w1.heap.size #[.bool false, .int .u64 h1, .int .u64 l1, .bool v2, .int .u64 h2, .int .u64 l2, .int .u8 pr, .int .u8 tt, .string d] h0 w (w1.alloc (.cells h0.cells 41)) := QS.start B1
          rw [HH0.out] at Q0
          obtain ⟨k0, k1, k2, k3, k4, k5, k6, k7, k8⟩ := pkCells (two_allocs B1).1
          clear B1
          go_upto_region 5 with (fail)
          clear k0 k1 k2 k3 k4 k5 k6 k7 k8
          obtain ⟨H, hH⟩ : ∃ x, x = w1.heap.size := ⟨_, rfl⟩
          obtain ⟨w0, hw0⟩ : ∃ x, x = w1.alloc (.cells #[.int .u8 pr, .bool false, .int .u64 h1, .int .u64 l1, .bool v2, .int .u64 h2, .int .u64 l2, .int .u16 0, .int .u16 0, .int .u8 0, .int .u8 0, .int .u8 0, .int .i64 0] 41) := ⟨_, rfl⟩
          rw [← hw0, ← hH] at Q0 ⊢
          clear hw0 hH
          obtain ⟨R, hR⟩ : ∃ x, x = w.heap.size + 1 := ⟨_, rfl⟩
          obtain ⟨P, hP⟩ : ∃ x, x = w.heap.size := ⟨_, rfl⟩
          have H0 : Hid (QS P R H #[.bool false, .int .u64 h1, .int .u64 l1, .bool v2, .int .u64 h2, .int .u64 l2, .int .u8 pr, .int .u8 tt, .string d] h0 w w0) := by rw [hR, hP]; exact Lib.hid Q0
          rw [← hR]
          rw [← hP]
          clear hR hP Q0
          obtain ⟨k0, k1, k2, k3, k4, k5, k6, k7, k8⟩ := pkCells H0.out.pk
          go_wp2_with fail
          clear k0 k1 k2 k3 k4 k5 k6 k7 k8
          refine (HC.out.2 _).mono ?_
          rintro e w1 ⟨rfl, B1⟩
          simp only []
          have H1 := Lib.hid (H0.out.call B1)
          clear B1
          obtain ⟨⟨g7, g8, g9, g10, g11, g12⟩, ⟨z7, z8, z9, z10, z11, z12⟩⟩ := hdSets H1.out.hd
          obtain ⟨k0, k1, k2, k3, k4, k5, k6, k7, k8⟩ := pkCells H1.out.pk
          go_upto_region 39 with (fail)
          clear g7 g8 g9 g10 g11 g12 z7 z8 z9 z10 z11 z12
          clear k0 k1 k2 k3 k4 k5 k6 k7 k8
          obtain ⟨hx2, hh2⟩ : ∃ x : Hd, x = (Hd.mk h0.fl h0.flags n0 h0.code h0.size) := ⟨_, rfl⟩
          obtain ⟨w2, hw2⟩ : ∃ x, x = (World.setCell w1 ⟨H, 10, none⟩ (.int .u8 n0)) := ⟨_, rfl⟩
          have H2 : Hid (QS P R H #[.bool false, .int .u64 h1, .int .u64 l1, .bool v2, .int .u64 h2, .int .u64 l2, .int .u8 pr, .int .u8 tt, .string d] hx2 w w2) := by rw [hw2, hh2]; exact Lib.hid (H1.out.set (h' := (Hd.mk h0.fl h0.flags n0 h0.code h0.size)) rfl)
          rw [← hw2]
          have HH2 := Lib.hid hh2
          clear hw2 hh2
          obtain ⟨⟨g7, g8, g9, g10, g11, g12⟩, ⟨z7, z8, z9, z10, z11, z12⟩⟩ := hdSets H2.out.hd
          obtain ⟨k0, k1, k2, k3, k4, k5, k6, k7, k8⟩ := pkCells H2.out.pk
          go_upto_region 40 with (fail)
          clear g7 g8 g9 g10 g11 g12 z7 z8 z9 z10 z11 z12
          clear k0 k1 k2 k3 k4 k5 k6 k7 k8
          obtain ⟨hx3, hh3⟩ : ∃ x : Hd, x = (Hd.mk hx2.fl hx2.flags hx2.kind m1 hx2.size) := ⟨_, rfl⟩
          obtain ⟨w3, hw3⟩ : ∃ x, x = (World.setCell w2 ⟨H, 11, none⟩ (.int .u8 m1)) := ⟨_, rfl⟩
          have H3 : Hid (QS P R H #[.bool false, .int .u64 h1, .int .u64 l1, .bool v2, .int .u64 h2, .int .u64 l2, .int .u8 pr, .int .u8 tt, .string d] hx3 w w3) := by rw [hw3, hh3]; exact Lib.hid (H2.out.set (h' := (Hd.mk hx2.fl hx2.flags hx2.kind m1 hx2.size)) rfl)
          rw [← hw3]
          have HH3 := Lib.hid hh3
          clear hw3 hh3
          have j10 : w3.cell? ⟨H, 10, none⟩ = some (.int .u8 n0) := by have := (hdCells H3.out.hd).1; rw [HH3.out, HH2.out] at this; exact this
          obtain ⟨k0, k1, k2, k3, k4, k5, k6, k7, k8⟩ := pkCells H3.out.pk
          go_wp2_with fail
          clear k0 k1 k2 k3 k4 k5 k6 k7 k8
          refine (num_at d 4 _ (by have := HY.out.2.2.2; omega)).mono ?_
          rintro e w4 ⟨rfl, B1⟩
          rw [← HY.out.2.2.1]
          simp only []
          have H4 := Lib.hid (H3.out.call B1)
          clear B1
          clear j10
          obtain ⟨⟨g7, g8, g9, g10, g11, g12⟩, ⟨z7, z8, z9, z10, z11, z12⟩⟩ := hdSets H4.out.hd
          obtain ⟨k0, k1, k2, k3, k4, k5, k6, k7, k8⟩ := pkCells H4.out.pk
          go_upto_region 42 with (fail)
          clear g7 g8 g9 g10 g11 g12 z7 z8 z9 z10 z11 z12
          clear k0 k1 k2 k3 k4 k5 k6 k7 k8
          obtain ⟨hx5, hh5⟩ : ∃ x : Hd, x = (Hd.mk (Fl.mk hx3.fl.proto hx3.fl.src hx3.fl.dst n4 hx3.fl.tp) hx3.flags hx3.kind hx3.code hx3.size) := ⟨_, rfl⟩
          obtain ⟨w5, hw5⟩ : ∃ x, x = (World.setCell w4 ⟨H, 7, none⟩ (.int .u16 n4)) := ⟨_, rfl⟩
          have H5 : Hid (QS P R H #[.bool false, .int .u64 h1, .int .u64 l1, .bool v2, .int .u64 h2, .int .u64 l2, .int .u8 pr, .int .u8 tt, .string d] hx5 w w5) := by rw [hw5, hh5]; exact Lib.hid (H4.out.set (h' := (Hd.mk (Fl.mk hx3.fl.proto hx3.fl.src hx3.fl.dst n4 hx3.fl.tp) hx3.flags hx3.kind hx3.code hx3.size)) rfl)
          rw [← hw5]
          have HH5 := Lib.hid hh5
          clear hw5 hh5
          have j7 : w5.cell? ⟨H, 7, none⟩ = some (.int .u16 n4) := by have := (hdCells H5.out.hd).2.2; rw [HH5.out, HH3.out, HH2.out] at this; exact this
          obtain ⟨⟨g7, g8, g9, g10, g11, g12⟩, ⟨z7, z8, z9, z10, z11, z12⟩⟩ := hdSets H5.out.hd
          obtain ⟨k0, k1, k2, k3, k4, k5, k6, k7, k8⟩ := pkCells H5.out.pk
          go_upto_region 43 with (fail)
          clear g7 g8 g9 g10 g11 g12 z7 z8 z9 z10 z11 z12
          clear k0 k1 k2 k3 k4 k5 k6 k7 k8
          obtain ⟨hx6, hh6⟩ : ∃ x : Hd, x = (Hd.mk (Fl.mk hx5.fl.proto hx5.fl.src hx5.fl.dst hx5.fl.fp n4) hx5.flags hx5.kind hx5.code hx5.size) := ⟨_, rfl⟩
          obtain ⟨w6, hw6⟩ : ∃ x, x = (World.setCell w5 ⟨H, 8, none⟩ (.int .u16 n4)) := ⟨_, rfl⟩
          have H6 : Hid (QS P R H #[.bool false, .int .u64 h1, .int .u64 l1, .bool v2, .int .u64 h2, .int .u64 l2, .int .u8 pr, .int .u8 tt, .string d] hx6 w w6) := by rw [hw6, hh6]; exact Lib.hid (H5.out.set (h' := (Hd.mk (Fl.mk hx5.fl.proto hx5.fl.src hx5.fl.dst hx5.fl.fp n4) hx5.flags hx5.kind hx5.code hx5.size)) rfl)
          rw [← hw6]
          have HH6 := Lib.hid hh6
          clear hw6 hh6
          clear j7
          obtain ⟨⟨g7, g8, g9, g10, g11, g12⟩, ⟨z7, z8, z9, z10, z11, z12⟩⟩ := hdSets H6.out.hd
          obtain ⟨k0, k1, k2, k3, k4, k5, k6, k7, k8⟩ := pkCells H6.out.pk
          go_upto_region 44 with (fail)
          clear g7 g8 g9 g10 g11 g12 z7 z8 z9 z10 z11 z12
          clear k0 k1 k2 k3 k4 k5 k6 k7 k8
          obtain ⟨hx7, hh7⟩ : ∃ x : Hd, x = (Hd.mk hx6.fl hx6.flags hx6.kind hx6.code ((d.size : Int) - 8)) := ⟨_, rfl⟩
          obtain ⟨w7, hw7⟩ : ∃ x, x = (World.setCell w6 ⟨H, 12, none⟩ (.int .i64 ((d.size : Int) - 8))) := ⟨_, rfl⟩
          have H7 : Hid (QS P R H #[.bool false, .int .u64 h1, .int .u64 l1, .bool v2, .int .u64 h2, .int .u64 l2, .int .u8 pr, .int .u8 tt, .string d] hx7 w w7) := by rw [hw7, hh7]; exact Lib.hid (H6.out.set (h' := (Hd.mk hx6.fl hx6.flags hx6.kind hx6.code ((d.size : Int) - 8))) rfl)
          rw [← hw7]
          have HH7 := Lib.hid hh7
          clear hw7 hh7
          go_wp2_with (first | (refine Go.wpList_load_row rfl 41 _ rfl H rfl 41 _ (0, 0) _ H7.out.hd U41.out rfl info41 ?_) | (refine Go.wpList_store_row rfl 41 _ _ rfl R (Hd.cells hx7) rfl rfl 41 _ H7.out.rr info41 rfl (hdOne _) ?_))
          have D := setRow_heap w7 R _ (Hd.cells hx7) _ _ H7.out.rr
          have BW := H7.out.below.trans ((onlyRow R w7 (Hd.cells hx7)).below H7.out.nR H7.out.below.size)
          obtain ⟨wz, hwz⟩ : ∃ uu, uu = World.setRow w7 R (Hd.cells hx7) := ⟨_, rfl⟩
          rw [← hwz] at D BW ⊢
          obtain ⟨⟨j0, j1, j2, j3, j4, j5, j6⟩, j7, j8, j9, j10, j11, j12⟩ := hdAll D
          have HF := Lib.hid BW
          clear BW D hwz
          refine bodyPost_ret (v := .tuple #[.agg #[.int .u8 hx7.fl.proto, .bool hx7.fl.src.v6, .int .u64 hx7.fl.src.hi, .int .u64 hx7.fl.src.lo, .bool hx7.fl.dst.v6, .int .u64 hx7.fl.dst.hi, .int .u64 hx7.fl.dst.lo, .int .u16 hx7.fl.fp, .int .u16 hx7.fl.tp, .int .u8 hx7.flags, .int .u8 hx7.kind, .int .u8 hx7.code, .int .i64 hx7.size], .int .i64 0]) (by simp [results, Try.results15, go_sem, j0, j1, j2, j3, j4, j5, j6, j7, j8, j9, j10, j11, j12]) rfl ⟨?_, HF.out⟩
          have HG : decH p = hx7 := by
            unfold decH
            rw [if_pos HE.out, HQ.out.2, HH7.out, HH6.out, HH5.out, HH3.out, HH2.out, hh0.out]
            rw [show icmpG p (hd0 p) = Hd.mk (if isEcho p then { (hd0 p).fl with fp := n2 p.data 4, tp := n2 p.data 4 } else (hd0 p).fl) 0 (byt p.data 0) (byt p.data 1) ((p.data.size : Int) - 8) from rfl, HI.out, HP.out.1, HY.out.1, HY.out.2.1, HY.out.2.2.1]; rfl
          rw [HG, HE.out]
          rfl
        · by_cases qk0 : n0 = 0
          · have ck8 : ((n0 : Int) == 8) = false := byNe (b := 8) (by omega)
            have ck0 : ((n0 : Int) == 0) = true := byEq (b := 0) qk0
            have ck128 : ((n0 : Int) == 128) = false := byNe (b := 128) (by omega)
            have ck129 : ((n0 : Int) == 129) = false := byNe (b := 129) (by omega)
            have HI := Lib.hid (show isEcho p = true by unfold isEcho; rw [HP.out.1]; simp only [Bool.false_eq_true, if_false]; rw [← HY.out.1]; simp [qk0])
            clear qk8 qk0
            go_enter Try.func15, Try.ntmps15
            go_wp2_with fail
            refine (HC.out.1 _).mono ?_
            rintro e w1 ⟨rfl, B1⟩
            simp only []
            have Q0 : QS w.heap.size (w.heap.size + 1) w1.heap.size #[.bool false, .int .u64 h1, .int .u64 l1, .bool v2, .int .u64 h2, .int .u64 l2, .int .u8 pr, .int .u8 tt, .string d] h0 w (w1.alloc (.cells h0.cells 41)) := QS.start B1
            rw [HH0.out] at Q0
            obtain ⟨k0, k1, k2, k3, k4, k5, k6, k7, k8⟩ := pkCells (two_allocs B1).1
            clear B1
            go_upto_region 5 with (fail)
            clear k0 k1 k2 k3 k4 k5 k6 k7 k8
            obtain ⟨H, hH⟩ : ∃ x, x = w1.heap.size := ⟨_, rfl⟩
            obtain ⟨w0, hw0⟩ : ∃ x, x = w1.alloc (.cells #[.int .u8 pr, .bool false, .int .u64 h1, .int .u64 l1, .bool v2, .int .u64 h2, .int .u64 l2, .int .u16 0, .int .u16 0, .int .u8 0, .int .u8 0, .int .u8 0, .int .i64 0] 41) := ⟨_, rfl⟩
            rw [← hw0, ← hH] at Q0 ⊢
            clear hw0 hH
            obtain ⟨R, hR⟩ : ∃ x, x = w.heap.size + 1 := ⟨_, rfl⟩
            obtain ⟨P, hP⟩ : ∃ x, x = w.heap.size := ⟨_, rfl⟩
            have H0 : Hid (QS P R H #[.bool false, .int .u64 h1, .int .u64 l1, .bool v2, .int .u64 h2, .int .u64 l2, .int .u8 pr, .int .u8 tt, .string d] h0 w w0) := by rw [hR, hP]; exact Lib.hid Q0
            rw [← hR]
            rw [← hP]
            clear hR hP Q0
            obtain ⟨k0, k1, k2, k3, k4, k5, k6, k7, k8⟩ := pkCells H0.out.pk
            go_wp2_with fail
            clear k0 k1 k2 k3 k4 k5 k6 k7 k8
            refine (HC.out.2 _).mono ?_
            rintro e w1 ⟨rfl, B1⟩
            simp only []
            have H1 := Lib.hid (H0.out.call B1)
            clear B1
            obtain ⟨⟨g7, g8, g9, g10, g11, g12⟩, ⟨z7, z8, z9, z10, z11, z12⟩⟩ := hdSets H1.out.hd
            obtain ⟨k0, k1, k2, k3, k4, k5, k6, k7, k8⟩ := pkCells H1.out.pk
            go_upto_region 39 with (fail)
            clear g7 g8 g9 g10 g11 g12 z7 z8 z9 z10 z11 z12
            clear k0 k1 k2 k3 k4 k5 k6 k7 k8
            obtain ⟨hx2, hh2⟩ : ∃ x : Hd, x = (Hd.mk h0.fl h0.flags n0 h0.code h0.size) := ⟨_, rfl⟩
            obtain ⟨w2, hw2⟩ : ∃ x, x = (World.setCell w1 ⟨H, 10, none⟩ (.int .u8 n0)) := ⟨_, rfl⟩
            have H2 : Hid (QS P R H #[.bool false, .int .u64 h1, .int .u64 l1, .bool v2, .int .u64 h2, .int .u64 l2, .int .u8 pr, .int .u8 tt, .string d] hx2 w w2) := by rw [hw2, hh2]; exact Lib.hid (H1.out.set (h' := (Hd.mk h0.fl h0.flags n0 h0.code h0.size)) rfl)
            rw [← hw2]
            have HH2 := Lib.hid hh2
            clear hw2 hh2
            obtain ⟨⟨g7, g8, g9, g10, g11, g12⟩, ⟨z7, z8, z9, z10, z11, z12⟩⟩ := hdSets H2.out.hd
            obtain ⟨k0, k1, k2, k3, k4, k5, k6, k7, k8⟩ := pkCells H2.out.pk
            go_upto_region 40 with (fail)
            clear g7 g8 g9 g10 g11 g12 z7 z8 z9 z10 z11 z12
            clear k0 k1 k2 k3 k4 k5 k6 k7 k8
            obtain ⟨hx3, hh3⟩ : ∃ x : Hd, x = (Hd.mk hx2.fl hx2.flags hx2.kind m1 hx2.size) := ⟨_, rfl⟩
            obtain ⟨w3, hw3⟩ : ∃ x, x = (World.setCell w2 ⟨H, 11, none⟩ (.int .u8 m1)) := ⟨_, rfl⟩
            have H3 : Hid (QS P R H #[.bool false, .int .u64 h1, .int .u64 l1, .bool v2, .int .u64 h2, .int .u64 l2, .int .u8 pr, .int .u8 tt, .string d] hx3 w w3) := by rw [hw3, hh3]; exact Lib.hid (H2.out.set (h' := (Hd.mk hx2.fl hx2.flags hx2.kind m1 hx2.size)) rfl)
            rw [← hw3]
            have HH3 := Lib.hid hh3
            clear hw3 hh3
            have j10 : w3.cell? ⟨H, 10, none⟩ = some (.int .u8 n0) := by have := (hdCells H3.out.hd).1; rw [HH3.out, HH2.out] at this; exact this
            obtain ⟨k0, k1, k2, k3, k4, k5, k6, k7, k8⟩ := pkCells H3.out.pk
            go_wp2_with fail
            clear k0 k1 k2 k3 k4 k5 k6 k7 k8
            refine (num_at d 4 _ (by have := HY.out.2.2.2; omega)).mono ?_
            rintro e w4 ⟨rfl, B1⟩
            rw [← HY.out.2.2.1]
            simp only []
            have H4 := Lib.hid (H3.out.call B1)
            clear B1
            clear j10
            obtain ⟨⟨g7, g8, g9, g10, g11, g12⟩, ⟨z7, z8, z9, z10, z11, z12⟩⟩ := hdSets H4.out.hd
            obtain ⟨k0, k1, k2, k3, k4, k5, k6, k7, k8⟩ := pkCells H4.out.pk
            go_upto_region 42 with (fail)
            clear g7 g8 g9 g10 g11 g12 z7 z8 z9 z10 z11 z12
            clear k0 k1 k2 k3 k4 k5 k6 k7 k8
            obtain ⟨hx5, hh5⟩ : ∃ x : Hd, x = (Hd.mk (Fl.mk hx3.fl.proto hx3.fl.src hx3.fl.dst n4 hx3.fl.tp) hx3.flags hx3.kind hx3.code hx3.size) := ⟨_, rfl⟩
            obtain ⟨w5, hw5⟩ : ∃ x, x = (World.setCell w4 ⟨H, 7, none⟩ (.int .u16 n4)) := ⟨_, rfl⟩
            have H5 : Hid (QS P R H #[.bool false, .int .u64 h1, .int .u64 l1, .bool v2, .int .u64 h2, .int .u64 l2, .int .u8 pr, .int .u8 tt, .string d] hx5 w w5) := by rw [hw5, hh5]; exact Lib.hid (H4.out.set (h' := (Hd.mk (Fl.mk hx3.fl.proto hx3.fl.src hx3.fl.dst n4 hx3.fl.tp) hx3.flags hx3.kind hx3.code hx3.size)) rfl)
            rw [← hw5]
            have HH5 := Lib.hid hh5
            clear hw5 hh5
            have j7 : w5.cell? ⟨H, 7, none⟩ = some (.int .u16 n4) := by have := (hdCells H5.out.hd).2.2; rw [HH5.out, HH3.out, HH2.out] at this; exact this
            obtain ⟨⟨g7, g8, g9, g10, g11, g12⟩, ⟨z7, z8, z9, z10, z11, z12⟩⟩ := hdSets H5.out.hd
            obtain ⟨k0, k1, k2, k3, k4, k5, k6, k7, k8⟩ := pkCells H5.out.pk
            go_upto_region 43 with (fail)
            clear g7 g8 g9 g10 g11 g12 z7 z8 z9 z10 z11 z12
            clear k0 k1 k2 k3 k4 k5 k6 k7 k8
            obtain ⟨hx6, hh6⟩ : ∃ x : Hd, x = (Hd.mk (Fl.mk hx5.fl.proto hx5.fl.src hx5.fl.dst hx5.fl.fp n4) hx5.flags hx5.kind hx5.code hx5.size) := ⟨_, rfl⟩
            obtain ⟨w6, hw6⟩ : ∃ x, x = (World.setCell w5 ⟨H, 8, none⟩ (.int .u16 n4)) := ⟨_, rfl⟩
            have H6 : Hid (QS P R H #[.bool false, .int .u64 h1, .int .u64 l1, .bool v2, .int .u64 h2, .int .u64 l2, .int .u8 pr, .int .u8 tt, .string d] hx6 w w6) := by rw [hw6, hh6]; exact Lib.hid (H5.out.set (h' := (Hd.mk (Fl.mk hx5.fl.proto hx5.fl.src hx5.fl.dst hx5.fl.fp n4) hx5.flags hx5.kind hx5.code hx5.size)) rfl)
            rw [← hw6]
            have HH6 := Lib.hid hh6
            clear hw6 hh6
            clear j7
            obtain ⟨⟨g7, g8, g9, g10, g11, g12⟩, ⟨z7, z8, z9, z10, z11, z12⟩⟩ := hdSets H6.out.hd
            obtain ⟨k0, k1, k2, k3, k4, k5, k6, k7, k8⟩ := pkCells H6.out.pk
            go_upto_region 44 with (fail)
            clear g7 g8 g9 g10 g11 g12 z7 z8 z9 z10 z11 z12
            clear k0 k1 k2 k3 k4 k5 k6 k7 k8
            obtain ⟨hx7, hh7⟩ : ∃ x : Hd, x = (Hd.mk hx6.fl hx6.flags hx6.kind hx6.code ((d.size : Int) - 8)) := ⟨_, rfl⟩
            obtain ⟨w7, hw7⟩ : ∃ x, x = (World.setCell w6 ⟨H, 12, none⟩ (.int .i64 ((d.size : Int) - 8))) := ⟨_, rfl⟩
            have H7 : Hid (QS P R H #[.bool false, .int .u64 h1, .int .u64 l1, .bool v2, .int .u64 h2, .int .u64 l2, .int .u8 pr, .int .u8 tt, .string d] hx7 w w7) := by rw [hw7, hh7]; exact Lib.hid (H6.out.set (h' := (Hd.mk hx6.fl hx6.flags hx6.kind hx6.code ((d.size : Int) - 8))) rfl)
            rw [← hw7]
            have HH7 := Lib.hid hh7
            clear hw7 hh7
            go_wp2_with (first | (refine Go.wpList_load_row rfl 41 _ rfl H rfl 41 _ (0, 0) _ H7.out.hd U41.out rfl info41 ?_) | (refine Go.wpList_store_row rfl 41 _ _ rfl R (Hd.cells hx7) rfl rfl 41 _ H7.out.rr info41 rfl (hdOne _) ?_))
            have D := setRow_heap w7 R _ (Hd.cells hx7) _ _ H7.out.rr
            have BW := H7.out.below.trans ((onlyRow R w7 (Hd.cells hx7)).below H7.out.nR H7.out.below.size)
            obtain ⟨wz, hwz⟩ : ∃ uu, uu = World.setRow w7 R (Hd.cells hx7) := ⟨_, rfl⟩
            rw [← hwz] at D BW ⊢
            obtain ⟨⟨j0, j1, j2, j3, j4, j5, j6⟩, j7, j8, j9, j10, j11, j12⟩ := hdAll D
            have HF := Lib.hid BW
            clear BW D hwz
            refine bodyPost_ret (v := .tuple #[.agg #[.int .u8 hx7.fl.proto, .bool hx7.fl.src.v6, .int .u64 hx7.fl.src.hi, .int .u64 hx7.fl.src.lo, .bool hx7.fl.dst.v6, .int .u64 hx7.fl.dst.hi, .int .u64 hx7.fl.dst.lo, .int .u16 hx7.fl.fp, .int .u16 hx7.fl.tp, .int .u8 hx7.flags, .int .u8 hx7.kind, .int .u8 hx7.code, .int .i64 hx7.size], .int .i64 0]) (by simp [results, Try.results15, go_sem, j0, j1, j2, j3, j4, j5, j6, j7, j8, j9, j10, j11, j12]) rfl ⟨?_, HF.out⟩
            have HG : decH p = hx7 := by
              unfold decH
              rw [if_pos HE.out, HQ.out.2, HH7.out, HH6.out, HH5.out, HH3.out, HH2.out, hh0.out]
              rw [show icmpG p (hd0 p) = Hd.mk (if isEcho p then { (hd0 p).fl with fp := n2 p.data 4, tp := n2 p.data 4 } else (hd0 p).fl) 0 (byt p.data 0) (byt p.data 1) ((p.data.size : Int) - 8) from rfl, HI.out, HP.out.1, HY.out.1, HY.out.2.1, HY.out.2.2.1]; rfl
            rw [HG, HE.out]
            rfl
          · have ck8 : ((n0 : Int) == 8) = false := byNe (b := 8) qk8
            have ck0 : ((n0 : Int) == 0) = false := byNe (b := 0) qk0
            have HI := Lib.hid (show isEcho p = false by unfold isEcho; rw [HP.out.1]; simp only [Bool.false_eq_true, if_false]; rw [← HY.out.1]; simp [qk8, qk0])
            clear qk8 qk0
            go_enter Try.func15, Try.ntmps15
            go_wp2_with fail
            refine (HC.out.1 _).mono ?_
            rintro e w1 ⟨rfl, B1⟩
            simp only []
            have Q0 : QS w.heap.size (w.heap.size + 1) w1.heap.size #[.bool false, .int .u64 h1, .int .u64 l1, .bool v2, .int .u64 h2, .int .u64 l2, .int .u8 pr, .int .u8 tt, .string d] h0 w (w1.alloc (.cells h0.cells 41)) := QS.start B1
            rw [HH0.out] at Q0
            obtain ⟨k0, k1, k2, k3, k4, k5, k6, k7, k8⟩ := pkCells (two_allocs B1).1
            clear B1
            go_upto_region 5 with (fail)
            clear k0 k1 k2 k3 k4 k5 k6 k7 k8
            obtain ⟨H, hH⟩ : ∃ x, x = w1.heap.size := ⟨_, rfl⟩
            obtain ⟨w0, hw0⟩ : ∃ x, x = w1.alloc (.cells #[.int .u8 pr, .bool false, .int .u64 h1, .int .u64 l1, .bool v2, .int .u64 h2, .int .u64 l2, .int .u16 0, .int .u16 0, .int .u8 0, .int .u8 0, .int .u8 0, .int .i64 0] 41) := ⟨_, rfl⟩
            rw [← hw0, ← hH] at Q0 ⊢
            clear hw0 hH
            obtain ⟨R, hR⟩ : ∃ x, x = w.heap.size + 1 := ⟨_, rfl⟩
            obtain ⟨P, hP⟩ : ∃ x, x = w.heap.size := ⟨_, rfl⟩
            have H0 : Hid (QS P R H #[.bool false, .int .u64 h1, .int .u64 l1, .bool v2, .int .u64 h2, .int .u64 l2, .int .u8 pr, .int .u8 tt, .string d] h0 w w0) := by rw [hR, hP]; exact Lib.hid Q0
            rw [← hR]
            rw [← hP]
            clear hR hP Q0
            obtain ⟨k0, k1, k2, k3, k4, k5, k6, k7, k8⟩ := pkCells H0.out.pk
            go_wp2_with fail
            clear k0 k1 k2 k3 k4 k5 k6 k7 k8
            refine (HC.out.2 _).mono ?_
            rintro e w1 ⟨rfl, B1⟩
            simp only []
            have H1 := Lib.hid (H0.out.call B1)
            clear B1
            obtain ⟨⟨g7, g8, g9, g10, g11, g12⟩, ⟨z7, z8, z9, z10, z11, z12⟩⟩ := hdSets H1.out.hd
            obtain ⟨k0, k1, k2, k3, k4, k5, k6, k7, k8⟩ := pkCells H1.out.pk
            go_upto_region 39 with (fail)
            clear g7 g8 g9 g10 g11 g12 z7 z8 z9 z10 z11 z12
            clear k0 k1 k2 k3 k4 k5 k6 k7 k8
            obtain ⟨hx2, hh2⟩ : ∃ x : Hd, x = (Hd.mk h0.fl h0.flags n0 h0.code h0.size) := ⟨_, rfl⟩
            obtain ⟨w2, hw2⟩ : ∃ x, x = (World.setCell w1 ⟨H, 10, none⟩ (.int .u8 n0)) := ⟨_, rfl⟩
            have H2 : Hid (QS P R H #[.bool false, .int .u64 h1, .int .u64 l1, .bool v2, .int .u64 h2, .int .u64 l2, .int .u8 pr, .int .u8 tt, .string d] hx2 w w2) := by rw [hw2, hh2]; exact Lib.hid (H1.out.set (h' := (Hd.mk h0.fl h0.flags n0 h0.code h0.size)) rfl)
            rw [← hw2]
            have HH2 := Lib.hid hh2
            clear hw2 hh2
            obtain ⟨⟨g7, g8, g9, g10, g11, g12⟩, ⟨z7, z8, z9, z10, z11, z12⟩⟩ := hdSets H2.out.hd
            obtain ⟨k0, k1, k2, k3, k4, k5, k6, k7, k8⟩ := pkCells H2.out.pk
            go_upto_region 40 with (fail)
            clear g7 g8 g9 g10 g11 g12 z7 z8 z9 z10 z11 z12
            clear k0 k1 k2 k3 k4 k5 k6 k7 k8
            obtain ⟨hx3, hh3⟩ : ∃ x : Hd, x = (Hd.mk hx2.fl hx2.flags hx2.kind m1 hx2.size) := ⟨_, rfl⟩
            obtain ⟨w3, hw3⟩ : ∃ x, x = (World.setCell w2 ⟨H, 11, none⟩ (.int .u8 m1)) := ⟨_, rfl⟩
            have H3 : Hid (QS P R H #[.bool false, .int .u64 h1, .int .u64 l1, .bool v2, .int .u64 h2, .int .u64 l2, .int .u8 pr, .int .u8 tt, .string d] hx3 w w3) := by rw [hw3, hh3]; exact Lib.hid (H2.out.set (h' := (Hd.mk hx2.fl hx2.flags hx2.kind m1 hx2.size)) rfl)
            rw [← hw3]
            have HH3 := Lib.hid hh3
            clear hw3 hh3
            have j10 : w3.cell? ⟨H, 10, none⟩ = some (.int .u8 n0) := by have := (hdCells H3.out.hd).1; rw [HH3.out, HH2.out] at this; exact this
            obtain ⟨k0, k1, k2, k3, k4, k5, k6, k7, k8⟩ := pkCells H3.out.pk
            go_upto_region 43 with (fail)
            clear j10
            clear k0 k1 k2 k3 k4 k5 k6 k7 k8
            obtain ⟨⟨g7, g8, g9, g10, g11, g12⟩, ⟨z7, z8, z9, z10, z11, z12⟩⟩ := hdSets H3.out.hd
            obtain ⟨k0, k1, k2, k3, k4, k5, k6, k7, k8⟩ := pkCells H3.out.pk
            go_upto_region 44 with (fail)
            clear g7 g8 g9 g10 g11 g12 z7 z8 z9 z10 z11 z12
            clear k0 k1 k2 k3 k4 k5 k6 k7 k8
            obtain ⟨hx4, hh4⟩ : ∃ x : Hd, x = (Hd.mk hx3.fl hx3.flags hx3.kind hx3.code ((d.size : Int) - 8)) := ⟨_, rfl⟩
            obtain ⟨w4, hw4⟩ : ∃ x, x = (World.setCell w3 ⟨H, 12, none⟩ (.int .i64 ((d.size : Int) - 8))) := ⟨_, rfl⟩
            have H4 : Hid (QS P R H #[.bool false, .int .u64 h1, .int .u64 l1, .bool v2, .int .u64 h2, .int .u64 l2, .int .u8 pr, .int .u8 tt, .string d] hx4 w w4) := by rw [hw4, hh4]; exact Lib.hid (H3.out.set (h' := (Hd.mk hx3.fl hx3.flags hx3.kind hx3.code ((d.size : Int) - 8))) rfl)
            rw [← hw4]
            have HH4 := Lib.hid hh4
            clear hw4 hh4
            go_wp2_with (first | (refine Go.wpList_load_row rfl 41 _ rfl H rfl 41 _ (0, 0) _ H4.out.hd U41.out rfl info41 ?_) | (refine Go.wpList_store_row rfl 41 _ _ rfl R (Hd.cells hx4) rfl rfl 41 _ H4.out.rr info41 rfl (hdOne _) ?_))
            have D := setRow_heap w4 R _ (Hd.cells hx4) _ _ H4.out.rr
            have BW := H4.out.below.trans ((onlyRow R w4 (Hd.cells hx4)).below H4.out.nR H4.out.below.size)
            obtain ⟨wz, hwz⟩ : ∃ uu, uu = World.setRow w4 R (Hd.cells hx4) := ⟨_, rfl⟩
            rw [← hwz] at D BW ⊢
            obtain ⟨⟨j0, j1, j2, j3, j4, j5, j6⟩, j7, j8, j9, j10, j11, j12⟩ := hdAll D
            have HF := Lib.hid BW
            clear BW D hwz
            refine bodyPost_ret (v := .tuple #[.agg #[.int .u8 hx4.fl.proto, .bool hx4.fl.src.v6, .int .u64 hx4.fl.src.hi, .int .u64 hx4.fl.src.lo, .bool hx4.fl.dst.v6, .int .u64 hx4.fl.dst.hi, .int .u64 hx4.fl.dst.lo, .int .u16 hx4.fl.fp, .int .u16 hx4.fl.tp, .int .u8 hx4.flags, .int .u8 hx4.kind, .int .u8 hx4.code, .int .i64 hx4.size], .int .i64 0]) (by simp [results, Try.results15, go_sem, j0, j1, j2, j3, j4, j5, j6, j7, j8, j9, j10, j11, j12]) rfl ⟨?_, HF.out⟩
            have HG : decH p = hx4 := by
              unfold decH
              rw [if_pos HE.out, HQ.out.2, HH4.out, HH3.out, HH2.out, hh0.out]
              rw [show icmpG p (hd0 p) = Hd.mk (if isEcho p then { (hd0 p).fl with fp := n2 p.data 4, tp := n2 p.data 4 } else (hd0 p).fl) 0 (byt p.data 0) (byt p.data 1) ((p.data.size : Int) - 8) from rfl, HI.out, HP.out.1, HY.out.1, HY.out.2.1]; rfl
            rw [HG, HE.out]
            rfl
      · have HE := Lib.hid (show decE p = 131 by rw [HQ.out.1]; unfold icmpE; rw [HP.out.1]; rw [if_neg (by simp [q58]), if_neg (by exact hs8), if_pos (by rw [← HP.out.1, ← HS.out]; simp [qS])])
        have cS : ((S : Int) != 0) = true := bne_iff_ne.2 (by omega)
        clear q1 q58 hs8 qS
        go_enter Try.func15, Try.ntmps15
        go_wp2_with fail
        refine (HC.out.1 _).mono ?_
        rintro e w1 ⟨rfl, B1⟩
        simp only []
        have Q0 : QS w.heap.size (w.heap.size + 1) w1.heap.size #[.bool false, .int .u64 h1, .int .u64 l1, .bool v2, .int .u64 h2, .int .u64 l2, .int .u8 pr, .int .u8 tt, .string d] h0 w (w1.alloc (.cells h0.cells 41)) := QS.start B1
        rw [HH0.out] at Q0
        obtain ⟨k0, k1, k2, k3, k4, k5, k6, k7, k8⟩ := pkCells (two_allocs B1).1
        clear B1
        go_upto_region 5 with (fail)
        clear k0 k1 k2 k3 k4 k5 k6 k7 k8
        obtain ⟨H, hH⟩ : ∃ x, x = w1.heap.size := ⟨_, rfl⟩
        obtain ⟨w0, hw0⟩ : ∃ x, x = w1.alloc (.cells #[.int .u8 pr, .bool false, .int .u64 h1, .int .u64 l1, .bool v2, .int .u64 h2, .int .u64 l2, .int .u16 0, .int .u16 0, .int .u8 0, .int .u8 0, .int .u8 0, .int .i64 0] 41) := ⟨_, rfl⟩
        rw [← hw0, ← hH] at Q0 ⊢
        clear hw0 hH
        obtain ⟨R, hR⟩ : ∃ x, x = w.heap.size + 1 := ⟨_, rfl⟩
        obtain ⟨P, hP⟩ : ∃ x, x = w.heap.size := ⟨_, rfl⟩
        have H0 : Hid (QS P R H #[.bool false, .int .u64 h1, .int .u64 l1, .bool v2, .int .u64 h2, .int .u64 l2, .int .u8 pr, .int .u8 tt, .string d] h0 w w0) := by rw [hR, hP]; exact Lib.hid Q0
        rw [← hR]
        rw [← hP]
        clear hR hP Q0
        obtain ⟨k0, k1, k2, k3, k4, k5, k6, k7, k8⟩ := pkCells H0.out.pk
        go_wp2_with fail
        clear k0 k1 k2 k3 k4 k5 k6 k7 k8
        refine (HC.out.2 _).mono ?_
        rintro e w1 ⟨rfl, B1⟩
        simp only []
        have H1 := Lib.hid (H0.out.call B1)
        clear B1
        obtain ⟨k0, k1, k2, k3, k4, k5, k6, k7, k8⟩ := pkCells H1.out.pk
        go_wp2_with (first | (refine Go.wpList_store_row rfl 41 _ _ rfl R Hd.zero.cells rfl rfl 41 _ H1.out.rr info41 rfl (hdOne _) ?_))
        clear k0 k1 k2 k3 k4 k5 k6 k7 k8
        have D := setRow_heap w1 R _ Hd.zero.cells _ _ H1.out.rr
        have BW := H1.out.below.trans ((onlyRow R w1 Hd.zero.cells).below H1.out.nR H1.out.below.size)
        obtain ⟨wz, hwz⟩ : ∃ uu, uu = World.setRow w1 R Hd.zero.cells := ⟨_, rfl⟩
        rw [← hwz] at D BW ⊢
        obtain ⟨⟨j0, j1, j2, j3, j4, j5, j6⟩, j7, j8, j9, j10, j11, j12⟩ := hdAll D
        have HF := Lib.hid BW
        clear BW D hwz
        refine bodyPost_ret (v := .tuple #[.agg #[.int .u8 0, .bool false, .int .u64 0, .int .u64 0, .bool false, .int .u64 0, .int .u64 0, .int .u16 0, .int .u16 0, .int .u8 0, .int .u8 0, .int .u8 0, .int .i64 0], .int .i64 131]) (by simp [results, Try.results15, go_sem, j0, j1, j2, j3, j4, j5, j6, j7, j8, j9, j10, j11, j12, Hd.zero]) rfl ⟨?_, HF.out⟩
        rw [show (decH p).val = .agg #[.int .u8 0, .bool false, .int .u64 0, .int .u64 0, .bool false, .int .u64 0, .int .u64 0, .int .u16 0, .int .u16 0, .int .u8 0, .int .u8 0, .int .u8 0, .int .i64 0] by unfold decH; rw [if_neg (by rw [HE.out]; decide)]; rfl, HE.out]

end Go.Proofs.Ytgonakpoflacoaa
