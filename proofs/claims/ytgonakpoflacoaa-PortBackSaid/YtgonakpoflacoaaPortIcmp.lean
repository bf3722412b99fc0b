/-
  A packet of ICMP told.
-/
import Derived.Test.YtgonakpoflacoaaPortUdp
set_option linter.unusedVariables false
set_option linter.unusedSimpArgs false
namespace Go.Proofs.Ytgonakpoflacoaa
open Go.RowKit

set_option maxHeartbeats 16000000 in
set_option maxRecDepth 100000 in
theorem portIcmp_any (p : Pk) (H : Nat) (h : Hd) (w : World) (hok : p.Ok) (hd : p.data.size ≤ 10000) (hH : w.heap[H]? = some (.cells h.cells 41)) :
    Calls Try.prog 29 #[p.val, .pointer (some ⟨H, 0, none⟩)] w (HdPost H w (icmpE p) (icmpG p h)) := by
  obtain ⟨⟨v1, h1, l1⟩, ⟨v2, h2, l2⟩, pr, tt, d⟩ := p
  obtain ⟨p, hp⟩ : ∃ p : Pk, p = ⟨⟨v1, h1, l1⟩, ⟨v2, h2, l2⟩, pr, tt, d⟩ := ⟨_, rfl⟩
  have hpv : p.val = .agg #[.bool v1, .int .u64 h1, .int .u64 l1, .bool v2, .int .u64 h2, .int .u64 l2, .int .u8 pr, .int .u8 tt, .string d] := by rw [hp]; rfl
  rw [← hp] at hok hd ⊢
  have hd' : d.size ≤ 10000 := by have := hd; rw [hp] at this; exact this
  have C2 : ∀ u, Calls Try.prog 33 #[.agg #[.bool v1, .int .u64 h1, .int .u64 l1, .bool v2, .int .u64 h2, .int .u64 l2, .int .u8 pr, .int .u8 tt, .string d]] u fun e w' => e = .returned (.int .u16 (sumP p)) ∧ Below u.heap.size u w' := fun u => by rw [← hpv]; exact sum_any p u hok hd
  have HC := Lib.hid C2
  have HP := Lib.hid (And.intro hp hd')
  have hz : (d.size : Int) ≤ 10000 := by omega
  obtain ⟨P, b, hP, HC0⟩ := new_ps #[.bool v1, .int .u64 h1, .int .u64 l1, .bool v2, .int .u64 h2, .int .u64 l2, .int .u8 pr, .int .u8 tt, .string d] d h H w hH
  have HN := Lib.hid HC0
  rw [hpv]
  clear hok hd hpv C2 HC0 hH hp
  by_cases q58 : pr = 58
  · cases v1
    · have c58 : ((pr : Int) == 58) = true := byEq (b := 58) q58
      have HE := Lib.hid (show icmpE p = 8 by unfold icmpE; rw [HP.out.1]; rw [if_pos (by simp [q58])])
      clear q58
      by_cases hs8 : d.size < 8
      · go_enter Try.func29, Try.ntmps29
        go_wp2_with fail
        refine HN.out.mono ?_
        rintro e w1 ⟨rfl, h1w⟩
        rw [← hP]
        simp only []
        have H1 := Lib.hid h1w
        clear h1w hP
        have S1 := Lib.hid (show Short d 0 8 from ⟨HP.out.2, Or.inr ⟨rfl, by omega⟩⟩)
        go_wp2_with fail
        refine (u8_sh b 7 _ _ _ H1.out.rd S1.out).mono ?_
        rintro e w2 ⟨x1, s2, f2, rfl, hx1, hl, hs⟩
        simp only []
        have H2 := Lib.hid (H1.out.read hl)
        have S2 := Lib.hid hs
        clear hl hs hx1
        go_wp2_with fail
        refine (u8_sh b 6 _ _ _ H2.out.rd S2.out).mono ?_
        rintro e w3 ⟨x2, s3, f3, rfl, hx2, hl, hs⟩
        simp only []
        have H3 := Lib.hid (H2.out.read hl)
        have S3 := Lib.hid hs
        clear hl hs hx2
        obtain ⟨⟨g7, g8, g9, g10, g11, g12⟩, ⟨z7, z8, z9, z10, z11, z12⟩⟩ := hdSets H3.out.hd
        go_wp2_with fail
        clear g7 g8 g9 g10 g11 g12 z7 z8 z9 z10 z11 z12
        obtain ⟨hd4, hh4⟩ : ∃ x : Hd, x = (Hd.mk (Hd.mk h.fl h.flags x1 h.code h.size).fl (Hd.mk h.fl h.flags x1 h.code h.size).flags (Hd.mk h.fl h.flags x1 h.code h.size).kind x2 (Hd.mk h.fl h.flags x1 h.code h.size).size) := ⟨_, rfl⟩
        obtain ⟨w4, hw4⟩ : ∃ x, x = (World.setCell (World.setCell w3 ⟨H, 10, none⟩ (.int .u8 x1)) ⟨H, 11, none⟩ (.int .u8 x2)) := ⟨_, rfl⟩
        have H4 : Hid (PS P b H #[.bool false, .int .u64 h1, .int .u64 l1, .bool v2, .int .u64 h2, .int .u64 l2, .int .u8 pr, .int .u8 tt, .string d] s3 f3 hd4 w w4) := by rw [hw4, hh4]; exact Lib.hid ((H3.out.set (h' := (Hd.mk h.fl h.flags x1 h.code h.size)) rfl).set (h' := (Hd.mk (Hd.mk h.fl h.flags x1 h.code h.size).fl (Hd.mk h.fl h.flags x1 h.code h.size).flags (Hd.mk h.fl h.flags x1 h.code h.size).kind x2 (Hd.mk h.fl h.flags x1 h.code h.size).size)) rfl)
        rw [← hw4]
        have S4 := S3
        have HH4 := Lib.hid hh4
        clear hw4 hh4
        refine (u16_sh b 4 _ _ _ H4.out.rd S4.out).mono ?_
        rintro e w5 ⟨x3, s5, f5, rfl, hx3, hl, hs⟩
        simp only []
        have H5 := Lib.hid (H4.out.read hl)
        have S5 := Lib.hid hs
        clear hl hs hx3
        go_wp2_with fail
        refine (u16_sh b 2 _ _ _ H5.out.rd S5.out).mono ?_
        rintro e w6 ⟨x4, s6, f6, rfl, hx4, hl, hs⟩
        simp only []
        have H6 := Lib.hid (H5.out.read hl)
        have S6 := Lib.hid hs
        clear hl hs hx4
        go_wp2_with fail
        refine (u16_sh b 0 _ _ _ H6.out.rd S6.out).mono ?_
        rintro e w7 ⟨x5, s7, f7, rfl, hx5, hl, hs⟩
        simp only []
        have H7 := Lib.hid (H6.out.read hl)
        have S7 := Lib.hid hs
        clear hl hs hx5
        go_wp2_with fail
        refine (left_any b _ _ _ H7.out.rd).mono ?_
        rintro e w9 ⟨rfl, rfl⟩
        simp only []
        obtain ⟨⟨g7, g8, g9, g10, g11, g12⟩, ⟨z7, z8, z9, z10, z11, z12⟩⟩ := hdSets H7.out.hd
        obtain ⟨k0, k1, k2, k3, k4, k5, k6, k7, k8⟩ := pkCells H7.out.pk
        clear k1 k2 k3 k4 k5 k7 k8
        go_wp2_with fail
        clear k0 k6
        clear g7 g8 g9 g10 g11 g12 z7 z8 z9 z10 z11 z12
        obtain ⟨hd8, hh8⟩ : ∃ x : Hd, x = (Hd.mk hd4.fl hd4.flags hd4.kind hd4.code (s7.size : Int)) := ⟨_, rfl⟩
        obtain ⟨w8, hw8⟩ : ∃ x, x = (World.setCell w7 ⟨H, 12, none⟩ (.int .i64 (s7.size : Int))) := ⟨_, rfl⟩
        have H8 : Hid (PS P b H #[.bool false, .int .u64 h1, .int .u64 l1, .bool v2, .int .u64 h2, .int .u64 l2, .int .u8 pr, .int .u8 tt, .string d] s7 f7 hd8 w w8) := by rw [hw8, hh8]; exact Lib.hid (H7.out.set (h' := (Hd.mk hd4.fl hd4.flags hd4.kind hd4.code (s7.size : Int))) rfl)
        rw [← hw8]
        have S8 := S7
        have HH8 := Lib.hid hh8
        clear hw8 hh8
        go_ret
        exact ⟨hd8, by rw [HE.out]; rfl, H8.out.hd, H8.out.only, fun q => by rw [HE.out] at q; exact absurd q (by decide)⟩
      · have L8 : 8 ≤ d.size := by omega
        obtain ⟨n0, hn0⟩ : ∃ x, x = byt d 0 := ⟨_, rfl⟩
        obtain ⟨n4, hn4⟩ : ∃ x, x = n2 d 4 := ⟨_, rfl⟩
        obtain ⟨S, hS⟩ : ∃ x, x = sumP p := ⟨_, rfl⟩
        rw [← hS] at HC
        have HY := Lib.hid (And.intro hn0 hn4)
        have HS := Lib.hid hS
        clear hn0 hn4 hS
        clear hs8
        go_enter Try.func29, Try.ntmps29
        go_wp2_with fail
        refine HN.out.mono ?_
        rintro e w1 ⟨rfl, h1w⟩
        rw [← hP]
        simp only []
        have H1 := Lib.hid h1w
        clear h1w hP
        have R1 := Lib.hid (show Rd w1 b 72 (Lf d 0) 0 by rw [Lf_zero]; exact H1.out.rd)
        go_wp2_with fail
        refine (u8_at d b 0 _ R1.out (by omega) HP.out.2).mono ?_
        rintro e w2 ⟨rfl, hl⟩
        rw [← HY.out.1]
        simp only []
        have R2 := Lib.hid hl.rd
        have H2 := Lib.hid (H1.out.read hl)
        clear hl
        go_wp2_with fail
        refine (u8_at d b 1 _ R2.out (by omega) HP.out.2).mono ?_
        rintro e w3 ⟨rfl, hl⟩
        simp only []
        have R3 := Lib.hid hl.rd
        have H3 := Lib.hid (H2.out.read hl)
        clear hl
        obtain ⟨⟨g7, g8, g9, g10, g11, g12⟩, ⟨z7, z8, z9, z10, z11, z12⟩⟩ := hdSets H3.out.hd
        go_wp2_with fail
        clear g7 g8 g9 g10 g11 g12 z7 z8 z9 z10 z11 z12
        obtain ⟨hd4, hh4⟩ : ∃ x : Hd, x = (Hd.mk (Hd.mk h.fl h.flags n0 h.code h.size).fl (Hd.mk h.fl h.flags n0 h.code h.size).flags (Hd.mk h.fl h.flags n0 h.code h.size).kind (byt d 1) (Hd.mk h.fl h.flags n0 h.code h.size).size) := ⟨_, rfl⟩
        obtain ⟨w4, hw4⟩ : ∃ x, x = (World.setCell (World.setCell w3 ⟨H, 10, none⟩ (.int .u8 n0)) ⟨H, 11, none⟩ (.int .u8 (byt d 1))) := ⟨_, rfl⟩
        have H4 : Hid (PS P b H #[.bool false, .int .u64 h1, .int .u64 l1, .bool v2, .int .u64 h2, .int .u64 l2, .int .u8 pr, .int .u8 tt, .string d] (Lf d 2) 0 hd4 w w4) := by rw [hw4, hh4]; exact Lib.hid ((H3.out.set (h' := (Hd.mk h.fl h.flags n0 h.code h.size)) rfl).set (h' := (Hd.mk (Hd.mk h.fl h.flags n0 h.code h.size).fl (Hd.mk h.fl h.flags n0 h.code h.size).flags (Hd.mk h.fl h.flags n0 h.code h.size).kind (byt d 1) (Hd.mk h.fl h.flags n0 h.code h.size).size)) rfl)
        rw [← hw4]
        have R4 := Lib.hid H4.out.rd
        have HH4 := Lib.hid hh4
        clear hw4 hh4
        refine (u16_at d b 2 _ R4.out (by omega) HP.out.2).mono ?_
        rintro e w5 ⟨rfl, hl⟩
        simp only []
        have R5 := Lib.hid hl.rd
        have H5 := Lib.hid (H4.out.read hl)
        clear hl
        go_wp2_with fail
        refine (u16_at d b 4 _ R5.out (by omega) HP.out.2).mono ?_
        rintro e w6 ⟨rfl, hl⟩
        simp only []
        have R6 := Lib.hid hl.rd
        have H6 := Lib.hid (H5.out.read hl)
        clear hl
        rw [← HY.out.2]
        go_wp2_with fail
        refine (u16_at d b 6 _ R6.out (by omega) HP.out.2).mono ?_
        rintro e w7 ⟨rfl, hl⟩
        simp only []
        have R7 := Lib.hid hl.rd
        have H7 := Lib.hid (H6.out.read hl)
        clear hl
        go_wp2_with fail
        refine (left_any b _ _ _ H7.out.rd).mono ?_
        rintro e w9 ⟨rfl, rfl⟩
        simp only []
        rw [show ((Lf d 8).size : Int) = (d.size : Int) - 8 by rw [Lf_size]; omega]
        obtain ⟨⟨g7, g8, g9, g10, g11, g12⟩, ⟨z7, z8, z9, z10, z11, z12⟩⟩ := hdSets H7.out.hd
        obtain ⟨k0, k1, k2, k3, k4, k5, k6, k7, k8⟩ := pkCells H7.out.pk
        clear k1 k2 k3 k4 k5 k7 k8
        go_wp2_with fail
        clear k0 k6
        clear g7 g8 g9 g10 g11 g12 z7 z8 z9 z10 z11 z12
        obtain ⟨hd8, hh8⟩ : ∃ x : Hd, x = (Hd.mk hd4.fl hd4.flags hd4.kind hd4.code ((d.size : Int) - 8)) := ⟨_, rfl⟩
        obtain ⟨w8, hw8⟩ : ∃ x, x = (World.setCell w7 ⟨H, 12, none⟩ (.int .i64 ((d.size : Int) - 8))) := ⟨_, rfl⟩
        have H8 : Hid (PS P b H #[.bool false, .int .u64 h1, .int .u64 l1, .bool v2, .int .u64 h2, .int .u64 l2, .int .u8 pr, .int .u8 tt, .string d] (Lf d 8) 0 hd8 w w8) := by rw [hw8, hh8]; exact Lib.hid (H7.out.set (h' := (Hd.mk hd4.fl hd4.flags hd4.kind hd4.code ((d.size : Int) - 8))) rfl)
        rw [← hw8]
        have R8 := Lib.hid H8.out.rd
        have HH8 := Lib.hid hh8
        clear hw8 hh8
        go_ret
        exact ⟨hd8, by rw [HE.out]; rfl, H8.out.hd, H8.out.only, fun q => by rw [HE.out] at q; exact absurd q (by decide)⟩
    · have c58 : ((pr : Int) == 58) = true := byEq (b := 58) q58
      by_cases hs8 : d.size < 8
      · have HE := Lib.hid (show icmpE p = 7 by unfold icmpE; rw [HP.out.1]; rw [if_neg (by simp [q58]), if_pos (by exact hs8)])
        clear q58
        go_enter Try.func29, Try.ntmps29
        go_wp2_with fail
        refine HN.out.mono ?_
        rintro e w1 ⟨rfl, h1w⟩
        rw [← hP]
        simp only []
        have H1 := Lib.hid h1w
        clear h1w hP
        have S1 := Lib.hid (show Short d 0 8 from ⟨HP.out.2, Or.inr ⟨rfl, by omega⟩⟩)
        go_wp2_with fail
        refine (u8_sh b 7 _ _ _ H1.out.rd S1.out).mono ?_
        rintro e w2 ⟨x1, s2, f2, rfl, hx1, hl, hs⟩
        simp only []
        have H2 := Lib.hid (H1.out.read hl)
        have S2 := Lib.hid hs
        clear hl hs hx1
        go_wp2_with fail
        refine (u8_sh b 6 _ _ _ H2.out.rd S2.out).mono ?_
        rintro e w3 ⟨x2, s3, f3, rfl, hx2, hl, hs⟩
        simp only []
        have H3 := Lib.hid (H2.out.read hl)
        have S3 := Lib.hid hs
        clear hl hs hx2
        obtain ⟨⟨g7, g8, g9, g10, g11, g12⟩, ⟨z7, z8, z9, z10, z11, z12⟩⟩ := hdSets H3.out.hd
        go_wp2_with fail
        clear g7 g8 g9 g10 g11 g12 z7 z8 z9 z10 z11 z12
        obtain ⟨hd4, hh4⟩ : ∃ x : Hd, x = (Hd.mk (Hd.mk h.fl h.flags x1 h.code h.size).fl (Hd.mk h.fl h.flags x1 h.code h.size).flags (Hd.mk h.fl h.flags x1 h.code h.size).kind x2 (Hd.mk h.fl h.flags x1 h.code h.size).size) := ⟨_, rfl⟩
        obtain ⟨w4, hw4⟩ : ∃ x, x = (World.setCell (World.setCell w3 ⟨H, 10, none⟩ (.int .u8 x1)) ⟨H, 11, none⟩ (.int .u8 x2)) := ⟨_, rfl⟩
        have H4 : Hid (PS P b H #[.bool true, .int .u64 h1, .int .u64 l1, .bool v2, .int .u64 h2, .int .u64 l2, .int .u8 pr, .int .u8 tt, .string d] s3 f3 hd4 w w4) := by rw [hw4, hh4]; exact Lib.hid ((H3.out.set (h' := (Hd.mk h.fl h.flags x1 h.code h.size)) rfl).set (h' := (Hd.mk (Hd.mk h.fl h.flags x1 h.code h.size).fl (Hd.mk h.fl h.flags x1 h.code h.size).flags (Hd.mk h.fl h.flags x1 h.code h.size).kind x2 (Hd.mk h.fl h.flags x1 h.code h.size).size)) rfl)
        rw [← hw4]
        have S4 := S3
        have HH4 := Lib.hid hh4
        clear hw4 hh4
        refine (u16_sh b 4 _ _ _ H4.out.rd S4.out).mono ?_
        rintro e w5 ⟨x3, s5, f5, rfl, hx3, hl, hs⟩
        simp only []
        have H5 := Lib.hid (H4.out.read hl)
        have S5 := Lib.hid hs
        clear hl hs hx3
        go_wp2_with fail
        refine (u16_sh b 2 _ _ _ H5.out.rd S5.out).mono ?_
        rintro e w6 ⟨x4, s6, f6, rfl, hx4, hl, hs⟩
        simp only []
        have H6 := Lib.hid (H5.out.read hl)
        have S6 := Lib.hid hs
        clear hl hs hx4
        go_wp2_with fail
        refine (u16_sh b 0 _ _ _ H6.out.rd S6.out).mono ?_
        rintro e w7 ⟨x5, s7, f7, rfl, hx5, hl, hs⟩
        simp only []
        have H7 := Lib.hid (H6.out.read hl)
        have S7 := Lib.hid hs
        clear hl hs hx5
        go_wp2_with fail
        refine (left_any b _ _ _ H7.out.rd).mono ?_
        rintro e w9 ⟨rfl, rfl⟩
        simp only []
        obtain ⟨⟨g7, g8, g9, g10, g11, g12⟩, ⟨z7, z8, z9, z10, z11, z12⟩⟩ := hdSets H7.out.hd
        obtain ⟨k0, k1, k2, k3, k4, k5, k6, k7, k8⟩ := pkCells H7.out.pk
        clear k1 k2 k3 k4 k5 k7 k8
        go_wp2_with fail
        clear k0 k6
        clear g7 g8 g9 g10 g11 g12 z7 z8 z9 z10 z11 z12
        obtain ⟨hd8, hh8⟩ : ∃ x : Hd, x = (Hd.mk hd4.fl hd4.flags hd4.kind hd4.code (s7.size : Int)) := ⟨_, rfl⟩
        obtain ⟨w8, hw8⟩ : ∃ x, x = (World.setCell w7 ⟨H, 12, none⟩ (.int .i64 (s7.size : Int))) := ⟨_, rfl⟩
        have H8 : Hid (PS P b H #[.bool true, .int .u64 h1, .int .u64 l1, .bool v2, .int .u64 h2, .int .u64 l2, .int .u8 pr, .int .u8 tt, .string d] s7 f7 hd8 w w8) := by rw [hw8, hh8]; exact Lib.hid (H7.out.set (h' := (Hd.mk hd4.fl hd4.flags hd4.kind hd4.code (s7.size : Int))) rfl)
        rw [← hw8]
        have S8 := S7
        have HH8 := Lib.hid hh8
        clear hw8 hh8
        refine (fault_any b _ _ _ H8.out.rd).mono ?_
        rintro e w9 ⟨rfl, rfl⟩
        rw [S8.out.fault]
        simp only []
        go_wp2_with fail
        go_ret
        exact ⟨hd8, by rw [HE.out]; rfl, H8.out.hd, H8.out.only, fun q => by rw [HE.out] at q; exact absurd q (by decide)⟩
      · have L8 : 8 ≤ d.size := by omega
        obtain ⟨n0, hn0⟩ : ∃ x, x = byt d 0 := ⟨_, rfl⟩
        obtain ⟨n4, hn4⟩ : ∃ x, x = n2 d 4 := ⟨_, rfl⟩
        obtain ⟨S, hS⟩ : ∃ x, x = sumP p := ⟨_, rfl⟩
        rw [← hS] at HC
        have HY := Lib.hid (And.intro hn0 hn4)
        have HS := Lib.hid hS
        clear hn0 hn4 hS
        by_cases qS : S = 0
        · have HE := Lib.hid (show icmpE p = 0 by unfold icmpE; rw [HP.out.1]; rw [if_neg (by simp [q58]), if_neg (by exact hs8), if_neg (by rw [← HP.out.1, ← HS.out]; simp [qS])])
          have cS : ((S : Int) != 0) = false := by rw [qS]; simp
          clear q58 qS hs8
          by_cases qa : n0 = 128
          · have HI := Lib.hid (show isEcho p = true by unfold isEcho; rw [HP.out.1]; simp only [if_true]; rw [← HY.out.1]; simp [qa])
            have ca : ((n0 : Int) == 128) = true := byEq (b := 128) qa
            clear qa
            go_enter Try.func29, Try.ntmps29
            go_wp2_with fail
            refine HN.out.mono ?_
            rintro e w1 ⟨rfl, h1w⟩
            rw [← hP]
            simp only []
            have H1 := Lib.hid h1w
            clear h1w hP
            have R1 := Lib.hid (show Rd w1 b 72 (Lf d 0) 0 by rw [Lf_zero]; exact H1.out.rd)
            go_wp2_with fail
            refine (u8_at d b 0 _ R1.out (by omega) HP.out.2).mono ?_
            rintro e w2 ⟨rfl, hl⟩
            rw [← HY.out.1]
            simp only []
            have R2 := Lib.hid hl.rd
            have H2 := Lib.hid (H1.out.read hl)
            clear hl
            go_wp2_with fail
            refine (u8_at d b 1 _ R2.out (by omega) HP.out.2).mono ?_
            rintro e w3 ⟨rfl, hl⟩
            simp only []
            have R3 := Lib.hid hl.rd
            have H3 := Lib.hid (H2.out.read hl)
            clear hl
            obtain ⟨⟨g7, g8, g9, g10, g11, g12⟩, ⟨z7, z8, z9, z10, z11, z12⟩⟩ := hdSets H3.out.hd
            go_wp2_with fail
            clear g7 g8 g9 g10 g11 g12 z7 z8 z9 z10 z11 z12
            obtain ⟨hd4, hh4⟩ : ∃ x : Hd, x = (Hd.mk (Hd.mk h.fl h.flags n0 h.code h.size).fl (Hd.mk h.fl h.flags n0 h.code h.size).flags (Hd.mk h.fl h.flags n0 h.code h.size).kind (byt d 1) (Hd.mk h.fl h.flags n0 h.code h.size).size) := ⟨_, rfl⟩
            obtain ⟨w4, hw4⟩ : ∃ x, x = (World.setCell (World.setCell w3 ⟨H, 10, none⟩ (.int .u8 n0)) ⟨H, 11, none⟩ (.int .u8 (byt d 1))) := ⟨_, rfl⟩
            have H4 : Hid (PS P b H #[.bool true, .int .u64 h1, .int .u64 l1, .bool v2, .int .u64 h2, .int .u64 l2, .int .u8 pr, .int .u8 tt, .string d] (Lf d 2) 0 hd4 w w4) := by rw [hw4, hh4]; exact Lib.hid ((H3.out.set (h' := (Hd.mk h.fl h.flags n0 h.code h.size)) rfl).set (h' := (Hd.mk (Hd.mk h.fl h.flags n0 h.code h.size).fl (Hd.mk h.fl h.flags n0 h.code h.size).flags (Hd.mk h.fl h.flags n0 h.code h.size).kind (byt d 1) (Hd.mk h.fl h.flags n0 h.code h.size).size)) rfl)
            rw [← hw4]
            have R4 := Lib.hid H4.out.rd
            have HH4 := Lib.hid hh4
            clear hw4 hh4
            refine (u16_at d b 2 _ R4.out (by omega) HP.out.2).mono ?_
            rintro e w5 ⟨rfl, hl⟩
            simp only []
            have R5 := Lib.hid hl.rd
            have H5 := Lib.hid (H4.out.read hl)
            clear hl
            go_wp2_with fail
            refine (u16_at d b 4 _ R5.out (by omega) HP.out.2).mono ?_
            rintro e w6 ⟨rfl, hl⟩
            simp only []
            have R6 := Lib.hid hl.rd
            have H6 := Lib.hid (H5.out.read hl)
            clear hl
            rw [← HY.out.2]
            go_wp2_with fail
            refine (u16_at d b 6 _ R6.out (by omega) HP.out.2).mono ?_
            rintro e w7 ⟨rfl, hl⟩
            simp only []
            have R7 := Lib.hid hl.rd
            have H7 := Lib.hid (H6.out.read hl)
            clear hl
            go_wp2_with fail
            refine (left_any b _ _ _ H7.out.rd).mono ?_
            rintro e w9 ⟨rfl, rfl⟩
            simp only []
            rw [show ((Lf d 8).size : Int) = (d.size : Int) - 8 by rw [Lf_size]; omega]
            obtain ⟨⟨g7, g8, g9, g10, g11, g12⟩, ⟨z7, z8, z9, z10, z11, z12⟩⟩ := hdSets H7.out.hd
            obtain ⟨k0, k1, k2, k3, k4, k5, k6, k7, k8⟩ := pkCells H7.out.pk
            clear k1 k2 k3 k4 k5 k7 k8
            go_wp2_with fail
            clear k0 k6
            clear g7 g8 g9 g10 g11 g12 z7 z8 z9 z10 z11 z12
            obtain ⟨hd8, hh8⟩ : ∃ x : Hd, x = (Hd.mk hd4.fl hd4.flags hd4.kind hd4.code ((d.size : Int) - 8)) := ⟨_, rfl⟩
            obtain ⟨w8, hw8⟩ : ∃ x, x = (World.setCell w7 ⟨H, 12, none⟩ (.int .i64 ((d.size : Int) - 8))) := ⟨_, rfl⟩
            have H8 : Hid (PS P b H #[.bool true, .int .u64 h1, .int .u64 l1, .bool v2, .int .u64 h2, .int .u64 l2, .int .u8 pr, .int .u8 tt, .string d] (Lf d 8) 0 hd8 w w8) := by rw [hw8, hh8]; exact Lib.hid (H7.out.set (h' := (Hd.mk hd4.fl hd4.flags hd4.kind hd4.code ((d.size : Int) - 8))) rfl)
            rw [← hw8]
            have R8 := Lib.hid H8.out.rd
            have HH8 := Lib.hid hh8
            clear hw8 hh8
            refine (fault_any b _ _ _ H8.out.rd).mono ?_
            rintro e w9 ⟨rfl, rfl⟩
            simp only []
            obtain ⟨k0, k1, k2, k3, k4, k5, k6, k7, k8⟩ := pkCells H8.out.pk
            go_wp2_with fail
            refine (HC.out _).mono ?_
            rintro e w20 ⟨rfl, B10⟩
            simp only []
            have H20 := Lib.hid (H8.out.call B10)
            clear B10 k0 k1 k2 k3 k4 k5 k6 k7 k8
            have j10 : w20.cell? ⟨H, 10, none⟩ = some (.int .u8 n0) := by have := (hdCells H20.out.hd).1; rw [HH8.out] at this; rw [this, HH4.out]
            obtain ⟨k0, k1, k2, k3, k4, k5, k6, k7, k8⟩ := pkCells H20.out.pk
            clear k1 k2 k3 k4 k5 k6 k7 k8
            obtain ⟨⟨g7, g8, g9, _, g11, g12⟩, ⟨z7, z8, z9, z10, z11, z12⟩⟩ := hdSets H20.out.hd
            go_wp2_with fail
            clear g7 g8 g9 g11 g12 z7 z8 z9 z10 z11 z12
            go_ret
            exact ⟨_, by rw [HE.out]; rfl, ((H20.out.set (h' := (Hd.mk (Fl.mk hd8.fl.proto hd8.fl.src hd8.fl.dst n4 hd8.fl.tp) hd8.flags hd8.kind hd8.code hd8.size)) rfl).set (h' := (Hd.mk (Fl.mk (Hd.mk (Fl.mk hd8.fl.proto hd8.fl.src hd8.fl.dst n4 hd8.fl.tp) hd8.flags hd8.kind hd8.code hd8.size).fl.proto (Hd.mk (Fl.mk hd8.fl.proto hd8.fl.src hd8.fl.dst n4 hd8.fl.tp) hd8.flags hd8.kind hd8.code hd8.size).fl.src (Hd.mk (Fl.mk hd8.fl.proto hd8.fl.src hd8.fl.dst n4 hd8.fl.tp) hd8.flags hd8.kind hd8.code hd8.size).fl.dst (Hd.mk (Fl.mk hd8.fl.proto hd8.fl.src hd8.fl.dst n4 hd8.fl.tp) hd8.flags hd8.kind hd8.code hd8.size).fl.fp n4) (Hd.mk (Fl.mk hd8.fl.proto hd8.fl.src hd8.fl.dst n4 hd8.fl.tp) hd8.flags hd8.kind hd8.code hd8.size).flags (Hd.mk (Fl.mk hd8.fl.proto hd8.fl.src hd8.fl.dst n4 hd8.fl.tp) hd8.flags hd8.kind hd8.code hd8.size).kind (Hd.mk (Fl.mk hd8.fl.proto hd8.fl.src hd8.fl.dst n4 hd8.fl.tp) hd8.flags hd8.kind hd8.code hd8.size).code (Hd.mk (Fl.mk hd8.fl.proto hd8.fl.src hd8.fl.dst n4 hd8.fl.tp) hd8.flags hd8.kind hd8.code hd8.size).size)) rfl).hd, ((H20.out.set (h' := (Hd.mk (Fl.mk hd8.fl.proto hd8.fl.src hd8.fl.dst n4 hd8.fl.tp) hd8.flags hd8.kind hd8.code hd8.size)) rfl).set (h' := (Hd.mk (Fl.mk (Hd.mk (Fl.mk hd8.fl.proto hd8.fl.src hd8.fl.dst n4 hd8.fl.tp) hd8.flags hd8.kind hd8.code hd8.size).fl.proto (Hd.mk (Fl.mk hd8.fl.proto hd8.fl.src hd8.fl.dst n4 hd8.fl.tp) hd8.flags hd8.kind hd8.code hd8.size).fl.src (Hd.mk (Fl.mk hd8.fl.proto hd8.fl.src hd8.fl.dst n4 hd8.fl.tp) hd8.flags hd8.kind hd8.code hd8.size).fl.dst (Hd.mk (Fl.mk hd8.fl.proto hd8.fl.src hd8.fl.dst n4 hd8.fl.tp) hd8.flags hd8.kind hd8.code hd8.size).fl.fp n4) (Hd.mk (Fl.mk hd8.fl.proto hd8.fl.src hd8.fl.dst n4 hd8.fl.tp) hd8.flags hd8.kind hd8.code hd8.size).flags (Hd.mk (Fl.mk hd8.fl.proto hd8.fl.src hd8.fl.dst n4 hd8.fl.tp) hd8.flags hd8.kind hd8.code hd8.size).kind (Hd.mk (Fl.mk hd8.fl.proto hd8.fl.src hd8.fl.dst n4 hd8.fl.tp) hd8.flags hd8.kind hd8.code hd8.size).code (Hd.mk (Fl.mk hd8.fl.proto hd8.fl.src hd8.fl.dst n4 hd8.fl.tp) hd8.flags hd8.kind hd8.code hd8.size).size)) rfl).only, fun _ => by rw [HH8.out, HH4.out, show icmpG p h = Hd.mk (if isEcho p then { h.fl with fp := n2 p.data 4, tp := n2 p.data 4 } else h.fl) (h.flags) (byt p.data 0) (byt p.data 1) ((p.data.size : Int) - 8) from rfl, HI.out, HP.out.1, HY.out.1, HY.out.2]; rfl⟩
          · have ca : ((n0 : Int) == 128) = false := byNe (b := 128) qa
            by_cases qb : n0 = 129
            · have HI := Lib.hid (show isEcho p = true by unfold isEcho; rw [HP.out.1]; simp only [if_true]; rw [← HY.out.1]; simp [qb])
              have cb : ((n0 : Int) == 129) = true := byEq (b := 129) qb
              clear qa qb
              go_enter Try.func29, Try.ntmps29
              go_wp2_with fail
              refine HN.out.mono ?_
              rintro e w1 ⟨rfl, h1w⟩
              rw [← hP]
              simp only []
              have H1 := Lib.hid h1w
              clear h1w hP
              have R1 := Lib.hid (show Rd w1 b 72 (Lf d 0) 0 by rw [Lf_zero]; exact H1.out.rd)
              go_wp2_with fail
              refine (u8_at d b 0 _ R1.out (by omega) HP.out.2).mono ?_
              rintro e w2 ⟨rfl, hl⟩
              rw [← HY.out.1]
              simp only []
              have R2 := Lib.hid hl.rd
              have H2 := Lib.hid (H1.out.read hl)
              clear hl
              go_wp2_with fail
              refine (u8_at d b 1 _ R2.out (by omega) HP.out.2).mono ?_
              rintro e w3 ⟨rfl, hl⟩
              simp only []
              have R3 := Lib.hid hl.rd
              have H3 := Lib.hid (H2.out.read hl)
              clear hl
              obtain ⟨⟨g7, g8, g9, g10, g11, g12⟩, ⟨z7, z8, z9, z10, z11, z12⟩⟩ := hdSets H3.out.hd
              go_wp2_with fail
              clear g7 g8 g9 g10 g11 g12 z7 z8 z9 z10 z11 z12
              obtain ⟨hd4, hh4⟩ : ∃ x : Hd, x = (Hd.mk (Hd.mk h.fl h.flags n0 h.code h.size).fl (Hd.mk h.fl h.flags n0 h.code h.size).flags (Hd.mk h.fl h.flags n0 h.code h.size).kind (byt d 1) (Hd.mk h.fl h.flags n0 h.code h.size).size) := ⟨_, rfl⟩
              obtain ⟨w4, hw4⟩ : ∃ x, x = (World.setCell (World.setCell w3 ⟨H, 10, none⟩ (.int .u8 n0)) ⟨H, 11, none⟩ (.int .u8 (byt d 1))) := ⟨_, rfl⟩
              have H4 : Hid (PS P b H #[.bool true, .int .u64 h1, .int .u64 l1, .bool v2, .int .u64 h2, .int .u64 l2, .int .u8 pr, .int .u8 tt, .string d] (Lf d 2) 0 hd4 w w4) := by rw [hw4, hh4]; exact Lib.hid ((H3.out.set (h' := (Hd.mk h.fl h.flags n0 h.code h.size)) rfl).set (h' := (Hd.mk (Hd.mk h.fl h.flags n0 h.code h.size).fl (Hd.mk h.fl h.flags n0 h.code h.size).flags (Hd.mk h.fl h.flags n0 h.code h.size).kind (byt d 1) (Hd.mk h.fl h.flags n0 h.code h.size).size)) rfl)
              rw [← hw4]
              have R4 := Lib.hid H4.out.rd
              have HH4 := Lib.hid hh4
              clear hw4 hh4
              refine (u16_at d b 2 _ R4.out (by omega) HP.out.2).mono ?_
              rintro e w5 ⟨rfl, hl⟩
              simp only []
              have R5 := Lib.hid hl.rd
              have H5 := Lib.hid (H4.out.read hl)
              clear hl
              go_wp2_with fail
              refine (u16_at d b 4 _ R5.out (by omega) HP.out.2).mono ?_
              rintro e w6 ⟨rfl, hl⟩
              simp only []
              have R6 := Lib.hid hl.rd
              have H6 := Lib.hid (H5.out.read hl)
              clear hl
              rw [← HY.out.2]
              go_wp2_with fail
              refine (u16_at d b 6 _ R6.out (by omega) HP.out.2).mono ?_
              rintro e w7 ⟨rfl, hl⟩
              simp only []
              have R7 := Lib.hid hl.rd
              have H7 := Lib.hid (H6.out.read hl)
              clear hl
              go_wp2_with fail
              refine (left_any b _ _ _ H7.out.rd).mono ?_
              rintro e w9 ⟨rfl, rfl⟩
              simp only []
              rw [show ((Lf d 8).size : Int) = (d.size : Int) - 8 by rw [Lf_size]; omega]
              obtain ⟨⟨g7, g8, g9, g10, g11, g12⟩, ⟨z7, z8, z9, z10, z11, z12⟩⟩ := hdSets H7.out.hd
              obtain ⟨k0, k1, k2, k3, k4, k5, k6, k7, k8⟩ := pkCells H7.out.pk
              clear k1 k2 k3 k4 k5 k7 k8
              go_wp2_with fail
              clear k0 k6
              clear g7 g8 g9 g10 g11 g12 z7 z8 z9 z10 z11 z12
              obtain ⟨hd8, hh8⟩ : ∃ x : Hd, x = (Hd.mk hd4.fl hd4.flags hd4.kind hd4.code ((d.size : Int) - 8)) := ⟨_, rfl⟩
              obtain ⟨w8, hw8⟩ : ∃ x, x = (World.setCell w7 ⟨H, 12, none⟩ (.int .i64 ((d.size : Int) - 8))) := ⟨_, rfl⟩
              have H8 : Hid (PS P b H #[.bool true, .int .u64 h1, .int .u64 l1, .bool v2, .int .u64 h2, .int .u64 l2, .int .u8 pr, .int .u8 tt, .string d] (Lf d 8) 0 hd8 w w8) := by rw [hw8, hh8]; exact Lib.hid (H7.out.set (h' := (Hd.mk hd4.fl hd4.flags hd4.kind hd4.code ((d.size : Int) - 8))) rfl)
              rw [← hw8]
              have R8 := Lib.hid H8.out.rd
              have HH8 := Lib.hid hh8
              clear hw8 hh8
              refine (fault_any b _ _ _ H8.out.rd).mono ?_
              rintro e w9 ⟨rfl, rfl⟩
              simp only []
              obtain ⟨k0, k1, k2, k3, k4, k5, k6, k7, k8⟩ := pkCells H8.out.pk
              go_wp2_with fail
              refine (HC.out _).mono ?_
              rintro e w20 ⟨rfl, B10⟩
              simp only []
              have H20 := Lib.hid (H8.out.call B10)
              clear B10 k0 k1 k2 k3 k4 k5 k6 k7 k8
              have j10 : w20.cell? ⟨H, 10, none⟩ = some (.int .u8 n0) := by have := (hdCells H20.out.hd).1; rw [HH8.out] at this; rw [this, HH4.out]
              obtain ⟨k0, k1, k2, k3, k4, k5, k6, k7, k8⟩ := pkCells H20.out.pk
              clear k1 k2 k3 k4 k5 k6 k7 k8
              obtain ⟨⟨g7, g8, g9, _, g11, g12⟩, ⟨z7, z8, z9, z10, z11, z12⟩⟩ := hdSets H20.out.hd
              go_wp2_with fail
              clear g7 g8 g9 g11 g12 z7 z8 z9 z10 z11 z12
              go_ret
              exact ⟨_, by rw [HE.out]; rfl, ((H20.out.set (h' := (Hd.mk (Fl.mk hd8.fl.proto hd8.fl.src hd8.fl.dst n4 hd8.fl.tp) hd8.flags hd8.kind hd8.code hd8.size)) rfl).set (h' := (Hd.mk (Fl.mk (Hd.mk (Fl.mk hd8.fl.proto hd8.fl.src hd8.fl.dst n4 hd8.fl.tp) hd8.flags hd8.kind hd8.code hd8.size).fl.proto (Hd.mk (Fl.mk hd8.fl.proto hd8.fl.src hd8.fl.dst n4 hd8.fl.tp) hd8.flags hd8.kind hd8.code hd8.size).fl.src (Hd.mk (Fl.mk hd8.fl.proto hd8.fl.src hd8.fl.dst n4 hd8.fl.tp) hd8.flags hd8.kind hd8.code hd8.size).fl.dst (Hd.mk (Fl.mk hd8.fl.proto hd8.fl.src hd8.fl.dst n4 hd8.fl.tp) hd8.flags hd8.kind hd8.code hd8.size).fl.fp n4) (Hd.mk (Fl.mk hd8.fl.proto hd8.fl.src hd8.fl.dst n4 hd8.fl.tp) hd8.flags hd8.kind hd8.code hd8.size).flags (Hd.mk (Fl.mk hd8.fl.proto hd8.fl.src hd8.fl.dst n4 hd8.fl.tp) hd8.flags hd8.kind hd8.code hd8.size).kind (Hd.mk (Fl.mk hd8.fl.proto hd8.fl.src hd8.fl.dst n4 hd8.fl.tp) hd8.flags hd8.kind hd8.code hd8.size).code (Hd.mk (Fl.mk hd8.fl.proto hd8.fl.src hd8.fl.dst n4 hd8.fl.tp) hd8.flags hd8.kind hd8.code hd8.size).size)) rfl).hd, ((H20.out.set (h' := (Hd.mk (Fl.mk hd8.fl.proto hd8.fl.src hd8.fl.dst n4 hd8.fl.tp) hd8.flags hd8.kind hd8.code hd8.size)) rfl).set (h' := (Hd.mk (Fl.mk (Hd.mk (Fl.mk hd8.fl.proto hd8.fl.src hd8.fl.dst n4 hd8.fl.tp) hd8.flags hd8.kind hd8.code hd8.size).fl.proto (Hd.mk (Fl.mk hd8.fl.proto hd8.fl.src hd8.fl.dst n4 hd8.fl.tp) hd8.flags hd8.kind hd8.code hd8.size).fl.src (Hd.mk (Fl.mk hd8.fl.proto hd8.fl.src hd8.fl.dst n4 hd8.fl.tp) hd8.flags hd8.kind hd8.code hd8.size).fl.dst (Hd.mk (Fl.mk hd8.fl.proto hd8.fl.src hd8.fl.dst n4 hd8.fl.tp) hd8.flags hd8.kind hd8.code hd8.size).fl.fp n4) (Hd.mk (Fl.mk hd8.fl.proto hd8.fl.src hd8.fl.dst n4 hd8.fl.tp) hd8.flags hd8.kind hd8.code hd8.size).flags (Hd.mk (Fl.mk hd8.fl.proto hd8.fl.src hd8.fl.dst n4 hd8.fl.tp) hd8.flags hd8.kind hd8.code hd8.size).kind (Hd.mk (Fl.mk hd8.fl.proto hd8.fl.src hd8.fl.dst n4 hd8.fl.tp) hd8.flags hd8.kind hd8.code hd8.size).code (Hd.mk (Fl.mk hd8.fl.proto hd8.fl.src hd8.fl.dst n4 hd8.fl.tp) hd8.flags hd8.kind hd8.code hd8.size).size)) rfl).only, fun _ => by rw [HH8.out, HH4.out, show icmpG p h = Hd.mk (if isEcho p then { h.fl with fp := n2 p.data 4, tp := n2 p.data 4 } else h.fl) (h.flags) (byt p.data 0) (byt p.data 1) ((p.data.size : Int) - 8) from rfl, HI.out, HP.out.1, HY.out.1, HY.out.2]; rfl⟩
            · have HI := Lib.hid (show isEcho p = false by unfold isEcho; rw [HP.out.1]; simp only [if_true]; rw [← HY.out.1]; simp [qa, qb])
              have cb : ((n0 : Int) == 129) = false := byNe (b := 129) qb
              clear qa qb
              go_enter Try.func29, Try.ntmps29
              go_wp2_with fail
              refine HN.out.mono ?_
              rintro e w1 ⟨rfl, h1w⟩
              rw [← hP]
              simp only []
              have H1 := Lib.hid h1w
              clear h1w hP
              have R1 := Lib.hid (show Rd w1 b 72 (Lf d 0) 0 by rw [Lf_zero]; exact H1.out.rd)
              go_wp2_with fail
              refine (u8_at d b 0 _ R1.out (by omega) HP.out.2).mono ?_
              rintro e w2 ⟨rfl, hl⟩
              rw [← HY.out.1]
              simp only []
              have R2 := Lib.hid hl.rd
              have H2 := Lib.hid (H1.out.read hl)
              clear hl
              go_wp2_with fail
              refine (u8_at d b 1 _ R2.out (by omega) HP.out.2).mono ?_
              rintro e w3 ⟨rfl, hl⟩
              simp only []
              have R3 := Lib.hid hl.rd
              have H3 := Lib.hid (H2.out.read hl)
              clear hl
              obtain ⟨⟨g7, g8, g9, g10, g11, g12⟩, ⟨z7, z8, z9, z10, z11, z12⟩⟩ := hdSets H3.out.hd
              go_wp2_with fail
              clear g7 g8 g9 g10 g11 g12 z7 z8 z9 z10 z11 z12
              obtain ⟨hd4, hh4⟩ : ∃ x : Hd, x = (Hd.mk (Hd.mk h.fl h.flags n0 h.code h.size).fl (Hd.mk h.fl h.flags n0 h.code h.size).flags (Hd.mk h.fl h.flags n0 h.code h.size).kind (byt d 1) (Hd.mk h.fl h.flags n0 h.code h.size).size) := ⟨_, rfl⟩
              obtain ⟨w4, hw4⟩ : ∃ x, x = (World.setCell (World.setCell w3 ⟨H, 10, none⟩ (.int .u8 n0)) ⟨H, 11, none⟩ (.int .u8 (byt d 1))) := ⟨_, rfl⟩
              have H4 : Hid (PS P b H #[.bool true, .int .u64 h1, .int .u64 l1, .bool v2, .int .u64 h2, .int .u64 l2, .int .u8 pr, .int .u8 tt, .string d] (Lf d 2) 0 hd4 w w4) := by rw [hw4, hh4]; exact Lib.hid ((H3.out.set (h' := (Hd.mk h.fl h.flags n0 h.code h.size)) rfl).set (h' := (Hd.mk (Hd.mk h.fl h.flags n0 h.code h.size).fl (Hd.mk h.fl h.flags n0 h.code h.size).flags (Hd.mk h.fl h.flags n0 h.code h.size).kind (byt d 1) (Hd.mk h.fl h.flags n0 h.code h.size).size)) rfl)
              rw [← hw4]
              have R4 := Lib.hid H4.out.rd
              have HH4 := Lib.hid hh4
              clear hw4 hh4
              refine (u16_at d b 2 _ R4.out (by omega) HP.out.2).mono ?_
              rintro e w5 ⟨rfl, hl⟩
              simp only []
              have R5 := Lib.hid hl.rd
              have H5 := Lib.hid (H4.out.read hl)
              clear hl
              go_wp2_with fail
              refine (u16_at d b 4 _ R5.out (by omega) HP.out.2).mono ?_
              rintro e w6 ⟨rfl, hl⟩
              simp only []
              have R6 := Lib.hid hl.rd
              have H6 := Lib.hid (H5.out.read hl)
              clear hl
              rw [← HY.out.2]
              go_wp2_with fail
              refine (u16_at d b 6 _ R6.out (by omega) HP.out.2).mono ?_
              rintro e w7 ⟨rfl, hl⟩
              simp only []
              have R7 := Lib.hid hl.rd
              have H7 := Lib.hid (H6.out.read hl)
              clear hl
              go_wp2_with fail
              refine (left_any b _ _ _ H7.out.rd).mono ?_
              rintro e w9 ⟨rfl, rfl⟩
              simp only []
              rw [show ((Lf d 8).size : Int) = (d.size : Int) - 8 by rw [Lf_size]; omega]
              obtain ⟨⟨g7, g8, g9, g10, g11, g12⟩, ⟨z7, z8, z9, z10, z11, z12⟩⟩ := hdSets H7.out.hd
              obtain ⟨k0, k1, k2, k3, k4, k5, k6, k7, k8⟩ := pkCells H7.out.pk
              clear k1 k2 k3 k4 k5 k7 k8
              go_wp2_with fail
              clear k0 k6
              clear g7 g8 g9 g10 g11 g12 z7 z8 z9 z10 z11 z12
              obtain ⟨hd8, hh8⟩ : ∃ x : Hd, x = (Hd.mk hd4.fl hd4.flags hd4.kind hd4.code ((d.size : Int) - 8)) := ⟨_, rfl⟩
              obtain ⟨w8, hw8⟩ : ∃ x, x = (World.setCell w7 ⟨H, 12, none⟩ (.int .i64 ((d.size : Int) - 8))) := ⟨_, rfl⟩
              have H8 : Hid (PS P b H #[.bool true, .int .u64 h1, .int .u64 l1, .bool v2, .int .u64 h2, .int .u64 l2, .int .u8 pr, .int .u8 tt, .string d] (Lf d 8) 0 hd8 w w8) := by rw [hw8, hh8]; exact Lib.hid (H7.out.set (h' := (Hd.mk hd4.fl hd4.flags hd4.kind hd4.code ((d.size : Int) - 8))) rfl)
              rw [← hw8]
              have R8 := Lib.hid H8.out.rd
              have HH8 := Lib.hid hh8
              clear hw8 hh8
              refine (fault_any b _ _ _ H8.out.rd).mono ?_
              rintro e w9 ⟨rfl, rfl⟩
              simp only []
              obtain ⟨k0, k1, k2, k3, k4, k5, k6, k7, k8⟩ := pkCells H8.out.pk
              go_wp2_with fail
              refine (HC.out _).mono ?_
              rintro e w20 ⟨rfl, B10⟩
              simp only []
              have H20 := Lib.hid (H8.out.call B10)
              clear B10 k0 k1 k2 k3 k4 k5 k6 k7 k8
              have j10 : w20.cell? ⟨H, 10, none⟩ = some (.int .u8 n0) := by have := (hdCells H20.out.hd).1; rw [HH8.out] at this; rw [this, HH4.out]
              obtain ⟨k0, k1, k2, k3, k4, k5, k6, k7, k8⟩ := pkCells H20.out.pk
              clear k1 k2 k3 k4 k5 k6 k7 k8
              go_wp2_with fail
              go_ret
              exact ⟨hd8, by rw [HE.out]; rfl, H20.out.hd, H20.out.only, fun _ => by rw [HH8.out, HH4.out, show icmpG p h = Hd.mk (if isEcho p then { h.fl with fp := n2 p.data 4, tp := n2 p.data 4 } else h.fl) (h.flags) (byt p.data 0) (byt p.data 1) ((p.data.size : Int) - 8) from rfl, HI.out, HP.out.1, HY.out.1]; rfl⟩
        · have HE := Lib.hid (show icmpE p = 131 by unfold icmpE; rw [HP.out.1]; rw [if_neg (by simp [q58]), if_neg (by exact hs8), if_pos (by rw [← HP.out.1, ← HS.out]; simp [qS])])
          have cS : ((S : Int) != 0) = true := bne_iff_ne.2 (by omega)
          clear q58 qS hs8
          go_enter Try.func29, Try.ntmps29
          go_wp2_with fail
          refine HN.out.mono ?_
          rintro e w1 ⟨rfl, h1w⟩
          rw [← hP]
          simp only []
          have H1 := Lib.hid h1w
          clear h1w hP
          have R1 := Lib.hid (show Rd w1 b 72 (Lf d 0) 0 by rw [Lf_zero]; exact H1.out.rd)
          go_wp2_with fail
          refine (u8_at d b 0 _ R1.out (by omega) HP.out.2).mono ?_
          rintro e w2 ⟨rfl, hl⟩
          rw [← HY.out.1]
          simp only []
          have R2 := Lib.hid hl.rd
          have H2 := Lib.hid (H1.out.read hl)
          clear hl
          go_wp2_with fail
          refine (u8_at d b 1 _ R2.out (by omega) HP.out.2).mono ?_
          rintro e w3 ⟨rfl, hl⟩
          simp only []
          have R3 := Lib.hid hl.rd
          have H3 := Lib.hid (H2.out.read hl)
          clear hl
          obtain ⟨⟨g7, g8, g9, g10, g11, g12⟩, ⟨z7, z8, z9, z10, z11, z12⟩⟩ := hdSets H3.out.hd
          go_wp2_with fail
          clear g7 g8 g9 g10 g11 g12 z7 z8 z9 z10 z11 z12
          obtain ⟨hd4, hh4⟩ : ∃ x : Hd, x = (Hd.mk (Hd.mk h.fl h.flags n0 h.code h.size).fl (Hd.mk h.fl h.flags n0 h.code h.size).flags (Hd.mk h.fl h.flags n0 h.code h.size).kind (byt d 1) (Hd.mk h.fl h.flags n0 h.code h.size).size) := ⟨_, rfl⟩
          obtain ⟨w4, hw4⟩ : ∃ x, x = (World.setCell (World.setCell w3 ⟨H, 10, none⟩ (.int .u8 n0)) ⟨H, 11, none⟩ (.int .u8 (byt d 1))) := ⟨_, rfl⟩
          have H4 : Hid (PS P b H #[.bool true, .int .u64 h1, .int .u64 l1, .bool v2, .int .u64 h2, .int .u64 l2, .int .u8 pr, .int .u8 tt, .string d] (Lf d 2) 0 hd4 w w4) := by rw [hw4, hh4]; exact Lib.hid ((H3.out.set (h' := (Hd.mk h.fl h.flags n0 h.code h.size)) rfl).set (h' := (Hd.mk (Hd.mk h.fl h.flags n0 h.code h.size).fl (Hd.mk h.fl h.flags n0 h.code h.size).flags (Hd.mk h.fl h.flags n0 h.code h.size).kind (byt d 1) (Hd.mk h.fl h.flags n0 h.code h.size).size)) rfl)
          rw [← hw4]
          have R4 := Lib.hid H4.out.rd
          have HH4 := Lib.hid hh4
          clear hw4 hh4
          refine (u16_at d b 2 _ R4.out (by omega) HP.out.2).mono ?_
          rintro e w5 ⟨rfl, hl⟩
          simp only []
          have R5 := Lib.hid hl.rd
          have H5 := Lib.hid (H4.out.read hl)
          clear hl
          go_wp2_with fail
          refine (u16_at d b 4 _ R5.out (by omega) HP.out.2).mono ?_
          rintro e w6 ⟨rfl, hl⟩
          simp only []
          have R6 := Lib.hid hl.rd
          have H6 := Lib.hid (H5.out.read hl)
          clear hl
          rw [← HY.out.2]
          go_wp2_with fail
          refine (u16_at d b 6 _ R6.out (by omega) HP.out.2).mono ?_
          rintro e w7 ⟨rfl, hl⟩
          simp only []
          have R7 := Lib.hid hl.rd
          have H7 := Lib.hid (H6.out.read hl)
          clear hl
          go_wp2_with fail
          refine (left_any b _ _ _ H7.out.rd).mono ?_
          rintro e w9 ⟨rfl, rfl⟩
          simp only []
          rw [show ((Lf d 8).size : Int) = (d.size : Int) - 8 by rw [Lf_size]; omega]
          obtain ⟨⟨g7, g8, g9, g10, g11, g12⟩, ⟨z7, z8, z9, z10, z11, z12⟩⟩ := hdSets H7.out.hd
          obtain ⟨k0, k1, k2, k3, k4, k5, k6, k7, k8⟩ := pkCells H7.out.pk
          clear k1 k2 k3 k4 k5 k7 k8
          go_wp2_with fail
          clear k0 k6
          clear g7 g8 g9 g10 g11 g12 z7 z8 z9 z10 z11 z12
          obtain ⟨hd8, hh8⟩ : ∃ x : Hd, x = (Hd.mk hd4.fl hd4.flags hd4.kind hd4.code ((d.size : Int) - 8)) := ⟨_, rfl⟩
          obtain ⟨w8, hw8⟩ : ∃ x, x = (World.setCell w7 ⟨H, 12, none⟩ (.int .i64 ((d.size : Int) - 8))) := ⟨_, rfl⟩
          have H8 : Hid (PS P b H #[.bool true, .int .u64 h1, .int .u64 l1, .bool v2, .int .u64 h2, .int .u64 l2, .int .u8 pr, .int .u8 tt, .string d] (Lf d 8) 0 hd8 w w8) := by rw [hw8, hh8]; exact Lib.hid (H7.out.set (h' := (Hd.mk hd4.fl hd4.flags hd4.kind hd4.code ((d.size : Int) - 8))) rfl)
          rw [← hw8]
          have R8 := Lib.hid H8.out.rd
          have HH8 := Lib.hid hh8
          clear hw8 hh8
          refine (fault_any b _ _ _ H8.out.rd).mono ?_
          rintro e w9 ⟨rfl, rfl⟩
          simp only []
          obtain ⟨k0, k1, k2, k3, k4, k5, k6, k7, k8⟩ := pkCells H8.out.pk
          go_wp2_with fail
          refine (HC.out _).mono ?_
          rintro e w20 ⟨rfl, B10⟩
          simp only []
          have H20 := Lib.hid (H8.out.call B10)
          clear B10 k0 k1 k2 k3 k4 k5 k6 k7 k8
          go_wp2_with fail
          go_ret
          exact ⟨hd8, by rw [HE.out]; rfl, H20.out.hd, H20.out.only, fun q => by rw [HE.out] at q; exact absurd q (by decide)⟩
  · cases v1
    · have c58 : ((pr : Int) == 58) = false := byNe (b := 58) q58
      by_cases hs8 : d.size < 8
      · have HE := Lib.hid (show icmpE p = 7 by unfold icmpE; rw [HP.out.1]; rw [if_neg (by simp [q58]), if_pos (by exact hs8)])
        clear q58
        go_enter Try.func29, Try.ntmps29
        go_wp2_with fail
        refine HN.out.mono ?_
        rintro e w1 ⟨rfl, h1w⟩
        rw [← hP]
        simp only []
        have H1 := Lib.hid h1w
        clear h1w hP
        have S1 := Lib.hid (show Short d 0 8 from ⟨HP.out.2, Or.inr ⟨rfl, by omega⟩⟩)
        go_wp2_with fail
        refine (u8_sh b 7 _ _ _ H1.out.rd S1.out).mono ?_
        rintro e w2 ⟨x1, s2, f2, rfl, hx1, hl, hs⟩
        simp only []
        have H2 := Lib.hid (H1.out.read hl)
        have S2 := Lib.hid hs
        clear hl hs hx1
        go_wp2_with fail
        refine (u8_sh b 6 _ _ _ H2.out.rd S2.out).mono ?_
        rintro e w3 ⟨x2, s3, f3, rfl, hx2, hl, hs⟩
        simp only []
        have H3 := Lib.hid (H2.out.read hl)
        have S3 := Lib.hid hs
        clear hl hs hx2
        obtain ⟨⟨g7, g8, g9, g10, g11, g12⟩, ⟨z7, z8, z9, z10, z11, z12⟩⟩ := hdSets H3.out.hd
        go_wp2_with fail
        clear g7 g8 g9 g10 g11 g12 z7 z8 z9 z10 z11 z12
        obtain ⟨hd4, hh4⟩ : ∃ x : Hd, x = (Hd.mk (Hd.mk h.fl h.flags x1 h.code h.size).fl (Hd.mk h.fl h.flags x1 h.code h.size).flags (Hd.mk h.fl h.flags x1 h.code h.size).kind x2 (Hd.mk h.fl h.flags x1 h.code h.size).size) := ⟨_, rfl⟩
        obtain ⟨w4, hw4⟩ : ∃ x, x = (World.setCell (World.setCell w3 ⟨H, 10, none⟩ (.int .u8 x1)) ⟨H, 11, none⟩ (.int .u8 x2)) := ⟨_, rfl⟩
        have H4 : Hid (PS P b H #[.bool false, .int .u64 h1, .int .u64 l1, .bool v2, .int .u64 h2, .int .u64 l2, .int .u8 pr, .int .u8 tt, .string d] s3 f3 hd4 w w4) := by rw [hw4, hh4]; exact Lib.hid ((H3.out.set (h' := (Hd.mk h.fl h.flags x1 h.code h.size)) rfl).set (h' := (Hd.mk (Hd.mk h.fl h.flags x1 h.code h.size).fl (Hd.mk h.fl h.flags x1 h.code h.size).flags (Hd.mk h.fl h.flags x1 h.code h.size).kind x2 (Hd.mk h.fl h.flags x1 h.code h.size).size)) rfl)
        rw [← hw4]
        have S4 := S3
        have HH4 := Lib.hid hh4
        clear hw4 hh4
        refine (u16_sh b 4 _ _ _ H4.out.rd S4.out).mono ?_
        rintro e w5 ⟨x3, s5, f5, rfl, hx3, hl, hs⟩
        simp only []
        have H5 := Lib.hid (H4.out.read hl)
        have S5 := Lib.hid hs
        clear hl hs hx3
        go_wp2_with fail
        refine (u16_sh b 2 _ _ _ H5.out.rd S5.out).mono ?_
        rintro e w6 ⟨x4, s6, f6, rfl, hx4, hl, hs⟩
        simp only []
        have H6 := Lib.hid (H5.out.read hl)
        have S6 := Lib.hid hs
        clear hl hs hx4
        go_wp2_with fail
        refine (u16_sh b 0 _ _ _ H6.out.rd S6.out).mono ?_
        rintro e w7 ⟨x5, s7, f7, rfl, hx5, hl, hs⟩
        simp only []
        have H7 := Lib.hid (H6.out.read hl)
        have S7 := Lib.hid hs
        clear hl hs hx5
        go_wp2_with fail
        refine (left_any b _ _ _ H7.out.rd).mono ?_
        rintro e w9 ⟨rfl, rfl⟩
        simp only []
        obtain ⟨⟨g7, g8, g9, g10, g11, g12⟩, ⟨z7, z8, z9, z10, z11, z12⟩⟩ := hdSets H7.out.hd
        obtain ⟨k0, k1, k2, k3, k4, k5, k6, k7, k8⟩ := pkCells H7.out.pk
        clear k1 k2 k3 k4 k5 k7 k8
        go_wp2_with fail
        clear k0 k6
        clear g7 g8 g9 g10 g11 g12 z7 z8 z9 z10 z11 z12
        obtain ⟨hd8, hh8⟩ : ∃ x : Hd, x = (Hd.mk hd4.fl hd4.flags hd4.kind hd4.code (s7.size : Int)) := ⟨_, rfl⟩
        obtain ⟨w8, hw8⟩ : ∃ x, x = (World.setCell w7 ⟨H, 12, none⟩ (.int .i64 (s7.size : Int))) := ⟨_, rfl⟩
        have H8 : Hid (PS P b H #[.bool false, .int .u64 h1, .int .u64 l1, .bool v2, .int .u64 h2, .int .u64 l2, .int .u8 pr, .int .u8 tt, .string d] s7 f7 hd8 w w8) := by rw [hw8, hh8]; exact Lib.hid (H7.out.set (h' := (Hd.mk hd4.fl hd4.flags hd4.kind hd4.code (s7.size : Int))) rfl)
        rw [← hw8]
        have S8 := S7
        have HH8 := Lib.hid hh8
        clear hw8 hh8
        refine (fault_any b _ _ _ H8.out.rd).mono ?_
        rintro e w9 ⟨rfl, rfl⟩
        rw [S8.out.fault]
        simp only []
        go_wp2_with fail
        go_ret
        exact ⟨hd8, by rw [HE.out]; rfl, H8.out.hd, H8.out.only, fun q => by rw [HE.out] at q; exact absurd q (by decide)⟩
      · have L8 : 8 ≤ d.size := by omega
        obtain ⟨n0, hn0⟩ : ∃ x, x = byt d 0 := ⟨_, rfl⟩
        obtain ⟨n4, hn4⟩ : ∃ x, x = n2 d 4 := ⟨_, rfl⟩
        obtain ⟨S, hS⟩ : ∃ x, x = sumP p := ⟨_, rfl⟩
        rw [← hS] at HC
        have HY := Lib.hid (And.intro hn0 hn4)
        have HS := Lib.hid hS
        clear hn0 hn4 hS
        by_cases qS : S = 0
        · have HE := Lib.hid (show icmpE p = 0 by unfold icmpE; rw [HP.out.1]; rw [if_neg (by simp [q58]), if_neg (by exact hs8), if_neg (by rw [← HP.out.1, ← HS.out]; simp [qS])])
          have cS : ((S : Int) != 0) = false := by rw [qS]; simp
          clear q58 qS hs8
          by_cases qa : n0 = 8
          · have HI := Lib.hid (show isEcho p = true by unfold isEcho; rw [HP.out.1]; simp only [Bool.false_eq_true, if_false]; rw [← HY.out.1]; simp [qa])
            have ca : ((n0 : Int) == 8) = true := byEq (b := 8) qa
            clear qa
            go_enter Try.func29, Try.ntmps29
            go_wp2_with fail
            refine HN.out.mono ?_
            rintro e w1 ⟨rfl, h1w⟩
            rw [← hP]
            simp only []
            have H1 := Lib.hid h1w
            clear h1w hP
            have R1 := Lib.hid (show Rd w1 b 72 (Lf d 0) 0 by rw [Lf_zero]; exact H1.out.rd)
            go_wp2_with fail
            refine (u8_at d b 0 _ R1.out (by omega) HP.out.2).mono ?_
            rintro e w2 ⟨rfl, hl⟩
            rw [← HY.out.1]
            simp only []
            have R2 := Lib.hid hl.rd
            have H2 := Lib.hid (H1.out.read hl)
            clear hl
            go_wp2_with fail
            refine (u8_at d b 1 _ R2.out (by omega) HP.out.2).mono ?_
            rintro e w3 ⟨rfl, hl⟩
            simp only []
            have R3 := Lib.hid hl.rd
            have H3 := Lib.hid (H2.out.read hl)
            clear hl
            obtain ⟨⟨g7, g8, g9, g10, g11, g12⟩, ⟨z7, z8, z9, z10, z11, z12⟩⟩ := hdSets H3.out.hd
            go_wp2_with fail
            clear g7 g8 g9 g10 g11 g12 z7 z8 z9 z10 z11 z12
            obtain ⟨hd4, hh4⟩ : ∃ x : Hd, x = (Hd.mk (Hd.mk h.fl h.flags n0 h.code h.size).fl (Hd.mk h.fl h.flags n0 h.code h.size).flags (Hd.mk h.fl h.flags n0 h.code h.size).kind (byt d 1) (Hd.mk h.fl h.flags n0 h.code h.size).size) := ⟨_, rfl⟩
            obtain ⟨w4, hw4⟩ : ∃ x, x = (World.setCell (World.setCell w3 ⟨H, 10, none⟩ (.int .u8 n0)) ⟨H, 11, none⟩ (.int .u8 (byt d 1))) := ⟨_, rfl⟩
            have H4 : Hid (PS P b H #[.bool false, .int .u64 h1, .int .u64 l1, .bool v2, .int .u64 h2, .int .u64 l2, .int .u8 pr, .int .u8 tt, .string d] (Lf d 2) 0 hd4 w w4) := by rw [hw4, hh4]; exact Lib.hid ((H3.out.set (h' := (Hd.mk h.fl h.flags n0 h.code h.size)) rfl).set (h' := (Hd.mk (Hd.mk h.fl h.flags n0 h.code h.size).fl (Hd.mk h.fl h.flags n0 h.code h.size).flags (Hd.mk h.fl h.flags n0 h.code h.size).kind (byt d 1) (Hd.mk h.fl h.flags n0 h.code h.size).size)) rfl)
            rw [← hw4]
            have R4 := Lib.hid H4.out.rd
            have HH4 := Lib.hid hh4
            clear hw4 hh4
            refine (u16_at d b 2 _ R4.out (by omega) HP.out.2).mono ?_
            rintro e w5 ⟨rfl, hl⟩
            simp only []
            have R5 := Lib.hid hl.rd
            have H5 := Lib.hid (H4.out.read hl)
            clear hl
            go_wp2_with fail
            refine (u16_at d b 4 _ R5.out (by omega) HP.out.2).mono ?_
            rintro e w6 ⟨rfl, hl⟩
            simp only []
            have R6 := Lib.hid hl.rd
            have H6 := Lib.hid (H5.out.read hl)
            clear hl
            rw [← HY.out.2]
            go_wp2_with fail
            refine (u16_at d b 6 _ R6.out (by omega) HP.out.2).mono ?_
            rintro e w7 ⟨rfl, hl⟩
            simp only []
            have R7 := Lib.hid hl.rd
            have H7 := Lib.hid (H6.out.read hl)
            clear hl
            go_wp2_with fail
            refine (left_any b _ _ _ H7.out.rd).mono ?_
            rintro e w9 ⟨rfl, rfl⟩
            simp only []
            rw [show ((Lf d 8).size : Int) = (d.size : Int) - 8 by rw [Lf_size]; omega]
            obtain ⟨⟨g7, g8, g9, g10, g11, g12⟩, ⟨z7, z8, z9, z10, z11, z12⟩⟩ := hdSets H7.out.hd
            obtain ⟨k0, k1, k2, k3, k4, k5, k6, k7, k8⟩ := pkCells H7.out.pk
            clear k1 k2 k3 k4 k5 k7 k8
            go_wp2_with fail
            clear k0 k6
            clear g7 g8 g9 g10 g11 g12 z7 z8 z9 z10 z11 z12
            obtain ⟨hd8, hh8⟩ : ∃ x : Hd, x = (Hd.mk hd4.fl hd4.flags hd4.kind hd4.code ((d.size : Int) - 8)) := ⟨_, rfl⟩
            obtain ⟨w8, hw8⟩ : ∃ x, x = (World.setCell w7 ⟨H, 12, none⟩ (.int .i64 ((d.size : Int) - 8))) := ⟨_, rfl⟩
            have H8 : Hid (PS P b H #[.bool false, .int .u64 h1, .int .u64 l1, .bool v2, .int .u64 h2, .int .u64 l2, .int .u8 pr, .int .u8 tt, .string d] (Lf d 8) 0 hd8 w w8) := by rw [hw8, hh8]; exact Lib.hid (H7.out.set (h' := (Hd.mk hd4.fl hd4.flags hd4.kind hd4.code ((d.size : Int) - 8))) rfl)
            rw [← hw8]
            have R8 := Lib.hid H8.out.rd
            have HH8 := Lib.hid hh8
            clear hw8 hh8
            refine (fault_any b _ _ _ H8.out.rd).mono ?_
            rintro e w9 ⟨rfl, rfl⟩
            simp only []
            obtain ⟨k0, k1, k2, k3, k4, k5, k6, k7, k8⟩ := pkCells H8.out.pk
            go_wp2_with fail
            refine (HC.out _).mono ?_
            rintro e w20 ⟨rfl, B10⟩
            simp only []
            have H20 := Lib.hid (H8.out.call B10)
            clear B10 k0 k1 k2 k3 k4 k5 k6 k7 k8
            have j10 : w20.cell? ⟨H, 10, none⟩ = some (.int .u8 n0) := by have := (hdCells H20.out.hd).1; rw [HH8.out] at this; rw [this, HH4.out]
            obtain ⟨k0, k1, k2, k3, k4, k5, k6, k7, k8⟩ := pkCells H20.out.pk
            clear k1 k2 k3 k4 k5 k6 k7 k8
            obtain ⟨⟨g7, g8, g9, _, g11, g12⟩, ⟨z7, z8, z9, z10, z11, z12⟩⟩ := hdSets H20.out.hd
            go_wp2_with fail
            clear g7 g8 g9 g11 g12 z7 z8 z9 z10 z11 z12
            go_ret
            exact ⟨_, by rw [HE.out]; rfl, ((H20.out.set (h' := (Hd.mk (Fl.mk hd8.fl.proto hd8.fl.src hd8.fl.dst n4 hd8.fl.tp) hd8.flags hd8.kind hd8.code hd8.size)) rfl).set (h' := (Hd.mk (Fl.mk (Hd.mk (Fl.mk hd8.fl.proto hd8.fl.src hd8.fl.dst n4 hd8.fl.tp) hd8.flags hd8.kind hd8.code hd8.size).fl.proto (Hd.mk (Fl.mk hd8.fl.proto hd8.fl.src hd8.fl.dst n4 hd8.fl.tp) hd8.flags hd8.kind hd8.code hd8.size).fl.src (Hd.mk (Fl.mk hd8.fl.proto hd8.fl.src hd8.fl.dst n4 hd8.fl.tp) hd8.flags hd8.kind hd8.code hd8.size).fl.dst (Hd.mk (Fl.mk hd8.fl.proto hd8.fl.src hd8.fl.dst n4 hd8.fl.tp) hd8.flags hd8.kind hd8.code hd8.size).fl.fp n4) (Hd.mk (Fl.mk hd8.fl.proto hd8.fl.src hd8.fl.dst n4 hd8.fl.tp) hd8.flags hd8.kind hd8.code hd8.size).flags (Hd.mk (Fl.mk hd8.fl.proto hd8.fl.src hd8.fl.dst n4 hd8.fl.tp) hd8.flags hd8.kind hd8.code hd8.size).kind (Hd.mk (Fl.mk hd8.fl.proto hd8.fl.src hd8.fl.dst n4 hd8.fl.tp) hd8.flags hd8.kind hd8.code hd8.size).code (Hd.mk (Fl.mk hd8.fl.proto hd8.fl.src hd8.fl.dst n4 hd8.fl.tp) hd8.flags hd8.kind hd8.code hd8.size).size)) rfl).hd, ((H20.out.set (h' := (Hd.mk (Fl.mk hd8.fl.proto hd8.fl.src hd8.fl.dst n4 hd8.fl.tp) hd8.flags hd8.kind hd8.code hd8.size)) rfl).set (h' := (Hd.mk (Fl.mk (Hd.mk (Fl.mk hd8.fl.proto hd8.fl.src hd8.fl.dst n4 hd8.fl.tp) hd8.flags hd8.kind hd8.code hd8.size).fl.proto (Hd.mk (Fl.mk hd8.fl.proto hd8.fl.src hd8.fl.dst n4 hd8.fl.tp) hd8.flags hd8.kind hd8.code hd8.size).fl.src (Hd.mk (Fl.mk hd8.fl.proto hd8.fl.src hd8.fl.dst n4 hd8.fl.tp) hd8.flags hd8.kind hd8.code hd8.size).fl.dst (Hd.mk (Fl.mk hd8.fl.proto hd8.fl.src hd8.fl.dst n4 hd8.fl.tp) hd8.flags hd8.kind hd8.code hd8.size).fl.fp n4) (Hd.mk (Fl.mk hd8.fl.proto hd8.fl.src hd8.fl.dst n4 hd8.fl.tp) hd8.flags hd8.kind hd8.code hd8.size).flags (Hd.mk (Fl.mk hd8.fl.proto hd8.fl.src hd8.fl.dst n4 hd8.fl.tp) hd8.flags hd8.kind hd8.code hd8.size).kind (Hd.mk (Fl.mk hd8.fl.proto hd8.fl.src hd8.fl.dst n4 hd8.fl.tp) hd8.flags hd8.kind hd8.code hd8.size).code (Hd.mk (Fl.mk hd8.fl.proto hd8.fl.src hd8.fl.dst n4 hd8.fl.tp) hd8.flags hd8.kind hd8.code hd8.size).size)) rfl).only, fun _ => by rw [HH8.out, HH4.out, show icmpG p h = Hd.mk (if isEcho p then { h.fl with fp := n2 p.data 4, tp := n2 p.data 4 } else h.fl) (h.flags) (byt p.data 0) (byt p.data 1) ((p.data.size : Int) - 8) from rfl, HI.out, HP.out.1, HY.out.1, HY.out.2]; rfl⟩
          · have ca : ((n0 : Int) == 8) = false := byNe (b := 8) qa
            by_cases qb : n0 = 0
            · have HI := Lib.hid (show isEcho p = true by unfold isEcho; rw [HP.out.1]; simp only [Bool.false_eq_true, if_false]; rw [← HY.out.1]; simp [qb])
              have cb : ((n0 : Int) == 0) = true := byEq (b := 0) qb
              clear qa qb
              go_enter Try.func29, Try.ntmps29
              go_wp2_with fail
              refine HN.out.mono ?_
              rintro e w1 ⟨rfl, h1w⟩
              rw [← hP]
              simp only []
              have H1 := Lib.hid h1w
              clear h1w hP
              have R1 := Lib.hid (show Rd w1 b 72 (Lf d 0) 0 by rw [Lf_zero]; exact H1.out.rd)
              go_wp2_with fail
              refine (u8_at d b 0 _ R1.out (by omega) HP.out.2).mono ?_
              rintro e w2 ⟨rfl, hl⟩
              rw [← HY.out.1]
              simp only []
              have R2 := Lib.hid hl.rd
              have H2 := Lib.hid (H1.out.read hl)
              clear hl
              go_wp2_with fail
              refine (u8_at d b 1 _ R2.out (by omega) HP.out.2).mono ?_
              rintro e w3 ⟨rfl, hl⟩
              simp only []
              have R3 := Lib.hid hl.rd
              have H3 := Lib.hid (H2.out.read hl)
              clear hl
              obtain ⟨⟨g7, g8, g9, g10, g11, g12⟩, ⟨z7, z8, z9, z10, z11, z12⟩⟩ := hdSets H3.out.hd
              go_wp2_with fail
              clear g7 g8 g9 g10 g11 g12 z7 z8 z9 z10 z11 z12
              obtain ⟨hd4, hh4⟩ : ∃ x : Hd, x = (Hd.mk (Hd.mk h.fl h.flags n0 h.code h.size).fl (Hd.mk h.fl h.flags n0 h.code h.size).flags (Hd.mk h.fl h.flags n0 h.code h.size).kind (byt d 1) (Hd.mk h.fl h.flags n0 h.code h.size).size) := ⟨_, rfl⟩
              obtain ⟨w4, hw4⟩ : ∃ x, x = (World.setCell (World.setCell w3 ⟨H, 10, none⟩ (.int .u8 n0)) ⟨H, 11, none⟩ (.int .u8 (byt d 1))) := ⟨_, rfl⟩
              have H4 : Hid (PS P b H #[.bool false, .int .u64 h1, .int .u64 l1, .bool v2, .int .u64 h2, .int .u64 l2, .int .u8 pr, .int .u8 tt, .string d] (Lf d 2) 0 hd4 w w4) := by rw [hw4, hh4]; exact Lib.hid ((H3.out.set (h' := (Hd.mk h.fl h.flags n0 h.code h.size)) rfl).set (h' := (Hd.mk (Hd.mk h.fl h.flags n0 h.code h.size).fl (Hd.mk h.fl h.flags n0 h.code h.size).flags (Hd.mk h.fl h.flags n0 h.code h.size).kind (byt d 1) (Hd.mk h.fl h.flags n0 h.code h.size).size)) rfl)
              rw [← hw4]
              have R4 := Lib.hid H4.out.rd
              have HH4 := Lib.hid hh4
              clear hw4 hh4
              refine (u16_at d b 2 _ R4.out (by omega) HP.out.2).mono ?_
              rintro e w5 ⟨rfl, hl⟩
              simp only []
              have R5 := Lib.hid hl.rd
              have H5 := Lib.hid (H4.out.read hl)
              clear hl
              go_wp2_with fail
              refine (u16_at d b 4 _ R5.out (by omega) HP.out.2).mono ?_
              rintro e w6 ⟨rfl, hl⟩
              simp only []
              have R6 := Lib.hid hl.rd
              have H6 := Lib.hid (H5.out.read hl)
              clear hl
              rw [← HY.out.2]
              go_wp2_with fail
              refine (u16_at d b 6 _ R6.out (by omega) HP.out.2).mono ?_
              rintro e w7 ⟨rfl, hl⟩
              simp only []
              have R7 := Lib.hid hl.rd
              have H7 := Lib.hid (H6.out.read hl)
              clear hl
              go_wp2_with fail
              refine (left_any b _ _ _ H7.out.rd).mono ?_
              rintro e w9 ⟨rfl, rfl⟩
              simp only []
              rw [show ((Lf d 8).size : Int) = (d.size : Int) - 8 by rw [Lf_size]; omega]
              obtain ⟨⟨g7, g8, g9, g10, g11, g12⟩, ⟨z7, z8, z9, z10, z11, z12⟩⟩ := hdSets H7.out.hd
              obtain ⟨k0, k1, k2, k3, k4, k5, k6, k7, k8⟩ := pkCells H7.out.pk
              clear k1 k2 k3 k4 k5 k7 k8
              go_wp2_with fail
              clear k0 k6
              clear g7 g8 g9 g10 g11 g12 z7 z8 z9 z10 z11 z12
              obtain ⟨hd8, hh8⟩ : ∃ x : Hd, x = (Hd.mk hd4.fl hd4.flags hd4.kind hd4.code ((d.size : Int) - 8)) := ⟨_, rfl⟩
              obtain ⟨w8, hw8⟩ : ∃ x, x = (World.setCell w7 ⟨H, 12, none⟩ (.int .i64 ((d.size : Int) - 8))) := ⟨_, rfl⟩
              have H8 : Hid (PS P b H #[.bool false, .int .u64 h1, .int .u64 l1, .bool v2, .int .u64 h2, .int .u64 l2, .int .u8 pr, .int .u8 tt, .string d] (Lf d 8) 0 hd8 w w8) := by rw [hw8, hh8]; exact Lib.hid (H7.out.set (h' := (Hd.mk hd4.fl hd4.flags hd4.kind hd4.code ((d.size : Int) - 8))) rfl)
              rw [← hw8]
              have R8 := Lib.hid H8.out.rd
              have HH8 := Lib.hid hh8
              clear hw8 hh8
              refine (fault_any b _ _ _ H8.out.rd).mono ?_
              rintro e w9 ⟨rfl, rfl⟩
              simp only []
              obtain ⟨k0, k1, k2, k3, k4, k5, k6, k7, k8⟩ := pkCells H8.out.pk
              go_wp2_with fail
              refine (HC.out _).mono ?_
              rintro e w20 ⟨rfl, B10⟩
              simp only []
              have H20 := Lib.hid (H8.out.call B10)
              clear B10 k0 k1 k2 k3 k4 k5 k6 k7 k8
              have j10 : w20.cell? ⟨H, 10, none⟩ = some (.int .u8 n0) := by have := (hdCells H20.out.hd).1; rw [HH8.out] at this; rw [this, HH4.out]
              obtain ⟨k0, k1, k2, k3, k4, k5, k6, k7, k8⟩ := pkCells H20.out.pk
              clear k1 k2 k3 k4 k5 k6 k7 k8
              obtain ⟨⟨g7, g8, g9, _, g11, g12⟩, ⟨z7, z8, z9, z10, z11, z12⟩⟩ := hdSets H20.out.hd
              go_wp2_with fail
              clear g7 g8 g9 g11 g12 z7 z8 z9 z10 z11 z12
              go_ret
              exact ⟨_, by rw [HE.out]; rfl, ((H20.out.set (h' := (Hd.mk (Fl.mk hd8.fl.proto hd8.fl.src hd8.fl.dst n4 hd8.fl.tp) hd8.flags hd8.kind hd8.code hd8.size)) rfl).set (h' := (Hd.mk (Fl.mk (Hd.mk (Fl.mk hd8.fl.proto hd8.fl.src hd8.fl.dst n4 hd8.fl.tp) hd8.flags hd8.kind hd8.code hd8.size).fl.proto (Hd.mk (Fl.mk hd8.fl.proto hd8.fl.src hd8.fl.dst n4 hd8.fl.tp) hd8.flags hd8.kind hd8.code hd8.size).fl.src (Hd.mk (Fl.mk hd8.fl.proto hd8.fl.src hd8.fl.dst n4 hd8.fl.tp) hd8.flags hd8.kind hd8.code hd8.size).fl.dst (Hd.mk (Fl.mk hd8.fl.proto hd8.fl.src hd8.fl.dst n4 hd8.fl.tp) hd8.flags hd8.kind hd8.code hd8.size).fl.fp n4) (Hd.mk (Fl.mk hd8.fl.proto hd8.fl.src hd8.fl.dst n4 hd8.fl.tp) hd8.flags hd8.kind hd8.code hd8.size).flags (Hd.mk (Fl.mk hd8.fl.proto hd8.fl.src hd8.fl.dst n4 hd8.fl.tp) hd8.flags hd8.kind hd8.code hd8.size).kind (Hd.mk (Fl.mk hd8.fl.proto hd8.fl.src hd8.fl.dst n4 hd8.fl.tp) hd8.flags hd8.kind hd8.code hd8.size).code (Hd.mk (Fl.mk hd8.fl.proto hd8.fl.src hd8.fl.dst n4 hd8.fl.tp) hd8.flags hd8.kind hd8.code hd8.size).size)) rfl).hd, ((H20.out.set (h' := (Hd.mk (Fl.mk hd8.fl.proto hd8.fl.src hd8.fl.dst n4 hd8.fl.tp) hd8.flags hd8.kind hd8.code hd8.size)) rfl).set (h' := (Hd.mk (Fl.mk (Hd.mk (Fl.mk hd8.fl.proto hd8.fl.src hd8.fl.dst n4 hd8.fl.tp) hd8.flags hd8.kind hd8.code hd8.size).fl.proto (Hd.mk (Fl.mk hd8.fl.proto hd8.fl.src hd8.fl.dst n4 hd8.fl.tp) hd8.flags hd8.kind hd8.code hd8.size).fl.src (Hd.mk (Fl.mk hd8.fl.proto hd8.fl.src hd8.fl.dst n4 hd8.fl.tp) hd8.flags hd8.kind hd8.code hd8.size).fl.dst (Hd.mk (Fl.mk hd8.fl.proto hd8.fl.src hd8.fl.dst n4 hd8.fl.tp) hd8.flags hd8.kind hd8.code hd8.size).fl.fp n4) (Hd.mk (Fl.mk hd8.fl.proto hd8.fl.src hd8.fl.dst n4 hd8.fl.tp) hd8.flags hd8.kind hd8.code hd8.size).flags (Hd.mk (Fl.mk hd8.fl.proto hd8.fl.src hd8.fl.dst n4 hd8.fl.tp) hd8.flags hd8.kind hd8.code hd8.size).kind (Hd.mk (Fl.mk hd8.fl.proto hd8.fl.src hd8.fl.dst n4 hd8.fl.tp) hd8.flags hd8.kind hd8.code hd8.size).code (Hd.mk (Fl.mk hd8.fl.proto hd8.fl.src hd8.fl.dst n4 hd8.fl.tp) hd8.flags hd8.kind hd8.code hd8.size).size)) rfl).only, fun _ => by rw [HH8.out, HH4.out, show icmpG p h = Hd.mk (if isEcho p then { h.fl with fp := n2 p.data 4, tp := n2 p.data 4 } else h.fl) (h.flags) (byt p.data 0) (byt p.data 1) ((p.data.size : Int) - 8) from rfl, HI.out, HP.out.1, HY.out.1, HY.out.2]; rfl⟩
            · have HI := Lib.hid (show isEcho p = false by unfold isEcho; rw [HP.out.1]; simp only [Bool.false_eq_true, if_false]; rw [← HY.out.1]; simp [qa, qb])
              have cb : ((n0 : Int) == 0) = false := byNe (b := 0) qb
              clear qa qb
              go_enter Try.func29, Try.ntmps29
              go_wp2_with fail
              refine HN.out.mono ?_
              rintro e w1 ⟨rfl, h1w⟩
              rw [← hP]
              simp only []
              have H1 := Lib.hid h1w
              clear h1w hP
              have R1 := Lib.hid (show Rd w1 b 72 (Lf d 0) 0 by rw [Lf_zero]; exact H1.out.rd)
              go_wp2_with fail
              refine (u8_at d b 0 _ R1.out (by omega) HP.out.2).mono ?_
              rintro e w2 ⟨rfl, hl⟩
              rw [← HY.out.1]
              simp only []
              have R2 := Lib.hid hl.rd
              have H2 := Lib.hid (H1.out.read hl)
              clear hl
              go_wp2_with fail
              refine (u8_at d b 1 _ R2.out (by omega) HP.out.2).mono ?_
              rintro e w3 ⟨rfl, hl⟩
              simp only []
              have R3 := Lib.hid hl.rd
              have H3 := Lib.hid (H2.out.read hl)
              clear hl
              obtain ⟨⟨g7, g8, g9, g10, g11, g12⟩, ⟨z7, z8, z9, z10, z11, z12⟩⟩ := hdSets H3.out.hd
              go_wp2_with fail
              clear g7 g8 g9 g10 g11 g12 z7 z8 z9 z10 z11 z12
              obtain ⟨hd4, hh4⟩ : ∃ x : Hd, x = (Hd.mk (Hd.mk h.fl h.flags n0 h.code h.size).fl (Hd.mk h.fl h.flags n0 h.code h.size).flags (Hd.mk h.fl h.flags n0 h.code h.size).kind (byt d 1) (Hd.mk h.fl h.flags n0 h.code h.size).size) := ⟨_, rfl⟩
              obtain ⟨w4, hw4⟩ : ∃ x, x = (World.setCell (World.setCell w3 ⟨H, 10, none⟩ (.int .u8 n0)) ⟨H, 11, none⟩ (.int .u8 (byt d 1))) := ⟨_, rfl⟩
              have H4 : Hid (PS P b H #[.bool false, .int .u64 h1, .int .u64 l1, .bool v2, .int .u64 h2, .int .u64 l2, .int .u8 pr, .int .u8 tt, .string d] (Lf d 2) 0 hd4 w w4) := by rw [hw4, hh4]; exact Lib.hid ((H3.out.set (h' := (Hd.mk h.fl h.flags n0 h.code h.size)) rfl).set (h' := (Hd.mk (Hd.mk h.fl h.flags n0 h.code h.size).fl (Hd.mk h.fl h.flags n0 h.code h.size).flags (Hd.mk h.fl h.flags n0 h.code h.size).kind (byt d 1) (Hd.mk h.fl h.flags n0 h.code h.size).size)) rfl)
              rw [← hw4]
              have R4 := Lib.hid H4.out.rd
              have HH4 := Lib.hid hh4
              clear hw4 hh4
              refine (u16_at d b 2 _ R4.out (by omega) HP.out.2).mono ?_
              rintro e w5 ⟨rfl, hl⟩
              simp only []
              have R5 := Lib.hid hl.rd
              have H5 := Lib.hid (H4.out.read hl)
              clear hl
              go_wp2_with fail
              refine (u16_at d b 4 _ R5.out (by omega) HP.out.2).mono ?_
              rintro e w6 ⟨rfl, hl⟩
              simp only []
              have R6 := Lib.hid hl.rd
              have H6 := Lib.hid (H5.out.read hl)
              clear hl
              rw [← HY.out.2]
              go_wp2_with fail
              refine (u16_at d b 6 _ R6.out (by omega) HP.out.2).mono ?_
              rintro e w7 ⟨rfl, hl⟩
              simp only []
              have R7 := Lib.hid hl.rd
              have H7 := Lib.hid (H6.out.read hl)
              clear hl
              go_wp2_with fail
              refine (left_any b _ _ _ H7.out.rd).mono ?_
              rintro e w9 ⟨rfl, rfl⟩
              simp only []
              rw [show ((Lf d 8).size : Int) = (d.size : Int) - 8 by rw [Lf_size]; omega]
              obtain ⟨⟨g7, g8, g9, g10, g11, g12⟩, ⟨z7, z8, z9, z10, z11, z12⟩⟩ := hdSets H7.out.hd
              obtain ⟨k0, k1, k2, k3, k4, k5, k6, k7, k8⟩ := pkCells H7.out.pk
              clear k1 k2 k3 k4 k5 k7 k8
              go_wp2_with fail
              clear k0 k6
              clear g7 g8 g9 g10 g11 g12 z7 z8 z9 z10 z11 z12
              obtain ⟨hd8, hh8⟩ : ∃ x : Hd, x = (Hd.mk hd4.fl hd4.flags hd4.kind hd4.code ((d.size : Int) - 8)) := ⟨_, rfl⟩
              obtain ⟨w8, hw8⟩ : ∃ x, x = (World.setCell w7 ⟨H, 12, none⟩ (.int .i64 ((d.size : Int) - 8))) := ⟨_, rfl⟩
              have H8 : Hid (PS P b H #[.bool false, .int .u64 h1, .int .u64 l1, .bool v2, .int .u64 h2, .int .u64 l2, .int .u8 pr, .int .u8 tt, .string d] (Lf d 8) 0 hd8 w w8) := by rw [hw8, hh8]; exact Lib.hid (H7.out.set (h' := (Hd.mk hd4.fl hd4.flags hd4.kind hd4.code ((d.size : Int) - 8))) rfl)
              rw [← hw8]
              have R8 := Lib.hid H8.out.rd
              have HH8 := Lib.hid hh8
              clear hw8 hh8
              refine (fault_any b _ _ _ H8.out.rd).mono ?_
              rintro e w9 ⟨rfl, rfl⟩
              simp only []
              obtain ⟨k0, k1, k2, k3, k4, k5, k6, k7, k8⟩ := pkCells H8.out.pk
              go_wp2_with fail
              refine (HC.out _).mono ?_
              rintro e w20 ⟨rfl, B10⟩
              simp only []
              have H20 := Lib.hid (H8.out.call B10)
              clear B10 k0 k1 k2 k3 k4 k5 k6 k7 k8
              have j10 : w20.cell? ⟨H, 10, none⟩ = some (.int .u8 n0) := by have := (hdCells H20.out.hd).1; rw [HH8.out] at this; rw [this, HH4.out]
              obtain ⟨k0, k1, k2, k3, k4, k5, k6, k7, k8⟩ := pkCells H20.out.pk
              clear k1 k2 k3 k4 k5 k6 k7 k8
              go_wp2_with fail
              go_ret
              exact ⟨hd8, by rw [HE.out]; rfl, H20.out.hd, H20.out.only, fun _ => by rw [HH8.out, HH4.out, show icmpG p h = Hd.mk (if isEcho p then { h.fl with fp := n2 p.data 4, tp := n2 p.data 4 } else h.fl) (h.flags) (byt p.data 0) (byt p.data 1) ((p.data.size : Int) - 8) from rfl, HI.out, HP.out.1, HY.out.1]; rfl⟩
        · have HE := Lib.hid (show icmpE p = 131 by unfold icmpE; rw [HP.out.1]; rw [if_neg (by simp [q58]), if_neg (by exact hs8), if_pos (by rw [← HP.out.1, ← HS.out]; simp [qS])])
          have cS : ((S : Int) != 0) = true := bne_iff_ne.2 (by omega)
          clear q58 qS hs8
          go_enter Try.func29, Try.ntmps29
          go_wp2_with fail
          refine HN.out.mono ?_
          rintro e w1 ⟨rfl, h1w⟩
          rw [← hP]
          simp only []
          have H1 := Lib.hid h1w
          clear h1w hP
          have R1 := Lib.hid (show Rd w1 b 72 (Lf d 0) 0 by rw [Lf_zero]; exact H1.out.rd)
          go_wp2_with fail
          refine (u8_at d b 0 _ R1.out (by omega) HP.out.2).mono ?_
          rintro e w2 ⟨rfl, hl⟩
          rw [← HY.out.1]
          simp only []
          have R2 := Lib.hid hl.rd
          have H2 := Lib.hid (H1.out.read hl)
          clear hl
          go_wp2_with fail
          refine (u8_at d b 1 _ R2.out (by omega) HP.out.2).mono ?_
          rintro e w3 ⟨rfl, hl⟩
          simp only []
          have R3 := Lib.hid hl.rd
          have H3 := Lib.hid (H2.out.read hl)
          clear hl
          obtain ⟨⟨g7, g8, g9, g10, g11, g12⟩, ⟨z7, z8, z9, z10, z11, z12⟩⟩ := hdSets H3.out.hd
          go_wp2_with fail
          clear g7 g8 g9 g10 g11 g12 z7 z8 z9 z10 z11 z12
          obtain ⟨hd4, hh4⟩ : ∃ x : Hd, x = (Hd.mk (Hd.mk h.fl h.flags n0 h.code h.size).fl (Hd.mk h.fl h.flags n0 h.code h.size).flags (Hd.mk h.fl h.flags n0 h.code h.size).kind (byt d 1) (Hd.mk h.fl h.flags n0 h.code h.size).size) := ⟨_, rfl⟩
          obtain ⟨w4, hw4⟩ : ∃ x, x = (World.setCell (World.setCell w3 ⟨H, 10, none⟩ (.int .u8 n0)) ⟨H, 11, none⟩ (.int .u8 (byt d 1))) := ⟨_, rfl⟩
          have H4 : Hid (PS P b H #[.bool false, .int .u64 h1, .int .u64 l1, .bool v2, .int .u64 h2, .int .u64 l2, .int .u8 pr, .int .u8 tt, .string d] (Lf d 2) 0 hd4 w w4) := by rw [hw4, hh4]; exact Lib.hid ((H3.out.set (h' := (Hd.mk h.fl h.flags n0 h.code h.size)) rfl).set (h' := (Hd.mk (Hd.mk h.fl h.flags n0 h.code h.size).fl (Hd.mk h.fl h.flags n0 h.code h.size).flags (Hd.mk h.fl h.flags n0 h.code h.size).kind (byt d 1) (Hd.mk h.fl h.flags n0 h.code h.size).size)) rfl)
          rw [← hw4]
          have R4 := Lib.hid H4.out.rd
          have HH4 := Lib.hid hh4
          clear hw4 hh4
          refine (u16_at d b 2 _ R4.out (by omega) HP.out.2).mono ?_
          rintro e w5 ⟨rfl, hl⟩
          simp only []
          have R5 := Lib.hid hl.rd
          have H5 := Lib.hid (H4.out.read hl)
          clear hl
          go_wp2_with fail
          refine (u16_at d b 4 _ R5.out (by omega) HP.out.2).mono ?_
          rintro e w6 ⟨rfl, hl⟩
          simp only []
          have R6 := Lib.hid hl.rd
          have H6 := Lib.hid (H5.out.read hl)
          clear hl
          rw [← HY.out.2]
          go_wp2_with fail
          refine (u16_at d b 6 _ R6.out (by omega) HP.out.2).mono ?_
          rintro e w7 ⟨rfl, hl⟩
          simp only []
          have R7 := Lib.hid hl.rd
          have H7 := Lib.hid (H6.out.read hl)
          clear hl
          go_wp2_with fail
          refine (left_any b _ _ _ H7.out.rd).mono ?_
          rintro e w9 ⟨rfl, rfl⟩
          simp only []
          rw [show ((Lf d 8).size : Int) = (d.size : Int) - 8 by rw [Lf_size]; omega]
          obtain ⟨⟨g7, g8, g9, g10, g11, g12⟩, ⟨z7, z8, z9, z10, z11, z12⟩⟩ := hdSets H7.out.hd
          obtain ⟨k0, k1, k2, k3, k4, k5, k6, k7, k8⟩ := pkCells H7.out.pk
          clear k1 k2 k3 k4 k5 k7 k8
          go_wp2_with fail
          clear k0 k6
          clear g7 g8 g9 g10 g11 g12 z7 z8 z9 z10 z11 z12
          obtain ⟨hd8, hh8⟩ : ∃ x : Hd, x = (Hd.mk hd4.fl hd4.flags hd4.kind hd4.code ((d.size : Int) - 8)) := ⟨_, rfl⟩
          obtain ⟨w8, hw8⟩ : ∃ x, x = (World.setCell w7 ⟨H, 12, none⟩ (.int .i64 ((d.size : Int) - 8))) := ⟨_, rfl⟩
          have H8 : Hid (PS P b H #[.bool false, .int .u64 h1, .int .u64 l1, .bool v2, .int .u64 h2, .int .u64 l2, .int .u8 pr, .int .u8 tt, .string d] (Lf d 8) 0 hd8 w w8) := by rw [hw8, hh8]; exact Lib.hid (H7.out.set (h' := (Hd.mk hd4.fl hd4.flags hd4.kind hd4.code ((d.size : Int) - 8))) rfl)
          rw [← hw8]
          have R8 := Lib.hid H8.out.rd
          have HH8 := Lib.hid hh8
          clear hw8 hh8
          refine (fault_any b _ _ _ H8.out.rd).mono ?_
          rintro e w9 ⟨rfl, rfl⟩
          simp only []
          obtain ⟨k0, k1, k2, k3, k4, k5, k6, k7, k8⟩ := pkCells H8.out.pk
          go_wp2_with fail
          refine (HC.out _).mono ?_
          rintro e w20 ⟨rfl, B10⟩
          simp only []
          have H20 := Lib.hid (H8.out.call B10)
          clear B10 k0 k1 k2 k3 k4 k5 k6 k7 k8
          go_wp2_with fail
          go_ret
          exact ⟨hd8, by rw [HE.out]; rfl, H20.out.hd, H20.out.only, fun q => by rw [HE.out] at q; exact absurd q (by decide)⟩
    · have c58 : ((pr : Int) == 58) = false := byNe (b := 58) q58
      have HE := Lib.hid (show icmpE p = 8 by unfold icmpE; rw [HP.out.1]; rw [if_pos (by simp [q58])])
      clear q58
      by_cases hs8 : d.size < 8
      · go_enter Try.func29, Try.ntmps29
        go_wp2_with fail
        refine HN.out.mono ?_
        rintro e w1 ⟨rfl, h1w⟩
        rw [← hP]
        simp only []
        have H1 := Lib.hid h1w
        clear h1w hP
        have S1 := Lib.hid (show Short d 0 8 from ⟨HP.out.2, Or.inr ⟨rfl, by omega⟩⟩)
        go_wp2_with fail
        refine (u8_sh b 7 _ _ _ H1.out.rd S1.out).mono ?_
        rintro e w2 ⟨x1, s2, f2, rfl, hx1, hl, hs⟩
        simp only []
        have H2 := Lib.hid (H1.out.read hl)
        have S2 := Lib.hid hs
        clear hl hs hx1
        go_wp2_with fail
        refine (u8_sh b 6 _ _ _ H2.out.rd S2.out).mono ?_
        rintro e w3 ⟨x2, s3, f3, rfl, hx2, hl, hs⟩
        simp only []
        have H3 := Lib.hid (H2.out.read hl)
        have S3 := Lib.hid hs
        clear hl hs hx2
        obtain ⟨⟨g7, g8, g9, g10, g11, g12⟩, ⟨z7, z8, z9, z10, z11, z12⟩⟩ := hdSets H3.out.hd
        go_wp2_with fail
        clear g7 g8 g9 g10 g11 g12 z7 z8 z9 z10 z11 z12
        obtain ⟨hd4, hh4⟩ : ∃ x : Hd, x = (Hd.mk (Hd.mk h.fl h.flags x1 h.code h.size).fl (Hd.mk h.fl h.flags x1 h.code h.size).flags (Hd.mk h.fl h.flags x1 h.code h.size).kind x2 (Hd.mk h.fl h.flags x1 h.code h.size).size) := ⟨_, rfl⟩
        obtain ⟨w4, hw4⟩ : ∃ x, x = (World.setCell (World.setCell w3 ⟨H, 10, none⟩ (.int .u8 x1)) ⟨H, 11, none⟩ (.int .u8 x2)) := ⟨_, rfl⟩
        have H4 : Hid (PS P b H #[.bool true, .int .u64 h1, .int .u64 l1, .bool v2, .int .u64 h2, .int .u64 l2, .int .u8 pr, .int .u8 tt, .string d] s3 f3 hd4 w w4) := by rw [hw4, hh4]; exact Lib.hid ((H3.out.set (h' := (Hd.mk h.fl h.flags x1 h.code h.size)) rfl).set (h' := (Hd.mk (Hd.mk h.fl h.flags x1 h.code h.size).fl (Hd.mk h.fl h.flags x1 h.code h.size).flags (Hd.mk h.fl h.flags x1 h.code h.size).kind x2 (Hd.mk h.fl h.flags x1 h.code h.size).size)) rfl)
        rw [← hw4]
        have S4 := S3
        have HH4 := Lib.hid hh4
        clear hw4 hh4
        refine (u16_sh b 4 _ _ _ H4.out.rd S4.out).mono ?_
        rintro e w5 ⟨x3, s5, f5, rfl, hx3, hl, hs⟩
        simp only []
        have H5 := Lib.hid (H4.out.read hl)
        have S5 := Lib.hid hs
        clear hl hs hx3
        go_wp2_with fail
        refine (u16_sh b 2 _ _ _ H5.out.rd S5.out).mono ?_
        rintro e w6 ⟨x4, s6, f6, rfl, hx4, hl, hs⟩
        simp only []
        have H6 := Lib.hid (H5.out.read hl)
        have S6 := Lib.hid hs
        clear hl hs hx4
        go_wp2_with fail
        refine (u16_sh b 0 _ _ _ H6.out.rd S6.out).mono ?_
        rintro e w7 ⟨x5, s7, f7, rfl, hx5, hl, hs⟩
        simp only []
        have H7 := Lib.hid (H6.out.read hl)
        have S7 := Lib.hid hs
        clear hl hs hx5
        go_wp2_with fail
        refine (left_any b _ _ _ H7.out.rd).mono ?_
        rintro e w9 ⟨rfl, rfl⟩
        simp only []
        obtain ⟨⟨g7, g8, g9, g10, g11, g12⟩, ⟨z7, z8, z9, z10, z11, z12⟩⟩ := hdSets H7.out.hd
        obtain ⟨k0, k1, k2, k3, k4, k5, k6, k7, k8⟩ := pkCells H7.out.pk
        clear k1 k2 k3 k4 k5 k7 k8
        go_wp2_with fail
        clear k0 k6
        clear g7 g8 g9 g10 g11 g12 z7 z8 z9 z10 z11 z12
        obtain ⟨hd8, hh8⟩ : ∃ x : Hd, x = (Hd.mk hd4.fl hd4.flags hd4.kind hd4.code (s7.size : Int)) := ⟨_, rfl⟩
        obtain ⟨w8, hw8⟩ : ∃ x, x = (World.setCell w7 ⟨H, 12, none⟩ (.int .i64 (s7.size : Int))) := ⟨_, rfl⟩
        have H8 : Hid (PS P b H #[.bool true, .int .u64 h1, .int .u64 l1, .bool v2, .int .u64 h2, .int .u64 l2, .int .u8 pr, .int .u8 tt, .string d] s7 f7 hd8 w w8) := by rw [hw8, hh8]; exact Lib.hid (H7.out.set (h' := (Hd.mk hd4.fl hd4.flags hd4.kind hd4.code (s7.size : Int))) rfl)
        rw [← hw8]
        have S8 := S7
        have HH8 := Lib.hid hh8
        clear hw8 hh8
        go_ret
        exact ⟨hd8, by rw [HE.out]; rfl, H8.out.hd, H8.out.only, fun q => by rw [HE.out] at q; exact absurd q (by decide)⟩
      · have L8 : 8 ≤ d.size := by omega
        obtain ⟨n0, hn0⟩ : ∃ x, x = byt d 0 := ⟨_, rfl⟩
        obtain ⟨n4, hn4⟩ : ∃ x, x = n2 d 4 := ⟨_, rfl⟩
        obtain ⟨S, hS⟩ : ∃ x, x = sumP p := ⟨_, rfl⟩
        rw [← hS] at HC
        have HY := Lib.hid (And.intro hn0 hn4)
        have HS := Lib.hid hS
        clear hn0 hn4 hS
        clear hs8
        go_enter Try.func29, Try.ntmps29
        go_wp2_with fail
        refine HN.out.mono ?_
        rintro e w1 ⟨rfl, h1w⟩
        rw [← hP]
        simp only []
        have H1 := Lib.hid h1w
        clear h1w hP
        have R1 := Lib.hid (show Rd w1 b 72 (Lf d 0) 0 by rw [Lf_zero]; exact H1.out.rd)
        go_wp2_with fail
        refine (u8_at d b 0 _ R1.out (by omega) HP.out.2).mono ?_
        rintro e w2 ⟨rfl, hl⟩
        rw [← HY.out.1]
        simp only []
        have R2 := Lib.hid hl.rd
        have H2 := Lib.hid (H1.out.read hl)
        clear hl
        go_wp2_with fail
        refine (u8_at d b 1 _ R2.out (by omega) HP.out.2).mono ?_
        rintro e w3 ⟨rfl, hl⟩
        simp only []
        have R3 := Lib.hid hl.rd
        have H3 := Lib.hid (H2.out.read hl)
        clear hl
        obtain ⟨⟨g7, g8, g9, g10, g11, g12⟩, ⟨z7, z8, z9, z10, z11, z12⟩⟩ := hdSets H3.out.hd
        go_wp2_with fail
        clear g7 g8 g9 g10 g11 g12 z7 z8 z9 z10 z11 z12
        obtain ⟨hd4, hh4⟩ : ∃ x : Hd, x = (Hd.mk (Hd.mk h.fl h.flags n0 h.code h.size).fl (Hd.mk h.fl h.flags n0 h.code h.size).flags (Hd.mk h.fl h.flags n0 h.code h.size).kind (byt d 1) (Hd.mk h.fl h.flags n0 h.code h.size).size) := ⟨_, rfl⟩
        obtain ⟨w4, hw4⟩ : ∃ x, x = (World.setCell (World.setCell w3 ⟨H, 10, none⟩ (.int .u8 n0)) ⟨H, 11, none⟩ (.int .u8 (byt d 1))) := ⟨_, rfl⟩
        have H4 : Hid (PS P b H #[.bool true, .int .u64 h1, .int .u64 l1, .bool v2, .int .u64 h2, .int .u64 l2, .int .u8 pr, .int .u8 tt, .string d] (Lf d 2) 0 hd4 w w4) := by rw [hw4, hh4]; exact Lib.hid ((H3.out.set (h' := (Hd.mk h.fl h.flags n0 h.code h.size)) rfl).set (h' := (Hd.mk (Hd.mk h.fl h.flags n0 h.code h.size).fl (Hd.mk h.fl h.flags n0 h.code h.size).flags (Hd.mk h.fl h.flags n0 h.code h.size).kind (byt d 1) (Hd.mk h.fl h.flags n0 h.code h.size).size)) rfl)
        rw [← hw4]
        have R4 := Lib.hid H4.out.rd
        have HH4 := Lib.hid hh4
        clear hw4 hh4
        refine (u16_at d b 2 _ R4.out (by omega) HP.out.2).mono ?_
        rintro e w5 ⟨rfl, hl⟩
        simp only []
        have R5 := Lib.hid hl.rd
        have H5 := Lib.hid (H4.out.read hl)
        clear hl
        go_wp2_with fail
        refine (u16_at d b 4 _ R5.out (by omega) HP.out.2).mono ?_
        rintro e w6 ⟨rfl, hl⟩
        simp only []
        have R6 := Lib.hid hl.rd
        have H6 := Lib.hid (H5.out.read hl)
        clear hl
        rw [← HY.out.2]
        go_wp2_with fail
        refine (u16_at d b 6 _ R6.out (by omega) HP.out.2).mono ?_
        rintro e w7 ⟨rfl, hl⟩
        simp only []
        have R7 := Lib.hid hl.rd
        have H7 := Lib.hid (H6.out.read hl)
        clear hl
        go_wp2_with fail
        refine (left_any b _ _ _ H7.out.rd).mono ?_
        rintro e w9 ⟨rfl, rfl⟩
        simp only []
        rw [show ((Lf d 8).size : Int) = (d.size : Int) - 8 by rw [Lf_size]; omega]
        obtain ⟨⟨g7, g8, g9, g10, g11, g12⟩, ⟨z7, z8, z9, z10, z11, z12⟩⟩ := hdSets H7.out.hd
        obtain ⟨k0, k1, k2, k3, k4, k5, k6, k7, k8⟩ := pkCells H7.out.pk
        clear k1 k2 k3 k4 k5 k7 k8
        go_wp2_with fail
        clear k0 k6
        clear g7 g8 g9 g10 g11 g12 z7 z8 z9 z10 z11 z12
        obtain ⟨hd8, hh8⟩ : ∃ x : Hd, x = (Hd.mk hd4.fl hd4.flags hd4.kind hd4.code ((d.size : Int) - 8)) := ⟨_, rfl⟩
        obtain ⟨w8, hw8⟩ : ∃ x, x = (World.setCell w7 ⟨H, 12, none⟩ (.int .i64 ((d.size : Int) - 8))) := ⟨_, rfl⟩
        have H8 : Hid (PS P b H #[.bool true, .int .u64 h1, .int .u64 l1, .bool v2, .int .u64 h2, .int .u64 l2, .int .u8 pr, .int .u8 tt, .string d] (Lf d 8) 0 hd8 w w8) := by rw [hw8, hh8]; exact Lib.hid (H7.out.set (h' := (Hd.mk hd4.fl hd4.flags hd4.kind hd4.code ((d.size : Int) - 8))) rfl)
        rw [← hw8]
        have R8 := Lib.hid H8.out.rd
        have HH8 := Lib.hid hh8
        clear hw8 hh8
        go_ret
        exact ⟨hd8, by rw [HE.out]; rfl, H8.out.hd, H8.out.only, fun q => by rw [HE.out] at q; exact absurd q (by decide)⟩

end Go.Proofs.Ytgonakpoflacoaa
