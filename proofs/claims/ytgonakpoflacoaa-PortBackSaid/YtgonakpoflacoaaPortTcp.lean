/-
  A packet of TCP told.
-/
import Derived.Test.YtgonakpoflacoaaPortUdp
set_option linter.unusedVariables false
set_option linter.unusedSimpArgs false
namespace Go.Proofs.Ytgonakpoflacoaa
open Go.RowKit

set_option maxHeartbeats 8000000 in
set_option maxRecDepth 100000 in
theorem portTcp_any (p : Pk) (H : Nat) (h : Hd) (w : World) (hok : p.Ok) (hd : p.data.size ≤ 10000) (hH : w.heap[H]? = some (.cells h.cells 41)) :
    Calls Try.prog 28 #[p.val, .pointer (some ⟨H, 0, none⟩)] w (HdPost H w (tcpE p) (tcpG p h)) := by
  obtain ⟨⟨v1, h1, l1⟩, ⟨v2, h2, l2⟩, pr, tt, d⟩ := p
  obtain ⟨p, hp⟩ : ∃ p : Pk, p = ⟨⟨v1, h1, l1⟩, ⟨v2, h2, l2⟩, pr, tt, d⟩ := ⟨_, rfl⟩
  have hpv : p.val = .agg #[.bool v1, .int .u64 h1, .int .u64 l1, .bool v2, .int .u64 h2, .int .u64 l2, .int .u8 pr, .int .u8 tt, .string d] := by rw [hp]; rfl
  rw [← hp] at hok hd ⊢
  have hd' : d.size ≤ 10000 := by have := hd; rw [hp] at this; exact this
  have C2 : ∀ u, Calls Try.prog 33 #[.agg #[.bool v1, .int .u64 h1, .int .u64 l1, .bool v2, .int .u64 h2, .int .u64 l2, .int .u8 pr, .int .u8 tt, .string d]] u fun e w' => e = .returned (.int .u16 (sumP p)) ∧ Below u.heap.size u w' := fun u => by rw [← hpv]; exact sum_any p u hok hd
  have HC := Lib.hid C2
  have HP := Lib.hid (And.intro hp hd')
  have hz : (d.size : Int) ≤ 10000 := by omega
  obtain ⟨P, b, hP, HC0⟩ := new_ps #[.bool v1, .int .u64 h1, .int .u64 l1, .bool v2, .int .u64 h2, .int .u64 l2, .int .u8 pr, .int .u8 tt, .string d] d h H w hH
  have HN := Lib.hid HC0
  rw [hpv]
  clear hok hd hpv C2 HC0 hH hp
  by_cases hs8 : d.size < 20
  · have HE := Lib.hid (show tcpE p = 7 by unfold tcpE; rw [HP.out.1, if_pos (by exact hs8)])
    go_enter Try.func28, Try.ntmps28
    go_wp2_with fail
    refine HN.out.mono ?_
    rintro e w1 ⟨rfl, h1w⟩
    rw [← hP]
    simp only []
    have H1 := Lib.hid h1w
    clear h1w hP
    have S1 := Lib.hid (show Short d 0 20 from ⟨HP.out.2, Or.inr ⟨rfl, by omega⟩⟩)
    go_wp2_with fail
    refine (u16_sh b 18 _ _ _ H1.out.rd S1.out).mono ?_
    rintro e w2 ⟨x1, s2, f2, rfl, hx1, hl, hs⟩
    simp only []
    have H2 := Lib.hid (H1.out.read hl)
    have S2 := Lib.hid hs
    clear hl hs hx1
    go_wp2_with fail
    refine (u16_sh b 16 _ _ _ H2.out.rd S2.out).mono ?_
    rintro e w3 ⟨x2, s3, f3, rfl, hx2, hl, hs⟩
    simp only []
    have H3 := Lib.hid (H2.out.read hl)
    have S3 := Lib.hid hs
    clear hl hs hx2
    obtain ⟨⟨g7, g8, g9, g10, g11, g12⟩, ⟨z7, z8, z9, z10, z11, z12⟩⟩ := hdSets H3.out.hd
    go_wp2_with fail
    clear g7 g8 g9 g10 g11 g12 z7 z8 z9 z10 z11 z12
    obtain ⟨hd4, hh4⟩ : ∃ x : Hd, x = (Hd.mk (Fl.mk (Hd.mk (Fl.mk h.fl.proto h.fl.src h.fl.dst x1 h.fl.tp) h.flags h.kind h.code h.size).fl.proto (Hd.mk (Fl.mk h.fl.proto h.fl.src h.fl.dst x1 h.fl.tp) h.flags h.kind h.code h.size).fl.src (Hd.mk (Fl.mk h.fl.proto h.fl.src h.fl.dst x1 h.fl.tp) h.flags h.kind h.code h.size).fl.dst (Hd.mk (Fl.mk h.fl.proto h.fl.src h.fl.dst x1 h.fl.tp) h.flags h.kind h.code h.size).fl.fp x2) (Hd.mk (Fl.mk h.fl.proto h.fl.src h.fl.dst x1 h.fl.tp) h.flags h.kind h.code h.size).flags (Hd.mk (Fl.mk h.fl.proto h.fl.src h.fl.dst x1 h.fl.tp) h.flags h.kind h.code h.size).kind (Hd.mk (Fl.mk h.fl.proto h.fl.src h.fl.dst x1 h.fl.tp) h.flags h.kind h.code h.size).code (Hd.mk (Fl.mk h.fl.proto h.fl.src h.fl.dst x1 h.fl.tp) h.flags h.kind h.code h.size).size) := ⟨_, rfl⟩
    obtain ⟨w4, hw4⟩ : ∃ x, x = (World.setCell (World.setCell w3 ⟨H, 7, none⟩ (.int .u16 x1)) ⟨H, 8, none⟩ (.int .u16 x2)) := ⟨_, rfl⟩
    have H4 : Hid (PS P b H #[.bool v1, .int .u64 h1, .int .u64 l1, .bool v2, .int .u64 h2, .int .u64 l2, .int .u8 pr, .int .u8 tt, .string d] s3 f3 hd4 w w4) := by rw [hw4, hh4]; exact Lib.hid ((H3.out.set (h' := (Hd.mk (Fl.mk h.fl.proto h.fl.src h.fl.dst x1 h.fl.tp) h.flags h.kind h.code h.size)) rfl).set (h' := (Hd.mk (Fl.mk (Hd.mk (Fl.mk h.fl.proto h.fl.src h.fl.dst x1 h.fl.tp) h.flags h.kind h.code h.size).fl.proto (Hd.mk (Fl.mk h.fl.proto h.fl.src h.fl.dst x1 h.fl.tp) h.flags h.kind h.code h.size).fl.src (Hd.mk (Fl.mk h.fl.proto h.fl.src h.fl.dst x1 h.fl.tp) h.flags h.kind h.code h.size).fl.dst (Hd.mk (Fl.mk h.fl.proto h.fl.src h.fl.dst x1 h.fl.tp) h.flags h.kind h.code h.size).fl.fp x2) (Hd.mk (Fl.mk h.fl.proto h.fl.src h.fl.dst x1 h.fl.tp) h.flags h.kind h.code h.size).flags (Hd.mk (Fl.mk h.fl.proto h.fl.src h.fl.dst x1 h.fl.tp) h.flags h.kind h.code h.size).kind (Hd.mk (Fl.mk h.fl.proto h.fl.src h.fl.dst x1 h.fl.tp) h.flags h.kind h.code h.size).code (Hd.mk (Fl.mk h.fl.proto h.fl.src h.fl.dst x1 h.fl.tp) h.flags h.kind h.code h.size).size)) rfl)
    rw [← hw4]
    have S4 := S3
    have HH4 := Lib.hid hh4
    clear hw4 hh4
    refine (u64_sh b 8 _ _ _ H4.out.rd S4.out).mono ?_
    rintro e w5 ⟨x3, s5, f5, rfl, hx3, hl, hs⟩
    simp only []
    have H5 := Lib.hid (H4.out.read hl)
    have S5 := Lib.hid hs
    clear hl hs hx3
    go_wp2_with fail
    refine (u8_sh b 7 _ _ _ H5.out.rd S5.out).mono ?_
    rintro e w6 ⟨x4, s6, f6, rfl, hx4, hl, hs⟩
    simp only []
    have H6 := Lib.hid (H5.out.read hl)
    have S6 := Lib.hid hs
    clear hl hs
    have HXB := Lib.hid (show x4 < 256 from hx4)
    obtain ⟨q, hq⟩ : ∃ x, x = x4 / 16 := ⟨_, rfl⟩
    obtain ⟨hn, hhn⟩ : ∃ x, x = 4 * q := ⟨_, rfl⟩
    have e1 : (x4 : Int) / 16 = q := by omega
    have e2 : 4 * (q : Int) = hn := by omega
    have e3 : (hn : Int) ≤ 60 := by have := HXB.out; omega
    have e4 : (q : Int) ≤ 15 := by have := HXB.out; omega
    have e5 : IntKind.i64.wrap (q : Int) = q := IntWalk.i64_in _ (by omega)
    have e6 : IntKind.i64.wrap (hn : Int) = hn := IntWalk.i64_in _ (by omega)
    have e7 : IntKind.i64.wrap ((d.size : Int) - hn) = (d.size : Int) - hn := IntWalk.i64_in _ (by omega)
    have HQ := Lib.hid (And.intro hq hhn)
    clear hq hhn
    clear hx4
    go_wp2_with fail
    refine (u8_sh b 6 _ _ _ H6.out.rd S6.out).mono ?_
    rintro e w7 ⟨x5, s7, f7, rfl, hx5, hl, hs⟩
    simp only []
    have H7 := Lib.hid (H6.out.read hl)
    have S7 := Lib.hid hs
    clear hl hs hx5
    obtain ⟨⟨g7, g8, g9, g10, g11, g12⟩, ⟨z7, z8, z9, z10, z11, z12⟩⟩ := hdSets H7.out.hd
    go_wp2_with fail
    clear g7 g8 g9 g10 g11 g12 z7 z8 z9 z10 z11 z12
    obtain ⟨hd8, hh8⟩ : ∃ x : Hd, x = (Hd.mk hd4.fl x5 hd4.kind hd4.code hd4.size) := ⟨_, rfl⟩
    obtain ⟨w8, hw8⟩ : ∃ x, x = (World.setCell w7 ⟨H, 9, none⟩ (.int .u8 x5)) := ⟨_, rfl⟩
    have H8 : Hid (PS P b H #[.bool v1, .int .u64 h1, .int .u64 l1, .bool v2, .int .u64 h2, .int .u64 l2, .int .u8 pr, .int .u8 tt, .string d] s7 f7 hd8 w w8) := by rw [hw8, hh8]; exact Lib.hid (H7.out.set (h' := (Hd.mk hd4.fl x5 hd4.kind hd4.code hd4.size)) rfl)
    rw [← hw8]
    have S8 := S7
    have HH8 := Lib.hid hh8
    clear hw8 hh8
    refine (take6_sh b 0 _ _ _ H8.out.rd S8.out).mono ?_
    rintro e w9 ⟨x6, s9, f9, rfl, hx6, hl, hs⟩
    simp only []
    have H9 := Lib.hid (H8.out.read hl)
    have S9 := Lib.hid hs
    clear hl hs hx6
    obtain ⟨⟨g7, g8, g9, g10, g11, g12⟩, ⟨z7, z8, z9, z10, z11, z12⟩⟩ := hdSets H9.out.hd
    obtain ⟨k0, k1, k2, k3, k4, k5, k6, k7, k8⟩ := pkCells H9.out.pk
    clear k0 k1 k2 k3 k4 k5 k6 k7
    go_wp2_with fail
    clear k8
    clear g7 g8 g9 g10 g11 g12 z7 z8 z9 z10 z11 z12
    obtain ⟨hd10, hh10⟩ : ∃ x : Hd, x = (Hd.mk hd8.fl hd8.flags hd8.kind hd8.code ((d.size : Int) - (hn : Int))) := ⟨_, rfl⟩
    obtain ⟨w10, hw10⟩ : ∃ x, x = (World.setCell w9 ⟨H, 12, none⟩ (.int .i64 ((d.size : Int) - (hn : Int)))) := ⟨_, rfl⟩
    have H10 : Hid (PS P b H #[.bool v1, .int .u64 h1, .int .u64 l1, .bool v2, .int .u64 h2, .int .u64 l2, .int .u8 pr, .int .u8 tt, .string d] s9 f9 hd10 w w10) := by rw [hw10, hh10]; exact Lib.hid (H9.out.set (h' := (Hd.mk hd8.fl hd8.flags hd8.kind hd8.code ((d.size : Int) - (hn : Int)))) rfl)
    rw [← hw10]
    have S10 := S9
    have HH10 := Lib.hid hh10
    clear hw10 hh10
    refine (fault_any b _ _ _ H10.out.rd).mono ?_
    rintro e w9 ⟨rfl, rfl⟩
    rw [S10.out.fault]
    simp only []
    go_wp2_with fail
    go_ret
    exact ⟨hd10, by rw [HE.out]; rfl, H10.out.hd, H10.out.only, fun q => by rw [HE.out] at q; exact absurd q (by decide)⟩
  · have L8 : 20 ≤ d.size := by omega
    obtain ⟨n12, hn12⟩ : ∃ x, x = byt d 12 := ⟨_, rfl⟩
    obtain ⟨n13, hn13⟩ : ∃ x, x = byt d 13 := ⟨_, rfl⟩
    obtain ⟨S, hS⟩ : ∃ x, x = sumP p := ⟨_, rfl⟩
    have HY := Lib.hid (And.intro hn12 hn13)
    have HXB := Lib.hid (show n12 < 256 from (by rw [hn12]; exact byt_lt _ _))
    obtain ⟨q, hq⟩ : ∃ x, x = n12 / 16 := ⟨_, rfl⟩
    obtain ⟨hn, hhn⟩ : ∃ x, x = 4 * q := ⟨_, rfl⟩
    have e1 : (n12 : Int) / 16 = q := by omega
    have e2 : 4 * (q : Int) = hn := by omega
    have e3 : (hn : Int) ≤ 60 := by have := HXB.out; omega
    have e4 : (q : Int) ≤ 15 := by have := HXB.out; omega
    have e5 : IntKind.i64.wrap (q : Int) = q := IntWalk.i64_in _ (by omega)
    have e6 : IntKind.i64.wrap (hn : Int) = hn := IntWalk.i64_in _ (by omega)
    have e7 : IntKind.i64.wrap ((d.size : Int) - hn) = (d.size : Int) - hn := IntWalk.i64_in _ (by omega)
    have HQ := Lib.hid (And.intro hq hhn)
    clear hq hhn
    have HG := Lib.hid (show hdl p = hn by unfold hdl; rw [HP.out.1]; show 4 * (byt d 12 / 16) = hn; rw [← hn12, HQ.out.2, HQ.out.1])
    have HE0 := Lib.hid (show tcpE p = if hn < 20 ∨ d.size < hn then 8 else if S ≠ 0 then 131 else 0 by unfold tcpE; rw [HG.out, hS, HP.out.1, if_neg hs8])
    rw [← hS] at HC
    have HS := Lib.hid hS
    clear hn12 hn13 hS
    by_cases qA : hn < 20
    · have HE := Lib.hid (show tcpE p = 8 by rw [HE0.out, if_pos (Or.inl qA)])
      have cA : (hn : Int) < 20 := by omega
      clear HE0 qA hs8
      go_enter Try.func28, Try.ntmps28
      go_wp2_with fail
      refine HN.out.mono ?_
      rintro e w1 ⟨rfl, h1w⟩
      rw [← hP]
      simp only []
      have H1 := Lib.hid h1w
      clear h1w hP
      have R1 := Lib.hid (show Rd w1 b 72 (Lf d 0) 0 by rw [Lf_zero]; exact H1.out.rd)
      go_wp2_with fail
      refine (u16_at d b 0 _ R1.out (by omega) HP.out.2).mono ?_
      rintro e w2 ⟨rfl, hl⟩
      simp only []
      have R2 := Lib.hid hl.rd
      have H2 := Lib.hid (H1.out.read hl)
      clear hl
      go_wp2_with fail
      refine (u16_at d b 2 _ R2.out (by omega) HP.out.2).mono ?_
      rintro e w3 ⟨rfl, hl⟩
      simp only []
      have R3 := Lib.hid hl.rd
      have H3 := Lib.hid (H2.out.read hl)
      clear hl
      obtain ⟨⟨g7, g8, g9, g10, g11, g12⟩, ⟨z7, z8, z9, z10, z11, z12⟩⟩ := hdSets H3.out.hd
      go_wp2_with fail
      clear g7 g8 g9 g10 g11 g12 z7 z8 z9 z10 z11 z12
      obtain ⟨hd4, hh4⟩ : ∃ x : Hd, x = (Hd.mk (Fl.mk (Hd.mk (Fl.mk h.fl.proto h.fl.src h.fl.dst (n2 d 0) h.fl.tp) h.flags h.kind h.code h.size).fl.proto (Hd.mk (Fl.mk h.fl.proto h.fl.src h.fl.dst (n2 d 0) h.fl.tp) h.flags h.kind h.code h.size).fl.src (Hd.mk (Fl.mk h.fl.proto h.fl.src h.fl.dst (n2 d 0) h.fl.tp) h.flags h.kind h.code h.size).fl.dst (Hd.mk (Fl.mk h.fl.proto h.fl.src h.fl.dst (n2 d 0) h.fl.tp) h.flags h.kind h.code h.size).fl.fp (n2 d 2)) (Hd.mk (Fl.mk h.fl.proto h.fl.src h.fl.dst (n2 d 0) h.fl.tp) h.flags h.kind h.code h.size).flags (Hd.mk (Fl.mk h.fl.proto h.fl.src h.fl.dst (n2 d 0) h.fl.tp) h.flags h.kind h.code h.size).kind (Hd.mk (Fl.mk h.fl.proto h.fl.src h.fl.dst (n2 d 0) h.fl.tp) h.flags h.kind h.code h.size).code (Hd.mk (Fl.mk h.fl.proto h.fl.src h.fl.dst (n2 d 0) h.fl.tp) h.flags h.kind h.code h.size).size) := ⟨_, rfl⟩
      obtain ⟨w4, hw4⟩ : ∃ x, x = (World.setCell (World.setCell w3 ⟨H, 7, none⟩ (.int .u16 (n2 d 0))) ⟨H, 8, none⟩ (.int .u16 (n2 d 2))) := ⟨_, rfl⟩
      have H4 : Hid (PS P b H #[.bool v1, .int .u64 h1, .int .u64 l1, .bool v2, .int .u64 h2, .int .u64 l2, .int .u8 pr, .int .u8 tt, .string d] (Lf d 4) 0 hd4 w w4) := by rw [hw4, hh4]; exact Lib.hid ((H3.out.set (h' := (Hd.mk (Fl.mk h.fl.proto h.fl.src h.fl.dst (n2 d 0) h.fl.tp) h.flags h.kind h.code h.size)) rfl).set (h' := (Hd.mk (Fl.mk (Hd.mk (Fl.mk h.fl.proto h.fl.src h.fl.dst (n2 d 0) h.fl.tp) h.flags h.kind h.code h.size).fl.proto (Hd.mk (Fl.mk h.fl.proto h.fl.src h.fl.dst (n2 d 0) h.fl.tp) h.flags h.kind h.code h.size).fl.src (Hd.mk (Fl.mk h.fl.proto h.fl.src h.fl.dst (n2 d 0) h.fl.tp) h.flags h.kind h.code h.size).fl.dst (Hd.mk (Fl.mk h.fl.proto h.fl.src h.fl.dst (n2 d 0) h.fl.tp) h.flags h.kind h.code h.size).fl.fp (n2 d 2)) (Hd.mk (Fl.mk h.fl.proto h.fl.src h.fl.dst (n2 d 0) h.fl.tp) h.flags h.kind h.code h.size).flags (Hd.mk (Fl.mk h.fl.proto h.fl.src h.fl.dst (n2 d 0) h.fl.tp) h.flags h.kind h.code h.size).kind (Hd.mk (Fl.mk h.fl.proto h.fl.src h.fl.dst (n2 d 0) h.fl.tp) h.flags h.kind h.code h.size).code (Hd.mk (Fl.mk h.fl.proto h.fl.src h.fl.dst (n2 d 0) h.fl.tp) h.flags h.kind h.code h.size).size)) rfl)
      rw [← hw4]
      have R4 := Lib.hid H4.out.rd
      have HH4 := Lib.hid hh4
      clear hw4 hh4
      refine (u64_at d b 4 _ R4.out (by omega) HP.out.2).mono ?_
      rintro e w5 ⟨⟨x3, rfl⟩, hl⟩
      simp only []
      have R5 := Lib.hid hl.rd
      have H5 := Lib.hid (H4.out.read hl)
      clear hl
      go_wp2_with fail
      refine (u8_at d b 12 _ R5.out (by omega) HP.out.2).mono ?_
      rintro e w6 ⟨rfl, hl⟩
      simp only []
      have R6 := Lib.hid hl.rd
      have H6 := Lib.hid (H5.out.read hl)
      clear hl
      rw [← HY.out.1]
      go_wp2_with fail
      refine (u8_at d b 13 _ R6.out (by omega) HP.out.2).mono ?_
      rintro e w7 ⟨rfl, hl⟩
      simp only []
      have R7 := Lib.hid hl.rd
      have H7 := Lib.hid (H6.out.read hl)
      clear hl
      rw [← HY.out.2]
      obtain ⟨⟨g7, g8, g9, g10, g11, g12⟩, ⟨z7, z8, z9, z10, z11, z12⟩⟩ := hdSets H7.out.hd
      go_wp2_with fail
      clear g7 g8 g9 g10 g11 g12 z7 z8 z9 z10 z11 z12
      obtain ⟨hd8, hh8⟩ : ∃ x : Hd, x = (Hd.mk hd4.fl n13 hd4.kind hd4.code hd4.size) := ⟨_, rfl⟩
      obtain ⟨w8, hw8⟩ : ∃ x, x = (World.setCell w7 ⟨H, 9, none⟩ (.int .u8 n13)) := ⟨_, rfl⟩
      have H8 : Hid (PS P b H #[.bool v1, .int .u64 h1, .int .u64 l1, .bool v2, .int .u64 h2, .int .u64 l2, .int .u8 pr, .int .u8 tt, .string d] (Lf d 14) 0 hd8 w w8) := by rw [hw8, hh8]; exact Lib.hid (H7.out.set (h' := (Hd.mk hd4.fl n13 hd4.kind hd4.code hd4.size)) rfl)
      rw [← hw8]
      have R8 := Lib.hid H8.out.rd
      have HH8 := Lib.hid hh8
      clear hw8 hh8
      refine (take6_at d b 14 _ R8.out (by omega) HP.out.2).mono ?_
      rintro e w9 ⟨⟨x6, rfl⟩, hl⟩
      simp only []
      have R9 := Lib.hid hl.rd
      have H9 := Lib.hid (H8.out.read hl)
      clear hl
      obtain ⟨⟨g7, g8, g9, g10, g11, g12⟩, ⟨z7, z8, z9, z10, z11, z12⟩⟩ := hdSets H9.out.hd
      obtain ⟨k0, k1, k2, k3, k4, k5, k6, k7, k8⟩ := pkCells H9.out.pk
      clear k0 k1 k2 k3 k4 k5 k6 k7
      go_wp2_with fail
      clear k8
      clear g7 g8 g9 g10 g11 g12 z7 z8 z9 z10 z11 z12
      obtain ⟨hd10, hh10⟩ : ∃ x : Hd, x = (Hd.mk hd8.fl hd8.flags hd8.kind hd8.code ((d.size : Int) - (hn : Int))) := ⟨_, rfl⟩
      obtain ⟨w10, hw10⟩ : ∃ x, x = (World.setCell w9 ⟨H, 12, none⟩ (.int .i64 ((d.size : Int) - (hn : Int)))) := ⟨_, rfl⟩
      have H10 : Hid (PS P b H #[.bool v1, .int .u64 h1, .int .u64 l1, .bool v2, .int .u64 h2, .int .u64 l2, .int .u8 pr, .int .u8 tt, .string d] (Lf d 20) 0 hd10 w w10) := by rw [hw10, hh10]; exact Lib.hid (H9.out.set (h' := (Hd.mk hd8.fl hd8.flags hd8.kind hd8.code ((d.size : Int) - (hn : Int)))) rfl)
      rw [← hw10]
      have R10 := Lib.hid H10.out.rd
      have HH10 := Lib.hid hh10
      clear hw10 hh10
      refine (fault_any b _ _ _ H10.out.rd).mono ?_
      rintro e w9 ⟨rfl, rfl⟩
      simp only []
      obtain ⟨k0, k1, k2, k3, k4, k5, k6, k7, k8⟩ := pkCells H10.out.pk
      go_wp2_with fail
      go_ret
      exact ⟨hd10, by rw [HE.out]; rfl, H10.out.hd, H10.out.only, fun q => by rw [HE.out] at q; exact absurd q (by decide)⟩
    · have cA : ¬ (hn : Int) < 20 := by omega
      by_cases qB : d.size < hn
      · have HE := Lib.hid (show tcpE p = 8 by rw [HE0.out, if_pos (Or.inr qB)])
        have cB : (d.size : Int) - hn < 0 := by omega
        clear HE0 qA qB hs8
        go_enter Try.func28, Try.ntmps28
        go_wp2_with fail
        refine HN.out.mono ?_
        rintro e w1 ⟨rfl, h1w⟩
        rw [← hP]
        simp only []
        have H1 := Lib.hid h1w
        clear h1w hP
        have R1 := Lib.hid (show Rd w1 b 72 (Lf d 0) 0 by rw [Lf_zero]; exact H1.out.rd)
        go_wp2_with fail
        refine (u16_at d b 0 _ R1.out (by omega) HP.out.2).mono ?_
        rintro e w2 ⟨rfl, hl⟩
        simp only []
        have R2 := Lib.hid hl.rd
        have H2 := Lib.hid (H1.out.read hl)
        clear hl
        go_wp2_with fail
        refine (u16_at d b 2 _ R2.out (by omega) HP.out.2).mono ?_
        rintro e w3 ⟨rfl, hl⟩
        simp only []
        have R3 := Lib.hid hl.rd
        have H3 := Lib.hid (H2.out.read hl)
        clear hl
        obtain ⟨⟨g7, g8, g9, g10, g11, g12⟩, ⟨z7, z8, z9, z10, z11, z12⟩⟩ := hdSets H3.out.hd
        go_wp2_with fail
        clear g7 g8 g9 g10 g11 g12 z7 z8 z9 z10 z11 z12
        obtain ⟨hd4, hh4⟩ : ∃ x : Hd, x = (Hd.mk (Fl.mk (Hd.mk (Fl.mk h.fl.proto h.fl.src h.fl.dst (n2 d 0) h.fl.tp) h.flags h.kind h.code h.size).fl.proto (Hd.mk (Fl.mk h.fl.proto h.fl.src h.fl.dst (n2 d 0) h.fl.tp) h.flags h.kind h.code h.size).fl.src (Hd.mk (Fl.mk h.fl.proto h.fl.src h.fl.dst (n2 d 0) h.fl.tp) h.flags h.kind h.code h.size).fl.dst (Hd.mk (Fl.mk h.fl.proto h.fl.src h.fl.dst (n2 d 0) h.fl.tp) h.flags h.kind h.code h.size).fl.fp (n2 d 2)) (Hd.mk (Fl.mk h.fl.proto h.fl.src h.fl.dst (n2 d 0) h.fl.tp) h.flags h.kind h.code h.size).flags (Hd.mk (Fl.mk h.fl.proto h.fl.src h.fl.dst (n2 d 0) h.fl.tp) h.flags h.kind h.code h.size).kind (Hd.mk (Fl.mk h.fl.proto h.fl.src h.fl.dst (n2 d 0) h.fl.tp) h.flags h.kind h.code h.size).code (Hd.mk (Fl.mk h.fl.proto h.fl.src h.fl.dst (n2 d 0) h.fl.tp) h.flags h.kind h.code h.size).size) := ⟨_, rfl⟩
        obtain ⟨w4, hw4⟩ : ∃ x, x = (World.setCell (World.setCell w3 ⟨H, 7, none⟩ (.int .u16 (n2 d 0))) ⟨H, 8, none⟩ (.int .u16 (n2 d 2))) := ⟨_, rfl⟩
        have H4 : Hid (PS P b H #[.bool v1, .int .u64 h1, .int .u64 l1, .bool v2, .int .u64 h2, .int .u64 l2, .int .u8 pr, .int .u8 tt, .string d] (Lf d 4) 0 hd4 w w4) := by rw [hw4, hh4]; exact Lib.hid ((H3.out.set (h' := (Hd.mk (Fl.mk h.fl.proto h.fl.src h.fl.dst (n2 d 0) h.fl.tp) h.flags h.kind h.code h.size)) rfl).set (h' := (Hd.mk (Fl.mk (Hd.mk (Fl.mk h.fl.proto h.fl.src h.fl.dst (n2 d 0) h.fl.tp) h.flags h.kind h.code h.size).fl.proto (Hd.mk (Fl.mk h.fl.proto h.fl.src h.fl.dst (n2 d 0) h.fl.tp) h.flags h.kind h.code h.size).fl.src (Hd.mk (Fl.mk h.fl.proto h.fl.src h.fl.dst (n2 d 0) h.fl.tp) h.flags h.kind h.code h.size).fl.dst (Hd.mk (Fl.mk h.fl.proto h.fl.src h.fl.dst (n2 d 0) h.fl.tp) h.flags h.kind h.code h.size).fl.fp (n2 d 2)) (Hd.mk (Fl.mk h.fl.proto h.fl.src h.fl.dst (n2 d 0) h.fl.tp) h.flags h.kind h.code h.size).flags (Hd.mk (Fl.mk h.fl.proto h.fl.src h.fl.dst (n2 d 0) h.fl.tp) h.flags h.kind h.code h.size).kind (Hd.mk (Fl.mk h.fl.proto h.fl.src h.fl.dst (n2 d 0) h.fl.tp) h.flags h.kind h.code h.size).code (Hd.mk (Fl.mk h.fl.proto h.fl.src h.fl.dst (n2 d 0) h.fl.tp) h.flags h.kind h.code h.size).size)) rfl)
        rw [← hw4]
        have R4 := Lib.hid H4.out.rd
        have HH4 := Lib.hid hh4
        clear hw4 hh4
        refine (u64_at d b 4 _ R4.out (by omega) HP.out.2).mono ?_
        rintro e w5 ⟨⟨x3, rfl⟩, hl⟩
        simp only []
        have R5 := Lib.hid hl.rd
        have H5 := Lib.hid (H4.out.read hl)
        clear hl
        go_wp2_with fail
        refine (u8_at d b 12 _ R5.out (by omega) HP.out.2).mono ?_
        rintro e w6 ⟨rfl, hl⟩
        simp only []
        have R6 := Lib.hid hl.rd
        have H6 := Lib.hid (H5.out.read hl)
        clear hl
        rw [← HY.out.1]
        go_wp2_with fail
        refine (u8_at d b 13 _ R6.out (by omega) HP.out.2).mono ?_
        rintro e w7 ⟨rfl, hl⟩
        simp only []
        have R7 := Lib.hid hl.rd
        have H7 := Lib.hid (H6.out.read hl)
        clear hl
        rw [← HY.out.2]
        obtain ⟨⟨g7, g8, g9, g10, g11, g12⟩, ⟨z7, z8, z9, z10, z11, z12⟩⟩ := hdSets H7.out.hd
        go_wp2_with fail
        clear g7 g8 g9 g10 g11 g12 z7 z8 z9 z10 z11 z12
        obtain ⟨hd8, hh8⟩ : ∃ x : Hd, x = (Hd.mk hd4.fl n13 hd4.kind hd4.code hd4.size) := ⟨_, rfl⟩
        obtain ⟨w8, hw8⟩ : ∃ x, x = (World.setCell w7 ⟨H, 9, none⟩ (.int .u8 n13)) := ⟨_, rfl⟩
        have H8 : Hid (PS P b H #[.bool v1, .int .u64 h1, .int .u64 l1, .bool v2, .int .u64 h2, .int .u64 l2, .int .u8 pr, .int .u8 tt, .string d] (Lf d 14) 0 hd8 w w8) := by rw [hw8, hh8]; exact Lib.hid (H7.out.set (h' := (Hd.mk hd4.fl n13 hd4.kind hd4.code hd4.size)) rfl)
        rw [← hw8]
        have R8 := Lib.hid H8.out.rd
        have HH8 := Lib.hid hh8
        clear hw8 hh8
        refine (take6_at d b 14 _ R8.out (by omega) HP.out.2).mono ?_
        rintro e w9 ⟨⟨x6, rfl⟩, hl⟩
        simp only []
        have R9 := Lib.hid hl.rd
        have H9 := Lib.hid (H8.out.read hl)
        clear hl
        obtain ⟨⟨g7, g8, g9, g10, g11, g12⟩, ⟨z7, z8, z9, z10, z11, z12⟩⟩ := hdSets H9.out.hd
        obtain ⟨k0, k1, k2, k3, k4, k5, k6, k7, k8⟩ := pkCells H9.out.pk
        clear k0 k1 k2 k3 k4 k5 k6 k7
        go_wp2_with fail
        clear k8
        clear g7 g8 g9 g10 g11 g12 z7 z8 z9 z10 z11 z12
        obtain ⟨hd10, hh10⟩ : ∃ x : Hd, x = (Hd.mk hd8.fl hd8.flags hd8.kind hd8.code ((d.size : Int) - (hn : Int))) := ⟨_, rfl⟩
        obtain ⟨w10, hw10⟩ : ∃ x, x = (World.setCell w9 ⟨H, 12, none⟩ (.int .i64 ((d.size : Int) - (hn : Int)))) := ⟨_, rfl⟩
        have H10 : Hid (PS P b H #[.bool v1, .int .u64 h1, .int .u64 l1, .bool v2, .int .u64 h2, .int .u64 l2, .int .u8 pr, .int .u8 tt, .string d] (Lf d 20) 0 hd10 w w10) := by rw [hw10, hh10]; exact Lib.hid (H9.out.set (h' := (Hd.mk hd8.fl hd8.flags hd8.kind hd8.code ((d.size : Int) - (hn : Int)))) rfl)
        rw [← hw10]
        have R10 := Lib.hid H10.out.rd
        have HH10 := Lib.hid hh10
        clear hw10 hh10
        refine (fault_any b _ _ _ H10.out.rd).mono ?_
        rintro e w9 ⟨rfl, rfl⟩
        simp only []
        obtain ⟨k0, k1, k2, k3, k4, k5, k6, k7, k8⟩ := pkCells H10.out.pk
        have j12 : w10.cell? ⟨H, 12, none⟩ = some (.int .i64 ((d.size : Int) - (hn : Int))) := by have := (hdCells H10.out.hd).2.1; rw [HH10.out] at this; exact this
        go_wp2_with fail
        go_ret
        exact ⟨hd10, by rw [HE.out]; rfl, H10.out.hd, H10.out.only, fun q => by rw [HE.out] at q; exact absurd q (by decide)⟩
      · have cB : ¬ (d.size : Int) - hn < 0 := by omega
        by_cases qS : S = 0
        · have HE := Lib.hid (show tcpE p = 0 by rw [HE0.out, if_neg (by omega), if_neg (by simp [qS])])
          have cS : ((S : Int) != 0) = false := by rw [qS]; simp
          clear HE0 qA qB qS hs8
          go_enter Try.func28, Try.ntmps28
          go_wp2_with fail
          refine HN.out.mono ?_
          rintro e w1 ⟨rfl, h1w⟩
          rw [← hP]
          simp only []
          have H1 := Lib.hid h1w
          clear h1w hP
          have R1 := Lib.hid (show Rd w1 b 72 (Lf d 0) 0 by rw [Lf_zero]; exact H1.out.rd)
          go_wp2_with fail
          refine (u16_at d b 0 _ R1.out (by omega) HP.out.2).mono ?_
          rintro e w2 ⟨rfl, hl⟩
          simp only []
          have R2 := Lib.hid hl.rd
          have H2 := Lib.hid (H1.out.read hl)
          clear hl
          go_wp2_with fail
          refine (u16_at d b 2 _ R2.out (by omega) HP.out.2).mono ?_
          rintro e w3 ⟨rfl, hl⟩
          simp only []
          have R3 := Lib.hid hl.rd
          have H3 := Lib.hid (H2.out.read hl)
          clear hl
          obtain ⟨⟨g7, g8, g9, g10, g11, g12⟩, ⟨z7, z8, z9, z10, z11, z12⟩⟩ := hdSets H3.out.hd
          go_wp2_with fail
          clear g7 g8 g9 g10 g11 g12 z7 z8 z9 z10 z11 z12
          obtain ⟨hd4, hh4⟩ : ∃ x : Hd, x = (Hd.mk (Fl.mk (Hd.mk (Fl.mk h.fl.proto h.fl.src h.fl.dst (n2 d 0) h.fl.tp) h.flags h.kind h.code h.size).fl.proto (Hd.mk (Fl.mk h.fl.proto h.fl.src h.fl.dst (n2 d 0) h.fl.tp) h.flags h.kind h.code h.size).fl.src (Hd.mk (Fl.mk h.fl.proto h.fl.src h.fl.dst (n2 d 0) h.fl.tp) h.flags h.kind h.code h.size).fl.dst (Hd.mk (Fl.mk h.fl.proto h.fl.src h.fl.dst (n2 d 0) h.fl.tp) h.flags h.kind h.code h.size).fl.fp (n2 d 2)) (Hd.mk (Fl.mk h.fl.proto h.fl.src h.fl.dst (n2 d 0) h.fl.tp) h.flags h.kind h.code h.size).flags (Hd.mk (Fl.mk h.fl.proto h.fl.src h.fl.dst (n2 d 0) h.fl.tp) h.flags h.kind h.code h.size).kind (Hd.mk (Fl.mk h.fl.proto h.fl.src h.fl.dst (n2 d 0) h.fl.tp) h.flags h.kind h.code h.size).code (Hd.mk (Fl.mk h.fl.proto h.fl.src h.fl.dst (n2 d 0) h.fl.tp) h.flags h.kind h.code h.size).size) := ⟨_, rfl⟩
          obtain ⟨w4, hw4⟩ : ∃ x, x = (World.setCell (World.setCell w3 ⟨H, 7, none⟩ (.int .u16 (n2 d 0))) ⟨H, 8, none⟩ (.int .u16 (n2 d 2))) := ⟨_, rfl⟩
          have H4 : Hid (PS P b H #[.bool v1, .int .u64 h1, .int .u64 l1, .bool v2, .int .u64 h2, .int .u64 l2, .int .u8 pr, .int .u8 tt, .string d] (Lf d 4) 0 hd4 w w4) := by rw [hw4, hh4]; exact Lib.hid ((H3.out.set (h' := (Hd.mk (Fl.mk h.fl.proto h.fl.src h.fl.dst (n2 d 0) h.fl.tp) h.flags h.kind h.code h.size)) rfl).set (h' := (Hd.mk (Fl.mk (Hd.mk (Fl.mk h.fl.proto h.fl.src h.fl.dst (n2 d 0) h.fl.tp) h.flags h.kind h.code h.size).fl.proto (Hd.mk (Fl.mk h.fl.proto h.fl.src h.fl.dst (n2 d 0) h.fl.tp) h.flags h.kind h.code h.size).fl.src (Hd.mk (Fl.mk h.fl.proto h.fl.src h.fl.dst (n2 d 0) h.fl.tp) h.flags h.kind h.code h.size).fl.dst (Hd.mk (Fl.mk h.fl.proto h.fl.src h.fl.dst (n2 d 0) h.fl.tp) h.flags h.kind h.code h.size).fl.fp (n2 d 2)) (Hd.mk (Fl.mk h.fl.proto h.fl.src h.fl.dst (n2 d 0) h.fl.tp) h.flags h.kind h.code h.size).flags (Hd.mk (Fl.mk h.fl.proto h.fl.src h.fl.dst (n2 d 0) h.fl.tp) h.flags h.kind h.code h.size).kind (Hd.mk (Fl.mk h.fl.proto h.fl.src h.fl.dst (n2 d 0) h.fl.tp) h.flags h.kind h.code h.size).code (Hd.mk (Fl.mk h.fl.proto h.fl.src h.fl.dst (n2 d 0) h.fl.tp) h.flags h.kind h.code h.size).size)) rfl)
          rw [← hw4]
          have R4 := Lib.hid H4.out.rd
          have HH4 := Lib.hid hh4
          clear hw4 hh4
          refine (u64_at d b 4 _ R4.out (by omega) HP.out.2).mono ?_
          rintro e w5 ⟨⟨x3, rfl⟩, hl⟩
          simp only []
          have R5 := Lib.hid hl.rd
          have H5 := Lib.hid (H4.out.read hl)
          clear hl
          go_wp2_with fail
          refine (u8_at d b 12 _ R5.out (by omega) HP.out.2).mono ?_
          rintro e w6 ⟨rfl, hl⟩
          simp only []
          have R6 := Lib.hid hl.rd
          have H6 := Lib.hid (H5.out.read hl)
          clear hl
          rw [← HY.out.1]
          go_wp2_with fail
          refine (u8_at d b 13 _ R6.out (by omega) HP.out.2).mono ?_
          rintro e w7 ⟨rfl, hl⟩
          simp only []
          have R7 := Lib.hid hl.rd
          have H7 := Lib.hid (H6.out.read hl)
          clear hl
          rw [← HY.out.2]
          obtain ⟨⟨g7, g8, g9, g10, g11, g12⟩, ⟨z7, z8, z9, z10, z11, z12⟩⟩ := hdSets H7.out.hd
          go_wp2_with fail
          clear g7 g8 g9 g10 g11 g12 z7 z8 z9 z10 z11 z12
          obtain ⟨hd8, hh8⟩ : ∃ x : Hd, x = (Hd.mk hd4.fl n13 hd4.kind hd4.code hd4.size) := ⟨_, rfl⟩
          obtain ⟨w8, hw8⟩ : ∃ x, x = (World.setCell w7 ⟨H, 9, none⟩ (.int .u8 n13)) := ⟨_, rfl⟩
          have H8 : Hid (PS P b H #[.bool v1, .int .u64 h1, .int .u64 l1, .bool v2, .int .u64 h2, .int .u64 l2, .int .u8 pr, .int .u8 tt, .string d] (Lf d 14) 0 hd8 w w8) := by rw [hw8, hh8]; exact Lib.hid (H7.out.set (h' := (Hd.mk hd4.fl n13 hd4.kind hd4.code hd4.size)) rfl)
          rw [← hw8]
          have R8 := Lib.hid H8.out.rd
          have HH8 := Lib.hid hh8
          clear hw8 hh8
          refine (take6_at d b 14 _ R8.out (by omega) HP.out.2).mono ?_
          rintro e w9 ⟨⟨x6, rfl⟩, hl⟩
          simp only []
          have R9 := Lib.hid hl.rd
          have H9 := Lib.hid (H8.out.read hl)
          clear hl
          obtain ⟨⟨g7, g8, g9, g10, g11, g12⟩, ⟨z7, z8, z9, z10, z11, z12⟩⟩ := hdSets H9.out.hd
          obtain ⟨k0, k1, k2, k3, k4, k5, k6, k7, k8⟩ := pkCells H9.out.pk
          clear k0 k1 k2 k3 k4 k5 k6 k7
          go_wp2_with fail
          clear k8
          clear g7 g8 g9 g10 g11 g12 z7 z8 z9 z10 z11 z12
          obtain ⟨hd10, hh10⟩ : ∃ x : Hd, x = (Hd.mk hd8.fl hd8.flags hd8.kind hd8.code ((d.size : Int) - (hn : Int))) := ⟨_, rfl⟩
          obtain ⟨w10, hw10⟩ : ∃ x, x = (World.setCell w9 ⟨H, 12, none⟩ (.int .i64 ((d.size : Int) - (hn : Int)))) := ⟨_, rfl⟩
          have H10 : Hid (PS P b H #[.bool v1, .int .u64 h1, .int .u64 l1, .bool v2, .int .u64 h2, .int .u64 l2, .int .u8 pr, .int .u8 tt, .string d] (Lf d 20) 0 hd10 w w10) := by rw [hw10, hh10]; exact Lib.hid (H9.out.set (h' := (Hd.mk hd8.fl hd8.flags hd8.kind hd8.code ((d.size : Int) - (hn : Int)))) rfl)
          rw [← hw10]
          have R10 := Lib.hid H10.out.rd
          have HH10 := Lib.hid hh10
          clear hw10 hh10
          refine (fault_any b _ _ _ H10.out.rd).mono ?_
          rintro e w9 ⟨rfl, rfl⟩
          simp only []
          obtain ⟨k0, k1, k2, k3, k4, k5, k6, k7, k8⟩ := pkCells H10.out.pk
          have j12 : w10.cell? ⟨H, 12, none⟩ = some (.int .i64 ((d.size : Int) - (hn : Int))) := by have := (hdCells H10.out.hd).2.1; rw [HH10.out] at this; exact this
          go_wp2_with fail
          refine (HC.out _).mono ?_
          rintro e w20 ⟨rfl, B10⟩
          simp only []
          have H20 := Lib.hid (H10.out.call B10)
          clear B10 k0 k1 k2 k3 k4 k5 k6 k7 k8
          go_wp2_with fail
          go_ret
          exact ⟨hd10, by rw [HE.out]; rfl, H20.out.hd, H20.out.only, fun _ => by rw [HH10.out, HH8.out, HH4.out, show tcpG p h = Hd.mk (Fl.mk h.fl.proto h.fl.src h.fl.dst (n2 p.data 0) (n2 p.data 2)) (byt p.data 13) h.kind h.code ((p.data.size : Int) - hdl p) from rfl, HG.out, HP.out.1, HY.out.2]⟩
        · have HE := Lib.hid (show tcpE p = 131 by rw [HE0.out, if_neg (by omega), if_pos (by simp [qS])])
          have cS : ((S : Int) != 0) = true := bne_iff_ne.2 (by omega)
          clear HE0 qA qB qS hs8
          go_enter Try.func28, Try.ntmps28
          go_wp2_with fail
          refine HN.out.mono ?_
          rintro e w1 ⟨rfl, h1w⟩
          rw [← hP]
          simp only []
          have H1 := Lib.hid h1w
          clear h1w hP
          have R1 := Lib.hid (show Rd w1 b 72 (Lf d 0) 0 by rw [Lf_zero]; exact H1.out.rd)
          go_wp2_with fail
          refine (u16_at d b 0 _ R1.out (by omega) HP.out.2).mono ?_
          rintro e w2 ⟨rfl, hl⟩
          simp only []
          have R2 := Lib.hid hl.rd
          have H2 := Lib.hid (H1.out.read hl)
          clear hl
          go_wp2_with fail
          refine (u16_at d b 2 _ R2.out (by omega) HP.out.2).mono ?_
          rintro e w3 ⟨rfl, hl⟩
          simp only []
          have R3 := Lib.hid hl.rd
          have H3 := Lib.hid (H2.out.read hl)
          clear hl
          obtain ⟨⟨g7, g8, g9, g10, g11, g12⟩, ⟨z7, z8, z9, z10, z11, z12⟩⟩ := hdSets H3.out.hd
          go_wp2_with fail
          clear g7 g8 g9 g10 g11 g12 z7 z8 z9 z10 z11 z12
          obtain ⟨hd4, hh4⟩ : ∃ x : Hd, x = (Hd.mk (Fl.mk (Hd.mk (Fl.mk h.fl.proto h.fl.src h.fl.dst (n2 d 0) h.fl.tp) h.flags h.kind h.code h.size).fl.proto (Hd.mk (Fl.mk h.fl.proto h.fl.src h.fl.dst (n2 d 0) h.fl.tp) h.flags h.kind h.code h.size).fl.src (Hd.mk (Fl.mk h.fl.proto h.fl.src h.fl.dst (n2 d 0) h.fl.tp) h.flags h.kind h.code h.size).fl.dst (Hd.mk (Fl.mk h.fl.proto h.fl.src h.fl.dst (n2 d 0) h.fl.tp) h.flags h.kind h.code h.size).fl.fp (n2 d 2)) (Hd.mk (Fl.mk h.fl.proto h.fl.src h.fl.dst (n2 d 0) h.fl.tp) h.flags h.kind h.code h.size).flags (Hd.mk (Fl.mk h.fl.proto h.fl.src h.fl.dst (n2 d 0) h.fl.tp) h.flags h.kind h.code h.size).kind (Hd.mk (Fl.mk h.fl.proto h.fl.src h.fl.dst (n2 d 0) h.fl.tp) h.flags h.kind h.code h.size).code (Hd.mk (Fl.mk h.fl.proto h.fl.src h.fl.dst (n2 d 0) h.fl.tp) h.flags h.kind h.code h.size).size) := ⟨_, rfl⟩
          obtain ⟨w4, hw4⟩ : ∃ x, x = (World.setCell (World.setCell w3 ⟨H, 7, none⟩ (.int .u16 (n2 d 0))) ⟨H, 8, none⟩ (.int .u16 (n2 d 2))) := ⟨_, rfl⟩
          have H4 : Hid (PS P b H #[.bool v1, .int .u64 h1, .int .u64 l1, .bool v2, .int .u64 h2, .int .u64 l2, .int .u8 pr, .int .u8 tt, .string d] (Lf d 4) 0 hd4 w w4) := by rw [hw4, hh4]; exact Lib.hid ((H3.out.set (h' := (Hd.mk (Fl.mk h.fl.proto h.fl.src h.fl.dst (n2 d 0) h.fl.tp) h.flags h.kind h.code h.size)) rfl).set (h' := (Hd.mk (Fl.mk (Hd.mk (Fl.mk h.fl.proto h.fl.src h.fl.dst (n2 d 0) h.fl.tp) h.flags h.kind h.code h.size).fl.proto (Hd.mk (Fl.mk h.fl.proto h.fl.src h.fl.dst (n2 d 0) h.fl.tp) h.flags h.kind h.code h.size).fl.src (Hd.mk (Fl.mk h.fl.proto h.fl.src h.fl.dst (n2 d 0) h.fl.tp) h.flags h.kind h.code h.size).fl.dst (Hd.mk (Fl.mk h.fl.proto h.fl.src h.fl.dst (n2 d 0) h.fl.tp) h.flags h.kind h.code h.size).fl.fp (n2 d 2)) (Hd.mk (Fl.mk h.fl.proto h.fl.src h.fl.dst (n2 d 0) h.fl.tp) h.flags h.kind h.code h.size).flags (Hd.mk (Fl.mk h.fl.proto h.fl.src h.fl.dst (n2 d 0) h.fl.tp) h.flags h.kind h.code h.size).kind (Hd.mk (Fl.mk h.fl.proto h.fl.src h.fl.dst (n2 d 0) h.fl.tp) h.flags h.kind h.code h.size).code (Hd.mk (Fl.mk h.fl.proto h.fl.src h.fl.dst (n2 d 0) h.fl.tp) h.flags h.kind h.code h.size).size)) rfl)
          rw [← hw4]
          have R4 := Lib.hid H4.out.rd
          have HH4 := Lib.hid hh4
          clear hw4 hh4
          refine (u64_at d b 4 _ R4.out (by omega) HP.out.2).mono ?_
          rintro e w5 ⟨⟨x3, rfl⟩, hl⟩
          simp only []
          have R5 := Lib.hid hl.rd
          have H5 := Lib.hid (H4.out.read hl)
          clear hl
          go_wp2_with fail
          refine (u8_at d b 12 _ R5.out (by omega) HP.out.2).mono ?_
          rintro e w6 ⟨rfl, hl⟩
          simp only []
          have R6 := Lib.hid hl.rd
          have H6 := Lib.hid (H5.out.read hl)
          clear hl
          rw [← HY.out.1]
          go_wp2_with fail
          refine (u8_at d b 13 _ R6.out (by omega) HP.out.2).mono ?_
          rintro e w7 ⟨rfl, hl⟩
          simp only []
          have R7 := Lib.hid hl.rd
          have H7 := Lib.hid (H6.out.read hl)
          clear hl
          rw [← HY.out.2]
          obtain ⟨⟨g7, g8, g9, g10, g11, g12⟩, ⟨z7, z8, z9, z10, z11, z12⟩⟩ := hdSets H7.out.hd
          go_wp2_with fail
          clear g7 g8 g9 g10 g11 g12 z7 z8 z9 z10 z11 z12
          obtain ⟨hd8, hh8⟩ : ∃ x : Hd, x = (Hd.mk hd4.fl n13 hd4.kind hd4.code hd4.size) := ⟨_, rfl⟩
          obtain ⟨w8, hw8⟩ : ∃ x, x = (World.setCell w7 ⟨H, 9, none⟩ (.int .u8 n13)) := ⟨_, rfl⟩
          have H8 : Hid (PS P b H #[.bool v1, .int .u64 h1, .int .u64 l1, .bool v2, .int .u64 h2, .int .u64 l2, .int .u8 pr, .int .u8 tt, .string d] (Lf d 14) 0 hd8 w w8) := by rw [hw8, hh8]; exact Lib.hid (H7.out.set (h' := (Hd.mk hd4.fl n13 hd4.kind hd4.code hd4.size)) rfl)
          rw [← hw8]
          have R8 := Lib.hid H8.out.rd
          have HH8 := Lib.hid hh8
          clear hw8 hh8
          refine (take6_at d b 14 _ R8.out (by omega) HP.out.2).mono ?_
          rintro e w9 ⟨⟨x6, rfl⟩, hl⟩
          simp only []
          have R9 := Lib.hid hl.rd
          have H9 := Lib.hid (H8.out.read hl)
          clear hl
          obtain ⟨⟨g7, g8, g9, g10, g11, g12⟩, ⟨z7, z8, z9, z10, z11, z12⟩⟩ := hdSets H9.out.hd
          obtain ⟨k0, k1, k2, k3, k4, k5, k6, k7, k8⟩ := pkCells H9.out.pk
          clear k0 k1 k2 k3 k4 k5 k6 k7
          go_wp2_with fail
          clear k8
          clear g7 g8 g9 g10 g11 g12 z7 z8 z9 z10 z11 z12
          obtain ⟨hd10, hh10⟩ : ∃ x : Hd, x = (Hd.mk hd8.fl hd8.flags hd8.kind hd8.code ((d.size : Int) - (hn : Int))) := ⟨_, rfl⟩
          obtain ⟨w10, hw10⟩ : ∃ x, x = (World.setCell w9 ⟨H, 12, none⟩ (.int .i64 ((d.size : Int) - (hn : Int)))) := ⟨_, rfl⟩
          have H10 : Hid (PS P b H #[.bool v1, .int .u64 h1, .int .u64 l1, .bool v2, .int .u64 h2, .int .u64 l2, .int .u8 pr, .int .u8 tt, .string d] (Lf d 20) 0 hd10 w w10) := by rw [hw10, hh10]; exact Lib.hid (H9.out.set (h' := (Hd.mk hd8.fl hd8.flags hd8.kind hd8.code ((d.size : Int) - (hn : Int)))) rfl)
          rw [← hw10]
          have R10 := Lib.hid H10.out.rd
          have HH10 := Lib.hid hh10
          clear hw10 hh10
          refine (fault_any b _ _ _ H10.out.rd).mono ?_
          rintro e w9 ⟨rfl, rfl⟩
          simp only []
          obtain ⟨k0, k1, k2, k3, k4, k5, k6, k7, k8⟩ := pkCells H10.out.pk
          have j12 : w10.cell? ⟨H, 12, none⟩ = some (.int .i64 ((d.size : Int) - (hn : Int))) := by have := (hdCells H10.out.hd).2.1; rw [HH10.out] at this; exact this
          go_wp2_with fail
          refine (HC.out _).mono ?_
          rintro e w20 ⟨rfl, B10⟩
          simp only []
          have H20 := Lib.hid (H10.out.call B10)
          clear B10 k0 k1 k2 k3 k4 k5 k6 k7 k8
          go_wp2_with fail
          go_ret
          exact ⟨hd10, by rw [HE.out]; rfl, H20.out.hd, H20.out.only, fun q => by rw [HE.out] at q; exact absurd q (by decide)⟩

end Go.Proofs.Ytgonakpoflacoaa
