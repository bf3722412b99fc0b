/-
  A packet of UDP told.
-/
import Derived.Test.YtgonakpoflacoaaHeads
set_option linter.unusedVariables false
set_option linter.unusedSimpArgs false
namespace Go.Proofs.Ytgonakpoflacoaa
open Go.RowKit

theorem new_ps (pc : Array Value) (d : ByteArray) (h : Hd) (H : Nat) (w : World) (hH : w.heap[H]? = some (.cells h.cells 41)) :
    ∃ P b, P = w.heap.size ∧ Calls Try.prog 37 #[.string d] (w.alloc (.cells pc 30)) fun e w' => e = .returned (.pointer (some ⟨b, 0, none⟩)) ∧ PS P b H pc d 0 h w w' := by
  refine ⟨w.heap.size, (w.alloc (.cells pc 30)).heap.size, rfl, (new_any d _).mono ?_⟩
  rintro e w' ⟨rfl, hr, hB⟩
  have hlt := lt_of_heap hH
  refine ⟨rfl, ⟨?_, hr, ?_, ?_, Nat.le_refl _, by simp, hlt, by simp⟩⟩
  · rw [hB.block _ (by simp)]; exact heap_alloc_last _ _
  · rw [hB.block _ (by simp; omega), heap_alloc_old _ _ hlt]; exact hH
  · have hb := ((Below.refl w.heap.size w).alloc (Nat.le_refl _) (.cells pc 30)).trans (hB.mono (by simp))
    exact ⟨hb.os, hb.tape, hb.output, hb.size, fun k hk _ => hb.block k hk⟩
theorem condE {a b : Nat} : ((a : Int) != (b : Int)) = decide (a ≠ b) := by
  by_cases h : a = b
  · subst h; simp
  · rw [bne_iff_ne.2 (by omega)]; simp [h]
set_option maxHeartbeats 8000000 in
set_option maxRecDepth 100000 in
theorem portUdp_any (p : Pk) (H : Nat) (h : Hd) (w : World) (hok : p.Ok) (hd : p.data.size ≤ 10000) (hH : w.heap[H]? = some (.cells h.cells 41)) :
    Calls Try.prog 27 #[p.val, .pointer (some ⟨H, 0, none⟩)] w (HdPost H w (udpE p) (udpG p h)) := by
  obtain ⟨⟨v1, h1, l1⟩, ⟨v2, h2, l2⟩, pr, tt, d⟩ := p
  obtain ⟨p, hp⟩ : ∃ p : Pk, p = ⟨⟨v1, h1, l1⟩, ⟨v2, h2, l2⟩, pr, tt, d⟩ := ⟨_, rfl⟩
  have hpv : p.val = .agg #[.bool v1, .int .u64 h1, .int .u64 l1, .bool v2, .int .u64 h2, .int .u64 l2, .int .u8 pr, .int .u8 tt, .string d] := by rw [hp]; rfl
  rw [← hp] at hok hd ⊢
  have hd' : d.size ≤ 10000 := by have := hd; rw [hp] at this; exact this
  have C2 : ∀ u, Calls Try.prog 33 #[.agg #[.bool v1, .int .u64 h1, .int .u64 l1, .bool v2, .int .u64 h2, .int .u64 l2, .int .u8 pr, .int .u8 tt, .string d]] u fun e w' => e = .returned (.int .u16 (sumP p)) ∧ Below u.heap.size u w' := fun u => by rw [← hpv]; exact sum_any p u hok hd
  have HC := Lib.hid C2
  have HP := Lib.hid (And.intro hp hd')
  have hz : (d.size : Int) ≤ 10000 := by omega
  obtain ⟨P, b, hP, HC0⟩ := new_ps #[.bool v1, .int .u64 h1, .int .u64 l1, .bool v2, .int .u64 h2, .int .u64 l2, .int .u8 pr, .int .u8 tt, .string d] d h H w hH
  have HN := Lib.hid HC0
  rw [hpv]
  clear hok hd hpv C2 HC0 hH hp
  by_cases hs8 : d.size < 8
  · have HE := Lib.hid (show udpE p = 7 by unfold udpE; rw [HP.out.1, if_pos (by exact hs8)])
    go_enter Try.func27, Try.ntmps27
    go_wp2_with fail
    refine HN.out.mono ?_
    rintro e w1 ⟨rfl, h1w⟩
    rw [← hP]
    simp only []
    have H1 := Lib.hid h1w
    clear h1w hP
    have S1 := Lib.hid (show Short d 0 8 from ⟨HP.out.2, Or.inr ⟨rfl, by omega⟩⟩)
    go_wp2_with fail
    refine (u16_sh b 6 _ _ _ H1.out.rd S1.out).mono ?_
    rintro e w2 ⟨x1, s2, f2, rfl, hx1, hl, hs⟩
    simp only []
    have H2 := Lib.hid (H1.out.read hl)
    have S2 := Lib.hid hs
    clear hl hs hx1
    go_wp2_with fail
    refine (u16_sh b 4 _ _ _ H2.out.rd S2.out).mono ?_
    rintro e w3 ⟨x2, s3, f3, rfl, hx2, hl, hs⟩
    simp only []
    have H3 := Lib.hid (H2.out.read hl)
    have S3 := Lib.hid hs
    clear hl hs hx2
    obtain ⟨⟨g7, g8, g9, g10, g11, g12⟩, ⟨z7, z8, z9, z10, z11, z12⟩⟩ := hdSets H3.out.hd
    go_wp2_with fail
    clear g7 g8 g9 g10 g11 g12 z7 z8 z9 z10 z11 z12
    obtain ⟨hd4, hh4⟩ : ∃ x : Hd, x = (Hd.mk (Fl.mk (Hd.mk (Fl.mk h.fl.proto h.fl.src h.fl.dst x1 h.fl.tp) h.flags h.kind h.code h.size).fl.proto (Hd.mk (Fl.mk h.fl.proto h.fl.src h.fl.dst x1 h.fl.tp) h.flags h.kind h.code h.size).fl.src (Hd.mk (Fl.mk h.fl.proto h.fl.src h.fl.dst x1 h.fl.tp) h.flags h.kind h.code h.size).fl.dst (Hd.mk (Fl.mk h.fl.proto h.fl.src h.fl.dst x1 h.fl.tp) h.flags h.kind h.code h.size).fl.fp x2) (Hd.mk (Fl.mk h.fl.proto h.fl.src h.fl.dst x1 h.fl.tp) h.flags h.kind h.code h.size).flags (Hd.mk (Fl.mk h.fl.proto h.fl.src h.fl.dst x1 h.fl.tp) h.flags h.kind h.code h.size).kind (Hd.mk (Fl.mk h.fl.proto h.fl.src h.fl.dst x1 h.fl.tp) h.flags h.kind h.code h.size).code (Hd.mk (Fl.mk h.fl.proto h.fl.src h.fl.dst x1 h.fl.tp) h.flags h.kind h.code h.size).size) := ⟨_, rfl⟩
    obtain ⟨w4, hw4⟩ : ∃ x, x = (World.setCell (World.setCell w3 ⟨H, 7, none⟩ (.int .u16 x1)) ⟨H, 8, none⟩ (.int .u16 x2)) := ⟨_, rfl⟩
    have H4 : Hid (PS P b H #[.bool v1, .int .u64 h1, .int .u64 l1, .bool v2, .int .u64 h2, .int .u64 l2, .int .u8 pr, .int .u8 tt, .string d] s3 f3 hd4 w w4) := by rw [hw4, hh4]; exact Lib.hid ((H3.out.set (h' := (Hd.mk (Fl.mk h.fl.proto h.fl.src h.fl.dst x1 h.fl.tp) h.flags h.kind h.code h.size)) rfl).set (h' := (Hd.mk (Fl.mk (Hd.mk (Fl.mk h.fl.proto h.fl.src h.fl.dst x1 h.fl.tp) h.flags h.kind h.code h.size).fl.proto (Hd.mk (Fl.mk h.fl.proto h.fl.src h.fl.dst x1 h.fl.tp) h.flags h.kind h.code h.size).fl.src (Hd.mk (Fl.mk h.fl.proto h.fl.src h.fl.dst x1 h.fl.tp) h.flags h.kind h.code h.size).fl.dst (Hd.mk (Fl.mk h.fl.proto h.fl.src h.fl.dst x1 h.fl.tp) h.flags h.kind h.code h.size).fl.fp x2) (Hd.mk (Fl.mk h.fl.proto h.fl.src h.fl.dst x1 h.fl.tp) h.flags h.kind h.code h.size).flags (Hd.mk (Fl.mk h.fl.proto h.fl.src h.fl.dst x1 h.fl.tp) h.flags h.kind h.code h.size).kind (Hd.mk (Fl.mk h.fl.proto h.fl.src h.fl.dst x1 h.fl.tp) h.flags h.kind h.code h.size).code (Hd.mk (Fl.mk h.fl.proto h.fl.src h.fl.dst x1 h.fl.tp) h.flags h.kind h.code h.size).size)) rfl)
    rw [← hw4]
    have S4 := S3
    have HH4 := Lib.hid hh4
    clear hw4 hh4
    refine (u16_sh b 2 _ _ _ H4.out.rd S4.out).mono ?_
    rintro e w5 ⟨x3, s5, f5, rfl, hx3, hl, hs⟩
    simp only []
    have H5 := Lib.hid (H4.out.read hl)
    have S5 := Lib.hid hs
    clear hl hs hx3
    go_wp2_with fail
    refine (u16_sh b 0 _ _ _ H5.out.rd S5.out).mono ?_
    rintro e w6 ⟨x4, s6, f6, rfl, hx4, hl, hs⟩
    simp only []
    have H6 := Lib.hid (H5.out.read hl)
    have S6 := Lib.hid hs
    clear hl hs hx4
    go_wp2_with fail
    refine (left_any b _ _ _ H6.out.rd).mono ?_
    rintro e w9 ⟨rfl, rfl⟩
    simp only []
    obtain ⟨⟨g7, g8, g9, g10, g11, g12⟩, ⟨z7, z8, z9, z10, z11, z12⟩⟩ := hdSets H6.out.hd
    go_wp2_with fail
    clear g7 g8 g9 g10 g11 g12 z7 z8 z9 z10 z11 z12
    obtain ⟨hd7, hh7⟩ : ∃ x : Hd, x = (Hd.mk hd4.fl hd4.flags hd4.kind hd4.code (s6.size : Int)) := ⟨_, rfl⟩
    obtain ⟨w7, hw7⟩ : ∃ x, x = (World.setCell w6 ⟨H, 12, none⟩ (.int .i64 (s6.size : Int))) := ⟨_, rfl⟩
    have H7 : Hid (PS P b H #[.bool v1, .int .u64 h1, .int .u64 l1, .bool v2, .int .u64 h2, .int .u64 l2, .int .u8 pr, .int .u8 tt, .string d] s6 f6 hd7 w w7) := by rw [hw7, hh7]; exact Lib.hid (H6.out.set (h' := (Hd.mk hd4.fl hd4.flags hd4.kind hd4.code (s6.size : Int))) rfl)
    rw [← hw7]
    have S7 := S6
    have HH7 := Lib.hid hh7
    clear hw7 hh7
    refine (fault_any b _ _ _ H7.out.rd).mono ?_
    rintro e w9 ⟨rfl, rfl⟩
    rw [S7.out.fault]
    simp only []
    go_wp2_with fail
    go_ret
    exact ⟨hd7, by rw [HE.out]; rfl, H7.out.hd, H7.out.only, fun q => by rw [HE.out] at q; exact absurd q (by decide)⟩
  · have L8 : 8 ≤ d.size := by omega
    obtain ⟨n4, hn4⟩ : ∃ x, x = n2 d 4 := ⟨_, rfl⟩
    obtain ⟨n6, hn6⟩ : ∃ x, x = n2 d 6 := ⟨_, rfl⟩
    obtain ⟨S, hS⟩ : ∃ x, x = sumP p := ⟨_, rfl⟩
    have HQ := Lib.hid (And.intro hn4 (And.intro hn6 hS))
    have n4b : n4 < 65536 := by rw [hn4]; exact n2_lt _ _
    have HE0 := Lib.hid (show udpE p = if n4 ≠ d.size then 8 else if S ≠ 0 ∧ (n6 ≠ 0 ∨ v1 = true) then 131 else 0 by unfold udpE; rw [hn4, hn6, hS, HP.out.1, if_neg hs8])
    have n4c : (n4 : Int) ≤ 65535 := by omega
    rw [← hS] at HC
    have e4 : IntKind.i64.wrap (n4 : Int) = n4 := IntWalk.i64_in _ (by omega)
    by_cases q4 : n4 = d.size
    · have c4 : ((n4 : Int) != (d.size : Int)) = false := by rw [q4]; simp
      by_cases qS : S = 0
      · have HE := Lib.hid (show udpE p = 0 by rw [HE0.out, if_neg (by simpa using q4), if_neg (by simp [qS])])
        have cS : ((S : Int) != 0) = false := by rw [qS]; simp
        clear HE0 q4 qS n4b n4c hs8 hn4 hn6 hS
        go_enter Try.func27, Try.ntmps27
        go_wp2_with fail
        refine HN.out.mono ?_
        rintro e w1 ⟨rfl, h1w⟩
        rw [← hP]
        simp only []
        have H1 := Lib.hid h1w
        clear h1w hP
        have R1 := Lib.hid (show Rd w1 b 72 (Lf d 0) 0 by rw [Lf_zero]; exact H1.out.rd)
        go_wp2_with fail
        refine (u16_at d b 0 _ R1.out (by omega) HP.out.2).mono ?_
        rintro e w2 ⟨rfl, hl⟩
        simp only []
        have R2 := Lib.hid hl.rd
        have H2 := Lib.hid (H1.out.read hl)
        clear hl
        go_wp2_with fail
        refine (u16_at d b 2 _ R2.out (by omega) HP.out.2).mono ?_
        rintro e w3 ⟨rfl, hl⟩
        simp only []
        have R3 := Lib.hid hl.rd
        have H3 := Lib.hid (H2.out.read hl)
        clear hl
        obtain ⟨⟨g7, g8, g9, g10, g11, g12⟩, ⟨z7, z8, z9, z10, z11, z12⟩⟩ := hdSets H3.out.hd
        go_wp2_with fail
        clear g7 g8 g9 g10 g11 g12 z7 z8 z9 z10 z11 z12
        obtain ⟨hd4, hh4⟩ : ∃ x : Hd, x = (Hd.mk (Fl.mk (Hd.mk (Fl.mk h.fl.proto h.fl.src h.fl.dst (n2 d 0) h.fl.tp) h.flags h.kind h.code h.size).fl.proto (Hd.mk (Fl.mk h.fl.proto h.fl.src h.fl.dst (n2 d 0) h.fl.tp) h.flags h.kind h.code h.size).fl.src (Hd.mk (Fl.mk h.fl.proto h.fl.src h.fl.dst (n2 d 0) h.fl.tp) h.flags h.kind h.code h.size).fl.dst (Hd.mk (Fl.mk h.fl.proto h.fl.src h.fl.dst (n2 d 0) h.fl.tp) h.flags h.kind h.code h.size).fl.fp (n2 d 2)) (Hd.mk (Fl.mk h.fl.proto h.fl.src h.fl.dst (n2 d 0) h.fl.tp) h.flags h.kind h.code h.size).flags (Hd.mk (Fl.mk h.fl.proto h.fl.src h.fl.dst (n2 d 0) h.fl.tp) h.flags h.kind h.code h.size).kind (Hd.mk (Fl.mk h.fl.proto h.fl.src h.fl.dst (n2 d 0) h.fl.tp) h.flags h.kind h.code h.size).code (Hd.mk (Fl.mk h.fl.proto h.fl.src h.fl.dst (n2 d 0) h.fl.tp) h.flags h.kind h.code h.size).size) := ⟨_, rfl⟩
        obtain ⟨w4, hw4⟩ : ∃ x, x = (World.setCell (World.setCell w3 ⟨H, 7, none⟩ (.int .u16 (n2 d 0))) ⟨H, 8, none⟩ (.int .u16 (n2 d 2))) := ⟨_, rfl⟩
        have H4 : Hid (PS P b H #[.bool v1, .int .u64 h1, .int .u64 l1, .bool v2, .int .u64 h2, .int .u64 l2, .int .u8 pr, .int .u8 tt, .string d] (Lf d 4) 0 hd4 w w4) := by rw [hw4, hh4]; exact Lib.hid ((H3.out.set (h' := (Hd.mk (Fl.mk h.fl.proto h.fl.src h.fl.dst (n2 d 0) h.fl.tp) h.flags h.kind h.code h.size)) rfl).set (h' := (Hd.mk (Fl.mk (Hd.mk (Fl.mk h.fl.proto h.fl.src h.fl.dst (n2 d 0) h.fl.tp) h.flags h.kind h.code h.size).fl.proto (Hd.mk (Fl.mk h.fl.proto h.fl.src h.fl.dst (n2 d 0) h.fl.tp) h.flags h.kind h.code h.size).fl.src (Hd.mk (Fl.mk h.fl.proto h.fl.src h.fl.dst (n2 d 0) h.fl.tp) h.flags h.kind h.code h.size).fl.dst (Hd.mk (Fl.mk h.fl.proto h.fl.src h.fl.dst (n2 d 0) h.fl.tp) h.flags h.kind h.code h.size).fl.fp (n2 d 2)) (Hd.mk (Fl.mk h.fl.proto h.fl.src h.fl.dst (n2 d 0) h.fl.tp) h.flags h.kind h.code h.size).flags (Hd.mk (Fl.mk h.fl.proto h.fl.src h.fl.dst (n2 d 0) h.fl.tp) h.flags h.kind h.code h.size).kind (Hd.mk (Fl.mk h.fl.proto h.fl.src h.fl.dst (n2 d 0) h.fl.tp) h.flags h.kind h.code h.size).code (Hd.mk (Fl.mk h.fl.proto h.fl.src h.fl.dst (n2 d 0) h.fl.tp) h.flags h.kind h.code h.size).size)) rfl)
        rw [← hw4]
        have R4 := Lib.hid H4.out.rd
        have HH4 := Lib.hid hh4
        clear hw4 hh4
        refine (u16_at d b 4 _ R4.out (by omega) HP.out.2).mono ?_
        rintro e w5 ⟨rfl, hl⟩
        rw [← HQ.out.1]
        simp only []
        have R5 := Lib.hid hl.rd
        have H5 := Lib.hid (H4.out.read hl)
        clear hl
        go_wp2_with fail
        refine (u16_at d b 6 _ R5.out (by omega) HP.out.2).mono ?_
        rintro e w6 ⟨rfl, hl⟩
        rw [← HQ.out.2.1]
        simp only []
        have R6 := Lib.hid hl.rd
        have H6 := Lib.hid (H5.out.read hl)
        clear hl
        go_wp2_with fail
        refine (left_any b _ _ _ H6.out.rd).mono ?_
        rintro e w9 ⟨rfl, rfl⟩
        simp only []
        rw [show ((Lf d 8).size : Int) = (d.size : Int) - 8 by rw [Lf_size]; omega]
        obtain ⟨⟨g7, g8, g9, g10, g11, g12⟩, ⟨z7, z8, z9, z10, z11, z12⟩⟩ := hdSets H6.out.hd
        go_wp2_with fail
        clear g7 g8 g9 g10 g11 g12 z7 z8 z9 z10 z11 z12
        obtain ⟨hd7, hh7⟩ : ∃ x : Hd, x = (Hd.mk hd4.fl hd4.flags hd4.kind hd4.code ((d.size : Int) - 8)) := ⟨_, rfl⟩
        obtain ⟨w7, hw7⟩ : ∃ x, x = (World.setCell w6 ⟨H, 12, none⟩ (.int .i64 ((d.size : Int) - 8))) := ⟨_, rfl⟩
        have H7 : Hid (PS P b H #[.bool v1, .int .u64 h1, .int .u64 l1, .bool v2, .int .u64 h2, .int .u64 l2, .int .u8 pr, .int .u8 tt, .string d] (Lf d 8) 0 hd7 w w7) := by rw [hw7, hh7]; exact Lib.hid (H6.out.set (h' := (Hd.mk hd4.fl hd4.flags hd4.kind hd4.code ((d.size : Int) - 8))) rfl)
        rw [← hw7]
        have R7 := Lib.hid H7.out.rd
        have HH7 := Lib.hid hh7
        clear hw7 hh7
        refine (fault_any b _ _ _ H7.out.rd).mono ?_
        rintro e w9 ⟨rfl, rfl⟩
        simp only []
        obtain ⟨k0, k1, k2, k3, k4, k5, k6, k7, k8⟩ := pkCells H7.out.pk
        go_wp2_with fail
        refine (HC.out _).mono ?_
        rintro e w10 ⟨rfl, B10⟩
        simp only []
        have H10 := Lib.hid (H7.out.call B10)
        clear B10 k0 k1 k2 k3 k4 k5 k6 k7 k8
        obtain ⟨k0, k1, k2, k3, k4, k5, k6, k7, k8⟩ := pkCells H10.out.pk
        clear k1 k2 k3 k4 k5 k6 k7 k8
        go_wp2_with fail
        go_ret
        exact ⟨hd7, by rw [HE.out]; rfl, H10.out.hd, H10.out.only, fun _ => by rw [HH7.out, HH4.out, HP.out.1]; rfl⟩
      · have cS : ((S : Int) != 0) = true := bne_iff_ne.2 (by omega)
        by_cases q6 : n6 = 0
        · have c6 : ((n6 : Int) != 0) = false := by rw [q6]; simp
          cases v1
          · have HE := Lib.hid (show udpE p = 0 by rw [HE0.out, if_neg (by simpa using q4), if_neg (by simp [q6])])
            clear HE0 q4 qS q6 n4b n4c hs8 hn4 hn6 hS
            go_enter Try.func27, Try.ntmps27
            go_wp2_with fail
            refine HN.out.mono ?_
            rintro e w1 ⟨rfl, h1w⟩
            rw [← hP]
            simp only []
            have H1 := Lib.hid h1w
            clear h1w hP
            have R1 := Lib.hid (show Rd w1 b 72 (Lf d 0) 0 by rw [Lf_zero]; exact H1.out.rd)
            go_wp2_with fail
            refine (u16_at d b 0 _ R1.out (by omega) HP.out.2).mono ?_
            rintro e w2 ⟨rfl, hl⟩
            simp only []
            have R2 := Lib.hid hl.rd
            have H2 := Lib.hid (H1.out.read hl)
            clear hl
            go_wp2_with fail
            refine (u16_at d b 2 _ R2.out (by omega) HP.out.2).mono ?_
            rintro e w3 ⟨rfl, hl⟩
            simp only []
            have R3 := Lib.hid hl.rd
            have H3 := Lib.hid (H2.out.read hl)
            clear hl
            obtain ⟨⟨g7, g8, g9, g10, g11, g12⟩, ⟨z7, z8, z9, z10, z11, z12⟩⟩ := hdSets H3.out.hd
            go_wp2_with fail
            clear g7 g8 g9 g10 g11 g12 z7 z8 z9 z10 z11 z12
            obtain ⟨hd4, hh4⟩ : ∃ x : Hd, x = (Hd.mk (Fl.mk (Hd.mk (Fl.mk h.fl.proto h.fl.src h.fl.dst (n2 d 0) h.fl.tp) h.flags h.kind h.code h.size).fl.proto (Hd.mk (Fl.mk h.fl.proto h.fl.src h.fl.dst (n2 d 0) h.fl.tp) h.flags h.kind h.code h.size).fl.src (Hd.mk (Fl.mk h.fl.proto h.fl.src h.fl.dst (n2 d 0) h.fl.tp) h.flags h.kind h.code h.size).fl.dst (Hd.mk (Fl.mk h.fl.proto h.fl.src h.fl.dst (n2 d 0) h.fl.tp) h.flags h.kind h.code h.size).fl.fp (n2 d 2)) (Hd.mk (Fl.mk h.fl.proto h.fl.src h.fl.dst (n2 d 0) h.fl.tp) h.flags h.kind h.code h.size).flags (Hd.mk (Fl.mk h.fl.proto h.fl.src h.fl.dst (n2 d 0) h.fl.tp) h.flags h.kind h.code h.size).kind (Hd.mk (Fl.mk h.fl.proto h.fl.src h.fl.dst (n2 d 0) h.fl.tp) h.flags h.kind h.code h.size).code (Hd.mk (Fl.mk h.fl.proto h.fl.src h.fl.dst (n2 d 0) h.fl.tp) h.flags h.kind h.code h.size).size) := ⟨_, rfl⟩
            obtain ⟨w4, hw4⟩ : ∃ x, x = (World.setCell (World.setCell w3 ⟨H, 7, none⟩ (.int .u16 (n2 d 0))) ⟨H, 8, none⟩ (.int .u16 (n2 d 2))) := ⟨_, rfl⟩
            have H4 : Hid (PS P b H #[.bool false, .int .u64 h1, .int .u64 l1, .bool v2, .int .u64 h2, .int .u64 l2, .int .u8 pr, .int .u8 tt, .string d] (Lf d 4) 0 hd4 w w4) := by rw [hw4, hh4]; exact Lib.hid ((H3.out.set (h' := (Hd.mk (Fl.mk h.fl.proto h.fl.src h.fl.dst (n2 d 0) h.fl.tp) h.flags h.kind h.code h.size)) rfl).set (h' := (Hd.mk (Fl.mk (Hd.mk (Fl.mk h.fl.proto h.fl.src h.fl.dst (n2 d 0) h.fl.tp) h.flags h.kind h.code h.size).fl.proto (Hd.mk (Fl.mk h.fl.proto h.fl.src h.fl.dst (n2 d 0) h.fl.tp) h.flags h.kind h.code h.size).fl.src (Hd.mk (Fl.mk h.fl.proto h.fl.src h.fl.dst (n2 d 0) h.fl.tp) h.flags h.kind h.code h.size).fl.dst (Hd.mk (Fl.mk h.fl.proto h.fl.src h.fl.dst (n2 d 0) h.fl.tp) h.flags h.kind h.code h.size).fl.fp (n2 d 2)) (Hd.mk (Fl.mk h.fl.proto h.fl.src h.fl.dst (n2 d 0) h.fl.tp) h.flags h.kind h.code h.size).flags (Hd.mk (Fl.mk h.fl.proto h.fl.src h.fl.dst (n2 d 0) h.fl.tp) h.flags h.kind h.code h.size).kind (Hd.mk (Fl.mk h.fl.proto h.fl.src h.fl.dst (n2 d 0) h.fl.tp) h.flags h.kind h.code h.size).code (Hd.mk (Fl.mk h.fl.proto h.fl.src h.fl.dst (n2 d 0) h.fl.tp) h.flags h.kind h.code h.size).size)) rfl)
            rw [← hw4]
            have R4 := Lib.hid H4.out.rd
            have HH4 := Lib.hid hh4
            clear hw4 hh4
            refine (u16_at d b 4 _ R4.out (by omega) HP.out.2).mono ?_
            rintro e w5 ⟨rfl, hl⟩
            rw [← HQ.out.1]
            simp only []
            have R5 := Lib.hid hl.rd
            have H5 := Lib.hid (H4.out.read hl)
            clear hl
            go_wp2_with fail
            refine (u16_at d b 6 _ R5.out (by omega) HP.out.2).mono ?_
            rintro e w6 ⟨rfl, hl⟩
            rw [← HQ.out.2.1]
            simp only []
            have R6 := Lib.hid hl.rd
            have H6 := Lib.hid (H5.out.read hl)
            clear hl
            go_wp2_with fail
            refine (left_any b _ _ _ H6.out.rd).mono ?_
            rintro e w9 ⟨rfl, rfl⟩
            simp only []
            rw [show ((Lf d 8).size : Int) = (d.size : Int) - 8 by rw [Lf_size]; omega]
            obtain ⟨⟨g7, g8, g9, g10, g11, g12⟩, ⟨z7, z8, z9, z10, z11, z12⟩⟩ := hdSets H6.out.hd
            go_wp2_with fail
            clear g7 g8 g9 g10 g11 g12 z7 z8 z9 z10 z11 z12
            obtain ⟨hd7, hh7⟩ : ∃ x : Hd, x = (Hd.mk hd4.fl hd4.flags hd4.kind hd4.code ((d.size : Int) - 8)) := ⟨_, rfl⟩
            obtain ⟨w7, hw7⟩ : ∃ x, x = (World.setCell w6 ⟨H, 12, none⟩ (.int .i64 ((d.size : Int) - 8))) := ⟨_, rfl⟩
            have H7 : Hid (PS P b H #[.bool false, .int .u64 h1, .int .u64 l1, .bool v2, .int .u64 h2, .int .u64 l2, .int .u8 pr, .int .u8 tt, .string d] (Lf d 8) 0 hd7 w w7) := by rw [hw7, hh7]; exact Lib.hid (H6.out.set (h' := (Hd.mk hd4.fl hd4.flags hd4.kind hd4.code ((d.size : Int) - 8))) rfl)
            rw [← hw7]
            have R7 := Lib.hid H7.out.rd
            have HH7 := Lib.hid hh7
            clear hw7 hh7
            refine (fault_any b _ _ _ H7.out.rd).mono ?_
            rintro e w9 ⟨rfl, rfl⟩
            simp only []
            obtain ⟨k0, k1, k2, k3, k4, k5, k6, k7, k8⟩ := pkCells H7.out.pk
            go_wp2_with fail
            refine (HC.out _).mono ?_
            rintro e w10 ⟨rfl, B10⟩
            simp only []
            have H10 := Lib.hid (H7.out.call B10)
            clear B10 k0 k1 k2 k3 k4 k5 k6 k7 k8
            obtain ⟨k0, k1, k2, k3, k4, k5, k6, k7, k8⟩ := pkCells H10.out.pk
            clear k1 k2 k3 k4 k5 k6 k7 k8
            go_wp2_with fail
            go_ret
            exact ⟨hd7, by rw [HE.out]; rfl, H10.out.hd, H10.out.only, fun _ => by rw [HH7.out, HH4.out, HP.out.1]; rfl⟩
          · have HE := Lib.hid (show udpE p = 131 by rw [HE0.out, if_neg (by simpa using q4), if_pos (by simp [qS])])
            clear HE0 q4 qS q6 n4b n4c hs8 hn4 hn6 hS
            go_enter Try.func27, Try.ntmps27
            go_wp2_with fail
            refine HN.out.mono ?_
            rintro e w1 ⟨rfl, h1w⟩
            rw [← hP]
            simp only []
            have H1 := Lib.hid h1w
            clear h1w hP
            have R1 := Lib.hid (show Rd w1 b 72 (Lf d 0) 0 by rw [Lf_zero]; exact H1.out.rd)
            go_wp2_with fail
            refine (u16_at d b 0 _ R1.out (by omega) HP.out.2).mono ?_
            rintro e w2 ⟨rfl, hl⟩
            simp only []
            have R2 := Lib.hid hl.rd
            have H2 := Lib.hid (H1.out.read hl)
            clear hl
            go_wp2_with fail
            refine (u16_at d b 2 _ R2.out (by omega) HP.out.2).mono ?_
            rintro e w3 ⟨rfl, hl⟩
            simp only []
            have R3 := Lib.hid hl.rd
            have H3 := Lib.hid (H2.out.read hl)
            clear hl
            obtain ⟨⟨g7, g8, g9, g10, g11, g12⟩, ⟨z7, z8, z9, z10, z11, z12⟩⟩ := hdSets H3.out.hd
            go_wp2_with fail
            clear g7 g8 g9 g10 g11 g12 z7 z8 z9 z10 z11 z12
            obtain ⟨hd4, hh4⟩ : ∃ x : Hd, x = (Hd.mk (Fl.mk (Hd.mk (Fl.mk h.fl.proto h.fl.src h.fl.dst (n2 d 0) h.fl.tp) h.flags h.kind h.code h.size).fl.proto (Hd.mk (Fl.mk h.fl.proto h.fl.src h.fl.dst (n2 d 0) h.fl.tp) h.flags h.kind h.code h.size).fl.src (Hd.mk (Fl.mk h.fl.proto h.fl.src h.fl.dst (n2 d 0) h.fl.tp) h.flags h.kind h.code h.size).fl.dst (Hd.mk (Fl.mk h.fl.proto h.fl.src h.fl.dst (n2 d 0) h.fl.tp) h.flags h.kind h.code h.size).fl.fp (n2 d 2)) (Hd.mk (Fl.mk h.fl.proto h.fl.src h.fl.dst (n2 d 0) h.fl.tp) h.flags h.kind h.code h.size).flags (Hd.mk (Fl.mk h.fl.proto h.fl.src h.fl.dst (n2 d 0) h.fl.tp) h.flags h.kind h.code h.size).kind (Hd.mk (Fl.mk h.fl.proto h.fl.src h.fl.dst (n2 d 0) h.fl.tp) h.flags h.kind h.code h.size).code (Hd.mk (Fl.mk h.fl.proto h.fl.src h.fl.dst (n2 d 0) h.fl.tp) h.flags h.kind h.code h.size).size) := ⟨_, rfl⟩
            obtain ⟨w4, hw4⟩ : ∃ x, x = (World.setCell (World.setCell w3 ⟨H, 7, none⟩ (.int .u16 (n2 d 0))) ⟨H, 8, none⟩ (.int .u16 (n2 d 2))) := ⟨_, rfl⟩
            have H4 : Hid (PS P b H #[.bool true, .int .u64 h1, .int .u64 l1, .bool v2, .int .u64 h2, .int .u64 l2, .int .u8 pr, .int .u8 tt, .string d] (Lf d 4) 0 hd4 w w4) := by rw [hw4, hh4]; exact Lib.hid ((H3.out.set (h' := (Hd.mk (Fl.mk h.fl.proto h.fl.src h.fl.dst (n2 d 0) h.fl.tp) h.flags h.kind h.code h.size)) rfl).set (h' := (Hd.mk (Fl.mk (Hd.mk (Fl.mk h.fl.proto h.fl.src h.fl.dst (n2 d 0) h.fl.tp) h.flags h.kind h.code h.size).fl.proto (Hd.mk (Fl.mk h.fl.proto h.fl.src h.fl.dst (n2 d 0) h.fl.tp) h.flags h.kind h.code h.size).fl.src (Hd.mk (Fl.mk h.fl.proto h.fl.src h.fl.dst (n2 d 0) h.fl.tp) h.flags h.kind h.code h.size).fl.dst (Hd.mk (Fl.mk h.fl.proto h.fl.src h.fl.dst (n2 d 0) h.fl.tp) h.flags h.kind h.code h.size).fl.fp (n2 d 2)) (Hd.mk (Fl.mk h.fl.proto h.fl.src h.fl.dst (n2 d 0) h.fl.tp) h.flags h.kind h.code h.size).flags (Hd.mk (Fl.mk h.fl.proto h.fl.src h.fl.dst (n2 d 0) h.fl.tp) h.flags h.kind h.code h.size).kind (Hd.mk (Fl.mk h.fl.proto h.fl.src h.fl.dst (n2 d 0) h.fl.tp) h.flags h.kind h.code h.size).code (Hd.mk (Fl.mk h.fl.proto h.fl.src h.fl.dst (n2 d 0) h.fl.tp) h.flags h.kind h.code h.size).size)) rfl)
            rw [← hw4]
            have R4 := Lib.hid H4.out.rd
            have HH4 := Lib.hid hh4
            clear hw4 hh4
            refine (u16_at d b 4 _ R4.out (by omega) HP.out.2).mono ?_
            rintro e w5 ⟨rfl, hl⟩
            rw [← HQ.out.1]
            simp only []
            have R5 := Lib.hid hl.rd
            have H5 := Lib.hid (H4.out.read hl)
            clear hl
            go_wp2_with fail
            refine (u16_at d b 6 _ R5.out (by omega) HP.out.2).mono ?_
            rintro e w6 ⟨rfl, hl⟩
            rw [← HQ.out.2.1]
            simp only []
            have R6 := Lib.hid hl.rd
            have H6 := Lib.hid (H5.out.read hl)
            clear hl
            go_wp2_with fail
            refine (left_any b _ _ _ H6.out.rd).mono ?_
            rintro e w9 ⟨rfl, rfl⟩
            simp only []
            rw [show ((Lf d 8).size : Int) = (d.size : Int) - 8 by rw [Lf_size]; omega]
            obtain ⟨⟨g7, g8, g9, g10, g11, g12⟩, ⟨z7, z8, z9, z10, z11, z12⟩⟩ := hdSets H6.out.hd
            go_wp2_with fail
            clear g7 g8 g9 g10 g11 g12 z7 z8 z9 z10 z11 z12
            obtain ⟨hd7, hh7⟩ : ∃ x : Hd, x = (Hd.mk hd4.fl hd4.flags hd4.kind hd4.code ((d.size : Int) - 8)) := ⟨_, rfl⟩
            obtain ⟨w7, hw7⟩ : ∃ x, x = (World.setCell w6 ⟨H, 12, none⟩ (.int .i64 ((d.size : Int) - 8))) := ⟨_, rfl⟩
            have H7 : Hid (PS P b H #[.bool true, .int .u64 h1, .int .u64 l1, .bool v2, .int .u64 h2, .int .u64 l2, .int .u8 pr, .int .u8 tt, .string d] (Lf d 8) 0 hd7 w w7) := by rw [hw7, hh7]; exact Lib.hid (H6.out.set (h' := (Hd.mk hd4.fl hd4.flags hd4.kind hd4.code ((d.size : Int) - 8))) rfl)
            rw [← hw7]
            have R7 := Lib.hid H7.out.rd
            have HH7 := Lib.hid hh7
            clear hw7 hh7
            refine (fault_any b _ _ _ H7.out.rd).mono ?_
            rintro e w9 ⟨rfl, rfl⟩
            simp only []
            obtain ⟨k0, k1, k2, k3, k4, k5, k6, k7, k8⟩ := pkCells H7.out.pk
            go_wp2_with fail
            refine (HC.out _).mono ?_
            rintro e w10 ⟨rfl, B10⟩
            simp only []
            have H10 := Lib.hid (H7.out.call B10)
            clear B10 k0 k1 k2 k3 k4 k5 k6 k7 k8
            obtain ⟨k0, k1, k2, k3, k4, k5, k6, k7, k8⟩ := pkCells H10.out.pk
            clear k1 k2 k3 k4 k5 k6 k7 k8
            go_wp2_with fail
            go_ret
            exact ⟨hd7, by rw [HE.out]; rfl, H10.out.hd, H10.out.only, fun q => by rw [HE.out] at q; exact absurd q (by decide)⟩
        · have c6 : ((n6 : Int) != 0) = true := bne_iff_ne.2 (by omega)
          have HE := Lib.hid (show udpE p = 131 by rw [HE0.out, if_neg (by simpa using q4), if_pos (by simp [qS, q6])])
          clear HE0 q4 qS q6 n4b n4c hs8 hn4 hn6 hS
          go_enter Try.func27, Try.ntmps27
          go_wp2_with fail
          refine HN.out.mono ?_
          rintro e w1 ⟨rfl, h1w⟩
          rw [← hP]
          simp only []
          have H1 := Lib.hid h1w
          clear h1w hP
          have R1 := Lib.hid (show Rd w1 b 72 (Lf d 0) 0 by rw [Lf_zero]; exact H1.out.rd)
          go_wp2_with fail
          refine (u16_at d b 0 _ R1.out (by omega) HP.out.2).mono ?_
          rintro e w2 ⟨rfl, hl⟩
          simp only []
          have R2 := Lib.hid hl.rd
          have H2 := Lib.hid (H1.out.read hl)
          clear hl
          go_wp2_with fail
          refine (u16_at d b 2 _ R2.out (by omega) HP.out.2).mono ?_
          rintro e w3 ⟨rfl, hl⟩
          simp only []
          have R3 := Lib.hid hl.rd
          have H3 := Lib.hid (H2.out.read hl)
          clear hl
          obtain ⟨⟨g7, g8, g9, g10, g11, g12⟩, ⟨z7, z8, z9, z10, z11, z12⟩⟩ := hdSets H3.out.hd
          go_wp2_with fail
          clear g7 g8 g9 g10 g11 g12 z7 z8 z9 z10 z11 z12
          obtain ⟨hd4, hh4⟩ : ∃ x : Hd, x = (Hd.mk (Fl.mk (Hd.mk (Fl.mk h.fl.proto h.fl.src h.fl.dst (n2 d 0) h.fl.tp) h.flags h.kind h.code h.size).fl.proto (Hd.mk (Fl.mk h.fl.proto h.fl.src h.fl.dst (n2 d 0) h.fl.tp) h.flags h.kind h.code h.size).fl.src (Hd.mk (Fl.mk h.fl.proto h.fl.src h.fl.dst (n2 d 0) h.fl.tp) h.flags h.kind h.code h.size).fl.dst (Hd.mk (Fl.mk h.fl.proto h.fl.src h.fl.dst (n2 d 0) h.fl.tp) h.flags h.kind h.code h.size).fl.fp (n2 d 2)) (Hd.mk (Fl.mk h.fl.proto h.fl.src h.fl.dst (n2 d 0) h.fl.tp) h.flags h.kind h.code h.size).flags (Hd.mk (Fl.mk h.fl.proto h.fl.src h.fl.dst (n2 d 0) h.fl.tp) h.flags h.kind h.code h.size).kind (Hd.mk (Fl.mk h.fl.proto h.fl.src h.fl.dst (n2 d 0) h.fl.tp) h.flags h.kind h.code h.size).code (Hd.mk (Fl.mk h.fl.proto h.fl.src h.fl.dst (n2 d 0) h.fl.tp) h.flags h.kind h.code h.size).size) := ⟨_, rfl⟩
          obtain ⟨w4, hw4⟩ : ∃ x, x = (World.setCell (World.setCell w3 ⟨H, 7, none⟩ (.int .u16 (n2 d 0))) ⟨H, 8, none⟩ (.int .u16 (n2 d 2))) := ⟨_, rfl⟩
          have H4 : Hid (PS P b H #[.bool v1, .int .u64 h1, .int .u64 l1, .bool v2, .int .u64 h2, .int .u64 l2, .int .u8 pr, .int .u8 tt, .string d] (Lf d 4) 0 hd4 w w4) := by rw [hw4, hh4]; exact Lib.hid ((H3.out.set (h' := (Hd.mk (Fl.mk h.fl.proto h.fl.src h.fl.dst (n2 d 0) h.fl.tp) h.flags h.kind h.code h.size)) rfl).set (h' := (Hd.mk (Fl.mk (Hd.mk (Fl.mk h.fl.proto h.fl.src h.fl.dst (n2 d 0) h.fl.tp) h.flags h.kind h.code h.size).fl.proto (Hd.mk (Fl.mk h.fl.proto h.fl.src h.fl.dst (n2 d 0) h.fl.tp) h.flags h.kind h.code h.size).fl.src (Hd.mk (Fl.mk h.fl.proto h.fl.src h.fl.dst (n2 d 0) h.fl.tp) h.flags h.kind h.code h.size).fl.dst (Hd.mk (Fl.mk h.fl.proto h.fl.src h.fl.dst (n2 d 0) h.fl.tp) h.flags h.kind h.code h.size).fl.fp (n2 d 2)) (Hd.mk (Fl.mk h.fl.proto h.fl.src h.fl.dst (n2 d 0) h.fl.tp) h.flags h.kind h.code h.size).flags (Hd.mk (Fl.mk h.fl.proto h.fl.src h.fl.dst (n2 d 0) h.fl.tp) h.flags h.kind h.code h.size).kind (Hd.mk (Fl.mk h.fl.proto h.fl.src h.fl.dst (n2 d 0) h.fl.tp) h.flags h.kind h.code h.size).code (Hd.mk (Fl.mk h.fl.proto h.fl.src h.fl.dst (n2 d 0) h.fl.tp) h.flags h.kind h.code h.size).size)) rfl)
          rw [← hw4]
          have R4 := Lib.hid H4.out.rd
          have HH4 := Lib.hid hh4
          clear hw4 hh4
          refine (u16_at d b 4 _ R4.out (by omega) HP.out.2).mono ?_
          rintro e w5 ⟨rfl, hl⟩
          rw [← HQ.out.1]
          simp only []
          have R5 := Lib.hid hl.rd
          have H5 := Lib.hid (H4.out.read hl)
          clear hl
          go_wp2_with fail
          refine (u16_at d b 6 _ R5.out (by omega) HP.out.2).mono ?_
          rintro e w6 ⟨rfl, hl⟩
          rw [← HQ.out.2.1]
          simp only []
          have R6 := Lib.hid hl.rd
          have H6 := Lib.hid (H5.out.read hl)
          clear hl
          go_wp2_with fail
          refine (left_any b _ _ _ H6.out.rd).mono ?_
          rintro e w9 ⟨rfl, rfl⟩
          simp only []
          rw [show ((Lf d 8).size : Int) = (d.size : Int) - 8 by rw [Lf_size]; omega]
          obtain ⟨⟨g7, g8, g9, g10, g11, g12⟩, ⟨z7, z8, z9, z10, z11, z12⟩⟩ := hdSets H6.out.hd
          go_wp2_with fail
          clear g7 g8 g9 g10 g11 g12 z7 z8 z9 z10 z11 z12
          obtain ⟨hd7, hh7⟩ : ∃ x : Hd, x = (Hd.mk hd4.fl hd4.flags hd4.kind hd4.code ((d.size : Int) - 8)) := ⟨_, rfl⟩
          obtain ⟨w7, hw7⟩ : ∃ x, x = (World.setCell w6 ⟨H, 12, none⟩ (.int .i64 ((d.size : Int) - 8))) := ⟨_, rfl⟩
          have H7 : Hid (PS P b H #[.bool v1, .int .u64 h1, .int .u64 l1, .bool v2, .int .u64 h2, .int .u64 l2, .int .u8 pr, .int .u8 tt, .string d] (Lf d 8) 0 hd7 w w7) := by rw [hw7, hh7]; exact Lib.hid (H6.out.set (h' := (Hd.mk hd4.fl hd4.flags hd4.kind hd4.code ((d.size : Int) - 8))) rfl)
          rw [← hw7]
          have R7 := Lib.hid H7.out.rd
          have HH7 := Lib.hid hh7
          clear hw7 hh7
          refine (fault_any b _ _ _ H7.out.rd).mono ?_
          rintro e w9 ⟨rfl, rfl⟩
          simp only []
          obtain ⟨k0, k1, k2, k3, k4, k5, k6, k7, k8⟩ := pkCells H7.out.pk
          go_wp2_with fail
          refine (HC.out _).mono ?_
          rintro e w10 ⟨rfl, B10⟩
          simp only []
          have H10 := Lib.hid (H7.out.call B10)
          clear B10 k0 k1 k2 k3 k4 k5 k6 k7 k8
          obtain ⟨k0, k1, k2, k3, k4, k5, k6, k7, k8⟩ := pkCells H10.out.pk
          clear k1 k2 k3 k4 k5 k6 k7 k8
          go_wp2_with fail
          go_ret
          exact ⟨hd7, by rw [HE.out]; rfl, H10.out.hd, H10.out.only, fun q => by rw [HE.out] at q; exact absurd q (by decide)⟩
    · have c4 : ((n4 : Int) != (d.size : Int)) = true := bne_iff_ne.2 (by omega)
      have HE := Lib.hid (show udpE p = 8 by rw [HE0.out, if_pos (by simpa using q4)])
      clear HE0 q4 n4b n4c hs8 hn4 hn6 hS
      go_enter Try.func27, Try.ntmps27
      go_wp2_with fail
      refine HN.out.mono ?_
      rintro e w1 ⟨rfl, h1w⟩
      rw [← hP]
      simp only []
      have H1 := Lib.hid h1w
      clear h1w hP
      have R1 := Lib.hid (show Rd w1 b 72 (Lf d 0) 0 by rw [Lf_zero]; exact H1.out.rd)
      go_wp2_with fail
      refine (u16_at d b 0 _ R1.out (by omega) HP.out.2).mono ?_
      rintro e w2 ⟨rfl, hl⟩
      simp only []
      have R2 := Lib.hid hl.rd
      have H2 := Lib.hid (H1.out.read hl)
      clear hl
      go_wp2_with fail
      refine (u16_at d b 2 _ R2.out (by omega) HP.out.2).mono ?_
      rintro e w3 ⟨rfl, hl⟩
      simp only []
      have R3 := Lib.hid hl.rd
      have H3 := Lib.hid (H2.out.read hl)
      clear hl
      obtain ⟨⟨g7, g8, g9, g10, g11, g12⟩, ⟨z7, z8, z9, z10, z11, z12⟩⟩ := hdSets H3.out.hd
      go_wp2_with fail
      clear g7 g8 g9 g10 g11 g12 z7 z8 z9 z10 z11 z12
      obtain ⟨hd4, hh4⟩ : ∃ x : Hd, x = (Hd.mk (Fl.mk (Hd.mk (Fl.mk h.fl.proto h.fl.src h.fl.dst (n2 d 0) h.fl.tp) h.flags h.kind h.code h.size).fl.proto (Hd.mk (Fl.mk h.fl.proto h.fl.src h.fl.dst (n2 d 0) h.fl.tp) h.flags h.kind h.code h.size).fl.src (Hd.mk (Fl.mk h.fl.proto h.fl.src h.fl.dst (n2 d 0) h.fl.tp) h.flags h.kind h.code h.size).fl.dst (Hd.mk (Fl.mk h.fl.proto h.fl.src h.fl.dst (n2 d 0) h.fl.tp) h.flags h.kind h.code h.size).fl.fp (n2 d 2)) (Hd.mk (Fl.mk h.fl.proto h.fl.src h.fl.dst (n2 d 0) h.fl.tp) h.flags h.kind h.code h.size).flags (Hd.mk (Fl.mk h.fl.proto h.fl.src h.fl.dst (n2 d 0) h.fl.tp) h.flags h.kind h.code h.size).kind (Hd.mk (Fl.mk h.fl.proto h.fl.src h.fl.dst (n2 d 0) h.fl.tp) h.flags h.kind h.code h.size).code (Hd.mk (Fl.mk h.fl.proto h.fl.src h.fl.dst (n2 d 0) h.fl.tp) h.flags h.kind h.code h.size).size) := ⟨_, rfl⟩
      obtain ⟨w4, hw4⟩ : ∃ x, x = (World.setCell (World.setCell w3 ⟨H, 7, none⟩ (.int .u16 (n2 d 0))) ⟨H, 8, none⟩ (.int .u16 (n2 d 2))) := ⟨_, rfl⟩
      have H4 : Hid (PS P b H #[.bool v1, .int .u64 h1, .int .u64 l1, .bool v2, .int .u64 h2, .int .u64 l2, .int .u8 pr, .int .u8 tt, .string d] (Lf d 4) 0 hd4 w w4) := by rw [hw4, hh4]; exact Lib.hid ((H3.out.set (h' := (Hd.mk (Fl.mk h.fl.proto h.fl.src h.fl.dst (n2 d 0) h.fl.tp) h.flags h.kind h.code h.size)) rfl).set (h' := (Hd.mk (Fl.mk (Hd.mk (Fl.mk h.fl.proto h.fl.src h.fl.dst (n2 d 0) h.fl.tp) h.flags h.kind h.code h.size).fl.proto (Hd.mk (Fl.mk h.fl.proto h.fl.src h.fl.dst (n2 d 0) h.fl.tp) h.flags h.kind h.code h.size).fl.src (Hd.mk (Fl.mk h.fl.proto h.fl.src h.fl.dst (n2 d 0) h.fl.tp) h.flags h.kind h.code h.size).fl.dst (Hd.mk (Fl.mk h.fl.proto h.fl.src h.fl.dst (n2 d 0) h.fl.tp) h.flags h.kind h.code h.size).fl.fp (n2 d 2)) (Hd.mk (Fl.mk h.fl.proto h.fl.src h.fl.dst (n2 d 0) h.fl.tp) h.flags h.kind h.code h.size).flags (Hd.mk (Fl.mk h.fl.proto h.fl.src h.fl.dst (n2 d 0) h.fl.tp) h.flags h.kind h.code h.size).kind (Hd.mk (Fl.mk h.fl.proto h.fl.src h.fl.dst (n2 d 0) h.fl.tp) h.flags h.kind h.code h.size).code (Hd.mk (Fl.mk h.fl.proto h.fl.src h.fl.dst (n2 d 0) h.fl.tp) h.flags h.kind h.code h.size).size)) rfl)
      rw [← hw4]
      have R4 := Lib.hid H4.out.rd
      have HH4 := Lib.hid hh4
      clear hw4 hh4
      refine (u16_at d b 4 _ R4.out (by omega) HP.out.2).mono ?_
      rintro e w5 ⟨rfl, hl⟩
      rw [← HQ.out.1]
      simp only []
      have R5 := Lib.hid hl.rd
      have H5 := Lib.hid (H4.out.read hl)
      clear hl
      go_wp2_with fail
      refine (u16_at d b 6 _ R5.out (by omega) HP.out.2).mono ?_
      rintro e w6 ⟨rfl, hl⟩
      rw [← HQ.out.2.1]
      simp only []
      have R6 := Lib.hid hl.rd
      have H6 := Lib.hid (H5.out.read hl)
      clear hl
      go_wp2_with fail
      refine (left_any b _ _ _ H6.out.rd).mono ?_
      rintro e w9 ⟨rfl, rfl⟩
      simp only []
      rw [show ((Lf d 8).size : Int) = (d.size : Int) - 8 by rw [Lf_size]; omega]
      obtain ⟨⟨g7, g8, g9, g10, g11, g12⟩, ⟨z7, z8, z9, z10, z11, z12⟩⟩ := hdSets H6.out.hd
      go_wp2_with fail
      clear g7 g8 g9 g10 g11 g12 z7 z8 z9 z10 z11 z12
      obtain ⟨hd7, hh7⟩ : ∃ x : Hd, x = (Hd.mk hd4.fl hd4.flags hd4.kind hd4.code ((d.size : Int) - 8)) := ⟨_, rfl⟩
      obtain ⟨w7, hw7⟩ : ∃ x, x = (World.setCell w6 ⟨H, 12, none⟩ (.int .i64 ((d.size : Int) - 8))) := ⟨_, rfl⟩
      have H7 : Hid (PS P b H #[.bool v1, .int .u64 h1, .int .u64 l1, .bool v2, .int .u64 h2, .int .u64 l2, .int .u8 pr, .int .u8 tt, .string d] (Lf d 8) 0 hd7 w w7) := by rw [hw7, hh7]; exact Lib.hid (H6.out.set (h' := (Hd.mk hd4.fl hd4.flags hd4.kind hd4.code ((d.size : Int) - 8))) rfl)
      rw [← hw7]
      have R7 := Lib.hid H7.out.rd
      have HH7 := Lib.hid hh7
      clear hw7 hh7
      refine (fault_any b _ _ _ H7.out.rd).mono ?_
      rintro e w9 ⟨rfl, rfl⟩
      simp only []
      obtain ⟨k0, k1, k2, k3, k4, k5, k6, k7, k8⟩ := pkCells H7.out.pk
      go_wp2_with fail
      go_ret
      exact ⟨hd7, by rw [HE.out]; rfl, H7.out.hd, H7.out.only, fun q => by rw [HE.out] at q; exact absurd q (by decide)⟩

end Go.Proofs.Ytgonakpoflacoaa
