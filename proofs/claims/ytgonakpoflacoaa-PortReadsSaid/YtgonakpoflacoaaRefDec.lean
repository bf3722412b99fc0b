/-
  A packet told by the document: whatever it carries.
-/
import Derived.Test.YtgonakpoflacoaaRefDecU
import Derived.Test.YtgonakpoflacoaaRefDecT
import Derived.Test.YtgonakpoflacoaaRefDecI4
import Derived.Test.YtgonakpoflacoaaRefDecI6
set_option linter.unusedVariables false
set_option linter.unusedSimpArgs false
namespace Go.Proofs.Ytgonakpoflacoaa
open Go.RowKit

set_option maxHeartbeats 16000000 in
set_option maxRecDepth 100000 in
theorem refDecode_other (p : Pk) (w : World) (hok : p.Ok) (hd : p.data.size ≤ 10000) (h0m : mayE p = 0) (n17 : ¬ p.proto = 17) (n6 : ¬ p.proto = 6) (n1 : ¬ p.proto = 1) (n58 : ¬ p.proto = 58) :
    Calls Try.prog 15 #[p.val] w fun e w' => e = .returned (.tuple #[(decH p).val, .int .i64 (decE p)]) ∧ Below w.heap.size w w' := by
  obtain ⟨⟨v1, h1, l1⟩, ⟨v2, h2, l2⟩, pr, tt, d⟩ := p
  obtain ⟨p, hp⟩ : ∃ p : Pk, p = ⟨⟨v1, h1, l1⟩, ⟨v2, h2, l2⟩, pr, tt, d⟩ := ⟨_, rfl⟩
  have hpv : p.val = .agg #[.bool v1, .int .u64 h1, .int .u64 l1, .bool v2, .int .u64 h2, .int .u64 l2, .int .u8 pr, .int .u8 tt, .string d] := by rw [hp]; rfl
  rw [← hp] at hok hd h0m ⊢
  have hd' : d.size ≤ 10000 := by have := hd; rw [hp] at this; exact this
  have C1 : ∀ u, Calls Try.prog 30 #[.agg #[.bool v1, .int .u64 h1, .int .u64 l1, .bool v2, .int .u64 h2, .int .u64 l2, .int .u8 pr, .int .u8 tt, .string d]] u fun e w' => e = .returned (.int .i64 0) ∧ Below u.heap.size u w' := fun u => by rw [← hpv, ← h0m]; exact refMay_any p u (by omega)
  have C2 : ∀ u, Calls Try.prog 32 #[.agg #[.bool v1, .int .u64 h1, .int .u64 l1, .bool v2, .int .u64 h2, .int .u64 l2, .int .u8 pr, .int .u8 tt, .string d]] u fun e w' => e = .returned (.int .u16 (sumP p)) ∧ Below u.heap.size u w' := fun u => by rw [← hpv]; exact refSum_any p u hok hd
  have HP := Lib.hid (And.intro hp hd')
  have hz : (d.size : Int) ≤ 10000 := by omega
  obtain ⟨h0, hh0⟩ : ∃ x, x = hd1 p := ⟨_, rfl⟩
  have HH0 := Lib.hid (show h0.cells = #[.int .u8 pr, .bool v1, .int .u64 h1, .int .u64 l1, .bool v2, .int .u64 h2, .int .u64 l2, .int .u16 0, .int .u16 0, .int .u8 0, .int .u8 0, .int .u8 0, .int .i64 0] by rw [hh0, hp]; rfl)
  obtain ⟨fs, hfs⟩ := under30
  have U30 := Lib.hid hfs
  obtain ⟨fs', hfs'⟩ := under41
  have U41 := Lib.hid hfs'
  obtain ⟨S, hS⟩ : ∃ x, x = sumP p := ⟨_, rfl⟩
  rw [← hS] at C2
  have HC := Lib.hid (And.intro C1 C2)
  have HS := Lib.hid hS
  have hh0 := Lib.hid hh0
  have HM := Lib.hid h0m
  rw [hpv]
  clear hok hd hpv C1 C2 hp hfs hfs' hS h0m hd'
  have c17 : ((pr : Int) == 17) = false := byNe (b := 17) n17
  have c6 : ((pr : Int) == 6) = false := byNe (b := 6) n6
  have c1 : ((pr : Int) == 1) = false := byNe (b := 1) n1
  have c58 : ((pr : Int) == 58) = false := byNe (b := 58) n58
  have m17 : ¬ p.proto = 17 := by rw [HP.out.1]; exact n17
  have m6 : ¬ p.proto = 6 := by rw [HP.out.1]; exact n6
  have m1 : ¬ p.proto = 1 := by rw [HP.out.1]; exact n1
  have m58 : ¬ p.proto = 58 := by rw [HP.out.1]; exact n58
  have HQ := Lib.hid (show decE p = 0 ∧ decG p = hd0 p by unfold decE decG; rw [HM.out]; simp [m17, m6, m1, m58])
  have HE := Lib.hid HQ.out.1
  clear n17 n6 n1 n58 m17 m6 m1 m58
  go_enter Try.func15, Try.ntmps15
  go_wp2_with fail
  refine (HC.out.1 _).mono ?_
  rintro e w1 ⟨rfl, B1⟩
  simp only []
  have Q0 : QS w.heap.size (w.heap.size + 1) w1.heap.size #[.bool v1, .int .u64 h1, .int .u64 l1, .bool v2, .int .u64 h2, .int .u64 l2, .int .u8 pr, .int .u8 tt, .string d] h0 w (w1.alloc (.cells h0.cells 41)) := QS.start B1
  rw [HH0.out] at Q0
  obtain ⟨k0, k1, k2, k3, k4, k5, k6, k7, k8⟩ := pkCells (two_allocs B1).1
  clear B1
  go_upto_region 5 with (fail)
  clear k0 k1 k2 k3 k4 k5 k6 k7 k8
  obtain ⟨H, hH⟩ : ∃ x, x = w1.heap.size := ⟨_, rfl⟩
  obtain ⟨w0, hw0⟩ : ∃ x, x = w1.alloc (.cells #[.int .u8 pr, .bool v1, .int .u64 h1, .int .u64 l1, .bool v2, .int .u64 h2, .int .u64 l2, .int .u16 0, .int .u16 0, .int .u8 0, .int .u8 0, .int .u8 0, .int .i64 0] 41) := ⟨_, rfl⟩
  rw [← hw0, ← hH] at Q0 ⊢
  clear hw0 hH
  obtain ⟨R, hR⟩ : ∃ x, x = w.heap.size + 1 := ⟨_, rfl⟩
  obtain ⟨P, hP⟩ : ∃ x, x = w.heap.size := ⟨_, rfl⟩
  have H0 : Hid (QS P R H #[.bool v1, .int .u64 h1, .int .u64 l1, .bool v2, .int .u64 h2, .int .u64 l2, .int .u8 pr, .int .u8 tt, .string d] h0 w w0) := by rw [hR, hP]; exact Lib.hid Q0
  rw [← hR]
  rw [← hP]
  clear hR hP Q0
  obtain ⟨⟨g7, g8, g9, g10, g11, g12⟩, ⟨z7, z8, z9, z10, z11, z12⟩⟩ := hdSets H0.out.hd
  obtain ⟨k0, k1, k2, k3, k4, k5, k6, k7, k8⟩ := pkCells H0.out.pk
  go_upto_region 44 with (fail)
  clear g7 g8 g9 g10 g11 g12 z7 z8 z9 z10 z11 z12
  clear k0 k1 k2 k3 k4 k5 k6 k7 k8
  obtain ⟨hx1, hh1⟩ : ∃ x : Hd, x = (Hd.mk h0.fl h0.flags h0.kind h0.code (d.size : Int)) := ⟨_, rfl⟩
  obtain ⟨w1, hw1⟩ : ∃ x, x = (World.setCell w0 ⟨H, 12, none⟩ (.int .i64 (d.size : Int))) := ⟨_, rfl⟩
  have H1 : Hid (QS P R H #[.bool v1, .int .u64 h1, .int .u64 l1, .bool v2, .int .u64 h2, .int .u64 l2, .int .u8 pr, .int .u8 tt, .string d] hx1 w w1) := by rw [hw1, hh1]; exact Lib.hid (H0.out.set (h' := (Hd.mk h0.fl h0.flags h0.kind h0.code (d.size : Int))) rfl)
  rw [← hw1]
  have HH1 := Lib.hid hh1
  clear hw1 hh1
  go_wp2_with (first | (refine Go.wpList_load_row rfl 41 _ rfl H rfl 41 _ (0, 0) _ H1.out.hd U41.out rfl info41 ?_) | (refine Go.wpList_store_row rfl 41 _ _ rfl R (Hd.cells hx1) rfl rfl 41 _ H1.out.rr info41 rfl (hdOne _) ?_))
  have D := setRow_heap w1 R _ (Hd.cells hx1) _ _ H1.out.rr
  have BW := H1.out.below.trans ((onlyRow R w1 (Hd.cells hx1)).below H1.out.nR H1.out.below.size)
  obtain ⟨wz, hwz⟩ : ∃ uu, uu = World.setRow w1 R (Hd.cells hx1) := ⟨_, rfl⟩
  rw [← hwz] at D BW ⊢
  obtain ⟨⟨j0, j1, j2, j3, j4, j5, j6⟩, j7, j8, j9, j10, j11, j12⟩ := hdAll D
  have HF := Lib.hid BW
  clear BW D hwz
  refine bodyPost_ret (v := .tuple #[.agg #[.int .u8 hx1.fl.proto, .bool hx1.fl.src.v6, .int .u64 hx1.fl.src.hi, .int .u64 hx1.fl.src.lo, .bool hx1.fl.dst.v6, .int .u64 hx1.fl.dst.hi, .int .u64 hx1.fl.dst.lo, .int .u16 hx1.fl.fp, .int .u16 hx1.fl.tp, .int .u8 hx1.flags, .int .u8 hx1.kind, .int .u8 hx1.code, .int .i64 hx1.size], .int .i64 0]) (by simp [results, Try.results15, go_sem, j0, j1, j2, j3, j4, j5, j6, j7, j8, j9, j10, j11, j12]) rfl ⟨?_, HF.out⟩
  have HG : decH p = hx1 := by
    unfold decH
    rw [if_pos HE.out, HQ.out.2, HH1.out, hh0.out]
    rw [show hd0 p = Hd.mk (Fl.mk p.proto p.src p.dst 0 0) 0 0 0 (p.data.size : Int) from rfl, HP.out.1]; rfl
  rw [HG, HE.out]
  rfl
set_option maxHeartbeats 16000000 in
set_option maxRecDepth 100000 in
theorem refDecode_err (p : Pk) (w : World) (hd : p.data.size ≤ 10000) (h0m : ¬ mayE p = 0) :
    Calls Try.prog 15 #[p.val] w fun e w' => e = .returned (.tuple #[(decH p).val, .int .i64 (decE p)]) ∧ Below w.heap.size w w' := by
  have hde : decE p = mayE p := by unfold decE; rw [if_pos h0m]
  have hdz : (decH p).val = .agg #[.int .u8 0, .bool false, .int .u64 0, .int .u64 0, .bool false, .int .u64 0, .int .u64 0, .int .u16 0, .int .u16 0, .int .u8 0, .int .u8 0, .int .u8 0, .int .i64 0] := by unfold decH; rw [if_neg (by rw [hde]; exact h0m)]; rfl
  rw [hdz, hde]
  clear hdz hde
  obtain ⟨E, hE⟩ : ∃ x, x = mayE p := ⟨_, rfl⟩
  rw [← hE] at h0m ⊢
  have e0 : ((E : Int) != 0) = true := bne_iff_ne.2 h0m
  obtain ⟨⟨v1, h1, l1⟩, ⟨v2, h2, l2⟩, pr, tt, d⟩ := p
  obtain ⟨p, hp⟩ : ∃ p : Pk, p = ⟨⟨v1, h1, l1⟩, ⟨v2, h2, l2⟩, pr, tt, d⟩ := ⟨_, rfl⟩
  have hpv : p.val = .agg #[.bool v1, .int .u64 h1, .int .u64 l1, .bool v2, .int .u64 h2, .int .u64 l2, .int .u8 pr, .int .u8 tt, .string d] := by rw [hp]; rfl
  rw [← hp] at hd hE ⊢
  have C1 : ∀ u, Calls Try.prog 30 #[.agg #[.bool v1, .int .u64 h1, .int .u64 l1, .bool v2, .int .u64 h2, .int .u64 l2, .int .u8 pr, .int .u8 tt, .string d]] u fun e w' => e = .returned (.int .i64 E) ∧ Below u.heap.size u w' := fun u => by rw [← hpv, hE]; exact refMay_any p u (by omega)
  have HC := Lib.hid C1
  rw [hpv]
  clear hpv C1 hp hE h0m hd
  go_enter Try.func15, Try.ntmps15
  go_wp2_with fail
  refine (HC.out _).mono ?_
  rintro e w1 ⟨rfl, B1⟩
  simp only []
  obtain ⟨b1, b2, b3⟩ := two_allocs B1
  obtain ⟨R, hR⟩ : ∃ x, x = w.heap.size + 1 := ⟨_, rfl⟩
  have HR := Lib.hid (show w1.heap[R]? = some (.cells #[.int .u8 0, .bool false, .int .u64 0, .int .u64 0, .bool false, .int .u64 0, .int .u64 0, .int .u16 0, .int .u16 0, .int .u8 0, .int .u8 0, .int .u8 0, .int .i64 0] 41) ∧ Below w.heap.size w w1 ∧ w.heap.size ≤ R from ⟨by rw [hR]; exact b2, b3, by omega⟩)
  rw [← hR]
  clear hR b1 b2 b3 B1
  go_wp2_with (first | (refine Go.wpList_store_row rfl 41 _ _ rfl R Hd.zero.cells rfl rfl 41 _ HR.out.1 info41 rfl (hdOne _) ?_))
  have D := setRow_heap w1 R _ Hd.zero.cells _ _ HR.out.1
  have BW := HR.out.2.1.trans ((onlyRow R w1 Hd.zero.cells).below HR.out.2.2 HR.out.2.1.size)
  obtain ⟨wz, hwz⟩ : ∃ uu, uu = World.setRow w1 R Hd.zero.cells := ⟨_, rfl⟩
  rw [← hwz] at D BW ⊢
  obtain ⟨⟨j0, j1, j2, j3, j4, j5, j6⟩, j7, j8, j9, j10, j11, j12⟩ := hdAll D
  have HF := Lib.hid BW
  clear BW D hwz
  exact bodyPost_ret (v := .tuple #[.agg #[.int .u8 0, .bool false, .int .u64 0, .int .u64 0, .bool false, .int .u64 0, .int .u64 0, .int .u16 0, .int .u16 0, .int .u8 0, .int .u8 0, .int .u8 0, .int .i64 0], .int .i64 E]) (by simp [results, Try.results15, go_sem, j0, j1, j2, j3, j4, j5, j6, j7, j8, j9, j10, j11, j12, Hd.zero]) rfl ⟨rfl, HF.out⟩
theorem refDecode_any (p : Pk) (w : World) (hok : p.Ok) (hd : p.data.size ≤ 10000) :
    Calls Try.prog 15 #[p.val] w fun e w' => e = .returned (.tuple #[(decH p).val, .int .i64 (decE p)]) ∧ Below w.heap.size w w' := by
  by_cases hm : mayE p = 0
  · by_cases q17 : p.proto = 17
    · exact refDecode_udp p w hok hd hm q17
    · by_cases q6 : p.proto = 6
      · exact refDecode_tcp p w hok hd hm q6
      · by_cases q1 : p.proto = 1 ∨ p.proto = 58
        · cases hv : p.src.v6
          · exact refDecode_icmp_f p w hok hd hm q1 hv
          · exact refDecode_icmp_t p w hok hd hm q1 hv
        · exact refDecode_other p w hok hd hm q17 q6 (fun h => q1 (Or.inl h)) (fun h => q1 (Or.inr h))
  · exact refDecode_err p w hd hm

end Go.Proofs.Ytgonakpoflacoaa
