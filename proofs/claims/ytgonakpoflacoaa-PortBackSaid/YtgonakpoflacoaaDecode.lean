/-
  A packet told.
-/
import Derived.Test.YtgonakpoflacoaaPortTcp
import Derived.Test.YtgonakpoflacoaaPortIcmp
import Derived.Test.YtgonakpoflacoaaMade
import Derived.Outline
set_option linter.unusedVariables false
set_option linter.unusedSimpArgs false
namespace Go.Proofs.Ytgonakpoflacoaa
open Go.RowKit

def hd0 (p : Pk) : Hd := ⟨⟨p.proto, p.src, p.dst, 0, 0⟩, 0, 0, 0, p.data.size⟩
def decE (p : Pk) : Int := if mayE p ≠ 0 then mayE p else if p.proto = 17 then udpE p else if p.proto = 6 then tcpE p else if p.proto = 1 ∨ p.proto = 58 then icmpE p else 0
def decG (p : Pk) : Hd := if p.proto = 17 then udpG p (hd0 p) else if p.proto = 6 then tcpG p (hd0 p) else if p.proto = 1 ∨ p.proto = 58 then icmpG p (hd0 p) else hd0 p
def decH (p : Pk) : Hd := if decE p = 0 then decG p else Hd.zero
theorem info41 : (Try.prog.info? 41).map (·.size) = some 13 := by kernel_rfl
theorem under41 : ∃ fs, Try.prog.underlying 41 = some (.struct fs) := by
  have h : (match Try.prog.underlying 41 with | some (.struct _) => true | _ => false) = true := by kernel_rfl
  cases hq : Try.prog.underlying 41 with
  | none => simp [hq] at h
  | some d => cases d <;> simp [hq] at h; exact ⟨_, rfl⟩
theorem hdAll {u : World} {B : Nat} {c0 c1 c2 c3 c4 c5 c6 c7 c8 c9 c10 c11 c12 : Value} (h : u.heap[B]? = some (.cells #[c0, c1, c2, c3, c4, c5, c6, c7, c8, c9, c10, c11, c12] 41)) :
    (u.cell? ⟨B, 0, none⟩ = some c0 ∧ u.cell? ⟨B, 1, none⟩ = some c1 ∧ u.cell? ⟨B, 2, none⟩ = some c2 ∧ u.cell? ⟨B, 3, none⟩ = some c3 ∧ u.cell? ⟨B, 4, none⟩ = some c4 ∧ u.cell? ⟨B, 5, none⟩ = some c5 ∧ u.cell? ⟨B, 6, none⟩ = some c6) ∧ u.cell? ⟨B, 7, none⟩ = some c7 ∧ u.cell? ⟨B, 8, none⟩ = some c8 ∧ u.cell? ⟨B, 9, none⟩ = some c9 ∧ u.cell? ⟨B, 10, none⟩ = some c10 ∧ u.cell? ⟨B, 11, none⟩ = some c11 ∧ u.cell? ⟨B, 12, none⟩ = some c12 := by
  simp [World.cell?, h]
/-- Three blocks made, then more. -/
theorem three {w w1 : World} {a b c : Obj} (h : Below (((w.alloc a).alloc b).alloc c).heap.size (((w.alloc a).alloc b).alloc c) w1) :
    w1.heap[w.heap.size]? = some a ∧ w1.heap[w.heap.size + 1]? = some b ∧ w1.heap[w.heap.size + 1 + 1]? = some c ∧ Below w.heap.size w w1 := by
  have s1 : (w.alloc a).heap.size = w.heap.size + 1 := by simp
  have s2 : ((w.alloc a).alloc b).heap.size = w.heap.size + 1 + 1 := by simp
  refine ⟨?_, ?_, ?_, ?_⟩
  · rw [h.block _ (by simp; omega), heap_alloc_old _ _ (by rw [s2]; omega), heap_alloc_old _ _ (by rw [s1]; omega)]
    exact heap_alloc_last _ _
  · rw [h.block _ (by simp), heap_alloc_old _ _ (by rw [s2]; omega), ← s1]
    exact heap_alloc_last _ _
  · rw [h.block _ (by simp), ← s2]
    exact heap_alloc_last _ _
  · exact ((((Below.refl w.heap.size w).alloc (Nat.le_refl _) a).alloc (by simp) b).alloc (by simp; omega) c).trans (h.mono (by simp; omega))
theorem Only.three {w w1 w2 : World} {P R H : Nat} {a b : Obj} (o : Only H w1 w2) (hP : w1.heap[P]? = some a) (hR : w1.heap[R]? = some b) (nP : P ≠ H) (nR : R ≠ H) (hB : Below w.heap.size w w1) (hH : w.heap.size ≤ H) :
    w2.heap[P]? = some a ∧ w2.heap[R]? = some b ∧ Below w.heap.size w w2 := by
  refine ⟨(o.block P (lt_of_heap hP) nP).trans hP, (o.block R (lt_of_heap hR) nR).trans hR, hB.trans (o.below hH hB.size)⟩

theorem wp_scope_key {P : Program} {a : Act} {w : World} {Q : Exit → Act → World → Prop} {c R : Code} (l : Nat) (J : Act → World → Prop) (μ : Act → World → Nat) (hf : findLabel c l = some (Code.skip.seq R))
    (pass : ∀ a w, J a w → R.wp P (Exit.jump l (fun a' w' => J a' w' ∧ μ a' w' < μ a w) Q) a w)
    (first : (∀ a w, J a w → R.wp P (Exit.jump l J Q) a w) → c.wp P (Exit.jump l J Q) a w) : (Code.scope c).wp P Q a w :=
  wp_scope_jumps l J μ hf (first (fun a w h => Code.wp_mono (fun e a' w' he => by
    cases e <;> first | exact he | exact ⟨he.1, he.2.1⟩) (pass a w h))) (fun a w h => wp_seq (wp_skip (pass a w h)))
/-- What holds at the label. -/
def AtW (p : Pk) (w : World) (a : Act) (w' : World) : Prop :=
  ∃ (E : Int) (x0 x1 x3 x4 x6 x7 x8 x9 x10 x11 x12 x13 x14 x15 x16 x17 x18 x19 x20 x21 x22 x23 x24 x25 x26 x27 x28 x29 x30 x31 x32 x33 x34 x35 x36 x37 x38 x39 x40 x41 : Value), a = { tmps := #[x0, x1, .pointer (some ⟨w.heap.size + 1, 0, none⟩), x3, x4, .int .i64 E, x6, x7, x8, x9, x10, x11, x12, x13, x14, x15, x16, x17, x18, x19, x20, x21, x22, x23, x24, x25, x26, x27, x28, x29, x30, x31, x32, x33, x34, x35, x36, x37, x38, x39, x40, x41], defers := [] } ∧ (∃ cs : Array Value, cs.size = 13 ∧ w'.heap[w.heap.size + 1]? = some (.cells cs 41)) ∧ Below w.heap.size w w' ∧ E ≠ 0 ∧ E = decE p
set_option maxHeartbeats 16000000 in
set_option maxRecDepth 100000 in
theorem decode_any (p : Pk) (w : World) (hok : p.Ok) (hd : p.data.size ≤ 10000) :
    Calls Try.prog 14 #[p.val] w fun e w' => e = .returned (.tuple #[(decH p).val, .int .i64 (decE p)]) ∧ Below w.heap.size w w' := by
  obtain ⟨⟨v1, h1, l1⟩, ⟨v2, h2, l2⟩, pr, tt, d⟩ := p
  obtain ⟨p, hp⟩ : ∃ p : Pk, p = ⟨⟨v1, h1, l1⟩, ⟨v2, h2, l2⟩, pr, tt, d⟩ := ⟨_, rfl⟩
  have hpv : p.val = .agg #[.bool v1, .int .u64 h1, .int .u64 l1, .bool v2, .int .u64 h2, .int .u64 l2, .int .u8 pr, .int .u8 tt, .string d] := by rw [hp]; rfl
  rw [← hp] at hok hd ⊢
  have hd' : d.size ≤ 10000 := by have := hd; rw [hp] at this; exact this
  have C1 : ∀ u, Calls Try.prog 26 #[.agg #[.bool v1, .int .u64 h1, .int .u64 l1, .bool v2, .int .u64 h2, .int .u64 l2, .int .u8 pr, .int .u8 tt, .string d]] u fun e w' => e = .returned (.int .i64 (mayE p)) ∧ Below u.heap.size u w' := fun u => by rw [← hpv]; exact may_any p u (by omega)
  have C2 : ∀ H h u, u.heap[H]? = some (.cells (Hd.cells h) 41) → Calls Try.prog 27 #[.agg #[.bool v1, .int .u64 h1, .int .u64 l1, .bool v2, .int .u64 h2, .int .u64 l2, .int .u8 pr, .int .u8 tt, .string d], .pointer (some ⟨H, 0, none⟩)] u (HdPost H u (udpE p) (udpG p h)) := fun H h u hH => by rw [← hpv]; exact portUdp_any p H h u hok hd hH
  have C3 : ∀ H h u, u.heap[H]? = some (.cells (Hd.cells h) 41) → Calls Try.prog 28 #[.agg #[.bool v1, .int .u64 h1, .int .u64 l1, .bool v2, .int .u64 h2, .int .u64 l2, .int .u8 pr, .int .u8 tt, .string d], .pointer (some ⟨H, 0, none⟩)] u (HdPost H u (tcpE p) (tcpG p h)) := fun H h u hH => by rw [← hpv]; exact portTcp_any p H h u hok hd hH
  have C4 : ∀ H h u, u.heap[H]? = some (.cells (Hd.cells h) 41) → Calls Try.prog 29 #[.agg #[.bool v1, .int .u64 h1, .int .u64 l1, .bool v2, .int .u64 h2, .int .u64 l2, .int .u8 pr, .int .u8 tt, .string d], .pointer (some ⟨H, 0, none⟩)] u (HdPost H u (icmpE p) (icmpG p h)) := fun H h u hH => by rw [← hpv]; exact portIcmp_any p H h u hok hd hH
  have HC := Lib.hid (And.intro C1 (And.intro C2 (And.intro C3 C4)))
  have HP := Lib.hid (And.intro hp hd')
  have hz : (d.size : Int) ≤ 10000 := by omega
  have HH0 := Lib.hid (show (hd0 p).cells = #[.int .u8 pr, .bool v1, .int .u64 h1, .int .u64 l1, .bool v2, .int .u64 h2, .int .u64 l2, .int .u16 0, .int .u16 0, .int .u8 0, .int .u8 0, .int .u8 0, .int .i64 d.size] by rw [hp]; rfl)
  obtain ⟨fs, hfs⟩ := under30
  have U30 := Lib.hid hfs
  obtain ⟨fs', hfs'⟩ := under41
  have U41 := Lib.hid hfs'
  rw [hpv]
  clear hok hd hpv C1 C2 C3 C4 hp hfs hfs'
  obtain ⟨E, hE⟩ : ∃ E, E = mayE p := ⟨_, rfl⟩
  have HE := Lib.hid hE
  clear hE
  go_enter Try.func14, Try.ntmps14
  go_wp2_with fail
  refine wp_scope_key 0 (AtW p w) (fun _ _ => 0) rfl ?pass ?first
  case pass =>
    rintro a w1 ⟨E1, x0, x1, x3, x4, x6, x7, x8, x9, x10, x11, x12, x13, x14, x15, x16, x17, x18, x19, x20, x21, x22, x23, x24, x25, x26, x27, x28, x29, x30, x31, x32, x33, x34, x35, x36, x37, x38, x39, x40, x41, rfl, ⟨cs, hcs, hR⟩, hB, hE0, hE1⟩
    have HX := Lib.hid (And.intro hE0 (And.intro hE1 (And.intro hcs (And.intro hR hB))))
    clear hcs hR hB hE0 hE1
    obtain ⟨R, hRR⟩ : ∃ x, x = w.heap.size + 1 := ⟨_, rfl⟩
    have HR := Lib.hid (show w1.heap[R]? = some (.cells cs 41) ∧ w.heap.size ≤ R from ⟨by rw [hRR]; exact HX.out.2.2.2.1, by omega⟩)
    rw [← hRR]
    clear hRR
    go_wp2_with (first | (refine Go.wpList_store_row rfl 41 _ _ rfl R Hd.zero.cells rfl rfl 41 cs HR.out.1 info41 HX.out.2.2.1 (hdOne _) ?_))
    have D := setRow_heap w1 R _ Hd.zero.cells _ _ HR.out.1
    have BW := HX.out.2.2.2.2.trans ((onlyRow R w1 Hd.zero.cells).below HR.out.2 HX.out.2.2.2.2.size)
    obtain ⟨w2, hw2⟩ : ∃ uu, uu = w1.setRow R Hd.zero.cells := ⟨_, rfl⟩
    rw [← hw2] at D BW
    rw [← hw2]
    obtain ⟨⟨j0, j1, j2, j3, j4, j5, j6⟩, j7, j8, j9, j10, j11, j12⟩ := hdAll D
    have HZ := Lib.hid (show (decH p).val = .agg #[.int .u8 0, .bool false, .int .u64 0, .int .u64 0, .bool false, .int .u64 0, .int .u64 0, .int .u16 0, .int .u16 0, .int .u8 0, .int .u8 0, .int .u8 0, .int .i64 0] by unfold decH; rw [if_neg (by rw [← HX.out.2.1]; exact HX.out.1)]; rfl)
    have HF := Lib.hid BW
    clear BW D hw2
    simp only [Exit.jump]
    refine bodyPost_ret (v := .tuple #[.agg #[.int .u8 0, .bool false, .int .u64 0, .int .u64 0, .bool false, .int .u64 0, .int .u64 0, .int .u16 0, .int .u16 0, .int .u8 0, .int .u8 0, .int .u8 0, .int .i64 0], .int .i64 E1]) (by simp [results, Try.results14, go_sem, j0, j1, j2, j3, j4, j5, j6, j7, j8, j9, j10, j11, j12, Hd.zero]) rfl ⟨?_, HF.out⟩
    rw [HZ.out, HX.out.2.1]
  case first =>
    intro hrest
    have HREST := Lib.hid hrest
    clear hrest
    go_wp2_with fail
    refine (HC.out.1 _).mono ?_
    rintro e w1 ⟨rfl, B1⟩
    rw [← HE.out]
    simp only []
    have F3 := three B1
    obtain ⟨P, hP⟩ : ∃ P, P = w.heap.size := ⟨_, rfl⟩
    obtain ⟨R, hR⟩ : ∃ P, P = w.heap.size + 1 := ⟨_, rfl⟩
    obtain ⟨H, hH⟩ : ∃ P, P = w.heap.size + 1 + 1 := ⟨_, rfl⟩
    have hN : P ≠ H ∧ R ≠ H ∧ w.heap.size ≤ R ∧ w.heap.size ≤ H := by omega
    have F3 : w1.heap[P]? = some (.cells #[.bool v1, .int .u64 h1, .int .u64 l1, .bool v2, .int .u64 h2, .int .u64 l2, .int .u8 pr, .int .u8 tt, .string d] 30) ∧ w1.heap[R]? = some (.cells #[.int .u8 0, .bool false, .int .u64 0, .int .u64 0, .bool false, .int .u64 0, .int .u64 0, .int .u16 0, .int .u16 0, .int .u8 0, .int .u8 0, .int .u8 0, .int .i64 0] 41) ∧ w1.heap[H]? = some (.cells #[.int .u8 pr, .bool v1, .int .u64 h1, .int .u64 l1, .bool v2, .int .u64 h2, .int .u64 l2, .int .u16 0, .int .u16 0, .int .u8 0, .int .u8 0, .int .u8 0, .int .i64 d.size] 41) ∧ Below w.heap.size w w1 := by rw [hP, hR, hH]; exact F3
    have HH1 := Lib.hid (show w1.heap[H]? = some (.cells (hd0 p).cells 41) by rw [HH0.out]; exact F3.2.2.1)
    rw [← hH, ← hR, ← hP]
    have HR := Lib.hid hR
    have H1 := Lib.hid (And.intro F3 hN)
    clear B1 F3 hP hR hH hN
    by_cases h0 : E = 0
    · subst h0
      obtain ⟨k0, k1, k2, k3, k4, k5, k6, k7, k8⟩ := pkCells H1.out.1.1
      by_cases q17 : pr = 17
      · have c17 : ((pr : Int) == 17) = true := byEq (b := 17) q17
        have HQ := Lib.hid (show decE p = udpE p ∧ decG p = udpG p (hd0 p) by unfold decE decG; rw [← HE.out]; simp [show p.proto = 17 by rw [HP.out.1]; exact q17])
        clear q17
        go_wp2_with (first | (refine Go.wpList_load_row rfl 30 _ rfl P rfl 30 _ (0, 0) _ H1.out.1.1 U30.out rfl info30 ?_))
        refine (HC.out.2.1 H (hd0 p) _ HH1.out).mono ?_
        rintro e w2 ⟨hf, rfl, hh, ho, hg⟩
        obtain ⟨EU, hEU⟩ : ∃ x, x = udpE p := ⟨_, rfl⟩
        rw [← hEU] at hg ⊢
        simp only []
        have O3 := Only.three ho H1.out.1.1 H1.out.1.2.1 H1.out.2.1 H1.out.2.2.1 H1.out.1.2.2.2 H1.out.2.2.2.2
        have H2 := Lib.hid (And.intro O3 hh)
        have HG := Lib.hid hg
        have HEU := Lib.hid hEU
        clear O3 hh hg ho hEU k0 k1 k2 k3 k4 k5 k6 k7 k8
        by_cases e2 : EU = 0
        · have HQF := Lib.hid (show (decH p).val = .agg hf.cells ∧ decE p = 0 by
            have h1 : decE p = 0 := by rw [HQ.out.1, ← HEU.out]; exact e2
            exact ⟨by unfold decH; rw [if_pos h1, HQ.out.2, ← HG.out e2]; rfl, h1⟩)
          subst e2
          go_wp2_with (first | (refine Go.wpList_load_row rfl 41 _ rfl H rfl 41 _ (0, 0) _ H2.out.2 U41.out rfl info41 ?_) | (refine Go.wpList_store_row rfl 41 _ _ rfl R (Hd.cells hf) rfl rfl 41 #[.int .u8 0, .bool false, .int .u64 0, .int .u64 0, .bool false, .int .u64 0, .int .u64 0, .int .u16 0, .int .u16 0, .int .u8 0, .int .u8 0, .int .u8 0, .int .i64 0] H2.out.1.2.1 info41 rfl (hdOne _) ?_))
          have D := setRow_heap w2 R _ (Hd.cells hf) _ _ H2.out.1.2.1
          have BW := Below.trans H2.out.1.2.2 ((onlyRow R w2 (Hd.cells hf)).below H1.out.2.2.2.1 (Below.size H2.out.1.2.2))
          obtain ⟨w5, hw5⟩ : ∃ uu, uu = World.setRow w2 R (Hd.cells hf) := ⟨_, rfl⟩
          rw [← hw5] at D BW
          rw [← hw5]
          obtain ⟨⟨j0, j1, j2, j3, j4, j5, j6⟩, j7, j8, j9, j10, j11, j12⟩ := hdAll D
          have HF := Lib.hid BW
          clear BW D hw5
          simp only [Exit.jump]
          refine bodyPost_ret (v := .tuple #[.agg #[.int .u8 hf.fl.proto, .bool hf.fl.src.v6, .int .u64 hf.fl.src.hi, .int .u64 hf.fl.src.lo, .bool hf.fl.dst.v6, .int .u64 hf.fl.dst.hi, .int .u64 hf.fl.dst.lo, .int .u16 hf.fl.fp, .int .u16 hf.fl.tp, .int .u8 hf.flags, .int .u8 hf.kind, .int .u8 hf.code, .int .i64 hf.size], .int .i64 0]) (by simp [results, Try.results14, go_sem, j0, j1, j2, j3, j4, j5, j6, j7, j8, j9, j10, j11, j12]) rfl ⟨?_, HF.out⟩
          rw [HQF.out.1, HQF.out.2]
          rfl
        · have e3 : ((EU : Int) == 0) = false := beq_eq_false_iff_ne.2 e2
          have HQ2 := Lib.hid (show EU ≠ 0 ∧ EU = decE p from ⟨e2, by rw [HQ.out.1]; exact HEU.out⟩)
          clear e2
          go_wp2_with fail
          go_step3
          rename_i K0 hK0
          refine hK0 _ _ (HREST.out _ _ ?_)
          unfold AtW
          rw [← HR.out]
          exact ⟨_, _, _, _, _, _, _, _, _, _, _, _, _, _, _, _, _, _, _, _, _, _, _, _, _, _, _, _, _, _, _, _, _, _, _, _, _, _, _, _, _, rfl, ⟨_, rfl, H2.out.1.2.1⟩, H2.out.1.2.2, HQ2.out.1, HQ2.out.2⟩
      · have c17 : ((pr : Int) == 17) = false := byNe (b := 17) q17
        by_cases q6 : pr = 6
        · have c6 : ((pr : Int) == 6) = true := byEq (b := 6) q6
          have HQ := Lib.hid (show decE p = tcpE p ∧ decG p = tcpG p (hd0 p) by unfold decE decG; rw [← HE.out]; simp [show p.proto = 6 by rw [HP.out.1]; exact q6])
          clear q17 q6
          go_wp2_with (first | (refine Go.wpList_load_row rfl 30 _ rfl P rfl 30 _ (0, 0) _ H1.out.1.1 U30.out rfl info30 ?_))
          refine (HC.out.2.2.1 H (hd0 p) _ HH1.out).mono ?_
          rintro e w2 ⟨hf, rfl, hh, ho, hg⟩
          obtain ⟨EU, hEU⟩ : ∃ x, x = tcpE p := ⟨_, rfl⟩
          rw [← hEU] at hg ⊢
          simp only []
          have O3 := Only.three ho H1.out.1.1 H1.out.1.2.1 H1.out.2.1 H1.out.2.2.1 H1.out.1.2.2.2 H1.out.2.2.2.2
          have H2 := Lib.hid (And.intro O3 hh)
          have HG := Lib.hid hg
          have HEU := Lib.hid hEU
          clear O3 hh hg ho hEU k0 k1 k2 k3 k4 k5 k6 k7 k8
          by_cases e2 : EU = 0
          · have HQF := Lib.hid (show (decH p).val = .agg hf.cells ∧ decE p = 0 by
              have h1 : decE p = 0 := by rw [HQ.out.1, ← HEU.out]; exact e2
              exact ⟨by unfold decH; rw [if_pos h1, HQ.out.2, ← HG.out e2]; rfl, h1⟩)
            subst e2
            go_wp2_with (first | (refine Go.wpList_load_row rfl 41 _ rfl H rfl 41 _ (0, 0) _ H2.out.2 U41.out rfl info41 ?_) | (refine Go.wpList_store_row rfl 41 _ _ rfl R (Hd.cells hf) rfl rfl 41 #[.int .u8 0, .bool false, .int .u64 0, .int .u64 0, .bool false, .int .u64 0, .int .u64 0, .int .u16 0, .int .u16 0, .int .u8 0, .int .u8 0, .int .u8 0, .int .i64 0] H2.out.1.2.1 info41 rfl (hdOne _) ?_))
            have D := setRow_heap w2 R _ (Hd.cells hf) _ _ H2.out.1.2.1
            have BW := Below.trans H2.out.1.2.2 ((onlyRow R w2 (Hd.cells hf)).below H1.out.2.2.2.1 (Below.size H2.out.1.2.2))
            obtain ⟨w5, hw5⟩ : ∃ uu, uu = World.setRow w2 R (Hd.cells hf) := ⟨_, rfl⟩
            rw [← hw5] at D BW
            rw [← hw5]
            obtain ⟨⟨j0, j1, j2, j3, j4, j5, j6⟩, j7, j8, j9, j10, j11, j12⟩ := hdAll D
            have HF := Lib.hid BW
            clear BW D hw5
            simp only [Exit.jump]
            refine bodyPost_ret (v := .tuple #[.agg #[.int .u8 hf.fl.proto, .bool hf.fl.src.v6, .int .u64 hf.fl.src.hi, .int .u64 hf.fl.src.lo, .bool hf.fl.dst.v6, .int .u64 hf.fl.dst.hi, .int .u64 hf.fl.dst.lo, .int .u16 hf.fl.fp, .int .u16 hf.fl.tp, .int .u8 hf.flags, .int .u8 hf.kind, .int .u8 hf.code, .int .i64 hf.size], .int .i64 0]) (by simp [results, Try.results14, go_sem, j0, j1, j2, j3, j4, j5, j6, j7, j8, j9, j10, j11, j12]) rfl ⟨?_, HF.out⟩
            rw [HQF.out.1, HQF.out.2]
            rfl
          · have e3 : ((EU : Int) == 0) = false := beq_eq_false_iff_ne.2 e2
            have HQ2 := Lib.hid (show EU ≠ 0 ∧ EU = decE p from ⟨e2, by rw [HQ.out.1]; exact HEU.out⟩)
            clear e2
            go_wp2_with fail
            go_step3
            rename_i K0 hK0
            refine hK0 _ _ (HREST.out _ _ ?_)
            unfold AtW
            rw [← HR.out]
            exact ⟨_, _, _, _, _, _, _, _, _, _, _, _, _, _, _, _, _, _, _, _, _, _, _, _, _, _, _, _, _, _, _, _, _, _, _, _, _, _, _, _, _, rfl, ⟨_, rfl, H2.out.1.2.1⟩, H2.out.1.2.2, HQ2.out.1, HQ2.out.2⟩
        · have c6 : ((pr : Int) == 6) = false := byNe (b := 6) q6
          by_cases q1 : pr = 1
          · have c1 : ((pr : Int) == 1) = true := byEq (b := 1) q1
            have HQ := Lib.hid (show decE p = icmpE p ∧ decG p = icmpG p (hd0 p) by unfold decE decG; rw [← HE.out]; simp [show p.proto = 1 by rw [HP.out.1]; exact q1])
            clear q17 q6 q1
            go_wp2_with (first | (refine Go.wpList_load_row rfl 30 _ rfl P rfl 30 _ (0, 0) _ H1.out.1.1 U30.out rfl info30 ?_))
            refine (HC.out.2.2.2 H (hd0 p) _ HH1.out).mono ?_
            rintro e w2 ⟨hf, rfl, hh, ho, hg⟩
            obtain ⟨EU, hEU⟩ : ∃ x, x = icmpE p := ⟨_, rfl⟩
            rw [← hEU] at hg ⊢
            simp only []
            have O3 := Only.three ho H1.out.1.1 H1.out.1.2.1 H1.out.2.1 H1.out.2.2.1 H1.out.1.2.2.2 H1.out.2.2.2.2
            have H2 := Lib.hid (And.intro O3 hh)
            have HG := Lib.hid hg
            have HEU := Lib.hid hEU
            clear O3 hh hg ho hEU k0 k1 k2 k3 k4 k5 k6 k7 k8
            by_cases e2 : EU = 0
            · have HQF := Lib.hid (show (decH p).val = .agg hf.cells ∧ decE p = 0 by
                have h1 : decE p = 0 := by rw [HQ.out.1, ← HEU.out]; exact e2
                exact ⟨by unfold decH; rw [if_pos h1, HQ.out.2, ← HG.out e2]; rfl, h1⟩)
              subst e2
              go_wp2_with (first | (refine Go.wpList_load_row rfl 41 _ rfl H rfl 41 _ (0, 0) _ H2.out.2 U41.out rfl info41 ?_) | (refine Go.wpList_store_row rfl 41 _ _ rfl R (Hd.cells hf) rfl rfl 41 #[.int .u8 0, .bool false, .int .u64 0, .int .u64 0, .bool false, .int .u64 0, .int .u64 0, .int .u16 0, .int .u16 0, .int .u8 0, .int .u8 0, .int .u8 0, .int .i64 0] H2.out.1.2.1 info41 rfl (hdOne _) ?_))
              have D := setRow_heap w2 R _ (Hd.cells hf) _ _ H2.out.1.2.1
              have BW := Below.trans H2.out.1.2.2 ((onlyRow R w2 (Hd.cells hf)).below H1.out.2.2.2.1 (Below.size H2.out.1.2.2))
              obtain ⟨w5, hw5⟩ : ∃ uu, uu = World.setRow w2 R (Hd.cells hf) := ⟨_, rfl⟩
              rw [← hw5] at D BW
              rw [← hw5]
              obtain ⟨⟨j0, j1, j2, j3, j4, j5, j6⟩, j7, j8, j9, j10, j11, j12⟩ := hdAll D
              have HF := Lib.hid BW
              clear BW D hw5
              simp only [Exit.jump]
              refine bodyPost_ret (v := .tuple #[.agg #[.int .u8 hf.fl.proto, .bool hf.fl.src.v6, .int .u64 hf.fl.src.hi, .int .u64 hf.fl.src.lo, .bool hf.fl.dst.v6, .int .u64 hf.fl.dst.hi, .int .u64 hf.fl.dst.lo, .int .u16 hf.fl.fp, .int .u16 hf.fl.tp, .int .u8 hf.flags, .int .u8 hf.kind, .int .u8 hf.code, .int .i64 hf.size], .int .i64 0]) (by simp [results, Try.results14, go_sem, j0, j1, j2, j3, j4, j5, j6, j7, j8, j9, j10, j11, j12]) rfl ⟨?_, HF.out⟩
              rw [HQF.out.1, HQF.out.2]
              rfl
            · have e3 : ((EU : Int) == 0) = false := beq_eq_false_iff_ne.2 e2
              have HQ2 := Lib.hid (show EU ≠ 0 ∧ EU = decE p from ⟨e2, by rw [HQ.out.1]; exact HEU.out⟩)
              clear e2
              go_wp2_with fail
              go_step3
              rename_i K0 hK0
              refine hK0 _ _ (HREST.out _ _ ?_)
              unfold AtW
              rw [← HR.out]
              exact ⟨_, _, _, _, _, _, _, _, _, _, _, _, _, _, _, _, _, _, _, _, _, _, _, _, _, _, _, _, _, _, _, _, _, _, _, _, _, _, _, _, _, rfl, ⟨_, rfl, H2.out.1.2.1⟩, H2.out.1.2.2, HQ2.out.1, HQ2.out.2⟩
          · have c1 : ((pr : Int) == 1) = false := byNe (b := 1) q1
            by_cases q58 : pr = 58
            · have c58 : ((pr : Int) == 58) = true := byEq (b := 58) q58
              have HQ := Lib.hid (show decE p = icmpE p ∧ decG p = icmpG p (hd0 p) by unfold decE decG; rw [← HE.out]; simp [show p.proto = 58 by rw [HP.out.1]; exact q58])
              clear q17 q6 q1 q58
              go_wp2_with (first | (refine Go.wpList_load_row rfl 30 _ rfl P rfl 30 _ (0, 0) _ H1.out.1.1 U30.out rfl info30 ?_))
              refine (HC.out.2.2.2 H (hd0 p) _ HH1.out).mono ?_
              rintro e w2 ⟨hf, rfl, hh, ho, hg⟩
              obtain ⟨EU, hEU⟩ : ∃ x, x = icmpE p := ⟨_, rfl⟩
              rw [← hEU] at hg ⊢
              simp only []
              have O3 := Only.three ho H1.out.1.1 H1.out.1.2.1 H1.out.2.1 H1.out.2.2.1 H1.out.1.2.2.2 H1.out.2.2.2.2
              have H2 := Lib.hid (And.intro O3 hh)
              have HG := Lib.hid hg
              have HEU := Lib.hid hEU
              clear O3 hh hg ho hEU k0 k1 k2 k3 k4 k5 k6 k7 k8
              by_cases e2 : EU = 0
              · have HQF := Lib.hid (show (decH p).val = .agg hf.cells ∧ decE p = 0 by
                  have h1 : decE p = 0 := by rw [HQ.out.1, ← HEU.out]; exact e2
                  exact ⟨by unfold decH; rw [if_pos h1, HQ.out.2, ← HG.out e2]; rfl, h1⟩)
                subst e2
                go_wp2_with (first | (refine Go.wpList_load_row rfl 41 _ rfl H rfl 41 _ (0, 0) _ H2.out.2 U41.out rfl info41 ?_) | (refine Go.wpList_store_row rfl 41 _ _ rfl R (Hd.cells hf) rfl rfl 41 #[.int .u8 0, .bool false, .int .u64 0, .int .u64 0, .bool false, .int .u64 0, .int .u64 0, .int .u16 0, .int .u16 0, .int .u8 0, .int .u8 0, .int .u8 0, .int .i64 0] H2.out.1.2.1 info41 rfl (hdOne _) ?_))
                have D := setRow_heap w2 R _ (Hd.cells hf) _ _ H2.out.1.2.1
                have BW := Below.trans H2.out.1.2.2 ((onlyRow R w2 (Hd.cells hf)).below H1.out.2.2.2.1 (Below.size H2.out.1.2.2))
                obtain ⟨w5, hw5⟩ : ∃ uu, uu = World.setRow w2 R (Hd.cells hf) := ⟨_, rfl⟩
                rw [← hw5] at D BW
                rw [← hw5]
                obtain ⟨⟨j0, j1, j2, j3, j4, j5, j6⟩, j7, j8, j9, j10, j11, j12⟩ := hdAll D
                have HF := Lib.hid BW
                clear BW D hw5
                simp only [Exit.jump]
                refine bodyPost_ret (v := .tuple #[.agg #[.int .u8 hf.fl.proto, .bool hf.fl.src.v6, .int .u64 hf.fl.src.hi, .int .u64 hf.fl.src.lo, .bool hf.fl.dst.v6, .int .u64 hf.fl.dst.hi, .int .u64 hf.fl.dst.lo, .int .u16 hf.fl.fp, .int .u16 hf.fl.tp, .int .u8 hf.flags, .int .u8 hf.kind, .int .u8 hf.code, .int .i64 hf.size], .int .i64 0]) (by simp [results, Try.results14, go_sem, j0, j1, j2, j3, j4, j5, j6, j7, j8, j9, j10, j11, j12]) rfl ⟨?_, HF.out⟩
                rw [HQF.out.1, HQF.out.2]
                rfl
              · have e3 : ((EU : Int) == 0) = false := beq_eq_false_iff_ne.2 e2
                have HQ2 := Lib.hid (show EU ≠ 0 ∧ EU = decE p from ⟨e2, by rw [HQ.out.1]; exact HEU.out⟩)
                clear e2
                go_wp2_with fail
                go_step3
                rename_i K0 hK0
                refine hK0 _ _ (HREST.out _ _ ?_)
                unfold AtW
                rw [← HR.out]
                exact ⟨_, _, _, _, _, _, _, _, _, _, _, _, _, _, _, _, _, _, _, _, _, _, _, _, _, _, _, _, _, _, _, _, _, _, _, _, _, _, _, _, _, rfl, ⟨_, rfl, H2.out.1.2.1⟩, H2.out.1.2.2, HQ2.out.1, HQ2.out.2⟩
            · have c58 : ((pr : Int) == 58) = false := byNe (b := 58) q58
              have HQ := Lib.hid (show decE p = 0 ∧ decG p = hd0 p by unfold decE decG; rw [← HE.out, HP.out.1]; simp [q17, q6, q1, q58])
              clear q17 q6 q1 q58
              obtain ⟨hf, hhf⟩ : ∃ x, x = hd0 p := ⟨_, rfl⟩
              have HQF := Lib.hid (show (decH p).val = .agg hf.cells ∧ decE p = 0 from ⟨by unfold decH; rw [if_pos HQ.out.1, HQ.out.2, hhf]; rfl, HQ.out.1⟩)
              have HH1 : Hid (w1.heap[H]? = some (.cells hf.cells 41)) := by rw [hhf]; exact HH1
              clear hhf
              go_wp2_with (first | (refine Go.wpList_load_row rfl 41 _ rfl H rfl 41 _ (0, 0) _ HH1.out U41.out rfl info41 ?_) | (refine Go.wpList_store_row rfl 41 _ _ rfl R (Hd.cells hf) rfl rfl 41 #[.int .u8 0, .bool false, .int .u64 0, .int .u64 0, .bool false, .int .u64 0, .int .u64 0, .int .u16 0, .int .u16 0, .int .u8 0, .int .u8 0, .int .u8 0, .int .i64 0] H1.out.1.2.1 info41 rfl (hdOne _) ?_))
              have D := setRow_heap w1 R _ (Hd.cells hf) _ _ H1.out.1.2.1
              have BW := Below.trans H1.out.1.2.2.2 ((onlyRow R w1 (Hd.cells hf)).below H1.out.2.2.2.1 (Below.size H1.out.1.2.2.2))
              obtain ⟨w5, hw5⟩ : ∃ uu, uu = World.setRow w1 R (Hd.cells hf) := ⟨_, rfl⟩
              rw [← hw5] at D BW
              rw [← hw5]
              obtain ⟨⟨j0, j1, j2, j3, j4, j5, j6⟩, j7, j8, j9, j10, j11, j12⟩ := hdAll D
              have HF := Lib.hid BW
              clear BW D hw5
              simp only [Exit.jump]
              refine bodyPost_ret (v := .tuple #[.agg #[.int .u8 hf.fl.proto, .bool hf.fl.src.v6, .int .u64 hf.fl.src.hi, .int .u64 hf.fl.src.lo, .bool hf.fl.dst.v6, .int .u64 hf.fl.dst.hi, .int .u64 hf.fl.dst.lo, .int .u16 hf.fl.fp, .int .u16 hf.fl.tp, .int .u8 hf.flags, .int .u8 hf.kind, .int .u8 hf.code, .int .i64 hf.size], .int .i64 0]) (by simp [results, Try.results14, go_sem, j0, j1, j2, j3, j4, j5, j6, j7, j8, j9, j10, j11, j12]) rfl ⟨?_, HF.out⟩
              rw [HQF.out.1, HQF.out.2]
              rfl
    · have e0 : ((E : Int) != 0) = true := bne_iff_ne.2 h0
      have HQ := Lib.hid (show E ≠ 0 ∧ E = decE p from ⟨h0, by unfold decE; rw [if_pos (by rw [← HE.out]; exact h0)]; exact HE.out⟩)
      clear h0
      go_wp2_with fail
      go_step3
      refine ⟨rfl, ?_⟩
      unfold AtW
      rw [← HR.out]
      exact ⟨_, _, _, _, _, _, _, _, _, _, _, _, _, _, _, _, _, _, _, _, _, _, _, _, _, _, _, _, _, _, _, _, _, _, _, _, _, _, _, _, _, rfl, ⟨_, rfl, H1.out.1.2.1⟩, H1.out.1.2.2.2, HQ.out.1, HQ.out.2⟩

end Go.Proofs.Ytgonakpoflacoaa
