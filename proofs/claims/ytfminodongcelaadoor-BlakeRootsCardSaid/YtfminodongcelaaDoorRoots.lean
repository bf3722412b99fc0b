/-
  The roots of the first eight primes.
-/
import Derived.Test.YtfminodongcelaaDoorRoot
import Derived.OwnWalk
set_option linter.unusedVariables false
namespace Go.Proofs.YtfminodongcelaaDoor
open Go.RowKit

def prN (p : Nat) : Nat → Bool
  | 0 => true
  | m + 1 => prN p m && decide (p % (2 + m) ≠ 0)
def cntN (p : Nat) : Nat := if p < 4 then 0 else if p < 9 then 1 else if p < 16 then 2 else 3
def lstN : Nat → List Nat
  | 0 => []
  | q + 1 => if prN (2 + q) (cntN (2 + q)) = true then lstN q ++ [rootL (2 + q)] else lstN q
def lenN : Nat → Nat
  | 0 => 0
  | q + 1 => if prN (2 + q) (cntN (2 + q)) = true then lenN q + 1 else lenN q
theorem lst_len : ∀ q, (lstN q).length = lenN q
  | 0 => rfl
  | q + 1 => by
    unfold lstN lenN
    split
    · rw [List.length_append, lst_len q]; rfl
    · exact lst_len q
theorem len_lt : ∀ q < 18, lenN q < 8 := by decide
theorem len_18 : lenN 18 = 8 := by decide
theorem len_le : ∀ q ≤ 18, lenN q ≤ 8 := by decide
def vs (l : List Nat) : List Value := l.map fun n : Nat => Value.int .u64 (n : Int)
theorem Tryd.info40 : (Tryd.prog.info? 40).map (fun i => (i.zero, i.size, i.bytes)) = some (some (.int .u64 0), 1, 8) := by kernel_rfl
theorem info40_parts : ∃ i, Tryd.prog.info? 40 = some i ∧ i.zero = some (.int .u64 0) ∧ i.size = 1 ∧ i.bytes = 8 := by
  have h := Tryd.info40
  cases hq : Tryd.prog.info? 40 with
  | none => simp [hq] at h
  | some i => simp [hq] at h; exact ⟨i, rfl, h.1, h.2.1, h.2.2⟩
theorem sq_in : ∀ q < 18, ∀ m < cntN (2 + q), (2 + m) * (2 + m) ≤ 2 + q := by decide
theorem sq_out : ∀ q < 18, ¬ (2 + cntN (2 + q)) * (2 + cntN (2 + q)) ≤ 2 + q := by decide
theorem cnt_le : ∀ q < 18, cntN (2 + q) ≤ 3 := by decide

theorem own_shape40 {B : Nat} {w : World} {v : Value} {n : Nat} {xs : List Value} (h : w.ownsRow B 40 1 v n xs) : ∃ ao cap, v = .slice ao n cap := by
  rcases h.2 with ⟨hv, hn⟩ | ⟨g, cap, cur, hv, _⟩
  · exact ⟨none, 0, by rw [hv, hn]⟩
  · exact ⟨_, cap, hv⟩
theorem ltI8 {n : Nat} (h : n < 8) : (n : Int) < 8 := by omega
theorem dd_le {q m : Nat} (h : q < 18) (hm : m ≤ cntN (2 + q)) : m ≤ 3 := Nat.le_trans hm (cnt_le q h)
theorem dd_wrap (D : Nat) (h : D ≤ 5) : IntKind.u64.wrap ((D : Int) * D) = ((D * D : Nat) : Int) := by
  rw [mul_u64, Nat.mod_eq_of_lt]
  have : D * D ≤ 5 * 5 := Nat.mul_le_mul h h
  unfold M64; omega
theorem dd_in (q m P D : Nat) (hP : P = 2 + q) (hD : D = 2 + m) (hq : q < 18) (hm : m < cntN P) : ∃ E : Nat, IntKind.u64.wrap ((D : Int) * D) = E ∧ (E : Int) ≤ P ∧ ¬ (D : Int) = 0 ∧ D ≠ 0 ∧ ((D : Int) == 0) = false := by
  subst hP
  subst hD
  have h := sq_in q hq m hm
  have h5 := dd_le hq (Nat.le_of_lt hm)
  exact ⟨_, dd_wrap (2 + m) (by omega), by omega, by omega, by omega, beq_eq_false_iff_ne.2 (by omega)⟩
theorem dd_out (q m P D : Nat) (hP : P = 2 + q) (hD : D = 2 + m) (hq : q < 18) (hm : m = cntN P) : ∃ E : Nat, IntKind.u64.wrap ((D : Int) * D) = E ∧ ¬ (E : Int) ≤ P := by
  subst hP
  subst hD
  subst hm
  have h := sq_out q hq
  have h5 := cnt_le q hq
  exact ⟨_, dd_wrap (2 + cntN (2 + q)) (by omega), by omega⟩
theorem rem_in (P D : Nat) (h : D ≠ 0) : ∃ R : Nat, (P : Int).tmod D = R ∧ (P : Int) % D = R ∧ IntKind.u64.wrap (R : Int) = IntKind.u64.wrap (R : Int) ∧ R = P % D :=
  ⟨P % D, by rw [Int.tmod_eq_emod_of_nonneg (by omega)]; simp, by simp, rfl, rfl⟩
theorem wrap_small {x : Nat} (h : x < 1000) : IntKind.u64.wrap ((x : Int) + 1) = ((x + 1 : Nat) : Int) := by rw [IntKind.wrap_u64]; omega
theorem bneI {R : Nat} (h : R ≠ 0) : ((R : Int) != 0) = true := by simp [h]
theorem dstep (q m P D : Nat) (hP : P = 2 + q) (hD : D = 2 + m) (hq : q < 18) (hm : m < cntN P) : Value.int .u64 (IntKind.u64.wrap ((D : Int) + 1)) = .int .u64 ((2 + (m + 1) : Nat) : Int) ∧ 10 - (intOf (.int .u64 (IntKind.u64.wrap ((D : Int) + 1)))).toNat < 10 - (intOf (.int .u64 (D : Int))).toNat := by
  subst hP
  subst hD
  have h5 := dd_le hq (Nat.le_of_lt hm)
  rw [wrap_small (by omega)]
  refine ⟨rfl, ?_⟩
  simp only [intOf, Int.toNat_natCast]
  omega
theorem pstep (q P : Nat) (hP : P = 2 + q) (hq : q < 18) : Value.int .u64 (IntKind.u64.wrap ((P : Int) + 1)) = .int .u64 ((2 + (q + 1) : Nat) : Int) ∧ 20 - (intOf (.int .u64 (IntKind.u64.wrap ((P : Int) + 1)))).toNat < 20 - (intOf (.int .u64 (P : Int))).toNat := by
  subst hP
  rw [wrap_small (by omega)]
  refine ⟨rfl, ?_⟩
  simp only [intOf, Int.toNat_natCast]
  omega
theorem small8 {n : Nat} (h : n ≤ 8) : n + 1 ≤ maxLen := by unfold maxLen; omega
theorem small8b {n : Nat} (h : n ≤ 8) : (n + 1) * 8 ≤ 140737488355328 := by omega
theorem vs_snoc (l : List Nat) (n : Nat) : vs (l ++ [n]) = vs l ++ [.int .u64 (n : Int)] := by simp [vs]

set_option maxHeartbeats 8000000 in
theorem roots_any (w : World) :
    Calls Tryd.prog 20 #[.int .i64 8, .bool false] w fun e w' => ∃ g cap, e = .returned (.slice (some ⟨g, 0, none⟩) 8 cap) ∧ (∀ i v, (vs (lstN 18))[i]? = some v → w'.cell? ⟨g, i, none⟩ = some v) ∧ Below w.heap.size w w' := by
  obtain ⟨i0, hi, hz, hz1, hz2⟩ := info40_parts
  have HI := Lib.hid (And.intro hi (And.intro hz (And.intro hz1 hz2)))
  clear hi hz hz1 hz2
  go_enter Tryd.func20, Tryd.ntmps20
  go_wp2_with fail
  go_loopw [5, 6] (fun l p wr => ∃ q : Nat, q ≤ 18 ∧ p = .int .u64 ((2 + q : Nat) : Int) ∧ (wr.ownsRow w.heap.size 40 1 l (lenN q) (vs (lstN q)) ∧ Below w.heap.size w wr)) (fun l p _ => 20 - (intOf p).toNat)
  case atStart => exact ⟨0, Nat.zero_le _, rfl, World.ownsRow_nil _ _ _ _, Below.refl _ _⟩
  case round =>
    obtain ⟨q, hq, rfl, own, hb⟩ := hrel
    obtain ⟨ao, cap, rfl⟩ := own_shape40 own
    have HR := Lib.hid (And.intro own hb)
    clear own hb
    by_cases hlt : q < 18
    · obtain ⟨P, hP⟩ : ∃ P, P = 2 + q := ⟨_, rfl⟩
      obtain ⟨L, hL⟩ : ∃ L, L = lenN q := ⟨_, rfl⟩
      have n1 : (L : Int) < 8 := ltI8 (by rw [hL]; exact len_lt q hlt)
      have lP : P < 20 := by rw [hP]; omega
      have HP := Lib.hid (And.intro hP (And.intro hL lP))
      rw [← hP, ← hL]
      clear hP hL lP
      go_wp2_with fail
      go_loopw [7, 8] (fun b d wr' => ∃ m : Nat, m ≤ cntN P ∧ b = .bool (prN P m) ∧ d = .int .u64 ((2 + m : Nat) : Int) ∧ wr' = wr) (fun b d _ => 10 - (intOf d).toNat)
      case atStart => exact ⟨0, Nat.zero_le _, rfl, rfl, rfl⟩
      case round =>
        obtain ⟨m, hm, rfl, rfl, hwr⟩ := hrel
        subst hwr
        by_cases hmt : m < cntN P
        · obtain ⟨D, hD⟩ : ∃ D, D = 2 + m := ⟨_, rfl⟩
          rw [← hD]
          obtain ⟨E, d1, d2, d3, d4, d5⟩ := dd_in q m P D HP.out.1 hD hlt hmt
          obtain ⟨R, r1, r2, r3, r4⟩ := rem_in P D d4
          have HM := Lib.hid (dstep q m P D HP.out.1 hD hlt hmt)
          have hmt' := Lib.hid hmt
          have hp1 : prN P (m + 1) = (prN P m && decide (R ≠ 0)) := by rw [r4, hD]; rfl
          have HP1 := Lib.hid hp1
          clear hp1 r4 hmt hm hD d4
          cases hb : prN P m with
          | false =>
            have HB := Lib.hid hb
            clear hb
            go_wp2_with fail
            go_roundw
            case rel => exact ⟨m + 1, hmt'.out, by rw [HP1.out, HB.out]; rfl, HM.out.1, trivial⟩
            case measure => exact HM.out.2
          | true =>
            have HB := Lib.hid hb
            clear hb
            by_cases hR : R = 0
            · subst hR
              go_wp2_with fail
              go_roundw
              case rel => exact ⟨m + 1, hmt'.out, by rw [HP1.out, HB.out]; rfl, HM.out.1, trivial⟩
              case measure => exact HM.out.2
            · have hR1 : ((R : Int) == 0) = false := beq_eq_false_iff_ne.2 (natI_ne (C := 0) hR)
              have hR2 : ¬ (R : Int) = 0 := natI_ne (C := 0) hR
              have HRR := Lib.hid hR
              clear hR
              go_wp2_with fail
              go_roundw
              case rel => exact ⟨m + 1, hmt'.out, by rw [HP1.out, HB.out, decide_eq_true HRR.out, bneI HRR.out]; rfl, HM.out.1, trivial⟩
              case measure => exact HM.out.2
        · have hme := isN hm hmt
          obtain ⟨D, hD⟩ : ∃ D, D = 2 + m := ⟨_, rfl⟩
          rw [← hD]
          obtain ⟨E, d1, d2⟩ := dd_out q m P D HP.out.1 hD hlt hme
          rw [hme]
          have hstep := Lib.hid (show lenN (q + 1) = if prN P (cntN P) = true then lenN q + 1 else lenN q by rw [HP.out.1]; rfl)
          have lstep := Lib.hid (show lstN (q + 1) = if prN P (cntN P) = true then lstN q ++ [rootL P] else lstN q by rw [HP.out.1]; rfl)
          have HQ := Lib.hid (pstep q P HP.out.1 hlt)
          have HQ1 := Lib.hid (Nat.succ_le_of_lt hlt)
          clear hm hmt hme hD
          cases hb : prN P (cntN P) with
          | false =>
            have HB := Lib.hid hb
            clear hb
            go_wp2_with fail
            go_roundw
            case rel => exact ⟨q + 1, HQ1.out, HQ.out.1, by rw [hstep.out, lstep.out, HB.out, HP.out.2.1]; exact HR.out⟩
            case measure => exact HQ.out.2
          | true =>
            have HB := Lib.hid hb
            clear hb
            go_wp2_with fail
            refine (root_any P _ (Nat.lt_trans HP.out.2.2 (by decide))).mono ?_
            rintro e w2 ⟨rfl, B2⟩
            simp only []
            have own1 := HR.out.1.kept (row := Option.none) ⟨B2.os, B2.tape, B2.output, B2.size, fun j hj _ => B2.block j hj⟩ (Classical.em _)
            rw [← HP.out.2.1] at own1
            obtain ⟨V, hV⟩ : ∃ V, V = rootL P := ⟨_, rfl⟩
            rw [← hV]
            have B3 := HR.out.2.trans (B2.mono HR.out.2.size)
            have HO := Lib.hid (And.intro own1 (And.intro B3 hV))
            clear own1 B3 hV B2
            go_wp2_with (at_builtin; refine wpList_append_own _ rfl _ _ 41 rfl w.heap.size 40 i0 (.int .u64 0) 1 8 Tryd.underlying41 HI.out.1 HI.out.2.1 HI.out.2.2.1 HI.out.2.2.2 rfl (by decide) _ _ _ rfl (HO.out.1.alloc _) ⟨w2.heap.size, 0, none⟩ 1 1 [.int .u64 (V : Int)] rfl rfl ?c1 ?c2 ?c3 ?c4 ?c5 ?_)
            case c1 =>
              intro j u hj
              match j, hj with
              | 0, hj => simp at hj; subst hj; simp [Addr.add]
            case c2 => intro u hu; simp at hu; subst hu; rfl
            case c3 => exact small8 (by rw [HP.out.2.1]; exact len_le q (Nat.le_of_lt HQ1.out))
            case c4 => exact small8b (by rw [HP.out.2.1]; exact len_le q (Nat.le_of_lt HQ1.out))
            case c5 => exact Nat.le_trans HO.out.2.1.size (by simp)
            intro v' w4 own4 gr4 _
            have B4 := (HO.out.2.1.alloc HO.out.2.1.size (.cells #[.int .u64 (V : Int)] 40)).grown gr4 (Nat.le_trans HO.out.2.1.size (by simp)) (fun g hg => (HO.out.1.lt g hg).1)
            have HF := Lib.hid (And.intro own4 B4)
            clear own4 gr4 B4
            go_wp2_with fail
            go_roundw
            case rel => exact ⟨q + 1, HQ1.out, HQ.out.1, by rw [hstep.out, lstep.out, HB.out, if_pos rfl, if_pos rfl, vs_snoc, ← HP.out.2.1, ← HO.out.2.2]; exact HF.out.1, HF.out.2⟩
            case measure => exact HQ.out.2
    · have hq18 := isN hq hlt
      have n1 : (lenN q : Int) = 8 := by rw [hq18]; rfl
      subst hq18
      have hO := HR.out.1
      rw [len_18] at hO
      have HF := Lib.hid hO
      have HB := Lib.hid HR.out.2
      rw [len_18]
      clear hO n1 hq hlt
      go_wp2_with fail
      go_ret
      rcases HF.out.2 with ⟨_, hn⟩ | ⟨g, cap', cur, hv, _, _⟩
      · cases hn
      · cases hv
        exact ⟨g, cap, rfl, fun i v hv => by have := HF.out.cells (g := g) rfl i v hv; rw [Addr.add_mid, Nat.zero_add] at this; exact this, HB.out⟩

end Go.Proofs.YtfminodongcelaaDoor
