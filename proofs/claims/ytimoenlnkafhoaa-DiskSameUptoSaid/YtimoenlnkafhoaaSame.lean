/-
  DiskSame, where what comes in is of bulk at most 1048576: when two disks are the same.
-/
import Derived.Test.YtimoenlnkafhoaaSameWalk
import Derived.JoinedCond
set_option linter.unusedVariables false
namespace Go.Proofs.Ytimoenlnkafhoaa
open Go.ChangeShapes Go.WideShapes Go.ChangeAt Go.RowKit
open Go.ChangeMaps (open_string shut_string)

theorem same_heavy1 (x y : Int) (a1 a2 : Option Addr) (c1 c2 : Nat) (l1 l2 : List St) (w : World) (H1 : Hid (StepsAt w a1 l1)) (H2 : Hid (StepsAt w a2 l2)) (hm1 : l1.length ≤ maxLen) (hs1 : sumS l1 ≤ 1048576) (hm2 : l2.length ≤ maxLen) (hs2 : sumS l2 ≤ 1048576) (hb1 : heavyB l1 = true) :
    Calls Try.prog 5 #[.int .i64 x, .int .i64 y, .slice a1 l1.length c1, .slice a2 l2.length c2] w fun e w' => e = .returned (.bool true) ∧ Below w.heap.size w w' := by
  have HH1 := Lib.hid hb1
  clear hb1
  go_enter Try.func5, Try.ntmps5
  go_wp2_with fail
  refine (heavy_any a1 c1 l1 w H1 hm1 (by omega)).mono ?_
  rintro e w0 ⟨rfl, rfl⟩
  rw [HH1.out]
  simp only []
  go_wp2_with fail
  refine (works_any _).mono ?_
  rintro e w6 ⟨rfl, b6⟩
  simp only []
  go_wp2_with fail
  go_ret
  exact ⟨rfl, b6⟩

theorem same_heavy2 (x y : Int) (a1 a2 : Option Addr) (c1 c2 : Nat) (l1 l2 : List St) (w : World) (H1 : Hid (StepsAt w a1 l1)) (H2 : Hid (StepsAt w a2 l2)) (hm1 : l1.length ≤ maxLen) (hs1 : sumS l1 ≤ 1048576) (hm2 : l2.length ≤ maxLen) (hs2 : sumS l2 ≤ 1048576) (hb1 : heavyB l1 = false) (hb2 : heavyB l2 = true) :
    Calls Try.prog 5 #[.int .i64 x, .int .i64 y, .slice a1 l1.length c1, .slice a2 l2.length c2] w fun e w' => e = .returned (.bool true) ∧ Below w.heap.size w w' := by
  have HH1 := Lib.hid hb1
  clear hb1
  have HH2 := Lib.hid hb2
  clear hb2
  go_enter Try.func5, Try.ntmps5
  go_wp2_with fail
  refine (heavy_any a1 c1 l1 w H1 hm1 (by omega)).mono ?_
  rintro e w0 ⟨rfl, rfl⟩
  rw [HH1.out]
  simp only []
  go_wp2_with fail
  refine (heavy_any a2 c2 l2 w H2 hm2 (by omega)).mono ?_
  rintro e w0 ⟨rfl, rfl⟩
  rw [HH2.out]
  simp only []
  go_wp2_with fail
  refine (works_any _).mono ?_
  rintro e w6 ⟨rfl, b6⟩
  simp only []
  go_wp2_with fail
  go_ret
  exact ⟨rfl, b6⟩

theorem same_room1 (x y : Int) (a1 a2 : Option Addr) (c1 c2 : Nat) (l1 l2 : List St) (w : World) (H1 : Hid (StepsAt w a1 l1)) (H2 : Hid (StepsAt w a2 l2)) (hm1 : l1.length ≤ maxLen) (hs1 : sumS l1 ≤ 1048576) (hm2 : l2.length ≤ maxLen) (hs2 : sumS l2 ≤ 1048576) (hb1 : heavyB l1 = false) (hb2 : heavyB l2 = false) (hx : ¬ (0 ≤ x ∧ x ≤ 1048576)) :
    Calls Try.prog 5 #[.int .i64 x, .int .i64 y, .slice a1 l1.length c1, .slice a2 l2.length c2] w fun e w' => e = .returned (.bool true) ∧ Below w.heap.size w w' := by
  have HH1 := Lib.hid hb1
  clear hb1
  have HH2 := Lib.hid hb2
  clear hb2
  have HX := Lib.hid (decide_eq_false hx)
  clear hx
  go_enter Try.func5, Try.ntmps5
  go_wp2_with fail
  refine (heavy_any a1 c1 l1 w H1 hm1 (by omega)).mono ?_
  rintro e w0 ⟨rfl, rfl⟩
  rw [HH1.out]
  simp only []
  go_wp2_with fail
  refine (heavy_any a2 c2 l2 w H2 hm2 (by omega)).mono ?_
  rintro e w0 ⟨rfl, rfl⟩
  rw [HH2.out]
  simp only []
  go_wp2_with fail
  refine (may_any x w).mono ?_
  rintro e w0 ⟨rfl, rfl⟩
  rw [HX.out]
  simp only []
  go_wp2_with fail
  refine (works_any _).mono ?_
  rintro e w6 ⟨rfl, b6⟩
  simp only []
  go_wp2_with fail
  go_ret
  exact ⟨rfl, b6⟩

theorem same_room2 (x y : Int) (a1 a2 : Option Addr) (c1 c2 : Nat) (l1 l2 : List St) (w : World) (H1 : Hid (StepsAt w a1 l1)) (H2 : Hid (StepsAt w a2 l2)) (hm1 : l1.length ≤ maxLen) (hs1 : sumS l1 ≤ 1048576) (hm2 : l2.length ≤ maxLen) (hs2 : sumS l2 ≤ 1048576) (hb1 : heavyB l1 = false) (hb2 : heavyB l2 = false) (hx : 0 ≤ x ∧ x ≤ 1048576) (hy : ¬ (0 ≤ y ∧ y ≤ 1048576)) :
    Calls Try.prog 5 #[.int .i64 x, .int .i64 y, .slice a1 l1.length c1, .slice a2 l2.length c2] w fun e w' => e = .returned (.bool true) ∧ Below w.heap.size w w' := by
  have HH1 := Lib.hid hb1
  clear hb1
  have HH2 := Lib.hid hb2
  clear hb2
  have HX := Lib.hid (decide_eq_true hx)
  clear hx
  have HY := Lib.hid (decide_eq_false hy)
  clear hy
  go_enter Try.func5, Try.ntmps5
  go_wp2_with fail
  refine (heavy_any a1 c1 l1 w H1 hm1 (by omega)).mono ?_
  rintro e w0 ⟨rfl, rfl⟩
  rw [HH1.out]
  simp only []
  go_wp2_with fail
  refine (heavy_any a2 c2 l2 w H2 hm2 (by omega)).mono ?_
  rintro e w0 ⟨rfl, rfl⟩
  rw [HH2.out]
  simp only []
  go_wp2_with fail
  refine (may_any x w).mono ?_
  rintro e w0 ⟨rfl, rfl⟩
  rw [HX.out]
  simp only []
  go_wp2_with fail
  refine (may_any y w).mono ?_
  rintro e w0 ⟨rfl, rfl⟩
  rw [HY.out]
  simp only []
  go_wp2_with fail
  refine (works_any _).mono ?_
  rintro e w6 ⟨rfl, b6⟩
  simp only []
  go_wp2_with fail
  go_ret
  exact ⟨rfl, b6⟩

set_option maxRecDepth 100000 in
theorem diskSame_lifted (os : Os) (started : os.Started) (H : Type) (enc : TypeId × Value → H) (F : Stop.Interp) :
    ReturnsInHanded {} Try.checked os 5 .any ((Rows.OpenSpec.upto Rows.diskSameSpec).pre6 enc Try.prog Try.f5 Rows.diskSameUptoRow.domain false) (((Rows.OpenSpec.upto Rows.diskSameSpec).at F).post enc Try.prog Try.f5 false true false false) := by
  refine returnsInHanded_of_cond (C := Try.checked) (s := Rows.OpenSpec.upto Rows.diskSameSpec) (k := Rows.uptoSmall) rfl Try.own started (by kernel_rfl) Try.func5
    (OpenSpec.witness (enc := enc) (C := Try.checked) (s := Rows.OpenSpec.upto Rows.diskSameSpec) (k := Rows.uptoSmall) rfl false ⟨#[], #[.int .i64 0, .int .i64 0, .slice none 0 0, .slice none 0 0], []⟩ 8 (by kernel_rfl) (by kernel_rfl) (by kernel_rfl)
      (x := ([.lit (.int .i64 0), .lit (.int .i64 0), .nil, .nil], [], [])) (by kernel_rfl) rfl (by kernel_rfl)) ?_
  intro W base args ds gs before hval0 hW _ hk _
  have hval : ∀ (j : Nat) t v, Try.f5.params[j]? = some t → args[j]? = some v → Value.okWide Try.prog W .any base t v := hval0
  have hW' := hW
  obtain ⟨p, q, hA0, hV, rfl, _, _⟩ := hW
  have hA : DataW.TrodAll enc Try.prog W 0 (fun _ => true) true Try.f5.params.toList args.toList ds p := hA0
  rw [Try.params5] at hA hval
  obtain ⟨v0, v1, v2, v3, d0, d1, d2, d3, p0, p1, p2, p3, rfl, rfl, rfl, h0, h1, h2, h3⟩ := trodAll_four hA
  obtain ⟨rfl, rfl⟩ := trodVars_none hV
  obtain ⟨x0, rfl, rfl, rfl, w0⟩ := open_int Try.underlying3 (hval 0 3 v0 rfl rfl) h0
  obtain ⟨x1, rfl, rfl, rfl, w1⟩ := open_int Try.underlying3 (hval 1 3 v1 rfl rfl) h1
  obtain ⟨a2, l2, c2, rfl⟩ := okWide_slice Try.underlying23 (hval 2 23 v2 rfl rfl)
  obtain ⟨a3, l3, c3, rfl⟩ := okWide_slice Try.underlying23 (hval 3 23 v3 rfl rfl)
  have fin : Calls Try.prog 5 #[.int .i64 x0, .int .i64 x1, .slice a2 l2 c2, .slice a3 l3 c3] W fun e w' => e = .returned (.bool true) ∧ Below W.heap.size W w' := by
    obtain ⟨f1, hf1⟩ := h2
    obtain ⟨f2, hf2⟩ := h3
    obtain ⟨l, hl, hX, hm, hsum⟩ := open_script hf1
    obtain ⟨l', hl', hX', hm', hsum'⟩ := open_script hf2
    have hk : Rows.uptoBulkAll [.lit (.int .i64 x0), .lit (.int .i64 x1), d2, d3] ≤ 1048576 := of_decide_eq_true hk
    simp only [Rows.uptoBulkAll] at hk
    subst hl hl'
    cases hb : heavyB l with
    | true => exact same_heavy1 _ _ a2 a3 c2 c3 l l' W (Lib.hid hX) (Lib.hid hX') hm (by omega) hm' (by omega) hb
    | false =>
      cases hb' : heavyB l' with
      | true => exact same_heavy2 _ _ a2 a3 c2 c3 l l' W (Lib.hid hX) (Lib.hid hX') hm (by omega) hm' (by omega) hb hb'
      | false =>
        by_cases hx : 0 ≤ x0 ∧ x0 ≤ 1048576
        · by_cases hy : 0 ≤ x1 ∧ x1 ≤ 1048576
          · have hb2 := of_decide_eq_false hb
            have hb3 := of_decide_eq_false hb'
            obtain ⟨x0, rfl⟩ := Int.eq_ofNat_of_zero_le hx.1
            obtain ⟨x1, rfl⟩ := Int.eq_ofNat_of_zero_le hy.1
            exact same_walk x0 x1 a2 a3 c2 c3 l l' W (by omega) (by omega) (Lib.hid hX) (Lib.hid hX') (by omega) (by omega) (by omega) (by omega)
          · exact same_room2 _ _ a2 a3 c2 c3 l l' W (Lib.hid hX) (Lib.hid hX') hm (by omega) hm' (by omega) hb hb' hx hy
        · exact same_room1 _ _ a2 a3 c2 c3 l l' W (Lib.hid hX) (Lib.hid hX') hm (by omega) hm' (by omega) hb hb' hx
  refine fin.mono fun e W' ⟨he, hb⟩ => ?_
  subst he
  exact ⟨_, rfl, law_post Try.laidOut (by kernel_rfl) (t := 4) rfl Try.underlying4 rfl hW' rfl rfl rfl hb⟩

theorem diskSame_holds : Rows.DiskSameUptoSaid :=
  OpenClaim.holds_of_cond 5 Try.f5 rfl rfl rfl rfl rfl rfl rfl ⟨rfl, rfl, rfl, rfl, rfl⟩ rfl rfl rfl rfl rfl (by kernel_rfl) Try.func5 (by kernel_rfl)
    (of_decide_eq_true (by kernel_rfl)) (by unfold Func.isWrapper; first | (rw [if_pos (by decide +kernel)]; kernel_rfl) | (rw [if_neg (by decide +kernel)]; exact ⟨rfl, rfl⟩))
    (fun os started H enc _ F => diskSame_lifted os started H enc F)

end Go.Proofs.Ytimoenlnkafhoaa
