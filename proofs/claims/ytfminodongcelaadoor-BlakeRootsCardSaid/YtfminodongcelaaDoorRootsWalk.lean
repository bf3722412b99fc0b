/-
  The words to begin with are the roots that the document names: the statement's walk.
-/
import Derived.Test.YtfminodongcelaaDoorRootVals
import Derived.Laws.Bits128
import Derived.RegionTactic
import Derived.Deep.RegionWith
set_option linter.unusedVariables false
set_option linter.unusedSimpArgs false
namespace Go.Proofs.YtfminodongcelaaDoor
open Go.RowKit

theorem i64_and65535 (n : Int) : bits .and .i64 n 65535 = n % 65536 := by
  have h127 : (BitVec.ofInt 64 65535).toNat = 2 ^ 16 - 1 := by decide
  have key : (BitVec.ofInt 64 n &&& BitVec.ofInt 64 65535).toNat = (n % ((2 ^ 64 : Nat) : Int)).toNat % 2 ^ 16 := by
    rw [BitVec.toNat_and, BitVec.toNat_ofInt, h127, Nat.and_two_pow_sub_one_eq_mod]
  show IntKind.i64.wrap ((BitVec.ofInt 64 n &&& BitVec.ofInt 64 65535).toNat : Nat) = n % 65536
  rw [key, IntKind.wrap_i64]
  omega
theorem at_in (n : Int) : ∃ m k : Nat, bits .and .i64 n 65535 = m ∧ (m : Int).tmod 8 = k ∧ (m : Int) % 8 = k ∧ IntKind.i64.wrap (k : Int) = k ∧ wrap64 (k : Int) = k ∧ (0 : Int) ≤ m ∧ (0 : Int) ≤ k ∧ (k : Int) < 8 ∧ k < 8 := by
  refine ⟨(n % 65536).toNat, (n % 65536).toNat % 8, ?_, ?_, ?_, IntWalk.i64_in _ (by omega), by unfold wrap64; omega, by omega⟩
  · rw [i64_and65535]; omega
  · rw [Int.tmod_eq_emod_of_nonneg (by omega)]; omega
  · omega
theorem index_iv (k : Nat) (h : k < 8) (w : World) : (Instr.index 38 (.agg (ws iv)) (.int .i64 (k : Int))).run Tryd.prog w = .ok (.int .u32 (at_ iv k : Nat)) w := by
  have hk : k = 0 ∨ k = 1 ∨ k = 2 ∨ k = 3 ∨ k = 4 ∨ k = 5 ∨ k = 6 ∨ k = 7 := by omega
  rcases hk with rfl | rfl | rfl | rfl | rfl | rfl | rfl | rfl <;> first | rfl | (show _ = _; kernel_rfl)
theorem lst_get (k : Nat) (h : k < 8) : ∃ V I : Nat, (vs (lstN 18))[k]? = some (.int .u64 (V : Int)) ∧ at_ iv k = I ∧ V < 18446744073709551616 ∧ IntKind.u32.wrap ((V : Int) / 4294967296) = I := by
  rw [lst18]
  match k, h with
  | 0, _ => exact ⟨7640891576956012808, 1779033703, rfl, rfl, by decide, by decide⟩
  | 1, _ => exact ⟨13503953896175478587, 3144134277, rfl, rfl, by decide, by decide⟩
  | 2, _ => exact ⟨4354685564936845355, 1013904242, rfl, rfl, by decide, by decide⟩
  | 3, _ => exact ⟨11912009170470909681, 2773480762, rfl, rfl, by decide, by decide⟩
  | 4, _ => exact ⟨5840696475078001361, 1359893119, rfl, rfl, by decide, by decide⟩
  | 5, _ => exact ⟨11170449401992604703, 2600822924, rfl, rfl, by decide, by decide⟩
  | 6, _ => exact ⟨2270897969802886507, 528734635, rfl, rfl, by decide, by decide⟩
  | 7, _ => exact ⟨6620516959819538809, 1541459225, rfl, rfl, by decide, by decide⟩

set_option maxHeartbeats 4000000 in
theorem roots_walk (n : Int) (w : World) (hT : Tab w) : Calls Tryd.prog 5 #[.int .i64 n] w fun e w' => e = .returned (.bool true) ∧ Below w.heap.size w w' := by
  have H0 := Lib.hid hT
  clear hT
  obtain ⟨m, k, a1, a2, a3, a4, a5, a6, a7, a8, hk⟩ := at_in n
  have hidx := index_iv k hk
  obtain ⟨V, I, hV, hI, hlt, hVI⟩ := lst_get k hk
  rw [hI] at hidx
  have HV := Lib.hid (And.intro hV hlt)
  clear hV hI hlt hk
  go_enter Tryd.func5, Tryd.ntmps5
  go_wp2_with fail
  refine wp_region_any (by kernel_rfl) ?_
  change wpAny _ _ _ _ _ _ _ (World.drew _)
  refine wpAny_take (i := 1) (v := ?_) rfl (by kernel_rfl) (by kernel_rfl) (by kernel_rfl) (fun _ _ _ h => h) (Or.inl ⟨by rfl, ?_⟩) ?_
  rotate_left 1
  · (intro w; go_simp; try (with_reducible rfl))
  try simp only [Act.put, List.setIfInBounds_toArray, List.set_cons_zero, List.set_cons_succ]
  refine wpAny_take (i := 4) (v := ?_) rfl (by kernel_rfl) (by kernel_rfl) (by kernel_rfl) (fun _ _ _ h => h) (Or.inl ⟨by rfl, ?_⟩) ?_
  rotate_left 1
  · (intro w; go_simp; try (with_reducible rfl))
  try simp only [Act.put, List.setIfInBounds_toArray, List.set_cons_zero, List.set_cons_succ]
  refine wpAny_ready (rs := [0]) (by kernel_rfl) (by simp) ?_
  refine AllReady.cons rfl (fun K hK => ?_) AllReady.nil
  go_simp
  refine (begin_any _).mono ?_
  rintro e wb ⟨rfl, Bb⟩
  have HB := Lib.hid ((Below.refl w.heap.size w).drew.trans Bb)
  clear Bb
  simp only []
  refine hK _ _ ?_
  clear hK K
  try simp only [Act.put, List.setIfInBounds_toArray, List.set_cons_zero, List.set_cons_succ]
  refine wpAny_take (i := 2) (v := ?_) rfl (by kernel_rfl) (by kernel_rfl) (by kernel_rfl) (fun _ _ _ h => h) (Or.inl ⟨by rfl, ?_⟩) ?_
  rotate_left 1
  · (intro w; go_simp; try (with_reducible rfl))
  try simp only [Act.put, List.setIfInBounds_toArray, List.set_cons_zero, List.set_cons_succ]
  refine wpAny_ready (rs := [3]) (by kernel_rfl) (by simp) ?_
  refine AllReady.cons rfl (fun K hK => ?_) AllReady.nil
  go_simp
  refine (roots_any _).mono ?_
  rintro e wc ⟨g, cap, rfl, hcells, Bc⟩
  have hc := hcells k _ HV.out.1
  have HW := Lib.hid (HB.out.trans (Bc.mono HB.out.size))
  clear hcells Bc
  simp only []
  refine hK _ _ ?_
  clear hK K
  try simp only [Act.put, List.setIfInBounds_toArray, List.set_cons_zero, List.set_cons_succ]
  refine wpAny_take (i := 5) (v := ?_) rfl (by kernel_rfl) (by kernel_rfl) (by kernel_rfl) (fun _ _ _ h => h) (Or.inl ⟨by rfl, ?_⟩) ?_
  rotate_left 1
  · (intro w; go_simp; try (with_reducible rfl))
  try simp only [Act.put, List.setIfInBounds_toArray, List.set_cons_zero, List.set_cons_succ]
  refine wpAny_ready (rs := [6]) (by kernel_rfl) (by simp) ?_
  refine AllReady.cons rfl (fun K hK => ?_) AllReady.nil
  go_simp
  refine hK _ _ ?_
  clear hK K
  try simp only [Act.put, List.setIfInBounds_toArray, List.set_cons_zero, List.set_cons_succ]
  refine wpAny_take (i := 7) (v := ?_) rfl (by kernel_rfl) (by kernel_rfl) (by kernel_rfl) (fun _ _ _ h => h) (Or.inl ⟨by rfl, ?_⟩) ?_
  rotate_left 1
  · (intro w; go_simp; try (with_reducible rfl))
  try simp only [Act.put, List.setIfInBounds_toArray, List.set_cons_zero, List.set_cons_succ]
  refine wpAny_take (i := 8) (v := ?_) rfl (by kernel_rfl) (by kernel_rfl) (by kernel_rfl) (fun _ _ _ h => h) (Or.inl ⟨by rfl, ?_⟩) ?_
  rotate_left 1
  · (intro w; go_simp; try (with_reducible rfl))
  try simp only [Act.put, List.setIfInBounds_toArray, List.set_cons_zero, List.set_cons_succ]
  refine wpAny_take (i := 9) (v := ?_) rfl (by kernel_rfl) (by kernel_rfl) (by kernel_rfl) (fun _ _ _ h => h) (Or.inl ⟨by rfl, ?_⟩) ?_
  rotate_left 1
  · (intro w; go_simp; try (with_reducible rfl))
  try simp only [Act.put, List.setIfInBounds_toArray, List.set_cons_zero, List.set_cons_succ]
  refine wpAny_take (i := 10) (v := ?_) rfl (by kernel_rfl) (by kernel_rfl) (by kernel_rfl) (fun _ _ _ h => h) (Or.inl ⟨by rfl, ?_⟩) ?_
  rotate_left 1
  · (intro w; go_simp; try (with_reducible rfl))
  try simp only [Act.put, List.setIfInBounds_toArray, List.set_cons_zero, List.set_cons_succ]
  refine wpAny_ready (rs := [11]) (by kernel_rfl) (by simp) ?_
  refine AllReady.cons rfl (fun K hK => ?_) AllReady.nil
  go_simp
  refine (alive_any _ (H0.out.more HW.out)).mono ?_
  rintro e wz ⟨rfl, Bz⟩
  have HZ := Lib.hid (HW.out.trans (Bz.mono HW.out.size))
  clear Bz
  simp only []
  refine hK _ _ ?_
  clear hK K
  try simp only [Act.put, List.setIfInBounds_toArray, List.set_cons_zero, List.set_cons_succ]
  refine wpAny_take (i := 12) (v := ?_) rfl (by kernel_rfl) (by kernel_rfl) (by kernel_rfl) (fun _ _ _ h => h) (Or.inl ⟨by rfl, ?_⟩) ?_
  rotate_left 1
  · (intro w; go_simp; try (with_reducible rfl))
  try simp only [Act.put, List.setIfInBounds_toArray, List.set_cons_zero, List.set_cons_succ]
  refine wpAny_ready (rs := [13]) (by kernel_rfl) (by simp) ?_
  refine AllReady.cons rfl (fun K hK => ?_) AllReady.nil
  go_simp
  refine hK _ _ ?_
  clear hK K
  try simp only [Act.put, List.setIfInBounds_toArray, List.set_cons_zero, List.set_cons_succ]
  refine wpAny_done (by kernel_rfl) ?_ _
  try simp only [Act.put, List.setIfInBounds_toArray, List.set_cons_zero, List.set_cons_succ]
  go_wp2_with fail
  go_ret
  exact ⟨rfl, HZ.out⟩

end Go.Proofs.YtfminodongcelaaDoor
