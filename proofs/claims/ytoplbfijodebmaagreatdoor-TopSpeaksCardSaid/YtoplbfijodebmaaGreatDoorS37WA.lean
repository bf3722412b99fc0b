/-
  The walk.
-/
import Derived.Test.YtoplbfijodebmaaGreatDoorS36DB
import Derived.Laws.BitsAllLaws
import Derived.Lib.SliceRun
set_option linter.unusedVariables false
set_option linter.unusedSimpArgs false
set_option maxRecDepth 100000
set_option maxHeartbeats 40000000
namespace Go.Proofs.YtoplbfijodebmaaGreatDoor
section
open Go.RowKit T
theorem KS.over {L L' L2 : List (Nat × Obj)} {X X' : List Nat} {w u u' : World} (h : KS L X w u) (k : KS L' X' u u') (h1 : ∀ x ∈ L2, x ∈ L' ∨ (x ∈ L ∧ x.1 ∉ X')) (h2 : L2.map (·.1) = L.map (·.1)) (h3 : ∀ g ∈ X', ∃ o, (g, o) ∈ L) : KS L2 X w u' := by
 refine ⟨fun x hx => ?_, ?_, fun x hx => ?_, k.os.trans h.os, k.tape.trans h.tape, k.output.trans h.output, Nat.le_trans h.size k.size, fun j hj hX => ?_⟩
 ·rcases h1 x hx with h1 | ⟨h1, hn⟩
  ·exact k.all x h1
  exact (k.old x.1 (lt_heap (h.all x h1)) hn).trans (h.all x h1)
 ·have e1 : (L2.map (·.1)).Pairwise (· ≠ ·) := by
   rw [h2]
   exact List.pairwise_map.2 h.ne
  exact List.pairwise_map.1 e1
 ·have hm : x.1 ∈ L.map (·.1) := by rw [← h2]; exact List.mem_map_of_mem hx
  obtain ⟨y, hy, e⟩ := List.mem_map.1 hm
  rw [← e]
  exact h.ge y hy
 refine (k.old j (Nat.lt_of_lt_of_le hj h.size) fun hm => ?_).trans (h.old j hj hX)
 obtain ⟨o, ho⟩ := h3 j hm
 rcases h.ge _ ho with e | e
 ·exact hX e
 simp only [] at e; omega
theorem KS.startL {L : List (Nat × Obj)} (w : World) (h : ∀ x ∈ L, w.heap[x.1]? = some x.2) (hn : L.Pairwise fun x y => x.1 ≠ y.1) : KS L (L.map (·.1)) w w :=
 ⟨h, hn, fun x hx => Or.inl (List.mem_map_of_mem hx), rfl, rfl, rfl, Nat.le_refl _, fun _ _ _ => rfl⟩
def winO (bb H : Nat) (any : Bool) : Obj := .cells #[.int .u64 64, .slice (some ⟨bb, 0, none⟩) 1 1, .int .u64 (H : Int), .bool any] 104
def bitO (B : Nat) : Obj := .cells #[.int .u64 (B : Int)] 29
structure WinOk (B H : Nat) (any : Bool) : Prop where
 lt : B < 18446744073709551616
 hi : H < 64
 no : any = false → B = 0
 up : ∀ i, H < i → B.testBit i = false
theorem rem_u (t : TypeId) (m d q : Nat) (hd : 0 < d) (hq : m % d = q) (hb : q < 1000) : binOp .rem t (.int .u64 (m : Int)) (.int .u64 (d : Int)) = pure (.int .u64 (q : Int)) := by
 have a2 := u64w (x := (q : Int)) (n := q) rfl (by omega)
 have e : (m : Int).tmod (d : Int) = q := by rw [Int.tmod_eq_emod_of_nonneg (by omega), ← hq]; rfl
 have e2 : ¬ ((d : Int) = 0) := by omega
 simp [go_sem, e, a2]
 omega
theorem quo_u (t : TypeId) (m d q : Nat) (hd : 0 < d) (hq : m / d = q) (hb : q < 1000) : binOp .quo t (.int .u64 (m : Int)) (.int .u64 (d : Int)) = pure (.int .u64 (q : Int)) := by
 have a2 := u64w (x := (q : Int)) (n := q) rfl (by omega)
 have e : (m : Int).tdiv (d : Int) = q := by rw [Int.tdiv_eq_ediv_of_nonneg (by omega), ← hq]; rfl
 have e2 : ¬ ((d : Int) = 0) := by omega
 simp [go_sem, e, a2]
 omega
theorem win_none (wb bb H : Nat) (any : Bool) (w : World) (h : w.heap[wb]? = some (winO bb H any)) : Calls Tryz.prog 49 #[.pointer (some ⟨wb, 0, none⟩)] w fun e w' => e = .returned (.bool false) ∧ w' = w := by
 have c1 : w.cell? ⟨wb, 1, none⟩ = some (.slice (some ⟨bb, 0, none⟩) 1 1) := by rw [Lib.cell_of_heap h]; rfl
 have hq := Lib.run_eql_slice_nil (P := Tryz.prog) w 102 29 (some ⟨bb, 0, none⟩) 1 1 0 0 (by kernel_rfl)
 rw [Option.isNone_some] at hq
 clear h
 go_enter Tryz.func49, Tryz.ntmps49
 go_wp2_with fail
 go_ret
 exact ⟨rfl, rfl⟩
theorem bitw_i (n : Nat) (hn : n < 64) : ∃ m : Nat, m = 2 ^ n ∧ binOp .rem 29 (.int .u64 (n : Int)) (.int .u64 64) = pure (.int .u64 (n : Int)) ∧ binOp .quo 29 (.int .u64 (n : Int)) (.int .u64 64) = pure (.int .u64 0) ∧ Op.shift .shl .u64 1 .u64 (n : Int) = pure (.int .u64 (m : Int)) := by
 refine ⟨2 ^ n, rfl, rem_u 29 n 64 n (by decide) (Nat.mod_eq_of_lt hn) (by omega), quo_u 29 n 64 0 (by decide) (Nat.div_eq_of_lt hn) (by decide), ?_⟩
 rw [shift_shl _ _ _ _ (by omega) (by show (n : Int) ≤ 64; omega), Int.toNat_natCast]
 have hp : 2 ^ n < 2 ^ 64 := Nat.pow_lt_pow_right (by decide) hn
 have e : (1 : Int) * 2 ^ n = ((2 ^ n : Nat) : Int) := by simp
 rw [e, u64w rfl (by simpa using hp)]
theorem win_bit (wb bb H n M : Nat) (any : Bool) (w : World) (h : w.heap[wb]? = some (winO bb H any)) (hn : n < 64) (hM : M = 2 ^ n) : Calls Tryz.prog 50 #[.pointer (some ⟨wb, 0, none⟩), .int .u64 (n : Int)] w fun e w' => e = .returned (.tuple #[.pointer (some ⟨bb, 0, none⟩), .int .u64 (M : Int)]) ∧ w' = w := by
 have c0 : w.cell? ⟨wb, 0, none⟩ = some (.int .u64 64) := by rw [Lib.cell_of_heap h]; rfl
 have c1 : w.cell? ⟨wb, 1, none⟩ = some (.slice (some ⟨bb, 0, none⟩) 1 1) := by rw [Lib.cell_of_heap h]; rfl
 obtain ⟨m, hm, r1, r2, r3⟩ := bitw_i n hn
 rw [← hm] at hM
 subst hM
 clear h hn hm
 go_enter Tryz.func50, Tryz.ntmps50
 go_wp2_with (first | (with_reducible show Oper.wp _ _ _ _ _ _; refine wp_bin r1 rfl rfl rfl ?_) | (with_reducible show Oper.wp _ _ _ _ _ _; refine wp_bin r2 rfl rfl rfl ?_) | (with_reducible show Oper.wp _ _ _ _ _ _; refine wp_shift r3 (Or.inr rfl) rfl rfl rfl ?_))
 go_ret2
 exact ⟨rfl, rfl⟩
theorem and_bit (B n : Nat) (hB : B < 18446744073709551616) (hn : n < 64) : ∃ M z : Nat, M = 2 ^ n ∧ bits .and .u64 (B : Int) (M : Int) = (z : Int) ∧ (B.testBit n = false → z = 0) ∧ (B.testBit n = true → ¬ (z : Int) = 0) := by
 have hp : 2 ^ n < 2 ^ 64 := Nat.pow_lt_pow_right (by decide) hn
 refine ⟨2 ^ n, B &&& 2 ^ n, rfl, u64_and_nat B _ hB (by simpa using hp), fun h => ?_, fun h h2 => ?_⟩
 ·apply Nat.eq_of_testBit_eq
  intro i
  rw [Nat.testBit_and, Nat.testBit_two_pow, Nat.zero_testBit]
  by_cases e : n = i
  ·subst e; rw [h]; rfl
  simp [e]
 have h3 : B &&& 2 ^ n = 0 := by omega
 have := congrArg (fun x => Nat.testBit x n) h3
 simp only [Nat.testBit_and, Nat.testBit_two_pow, h, Nat.zero_testBit] at this
 simp at this
theorem old_i (H n : Nat) (hH : H < 64) (h : ¬ H < n) : ∃ d : Nat, IntKind.u64.wrap ((H : Int) - (n : Int)) = d ∧ ¬ (64 : Int) ≤ d ∧ (d : Int) < 64 := by
 exact ⟨H - n, u64w (by omega) (by omega), by omega, by omega⟩
theorem win_may (wb bb B H n : Nat) (any : Bool) (w : World) (h : w.heap[wb]? = some (winO bb H any)) (hb : w.heap[bb]? = some (bitO B)) (ok : WinOk B H any) (hn : n < 64) :
  Calls Tryz.prog 29 #[.pointer (some ⟨wb, 0, none⟩), .int .u64 (n : Int)] w fun e w' => e = .returned (.int .i64 (if B.testBit n then 9 else 0)) ∧ Below w.heap.size w w' := by
 have c0 : w.cell? ⟨wb, 0, none⟩ = some (.int .u64 64) := by rw [Lib.cell_of_heap h]; rfl
 have c2 : w.cell? ⟨wb, 2, none⟩ = some (.int .u64 (H : Int)) := by rw [Lib.cell_of_heap h]; rfl
 have c3 : w.cell? ⟨wb, 3, none⟩ = some (.bool any) := by rw [Lib.cell_of_heap h]; rfl
 have b0 : w.cell? ⟨bb, 0, none⟩ = some (.int .u64 (B : Int)) := by rw [Lib.cell_of_heap hb]; rfl
 have HW := hDx (And.intro h (And.intro hb hn))
 have HO := hDx ok
 clear h hb hn ok
 cases any with
 | false =>
  have hz := HO.out.no rfl
  have hr : (if B.testBit n then (9 : Int) else 0) = 0 := by rw [hz, Nat.zero_testBit]; rfl
  rw [hr]
  clear hz hr b0
  go_enter Tryz.func29, Tryz.ntmps29
  go_wp2_with (go_at_call 49; refine (win_none wb bb H false _ HW.out.1).mono ?_; rintro e w1 ⟨rfl, rfl⟩)
  go_ret
  exact ⟨rfl, Below.refl _ _⟩
 | true =>
  by_cases hlt : H < n
  ·have hr : (if B.testBit n then (9 : Int) else 0) = 0 := by rw [HO.out.up n hlt]; rfl
   rw [hr]
   have hi : (H : Int) < n := by omega
   clear hr b0 hlt
   go_enter Tryz.func29, Tryz.ntmps29
   go_wp2_with (go_at_call 49; refine (win_none wb bb H true _ HW.out.1).mono ?_; rintro e w1 ⟨rfl, rfl⟩)
   go_ret
   exact ⟨rfl, Below.refl _ _⟩
  ·obtain ⟨d, d1, d2, d3⟩ := old_i H n HO.out.hi hlt
   obtain ⟨M, z, hM, z1, z2, z3⟩ := and_bit B n HO.out.lt HW.out.2.2
   have HM := hDx hM
   clear hM
   have hi : ¬ (H : Int) < n := by omega
   clear hlt
   have ht : B.testBit n = true ∨ B.testBit n = false := by cases B.testBit n <;> simp
   rcases ht with ht | ht
   ·rw [ht]
    have hz := z3 ht
    clear z2 z3 ht
    go_enter Tryz.func29, Tryz.ntmps29
    go_upto_region 5 with (go_at_call 49; refine (win_none wb bb H true _ HW.out.1).mono ?_; rintro e w1 ⟨rfl, rfl⟩)
    go_still (by kernel_rfl)
    go_wp2_with (go_at_call 50; refine (win_bit wb bb H n M true _ (by exact HW.out.1) HW.out.2.2 HM.out).mono ?_; rintro e w1 ⟨rfl, rfl⟩)
    go_ret
    exact ⟨rfl, (Below.refl _ _).drew⟩
   ·rw [ht]
    have hz := z2 ht
    subst hz
    clear z2 z3 ht
    go_enter Tryz.func29, Tryz.ntmps29
    go_upto_region 5 with (go_at_call 49; refine (win_none wb bb H true _ HW.out.1).mono ?_; rintro e w1 ⟨rfl, rfl⟩)
    go_still (by kernel_rfl)
    go_wp2_with (go_at_call 50; refine (win_bit wb bb H n M true _ (by exact HW.out.1) HW.out.2.2 HM.out).mono ?_; rintro e w1 ⟨rfl, rfl⟩)
    go_ret
    exact ⟨rfl, (Below.refl _ _).drew⟩
end
section
open Go.RowKit T
def mkH (any : Bool) (H n : Nat) : Nat := if any then max H n else n
theorem testBit_big (B i : Nat) (hB : B < 18446744073709551616) (h : 64 ≤ i) : B.testBit i = false :=
 Nat.testBit_lt_two_pow (Nat.lt_of_lt_of_le hB (Nat.pow_le_pow_right (n := 2) (by decide) h))
theorem WinOk.mark {B H n : Nat} {any : Bool} (ok : WinOk B H any) (hn : n < 64) : WinOk (B ||| 2 ^ n) (mkH any H n) true := by
 have hp : 2 ^ n < 2 ^ 64 := Nat.pow_lt_pow_right (by decide) hn
 refine ⟨Nat.or_lt_two_pow (n := 64) ok.lt hp, ?_, fun h => (by cases h), fun i hi => ?_⟩
 ·unfold mkH
  have := ok.hi
  split <;> omega
 have hn2 : n < i := by unfold mkH at hi; split at hi <;> omega
 rw [Nat.testBit_or, Nat.testBit_two_pow]
 have h1 : B.testBit i = false := by
  cases any with
  | false => rw [ok.no rfl, Nat.zero_testBit]
  | true => exact ok.up i (by unfold mkH at hi; simp at hi; omega)
 rw [h1]
 simp
 omega
theorem or_bit (B n : Nat) (hB : B < 18446744073709551616) (hn : n < 64) : ∃ M N : Nat, M = 2 ^ n ∧ N = B ||| 2 ^ n ∧ bits .or .u64 (B : Int) (M : Int) = (N : Int) := by
 have hp : 2 ^ n < 2 ^ 64 := Nat.pow_lt_pow_right (by decide) hn
 exact ⟨2 ^ n, B ||| 2 ^ n, rfl, rfl, u64_or_nat B _ hB (by simpa using hp)⟩
theorem not_bit (B n : Nat) (hB : B < 18446744073709551616) (hn : n < 64) (h : B.testBit n = false) : ∃ M : Nat, M = 2 ^ n ∧ bits .andNot .u64 (B : Int) (M : Int) = (B : Int) := by
 have hp : 2 ^ n < 2 ^ 64 := Nat.pow_lt_pow_right (by decide) hn
 refine ⟨2 ^ n, rfl, ?_⟩
 rw [u64_andNot_nat B _ hB (by simpa using hp)]
 congr 1
 apply Nat.eq_of_testBit_eq
 intro i
 rw [Nat.testBit_and, show 18446744073709551615 - 2 ^ n = 2 ^ 64 - (2 ^ n + 1) by omega, Nat.testBit_two_pow_sub_succ hp, Nat.testBit_two_pow]
 by_cases e : n = i
 ·subst e; rw [h]; rfl
 rcases Nat.lt_or_ge i 64 with h2 | h2
 ·simp [e, h2]
 rw [testBit_big B i hB h2]; simp
theorem clr_i (bb B : Nat) (w : World) (h : w.heap[bb]? = some (bitO B)) : ∀ ty, (Builtin.clear_ #[102] ty #[.slice (some ⟨bb, 0, none⟩) 1 1]).run Tryz.prog w = .ok (.tuple #[]) (w.setCell ⟨bb, 0, none⟩ (.int .u64 0)) := fun ty =>
 Lib.run_clear_slice (P := Tryz.prog) w 102 29 ty (.int .u64 0) (by kernel_rfl) (fun w => by rfl) rfl rfl bb 0 1 1 (by decide) (fun j hj => by
  obtain rfl : j = 0 := by omega
  rw [Lib.cell_of_heap h]; rfl) (fun j hj => Lib.frozen_of_heap h _)
theorem sub_i (n i : Nat) (hn : n < 64) (hi : i < n) : IntKind.u64.wrap ((n : Int) - (i : Int)) = ((n - i : Nat) : Int) ∧ IntKind.u64.wrap ((i : Int) + 1) = ((i + 1 : Nat) : Int) ∧ n - i < 64 := ⟨u64w (by omega) (by omega), u64w (by omega) (by omega), by omega⟩
theorem gap_i (H n : Nat) (hn : n < 64) (h : H < n) : ∃ D : Nat, D = n - H ∧ IntKind.u64.wrap ((n : Int) - (H : Int)) = (D : Int) ∧ ¬ (64 : Int) ≤ D ∧ (D : Int) < 64 ∧ (H : Int) < n := ⟨n - H, rfl, u64w (by omega) (by omega), by omega, by omega, by omega⟩
theorem win_ne {wb bb B H : Nat} {any : Bool} {w : World} (h : w.heap[wb]? = some (winO bb H any)) (hb : w.heap[bb]? = some (bitO B)) : bb ≠ wb := by
 rintro rfl
 rw [h] at hb
 simp [winO, bitO] at hb
theorem win_start {wb bb B H : Nat} {any : Bool} {w : World} (h : w.heap[wb]? = some (winO bb H any)) (hb : w.heap[bb]? = some (bitO B)) : KS [(bb, bitO B), (wb, winO bb H any)] [bb, wb] w w := by
 have hn := win_ne h hb
 refine KS.startL w (L := [(bb, bitO B), (wb, winO bb H any)]) ?_ ?_
 ·intro x hx
  simp at hx
  rcases hx with rfl | rfl
  ·exact hb
  exact h
 simp [hn]
theorem KS.drewN {L : List (Nat × Obj)} {X : List Nat} {w u : World} (h : KS L X w u) (n : Nat) : KS L X w (u.drewN n) := ⟨h.all, h.ne, h.ge, h.os, h.tape, h.output, h.size, h.old⟩
section
variable {wb bb B H : Nat} {any : Bool} {w u : World}
theorem wc0 (h : u.heap[wb]? = some (winO bb H any)) : u.cell? ⟨wb, 0, none⟩ = some (.int .u64 64) := by rw [Lib.cell_of_heap h]; rfl
theorem wc1 (h : u.heap[wb]? = some (winO bb H any)) : u.cell? ⟨wb, 1, none⟩ = some (.slice (some ⟨bb, 0, none⟩) 1 1) := by rw [Lib.cell_of_heap h]; rfl
theorem wc2 (h : u.heap[wb]? = some (winO bb H any)) : u.cell? ⟨wb, 2, none⟩ = some (.int .u64 (H : Int)) := by rw [Lib.cell_of_heap h]; rfl
theorem wc3 (h : u.heap[wb]? = some (winO bb H any)) : u.cell? ⟨wb, 3, none⟩ = some (.bool any) := by rw [Lib.cell_of_heap h]; rfl
theorem wfz (h : u.heap[wb]? = some (winO bb H any)) (i : Nat) : u.frozen? ⟨wb, i, none⟩ = false := Lib.frozen_of_heap h i
theorem bc0 (h : u.heap[bb]? = some (bitO B)) : u.cell? ⟨bb, 0, none⟩ = some (.int .u64 (B : Int)) := by rw [Lib.cell_of_heap h]; rfl
theorem bfz0 (h : u.heap[bb]? = some (bitO B)) : u.frozen? ⟨bb, 0, none⟩ = false := Lib.frozen_of_heap h 0
end
theorem win_mark (wb bb B H n : Nat) (any : Bool) (w : World) (h : w.heap[wb]? = some (winO bb H any)) (hb : w.heap[bb]? = some (bitO B)) (ok : WinOk B H any) (hn : n < 64) (ht : B.testBit n = false) :
  Calls Tryz.prog 31 #[.pointer (some ⟨wb, 0, none⟩), .int .u64 (n : Int)] w fun e w' => e = .returned (.int .i64 0) ∧ KS [(bb, bitO (B ||| 2 ^ n)), (wb, winO bb (mkH any H n) true)] [bb, wb] w w' := by
 obtain ⟨M, N, hM, hN, hor⟩ := or_bit B n ok.lt hn
 rw [← hN]
 have hne := win_ne h hb
 have hnw : wb ≠ bb := hne.symm
 have H0 := hDx (win_start h hb)
 have HA := hDx (And.intro h (And.intro hb (And.intro ok hn)))
 have HM := hDx (And.intro hM hN)
 have HT := hDx ht
 clear h hb hM hN ok hn ht
 cases any with
 | false =>
  have hB : B = 0 := HA.out.2.2.1.no rfl
  subst hB
  go_enter Tryz.func31, Tryz.ntmps31
  go_upto_region 4 with (go_at_call 29; refine (win_may wb bb 0 H n false _ HA.out.1 HA.out.2.1 HA.out.2.2.1 HA.out.2.2.2).mono ?_; rw [HT.out]; rintro e w1 ⟨rfl, B1⟩; have HK := hDx (H0.out.call B1); clear B1)
  have c1 := wc1 (HK.out.get 1 rfl)
  have c3 := wc3 (HK.out.get 1 rfl)
  go_quiet (fail)
  obtain ⟨wq, hwq⟩ := nm (w1.drewN nq)
  have HQ := hDx (HK.out.drewN nq)
  rw [← hwq] at HQ
  rw [← hwq]
  clear hwq c1 c3
  have c1 := wc1 (HQ.out.get 1 rfl)
  have hcl := clr_i bb 0 wq (HQ.out.get 0 rfl)
  go_upto_region 6 with (fail)
  obtain ⟨w2, hw2⟩ := nm (wq.setCell ⟨bb, 0, none⟩ (.int .u64 0))
  have HK2 : Hid (KS [(bb, bitO 0), (wb, winO bb H false)] [bb, wb] w w2) := by rw [hw2]; exact hDx (HQ.out.set 0 rfl 0 (.int .u64 0))
  rw [← hw2]
  clear c1 hcl hw2
  have c2 := wc2 (HK2.out.get 1 rfl)
  have c3 := wc3 (HK2.out.get 1 rfl)
  have f2 := wfz (HK2.out.get 1 rfl) 2
  have f3 := wfz (HK2.out.get 1 rfl) 3
  go_upto_region 15 with (fail)
  obtain ⟨w3, hw3⟩ := nm ((w2.setCell ⟨wb, 2, none⟩ (.int .u64 (n : Int))).setCell ⟨wb, 3, none⟩ (.bool true))
  have HK3 : Hid (KS [(bb, bitO 0), (wb, winO bb n true)] [bb, wb] w w3) := by rw [hw3]; exact hDx ((HK2.out.set 1 rfl 2 (.int .u64 (n : Int))).set 1 rfl 3 (.bool true))
  rw [← hw3]
  clear c2 c3 f2 f3 hw3
  have b0 := bc0 (HK3.out.get 0 rfl)
  have g0 := bfz0 (HK3.out.get 0 rfl)
  simp only [Int.cast_ofNat_Int] at b0 hor
  go_wp2_with (go_at_call 50; refine (win_bit wb bb n n M true _ (HK3.out.get 1 rfl) HA.out.2.2.2 HM.out.1).mono ?_; rintro e w4 ⟨rfl, rfl⟩)
  go_ret
  exact ⟨rfl, HK3.out.set 0 rfl 0 (.int .u64 (N : Int))⟩
 | true =>
  by_cases hlt : H < n
  ·obtain ⟨D, hD, d1, d2, d3, d4⟩ := gap_i H n HA.out.2.2.2 hlt
   have hmk : mkH true H n = n := by unfold mkH; rw [if_pos rfl]; omega
   rw [hmk]
   have HD := hDx (And.intro hD hlt)
   clear hD hlt hmk
   go_enter Tryz.func31, Tryz.ntmps31
   go_upto_region 4 with (go_at_call 29; refine (win_may wb bb B H n true _ HA.out.1 HA.out.2.1 HA.out.2.2.1 HA.out.2.2.2).mono ?_; rw [HT.out]; rintro e w1 ⟨rfl, B1⟩; have HK := hDx (H0.out.call B1); clear B1)
   have c0 := wc0 (HK.out.get 1 rfl)
   have c2 := wc2 (HK.out.get 1 rfl)
   have c3 := wc3 (HK.out.get 1 rfl)
   go_quiet (fail)
   obtain ⟨wq, hwq⟩ := nm (w1.drewN nq)
   have HQ := hDx (HK.out.drewN nq)
   rw [← hwq] at HQ
   rw [← hwq]
   clear hwq c0 c2 c3
   have c2 := wc2 (HQ.out.get 1 rfl)
   go_upto_region 9 with (fail)
   clear c2
   go_wp2_with (fail)
   go_loopw [68] (fun vS wr => ∃ i : Nat, i ≤ D ∧ vS = .int .u64 (i : Int) ∧ KS [(bb, bitO B), (wb, winO bb H true)] [bb, wb] w wr) (fun vS _ => D - (intOf vS).toNat)
   case atStart => exact ⟨0, Nat.zero_le _, rfl, HQ.out⟩
   case round =>
    obtain ⟨i, hi, rfl, hk⟩ := hrel
    have HR := hDx hk
    clear hk
    by_cases hr : i < D
    ·have hin : i < n := by have := HD.out.1; omega
     obtain ⟨s1, s2, s3⟩ := sub_i n i HA.out.2.2.2 hin
     have hbit : B.testBit (n - i) = false := HA.out.2.2.1.up _ (by have := HD.out.1; omega)
     obtain ⟨Mi, hMi, hand⟩ := not_bit B (n - i) HA.out.2.2.1.lt s3 hbit
     have r1 : (i : Int) < D := by omega
     obtain ⟨q, hq⟩ := nm (n - i)
     rw [← hq] at s1 s3 hMi
     have HMi := hDx (And.intro hMi (And.intro s3 hr))
     clear hMi s3 hr hq hbit hin hi
     have b0 := bc0 (HR.out.get 0 rfl)
     have g0 := bfz0 (HR.out.get 0 rfl)
     go_wp2_with (go_at_call 50; refine (win_bit wb bb H q Mi true _ (HR.out.get 1 rfl) HMi.out.2.1 HMi.out.1).mono ?_; rintro e w4 ⟨rfl, rfl⟩)
     go_roundw
     case rel => exact ⟨i + 1, HMi.out.2.2, by first | rfl | go_num, HR.out.set 0 rfl 0 (.int .u64 (B : Int))⟩
     case measure => exact measI _ _ HMi.out.2.2
    ·have r1 : ¬ (i : Int) < D := by omega
     clear hr hi
     have c2 := wc2 (HR.out.get 1 rfl)
     have f2 := wfz (HR.out.get 1 rfl) 2
     go_upto_region 15 with (fail)
     obtain ⟨w3, hw3⟩ := nm (wr.setCell ⟨wb, 2, none⟩ (.int .u64 (n : Int)))
     have HK3 : Hid (KS [(bb, bitO B), (wb, winO bb n true)] [bb, wb] w w3) := by rw [hw3]; exact hDx (HR.out.set 1 rfl 2 (.int .u64 (n : Int)))
     rw [← hw3]
     clear c2 f2 hw3
     have b0 := bc0 (HK3.out.get 0 rfl)
     have g0 := bfz0 (HK3.out.get 0 rfl)
     go_wp2_with (go_at_call 50; refine (win_bit wb bb n n M true _ (HK3.out.get 1 rfl) HA.out.2.2.2 HM.out.1).mono ?_; rintro e w4 ⟨rfl, rfl⟩)
     go_ret
     exact ⟨rfl, HK3.out.set 0 rfl 0 (.int .u64 (N : Int))⟩
  ·have hmk : mkH true H n = H := by unfold mkH; rw [if_pos rfl]; omega
   rw [hmk]
   have d4 : ¬ (H : Int) < n := by omega
   clear hmk
   go_enter Tryz.func31, Tryz.ntmps31
   go_upto_region 4 with (go_at_call 29; refine (win_may wb bb B H n true _ HA.out.1 HA.out.2.1 HA.out.2.2.1 HA.out.2.2.2).mono ?_; rw [HT.out]; rintro e w1 ⟨rfl, B1⟩; have HK := hDx (H0.out.call B1); clear B1)
   have c0 := wc0 (HK.out.get 1 rfl)
   have c2 := wc2 (HK.out.get 1 rfl)
   have c3 := wc3 (HK.out.get 1 rfl)
   go_quiet (fail)
   obtain ⟨wq, hwq⟩ := nm (w1.drewN nq)
   have HQ := hDx (HK.out.drewN nq)
   rw [← hwq] at HQ
   rw [← hwq]
   clear hwq c0 c2 c3
   have c2 := wc2 (HQ.out.get 1 rfl)
   go_upto_region 15 with (fail)
   clear c2
   have b0 := bc0 (HQ.out.get 0 rfl)
   have g0 := bfz0 (HQ.out.get 0 rfl)
   go_wp2_with (go_at_call 50; refine (win_bit wb bb H n M true _ (HQ.out.get 1 rfl) HA.out.2.2.2 HM.out.1).mono ?_; rintro e w4 ⟨rfl, rfl⟩)
   go_ret
   exact ⟨rfl, HQ.out.set 0 rfl 0 (.int .u64 (N : Int))⟩
theorem win_new (w : World) : Calls Tryz.prog 40 #[.int .i64 64] w fun e w' => ∃ wb bb, e = .returned (.tuple #[.pointer (some ⟨wb, 0, none⟩), .int .i64 0]) ∧ KS [(wb, winO bb 0 false), (bb, bitO 0)] [] w w' := by
 have hmk : (Instr.makeSlice 102 (.int .i64 1) (.int .i64 1)).run Tryz.prog w = .ok (.slice (some ⟨w.heap.size, 0, none⟩) 1 1) (w.alloc (bitO 0)) :=
  (show _ from (by
   have h := run_make_row' (P := Tryz.prog) 102 29 (.int .u64 0) 8 (by kernel_rfl) (by kernel_rfl) rfl .i64 .i64 1 (by decide) (by decide) w
   have e : madeCells #[.int .u64 0] 1 = #[.int .u64 ((0 : Nat) : Int)] := by
    simp [madeCells, show Array.range 1 = #[0] by decide +kernel]
   rw [e] at h
   exact h))
 go_enter Tryz.func40, Tryz.ntmps40
 go_wp2_with fail
 go_ret2
 refine ⟨w.heap.size + 1, w.heap.size, rfl, ?_⟩
 have hk := (((KS.start w).made (bitO 0)).made (winO w.heap.size 0 false))
 rw [World.size_alloc] at hk
 exact hk
theorem WinOk.new : WinOk 0 0 false := ⟨by decide, by decide, fun _ => rfl, fun i _ => Nat.zero_testBit i⟩
end
section
open Go.RowKit T
theorem KS.join {L L' : List (Nat × Obj)} {X : List Nat} {w u u' : World} (h : KS L X w u) (k : KS L' [] u u') : KS (L' ++ L) X w u' :=
 h.grow k.below L' k.ne (fun x hx => ⟨(k.ge x hx).resolve_left (by simp), k.all x hx⟩)
theorem KS.sub {L L2 : List (Nat × Obj)} {X : List Nat} {w u : World} (h : KS L X w u) (hs : L2.Sublist L) : KS L2 X w u :=
 ⟨fun x hx => h.all x (hs.subset hx), h.ne.sublist hs, fun x hx => h.ge x (hs.subset hx), h.os, h.tape, h.output, h.size, h.old⟩
end
end Go.Proofs.YtoplbfijodebmaaGreatDoor
