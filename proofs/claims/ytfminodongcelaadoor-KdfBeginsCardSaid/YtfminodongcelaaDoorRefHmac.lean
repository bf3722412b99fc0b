/-
  The tag of a text by a key: the document's.
-/
import Derived.Test.YtfminodongcelaaDoorHmac
set_option linter.unusedVariables false
set_option linter.unusedSimpArgs false
namespace Go.Proofs.YtfminodongcelaaDoor
open Go.RowKit
open Go.Lib (strCells)

def bY (k : ByteArray) (X z j : Nat) : Nat := if j < z then bt (pad k) j ^^^ X else 0
theorem bt_pad_in (k : ByteArray) (j : Nat) (h : j < k.size) : bt (pad k) j = bt k j := by
  have hd : j < k.data.size := h
  unfold bt pad
  rw [Array.getD_eq_getD_getElem?, Array.getD_eq_getD_getElem?]
  show (((k.data ++ Array.replicate (64 - k.size) 0)[j]?).getD 0).toNat = _
  rw [Array.getElem?_append_left hd]
theorem bt_pad_out (k : ByteArray) (j : Nat) (h : ¬ j < k.size) : bt (pad k) j = 0 := by
  have hd : k.data.size = k.size := rfl
  unfold bt pad
  rw [Array.getD_eq_getD_getElem?]
  show (((k.data ++ Array.replicate (64 - k.size) 0)[j]?).getD 0).toNat = 0
  rw [Array.getElem?_append_right (by omega), Array.getElem?_replicate]
  split <;> rfl
theorem xor8c (A : Nat) (hA : A < 256) : ∃ G H : Nat, G = A ^^^ 54 ∧ bits .xor .u8 (A : Int) 54 = G ∧ H = A ^^^ 92 ∧ bits .xor .u8 (A : Int) 92 = H := ⟨_, _, rfl, u8_xor_nat A 54 hA (by decide), rfl, u8_xor_nat A 92 hA (by decide)⟩
theorem bY_step {w : World} {b t n X z G : Nat} {k : ByteArray} (h : w.rowIs b t n (fun j => .int .u8 ((bY k X z j : Nat) : Int))) (hG : G = bt (pad k) z ^^^ X) :
    (w.setCell ⟨b, z, none⟩ (.int .u8 (G : Int))).rowIs b t n (fun j => .int .u8 ((bY k X (z + 1) j : Nat) : Int)) := by
  refine (h.set _ _).congr (fun j hj => ?_)
  by_cases e : j = z
  · subst e
    rw [if_pos rfl, hG]
    unfold bY
    rw [if_pos (by omega)]
  · rw [if_neg e]
    unfold bY
    by_cases e2 : j < z
    · rw [if_pos e2, if_pos (by omega)]
    · rw [if_neg e2, if_neg (by omega)]
theorem bY_conv {w : World} {b t X : Nat} {k : ByteArray} (h : w.rowIs b t 64 (fun j => .int .u8 ((bY k X 64 j : Nat) : Int))) (hk : k.size ≤ 64) (hX : X < 256) :
    (convert 58 9 (.slice (some ⟨b, 0, none⟩) 64 64)).run Tryd.prog w = .ok (.string (xorS (pad k) X)) w :=
  xorS_conv (h.congr (fun j hj => by unfold bY bX; rw [if_pos hj, if_pos hj])) (pad_size k hk) hX
theorem yieldsIf_conv {ops : Array Oper} {S : World → Prop} {o : Oper} {a : Act} {b : Nat} {r : ByteArray} (hgd : o.guard = none) (x : Operand) (ho : o.op = .convert 58 9 x)
    (hx : a.eval x = .slice (some ⟨b, 0, none⟩) 64 64) (hS : ∀ u, S u → (convert 58 9 (.slice (some ⟨b, 0, none⟩) 64 64)).run Tryd.prog u = .ok (.string r) u) : YieldsIf Tryd.prog ops S o (.string r) a :=
  Or.inl ⟨by simp [Region.wanted, hgd], fun u hu => by
    unfold execOp
    simp only [ho, hx, Sem.run_bind, Sem.run_pure, Result.andThen_ok, hS u hu]⟩
theorem rowIs_below {w w' : World} {b t n : Nat} {f : Nat → Value} (h : w.rowIs b t n f) (hb : Below w.heap.size w w') : w'.rowIs b t n f := h.of_block (hb.block b h.lt)
theorem made64 (w : World) : (w.alloc (.cells (madeCells #[.int .u8 0] 64) 5)).rowIs w.heap.size 5 64 (fun _ => .int .u8 0) := World.rowIs_made w (.int .u8 0) 64 5
theorem sizes2 {a b : Nat} (h : a < b) : a ≠ b ∧ b ≠ a := by omega

set_option maxHeartbeats 8000000 in
set_option maxRecDepth 100000 in
theorem refhmac_short (key s : ByteArray) (w : World) (hs : s.size ≤ 10000) (hkm : key.size ≤ 10000) (hc : key.size ≤ 64) :
    Calls Tryd.prog 24 #[.string key, .string s] w fun e w' => e = .returned (.string (hmacS key s)) ∧ Below w.heap.size w w' := by
  have HT := Lib.hid (And.intro hs hkm)
  have hkey : keyS key = key := by unfold keyS; rw [if_pos hc]
  have HKEY := Lib.hid hkey
  have hci : ¬ (64 : Int) < key.size := by omega
  have hmk : ∀ u, (Instr.makeSlice 58 (.int .i64 64) (.int .i64 64)).run Tryd.prog u = .ok (.slice (some ⟨u.heap.size, 0, none⟩) 64 64) (u.alloc (.cells (madeCells #[.int .u8 0] 64) 5)) := fun u => run_make_row' (P := Tryd.prog) 58 5 (.int .u8 0) 1 Tryd.underlying58 Tryd.info5 rfl .i64 .i64 64 (by decide) (by decide) u
  clear hs hkm hc hkey
  go_enter Tryd.func24, Tryd.ntmps24
  go_wp2_with fail
  obtain ⟨k, hk⟩ : ∃ k, k = key := ⟨_, rfl⟩
  have hkk : keyS key = k := by rw [HKEY.out, hk]
  have HKK := Lib.hid hkk
  rw [← hk]
  obtain ⟨wa, hwa⟩ : ∃ uu : World, uu = w := ⟨_, rfl⟩
  have HWA : Hid (Below w.heap.size w wa) := by rw [hwa]; exact Lib.hid (Below.refl _ _)
  rw [← hwa]
  clear hk hkk hwa
  have h64 : k.size ≤ 64 := by rw [← HKK.out]; exact keyS_size key
  have RE := (made64 wa).alloc (.cells (madeCells #[.int .u8 0] 64) 5)
  have RD := made64 (wa.alloc (.cells (madeCells #[.int .u8 0] 64) 5))
  have ZB := (HWA.out.alloc HWA.out.size (.cells (madeCells #[.int .u8 0] 64) 5)).alloc (by have := HWA.out.size; simp; omega) (.cells (madeCells #[.int .u8 0] 64) 5)
  rw [show (wa.alloc (.cells (madeCells #[.int .u8 0] 64) 5)).heap.size = wa.heap.size + 1 by simp] at RD
  have hE := HWA.out.size
  obtain ⟨E, hEE⟩ : ∃ P, P = wa.heap.size := ⟨_, rfl⟩
  obtain ⟨D, hDD⟩ : ∃ P, P = wa.heap.size + 1 := ⟨_, rfl⟩
  have hED : w.heap.size ≤ E ∧ w.heap.size ≤ D ∧ E ≠ D ∧ D ≠ E := by omega
  rw [← hEE] at RE
  rw [← hDD] at RD
  rw [← hDD, ← hEE]
  obtain ⟨wb, hwb⟩ : ∃ uu, uu = (wa.alloc (.cells (madeCells #[.int .u8 0] 64) 5)).alloc (.cells (madeCells #[.int .u8 0] 64) 5) := ⟨_, rfl⟩
  rw [← hwb] at RE RD ZB
  rw [← hwb]
  have HZ := Lib.hid (And.intro RE (And.intro RD (And.intro ZB (And.intro h64 hED))))
  clear RE RD ZB h64 hE hEE hDD hED hwb hmk
  go_loopw [7] (fun i wr => ∃ z : Nat, z ≤ 64 ∧ i = .int .i64 z ∧ wr.rowIs E 5 64 (fun j => .int .u8 ((bY k 54 z j : Nat) : Int)) ∧ wr.rowIs D 5 64 (fun j => .int .u8 ((bY k 92 z j : Nat) : Int)) ∧ Below w.heap.size w wr) (fun i _ => 64 - (intOf i).toNat)
  case atStart => exact ⟨0, Nat.zero_le _, rfl, HZ.out.1.congr (fun j _ => rfl), HZ.out.2.1.congr (fun j _ => rfl), HZ.out.2.2.1⟩
  case round =>
    obtain ⟨z, hz, rfl, R1, R2, B⟩ := hrel
    have HR := Lib.hid (And.intro R1 (And.intro R2 B))
    clear R1 R2 B
    by_cases hlt : z < 64
    · have c1 := HR.out.1.cell hlt
      have f1 := HR.out.1.frozen z
      have l1 : (z : Int) < 64 := by omega
      have l0 : (0 : Int) ≤ z := by omega
      by_cases hzk : z < k.size
      · have l2 : (z : Int) < k.size := by omega
        obtain ⟨G, H, hG, eG, hH, eH⟩ := xor8c (k[z]'hzk).toNat (UInt8.toNat_lt _)
        have hb : (k[z]'hzk).toNat = bt (pad k) z := by rw [bt_pad_in k z hzk, bt_get]
        rw [hb] at hG hH
        have N1 := bY_step HR.out.1 hG
        have N2 := (HR.out.2.1.setOther (a := ⟨E, z, none⟩) HZ.out.2.2.2.2.2.2.2 (.int .u8 (G : Int)))
        have c2 := N2.cell hlt
        have f2 := N2.frozen z
        have N3 := bY_step N2 hH
        have N4 := N1.setOther (a := ⟨D, z, none⟩) HZ.out.2.2.2.2.2.2.1 (.int .u8 (H : Int))
        have NB := (HR.out.2.2.setCell (p := ⟨E, z, none⟩) HZ.out.2.2.2.2.1 (.int .u8 (G : Int))).setCell (p := ⟨D, z, none⟩) HZ.out.2.2.2.2.2.1 (.int .u8 (H : Int))
        have HN := Lib.hid (And.intro N4 (And.intro N3 NB))
        clear hG hH hb N1 N2 N3 N4 NB
        go_wp2_with fail
        go_roundw
        case rel => exact ⟨z + 1, hlt, succI z, HN.out.1, HN.out.2.1, HN.out.2.2⟩
        case measure => exact measI 64 z hlt
      · have l2 : ¬ (z : Int) < k.size := by omega
        obtain ⟨G, H, hG, eG, hH, eH⟩ := xor8c 0 (by decide)
        rw [← bt_pad_out k z hzk] at hG hH
        have N1 := bY_step HR.out.1 hG
        have N2 := (HR.out.2.1.setOther (a := ⟨E, z, none⟩) HZ.out.2.2.2.2.2.2.2 (.int .u8 (G : Int)))
        have c2 := N2.cell hlt
        have f2 := N2.frozen z
        have N3 := bY_step N2 hH
        have N4 := N1.setOther (a := ⟨D, z, none⟩) HZ.out.2.2.2.2.2.2.1 (.int .u8 (H : Int))
        have NB := (HR.out.2.2.setCell (p := ⟨E, z, none⟩) HZ.out.2.2.2.2.1 (.int .u8 (G : Int))).setCell (p := ⟨D, z, none⟩) HZ.out.2.2.2.2.2.1 (.int .u8 (H : Int))
        have HN := Lib.hid (And.intro N4 (And.intro N3 NB))
        have eG0 : bits .xor .u8 (0 : Int) 54 = (G : Int) := eG
        have eH0 : bits .xor .u8 (0 : Int) 92 = (H : Int) := eH
        clear hG hH eG eH N1 N2 N3 N4 NB
        go_wp2_with fail
        go_roundw
        case rel => exact ⟨z + 1, hlt, succI z, HN.out.1, HN.out.2.1, HN.out.2.2⟩
        case measure => exact measI 64 z hlt
    · obtain rfl := isN hz hlt
      obtain ⟨wd, rfl⟩ : ∃ uu : World, uu = wr := ⟨_, rfl⟩
      obtain ⟨I, hI⟩ : ∃ I, I = xorS (pad k) 54 := ⟨_, rfl⟩
      obtain ⟨O, hO⟩ : ∃ I, I = xorS (pad k) 92 := ⟨_, rfl⟩
      have hps : (pad k).size = 64 := pad_size k HZ.out.2.2.2.1
      have hIs : I.size = 64 := by rw [hI, xorS_size]; exact hps
      have hOs : O.size = 64 := by rw [hO, xorS_size]; exact hps
      have add1 := addS I s (by rw [hIs]; have := HT.out.1; omega)
      have add2 := addS O (hashS 32 .empty (I ++ s)) (by rw [hOs, hashS_size]; decide)
      have m1 : (I ++ s).size ≤ 100000 := by rw [ByteArray.size_append, hIs]; have := HT.out.1; omega
      have m2 : (O ++ hashS 32 .empty (I ++ s)).size ≤ 100000 := by rw [ByteArray.size_append, hOs, hashS_size]; decide
      have HM := Lib.hid (And.intro m1 m2)
      have HIO := Lib.hid (And.intro hI hO)
      clear m1 m2 hI hO hIs hOs hps hlt hz
      go_wp2_with fail
      refine wp_region_held_drew (S := fun u => u.rowIs E 5 64 (fun j => .int .u8 ((bY k 54 64 j : Nat) : Int)) ∧ u.rowIs D 5 64 (fun j => .int .u8 ((bY k 92 64 j : Nat) : Int)) ∧ Below w.heap.size w u) (by kernel_rfl) ⟨HR.out.1.drew, HR.out.2.1.drew, HR.out.2.2.drew⟩ (fun hHeld => ?_)
      refine wpAnyH_take (i := 0) (v := ?_) rfl (by kernel_rfl) (by kernel_rfl) (by kernel_rfl) (fun _ _ _ h => h) (Or.inl ⟨by rfl, ?_⟩) (by assumption) ?_
      rotate_left 1
      · (intro w hSw; clear hSw; go_simp; try (with_reducible rfl))
      try simp only [Act.put, List.setIfInBounds_toArray, List.set_cons_zero, List.set_cons_succ]
      refine wpAnyH_take (i := 1) rfl (by kernel_rfl) (by kernel_rfl) (by kernel_rfl) (fun _ _ _ h => h) (yieldsIf_conv (r := O) rfl _ rfl rfl (fun u hu => by rw [HIO.out.2]; exact bY_conv hu.2.1 HZ.out.2.2.2.1 (by decide))) (by assumption) ?_
      try simp only [Act.put, List.setIfInBounds_toArray, List.set_cons_zero, List.set_cons_succ]
      refine wpAnyH_take (i := 2) (v := ?_) rfl (by kernel_rfl) (by kernel_rfl) (by kernel_rfl) (fun _ _ _ h => h) (Or.inl ⟨by rfl, ?_⟩) (by assumption) ?_
      rotate_left 1
      · (intro w hSw; clear hSw; go_simp; try (with_reducible rfl))
      try simp only [Act.put, List.setIfInBounds_toArray, List.set_cons_zero, List.set_cons_succ]
      refine wpAnyH_take (i := 3) rfl (by kernel_rfl) (by kernel_rfl) (by kernel_rfl) (fun _ _ _ h => h) (yieldsIf_conv (r := I) rfl _ rfl rfl (fun u hu => by rw [HIO.out.1]; exact bY_conv hu.1 HZ.out.2.2.2.1 (by decide))) (by assumption) ?_
      try simp only [Act.put, List.setIfInBounds_toArray, List.set_cons_zero, List.set_cons_succ]
      refine wpAnyH_take (i := 4) (v := ?_) rfl (by kernel_rfl) (by kernel_rfl) (by kernel_rfl) (fun _ _ _ h => h) (Or.inl ⟨by rfl, ?_⟩) (by assumption) ?_
      rotate_left 1
      · (intro w hSw; clear hSw; go_simp; try (with_reducible rfl))
      try simp only [Act.put, List.setIfInBounds_toArray, List.set_cons_zero, List.set_cons_succ]
      refine wpAnyH_take (i := 5) (v := ?_) rfl (by kernel_rfl) (by kernel_rfl) (by kernel_rfl) (fun _ _ _ h => h) (Or.inl ⟨by rfl, ?_⟩) (by assumption) ?_
      rotate_left 1
      · (intro w hSw; clear hSw; go_simp; try (with_reducible rfl))
      try simp only [Act.put, List.setIfInBounds_toArray, List.set_cons_zero, List.set_cons_succ]
      refine wpAnyH_ready (rs := [6]) (by kernel_rfl) (by simp) ?_
      refine AllReadyH.cons rfl (fun K hK => ?_) AllReadyH.nil
      have HS := Lib.hid hHeld
      clear hHeld
      go_simp
      refine (refof_any (I ++ s) _ HM.out.1).mono ?_
      rintro e w1 ⟨rfl, B1⟩
      simp only []
      refine hK.out _ _ ⟨rowIs_below HS.out.1 B1, rowIs_below HS.out.2.1 B1, HS.out.2.2.trans (B1.mono HS.out.2.2.size)⟩ (fun hHeld => ?_)
      clear hK K
      try simp only [Act.put, List.setIfInBounds_toArray, List.set_cons_zero, List.set_cons_succ]
      clear B1 HS
      refine wpAnyH_take (i := 7) (v := ?_) rfl (by kernel_rfl) (by kernel_rfl) (by kernel_rfl) (fun _ _ _ h => h) (Or.inl ⟨by rfl, ?_⟩) (by assumption) ?_
      rotate_left 1
      · (intro w hSw; clear hSw; go_simp; try (with_reducible rfl))
      try simp only [Act.put, List.setIfInBounds_toArray, List.set_cons_zero, List.set_cons_succ]
      refine wpAnyH_ready (rs := [8]) (by kernel_rfl) (by simp) ?_
      refine AllReadyH.cons rfl (fun K hK => ?_) AllReadyH.nil
      have HS := Lib.hid hHeld
      clear hHeld
      go_simp
      refine (refof_any (O ++ hashS 32 .empty (I ++ s)) _ HM.out.2).mono ?_
      rintro e w1 ⟨rfl, B1⟩
      simp only []
      refine hK.out _ _ ⟨rowIs_below HS.out.1 B1, rowIs_below HS.out.2.1 B1, HS.out.2.2.trans (B1.mono HS.out.2.2.size)⟩ (fun hHeld => ?_)
      clear hK K
      try simp only [Act.put, List.setIfInBounds_toArray, List.set_cons_zero, List.set_cons_succ]
      clear B1 HS
      refine wpAnyH_ready (rs := [9]) (by kernel_rfl) (by simp) ?_
      refine AllReadyH.cons rfl (fun K hK => ?_) AllReadyH.nil
      have HS := Lib.hid hHeld
      clear hHeld
      go_simp
      refine hK.out _ _ HS.out (fun hHeld => ?_)
      clear hK K
      try simp only [Act.put, List.setIfInBounds_toArray, List.set_cons_zero, List.set_cons_succ]
      clear HS
      have HE := Lib.hid hHeld
      clear hHeld
      refine wpAnyH_done (by kernel_rfl) ?_ _
      go_wp2_with fail
      go_ret
      refine ⟨?_, HE.out.2.2⟩
      unfold hmacS
      rw [HKK.out, ← HIO.out.1, ← HIO.out.2]
      rfl

set_option maxHeartbeats 8000000 in
set_option maxRecDepth 100000 in
theorem refhmac_long (key s : ByteArray) (w : World) (hs : s.size ≤ 10000) (hkm : key.size ≤ 10000) (hc : ¬ key.size ≤ 64) :
    Calls Tryd.prog 24 #[.string key, .string s] w fun e w' => e = .returned (.string (hmacS key s)) ∧ Below w.heap.size w w' := by
  have HT := Lib.hid (And.intro hs hkm)
  have hkey : keyS key = hashS 32 .empty key := by unfold keyS; rw [if_neg hc]
  have HKEY := Lib.hid hkey
  have hci : (64 : Int) < key.size := by omega
  have hmk : ∀ u, (Instr.makeSlice 58 (.int .i64 64) (.int .i64 64)).run Tryd.prog u = .ok (.slice (some ⟨u.heap.size, 0, none⟩) 64 64) (u.alloc (.cells (madeCells #[.int .u8 0] 64) 5)) := fun u => run_make_row' (P := Tryd.prog) 58 5 (.int .u8 0) 1 Tryd.underlying58 Tryd.info5 rfl .i64 .i64 64 (by decide) (by decide) u
  clear hs hkm hc hkey
  go_enter Tryd.func24, Tryd.ntmps24
  go_wp2_with fail
  refine (refof_any key _ (by have := HT.out.2; omega)).mono ?_
  rintro e wa ⟨rfl, BA⟩
  obtain ⟨k, hk⟩ : ∃ k, k = hashS 32 .empty key := ⟨_, rfl⟩
  have hkk : keyS key = k := by rw [HKEY.out, hk]
  have HKK := Lib.hid hkk
  rw [← hk]
  have HWA := Lib.hid BA
  clear hk hkk BA
  simp only []
  go_wp2_with fail
  have h64 : k.size ≤ 64 := by rw [← HKK.out]; exact keyS_size key
  have RE := (made64 wa).alloc (.cells (madeCells #[.int .u8 0] 64) 5)
  have RD := made64 (wa.alloc (.cells (madeCells #[.int .u8 0] 64) 5))
  have ZB := (HWA.out.alloc HWA.out.size (.cells (madeCells #[.int .u8 0] 64) 5)).alloc (by have := HWA.out.size; simp; omega) (.cells (madeCells #[.int .u8 0] 64) 5)
  rw [show (wa.alloc (.cells (madeCells #[.int .u8 0] 64) 5)).heap.size = wa.heap.size + 1 by simp] at RD
  have hE := HWA.out.size
  obtain ⟨E, hEE⟩ : ∃ P, P = wa.heap.size := ⟨_, rfl⟩
  obtain ⟨D, hDD⟩ : ∃ P, P = wa.heap.size + 1 := ⟨_, rfl⟩
  have hED : w.heap.size ≤ E ∧ w.heap.size ≤ D ∧ E ≠ D ∧ D ≠ E := by omega
  rw [← hEE] at RE
  rw [← hDD] at RD
  rw [← hDD, ← hEE]
  obtain ⟨wb, hwb⟩ : ∃ uu, uu = (wa.alloc (.cells (madeCells #[.int .u8 0] 64) 5)).alloc (.cells (madeCells #[.int .u8 0] 64) 5) := ⟨_, rfl⟩
  rw [← hwb] at RE RD ZB
  rw [← hwb]
  have HZ := Lib.hid (And.intro RE (And.intro RD (And.intro ZB (And.intro h64 hED))))
  clear RE RD ZB h64 hE hEE hDD hED hwb hmk
  go_loopw [7] (fun i wr => ∃ z : Nat, z ≤ 64 ∧ i = .int .i64 z ∧ wr.rowIs E 5 64 (fun j => .int .u8 ((bY k 54 z j : Nat) : Int)) ∧ wr.rowIs D 5 64 (fun j => .int .u8 ((bY k 92 z j : Nat) : Int)) ∧ Below w.heap.size w wr) (fun i _ => 64 - (intOf i).toNat)
  case atStart => exact ⟨0, Nat.zero_le _, rfl, HZ.out.1.congr (fun j _ => rfl), HZ.out.2.1.congr (fun j _ => rfl), HZ.out.2.2.1⟩
  case round =>
    obtain ⟨z, hz, rfl, R1, R2, B⟩ := hrel
    have HR := Lib.hid (And.intro R1 (And.intro R2 B))
    clear R1 R2 B
    by_cases hlt : z < 64
    · have c1 := HR.out.1.cell hlt
      have f1 := HR.out.1.frozen z
      have l1 : (z : Int) < 64 := by omega
      have l0 : (0 : Int) ≤ z := by omega
      by_cases hzk : z < k.size
      · have l2 : (z : Int) < k.size := by omega
        obtain ⟨G, H, hG, eG, hH, eH⟩ := xor8c (k[z]'hzk).toNat (UInt8.toNat_lt _)
        have hb : (k[z]'hzk).toNat = bt (pad k) z := by rw [bt_pad_in k z hzk, bt_get]
        rw [hb] at hG hH
        have N1 := bY_step HR.out.1 hG
        have N2 := (HR.out.2.1.setOther (a := ⟨E, z, none⟩) HZ.out.2.2.2.2.2.2.2 (.int .u8 (G : Int)))
        have c2 := N2.cell hlt
        have f2 := N2.frozen z
        have N3 := bY_step N2 hH
        have N4 := N1.setOther (a := ⟨D, z, none⟩) HZ.out.2.2.2.2.2.2.1 (.int .u8 (H : Int))
        have NB := (HR.out.2.2.setCell (p := ⟨E, z, none⟩) HZ.out.2.2.2.2.1 (.int .u8 (G : Int))).setCell (p := ⟨D, z, none⟩) HZ.out.2.2.2.2.2.1 (.int .u8 (H : Int))
        have HN := Lib.hid (And.intro N4 (And.intro N3 NB))
        clear hG hH hb N1 N2 N3 N4 NB
        go_wp2_with fail
        go_roundw
        case rel => exact ⟨z + 1, hlt, succI z, HN.out.1, HN.out.2.1, HN.out.2.2⟩
        case measure => exact measI 64 z hlt
      · have l2 : ¬ (z : Int) < k.size := by omega
        obtain ⟨G, H, hG, eG, hH, eH⟩ := xor8c 0 (by decide)
        rw [← bt_pad_out k z hzk] at hG hH
        have N1 := bY_step HR.out.1 hG
        have N2 := (HR.out.2.1.setOther (a := ⟨E, z, none⟩) HZ.out.2.2.2.2.2.2.2 (.int .u8 (G : Int)))
        have c2 := N2.cell hlt
        have f2 := N2.frozen z
        have N3 := bY_step N2 hH
        have N4 := N1.setOther (a := ⟨D, z, none⟩) HZ.out.2.2.2.2.2.2.1 (.int .u8 (H : Int))
        have NB := (HR.out.2.2.setCell (p := ⟨E, z, none⟩) HZ.out.2.2.2.2.1 (.int .u8 (G : Int))).setCell (p := ⟨D, z, none⟩) HZ.out.2.2.2.2.2.1 (.int .u8 (H : Int))
        have HN := Lib.hid (And.intro N4 (And.intro N3 NB))
        have eG0 : bits .xor .u8 (0 : Int) 54 = (G : Int) := eG
        have eH0 : bits .xor .u8 (0 : Int) 92 = (H : Int) := eH
        clear hG hH eG eH N1 N2 N3 N4 NB
        go_wp2_with fail
        go_roundw
        case rel => exact ⟨z + 1, hlt, succI z, HN.out.1, HN.out.2.1, HN.out.2.2⟩
        case measure => exact measI 64 z hlt
    · obtain rfl := isN hz hlt
      obtain ⟨wd, rfl⟩ : ∃ uu : World, uu = wr := ⟨_, rfl⟩
      obtain ⟨I, hI⟩ : ∃ I, I = xorS (pad k) 54 := ⟨_, rfl⟩
      obtain ⟨O, hO⟩ : ∃ I, I = xorS (pad k) 92 := ⟨_, rfl⟩
      have hps : (pad k).size = 64 := pad_size k HZ.out.2.2.2.1
      have hIs : I.size = 64 := by rw [hI, xorS_size]; exact hps
      have hOs : O.size = 64 := by rw [hO, xorS_size]; exact hps
      have add1 := addS I s (by rw [hIs]; have := HT.out.1; omega)
      have add2 := addS O (hashS 32 .empty (I ++ s)) (by rw [hOs, hashS_size]; decide)
      have m1 : (I ++ s).size ≤ 100000 := by rw [ByteArray.size_append, hIs]; have := HT.out.1; omega
      have m2 : (O ++ hashS 32 .empty (I ++ s)).size ≤ 100000 := by rw [ByteArray.size_append, hOs, hashS_size]; decide
      have HM := Lib.hid (And.intro m1 m2)
      have HIO := Lib.hid (And.intro hI hO)
      clear m1 m2 hI hO hIs hOs hps hlt hz
      go_wp2_with fail
      refine wp_region_held_drew (S := fun u => u.rowIs E 5 64 (fun j => .int .u8 ((bY k 54 64 j : Nat) : Int)) ∧ u.rowIs D 5 64 (fun j => .int .u8 ((bY k 92 64 j : Nat) : Int)) ∧ Below w.heap.size w u) (by kernel_rfl) ⟨HR.out.1.drew, HR.out.2.1.drew, HR.out.2.2.drew⟩ (fun hHeld => ?_)
      refine wpAnyH_take (i := 0) (v := ?_) rfl (by kernel_rfl) (by kernel_rfl) (by kernel_rfl) (fun _ _ _ h => h) (Or.inl ⟨by rfl, ?_⟩) (by assumption) ?_
      rotate_left 1
      · (intro w hSw; clear hSw; go_simp; try (with_reducible rfl))
      try simp only [Act.put, List.setIfInBounds_toArray, List.set_cons_zero, List.set_cons_succ]
      refine wpAnyH_take (i := 1) rfl (by kernel_rfl) (by kernel_rfl) (by kernel_rfl) (fun _ _ _ h => h) (yieldsIf_conv (r := O) rfl _ rfl rfl (fun u hu => by rw [HIO.out.2]; exact bY_conv hu.2.1 HZ.out.2.2.2.1 (by decide))) (by assumption) ?_
      try simp only [Act.put, List.setIfInBounds_toArray, List.set_cons_zero, List.set_cons_succ]
      refine wpAnyH_take (i := 2) (v := ?_) rfl (by kernel_rfl) (by kernel_rfl) (by kernel_rfl) (fun _ _ _ h => h) (Or.inl ⟨by rfl, ?_⟩) (by assumption) ?_
      rotate_left 1
      · (intro w hSw; clear hSw; go_simp; try (with_reducible rfl))
      try simp only [Act.put, List.setIfInBounds_toArray, List.set_cons_zero, List.set_cons_succ]
      refine wpAnyH_take (i := 3) rfl (by kernel_rfl) (by kernel_rfl) (by kernel_rfl) (fun _ _ _ h => h) (yieldsIf_conv (r := I) rfl _ rfl rfl (fun u hu => by rw [HIO.out.1]; exact bY_conv hu.1 HZ.out.2.2.2.1 (by decide))) (by assumption) ?_
      try simp only [Act.put, List.setIfInBounds_toArray, List.set_cons_zero, List.set_cons_succ]
      refine wpAnyH_take (i := 4) (v := ?_) rfl (by kernel_rfl) (by kernel_rfl) (by kernel_rfl) (fun _ _ _ h => h) (Or.inl ⟨by rfl, ?_⟩) (by assumption) ?_
      rotate_left 1
      · (intro w hSw; clear hSw; go_simp; try (with_reducible rfl))
      try simp only [Act.put, List.setIfInBounds_toArray, List.set_cons_zero, List.set_cons_succ]
      refine wpAnyH_take (i := 5) (v := ?_) rfl (by kernel_rfl) (by kernel_rfl) (by kernel_rfl) (fun _ _ _ h => h) (Or.inl ⟨by rfl, ?_⟩) (by assumption) ?_
      rotate_left 1
      · (intro w hSw; clear hSw; go_simp; try (with_reducible rfl))
      try simp only [Act.put, List.setIfInBounds_toArray, List.set_cons_zero, List.set_cons_succ]
      refine wpAnyH_ready (rs := [6]) (by kernel_rfl) (by simp) ?_
      refine AllReadyH.cons rfl (fun K hK => ?_) AllReadyH.nil
      have HS := Lib.hid hHeld
      clear hHeld
      go_simp
      refine (refof_any (I ++ s) _ HM.out.1).mono ?_
      rintro e w1 ⟨rfl, B1⟩
      simp only []
      refine hK.out _ _ ⟨rowIs_below HS.out.1 B1, rowIs_below HS.out.2.1 B1, HS.out.2.2.trans (B1.mono HS.out.2.2.size)⟩ (fun hHeld => ?_)
      clear hK K
      try simp only [Act.put, List.setIfInBounds_toArray, List.set_cons_zero, List.set_cons_succ]
      clear B1 HS
      refine wpAnyH_take (i := 7) (v := ?_) rfl (by kernel_rfl) (by kernel_rfl) (by kernel_rfl) (fun _ _ _ h => h) (Or.inl ⟨by rfl, ?_⟩) (by assumption) ?_
      rotate_left 1
      · (intro w hSw; clear hSw; go_simp; try (with_reducible rfl))
      try simp only [Act.put, List.setIfInBounds_toArray, List.set_cons_zero, List.set_cons_succ]
      refine wpAnyH_ready (rs := [8]) (by kernel_rfl) (by simp) ?_
      refine AllReadyH.cons rfl (fun K hK => ?_) AllReadyH.nil
      have HS := Lib.hid hHeld
      clear hHeld
      go_simp
      refine (refof_any (O ++ hashS 32 .empty (I ++ s)) _ HM.out.2).mono ?_
      rintro e w1 ⟨rfl, B1⟩
      simp only []
      refine hK.out _ _ ⟨rowIs_below HS.out.1 B1, rowIs_below HS.out.2.1 B1, HS.out.2.2.trans (B1.mono HS.out.2.2.size)⟩ (fun hHeld => ?_)
      clear hK K
      try simp only [Act.put, List.setIfInBounds_toArray, List.set_cons_zero, List.set_cons_succ]
      clear B1 HS
      refine wpAnyH_ready (rs := [9]) (by kernel_rfl) (by simp) ?_
      refine AllReadyH.cons rfl (fun K hK => ?_) AllReadyH.nil
      have HS := Lib.hid hHeld
      clear hHeld
      go_simp
      refine hK.out _ _ HS.out (fun hHeld => ?_)
      clear hK K
      try simp only [Act.put, List.setIfInBounds_toArray, List.set_cons_zero, List.set_cons_succ]
      clear HS
      have HE := Lib.hid hHeld
      clear hHeld
      refine wpAnyH_done (by kernel_rfl) ?_ _
      go_wp2_with fail
      go_ret
      refine ⟨?_, HE.out.2.2⟩
      unfold hmacS
      rw [HKK.out, ← HIO.out.1, ← HIO.out.2]
      rfl

theorem refhmac_any (key s : ByteArray) (w : World) (hs : s.size ≤ 10000) (hkm : key.size ≤ 10000) :
    Calls Tryd.prog 24 #[.string key, .string s] w fun e w' => e = .returned (.string (hmacS key s)) ∧ Below w.heap.size w w' := by
  by_cases hc : key.size ≤ 64
  · exact refhmac_short key s w hs hkm hc
  · exact refhmac_long key s w hs hkm hc

end Go.Proofs.YtfminodongcelaaDoor
