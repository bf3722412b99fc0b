/-
  Echoes made by the code.
-/
import Derived.Test.YtgonakpoflacoaaTcpMake
set_option linter.unusedVariables false
set_option linter.unusedSimpArgs false
namespace Go.Proofs.Ytgonakpoflacoaa
open Go.RowKit

def echoK (v r : Bool) : Nat := if v then (if r then 129 else 128) else (if r then 0 else 8)
def echoP (v : Bool) : Nat := if v then 58 else 1
def echoT (k : Nat) : ByteArray := ⟨#[UInt8.ofNat k, 0, 0, 0]⟩
def echoD (k id : Nat) (d : ByteArray) : ByteArray := echoT k ++ beS id 2 ++ beS 0 2 ++ d
theorem echoT_size (k : Nat) : (echoT k).size = 4 := rfl
theorem echoD_size (k id : Nat) (d : ByteArray) : (echoD k id d).size = 8 + d.size := by
  unfold echoD
  simp only [ByteArray.size_append, beS_size, echoT_size]
theorem echo_parts (k : Nat) : (⟨#[UInt8.ofNat k]⟩ : ByteArray) ++ ⟨#[0, 0, 0]⟩ = echoT k := by
  apply ByteArray.ext
  simp only [ByteArray.data_append]
  rfl
theorem echo_conv_ff {u : World} {g : Nat} (h : u.heap[g]? = some (.cells #[.int .u8 8, .int .u8 0, .int .u8 0, .int .u8 0] 5)) : (convert 37 9 (.slice (some ⟨g, 0, none⟩) 4 4)).run Try.prog u = .ok (.string (echoT 8)) u := by
  refine bytes_conv [8, 0, 0, 0] rfl ?_
  rw [h]
  simp
set_option maxHeartbeats 16000000 in
set_option maxRecDepth 100000 in
theorem echoMake_ff (h1 l1 : Nat) (b : Ad) (id : Nat) (d : ByteArray) (w : World) (ha : (⟨false, h1, l1⟩ : Ad).Ok) (hb : b.Ok) (hf : id < 65536) (hd : d.size ≤ 9000) :
    Calls Try.prog 12 #[.agg #[.bool false, .int .u64 h1, .int .u64 l1], .agg #[.bool b.v6, .int .u64 b.hi, .int .u64 b.lo], .int .u16 id, .bool false, .string d] w fun e w' =>
      e = .returned (.tuple #[(madeP ⟨⟨false, h1, l1⟩, b, 1, 64, echoD 8 id d⟩ 2).val, .int .i64 (mayE ⟨⟨false, h1, l1⟩, b, 1, 64, echoD 8 id d⟩)]) ∧ Below w.heap.size w w' := by
  obtain ⟨v2, h2, l2⟩ := b
  obtain ⟨D, hD⟩ : ∃ D, D = echoD 8 id d := ⟨_, rfl⟩
  have hDs : D.size = 8 + d.size := by rw [hD]; exact echoD_size _ _ _
  rw [← hD]
  have C3 : ∀ u, Calls Try.prog 21 #[.agg #[.bool false, .int .u64 h1, .int .u64 l1], .agg #[.bool v2, .int .u64 h2, .int .u64 l2], .int .u8 1, .int .i64 2, .string D] u fun e w' => (e = .returned (.tuple #[(madeP ⟨⟨false, h1, l1⟩, ⟨v2, h2, l2⟩, 1, 64, D⟩ 2).val, .int .i64 (mayE ⟨⟨false, h1, l1⟩, ⟨v2, h2, l2⟩, 1, 64, D⟩)]) ∧ Below u.heap.size u w') := fun u => made_any ⟨false, h1, l1⟩ ⟨v2, h2, l2⟩ 1 2 D u ha hb (by decide) (by omega) (by omega)
  have HC := Lib.hid C3
  obtain ⟨M, hM⟩ : ∃ M : Pk, M = madeP ⟨⟨false, h1, l1⟩, ⟨v2, h2, l2⟩, 1, 64, D⟩ 2 := ⟨_, rfl⟩
  obtain ⟨E, hE⟩ : ∃ M, M = mayE ⟨⟨false, h1, l1⟩, ⟨v2, h2, l2⟩, 1, 64, D⟩ := ⟨_, rfl⟩
  rw [← hM, ← hE] at HC
  rw [← hM, ← hE]
  clear C3 hM hE ha hb
  obtain ⟨X1, hX1⟩ : ∃ X : ByteArray, X = echoT 8 := ⟨_, rfl⟩
  obtain ⟨X2, hX2⟩ : ∃ X, X = beS id 2 := ⟨_, rfl⟩
  have z1 : X1.size = 4 := by rw [hX1]; rfl
  have z2 : X2.size = 2 := by rw [hX2]; exact beS_size _ _
  obtain ⟨X3, hX3⟩ : ∃ X, X = beS 0 2 := ⟨_, rfl⟩
  have z3 : X3.size = 2 := by rw [hX3]; exact beS_size _ _
  have a1 := addS X1 X2 (by omega)
  have a2 := addS (X1 ++ X2) X3 (by rw [ByteArray.size_append]; omega)
  have a3 := addS (X1 ++ X2 ++ X3) d (by simp only [ByteArray.size_append]; omega)
  have hDX : X1 ++ X2 ++ X3 ++ d = D := by rw [hD, hX1, hX2, hX3]; rfl
  rw [hDX] at a3
  have HX := Lib.hid (And.intro hX1 (And.intro hX2 (And.intro hX3 hf)))
  have hz : (d.size : Int) ≤ 9000 := by omega
  clear hX1 hX2 hX3 z1 z2 z3 hDX hD hDs hd hf
  have HW0 : HL [(w.heap.size + 1, .cells #[.bool v2, .int .u64 h2, .int .u64 l2] 24), (w.heap.size, .cells #[.bool false, .int .u64 h1, .int .u64 l1] 24)] (w.heap.size + 1 + 1) 9 w ((((w.alloc (.cells #[.bool false, .int .u64 h1, .int .u64 l1] 24)).alloc (.cells #[.bool v2, .int .u64 h2, .int .u64 l2] 24)).alloc (.cells #[.bool false, .int .u64 0, .int .u64 0, .bool false, .int .u64 0, .int .u64 0, .int .u8 0, .int .u8 0, .string ⟨#[]⟩] 30)).alloc (.cells #[.int .u8 8, .int .u8 0] 54)) := (HL.two rfl rfl rfl).alloc _
  have HW := Lib.hid HW0
  clear HW0
  go_enter Try.func12, Try.ntmps12
  go_wp2_with fail
  obtain ⟨w0, hw0⟩ : ∃ x, x = (((w.alloc (.cells #[.bool false, .int .u64 h1, .int .u64 l1] 24)).alloc (.cells #[.bool v2, .int .u64 h2, .int .u64 l2] 24)).alloc (.cells #[.bool false, .int .u64 0, .int .u64 0, .bool false, .int .u64 0, .int .u64 0, .int .u8 0, .int .u8 0, .string ⟨#[]⟩] 30)).alloc (.cells #[.int .u8 8, .int .u8 0] 54) := ⟨_, rfl⟩
  obtain ⟨R, hR⟩ : ∃ x, x = w.heap.size + 1 + 1 := ⟨_, rfl⟩
  obtain ⟨B, hB⟩ : ∃ x, x = w.heap.size + 1 := ⟨_, rfl⟩
  obtain ⟨A, hA⟩ : ∃ x, x = w.heap.size := ⟨_, rfl⟩
  have HN := Lib.hid (show A ≠ R ∧ B ≠ R ∧ w.heap.size ≤ R by omega)
  have HW : Hid (HL [(B, .cells #[.bool v2, .int .u64 h2, .int .u64 l2] 24), (A, .cells #[.bool false, .int .u64 h1, .int .u64 l1] 24)] R 9 w w0) := by rw [hw0, hR, hB, hA]; exact Lib.hid HW.out
  rw [← hw0, ← hR, ← hB]
  rw [← hA]
  clear hw0 hR hB hA
  refine wp_region_held_drew (S := fun u => HL [(B, .cells #[.bool v2, .int .u64 h2, .int .u64 l2] 24), (A, .cells #[.bool false, .int .u64 h1, .int .u64 l1] 24)] R 9 w u) (by kernel_rfl) HW.out.drew (fun hHeld => ?_)
  refine wpAnyH_take (i := 0) (v := ?_) rfl (by kernel_rfl) (by kernel_rfl) (by kernel_rfl) (fun _ _ _ h => h) (Or.inl ⟨by rfl, ?_⟩) (by assumption) ?_
  rotate_left 1
  · (intro u hSw; have hSv := hSw; clear hSw; obtain ⟨c0, c1, c2⟩ := adCells hSv.tail.head; clear hSv; go_simp; try (with_reducible rfl))
  try simp only [Act.put, List.getElem_toArray, List.getElem_cons_zero, List.getElem_cons_succ, List.setIfInBounds_toArray, List.set_cons_zero, List.set_cons_succ]
  refine wpAnyH_take (i := 1) (v := ?_) rfl (by kernel_rfl) (by kernel_rfl) (by kernel_rfl) (fun _ _ _ h => h) (Or.inl ⟨by rfl, ?_⟩) (by assumption) ?_
  rotate_left 1
  · (intro u hSw; have hSv := hSw; clear hSw; obtain ⟨c0, c1, c2⟩ := adCells hSv.head; clear hSv; go_simp; try (with_reducible rfl))
  try simp only [Act.put, List.getElem_toArray, List.getElem_cons_zero, List.getElem_cons_succ, List.setIfInBounds_toArray, List.set_cons_zero, List.set_cons_succ]
  refine wpAnyH_take (i := 2) (v := ?_) rfl (by kernel_rfl) (by kernel_rfl) (by kernel_rfl) (fun _ _ _ h => h) (Or.inl ⟨by rfl, ?_⟩) (by assumption) ?_
  rotate_left 1
  · (intro u hSw; clear hSw; go_simp; try (with_reducible rfl))
  try simp only [Act.put, List.getElem_toArray, List.getElem_cons_zero, List.getElem_cons_succ, List.setIfInBounds_toArray, List.set_cons_zero, List.set_cons_succ]
  refine wpAnyH_take (i := 3) (v := ?_) rfl (by kernel_rfl) (by kernel_rfl) (by kernel_rfl) (fun _ _ _ h => h) (Or.inl ⟨by rfl, ?_⟩) (by assumption) ?_
  rotate_left 1
  · (intro u hSw; clear hSw; go_simp; try (with_reducible rfl))
  try simp only [Act.put, List.getElem_toArray, List.getElem_cons_zero, List.getElem_cons_succ, List.setIfInBounds_toArray, List.set_cons_zero, List.set_cons_succ]
  refine wpAnyH_take (i := 6) (v := ?_) rfl (by kernel_rfl) (by kernel_rfl) (by kernel_rfl) (fun _ _ _ h => h) (Or.inl ⟨by rfl, ?_⟩) (by assumption) ?_
  rotate_left 1
  · (intro u hSw; clear hSw; go_simp; try (with_reducible rfl))
  try simp only [Act.put, List.getElem_toArray, List.getElem_cons_zero, List.getElem_cons_succ, List.setIfInBounds_toArray, List.set_cons_zero, List.set_cons_succ]
  refine wpAnyH_take (i := 11) (v := ?_) rfl (by kernel_rfl) (by kernel_rfl) (by kernel_rfl) (fun _ _ _ h => h) (Or.inl ⟨by rfl, ?_⟩) (by assumption) ?_
  rotate_left 1
  · (intro u hSw; clear hSw; go_simp; try (with_reducible rfl))
  try simp only [Act.put, List.getElem_toArray, List.getElem_cons_zero, List.getElem_cons_succ, List.setIfInBounds_toArray, List.set_cons_zero, List.set_cons_succ]
  refine wpAnyH_ready (rs := [4, 7]) (by kernel_rfl) (by simp) ?_
  refine AllReadyH.cons (i := 4) (o := ?o1) ?ho1 (fun K hK => ?st1) ?mo1
  case ho1 => rfl
  case st1 =>
    have HS := Lib.hid hHeld
    clear hHeld
    go_simp
    refine hK.out _ (w0.alloc (.cells #[.int .u8 8, .int .u8 0, .int .u8 0, .int .u8 0] 5)).drew (HS.out.alloc _) (fun hHeld => ?_)
    have hHeld : HL [(w0.heap.size, .cells #[.int .u8 8, .int .u8 0, .int .u8 0, .int .u8 0] 5), (B, .cells #[.bool v2, .int .u64 h2, .int .u64 l2] 24), (A, .cells #[.bool false, .int .u64 h1, .int .u64 l1] 24)] R 9 w (w0.alloc (.cells #[.int .u8 8, .int .u8 0, .int .u8 0, .int .u8 0] 5)).drew := HS.out.made _
    refine wpAnyH_strong (S2 := fun u => HL [(w0.heap.size, .cells #[.int .u8 8, .int .u8 0, .int .u8 0, .int .u8 0] 5), (B, .cells #[.bool v2, .int .u64 h2, .int .u64 l2] 24), (A, .cells #[.bool false, .int .u64 h1, .int .u64 l1] 24)] R 9 w u) (fun u hu => hu.tail) _ _ _ _ ?_
    clear hK K HS
    obtain ⟨g4, hgg⟩ : ∃ g, g = w0.heap.size := ⟨_, rfl⟩
    rw [← hgg] at hHeld ⊢
    obtain ⟨v4, hwn⟩ : ∃ x, x = (w0.alloc (.cells #[.int .u8 8, .int .u8 0, .int .u8 0, .int .u8 0] 5)).drew := ⟨_, rfl⟩
    rw [← hwn] at hHeld ⊢
    clear hgg hwn
    try simp only [Act.put, List.getElem_toArray, List.getElem_cons_zero, List.getElem_cons_succ, List.setIfInBounds_toArray, List.set_cons_zero, List.set_cons_succ]
    refine wpAnyH_take (i := 5) (v := ?_) rfl (by kernel_rfl) (by kernel_rfl) (by kernel_rfl) (fun _ _ _ h => h) (Or.inl ⟨by rfl, ?_⟩) (by assumption) ?_
    rotate_left 1
    · (intro u hSw; have hcv := echo_conv_ff (hSw.head); rw [← HX.out.1] at hcv; clear hSw; go_simp; try (with_reducible rfl))
    try simp only [Act.put, List.getElem_toArray, List.getElem_cons_zero, List.getElem_cons_succ, List.setIfInBounds_toArray, List.set_cons_zero, List.set_cons_succ]
    refine wpAnyH_ready (rs := [7]) (by kernel_rfl) (by simp) ?_
    refine AllReadyH.cons rfl (fun K hK => ?_) AllReadyH.nil
    have HS := Lib.hid hHeld
    clear hHeld
    go_simp
    refine (put16 id _ HX.out.2.2.2).mono ?_
    rintro e w1 ⟨rfl, B1⟩
    rw [← HX.out.2.1]
    simp only []
    refine hK.out _ _ (HS.out.call B1) (fun hHeld => ?_)
    clear hK K HS B1
    try simp only [Act.put, List.getElem_toArray, List.getElem_cons_zero, List.getElem_cons_succ, List.setIfInBounds_toArray, List.set_cons_zero, List.set_cons_succ]
    refine wpAnyH_take (i := 8) (v := ?_) rfl (by kernel_rfl) (by kernel_rfl) (by kernel_rfl) (fun _ _ _ h => h) (Or.inl ⟨by rfl, ?_⟩) (by assumption) ?_
    rotate_left 1
    · (intro u hSw; clear hSw; go_simp; try (with_reducible rfl))
    try simp only [Act.put, List.getElem_toArray, List.getElem_cons_zero, List.getElem_cons_succ, List.setIfInBounds_toArray, List.set_cons_zero, List.set_cons_succ]
    refine wpAnyH_ready (rs := [9]) (by kernel_rfl) (by simp) ?_
    refine AllReadyH.cons rfl (fun K hK => ?_) AllReadyH.nil
    have HS := Lib.hid hHeld
    clear hHeld
    go_simp
    refine (put16 0 _ (by decide)).mono ?_
    rintro e w1 ⟨rfl, B1⟩
    rw [← HX.out.2.2.1]
    simp only []
    refine hK.out _ _ (HS.out.call B1) (fun hHeld => ?_)
    clear hK K HS B1
    try simp only [Act.put, List.getElem_toArray, List.getElem_cons_zero, List.getElem_cons_succ, List.setIfInBounds_toArray, List.set_cons_zero, List.set_cons_succ]
    refine wpAnyH_take (i := 10) (v := ?_) rfl (by kernel_rfl) (by kernel_rfl) (by kernel_rfl) (fun _ _ _ h => h) (Or.inl ⟨by rfl, ?_⟩) (by assumption) ?_
    rotate_left 1
    · (intro u hSw; clear hSw; go_simp; try (with_reducible rfl))
    try simp only [Act.put, List.getElem_toArray, List.getElem_cons_zero, List.getElem_cons_succ, List.setIfInBounds_toArray, List.set_cons_zero, List.set_cons_succ]
    refine wpAnyH_take (i := 12) (v := ?_) rfl (by kernel_rfl) (by kernel_rfl) (by kernel_rfl) (fun _ _ _ h => h) (Or.inl ⟨by rfl, ?_⟩) (by assumption) ?_
    rotate_left 1
    · (intro u hSw; clear hSw; go_simp; try (with_reducible rfl))
    try simp only [Act.put, List.getElem_toArray, List.getElem_cons_zero, List.getElem_cons_succ, List.setIfInBounds_toArray, List.set_cons_zero, List.set_cons_succ]
    refine wpAnyH_ready (rs := [13]) (by kernel_rfl) (by simp) ?_
    refine AllReadyH.cons rfl (fun K hK => ?_) AllReadyH.nil
    have HS := Lib.hid hHeld
    clear hHeld
    go_simp
    refine (HC.out _).mono ?_
    rintro e w1 ⟨rfl, B1⟩
    simp only []
    refine hK.out _ _ (HS.out.call B1) (fun hHeld => ?_)
    clear hK K HS B1
    try simp only [Act.put, List.getElem_toArray, List.getElem_cons_zero, List.getElem_cons_succ, List.setIfInBounds_toArray, List.set_cons_zero, List.set_cons_succ]
    refine wpAnyH_take (i := 14) (v := ?_) rfl (by kernel_rfl) (by kernel_rfl) (by kernel_rfl) (fun _ _ _ h => h) (Or.inl ⟨by rfl, ?_⟩) (by assumption) ?_
    rotate_left 1
    · (intro u hSw; clear hSw; go_simp; try (with_reducible rfl))
    try simp only [Act.put, List.getElem_toArray, List.getElem_cons_zero, List.getElem_cons_succ, List.setIfInBounds_toArray, List.set_cons_zero, List.set_cons_succ]
    refine wpAnyH_take (i := 15) (v := ?_) rfl (by kernel_rfl) (by kernel_rfl) (by kernel_rfl) (fun _ _ _ h => h) (Or.inl ⟨by rfl, ?_⟩) (by assumption) ?_
    rotate_left 1
    · (intro u hSw; clear hSw; go_simp; try (with_reducible rfl))
    try simp only [Act.put, List.getElem_toArray, List.getElem_cons_zero, List.getElem_cons_succ, List.setIfInBounds_toArray, List.set_cons_zero, List.set_cons_succ]
    refine wpAnyH_ready (rs := [16]) (by kernel_rfl) (by simp) ?_
    refine AllReadyH.cons rfl (fun K hK => ?_) AllReadyH.nil
    have HS := Lib.hid hHeld
    clear hHeld
    rw [if_pos (by kernel_rfl)]
    have GN := Lib.hid HS.out.ne
    obtain ⟨cs, hcs, hR⟩ := HS.out.2.1
    refine wp_store_row 30 _ _ rfl R M.cells rfl rfl 30 cs hR info30 hcs (pkOne M) ?_
    have HR := Lib.hid (HS.out.row (cs := M.cells))
    refine hK.out _ _ (HS.out.store (by simp only [List.mem_cons, List.not_mem_nil, or_false]; rintro x (rfl | rfl | rfl); exact GN.out; exact HN.out.2.1; exact HN.out.1) HN.out.2.2 rfl) (fun hHeld => ?_)
    clear hcs hR
    clear hK K HS
    try simp only [Act.put, List.getElem_toArray, List.getElem_cons_zero, List.getElem_cons_succ, List.setIfInBounds_toArray, List.set_cons_zero, List.set_cons_succ]
    refine wpAnyH_take (i := 17) (v := ?_) rfl (by kernel_rfl) (by kernel_rfl) (by kernel_rfl) (fun _ _ _ h => h) (Or.inl ⟨by rfl, ?_⟩) (by assumption) ?_
    rotate_left 1
    · (intro u hSw; clear hSw; go_simp; try (with_reducible rfl))
    try simp only [Act.put, List.getElem_toArray, List.getElem_cons_zero, List.getElem_cons_succ, List.setIfInBounds_toArray, List.set_cons_zero, List.set_cons_succ]
    have HE := Lib.hid hHeld
    clear hHeld
    refine wpAnyH_done (by kernel_rfl) ?_ _
    try simp only [Act.put, List.getElem_toArray, List.getElem_cons_zero, List.getElem_cons_succ, List.setIfInBounds_toArray, List.set_cons_zero, List.set_cons_succ]
    obtain ⟨w5, hw5⟩ : ∃ x, x = World.setRow w1 R M.cells := ⟨_, rfl⟩
    rw [← hw5] at HR HE ⊢
    have D5 : w5.heap[R]? = some (.cells #[.bool M.src.v6, .int .u64 M.src.hi, .int .u64 M.src.lo, .bool M.dst.v6, .int .u64 M.dst.hi, .int .u64 M.dst.lo, .int .u8 M.proto, .int .u8 M.ttl, .string M.data] 30) := HR.out
    obtain ⟨k0, k1, k2, k3, k4, k5, k6, k7, k8⟩ := pkCells D5
    clear D5 HR hw5
    go_wp2_with fail
    refine bodyPost_ret (v := .tuple #[.agg #[.bool M.src.v6, .int .u64 M.src.hi, .int .u64 M.src.lo, .bool M.dst.v6, .int .u64 M.dst.hi, .int .u64 M.dst.lo, .int .u8 M.proto, .int .u8 M.ttl, .string M.data], .int .i64 E]) (by simp [results, Try.results12, go_sem, k0, k1, k2, k3, k4, k5, k6, k7, k8]) rfl ⟨rfl, HE.out.2.2⟩
  case mo1 =>
    refine AllReadyH.cons rfl (fun K hK => ?_) AllReadyH.nil
    have HS := Lib.hid hHeld
    clear hHeld
    go_simp
    refine (put16 id _ HX.out.2.2.2).mono ?_
    rintro e w1 ⟨rfl, B1⟩
    rw [← HX.out.2.1]
    simp only []
    refine hK.out _ _ (HS.out.call B1) (fun hHeld => ?_)
    clear hK K HS B1
    try simp only [Act.put, List.getElem_toArray, List.getElem_cons_zero, List.getElem_cons_succ, List.setIfInBounds_toArray, List.set_cons_zero, List.set_cons_succ]
    refine wpAnyH_ready (rs := [4, 9]) (by kernel_rfl) (by simp) ?_
    refine AllReadyH.cons (i := 4) (o := ?o2) ?ho2 (fun K hK => ?st2) ?mo2
    case ho2 => rfl
    case st2 =>
      have HS := Lib.hid hHeld
      clear hHeld
      go_simp
      refine hK.out _ (w1.alloc (.cells #[.int .u8 8, .int .u8 0, .int .u8 0, .int .u8 0] 5)) (HS.out.alloc _) (fun hHeld => ?_)
      have hHeld : HL [(w1.heap.size, .cells #[.int .u8 8, .int .u8 0, .int .u8 0, .int .u8 0] 5), (B, .cells #[.bool v2, .int .u64 h2, .int .u64 l2] 24), (A, .cells #[.bool false, .int .u64 h1, .int .u64 l1] 24)] R 9 w (w1.alloc (.cells #[.int .u8 8, .int .u8 0, .int .u8 0, .int .u8 0] 5)) := HS.out.made _
      refine wpAnyH_strong (S2 := fun u => HL [(w1.heap.size, .cells #[.int .u8 8, .int .u8 0, .int .u8 0, .int .u8 0] 5), (B, .cells #[.bool v2, .int .u64 h2, .int .u64 l2] 24), (A, .cells #[.bool false, .int .u64 h1, .int .u64 l1] 24)] R 9 w u) (fun u hu => hu.tail) _ _ _ _ ?_
      clear hK K HS
      obtain ⟨g4, hgg⟩ : ∃ g, g = w1.heap.size := ⟨_, rfl⟩
      rw [← hgg] at hHeld ⊢
      obtain ⟨v4, hwn⟩ : ∃ x, x = (w1.alloc (.cells #[.int .u8 8, .int .u8 0, .int .u8 0, .int .u8 0] 5)) := ⟨_, rfl⟩
      rw [← hwn] at hHeld ⊢
      clear hgg hwn
      try simp only [Act.put, List.getElem_toArray, List.getElem_cons_zero, List.getElem_cons_succ, List.setIfInBounds_toArray, List.set_cons_zero, List.set_cons_succ]
      refine wpAnyH_take (i := 5) (v := ?_) rfl (by kernel_rfl) (by kernel_rfl) (by kernel_rfl) (fun _ _ _ h => h) (Or.inl ⟨by rfl, ?_⟩) (by assumption) ?_
      rotate_left 1
      · (intro u hSw; have hcv := echo_conv_ff (hSw.head); rw [← HX.out.1] at hcv; clear hSw; go_simp; try (with_reducible rfl))
      try simp only [Act.put, List.getElem_toArray, List.getElem_cons_zero, List.getElem_cons_succ, List.setIfInBounds_toArray, List.set_cons_zero, List.set_cons_succ]
      refine wpAnyH_take (i := 8) (v := ?_) rfl (by kernel_rfl) (by kernel_rfl) (by kernel_rfl) (fun _ _ _ h => h) (Or.inl ⟨by rfl, ?_⟩) (by assumption) ?_
      rotate_left 1
      · (intro u hSw; clear hSw; go_simp; try (with_reducible rfl))
      try simp only [Act.put, List.getElem_toArray, List.getElem_cons_zero, List.getElem_cons_succ, List.setIfInBounds_toArray, List.set_cons_zero, List.set_cons_succ]
      refine wpAnyH_ready (rs := [9]) (by kernel_rfl) (by simp) ?_
      refine AllReadyH.cons rfl (fun K hK => ?_) AllReadyH.nil
      have HS := Lib.hid hHeld
      clear hHeld
      go_simp
      refine (put16 0 _ (by decide)).mono ?_
      rintro e w1 ⟨rfl, B1⟩
      rw [← HX.out.2.2.1]
      simp only []
      refine hK.out _ _ (HS.out.call B1) (fun hHeld => ?_)
      clear hK K HS B1
      try simp only [Act.put, List.getElem_toArray, List.getElem_cons_zero, List.getElem_cons_succ, List.setIfInBounds_toArray, List.set_cons_zero, List.set_cons_succ]
      refine wpAnyH_take (i := 10) (v := ?_) rfl (by kernel_rfl) (by kernel_rfl) (by kernel_rfl) (fun _ _ _ h => h) (Or.inl ⟨by rfl, ?_⟩) (by assumption) ?_
      rotate_left 1
      · (intro u hSw; clear hSw; go_simp; try (with_reducible rfl))
      try simp only [Act.put, List.getElem_toArray, List.getElem_cons_zero, List.getElem_cons_succ, List.setIfInBounds_toArray, List.set_cons_zero, List.set_cons_succ]
      refine wpAnyH_take (i := 12) (v := ?_) rfl (by kernel_rfl) (by kernel_rfl) (by kernel_rfl) (fun _ _ _ h => h) (Or.inl ⟨by rfl, ?_⟩) (by assumption) ?_
      rotate_left 1
      · (intro u hSw; clear hSw; go_simp; try (with_reducible rfl))
      try simp only [Act.put, List.getElem_toArray, List.getElem_cons_zero, List.getElem_cons_succ, List.setIfInBounds_toArray, List.set_cons_zero, List.set_cons_succ]
      refine wpAnyH_ready (rs := [13]) (by kernel_rfl) (by simp) ?_
      refine AllReadyH.cons rfl (fun K hK => ?_) AllReadyH.nil
      have HS := Lib.hid hHeld
      clear hHeld
      go_simp
      refine (HC.out _).mono ?_
      rintro e w1 ⟨rfl, B1⟩
      simp only []
      refine hK.out _ _ (HS.out.call B1) (fun hHeld => ?_)
      clear hK K HS B1
      try simp only [Act.put, List.getElem_toArray, List.getElem_cons_zero, List.getElem_cons_succ, List.setIfInBounds_toArray, List.set_cons_zero, List.set_cons_succ]
      refine wpAnyH_take (i := 14) (v := ?_) rfl (by kernel_rfl) (by kernel_rfl) (by kernel_rfl) (fun _ _ _ h => h) (Or.inl ⟨by rfl, ?_⟩) (by assumption) ?_
      rotate_left 1
      · (intro u hSw; clear hSw; go_simp; try (with_reducible rfl))
      try simp only [Act.put, List.getElem_toArray, List.getElem_cons_zero, List.getElem_cons_succ, List.setIfInBounds_toArray, List.set_cons_zero, List.set_cons_succ]
      refine wpAnyH_take (i := 15) (v := ?_) rfl (by kernel_rfl) (by kernel_rfl) (by kernel_rfl) (fun _ _ _ h => h) (Or.inl ⟨by rfl, ?_⟩) (by assumption) ?_
      rotate_left 1
      · (intro u hSw; clear hSw; go_simp; try (with_reducible rfl))
      try simp only [Act.put, List.getElem_toArray, List.getElem_cons_zero, List.getElem_cons_succ, List.setIfInBounds_toArray, List.set_cons_zero, List.set_cons_succ]
      refine wpAnyH_ready (rs := [16]) (by kernel_rfl) (by simp) ?_
      refine AllReadyH.cons rfl (fun K hK => ?_) AllReadyH.nil
      have HS := Lib.hid hHeld
      clear hHeld
      rw [if_pos (by kernel_rfl)]
      have GN := Lib.hid HS.out.ne
      obtain ⟨cs, hcs, hR⟩ := HS.out.2.1
      refine wp_store_row 30 _ _ rfl R M.cells rfl rfl 30 cs hR info30 hcs (pkOne M) ?_
      have HR := Lib.hid (HS.out.row (cs := M.cells))
      refine hK.out _ _ (HS.out.store (by simp only [List.mem_cons, List.not_mem_nil, or_false]; rintro x (rfl | rfl | rfl); exact GN.out; exact HN.out.2.1; exact HN.out.1) HN.out.2.2 rfl) (fun hHeld => ?_)
      clear hcs hR
      clear hK K HS
      try simp only [Act.put, List.getElem_toArray, List.getElem_cons_zero, List.getElem_cons_succ, List.setIfInBounds_toArray, List.set_cons_zero, List.set_cons_succ]
      refine wpAnyH_take (i := 17) (v := ?_) rfl (by kernel_rfl) (by kernel_rfl) (by kernel_rfl) (fun _ _ _ h => h) (Or.inl ⟨by rfl, ?_⟩) (by assumption) ?_
      rotate_left 1
      · (intro u hSw; clear hSw; go_simp; try (with_reducible rfl))
      try simp only [Act.put, List.getElem_toArray, List.getElem_cons_zero, List.getElem_cons_succ, List.setIfInBounds_toArray, List.set_cons_zero, List.set_cons_succ]
      have HE := Lib.hid hHeld
      clear hHeld
      refine wpAnyH_done (by kernel_rfl) ?_ _
      try simp only [Act.put, List.getElem_toArray, List.getElem_cons_zero, List.getElem_cons_succ, List.setIfInBounds_toArray, List.set_cons_zero, List.set_cons_succ]
      obtain ⟨w5, hw5⟩ : ∃ x, x = World.setRow w1 R M.cells := ⟨_, rfl⟩
      rw [← hw5] at HR HE ⊢
      have D5 : w5.heap[R]? = some (.cells #[.bool M.src.v6, .int .u64 M.src.hi, .int .u64 M.src.lo, .bool M.dst.v6, .int .u64 M.dst.hi, .int .u64 M.dst.lo, .int .u8 M.proto, .int .u8 M.ttl, .string M.data] 30) := HR.out
      obtain ⟨k0, k1, k2, k3, k4, k5, k6, k7, k8⟩ := pkCells D5
      clear D5 HR hw5
      go_wp2_with fail
      refine bodyPost_ret (v := .tuple #[.agg #[.bool M.src.v6, .int .u64 M.src.hi, .int .u64 M.src.lo, .bool M.dst.v6, .int .u64 M.dst.hi, .int .u64 M.dst.lo, .int .u8 M.proto, .int .u8 M.ttl, .string M.data], .int .i64 E]) (by simp [results, Try.results12, go_sem, k0, k1, k2, k3, k4, k5, k6, k7, k8]) rfl ⟨rfl, HE.out.2.2⟩
    case mo2 =>
      refine AllReadyH.cons rfl (fun K hK => ?_) AllReadyH.nil
      have HS := Lib.hid hHeld
      clear hHeld
      go_simp
      refine (put16 0 _ (by decide)).mono ?_
      rintro e w1 ⟨rfl, B1⟩
      rw [← HX.out.2.2.1]
      simp only []
      refine hK.out _ _ (HS.out.call B1) (fun hHeld => ?_)
      clear hK K HS B1
      try simp only [Act.put, List.getElem_toArray, List.getElem_cons_zero, List.getElem_cons_succ, List.setIfInBounds_toArray, List.set_cons_zero, List.set_cons_succ]
      refine wpAnyH_ready (rs := [4]) (by kernel_rfl) (by simp) ?_
      refine AllReadyH.cons rfl (fun K hK => ?_) AllReadyH.nil
      have HS := Lib.hid hHeld
      clear hHeld
      go_simp
      refine hK.out _ (w1.alloc (.cells #[.int .u8 8, .int .u8 0, .int .u8 0, .int .u8 0] 5)) (HS.out.alloc _) (fun hHeld => ?_)
      have hHeld : HL [(w1.heap.size, .cells #[.int .u8 8, .int .u8 0, .int .u8 0, .int .u8 0] 5), (B, .cells #[.bool v2, .int .u64 h2, .int .u64 l2] 24), (A, .cells #[.bool false, .int .u64 h1, .int .u64 l1] 24)] R 9 w (w1.alloc (.cells #[.int .u8 8, .int .u8 0, .int .u8 0, .int .u8 0] 5)) := HS.out.made _
      refine wpAnyH_strong (S2 := fun u => HL [(w1.heap.size, .cells #[.int .u8 8, .int .u8 0, .int .u8 0, .int .u8 0] 5), (B, .cells #[.bool v2, .int .u64 h2, .int .u64 l2] 24), (A, .cells #[.bool false, .int .u64 h1, .int .u64 l1] 24)] R 9 w u) (fun u hu => hu.tail) _ _ _ _ ?_
      clear hK K HS
      obtain ⟨g4, hgg⟩ : ∃ g, g = w1.heap.size := ⟨_, rfl⟩
      rw [← hgg] at hHeld ⊢
      obtain ⟨v4, hwn⟩ : ∃ x, x = (w1.alloc (.cells #[.int .u8 8, .int .u8 0, .int .u8 0, .int .u8 0] 5)) := ⟨_, rfl⟩
      rw [← hwn] at hHeld ⊢
      clear hgg hwn
      try simp only [Act.put, List.getElem_toArray, List.getElem_cons_zero, List.getElem_cons_succ, List.setIfInBounds_toArray, List.set_cons_zero, List.set_cons_succ]
      refine wpAnyH_take (i := 5) (v := ?_) rfl (by kernel_rfl) (by kernel_rfl) (by kernel_rfl) (fun _ _ _ h => h) (Or.inl ⟨by rfl, ?_⟩) (by assumption) ?_
      rotate_left 1
      · (intro u hSw; have hcv := echo_conv_ff (hSw.head); rw [← HX.out.1] at hcv; clear hSw; go_simp; try (with_reducible rfl))
      try simp only [Act.put, List.getElem_toArray, List.getElem_cons_zero, List.getElem_cons_succ, List.setIfInBounds_toArray, List.set_cons_zero, List.set_cons_succ]
      refine wpAnyH_take (i := 8) (v := ?_) rfl (by kernel_rfl) (by kernel_rfl) (by kernel_rfl) (fun _ _ _ h => h) (Or.inl ⟨by rfl, ?_⟩) (by assumption) ?_
      rotate_left 1
      · (intro u hSw; clear hSw; go_simp; try (with_reducible rfl))
      try simp only [Act.put, List.getElem_toArray, List.getElem_cons_zero, List.getElem_cons_succ, List.setIfInBounds_toArray, List.set_cons_zero, List.set_cons_succ]
      refine wpAnyH_take (i := 10) (v := ?_) rfl (by kernel_rfl) (by kernel_rfl) (by kernel_rfl) (fun _ _ _ h => h) (Or.inl ⟨by rfl, ?_⟩) (by assumption) ?_
      rotate_left 1
      · (intro u hSw; clear hSw; go_simp; try (with_reducible rfl))
      try simp only [Act.put, List.getElem_toArray, List.getElem_cons_zero, List.getElem_cons_succ, List.setIfInBounds_toArray, List.set_cons_zero, List.set_cons_succ]
      refine wpAnyH_take (i := 12) (v := ?_) rfl (by kernel_rfl) (by kernel_rfl) (by kernel_rfl) (fun _ _ _ h => h) (Or.inl ⟨by rfl, ?_⟩) (by assumption) ?_
      rotate_left 1
      · (intro u hSw; clear hSw; go_simp; try (with_reducible rfl))
      try simp only [Act.put, List.getElem_toArray, List.getElem_cons_zero, List.getElem_cons_succ, List.setIfInBounds_toArray, List.set_cons_zero, List.set_cons_succ]
      refine wpAnyH_ready (rs := [13]) (by kernel_rfl) (by simp) ?_
      refine AllReadyH.cons rfl (fun K hK => ?_) AllReadyH.nil
      have HS := Lib.hid hHeld
      clear hHeld
      go_simp
      refine (HC.out _).mono ?_
      rintro e w1 ⟨rfl, B1⟩
      simp only []
      refine hK.out _ _ (HS.out.call B1) (fun hHeld => ?_)
      clear hK K HS B1
      try simp only [Act.put, List.getElem_toArray, List.getElem_cons_zero, List.getElem_cons_succ, List.setIfInBounds_toArray, List.set_cons_zero, List.set_cons_succ]
      refine wpAnyH_take (i := 14) (v := ?_) rfl (by kernel_rfl) (by kernel_rfl) (by kernel_rfl) (fun _ _ _ h => h) (Or.inl ⟨by rfl, ?_⟩) (by assumption) ?_
      rotate_left 1
      · (intro u hSw; clear hSw; go_simp; try (with_reducible rfl))
      try simp only [Act.put, List.getElem_toArray, List.getElem_cons_zero, List.getElem_cons_succ, List.setIfInBounds_toArray, List.set_cons_zero, List.set_cons_succ]
      refine wpAnyH_take (i := 15) (v := ?_) rfl (by kernel_rfl) (by kernel_rfl) (by kernel_rfl) (fun _ _ _ h => h) (Or.inl ⟨by rfl, ?_⟩) (by assumption) ?_
      rotate_left 1
      · (intro u hSw; clear hSw; go_simp; try (with_reducible rfl))
      try simp only [Act.put, List.getElem_toArray, List.getElem_cons_zero, List.getElem_cons_succ, List.setIfInBounds_toArray, List.set_cons_zero, List.set_cons_succ]
      refine wpAnyH_ready (rs := [16]) (by kernel_rfl) (by simp) ?_
      refine AllReadyH.cons rfl (fun K hK => ?_) AllReadyH.nil
      have HS := Lib.hid hHeld
      clear hHeld
      rw [if_pos (by kernel_rfl)]
      have GN := Lib.hid HS.out.ne
      obtain ⟨cs, hcs, hR⟩ := HS.out.2.1
      refine wp_store_row 30 _ _ rfl R M.cells rfl rfl 30 cs hR info30 hcs (pkOne M) ?_
      have HR := Lib.hid (HS.out.row (cs := M.cells))
      refine hK.out _ _ (HS.out.store (by simp only [List.mem_cons, List.not_mem_nil, or_false]; rintro x (rfl | rfl | rfl); exact GN.out; exact HN.out.2.1; exact HN.out.1) HN.out.2.2 rfl) (fun hHeld => ?_)
      clear hcs hR
      clear hK K HS
      try simp only [Act.put, List.getElem_toArray, List.getElem_cons_zero, List.getElem_cons_succ, List.setIfInBounds_toArray, List.set_cons_zero, List.set_cons_succ]
      refine wpAnyH_take (i := 17) (v := ?_) rfl (by kernel_rfl) (by kernel_rfl) (by kernel_rfl) (fun _ _ _ h => h) (Or.inl ⟨by rfl, ?_⟩) (by assumption) ?_
      rotate_left 1
      · (intro u hSw; clear hSw; go_simp; try (with_reducible rfl))
      try simp only [Act.put, List.getElem_toArray, List.getElem_cons_zero, List.getElem_cons_succ, List.setIfInBounds_toArray, List.set_cons_zero, List.set_cons_succ]
      have HE := Lib.hid hHeld
      clear hHeld
      refine wpAnyH_done (by kernel_rfl) ?_ _
      try simp only [Act.put, List.getElem_toArray, List.getElem_cons_zero, List.getElem_cons_succ, List.setIfInBounds_toArray, List.set_cons_zero, List.set_cons_succ]
      obtain ⟨w5, hw5⟩ : ∃ x, x = World.setRow w1 R M.cells := ⟨_, rfl⟩
      rw [← hw5] at HR HE ⊢
      have D5 : w5.heap[R]? = some (.cells #[.bool M.src.v6, .int .u64 M.src.hi, .int .u64 M.src.lo, .bool M.dst.v6, .int .u64 M.dst.hi, .int .u64 M.dst.lo, .int .u8 M.proto, .int .u8 M.ttl, .string M.data] 30) := HR.out
      obtain ⟨k0, k1, k2, k3, k4, k5, k6, k7, k8⟩ := pkCells D5
      clear D5 HR hw5
      go_wp2_with fail
      refine bodyPost_ret (v := .tuple #[.agg #[.bool M.src.v6, .int .u64 M.src.hi, .int .u64 M.src.lo, .bool M.dst.v6, .int .u64 M.dst.hi, .int .u64 M.dst.lo, .int .u8 M.proto, .int .u8 M.ttl, .string M.data], .int .i64 E]) (by simp [results, Try.results12, go_sem, k0, k1, k2, k3, k4, k5, k6, k7, k8]) rfl ⟨rfl, HE.out.2.2⟩
theorem echo_conv_ft {u : World} {g : Nat} (h : u.heap[g]? = some (.cells #[.int .u8 0, .int .u8 0, .int .u8 0, .int .u8 0] 5)) : (convert 37 9 (.slice (some ⟨g, 0, none⟩) 4 4)).run Try.prog u = .ok (.string (echoT 0)) u := by
  refine bytes_conv [0, 0, 0, 0] rfl ?_
  rw [h]
  simp
set_option maxHeartbeats 16000000 in
set_option maxRecDepth 100000 in
theorem echoMake_ft (h1 l1 : Nat) (b : Ad) (id : Nat) (d : ByteArray) (w : World) (ha : (⟨false, h1, l1⟩ : Ad).Ok) (hb : b.Ok) (hf : id < 65536) (hd : d.size ≤ 9000) :
    Calls Try.prog 12 #[.agg #[.bool false, .int .u64 h1, .int .u64 l1], .agg #[.bool b.v6, .int .u64 b.hi, .int .u64 b.lo], .int .u16 id, .bool true, .string d] w fun e w' =>
      e = .returned (.tuple #[(madeP ⟨⟨false, h1, l1⟩, b, 1, 64, echoD 0 id d⟩ 2).val, .int .i64 (mayE ⟨⟨false, h1, l1⟩, b, 1, 64, echoD 0 id d⟩)]) ∧ Below w.heap.size w w' := by
  obtain ⟨v2, h2, l2⟩ := b
  obtain ⟨D, hD⟩ : ∃ D, D = echoD 0 id d := ⟨_, rfl⟩
  have hDs : D.size = 8 + d.size := by rw [hD]; exact echoD_size _ _ _
  rw [← hD]
  have C3 : ∀ u, Calls Try.prog 21 #[.agg #[.bool false, .int .u64 h1, .int .u64 l1], .agg #[.bool v2, .int .u64 h2, .int .u64 l2], .int .u8 1, .int .i64 2, .string D] u fun e w' => (e = .returned (.tuple #[(madeP ⟨⟨false, h1, l1⟩, ⟨v2, h2, l2⟩, 1, 64, D⟩ 2).val, .int .i64 (mayE ⟨⟨false, h1, l1⟩, ⟨v2, h2, l2⟩, 1, 64, D⟩)]) ∧ Below u.heap.size u w') := fun u => made_any ⟨false, h1, l1⟩ ⟨v2, h2, l2⟩ 1 2 D u ha hb (by decide) (by omega) (by omega)
  have HC := Lib.hid C3
  obtain ⟨M, hM⟩ : ∃ M : Pk, M = madeP ⟨⟨false, h1, l1⟩, ⟨v2, h2, l2⟩, 1, 64, D⟩ 2 := ⟨_, rfl⟩
  obtain ⟨E, hE⟩ : ∃ M, M = mayE ⟨⟨false, h1, l1⟩, ⟨v2, h2, l2⟩, 1, 64, D⟩ := ⟨_, rfl⟩
  rw [← hM, ← hE] at HC
  rw [← hM, ← hE]
  clear C3 hM hE ha hb
  obtain ⟨X1, hX1⟩ : ∃ X : ByteArray, X = echoT 0 := ⟨_, rfl⟩
  obtain ⟨X2, hX2⟩ : ∃ X, X = beS id 2 := ⟨_, rfl⟩
  have z1 : X1.size = 4 := by rw [hX1]; rfl
  have z2 : X2.size = 2 := by rw [hX2]; exact beS_size _ _
  obtain ⟨X3, hX3⟩ : ∃ X, X = beS 0 2 := ⟨_, rfl⟩
  have z3 : X3.size = 2 := by rw [hX3]; exact beS_size _ _
  have a1 := addS X1 X2 (by omega)
  have a2 := addS (X1 ++ X2) X3 (by rw [ByteArray.size_append]; omega)
  have a3 := addS (X1 ++ X2 ++ X3) d (by simp only [ByteArray.size_append]; omega)
  have hDX : X1 ++ X2 ++ X3 ++ d = D := by rw [hD, hX1, hX2, hX3]; rfl
  rw [hDX] at a3
  have HX := Lib.hid (And.intro hX1 (And.intro hX2 (And.intro hX3 hf)))
  have hz : (d.size : Int) ≤ 9000 := by omega
  clear hX1 hX2 hX3 z1 z2 z3 hDX hD hDs hd hf
  have HW0 : HL [(w.heap.size + 1, .cells #[.bool v2, .int .u64 h2, .int .u64 l2] 24), (w.heap.size, .cells #[.bool false, .int .u64 h1, .int .u64 l1] 24)] (w.heap.size + 1 + 1) 9 w ((((w.alloc (.cells #[.bool false, .int .u64 h1, .int .u64 l1] 24)).alloc (.cells #[.bool v2, .int .u64 h2, .int .u64 l2] 24)).alloc (.cells #[.bool false, .int .u64 0, .int .u64 0, .bool false, .int .u64 0, .int .u64 0, .int .u8 0, .int .u8 0, .string ⟨#[]⟩] 30)).alloc (.cells #[.int .u8 8, .int .u8 0] 54)) := (HL.two rfl rfl rfl).alloc _
  have HW := Lib.hid HW0
  clear HW0
  go_enter Try.func12, Try.ntmps12
  go_wp2_with fail
  obtain ⟨w0, hw0⟩ : ∃ x, x = (((w.alloc (.cells #[.bool false, .int .u64 h1, .int .u64 l1] 24)).alloc (.cells #[.bool v2, .int .u64 h2, .int .u64 l2] 24)).alloc (.cells #[.bool false, .int .u64 0, .int .u64 0, .bool false, .int .u64 0, .int .u64 0, .int .u8 0, .int .u8 0, .string ⟨#[]⟩] 30)).alloc (.cells #[.int .u8 8, .int .u8 0] 54) := ⟨_, rfl⟩
  obtain ⟨R, hR⟩ : ∃ x, x = w.heap.size + 1 + 1 := ⟨_, rfl⟩
  obtain ⟨B, hB⟩ : ∃ x, x = w.heap.size + 1 := ⟨_, rfl⟩
  obtain ⟨A, hA⟩ : ∃ x, x = w.heap.size := ⟨_, rfl⟩
  have HN := Lib.hid (show A ≠ R ∧ B ≠ R ∧ w.heap.size ≤ R by omega)
  have HW : Hid (HL [(B, .cells #[.bool v2, .int .u64 h2, .int .u64 l2] 24), (A, .cells #[.bool false, .int .u64 h1, .int .u64 l1] 24)] R 9 w w0) := by rw [hw0, hR, hB, hA]; exact Lib.hid HW.out
  rw [← hw0, ← hR, ← hB]
  rw [← hA]
  clear hw0 hR hB hA
  refine wp_region_held_drew (S := fun u => HL [(B, .cells #[.bool v2, .int .u64 h2, .int .u64 l2] 24), (A, .cells #[.bool false, .int .u64 h1, .int .u64 l1] 24)] R 9 w u) (by kernel_rfl) HW.out.drew (fun hHeld => ?_)
  refine wpAnyH_take (i := 0) (v := ?_) rfl (by kernel_rfl) (by kernel_rfl) (by kernel_rfl) (fun _ _ _ h => h) (Or.inl ⟨by rfl, ?_⟩) (by assumption) ?_
  rotate_left 1
  · (intro u hSw; have hSv := hSw; clear hSw; obtain ⟨c0, c1, c2⟩ := adCells hSv.tail.head; clear hSv; go_simp; try (with_reducible rfl))
  try simp only [Act.put, List.getElem_toArray, List.getElem_cons_zero, List.getElem_cons_succ, List.setIfInBounds_toArray, List.set_cons_zero, List.set_cons_succ]
  refine wpAnyH_take (i := 1) (v := ?_) rfl (by kernel_rfl) (by kernel_rfl) (by kernel_rfl) (fun _ _ _ h => h) (Or.inl ⟨by rfl, ?_⟩) (by assumption) ?_
  rotate_left 1
  · (intro u hSw; have hSv := hSw; clear hSw; obtain ⟨c0, c1, c2⟩ := adCells hSv.head; clear hSv; go_simp; try (with_reducible rfl))
  try simp only [Act.put, List.getElem_toArray, List.getElem_cons_zero, List.getElem_cons_succ, List.setIfInBounds_toArray, List.set_cons_zero, List.set_cons_succ]
  refine wpAnyH_take (i := 2) (v := ?_) rfl (by kernel_rfl) (by kernel_rfl) (by kernel_rfl) (fun _ _ _ h => h) (Or.inl ⟨by rfl, ?_⟩) (by assumption) ?_
  rotate_left 1
  · (intro u hSw; clear hSw; go_simp; try (with_reducible rfl))
  try simp only [Act.put, List.getElem_toArray, List.getElem_cons_zero, List.getElem_cons_succ, List.setIfInBounds_toArray, List.set_cons_zero, List.set_cons_succ]
  refine wpAnyH_take (i := 3) (v := ?_) rfl (by kernel_rfl) (by kernel_rfl) (by kernel_rfl) (fun _ _ _ h => h) (Or.inl ⟨by rfl, ?_⟩) (by assumption) ?_
  rotate_left 1
  · (intro u hSw; clear hSw; go_simp; try (with_reducible rfl))
  try simp only [Act.put, List.getElem_toArray, List.getElem_cons_zero, List.getElem_cons_succ, List.setIfInBounds_toArray, List.set_cons_zero, List.set_cons_succ]
  refine wpAnyH_take (i := 6) (v := ?_) rfl (by kernel_rfl) (by kernel_rfl) (by kernel_rfl) (fun _ _ _ h => h) (Or.inl ⟨by rfl, ?_⟩) (by assumption) ?_
  rotate_left 1
  · (intro u hSw; clear hSw; go_simp; try (with_reducible rfl))
  try simp only [Act.put, List.getElem_toArray, List.getElem_cons_zero, List.getElem_cons_succ, List.setIfInBounds_toArray, List.set_cons_zero, List.set_cons_succ]
  refine wpAnyH_take (i := 11) (v := ?_) rfl (by kernel_rfl) (by kernel_rfl) (by kernel_rfl) (fun _ _ _ h => h) (Or.inl ⟨by rfl, ?_⟩) (by assumption) ?_
  rotate_left 1
  · (intro u hSw; clear hSw; go_simp; try (with_reducible rfl))
  try simp only [Act.put, List.getElem_toArray, List.getElem_cons_zero, List.getElem_cons_succ, List.setIfInBounds_toArray, List.set_cons_zero, List.set_cons_succ]
  refine wpAnyH_ready (rs := [4, 7]) (by kernel_rfl) (by simp) ?_
  refine AllReadyH.cons (i := 4) (o := ?o4) ?ho4 (fun K hK => ?st4) ?mo4
  case ho4 => rfl
  case st4 =>
    have HS := Lib.hid hHeld
    clear hHeld
    go_simp
    refine hK.out _ (w0.alloc (.cells #[.int .u8 0, .int .u8 0, .int .u8 0, .int .u8 0] 5)).drew (HS.out.alloc _) (fun hHeld => ?_)
    have hHeld : HL [(w0.heap.size, .cells #[.int .u8 0, .int .u8 0, .int .u8 0, .int .u8 0] 5), (B, .cells #[.bool v2, .int .u64 h2, .int .u64 l2] 24), (A, .cells #[.bool false, .int .u64 h1, .int .u64 l1] 24)] R 9 w (w0.alloc (.cells #[.int .u8 0, .int .u8 0, .int .u8 0, .int .u8 0] 5)).drew := HS.out.made _
    refine wpAnyH_strong (S2 := fun u => HL [(w0.heap.size, .cells #[.int .u8 0, .int .u8 0, .int .u8 0, .int .u8 0] 5), (B, .cells #[.bool v2, .int .u64 h2, .int .u64 l2] 24), (A, .cells #[.bool false, .int .u64 h1, .int .u64 l1] 24)] R 9 w u) (fun u hu => hu.tail) _ _ _ _ ?_
    clear hK K HS
    obtain ⟨g4, hgg⟩ : ∃ g, g = w0.heap.size := ⟨_, rfl⟩
    rw [← hgg] at hHeld ⊢
    obtain ⟨v4, hwn⟩ : ∃ x, x = (w0.alloc (.cells #[.int .u8 0, .int .u8 0, .int .u8 0, .int .u8 0] 5)).drew := ⟨_, rfl⟩
    rw [← hwn] at hHeld ⊢
    clear hgg hwn
    try simp only [Act.put, List.getElem_toArray, List.getElem_cons_zero, List.getElem_cons_succ, List.setIfInBounds_toArray, List.set_cons_zero, List.set_cons_succ]
    refine wpAnyH_take (i := 5) (v := ?_) rfl (by kernel_rfl) (by kernel_rfl) (by kernel_rfl) (fun _ _ _ h => h) (Or.inl ⟨by rfl, ?_⟩) (by assumption) ?_
    rotate_left 1
    · (intro u hSw; have hcv := echo_conv_ft (hSw.head); rw [← HX.out.1] at hcv; clear hSw; go_simp; try (with_reducible rfl))
    try simp only [Act.put, List.getElem_toArray, List.getElem_cons_zero, List.getElem_cons_succ, List.setIfInBounds_toArray, List.set_cons_zero, List.set_cons_succ]
    refine wpAnyH_ready (rs := [7]) (by kernel_rfl) (by simp) ?_
    refine AllReadyH.cons rfl (fun K hK => ?_) AllReadyH.nil
    have HS := Lib.hid hHeld
    clear hHeld
    go_simp
    refine (put16 id _ HX.out.2.2.2).mono ?_
    rintro e w1 ⟨rfl, B1⟩
    rw [← HX.out.2.1]
    simp only []
    refine hK.out _ _ (HS.out.call B1) (fun hHeld => ?_)
    clear hK K HS B1
    try simp only [Act.put, List.getElem_toArray, List.getElem_cons_zero, List.getElem_cons_succ, List.setIfInBounds_toArray, List.set_cons_zero, List.set_cons_succ]
    refine wpAnyH_take (i := 8) (v := ?_) rfl (by kernel_rfl) (by kernel_rfl) (by kernel_rfl) (fun _ _ _ h => h) (Or.inl ⟨by rfl, ?_⟩) (by assumption) ?_
    rotate_left 1
    · (intro u hSw; clear hSw; go_simp; try (with_reducible rfl))
    try simp only [Act.put, List.getElem_toArray, List.getElem_cons_zero, List.getElem_cons_succ, List.setIfInBounds_toArray, List.set_cons_zero, List.set_cons_succ]
    refine wpAnyH_ready (rs := [9]) (by kernel_rfl) (by simp) ?_
    refine AllReadyH.cons rfl (fun K hK => ?_) AllReadyH.nil
    have HS := Lib.hid hHeld
    clear hHeld
    go_simp
    refine (put16 0 _ (by decide)).mono ?_
    rintro e w1 ⟨rfl, B1⟩
    rw [← HX.out.2.2.1]
    simp only []
    refine hK.out _ _ (HS.out.call B1) (fun hHeld => ?_)
    clear hK K HS B1
    try simp only [Act.put, List.getElem_toArray, List.getElem_cons_zero, List.getElem_cons_succ, List.setIfInBounds_toArray, List.set_cons_zero, List.set_cons_succ]
    refine wpAnyH_take (i := 10) (v := ?_) rfl (by kernel_rfl) (by kernel_rfl) (by kernel_rfl) (fun _ _ _ h => h) (Or.inl ⟨by rfl, ?_⟩) (by assumption) ?_
    rotate_left 1
    · (intro u hSw; clear hSw; go_simp; try (with_reducible rfl))
    try simp only [Act.put, List.getElem_toArray, List.getElem_cons_zero, List.getElem_cons_succ, List.setIfInBounds_toArray, List.set_cons_zero, List.set_cons_succ]
    refine wpAnyH_take (i := 12) (v := ?_) rfl (by kernel_rfl) (by kernel_rfl) (by kernel_rfl) (fun _ _ _ h => h) (Or.inl ⟨by rfl, ?_⟩) (by assumption) ?_
    rotate_left 1
    · (intro u hSw; clear hSw; go_simp; try (with_reducible rfl))
    try simp only [Act.put, List.getElem_toArray, List.getElem_cons_zero, List.getElem_cons_succ, List.setIfInBounds_toArray, List.set_cons_zero, List.set_cons_succ]
    refine wpAnyH_ready (rs := [13]) (by kernel_rfl) (by simp) ?_
    refine AllReadyH.cons rfl (fun K hK => ?_) AllReadyH.nil
    have HS := Lib.hid hHeld
    clear hHeld
    go_simp
    refine (HC.out _).mono ?_
    rintro e w1 ⟨rfl, B1⟩
    simp only []
    refine hK.out _ _ (HS.out.call B1) (fun hHeld => ?_)
    clear hK K HS B1
    try simp only [Act.put, List.getElem_toArray, List.getElem_cons_zero, List.getElem_cons_succ, List.setIfInBounds_toArray, List.set_cons_zero, List.set_cons_succ]
    refine wpAnyH_take (i := 14) (v := ?_) rfl (by kernel_rfl) (by kernel_rfl) (by kernel_rfl) (fun _ _ _ h => h) (Or.inl ⟨by rfl, ?_⟩) (by assumption) ?_
    rotate_left 1
    · (intro u hSw; clear hSw; go_simp; try (with_reducible rfl))
    try simp only [Act.put, List.getElem_toArray, List.getElem_cons_zero, List.getElem_cons_succ, List.setIfInBounds_toArray, List.set_cons_zero, List.set_cons_succ]
    refine wpAnyH_take (i := 15) (v := ?_) rfl (by kernel_rfl) (by kernel_rfl) (by kernel_rfl) (fun _ _ _ h => h) (Or.inl ⟨by rfl, ?_⟩) (by assumption) ?_
    rotate_left 1
    · (intro u hSw; clear hSw; go_simp; try (with_reducible rfl))
    try simp only [Act.put, List.getElem_toArray, List.getElem_cons_zero, List.getElem_cons_succ, List.setIfInBounds_toArray, List.set_cons_zero, List.set_cons_succ]
    refine wpAnyH_ready (rs := [16]) (by kernel_rfl) (by simp) ?_
    refine AllReadyH.cons rfl (fun K hK => ?_) AllReadyH.nil
    have HS := Lib.hid hHeld
    clear hHeld
    rw [if_pos (by kernel_rfl)]
    have GN := Lib.hid HS.out.ne
    obtain ⟨cs, hcs, hR⟩ := HS.out.2.1
    refine wp_store_row 30 _ _ rfl R M.cells rfl rfl 30 cs hR info30 hcs (pkOne M) ?_
    have HR := Lib.hid (HS.out.row (cs := M.cells))
    refine hK.out _ _ (HS.out.store (by simp only [List.mem_cons, List.not_mem_nil, or_false]; rintro x (rfl | rfl | rfl); exact GN.out; exact HN.out.2.1; exact HN.out.1) HN.out.2.2 rfl) (fun hHeld => ?_)
    clear hcs hR
    clear hK K HS
    try simp only [Act.put, List.getElem_toArray, List.getElem_cons_zero, List.getElem_cons_succ, List.setIfInBounds_toArray, List.set_cons_zero, List.set_cons_succ]
    refine wpAnyH_take (i := 17) (v := ?_) rfl (by kernel_rfl) (by kernel_rfl) (by kernel_rfl) (fun _ _ _ h => h) (Or.inl ⟨by rfl, ?_⟩) (by assumption) ?_
    rotate_left 1
    · (intro u hSw; clear hSw; go_simp; try (with_reducible rfl))
    try simp only [Act.put, List.getElem_toArray, List.getElem_cons_zero, List.getElem_cons_succ, List.setIfInBounds_toArray, List.set_cons_zero, List.set_cons_succ]
    have HE := Lib.hid hHeld
    clear hHeld
    refine wpAnyH_done (by kernel_rfl) ?_ _
    try simp only [Act.put, List.getElem_toArray, List.getElem_cons_zero, List.getElem_cons_succ, List.setIfInBounds_toArray, List.set_cons_zero, List.set_cons_succ]
    obtain ⟨w5, hw5⟩ : ∃ x, x = World.setRow w1 R M.cells := ⟨_, rfl⟩
    rw [← hw5] at HR HE ⊢
    have D5 : w5.heap[R]? = some (.cells #[.bool M.src.v6, .int .u64 M.src.hi, .int .u64 M.src.lo, .bool M.dst.v6, .int .u64 M.dst.hi, .int .u64 M.dst.lo, .int .u8 M.proto, .int .u8 M.ttl, .string M.data] 30) := HR.out
    obtain ⟨k0, k1, k2, k3, k4, k5, k6, k7, k8⟩ := pkCells D5
    clear D5 HR hw5
    go_wp2_with fail
    refine bodyPost_ret (v := .tuple #[.agg #[.bool M.src.v6, .int .u64 M.src.hi, .int .u64 M.src.lo, .bool M.dst.v6, .int .u64 M.dst.hi, .int .u64 M.dst.lo, .int .u8 M.proto, .int .u8 M.ttl, .string M.data], .int .i64 E]) (by simp [results, Try.results12, go_sem, k0, k1, k2, k3, k4, k5, k6, k7, k8]) rfl ⟨rfl, HE.out.2.2⟩
  case mo4 =>
    refine AllReadyH.cons rfl (fun K hK => ?_) AllReadyH.nil
    have HS := Lib.hid hHeld
    clear hHeld
    go_simp
    refine (put16 id _ HX.out.2.2.2).mono ?_
    rintro e w1 ⟨rfl, B1⟩
    rw [← HX.out.2.1]
    simp only []
    refine hK.out _ _ (HS.out.call B1) (fun hHeld => ?_)
    clear hK K HS B1
    try simp only [Act.put, List.getElem_toArray, List.getElem_cons_zero, List.getElem_cons_succ, List.setIfInBounds_toArray, List.set_cons_zero, List.set_cons_succ]
    refine wpAnyH_ready (rs := [4, 9]) (by kernel_rfl) (by simp) ?_
    refine AllReadyH.cons (i := 4) (o := ?o5) ?ho5 (fun K hK => ?st5) ?mo5
    case ho5 => rfl
    case st5 =>
      have HS := Lib.hid hHeld
      clear hHeld
      go_simp
      refine hK.out _ (w1.alloc (.cells #[.int .u8 0, .int .u8 0, .int .u8 0, .int .u8 0] 5)) (HS.out.alloc _) (fun hHeld => ?_)
      have hHeld : HL [(w1.heap.size, .cells #[.int .u8 0, .int .u8 0, .int .u8 0, .int .u8 0] 5), (B, .cells #[.bool v2, .int .u64 h2, .int .u64 l2] 24), (A, .cells #[.bool false, .int .u64 h1, .int .u64 l1] 24)] R 9 w (w1.alloc (.cells #[.int .u8 0, .int .u8 0, .int .u8 0, .int .u8 0] 5)) := HS.out.made _
      refine wpAnyH_strong (S2 := fun u => HL [(w1.heap.size, .cells #[.int .u8 0, .int .u8 0, .int .u8 0, .int .u8 0] 5), (B, .cells #[.bool v2, .int .u64 h2, .int .u64 l2] 24), (A, .cells #[.bool false, .int .u64 h1, .int .u64 l1] 24)] R 9 w u) (fun u hu => hu.tail) _ _ _ _ ?_
      clear hK K HS
      obtain ⟨g4, hgg⟩ : ∃ g, g = w1.heap.size := ⟨_, rfl⟩
      rw [← hgg] at hHeld ⊢
      obtain ⟨v4, hwn⟩ : ∃ x, x = (w1.alloc (.cells #[.int .u8 0, .int .u8 0, .int .u8 0, .int .u8 0] 5)) := ⟨_, rfl⟩
      rw [← hwn] at hHeld ⊢
      clear hgg hwn
      try simp only [Act.put, List.getElem_toArray, List.getElem_cons_zero, List.getElem_cons_succ, List.setIfInBounds_toArray, List.set_cons_zero, List.set_cons_succ]
      refine wpAnyH_take (i := 5) (v := ?_) rfl (by kernel_rfl) (by kernel_rfl) (by kernel_rfl) (fun _ _ _ h => h) (Or.inl ⟨by rfl, ?_⟩) (by assumption) ?_
      rotate_left 1
      · (intro u hSw; have hcv := echo_conv_ft (hSw.head); rw [← HX.out.1] at hcv; clear hSw; go_simp; try (with_reducible rfl))
      try simp only [Act.put, List.getElem_toArray, List.getElem_cons_zero, List.getElem_cons_succ, List.setIfInBounds_toArray, List.set_cons_zero, List.set_cons_succ]
      refine wpAnyH_take (i := 8) (v := ?_) rfl (by kernel_rfl) (by kernel_rfl) (by kernel_rfl) (fun _ _ _ h => h) (Or.inl ⟨by rfl, ?_⟩) (by assumption) ?_
      rotate_left 1
      · (intro u hSw; clear hSw; go_simp; try (with_reducible rfl))
      try simp only [Act.put, List.getElem_toArray, List.getElem_cons_zero, List.getElem_cons_succ, List.setIfInBounds_toArray, List.set_cons_zero, List.set_cons_succ]
      refine wpAnyH_ready (rs := [9]) (by kernel_rfl) (by simp) ?_
      refine AllReadyH.cons rfl (fun K hK => ?_) AllReadyH.nil
      have HS := Lib.hid hHeld
      clear hHeld
      go_simp
      refine (put16 0 _ (by decide)).mono ?_
      rintro e w1 ⟨rfl, B1⟩
      rw [← HX.out.2.2.1]
      simp only []
      refine hK.out _ _ (HS.out.call B1) (fun hHeld => ?_)
      clear hK K HS B1
      try simp only [Act.put, List.getElem_toArray, List.getElem_cons_zero, List.getElem_cons_succ, List.setIfInBounds_toArray, List.set_cons_zero, List.set_cons_succ]
      refine wpAnyH_take (i := 10) (v := ?_) rfl (by kernel_rfl) (by kernel_rfl) (by kernel_rfl) (fun _ _ _ h => h) (Or.inl ⟨by rfl, ?_⟩) (by assumption) ?_
      rotate_left 1
      · (intro u hSw; clear hSw; go_simp; try (with_reducible rfl))
      try simp only [Act.put, List.getElem_toArray, List.getElem_cons_zero, List.getElem_cons_succ, List.setIfInBounds_toArray, List.set_cons_zero, List.set_cons_succ]
      refine wpAnyH_take (i := 12) (v := ?_) rfl (by kernel_rfl) (by kernel_rfl) (by kernel_rfl) (fun _ _ _ h => h) (Or.inl ⟨by rfl, ?_⟩) (by assumption) ?_
      rotate_left 1
      · (intro u hSw; clear hSw; go_simp; try (with_reducible rfl))
      try simp only [Act.put, List.getElem_toArray, List.getElem_cons_zero, List.getElem_cons_succ, List.setIfInBounds_toArray, List.set_cons_zero, List.set_cons_succ]
      refine wpAnyH_ready (rs := [13]) (by kernel_rfl) (by simp) ?_
      refine AllReadyH.cons rfl (fun K hK => ?_) AllReadyH.nil
      have HS := Lib.hid hHeld
      clear hHeld
      go_simp
      refine (HC.out _).mono ?_
      rintro e w1 ⟨rfl, B1⟩
      simp only []
      refine hK.out _ _ (HS.out.call B1) (fun hHeld => ?_)
      clear hK K HS B1
      try simp only [Act.put, List.getElem_toArray, List.getElem_cons_zero, List.getElem_cons_succ, List.setIfInBounds_toArray, List.set_cons_zero, List.set_cons_succ]
      refine wpAnyH_take (i := 14) (v := ?_) rfl (by kernel_rfl) (by kernel_rfl) (by kernel_rfl) (fun _ _ _ h => h) (Or.inl ⟨by rfl, ?_⟩) (by assumption) ?_
      rotate_left 1
      · (intro u hSw; clear hSw; go_simp; try (with_reducible rfl))
      try simp only [Act.put, List.getElem_toArray, List.getElem_cons_zero, List.getElem_cons_succ, List.setIfInBounds_toArray, List.set_cons_zero, List.set_cons_succ]
      refine wpAnyH_take (i := 15) (v := ?_) rfl (by kernel_rfl) (by kernel_rfl) (by kernel_rfl) (fun _ _ _ h => h) (Or.inl ⟨by rfl, ?_⟩) (by assumption) ?_
      rotate_left 1
      · (intro u hSw; clear hSw; go_simp; try (with_reducible rfl))
      try simp only [Act.put, List.getElem_toArray, List.getElem_cons_zero, List.getElem_cons_succ, List.setIfInBounds_toArray, List.set_cons_zero, List.set_cons_succ]
      refine wpAnyH_ready (rs := [16]) (by kernel_rfl) (by simp) ?_
      refine AllReadyH.cons rfl (fun K hK => ?_) AllReadyH.nil
      have HS := Lib.hid hHeld
      clear hHeld
      rw [if_pos (by kernel_rfl)]
      have GN := Lib.hid HS.out.ne
      obtain ⟨cs, hcs, hR⟩ := HS.out.2.1
      refine wp_store_row 30 _ _ rfl R M.cells rfl rfl 30 cs hR info30 hcs (pkOne M) ?_
      have HR := Lib.hid (HS.out.row (cs := M.cells))
      refine hK.out _ _ (HS.out.store (by simp only [List.mem_cons, List.not_mem_nil, or_false]; rintro x (rfl | rfl | rfl); exact GN.out; exact HN.out.2.1; exact HN.out.1) HN.out.2.2 rfl) (fun hHeld => ?_)
      clear hcs hR
      clear hK K HS
      try simp only [Act.put, List.getElem_toArray, List.getElem_cons_zero, List.getElem_cons_succ, List.setIfInBounds_toArray, List.set_cons_zero, List.set_cons_succ]
      refine wpAnyH_take (i := 17) (v := ?_) rfl (by kernel_rfl) (by kernel_rfl) (by kernel_rfl) (fun _ _ _ h => h) (Or.inl ⟨by rfl, ?_⟩) (by assumption) ?_
      rotate_left 1
      · (intro u hSw; clear hSw; go_simp; try (with_reducible rfl))
      try simp only [Act.put, List.getElem_toArray, List.getElem_cons_zero, List.getElem_cons_succ, List.setIfInBounds_toArray, List.set_cons_zero, List.set_cons_succ]
      have HE := Lib.hid hHeld
      clear hHeld
      refine wpAnyH_done (by kernel_rfl) ?_ _
      try simp only [Act.put, List.getElem_toArray, List.getElem_cons_zero, List.getElem_cons_succ, List.setIfInBounds_toArray, List.set_cons_zero, List.set_cons_succ]
      obtain ⟨w5, hw5⟩ : ∃ x, x = World.setRow w1 R M.cells := ⟨_, rfl⟩
      rw [← hw5] at HR HE ⊢
      have D5 : w5.heap[R]? = some (.cells #[.bool M.src.v6, .int .u64 M.src.hi, .int .u64 M.src.lo, .bool M.dst.v6, .int .u64 M.dst.hi, .int .u64 M.dst.lo, .int .u8 M.proto, .int .u8 M.ttl, .string M.data] 30) := HR.out
      obtain ⟨k0, k1, k2, k3, k4, k5, k6, k7, k8⟩ := pkCells D5
      clear D5 HR hw5
      go_wp2_with fail
      refine bodyPost_ret (v := .tuple #[.agg #[.bool M.src.v6, .int .u64 M.src.hi, .int .u64 M.src.lo, .bool M.dst.v6, .int .u64 M.dst.hi, .int .u64 M.dst.lo, .int .u8 M.proto, .int .u8 M.ttl, .string M.data], .int .i64 E]) (by simp [results, Try.results12, go_sem, k0, k1, k2, k3, k4, k5, k6, k7, k8]) rfl ⟨rfl, HE.out.2.2⟩
    case mo5 =>
      refine AllReadyH.cons rfl (fun K hK => ?_) AllReadyH.nil
      have HS := Lib.hid hHeld
      clear hHeld
      go_simp
      refine (put16 0 _ (by decide)).mono ?_
      rintro e w1 ⟨rfl, B1⟩
      rw [← HX.out.2.2.1]
      simp only []
      refine hK.out _ _ (HS.out.call B1) (fun hHeld => ?_)
      clear hK K HS B1
      try simp only [Act.put, List.getElem_toArray, List.getElem_cons_zero, List.getElem_cons_succ, List.setIfInBounds_toArray, List.set_cons_zero, List.set_cons_succ]
      refine wpAnyH_ready (rs := [4]) (by kernel_rfl) (by simp) ?_
      refine AllReadyH.cons rfl (fun K hK => ?_) AllReadyH.nil
      have HS := Lib.hid hHeld
      clear hHeld
      go_simp
      refine hK.out _ (w1.alloc (.cells #[.int .u8 0, .int .u8 0, .int .u8 0, .int .u8 0] 5)) (HS.out.alloc _) (fun hHeld => ?_)
      have hHeld : HL [(w1.heap.size, .cells #[.int .u8 0, .int .u8 0, .int .u8 0, .int .u8 0] 5), (B, .cells #[.bool v2, .int .u64 h2, .int .u64 l2] 24), (A, .cells #[.bool false, .int .u64 h1, .int .u64 l1] 24)] R 9 w (w1.alloc (.cells #[.int .u8 0, .int .u8 0, .int .u8 0, .int .u8 0] 5)) := HS.out.made _
      refine wpAnyH_strong (S2 := fun u => HL [(w1.heap.size, .cells #[.int .u8 0, .int .u8 0, .int .u8 0, .int .u8 0] 5), (B, .cells #[.bool v2, .int .u64 h2, .int .u64 l2] 24), (A, .cells #[.bool false, .int .u64 h1, .int .u64 l1] 24)] R 9 w u) (fun u hu => hu.tail) _ _ _ _ ?_
      clear hK K HS
      obtain ⟨g4, hgg⟩ : ∃ g, g = w1.heap.size := ⟨_, rfl⟩
      rw [← hgg] at hHeld ⊢
      obtain ⟨v4, hwn⟩ : ∃ x, x = (w1.alloc (.cells #[.int .u8 0, .int .u8 0, .int .u8 0, .int .u8 0] 5)) := ⟨_, rfl⟩
      rw [← hwn] at hHeld ⊢
      clear hgg hwn
      try simp only [Act.put, List.getElem_toArray, List.getElem_cons_zero, List.getElem_cons_succ, List.setIfInBounds_toArray, List.set_cons_zero, List.set_cons_succ]
      refine wpAnyH_take (i := 5) (v := ?_) rfl (by kernel_rfl) (by kernel_rfl) (by kernel_rfl) (fun _ _ _ h => h) (Or.inl ⟨by rfl, ?_⟩) (by assumption) ?_
      rotate_left 1
      · (intro u hSw; have hcv := echo_conv_ft (hSw.head); rw [← HX.out.1] at hcv; clear hSw; go_simp; try (with_reducible rfl))
      try simp only [Act.put, List.getElem_toArray, List.getElem_cons_zero, List.getElem_cons_succ, List.setIfInBounds_toArray, List.set_cons_zero, List.set_cons_succ]
      refine wpAnyH_take (i := 8) (v := ?_) rfl (by kernel_rfl) (by kernel_rfl) (by kernel_rfl) (fun _ _ _ h => h) (Or.inl ⟨by rfl, ?_⟩) (by assumption) ?_
      rotate_left 1
      · (intro u hSw; clear hSw; go_simp; try (with_reducible rfl))
      try simp only [Act.put, List.getElem_toArray, List.getElem_cons_zero, List.getElem_cons_succ, List.setIfInBounds_toArray, List.set_cons_zero, List.set_cons_succ]
      refine wpAnyH_take (i := 10) (v := ?_) rfl (by kernel_rfl) (by kernel_rfl) (by kernel_rfl) (fun _ _ _ h => h) (Or.inl ⟨by rfl, ?_⟩) (by assumption) ?_
      rotate_left 1
      · (intro u hSw; clear hSw; go_simp; try (with_reducible rfl))
      try simp only [Act.put, List.getElem_toArray, List.getElem_cons_zero, List.getElem_cons_succ, List.setIfInBounds_toArray, List.set_cons_zero, List.set_cons_succ]
      refine wpAnyH_take (i := 12) (v := ?_) rfl (by kernel_rfl) (by kernel_rfl) (by kernel_rfl) (fun _ _ _ h => h) (Or.inl ⟨by rfl, ?_⟩) (by assumption) ?_
      rotate_left 1
      · (intro u hSw; clear hSw; go_simp; try (with_reducible rfl))
      try simp only [Act.put, List.getElem_toArray, List.getElem_cons_zero, List.getElem_cons_succ, List.setIfInBounds_toArray, List.set_cons_zero, List.set_cons_succ]
      refine wpAnyH_ready (rs := [13]) (by kernel_rfl) (by simp) ?_
      refine AllReadyH.cons rfl (fun K hK => ?_) AllReadyH.nil
      have HS := Lib.hid hHeld
      clear hHeld
      go_simp
      refine (HC.out _).mono ?_
      rintro e w1 ⟨rfl, B1⟩
      simp only []
      refine hK.out _ _ (HS.out.call B1) (fun hHeld => ?_)
      clear hK K HS B1
      try simp only [Act.put, List.getElem_toArray, List.getElem_cons_zero, List.getElem_cons_succ, List.setIfInBounds_toArray, List.set_cons_zero, List.set_cons_succ]
      refine wpAnyH_take (i := 14) (v := ?_) rfl (by kernel_rfl) (by kernel_rfl) (by kernel_rfl) (fun _ _ _ h => h) (Or.inl ⟨by rfl, ?_⟩) (by assumption) ?_
      rotate_left 1
      · (intro u hSw; clear hSw; go_simp; try (with_reducible rfl))
      try simp only [Act.put, List.getElem_toArray, List.getElem_cons_zero, List.getElem_cons_succ, List.setIfInBounds_toArray, List.set_cons_zero, List.set_cons_succ]
      refine wpAnyH_take (i := 15) (v := ?_) rfl (by kernel_rfl) (by kernel_rfl) (by kernel_rfl) (fun _ _ _ h => h) (Or.inl ⟨by rfl, ?_⟩) (by assumption) ?_
      rotate_left 1
      · (intro u hSw; clear hSw; go_simp; try (with_reducible rfl))
      try simp only [Act.put, List.getElem_toArray, List.getElem_cons_zero, List.getElem_cons_succ, List.setIfInBounds_toArray, List.set_cons_zero, List.set_cons_succ]
      refine wpAnyH_ready (rs := [16]) (by kernel_rfl) (by simp) ?_
      refine AllReadyH.cons rfl (fun K hK => ?_) AllReadyH.nil
      have HS := Lib.hid hHeld
      clear hHeld
      rw [if_pos (by kernel_rfl)]
      have GN := Lib.hid HS.out.ne
      obtain ⟨cs, hcs, hR⟩ := HS.out.2.1
      refine wp_store_row 30 _ _ rfl R M.cells rfl rfl 30 cs hR info30 hcs (pkOne M) ?_
      have HR := Lib.hid (HS.out.row (cs := M.cells))
      refine hK.out _ _ (HS.out.store (by simp only [List.mem_cons, List.not_mem_nil, or_false]; rintro x (rfl | rfl | rfl); exact GN.out; exact HN.out.2.1; exact HN.out.1) HN.out.2.2 rfl) (fun hHeld => ?_)
      clear hcs hR
      clear hK K HS
      try simp only [Act.put, List.getElem_toArray, List.getElem_cons_zero, List.getElem_cons_succ, List.setIfInBounds_toArray, List.set_cons_zero, List.set_cons_succ]
      refine wpAnyH_take (i := 17) (v := ?_) rfl (by kernel_rfl) (by kernel_rfl) (by kernel_rfl) (fun _ _ _ h => h) (Or.inl ⟨by rfl, ?_⟩) (by assumption) ?_
      rotate_left 1
      · (intro u hSw; clear hSw; go_simp; try (with_reducible rfl))
      try simp only [Act.put, List.getElem_toArray, List.getElem_cons_zero, List.getElem_cons_succ, List.setIfInBounds_toArray, List.set_cons_zero, List.set_cons_succ]
      have HE := Lib.hid hHeld
      clear hHeld
      refine wpAnyH_done (by kernel_rfl) ?_ _
      try simp only [Act.put, List.getElem_toArray, List.getElem_cons_zero, List.getElem_cons_succ, List.setIfInBounds_toArray, List.set_cons_zero, List.set_cons_succ]
      obtain ⟨w5, hw5⟩ : ∃ x, x = World.setRow w1 R M.cells := ⟨_, rfl⟩
      rw [← hw5] at HR HE ⊢
      have D5 : w5.heap[R]? = some (.cells #[.bool M.src.v6, .int .u64 M.src.hi, .int .u64 M.src.lo, .bool M.dst.v6, .int .u64 M.dst.hi, .int .u64 M.dst.lo, .int .u8 M.proto, .int .u8 M.ttl, .string M.data] 30) := HR.out
      obtain ⟨k0, k1, k2, k3, k4, k5, k6, k7, k8⟩ := pkCells D5
      clear D5 HR hw5
      go_wp2_with fail
      refine bodyPost_ret (v := .tuple #[.agg #[.bool M.src.v6, .int .u64 M.src.hi, .int .u64 M.src.lo, .bool M.dst.v6, .int .u64 M.dst.hi, .int .u64 M.dst.lo, .int .u8 M.proto, .int .u8 M.ttl, .string M.data], .int .i64 E]) (by simp [results, Try.results12, go_sem, k0, k1, k2, k3, k4, k5, k6, k7, k8]) rfl ⟨rfl, HE.out.2.2⟩
theorem echo_conv_tf {u : World} {g : Nat} (h : u.heap[g]? = some (.cells #[.int .u8 128, .int .u8 0, .int .u8 0, .int .u8 0] 5)) : (convert 37 9 (.slice (some ⟨g, 0, none⟩) 4 4)).run Try.prog u = .ok (.string (echoT 128)) u := by
  refine bytes_conv [128, 0, 0, 0] rfl ?_
  rw [h]
  simp
set_option maxHeartbeats 16000000 in
set_option maxRecDepth 100000 in
theorem echoMake_tf (h1 l1 : Nat) (b : Ad) (id : Nat) (d : ByteArray) (w : World) (ha : (⟨true, h1, l1⟩ : Ad).Ok) (hb : b.Ok) (hf : id < 65536) (hd : d.size ≤ 9000) :
    Calls Try.prog 12 #[.agg #[.bool true, .int .u64 h1, .int .u64 l1], .agg #[.bool b.v6, .int .u64 b.hi, .int .u64 b.lo], .int .u16 id, .bool false, .string d] w fun e w' =>
      e = .returned (.tuple #[(madeP ⟨⟨true, h1, l1⟩, b, 58, 64, echoD 128 id d⟩ 2).val, .int .i64 (mayE ⟨⟨true, h1, l1⟩, b, 58, 64, echoD 128 id d⟩)]) ∧ Below w.heap.size w w' := by
  obtain ⟨v2, h2, l2⟩ := b
  obtain ⟨D, hD⟩ : ∃ D, D = echoD 128 id d := ⟨_, rfl⟩
  have hDs : D.size = 8 + d.size := by rw [hD]; exact echoD_size _ _ _
  rw [← hD]
  have C3 : ∀ u, Calls Try.prog 21 #[.agg #[.bool true, .int .u64 h1, .int .u64 l1], .agg #[.bool v2, .int .u64 h2, .int .u64 l2], .int .u8 58, .int .i64 2, .string D] u fun e w' => (e = .returned (.tuple #[(madeP ⟨⟨true, h1, l1⟩, ⟨v2, h2, l2⟩, 58, 64, D⟩ 2).val, .int .i64 (mayE ⟨⟨true, h1, l1⟩, ⟨v2, h2, l2⟩, 58, 64, D⟩)]) ∧ Below u.heap.size u w') := fun u => made_any ⟨true, h1, l1⟩ ⟨v2, h2, l2⟩ 58 2 D u ha hb (by decide) (by omega) (by omega)
  have HC := Lib.hid C3
  obtain ⟨M, hM⟩ : ∃ M : Pk, M = madeP ⟨⟨true, h1, l1⟩, ⟨v2, h2, l2⟩, 58, 64, D⟩ 2 := ⟨_, rfl⟩
  obtain ⟨E, hE⟩ : ∃ M, M = mayE ⟨⟨true, h1, l1⟩, ⟨v2, h2, l2⟩, 58, 64, D⟩ := ⟨_, rfl⟩
  rw [← hM, ← hE] at HC
  rw [← hM, ← hE]
  clear C3 hM hE ha hb
  obtain ⟨X1, hX1⟩ : ∃ X : ByteArray, X = echoT 128 := ⟨_, rfl⟩
  obtain ⟨X2, hX2⟩ : ∃ X, X = beS id 2 := ⟨_, rfl⟩
  have z1 : X1.size = 4 := by rw [hX1]; rfl
  have z2 : X2.size = 2 := by rw [hX2]; exact beS_size _ _
  obtain ⟨X3, hX3⟩ : ∃ X, X = beS 0 2 := ⟨_, rfl⟩
  have z3 : X3.size = 2 := by rw [hX3]; exact beS_size _ _
  have a1 := addS X1 X2 (by omega)
  have a2 := addS (X1 ++ X2) X3 (by rw [ByteArray.size_append]; omega)
  have a3 := addS (X1 ++ X2 ++ X3) d (by simp only [ByteArray.size_append]; omega)
  have hDX : X1 ++ X2 ++ X3 ++ d = D := by rw [hD, hX1, hX2, hX3]; rfl
  rw [hDX] at a3
  have HX := Lib.hid (And.intro hX1 (And.intro hX2 (And.intro hX3 hf)))
  have hz : (d.size : Int) ≤ 9000 := by omega
  clear hX1 hX2 hX3 z1 z2 z3 hDX hD hDs hd hf
  have HW0 : HL [(w.heap.size + 1, .cells #[.bool v2, .int .u64 h2, .int .u64 l2] 24), (w.heap.size, .cells #[.bool true, .int .u64 h1, .int .u64 l1] 24)] (w.heap.size + 1 + 1) 9 w ((((w.alloc (.cells #[.bool true, .int .u64 h1, .int .u64 l1] 24)).alloc (.cells #[.bool v2, .int .u64 h2, .int .u64 l2] 24)).alloc (.cells #[.bool false, .int .u64 0, .int .u64 0, .bool false, .int .u64 0, .int .u64 0, .int .u8 0, .int .u8 0, .string ⟨#[]⟩] 30)).alloc (.cells #[.int .u8 128, .int .u8 129] 54)) := (HL.two rfl rfl rfl).alloc _
  have HW := Lib.hid HW0
  clear HW0
  go_enter Try.func12, Try.ntmps12
  go_wp2_with fail
  obtain ⟨w0, hw0⟩ : ∃ x, x = (((w.alloc (.cells #[.bool true, .int .u64 h1, .int .u64 l1] 24)).alloc (.cells #[.bool v2, .int .u64 h2, .int .u64 l2] 24)).alloc (.cells #[.bool false, .int .u64 0, .int .u64 0, .bool false, .int .u64 0, .int .u64 0, .int .u8 0, .int .u8 0, .string ⟨#[]⟩] 30)).alloc (.cells #[.int .u8 128, .int .u8 129] 54) := ⟨_, rfl⟩
  obtain ⟨R, hR⟩ : ∃ x, x = w.heap.size + 1 + 1 := ⟨_, rfl⟩
  obtain ⟨B, hB⟩ : ∃ x, x = w.heap.size + 1 := ⟨_, rfl⟩
  obtain ⟨A, hA⟩ : ∃ x, x = w.heap.size := ⟨_, rfl⟩
  have HN := Lib.hid (show A ≠ R ∧ B ≠ R ∧ w.heap.size ≤ R by omega)
  have HW : Hid (HL [(B, .cells #[.bool v2, .int .u64 h2, .int .u64 l2] 24), (A, .cells #[.bool true, .int .u64 h1, .int .u64 l1] 24)] R 9 w w0) := by rw [hw0, hR, hB, hA]; exact Lib.hid HW.out
  rw [← hw0, ← hR, ← hB]
  rw [← hA]
  clear hw0 hR hB hA
  refine wp_region_held_drew (S := fun u => HL [(B, .cells #[.bool v2, .int .u64 h2, .int .u64 l2] 24), (A, .cells #[.bool true, .int .u64 h1, .int .u64 l1] 24)] R 9 w u) (by kernel_rfl) HW.out.drew (fun hHeld => ?_)
  refine wpAnyH_take (i := 0) (v := ?_) rfl (by kernel_rfl) (by kernel_rfl) (by kernel_rfl) (fun _ _ _ h => h) (Or.inl ⟨by rfl, ?_⟩) (by assumption) ?_
  rotate_left 1
  · (intro u hSw; have hSv := hSw; clear hSw; obtain ⟨c0, c1, c2⟩ := adCells hSv.tail.head; clear hSv; go_simp; try (with_reducible rfl))
  try simp only [Act.put, List.getElem_toArray, List.getElem_cons_zero, List.getElem_cons_succ, List.setIfInBounds_toArray, List.set_cons_zero, List.set_cons_succ]
  refine wpAnyH_take (i := 1) (v := ?_) rfl (by kernel_rfl) (by kernel_rfl) (by kernel_rfl) (fun _ _ _ h => h) (Or.inl ⟨by rfl, ?_⟩) (by assumption) ?_
  rotate_left 1
  · (intro u hSw; have hSv := hSw; clear hSw; obtain ⟨c0, c1, c2⟩ := adCells hSv.head; clear hSv; go_simp; try (with_reducible rfl))
  try simp only [Act.put, List.getElem_toArray, List.getElem_cons_zero, List.getElem_cons_succ, List.setIfInBounds_toArray, List.set_cons_zero, List.set_cons_succ]
  refine wpAnyH_take (i := 2) (v := ?_) rfl (by kernel_rfl) (by kernel_rfl) (by kernel_rfl) (fun _ _ _ h => h) (Or.inl ⟨by rfl, ?_⟩) (by assumption) ?_
  rotate_left 1
  · (intro u hSw; clear hSw; go_simp; try (with_reducible rfl))
  try simp only [Act.put, List.getElem_toArray, List.getElem_cons_zero, List.getElem_cons_succ, List.setIfInBounds_toArray, List.set_cons_zero, List.set_cons_succ]
  refine wpAnyH_take (i := 3) (v := ?_) rfl (by kernel_rfl) (by kernel_rfl) (by kernel_rfl) (fun _ _ _ h => h) (Or.inl ⟨by rfl, ?_⟩) (by assumption) ?_
  rotate_left 1
  · (intro u hSw; clear hSw; go_simp; try (with_reducible rfl))
  try simp only [Act.put, List.getElem_toArray, List.getElem_cons_zero, List.getElem_cons_succ, List.setIfInBounds_toArray, List.set_cons_zero, List.set_cons_succ]
  refine wpAnyH_take (i := 6) (v := ?_) rfl (by kernel_rfl) (by kernel_rfl) (by kernel_rfl) (fun _ _ _ h => h) (Or.inl ⟨by rfl, ?_⟩) (by assumption) ?_
  rotate_left 1
  · (intro u hSw; clear hSw; go_simp; try (with_reducible rfl))
  try simp only [Act.put, List.getElem_toArray, List.getElem_cons_zero, List.getElem_cons_succ, List.setIfInBounds_toArray, List.set_cons_zero, List.set_cons_succ]
  refine wpAnyH_take (i := 11) (v := ?_) rfl (by kernel_rfl) (by kernel_rfl) (by kernel_rfl) (fun _ _ _ h => h) (Or.inl ⟨by rfl, ?_⟩) (by assumption) ?_
  rotate_left 1
  · (intro u hSw; clear hSw; go_simp; try (with_reducible rfl))
  try simp only [Act.put, List.getElem_toArray, List.getElem_cons_zero, List.getElem_cons_succ, List.setIfInBounds_toArray, List.set_cons_zero, List.set_cons_succ]
  refine wpAnyH_ready (rs := [4, 7]) (by kernel_rfl) (by simp) ?_
  refine AllReadyH.cons (i := 4) (o := ?o7) ?ho7 (fun K hK => ?st7) ?mo7
  case ho7 => rfl
  case st7 =>
    have HS := Lib.hid hHeld
    clear hHeld
    go_simp
    refine hK.out _ (w0.alloc (.cells #[.int .u8 128, .int .u8 0, .int .u8 0, .int .u8 0] 5)).drew (HS.out.alloc _) (fun hHeld => ?_)
    have hHeld : HL [(w0.heap.size, .cells #[.int .u8 128, .int .u8 0, .int .u8 0, .int .u8 0] 5), (B, .cells #[.bool v2, .int .u64 h2, .int .u64 l2] 24), (A, .cells #[.bool true, .int .u64 h1, .int .u64 l1] 24)] R 9 w (w0.alloc (.cells #[.int .u8 128, .int .u8 0, .int .u8 0, .int .u8 0] 5)).drew := HS.out.made _
    refine wpAnyH_strong (S2 := fun u => HL [(w0.heap.size, .cells #[.int .u8 128, .int .u8 0, .int .u8 0, .int .u8 0] 5), (B, .cells #[.bool v2, .int .u64 h2, .int .u64 l2] 24), (A, .cells #[.bool true, .int .u64 h1, .int .u64 l1] 24)] R 9 w u) (fun u hu => hu.tail) _ _ _ _ ?_
    clear hK K HS
    obtain ⟨g4, hgg⟩ : ∃ g, g = w0.heap.size := ⟨_, rfl⟩
    rw [← hgg] at hHeld ⊢
    obtain ⟨v4, hwn⟩ : ∃ x, x = (w0.alloc (.cells #[.int .u8 128, .int .u8 0, .int .u8 0, .int .u8 0] 5)).drew := ⟨_, rfl⟩
    rw [← hwn] at hHeld ⊢
    clear hgg hwn
    try simp only [Act.put, List.getElem_toArray, List.getElem_cons_zero, List.getElem_cons_succ, List.setIfInBounds_toArray, List.set_cons_zero, List.set_cons_succ]
    refine wpAnyH_take (i := 5) (v := ?_) rfl (by kernel_rfl) (by kernel_rfl) (by kernel_rfl) (fun _ _ _ h => h) (Or.inl ⟨by rfl, ?_⟩) (by assumption) ?_
    rotate_left 1
    · (intro u hSw; have hcv := echo_conv_tf (hSw.head); rw [← HX.out.1] at hcv; clear hSw; go_simp; try (with_reducible rfl))
    try simp only [Act.put, List.getElem_toArray, List.getElem_cons_zero, List.getElem_cons_succ, List.setIfInBounds_toArray, List.set_cons_zero, List.set_cons_succ]
    refine wpAnyH_ready (rs := [7]) (by kernel_rfl) (by simp) ?_
    refine AllReadyH.cons rfl (fun K hK => ?_) AllReadyH.nil
    have HS := Lib.hid hHeld
    clear hHeld
    go_simp
    refine (put16 id _ HX.out.2.2.2).mono ?_
    rintro e w1 ⟨rfl, B1⟩
    rw [← HX.out.2.1]
    simp only []
    refine hK.out _ _ (HS.out.call B1) (fun hHeld => ?_)
    clear hK K HS B1
    try simp only [Act.put, List.getElem_toArray, List.getElem_cons_zero, List.getElem_cons_succ, List.setIfInBounds_toArray, List.set_cons_zero, List.set_cons_succ]
    refine wpAnyH_take (i := 8) (v := ?_) rfl (by kernel_rfl) (by kernel_rfl) (by kernel_rfl) (fun _ _ _ h => h) (Or.inl ⟨by rfl, ?_⟩) (by assumption) ?_
    rotate_left 1
    · (intro u hSw; clear hSw; go_simp; try (with_reducible rfl))
    try simp only [Act.put, List.getElem_toArray, List.getElem_cons_zero, List.getElem_cons_succ, List.setIfInBounds_toArray, List.set_cons_zero, List.set_cons_succ]
    refine wpAnyH_ready (rs := [9]) (by kernel_rfl) (by simp) ?_
    refine AllReadyH.cons rfl (fun K hK => ?_) AllReadyH.nil
    have HS := Lib.hid hHeld
    clear hHeld
    go_simp
    refine (put16 0 _ (by decide)).mono ?_
    rintro e w1 ⟨rfl, B1⟩
    rw [← HX.out.2.2.1]
    simp only []
    refine hK.out _ _ (HS.out.call B1) (fun hHeld => ?_)
    clear hK K HS B1
    try simp only [Act.put, List.getElem_toArray, List.getElem_cons_zero, List.getElem_cons_succ, List.setIfInBounds_toArray, List.set_cons_zero, List.set_cons_succ]
    refine wpAnyH_take (i := 10) (v := ?_) rfl (by kernel_rfl) (by kernel_rfl) (by kernel_rfl) (fun _ _ _ h => h) (Or.inl ⟨by rfl, ?_⟩) (by assumption) ?_
    rotate_left 1
    · (intro u hSw; clear hSw; go_simp; try (with_reducible rfl))
    try simp only [Act.put, List.getElem_toArray, List.getElem_cons_zero, List.getElem_cons_succ, List.setIfInBounds_toArray, List.set_cons_zero, List.set_cons_succ]
    refine wpAnyH_take (i := 12) (v := ?_) rfl (by kernel_rfl) (by kernel_rfl) (by kernel_rfl) (fun _ _ _ h => h) (Or.inl ⟨by rfl, ?_⟩) (by assumption) ?_
    rotate_left 1
    · (intro u hSw; clear hSw; go_simp; try (with_reducible rfl))
    try simp only [Act.put, List.getElem_toArray, List.getElem_cons_zero, List.getElem_cons_succ, List.setIfInBounds_toArray, List.set_cons_zero, List.set_cons_succ]
    refine wpAnyH_ready (rs := [13]) (by kernel_rfl) (by simp) ?_
    refine AllReadyH.cons rfl (fun K hK => ?_) AllReadyH.nil
    have HS := Lib.hid hHeld
    clear hHeld
    go_simp
    refine (HC.out _).mono ?_
    rintro e w1 ⟨rfl, B1⟩
    simp only []
    refine hK.out _ _ (HS.out.call B1) (fun hHeld => ?_)
    clear hK K HS B1
    try simp only [Act.put, List.getElem_toArray, List.getElem_cons_zero, List.getElem_cons_succ, List.setIfInBounds_toArray, List.set_cons_zero, List.set_cons_succ]
    refine wpAnyH_take (i := 14) (v := ?_) rfl (by kernel_rfl) (by kernel_rfl) (by kernel_rfl) (fun _ _ _ h => h) (Or.inl ⟨by rfl, ?_⟩) (by assumption) ?_
    rotate_left 1
    · (intro u hSw; clear hSw; go_simp; try (with_reducible rfl))
    try simp only [Act.put, List.getElem_toArray, List.getElem_cons_zero, List.getElem_cons_succ, List.setIfInBounds_toArray, List.set_cons_zero, List.set_cons_succ]
    refine wpAnyH_take (i := 15) (v := ?_) rfl (by kernel_rfl) (by kernel_rfl) (by kernel_rfl) (fun _ _ _ h => h) (Or.inl ⟨by rfl, ?_⟩) (by assumption) ?_
    rotate_left 1
    · (intro u hSw; clear hSw; go_simp; try (with_reducible rfl))
    try simp only [Act.put, List.getElem_toArray, List.getElem_cons_zero, List.getElem_cons_succ, List.setIfInBounds_toArray, List.set_cons_zero, List.set_cons_succ]
    refine wpAnyH_ready (rs := [16]) (by kernel_rfl) (by simp) ?_
    refine AllReadyH.cons rfl (fun K hK => ?_) AllReadyH.nil
    have HS := Lib.hid hHeld
    clear hHeld
    rw [if_pos (by kernel_rfl)]
    have GN := Lib.hid HS.out.ne
    obtain ⟨cs, hcs, hR⟩ := HS.out.2.1
    refine wp_store_row 30 _ _ rfl R M.cells rfl rfl 30 cs hR info30 hcs (pkOne M) ?_
    have HR := Lib.hid (HS.out.row (cs := M.cells))
    refine hK.out _ _ (HS.out.store (by simp only [List.mem_cons, List.not_mem_nil, or_false]; rintro x (rfl | rfl | rfl); exact GN.out; exact HN.out.2.1; exact HN.out.1) HN.out.2.2 rfl) (fun hHeld => ?_)
    clear hcs hR
    clear hK K HS
    try simp only [Act.put, List.getElem_toArray, List.getElem_cons_zero, List.getElem_cons_succ, List.setIfInBounds_toArray, List.set_cons_zero, List.set_cons_succ]
    refine wpAnyH_take (i := 17) (v := ?_) rfl (by kernel_rfl) (by kernel_rfl) (by kernel_rfl) (fun _ _ _ h => h) (Or.inl ⟨by rfl, ?_⟩) (by assumption) ?_
    rotate_left 1
    · (intro u hSw; clear hSw; go_simp; try (with_reducible rfl))
    try simp only [Act.put, List.getElem_toArray, List.getElem_cons_zero, List.getElem_cons_succ, List.setIfInBounds_toArray, List.set_cons_zero, List.set_cons_succ]
    have HE := Lib.hid hHeld
    clear hHeld
    refine wpAnyH_done (by kernel_rfl) ?_ _
    try simp only [Act.put, List.getElem_toArray, List.getElem_cons_zero, List.getElem_cons_succ, List.setIfInBounds_toArray, List.set_cons_zero, List.set_cons_succ]
    obtain ⟨w5, hw5⟩ : ∃ x, x = World.setRow w1 R M.cells := ⟨_, rfl⟩
    rw [← hw5] at HR HE ⊢
    have D5 : w5.heap[R]? = some (.cells #[.bool M.src.v6, .int .u64 M.src.hi, .int .u64 M.src.lo, .bool M.dst.v6, .int .u64 M.dst.hi, .int .u64 M.dst.lo, .int .u8 M.proto, .int .u8 M.ttl, .string M.data] 30) := HR.out
    obtain ⟨k0, k1, k2, k3, k4, k5, k6, k7, k8⟩ := pkCells D5
    clear D5 HR hw5
    go_wp2_with fail
    refine bodyPost_ret (v := .tuple #[.agg #[.bool M.src.v6, .int .u64 M.src.hi, .int .u64 M.src.lo, .bool M.dst.v6, .int .u64 M.dst.hi, .int .u64 M.dst.lo, .int .u8 M.proto, .int .u8 M.ttl, .string M.data], .int .i64 E]) (by simp [results, Try.results12, go_sem, k0, k1, k2, k3, k4, k5, k6, k7, k8]) rfl ⟨rfl, HE.out.2.2⟩
  case mo7 =>
    refine AllReadyH.cons rfl (fun K hK => ?_) AllReadyH.nil
    have HS := Lib.hid hHeld
    clear hHeld
    go_simp
    refine (put16 id _ HX.out.2.2.2).mono ?_
    rintro e w1 ⟨rfl, B1⟩
    rw [← HX.out.2.1]
    simp only []
    refine hK.out _ _ (HS.out.call B1) (fun hHeld => ?_)
    clear hK K HS B1
    try simp only [Act.put, List.getElem_toArray, List.getElem_cons_zero, List.getElem_cons_succ, List.setIfInBounds_toArray, List.set_cons_zero, List.set_cons_succ]
    refine wpAnyH_ready (rs := [4, 9]) (by kernel_rfl) (by simp) ?_
    refine AllReadyH.cons (i := 4) (o := ?o8) ?ho8 (fun K hK => ?st8) ?mo8
    case ho8 => rfl
    case st8 =>
      have HS := Lib.hid hHeld
      clear hHeld
      go_simp
      refine hK.out _ (w1.alloc (.cells #[.int .u8 128, .int .u8 0, .int .u8 0, .int .u8 0] 5)) (HS.out.alloc _) (fun hHeld => ?_)
      have hHeld : HL [(w1.heap.size, .cells #[.int .u8 128, .int .u8 0, .int .u8 0, .int .u8 0] 5), (B, .cells #[.bool v2, .int .u64 h2, .int .u64 l2] 24), (A, .cells #[.bool true, .int .u64 h1, .int .u64 l1] 24)] R 9 w (w1.alloc (.cells #[.int .u8 128, .int .u8 0, .int .u8 0, .int .u8 0] 5)) := HS.out.made _
      refine wpAnyH_strong (S2 := fun u => HL [(w1.heap.size, .cells #[.int .u8 128, .int .u8 0, .int .u8 0, .int .u8 0] 5), (B, .cells #[.bool v2, .int .u64 h2, .int .u64 l2] 24), (A, .cells #[.bool true, .int .u64 h1, .int .u64 l1] 24)] R 9 w u) (fun u hu => hu.tail) _ _ _ _ ?_
      clear hK K HS
      obtain ⟨g4, hgg⟩ : ∃ g, g = w1.heap.size := ⟨_, rfl⟩
      rw [← hgg] at hHeld ⊢
      obtain ⟨v4, hwn⟩ : ∃ x, x = (w1.alloc (.cells #[.int .u8 128, .int .u8 0, .int .u8 0, .int .u8 0] 5)) := ⟨_, rfl⟩
      rw [← hwn] at hHeld ⊢
      clear hgg hwn
      try simp only [Act.put, List.getElem_toArray, List.getElem_cons_zero, List.getElem_cons_succ, List.setIfInBounds_toArray, List.set_cons_zero, List.set_cons_succ]
      refine wpAnyH_take (i := 5) (v := ?_) rfl (by kernel_rfl) (by kernel_rfl) (by kernel_rfl) (fun _ _ _ h => h) (Or.inl ⟨by rfl, ?_⟩) (by assumption) ?_
      rotate_left 1
      · (intro u hSw; have hcv := echo_conv_tf (hSw.head); rw [← HX.out.1] at hcv; clear hSw; go_simp; try (with_reducible rfl))
      try simp only [Act.put, List.getElem_toArray, List.getElem_cons_zero, List.getElem_cons_succ, List.setIfInBounds_toArray, List.set_cons_zero, List.set_cons_succ]
      refine wpAnyH_take (i := 8) (v := ?_) rfl (by kernel_rfl) (by kernel_rfl) (by kernel_rfl) (fun _ _ _ h => h) (Or.inl ⟨by rfl, ?_⟩) (by assumption) ?_
      rotate_left 1
      · (intro u hSw; clear hSw; go_simp; try (with_reducible rfl))
      try simp only [Act.put, List.getElem_toArray, List.getElem_cons_zero, List.getElem_cons_succ, List.setIfInBounds_toArray, List.set_cons_zero, List.set_cons_succ]
      refine wpAnyH_ready (rs := [9]) (by kernel_rfl) (by simp) ?_
      refine AllReadyH.cons rfl (fun K hK => ?_) AllReadyH.nil
      have HS := Lib.hid hHeld
      clear hHeld
      go_simp
      refine (put16 0 _ (by decide)).mono ?_
      rintro e w1 ⟨rfl, B1⟩
      rw [← HX.out.2.2.1]
      simp only []
      refine hK.out _ _ (HS.out.call B1) (fun hHeld => ?_)
      clear hK K HS B1
      try simp only [Act.put, List.getElem_toArray, List.getElem_cons_zero, List.getElem_cons_succ, List.setIfInBounds_toArray, List.set_cons_zero, List.set_cons_succ]
      refine wpAnyH_take (i := 10) (v := ?_) rfl (by kernel_rfl) (by kernel_rfl) (by kernel_rfl) (fun _ _ _ h => h) (Or.inl ⟨by rfl, ?_⟩) (by assumption) ?_
      rotate_left 1
      · (intro u hSw; clear hSw; go_simp; try (with_reducible rfl))
      try simp only [Act.put, List.getElem_toArray, List.getElem_cons_zero, List.getElem_cons_succ, List.setIfInBounds_toArray, List.set_cons_zero, List.set_cons_succ]
      refine wpAnyH_take (i := 12) (v := ?_) rfl (by kernel_rfl) (by kernel_rfl) (by kernel_rfl) (fun _ _ _ h => h) (Or.inl ⟨by rfl, ?_⟩) (by assumption) ?_
      rotate_left 1
      · (intro u hSw; clear hSw; go_simp; try (with_reducible rfl))
      try simp only [Act.put, List.getElem_toArray, List.getElem_cons_zero, List.getElem_cons_succ, List.setIfInBounds_toArray, List.set_cons_zero, List.set_cons_succ]
      refine wpAnyH_ready (rs := [13]) (by kernel_rfl) (by simp) ?_
      refine AllReadyH.cons rfl (fun K hK => ?_) AllReadyH.nil
      have HS := Lib.hid hHeld
      clear hHeld
      go_simp
      refine (HC.out _).mono ?_
      rintro e w1 ⟨rfl, B1⟩
      simp only []
      refine hK.out _ _ (HS.out.call B1) (fun hHeld => ?_)
      clear hK K HS B1
      try simp only [Act.put, List.getElem_toArray, List.getElem_cons_zero, List.getElem_cons_succ, List.setIfInBounds_toArray, List.set_cons_zero, List.set_cons_succ]
      refine wpAnyH_take (i := 14) (v := ?_) rfl (by kernel_rfl) (by kernel_rfl) (by kernel_rfl) (fun _ _ _ h => h) (Or.inl ⟨by rfl, ?_⟩) (by assumption) ?_
      rotate_left 1
      · (intro u hSw; clear hSw; go_simp; try (with_reducible rfl))
      try simp only [Act.put, List.getElem_toArray, List.getElem_cons_zero, List.getElem_cons_succ, List.setIfInBounds_toArray, List.set_cons_zero, List.set_cons_succ]
      refine wpAnyH_take (i := 15) (v := ?_) rfl (by kernel_rfl) (by kernel_rfl) (by kernel_rfl) (fun _ _ _ h => h) (Or.inl ⟨by rfl, ?_⟩) (by assumption) ?_
      rotate_left 1
      · (intro u hSw; clear hSw; go_simp; try (with_reducible rfl))
      try simp only [Act.put, List.getElem_toArray, List.getElem_cons_zero, List.getElem_cons_succ, List.setIfInBounds_toArray, List.set_cons_zero, List.set_cons_succ]
      refine wpAnyH_ready (rs := [16]) (by kernel_rfl) (by simp) ?_
      refine AllReadyH.cons rfl (fun K hK => ?_) AllReadyH.nil
      have HS := Lib.hid hHeld
      clear hHeld
      rw [if_pos (by kernel_rfl)]
      have GN := Lib.hid HS.out.ne
      obtain ⟨cs, hcs, hR⟩ := HS.out.2.1
      refine wp_store_row 30 _ _ rfl R M.cells rfl rfl 30 cs hR info30 hcs (pkOne M) ?_
      have HR := Lib.hid (HS.out.row (cs := M.cells))
      refine hK.out _ _ (HS.out.store (by simp only [List.mem_cons, List.not_mem_nil, or_false]; rintro x (rfl | rfl | rfl); exact GN.out; exact HN.out.2.1; exact HN.out.1) HN.out.2.2 rfl) (fun hHeld => ?_)
      clear hcs hR
      clear hK K HS
      try simp only [Act.put, List.getElem_toArray, List.getElem_cons_zero, List.getElem_cons_succ, List.setIfInBounds_toArray, List.set_cons_zero, List.set_cons_succ]
      refine wpAnyH_take (i := 17) (v := ?_) rfl (by kernel_rfl) (by kernel_rfl) (by kernel_rfl) (fun _ _ _ h => h) (Or.inl ⟨by rfl, ?_⟩) (by assumption) ?_
      rotate_left 1
      · (intro u hSw; clear hSw; go_simp; try (with_reducible rfl))
      try simp only [Act.put, List.getElem_toArray, List.getElem_cons_zero, List.getElem_cons_succ, List.setIfInBounds_toArray, List.set_cons_zero, List.set_cons_succ]
      have HE := Lib.hid hHeld
      clear hHeld
      refine wpAnyH_done (by kernel_rfl) ?_ _
      try simp only [Act.put, List.getElem_toArray, List.getElem_cons_zero, List.getElem_cons_succ, List.setIfInBounds_toArray, List.set_cons_zero, List.set_cons_succ]
      obtain ⟨w5, hw5⟩ : ∃ x, x = World.setRow w1 R M.cells := ⟨_, rfl⟩
      rw [← hw5] at HR HE ⊢
      have D5 : w5.heap[R]? = some (.cells #[.bool M.src.v6, .int .u64 M.src.hi, .int .u64 M.src.lo, .bool M.dst.v6, .int .u64 M.dst.hi, .int .u64 M.dst.lo, .int .u8 M.proto, .int .u8 M.ttl, .string M.data] 30) := HR.out
      obtain ⟨k0, k1, k2, k3, k4, k5, k6, k7, k8⟩ := pkCells D5
      clear D5 HR hw5
      go_wp2_with fail
      refine bodyPost_ret (v := .tuple #[.agg #[.bool M.src.v6, .int .u64 M.src.hi, .int .u64 M.src.lo, .bool M.dst.v6, .int .u64 M.dst.hi, .int .u64 M.dst.lo, .int .u8 M.proto, .int .u8 M.ttl, .string M.data], .int .i64 E]) (by simp [results, Try.results12, go_sem, k0, k1, k2, k3, k4, k5, k6, k7, k8]) rfl ⟨rfl, HE.out.2.2⟩
    case mo8 =>
      refine AllReadyH.cons rfl (fun K hK => ?_) AllReadyH.nil
      have HS := Lib.hid hHeld
      clear hHeld
      go_simp
      refine (put16 0 _ (by decide)).mono ?_
      rintro e w1 ⟨rfl, B1⟩
      rw [← HX.out.2.2.1]
      simp only []
      refine hK.out _ _ (HS.out.call B1) (fun hHeld => ?_)
      clear hK K HS B1
      try simp only [Act.put, List.getElem_toArray, List.getElem_cons_zero, List.getElem_cons_succ, List.setIfInBounds_toArray, List.set_cons_zero, List.set_cons_succ]
      refine wpAnyH_ready (rs := [4]) (by kernel_rfl) (by simp) ?_
      refine AllReadyH.cons rfl (fun K hK => ?_) AllReadyH.nil
      have HS := Lib.hid hHeld
      clear hHeld
      go_simp
      refine hK.out _ (w1.alloc (.cells #[.int .u8 128, .int .u8 0, .int .u8 0, .int .u8 0] 5)) (HS.out.alloc _) (fun hHeld => ?_)
      have hHeld : HL [(w1.heap.size, .cells #[.int .u8 128, .int .u8 0, .int .u8 0, .int .u8 0] 5), (B, .cells #[.bool v2, .int .u64 h2, .int .u64 l2] 24), (A, .cells #[.bool true, .int .u64 h1, .int .u64 l1] 24)] R 9 w (w1.alloc (.cells #[.int .u8 128, .int .u8 0, .int .u8 0, .int .u8 0] 5)) := HS.out.made _
      refine wpAnyH_strong (S2 := fun u => HL [(w1.heap.size, .cells #[.int .u8 128, .int .u8 0, .int .u8 0, .int .u8 0] 5), (B, .cells #[.bool v2, .int .u64 h2, .int .u64 l2] 24), (A, .cells #[.bool true, .int .u64 h1, .int .u64 l1] 24)] R 9 w u) (fun u hu => hu.tail) _ _ _ _ ?_
      clear hK K HS
      obtain ⟨g4, hgg⟩ : ∃ g, g = w1.heap.size := ⟨_, rfl⟩
      rw [← hgg] at hHeld ⊢
      obtain ⟨v4, hwn⟩ : ∃ x, x = (w1.alloc (.cells #[.int .u8 128, .int .u8 0, .int .u8 0, .int .u8 0] 5)) := ⟨_, rfl⟩
      rw [← hwn] at hHeld ⊢
      clear hgg hwn
      try simp only [Act.put, List.getElem_toArray, List.getElem_cons_zero, List.getElem_cons_succ, List.setIfInBounds_toArray, List.set_cons_zero, List.set_cons_succ]
      refine wpAnyH_take (i := 5) (v := ?_) rfl (by kernel_rfl) (by kernel_rfl) (by kernel_rfl) (fun _ _ _ h => h) (Or.inl ⟨by rfl, ?_⟩) (by assumption) ?_
      rotate_left 1
      · (intro u hSw; have hcv := echo_conv_tf (hSw.head); rw [← HX.out.1] at hcv; clear hSw; go_simp; try (with_reducible rfl))
      try simp only [Act.put, List.getElem_toArray, List.getElem_cons_zero, List.getElem_cons_succ, List.setIfInBounds_toArray, List.set_cons_zero, List.set_cons_succ]
      refine wpAnyH_take (i := 8) (v := ?_) rfl (by kernel_rfl) (by kernel_rfl) (by kernel_rfl) (fun _ _ _ h => h) (Or.inl ⟨by rfl, ?_⟩) (by assumption) ?_
      rotate_left 1
      · (intro u hSw; clear hSw; go_simp; try (with_reducible rfl))
      try simp only [Act.put, List.getElem_toArray, List.getElem_cons_zero, List.getElem_cons_succ, List.setIfInBounds_toArray, List.set_cons_zero, List.set_cons_succ]
      refine wpAnyH_take (i := 10) (v := ?_) rfl (by kernel_rfl) (by kernel_rfl) (by kernel_rfl) (fun _ _ _ h => h) (Or.inl ⟨by rfl, ?_⟩) (by assumption) ?_
      rotate_left 1
      · (intro u hSw; clear hSw; go_simp; try (with_reducible rfl))
      try simp only [Act.put, List.getElem_toArray, List.getElem_cons_zero, List.getElem_cons_succ, List.setIfInBounds_toArray, List.set_cons_zero, List.set_cons_succ]
      refine wpAnyH_take (i := 12) (v := ?_) rfl (by kernel_rfl) (by kernel_rfl) (by kernel_rfl) (fun _ _ _ h => h) (Or.inl ⟨by rfl, ?_⟩) (by assumption) ?_
      rotate_left 1
      · (intro u hSw; clear hSw; go_simp; try (with_reducible rfl))
      try simp only [Act.put, List.getElem_toArray, List.getElem_cons_zero, List.getElem_cons_succ, List.setIfInBounds_toArray, List.set_cons_zero, List.set_cons_succ]
      refine wpAnyH_ready (rs := [13]) (by kernel_rfl) (by simp) ?_
      refine AllReadyH.cons rfl (fun K hK => ?_) AllReadyH.nil
      have HS := Lib.hid hHeld
      clear hHeld
      go_simp
      refine (HC.out _).mono ?_
      rintro e w1 ⟨rfl, B1⟩
      simp only []
      refine hK.out _ _ (HS.out.call B1) (fun hHeld => ?_)
      clear hK K HS B1
      try simp only [Act.put, List.getElem_toArray, List.getElem_cons_zero, List.getElem_cons_succ, List.setIfInBounds_toArray, List.set_cons_zero, List.set_cons_succ]
      refine wpAnyH_take (i := 14) (v := ?_) rfl (by kernel_rfl) (by kernel_rfl) (by kernel_rfl) (fun _ _ _ h => h) (Or.inl ⟨by rfl, ?_⟩) (by assumption) ?_
      rotate_left 1
      · (intro u hSw; clear hSw; go_simp; try (with_reducible rfl))
      try simp only [Act.put, List.getElem_toArray, List.getElem_cons_zero, List.getElem_cons_succ, List.setIfInBounds_toArray, List.set_cons_zero, List.set_cons_succ]
      refine wpAnyH_take (i := 15) (v := ?_) rfl (by kernel_rfl) (by kernel_rfl) (by kernel_rfl) (fun _ _ _ h => h) (Or.inl ⟨by rfl, ?_⟩) (by assumption) ?_
      rotate_left 1
      · (intro u hSw; clear hSw; go_simp; try (with_reducible rfl))
      try simp only [Act.put, List.getElem_toArray, List.getElem_cons_zero, List.getElem_cons_succ, List.setIfInBounds_toArray, List.set_cons_zero, List.set_cons_succ]
      refine wpAnyH_ready (rs := [16]) (by kernel_rfl) (by simp) ?_
      refine AllReadyH.cons rfl (fun K hK => ?_) AllReadyH.nil
      have HS := Lib.hid hHeld
      clear hHeld
      rw [if_pos (by kernel_rfl)]
      have GN := Lib.hid HS.out.ne
      obtain ⟨cs, hcs, hR⟩ := HS.out.2.1
      refine wp_store_row 30 _ _ rfl R M.cells rfl rfl 30 cs hR info30 hcs (pkOne M) ?_
      have HR := Lib.hid (HS.out.row (cs := M.cells))
      refine hK.out _ _ (HS.out.store (by simp only [List.mem_cons, List.not_mem_nil, or_false]; rintro x (rfl | rfl | rfl); exact GN.out; exact HN.out.2.1; exact HN.out.1) HN.out.2.2 rfl) (fun hHeld => ?_)
      clear hcs hR
      clear hK K HS
      try simp only [Act.put, List.getElem_toArray, List.getElem_cons_zero, List.getElem_cons_succ, List.setIfInBounds_toArray, List.set_cons_zero, List.set_cons_succ]
      refine wpAnyH_take (i := 17) (v := ?_) rfl (by kernel_rfl) (by kernel_rfl) (by kernel_rfl) (fun _ _ _ h => h) (Or.inl ⟨by rfl, ?_⟩) (by assumption) ?_
      rotate_left 1
      · (intro u hSw; clear hSw; go_simp; try (with_reducible rfl))
      try simp only [Act.put, List.getElem_toArray, List.getElem_cons_zero, List.getElem_cons_succ, List.setIfInBounds_toArray, List.set_cons_zero, List.set_cons_succ]
      have HE := Lib.hid hHeld
      clear hHeld
      refine wpAnyH_done (by kernel_rfl) ?_ _
      try simp only [Act.put, List.getElem_toArray, List.getElem_cons_zero, List.getElem_cons_succ, List.setIfInBounds_toArray, List.set_cons_zero, List.set_cons_succ]
      obtain ⟨w5, hw5⟩ : ∃ x, x = World.setRow w1 R M.cells := ⟨_, rfl⟩
      rw [← hw5] at HR HE ⊢
      have D5 : w5.heap[R]? = some (.cells #[.bool M.src.v6, .int .u64 M.src.hi, .int .u64 M.src.lo, .bool M.dst.v6, .int .u64 M.dst.hi, .int .u64 M.dst.lo, .int .u8 M.proto, .int .u8 M.ttl, .string M.data] 30) := HR.out
      obtain ⟨k0, k1, k2, k3, k4, k5, k6, k7, k8⟩ := pkCells D5
      clear D5 HR hw5
      go_wp2_with fail
      refine bodyPost_ret (v := .tuple #[.agg #[.bool M.src.v6, .int .u64 M.src.hi, .int .u64 M.src.lo, .bool M.dst.v6, .int .u64 M.dst.hi, .int .u64 M.dst.lo, .int .u8 M.proto, .int .u8 M.ttl, .string M.data], .int .i64 E]) (by simp [results, Try.results12, go_sem, k0, k1, k2, k3, k4, k5, k6, k7, k8]) rfl ⟨rfl, HE.out.2.2⟩
theorem echo_conv_tt {u : World} {g : Nat} (h : u.heap[g]? = some (.cells #[.int .u8 129, .int .u8 0, .int .u8 0, .int .u8 0] 5)) : (convert 37 9 (.slice (some ⟨g, 0, none⟩) 4 4)).run Try.prog u = .ok (.string (echoT 129)) u := by
  refine bytes_conv [129, 0, 0, 0] rfl ?_
  rw [h]
  simp
set_option maxHeartbeats 16000000 in
set_option maxRecDepth 100000 in
theorem echoMake_tt (h1 l1 : Nat) (b : Ad) (id : Nat) (d : ByteArray) (w : World) (ha : (⟨true, h1, l1⟩ : Ad).Ok) (hb : b.Ok) (hf : id < 65536) (hd : d.size ≤ 9000) :
    Calls Try.prog 12 #[.agg #[.bool true, .int .u64 h1, .int .u64 l1], .agg #[.bool b.v6, .int .u64 b.hi, .int .u64 b.lo], .int .u16 id, .bool true, .string d] w fun e w' =>
      e = .returned (.tuple #[(madeP ⟨⟨true, h1, l1⟩, b, 58, 64, echoD 129 id d⟩ 2).val, .int .i64 (mayE ⟨⟨true, h1, l1⟩, b, 58, 64, echoD 129 id d⟩)]) ∧ Below w.heap.size w w' := by
  obtain ⟨v2, h2, l2⟩ := b
  obtain ⟨D, hD⟩ : ∃ D, D = echoD 129 id d := ⟨_, rfl⟩
  have hDs : D.size = 8 + d.size := by rw [hD]; exact echoD_size _ _ _
  rw [← hD]
  have C3 : ∀ u, Calls Try.prog 21 #[.agg #[.bool true, .int .u64 h1, .int .u64 l1], .agg #[.bool v2, .int .u64 h2, .int .u64 l2], .int .u8 58, .int .i64 2, .string D] u fun e w' => (e = .returned (.tuple #[(madeP ⟨⟨true, h1, l1⟩, ⟨v2, h2, l2⟩, 58, 64, D⟩ 2).val, .int .i64 (mayE ⟨⟨true, h1, l1⟩, ⟨v2, h2, l2⟩, 58, 64, D⟩)]) ∧ Below u.heap.size u w') := fun u => made_any ⟨true, h1, l1⟩ ⟨v2, h2, l2⟩ 58 2 D u ha hb (by decide) (by omega) (by omega)
  have HC := Lib.hid C3
  obtain ⟨M, hM⟩ : ∃ M : Pk, M = madeP ⟨⟨true, h1, l1⟩, ⟨v2, h2, l2⟩, 58, 64, D⟩ 2 := ⟨_, rfl⟩
  obtain ⟨E, hE⟩ : ∃ M, M = mayE ⟨⟨true, h1, l1⟩, ⟨v2, h2, l2⟩, 58, 64, D⟩ := ⟨_, rfl⟩
  rw [← hM, ← hE] at HC
  rw [← hM, ← hE]
  clear C3 hM hE ha hb
  obtain ⟨X1, hX1⟩ : ∃ X : ByteArray, X = echoT 129 := ⟨_, rfl⟩
  obtain ⟨X2, hX2⟩ : ∃ X, X = beS id 2 := ⟨_, rfl⟩
  have z1 : X1.size = 4 := by rw [hX1]; rfl
  have z2 : X2.size = 2 := by rw [hX2]; exact beS_size _ _
  obtain ⟨X3, hX3⟩ : ∃ X, X = beS 0 2 := ⟨_, rfl⟩
  have z3 : X3.size = 2 := by rw [hX3]; exact beS_size _ _
  have a1 := addS X1 X2 (by omega)
  have a2 := addS (X1 ++ X2) X3 (by rw [ByteArray.size_append]; omega)
  have a3 := addS (X1 ++ X2 ++ X3) d (by simp only [ByteArray.size_append]; omega)
  have hDX : X1 ++ X2 ++ X3 ++ d = D := by rw [hD, hX1, hX2, hX3]; rfl
  rw [hDX] at a3
  have HX := Lib.hid (And.intro hX1 (And.intro hX2 (And.intro hX3 hf)))
  have hz : (d.size : Int) ≤ 9000 := by omega
  clear hX1 hX2 hX3 z1 z2 z3 hDX hD hDs hd hf
  have HW0 : HL [(w.heap.size + 1, .cells #[.bool v2, .int .u64 h2, .int .u64 l2] 24), (w.heap.size, .cells #[.bool true, .int .u64 h1, .int .u64 l1] 24)] (w.heap.size + 1 + 1) 9 w ((((w.alloc (.cells #[.bool true, .int .u64 h1, .int .u64 l1] 24)).alloc (.cells #[.bool v2, .int .u64 h2, .int .u64 l2] 24)).alloc (.cells #[.bool false, .int .u64 0, .int .u64 0, .bool false, .int .u64 0, .int .u64 0, .int .u8 0, .int .u8 0, .string ⟨#[]⟩] 30)).alloc (.cells #[.int .u8 128, .int .u8 129] 54)) := (HL.two rfl rfl rfl).alloc _
  have HW := Lib.hid HW0
  clear HW0
  go_enter Try.func12, Try.ntmps12
  go_wp2_with fail
  obtain ⟨w0, hw0⟩ : ∃ x, x = (((w.alloc (.cells #[.bool true, .int .u64 h1, .int .u64 l1] 24)).alloc (.cells #[.bool v2, .int .u64 h2, .int .u64 l2] 24)).alloc (.cells #[.bool false, .int .u64 0, .int .u64 0, .bool false, .int .u64 0, .int .u64 0, .int .u8 0, .int .u8 0, .string ⟨#[]⟩] 30)).alloc (.cells #[.int .u8 128, .int .u8 129] 54) := ⟨_, rfl⟩
  obtain ⟨R, hR⟩ : ∃ x, x = w.heap.size + 1 + 1 := ⟨_, rfl⟩
  obtain ⟨B, hB⟩ : ∃ x, x = w.heap.size + 1 := ⟨_, rfl⟩
  obtain ⟨A, hA⟩ : ∃ x, x = w.heap.size := ⟨_, rfl⟩
  have HN := Lib.hid (show A ≠ R ∧ B ≠ R ∧ w.heap.size ≤ R by omega)
  have HW : Hid (HL [(B, .cells #[.bool v2, .int .u64 h2, .int .u64 l2] 24), (A, .cells #[.bool true, .int .u64 h1, .int .u64 l1] 24)] R 9 w w0) := by rw [hw0, hR, hB, hA]; exact Lib.hid HW.out
  rw [← hw0, ← hR, ← hB]
  rw [← hA]
  clear hw0 hR hB hA
  refine wp_region_held_drew (S := fun u => HL [(B, .cells #[.bool v2, .int .u64 h2, .int .u64 l2] 24), (A, .cells #[.bool true, .int .u64 h1, .int .u64 l1] 24)] R 9 w u) (by kernel_rfl) HW.out.drew (fun hHeld => ?_)
  refine wpAnyH_take (i := 0) (v := ?_) rfl (by kernel_rfl) (by kernel_rfl) (by kernel_rfl) (fun _ _ _ h => h) (Or.inl ⟨by rfl, ?_⟩) (by assumption) ?_
  rotate_left 1
  · (intro u hSw; have hSv := hSw; clear hSw; obtain ⟨c0, c1, c2⟩ := adCells hSv.tail.head; clear hSv; go_simp; try (with_reducible rfl))
  try simp only [Act.put, List.getElem_toArray, List.getElem_cons_zero, List.getElem_cons_succ, List.setIfInBounds_toArray, List.set_cons_zero, List.set_cons_succ]
  refine wpAnyH_take (i := 1) (v := ?_) rfl (by kernel_rfl) (by kernel_rfl) (by kernel_rfl) (fun _ _ _ h => h) (Or.inl ⟨by rfl, ?_⟩) (by assumption) ?_
  rotate_left 1
  · (intro u hSw; have hSv := hSw; clear hSw; obtain ⟨c0, c1, c2⟩ := adCells hSv.head; clear hSv; go_simp; try (with_reducible rfl))
  try simp only [Act.put, List.getElem_toArray, List.getElem_cons_zero, List.getElem_cons_succ, List.setIfInBounds_toArray, List.set_cons_zero, List.set_cons_succ]
  refine wpAnyH_take (i := 2) (v := ?_) rfl (by kernel_rfl) (by kernel_rfl) (by kernel_rfl) (fun _ _ _ h => h) (Or.inl ⟨by rfl, ?_⟩) (by assumption) ?_
  rotate_left 1
  · (intro u hSw; clear hSw; go_simp; try (with_reducible rfl))
  try simp only [Act.put, List.getElem_toArray, List.getElem_cons_zero, List.getElem_cons_succ, List.setIfInBounds_toArray, List.set_cons_zero, List.set_cons_succ]
  refine wpAnyH_take (i := 3) (v := ?_) rfl (by kernel_rfl) (by kernel_rfl) (by kernel_rfl) (fun _ _ _ h => h) (Or.inl ⟨by rfl, ?_⟩) (by assumption) ?_
  rotate_left 1
  · (intro u hSw; clear hSw; go_simp; try (with_reducible rfl))
  try simp only [Act.put, List.getElem_toArray, List.getElem_cons_zero, List.getElem_cons_succ, List.setIfInBounds_toArray, List.set_cons_zero, List.set_cons_succ]
  refine wpAnyH_take (i := 6) (v := ?_) rfl (by kernel_rfl) (by kernel_rfl) (by kernel_rfl) (fun _ _ _ h => h) (Or.inl ⟨by rfl, ?_⟩) (by assumption) ?_
  rotate_left 1
  · (intro u hSw; clear hSw; go_simp; try (with_reducible rfl))
  try simp only [Act.put, List.getElem_toArray, List.getElem_cons_zero, List.getElem_cons_succ, List.setIfInBounds_toArray, List.set_cons_zero, List.set_cons_succ]
  refine wpAnyH_take (i := 11) (v := ?_) rfl (by kernel_rfl) (by kernel_rfl) (by kernel_rfl) (fun _ _ _ h => h) (Or.inl ⟨by rfl, ?_⟩) (by assumption) ?_
  rotate_left 1
  · (intro u hSw; clear hSw; go_simp; try (with_reducible rfl))
  try simp only [Act.put, List.getElem_toArray, List.getElem_cons_zero, List.getElem_cons_succ, List.setIfInBounds_toArray, List.set_cons_zero, List.set_cons_succ]
  refine wpAnyH_ready (rs := [4, 7]) (by kernel_rfl) (by simp) ?_
  refine AllReadyH.cons (i := 4) (o := ?o10) ?ho10 (fun K hK => ?st10) ?mo10
  case ho10 => rfl
  case st10 =>
    have HS := Lib.hid hHeld
    clear hHeld
    go_simp
    refine hK.out _ (w0.alloc (.cells #[.int .u8 129, .int .u8 0, .int .u8 0, .int .u8 0] 5)).drew (HS.out.alloc _) (fun hHeld => ?_)
    have hHeld : HL [(w0.heap.size, .cells #[.int .u8 129, .int .u8 0, .int .u8 0, .int .u8 0] 5), (B, .cells #[.bool v2, .int .u64 h2, .int .u64 l2] 24), (A, .cells #[.bool true, .int .u64 h1, .int .u64 l1] 24)] R 9 w (w0.alloc (.cells #[.int .u8 129, .int .u8 0, .int .u8 0, .int .u8 0] 5)).drew := HS.out.made _
    refine wpAnyH_strong (S2 := fun u => HL [(w0.heap.size, .cells #[.int .u8 129, .int .u8 0, .int .u8 0, .int .u8 0] 5), (B, .cells #[.bool v2, .int .u64 h2, .int .u64 l2] 24), (A, .cells #[.bool true, .int .u64 h1, .int .u64 l1] 24)] R 9 w u) (fun u hu => hu.tail) _ _ _ _ ?_
    clear hK K HS
    obtain ⟨g4, hgg⟩ : ∃ g, g = w0.heap.size := ⟨_, rfl⟩
    rw [← hgg] at hHeld ⊢
    obtain ⟨v4, hwn⟩ : ∃ x, x = (w0.alloc (.cells #[.int .u8 129, .int .u8 0, .int .u8 0, .int .u8 0] 5)).drew := ⟨_, rfl⟩
    rw [← hwn] at hHeld ⊢
    clear hgg hwn
    try simp only [Act.put, List.getElem_toArray, List.getElem_cons_zero, List.getElem_cons_succ, List.setIfInBounds_toArray, List.set_cons_zero, List.set_cons_succ]
    refine wpAnyH_take (i := 5) (v := ?_) rfl (by kernel_rfl) (by kernel_rfl) (by kernel_rfl) (fun _ _ _ h => h) (Or.inl ⟨by rfl, ?_⟩) (by assumption) ?_
    rotate_left 1
    · (intro u hSw; have hcv := echo_conv_tt (hSw.head); rw [← HX.out.1] at hcv; clear hSw; go_simp; try (with_reducible rfl))
    try simp only [Act.put, List.getElem_toArray, List.getElem_cons_zero, List.getElem_cons_succ, List.setIfInBounds_toArray, List.set_cons_zero, List.set_cons_succ]
    refine wpAnyH_ready (rs := [7]) (by kernel_rfl) (by simp) ?_
    refine AllReadyH.cons rfl (fun K hK => ?_) AllReadyH.nil
    have HS := Lib.hid hHeld
    clear hHeld
    go_simp
    refine (put16 id _ HX.out.2.2.2).mono ?_
    rintro e w1 ⟨rfl, B1⟩
    rw [← HX.out.2.1]
    simp only []
    refine hK.out _ _ (HS.out.call B1) (fun hHeld => ?_)
    clear hK K HS B1
    try simp only [Act.put, List.getElem_toArray, List.getElem_cons_zero, List.getElem_cons_succ, List.setIfInBounds_toArray, List.set_cons_zero, List.set_cons_succ]
    refine wpAnyH_take (i := 8) (v := ?_) rfl (by kernel_rfl) (by kernel_rfl) (by kernel_rfl) (fun _ _ _ h => h) (Or.inl ⟨by rfl, ?_⟩) (by assumption) ?_
    rotate_left 1
    · (intro u hSw; clear hSw; go_simp; try (with_reducible rfl))
    try simp only [Act.put, List.getElem_toArray, List.getElem_cons_zero, List.getElem_cons_succ, List.setIfInBounds_toArray, List.set_cons_zero, List.set_cons_succ]
    refine wpAnyH_ready (rs := [9]) (by kernel_rfl) (by simp) ?_
    refine AllReadyH.cons rfl (fun K hK => ?_) AllReadyH.nil
    have HS := Lib.hid hHeld
    clear hHeld
    go_simp
    refine (put16 0 _ (by decide)).mono ?_
    rintro e w1 ⟨rfl, B1⟩
    rw [← HX.out.2.2.1]
    simp only []
    refine hK.out _ _ (HS.out.call B1) (fun hHeld => ?_)
    clear hK K HS B1
    try simp only [Act.put, List.getElem_toArray, List.getElem_cons_zero, List.getElem_cons_succ, List.setIfInBounds_toArray, List.set_cons_zero, List.set_cons_succ]
    refine wpAnyH_take (i := 10) (v := ?_) rfl (by kernel_rfl) (by kernel_rfl) (by kernel_rfl) (fun _ _ _ h => h) (Or.inl ⟨by rfl, ?_⟩) (by assumption) ?_
    rotate_left 1
    · (intro u hSw; clear hSw; go_simp; try (with_reducible rfl))
    try simp only [Act.put, List.getElem_toArray, List.getElem_cons_zero, List.getElem_cons_succ, List.setIfInBounds_toArray, List.set_cons_zero, List.set_cons_succ]
    refine wpAnyH_take (i := 12) (v := ?_) rfl (by kernel_rfl) (by kernel_rfl) (by kernel_rfl) (fun _ _ _ h => h) (Or.inl ⟨by rfl, ?_⟩) (by assumption) ?_
    rotate_left 1
    · (intro u hSw; clear hSw; go_simp; try (with_reducible rfl))
    try simp only [Act.put, List.getElem_toArray, List.getElem_cons_zero, List.getElem_cons_succ, List.setIfInBounds_toArray, List.set_cons_zero, List.set_cons_succ]
    refine wpAnyH_ready (rs := [13]) (by kernel_rfl) (by simp) ?_
    refine AllReadyH.cons rfl (fun K hK => ?_) AllReadyH.nil
    have HS := Lib.hid hHeld
    clear hHeld
    go_simp
    refine (HC.out _).mono ?_
    rintro e w1 ⟨rfl, B1⟩
    simp only []
    refine hK.out _ _ (HS.out.call B1) (fun hHeld => ?_)
    clear hK K HS B1
    try simp only [Act.put, List.getElem_toArray, List.getElem_cons_zero, List.getElem_cons_succ, List.setIfInBounds_toArray, List.set_cons_zero, List.set_cons_succ]
    refine wpAnyH_take (i := 14) (v := ?_) rfl (by kernel_rfl) (by kernel_rfl) (by kernel_rfl) (fun _ _ _ h => h) (Or.inl ⟨by rfl, ?_⟩) (by assumption) ?_
    rotate_left 1
    · (intro u hSw; clear hSw; go_simp; try (with_reducible rfl))
    try simp only [Act.put, List.getElem_toArray, List.getElem_cons_zero, List.getElem_cons_succ, List.setIfInBounds_toArray, List.set_cons_zero, List.set_cons_succ]
    refine wpAnyH_take (i := 15) (v := ?_) rfl (by kernel_rfl) (by kernel_rfl) (by kernel_rfl) (fun _ _ _ h => h) (Or.inl ⟨by rfl, ?_⟩) (by assumption) ?_
    rotate_left 1
    · (intro u hSw; clear hSw; go_simp; try (with_reducible rfl))
    try simp only [Act.put, List.getElem_toArray, List.getElem_cons_zero, List.getElem_cons_succ, List.setIfInBounds_toArray, List.set_cons_zero, List.set_cons_succ]
    refine wpAnyH_ready (rs := [16]) (by kernel_rfl) (by simp) ?_
    refine AllReadyH.cons rfl (fun K hK => ?_) AllReadyH.nil
    have HS := Lib.hid hHeld
    clear hHeld
    rw [if_pos (by kernel_rfl)]
    have GN := Lib.hid HS.out.ne
    obtain ⟨cs, hcs, hR⟩ := HS.out.2.1
    refine wp_store_row 30 _ _ rfl R M.cells rfl rfl 30 cs hR info30 hcs (pkOne M) ?_
    have HR := Lib.hid (HS.out.row (cs := M.cells))
    refine hK.out _ _ (HS.out.store (by simp only [List.mem_cons, List.not_mem_nil, or_false]; rintro x (rfl | rfl | rfl); exact GN.out; exact HN.out.2.1; exact HN.out.1) HN.out.2.2 rfl) (fun hHeld => ?_)
    clear hcs hR
    clear hK K HS
    try simp only [Act.put, List.getElem_toArray, List.getElem_cons_zero, List.getElem_cons_succ, List.setIfInBounds_toArray, List.set_cons_zero, List.set_cons_succ]
    refine wpAnyH_take (i := 17) (v := ?_) rfl (by kernel_rfl) (by kernel_rfl) (by kernel_rfl) (fun _ _ _ h => h) (Or.inl ⟨by rfl, ?_⟩) (by assumption) ?_
    rotate_left 1
    · (intro u hSw; clear hSw; go_simp; try (with_reducible rfl))
    try simp only [Act.put, List.getElem_toArray, List.getElem_cons_zero, List.getElem_cons_succ, List.setIfInBounds_toArray, List.set_cons_zero, List.set_cons_succ]
    have HE := Lib.hid hHeld
    clear hHeld
    refine wpAnyH_done (by kernel_rfl) ?_ _
    try simp only [Act.put, List.getElem_toArray, List.getElem_cons_zero, List.getElem_cons_succ, List.setIfInBounds_toArray, List.set_cons_zero, List.set_cons_succ]
    obtain ⟨w5, hw5⟩ : ∃ x, x = World.setRow w1 R M.cells := ⟨_, rfl⟩
    rw [← hw5] at HR HE ⊢
    have D5 : w5.heap[R]? = some (.cells #[.bool M.src.v6, .int .u64 M.src.hi, .int .u64 M.src.lo, .bool M.dst.v6, .int .u64 M.dst.hi, .int .u64 M.dst.lo, .int .u8 M.proto, .int .u8 M.ttl, .string M.data] 30) := HR.out
    obtain ⟨k0, k1, k2, k3, k4, k5, k6, k7, k8⟩ := pkCells D5
    clear D5 HR hw5
    go_wp2_with fail
    refine bodyPost_ret (v := .tuple #[.agg #[.bool M.src.v6, .int .u64 M.src.hi, .int .u64 M.src.lo, .bool M.dst.v6, .int .u64 M.dst.hi, .int .u64 M.dst.lo, .int .u8 M.proto, .int .u8 M.ttl, .string M.data], .int .i64 E]) (by simp [results, Try.results12, go_sem, k0, k1, k2, k3, k4, k5, k6, k7, k8]) rfl ⟨rfl, HE.out.2.2⟩
  case mo10 =>
    refine AllReadyH.cons rfl (fun K hK => ?_) AllReadyH.nil
    have HS := Lib.hid hHeld
    clear hHeld
    go_simp
    refine (put16 id _ HX.out.2.2.2).mono ?_
    rintro e w1 ⟨rfl, B1⟩
    rw [← HX.out.2.1]
    simp only []
    refine hK.out _ _ (HS.out.call B1) (fun hHeld => ?_)
    clear hK K HS B1
    try simp only [Act.put, List.getElem_toArray, List.getElem_cons_zero, List.getElem_cons_succ, List.setIfInBounds_toArray, List.set_cons_zero, List.set_cons_succ]
    refine wpAnyH_ready (rs := [4, 9]) (by kernel_rfl) (by simp) ?_
    refine AllReadyH.cons (i := 4) (o := ?o11) ?ho11 (fun K hK => ?st11) ?mo11
    case ho11 => rfl
    case st11 =>
      have HS := Lib.hid hHeld
      clear hHeld
      go_simp
      refine hK.out _ (w1.alloc (.cells #[.int .u8 129, .int .u8 0, .int .u8 0, .int .u8 0] 5)) (HS.out.alloc _) (fun hHeld => ?_)
      have hHeld : HL [(w1.heap.size, .cells #[.int .u8 129, .int .u8 0, .int .u8 0, .int .u8 0] 5), (B, .cells #[.bool v2, .int .u64 h2, .int .u64 l2] 24), (A, .cells #[.bool true, .int .u64 h1, .int .u64 l1] 24)] R 9 w (w1.alloc (.cells #[.int .u8 129, .int .u8 0, .int .u8 0, .int .u8 0] 5)) := HS.out.made _
      refine wpAnyH_strong (S2 := fun u => HL [(w1.heap.size, .cells #[.int .u8 129, .int .u8 0, .int .u8 0, .int .u8 0] 5), (B, .cells #[.bool v2, .int .u64 h2, .int .u64 l2] 24), (A, .cells #[.bool true, .int .u64 h1, .int .u64 l1] 24)] R 9 w u) (fun u hu => hu.tail) _ _ _ _ ?_
      clear hK K HS
      obtain ⟨g4, hgg⟩ : ∃ g, g = w1.heap.size := ⟨_, rfl⟩
      rw [← hgg] at hHeld ⊢
      obtain ⟨v4, hwn⟩ : ∃ x, x = (w1.alloc (.cells #[.int .u8 129, .int .u8 0, .int .u8 0, .int .u8 0] 5)) := ⟨_, rfl⟩
      rw [← hwn] at hHeld ⊢
      clear hgg hwn
      try simp only [Act.put, List.getElem_toArray, List.getElem_cons_zero, List.getElem_cons_succ, List.setIfInBounds_toArray, List.set_cons_zero, List.set_cons_succ]
      refine wpAnyH_take (i := 5) (v := ?_) rfl (by kernel_rfl) (by kernel_rfl) (by kernel_rfl) (fun _ _ _ h => h) (Or.inl ⟨by rfl, ?_⟩) (by assumption) ?_
      rotate_left 1
      · (intro u hSw; have hcv := echo_conv_tt (hSw.head); rw [← HX.out.1] at hcv; clear hSw; go_simp; try (with_reducible rfl))
      try simp only [Act.put, List.getElem_toArray, List.getElem_cons_zero, List.getElem_cons_succ, List.setIfInBounds_toArray, List.set_cons_zero, List.set_cons_succ]
      refine wpAnyH_take (i := 8) (v := ?_) rfl (by kernel_rfl) (by kernel_rfl) (by kernel_rfl) (fun _ _ _ h => h) (Or.inl ⟨by rfl, ?_⟩) (by assumption) ?_
      rotate_left 1
      · (intro u hSw; clear hSw; go_simp; try (with_reducible rfl))
      try simp only [Act.put, List.getElem_toArray, List.getElem_cons_zero, List.getElem_cons_succ, List.setIfInBounds_toArray, List.set_cons_zero, List.set_cons_succ]
      refine wpAnyH_ready (rs := [9]) (by kernel_rfl) (by simp) ?_
      refine AllReadyH.cons rfl (fun K hK => ?_) AllReadyH.nil
      have HS := Lib.hid hHeld
      clear hHeld
      go_simp
      refine (put16 0 _ (by decide)).mono ?_
      rintro e w1 ⟨rfl, B1⟩
      rw [← HX.out.2.2.1]
      simp only []
      refine hK.out _ _ (HS.out.call B1) (fun hHeld => ?_)
      clear hK K HS B1
      try simp only [Act.put, List.getElem_toArray, List.getElem_cons_zero, List.getElem_cons_succ, List.setIfInBounds_toArray, List.set_cons_zero, List.set_cons_succ]
      refine wpAnyH_take (i := 10) (v := ?_) rfl (by kernel_rfl) (by kernel_rfl) (by kernel_rfl) (fun _ _ _ h => h) (Or.inl ⟨by rfl, ?_⟩) (by assumption) ?_
      rotate_left 1
      · (intro u hSw; clear hSw; go_simp; try (with_reducible rfl))
      try simp only [Act.put, List.getElem_toArray, List.getElem_cons_zero, List.getElem_cons_succ, List.setIfInBounds_toArray, List.set_cons_zero, List.set_cons_succ]
      refine wpAnyH_take (i := 12) (v := ?_) rfl (by kernel_rfl) (by kernel_rfl) (by kernel_rfl) (fun _ _ _ h => h) (Or.inl ⟨by rfl, ?_⟩) (by assumption) ?_
      rotate_left 1
      · (intro u hSw; clear hSw; go_simp; try (with_reducible rfl))
      try simp only [Act.put, List.getElem_toArray, List.getElem_cons_zero, List.getElem_cons_succ, List.setIfInBounds_toArray, List.set_cons_zero, List.set_cons_succ]
      refine wpAnyH_ready (rs := [13]) (by kernel_rfl) (by simp) ?_
      refine AllReadyH.cons rfl (fun K hK => ?_) AllReadyH.nil
      have HS := Lib.hid hHeld
      clear hHeld
      go_simp
      refine (HC.out _).mono ?_
      rintro e w1 ⟨rfl, B1⟩
      simp only []
      refine hK.out _ _ (HS.out.call B1) (fun hHeld => ?_)
      clear hK K HS B1
      try simp only [Act.put, List.getElem_toArray, List.getElem_cons_zero, List.getElem_cons_succ, List.setIfInBounds_toArray, List.set_cons_zero, List.set_cons_succ]
      refine wpAnyH_take (i := 14) (v := ?_) rfl (by kernel_rfl) (by kernel_rfl) (by kernel_rfl) (fun _ _ _ h => h) (Or.inl ⟨by rfl, ?_⟩) (by assumption) ?_
      rotate_left 1
      · (intro u hSw; clear hSw; go_simp; try (with_reducible rfl))
      try simp only [Act.put, List.getElem_toArray, List.getElem_cons_zero, List.getElem_cons_succ, List.setIfInBounds_toArray, List.set_cons_zero, List.set_cons_succ]
      refine wpAnyH_take (i := 15) (v := ?_) rfl (by kernel_rfl) (by kernel_rfl) (by kernel_rfl) (fun _ _ _ h => h) (Or.inl ⟨by rfl, ?_⟩) (by assumption) ?_
      rotate_left 1
      · (intro u hSw; clear hSw; go_simp; try (with_reducible rfl))
      try simp only [Act.put, List.getElem_toArray, List.getElem_cons_zero, List.getElem_cons_succ, List.setIfInBounds_toArray, List.set_cons_zero, List.set_cons_succ]
      refine wpAnyH_ready (rs := [16]) (by kernel_rfl) (by simp) ?_
      refine AllReadyH.cons rfl (fun K hK => ?_) AllReadyH.nil
      have HS := Lib.hid hHeld
      clear hHeld
      rw [if_pos (by kernel_rfl)]
      have GN := Lib.hid HS.out.ne
      obtain ⟨cs, hcs, hR⟩ := HS.out.2.1
      refine wp_store_row 30 _ _ rfl R M.cells rfl rfl 30 cs hR info30 hcs (pkOne M) ?_
      have HR := Lib.hid (HS.out.row (cs := M.cells))
      refine hK.out _ _ (HS.out.store (by simp only [List.mem_cons, List.not_mem_nil, or_false]; rintro x (rfl | rfl | rfl); exact GN.out; exact HN.out.2.1; exact HN.out.1) HN.out.2.2 rfl) (fun hHeld => ?_)
      clear hcs hR
      clear hK K HS
      try simp only [Act.put, List.getElem_toArray, List.getElem_cons_zero, List.getElem_cons_succ, List.setIfInBounds_toArray, List.set_cons_zero, List.set_cons_succ]
      refine wpAnyH_take (i := 17) (v := ?_) rfl (by kernel_rfl) (by kernel_rfl) (by kernel_rfl) (fun _ _ _ h => h) (Or.inl ⟨by rfl, ?_⟩) (by assumption) ?_
      rotate_left 1
      · (intro u hSw; clear hSw; go_simp; try (with_reducible rfl))
      try simp only [Act.put, List.getElem_toArray, List.getElem_cons_zero, List.getElem_cons_succ, List.setIfInBounds_toArray, List.set_cons_zero, List.set_cons_succ]
      have HE := Lib.hid hHeld
      clear hHeld
      refine wpAnyH_done (by kernel_rfl) ?_ _
      try simp only [Act.put, List.getElem_toArray, List.getElem_cons_zero, List.getElem_cons_succ, List.setIfInBounds_toArray, List.set_cons_zero, List.set_cons_succ]
      obtain ⟨w5, hw5⟩ : ∃ x, x = World.setRow w1 R M.cells := ⟨_, rfl⟩
      rw [← hw5] at HR HE ⊢
      have D5 : w5.heap[R]? = some (.cells #[.bool M.src.v6, .int .u64 M.src.hi, .int .u64 M.src.lo, .bool M.dst.v6, .int .u64 M.dst.hi, .int .u64 M.dst.lo, .int .u8 M.proto, .int .u8 M.ttl, .string M.data] 30) := HR.out
      obtain ⟨k0, k1, k2, k3, k4, k5, k6, k7, k8⟩ := pkCells D5
      clear D5 HR hw5
      go_wp2_with fail
      refine bodyPost_ret (v := .tuple #[.agg #[.bool M.src.v6, .int .u64 M.src.hi, .int .u64 M.src.lo, .bool M.dst.v6, .int .u64 M.dst.hi, .int .u64 M.dst.lo, .int .u8 M.proto, .int .u8 M.ttl, .string M.data], .int .i64 E]) (by simp [results, Try.results12, go_sem, k0, k1, k2, k3, k4, k5, k6, k7, k8]) rfl ⟨rfl, HE.out.2.2⟩
    case mo11 =>
      refine AllReadyH.cons rfl (fun K hK => ?_) AllReadyH.nil
      have HS := Lib.hid hHeld
      clear hHeld
      go_simp
      refine (put16 0 _ (by decide)).mono ?_
      rintro e w1 ⟨rfl, B1⟩
      rw [← HX.out.2.2.1]
      simp only []
      refine hK.out _ _ (HS.out.call B1) (fun hHeld => ?_)
      clear hK K HS B1
      try simp only [Act.put, List.getElem_toArray, List.getElem_cons_zero, List.getElem_cons_succ, List.setIfInBounds_toArray, List.set_cons_zero, List.set_cons_succ]
      refine wpAnyH_ready (rs := [4]) (by kernel_rfl) (by simp) ?_
      refine AllReadyH.cons rfl (fun K hK => ?_) AllReadyH.nil
      have HS := Lib.hid hHeld
      clear hHeld
      go_simp
      refine hK.out _ (w1.alloc (.cells #[.int .u8 129, .int .u8 0, .int .u8 0, .int .u8 0] 5)) (HS.out.alloc _) (fun hHeld => ?_)
      have hHeld : HL [(w1.heap.size, .cells #[.int .u8 129, .int .u8 0, .int .u8 0, .int .u8 0] 5), (B, .cells #[.bool v2, .int .u64 h2, .int .u64 l2] 24), (A, .cells #[.bool true, .int .u64 h1, .int .u64 l1] 24)] R 9 w (w1.alloc (.cells #[.int .u8 129, .int .u8 0, .int .u8 0, .int .u8 0] 5)) := HS.out.made _
      refine wpAnyH_strong (S2 := fun u => HL [(w1.heap.size, .cells #[.int .u8 129, .int .u8 0, .int .u8 0, .int .u8 0] 5), (B, .cells #[.bool v2, .int .u64 h2, .int .u64 l2] 24), (A, .cells #[.bool true, .int .u64 h1, .int .u64 l1] 24)] R 9 w u) (fun u hu => hu.tail) _ _ _ _ ?_
      clear hK K HS
      obtain ⟨g4, hgg⟩ : ∃ g, g = w1.heap.size := ⟨_, rfl⟩
      rw [← hgg] at hHeld ⊢
      obtain ⟨v4, hwn⟩ : ∃ x, x = (w1.alloc (.cells #[.int .u8 129, .int .u8 0, .int .u8 0, .int .u8 0] 5)) := ⟨_, rfl⟩
      rw [← hwn] at hHeld ⊢
      clear hgg hwn
      try simp only [Act.put, List.getElem_toArray, List.getElem_cons_zero, List.getElem_cons_succ, List.setIfInBounds_toArray, List.set_cons_zero, List.set_cons_succ]
      refine wpAnyH_take (i := 5) (v := ?_) rfl (by kernel_rfl) (by kernel_rfl) (by kernel_rfl) (fun _ _ _ h => h) (Or.inl ⟨by rfl, ?_⟩) (by assumption) ?_
      rotate_left 1
      · (intro u hSw; have hcv := echo_conv_tt (hSw.head); rw [← HX.out.1] at hcv; clear hSw; go_simp; try (with_reducible rfl))
      try simp only [Act.put, List.getElem_toArray, List.getElem_cons_zero, List.getElem_cons_succ, List.setIfInBounds_toArray, List.set_cons_zero, List.set_cons_succ]
      refine wpAnyH_take (i := 8) (v := ?_) rfl (by kernel_rfl) (by kernel_rfl) (by kernel_rfl) (fun _ _ _ h => h) (Or.inl ⟨by rfl, ?_⟩) (by assumption) ?_
      rotate_left 1
      · (intro u hSw; clear hSw; go_simp; try (with_reducible rfl))
      try simp only [Act.put, List.getElem_toArray, List.getElem_cons_zero, List.getElem_cons_succ, List.setIfInBounds_toArray, List.set_cons_zero, List.set_cons_succ]
      refine wpAnyH_take (i := 10) (v := ?_) rfl (by kernel_rfl) (by kernel_rfl) (by kernel_rfl) (fun _ _ _ h => h) (Or.inl ⟨by rfl, ?_⟩) (by assumption) ?_
      rotate_left 1
      · (intro u hSw; clear hSw; go_simp; try (with_reducible rfl))
      try simp only [Act.put, List.getElem_toArray, List.getElem_cons_zero, List.getElem_cons_succ, List.setIfInBounds_toArray, List.set_cons_zero, List.set_cons_succ]
      refine wpAnyH_take (i := 12) (v := ?_) rfl (by kernel_rfl) (by kernel_rfl) (by kernel_rfl) (fun _ _ _ h => h) (Or.inl ⟨by rfl, ?_⟩) (by assumption) ?_
      rotate_left 1
      · (intro u hSw; clear hSw; go_simp; try (with_reducible rfl))
      try simp only [Act.put, List.getElem_toArray, List.getElem_cons_zero, List.getElem_cons_succ, List.setIfInBounds_toArray, List.set_cons_zero, List.set_cons_succ]
      refine wpAnyH_ready (rs := [13]) (by kernel_rfl) (by simp) ?_
      refine AllReadyH.cons rfl (fun K hK => ?_) AllReadyH.nil
      have HS := Lib.hid hHeld
      clear hHeld
      go_simp
      refine (HC.out _).mono ?_
      rintro e w1 ⟨rfl, B1⟩
      simp only []
      refine hK.out _ _ (HS.out.call B1) (fun hHeld => ?_)
      clear hK K HS B1
      try simp only [Act.put, List.getElem_toArray, List.getElem_cons_zero, List.getElem_cons_succ, List.setIfInBounds_toArray, List.set_cons_zero, List.set_cons_succ]
      refine wpAnyH_take (i := 14) (v := ?_) rfl (by kernel_rfl) (by kernel_rfl) (by kernel_rfl) (fun _ _ _ h => h) (Or.inl ⟨by rfl, ?_⟩) (by assumption) ?_
      rotate_left 1
      · (intro u hSw; clear hSw; go_simp; try (with_reducible rfl))
      try simp only [Act.put, List.getElem_toArray, List.getElem_cons_zero, List.getElem_cons_succ, List.setIfInBounds_toArray, List.set_cons_zero, List.set_cons_succ]
      refine wpAnyH_take (i := 15) (v := ?_) rfl (by kernel_rfl) (by kernel_rfl) (by kernel_rfl) (fun _ _ _ h => h) (Or.inl ⟨by rfl, ?_⟩) (by assumption) ?_
      rotate_left 1
      · (intro u hSw; clear hSw; go_simp; try (with_reducible rfl))
      try simp only [Act.put, List.getElem_toArray, List.getElem_cons_zero, List.getElem_cons_succ, List.setIfInBounds_toArray, List.set_cons_zero, List.set_cons_succ]
      refine wpAnyH_ready (rs := [16]) (by kernel_rfl) (by simp) ?_
      refine AllReadyH.cons rfl (fun K hK => ?_) AllReadyH.nil
      have HS := Lib.hid hHeld
      clear hHeld
      rw [if_pos (by kernel_rfl)]
      have GN := Lib.hid HS.out.ne
      obtain ⟨cs, hcs, hR⟩ := HS.out.2.1
      refine wp_store_row 30 _ _ rfl R M.cells rfl rfl 30 cs hR info30 hcs (pkOne M) ?_
      have HR := Lib.hid (HS.out.row (cs := M.cells))
      refine hK.out _ _ (HS.out.store (by simp only [List.mem_cons, List.not_mem_nil, or_false]; rintro x (rfl | rfl | rfl); exact GN.out; exact HN.out.2.1; exact HN.out.1) HN.out.2.2 rfl) (fun hHeld => ?_)
      clear hcs hR
      clear hK K HS
      try simp only [Act.put, List.getElem_toArray, List.getElem_cons_zero, List.getElem_cons_succ, List.setIfInBounds_toArray, List.set_cons_zero, List.set_cons_succ]
      refine wpAnyH_take (i := 17) (v := ?_) rfl (by kernel_rfl) (by kernel_rfl) (by kernel_rfl) (fun _ _ _ h => h) (Or.inl ⟨by rfl, ?_⟩) (by assumption) ?_
      rotate_left 1
      · (intro u hSw; clear hSw; go_simp; try (with_reducible rfl))
      try simp only [Act.put, List.getElem_toArray, List.getElem_cons_zero, List.getElem_cons_succ, List.setIfInBounds_toArray, List.set_cons_zero, List.set_cons_succ]
      have HE := Lib.hid hHeld
      clear hHeld
      refine wpAnyH_done (by kernel_rfl) ?_ _
      try simp only [Act.put, List.getElem_toArray, List.getElem_cons_zero, List.getElem_cons_succ, List.setIfInBounds_toArray, List.set_cons_zero, List.set_cons_succ]
      obtain ⟨w5, hw5⟩ : ∃ x, x = World.setRow w1 R M.cells := ⟨_, rfl⟩
      rw [← hw5] at HR HE ⊢
      have D5 : w5.heap[R]? = some (.cells #[.bool M.src.v6, .int .u64 M.src.hi, .int .u64 M.src.lo, .bool M.dst.v6, .int .u64 M.dst.hi, .int .u64 M.dst.lo, .int .u8 M.proto, .int .u8 M.ttl, .string M.data] 30) := HR.out
      obtain ⟨k0, k1, k2, k3, k4, k5, k6, k7, k8⟩ := pkCells D5
      clear D5 HR hw5
      go_wp2_with fail
      refine bodyPost_ret (v := .tuple #[.agg #[.bool M.src.v6, .int .u64 M.src.hi, .int .u64 M.src.lo, .bool M.dst.v6, .int .u64 M.dst.hi, .int .u64 M.dst.lo, .int .u8 M.proto, .int .u8 M.ttl, .string M.data], .int .i64 E]) (by simp [results, Try.results12, go_sem, k0, k1, k2, k3, k4, k5, k6, k7, k8]) rfl ⟨rfl, HE.out.2.2⟩
theorem echoMake_any (a b : Ad) (id : Nat) (r : Bool) (d : ByteArray) (w : World) (ha : a.Ok) (hb : b.Ok) (hf : id < 65536) (hd : d.size ≤ 9000) :
    Calls Try.prog 12 #[.agg #[.bool a.v6, .int .u64 a.hi, .int .u64 a.lo], .agg #[.bool b.v6, .int .u64 b.hi, .int .u64 b.lo], .int .u16 id, .bool r, .string d] w fun e w' =>
      e = .returned (.tuple #[(madeP ⟨a, b, echoP a.v6, 64, echoD (echoK a.v6 r) id d⟩ 2).val, .int .i64 (mayE ⟨a, b, echoP a.v6, 64, echoD (echoK a.v6 r) id d⟩)]) ∧ Below w.heap.size w w' := by
  obtain ⟨v1, h1, l1⟩ := a
  cases v1 <;> cases r
  · exact echoMake_ff h1 l1 b id d w ha hb hf hd
  · exact echoMake_ft h1 l1 b id d w ha hb hf hd
  · exact echoMake_tf h1 l1 b id d w ha hb hf hd
  · exact echoMake_tt h1 l1 b id d w ha hb hf hd

end Go.Proofs.Ytgonakpoflacoaa
