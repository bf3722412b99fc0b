/-
  A packet made: its sum put to its place.
-/
import Derived.Test.YtgonakpoflacoaaAsk
set_option linter.unusedVariables false
set_option linter.unusedSimpArgs false
namespace Go.Proofs.Ytgonakpoflacoaa
open Go.RowKit

def Pk.zero : Pk := ⟨⟨false, 0, 0⟩, ⟨false, 0, 0⟩, 0, 0, .empty⟩
def sumX (p : Pk) : Nat := if sumP p = 0 ∧ p.proto = 17 then 65535 else sumP p
def putS (p : Pk) (at_ : Nat) : ByteArray := p.data.extract 0 at_ ++ beS (sumX p) 2 ++ p.data.extract (at_ + 2) p.data.size
def madeP (p : Pk) (at_ : Nat) : Pk := if mayE p = 0 then { p with data := putS p at_ } else Pk.zero
theorem under30 : ∃ fs, Try.prog.underlying 30 = some (.struct fs) := by
  have h : (match Try.prog.underlying 30 with | some (.struct _) => true | _ => false) = true := by kernel_rfl
  cases hq : Try.prog.underlying 30 with
  | none => simp [hq] at h
  | some d => cases d <;> simp [hq] at h; exact ⟨_, rfl⟩
theorem pkOne (p : Pk) : p.cells.all (·.oneCell') = true := by simp [Pk.cells, Value.oneCell']
theorem info30 : (Try.prog.info? 30).map (·.size) = some 9 := by kernel_rfl
theorem und9x : True := trivial
theorem onlyRow (b : Nat) (w : World) (cs : Array Value) : Only b w (w.setRow b cs) := ⟨rfl, rfl, rfl, by simp [World.setRow], fun j _ hb => setRow_other w b j cs hb⟩
theorem four {w w1 : World} {a b c d : Obj} (h : Below ((((w.alloc a).alloc b).alloc c).alloc d).heap.size ((((w.alloc a).alloc b).alloc c).alloc d) w1) :
    w1.heap[w.heap.size + 1 + 1]? = some c ∧ w1.heap[w.heap.size + 1 + 1 + 1]? = some d ∧ Below w.heap.size w w1 := by
  have s2 : ((w.alloc a).alloc b).heap.size = w.heap.size + 1 + 1 := by simp
  have s3 : (((w.alloc a).alloc b).alloc c).heap.size = w.heap.size + 1 + 1 + 1 := by simp
  refine ⟨?_, ?_, ?_⟩
  · rw [h.block _ (by simp), heap_alloc_old _ _ (by rw [s3]; omega), ← s2]
    exact heap_alloc_last _ _
  · rw [h.block _ (by simp), ← s3]
    exact heap_alloc_last _ _
  · exact (((((Below.refl w.heap.size w).alloc (Nat.le_refl _) a).alloc (by simp) b).alloc (by simp; omega) c).alloc (by simp; omega) d).trans (h.mono (by simp; omega))
theorem sumP_le (p : Pk) : sumP p ≤ 65535 := by unfold sumP sumV; omega
theorem sumX_le (p : Pk) : sumX p ≤ 65535 := by
  unfold sumX
  split
  · omega
  · exact sumP_le p

set_option maxHeartbeats 8000000 in
set_option maxRecDepth 100000 in
theorem made_any (a b : Ad) (pr k : Nat) (d : ByteArray) (w : World) (ha : a.Ok) (hb : b.Ok) (hp : pr < 256) (hk : k + 2 ≤ d.size) (hd : d.size ≤ 10000) :
    Calls Try.prog 21 #[a.val, b.val, .int .u8 pr, .int .i64 k, .string d] w fun e w' => e = .returned (.tuple #[(madeP ⟨a, b, pr, 64, d⟩ k).val, .int .i64 (mayE ⟨a, b, pr, 64, d⟩)]) ∧ Below w.heap.size w w' := by
  obtain ⟨v1, h1, l1⟩ := a
  obtain ⟨v2, h2, l2⟩ := b
  obtain ⟨p, hpp⟩ : ∃ p : Pk, p = ⟨⟨v1, h1, l1⟩, ⟨v2, h2, l2⟩, pr, 64, d⟩ := ⟨_, rfl⟩
  have hpv : p.val = .agg #[.bool v1, .int .u64 h1, .int .u64 l1, .bool v2, .int .u64 h2, .int .u64 l2, .int .u8 pr, .int .u8 64, .string d] := by rw [hpp]; rfl
  have hok : p.Ok := by rw [hpp]; exact ⟨ha, hb, hp, (by decide : 64 < 256)⟩
  have hpd : p.data.size ≤ 10000 := by rw [hpp]; exact hd
  have C1 : ∀ u, Calls Try.prog 26 #[.agg #[.bool v1, .int .u64 h1, .int .u64 l1, .bool v2, .int .u64 h2, .int .u64 l2, .int .u8 pr, .int .u8 64, .string d]] u fun e w' => e = .returned (.int .i64 (mayE p)) ∧ Below u.heap.size u w' := fun u => by rw [← hpv]; exact may_any p u (by omega)
  have C2 : ∀ u, Calls Try.prog 33 #[.agg #[.bool v1, .int .u64 h1, .int .u64 l1, .bool v2, .int .u64 h2, .int .u64 l2, .int .u8 pr, .int .u8 64, .string d]] u fun e w' => e = .returned (.int .u16 (sumP p)) ∧ Below u.heap.size u w' := fun u => by rw [← hpv]; exact sum_any p u hok hpd
  have HC := Lib.hid (And.intro C1 C2)
  have HP := Lib.hid hpp
  have HK := Lib.hid (And.intro hk hd)
  rw [← hpp]
  show Calls Try.prog 21 #[.agg #[.bool v1, .int .u64 h1, .int .u64 l1], .agg #[.bool v2, .int .u64 h2, .int .u64 l2], .int .u8 pr, .int .i64 k, .string d] w _
  clear C1 C2 hpp hpv hok hpd ha hb hk hd hp
  obtain ⟨E, hE⟩ : ∃ E, E = mayE p := ⟨_, rfl⟩
  have HE := Lib.hid hE
  rw [← hE]
  clear hE
  obtain ⟨fs, hfs⟩ := under30
  have U30 := Lib.hid hfs
  clear hfs
  go_enter Try.func21, Try.ntmps21
  go_wp2_with fail
  refine (HC.out.1 _).mono ?_
  rintro e w1 ⟨rfl, B1⟩
  rw [← HE.out]
  simp only []
  have F4 := four B1
  obtain ⟨P, hP⟩ : ∃ P, P = w.heap.size + 1 + 1 + 1 := ⟨_, rfl⟩
  obtain ⟨R, hR⟩ : ∃ R, R = w.heap.size + 1 + 1 := ⟨_, rfl⟩
  have hPR : P ≠ R ∧ R ≠ P ∧ w.heap.size ≤ P ∧ w.heap.size ≤ R := by omega
  rw [← hP, ← hR] at F4
  rw [← hP, ← hR]
  have H1 := Lib.hid (And.intro F4 hPR)
  clear B1 F4 hP hR hPR
  by_cases h0 : E = 0
  · subst h0
    go_wp2_with (first | (refine Go.wpList_load_row rfl 30 _ rfl P rfl 30 _ (0, 0) _ H1.out.1.2.1 U30.out rfl info30 ?_))
    refine (HC.out.2 _).mono ?_
    rintro e w2 ⟨rfl, B2⟩
    obtain ⟨X, hX⟩ : ∃ X, X = sumP p := ⟨_, rfl⟩
    rw [← hX]
    have H2 := Lib.hid (And.intro ((B2.block _ (lt_of_heap H1.out.1.1)).trans H1.out.1.1) (And.intro ((B2.block _ (lt_of_heap H1.out.1.2.1)).trans H1.out.1.2.1) (H1.out.1.2.2.trans (B2.mono H1.out.1.2.2.size))))
    have HX := Lib.hid hX
    have xle : X ≤ 65535 := by rw [hX]; exact sumP_le p
    clear B2 hX
    simp only []
    by_cases hx0 : X = 0
    · by_cases hu : pr = 17
      · have HQ := Lib.hid (show sumX p = 65535 by unfold sumX; rw [if_pos ⟨by rw [← HX.out]; exact hx0, by rw [HP.out]; exact hu⟩])
        subst hx0
        have q17 : ((pr : Int) == 17) = true := byEq (b := 17) hu
        clear hu xle
        obtain ⟨Y, hY⟩ : ∃ Y : Nat, Y = 65535 := ⟨_, rfl⟩
        have HY := Lib.hid (show sumX p = Y ∧ Y < 65536 by rw [HQ.out, hY]; exact ⟨rfl, by decide⟩)
        go_upto_region 8 with (fail)
        rw [show (Value.int .u16 65535) = .int .u16 (Y : Int) by rw [hY]; rfl]
        clear hY
        obtain ⟨K2, hK2⟩ : ∃ K2, K2 = k + 2 := ⟨_, rfl⟩
        have e2 : (k : Int) + 2 = K2 := by omega
        have e3 : IntKind.i64.wrap (K2 : Int) = K2 := IntWalk.i64_in _ (by have := HK.out; omega)
        obtain ⟨A0, hA0⟩ : ∃ A, A = d.extract 0 k := ⟨_, rfl⟩
        obtain ⟨A2, hA2⟩ : ∃ A, A = d.extract K2 d.size := ⟨_, rfl⟩
        obtain ⟨XS, hXS⟩ : ∃ A, A = beS Y 2 := ⟨_, rfl⟩
        have hsl1 : ∀ u, (Instr.slice 9 (.string d) none (some (.int .i64 k)) none).run Try.prog u = .ok (.string A0) u := fun u => by
          rw [run_slice_string_to_if u 9 d .i64 k Try.underlying9, if_pos (by have := HK.out; omega), Int.toNat_natCast, hA0]
        have hsl2 : ∀ u, (Instr.slice 9 (.string d) (some (.int .i64 K2)) none none).run Try.prog u = .ok (.string A2) u := fun u => by
          rw [run_slice_string_from_if u 9 d .i64 K2 Try.underlying9, if_pos (by have := HK.out; omega), Int.toNat_natCast, hA2]
        have z0 : A0.size ≤ 10000 := by rw [hA0, ByteArray.size_extract]; have := HK.out; omega
        have z2 : A2.size ≤ 10000 := by rw [hA2, ByteArray.size_extract]; have := HK.out; omega
        have zx : XS.size = 2 := by rw [hXS]; exact beS_size _ _
        have a1 := addS A0 XS (by omega)
        have a2 := addS (A0 ++ XS) A2 (by rw [ByteArray.size_append]; omega)
        obtain ⟨T, hT⟩ : ∃ T, T = A0 ++ XS ++ A2 := ⟨_, rfl⟩
        rw [← hT] at a2
        have HT := Lib.hid (show T = putS p k by unfold putS; rw [hT, hA0, hA2, hXS, hK2, HY.out.1, HP.out])
        have HXS := Lib.hid hXS
        have HY2 := Lib.hid HY.out.2
        clear hT hA0 hA2 hXS hK2 z0 z2 zx HY
        refine wp_region_any (by kernel_rfl) ?_
        change wpAny _ _ _ _ _ _ _ (World.drew _)
        refine wpAny_take (i := 0) (v := ?_) rfl (by kernel_rfl) (by kernel_rfl) (by kernel_rfl) (fun _ _ _ h => h) (Or.inl ⟨by rfl, ?_⟩) ?_
        rotate_left 1
        · (intro w; go_simp; try (with_reducible rfl))
        try simp only [Act.put, List.setIfInBounds_toArray, List.set_cons_zero, List.set_cons_succ]
        refine wpAny_take (i := 1) (v := ?_) rfl (by kernel_rfl) (by kernel_rfl) (by kernel_rfl) (fun _ _ _ h => h) (Or.inl ⟨by rfl, ?_⟩) ?_
        rotate_left 1
        · (intro w; go_simp; try (with_reducible rfl))
        try simp only [Act.put, List.setIfInBounds_toArray, List.set_cons_zero, List.set_cons_succ]
        refine wpAny_take (i := 2) (v := ?_) rfl (by kernel_rfl) (by kernel_rfl) (by kernel_rfl) (fun _ _ _ h => h) (Or.inl ⟨by rfl, ?_⟩) ?_
        rotate_left 1
        · (intro w; go_simp; try (with_reducible rfl))
        try simp only [Act.put, List.setIfInBounds_toArray, List.set_cons_zero, List.set_cons_succ]
        refine wpAny_take (i := 3) (v := ?_) rfl (by kernel_rfl) (by kernel_rfl) (by kernel_rfl) (fun _ _ _ h => h) (Or.inl ⟨by rfl, ?_⟩) ?_
        rotate_left 1
        · (intro w; go_simp; try (with_reducible rfl))
        try simp only [Act.put, List.setIfInBounds_toArray, List.set_cons_zero, List.set_cons_succ]
        refine wpAny_take (i := 6) (v := ?_) rfl (by kernel_rfl) (by kernel_rfl) (by kernel_rfl) (fun _ _ _ h => h) (Or.inl ⟨by rfl, ?_⟩) ?_
        rotate_left 1
        · (intro w; go_simp; try (with_reducible rfl))
        try simp only [Act.put, List.setIfInBounds_toArray, List.set_cons_zero, List.set_cons_succ]
        refine wpAny_take (i := 7) (v := ?_) rfl (by kernel_rfl) (by kernel_rfl) (by kernel_rfl) (fun _ _ _ h => h) (Or.inl ⟨by rfl, ?_⟩) ?_
        rotate_left 1
        · (intro w; go_simp; try (with_reducible rfl))
        try simp only [Act.put, List.setIfInBounds_toArray, List.set_cons_zero, List.set_cons_succ]
        refine wpAny_take (i := 8) (v := ?_) rfl (by kernel_rfl) (by kernel_rfl) (by kernel_rfl) (fun _ _ _ h => h) (Or.inl ⟨by rfl, ?_⟩) ?_
        rotate_left 1
        · (intro w; go_simp; try (with_reducible rfl))
        try simp only [Act.put, List.setIfInBounds_toArray, List.set_cons_zero, List.set_cons_succ]
        refine wpAny_take (i := 9) (v := ?_) rfl (by kernel_rfl) (by kernel_rfl) (by kernel_rfl) (fun _ _ _ h => h) (Or.inl ⟨by rfl, ?_⟩) ?_
        rotate_left 1
        · (intro w; go_simp; try (with_reducible rfl))
        try simp only [Act.put, List.setIfInBounds_toArray, List.set_cons_zero, List.set_cons_succ]
        refine wpAny_ready (rs := [4]) (by kernel_rfl) (by simp) ?_
        refine AllReady.cons rfl (fun K hK => ?_) AllReady.nil
        go_simp
        refine (put16 Y _ HY2.out).mono ?_
        rintro e w3 ⟨rfl, B3⟩
        rw [← HXS.out]
        have D3P : w3.heap[P]? = some (.cells #[.bool v1, .int .u64 h1, .int .u64 l1, .bool v2, .int .u64 h2, .int .u64 l2, .int .u8 pr, .int .u8 64, .string d] 30) := (B3.block P (lt_of_heap H2.out.2.1)).trans H2.out.2.1
        have D3R : w3.heap[R]? = some (.cells #[.bool false, .int .u64 0, .int .u64 0, .bool false, .int .u64 0, .int .u64 0, .int .u8 0, .int .u8 0, .string .empty] 30) := (B3.block R (lt_of_heap H2.out.1)).trans H2.out.1
        have H3 := Lib.hid (And.intro D3P (And.intro D3R (H2.out.2.2.drew.trans (B3.mono H2.out.2.2.size))))
        obtain ⟨_, _, _, _, _, _, _, _, k8⟩ := pkCells D3P
        have f8 : w3.frozen? ⟨P, 8, none⟩ = false := by simp [World.frozen?, D3P]
        clear B3 D3P D3R
        simp only []
        refine hK _ _ ?_
        clear hK K
        try simp only [Act.put, List.setIfInBounds_toArray, List.set_cons_zero, List.set_cons_succ]
        refine wpAny_take (i := 5) (v := ?_) rfl (by kernel_rfl) (by kernel_rfl) (by kernel_rfl) (fun _ _ _ h => h) (Or.inl ⟨by rfl, ?_⟩) ?_
        rotate_left 1
        · (intro w; go_simp; try (with_reducible rfl))
        try simp only [Act.put, List.setIfInBounds_toArray, List.set_cons_zero, List.set_cons_succ]
        refine wpAny_take (i := 10) (v := ?_) rfl (by kernel_rfl) (by kernel_rfl) (by kernel_rfl) (fun _ _ _ h => h) (Or.inl ⟨by rfl, ?_⟩) ?_
        rotate_left 1
        · (intro w; go_simp; try (with_reducible rfl))
        try simp only [Act.put, List.setIfInBounds_toArray, List.set_cons_zero, List.set_cons_succ]
        refine wpAny_take (i := 11) (v := ?_) rfl (by kernel_rfl) (by kernel_rfl) (by kernel_rfl) (fun _ _ _ h => h) (Or.inl ⟨by rfl, ?_⟩) ?_
        rotate_left 1
        · (intro w; go_simp; try (with_reducible rfl))
        try simp only [Act.put, List.setIfInBounds_toArray, List.set_cons_zero, List.set_cons_succ]
        refine wpAny_ready (rs := [12]) (by kernel_rfl) (by simp) ?_
        refine AllReady.cons rfl (fun K hK => ?_) AllReady.nil
        go_simp
        refine hK _ _ ?_
        clear hK K
        try simp only [Act.put, List.setIfInBounds_toArray, List.set_cons_zero, List.set_cons_succ]
        refine wpAny_done (by kernel_rfl) ?_ _
        try simp only [Act.put, List.setIfInBounds_toArray, List.set_cons_zero, List.set_cons_succ]
        have D5P : (w3.setCell ⟨P, 8, none⟩ (.string T)).heap[P]? = some (.cells #[.bool v1, .int .u64 h1, .int .u64 l1, .bool v2, .int .u64 h2, .int .u64 l2, .int .u8 pr, .int .u8 64, .string T] 30) := by simp [World.setCell, Array.getElem?_modify, H3.out.1]
        have D5R : (w3.setCell ⟨P, 8, none⟩ (.string T)).heap[R]? = some (.cells #[.bool false, .int .u64 0, .int .u64 0, .bool false, .int .u64 0, .int .u64 0, .int .u8 0, .int .u8 0, .string .empty] 30) := by simp [World.setCell, Array.getElem?_modify, H3.out.2.1, H1.out.2.1]
        have B5 := H3.out.2.2.setCell (p := ⟨P, 8, none⟩) H1.out.2.2.2.1 (.string T)
        obtain ⟨w5, hw5⟩ : ∃ uu, uu = w3.setCell ⟨P, 8, none⟩ (.string T) := ⟨_, rfl⟩
        rw [← hw5] at D5P D5R B5
        rw [← hw5]
        have H5 := Lib.hid (And.intro D5P (And.intro D5R B5))
        clear D5P D5R B5 hw5 k8 f8 hsl1 hsl2 a1 a2 e2 e3
        go_wp2_with (first | (refine Go.wpList_load_row rfl 30 _ rfl P rfl 30 _ (0, 0) _ H5.out.1 U30.out rfl info30 ?_) | (refine Go.wpList_store_row rfl 30 _ _ rfl R #[.bool v1, .int .u64 h1, .int .u64 l1, .bool v2, .int .u64 h2, .int .u64 l2, .int .u8 pr, .int .u8 64, .string T] rfl rfl 30 _ H5.out.2.1 info30 rfl (by simp [Value.oneCell']) ?_))
        have D6 := setRow_heap w5 R _ #[.bool v1, .int .u64 h1, .int .u64 l1, .bool v2, .int .u64 h2, .int .u64 l2, .int .u8 pr, .int .u8 64, .string T] _ _ H5.out.2.1
        have BW := H5.out.2.2.trans ((onlyRow R w5 #[.bool v1, .int .u64 h1, .int .u64 l1, .bool v2, .int .u64 h2, .int .u64 l2, .int .u8 pr, .int .u8 64, .string T]).below H1.out.2.2.2.2 H5.out.2.2.size)
        obtain ⟨w6, hw6⟩ : ∃ uu, uu = w5.setRow R #[.bool v1, .int .u64 h1, .int .u64 l1, .bool v2, .int .u64 h2, .int .u64 l2, .int .u8 pr, .int .u8 64, .string T] := ⟨_, rfl⟩
        rw [← hw6] at D6 BW
        rw [← hw6]
        obtain ⟨k0, k1, k2, k3, k4, k5, k6, k7, k8⟩ := pkCells D6
        have HM := Lib.hid (show madeP p k = { p with data := T } by unfold madeP; rw [if_pos HE.out.symm, HT.out])
        have HZ := Lib.hid BW
        clear BW D6 hw6
        refine bodyPost_ret (v := .tuple #[.agg #[.bool v1, .int .u64 h1, .int .u64 l1, .bool v2, .int .u64 h2, .int .u64 l2, .int .u8 pr, .int .u8 64, .string T], .int .i64 0]) (by simp [results, Try.results21, go_sem, k0, k1, k2, k3, k4, k5, k6, k7, k8]) rfl ⟨?_, HZ.out⟩
        rw [HM.out, HP.out]
        rfl
      · have HQ := Lib.hid (show sumX p = X by unfold sumX; rw [if_neg (fun h => hu (by have := h.2; rw [HP.out] at this; exact this))]; exact HX.out.symm)
        have HY := Lib.hid (show sumX p = X ∧ X < 65536 from ⟨HQ.out, by omega⟩)
        obtain ⟨Y, hYX⟩ : ∃ Y, Y = X := ⟨_, rfl⟩
        rw [← hYX] at HY
        subst hx0
        have q17 : ((pr : Int) == 17) = false := byNe (b := 17) hu
        clear hu xle
        go_upto_region 8 with (fail)
        rw [show (Value.int .u16 ((0 : Nat) : Int)) = .int .u16 (Y : Int) by rw [hYX]]
        clear hYX
        obtain ⟨K2, hK2⟩ : ∃ K2, K2 = k + 2 := ⟨_, rfl⟩
        have e2 : (k : Int) + 2 = K2 := by omega
        have e3 : IntKind.i64.wrap (K2 : Int) = K2 := IntWalk.i64_in _ (by have := HK.out; omega)
        obtain ⟨A0, hA0⟩ : ∃ A, A = d.extract 0 k := ⟨_, rfl⟩
        obtain ⟨A2, hA2⟩ : ∃ A, A = d.extract K2 d.size := ⟨_, rfl⟩
        obtain ⟨XS, hXS⟩ : ∃ A, A = beS Y 2 := ⟨_, rfl⟩
        have hsl1 : ∀ u, (Instr.slice 9 (.string d) none (some (.int .i64 k)) none).run Try.prog u = .ok (.string A0) u := fun u => by
          rw [run_slice_string_to_if u 9 d .i64 k Try.underlying9, if_pos (by have := HK.out; omega), Int.toNat_natCast, hA0]
        have hsl2 : ∀ u, (Instr.slice 9 (.string d) (some (.int .i64 K2)) none none).run Try.prog u = .ok (.string A2) u := fun u => by
          rw [run_slice_string_from_if u 9 d .i64 K2 Try.underlying9, if_pos (by have := HK.out; omega), Int.toNat_natCast, hA2]
        have z0 : A0.size ≤ 10000 := by rw [hA0, ByteArray.size_extract]; have := HK.out; omega
        have z2 : A2.size ≤ 10000 := by rw [hA2, ByteArray.size_extract]; have := HK.out; omega
        have zx : XS.size = 2 := by rw [hXS]; exact beS_size _ _
        have a1 := addS A0 XS (by omega)
        have a2 := addS (A0 ++ XS) A2 (by rw [ByteArray.size_append]; omega)
        obtain ⟨T, hT⟩ : ∃ T, T = A0 ++ XS ++ A2 := ⟨_, rfl⟩
        rw [← hT] at a2
        have HT := Lib.hid (show T = putS p k by unfold putS; rw [hT, hA0, hA2, hXS, hK2, HY.out.1, HP.out])
        have HXS := Lib.hid hXS
        have HY2 := Lib.hid HY.out.2
        clear hT hA0 hA2 hXS hK2 z0 z2 zx HY
        refine wp_region_any (by kernel_rfl) ?_
        change wpAny _ _ _ _ _ _ _ (World.drew _)
        refine wpAny_take (i := 0) (v := ?_) rfl (by kernel_rfl) (by kernel_rfl) (by kernel_rfl) (fun _ _ _ h => h) (Or.inl ⟨by rfl, ?_⟩) ?_
        rotate_left 1
        · (intro w; go_simp; try (with_reducible rfl))
        try simp only [Act.put, List.setIfInBounds_toArray, List.set_cons_zero, List.set_cons_succ]
        refine wpAny_take (i := 1) (v := ?_) rfl (by kernel_rfl) (by kernel_rfl) (by kernel_rfl) (fun _ _ _ h => h) (Or.inl ⟨by rfl, ?_⟩) ?_
        rotate_left 1
        · (intro w; go_simp; try (with_reducible rfl))
        try simp only [Act.put, List.setIfInBounds_toArray, List.set_cons_zero, List.set_cons_succ]
        refine wpAny_take (i := 2) (v := ?_) rfl (by kernel_rfl) (by kernel_rfl) (by kernel_rfl) (fun _ _ _ h => h) (Or.inl ⟨by rfl, ?_⟩) ?_
        rotate_left 1
        · (intro w; go_simp; try (with_reducible rfl))
        try simp only [Act.put, List.setIfInBounds_toArray, List.set_cons_zero, List.set_cons_succ]
        refine wpAny_take (i := 3) (v := ?_) rfl (by kernel_rfl) (by kernel_rfl) (by kernel_rfl) (fun _ _ _ h => h) (Or.inl ⟨by rfl, ?_⟩) ?_
        rotate_left 1
        · (intro w; go_simp; try (with_reducible rfl))
        try simp only [Act.put, List.setIfInBounds_toArray, List.set_cons_zero, List.set_cons_succ]
        refine wpAny_take (i := 6) (v := ?_) rfl (by kernel_rfl) (by kernel_rfl) (by kernel_rfl) (fun _ _ _ h => h) (Or.inl ⟨by rfl, ?_⟩) ?_
        rotate_left 1
        · (intro w; go_simp; try (with_reducible rfl))
        try simp only [Act.put, List.setIfInBounds_toArray, List.set_cons_zero, List.set_cons_succ]
        refine wpAny_take (i := 7) (v := ?_) rfl (by kernel_rfl) (by kernel_rfl) (by kernel_rfl) (fun _ _ _ h => h) (Or.inl ⟨by rfl, ?_⟩) ?_
        rotate_left 1
        · (intro w; go_simp; try (with_reducible rfl))
        try simp only [Act.put, List.setIfInBounds_toArray, List.set_cons_zero, List.set_cons_succ]
        refine wpAny_take (i := 8) (v := ?_) rfl (by kernel_rfl) (by kernel_rfl) (by kernel_rfl) (fun _ _ _ h => h) (Or.inl ⟨by rfl, ?_⟩) ?_
        rotate_left 1
        · (intro w; go_simp; try (with_reducible rfl))
        try simp only [Act.put, List.setIfInBounds_toArray, List.set_cons_zero, List.set_cons_succ]
        refine wpAny_take (i := 9) (v := ?_) rfl (by kernel_rfl) (by kernel_rfl) (by kernel_rfl) (fun _ _ _ h => h) (Or.inl ⟨by rfl, ?_⟩) ?_
        rotate_left 1
        · (intro w; go_simp; try (with_reducible rfl))
        try simp only [Act.put, List.setIfInBounds_toArray, List.set_cons_zero, List.set_cons_succ]
        refine wpAny_ready (rs := [4]) (by kernel_rfl) (by simp) ?_
        refine AllReady.cons rfl (fun K hK => ?_) AllReady.nil
        go_simp
        refine (put16 Y _ HY2.out).mono ?_
        rintro e w3 ⟨rfl, B3⟩
        rw [← HXS.out]
        have D3P : w3.heap[P]? = some (.cells #[.bool v1, .int .u64 h1, .int .u64 l1, .bool v2, .int .u64 h2, .int .u64 l2, .int .u8 pr, .int .u8 64, .string d] 30) := (B3.block P (lt_of_heap H2.out.2.1)).trans H2.out.2.1
        have D3R : w3.heap[R]? = some (.cells #[.bool false, .int .u64 0, .int .u64 0, .bool false, .int .u64 0, .int .u64 0, .int .u8 0, .int .u8 0, .string .empty] 30) := (B3.block R (lt_of_heap H2.out.1)).trans H2.out.1
        have H3 := Lib.hid (And.intro D3P (And.intro D3R (H2.out.2.2.drew.trans (B3.mono H2.out.2.2.size))))
        obtain ⟨_, _, _, _, _, _, _, _, k8⟩ := pkCells D3P
        have f8 : w3.frozen? ⟨P, 8, none⟩ = false := by simp [World.frozen?, D3P]
        clear B3 D3P D3R
        simp only []
        refine hK _ _ ?_
        clear hK K
        try simp only [Act.put, List.setIfInBounds_toArray, List.set_cons_zero, List.set_cons_succ]
        refine wpAny_take (i := 5) (v := ?_) rfl (by kernel_rfl) (by kernel_rfl) (by kernel_rfl) (fun _ _ _ h => h) (Or.inl ⟨by rfl, ?_⟩) ?_
        rotate_left 1
        · (intro w; go_simp; try (with_reducible rfl))
        try simp only [Act.put, List.setIfInBounds_toArray, List.set_cons_zero, List.set_cons_succ]
        refine wpAny_take (i := 10) (v := ?_) rfl (by kernel_rfl) (by kernel_rfl) (by kernel_rfl) (fun _ _ _ h => h) (Or.inl ⟨by rfl, ?_⟩) ?_
        rotate_left 1
        · (intro w; go_simp; try (with_reducible rfl))
        try simp only [Act.put, List.setIfInBounds_toArray, List.set_cons_zero, List.set_cons_succ]
        refine wpAny_take (i := 11) (v := ?_) rfl (by kernel_rfl) (by kernel_rfl) (by kernel_rfl) (fun _ _ _ h => h) (Or.inl ⟨by rfl, ?_⟩) ?_
        rotate_left 1
        · (intro w; go_simp; try (with_reducible rfl))
        try simp only [Act.put, List.setIfInBounds_toArray, List.set_cons_zero, List.set_cons_succ]
        refine wpAny_ready (rs := [12]) (by kernel_rfl) (by simp) ?_
        refine AllReady.cons rfl (fun K hK => ?_) AllReady.nil
        go_simp
        refine hK _ _ ?_
        clear hK K
        try simp only [Act.put, List.setIfInBounds_toArray, List.set_cons_zero, List.set_cons_succ]
        refine wpAny_done (by kernel_rfl) ?_ _
        try simp only [Act.put, List.setIfInBounds_toArray, List.set_cons_zero, List.set_cons_succ]
        have D5P : (w3.setCell ⟨P, 8, none⟩ (.string T)).heap[P]? = some (.cells #[.bool v1, .int .u64 h1, .int .u64 l1, .bool v2, .int .u64 h2, .int .u64 l2, .int .u8 pr, .int .u8 64, .string T] 30) := by simp [World.setCell, Array.getElem?_modify, H3.out.1]
        have D5R : (w3.setCell ⟨P, 8, none⟩ (.string T)).heap[R]? = some (.cells #[.bool false, .int .u64 0, .int .u64 0, .bool false, .int .u64 0, .int .u64 0, .int .u8 0, .int .u8 0, .string .empty] 30) := by simp [World.setCell, Array.getElem?_modify, H3.out.2.1, H1.out.2.1]
        have B5 := H3.out.2.2.setCell (p := ⟨P, 8, none⟩) H1.out.2.2.2.1 (.string T)
        obtain ⟨w5, hw5⟩ : ∃ uu, uu = w3.setCell ⟨P, 8, none⟩ (.string T) := ⟨_, rfl⟩
        rw [← hw5] at D5P D5R B5
        rw [← hw5]
        have H5 := Lib.hid (And.intro D5P (And.intro D5R B5))
        clear D5P D5R B5 hw5 k8 f8 hsl1 hsl2 a1 a2 e2 e3
        go_wp2_with (first | (refine Go.wpList_load_row rfl 30 _ rfl P rfl 30 _ (0, 0) _ H5.out.1 U30.out rfl info30 ?_) | (refine Go.wpList_store_row rfl 30 _ _ rfl R #[.bool v1, .int .u64 h1, .int .u64 l1, .bool v2, .int .u64 h2, .int .u64 l2, .int .u8 pr, .int .u8 64, .string T] rfl rfl 30 _ H5.out.2.1 info30 rfl (by simp [Value.oneCell']) ?_))
        have D6 := setRow_heap w5 R _ #[.bool v1, .int .u64 h1, .int .u64 l1, .bool v2, .int .u64 h2, .int .u64 l2, .int .u8 pr, .int .u8 64, .string T] _ _ H5.out.2.1
        have BW := H5.out.2.2.trans ((onlyRow R w5 #[.bool v1, .int .u64 h1, .int .u64 l1, .bool v2, .int .u64 h2, .int .u64 l2, .int .u8 pr, .int .u8 64, .string T]).below H1.out.2.2.2.2 H5.out.2.2.size)
        obtain ⟨w6, hw6⟩ : ∃ uu, uu = w5.setRow R #[.bool v1, .int .u64 h1, .int .u64 l1, .bool v2, .int .u64 h2, .int .u64 l2, .int .u8 pr, .int .u8 64, .string T] := ⟨_, rfl⟩
        rw [← hw6] at D6 BW
        rw [← hw6]
        obtain ⟨k0, k1, k2, k3, k4, k5, k6, k7, k8⟩ := pkCells D6
        have HM := Lib.hid (show madeP p k = { p with data := T } by unfold madeP; rw [if_pos HE.out.symm, HT.out])
        have HZ := Lib.hid BW
        clear BW D6 hw6
        refine bodyPost_ret (v := .tuple #[.agg #[.bool v1, .int .u64 h1, .int .u64 l1, .bool v2, .int .u64 h2, .int .u64 l2, .int .u8 pr, .int .u8 64, .string T], .int .i64 0]) (by simp [results, Try.results21, go_sem, k0, k1, k2, k3, k4, k5, k6, k7, k8]) rfl ⟨?_, HZ.out⟩
        rw [HM.out, HP.out]
        rfl
    · have HQ := Lib.hid (show sumX p = X by unfold sumX; rw [if_neg (fun h => hx0 (by rw [HX.out]; exact h.1))]; exact HX.out.symm)
      have HY := Lib.hid (show sumX p = X ∧ X < 65536 from ⟨HQ.out, by omega⟩)
      obtain ⟨Y, hYX⟩ : ∃ Y, Y = X := ⟨_, rfl⟩
      have x0 : ((X : Int) == 0) = false := byNe (b := 0) hx0
      clear hx0 xle
      go_upto_region 8 with (fail)
      rw [← hYX] at HY ⊢
      clear hYX
      obtain ⟨K2, hK2⟩ : ∃ K2, K2 = k + 2 := ⟨_, rfl⟩
      have e2 : (k : Int) + 2 = K2 := by omega
      have e3 : IntKind.i64.wrap (K2 : Int) = K2 := IntWalk.i64_in _ (by have := HK.out; omega)
      obtain ⟨A0, hA0⟩ : ∃ A, A = d.extract 0 k := ⟨_, rfl⟩
      obtain ⟨A2, hA2⟩ : ∃ A, A = d.extract K2 d.size := ⟨_, rfl⟩
      obtain ⟨XS, hXS⟩ : ∃ A, A = beS Y 2 := ⟨_, rfl⟩
      have hsl1 : ∀ u, (Instr.slice 9 (.string d) none (some (.int .i64 k)) none).run Try.prog u = .ok (.string A0) u := fun u => by
        rw [run_slice_string_to_if u 9 d .i64 k Try.underlying9, if_pos (by have := HK.out; omega), Int.toNat_natCast, hA0]
      have hsl2 : ∀ u, (Instr.slice 9 (.string d) (some (.int .i64 K2)) none none).run Try.prog u = .ok (.string A2) u := fun u => by
        rw [run_slice_string_from_if u 9 d .i64 K2 Try.underlying9, if_pos (by have := HK.out; omega), Int.toNat_natCast, hA2]
      have z0 : A0.size ≤ 10000 := by rw [hA0, ByteArray.size_extract]; have := HK.out; omega
      have z2 : A2.size ≤ 10000 := by rw [hA2, ByteArray.size_extract]; have := HK.out; omega
      have zx : XS.size = 2 := by rw [hXS]; exact beS_size _ _
      have a1 := addS A0 XS (by omega)
      have a2 := addS (A0 ++ XS) A2 (by rw [ByteArray.size_append]; omega)
      obtain ⟨T, hT⟩ : ∃ T, T = A0 ++ XS ++ A2 := ⟨_, rfl⟩
      rw [← hT] at a2
      have HT := Lib.hid (show T = putS p k by unfold putS; rw [hT, hA0, hA2, hXS, hK2, HY.out.1, HP.out])
      have HXS := Lib.hid hXS
      have HY2 := Lib.hid HY.out.2
      clear hT hA0 hA2 hXS hK2 z0 z2 zx HY
      refine wp_region_any (by kernel_rfl) ?_
      change wpAny _ _ _ _ _ _ _ (World.drew _)
      refine wpAny_take (i := 0) (v := ?_) rfl (by kernel_rfl) (by kernel_rfl) (by kernel_rfl) (fun _ _ _ h => h) (Or.inl ⟨by rfl, ?_⟩) ?_
      rotate_left 1
      · (intro w; go_simp; try (with_reducible rfl))
      try simp only [Act.put, List.setIfInBounds_toArray, List.set_cons_zero, List.set_cons_succ]
      refine wpAny_take (i := 1) (v := ?_) rfl (by kernel_rfl) (by kernel_rfl) (by kernel_rfl) (fun _ _ _ h => h) (Or.inl ⟨by rfl, ?_⟩) ?_
      rotate_left 1
      · (intro w; go_simp; try (with_reducible rfl))
      try simp only [Act.put, List.setIfInBounds_toArray, List.set_cons_zero, List.set_cons_succ]
      refine wpAny_take (i := 2) (v := ?_) rfl (by kernel_rfl) (by kernel_rfl) (by kernel_rfl) (fun _ _ _ h => h) (Or.inl ⟨by rfl, ?_⟩) ?_
      rotate_left 1
      · (intro w; go_simp; try (with_reducible rfl))
      try simp only [Act.put, List.setIfInBounds_toArray, List.set_cons_zero, List.set_cons_succ]
      refine wpAny_take (i := 3) (v := ?_) rfl (by kernel_rfl) (by kernel_rfl) (by kernel_rfl) (fun _ _ _ h => h) (Or.inl ⟨by rfl, ?_⟩) ?_
      rotate_left 1
      · (intro w; go_simp; try (with_reducible rfl))
      try simp only [Act.put, List.setIfInBounds_toArray, List.set_cons_zero, List.set_cons_succ]
      refine wpAny_take (i := 6) (v := ?_) rfl (by kernel_rfl) (by kernel_rfl) (by kernel_rfl) (fun _ _ _ h => h) (Or.inl ⟨by rfl, ?_⟩) ?_
      rotate_left 1
      · (intro w; go_simp; try (with_reducible rfl))
      try simp only [Act.put, List.setIfInBounds_toArray, List.set_cons_zero, List.set_cons_succ]
      refine wpAny_take (i := 7) (v := ?_) rfl (by kernel_rfl) (by kernel_rfl) (by kernel_rfl) (fun _ _ _ h => h) (Or.inl ⟨by rfl, ?_⟩) ?_
      rotate_left 1
      · (intro w; go_simp; try (with_reducible rfl))
      try simp only [Act.put, List.setIfInBounds_toArray, List.set_cons_zero, List.set_cons_succ]
      refine wpAny_take (i := 8) (v := ?_) rfl (by kernel_rfl) (by kernel_rfl) (by kernel_rfl) (fun _ _ _ h => h) (Or.inl ⟨by rfl, ?_⟩) ?_
      rotate_left 1
      · (intro w; go_simp; try (with_reducible rfl))
      try simp only [Act.put, List.setIfInBounds_toArray, List.set_cons_zero, List.set_cons_succ]
      refine wpAny_take (i := 9) (v := ?_) rfl (by kernel_rfl) (by kernel_rfl) (by kernel_rfl) (fun _ _ _ h => h) (Or.inl ⟨by rfl, ?_⟩) ?_
      rotate_left 1
      · (intro w; go_simp; try (with_reducible rfl))
      try simp only [Act.put, List.setIfInBounds_toArray, List.set_cons_zero, List.set_cons_succ]
      refine wpAny_ready (rs := [4]) (by kernel_rfl) (by simp) ?_
      refine AllReady.cons rfl (fun K hK => ?_) AllReady.nil
      go_simp
      refine (put16 Y _ HY2.out).mono ?_
      rintro e w3 ⟨rfl, B3⟩
      rw [← HXS.out]
      have D3P : w3.heap[P]? = some (.cells #[.bool v1, .int .u64 h1, .int .u64 l1, .bool v2, .int .u64 h2, .int .u64 l2, .int .u8 pr, .int .u8 64, .string d] 30) := (B3.block P (lt_of_heap H2.out.2.1)).trans H2.out.2.1
      have D3R : w3.heap[R]? = some (.cells #[.bool false, .int .u64 0, .int .u64 0, .bool false, .int .u64 0, .int .u64 0, .int .u8 0, .int .u8 0, .string .empty] 30) := (B3.block R (lt_of_heap H2.out.1)).trans H2.out.1
      have H3 := Lib.hid (And.intro D3P (And.intro D3R (H2.out.2.2.drew.trans (B3.mono H2.out.2.2.size))))
      obtain ⟨_, _, _, _, _, _, _, _, k8⟩ := pkCells D3P
      have f8 : w3.frozen? ⟨P, 8, none⟩ = false := by simp [World.frozen?, D3P]
      clear B3 D3P D3R
      simp only []
      refine hK _ _ ?_
      clear hK K
      try simp only [Act.put, List.setIfInBounds_toArray, List.set_cons_zero, List.set_cons_succ]
      refine wpAny_take (i := 5) (v := ?_) rfl (by kernel_rfl) (by kernel_rfl) (by kernel_rfl) (fun _ _ _ h => h) (Or.inl ⟨by rfl, ?_⟩) ?_
      rotate_left 1
      · (intro w; go_simp; try (with_reducible rfl))
      try simp only [Act.put, List.setIfInBounds_toArray, List.set_cons_zero, List.set_cons_succ]
      refine wpAny_take (i := 10) (v := ?_) rfl (by kernel_rfl) (by kernel_rfl) (by kernel_rfl) (fun _ _ _ h => h) (Or.inl ⟨by rfl, ?_⟩) ?_
      rotate_left 1
      · (intro w; go_simp; try (with_reducible rfl))
      try simp only [Act.put, List.setIfInBounds_toArray, List.set_cons_zero, List.set_cons_succ]
      refine wpAny_take (i := 11) (v := ?_) rfl (by kernel_rfl) (by kernel_rfl) (by kernel_rfl) (fun _ _ _ h => h) (Or.inl ⟨by rfl, ?_⟩) ?_
      rotate_left 1
      · (intro w; go_simp; try (with_reducible rfl))
      try simp only [Act.put, List.setIfInBounds_toArray, List.set_cons_zero, List.set_cons_succ]
      refine wpAny_ready (rs := [12]) (by kernel_rfl) (by simp) ?_
      refine AllReady.cons rfl (fun K hK => ?_) AllReady.nil
      go_simp
      refine hK _ _ ?_
      clear hK K
      try simp only [Act.put, List.setIfInBounds_toArray, List.set_cons_zero, List.set_cons_succ]
      refine wpAny_done (by kernel_rfl) ?_ _
      try simp only [Act.put, List.setIfInBounds_toArray, List.set_cons_zero, List.set_cons_succ]
      have D5P : (w3.setCell ⟨P, 8, none⟩ (.string T)).heap[P]? = some (.cells #[.bool v1, .int .u64 h1, .int .u64 l1, .bool v2, .int .u64 h2, .int .u64 l2, .int .u8 pr, .int .u8 64, .string T] 30) := by simp [World.setCell, Array.getElem?_modify, H3.out.1]
      have D5R : (w3.setCell ⟨P, 8, none⟩ (.string T)).heap[R]? = some (.cells #[.bool false, .int .u64 0, .int .u64 0, .bool false, .int .u64 0, .int .u64 0, .int .u8 0, .int .u8 0, .string .empty] 30) := by simp [World.setCell, Array.getElem?_modify, H3.out.2.1, H1.out.2.1]
      have B5 := H3.out.2.2.setCell (p := ⟨P, 8, none⟩) H1.out.2.2.2.1 (.string T)
      obtain ⟨w5, hw5⟩ : ∃ uu, uu = w3.setCell ⟨P, 8, none⟩ (.string T) := ⟨_, rfl⟩
      rw [← hw5] at D5P D5R B5
      rw [← hw5]
      have H5 := Lib.hid (And.intro D5P (And.intro D5R B5))
      clear D5P D5R B5 hw5 k8 f8 hsl1 hsl2 a1 a2 e2 e3
      go_wp2_with (first | (refine Go.wpList_load_row rfl 30 _ rfl P rfl 30 _ (0, 0) _ H5.out.1 U30.out rfl info30 ?_) | (refine Go.wpList_store_row rfl 30 _ _ rfl R #[.bool v1, .int .u64 h1, .int .u64 l1, .bool v2, .int .u64 h2, .int .u64 l2, .int .u8 pr, .int .u8 64, .string T] rfl rfl 30 _ H5.out.2.1 info30 rfl (by simp [Value.oneCell']) ?_))
      have D6 := setRow_heap w5 R _ #[.bool v1, .int .u64 h1, .int .u64 l1, .bool v2, .int .u64 h2, .int .u64 l2, .int .u8 pr, .int .u8 64, .string T] _ _ H5.out.2.1
      have BW := H5.out.2.2.trans ((onlyRow R w5 #[.bool v1, .int .u64 h1, .int .u64 l1, .bool v2, .int .u64 h2, .int .u64 l2, .int .u8 pr, .int .u8 64, .string T]).below H1.out.2.2.2.2 H5.out.2.2.size)
      obtain ⟨w6, hw6⟩ : ∃ uu, uu = w5.setRow R #[.bool v1, .int .u64 h1, .int .u64 l1, .bool v2, .int .u64 h2, .int .u64 l2, .int .u8 pr, .int .u8 64, .string T] := ⟨_, rfl⟩
      rw [← hw6] at D6 BW
      rw [← hw6]
      obtain ⟨k0, k1, k2, k3, k4, k5, k6, k7, k8⟩ := pkCells D6
      have HM := Lib.hid (show madeP p k = { p with data := T } by unfold madeP; rw [if_pos HE.out.symm, HT.out])
      have HZ := Lib.hid BW
      clear BW D6 hw6
      refine bodyPost_ret (v := .tuple #[.agg #[.bool v1, .int .u64 h1, .int .u64 l1, .bool v2, .int .u64 h2, .int .u64 l2, .int .u8 pr, .int .u8 64, .string T], .int .i64 0]) (by simp [results, Try.results21, go_sem, k0, k1, k2, k3, k4, k5, k6, k7, k8]) rfl ⟨?_, HZ.out⟩
      rw [HM.out, HP.out]
      rfl
  · have e0 : ((E : Int) == 0) = false := beq_eq_false_iff_ne.2 h0
    have HM := Lib.hid (show madeP p k = Pk.zero by unfold madeP; rw [if_neg (by rw [← HE.out]; exact h0)])
    clear h0
    go_wp2_with (first | (refine Go.wpList_store_row rfl 30 _ _ rfl R Pk.zero.cells rfl rfl 30 _ H1.out.1.1 info30 rfl (pkOne Pk.zero) ?_))
    have D := setRow_heap w1 R _ Pk.zero.cells _ _ H1.out.1.1
    have BW := H1.out.1.2.2.trans ((onlyRow R w1 Pk.zero.cells).below H1.out.2.2.2.2 H1.out.1.2.2.size)
    obtain ⟨w2, hw2⟩ : ∃ uu, uu = w1.setRow R Pk.zero.cells := ⟨_, rfl⟩
    rw [← hw2] at D BW
    rw [← hw2]
    obtain ⟨k0, k1, k2, k3, k4, k5, k6, k7, k8⟩ := pkCells D
    have HZ := Lib.hid (And.intro BW HM.out)
    clear BW D hw2
    refine bodyPost_ret (v := .tuple #[.agg #[.bool false, .int .u64 0, .int .u64 0, .bool false, .int .u64 0, .int .u64 0, .int .u8 0, .int .u8 0, .string .empty], .int .i64 E]) (by simp [results, Try.results21, go_sem, k0, k1, k2, k3, k4, k5, k6, k7, k8, Pk.zero]) rfl ⟨?_, HZ.out.1⟩
    rw [HZ.out.2]
    rfl

end Go.Proofs.Ytgonakpoflacoaa
