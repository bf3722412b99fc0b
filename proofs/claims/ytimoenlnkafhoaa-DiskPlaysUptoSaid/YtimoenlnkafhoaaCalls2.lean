/-
  The disk's calls: Sync, Cut, Fails, Crash.
-/
import Derived.Test.YtimoenlnkafhoaaCalls
set_option linter.unusedVariables false
namespace Go.Proofs.Ytimoenlnkafhoaa
open Go.RowKit
open Go.Lib (strCells)

theorem DiskV.did {w w' : World} {d : Nat} {v : Value} {x : DS} (h : DiskV w' d v x) (f : Fr d v.ownBlock w w') : Did d v.ownBlock w w' x := ⟨v, h, fun _ hg => Or.inl hg, f⟩

theorem sync_any (d : Nat) (v : Value) (x : DS) (w : World) (h : DiskV w d v x) :
    Calls Try.prog 12 #[.pointer (some ⟨d, 0, none⟩)] w fun e w' => e = .returned (.int .i64 x.flushE) ∧ Did d v.ownBlock w w' x.flush := by
  unfold DS.flush DS.flushE
  by_cases hs : x.s = 1
  · have HD := Lib.hid (decide_eq_true hs)
    rw [if_pos hs, if_pos hs]
    clear hs
    go_enter Try.func12, Try.ntmps12
    go_wp2_with fail
    go_region_held3 (fun w' => True) (trivial) (first | (go_at_call 27; refine (dueS _ true HD.out h.drew).mono ?_; rintro e w1 ⟨rfl, g1, f1⟩))
    go_wp2_with fail
    go_ret
    exact ⟨rfl, g1.did ((Fr.refl _ _ _).drew.trans f1 (fun g hg => Or.inl hg))⟩
  · have HD := Lib.hid (decide_eq_false hs)
    rw [if_neg hs, if_neg hs]
    clear hs
    obtain ⟨ao, cap, hv, _⟩ := h.shape
    subst hv
    go_enter Try.func12, Try.ntmps12
    go_wp2_with fail
    go_region_held3 (fun w' => True) (trivial) (first | (go_at_call 27; refine (dueS _ false HD.out h.drew).mono ?_; rintro e w1 ⟨rfl, g1, f1⟩))
    have m3 := g1.c3
    have m4 := g1.c4
    have z4 := g1.fz 4
    go_wp2_with fail
    go_ret
    have ok := g1.ok
    exact ⟨rfl, (g1.set 4 (.int .i64 x.S.size) { x.tickS with k := x.S.size } _ rfl g1.own g1.ne ⟨ok.ka, ok.ks, ok.room, ok.size, Nat.le_refl _⟩).did (((Fr.refl _ _ _).drew.trans f1 (fun g hg => Or.inl hg)).setCell _ _)⟩

theorem strCells_take (s : ByteArray) (m : Nat) : (strCells s).take m = strCells (s.extract 0 m) := by
  simp [strCells, ByteArray.data_extract, List.map_take]
theorem own_cut {w : World} {ao : Option Addr} {n cap m : Nat} {S : ByteArray} (h : w.ownsRow 0 5 1 (.slice ao n cap) S.size (strCells S)) (hm : m ≤ S.size) :
    w.ownsRow 0 5 1 (.slice ao m cap) (S.extract 0 m).size (strCells (S.extract 0 m)) := by
  have he : (S.extract 0 m).size = m := by rw [ByteArray.size_extract]; omega
  rw [he, ← strCells_take]
  have h1 := h.1
  refine ⟨by rw [List.length_take]; simp at h1 ⊢; omega, ?_⟩
  rcases h.2 with ⟨hv, hn⟩ | ⟨g, cap', cur, hv, hb, hh, hnc, hcm, hcs, ht⟩
  · cases hv
    exact Or.inl ⟨by rw [show m = 0 by omega], by omega⟩
  · cases hv
    refine Or.inr ⟨g, cap, cur, rfl, hb, hh, by omega, hcm, hcs, ?_⟩
    rw [← ht, List.take_take]
    congr 1
    omega

theorem cut_bad (d : Nat) (v : Value) (x : DS) (n : Int) (w : World) (h : DiskV w d v x) (hn : n < 0 ∨ x.S.size < n) :
    Calls Try.prog 17 #[.pointer (some ⟨d, 0, none⟩), .int .i64 n] w fun e w' => e = .returned (.int .i64 2) ∧ w = w' := by
  obtain ⟨ao, cap, hv, _⟩ := h.shape
  subst hv
  have c3 := h.c3
  by_cases h0 : n < 0
  · clear hn
    go_enter Try.func17, Try.ntmps17
    go_wp2_with fail
    go_ret
    exact ⟨rfl, rfl⟩
  · have h1 : (x.S.size : Int) < n := by omega
    clear hn
    go_enter Try.func17, Try.ntmps17
    go_wp2_with fail
    go_ret
    exact ⟨rfl, rfl⟩

theorem cut_ok (d : Nat) (v : Value) (x : DS) (n : Nat) (w : World) (h : DiskV w d v x) (hn : n ≤ x.S.size) :
    Calls Try.prog 17 #[.pointer (some ⟨d, 0, none⟩), .int .i64 n] w fun e w' => e = .returned (.int .i64 0) ∧ Did d v.ownBlock w w' { x with S := x.S.extract 0 n, k := n } := by
  obtain ⟨ao, cap, hv, hnil, hsome, hcap⟩ := h.shape
  subst hv
  have c3 := h.c3
  have c4 := h.c4
  have z3 := h.fz 3
  have z4 := h.fz 4
  have hsz : (x.S.extract 0 n).size = n := by rw [ByteArray.size_extract]; omega
  have ok := h.ok
  have hob : (Value.slice ao n cap).ownBlock = (Value.slice ao x.S.size cap).ownBlock := by cases ao <;> rfl
  have hfin : DiskV ((w.setCell ⟨d, 3, none⟩ (.slice ao n cap)).setCell ⟨d, 4, none⟩ (.int .i64 n)) d (.slice ao n cap) { x with S := x.S.extract 0 n, k := n } := by
    refine ⟨?_, ?_, by rw [hob]; exact h.ne, ⟨ok.ka, ok.ks, ok.room, ?_, ?_⟩⟩
    · simp [World.setCell, Array.getElem?_modify, h.block, DS.cells]
    · refine ownsRow_of_block (own_cut h.own hn) (fun g hg => ?_)
      have hne : g ≠ d := fun e => h.ne (by rw [← e, ← hob]; exact hg)
      rw [Below.heap_setCell _ _ _ _ hne, Below.heap_setCell _ _ _ _ hne]
    · show (x.S.extract 0 n).size ≤ x.room
      rw [hsz]; have := ok.size; omega
    · show n ≤ (x.S.extract 0 n).size
      rw [hsz]; exact Nat.le_refl _
  have hm : cap ≤ 9223372036854775807 := by
    rcases h.own.2 with ⟨hv, _⟩ | ⟨g, cap', cur, hv, _, _, _, hcm, _⟩
    · simp only [Value.slice.injEq] at hv; omega
    · simp only [Value.slice.injEq] at hv; unfold maxLen at hcm; omega
  have HF := Lib.hid hfin
  clear hob
  have HS := Lib.hid hsz
  clear hfin hsz
  cases ao with
  | none =>
    obtain ⟨e1, e2⟩ := hnil rfl
    obtain rfl : n = 0 := by omega
    have hsz0 : x.S.size ≤ 0 := by omega
    have E1 := Lib.hid e1
    clear hnil hsome e1
    subst e2
    go_enter Try.func17, Try.ntmps17
    go_wp2_with fail
    go_ret
    exact ⟨rfl, _, HF.out, fun _ hg => Or.inl hg, ((Fr.refl _ _ _).setCell _ _).setCell _ _⟩
  | some a =>
    obtain ⟨g, rfl⟩ := hsome a rfl
    clear hnil hsome
    go_enter Try.func17, Try.ntmps17
    go_wp2_with fail
    go_ret
    exact ⟨rfl, _, HF.out, fun _ hg => Or.inl hg, ((Fr.refl _ _ _).setCell _ _).setCell _ _⟩

theorem cut_any (d : Nat) (v : Value) (x : DS) (n : Int) (w : World) (h : DiskV w d v x) :
    Calls Try.prog 17 #[.pointer (some ⟨d, 0, none⟩), .int .i64 n] w fun e w' => e = .returned (.int .i64 (x.cutE n)) ∧ Did d v.ownBlock w w' (x.cut n) := by
  unfold DS.cut DS.cutE
  by_cases hn : n < 0 ∨ x.S.size < n
  · rw [if_pos hn, if_pos hn]
    refine (cut_bad d v x n w h hn).mono ?_
    rintro e w' ⟨rfl, rfl⟩
    exact ⟨rfl, h.did (Fr.refl _ _ _)⟩
  · rw [if_neg hn, if_neg hn]
    obtain ⟨n, rfl⟩ := Int.eq_ofNat_of_zero_le (show 0 ≤ n by omega)
    exact cut_ok d v x n w h (by omega)

theorem fails_any (d : Nat) (v : Value) (x : DS) (n m : Int) (w : World) (h : DiskV w d v x) (hn : n ≤ 9223372036854775807) (hm : m ≤ 9223372036854775807) :
    Calls Try.prog 13 #[.pointer (some ⟨d, 0, none⟩), .int .i64 n, .int .i64 m] w fun e w' => e = .returned (.int .i64 (DS.failsE n m)) ∧ Did d v.ownBlock w w' (x.fails n m) := by
  have c0 := h.c0
  have c1 := h.c1
  have z0 := h.fz 0
  have z1 := h.fz 1
  by_cases h1 : n < 0
  · have e1 : DS.failsE n m = 2 := by simp [DS.failsE, h1]
    have e2 : x.fails n m = x := by simp [DS.fails, h1]
    rw [e1, e2]
    clear e1 e2
    go_enter Try.func13, Try.ntmps13
    go_wp2_with fail
    go_ret
    exact ⟨rfl, h.did (Fr.refl _ _ _)⟩
  · by_cases h2 : m < 0
    · have e1 : DS.failsE n m = 2 := by simp [DS.failsE, h2]
      have e2 : x.fails n m = x := by simp [DS.fails, h2]
      rw [e1, e2]
      clear e1 e2
      go_enter Try.func13, Try.ntmps13
      go_wp2_with fail
      go_ret
      exact ⟨rfl, h.did (Fr.refl _ _ _)⟩
    · obtain ⟨n, rfl⟩ := Int.eq_ofNat_of_zero_le (show 0 ≤ n by omega)
      obtain ⟨m, rfl⟩ := Int.eq_ofNat_of_zero_le (show 0 ≤ m by omega)
      have e1 : DS.failsE n m = 0 := by simp only [DS.failsE]; rw [if_neg (by omega)]
      have e2 : x.fails n m = { x with a := n, s := m } := by simp only [DS.fails]; rw [if_neg (by omega)]; simp
      rw [e1, e2]
      clear e1 e2
      have ok := h.ok
      have HF := Lib.hid ((h.set 0 (.int .i64 n) { x with a := n } v rfl h.own h.ne ⟨by show n ≤ _; omega, ok.ks, ok.room, ok.size, ok.k⟩).set 1 (.int .i64 m) { x with a := n, s := m } v rfl (ownsRow_of_block h.own (fun g hg => Below.heap_setCell _ _ _ _ (fun e => h.ne (by rw [hg, e])))) h.ne ⟨by show n ≤ _; omega, by show m ≤ _; omega, ok.room, ok.size, ok.k⟩)
      go_enter Try.func13, Try.ntmps13
      go_wp2_with fail
      go_ret
      exact ⟨rfl, HF.out.did (((Fr.refl _ _ _).setCell _ _).setCell _ _)⟩

theorem loose_quiet {d : Nat} {v : Value} {x : DS} {w : World} (h : DiskV w d v x) :
    Calls Try.prog 16 #[.pointer (some ⟨d, 0, none⟩)] w fun e w' => e = .returned (.int .i64 ((x.S.size : Int) - x.k)) ∧ ∃ n, w' = w.drewN n := loose_any d v x w h

theorem slice_cap {w : World} {ao : Option Addr} {n cap : Nat} {xs : List Value} (h : w.ownsRow 0 5 1 (.slice ao n cap) n xs) : cap ≤ 9223372036854775807 := by
  rcases h.2 with ⟨hv, _⟩ | ⟨g, cap', cur, hv, _, _, _, hcm, _⟩
  · simp only [Value.slice.injEq] at hv; omega
  · simp only [Value.slice.injEq] at hv; unfold maxLen at hcm; omega

theorem crash_fin {w : World} {d : Nat} {ao : Option Addr} {cap n : Nat} {x : DS} (h : DiskV w d (.slice ao x.S.size cap) x) (hn : n ≤ x.S.size) :
    DiskV ((((w.setCell ⟨d, 3, none⟩ (.slice ao n cap)).setCell ⟨d, 4, none⟩ (.int .i64 n)).setCell ⟨d, 0, none⟩ (.int .i64 0)).setCell ⟨d, 1, none⟩ (.int .i64 0)) d (.slice ao n cap) { a := 0, s := 0, room := x.room, S := x.S.extract 0 n, k := n } := by
  have hsz : (x.S.extract 0 n).size = n := by rw [ByteArray.size_extract]; omega
  have ok := h.ok
  have hob : (Value.slice ao n cap).ownBlock = (Value.slice ao x.S.size cap).ownBlock := by cases ao <;> rfl
  refine ⟨?_, ?_, by rw [hob]; exact h.ne, ⟨Nat.zero_le _, Nat.zero_le _, ok.room, ?_, ?_⟩⟩
  · simp [World.setCell, Array.getElem?_modify, h.block, DS.cells]
  · refine ownsRow_of_block (own_cut h.own hn) (fun g hg => ?_)
    have hne : g ≠ d := fun e => h.ne (by rw [← e, ← hob]; exact hg)
    rw [Below.heap_setCell _ _ _ _ hne, Below.heap_setCell _ _ _ _ hne, Below.heap_setCell _ _ _ _ hne, Below.heap_setCell _ _ _ _ hne]
  · show (x.S.extract 0 n).size ≤ x.room
    rw [hsz]; have := ok.size; omega
  · show n ≤ (x.S.extract 0 n).size
    rw [hsz]; exact Nat.le_refl _
theorem crash_frame (w : World) (d : Nat) (row : Option Nat) (a b c e : Value) (nq : Nat) :
    Fr d row w (((((w.drewN nq).setCell ⟨d, 3, none⟩ a).setCell ⟨d, 4, none⟩ b).setCell ⟨d, 0, none⟩ c).setCell ⟨d, 1, none⟩ e) :=
  (((((Fr.refl d row w).drewN nq).setCell _ _).setCell _ _).setCell _ _).setCell _ _

theorem crash_a (d : Nat) (ao : Option Addr) (cap : Nat) (x : DS) (keep : Int) (n : Nat) (w : World) (h : DiskV w d (.slice ao x.S.size cap) x) (hk : n ≤ x.S.size)
    (hnil : ao = none → x.S.size = 0 ∧ cap = 0) (hsome : ∀ a, ao = some a → ∃ g, a = ⟨g, 0, none⟩) (hcap : x.S.size ≤ cap) (h1 : keep < 0) (h2 : n = x.k) :
    Calls Try.prog 15 #[.pointer (some ⟨d, 0, none⟩), .int .i64 keep] w fun e w' => e = .returned (.int .i64 0) ∧ Did d (Value.slice ao x.S.size cap).ownBlock w w' { a := 0, s := 0, room := x.room, S := x.S.extract 0 n, k := n } := by
  have E : True := trivial
  subst h2
  have z0 := h.fz 0
  have z1 := h.fz 1
  have z3 := h.fz 3
  have z4 := h.fz 4
  have c0 := h.c0
  have c1 := h.c1
  have c3 := h.c3
  have c4 := h.c4
  have k1 := h.ok.k
  have k2 := h.ok.size
  have k3 := h.ok.room
  have hm := slice_cap h.own
  cases ao with
  | none =>
    obtain ⟨e1, e2⟩ := hnil rfl
    have hsz0 : x.S.size ≤ 0 := by omega
    clear hnil hsome e1
    subst e2
    go_enter Try.func15, Try.ntmps15
    go_wp2_with fail
    go_quiet (first | (go_at_call 16; refine Calls.quiet_of (loose_quiet (h.drewN _))))
    have H := Lib.hid h
    clear h E
    go_wp2_with fail
    go_ret
    exact ⟨rfl, _, crash_fin (H.out.drewN nq) hk, fun _ hg => Or.inl hg, crash_frame _ _ _ _ _ _ _ _⟩
  | some a =>
    obtain ⟨g, rfl⟩ := hsome a rfl
    clear hnil hsome
    go_enter Try.func15, Try.ntmps15
    go_wp2_with fail
    go_quiet (first | (go_at_call 16; refine Calls.quiet_of (loose_quiet (h.drewN _))))
    have H := Lib.hid h
    clear h E
    go_wp2_with fail
    go_ret
    exact ⟨rfl, _, crash_fin (H.out.drewN nq) hk, fun _ hg => Or.inl hg, crash_frame _ _ _ _ _ _ _ _⟩

theorem crash_b (d : Nat) (ao : Option Addr) (cap : Nat) (x : DS) (keep : Int) (n : Nat) (w : World) (h : DiskV w d (.slice ao x.S.size cap) x) (hk : n ≤ x.S.size)
    (hnil : ao = none → x.S.size = 0 ∧ cap = 0) (hsome : ∀ a, ao = some a → ∃ g, a = ⟨g, 0, none⟩) (hcap : x.S.size ≤ cap) (h1 : 0 ≤ keep) (h2 : keep ≤ x.S.size - x.k) (h3 : (n : Int) = x.k + keep) :
    Calls Try.prog 15 #[.pointer (some ⟨d, 0, none⟩), .int .i64 keep] w fun e w' => e = .returned (.int .i64 0) ∧ Did d (Value.slice ao x.S.size cap).ownBlock w w' { a := 0, s := 0, room := x.room, S := x.S.extract 0 n, k := n } := by
  have E : IntKind.i64.wrap ((x.k : Int) + keep) = n := by rw [← h3]; exact IntWalk.i64_in _ (by have := h.ok.size; have := h.ok.room; omega)
  clear h3
  have z0 := h.fz 0
  have z1 := h.fz 1
  have z3 := h.fz 3
  have z4 := h.fz 4
  have c0 := h.c0
  have c1 := h.c1
  have c3 := h.c3
  have c4 := h.c4
  have k1 := h.ok.k
  have k2 := h.ok.size
  have k3 := h.ok.room
  have hm := slice_cap h.own
  cases ao with
  | none =>
    obtain ⟨e1, e2⟩ := hnil rfl
    have hsz0 : x.S.size ≤ 0 := by omega
    clear hnil hsome e1
    subst e2
    go_enter Try.func15, Try.ntmps15
    go_wp2_with fail
    go_quiet (first | (go_at_call 16; refine Calls.quiet_of (loose_quiet (h.drewN _))))
    have H := Lib.hid h
    clear h E
    go_wp2_with fail
    go_ret
    exact ⟨rfl, _, crash_fin (H.out.drewN nq) hk, fun _ hg => Or.inl hg, crash_frame _ _ _ _ _ _ _ _⟩
  | some a =>
    obtain ⟨g, rfl⟩ := hsome a rfl
    clear hnil hsome
    go_enter Try.func15, Try.ntmps15
    go_wp2_with fail
    go_quiet (first | (go_at_call 16; refine Calls.quiet_of (loose_quiet (h.drewN _))))
    have H := Lib.hid h
    clear h E
    go_wp2_with fail
    go_ret
    exact ⟨rfl, _, crash_fin (H.out.drewN nq) hk, fun _ hg => Or.inl hg, crash_frame _ _ _ _ _ _ _ _⟩

theorem crash_c (d : Nat) (ao : Option Addr) (cap : Nat) (x : DS) (keep : Int) (n : Nat) (w : World) (h : DiskV w d (.slice ao x.S.size cap) x) (hk : n ≤ x.S.size)
    (hnil : ao = none → x.S.size = 0 ∧ cap = 0) (hsome : ∀ a, ao = some a → ∃ g, a = ⟨g, 0, none⟩) (hcap : x.S.size ≤ cap) (h1 : 0 ≤ keep) (h2 : (x.S.size : Int) - x.k < keep) (h3 : n = x.S.size) :
    Calls Try.prog 15 #[.pointer (some ⟨d, 0, none⟩), .int .i64 keep] w fun e w' => e = .returned (.int .i64 0) ∧ Did d (Value.slice ao x.S.size cap).ownBlock w w' { a := 0, s := 0, room := x.room, S := x.S.extract 0 n, k := n } := by
  have E : IntKind.i64.wrap ((x.k : Int) + (x.S.size - x.k)) = n := by rw [h3, show (x.k : Int) + (x.S.size - x.k) = x.S.size by omega]; exact IntWalk.i64_in _ (by have := h.ok.size; have := h.ok.room; omega)
  clear h3
  have z0 := h.fz 0
  have z1 := h.fz 1
  have z3 := h.fz 3
  have z4 := h.fz 4
  have c0 := h.c0
  have c1 := h.c1
  have c3 := h.c3
  have c4 := h.c4
  have k1 := h.ok.k
  have k2 := h.ok.size
  have k3 := h.ok.room
  have hm := slice_cap h.own
  cases ao with
  | none =>
    obtain ⟨e1, e2⟩ := hnil rfl
    have hsz0 : x.S.size ≤ 0 := by omega
    clear hnil hsome e1
    subst e2
    go_enter Try.func15, Try.ntmps15
    go_wp2_with fail
    go_quiet (first | (go_at_call 16; refine Calls.quiet_of (loose_quiet (h.drewN _))))
    have H := Lib.hid h
    clear h E
    go_wp2_with fail
    go_ret
    exact ⟨rfl, _, crash_fin (H.out.drewN nq) hk, fun _ hg => Or.inl hg, crash_frame _ _ _ _ _ _ _ _⟩
  | some a =>
    obtain ⟨g, rfl⟩ := hsome a rfl
    clear hnil hsome
    go_enter Try.func15, Try.ntmps15
    go_wp2_with fail
    go_quiet (first | (go_at_call 16; refine Calls.quiet_of (loose_quiet (h.drewN _))))
    have H := Lib.hid h
    clear h E
    go_wp2_with fail
    go_ret
    exact ⟨rfl, _, crash_fin (H.out.drewN nq) hk, fun _ hg => Or.inl hg, crash_frame _ _ _ _ _ _ _ _⟩

theorem crash_any (d : Nat) (v : Value) (x : DS) (keep : Int) (w : World) (h : DiskV w d v x) :
    Calls Try.prog 15 #[.pointer (some ⟨d, 0, none⟩), .int .i64 keep] w fun e w' => e = .returned (.int .i64 0) ∧ Did d v.ownBlock w w' (x.crash keep) := by
  obtain ⟨ao, cap, hv, hnil, hsome, hcap⟩ := h.shape
  subst hv
  have hk := DS.kept_le h.ok keep
  have k1 := h.ok.k
  unfold DS.crash
  obtain ⟨n, hn⟩ : ∃ n, n = x.kept keep := ⟨_, rfl⟩
  rw [← hn] at hk ⊢
  unfold DS.kept at hn
  by_cases h1 : keep < 0
  · exact crash_a d ao cap x keep n w h hk.2 hnil hsome hcap h1 (by omega)
  · by_cases h2 : keep ≤ x.S.size - x.k
    · exact crash_b d ao cap x keep n w h hk.2 hnil hsome hcap (by omega) h2 (by omega)
    · exact crash_c d ao cap x keep n w h hk.2 hnil hsome hcap (by omega) (by omega) (by omega)

end Go.Proofs.Ytimoenlnkafhoaa
