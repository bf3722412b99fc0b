/-
  The disk's calls, by their contracts.
-/
import Derived.Test.YtimoenlnkafhoaaState
set_option linter.unusedVariables false
namespace Go.Proofs.Ytimoenlnkafhoaa
open Go.RowKit
open Go.Lib (strCells)

theorem Try.info5 : (Try.prog.info? 5).map (fun i => (i.zero, i.size, i.bytes)) = some (some (.int .u8 0), 1, 1) := by kernel_rfl

theorem due_any (p : Value) (d o : Nat) (a : Nat) (w : World) (hc : w.cell? ⟨d, o, none⟩ = some (.int .i64 a)) (hf : w.frozen? ⟨d, o, none⟩ = false) (ha : a ≤ 9223372036854775807) :
    Calls Try.prog 27 #[p, .pointer (some ⟨d, o, none⟩)] w fun e w' => e = .returned (.bool (decide (a = 1))) ∧ w.setCell ⟨d, o, none⟩ (.int .i64 ((a - 1 : Nat) : Int)) = w' := by
  by_cases h0 : a = 0
  · subst h0
    go_enter Try.func27, Try.ntmps27
    go_wp2
    go_ret
    exact ⟨rfl, setCell_self hc⟩
  · have hp : 1 ≤ a := by omega
    have e0 : ((a : Int) == 0) = false := beq_eq_false_iff_ne.2 (by omega)
    go_enter Try.func27, Try.ntmps27
    go_wp2
    go_ret
    refine ⟨?_, ?_⟩
    · have : ((a : Int) - 1 == 0) = decide (a = 1) := by
        by_cases h1 : a = 1
        · subst h1; rfl
        · rw [decide_eq_false h1]; exact beq_eq_false_iff_ne.2 (by omega)
      simp [this]
    · have : ((a - 1 : Nat) : Int) = (a : Int) - 1 := by omega
      rw [this]

theorem new_bad (n : Int) (w : World) (h : n < 0 ∨ 1048576 < n) :
    Calls Try.prog 10 #[.int .i64 n] w fun e w' => e = .returned (.tuple #[.pointer none, .int .i64 2]) ∧ w = w' := by
  by_cases h1 : n < 0
  · go_enter Try.func10, Try.ntmps10
    go_wp2
    go_ret2
    exact ⟨rfl, rfl⟩
  · have h2 : 1048576 < n := by omega
    clear h
    go_enter Try.func10, Try.ntmps10
    go_wp2
    go_ret2
    exact ⟨rfl, rfl⟩

def DS.empty (n : Nat) : DS := { a := 0, s := 0, room := n, S := .empty, k := 0 }

theorem new_any (n : Nat) (w : World) (h : n ≤ 1048576) :
    Calls Try.prog 10 #[.int .i64 n] w fun e w' => e = .returned (.tuple #[.pointer (some ⟨w.heap.size, 0, none⟩), .int .i64 0]) ∧ DiskV w' w.heap.size (.slice none 0 0) (DS.empty n) ∧ Below w.heap.size w w' := by
  go_enter Try.func10, Try.ntmps10
  go_wp2
  go_ret2
  refine ⟨rfl, ⟨?_, World.ownsRow_nil _ _ _ _, by simp [Value.ownBlock], ⟨Nat.zero_le _, Nat.zero_le _, h, Nat.zero_le _, Nat.zero_le _⟩⟩, (Below.refl _ _).alloc (Nat.le_refl _) _⟩
  exact heap_alloc_new w _

theorem size_any (d : Nat) (v : Value) (x : DS) (w : World) (h : DiskV w d v x) :
    Calls Try.prog 25 #[.pointer (some ⟨d, 0, none⟩)] w fun e w' => e = .returned (.int .i64 x.S.size) ∧ w = w' := by
  obtain ⟨ao, cap, rfl, _, _⟩ := h.shape
  have c3 := h.c3
  go_enter Try.func25, Try.ntmps25
  go_wp2
  go_ret
  exact ⟨rfl, rfl⟩

theorem left_any (d : Nat) (v : Value) (x : DS) (w : World) (h : DiskV w d v x) :
    Calls Try.prog 26 #[.pointer (some ⟨d, 0, none⟩)] w fun e w' => e = .returned (.int .i64 ((x.room : Int) - x.S.size)) ∧ ∃ n, w' = w.drewN n := by
  obtain ⟨ao, cap, rfl, _, _⟩ := h.shape
  have c3 := h.c3
  have c2 := h.c2
  have h1 := h.ok.size
  have h2 := h.ok.room
  have e1 : IntKind.i64.wrap ((x.room : Int) - x.S.size) = (x.room : Int) - x.S.size := IntWalk.i64_in _ (by omega)
  go_enter Try.func26, Try.ntmps26
  go_wp2_with fail
  go_quiet (fail)
  go_wp2_with fail
  go_ret
  exact ⟨rfl, _, rfl⟩
theorem loose_any (d : Nat) (v : Value) (x : DS) (w : World) (h : DiskV w d v x) :
    Calls Try.prog 16 #[.pointer (some ⟨d, 0, none⟩)] w fun e w' => e = .returned (.int .i64 ((x.S.size : Int) - x.k)) ∧ ∃ n, w' = w.drewN n := by
  obtain ⟨ao, cap, rfl, _, _⟩ := h.shape
  have c3 := h.c3
  have c4 := h.c4
  have h1 := h.ok.size
  have h2 := h.ok.room
  have h3 := h.ok.k
  have e1 : IntKind.i64.wrap ((x.S.size : Int) - x.k) = (x.S.size : Int) - x.k := IntWalk.i64_in _ (by omega)
  go_enter Try.func16, Try.ntmps16
  go_wp2_with fail
  go_quiet (fail)
  go_wp2_with fail
  go_ret
  exact ⟨rfl, _, rfl⟩

theorem strCells_at (s : ByteArray) (j : Nat) (hj : j < s.data.toList.length) : (strCells s)[j]? = some (.int .u8 (s.data.toList[j].toNat : Int)) := by
  unfold strCells
  rw [List.getElem?_map, List.getElem?_eq_getElem hj]
  rfl

theorem conv_own {w : World} {v : Value} {s : ByteArray} (h : w.ownsRow 0 5 1 v s.size (strCells s)) : (convert 54 9 v).run Try.prog w = .ok (.string s) w := by
  rcases h.2 with ⟨rfl, hn⟩ | ⟨g, cap, cur, rfl, _, hh, hn, _, hcs, htake⟩
  · have e : s = .empty := by
      apply ByteArray.ext
      have h2 : s.data.size = 0 := hn
      have : s.data = #[] := Array.eq_empty_of_size_eq_zero h2
      rw [this]; rfl
    subst e
    exact run_convert_bytes_nil w 54 5 Try.underlying54 Try.underlying5 _ _ 9 Try.underlying9
  · have hl : s.data.toList.length = s.size := by rw [Array.length_toList]; rfl
    rw [← hl]
    exact run_convert_bytes_back w 54 9 5 ⟨g, 0, none⟩ cap s.data.toList Try.underlying54 Try.underlying5 Try.underlying9 (fun j hj => by
      have e : (⟨g, 0, none⟩ : Addr).add j = ⟨g, j, none⟩ := by simp [Addr.add]; intro h; rw [h]
      rw [e]
      have hc := h.cellAt j (by omega)
      rw [hc, strCells_at s j hj])

theorem read_any (d : Nat) (v : Value) (x : DS) (w : World) (h : DiskV w d v x) :
    Calls Try.prog 14 #[.pointer (some ⟨d, 0, none⟩)] w fun e w' => e = .returned (.string x.S) ∧ w = w' := by
  have hconv := conv_own h.own
  have c3 := h.c3
  go_enter Try.func14, Try.ntmps14
  go_wp2
  go_ret
  exact ⟨rfl, rfl⟩

/-! ### Append. -/
theorem tickA_set {w : World} {d : Nat} {v : Value} {x : DS} (h : DiskV w d v x) : DiskV (w.setCell ⟨d, 0, none⟩ (.int .i64 ((x.a - 1 : Nat) : Int))) d v x.tickA :=
  h.set 0 _ _ _ rfl h.own h.ne h.ok.tickA
theorem tickS_set {w : World} {d : Nat} {v : Value} {x : DS} (h : DiskV w d v x) : DiskV (w.setCell ⟨d, 1, none⟩ (.int .i64 ((x.s - 1 : Nat) : Int))) d v x.tickS :=
  h.set 1 _ _ _ rfl h.own h.ne h.ok.tickS

theorem dueA {d : Nat} {v : Value} {x : DS} {w : World} (p : Value) (b : Bool) (hb : decide (x.a = 1) = b) (h : DiskV w d v x) :
    Calls Try.prog 27 #[p, .pointer (some ⟨d, 0, none⟩)] w fun e w' => e = .returned (.bool b) ∧ DiskV w' d v x.tickA ∧ Fr d v.ownBlock w w' := by
  refine (due_any p d 0 x.a w h.c0 (h.fz 0) h.ok.ka).mono ?_
  rintro e w' ⟨rfl, rfl⟩
  exact ⟨by rw [hb], tickA_set h, (Fr.refl _ _ _).setCell _ _⟩
theorem dueS {d : Nat} {v : Value} {x : DS} {w : World} (p : Value) (b : Bool) (hb : decide (x.s = 1) = b) (h : DiskV w d v x) :
    Calls Try.prog 27 #[p, .pointer (some ⟨d, 1, none⟩)] w fun e w' => e = .returned (.bool b) ∧ DiskV w' d v x.tickS ∧ Fr d v.ownBlock w w' := by
  refine (due_any p d 1 x.s w h.c1 (h.fz 1) h.ok.ks).mono ?_
  rintro e w' ⟨rfl, rfl⟩
  exact ⟨by rw [hb], tickS_set h, (Fr.refl _ _ _).setCell _ _⟩
theorem Fr.drewN {d : Nat} {row : Option Nat} {w w' : World} (h : Fr d row w w') (n : Nat) : Fr d row w (w'.drewN n) := ⟨h.os, h.tape, h.output, h.size, h.block⟩
theorem left_at {d : Nat} {v : Value} {x : DS} {w : World} (h : DiskV w d v x) :
    Calls Try.prog 26 #[.pointer (some ⟨d, 0, none⟩)] w fun e w' => e = .returned (.int .i64 ((x.room : Int) - x.S.size)) ∧ DiskV w' d v x ∧ Fr d v.ownBlock w w' := by
  refine (left_any d v x w h).mono ?_
  rintro e w' ⟨rfl, n, rfl⟩
  exact ⟨rfl, h.drewN n, (Fr.refl _ _ _).drewN n⟩

theorem append_due (d : Nat) (v : Value) (x : DS) (t : ByteArray) (w : World) (h : DiskV w d v x) (ha : x.a = 1) :
    Calls Try.prog 11 #[.pointer (some ⟨d, 0, none⟩), .string t] w fun e w' => e = .returned (.int .i64 230) ∧ DiskV w' d v x.tickA ∧ Fr d v.ownBlock w w' := by
  have HD := Lib.hid (decide_eq_true ha)
  clear ha
  go_enter Try.func11, Try.ntmps11
  go_wp2_with fail
  go_region_held3 (fun w' => True) (trivial) (first | (go_at_call 27; refine (dueA _ true HD.out h.drew).mono ?_; rintro e w1 ⟨rfl, g1, f1⟩))
  go_wp2_with fail
  go_ret
  exact ⟨rfl, g1, (Fr.refl _ _ _).drew.trans f1 (fun g hg => Or.inl hg)⟩

theorem append_full (d : Nat) (v : Value) (x : DS) (t : ByteArray) (w : World) (h : DiskV w d v x) (ha : x.a ≠ 1) (hs : x.room < x.S.size + t.size) (hm : t.size ≤ maxLen) :
    Calls Try.prog 11 #[.pointer (some ⟨d, 0, none⟩), .string t] w fun e w' => e = .returned (.int .i64 6) ∧ DiskV w' d v x.tickA ∧ Fr d v.ownBlock w w' := by
  unfold maxLen at hm
  have HD := Lib.hid (decide_eq_false ha)
  clear ha
  have h1 : x.tickA.S.size ≤ x.tickA.room := h.ok.size
  have hs' : (x.tickA.room : Int) - x.tickA.S.size < t.size := by show (x.room : Int) - x.S.size < t.size; omega
  go_enter Try.func11, Try.ntmps11
  go_wp2_with fail
  go_region_held3 (fun w' => True) (trivial) (first | (go_at_call 27; refine (dueA _ false HD.out h.drew).mono ?_; rintro e w1 ⟨rfl, g1, f1⟩))
  go_wp2_with fail
  refine (left_at g1).mono ?_
  rintro e w2 ⟨rfl, g2, f2⟩
  simp only []
  go_wp2_with fail
  go_ret
  exact ⟨rfl, g2, ((Fr.refl _ _ _).drew.trans f1 (fun g hg => Or.inl hg)).trans f2 (fun g hg => Or.inl hg)⟩

theorem strCells_append (s t : ByteArray) : strCells (s ++ t) = strCells s ++ strCells t := by
  simp [strCells, ByteArray.data_append]

/-- Appending a text to bytes of the disk's own, with where the array then lies: where it lay, or in a new block. -/
theorem run_append_tracked {w : World} {v : Value} {n : Nat} {xs : List Value} (ty : TypeId) (i : TypeInfo) (hi : Try.prog.info? 5 = some i) (hz : i.zero = some (.int .u8 0)) (hsize : i.size = 1) (hby : i.bytes = 1)
    (hown : w.ownsRow 0 5 1 v n xs) (s : ByteArray) (hb : n + s.size ≤ 1048576) :
    ∃ v' w', (Builtin.append_ #[54, 9] ty #[v, .string s]).run Try.prog w = .ok v' w' ∧ w'.ownsRow 0 5 1 v' (n + s.size) (xs ++ strCells s) ∧ w.grownBy w' v.ownBlock ∧
      (∀ g, v'.ownBlock = some g → v.ownBlock = some g ∨ w.heap.size ≤ g) := by
  obtain ⟨v', w', hr, h1, h2, h3⟩ := Lib.run_append_own_string (P := Try.prog) w 0 54 9 ty 5 i Try.underlying54 Try.underlying9 hi hz hsize hby v n xs hown s (by unfold maxLen; omega) (by omega) (Nat.zero_le _)
  refine ⟨v', w', hr, h1, h2, fun g hg => ?_⟩
  rcases hown.2 with ⟨rfl, rfl⟩ | ⟨g0, cap, cur, rfl, _, hh, hn, _, hcs, _⟩
  · have hx : xs = [] := List.eq_nil_of_length_eq_zero (by simpa using hown.1)
    subst hx
    obtain ⟨v2, w2, hr2, k1, _, _⟩ := Lib.run_append_own_string (P := Try.prog) w w.heap.size 54 9 ty 5 i Try.underlying54 Try.underlying9 hi hz hsize hby (.slice none 0 0) 0 [] (World.ownsRow_nil _ _ _ _) s (by unfold maxLen; omega) (by omega) (Nat.le_refl _)
    have e := hr.symm.trans hr2
    simp only [Result.ok.injEq] at e
    obtain ⟨rfl, rfl⟩ := e
    exact Or.inr (k1.lt g hg).1
  · by_cases hroom : n + s.size ≤ cap
    · have hr2 := Lib.run_append_room_string (P := Try.prog) w 54 9 ty 5 i Try.underlying54 Try.underlying9 hi hsize g0 n cap cur hh s hroom (by omega)
      have e := hr.symm.trans hr2
      simp only [Result.ok.injEq] at e
      rw [e.1] at hg
      exact Or.inl hg
    · have hxl : xs.length = n := by simpa using hown.1
      have hr2 := Lib.run_append_grow_string (P := Try.prog) w 54 9 ty 5 i (.int .u8 0) Try.underlying54 Try.underlying9 hi hz ⟨g0, 0, none⟩ n cap xs (by rw [hsize]; simpa using hxl) (hown.cells (g := g0) rfl) s (by omega) (by omega) (by rw [hby]; exact growslice_fits (by omega) (by omega))
      have e := hr.symm.trans hr2
      simp only [Result.ok.injEq] at e
      rw [e.1] at hg
      simp only [Value.ownBlock, Option.some.injEq] at hg
      exact Or.inr (by omega)

theorem wpList_append_tracked {w : World} {ops : Array Oper} {rest : List Oper} {o : Oper} {a : Act} {Q : Exit → Act → World → Prop} (hgd : o.guard = none) (sl x : Operand)
    (ho : o.op = .call { callee := .builtin .append, args := #[sl, x], argTypes := #[54, 9] })
    {i : TypeInfo} (hi : Try.prog.info? 5 = some i) (hz : i.zero = some (.int .u8 0)) (hsize : i.size = 1) (hby : i.bytes = 1)
    {v : Value} {n : Nat} {xs : List Value} (hs : a.eval sl = v) (hown : w.ownsRow 0 5 1 v n xs) (s : ByteArray) (hx : a.eval x = .string s) (hb : n + s.size ≤ 1048576)
    (h : ∀ v' w', w'.ownsRow 0 5 1 v' (n + s.size) (xs ++ strCells s) → w.grownBy w' v.ownBlock → (∀ g, v'.ownBlock = some g → v.ownBlock = some g ∨ w.heap.size ≤ g) → wpList Try.prog ops Q rest (a.put o.dst v') w') : wpList Try.prog ops Q (o :: rest) a w := by
  refine wpList_plain hgd fun K hK => ?_
  obtain ⟨v', w', hr, h2, h3, h4⟩ := run_append_tracked o.type i hi hz hsize hby hown s hb
  unfold Oper.wp execOp
  simp only [ho, resolve, invoke, builtin, Sem.run_bind, Sem.run_pure, Result.andThen_ok, List.map_toArray, List.map_cons, List.map_nil, hs, hx, hr]
  exact hK _ _ (h v' w' h2 h3 h4)

theorem own_shape {w : World} {v : Value} {n : Nat} {xs : List Value} (h : w.ownsRow 0 5 1 v n xs) : ∃ ao cap, v = .slice ao n cap := by
  rcases h.2 with ⟨hv, hn⟩ | ⟨g, cap, cur, hv, _⟩
  · exact ⟨none, 0, by rw [hv, hn]⟩
  · exact ⟨_, cap, hv⟩

theorem append_ok (d : Nat) (v : Value) (x : DS) (t : ByteArray) (w : World) (h : DiskV w d v x) (ha : x.a ≠ 1) (hs : x.S.size + t.size ≤ x.room) :
    Calls Try.prog 11 #[.pointer (some ⟨d, 0, none⟩), .string t] w fun e w' => e = .returned (.int .i64 0) ∧ Did d v.ownBlock w w' { x.tickA with S := x.S ++ t } := by
  have HD := Lib.hid (decide_eq_false ha)
  clear ha
  have h1 : x.tickA.S.size ≤ x.tickA.room := h.ok.size
  have hrm : x.tickA.room ≤ 1048576 := h.ok.room
  have hs' : (t.size : Int) ≤ (x.tickA.room : Int) - x.tickA.S.size := by show (t.size : Int) ≤ (x.room : Int) - x.S.size; omega
  have hs2 : x.tickA.S.size + t.size ≤ 1048576 := by show x.S.size + t.size ≤ 1048576; have := h.ok.room; omega
  obtain ⟨i0, hi, hz, hz1, hz2⟩ := info_parts Try.info5
  go_enter Try.func11, Try.ntmps11
  go_wp2_with fail
  go_region_held3 (fun w' => True) (trivial) (first | (go_at_call 27; refine (dueA _ false HD.out h.drew).mono ?_; rintro e w1 ⟨rfl, g1, f1⟩))
  go_wp2_with fail
  refine (left_at g1).mono ?_
  rintro e w2 ⟨rfl, g2, f2⟩
  simp only []
  have f3 := ((Fr.refl _ _ _).drew.trans f1 (fun g hg => Or.inl hg)).trans f2 (fun g hg => Or.inl hg)
  clear f1 f2 g1 h
  have k3 := g2.c3
  have own := g2.own
  go_wp2_with (refine wpList_append_tracked rfl _ _ rfl hi hz hz1 hz2 rfl own t rfl hs2 ?_; intro v' w3 own3 gr3 trk3; obtain ⟨ao, cap, rfl⟩ := own_shape own3; have m3 := (World.cell?_of_block (a := ⟨d, 3, none⟩) (gr3.block d g2.lt (fun e => g2.ne e.symm))).trans k3; have z3 := (World.frozen?_of_block (a := ⟨d, 3, none⟩) (gr3.block d g2.lt (fun e => g2.ne e.symm))).trans (g2.fz 3))
  go_ret
  have hne : (Value.slice ao (x.tickA.S.size + t.size) cap).ownBlock ≠ some d := fun e => by
    rcases trk3 d e with h1 | h1
    · exact g2.ne h1
    · have := g2.lt; omega
  have hd3 : w3.heap[d]? = some (.cells (x.tickA.cells v) 56 (0, 0)) := (gr3.block d g2.lt (fun e => g2.ne e.symm)).trans g2.block
  refine ⟨rfl, _, ⟨?_, ?_, hne, ?_⟩, ?_, (f3.grown gr3).setCell _ _⟩
  · simp only [World.setCell, Array.getElem?_modify, if_true, hd3, Option.map_some]
    rfl
  · refine ownsRow_of_block ?_ (fun g hg => Below.heap_setCell _ _ _ _ (fun e => hne (by rw [hg, e])))
    rw [show (DS.S { x.tickA with S := x.S ++ t }).size = x.tickA.S.size + t.size from ByteArray.size_append, show strCells (DS.S { x.tickA with S := x.S ++ t }) = strCells x.tickA.S ++ strCells t from strCells_append _ _]
    exact own3
  · exact ⟨g2.ok.ka, g2.ok.ks, g2.ok.room, by show (x.S ++ t).size ≤ x.room; rw [ByteArray.size_append]; omega, by show x.k ≤ (x.S ++ t).size; rw [ByteArray.size_append]; have := g2.ok.k; have e : x.tickA.k = x.k := rfl; have e2 : x.tickA.S = x.S := rfl; rw [e, e2] at this; omega⟩
  · intro g hg
    rcases trk3 g hg with h1 | h1
    · exact Or.inl h1
    · exact Or.inr (Nat.le_trans f3.size h1)

theorem append_any (d : Nat) (v : Value) (x : DS) (t : ByteArray) (w : World) (h : DiskV w d v x) (hm : t.size ≤ maxLen) :
    Calls Try.prog 11 #[.pointer (some ⟨d, 0, none⟩), .string t] w fun e w' => e = .returned (.int .i64 (x.putE t)) ∧ Did d v.ownBlock w w' (x.put t) := by
  unfold DS.put DS.putE
  by_cases ha : x.a = 1
  · refine (append_due d v x t w h ha).mono ?_
    rintro e w' ⟨rfl, g, f⟩
    rw [if_pos ha, if_neg (by decide)]
    exact ⟨rfl, v, g, fun _ hg => Or.inl hg, f⟩
  · rw [if_neg ha]
    by_cases hs : x.room < x.S.size + t.size
    · refine (append_full d v x t w h ha hs hm).mono ?_
      rintro e w' ⟨rfl, g, f⟩
      rw [if_pos hs, if_neg (by decide)]
      exact ⟨rfl, v, g, fun _ hg => Or.inl hg, f⟩
    · rw [if_neg hs, if_pos rfl]
      exact append_ok d v x t w h ha (by omega)

end Go.Proofs.Ytimoenlnkafhoaa
