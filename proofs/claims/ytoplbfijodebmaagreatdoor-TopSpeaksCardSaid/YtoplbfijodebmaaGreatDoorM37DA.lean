/-
  The walk.
-/
import Derived.Test.YtoplbfijodebmaaGreatDoorM33PC
import Derived.Lib.Builder
import Derived.Lib.AppendStr
import Derived.Lib.UnsafeStr
import Derived.Laws.AppendOwn
import Derived.Laws.Externs
import Derived.Shelf.RegionOpenPlain
set_option linter.unusedVariables false
set_option linter.unusedSimpArgs false
set_option maxRecDepth 100000
set_option maxHeartbeats 40000000
namespace Go.Proofs.YtoplbfijodebmaaGreatDoor
open Go.RowKit T
theorem inf5 : ∃ i, Tryz.prog.info? 5 = some i ∧ i.zero = some (.int .u8 0) ∧ i.size = 1 ∧ i.bytes = 1 :=
 info_parts (by kernel_rfl)
theorem inf166 : ∃ j, Tryz.prog.info? 166 = some j ∧ j.size = 2 := by
 have h : (Tryz.prog.info? 166).map (·.size) = some 2 := by kernel_rfl
 exact Option.map_eq_some_iff.1 h
theorem lies166 : liesAt Tryz.prog Tryz.prog.depth 166 (2 / Tryz.prog.cellsOf 166) 0 166 1 = true := by kernel_rfl
theorem ty5cell : Tryz.prog.cellsOf 5 = 1 := by kernel_rfl
structure Bdr (b : Nat) (v : Value) (s : ByteArray) (w : World) : Prop where
 p : ∃ p, (p = .pointer none ∨ p = .pointer (some ⟨b, 0, none⟩)) ∧ w.heap[b]? = some (.cells #[p, v] 166 (0, 0))
 own : w.ownsRow 0 5 1 v s.size (Lib.strCells s)
 nil : v = .slice none 0 0 ∨ s.size ≠ 0
structure Tu (b : Nat) (v v' : Value) (w w' : World) : Prop where
 os : w'.os = w.os
 tape : w'.tape = w.tape
 output : w'.output = w.output
 size : w.heap.size ≤ w'.heap.size
 block : ∀ k, k < w.heap.size → k ≠ b → v.ownBlock ≠ some k → w'.heap[k]? = w.heap[k]?
 trk : ∀ g, v'.ownBlock = some g → v.ownBlock = some g ∨ w.heap.size ≤ g
theorem Tu.trans {b : Nat} {v v1 v2 : Value} {w w1 w2 : World} (h : Tu b v v1 w w1) (k : Tu b v1 v2 w1 w2) : Tu b v v2 w w2 := by
 refine ⟨k.os.trans h.os, k.tape.trans h.tape, k.output.trans h.output, Nat.le_trans h.size k.size, fun i hi hb hv => ?_, fun g hg => ?_⟩
 ·refine (k.block i (Nat.lt_of_lt_of_le hi h.size) hb fun e => ?_).trans (h.block i hi hb hv)
  rcases h.trk i e with e | e
  ·exact hv e
  omega
 rcases k.trk g hg with e | e
 ·exact h.trk g e
 exact Or.inr (Nat.le_trans h.size e)
theorem Bdr.lt {b : Nat} {v : Value} {s : ByteArray} {w : World} (h : Bdr b v s w) : b < w.heap.size := by
 obtain ⟨p, _, hp⟩ := h.p
 exact lt_heap hp
theorem Bdr.ne {b : Nat} {v : Value} {s : ByteArray} {w : World} (h : Bdr b v s w) : v.ownBlock ≠ some b := by
 obtain ⟨p, _, hp⟩ := h.p
 exact Lib.ownBlock_ne h.own hp (by decide)
theorem Bdr.ltv {b : Nat} {v : Value} {s : ByteArray} {w : World} (h : Bdr b v s w) {g : Nat} (e : v.ownBlock = some g) : g < w.heap.size := (h.own.lt g e).2
theorem Bdr.keep {b : Nat} {v : Value} {s : ByteArray} {w w' : World} (h : Bdr b v s w) (h1 : w'.heap[b]? = w.heap[b]?) (h2 : ∀ g, v.ownBlock = some g → w'.heap[g]? = w.heap[g]?) : Bdr b v s w' := by
 obtain ⟨p, hp, hb⟩ := h.p
 refine ⟨⟨p, hp, h1.trans hb⟩, ⟨h.own.1, ?_⟩, h.nil⟩
 rcases h.own.2 with hn | ⟨g, cap, cur, hv, hg0, hg, r⟩
 ·exact .inl hn
 exact .inr ⟨g, cap, cur, hv, hg0, (h2 g (by rw [hv]; rfl)).trans hg, r⟩
theorem Bdr.put {b : Nat} {p v v' : Value} {s : ByteArray} {w : World} (hp : p = .pointer none ∨ p = .pointer (some ⟨b, 0, none⟩)) (hb : w.heap[b]? = some (.cells #[p, v] 166 (0, 0))) (ho : w.ownsRow 0 5 1 v' s.size (Lib.strCells s)) (hn : v' = .slice none 0 0 ∨ s.size ≠ 0) :
  Bdr b v' s (w.setCell ⟨b, 1, none⟩ v') := by
 refine ⟨⟨p, hp, ?_⟩, ?_, hn⟩
 ·simp [World.setCell, Array.getElem?_modify, hb]
 refine ⟨ho.1, ?_⟩
 rcases ho.2 with h0 | ⟨g, cap, cur, hv, hg0, hg, r⟩
 ·exact .inl h0
 refine .inr ⟨g, cap, cur, hv, hg0, ?_, r⟩
 rw [Below.heap_setCell _ _ _ _ (fun e => ?_)]
 ·exact hg
 simp only [] at e
 subst e
 rw [hg] at hb
 simp at hb
theorem own_sh {w : World} {v : Value} {n : Nat} {xs : List Value} (h : w.ownsRow 0 5 1 v n xs) : ∃ ao cap, v = .slice ao n cap := by
 rcases h.2 with ⟨hv, hn⟩ | ⟨g, cap, cur, hv, _⟩
 ·exact ⟨none, 0, by rw [hv, hn]⟩
 exact ⟨_, cap, hv⟩
theorem strC_append (s t : ByteArray) : Lib.strCells (s ++ t) = Lib.strCells s ++ Lib.strCells t := by
 simp only [Lib.strCells, ByteArray.data_append, Array.toList_append, List.map_append]
theorem run_app_s {w : World} {v : Value} {n : Nat} {xs : List Value} (ty : TypeId) (hown : w.ownsRow 0 5 1 v n xs) (s : ByteArray) (hb : n + s.size ≤ 1048576) :
  ∃ v' w', (Builtin.append_ #[52, 9] ty #[v, .string s]).run Tryz.prog w = .ok v' w' ∧ w'.ownsRow 0 5 1 v' (n + s.size) (xs ++ Lib.strCells s) ∧ w.grownBy w' v.ownBlock ∧
   (∀ g, v'.ownBlock = some g → v.ownBlock = some g ∨ w.heap.size ≤ g) ∧ (v' = .slice none 0 0 ↔ v = .slice none 0 0 ∧ s.size = 0) := by
 obtain ⟨i, hi, hz, hsize, hby⟩ := inf5
 obtain ⟨v', w', hr, h1, h2, h3⟩ := Lib.run_append_own_string (P := Tryz.prog) w 0 52 9 ty 5 i Tryz.underlying52 (by kernel_rfl) hi hz hsize hby v n xs hown s (by unfold maxLen; omega) (by omega) (Nat.zero_le _)
 refine ⟨v', w', hr, h1, h2, fun g hg => ?_, h3⟩
 rcases hown.2 with ⟨rfl, rfl⟩ | ⟨g0, cap, cur, rfl, _, hh, hn, _, hcs, _⟩
 ·have hx : xs = [] := List.eq_nil_of_length_eq_zero (by simpa using hown.1)
  subst hx
  obtain ⟨v2, w2, hr2, k1, _, _⟩ := Lib.run_append_own_string (P := Tryz.prog) w w.heap.size 52 9 ty 5 i Tryz.underlying52 (by kernel_rfl) hi hz hsize hby (.slice none 0 0) 0 [] (World.ownsRow_nil _ _ _ _) s (by unfold maxLen; omega) (by omega) (Nat.le_refl _)
  have e := hr.symm.trans hr2
  simp only [Result.ok.injEq] at e
  obtain ⟨rfl, rfl⟩ := e
  exact Or.inr (k1.lt g hg).1
 by_cases hroom : n + s.size ≤ cap
 ·have hr2 := Lib.run_append_room_string (P := Tryz.prog) w 52 9 ty 5 i Tryz.underlying52 (by kernel_rfl) hi hsize g0 n cap cur hh s hroom (by omega)
  have e := hr.symm.trans hr2
  simp only [Result.ok.injEq] at e
  rw [e.1] at hg
  exact Or.inl hg
 have hxl : xs.length = n := by simpa using hown.1
 have hr2 := Lib.run_append_grow_string (P := Tryz.prog) w 52 9 ty 5 i (.int .u8 0) Tryz.underlying52 (by kernel_rfl) hi hz ⟨g0, 0, none⟩ n cap xs (by rw [hsize]; simpa using hxl) (hown.cells (g := g0) rfl) s (by omega) (by omega) (by rw [hby]; exact growslice_fits (by omega) (by omega))
 have e := hr.symm.trans hr2
 simp only [Result.ok.injEq] at e
 rw [e.1] at hg
 simp only [Value.ownBlock, Option.some.injEq] at hg
 exact Or.inr (by omega)
theorem run_app_b {w : World} {v : Value} {n : Nat} {xs : List Value} (ty : TypeId) (hown : w.ownsRow 0 5 1 v n xs) (ad : Addr) (m c : Nat) (news : List Value) (hl : news.length = m) (hnews : ∀ j u, news[j]? = some u → w.cell? (ad.add j) = some u) (h1 : ∀ u ∈ news, u.oneCell' = true) (hb : n + m ≤ 1048576) :
  ∃ v' w', (Builtin.append_ #[52, 52] ty #[v, .slice (some ad) m c]).run Tryz.prog w = .ok v' w' ∧ w'.ownsRow 0 5 1 v' (n + m) (xs ++ news) ∧ w.grownBy w' v.ownBlock ∧
   (∀ g, v'.ownBlock = some g → v.ownBlock = some g ∨ w.heap.size ≤ g) ∧ (v' = .slice none 0 0 ↔ v = .slice none 0 0 ∧ m = 0) := by
 obtain ⟨i, hi, hz, hsize, hby⟩ := inf5
 have hl' : news.length = m * 1 := by omega
 obtain ⟨v', w', hr, h4, h2, h3⟩ := run_append_own (P := Tryz.prog) (w := w) 0 52 ty 5 i (.int .u8 0) 1 1 Tryz.underlying52 hi hz hsize hby rfl (by decide) v n xs hown ad m c news hl' hnews h1 (by unfold maxLen; omega) (by omega) (Nat.zero_le _)
 refine ⟨v', w', hr, h4, h2, fun g hg => ?_, h3⟩
 rcases hown.2 with ⟨rfl, rfl⟩ | ⟨g0, cap, cur, rfl, _, hh, hn, _, hcs, _⟩
 ·have hx : xs = [] := List.eq_nil_of_length_eq_zero (by simpa using hown.1)
  subst hx
  obtain ⟨v2, w2, hr2, k1, _, _⟩ := run_append_own (P := Tryz.prog) (w := w) w.heap.size 52 ty 5 i (.int .u8 0) 1 1 Tryz.underlying52 hi hz hsize hby rfl (by decide) (.slice none 0 0) 0 [] (World.ownsRow_nil _ _ _ _) ad m c news hl' hnews h1 (by unfold maxLen; omega) (by omega) (Nat.le_refl _)
  have e := hr.symm.trans hr2
  simp only [Result.ok.injEq] at e
  obtain ⟨rfl, rfl⟩ := e
  exact Or.inr (k1.lt g hg).1
 by_cases hroom : n + m ≤ cap
 ·have hr2 := run_append_room (P := Tryz.prog) w 52 ty 5 i Tryz.underlying52 hi g0 n cap cur hh ad m c news (by rw [hsize]; exact hl') hnews h1 hroom (by rw [hsize]; omega)
  have e := hr.symm.trans hr2
  simp only [Result.ok.injEq] at e
  rw [e.1] at hg
  exact Or.inl hg
 have hr2 := run_append_grow (P := Tryz.prog) w 52 ty 5 i (.int .u8 0) Tryz.underlying52 hi hz ⟨g0, 0, none⟩ n cap xs (by rw [hsize]; exact hown.1) (hown.cells (g := g0) rfl) ad m c news (by rw [hsize]; exact hl') hnews (by omega) (by omega) (by rw [hby]; exact growslice_fits (by omega) (by omega))
 have e := hr.symm.trans hr2
 simp only [Result.ok.injEq] at e
 rw [e.1] at hg
 simp only [Value.ownBlock, Option.some.injEq] at hg
 exact Or.inr (by omega)
theorem wl_app_s {w : World} {ops : Array Oper} {rest : List Oper} {o : Oper} {a : Act} {Q : Exit → Act → World → Prop} (hgd : o.guard = none) (sl x : Operand)
  (ho : o.op = .call { callee := .builtin .append, args := #[sl, x], argTypes := #[52, 9] })
  {v : Value} {n : Nat} {xs : List Value} (hs : a.eval sl = v) (hown : w.ownsRow 0 5 1 v n xs) (s : ByteArray) (hx : a.eval x = .string s) (hb : n + s.size ≤ 1048576)
  (h : ∀ v' w', w'.ownsRow 0 5 1 v' (n + s.size) (xs ++ Lib.strCells s) → w.grownBy w' v.ownBlock → (∀ g, v'.ownBlock = some g → v.ownBlock = some g ∨ w.heap.size ≤ g) → (v' = .slice none 0 0 ↔ v = .slice none 0 0 ∧ s.size = 0) → wpList Tryz.prog ops Q rest (a.put o.dst v') w') : wpList Tryz.prog ops Q (o :: rest) a w := by
 refine wpList_plain hgd fun K hK => ?_
 obtain ⟨v', w', hr, h2, h3, h4, h5⟩ := run_app_s o.type hown s hb
 unfold Oper.wp execOp
 simp only [ho, resolve, invoke, builtin, Sem.run_bind, Sem.run_pure, Result.andThen_ok, mTx, mCx, mNx, hs, hx, hr]
 exact hK _ _ (h v' w' h2 h3 h4 h5)
theorem wl_app_b {w : World} {ops : Array Oper} {rest : List Oper} {o : Oper} {a : Act} {Q : Exit → Act → World → Prop} (hgd : o.guard = none) (sl x : Operand)
  (ho : o.op = .call { callee := .builtin .append, args := #[sl, x], argTypes := #[52, 52] })
  {v : Value} {n : Nat} {xs : List Value} (hs : a.eval sl = v) (hown : w.ownsRow 0 5 1 v n xs) (ad : Addr) (m c : Nat) (news : List Value) (hx : a.eval x = .slice (some ad) m c) (hl : news.length = m) (hnews : ∀ j u, news[j]? = some u → w.cell? (ad.add j) = some u) (h1 : ∀ u ∈ news, u.oneCell' = true) (hb : n + m ≤ 1048576)
  (h : ∀ v' w', w'.ownsRow 0 5 1 v' (n + m) (xs ++ news) → w.grownBy w' v.ownBlock → (∀ g, v'.ownBlock = some g → v.ownBlock = some g ∨ w.heap.size ≤ g) → (v' = .slice none 0 0 ↔ v = .slice none 0 0 ∧ m = 0) → wpList Tryz.prog ops Q rest (a.put o.dst v') w') : wpList Tryz.prog ops Q (o :: rest) a w := by
 refine wpList_plain hgd fun K hK => ?_
 obtain ⟨v', w', hr, h2, h3, h4, h5⟩ := run_app_b o.type hown ad m c news hl hnews h1 hb
 unfold Oper.wp execOp
 simp only [ho, resolve, invoke, builtin, Sem.run_bind, Sem.run_pure, Result.andThen_ok, mTx, mCx, mNx, hs, hx, hr]
 exact hK _ _ (h v' w' h2 h3 h4 h5)
theorem cc_used (b : Nat) (w : World) (h0 : w.cell? ⟨b, 0, none⟩ = some (.pointer (some ⟨b, 0, none⟩))) :
  Calls Tryz.prog 118 #[.pointer (some ⟨b, 0, none⟩)] w fun e w' => e = .returned (.tuple #[]) ∧ w' = w := by
 obtain ⟨j, hj, _⟩ := inf166
 have hu : Tryz.prog.underlying 164 = some (.pointer 166) := by kernel_rfl
 go_enter Tryz.func118, Tryz.ntmps118
 go_wp2
 rw [Lib.run_neq_ptr_same w _ hu hj]
 go_wp2
 go_end0
 exact ⟨rfl, rfl⟩
theorem cc_fresh (b : Nat) (w : World) (h0 : w.cell? ⟨b, 0, none⟩ = some (.pointer none)) (hsh : w.shape? b = some (166, 2)) (hfz : w.frozen? ⟨b, 0, none⟩ = false) :
  Calls Tryz.prog 118 #[.pointer (some ⟨b, 0, none⟩)] w fun e w' => e = .returned (.tuple #[]) ∧ w' = w.setCell ⟨b, 0, none⟩ (.pointer (some ⟨b, 0, none⟩)) := by
 obtain ⟨j, hj, hjs⟩ := inf166
 have hu : Tryz.prog.underlying 164 = some (.pointer 166) := by kernel_rfl
 have hv : Tryz.prog.underlying 203 = some .unsafePointer := by kernel_rfl
 go_enter Tryz.func118, Tryz.ntmps118
 go_wp2
 rw [Lib.run_to_unsafe w ⟨b, 0, none⟩ hu hv hj (by rw [hjs]; decide) hsh (Nat.zero_lt_succ 1)]
 simp only [Result.andThen]
 rw [Oper.upon_value]
 go_wp2
 rw [run_callFunc_extern Tryz.func125 (by kernel_rfl) (by kernel_rfl) (by kernel_rfl) (e := Extern.AbiNoEscape.same) (by kernel_rfl)]
 rw [Lib.run_noEscape]
 simp only [Result.andThen]
 rw [Oper.upon_value]
 go_wp2
 rw [Lib.run_from_unsafe w ⟨b, 0, none⟩ hv hu hj hsh lies166]
 simp only [Result.andThen]
 rw [Oper.upon_value]
 go_wp2
 go_end0
 exact ⟨rfl, rfl⟩
theorem cc_any (b : Nat) (v : Value) (s : ByteArray) (w : World) (h : Bdr b v s w) : Calls Tryz.prog 118 #[.pointer (some ⟨b, 0, none⟩)] w fun e w' => e = .returned (.tuple #[]) ∧
  w'.heap[b]? = some (.cells #[.pointer (some ⟨b, 0, none⟩), v] 166 (0, 0)) ∧ w'.ownsRow 0 5 1 v s.size (Lib.strCells s) ∧ Tu b v v w w' := by
 obtain ⟨p, hp, hb⟩ := h.p
 have hs : w.shape? b = some (166, 2) := by simp [World.shape?, hb]
 have hf : w.frozen? ⟨b, 0, none⟩ = false := Lib.frozen_of_heap hb 0
 rcases hp with rfl | rfl
 ·refine (cc_fresh b w (by rw [Lib.cell_of_heap hb]; rfl) hs hf).mono ?_
  rintro e w' ⟨rfl, rfl⟩
  refine ⟨rfl, by simp [World.setCell, Array.getElem?_modify, hb], ?_, rfl, rfl, rfl, by simp [World.setCell], fun k hk e _ => Below.heap_setCell _ _ _ _ e, fun g hg => Or.inl hg⟩
  refine ⟨h.own.1, ?_⟩
  rcases h.own.2 with h0 | ⟨g, cap, cur, hv, hg0, hg, r⟩
  ·exact .inl h0
  refine .inr ⟨g, cap, cur, hv, hg0, ?_, r⟩
  rw [Below.heap_setCell _ _ _ _ (fun e => h.ne (by rw [hv]; simp only [Value.ownBlock]; rw [e]))]
  exact hg
 refine (cc_used b w (by rw [Lib.cell_of_heap hb]; rfl)).mono ?_
 rintro e w' ⟨rfl, rfl⟩
 exact ⟨rfl, hb, h.own, rfl, rfl, rfl, Nat.le_refl _, fun _ _ _ _ => rfl, fun g hg => Or.inl hg⟩
theorem Tu.put {b : Nat} {v v' : Value} {w w' : World} (hg : w.grownBy w' v.ownBlock) (ht : ∀ g, v'.ownBlock = some g → v.ownBlock = some g ∨ w.heap.size ≤ g) : Tu b v v' w (w'.setCell ⟨b, 1, none⟩ v') :=
 ⟨hg.os, hg.tape, hg.output, by simp only [World.setCell, Array.size_modify]; exact hg.size, fun k hk hb hv => (Below.heap_setCell _ _ _ _ hb).trans (hg.block k hk (fun e => hv e.symm)), ht⟩
theorem wstr_any (b : Nat) (v : Value) (s t : ByteArray) (w : World) (h : Bdr b v s w) (hn : s.size + t.size ≤ 1000000) :
  Calls Tryz.prog 97 #[.pointer (some ⟨b, 0, none⟩), .string t] w fun e w' => e = .returned (.tuple #[.int .i64 t.size, .nilIface]) ∧ ∃ v', Bdr b v' (s ++ t) w' ∧ Tu b v v' w w' := by
 have hn2 : s.size + t.size ≤ 1048576 := by omega
 have HN := hDx hn
 clear hn
 go_enter Tryz.func97, Tryz.ntmps97
 go_wp2_with (go_at_call 118; refine (cc_any b v s _ h).mono ?_)
 rintro e w1 ⟨rfl, hb1, ho1, ht1⟩
 have c0 : w1.cell? ⟨b, 0, none⟩ = some (.pointer (some ⟨b, 0, none⟩)) := by rw [Lib.cell_of_heap hb1]; rfl
 have c1 : w1.cell? ⟨b, 1, none⟩ = some v := by rw [Lib.cell_of_heap hb1]; rfl
 have hne : v.ownBlock ≠ some b := Lib.ownBlock_ne ho1 hb1 (by decide)
 have H1 := hDx ht1
 have HB := hDx h
 clear ht1 h
 go_wp2_with (at_builtin; go_must (refine wl_app_s rfl _ _ rfl rfl ho1 t rfl hn2 ?_); intro v' w2 o2 g2 t2 n2; obtain ⟨ao, cap, rfl⟩ := own_sh o2; have hb2 := (g2.block b (lt_heap hb1) (fun e => hne e.symm)).trans hb1; have d0 : w2.cell? ⟨b, 0, none⟩ = some (.pointer (some ⟨b, 0, none⟩)) := (by rw [Lib.cell_of_heap hb2]; rfl); have d1 : w2.cell? ⟨b, 1, none⟩ = some v := (by rw [Lib.cell_of_heap hb2]; rfl); have f1 : w2.frozen? ⟨b, 1, none⟩ = false := Lib.frozen_of_heap hb2 1; have HO := hDx o2; have HG := hDx g2; have HT := hDx t2; have HM := hDx n2; clear o2 g2 t2 n2)
 go_ret2
 have o3 : w2.ownsRow 0 5 1 (.slice ao (s.size + t.size) cap) (s ++ t).size (Lib.strCells (s ++ t)) := by rw [ByteArray.size_append, strC_append]; exact HO.out
 have kg : w1.grownBy w2 v.ownBlock := HG.out
 have kt : ∀ g, (Value.slice ao (s.size + t.size) cap).ownBlock = some g → v.ownBlock = some g ∨ w1.heap.size ≤ g := HT.out
 have km : Value.slice ao (s.size + t.size) cap = .slice none 0 0 ↔ v = .slice none 0 0 ∧ t.size = 0 := HM.out
 refine ⟨rfl, .slice ao (s.size + t.size) cap, Bdr.put (v := v) (Or.inr rfl) hb2 o3 ?_, H1.out.trans (Tu.put kg kt)⟩
 by_cases e : Value.slice ao (s.size + t.size) cap = .slice none 0 0
 ·exact Or.inl e
 refine Or.inr fun e2 => e ?_
 rw [ByteArray.size_append] at e2
 exact km.2 ⟨HB.out.nil.elim id (fun h => absurd h (by omega)), by omega⟩
theorem wrow_any (b : Nat) (v : Value) (s : ByteArray) (g m c : Nat) (w : World) (h : Bdr b v s w) (hz : w.heap[g]? = some (.cells (lk .u8 (zi m)) 5)) (hgb : v.ownBlock ≠ some g) (hn : s.size + m ≤ 1000000) :
  Calls Tryz.prog 98 #[.pointer (some ⟨b, 0, none⟩), .slice (some ⟨g, 0, none⟩) m c] w fun e w' => e = .returned (.tuple #[.int .i64 m, .nilIface]) ∧ ∃ v', Bdr b v' (s ++ zeroB m) w' ∧ Tu b v v' w w' := by
 have hn2 : s.size + m ≤ 1048576 := by omega
 have HN := hDx hn
 clear hn
 have hbg : g ≠ b := by
  rintro rfl
  obtain ⟨p, _, hp⟩ := h.p
  rw [hp] at hz
  simp at hz
 go_enter Tryz.func98, Tryz.ntmps98
 go_wp2_with (go_at_call 118; refine (cc_any b v s _ h).mono ?_)
 rintro e w1 ⟨rfl, hb1, ho1, ht1⟩
 have hz1 := (ht1.block g (lt_heap hz) hbg hgb).trans hz
 have c0 : w1.cell? ⟨b, 0, none⟩ = some (.pointer (some ⟨b, 0, none⟩)) := by rw [Lib.cell_of_heap hb1]; rfl
 have c1 : w1.cell? ⟨b, 1, none⟩ = some v := by rw [Lib.cell_of_heap hb1]; rfl
 have hne : v.ownBlock ≠ some b := Lib.ownBlock_ne ho1 hb1 (by decide)
 have hl : (Lib.strCells (zeroB m)).length = m := by rw [Lib.strCells_length]; simp [zeroB, ByteArray.size]
 have hcells : ∀ j u, (Lib.strCells (zeroB m))[j]? = some u → w1.cell? ((⟨g, 0, none⟩ : Addr).add j) = some u := by
  intro j u hu
  have hj : j < m := by
   rcases Nat.lt_or_ge j m with h | h
   ·exact h
   ·rw [List.getElem?_eq_none (by rw [hl]; exact h)] at hu; cases hu
  have hadd : (⟨g, 0, none⟩ : Addr).add j = ⟨g, j, none⟩ := by unfold Addr.add; split <;> simp_all
  rw [hadd, Lib.cell_of_heap hz1]
  have e1 : u = .int .u8 0 := by
   have := List.mem_of_getElem? hu
   simp only [Lib.strCells, zeroB, List.mem_map, List.mem_toArray, Array.toList_replicate, List.mem_replicate] at this
   obtain ⟨x, ⟨_, rfl⟩, rfl⟩ := this
   rfl
  rw [e1]
  unfold lk zi
  simp [List.getElem?_replicate, hj]
 have H1 := hDx ht1
 have HB := hDx h
 have HZ := hDx hz
 clear ht1 h hz hz1
 go_wp2_with (at_builtin; go_must (refine wl_app_b rfl _ _ rfl rfl ho1 ⟨g, 0, none⟩ m c (Lib.strCells (zeroB m)) rfl hl hcells (Lib.strCells_oneCell _) hn2 ?_); intro v' w2 o2 g2 t2 n2; obtain ⟨ao, cap, rfl⟩ := own_sh o2; have hb2 := (g2.block b (lt_heap hb1) (fun e => hne e.symm)).trans hb1; have d0 : w2.cell? ⟨b, 0, none⟩ = some (.pointer (some ⟨b, 0, none⟩)) := (by rw [Lib.cell_of_heap hb2]; rfl); have d1 : w2.cell? ⟨b, 1, none⟩ = some v := (by rw [Lib.cell_of_heap hb2]; rfl); have f1 : w2.frozen? ⟨b, 1, none⟩ = false := Lib.frozen_of_heap hb2 1; have HO := hDx o2; have HG := hDx g2; have HT := hDx t2; have HM := hDx n2; clear o2 g2 t2 n2)
 go_ret2
 have o3 : w2.ownsRow 0 5 1 (.slice ao (s.size + m) cap) (s ++ zeroB m).size (Lib.strCells (s ++ zeroB m)) := by
  rw [ByteArray.size_append, strC_append, show (zeroB m).size = m by simp [zeroB, ByteArray.size]]
  exact HO.out
 have kg : w1.grownBy w2 v.ownBlock := HG.out
 have kt : ∀ g, (Value.slice ao (s.size + m) cap).ownBlock = some g → v.ownBlock = some g ∨ w1.heap.size ≤ g := HT.out
 have km : Value.slice ao (s.size + m) cap = .slice none 0 0 ↔ v = .slice none 0 0 ∧ m = 0 := HM.out
 refine ⟨rfl, .slice ao (s.size + m) cap, Bdr.put (v := v) (Or.inr rfl) hb2 o3 ?_, H1.out.trans (Tu.put kg kt)⟩
 by_cases e : Value.slice ao (s.size + m) cap = .slice none 0 0
 ·exact Or.inl e
 refine Or.inr fun e2 => e ?_
 rw [ByteArray.size_append, show (zeroB m).size = m by simp [zeroB, ByteArray.size]] at e2
 exact km.2 ⟨HB.out.nil.elim id (fun h => absurd h (by omega)), by omega⟩
theorem freeze_block (w : World) (p : Addr) (n k : Nat) (h : k ≠ p.block) : (w.freeze p n).heap[k]? = w.heap[k]? := by
 unfold World.freeze
 split
 ·rfl
 simp only [Array.getElem?_modify]
 rw [if_neg (Ne.symm h)]
theorem str_any (b : Nat) (v : Value) (s : ByteArray) (w : World) (h : Bdr b v s w) : Calls Tryz.prog 99 #[.pointer (some ⟨b, 0, none⟩)] w fun e w' => e = .returned (.string s) ∧ Tu b v v w w' := by
 obtain ⟨p, hp, hb⟩ := h.p
 have mixed : Tryz.prog.follows Departure.mixedOrders = true := by kernel_rfl
 have hu189 : Tryz.prog.underlying 189 = some (.pointer 5) := by kernel_rfl
 rcases h.own.2 with ⟨rfl, hz⟩ | ⟨g, cap, cur, rfl, hg0, hg, hcap, hmax, hcs, htake⟩
 ·have hs : s = .empty := ByteArray.size_eq_zero_iff.1 hz
  subst hs
  have c1 : w.drew.cell? ⟨b, 1, none⟩ = some (.slice none 0 0) := by
   have : w.drew.heap[b]? = some (.cells #[p, .slice none 0 0] 166 (0, 0)) := hb
   rw [Lib.cell_of_heap this]; rfl
  have hSD : (Builtin.unsafeSliceData_ #[52] 189 #[.slice none 0 0]).run Tryz.prog w.drew = .ok (.pointer none) w.drew := rfl
  have hUS : ∀ q W, (Builtin.unsafeString_ #[189, 3] 9 #[.pointer q, .int .i64 0]).run Tryz.prog W = .ok (.string .empty) W := fun q W => Lib.run_unsafeString_none W _ _ _ q
  clear h hb hp
  go_enter Tryz.func99, Tryz.ntmps99
  go_wp2
  go_region_o
  all_goals (go_wp2; go_ret; exact ⟨rfl, rfl, rfl, rfl, Nat.le_refl _, fun _ _ _ _ => rfl, fun g hg => Or.inl hg⟩)
 have hs0 : s.size ≠ 0 := h.nil.elim (fun e => nomatch e) id
 have hc0 : cap ≠ 0 := by omega
 have c1 : w.drew.cell? ⟨b, 1, none⟩ = some (.slice (some ⟨g, 0, none⟩) s.size cap) := by
  have : w.drew.heap[b]? = some (.cells #[p, .slice (some ⟨g, 0, none⟩) s.size cap] 166 (0, 0)) := hb
  rw [Lib.cell_of_heap this]; rfl
 have hSD : (Builtin.unsafeSliceData_ #[52] 189 #[.slice (some ⟨g, 0, none⟩) s.size cap]).run Tryz.prog w.drew = .ok (.pointer (some ⟨g, 0, none⟩)) w.drew := Lib.run_unsafeSliceData_row _ _ _ _ _ _ hc0
 have hll : s.data.toList.length = s.size := by simp
 have hUS : (Builtin.unsafeString_ #[189, 3] 9 #[.pointer (some ⟨g, 0, none⟩), .int .i64 s.size]).run Tryz.prog w.drew = .ok (.string s) (w.drew.freeze ⟨g, 0, none⟩ s.size) := by
  have hh := Lib.run_unsafeString_row (P := Tryz.prog) w.drew 189 3 9 5 hu189 ty5cell g cur.size (by have hg' : w.drew.heap[g]? = some (.cells cur 5 (0, 0)) := hg; simp [World.shape?, hg']) s.data.toList (by intro e; rw [e] at hll; simp at hll; omega) (by rw [hll]; omega) (by rw [hll]; unfold maxLen at hmax; omega) ?_
  ·rw [hll] at hh
   exact hh
  ·intro j x hx
   have := h.own.cells (g := g) rfl j (.int .u8 x.toNat) (by rw [Lib.strCells_eq]; simp [Lib.byteCells, hx])
   exact this
 have hbne : g ≠ b := fun e => h.ne (by rw [e]; rfl)
 clear h hb hp htake
 have HC := hDx (And.intro hc0 (And.intro hcap (And.intro hs0 (And.intro hcs hmax))))
 clear hc0 hcap hs0 hcs hmax
 go_enter Tryz.func99, Tryz.ntmps99
 go_wp2
 go_region_o
 all_goals (go_wp2; go_ret; exact ⟨rfl, Lib.below_freeze (B := 0) (Below.refl 0 w).drew (Nat.zero_le _) _ |>.os, Lib.below_freeze (B := 0) (Below.refl 0 w).drew (Nat.zero_le _) _ |>.tape, Lib.below_freeze (B := 0) (Below.refl 0 w).drew (Nat.zero_le _) _ |>.output, Lib.below_freeze (B := 0) (Below.refl 0 w).drew (Nat.zero_le _) _ |>.size, fun k _ _ hv => freeze_block _ _ _ _ (fun e => hv (by rw [e]; rfl)), fun g hg => Or.inl hg⟩)
end Go.Proofs.YtoplbfijodebmaaGreatDoor
