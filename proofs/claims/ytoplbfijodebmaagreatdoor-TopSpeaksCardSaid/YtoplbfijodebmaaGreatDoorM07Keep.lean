/-
  The walk.
-/
import Derived.Test.YtoplbfijodebmaaGreatDoorM06Arr
import Derived.Deep.MidRow
import Derived.Deep.RegionHeld3
set_option linter.unusedVariables false
set_option linter.unusedSimpArgs false
set_option maxRecDepth 100000
set_option maxHeartbeats 40000000
namespace Go.Proofs.YtoplbfijodebmaaGreatDoor
open Go.RowKit
structure KS (L : List (Nat × Obj)) (X : List Nat) (w u : World) : Prop where
 all : ∀ x ∈ L, u.heap[x.1]? = some x.2
 ne : L.Pairwise fun x y => x.1 ≠ y.1
 ge : ∀ x ∈ L, x.1 ∈ X ∨ w.heap.size ≤ x.1
 os : u.os = w.os
 tape : u.tape = w.tape
 output : u.output = w.output
 size : w.heap.size ≤ u.heap.size
 old : ∀ j, j < w.heap.size → j ∉ X → u.heap[j]? = w.heap[j]?
theorem lt_heap {u : World} {g : Nat} {o : Obj} (h : u.heap[g]? = some o) : g < u.heap.size := (Array.getElem?_eq_some_iff.1 h).1
namespace KS
variable {L : List (Nat × Obj)} {X : List Nat} {w u u' : World}
theorem start (w : World) : KS [] [] w w := ⟨(fun _ h => nomatch h), .nil, (fun _ h => nomatch h), rfl, rfl, rfl, Nat.le_refl _, fun _ _ _ => rfl⟩
theorem below (h : KS L [] w u) : Below w.heap.size w u := ⟨h.os, h.tape, h.output, h.size, fun j hj => h.old j hj (by simp)⟩
theorem get (h : KS L X w u) (j : Nat) {g : Nat} {o : Obj} (e : L[j]? = some (g, o)) : u.heap[g]? = some o := h.all (g, o) (List.mem_of_getElem? e)
theorem lt (h : KS L X w u) (j : Nat) {g : Nat} {o : Obj} (e : L[j]? = some (g, o)) : g < u.heap.size := lt_heap (h.get j e)
theorem mem {g : Nat} {o : Obj} (h : KS L X w u) (j : Nat) (e : L[j]? = some (g, o)) : g ∈ X ∨ w.heap.size ≤ g := h.ge (g, o) (List.mem_of_getElem? e)
theorem drew (h : KS L X w u) : KS L X w u.drew := ⟨h.all, h.ne, h.ge, h.os, h.tape, h.output, h.size, h.old⟩
theorem call (h : KS L X w u) (b : Below u.heap.size u u') : KS L X w u' :=
 ⟨fun x hx => (b.block _ (lt_heap (h.all x hx))).trans (h.all x hx), h.ne, h.ge, b.os.trans h.os, b.tape.trans h.tape, b.output.trans h.output, Nat.le_trans h.size b.size,
  fun j hj hX => (b.block j (Nat.lt_of_lt_of_le hj h.size)).trans (h.old j hj hX)⟩
theorem made (h : KS L X w u) (o : Obj) : KS ((u.heap.size, o) :: L) X w (u.alloc o) := by
 have hc := h.call ((Below.refl _ _).alloc (Nat.le_refl _) o)
 refine ⟨fun x hx => ?_, List.pairwise_cons.2 ⟨fun x hx e => ?_, h.ne⟩, fun x hx => ?_, hc.os, hc.tape, hc.output, hc.size, hc.old⟩
 ·rcases List.mem_cons.1 hx with rfl | hx
  ·exact heap_alloc_last u o
  exact hc.all x hx
 ·have := lt_heap (h.all x hx)
  simp only [] at e
  omega
 rcases List.mem_cons.1 hx with rfl | hx
 ·exact Or.inr h.size
 exact h.ge x hx
theorem tail {x : Nat × Obj} (h : KS (x :: L) X w u) : KS L X w u := ⟨fun y hy => h.all y (List.mem_cons_of_mem _ hy), (List.pairwise_cons.1 h.ne).2, fun y hy => h.ge y (List.mem_cons_of_mem _ hy), h.os, h.tape, h.output, h.size, h.old⟩
theorem turn (h : KS L X w u) (j : Nat) {g : Nat} {o o' : Obj} (e : L[j]? = some (g, o)) (hs : u'.heap.size = u.heap.size) (h1 : u'.os = u.os) (h2 : u'.tape = u.tape) (h3 : u'.output = u.output) (hg : u'.heap[g]? = some o') (ho : ∀ i, i ≠ g → u'.heap[i]? = u.heap[i]?) : KS (L.set j (g, o')) X w u' := by
 have hj : j < L.length := (List.getElem?_eq_some_iff.1 e).1
 have he : L[j] = (g, o) := (List.getElem?_eq_some_iff.1 e).2
 have hp := List.pairwise_iff_getElem.1 h.ne
 have hfst : ∀ i (hi : i < L.length), ((L.set j (g, o'))[i]'(by rw [List.length_set]; exact hi)).1 = (L[i]'hi).1 := by
  intro i hi
  rw [List.getElem_set]
  split
  ·rename_i hji; subst hji; rw [he]
  ·rfl
 refine ⟨fun x hx => ?_, ?_, fun x hx => ?_, h1.trans h.os, h2.trans h.tape, h3.trans h.output, by rw [hs]; exact h.size, fun i hi hX => ?_⟩
 ·obtain ⟨i, hi, rfl⟩ := List.mem_iff_getElem.1 hx
  have hi' : i < L.length := by rw [List.length_set] at hi; exact hi
  rw [List.getElem_set]
  split
  ·exact hg
  rename_i hji
  have hne : (L[i]'hi').1 ≠ g := by
   intro hh
   rcases Nat.lt_or_ge i j with hlt | hge
   ·exact hp i j hi' hj hlt (by rw [hh, he])
   ·exact hp j i hj hi' (by omega) (by rw [hh, he])
  rw [ho _ hne]
  exact h.all _ (List.getElem_mem hi')
 ·rw [List.pairwise_iff_getElem]
  intro a b ha hb hab
  have ha' : a < L.length := by rw [List.length_set] at ha; exact ha
  have hb' : b < L.length := by rw [List.length_set] at hb; exact hb
  rw [hfst a ha', hfst b hb']
  exact hp a b ha' hb' hab
 ·obtain ⟨i, hi, rfl⟩ := List.mem_iff_getElem.1 hx
  have hi' : i < L.length := by rw [List.length_set] at hi; exact hi
  rw [hfst i hi']
  exact h.ge _ (List.getElem_mem hi')
 have hne : i ≠ g := by
  intro hh
  subst hh
  rcases h.mem j e with hm | hm
  ·exact hX hm
  ·omega
 rw [ho i hne]
 exact h.old i hi hX
theorem set (h : KS L X w u) (j : Nat) {g : Nat} {cs : Array Value} {t : TypeId} (e : L[j]? = some (g, .cells cs t)) (i : Nat) (v : Value) : KS (L.set j (g, .cells (cs.setIfInBounds i v) t)) X w (u.setCell ⟨g, i, none⟩ v) :=
 h.turn j e (by simp) rfl rfl rfl (by simp [World.setCell, Array.getElem?_modify, h.get j e]) (fun i' hi => Below.heap_setCell _ _ _ _ hi)
theorem setK (h : KS L X w u) (j : Nat) {g : Nat} {k : IntKind} {v : List Int} {t : TypeId} (e : L[j]? = some (g, .cells (lk k v) t)) (i : Nat) (x : Int) : KS (L.set j (g, .cells (lk k (v.set i x)) t)) X w (u.setCell ⟨g, i, none⟩ (.int k x)) := by
 have := h.set j e i (.int k x)
 rwa [show (lk k v).setIfInBounds i (.int k x) = lk k (v.set i x) by simp [lk, List.map_set]] at this
theorem setRow (h : KS L X w u) (j : Nat) {g : Nat} {cs : Array Value} {t : TypeId} (e : L[j]? = some (g, .cells cs t)) (c : Array Value) : KS (L.set j (g, .cells c t)) X w (u.setRow g c) :=
 h.turn j e (by simp [World.setRow]) rfl rfl rfl (setRow_heap u g _ _ _ _ (h.get j e)) (fun i hi => setRow_other u g i c hi)
theorem rk (h : KS L X w u) (j : Nat) {g n : Nat} {k : IntKind} {v : List Int} {t : TypeId} (e : L[j]? = some (g, .cells (lk k v) t)) (hl : v.length = n) : Rk u g t k n v := ⟨h.get j e, hl⟩
theorem cells (h : KS L X w u) (j : Nat) {g : Nat} {cs : Array Value} {t : TypeId} (e : L[j]? = some (g, .cells cs t)) : Cells u g t cs := ⟨h.get j e⟩
end KS
noncomputable def agB (t n : Nat) : Bool := (match Tryz.prog.underlying t with | some d => d.isRow | none => false) && ((Tryz.prog.info? t).map (·.size) == some n)
structure AgTy (t n : Nat) : Prop where
 under : ∃ d, Tryz.prog.underlying t = some d ∧ d.isRow = true
 size : (Tryz.prog.info? t).map (·.size) = some n
theorem agTy {t n : Nat} (h : agB t n = true) : AgTy t n := by
 unfold agB at h
 rw [Bool.and_eq_true] at h
 refine ⟨?_, by simpa using h.2⟩
 have h1 := h.1
 cases hq : Tryz.prog.underlying t with
 | none => rw [hq] at h1; cases h1
 | some d => rw [hq] at h1; exact ⟨d, rfl, h1⟩
theorem range_of_block {w : World} {b t o n : Nat} {C : Array Value} (hb : w.heap[b]? = some (.cells C t)) {cs : List Value} (hc : (C.extract o (o + n)).toList = cs) : w.rangeAt b o cs := by
 rw [← hc]; exact World.rangeAt_of_block hb o n
theorem wp_loadM {op : Oper} {a : Act} {w : World} {K : Act → World → Prop} {Q : Exit → Act → World → Prop} {b n t t' o : Nat} {C cs : Array Value} (x : Operand) (ho : op.op = .load t x)
  (hx : a.eval x = .pointer (some ⟨b, o, none⟩)) (hb : w.heap[b]? = some (.cells C t')) (ht : AgTy t n) (hc : C.extract o (o + n) = cs) (hn : cs.size = n) (h : K (a.put op.dst (.agg cs)) w) : op.wp Tryz.prog a w K Q := by
 obtain ⟨⟨d, hu, hd⟩, hs⟩ := ht
 exact wp_load_mid t x ho b o hx cs.toList d (range_of_block (n := n) hb (by rw [hc])) hu hd (by rw [hs, Array.length_toList, hn]) h
theorem wpList_loadM {ops : Array Oper} {rest : List Oper} {op : Oper} {a : Act} {w : World} {Q : Exit → Act → World → Prop} {b n t t' o : Nat} {C cs : Array Value} (hgd : op.guard = none) (x : Operand) (ho : op.op = .load t x)
  (hx : a.eval x = .pointer (some ⟨b, o, none⟩)) (hb : w.heap[b]? = some (.cells C t')) (ht : AgTy t n) (hc : C.extract o (o + n) = cs) (hn : cs.size = n) (h : wpList Tryz.prog ops Q rest (a.put op.dst (.agg cs)) w) : wpList Tryz.prog ops Q (op :: rest) a w :=
 wpList_plain hgd fun _ hK => wp_loadM x ho hx hb ht hc hn (hK _ _ h)
theorem run_loadM {w : World} {b n t t' o : Nat} {C cs : Array Value} (hb : w.heap[b]? = some (.cells C t')) (ht : AgTy t n) (hc : C.extract o (o + n) = cs) (hn : cs.size = n) : (Instr.loadAt t (.pointer (some ⟨b, o, none⟩))).run Tryz.prog w = .ok (.agg cs) w := by
 obtain ⟨⟨d, hu, hd⟩, hs⟩ := ht
 exact run_loadAt_mid w b o t cs.toList d (range_of_block (n := n) hb (by rw [hc])) hu hd (by rw [hs, Array.length_toList, hn])
def lay (C : Array Value) (o : Nat) (u : Array Value) : Array Value := C.extract 0 o ++ u ++ C.extract (o + u.size) C.size
theorem take_set_last {α : Type} : ∀ (l : List α) (o : Nat) (v : α), o < l.length → (l.take (o + 1)).set o v = l.take o ++ [v]
 | [], _, _, h => absurd h (by simp)
 | x :: l, 0, v, _ => by simp
 | x :: l, o + 1, v, h => by
  have := take_set_last l o v (by simp at h; omega)
  simpa using this
theorem set_lay (C : Array Value) (o : Nat) (v : Value) (u : List Value) (h : o + u.length + 1 ≤ C.size) : lay (C.setIfInBounds o v) (o + 1) u.toArray = lay C o (v :: u).toArray := by
 apply Array.ext'
 simp only [lay, Array.toList_append, Array.toList_extract, List.size_toArray, List.length_cons, Array.size_setIfInBounds]
 simp only [List.extract_eq_take_drop, d0x, Nat.sub_zero]
 have ho : o < C.toList.length := by rw [Array.length_toList]; omega
 have e0 : (C.setIfInBounds o v).toList = C.toList.set o v := by simp
 rw [e0, List.take_set, List.drop_set_of_lt (by omega)]
 have e1 := take_set_last C.toList o v ho
 rw [e1]
 have e2 : o + 1 + u.length = o + (u.length + 1) := by omega
 simp [e2]
theorem setCells_lay (b t : Nat) : ∀ (vs : List Value) (o : Nat) (w : World) (C : Array Value), w.heap[b]? = some (.cells C t) → o + vs.length ≤ C.size → (w.setCells b o vs).heap[b]? = some (.cells (lay C o vs.toArray) t)
 | [], o, w, C, h, ho => by
  show w.heap[b]? = _
  rw [h]
  congr 2
  apply Array.ext'
  simp [lay, List.extract_eq_take_drop]
  rw [List.take_of_length_le (by rw [Array.length_toList]; omega)]
 | v :: r, o, w, C, h, ho => by
  show ((w.setCell ⟨b, o, none⟩ v).setCells b (o + 1) r).heap[b]? = _
  rw [setCells_lay b t r (o + 1) (w.setCell ⟨b, o, none⟩ v) (C.setIfInBounds o v) (by simp [World.setCell, Array.getElem?_modify, h]) (by simp at ho ⊢; omega)]
  rw [set_lay C o v r (by simp at ho; omega)]
theorem setCells_far (b : Nat) : ∀ (vs : List Value) (o : Nat) (w : World) (i : Nat), i ≠ b → (w.setCells b o vs).heap[i]? = w.heap[i]?
 | [], _, _, _, _ => rfl
 | v :: r, o, w, i, hi => (setCells_far b r (o + 1) (w.setCell ⟨b, o, none⟩ v) i hi).trans (Below.heap_setCell _ _ _ _ hi)
theorem setCells_size (b : Nat) : ∀ (vs : List Value) (o : Nat) (w : World), (w.setCells b o vs).heap.size = w.heap.size
 | [], _, _ => rfl
 | v :: r, o, w => (setCells_size b r (o + 1) (w.setCell ⟨b, o, none⟩ v)).trans (by simp)
theorem setCells_os (b : Nat) : ∀ (vs : List Value) (o : Nat) (w : World), (w.setCells b o vs).os = w.os ∧ (w.setCells b o vs).tape = w.tape ∧ (w.setCells b o vs).output = w.output
 | [], _, _ => ⟨rfl, rfl, rfl⟩
 | v :: r, o, w => setCells_os b r (o + 1) (w.setCell ⟨b, o, none⟩ v)
theorem there_of_block {w : World} {b t o n : Nat} {C : Array Value} (hb : w.heap[b]? = some (.cells C t)) (h : o + n ≤ C.size) : w.there b o n := fun j hj => by
 refine ⟨?_, by simp [World.frozen?, hb]⟩
 have : o + j < C.size := by omega
 simp [World.cell?, hb, this]
theorem wp_storeM {op : Oper} {a : Act} {w : World} {K : Act → World → Prop} {Q : Exit → Act → World → Prop} {b n t t' o : Nat} {C cs : Array Value} (x y : Operand) (ho : op.op = .store t x y)
  (hx : a.eval x = .pointer (some ⟨b, o, none⟩)) (hy : a.eval y = .agg cs) (hb : w.heap[b]? = some (.cells C t')) (hC : o + n ≤ C.size) (ht : AgTy t n) (hn : cs.size = n) (h1 : cs.all (·.oneCell') = true) (h : K (a.put op.dst undef) (w.setCells b o cs.toList)) : op.wp Tryz.prog a w K Q :=
 wp_store_mid t x y ho b o cs hx hy (there_of_block hb (by rw [hn]; exact hC)) (by rw [ht.size, hn]) h1 h
theorem wpList_storeM {ops : Array Oper} {rest : List Oper} {op : Oper} {a : Act} {w : World} {Q : Exit → Act → World → Prop} {b n t t' o : Nat} {C cs : Array Value} (hgd : op.guard = none) (x y : Operand) (ho : op.op = .store t x y)
  (hx : a.eval x = .pointer (some ⟨b, o, none⟩)) (hy : a.eval y = .agg cs) (hb : w.heap[b]? = some (.cells C t')) (hC : o + n ≤ C.size) (ht : AgTy t n) (hn : cs.size = n) (h1 : cs.all (·.oneCell') = true) (h : wpList Tryz.prog ops Q rest (a.put op.dst undef) (w.setCells b o cs.toList)) : wpList Tryz.prog ops Q (op :: rest) a w :=
 wpList_plain hgd fun _ hK => wp_storeM x y ho hx hy hb hC ht hn h1 (hK _ _ h)
theorem KS.lay {L : List (Nat × Obj)} {X : List Nat} {w u : World} (h : KS L X w u) (j : Nat) {g : Nat} {C : Array Value} {t : TypeId} (e : L[j]? = some (g, .cells C t)) (o : Nat) (c : Array Value) (hC : o + c.size ≤ C.size) : KS (L.set j (g, .cells (Proofs.YtoplbfijodebmaaGreatDoor.lay C o c) t)) X w (u.setCells g o c.toList) := by
 have hs := setCells_os g c.toList o u
 exact h.turn j e (setCells_size _ _ _ _) hs.1 hs.2.1 hs.2.2 (by have := setCells_lay g t c.toList o u C (h.get j e) (by simpa using hC); simpa using this) (fun i hi => setCells_far g _ o u i hi)
theorem KS.swap {L L' : List (Nat × Obj)} {X : List Nat} {w u : World} (h : KS L X w u) (e : L = L') : KS L' X w u := e ▸ h
theorem results_loadM {fn : Func} {p : Tmp} {tmps : Array Value} {w : World} {b n t t' : Nat} {C : Array Value} (h : fn.results = #[.cell p t]) (hp : tmps.getD p undef = .pointer (some ⟨b, 0, none⟩)) (hb : w.heap[b]? = some (.cells C t')) (ht : AgTy t n) (hn : C.size = n) :
  (results fn tmps).run Tryz.prog w = .ok (.agg C) w := by
 rw [results_cell h, hp]
 simp only [asAddr, Sem.run_pure, Result.andThen_ok]
 obtain ⟨⟨d, hu, hd⟩, hs⟩ := ht
 have := run_loadVar_mid (P := Tryz.prog) w b 0 t C.toList d (range_of_block (n := n) hb (by rw [Nat.zero_add, ← hn]; simp)) hu hd (by rw [hs, Array.length_toList, hn])
 simpa using this
theorem lay_all (C u : Array Value) (h : u.size = C.size) : lay C 0 u = u := by
 apply Array.ext'
 simp [lay, h]
end Go.Proofs.YtoplbfijodebmaaGreatDoor
