/-
  The walk.
-/
import Derived.Test.YtoplbfijodebmaaGreatDoorM07Keep
import Derived.StillTail
set_option linter.unusedVariables false
set_option linter.unusedSimpArgs false
set_option maxRecDepth 100000
set_option maxHeartbeats 40000000
namespace Go.Proofs.YtoplbfijodebmaaGreatDoor
section
open Go.RowKit
structure Fct where
 p : Value → World → Prop
 mono : ∀ v u u', Below u.heap.size u u' → p v u → p v u'
def Fct.val (x : Value) : Fct := ⟨fun v _ => v = x, fun _ _ _ _ h => h⟩
def Fct.of (q : Value → Prop) : Fct := ⟨fun v _ => q v, fun _ _ _ _ h => h⟩
def Fct.obj (B : Nat) (o : Obj) : Fct := ⟨fun v u => ∃ g, v = .pointer (some ⟨g, 0, none⟩) ∧ B ≤ g ∧ u.heap[g]? = some o, fun _ _ _ hb ⟨g, h1, h2, h3⟩ => ⟨g, h1, h2, (hb.block _ (lt_heap h3)).trans h3⟩⟩
theorem KS.grow {L : List (Nat × Obj)} {X : List Nat} {w u u' : World} (h : KS L X w u) (hb : Below u.heap.size u u') : ∀ (l : List (Nat × Obj)), (l.Pairwise fun x y => x.1 ≠ y.1) → (∀ x ∈ l, u.heap.size ≤ x.1 ∧ u'.heap[x.1]? = some x.2) → KS (l ++ L) X w u' := by
 intro l hp hl
 have hc := h.call hb
 refine ⟨fun x hx => ?_, List.pairwise_append.2 ⟨hp, hc.ne, fun x hx y hy e => ?_⟩, fun x hx => ?_, hc.os, hc.tape, hc.output, hc.size, hc.old⟩
 ·rcases List.mem_append.1 hx with hx | hx
  ·exact (hl x hx).2
  exact hc.all x hx
 ·have h1 := (hl x hx).1
  have h2 := lt_heap (h.all y hy)
  omega
 rcases List.mem_append.1 hx with hx | hx
 ·exact Or.inr (Nat.le_trans h.size (hl x hx).1)
 exact hc.ge x hx
theorem KS.grow1 {L : List (Nat × Obj)} {X : List Nat} {w u u' : World} (h : KS L X w u) (hb : Below u.heap.size u u') {g : Nat} {o : Obj} (h1 : u.heap.size ≤ g ∧ u'.heap[g]? = some o) : KS ((g, o) :: L) X w u' :=
 h.grow hb [(g, o)] (by simp) (by simpa using h1)
theorem KS.grow2 {L : List (Nat × Obj)} {X : List Nat} {w u u' : World} (h : KS L X w u) (hb : Below u.heap.size u u') {g k : Nat} {o p : Obj} (h1 : u.heap.size ≤ g ∧ u'.heap[g]? = some o) (h2 : u.heap.size ≤ k ∧ u'.heap[k]? = some p) (hn : g ≠ k) : KS ((g, o) :: (k, p) :: L) X w u' :=
 h.grow hb [(g, o), (k, p)] (by simpa using hn) (by simpa using And.intro h1 h2)
section
variable {P : Program} {ops : Array Oper}
theorem wp_mono2 {o : Oper} {a : Act} {w : World} {K K' : Act → World → Prop} {Q Q' : Exit → Act → World → Prop} (hh : o.wp P a w K Q) (h : ∀ a w, K a w → K' a w) (hQ : ∀ e a w, Q e a w → Q' e a w) : o.wp P a w K' Q' := by
 have hL : LetsOut Q → LetsOut Q' := fun ⟨a, w, h⟩ => ⟨a, w, hQ _ _ _ h⟩
 unfold Oper.wp at *
 generalize (execOp a.eval o).run P w = r at *
 cases r with
 | ok n w' =>
  cases n <;> simp only [Oper.upon] at hh ⊢ <;>
   first
    | exact h _ _ hh
    | exact Calls.mono hh (fun e w'' he => by cases e <;> first | exact h _ _ he | exact hQ _ _ _ he | exact hL he)
    | exact Rows.mono hh (fun _ _ he => h _ _ he)
 | halt x w' => cases x <;> simp only [Oper.upon] at hh ⊢ <;> exact hQ _ _ _ hh
def Newer (u u' : World) (v : Value) : Prop := ∃ g, v = .pointer (some ⟨g, 0, none⟩) ∧ u.heap.size ≤ g ∧ g < u'.heap.size
def CalmOp (P : Program) (F : Tmp → Fct) (fr : List Tmp) (ds : List Tmp) (a0 : Act) (w0 : World) (o : Oper) (av : List Tmp) : Prop :=
 ∀ a u, Below w0.heap.size w0 u → (∀ t, t ∉ ds → a.eval (.tmp t) = a0.eval (.tmp t)) → (∀ d, d ∈ av → (F d).p (a.eval (.tmp d)) u) →
  o.wp P a u (fun a' u' => ∃ v d, o.dst = some d ∧ a' = a.put (some d) v ∧ (F d).p v u' ∧ Below u.heap.size u u' ∧ (d ∈ fr → Newer u u' v)) (fun _ _ _ => False)
def avail (ops : Array Oper) (o : Oper) : List Tmp := o.after.toList.filterMap fun e => if Region.binds .any e then (ops[e.on]?).bind (·.dst) else none
def CalmAll (P : Program) (F : Tmp → Fct) (fr : List Tmp) (ds : List Tmp) (a0 : Act) (w0 : World) (ops : Array Oper) : List Oper → Prop
 | [] => True
 | o :: r => CalmOp P F fr ds a0 w0 o (avail ops o) ∧ CalmAll P F fr ds a0 w0 ops r
theorem CalmAll.get {F : Tmp → Fct} {fr ds : List Tmp} {a0 : Act} {w0 : World} : ∀ {l : List Oper}, CalmAll P F fr ds a0 w0 ops l → ∀ (k : Nat) (o : Oper), l[k]? = some o → CalmOp P F fr ds a0 w0 o (avail ops o)
 | [], _, _, _, h => by simp at h
 | o :: r, h, 0, _, e => by simp at e; subst e; exact h.1
 | o :: r, h, k + 1, _, e => CalmAll.get h.2 k _ (by simpa using e)
def headB (ops : Array Oper) (n : Nat) (ds : List Tmp) : Bool :=
 decide ((ops.toList.take n).map (·.dst) = ds.map some) && decide ds.Nodup && (ops.toList.take n).all (fun o => o.guard == none)
structure Shape (ds : List Tmp) (a0 a : Act) : Prop where
 size : a.tmps.size = a0.tmps.size
 defers : a.defers = a0.defers
 out : ∀ t, t ∉ ds → a.eval (.tmp t) = a0.eval (.tmp t)
theorem eval_put_same (a : Act) (d : Tmp) (v : Value) (h : d < a.tmps.size) : (a.put (some d) v).eval (.tmp d) = v := by
 simp [Act.put, Act.eval, h]
theorem eval_put_other (a : Act) (d t : Tmp) (v : Value) (h : d ≠ t) : (a.put (some d) v).eval (.tmp t) = a.eval (.tmp t) := by
 simp [Act.put, Act.eval, Array.getElem?_setIfInBounds_ne h]
theorem Shape.put {ds : List Tmp} {a0 a : Act} (h : Shape ds a0 a) {d : Tmp} (hd : d ∈ ds) (v : Value) : Shape ds a0 (a.put (some d) v) :=
 ⟨by simp [Act.put, h.size], h.defers, fun t ht => by rw [eval_put_other _ _ _ _ (fun (e : d = t) => ht (e ▸ hd))]; exact h.out t ht⟩
def fill (V : Tmp → Value) : Array Value → List Tmp → Array Value
 | s, [] => s
 | s, d :: ds => fill V (s.setIfInBounds d (V d)) ds
theorem fill_size (V : Tmp → Value) : ∀ (ds : List Tmp) (s : Array Value), (fill V s ds).size = s.size
 | [], _ => rfl
 | d :: ds, s => by rw [fill, fill_size V ds]; simp
theorem fill_get (V : Tmp → Value) : ∀ (ds : List Tmp) (s : Array Value) (t : Nat), t < s.size → (fill V s ds)[t]? = if t ∈ ds then some (V t) else s[t]?
 | [], _, _, _ => by simp [fill]
 | d :: ds, s, t, h => by
  rw [fill, fill_get V ds _ t (by simpa using h)]
  by_cases h1 : t ∈ ds
  ·simp [h1]
  ·by_cases h2 : d = t
   ·subst h2; simp [h1, h]
   ·have h3 : t ≠ d := fun e => h2 e.symm
    simp [h1, h3, Array.getElem?_setIfInBounds_ne h2]
theorem Shape.act {ds : List Tmp} {a0 a : Act} (h : Shape ds a0 a) : a = ⟨fill (fun t => a.eval (.tmp t)) a0.tmps ds, a0.defers⟩ := by
 obtain ⟨s, df⟩ := a
 have h1 := h.size
 have h2 := h.defers
 simp only [] at h1 h2
 subst h2
 congr 1
 apply Array.ext_getElem?
 intro t
 rcases Nat.lt_or_ge t a0.tmps.size with ht | ht
 ·rw [fill_get _ _ _ _ ht]
  by_cases hd : t ∈ ds
  ·rw [if_pos hd]
   have : t < s.size := by omega
   simp [Act.eval, this]
  rw [if_neg hd]
  have h3 := h.out t hd
  simp only [Act.eval] at h3
  have : t < s.size := by omega
  rw [gDx, gDx, Array.getElem?_eq_getElem this, Array.getElem?_eq_getElem ht] at h3
  rw [Array.getElem?_eq_getElem this, Array.getElem?_eq_getElem ht]
  exact congrArg some h3
 rw [Array.getElem?_eq_none (by omega), Array.getElem?_eq_none (by rw [fill_size]; exact ht)]
structure Calm (F : Tmp → Fct) (fr ds : List Tmp) (a0 : Act) (w0 : World) (ops : Array Oper) (n : Nat) (listed : Array Bool) (a : Act) (u : World) : Prop where
 below : Below w0.heap.size w0 u
 shape : Shape ds a0 a
 facts : ∀ j d, j < n → listed.getD j false = true → (ops[j]?).bind (·.dst) = some d → (F d).p (a.eval (.tmp d)) u
 lt : ∀ j d, j < n → listed.getD j false = true → (ops[j]?).bind (·.dst) = some d → d ∈ fr → ∃ g, a.eval (.tmp d) = .pointer (some ⟨g, 0, none⟩) ∧ g < u.heap.size
 ne : ∀ i j c d, i < n → j < n → listed.getD i false = true → listed.getD j false = true → (ops[i]?).bind (·.dst) = some c → (ops[j]?).bind (·.dst) = some d → c ∈ fr → d ∈ fr → c ≠ d → a.eval (.tmp c) ≠ a.eval (.tmp d)
theorem dst_mem {n : Nat} {ds : List Tmp} (hh : headB ops n ds = true) {j d : Nat} (hj : j < n) (hd : (ops[j]?).bind (·.dst) = some d) : ds[j]? = some d ∧ d ∈ ds := by
 simp only [headB, Bool.and_eq_true, decide_eq_true_eq] at hh
 have h1 := hh.1.1
 have hjo : j < ops.size := by
  rcases Nat.lt_or_ge j ops.size with h | h
  ·exact h
  ·rw [Array.getElem?_eq_none h] at hd; cases hd
 have h2 : ((ops.toList.take n).map (·.dst))[j]? = (ds.map some)[j]? := by rw [h1]
 rw [List.getElem?_map, List.getElem?_take_of_lt hj, List.getElem?_map, Array.getElem?_toList] at h2
 cases ho : ops[j]? with
 | none => rw [ho] at hd; cases hd
 | some o =>
  rw [ho] at hd h2
  simp only [Option.map_some, Option.bind_some] at h2 hd
  rw [hd] at h2
  cases hq : ds[j]? with
  | none => rw [hq] at h2; cases h2
  | some x =>
   rw [hq] at h2
   have : d = x := by injection h2 with h2; injection h2
   subst this
   exact ⟨rfl, List.mem_of_getElem? hq⟩
theorem dst_inj {n : Nat} {ds : List Tmp} (hh : headB ops n ds = true) {i j d : Nat} (hi : i < n) (hj : j < n) (h1 : (ops[i]?).bind (·.dst) = some d) (h2 : (ops[j]?).bind (·.dst) = some d) : i = j := by
 have a1 := (dst_mem hh hi h1).1
 have a2 := (dst_mem hh hj h2).1
 simp only [headB, Bool.and_eq_true, decide_eq_true_eq] at hh
 have hn := hh.1.2
 have li := (List.getElem?_eq_some_iff.1 a1).1
 exact (List.getElem?_inj li hn).1 (a1.trans a2.symm)
theorem Calm.step {F : Tmp → Fct} {fr ds : List Tmp} {a0 : Act} {w0 : World} {n : Nat} {listed : Array Bool} {a : Act} {u : World} (hh : headB ops n ds = true) (hsz : ∀ d, d ∈ ds → d < a0.tmps.size)
  (hC : Calm F fr ds a0 w0 ops n listed a u) {i d : Nat} {o : Oper} (hi : i < n) (ho : ops[i]? = some o) (hd : o.dst = some d) (hun : listed.getD i false = false) {v : Value} {u' : World}
  (hF : (F d).p v u') (hB : Below u.heap.size u u') (hN : d ∈ fr → Newer u u' v) : Calm F fr ds a0 w0 ops n (listed.setIfInBounds i true) (a.put (some d) v) u' := by
 have hid : (ops[i]?).bind (·.dst) = some d := by rw [ho]; exact hd
 have hm := (dst_mem hh hi hid).2
 have hlt : d < a.tmps.size := by rw [hC.shape.size]; exact hsz d hm
 have hb : ∀ k, (listed.setIfInBounds i true).getD k false = true → k ≠ i → listed.getD k false = true := fun k hk hki => by
  rw [getD_set_ne false (fun e => hki e.symm)] at hk; exact hk
 refine ⟨hC.below.trans (hB.mono hC.below.size), hC.shape.put hm v, fun j c hj hl hc => ?_, fun j c hj hl hc hf => ?_, fun j k c e hj hk hl1 hl2 hc he hf1 hf2 hne => ?_⟩
 ·by_cases hji : j = i
  ·subst hji
   have : c = d := by rw [hid] at hc; injection hc with hc; exact hc.symm
   subst this
   rw [eval_put_same _ _ _ hlt]; exact hF
  have hcd : d ≠ c := fun e => hji (dst_inj hh hj hi (e ▸ hc) hid)
  rw [eval_put_other _ _ _ _ hcd]
  exact (F c).mono _ _ _ hB (hC.facts j c hj (hb j hl hji) hc)
 ·by_cases hji : j = i
  ·subst hji
   have : c = d := by rw [hid] at hc; injection hc with hc; exact hc.symm
   subst this
   rw [eval_put_same _ _ _ hlt]
   obtain ⟨g, h1, _, h3⟩ := hN hf
   exact ⟨g, h1, h3⟩
  have hcd : d ≠ c := fun e => hji (dst_inj hh hj hi (e ▸ hc) hid)
  rw [eval_put_other _ _ _ _ hcd]
  obtain ⟨g, h1, h3⟩ := hC.lt j c hj (hb j hl hji) hc hf
  exact ⟨g, h1, Nat.lt_of_lt_of_le h3 hB.size⟩
 by_cases hji : j = i
 ·subst hji
  have h0 : c = d := by rw [hid] at hc; injection hc with hc; exact hc.symm
  subst h0
  have hkj : k ≠ j := fun e' => hne (by subst e'; rw [hc] at he; injection he)
  rw [eval_put_same _ _ _ hlt, eval_put_other _ _ _ _ hne]
  obtain ⟨g, h1, h2, _⟩ := hN hf1
  obtain ⟨g', h1', h3'⟩ := hC.lt k e hk (hb k hl2 hkj) he hf2
  rw [h1, h1']
  intro hx
  have hx' : g = g' := by injection hx with hx; injection hx with hx; injection hx
  omega
 by_cases hki : k = i
 ·subst hki
  have h0 : e = d := by rw [hid] at he; injection he with he; exact he.symm
  subst h0
  rw [eval_put_same _ _ _ hlt, eval_put_other _ _ _ _ (fun e' => hne e'.symm)]
  obtain ⟨g, h1, h2, _⟩ := hN hf2
  obtain ⟨g', h1', h3'⟩ := hC.lt j c hj (hb j hl1 hji) hc hf1
  rw [h1, h1']
  intro hx
  have hx' : g' = g := by injection hx with hx; injection hx with hx; injection hx
  omega
 have hcd : d ≠ c := fun e' => hji (dst_inj hh hj hi (e' ▸ hc) hid)
 have hed : d ≠ e := fun e' => hki (dst_inj hh hk hi (e' ▸ he) hid)
 rw [eval_put_other _ _ _ _ hcd, eval_put_other _ _ _ _ hed]
 exact hC.ne j k c e hj hk (hb j hl1 hji) (hb k hl2 hki) hc he hf1 hf2 hne
theorem count_set {listed : Array Bool} {i : Nat} (hs : i < listed.size) (h : listed.getD i false = false) : (listed.setIfInBounds i true).toList.count false + 1 = listed.toList.count false := by
 have h2 : listed.toList[i]'(by simpa using hs) = false := by simpa [hs] using h
 have h3 : 0 < listed.toList.count false := List.count_pos_iff.2 (h2 ▸ List.getElem_mem _)
 rw [Array.toList_setIfInBounds, List.count_set (by simpa using hs), h2]
 have e1 : (if (false == false) = true then 1 else 0) = (1 : Nat) := rfl
 have e2 : (if (true == false) = true then 1 else 0) = (0 : Nat) := rfl
 rw [e1, e2]
 omega
def doneB (m n : Nat) : Array Bool := Array.replicate n true ++ Array.replicate (m - n) false
theorem all_done {n : Nat} {listed : Array Bool} (inv : HeadInv .any ops n listed) (hn : n ≤ ops.size) (hall : ∀ j, j < n → listed.getD j false = true) : listed = doneB ops.size n := by
 apply Array.ext
 ·rw [inv.size, doneB]; simp; omega
 intro j h1 h2
 have hj : j < ops.size := by rw [← inv.size]; exact h1
 rcases Nat.lt_or_ge j n with h | h
 ·have := hall j h
  simp [h1] at this
  rw [this]
  simp [doneB, h]
 have := inv.tail j h hj
 simp [h1] at this
 rw [this]
 simp [doneB, Array.getElem_append, Nat.not_lt.2 h]
def orderB (ops : Array Oper) (n : Nat) : Bool := (List.range n).all fun j => match ops[j]? with | some o => o.after.all fun e => !Region.binds .any e || decide (e.on < j) | none => true
theorem some_ready {n : Nat} (ho : orderB ops n = true) {listed : Array Bool} (inv : HeadInv .any ops n listed) (hn : n ≤ ops.size) : ∀ (m j : Nat), j ≤ m → j < n → listed.getD j false = false → Region.ready .any ops listed ≠ [] := by
 intro m
 induction m with
 | zero =>
  intro j hj hjn hl h
  have hj0 : j = 0 := by omega
  subst hj0
  have : (0 : Nat) ∈ Region.ready .any ops listed := by
   rw [mem_ready]
   have hs : 0 < ops.size := by omega
   refine ⟨getD_in (by rw [inv.size]; exact hs) hl, ops[0], by simp [hs], fun e he hb => ?_⟩
   have h1 := List.all_eq_true.1 ho 0 (by simpa using hjn)
   simp only [Array.getElem?_eq_getElem hs] at h1
   have h2 := Array.all_eq_true_iff_forall_mem.1 h1 e he
   simp [hb] at h2
  rw [h] at this; cases this
 | succ m ih =>
  intro j hj hjn hl h
  have hs : j < ops.size := by omega
  by_cases hr : ∀ e ∈ ops[j].after, Region.binds .any e = true → listed.getD e.on false = true
  ·have : j ∈ Region.ready .any ops listed := by
    rw [mem_ready]
    exact ⟨getD_in (by rw [inv.size]; exact hs) hl, ops[j], by simp [hs], hr⟩
   rw [h] at this; cases this
  ·have hr' : ∃ e ∈ ops[j].after, Region.binds .any e = true ∧ listed.getD e.on false = false := by
    simp only [Classical.not_forall] at hr
    obtain ⟨e, he, hb, hx⟩ := hr
    exact ⟨e, he, hb, by simpa using hx⟩
   obtain ⟨e, he, hb, hx⟩ := hr'
   have h1 := List.all_eq_true.1 ho j (by simpa using hjn)
   simp only [Array.getElem?_eq_getElem hs] at h1
   have h2 := Array.all_eq_true_iff_forall_mem.1 h1 e he
   simp only [hb, Bool.not_true, Bool.false_or, decide_eq_true_eq] at h2
   exact ih e.on (by omega) (by omega) hx h
def sinkL (ops : Array Oper) (n i0 : Nat) : Bool :=
 (List.range n).all fun i => i == i0 || (List.range (n + 1)).any fun j => decide (i < j) && !(j == i0) && Region.waitsFor .any ops j i
theorem tail_waitsL {n i0 : Nat} {listed : Array Bool} (hs : sinkL ops n i0 = true) (hc : Region.chainB .any ops n = true) (hn : n < ops.size) (inv : HeadInv .any ops n listed) :
  ∀ (d i : Nat), n - i = d → i < n → i ≠ i0 → listed.getD i true = false → ∀ t, n ≤ t → t ∉ Region.ready .any ops listed := by
 intro d
 induction d using Nat.strongRecOn with
 | _ d ih =>
  intro i hd hi h0 hun t ht hr
  obtain ⟨_, ot, hot, hall⟩ := mem_ready.1 hr
  have htlt : t < ops.size := (Array.getElem?_eq_some_iff.1 hot).1
  by_cases htn : t = n
  ·subst htn
   have h1 := List.all_eq_true.1 hs i (List.mem_range.2 hi)
   simp only [Bool.or_eq_true, beq_iff_eq] at h1
   have h1 := h1.resolve_left h0
   obtain ⟨j, hj, hj2⟩ := List.any_eq_true.1 h1
   simp only [Bool.and_eq_true, decide_eq_true_eq, Bool.not_eq_true', beq_eq_false_iff_ne] at hj2
   obtain ⟨oj, hoj, e, he, hb, hon⟩ := Region.waitsFor_spec hj2.2
   have hjle : j ≤ t := by have := List.mem_range.1 hj; omega
   by_cases hjt : j = t
   ·subst hjt
    have : oj = ot := Option.some.inj (hoj.symm.trans hot)
    subst this
    have h2 := hall e he hb
    rw [hon, getD_both hun] at h2
    cases h2
   ·cases hl : listed.getD j false with
    | true =>
     have h2 := inv.closed j oj hoj hl e he hb
     rw [hon, getD_both hun] at h2
     cases h2
    | false =>
     have hjs : j < listed.size := by rw [inv.size]; omega
     exact ih (t - j) (by omega) j rfl (by omega) hj2.1.2 (getD_in hjs hl) t (Nat.le_refl _) hr
  ·have h1 := List.all_eq_true.1 hc t (List.mem_range.2 htlt)
   simp only [Bool.or_eq_true, decide_eq_true_eq] at h1
   rcases h1 with h1 | h1
   ·omega
   ·obtain ⟨o', ho', e, he, hb, hon⟩ := Region.waitsFor_spec h1
    have : o' = ot := Option.some.inj (ho'.symm.trans hot)
    subst this
    have h2 := hall e he hb
    rw [hon, getD_both (inv.tail (t - 1) (by omega) (by omega))] at h2
    cases h2
theorem calm_any2 {F : Tmp → Fct} {fr ds : List Tmp} {a0 : Act} {w0 : World} {n g i0 : Nat} {Q : Exit → Act → World → Prop} (hw : ∀ listed, HeadInv .any ops n listed → ∀ i, i < n → i ≠ i0 → listed.getD i true = false → ∀ t, n ≤ t → t ∉ Region.ready .any ops listed) (hn : n < ops.size) (ho : orderB ops n = true)
  (hh : headB ops n ds = true) (hsz : ∀ d, d ∈ ds → d < a0.tmps.size) (hO : CalmAll P F fr ds a0 w0 ops (ops.toList.take n))
  (hL : ∀ f listed a u, HeadInv .any ops n listed → i0 < n → listed.getD i0 false = false → (∀ j, j < n → j ≠ i0 → listed.getD j false = true) → Calm F fr ds a0 w0 ops n listed a u → (∀ a' u', Calm F fr ds a0 w0 ops n (listed.setIfInBounds i0 true) a' u' → wpAny P .any ops Q (f + g) (listed.setIfInBounds i0 true) a' u') → wpAny P .any ops Q (f + 1 + g) listed a u)
  (hE : ∀ a u, Calm F fr ds a0 w0 ops n (doneB ops.size n) a u → wpAny P .any ops Q g (doneB ops.size n) a u) :
  ∀ (f : Nat) (listed : Array Bool) (a : Act) (u : World), listed.toList.count false = f + (ops.size - n) → HeadInv .any ops n listed → Calm F fr ds a0 w0 ops n listed a u → wpAny P .any ops Q (f + g) listed a u := by
 intro f
 induction f with
 | zero =>
  intro listed a u hf inv hC
  have hall : ∀ j, j < n → listed.getD j false = true := by
   intro j hj
   cases hl : listed.getD j false with
   | true => rfl
   | false =>
    exfalso
    have hjs : j < listed.size := by rw [inv.size]; omega
    have h1 := count_set hjs hl
    have h2 : ops.size - n ≤ (listed.setIfInBounds j true).toList.count false := by
     have h3 : ((listed.setIfInBounds j true).toList.drop n).count false = ops.size - n := by
      have : (listed.setIfInBounds j true).toList.drop n = List.replicate (ops.size - n) false := by
       apply List.ext_getElem
       ·simp [inv.size]
       ·intro i h1 h2
        simp at h1 h2
        have := inv.tail (n + i) (by omega) (by omega)
        have hx : n + i < listed.size := by rw [inv.size]; omega
        simp [hx] at this
        simp [List.getElem_set, this]
        omega
      rw [this]; simp
     rw [← h3]
     exact (List.drop_sublist n _).count_le false
    omega
  have := all_done inv (Nat.le_of_lt hn) hall
  subst this
  rw [Nat.zero_add]
  exact hE a u hC
 | succ f ih =>
  intro listed a u hf inv hC
  have hex : ∃ j, j < n ∧ listed.getD j false = false := by
   apply Classical.byContradiction
   intro hno
   have hall : ∀ j, j < n → listed.getD j false = true := fun j hj => by
    cases hl : listed.getD j false with
    | true => rfl
    | false => exact absurd ⟨j, hj, hl⟩ hno
   have := all_done inv (Nat.le_of_lt hn) hall
   rw [this] at hf
   simp [doneB, List.count_replicate] at hf
  by_cases honly : i0 < n ∧ listed.getD i0 false = false ∧ ∀ j, j < n → j ≠ i0 → listed.getD j false = true
  ·have hi0s : i0 < listed.size := by rw [inv.size]; omega
   have hr0 : i0 ∈ Region.ready .any ops listed := by
    rw [mem_ready]
    have hs0 : i0 < ops.size := by omega
    refine ⟨getD_in hi0s honly.2.1, ops[i0], by simp [hs0], fun e he hb => ?_⟩
    have h1 := List.all_eq_true.1 ho i0 (by simpa using honly.1)
    simp only [Array.getElem?_eq_getElem hs0] at h1
    have h2 := Array.all_eq_true_iff_forall_mem.1 h1 e he
    simp only [hb, Bool.not_true, Bool.false_or, decide_eq_true_eq] at h2
    exact honly.2.2 e.on (by omega) (by omega)
   refine hL f listed a u inv honly.1 honly.2.1 honly.2.2 hC (fun a' u' hC' => ih _ a' u' ?_ (inv.set hr0 honly.1) hC')
   have := count_set hi0s honly.2.1
   omega
  have hex2 : ∃ j, j < n ∧ j ≠ i0 ∧ listed.getD j false = false := by
   obtain ⟨j, hj, hl⟩ := hex
   by_cases h : j = i0
   ·subst h
    apply Classical.byContradiction
    intro hno
    refine honly ⟨hj, hl, fun k hk hne => ?_⟩
    cases hlk : listed.getD k false with
    | true => rfl
    | false => exact absurd ⟨k, hk, hne, hlk⟩ hno
   ·exact ⟨j, hj, h, hl⟩
  obtain ⟨j, hj, hj0, hl⟩ := hex2
  rw [show f + 1 + g = (f + g) + 1 by omega]
  refine ⟨fun h => absurd h (some_ready ho inv (Nat.le_of_lt hn) j j (Nat.le_refl _) hj hl), fun i hi => ?_⟩
  have hjs : j < listed.size := by rw [inv.size]; omega
  have hin : i < n := by
   rcases Nat.lt_or_ge i n with h | h
   ·exact h
   ·exact absurd hi (hw _ inv j hj hj0 (getD_in hjs hl) i h)
  obtain ⟨hun, oi, hoi, hall⟩ := mem_ready.1 hi
  have hun' := getD_both hun
  have his : i < listed.size := by rw [inv.size]; omega
  have htk : (ops.toList.take n)[i]? = some oi := by rw [List.getElem?_take_of_lt hin, Array.getElem?_toList]; exact hoi
  have hop := hO.get i oi htk a u hC.below hC.shape.out (fun d hd => by
   simp only [avail, List.mem_filterMap] at hd
   obtain ⟨e, he, hx⟩ := hd
   cases hb : Region.binds .any e with
   | false => rw [hb] at hx; simp at hx
   | true =>
    rw [hb, if_pos rfl] at hx
    have he' : e ∈ oi.after := by simpa using he
    have hlt := hall e he' hb
    have h1 := List.all_eq_true.1 ho i (by simpa using hin)
    simp only [hoi] at h1
    have h2 := Array.all_eq_true_iff_forall_mem.1 h1 e he'
    simp only [hb, Bool.not_true, Bool.false_or, decide_eq_true_eq] at h2
    exact hC.facts e.on d (by omega) hlt hx)
  have hgd : oi.guard = none := by
   have h1 := hh
   simp only [headB, Bool.and_eq_true, decide_eq_true_eq] at h1
   have h2 := List.all_eq_true.1 h1.2 oi (List.mem_of_getElem? htk)
   simpa using h2
  unfold wpOp
  simp only [hoi, Region.wanted, hgd, if_true]
  refine .inl ?_
  refine wp_mono2 hop ?_ ?_
  ·rintro a' u' ⟨v, d, hd, rfl, hF, hB, hN⟩
   refine ih _ _ _ ?_ (inv.set hi hin) (hC.step hh hsz hin hoi hd hun' hF hB hN)
   have := count_set his hun'
   omega
  ·intro e a' u' hfalse
   exact hfalse.elim
theorem calm_any {F : Tmp → Fct} {fr ds : List Tmp} {a0 : Act} {w0 : World} {n g i0 : Nat} {Q : Exit → Act → World → Prop} (hs : sinkL ops n i0 = true) (hc : Region.chainB .any ops n = true) (hn : n < ops.size) (ho : orderB ops n = true)
  (hh : headB ops n ds = true) (hsz : ∀ d, d ∈ ds → d < a0.tmps.size) (hO : CalmAll P F fr ds a0 w0 ops (ops.toList.take n))
  (hL : ∀ f listed a u, HeadInv .any ops n listed → i0 < n → listed.getD i0 false = false → (∀ j, j < n → j ≠ i0 → listed.getD j false = true) → Calm F fr ds a0 w0 ops n listed a u → (∀ a' u', Calm F fr ds a0 w0 ops n (listed.setIfInBounds i0 true) a' u' → wpAny P .any ops Q (f + g) (listed.setIfInBounds i0 true) a' u') → wpAny P .any ops Q (f + 1 + g) listed a u)
  (hE : ∀ a u, Calm F fr ds a0 w0 ops n (doneB ops.size n) a u → wpAny P .any ops Q g (doneB ops.size n) a u) :
  ∀ (f : Nat) (listed : Array Bool) (a : Act) (u : World), listed.toList.count false = f + (ops.size - n) → HeadInv .any ops n listed → Calm F fr ds a0 w0 ops n listed a u → wpAny P .any ops Q (f + g) listed a u :=
 calm_any2 (fun listed inv i hi h0 hun t ht => tail_waitsL hs hc hn inv _ i rfl hi h0 hun t ht) hn ho hh hsz hO hL hE
def calmB (ops : Array Oper) (n : Nat) (ds : List Tmp) : Bool :=
 decide (n < ops.size) && sinkL ops n ops.size && Region.chainB .any ops n && orderB ops n && headB ops n ds && Region.seqB .any ops (ops.size - n) n (doneB ops.size n)
def CalmL (P : Program) (F : Tmp → Fct) (fr : List Tmp) (ds : List Tmp) (a0 : Act) (w0 : World) : List Oper → List (List Tmp) → Prop
 | [], _ => True
 | o :: r, x :: y => CalmOp P F fr ds a0 w0 o x ∧ CalmL P F fr ds a0 w0 r y
 | _ :: _, [] => False
def availB (ops : Array Oper) : List Oper → List (List Tmp) → Bool
 | [], _ => true
 | o :: r, x :: y => x.all (fun d => (avail ops o).contains d) && availB ops r y
 | _ :: _, [] => true
theorem CalmL.all {F : Tmp → Fct} {fr ds : List Tmp} {a0 : Act} {w0 : World} : ∀ {l : List Oper} {av : List (List Tmp)}, availB ops l av = true → CalmL P F fr ds a0 w0 l av → CalmAll P F fr ds a0 w0 ops l
 | [], _, _, _ => trivial
 | o :: r, x :: y, hb, h => by
  simp only [availB, Bool.and_eq_true] at hb
  refine ⟨fun a u h1 h2 h3 => h.1 a u h1 h2 fun d hd => h3 d ?_, CalmL.all hb.2 h.2⟩
  simpa using List.all_eq_true.1 hb.1 d hd
 | _ :: _, [], _, h => h.elim
theorem calm_val {F : Tmp → Fct} {fr : List Tmp} {o : Oper} {a : Act} {u : World} (d : Tmp) (v : Value) (hd : o.dst = some d) (hr : (execOp a.eval o).run P u = .ok (.value v) u) (hF : (F d).p v u) (hn : fr.contains d = false) :
  o.wp P a u (fun a' u' => ∃ v d, o.dst = some d ∧ a' = a.put (some d) v ∧ (F d).p v u' ∧ Below u.heap.size u u' ∧ (d ∈ fr → Newer u u' v)) (fun _ _ _ => False) := by
 unfold Oper.wp
 rw [hr]
 exact ⟨v, d, hd, by rw [hd], hF, Below.refl _ _, fun h => by simp at hn; exact absurd h hn⟩
theorem calm_load {F : Tmp → Fct} {fr : List Tmp} {o : Oper} {a : Act} {u : World} (d : Tmp) {b n t t' k : Nat} {C cs : Array Value} (x : Operand) (hd : o.dst = some d) (ho : o.op = .load t x) (hx : a.eval x = .pointer (some ⟨b, k, none⟩)) (hb : u.heap[b]? = some (.cells C t'))
  (hr : (Instr.loadAt t (.pointer (some ⟨b, k, none⟩))).run P u = .ok (.agg cs) u) (hF : (F d).p (.agg cs) u) (hn : fr.contains d = false) :
  o.wp P a u (fun a' u' => ∃ v d, o.dst = some d ∧ a' = a.put (some d) v ∧ (F d).p v u' ∧ Below u.heap.size u u' ∧ (d ∈ fr → Newer u u' v)) (fun _ _ _ => False) := by
 refine calm_val d (.agg cs) hd ?_ hF hn
 unfold execOp
 simp only [ho, hx, Sem.run_bind, hr, Result.andThen_ok, Sem.run_pure]
def hasBody (P : Program) (f : FuncId) : Bool := match P.funcs[f]? with | some fn => !(fn.name == "runtime.NumGoroutine") && fn.body.isSome | none => false
theorem run_body {f : FuncId} (h : hasBody P f = true) (args : Array Value) (w : World) : (callFunc f args).run P w = .ok (.enter f args) w := by
 unfold hasBody at h
 cases hf : P.funcs[f]? with
 | none => rw [hf] at h; cases h
 | some fn =>
  rw [hf] at h
  simp only [Bool.and_eq_true, Bool.not_eq_true'] at h
  have h1 : fn.name ≠ "runtime.NumGoroutine" := by simpa using h.1
  obtain ⟨c, hc⟩ := Option.isSome_iff_exists.1 h.2
  simp [callFunc, hf, h1, hc]
theorem calm_call {F : Tmp → Fct} {fr : List Tmp} {o : Oper} {a : Act} {u : World} (d : Tmp) {f : FuncId} {xs : Array Operand} {ts : Array TypeId} (A : Array Value) {R : Ending → World → Prop} (hd : o.dst = some d) (ho : o.op = .call { callee := .value (.func f), args := xs, argTypes := ts }) (hA : xs.map a.eval = A) (hf : hasBody P f = true)
  (hc : Calls P f A u R) (hR : ∀ e u', R e u' → ∃ v, e = .returned v ∧ (F d).p v u' ∧ Below u.heap.size u u') (hn : fr.contains d = false) :
  o.wp P a u (fun a' u' => ∃ v d, o.dst = some d ∧ a' = a.put (some d) v ∧ (F d).p v u' ∧ Below u.heap.size u u' ∧ (d ∈ fr → Newer u u' v)) (fun _ _ _ => False) := by
 have h0 : (execOp a.eval o).run P u = .ok (.enter f A) u := by
  unfold execOp
  simp only [ho]
  unfold resolve
  simp only [hA]
  have e1 : Deferred.ofValue (a.eval (.func f)) A = pure { target := .fn (.func f) #[], args := A } := by
   show (pure { target := .fn (.func f) #[], args := #[] ++ A } : Sem Deferred) = _
   rw [Array.empty_append]
  simp only [e1, Sem.run_bind, Sem.run_pure, Result.andThen_ok, invoke, Array.append_empty, run_body hf]
 unfold Oper.wp
 rw [h0]
 refine Calls.mono hc fun e u' he => ?_
 obtain ⟨v, rfl, h1, h2⟩ := hR e u' he
 exact ⟨v, d, hd, by rw [hd], h1, h2, fun h => by simp at hn; exact absurd h hn⟩
theorem calm_new {F : Tmp → Fct} {fr : List Tmp} {o : Oper} {a : Act} {u : World} (d : Tmp) (ob : Obj) (hd : o.dst = some d) (hr : (execOp a.eval o).run P u = .ok (.value (.pointer (some ⟨u.heap.size, 0, none⟩))) (u.alloc ob)) (hF : (F d).p (.pointer (some ⟨u.heap.size, 0, none⟩)) (u.alloc ob)) :
  o.wp P a u (fun a' u' => ∃ v d, o.dst = some d ∧ a' = a.put (some d) v ∧ (F d).p v u' ∧ Below u.heap.size u u' ∧ (d ∈ fr → Newer u u' v)) (fun _ _ _ => False) := by
 unfold Oper.wp
 rw [hr]
 exact ⟨_, d, hd, by rw [hd], hF, (Below.refl _ _).alloc (Nat.le_refl _) ob, fun _ => ⟨u.heap.size, rfl, Nat.le_refl _, by simp⟩⟩
theorem obj_new (B : Nat) (u : World) (ob : Obj) (h : B ≤ u.heap.size) : (Fct.obj B ob).p (.pointer (some ⟨u.heap.size, 0, none⟩)) (u.alloc ob) := ⟨_, rfl, h, heap_alloc_last u ob⟩
def Ftab (l : List (Nat × Fct)) (t : Tmp) : Fct := (l.lookup t).getD (.of fun _ => True)
theorem wp_region_calm {id : Nat} {Q : Exit → Act → World → Prop} {a0 : Act} {w : World} {l : List Oper} (n : Nat) (ds fr : List Tmp) (av : List (List Tmp)) (F : Tmp → Fct) (hm : P.follows .mixedOrders = true) (hB : calmB l.toArray n ds = true)
  (hsz : ds.all (fun d => decide (d < a0.tmps.size)) = true) (hav : availB l.toArray (l.take n) av = true) (hO : CalmL P F fr ds a0 w.drew (l.take n) av)
  (hE : ∀ V u, Below w.heap.size w.drew u → (∀ d, d ∈ ds → (F d).p (V d) u) → (∀ c d, c ∈ ds → d ∈ ds → c ∈ fr → d ∈ fr → c ≠ d → V c ≠ V d) → wpList P l.toArray Q (l.drop n) ⟨fill V a0.tmps ds, a0.defers⟩ u) :
  (Code.region id l.toArray true).wp P Q a0 w := by
 simp only [calmB, Bool.and_eq_true, decide_eq_true_eq] at hB
 obtain ⟨⟨⟨⟨⟨hn, hs⟩, hc⟩, ho⟩, hh⟩, hq⟩ := hB
 have hsz' : ∀ d, d ∈ ds → d < a0.tmps.size := fun d hd => by simpa using List.all_eq_true.1 hsz d hd
 refine wp_region_any hm ?_
 have inv0 : HeadInv .any l.toArray n (Array.replicate l.toArray.size false) :=
  ⟨by simp, fun j oj _ hl => (by rw [getD_replicate_false] at hl; cases hl), fun t _ ht => getD_in (by simpa using ht) (getD_replicate_false _ _)⟩
 have hC0 : Calm F fr ds a0 w.drew l.toArray n (Array.replicate l.toArray.size false) a0 w.drew :=
  ⟨Below.refl _ _, ⟨rfl, rfl, fun _ _ => rfl⟩, fun j d _ hl _ => (by rw [getD_replicate_false] at hl; cases hl), fun j d _ hl _ _ => (by rw [getD_replicate_false] at hl; cases hl), fun i j c d _ _ hl _ _ _ _ _ _ => (by rw [getD_replicate_false] at hl; cases hl)⟩
 have H := calm_any (Q := Q) (g := l.toArray.size - n) (F := F) (fr := fr) (i0 := l.toArray.size) hs hc hn ho hh hsz' (CalmL.all hav hO) (fun _ _ _ _ _ h => absurd (Nat.lt_trans h hn) (Nat.lt_irrefl _)) (fun a u hC => ?_) n _ a0 w.drew (by have := hn; simp at this ⊢; omega) inv0 hC0
 ·rw [show n + (l.toArray.size - n) = l.toArray.size by omega] at H
  exact H
 have hdl : (l.drop n).length = l.toArray.size - n := by simp
 have hat : ∀ d, d ∈ ds → ∃ j, j < n ∧ (doneB l.toArray.size n).getD j false = true ∧ (l.toArray[j]?).bind (·.dst) = some d := fun d hd => by
  obtain ⟨j, hj, rfl⟩ := List.mem_iff_getElem.1 hd
  have h1 := hh
  simp only [headB, Bool.and_eq_true, decide_eq_true_eq] at h1
  have h2 := h1.1.1
  have hln : ds.length = n := by have := congrArg List.length h2; simp at this hn; omega
  have hjn : j < n := by omega
  refine ⟨j, hjn, ?_, ?_⟩
  ·have : j < l.length := by simp at hn; omega
   show (Array.replicate n true ++ Array.replicate (l.toArray.size - n) false).getD j false = true
   rw [gDx, Array.getElem?_append_left (by simpa using hjn)]
   simp [hjn]
  ·have h3 : ((l.toArray.toList.take n).map (·.dst))[j]? = (ds.map some)[j]? := by rw [h2]
   rw [List.getElem?_map, List.getElem?_take_of_lt hjn, List.getElem?_map, Array.getElem?_toList, List.getElem?_eq_getElem hj] at h3
   cases hx : l.toArray[j]? with
   | none => rw [hx] at h3; cases h3
   | some o => rw [hx] at h3; simpa using h3
 have := wpAny_of_seq (md := .any) (ops := l.toArray) (Q' := Q) (l.drop n) n (doneB l.toArray.size n) a u (fun j => by rw [List.getElem?_drop]; exact (List.getElem?_toArray ..).symm) (by rw [hdl]; exact hq) (by
  have h3 := hE (fun t => a.eval (.tmp t)) u hC.below (fun d hd => by
    obtain ⟨j, h1, h2, h3⟩ := hat d hd
    exact hC.facts j d h1 h2 h3) (fun c d hc hd hf1 hf2 hne => by
    obtain ⟨i, h1, h2, h3⟩ := hat c hc
    obtain ⟨j, h4, h5, h6⟩ := hat d hd
    exact hC.ne i j c d h1 h4 h2 h5 h3 h6 hf1 hf2 hne)
  rw [hC.shape.act]
  have e : (fun t => a.eval (.tmp t)) = (fun t => (⟨fill (fun t => a.eval (.tmp t)) a0.tmps ds, a0.defers⟩ : Act).eval (.tmp t)) := by rw [← hC.shape.act]
  exact h3)
 rwa [hdl] at this
def calmLB (ops : Array Oper) (n i0 : Nat) (ds : List Tmp) : Bool :=
 decide (n < ops.size) && sinkL ops n i0 && Region.chainB .any ops n && orderB ops n && headB ops n ds && Region.seqB .any ops (ops.size - n) n (doneB ops.size n) &&
  decide (i0 < n) && Region.noSelect ops && Region.free .any ops ((doneB ops.size n).setIfInBounds i0 false) i0 && (Region.ready .any ops ((doneB ops.size n).setIfInBounds i0 false)).contains i0
theorem wp_region_calm_late {id : Nat} {Q : Exit → Act → World → Prop} {a0 : Act} {w : World} {l : List Oper} (n i0 : Nat) (ds fr : List Tmp) (av : List (List Tmp)) (F : Tmp → Fct) (hm : P.follows .mixedOrders = true) (hB : calmLB l.toArray n i0 ds = true)
  (hsz : ds.all (fun d => decide (d < a0.tmps.size)) = true) (hav : availB l.toArray (l.take n) av = true) {o0 : Oper} (d0 : Tmp) (ho0 : l[i0]? = some o0) (hd0 : o0.dst = some d0) (hav0 : (av.getD i0 []).all (fun d => (avail l.toArray o0).contains d) = true) (hfr0 : fr.contains d0 = false)
  (hQ : ∀ c a w v, Q (.panic c) (a.put (some d0) v) w → Q (.panic c) a w)
  (hY : ∀ (a : Act) (u : World), Below w.heap.size w.drew u → (∀ t, t ∉ ds → a.eval (.tmp t) = a0.eval (.tmp t)) → (∀ d, d ∈ av.getD i0 [] → (F d).p (a.eval (.tmp d)) u) → ∃ v, (∀ w, (execOp a.eval o0).run P w = .ok (.value v) w) ∧ (F d0).p v u)
  (hO : CalmL P F fr ds a0 w.drew (l.take n) av)
  (hE : ∀ V u, Below w.heap.size w.drew u → (∀ d, d ∈ ds → (F d).p (V d) u) → (∀ c d, c ∈ ds → d ∈ ds → c ∈ fr → d ∈ fr → c ≠ d → V c ≠ V d) → wpList P l.toArray Q (l.drop n) ⟨fill V a0.tmps ds, a0.defers⟩ u) :
  (Code.region id l.toArray true).wp P Q a0 w := by
 simp only [calmLB, Bool.and_eq_true, decide_eq_true_eq] at hB
 obtain ⟨⟨⟨⟨⟨⟨⟨⟨⟨hn, hs⟩, hc⟩, ho⟩, hh⟩, hq⟩, hi0⟩, hns⟩, hfree⟩, hrdy⟩ := hB
 have hsz' : ∀ d, d ∈ ds → d < a0.tmps.size := fun d hd => by simpa using List.all_eq_true.1 hsz d hd
 have hoi : l.toArray[i0]? = some o0 := by simpa using ho0
 have hdi : (l.toArray[i0]?).bind (·.dst) = some d0 := by rw [hoi]; exact hd0
 refine wp_region_any hm ?_
 have inv0 : HeadInv .any l.toArray n (Array.replicate l.toArray.size false) :=
  ⟨by simp, fun j oj _ hl => (by rw [getD_replicate_false] at hl; cases hl), fun t _ ht => getD_in (by simpa using ht) (getD_replicate_false _ _)⟩
 have hC0 : Calm F fr ds a0 w.drew l.toArray n (Array.replicate l.toArray.size false) a0 w.drew :=
  ⟨Below.refl _ _, ⟨rfl, rfl, fun _ _ => rfl⟩, fun j d _ hl _ => (by rw [getD_replicate_false] at hl; cases hl), fun j d _ hl _ _ => (by rw [getD_replicate_false] at hl; cases hl), fun i j c d _ _ hl _ _ _ _ _ _ => (by rw [getD_replicate_false] at hl; cases hl)⟩
 have H := calm_any (Q := Q) (g := l.toArray.size - n) (F := F) (fr := fr) (i0 := i0) hs hc hn ho hh hsz' (CalmL.all hav hO) (fun f listed a u inv h1 h2 h3 hC hK => ?_) (fun a u hC => ?_) n _ a0 w.drew (by have := hn; simp at this ⊢; omega) inv0 hC0
 ·rw [show n + (l.toArray.size - n) = l.toArray.size by omega] at H
  exact H
 ·have hsl : i0 < listed.size := by rw [inv.size]; omega
  have hll : listed = (doneB l.toArray.size n).setIfInBounds i0 false := by
   apply Array.ext
   ·rw [inv.size]; simp [doneB]; simp at hn; omega
   ·intro j hj1 hj2
    rw [Array.getElem_setIfInBounds]
    rotate_left
    ·simpa using hj2
    have hjs : j < l.toArray.size := by rw [← inv.size]; exact hj1
    by_cases hji : i0 = j
    ·subst hji
     rw [if_pos rfl]
     simpa [hj1] using h2
    ·rw [if_neg hji]
     rcases Nat.lt_or_ge j n with h | h
     ·have := h3 j h (fun e => hji e.symm)
      simp [hj1] at this
      rw [this]
      simp [doneB, h]
     ·have := inv.tail j h hjs
      simp [hj1] at this
      rw [this]
      simp [doneB, Array.getElem_append, Nat.not_lt.2 h]
  have hr0 : i0 ∈ Region.ready .any l.toArray listed := by rw [hll]; simpa using hrdy
  obtain ⟨_, o', ho', hall⟩ := mem_ready.1 hr0
  have e0 : o' = o0 := Option.some.inj (ho'.symm.trans hoi)
  subst e0
  obtain ⟨v, hv, hF⟩ := hY a u hC.below hC.shape.out (fun d hd => by
   have hd' := List.all_eq_true.1 hav0 d hd
   have hd2 : d ∈ avail l.toArray o' := by simpa using hd'
   simp only [avail, List.mem_filterMap] at hd2
   obtain ⟨e, he, hx⟩ := hd2
   cases hb : Region.binds .any e with
   | false => rw [hb] at hx; simp at hx
   | true =>
    rw [hb, if_pos rfl] at hx
    have he' : e ∈ o'.after := by simpa using he
    have hlt := hall e he' hb
    have h1 := List.all_eq_true.1 ho i0 (by simpa using hi0)
    simp only [hoi] at h1
    have h2 := Array.all_eq_true_iff_forall_mem.1 h1 e he'
    simp only [hb, Bool.not_true, Bool.false_or, decide_eq_true_eq] at h2
    exact hC.facts e.on d (by omega) hlt hx)
  rw [show f + 1 + (l.toArray.size - n) = (f + (l.toArray.size - n)) + 1 by omega]
  have hgd : o'.guard = none := by
   have h1 := hh
   simp only [headB, Bool.and_eq_true, decide_eq_true_eq] at h1
   have htk : (l.take n)[i0]? = some o' := by rw [List.getElem?_take_of_lt hi0]; exact ho0
   have h2 := List.all_eq_true.1 h1.2 o' (by simpa using List.mem_of_getElem? htk)
   simpa using h2
  refine wpAny_take hoi hns (by rw [hll]; exact hfree) (by rw [hll]; exact hrdy) (fun c a w => by rw [hd0]; exact hQ c a w v) (.inl ⟨by simp [Region.wanted, hgd], hv⟩) ?_
  rw [hd0]
  exact hK _ _ (hC.step hh hsz' hi0 hoi hd0 h2 hF (Below.refl _ _) (fun h => by simp at hfr0; exact absurd h hfr0))
 have hdl : (l.drop n).length = l.toArray.size - n := by simp
 have hat : ∀ d, d ∈ ds → ∃ j, j < n ∧ (doneB l.toArray.size n).getD j false = true ∧ (l.toArray[j]?).bind (·.dst) = some d := fun d hd => by
  obtain ⟨j, hj, rfl⟩ := List.mem_iff_getElem.1 hd
  have h1 := hh
  simp only [headB, Bool.and_eq_true, decide_eq_true_eq] at h1
  have h2 := h1.1.1
  have hln : ds.length = n := by have := congrArg List.length h2; simp at this hn; omega
  have hjn : j < n := by omega
  refine ⟨j, hjn, ?_, ?_⟩
  ·have : j < l.length := by simp at hn; omega
   show (Array.replicate n true ++ Array.replicate (l.toArray.size - n) false).getD j false = true
   rw [gDx, Array.getElem?_append_left (by simpa using hjn)]
   simp [hjn]
  ·have h3 : ((l.toArray.toList.take n).map (·.dst))[j]? = (ds.map some)[j]? := by rw [h2]
   rw [List.getElem?_map, List.getElem?_take_of_lt hjn, List.getElem?_map, Array.getElem?_toList, List.getElem?_eq_getElem hj] at h3
   cases hx : l.toArray[j]? with
   | none => rw [hx] at h3; cases h3
   | some o => rw [hx] at h3; simpa using h3
 have := wpAny_of_seq (md := .any) (ops := l.toArray) (Q' := Q) (l.drop n) n (doneB l.toArray.size n) a u (fun j => by rw [List.getElem?_drop]; exact (List.getElem?_toArray ..).symm) (by rw [hdl]; exact hq) (by
  have h3 := hE (fun t => a.eval (.tmp t)) u hC.below (fun d hd => by
    obtain ⟨j, h1, h2, h3⟩ := hat d hd
    exact hC.facts j d h1 h2 h3) (fun c d hc hd hf1 hf2 hne => by
    obtain ⟨i, h1, h2, h3⟩ := hat c hc
    obtain ⟨j, h4, h5, h6⟩ := hat d hd
    exact hC.ne i j c d h1 h4 h2 h5 h3 h6 hf1 hf2 hne)
  rw [hC.shape.act]
  exact h3)
 rwa [hdl] at this
theorem run_build {a : Act} {o : Oper} {t : TypeId} {ps : Array (Nat × Operand)} {vs : Array (Nat × Value)} {v : Value} {u : World} (ho : o.op = .build t ps) (hp : (ps.map fun (i, x) => (i, a.eval x)) = vs) (hr : (Instr.build t vs).run P u = .ok v u) : (execOp a.eval o).run P u = .ok (.value v) u := by
 unfold execOp
 simp only [ho, hp, Sem.run_bind, hr, Result.andThen_ok, Sem.run_pure]
end
def fillL : Array Value → List (Nat × Value) → Array Value
  | s, [] => s
  | s, (d, v) :: r => fillL (s.setIfInBounds d v) r
def vals (tab : List (Nat × Value)) : List (Nat × Fct) := tab.map fun | (a, b) => (a, .val b)
theorem lookup_vals : ∀ (tab : List (Nat × Value)), (tab.map (·.1)).Nodup → ∀ x ∈ tab, (vals tab).lookup x.1 = some (.val x.2)
  | [], _, x, h => by simp at h
  | y :: r, hn, x, h => by
    simp only [List.map_cons, List.nodup_cons] at hn
    show List.lookup x.1 ((y.1, Fct.val y.2) :: vals r) = _
    rw [List.lookup_cons]
    rcases List.mem_cons.1 h with rfl | h
    · simp
    · have hne : x.1 ≠ y.1 := fun e => hn.1 (e ▸ List.mem_map.2 ⟨x, h, rfl⟩)
      rw [show (x.1 == y.1) = false by simpa using hne]
      exact lookup_vals r hn.2 x h
theorem fill_tab (V : Tmp → Value) : ∀ (tab : List (Nat × Value)) (s : Array Value), (∀ x ∈ tab, V x.1 = x.2) → fill V s (tab.map (·.1)) = fillL s tab
  | [], _, _ => rfl
  | (d, v) :: r, s, h => by
    show fill V (s.setIfInBounds d (V d)) (r.map (·.1)) = fillL (s.setIfInBounds d v) r
    rw [h (d, v) (List.mem_cons_self ..)]
    exact fill_tab V r _ fun x hx => h x (List.mem_cons_of_mem _ hx)
theorem tab_facts {ops : Array Oper} {n : Nat} {ds : List Tmp} {tab : List (Nat × Value)} (hd : tab.map (·.1) = ds) (hh : ds.Nodup) {V : Tmp → Value} {u : World} (hf : ∀ d, d ∈ ds → (Ftab (vals tab) d).p (V d) u) : ∀ x ∈ tab, V x.1 = x.2 := by
  subst hd
  intro x hx
  have h := hf x.1 (List.mem_map.2 ⟨x, hx, rfl⟩)
  unfold Ftab at h
  rw [lookup_vals tab hh x hx] at h
  exact h
theorem wp_region_cv {P : Program} {id : Nat} {Q : Exit → Act → World → Prop} {a0 : Act} {w : World} {l : List Oper} (n : Nat) (ds : List Tmp) (av : List (List Tmp)) (tab : List (Nat × Value)) (hd : tab.map (·.1) = ds) (hm : P.follows .mixedOrders = true) (hB : calmB l.toArray n ds = true)
    (hsz : ds.all (fun d => decide (d < a0.tmps.size)) = true) (hav : availB l.toArray (l.take n) av = true) (hO : CalmL P (Ftab (vals tab)) [] ds a0 w.drew (l.take n) av)
    (hE : ∀ u, Below w.heap.size w.drew u → wpList P l.toArray Q (l.drop n) ⟨fillL a0.tmps tab, a0.defers⟩ u) :
    (Code.region id l.toArray true).wp P Q a0 w := by
  refine wp_region_calm n ds [] av (Ftab (vals tab)) hm hB hsz hav hO fun V u hb hf hn => ?_
  simp only [calmB, headB, Bool.and_eq_true, decide_eq_true_eq] at hB
  have hh := hB.1.2.1.2
  have := tab_facts (ops := l.toArray) (n := n) hd hh hf
  rw [← hd, fill_tab V tab _ this]
  exact hE u hb
theorem wp_region_cvl {P : Program} {id : Nat} {Q : Exit → Act → World → Prop} {a0 : Act} {w : World} {l : List Oper} (n i0 : Nat) (ds : List Tmp) (av : List (List Tmp)) (tab : List (Nat × Value)) (hd : tab.map (·.1) = ds) (hm : P.follows .mixedOrders = true) (hB : calmLB l.toArray n i0 ds = true)
    (hsz : ds.all (fun d => decide (d < a0.tmps.size)) = true) (hav : availB l.toArray (l.take n) av = true) {o0 : Oper} (d0 : Tmp) (ho0 : l[i0]? = some o0) (hd0 : o0.dst = some d0) (hav0 : (av.getD i0 []).all (fun d => (avail l.toArray o0).contains d) = true)
    (hQ : ∀ c a w v, Q (.panic c) (a.put (some d0) v) w → Q (.panic c) a w)
    (hY : ∀ (a : Act) (u : World), Below w.heap.size w.drew u → (∀ t, t ∉ ds → a.eval (.tmp t) = a0.eval (.tmp t)) → (∀ d, d ∈ av.getD i0 [] → (Ftab (vals tab) d).p (a.eval (.tmp d)) u) → ∃ v, (∀ w, (execOp a.eval o0).run P w = .ok (.value v) w) ∧ (Ftab (vals tab) d0).p v u)
    (hO : CalmL P (Ftab (vals tab)) [] ds a0 w.drew (l.take n) av)
    (hE : ∀ u, Below w.heap.size w.drew u → wpList P l.toArray Q (l.drop n) ⟨fillL a0.tmps tab, a0.defers⟩ u) :
    (Code.region id l.toArray true).wp P Q a0 w := by
  refine wp_region_calm_late n i0 ds [] av (Ftab (vals tab)) hm hB hsz hav d0 ho0 hd0 hav0 rfl hQ hY hO fun V u hb hf hn => ?_
  simp only [calmLB, headB, Bool.and_eq_true, decide_eq_true_eq] at hB
  have hh := hB.1.1.1.1.1.2.1.2
  have := tab_facts (ops := l.toArray) (n := n) hd hh hf
  rw [← hd, fill_tab V tab _ this]
  exact hE u hb
theorem calm_lM {F : Tmp → Fct} {fr : List Tmp} {o : Oper} {a : Act} {u : World} (d x : Tmp) {b n t t' k : Nat} {C cs : Array Value} (hx : a.eval (.tmp x) = .pointer (some ⟨b, k, none⟩)) (hb : u.heap[b]? = some (.cells C t')) (ag : AgTy t n) (hc : C.extract k (k + n) = cs) (hs : cs.size = n) (hd : o.dst = some d) (ho : o.op = .load t (.tmp x)) (hF : (F d).p (.agg cs) u) (hn : fr.contains d = false) :
    o.wp Tryz.prog a u (fun a' u' => ∃ v d, o.dst = some d ∧ a' = a.put (some d) v ∧ (F d).p v u' ∧ Below u.heap.size u u' ∧ (d ∈ fr → Newer u u' v)) (fun _ _ _ => False) :=
  calm_load (n := 0) d (.tmp x) hd ho hx hb (run_loadM hb ag hc hs) hF hn
end
section
open Go.RowKit
section
variable {P : Program} {ops : Array Oper}
def chain2B (ops : Array Oper) (n : Nat) : Bool := (List.range ops.size).all fun t => decide (t ≤ n) || (List.range t).any fun j => decide (n ≤ j) && Region.waitsFor .any ops t j
theorem tail_waits2 {n i0 : Nat} {listed : Array Bool} (hs : sinkL ops n i0 = true) (hc : chain2B ops n = true) (hn : n < ops.size) (inv : HeadInv .any ops n listed) :
  ∀ (d i : Nat), n - i = d → i < n → i ≠ i0 → listed.getD i true = false → ∀ t, n ≤ t → t ∉ Region.ready .any ops listed := by
 intro d
 induction d using Nat.strongRecOn with
 | _ d ih =>
  intro i hd hi h0 hun t ht hr
  obtain ⟨_, ot, hot, hall⟩ := mem_ready.1 hr
  have htlt : t < ops.size := (Array.getElem?_eq_some_iff.1 hot).1
  by_cases htn : t = n
  ·subst htn
   have h1 := List.all_eq_true.1 hs i (List.mem_range.2 hi)
   simp only [Bool.or_eq_true, beq_iff_eq] at h1
   have h1 := h1.resolve_left h0
   obtain ⟨j, hj, hj2⟩ := List.any_eq_true.1 h1
   simp only [Bool.and_eq_true, decide_eq_true_eq, Bool.not_eq_true', beq_eq_false_iff_ne] at hj2
   obtain ⟨oj, hoj, e, he, hb, hon⟩ := Region.waitsFor_spec hj2.2
   have hjle : j ≤ t := by have := List.mem_range.1 hj; omega
   by_cases hjt : j = t
   ·subst hjt
    have : oj = ot := Option.some.inj (hoj.symm.trans hot)
    subst this
    have h2 := hall e he hb
    rw [hon, getD_both hun] at h2
    cases h2
   ·cases hl : listed.getD j false with
    | true =>
     have h2 := inv.closed j oj hoj hl e he hb
     rw [hon, getD_both hun] at h2
     cases h2
    | false =>
     have hjs : j < listed.size := by rw [inv.size]; omega
     exact ih (t - j) (by omega) j rfl (by omega) hj2.1.2 (getD_in hjs hl) t (Nat.le_refl _) hr
  ·have h1 := List.all_eq_true.1 hc t (List.mem_range.2 htlt)
   simp only [Bool.or_eq_true, decide_eq_true_eq] at h1
   rcases h1 with h1 | h1
   ·omega
   ·obtain ⟨j, hj, hj2⟩ := List.any_eq_true.1 h1
    simp only [Bool.and_eq_true, decide_eq_true_eq] at hj2
    obtain ⟨o', ho', e, he, hb, hon⟩ := Region.waitsFor_spec hj2.2
    have : o' = ot := Option.some.inj (ho'.symm.trans hot)
    subst this
    have h2 := hall e he hb
    have hjt := List.mem_range.1 hj
    rw [hon, getD_both (inv.tail j hj2.1 (by omega))] at h2
    cases h2
theorem wpAny_one {md : Region.Mode} {Q : Exit → Act → World → Prop} {fuel : Nat} {listed : Array Bool} {a : Act} {w : World} {i : Nat} {o : Oper} (hr : Region.ready md ops listed = [i]) (ho : ops[i]? = some o) (hg : o.guard = none)
  (h : o.wp P a w (fun a' w' => wpAny P md ops Q fuel (listed.setIfInBounds i true) a' w') Q) : wpAny P md ops Q (fuel + 1) listed a w := by
 refine ⟨fun h0 => (by rw [hr] at h0; cases h0), fun j hj => ?_⟩
 rw [hr] at hj
 obtain rfl : j = i := by simpa using hj
 unfold wpOp
 simp only [ho, Region.wanted, hg, if_true]
 exact .inl h
theorem wp_callM {o : Oper} {a : Act} {u : World} {K : Act → World → Prop} {Q : Exit → Act → World → Prop} (d : Tmp) {f : FuncId} {xs : Array Operand} {ts : Array TypeId} (A : Array Value) {R : Ending → World → Prop} (hd : o.dst = some d) (ho : o.op = .call { callee := .value (.func f), args := xs, argTypes := ts }) (hA : xs.map a.eval = A) (hf : hasBody P f = true)
  (hc : Calls P f A u R) (hR : ∀ e u', R e u' → ∃ v, e = .returned v ∧ K (a.put (some d) v) u') : o.wp P a u K Q := by
 have h0 : (execOp a.eval o).run P u = .ok (.enter f A) u := by
  unfold execOp
  simp only [ho]
  unfold resolve
  simp only [hA]
  have e1 : Deferred.ofValue (a.eval (.func f)) A = pure { target := .fn (.func f) #[], args := A } := by
   show (pure { target := .fn (.func f) #[], args := #[] ++ A } : Sem Deferred) = _
   rw [Array.empty_append]
  simp only [e1, Sem.run_bind, Sem.run_pure, Result.andThen_ok, invoke, Array.append_empty, run_body hf]
 unfold Oper.wp
 rw [h0]
 refine Calls.mono hc fun e u' he => ?_
 obtain ⟨v, rfl, h1⟩ := hR e u' he
 rw [hd]
 exact h1
theorem doneB_set {m n : Nat} (h : n < m) : (doneB m n).setIfInBounds n true = doneB m (n + 1) := by
 apply Array.ext_getElem?
 intro j
 rw [Array.getElem?_setIfInBounds]
 unfold doneB
 rw [Array.getElem?_append, Array.getElem?_append]
 simp only [Array.size_replicate, Array.getElem?_replicate, Array.size_append]
 by_cases h1 : n = j
 ·subst h1
  rw [if_pos rfl, if_pos (by omega), if_pos (by omega), if_pos (by omega)]
 rw [if_neg h1]
 by_cases h2 : j < n
 ·rw [if_pos h2, if_pos h2, if_pos (by omega), if_pos (by omega)]
 by_cases h3 : j < m
 ·rw [if_neg h2, if_pos (by omega : j - n < m - n), if_neg (by omega : ¬ j < n + 1), if_pos (by omega : j - (n + 1) < m - (n + 1))]
 rw [if_neg h2, if_neg (by omega : ¬ j - n < m - n), if_neg (by omega : ¬ j < n + 1), if_neg (by omega : ¬ j - (n + 1) < m - (n + 1))]
def exts : List Tmp → Nat → Array Value → Act → Act
 | [], _, _, a => a
 | e :: es, i, vs, a => exts es (i + 1) vs (a.put (some e) (vs.getD i undef))
def extB (l : List Oper) (d : Tmp) : Nat → Nat → List Tmp → Bool
 | _, _, [] => true
 | p, i, e :: es => (match l[p]? with
  | some o => (match o.op with | .extract (.tmp x) y => decide (x = d) && decide (y = i) | _ => false) && decide (o.dst = some e) && (o.guard == none)
  | none => false) && Region.free .any l.toArray (doneB l.toArray.size p) p && (Region.ready .any l.toArray (doneB l.toArray.size p)).contains p && decide (e ≠ d) && decide (p < l.toArray.size) && extB l d (p + 1) (i + 1) es
theorem wpAny_exts {l : List Oper} {Q : Exit → Act → World → Prop} {d : Tmp} {vs : Array Value} (hns : Region.noSelect l.toArray = true) (hQ : ∀ c a w d v, Q (.panic c) (a.put (some d) v) w → Q (.panic c) a w) :
  ∀ (es : List Tmp) (p i g : Nat) (a : Act) (w : World), extB l d p i es = true → i + es.length = vs.size → a.eval (.tmp d) = .tuple vs →
   wpAny P .any l.toArray Q g (doneB l.toArray.size (p + es.length)) (exts es i vs a) w → wpAny P .any l.toArray Q (es.length + g) (doneB l.toArray.size p) a w
 | [], p, i, g, a, w, _, _, _, h => by simpa [exts] using h
 | e :: es, p, i, g, a, w, hB, hv, hd, h => by
  simp only [extB, Bool.and_eq_true, decide_eq_true_eq] at hB
  obtain ⟨⟨⟨⟨⟨hm, hfree⟩, hrdy⟩, hne⟩, hp⟩, hB⟩ := hB
  cases ho : l[p]? with
  | none => rw [ho] at hm; simp at hm
  | some o =>
   rw [ho] at hm
   simp only [Bool.and_eq_true, decide_eq_true_eq] at hm
   obtain ⟨⟨hop, hdst⟩, hgd⟩ := hm
   have hgd : o.guard = none := by simpa using hgd
   have hop : o.op = .extract (.tmp d) i := by
    split at hop
    ·rename_i x y heq
     simp only [Bool.and_eq_true, decide_eq_true_eq] at hop
     obtain ⟨rfl, rfl⟩ := hop
     exact heq
    ·cases hop
   have hlt : i < vs.size := by rw [← hv]; simp
   have hrun : ∀ w, (execOp a.eval o).run P w = .ok (.value (vs.getD i undef)) w := fun w => by
    unfold execOp
    simp only [hop, hd]
    simp [Instr.extract, hlt]
   rw [show (e :: es).length + g = (es.length + g) + 1 by simp only [List.length_cons]; omega]
   have ho' : l.toArray[p]? = some o := by simpa using ho
   refine wpAny_take ho' hns hfree hrdy (fun c a w h => hQ c a w e (vs.getD i undef) (by rw [hdst] at h; exact h)) (.inl ⟨by unfold Region.wanted; rw [hgd], hrun⟩) ?_
   rw [doneB_set hp, hdst]
   refine wpAny_exts hns hQ es (p + 1) (i + 1) g _ w hB (by rw [← hv]; simp only [List.length_cons]; omega) ?_ ?_
   ·rw [eval_put_other _ _ _ _ hne]; exact hd
   ·rw [show p + 1 + es.length = p + (e :: es).length by simp only [List.length_cons]; omega]
    exact h
def midB (l : List Oper) (n : Nat) (ds : List Tmp) (d1 d2 : Tmp) (es : List Tmp) : Bool :=
 decide (n + 1 < l.toArray.size) && sinkL l.toArray n l.toArray.size && chain2B l.toArray n && orderB l.toArray n && headB l.toArray n ds && Region.noSelect l.toArray &&
 decide (Region.ready .any l.toArray (doneB l.toArray.size n) = [n]) && decide (Region.ready .any l.toArray (doneB l.toArray.size (n + 1)) = [n + 1]) &&
 (match l[n + 1]? with | some o => (match o.op with | .move (.tmp x) => decide (x = d1) | _ => false) && decide (o.dst = some d2) && (o.guard == none) | none => false) &&
 extB l d2 (n + 2) 0 es && decide (n + 2 + es.length ≤ l.toArray.size) && Region.seqB .any l.toArray (l.toArray.size - (n + 2 + es.length)) (n + 2 + es.length) (doneB l.toArray.size (n + 2 + es.length))
theorem wp_region_mid {id : Nat} {Q : Exit → Act → World → Prop} {a0 : Act} {w : World} {l : List Oper} (n : Nat) (ds fr : List Tmp) (av : List (List Tmp)) (F : Tmp → Fct) (d1 d2 : Tmp) (es : List Tmp) {o1 : Oper} {f : FuncId} {xs : Array Operand} {ts : Array TypeId} (hm : P.follows .mixedOrders = true) (hB : midB l n ds d1 d2 es = true)
  (hsz : ds.all (fun d => decide (d < a0.tmps.size)) = true) (hsz2 : decide (d1 < a0.tmps.size) && decide (d2 < a0.tmps.size) = true) (hav : availB l.toArray (l.take n) av = true) (ho1 : l[n]? = some o1) (hd1 : o1.dst = some d1) (hg1 : o1.guard = none) (hop1 : o1.op = .call { callee := .value (.func f), args := xs, argTypes := ts }) (hf : hasBody P f = true)
  (hQ : ∀ c a w d v, Q (.panic c) (a.put (some d) v) w → Q (.panic c) a w)
  (hO : CalmL P F fr ds a0 w.drew (l.take n) av)
  (hE : ∀ V u, Below w.heap.size w.drew u → (∀ d, d ∈ ds → (F d).p (V d) u) → (∀ c d, c ∈ ds → d ∈ ds → c ∈ fr → d ∈ fr → c ≠ d → V c ≠ V d) →
   ∃ A R, xs.map (⟨fill V a0.tmps ds, a0.defers⟩ : Act).eval = A ∧ Calls P f A u R ∧ ∀ e u', R e u' → ∃ vs, e = .returned (.tuple vs) ∧ vs.size = es.length ∧
    wpList P l.toArray Q (l.drop (n + 2 + es.length)) (exts es 0 vs (((⟨fill V a0.tmps ds, a0.defers⟩ : Act).put (some d1) (.tuple vs)).put (some d2) (.tuple vs))) u') :
  (Code.region id l.toArray true).wp P Q a0 w := by
 simp only [midB, Bool.and_eq_true, decide_eq_true_eq] at hB
 obtain ⟨⟨⟨⟨⟨⟨⟨⟨⟨⟨⟨hn1, hs⟩, hc⟩, ho⟩, hh⟩, hns⟩, hr1⟩, hr2⟩, hmv⟩, hex⟩, hle⟩, hq⟩ := hB
 have hn : n < l.toArray.size := by omega
 simp only [Bool.and_eq_true, decide_eq_true_eq] at hsz2
 have hsz' : ∀ d, d ∈ ds → d < a0.tmps.size := fun d hd => by simpa using List.all_eq_true.1 hsz d hd
 refine wp_region_any hm ?_
 have inv0 : HeadInv .any l.toArray n (Array.replicate l.toArray.size false) :=
  ⟨by simp, fun j oj _ hl => (by rw [getD_replicate_false] at hl; cases hl), fun t _ ht => getD_in (by simpa using ht) (getD_replicate_false _ _)⟩
 have hC0 : Calm F fr ds a0 w.drew l.toArray n (Array.replicate l.toArray.size false) a0 w.drew :=
  ⟨Below.refl _ _, ⟨rfl, rfl, fun _ _ => rfl⟩, fun j d _ hl _ => (by rw [getD_replicate_false] at hl; cases hl), fun j d _ hl _ _ => (by rw [getD_replicate_false] at hl; cases hl), fun i j c d _ _ hl _ _ _ _ _ _ => (by rw [getD_replicate_false] at hl; cases hl)⟩
 have H := calm_any2 (Q := Q) (g := l.toArray.size - n) (F := F) (fr := fr) (i0 := l.toArray.size) (fun listed inv i hi h0 hun t ht => tail_waits2 hs hc hn inv _ i rfl hi h0 hun t ht) hn ho hh hsz' (CalmL.all hav hO) (fun _ _ _ _ _ h => absurd (Nat.lt_trans h hn) (Nat.lt_irrefl _)) (fun a u hC => ?_) n _ a0 w.drew (by simp at hn ⊢; omega) inv0 hC0
 ·rw [show n + (l.toArray.size - n) = l.toArray.size by omega] at H
  exact H
 have hat : ∀ d, d ∈ ds → ∃ j, j < n ∧ (doneB l.toArray.size n).getD j false = true ∧ (l.toArray[j]?).bind (·.dst) = some d := fun d hd => by
  obtain ⟨j, hj, rfl⟩ := List.mem_iff_getElem.1 hd
  have h1 := hh
  simp only [headB, Bool.and_eq_true, decide_eq_true_eq] at h1
  have h2 := h1.1.1
  have hln : ds.length = n := by have := congrArg List.length h2; simp at this hn; omega
  have hjn : j < n := by omega
  refine ⟨j, hjn, ?_, ?_⟩
  ·have : j < l.length := by simp at hn; omega
   show (Array.replicate n true ++ Array.replicate (l.toArray.size - n) false).getD j false = true
   rw [gDx, Array.getElem?_append_left (by simpa using hjn)]
   simp [hjn]
  ·have h3 : ((l.toArray.toList.take n).map (·.dst))[j]? = (ds.map some)[j]? := by rw [h2]
   rw [List.getElem?_map, List.getElem?_take_of_lt hjn, List.getElem?_map, Array.getElem?_toList, List.getElem?_eq_getElem hj] at h3
   cases hx : l.toArray[j]? with
   | none => rw [hx] at h3; cases h3
   | some o => rw [hx] at h3; simpa using h3
 obtain ⟨A, R, hA, hR, hE⟩ := hE (fun t => a.eval (.tmp t)) u hC.below (fun d hd => by
  obtain ⟨j, h1, h2, h3⟩ := hat d hd
  exact hC.facts j d h1 h2 h3) (fun c d hc hd hf1 hf2 hne => by
  obtain ⟨i, h1, h2, h3⟩ := hat c hc
  obtain ⟨j, h4, h5, h6⟩ := hat d hd
  exact hC.ne i j c d h1 h4 h2 h5 h3 h6 hf1 hf2 hne)
 rw [← hC.shape.act] at hA hE
 have hda : a.tmps.size = a0.tmps.size := hC.shape.size
 cases ho2 : l[n + 1]? with
 | none => rw [ho2] at hmv; simp at hmv
 | some o2 =>
  rw [ho2] at hmv
  simp only [Bool.and_eq_true, decide_eq_true_eq] at hmv
  obtain ⟨⟨hop2, hd2⟩, hg2⟩ := hmv
  have hg2 : o2.guard = none := by simpa using hg2
  have hop2 : o2.op = .move (.tmp d1) := by
   split at hop2
   ·rename_i x heq
    simp only [decide_eq_true_eq] at hop2
    subst hop2
    exact heq
   ·cases hop2
  rw [show l.toArray.size - n = (es.length + (l.toArray.size - (n + 2 + es.length))) + 1 + 1 by omega]
  refine wpAny_one hr1 (by simpa using ho1) hg1 (wp_callM d1 A hd1 hop1 hA hf hR fun e u' he => ?_)
  obtain ⟨vs, rfl, hvs, hK⟩ := hE e u' he
  refine ⟨.tuple vs, rfl, ?_⟩
  rw [doneB_set hn]
  refine wpAny_one hr2 (by simpa using ho2) hg2 ?_
  have h0 : (execOp (a.put (some d1) (.tuple vs)).eval o2).run P u' = .ok (.value (.tuple vs)) u' := by
   unfold execOp
   simp only [hop2, eval_put_same _ _ _ (by rw [hda]; exact hsz2.1 : d1 < a.tmps.size)]
   go_simp
  unfold Oper.wp
  rw [h0, doneB_set hn1]
  simp only [Oper.upon, hd2]
  refine wpAny_exts hns hQ es (n + 2) 0 _ _ u' hex (by rw [hvs]; omega) (eval_put_same _ _ _ (by simp [Act.put, hda, hsz2.2])) ?_
  have := wpAny_of_seq (P := P) (md := .any) (ops := l.toArray) (Q' := Q) (l.drop (n + 2 + es.length)) (n + 2 + es.length) (doneB l.toArray.size (n + 2 + es.length)) _ u' (fun j => by rw [List.getElem?_drop]; exact (List.getElem?_toArray ..).symm) (by rw [show (l.drop (n + 2 + es.length)).length = l.toArray.size - (n + 2 + es.length) by simp]; exact hq) hK
  rwa [show (l.drop (n + 2 + es.length)).length = l.toArray.size - (n + 2 + es.length) by simp] at this
end
end
end Go.Proofs.YtoplbfijodebmaaGreatDoor
