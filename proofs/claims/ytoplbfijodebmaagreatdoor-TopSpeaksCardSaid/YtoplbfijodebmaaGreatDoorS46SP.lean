/-
  The walk.
-/
import Derived.Test.YtoplbfijodebmaaGreatDoorS43UC
set_option linter.unusedVariables false
set_option linter.unusedSimpArgs false
set_option maxRecDepth 100000
set_option maxHeartbeats 40000000
namespace Go.Proofs.YtoplbfijodebmaaGreatDoor
section
open Go.RowKit T
theorem bl_sb (s : ByteArray) : strOfNums (bl s) = s := by
 apply ByteArray.ext
 apply Array.toList_inj.1
 rw [strOfNums_data]
 unfold bl
 rw [List.map_map]
 conv => rhs; rw [← List.map_id s.data.toList]
 apply List.map_congr_left
 intro x _
 simp
def sdE (K : ByteArray) (B i : Nat) (t : ByteArray) : List Value := [.int .u64 (i : Int), .string (sealS K (nonS i) .empty t), .string t, .int .i64 (if B.testBit i then 1 else 0)]
def sdC (K : ByteArray) (B : Nat) : Nat → List ByteArray → List Value
 | _, [] => []
 | i, t :: r => sdE K B i t ++ sdC K B (i + 1) r
theorem sdE_len (K : ByteArray) (B i : Nat) (t : ByteArray) : (sdE K B i t).length = 4 := rfl
theorem sdC_len (K : ByteArray) (B : Nat) : ∀ (i : Nat) (T : List ByteArray), (sdC K B i T).length = T.length * 4
 | _, [] => rfl
 | i, t :: r => by rw [sdC, List.length_append, sdC_len K B (i + 1) r, sdE_len, List.length_cons]; omega
theorem sdC_app (K : ByteArray) (B : Nat) (t : ByteArray) : ∀ (i : Nat) (T : List ByteArray), sdC K B i (T ++ [t]) = sdC K B i T ++ sdE K B (i + T.length) t
 | i, [] => by simp [sdC]
 | i, x :: r => by
  rw [List.cons_append, sdC, sdC_app K B t (i + 1) r, sdC, List.append_assoc, show i + 1 + r.length = i + (x :: r).length by simp only [List.length_cons]; omega]
theorem sdC_get (K : ByteArray) (B : Nat) (q : Nat) (hq : q < 4) : ∀ (i : Nat) (T : List ByteArray) (j : Nat) (h : j < T.length), (sdC K B i T)[4 * j + q]? = (sdE K B (i + j) T[j])[q]?
 | i, [], j, h => absurd h (Nat.not_lt_zero j)
 | i, x :: r, 0, h => by
  rw [sdC, List.getElem?_append_left (by rw [sdE_len]; omega)]
  simp
 | i, x :: r, j + 1, h => by
  have hl : (sdE K B i x).length = 4 := rfl
  rw [sdC, List.getElem?_append_right (by rw [hl]; omega), hl, show 4 * (j + 1) + q - 4 = 4 * j + q by omega, sdC_get K B q hq (i + 1) r j (by simpa using h)]
  simp only [List.getElem_cons_succ]
  rw [show i + 1 + j = i + (j + 1) by omega]
theorem sdC_part (K : ByteArray) (B : Nat) (T : List ByteArray) (j : Nat) (h : j < T.length) : ((sdC K B 0 T).drop (4 * j)).take 4 = sdE K B j T[j] := by
 apply List.ext_getElem?
 intro q
 by_cases hq : q < 4
 ·rw [List.getElem?_take_of_lt hq, List.getElem?_drop, sdC_get K B q hq 0 T j h, Nat.zero_add]
 rw [List.getElem?_eq_none (by rw [List.length_take]; omega), List.getElem?_eq_none (by rw [sdE_len]; omega)]
theorem bit_or (B j i : Nat) : (B ||| 2 ^ j).testBit i = (B.testBit i || decide (j = i)) := by rw [Nat.testBit_or, Nat.testBit_two_pow]
theorem sdE_or (K : ByteArray) (B j i : Nat) (t : ByteArray) (h : i ≠ j) : sdE K (B ||| 2 ^ j) i t = sdE K B i t := by
 unfold sdE
 rw [bit_or, decide_eq_false (fun e => h e.symm), Bool.or_false]
theorem sdC_mark (K : ByteArray) (B : Nat) (T : List ByteArray) (j : Nat) (h : j < T.length) : (sdC K B 0 T).set (4 * j + 3) (.int .i64 1) = sdC K (B ||| 2 ^ j) 0 T := by
 apply List.ext_getElem?
 intro p
 rw [List.getElem?_set]
 have hl := sdC_len K B 0 T
 by_cases hp : p < T.length * 4
 ·obtain ⟨a, q, rfl, hj, hq⟩ : ∃ a q, p = 4 * a + q ∧ a < T.length ∧ q < 4 := ⟨p / 4, p % 4, by omega, by omega, Nat.mod_lt _ (by decide)⟩
  rw [sdC_get K B _ hq 0 T _ hj, sdC_get K (B ||| 2 ^ j) _ hq 0 T _ hj, Nat.zero_add]
  by_cases h1 : a = j
  ·subst h1
   by_cases h2 : q = 3
   ·subst h2
    rw [if_pos rfl, if_pos (by rw [hl]; omega)]
    unfold sdE
    rw [bit_or, decide_eq_true rfl, Bool.or_true]
    rfl
   rw [if_neg (by omega)]
   have : q = 0 ∨ q = 1 ∨ q = 2 := by omega
   rcases this with rfl | rfl | rfl <;> rfl
  rw [if_neg (by omega), sdE_or K B j _ _ h1]
 rw [if_neg (by omega), List.getElem?_eq_none (by rw [hl]; omega), List.getElem?_eq_none (by rw [sdC_len]; omega)]
def RowOk (R : List (Nat × Obj)) (v : Value) (n : Nat) (xs : List Value) : Prop :=
 xs.length = n * 4 ∧ ((v = .slice none 0 0 ∧ n = 0 ∧ R = []) ∨ ∃ g cap cur, v = .slice (some ⟨g, 0, none⟩) n cap ∧ R = [(g, .cells cur 51)] ∧ n ≤ cap ∧ cap ≤ maxLen ∧ cur.size = cap * 4 ∧ cur.toList.take (n * 4) = xs)
theorem RowOk.nil : RowOk [] (.slice none 0 0) 0 [] := ⟨rfl, .inl ⟨rfl, rfl, rfl⟩⟩
theorem RowOk.shape {R : List (Nat × Obj)} {v : Value} {n : Nat} {xs : List Value} (h : RowOk R v (n + 1) xs) : ∃ g cap, v = .slice (some ⟨g, 0, none⟩) (n + 1) cap := by
 rcases h.2 with ⟨_, h2, _⟩ | ⟨g, cap, _, h1, _⟩
 ·cases h2
 exact ⟨g, cap, h1⟩
theorem RowOk.own {R : List (Nat × Obj)} {v : Value} {n : Nat} {xs : List Value} {u : World} (h : RowOk R v n xs) (hk : ∀ x ∈ R, u.heap[x.1]? = some x.2) : u.ownsRow 0 51 4 v n xs := by
 refine ⟨h.1, ?_⟩
 rcases h.2 with ⟨h1, h2, _⟩ | ⟨g, cap, cur, h1, h2, h3⟩
 ·exact .inl ⟨h1, h2⟩
 exact .inr ⟨g, cap, cur, h1, Nat.zero_le _, hk (g, .cells cur 51) (by rw [h2]; simp), h3⟩
theorem inf51 : ∃ i, Tryz.prog.info? 51 = some i ∧ i.zero = some (.agg #[.int .u64 0, .string .empty, .string .empty, .int .i64 0]) ∧ i.size = 4 ∧ i.bytes = 48 :=
 info_parts (by kernel_rfl)
theorem run_app_sd {w : World} {v : Value} {n : Nat} {xs : List Value} (ty : TypeId) (hown : w.ownsRow 0 51 4 v n xs) (ad : Addr) (c : Nat) (news : List Value) (hl : news.length = 4) (hnews : ∀ j u, news[j]? = some u → w.cell? (ad.add j) = some u) (h1 : ∀ u ∈ news, u.oneCell' = true) (hb : n ≤ 1000) :
  ∃ v' w', (Builtin.append_ #[48, 48] ty #[v, .slice (some ad) 1 c]).run Tryz.prog w = .ok v' w' ∧ w'.ownsRow 0 51 4 v' (n + 1) (xs ++ news) ∧ w.grownBy w' v.ownBlock ∧
   (∀ g, v'.ownBlock = some g → v.ownBlock = some g ∨ w.heap.size ≤ g) := by
 obtain ⟨i, hi, hz, hsize, hby⟩ := inf51
 have hl' : news.length = 1 * 4 := by omega
 obtain ⟨v', w', hr, h4, h2, h3⟩ := run_append_own (P := Tryz.prog) (w := w) 0 48 ty 51 i (.agg #[.int .u64 0, .string .empty, .string .empty, .int .i64 0]) 4 48 (by kernel_rfl) hi hz hsize hby rfl (by decide) v n xs hown ad 1 c news hl' hnews h1 (by unfold maxLen; omega) (by omega) (Nat.zero_le _)
 refine ⟨v', w', hr, h4, h2, fun g hg => ?_⟩
 rcases hown.2 with ⟨rfl, rfl⟩ | ⟨g0, cap, cur, rfl, _, hh, hn, _, hcs, _⟩
 ·have hx : xs = [] := List.eq_nil_of_length_eq_zero (by simpa using hown.1)
  subst hx
  obtain ⟨v2, w2, hr2, k1, _, _⟩ := run_append_own (P := Tryz.prog) (w := w) w.heap.size 48 ty 51 i (.agg #[.int .u64 0, .string .empty, .string .empty, .int .i64 0]) 4 48 (by kernel_rfl) hi hz hsize hby rfl (by decide) (.slice none 0 0) 0 [] (World.ownsRow_nil _ _ _ _) ad 1 c news hl' hnews h1 (by unfold maxLen; omega) (by omega) (Nat.le_refl _)
  have e := hr.symm.trans hr2
  simp only [Result.ok.injEq] at e
  obtain ⟨rfl, rfl⟩ := e
  exact Or.inr (k1.lt g hg).1
 by_cases hroom : n + 1 ≤ cap
 ·have hr2 := run_append_room (P := Tryz.prog) w 48 ty 51 i (by kernel_rfl) hi g0 n cap cur hh ad 1 c news (by rw [hsize]; exact hl') hnews h1 hroom (by rw [hsize]; omega)
  have e := hr.symm.trans hr2
  simp only [Result.ok.injEq] at e
  rw [e.1] at hg
  exact Or.inl hg
 have hr2 := run_append_grow (P := Tryz.prog) w 48 ty 51 i (.agg #[.int .u64 0, .string .empty, .string .empty, .int .i64 0]) (by kernel_rfl) hi hz ⟨g0, 0, none⟩ n cap xs (by rw [hsize]; exact hown.1) (hown.cells (g := g0) rfl) ad 1 c news (by rw [hsize]; exact hl') hnews (by omega) (by omega) (by rw [hby]; exact growslice_fits (by omega) (by omega))
 have e := hr.symm.trans hr2
 simp only [Result.ok.injEq] at e
 rw [e.1] at hg
 simp only [Value.ownBlock, Option.some.injEq] at hg
 exact Or.inr (by omega)
theorem KS.app {L R : List (Nat × Obj)} {w u u' : World} {v v' : Value} {n : Nat} {xs xs' : List Value} (h : KS (L ++ R) [] w u) (hR : RowOk R v n xs) (hg : u.grownBy u' v.ownBlock) (ho : u'.ownsRow 0 51 4 v' (n + 1) xs') (ht : ∀ g, v'.ownBlock = some g → v.ownBlock = some g ∨ u.heap.size ≤ g) :
  ∃ R', RowOk R' v' (n + 1) xs' ∧ KS (L ++ R') [] w u' := by
 have hp := List.pairwise_append.1 h.ne
 have hold : ∀ g, v.ownBlock = some g → ∃ o, (g, o) ∈ R := by
  intro g e
  rcases hR.2 with ⟨h1, _, _⟩ | ⟨g0, cap, cur, h1, h2, _⟩
  ·rw [h1] at e; cases e
  ·rw [h1] at e
   simp only [Value.ownBlock, Option.some.injEq] at e
   exact ⟨_, by rw [h2, e]; exact List.mem_singleton.2 rfl⟩
 have hL : ∀ x ∈ L, u'.heap[x.1]? = some x.2 := fun x hx => by
  have hx' := h.all x (List.mem_append.2 (Or.inl hx))
  rw [hg.block x.1 (lt_heap hx') (fun e => ?_)]
  ·exact hx'
  ·obtain ⟨o, ho'⟩ := hold x.1 e.symm
   exact hp.2.2 x hx _ ho' rfl
 rcases ho.2 with ⟨_, hn⟩ | ⟨g, cap, cur, hv, _, hh, hn, hm, hs, htk⟩
 ·omega
 have hgv : v'.ownBlock = some g := by rw [hv]; rfl
 have hge : w.heap.size ≤ g ∧ ∀ x ∈ L, x.1 ≠ g := by
  rcases ht g hgv with e | e
  ·obtain ⟨o, ho'⟩ := hold g e
   refine ⟨(h.ge _ (List.mem_append.2 (Or.inr ho'))).resolve_left (by simp), fun x hx => hp.2.2 x hx _ ho'⟩
  ·exact ⟨Nat.le_trans h.size e, fun x hx he => by have := lt_heap (h.all x (List.mem_append.2 (Or.inl hx))); omega⟩
 refine ⟨[(g, .cells cur 51)], ⟨ho.1, .inr ⟨g, cap, cur, hv, rfl, hn, hm, hs, htk⟩⟩, ?_, ?_, ?_, hg.os.trans h.os, hg.tape.trans h.tape, hg.output.trans h.output, Nat.le_trans h.size hg.size, fun j hj hX => ?_⟩
 ·intro x hx
  rcases List.mem_append.1 hx with hx | hx
  ·exact hL x hx
  obtain rfl := List.mem_singleton.1 hx
  exact hh
 ·refine List.pairwise_append.2 ⟨hp.1, List.pairwise_singleton _ _, fun x hx y hy => ?_⟩
  obtain rfl := List.mem_singleton.1 hy
  exact hge.2 x hx
 ·intro x hx
  rcases List.mem_append.1 hx with hx | hx
  ·exact h.ge x (List.mem_append.2 (Or.inl hx))
  obtain rfl := List.mem_singleton.1 hx
  exact Or.inr hge.1
 rw [hg.block j (Nat.lt_of_lt_of_le hj h.size) (fun e => ?_)]
 ·exact h.old j hj hX
 obtain ⟨o, ho'⟩ := hold j e.symm
 have := (h.ge _ (List.mem_append.2 (Or.inr ho'))).resolve_left (by simp)
 simp only [] at this
 omega
theorem KS.perm {L L' : List (Nat × Obj)} {X : List Nat} {w u : World} (h : KS L X w u) (hp : L.Perm L') : KS L' X w u :=
 ⟨fun x hx => h.all x (hp.mem_iff.2 hx), (hp.pairwise_iff (fun hxy => hxy.symm)).1 h.ne, fun x hx => h.ge x (hp.mem_iff.2 hx), h.os, h.tape, h.output, h.size, h.old⟩
structure Sd where
 t : Nat
 w : Nat
 b : Nat
 n : Nat
 fst : Bool
 sur : Bool
 any : Bool
 T : List ByteArray
 B : Nat
 H : Nat
 v : Value
 R : List (Nat × Obj)
def Sd.L (s : Sd) (K K' : ByteArray) : List (Nat × Obj) := [(s.t, tunO s.w s.n K K' s.fst s.sur s.T.length), (s.w, winO s.b s.H s.any), (s.b, bitO s.B), (s.n, nowO)]
structure SdOk (s o : Sd) (K : ByteArray) (i : Nat) : Prop where
 win : WinOk s.B s.H s.any
 row : RowOk s.R s.v s.T.length (sdC K o.B 0 s.T)
 txt : ∀ t ∈ s.T, t.size ≤ 4096
 len : s.T.length ≤ i
 new : ∀ j, s.T.length ≤ j → o.B.testBit j = false
 sure : s.fst = true → s.sur = true
def two (k : Nat) (a b : Value) : Array Value := if k = 0 then #[a, b] else #[b, a]
def stL (k : Nat) (m o : Sd) (K K' : ByteArray) (t2 s2 xb : Nat) (X : Obj) : List (Nat × Obj) :=
 m.L K K' ++ (o.L K' K ++ ([(t2, .cells (two k (.pointer (some ⟨m.t, 0, none⟩)) (.pointer (some ⟨o.t, 0, none⟩))) 47), (s2, .cells (two k m.v o.v) 49), (xb, X)] ++ (o.R ++ m.R)))
theorem stL_swap (k k' : Nat) (hk : k = 0 ∧ k' = 1 ∨ k = 1 ∧ k' = 0) (m o : Sd) (K K' : ByteArray) (t2 s2 xb : Nat) (X : Obj) : (stL k m o K K' t2 s2 xb X).Perm (stL k' o m K' K t2 s2 xb X) := by
 have e1 : two k (.pointer (some ⟨m.t, 0, none⟩)) (.pointer (some ⟨o.t, 0, none⟩)) = two k' (.pointer (some ⟨o.t, 0, none⟩)) (.pointer (some ⟨m.t, 0, none⟩)) := by
  rcases hk with ⟨rfl, rfl⟩ | ⟨rfl, rfl⟩ <;> rfl
 have e2 : two k m.v o.v = two k' o.v m.v := by
  rcases hk with ⟨rfl, rfl⟩ | ⟨rfl, rfl⟩ <;> rfl
 unfold stL
 rw [e1, e2]
 refine (List.perm_append_comm_assoc _ _ _).trans (List.Perm.append_left _ (List.Perm.append_left _ (List.Perm.append_left _ List.perm_append_comm)))
end
section
open Go.RowKit T
structure Sy where
 by' : Bool
 come : Bool
 text : ByteArray
 which : Nat
 at' : Nat
 turn : Nat
def Sy.Ok (s : Sy) : Prop := s.which < 256 ∧ s.at' < 65536 ∧ s.turn < 256
def SaidAt (w : World) (ao : Option Addr) (l : List Sy) : Prop :=
 ∀ k (h : k < l.length), ∃ b off, ao = some ⟨b, off, none⟩ ∧ b < w.heap.size ∧ w.cell? ⟨b, off + k * 6, none⟩ = some (.bool l[k].by') ∧ w.cell? ⟨b, off + k * 6 + 1, none⟩ = some (.bool l[k].come) ∧ w.cell? ⟨b, off + k * 6 + 2, none⟩ = some (.string l[k].text) ∧
  w.cell? ⟨b, off + k * 6 + 3, none⟩ = some (.int .u8 l[k].which) ∧ w.cell? ⟨b, off + k * 6 + 4, none⟩ = some (.int .u16 l[k].at') ∧ w.cell? ⟨b, off + k * 6 + 5, none⟩ = some (.int .u8 l[k].turn) ∧ l[k].Ok
theorem rem_j (t : TypeId) (m d q : Nat) (hd : 0 < d) (hq : m % d = q) (hb : q < 1000000) : binOp .rem t (.int .i64 (m : Int)) (.int .i64 (d : Int)) = pure (.int .i64 (q : Int)) := by
 have a2 : wrap64 (q : Int) = q := by unfold wrap64; omega
 have a1 : IntKind.i64.wrap (q : Int) = q := IntWalk.i64_in _ (by omega)
 have e : (m : Int).tmod (d : Int) = q := by rw [Int.tmod_eq_emod_of_nonneg (by omega), ← hq]; rfl
 have e2 : ¬ ((d : Int) = 0) := by omega
 simp [go_sem, e, a1, a2]
 omega
theorem run_bn {P : Program} {o : Oper} {a : Act} {w : World} {b : BinOp} {t t2 : TypeId} {x y : Operand} {k : IntKind} {X : Int} {Y v : Value} (hv : binOp b t (.int k X) Y = pure v) (ho : o.op = .binOp b t x y t2) (hx : a.eval x = .int k X) (hy : a.eval y = Y) : (execOp a.eval o).run P w = .ok (.value v) w := by
 unfold execOp
 simp only [ho, hx, hy, eqGuard_at_int, hv]
 rfl
def turnS (c : ByteArray) (p x : Nat) : ByteArray := strOfNums ((bl c).set p ((bt c p ^^^ x : Nat) : Int))
theorem turnS_size (c : ByteArray) (p x : Nat) : (turnS c p x).size = c.size := by rw [turnS, sb_size, List.length_set, bl_len]
theorem turnS_zero (c : ByteArray) (p : Nat) (h : p < c.size) : turnS c p 0 = c := by
 have e : (bl c).set p ((bt c p : Nat) : Int) = bl c := by
  apply List.ext_getElem?
  intro i
  rw [List.getElem?_set]
  by_cases hi : p = i
  ·subst hi
   have hl : p < (bl c).length := by rw [bl_len]; exact h
   have h1 := bl_at c p
   unfold ia at h1
   rw [List.getD_eq_getElem?_getD, List.getElem?_eq_getElem hl] at h1
   rw [if_pos rfl, if_pos hl, List.getElem?_eq_getElem hl]
   exact congrArg some h1.symm
  ·rw [if_neg hi]
 rw [turnS, Nat.xor_zero, e, bl_sb]
theorem wl_app_sd {w : World} {ops : Array Oper} {rest : List Oper} {o : Oper} {a : Act} {Q : Exit → Act → World → Prop} (hgd : o.guard = none) (sl x : Operand)
  (ho : o.op = .call { callee := .builtin .append, args := #[sl, x], argTypes := #[48, 48] })
  {v : Value} {n : Nat} {xs : List Value} (hs : a.eval sl = v) (hown : w.ownsRow 0 51 4 v n xs) (g : Nat) (c : Nat) (news : List Value) (hx : a.eval x = .slice (some ⟨g, 0, none⟩) 1 c) (hb : w.heap[g]? = some (.cells news.toArray 51)) (hl : news.length = 4) (h1 : ∀ u ∈ news, u.oneCell' = true) (hn : n ≤ 1000)
  (h : ∀ v' w', w'.ownsRow 0 51 4 v' (n + 1) (xs ++ news) → w.grownBy w' v.ownBlock → (∀ g, v'.ownBlock = some g → v.ownBlock = some g ∨ w.heap.size ≤ g) → wpList Tryz.prog ops Q rest (a.put o.dst v') w') : wpList Tryz.prog ops Q (o :: rest) a w := by
 refine wpList_plain hgd fun K hK => ?_
 obtain ⟨v', w', hr, h2, h3, h4⟩ := run_app_sd o.type hown ⟨g, 0, none⟩ c news hl (fun j u hu => by rw [Addr.add_lit, Nat.zero_add, World.cell?]; simp [hb, hu]) h1 hn
 unfold Oper.wp execOp
 simp only [ho, resolve, invoke, builtin, Sem.run_bind, Sem.run_pure, Result.andThen_ok, mTx, mCx, mNx, hs, hx, hr]
 exact hK _ _ (h v' w' h2 h3 h4)
theorem two_at (k : Nat) (hk : k ≤ 1) (a b : Value) : (two k a b)[k]? = some a := by
 obtain rfl | rfl : k = 0 ∨ k = 1 := by omega
 ·rfl
 rfl
theorem two_far (k j : Nat) (hk : k ≤ 1) (hj : j = 1 - k) (a b : Value) : (two k a b)[j]? = some b := by
 obtain rfl | rfl : k = 0 ∨ k = 1 := by omega
 ·subst hj; rfl
 subst hj; rfl
theorem two_set (k : Nat) (hk : k ≤ 1) (a b c : Value) : (two k a b).setIfInBounds k c = two k c b := by
 obtain rfl | rfl : k = 0 ∨ k = 1 := by omega
 ·rfl
 rfl
theorem k_i {k : Nat} (h : k ≤ 1) : ∃ j : Nat, j = 1 - k ∧ IntKind.i64.wrap (1 - (k : Int)) = (j : Int) ∧ wrap64 (1 - (k : Int)) = (j : Int) ∧ (0 : Int) ≤ k ∧ (k : Int) < 2 ∧ (0 : Int) ≤ j ∧ (j : Int) < 2 ∧ j < 2 ∧ k < 2 := by
 obtain rfl | rfl : k = 0 ∨ k = 1 := by omega
 ·exact ⟨1, rfl, by decide, by unfold wrap64; decide, by decide, by decide, by decide, by decide, by decide, by decide⟩
 exact ⟨0, rfl, by decide, by unfold wrap64; decide, by decide, by decide, by decide, by decide, by decide, by decide⟩
theorem SdOk.up {s o : Sd} {K : ByteArray} {i : Nat} (h : SdOk s o K i) : SdOk s o K (i + 1) := ⟨h.win, h.row, h.txt, Nat.le_succ_of_le h.len, h.new, h.sure⟩
def Who (k : Nat) (m o : Sd) (K K' K1 K2 : ByteArray) : Prop := (k = 0 ∧ K = K1 ∧ K' = K2 ∧ m.fst = true) ∨ (k = 1 ∧ K = K2 ∧ K' = K1 ∧ o.fst = true)
theorem back {k i : Nat} {m o : Sd} {K K' K1 K2 : ByteArray} {t2 s2 xb : Nat} {X : Obj} {w u : World} (who : Who k m o K K' K1 K2) (h : KS (stL k m o K K' t2 s2 xb X) [] w u) (hm : SdOk m o K i) (ho : SdOk o m K' i) :
  ∃ m0 o0, KS (stL 0 m0 o0 K1 K2 t2 s2 xb X) [] w u ∧ SdOk m0 o0 K1 i ∧ SdOk o0 m0 K2 i ∧ m0.fst = true := by
 rcases who with ⟨rfl, rfl, rfl, hf⟩ | ⟨rfl, rfl, rfl, hf⟩
 ·exact ⟨m, o, h, hm, ho, hf⟩
 exact ⟨o, m, h.perm (stL_swap 1 0 (.inr ⟨rfl, rfl⟩) _ _ _ _ _ _ _ _), ho, hm, hf⟩
theorem SdOk.said {m o : Sd} {K x : ByteArray} {i : Nat} {v' : Value} {R' : List (Nat × Obj)} (h : SdOk m o K i) (hx : x.size ≤ 4096) (hr : RowOk R' v' (m.T.length + 1) (sdC K o.B 0 m.T ++ [.int .u64 (m.T.length : Int), .string (sealS K (nonS m.T.length) .empty x), .string x, .int .i64 0])) :
  SdOk { m with sur := true, T := m.T ++ [x], v := v', R := R' } o K (i + 1) := by
 have hl : (m.T ++ [x]).length = m.T.length + 1 := by simp
 refine ⟨h.win, ?_, fun t ht => ?_, ?_, fun j hj => ?_, fun _ => rfl⟩
 ·show RowOk R' v' (m.T ++ [x]).length (sdC K o.B 0 (m.T ++ [x]))
  rw [hl, sdC_app, Nat.zero_add]
  unfold sdE
  rw [h.new _ (Nat.le_refl _)]
  exact hr
 ·rcases List.mem_append.1 ht with ht | ht
  ·exact h.txt t ht
  rw [List.mem_singleton.1 ht]; exact hx
 ·show (m.T ++ [x]).length ≤ i + 1
  rw [hl]; exact Nat.succ_le_succ h.len
 have hj : (m.T ++ [x]).length ≤ j := hj
 exact h.new j (by omega)
theorem SdOk.heard {m o : Sd} {K : ByteArray} {i q : Nat} (h : SdOk m o K i) (hq : q < 64) : SdOk { m with sur := true, any := true, B := m.B ||| 2 ^ q, H := mkH m.any m.H q } o K (i + 1) :=
 ⟨h.win.mark hq, h.row, h.txt, Nat.le_succ_of_le h.len, h.new, fun _ => rfl⟩
theorem take_set_cells {cur : Array Value} {n p : Nat} {v : Value} {xs : List Value} (h : cur.toList.take n = xs) : (cur.setIfInBounds p v).toList.take n = xs.set p v := by
 rw [Array.toList_setIfInBounds, List.take_set, h]
theorem SdOk.mark {m m' o : Sd} {K : ByteArray} {i q g cap : Nat} {cur : Array Value} (h : SdOk o m K i) (hB : m'.B = m.B ||| 2 ^ q) (hq : q < o.T.length) (hv : o.v = .slice (some ⟨g, 0, none⟩) o.T.length cap) (h1 : o.T.length ≤ cap) (h2 : cap ≤ maxLen) (h3 : cur.size = cap * 4) (h4 : cur.toList.take (o.T.length * 4) = sdC K m.B 0 o.T) :
  SdOk { o with R := [(g, .cells (cur.setIfInBounds (q * 4 + 3) (.int .i64 1)) 51)] } m' K (i + 1) := by
 refine ⟨h.win, ⟨sdC_len _ _ _ _, .inr ⟨g, cap, _, hv, rfl, h1, h2, by rw [Array.size_setIfInBounds]; exact h3, ?_⟩⟩, h.txt, Nat.le_succ_of_le h.len, fun j hj => ?_, h.sure⟩
 ·show (cur.setIfInBounds (q * 4 + 3) (.int .i64 1)).toList.take (o.T.length * 4) = sdC K m'.B 0 o.T
  rw [take_set_cells h4, hB, Nat.mul_comm q 4]
  exact sdC_mark K m.B o.T q hq
 show m'.B.testBit j = false
 have hj : o.T.length ≤ j := hj
 rw [hB, bit_or, h.new j hj, decide_eq_false (by omega)]
 rfl
theorem SdOk.same {m m' o : Sd} {K : ByteArray} {i : Nat} (h : SdOk o m K i) (hB : m'.B = m.B) : SdOk o m' K (i + 1) := by
 refine ⟨h.win, ?_, h.txt, Nat.le_succ_of_le h.len, fun j hj => ?_, h.sure⟩
 ·rw [hB]; exact h.row
 rw [hB]; exact h.new j hj
theorem ag51 : AgTy 51 4 := agTy (by kernel_rfl)
theorem cur_ext {cur : Array Value} {n q : Nat} {K : ByteArray} {B : Nat} {T : List ByteArray} (hn : n = T.length) (h : cur.toList.take (n * 4) = sdC K B 0 T) (hq : q < T.length) : cur.extract (q * 4) (q * 4 + 4) = (sdE K B q T[q]).toArray := by
 apply Array.ext'
 rw [Array.toList_extract, List.extract_eq_take_drop, ← sdC_part K B T q hq, ← h, hn]
 rw [List.drop_take, List.take_take, Nat.mul_comm q 4]
 congr 1
 omega
theorem cur_at {cur : Array Value} {n q : Nat} {K : ByteArray} {B : Nat} {T : List ByteArray} (hn : n = T.length) (h : cur.toList.take (n * 4) = sdC K B 0 T) (hq : q < T.length) : cur[q * 4 + 3]? = some (.int .i64 (if B.testBit q then 1 else 0)) := by
 have h1 := sdC_get K B 3 (by decide) 0 T q hq
 rw [← h, hn, List.getElem?_take_of_lt (by omega), Nat.zero_add, Array.getElem?_toList, Nat.mul_comm 4 q] at h1
 exact h1
end
end Go.Proofs.YtoplbfijodebmaaGreatDoor
