/-
  The walk.
-/
import Derived.Test.YtoplbfijodebmaaGreatDoorM14Take
import Derived.Laws.AppendOwn
import Derived.Deep.RegionLaw
import Derived.Lib.AppendStr
import Derived.Laws.IdiomStrings
set_option linter.unusedVariables false
set_option linter.unusedSimpArgs false
set_option maxRecDepth 100000
set_option maxHeartbeats 40000000
namespace Go.Proofs.YtoplbfijodebmaaGreatDoor
open Go.RowKit
open Go.Lib (strCells)
theorem Tryz.info5 : (Tryz.prog.info? 5).map (fun i => (i.zero, i.size, i.bytes)) = some (some (.int .u8 0), 1, 1) := by kernel_rfl
theorem info5_parts : ∃ i, Tryz.prog.info? 5 = some i ∧ i.zero = some (.int .u8 0) ∧ i.size = 1 ∧ i.bytes = 1 := by
 have h := Tryz.info5
 cases hq : Tryz.prog.info? 5 with
 | none => simp [hq] at h
 | some i => simp [hq] at h; exact ⟨i, rfl, h.1, h.2.1, h.2.2⟩
structure HSt where
 h : List Nat
 r : ByteArray
 n : Nat
def w64 (n : Nat) : Nat := n % 18446744073709551616
def HSt.add1 (x : HSt) (c : UInt8) : HSt :=
 if x.r.size = 64 then { h := compress x.h x.r (w64 (x.n + 64)) false, r := ⟨#[c]⟩, n := w64 (x.n + 64) } else { x with r := x.r.push c }
def HSt.addN (x : HSt) (s : ByteArray) : Nat → HSt
 | 0 => x
 | k + 1 => (x.addN s k).add1 (s.data.getD k 0)
def HSt.add (x : HSt) (s : ByteArray) : HSt := x.addN s s.size
structure HV (B : Nat) (w : World) (b : Nat) (size : Int) (v : Value) (x : HSt) : Prop where
 hs : Hs w b x.h size v x.n
 own : w.ownsRow B 5 1 v x.r.size (strCells x.r)
 ne : v.ownBlock ≠ some b
 n : x.n < 18446744073709551616
 r : x.r.size ≤ 64
theorem ownsB_of_block {B : Nat} {w w' : World} {v : Value} {n : Nat} {xs : List Value} (h : w.ownsRow B 5 1 v n xs) (hb : ∀ g, v.ownBlock = some g → w'.heap[g]? = w.heap[g]?) : w'.ownsRow B 5 1 v n xs := by
 refine ⟨h.1, ?_⟩
 rcases h.2 with h2 | ⟨g, cap, cur, hv, h1, h2, r⟩
 ·exact Or.inl h2
 exact Or.inr ⟨g, cap, cur, hv, h1, by rw [hb g (by rw [hv]; rfl)]; exact h2, r⟩
namespace HV
variable {B : Nat} {w : World} {b : Nat} {size : Int} {v : Value} {x : HSt}
theorem keep (h : HV B w b size v x) {w' : World} (h1 : w'.heap[b]? = w.heap[b]?) (h2 : ∀ g, v.ownBlock = some g → w'.heap[g]? = w.heap[g]?) : HV B w' b size v x :=
 ⟨h.hs.keep h1, ownsB_of_block h.own h2, h.ne, h.n, h.r⟩
theorem row_lt (h : HV B w b size v x) {g : Nat} (hg : v.ownBlock = some g) : g < w.heap.size := (h.own.lt g hg).2
theorem drew (h : HV B w b size v x) : HV B w.drew b size v x := h.keep rfl (fun _ _ => rfl)
theorem alloc (h : HV B w b size v x) (o : Obj) : HV B (w.alloc o) b size v x :=
 h.keep (Below.heap_alloc _ _ _ h.hs.size_lt) (fun g hg => Below.heap_alloc _ _ _ (h.row_lt hg))
theorem more (h : HV B w b size v x) {w' : World} (hb : Below w.heap.size w w') : HV B w' b size v x :=
 h.keep (hb.block b h.hs.size_lt) (fun g hg => hb.block g (h.row_lt hg))
theorem shape (h : HV B w b size v x) : ∃ ao cap, v = .slice ao x.r.size cap ∧ (ao = none → x.r.size = 0 ∧ cap = 0) ∧ (∀ a, ao = some a → ∃ g, a = ⟨g, 0, none⟩) := by
 rcases h.own.2 with ⟨hv, hn⟩ | ⟨g, cap, cur, hv, _, _, hn, _⟩
 ·exact ⟨none, 0, by rw [hv, hn], fun _ => ⟨hn, rfl⟩, (fun a ha => by cases ha)⟩
 exact ⟨_, cap, hv, (fun e => by cases e), (fun a ha => ⟨g, by cases ha; rfl⟩)⟩
theorem whole (h : HV B w b size v x) (h64 : x.r.size = 64) : ∃ g cap, v = .slice (some ⟨g, 0, none⟩) 64 cap ∧ B ≤ g ∧ g ≠ b ∧ (∀ i, i < 64 → w.cell? ⟨g, i, none⟩ = some (.int .u8 (bt x.r i))) ∧ w.ownsRow B 5 1 (.slice (some ⟨g, 0, none⟩) 0 cap) 0 [] := by
 rcases h.own.2 with ⟨hv, hn⟩ | ⟨g, cap, cur, hv, hB, hh, hn, hc, hcs, htake⟩
 ·omega
 refine ⟨g, cap, by rw [hv, h64], hB, fun e => h.ne (by rw [hv, ← e]; rfl), fun i hi => ?_, ⟨rfl, Or.inr ⟨g, cap, cur, rfl, hB, hh, Nat.zero_le _, hc, hcs, by simp⟩⟩⟩
 have hl : i < (strCells x.r).length := by simp [strCells]; have : x.r.data.size = 64 := h64; omega
 have := h.own.cells (g := g) (by rw [hv]; rfl) i _ (List.getElem?_eq_getElem hl)
 rw [Addr.add_mid, Nat.zero_add] at this
 rw [this]
 simp only [strCells, List.getElem_map]
 have hd : i < x.r.data.size := by have : x.r.data.size = 64 := h64; omega
 simp [bt]
 rw [Array.getElem?_eq_getElem hd]
 rfl
end HV
theorem strCells_push (r : ByteArray) (c : UInt8) : strCells (r.push c) = strCells r ++ [.int .u8 (c.toNat : Int)] := by
 simp [strCells, ByteArray.push]
theorem step_append_one {ops : Array Oper} {o : Oper} {a : Act} {w : World} {K : Act → World → Prop} {Q : Exit → Act → World → Prop} {E : Prop} {B g c : Nat} {v : Value} {n : Nat} {xs : List Value} {u : Value}
  (hg : o.guard = none) (s x : Operand) (hop : o.op = Op.call { callee := Callee.builtin Builtin.append, args := #[s, x], argTypes := #[52, 52] })
  (hs : a.eval s = v) (hx : a.eval x = .slice (some ⟨g, 0, none⟩) 1 c) (hown : w.ownsRow B 5 1 v n xs) (hu : w.cell? ⟨g, 0, none⟩ = some u) (h1 : u.oneCell' = true) (hb : n ≤ 64) (hB : B ≤ w.heap.size)
  (hK : ∀ v' w', w'.ownsRow B 5 1 v' (n + 1) (xs ++ [u]) → w.grownBy w' v.ownBlock → K (a.put o.dst v') w') :
  if Region.wanted o (yielded ops a.tmps) = true then Oper.wp Tryz.prog o a w K Q else E := by
 have hw : Region.wanted o (yielded ops a.tmps) = true := by simp [Region.wanted, hg]
 rw [if_pos hw]
 obtain ⟨i, hi, hz, hsize, hby⟩ := info5_parts
 obtain ⟨v', w', hr, h2, h3, _⟩ := run_append_own (P := Tryz.prog) (w := w) B 52 o.type 5 i (.int .u8 0) 1 1 Tryz.underlying52 hi hz hsize hby rfl (by decide) v n xs hown ⟨g, 0, none⟩ 1 c [u] rfl (fun j v hv => by
  have hj : j = 0 := by
   have := (List.getElem?_eq_some_iff.1 hv).1
   simp at this
   exact this
  subst hj
  rw [Addr.add_mid]
  simp at hv
  rw [← hv]
  exact hu) (by intro y hy; simp at hy; rw [hy]; exact h1) (by unfold maxLen; omega) (by omega) hB
 unfold Oper.wp execOp
 simp only [hop, resolve, invoke, builtin, Sem.run_bind, Sem.run_pure, Result.andThen_ok, mTx, mCx, mNx, hs, hx, hr]
 exact hK v' w' h2 h3
theorem Tab.below {w w' : World} {B : Nat} (h : Tab w) (hb : Below B w w') (h0 : 0 < B) : Tab w' := ⟨fun j v hv => (hb.cell h0).trans (h.cells j v hv)⟩
theorem addN_succ (x : HSt) (s : ByteArray) (k : Nat) (hk : k < s.size) : x.addN s (k + 1) = (x.addN s k).add1 (s[k]'hk) := by
 show (x.addN s k).add1 (s.data.getD k 0) = _
 have hd : k < s.data.size := hk
 rw [gDx, Array.getElem?_eq_getElem hd]
 rfl
theorem rngS {k n : Nat} (h : k < n) : (0 : Int) ≤ k ∧ (k : Int) < n := by omega
theorem HV.push {B : Nat} {w w' : World} {b : Nat} {size : Int} {v v' : Value} {x : HSt} (h : HV B w b size v x) (hB : B ≤ w.heap.size) (c : UInt8) (h64 : x.r.size ≠ 64)
  (hs : Hs w' b x.h size v' x.n) (own : w'.ownsRow B 5 1 v' (x.r.size + 1) (strCells x.r ++ [.int .u8 (c.toNat : Int)])) (ne : v'.ownBlock ≠ some b) : HV B w' b size v' (x.add1 c) := by
 have e : x.add1 c = { x with r := x.r.push c } := by unfold HSt.add1; rw [if_neg h64]
 have hz : (x.r.push c).size = x.r.size + 1 := Array.size_push c
 rw [e]
 refine ⟨hs, ?_, ne, h.n, by have := h.r; show (x.r.push c).size ≤ 64; omega⟩
 show w'.ownsRow B 5 1 v' (x.r.push c).size (strCells (x.r.push c))
 rw [hz, strCells_push]
 exact own
theorem HV.fresh1 {B : Nat} {w' : World} {b : Nat} {size : Int} {v' : Value} {x : HSt} (c : UInt8) (h64 : x.r.size = 64)
  (hs : Hs w' b (compress x.h x.r (w64 (x.n + 64)) false) size v' (w64 (x.n + 64))) (own : w'.ownsRow B 5 1 v' (0 + 1) ([] ++ [.int .u8 (c.toNat : Int)])) (ne : v'.ownBlock ≠ some b) : HV B w' b size v' (x.add1 c) := by
 have e : x.add1 c = { h := compress x.h x.r (w64 (x.n + 64)) false, r := ⟨#[c]⟩, n := w64 (x.n + 64) } := by unfold HSt.add1; rw [if_pos h64]
 rw [e]
 exact ⟨hs, own, ne, Nat.mod_lt _ (by decide), (show 1 ≤ 64 by decide)⟩
theorem own_shape {B : Nat} {w : World} {v : Value} {n : Nat} {xs : List Value} (h : w.ownsRow B 5 1 v n xs) : ∃ ao cap, v = .slice ao n cap := by
 rcases h.2 with ⟨hv, hn⟩ | ⟨g, cap, cur, hv, _⟩
 ·exact ⟨none, 0, by rw [hv, hn]⟩
 exact ⟨_, cap, hv⟩
theorem own_ne {B : Nat} {w : World} {v : Value} {n : Nat} {xs : List Value} {b : Nat} {c : Array Value} (h : w.ownsRow B 5 1 v n xs) (hb : w.heap[b]? = some (.cells c 193)) : v.ownBlock ≠ some b := by
 intro e
 rcases h.2 with ⟨hv, _⟩ | ⟨g, cap, cur, hv, _, hh, _⟩
 ·rw [hv] at e; cases e
 rw [hv] at e
 have : g = b := Option.some.inj e
 rw [this, hb] at hh
 cases hh
theorem grow_hs {w w2 : World} {b n : Nat} {h : List Nat} {size : Int} {v : Value} {row : Option Nat} (hs : Hs w b h size v n) (o : Obj) (gr : ((w.alloc o).drew).grownBy w2 row) (hne : row ≠ some b) : Hs w2 b h size v n :=
 hs.keep ((gr.block b (by have := hs.size_lt; simp; omega) (fun e => hne e.symm)).trans (Below.heap_alloc _ _ _ hs.size_lt))
theorem grow_below {B : Nat} {u w w2 : World} {row : Option Nat} (h : Below B u w) (o : Obj) (hB : B ≤ w.heap.size) (gr : ((w.alloc o).drew).grownBy w2 row) (hr : ∀ g, row = some g → B ≤ g) : Below B u w2 :=
 (((h.alloc hB o).drew).grown gr (by simp; omega) hr)
theorem one_cell (w : World) (X : Value) : (w.alloc (.cells #[X] 5)).drew.cell? ⟨w.heap.size, 0, none⟩ = some X := by
 have h := heap_alloc_last w (.cells #[X] 5)
 unfold World.cell?; simp only [World.drew]; rw [h]; rfl
theorem le_size {B : Nat} {u w : World} (h : Below B u w) (hB : B ≤ u.heap.size) : B ≤ w.heap.size := Nat.le_trans hB h.size
theorem cell_other10 {w : World} {g b : Nat} (h : g ≠ b) (o i : Nat) (u : Value) : (w.setCell ⟨b, o, none⟩ u).cell? ⟨g, i, none⟩ = w.cell? ⟨g, i, none⟩ := World.cell?_setCell_other _ _ _ _ (fun e => h (congrArg (·.block) e).symm)
theorem pos_ne {B b : Nat} (h : 0 < B) (hb : B ≤ b) : b ≠ 0 := by omega
theorem HV.pushed {B : Nat} {u w w2 : World} {b : Nat} {size : Int} {v V' : Value} {y : HSt} {z : Nat} (h : HV B w b size v y) (hB : B ≤ w.heap.size) (hb : B ≤ b) (c : UInt8) (h64 : y.r.size ≠ 64) (o : Obj) (hz : z = y.r.size)
  (hs2 : Hs w2 b y.h size v y.n) (own2 : w2.ownsRow B 5 1 V' (z + 1) (strCells y.r ++ [.int .u8 (c.toNat : Int)])) (row : Option Nat) (hrow : row = v.ownBlock) (gr : ((w.alloc o).drew).grownBy w2 row) (ne : V'.ownBlock ≠ some b) (bl : Below B u w) :
  HV B (w2.setCell ⟨b, 9, none⟩ V') b size V' (y.add1 c) ∧ Below B u (w2.setCell ⟨b, 9, none⟩ V') := by
 subst hz
 subst hrow
 refine ⟨h.push hB c h64 (hs2.set9 V') (ownsB_of_block own2 (fun g hg => Below.heap_setCell _ _ _ _ (fun e => ne (by rw [hg, e])))) ne, ?_⟩
 exact (grow_below bl o hB gr (fun g hg => (h.own.lt g hg).1)).setCell hb V'
theorem HV.freshed {B : Nat} {u w w2 : World} {b g : Nat} {size : Int} {V V' : Value} {y : HSt} (hB : B ≤ w.heap.size) (hb : B ≤ b) (hg : B ≤ g) (c : UInt8) (h64 : y.r.size = 64) (o : Obj)
  (hs2 : Hs w2 b (compress y.h y.r (w64 (y.n + 64)) false) size V (w64 (y.n + 64))) (own2 : w2.ownsRow B 5 1 V' (0 + 1) ([] ++ [.int .u8 (c.toNat : Int)])) (gr : ((w.alloc o).drew).grownBy w2 (some g)) (ne : V'.ownBlock ≠ some b) (bl : Below B u w) :
  HV B (w2.setCell ⟨b, 9, none⟩ V') b size V' (y.add1 c) ∧ Below B u (w2.setCell ⟨b, 9, none⟩ V') := by
 refine ⟨HV.fresh1 c h64 (hs2.set9 V') (ownsB_of_block own2 (fun g hg => Below.heap_setCell _ _ _ _ (fun e => ne (by rw [hg, e])))) ne, ?_⟩
 exact (grow_below bl o hB gr (fun g' hg' => by cases hg'; exact hg)).setCell hb V'
theorem w64_int (n : Nat) : ((w64 (n + 64) : Nat) : Int) = ((n : Int) + 64) % 18446744073709551616 := by unfold w64; omega
theorem w64_wrap (n : Nat) : IntKind.u64.wrap ((n : Int) + 64) = ((w64 (n + 64) : Nat) : Int) := by rw [w64_int]; simp [IntKind.wrap, IntKind.bits, IntKind.signed]
theorem add_any (B : Nat) (s : ByteArray) {w : World} {b : Nat} {size : Int} {v : Value} {x : HSt} (hT : Tab w) (hV : HV B w b size v x) (hB : B ≤ w.heap.size) (h0 : 0 < B) (hb : B ≤ b) (hz : size ≠ 0) (hs : s.size ≤ maxLen) :
  Calls Tryz.prog 104 #[.pointer (some ⟨b, 0, none⟩), .string s] w fun e w' => e = .returned (.int .i64 0) ∧ (∃ v', HV B w' b size v' (x.add s)) ∧ Below B w w' := by
 have c8 := hV.hs.cell8
 have e0 : (size == 0) = false := beq_eq_false_iff_ne.2 hz
 have hlen : ((s.size : Nat) : Int) ≤ 9223372036854775807 := by unfold maxLen at hs; omega
 have H0 := hDx (And.intro hT (And.intro hV (And.intro hB (And.intro h0 hb))))
 clear hT hV hB h0 hb hs
 go_enter Tryz.func104, Tryz.ntmps104
 go_wp2_with fail
 go_loopw [17] (fun i wr => ∃ k : Nat, k ≤ s.size ∧ i = .int .i64 k ∧ (∃ v', HV B wr b size v' (x.addN s k)) ∧ Below B w wr) (fun i _ => s.size - (intOf i).toNat)
 case atStart => exact ⟨0, Nat.zero_le _, rfl, ⟨v, H0.out.2.1⟩, Below.refl _ _⟩
 obtain ⟨k, hk, rfl, ⟨v1, V1⟩, B1⟩ := hrel
 have HR := hDx (And.intro V1 B1)
 clear V1 B1 c8
 by_cases hlt : k < s.size
 ·obtain ⟨g1, g2⟩ := rngS hlt
  have hsucc := hDx (addN_succ x s k hlt)
  obtain ⟨y, hy⟩ := nm (x.addN s k)
  rw [← hy] at HR hsucc
  obtain ⟨c, hc⟩ : ∃ c, s[k]'hlt = c := ⟨_, rfl⟩
  rw [hc] at hsucc
  have HY := hDx hy
  clear hy
  by_cases h64 : y.r.size = 64
  ·obtain ⟨g, cap, hv1, hgB, hgb, hcells, own0⟩ := HR.out.1.whole h64
   have c9 := HR.out.1.hs.cell9
   have c10 := HR.out.1.hs.cell10
   have f10 := HR.out.1.hs.fz 10
   rw [hv1] at c9
   have eN := w64_wrap y.n
   obtain ⟨N, hN⟩ := nm (w64 (y.n + 64))
   rw [← hN] at eN
   have hNlt : N < 18446744073709551616 := by rw [hN]; exact Nat.mod_lt _ (by decide)
   have A := HR.out.1.hs.set10 N
   have BA := HR.out.2.setCell (p := ⟨b, 10, none⟩) H0.out.2.2.2.2 (.int .u64 (N : Int))
   have c9a := A.cell9
   rw [hv1] at c9a
   have TA := H0.out.1.below BA H0.out.2.2.2.1
   have HA := hDx (And.intro A (And.intro BA (And.intro TA (And.intro hNlt (And.intro hN (And.intro hv1 (And.intro h64 (And.intro hgB (And.intro hgb (And.intro hcells own0))))))))))
   clear A BA TA hNlt hN hv1 h64 hgB hgb hcells own0
   go_wp2_with fail
   refine (take_any y.r false HA.out.2.2.1 HA.out.1 (fun i hi => (cell_other10 HA.out.2.2.2.2.2.2.2.2.1 _ _ _).trans (HA.out.2.2.2.2.2.2.2.2.2.1 i hi)) HA.out.2.2.2.1 (pos_ne H0.out.2.2.2.1 H0.out.2.2.2.2)).mono ?_
   rintro e wb ⟨rfl, HSb, Ob⟩
   simp only []
   have c9b := HSb.cell9
   rw [HA.out.2.2.2.2.2.1] at c9b
   have f9b := HSb.fz 9
   have HC := HSb.set9 (.slice (some ⟨g, 0, none⟩) 0 cap)
   have OWC := ownsB_of_block HA.out.2.2.2.2.2.2.2.2.2.2 (w' := wb.setCell ⟨b, 9, none⟩ (.slice (some ⟨g, 0, none⟩) 0 cap)) (fun g' hg' => by
    cases hg'
    have hgl := HA.out.2.2.2.2.2.2.2.2.1
    have hgz := World.block_lt_of_cell? _ _ (HA.out.2.2.2.2.2.2.2.2.2.1 0 (by decide))
    rw [Below.heap_setCell _ _ _ _ hgl, Ob.block g (by simpa using hgz) hgl, Below.heap_setCell _ _ _ _ hgl])
   have BC := (HA.out.2.1.trans (Ob.below H0.out.2.2.2.2 (le_size HA.out.2.1 H0.out.2.2.1))).setCell (p := ⟨b, 9, none⟩) H0.out.2.2.2.2 (.slice (some ⟨g, 0, none⟩) 0 cap)
   have c9c := HC.cell9
   have HD := hDx (And.intro HC (And.intro OWC BC))
   clear HSb Ob HC OWC BC c9 c10 f10 eN
   go_wp2_with fail
   obtain ⟨wc, hwc⟩ := nm (wb.setCell ⟨b, 9, none⟩ (.slice (some ⟨g, 0, none⟩) 0 cap))
   rw [← hwc] at HD c9c
   rw [← hwc]
   clear hwc c9b f9b
   have c9d := (HD.out.1.alloc (.cells #[.int .u8 (c.toNat : Int)] 5)).cell9
   have OWN := ownsB_of_block HD.out.2.1 (w' := (wc.alloc (.cells #[.int .u8 (c.toNat : Int)] 5)).drew) (fun g' hg' => Below.heap_alloc _ _ _ (HD.out.2.1.lt g' hg').2)
   have HZ := hDx (And.intro OWN (And.intro (one_cell wc (.int .u8 (c.toNat : Int))) (And.intro (le_size (HD.out.2.2.alloc (le_size HD.out.2.2 H0.out.2.2.1) (.cells #[.int .u8 (c.toNat : Int)] 5)).drew H0.out.2.2.1) (own_ne HD.out.2.1 HD.out.1.block))))
   clear OWN
   go_region_law (first | (refine step_append_one (v := .slice (some ⟨g, 0, none⟩) 0 cap) rfl _ _ rfl rfl rfl HZ.out.1 HZ.out.2.1 rfl (by decide) HZ.out.2.2.1 ?_; intro v' w2 own2 gr2; have hs2 := grow_hs HD.out.1 _ gr2 HZ.out.2.2.2; have s1 := hs2.cell9; have f1 := hs2.fz 9; have ne2 := own_ne own2 hs2.block; obtain ⟨ao2, cap2, hv2⟩ := own_shape own2; subst hv2; have H2 := hDx (And.intro hs2 (And.intro own2 (And.intro gr2 ne2))); clear hs2 own2 gr2 ne2))
   all_goals
    have hs3 := H2.out.1
    rw [HA.out.2.2.2.2.1] at hs3
    have E := hDx (HV.freshed (le_size HD.out.2.2 H0.out.2.2.1) H0.out.2.2.2.2 HA.out.2.2.2.2.2.2.2.1 c HA.out.2.2.2.2.2.2.1 _ hs3 H2.out.2.1 H2.out.2.2.1 H2.out.2.2.2 HD.out.2.2)
    rw [← hsucc.out] at E
    clear H2 hs3
    go_wp2_with fail
    go_roundw
    case rel => exact ⟨k + 1, hlt, succI k, ⟨_, E.out.1⟩, E.out.2⟩
    case measure => exact measI _ k hlt
  obtain ⟨ao, cap, hv1, _, _⟩ := HR.out.1.shape
  have c9 := HR.out.1.hs.cell9
  rw [hv1] at c9
  obtain ⟨z, hzr⟩ := nm y.r.size
  rw [← hzr] at c9
  have n64 : ¬ z = 64 := by rw [hzr]; exact h64
  have n64' : ((z : Int) == 64) = false := by rw [hzr]; exact beq_eq_false_iff_ne.2 (by omega)
  have n65 : z ≤ 64 := by rw [hzr]; exact HR.out.1.r
  have c9b := (HR.out.1.alloc (.cells #[.int .u8 (c.toNat : Int)] 5)).hs.cell9
  rw [hv1, ← hzr] at c9b
  have OWN := ((HR.out.1.alloc (.cells #[.int .u8 (c.toNat : Int)] 5)).drew).own
  rw [hv1, ← hzr] at OWN
  have NE := HR.out.1.ne
  rw [hv1, ← hzr] at NE
  have HNE := hDx NE
  clear NE
  have HZ := hDx (And.intro hzr (And.intro hv1 (And.intro h64 (And.intro OWN (And.intro (one_cell wr (.int .u8 (c.toNat : Int))) (And.intro n65 (le_size (HR.out.2.alloc (le_size HR.out.2 H0.out.2.2.1) (.cells #[.int .u8 (c.toNat : Int)] 5)).drew H0.out.2.2.1)))))))
  clear hzr hv1 h64 OWN n65
  go_wp2_with fail
  go_region_law (first | (refine step_append_one (v := .slice ao z cap) rfl _ _ rfl rfl rfl HZ.out.2.2.2.1 HZ.out.2.2.2.2.1 rfl HZ.out.2.2.2.2.2.1 HZ.out.2.2.2.2.2.2 ?_; intro v' w2 own2 gr2; have hs2 := grow_hs HR.out.1.hs _ gr2 HNE.out; have s1 := hs2.cell9; have f1 := hs2.fz 9; have ne2 := own_ne own2 hs2.block; obtain ⟨ao2, cap2, hv2⟩ := own_shape own2; subst hv2; have H2 := hDx (And.intro hs2 (And.intro own2 (And.intro gr2 ne2))); clear hs2 own2 gr2 ne2))
  all_goals
   have E := hDx (HV.pushed HR.out.1 (le_size HR.out.2 H0.out.2.2.1) H0.out.2.2.2.2 c HZ.out.2.2.1 _ HZ.out.1 H2.out.1 H2.out.2.1 _ (by rw [HZ.out.2.1, HZ.out.1]) H2.out.2.2.1 H2.out.2.2.2 HR.out.2)
   rw [← hsucc.out] at E
   clear H2
   go_wp2_with fail
   go_roundw
   case rel => exact ⟨k + 1, hlt, succI k, ⟨_, E.out.1⟩, E.out.2⟩
   case measure => exact measI _ k hlt
 obtain rfl := isN hk hlt
 clear hlt hk
 go_wp2_with fail
 go_ret
 exact ⟨rfl, ⟨_, HR.out.1⟩, HR.out.2⟩
end Go.Proofs.YtoplbfijodebmaaGreatDoor
