/-
  The walk.
-/
import Derived.Test.YtoplbfijodebmaaGreatDoorM28CA
import Derived.RangeFuncFrom
import Derived.RangeFuncLeaves
import Derived.RangeFuncCalls
set_option linter.unusedVariables false
set_option linter.unusedSimpArgs false
set_option maxRecDepth 100000
set_option maxHeartbeats 40000000
namespace Go.Proofs.YtoplbfijodebmaaGreatDoor
open Go.RowKit
theorem KS.put {L : List (Nat × Obj)} {X : List Nat} {w u : World} (h : KS L X w u) (j : Nat) {g : Nat} {o : Obj} (e : L[j]? = some (g, o)) (o' : Obj) : KS (L.set j (g, o')) X w (u.putObj g o') :=
 h.turn j e (by simp [World.putObj]) rfl rfl rfl (World.putObj_heap_same (h.lt j e)) (fun i hi => World.putObj_heap_other hi)
def rngPost (go : Prop) (c0 : Code) (Kn Kx : World → Prop) : Exit → Act → World → Prop
 | .normal, _, W => go ∧ Kn W
 | .ret, _, W => c0 = .ret ∧ Kx W
 | .exit id, _, W => c0 = .exit id ∧ Kx W
 | .goto t, _, W => c0 = .goto t ∧ Kx W
 | _, _, _ => False
def Tells (F : Fence) (n : Nat) (P : Program) (gf : Nat) (lb : Array Value) (xs : Nat → Array Value) (al go fin : Nat → Prop) (Cap : World → Prop) : Prop :=
 ∀ (l : Nat) (J : Nat → World → Prop) (Jx : World → Prop) (W : World), (∀ i A B, J i A → Below A.heap.size A B → J i B) → (∀ i A, J i A → Cap A) →
  (∀ i A, J i A → al i → YieldAt F (n - 1) P l (xs i) A fun e B => (e = .returned (.bool true) ∧ go i ∧ J (i + 1) B) ∨ (e = .returned (.bool false) ∧ Jx B)) → J 0 W →
  CallsIn F n P gf (#[.func (.yield l) #[] #[]] ++ lb) W fun e B => (∃ v, e = .returned v) ∧ ((∃ m, fin m ∧ J m B) ∨ Jx B)
theorem wpIn_range_ks {F : Fence} {n : Nat} {P : Program} {g : Operand} {ps : Array Tmp} {assign body : Code} {Q : Exit → Act → World → Prop} {a : Act} {wB w : World} {X : List Nat}
  (hro : F.round = none) (h1 : 1 ≤ n) {gf : Nat} {lb : Array Value} (hg : a.eval g = .func (.func gf) #[] lb) (hFg : F.fn gf) (eg : ∀ args w, (callFunc gf args).run P w = .ok (.enter gf args) w)
  (xs : Nat → Array Value) (al go fin : Nat → Prop) (Cap : World → Prop) (hseq : Tells F (n - 1) P gf lb xs al go fin Cap) (hps : ∀ i, (xs i).size = ps.size)
  (L : Nat → List (Nat × Obj)) (c0 : Code) (Lx : List (Nat × Obj)) (hcap : ∀ i W, KS (L i) X wB W → Cap W) (h0 : KS (L 0) X wB w) (a₁ : Nat → Act)
  (hassign : ∀ (l i : Nat) (W : World) (K : Act → World → Prop), K (a₁ i) W →
   assign.wpIn (F.inRound l) (n - 1 - 1) P (Exit.then K (fun _ _ _ => False)) { tmps := (ps.zip (xs i)).foldl (fun t (p, v) => t.setIfInBounds p v) a.tmps, defers := [] } W)
  (hbody : ∀ (l D i : Nat) (ol od : Obj) (W : World), al i → KS ((l, ol) :: (D, od) :: L i) X wB W →
   body.wpIn (F.inRound l) (n - 1 - 1) P (rngPost (go i) c0 (fun W' => KS ((l, ol) :: (D, od) :: L (i + 1)) X wB W') (fun W' => KS ((l, ol) :: (D, od) :: Lx) X wB W')) (a₁ i) W)
  (hdone : ∀ (l D m : Nat) (ol : Obj) (W : World), fin m → KS ((l, ol) :: (D, .deferred (some [])) :: L m) X wB W → Q .normal { a with defers := { target := .collected D, args := #[] } :: a.defers } W)
  (hstop : ∀ (l D : Nat) (ol : Obj) (W : World), KS ((l, ol) :: (D, .deferred (some [])) :: Lx) X wB W → c0.wpIn F n P Q { a with defers := { target := .collected D, args := #[] } :: a.defers } W) :
  (Code.rangeFunc g ps assign body).wpIn F n P Q a w := by
 refine wpIn_rangeFunc fun fn hfn => ?_
 rw [hro]
 obtain ⟨D, hD⟩ := nm w.heap.size
 obtain ⟨l, hl⟩ := nm (w.heap.size + 1)
 obtain ⟨rec, hrec⟩ : ∃ rec : LoopState → Option Code → Loop, rec = fun st pe => { state := st, pending := pe, fn := fn, tmps := a.tmps, params := ps, assign := assign, body := body, defers := D } := ⟨_, rfl⟩
 obtain ⟨W1, hW1⟩ := nm ((w.alloc (.deferred (some []))).alloc (.loop (rec .ready none)))
 have hK1 : KS ((l, .loop (rec .ready none)) :: (D, .deferred (some [])) :: L 0) X wB W1 := by
  have := (h0.made (.deferred (some []))).made (.loop (rec .ready none))
  rw [World.size_alloc, ← hl, ← hD, ← hW1] at this
  exact this
 have hent := run_enterLoop_outer (P := P) (w := w) fn a.tmps ps assign body
 rw [show ((w.alloc (.deferred (some []))).alloc (.loop { state := .ready, pending := none, fn := fn, tmps := a.tmps, params := ps, assign := assign, body := body, defers := w.heap.size })) = W1 by rw [hW1, hrec, hD], ← hl, ← hD] at hent
 refine ⟨l, [{ target := .collected D, args := #[] }], W1, { target := .fn (.func gf) lb, args := #[.func (.yield l) #[] #[]] }, W1, gf, #[.func (.yield l) #[] #[]] ++ lb, W1, hent, ?_, ?_, ?_, fun _ => h1, ?_⟩
 ·simp only [resolve, hg]
  simp [go_sem]
 ·intro f' hf'
  simp [Target.leads] at hf'
  subst hf'
  exact hFg
 ·simp [invoke, go_sem, eg]
 obtain ⟨J, hJ⟩ : ∃ J : Nat → World → Prop, J = fun i W => KS ((l, .loop (rec .ready none)) :: (D, .deferred (some [])) :: L i) X wB W := ⟨_, rfl⟩
 obtain ⟨Jx, hJx⟩ : ∃ J : World → Prop, J = fun W => KS ((l, .loop (rec .done (some c0))) :: (D, .deferred (some [])) :: Lx) X wB W := ⟨_, rfl⟩
 refine (hseq l J Jx W1 (fun i A B hA hb => ?_) (fun i A hA => ?_) (fun i A hA hal => ?_) (by rw [hJ]; exact hK1)).mono ?_
 ·rw [hJ] at hA ⊢
  exact hA.call hb
 ·rw [hJ] at hA
  exact hcap i A hA.tail.tail
 ·-- one round
  rw [hJ] at hA
  have hla : A.heap[l]? = some (.loop (rec .ready none)) := hA.get 0 rfl
  have hy := run_yield (P := P) (args := xs i) hla (by rw [hrec]; exact hps i)
  rw [hrec] at hy
  have hbe := run_beginRound (P := P) hla (by rw [hrec])
  have hb0 := hA.put 0 rfl (.loop { rec .ready none with state := .busy })
  refine ⟨fn, _, assign, body, hy, roundIn_of_wpIn hfn (hassign l i A _ ⟨_, hbe, ?_⟩)⟩
  have endR : ∀ (jump : Option Code) (M : List (Nat × Obj)) (W3 : World), KS ((l, .loop { rec .ready none with state := .busy }) :: (D, .deferred (some [])) :: M) X wB W3 →
    (Instr.endRound l jump).run P W3 = .ok (.bool jump.isNone) (W3.putObj l (.loop (rec (if jump.isNone then .ready else .done) jump))) ∧
     KS ((l, .loop (rec (if jump.isNone then .ready else .done) jump)) :: (D, .deferred (some [])) :: M) X wB (W3.putObj l (.loop (rec (if jump.isNone then .ready else .done) jump))) := by
   intro jump M W3 h3
   have h4 := run_endRound (P := P) jump (h3.get 0 rfl)
   rw [hrec] at h4 ⊢
   rw [hrec] at h3
   exact ⟨h4, h3.put 0 rfl _⟩
  refine wpIn_mono (hbody l D i _ _ _ hal hb0) ?_
  rintro e a3 W3 hp
  cases e with
  | normal =>
   obtain ⟨h5, h6⟩ := endR none _ _ hp.2
   exact ⟨_, _, h5, .inl ⟨rfl, hp.1, by rw [hJ]; exact h6⟩⟩
  | ret =>
   obtain ⟨h5, h6⟩ := endR (some .ret) _ _ hp.2
   exact ⟨_, _, h5, .inr ⟨rfl, by rw [hJx, hp.1]; exact h6⟩⟩
  | exit id =>
   obtain ⟨h5, h6⟩ := endR (some (.exit id)) _ _ hp.2
   exact ⟨_, _, h5, .inr ⟨rfl, by rw [hJx, hp.1]; exact h6⟩⟩
  | goto t =>
   obtain ⟨h5, h6⟩ := endR (some (.goto t)) _ _ hp.2
   exact ⟨_, _, h5, .inr ⟨rfl, by rw [hJx, hp.1]; exact h6⟩⟩
  | panic ch => exact hp.elim
  | outgrown => exact hp.elim
 -- behind the iterator
 rintro e W2 ⟨⟨v, rfl⟩, (⟨m, hm, hA⟩ | hA)⟩
 ·rw [hJ] at hA
  have he := run_endLoop (P := P) (hA.get 0 rfl) (by rw [hrec]; simp)
  refine ⟨none, _, by rw [he, hrec], ?_⟩
  exact hdone l D m _ _ hm (hA.put 0 rfl _)
 rw [hJx] at hA
 have he := run_endLoop (P := P) (hA.get 0 rfl) (by rw [hrec]; simp)
 refine ⟨some c0, _, by rw [he, hrec], ?_⟩
 exact hstop l D _ _ (hA.put 0 rfl _)
end Go.Proofs.YtoplbfijodebmaaGreatDoor
