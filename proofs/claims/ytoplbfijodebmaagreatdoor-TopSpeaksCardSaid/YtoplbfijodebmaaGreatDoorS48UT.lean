/-
  Of two who shook hands each hears what the other one said, as it was said, each once at most, unless a tag is the same; for any secrets, anything that is said, in whatever order it comes: no conditions.
-/
import Derived.Test.YtoplbfijodebmaaGreatDoorS47SW
import Derived.Test.YtoplbfijodebmaaGreatDoorS45UE
import Derived.Deep.Slices
set_option linter.unusedVariables false
set_option linter.unusedSimpArgs false
set_option maxRecDepth 100000
set_option maxHeartbeats 40000000
namespace Go.Proofs.YtoplbfijodebmaaGreatDoor
open Go.ChangeShapes Go.WideShapes Go.ChangeAt Go.RowKit
open Go.Deep
instance : Inhabited Sy := ⟨⟨false, false, .empty, 0, 0, 0⟩⟩
theorem Tryz.cells46 : Tryz.prog.cellsOf 46 = 6 := by kernel_rfl
theorem Tryz.cellsA : Tryz.prog.cellsOf 4 = 1 ∧ Tryz.prog.cellsOf 9 = 1 ∧ Tryz.prog.cellsOf 5 = 1 ∧ Tryz.prog.cellsOf 44 = 1 := ⟨by kernel_rfl, by kernel_rfl, by kernel_rfl, by kernel_rfl⟩
theorem wf_nat {k : IntKind} {n : Int} {M : Nat} (h : (Lit.int k n).wf = true) (hk : k = .u8 ∧ M = 256 ∨ k = .u16 ∧ M = 65536) : ∃ m : Nat, n = m ∧ m < M := by
 rcases hk with ⟨rfl, rfl⟩ | ⟨rfl, rfl⟩
 ·have h2 : 0 ≤ n ∧ n ≤ 255 := by simpa [Lit.wf, IntKind.min, IntKind.max, IntKind.signed, IntKind.bits] using h
  exact ⟨n.toNat, by omega, by omega⟩
 have h2 : 0 ≤ n ∧ n ≤ 65535 := by simpa [Lit.wf, IntKind.min, IntKind.max, IntKind.signed, IntKind.bits] using h
 exact ⟨n.toNat, by omega, by omega⟩
theorem open_sy {H : Type} {enc : TypeId × Value → H} {W : World} {fuel : Nat} {cs : List Value} {x : DataW H × List MemPlace} {base : Nat} {spare : Nat → Bool} {held : Bool}
  (h : DataW.trod enc Tryz.prog W base spare held fuel 46 cs = some x) :
  ∃ u : Sy, cs = [.bool u.by', .bool u.come, .string u.text, .int .u8 u.which, .int .u16 u.at', .int .u8 u.turn] ∧ u.Ok ∧ u.text.size ∈ x.1.weights Tryz.prog 46 := by
 have hu46 := Tryz.underlying46
 obtain ⟨xs, n, _, hx, hlen, hxl, hf⟩ := DataW.trod_struct hu46 h
 rw [Tryz.cells46] at hlen
 match cs, hlen with
 | [c0, c1, c2, c3, c4, c5], _ =>
  have g0 := hf 0 _ rfl
  have g1 := hf 1 _ rfl
  have g2 := hf 2 _ rfl
  have g3 := hf 3 _ rfl
  have g4 := hf 4 _ rfl
  have g5 := hf 5 _ rfl
  obtain ⟨a1, a2, a3, a4⟩ := Tryz.cellsA
  simp [a1, a2, a3, a4] at g0 g1 g2 g3 g4 g5
  match xs, hxl with
  | [y0, y1, y2, y3, y4, y5], _ =>
   obtain ⟨b0, e0, _⟩ := DataW.trod_bool (show Tryz.prog.underlying 4 = some .bool by kernel_rfl) g0
   obtain ⟨b1, e1, _⟩ := DataW.trod_bool (show Tryz.prog.underlying 4 = some .bool by kernel_rfl) g1
   obtain ⟨s, e2, f2, _⟩ := DataW.trod_string (show Tryz.prog.underlying 9 = some .string by kernel_rfl) g2
   obtain ⟨n3, e3, _, w3⟩ := DataW.trod_int (show Tryz.prog.underlying 5 = some (.int .u8) by kernel_rfl) g3
   obtain ⟨n4, e4, _, w4⟩ := DataW.trod_int (show Tryz.prog.underlying 44 = some (.int .u16) by kernel_rfl) g4
   obtain ⟨n5, e5, _, w5⟩ := DataW.trod_int (show Tryz.prog.underlying 5 = some (.int .u8) by kernel_rfl) g5
   obtain ⟨m3, rfl, h3⟩ := wf_nat (M := 256) w3 (.inl ⟨rfl, rfl⟩)
   obtain ⟨m4, rfl, h4⟩ := wf_nat (M := 65536) w4 (.inr ⟨rfl, rfl⟩)
   obtain ⟨m5, rfl, h5⟩ := wf_nat (M := 256) w5 (.inl ⟨rfl, rfl⟩)
   simp only [List.cons.injEq, and_true] at e0 e1 e2 e3 e4 e5
   subst e0 e1 e2 e3 e4 e5
   refine ⟨⟨b0, b1, s, m3, m4, m5⟩, rfl, ⟨h3, h4, h5⟩, ?_⟩
   rw [hx]
   have hy : y2.1 = .lit (.string s.data.toList) := by rw [f2]
   simp only [mCx, mNx, DataW.weights, hu46, hy, DataW.weightsEach, List.mem_append]
   exact Or.inr (Or.inr (Or.inl (by
    have e : s.size = s.data.toList.length := show s.data.size = s.data.toList.length from Array.length_toList.symm
    show s.size ∈ [s.data.toList.length]
    rw [e]
    exact List.mem_singleton.2 rfl)))
theorem weights_all {H : Type} (P : Program) (e : TypeId) (D : Nat → DataW H) (n i : Nat) (h : n ∈ (D i).weights P e) : ∀ xs : List Nat, i ∈ xs → n ∈ DataW.weightsAll P e (xs.map D)
 | [], hi => by cases hi
 | x :: r, hi => by
  simp only [mCx, DataW.weightsAll, List.mem_append]
  rcases List.mem_cons.1 hi with rfl | hi
  ·exact Or.inl h
  ·exact Or.inr (weights_all P e D n i h r hi)
theorem open_said {H : Type} {enc : TypeId × Value → H} {W : World} {fuel : Nat} {ao : Option Addr} {len cap : Nat} {d : DataW H} {p : List MemPlace}
  (hf : DataW.trod enc Tryz.prog W 0 (fun _ => true) true fuel 43 (Value.slice ao len cap).cells.toList = some (d, p)) (hw : ∀ n ∈ d.weights Tryz.prog 43, n ≤ reachBytes) :
  ∃ l : List Sy, l.length = len ∧ SaidAt W ao l ∧ len ≤ reachN ∧ ∀ k (h : k < l.length), l[k].text.size ≤ reachN := by
 have hR : reachBytes ≤ reachN := by decide
 have hu43 : Tryz.prog.underlying 43 = some (.slice 46) := by kernel_rfl
 have hop := open_slice (P := Tryz.prog) hu43 hf
 rcases hop with ⟨hcs, _⟩ | ⟨a, len', cap', m, n, D, Pl, hcs, _, hl, hm, hmm, hx, hel⟩
 ·simp [Value.cells] at hcs
  obtain ⟨rfl, rfl, rfl⟩ := hcs
  exact ⟨[], rfl, fun k hk => absurd hk (Nat.not_lt_zero k), Nat.zero_le _, fun k hk => absurd hk (Nat.not_lt_zero k)⟩
 simp [Value.cells] at hcs
 obtain ⟨rfl, rfl, rfl⟩ := hcs
 simp only [if_true] at hmm
 subst hmm
 simp only [Prod.mk.injEq] at hx
 obtain ⟨rfl, rfl⟩ := hx
 simp only [DataW.weights, hu43] at hw
 have each : ∀ i, i < len → ∃ u : Sy, W.cell? (a.add (i * 6)) = some (.bool u.by') ∧ W.cell? (a.add (i * 6 + 1)) = some (.bool u.come) ∧ W.cell? (a.add (i * 6 + 2)) = some (.string u.text) ∧ W.cell? (a.add (i * 6 + 3)) = some (.int .u8 u.which) ∧ W.cell? (a.add (i * 6 + 4)) = some (.int .u16 u.at') ∧ W.cell? (a.add (i * 6 + 5)) = some (.int .u8 u.turn) ∧ u.Ok ∧ u.text.size ∈ (D i).weights Tryz.prog 46 := by
  intro i hi
  obtain ⟨cs, h1, h2⟩ := hel i (by omega)
  rw [Tryz.cells46] at h1
  obtain ⟨_, hlen, hcell⟩ := World.cells?_some h1
  obtain ⟨u, rfl, hu, hb⟩ := open_sy h2
  have e0 := hcell 0 (by decide)
  have e1 := hcell 1 (by decide)
  have e2 := hcell 2 (by decide)
  have e3 := hcell 3 (by decide)
  have e4 := hcell 4 (by decide)
  have e5 := hcell 5 (by decide)
  rw [Go.Deep.add_add] at e0 e1 e2 e3 e4 e5
  exact ⟨u, by simpa using e0, by simpa using e1, by simpa using e2, by simpa using e3, by simpa using e4, by simpa using e5, hu, hb⟩
 obtain ⟨q, hq⟩ := choose_lt each
 refine ⟨(List.range len).map q, by simp, fun k hk => ?_, ?_, fun k hk => ?_⟩
 ·have hk' : k < len := by simpa using hk
  obtain ⟨b, off, spot⟩ := a
  have hspot : spot = none := by simpa [Addr.add] using World.cell?_spot (hq 0 (by omega)).1
  subst hspot
  obtain ⟨e0, e1, e2, e3, e4, e5, hu, _⟩ := hq k hk'
  rw [Addr.add_lit] at e0 e1 e2 e3 e4 e5
  simp only [List.getElem_map, List.getElem_range]
  exact ⟨b, off, rfl, World.block_lt_of_cell? _ _ e0, e0, e1, e2, e3, e4, e5, hu⟩
 ·have h1 := hw _ (List.mem_cons_self ..)
  have hb : 1 ≤ Tryz.prog.bytesOf 46 := of_decide_eq_true (by kernel_rfl)
  have e1 : ((List.range len).map D).length = len := by simp
  rw [e1] at h1
  refine Nat.le_trans (Nat.le_trans ?_ h1) hR
  exact Nat.le_trans (Nat.le_trans (by omega) (Nat.le_mul_of_pos_right _ hb)) (Nat.le_refl _)
 have hk' : k < len := by simpa using hk
 simp only [List.getElem_map, List.getElem_range]
 refine Nat.le_trans (hw _ (List.mem_cons_of_mem _ (List.mem_append.2 (Or.inl ?_)))) hR
 exact weights_all _ _ D _ k (hq k hk').2.2.2.2.2.2.2 (List.range len) (List.mem_range.2 hk')
theorem topSpeaks_lifted (os : Os) (started : os.Started) (H : Type) (enc : TypeId × Value → H) :
  ReturnsInHanded {} Tryz.checked os 4 .any (fun w args => (Rows.topSpeaksSpec.pre enc Tryz.prog Tryz.f4 Rows.topSpeaksRow.domain false w args ∧ laidMet Tryz.prog Rows.topSpeaksRow.laid w) ∧ sizedMet enc Tryz.prog Tryz.f4 (OpenSpec.ofChange Rows.topSpeaksSpec) false w args)
   (Rows.topSpeaksSpec.post enc Tryz.prog Tryz.f4 false true false false) := by
 refine returnsInHanded_of_change_and (C := Tryz.checked) (X := fun w _ => laidMet Tryz.prog Rows.topSpeaksRow.laid w) (fun _ _ _ hh h => h.of_heap hh) Tryz.own started (by kernel_rfl) Tryz.func4
  (ChangeSpec.witness_at (enc := enc) (C := Tryz.checked) (os := os) (X := fun w _ => laidMet Tryz.prog Rows.topSpeaksRow.laid w) false (tabWorld os) #[.agg (shC .empty .empty .empty .empty), .slice none 0 0] 8 rfl (by kernel_rfl) (by kernel_rfl) (by kernel_rfl) (by kernel_rfl) (by kernel_rfl) (tab_met os _)) ?_
 intro W base args ds gs before hval0 hW _ hwt hL _
 have hval : ∀ (j : Nat) t v, Tryz.f4.params[j]? = some t → args[j]? = some v → Value.okWide Tryz.prog W .any base t v := hval0
 have hW' := hW
 obtain ⟨p, q, hA0, hV, rfl, _, _⟩ := hW
 have hA : DataW.TrodAll enc Tryz.prog W 0 (fun _ => true) true Tryz.f4.params.toList args.toList ds p := hA0
 have hwt2 : (DataW.weightsEach Tryz.prog (Tryz.f4.params.toList ++ Rows.topSpeaksSpec.plain.varTypes Tryz.prog) (ds ++ gs)).all (· ≤ reachBytes) = true := hwt
 rw [Tryz.params4] at hA hval hwt2
 obtain ⟨v0, v1, d0, d1, p0, p1, rfl, rfl, rfl, h0, h1⟩ := trodAll_two hA
 obtain ⟨rfl, rfl⟩ := trodVars_none hV
 obtain ⟨A, B, E, F, rfl⟩ := open_sh (hval 0 23 v0 rfl rfl)
 obtain ⟨a2, l2, c2, rfl⟩ := okWide_slice (show Tryz.prog.underlying 43 = some (.slice 46) by kernel_rfl) (hval 1 43 v1 rfl rfl)
 have hT := tab_of_laid hL
 have hw : ∀ n ∈ d1.weights Tryz.prog 43, n ≤ reachBytes := by
  intro n hn
  have h := List.all_eq_true.1 hwt2 n (by simp only [List.cons_append, List.nil_append, DataW.weightsEach, List.mem_append]; exact Or.inr (Or.inl hn))
  simpa using h
 have fin : Calls Tryz.prog 4 #[.agg (shC A B E F), .slice a2 l2 c2] W fun e W' => e = .returned (.bool true) ∧ Below W.heap.size W W' := by
  obtain ⟨fuel, hf⟩ := h1
  obtain ⟨ll, hll, hS, hlm, hsz⟩ := open_said hf hw
  subst hll
  exact speaks_walk A B E F ll a2 c2 W hT hS hlm hsz
 refine fin.mono fun e W' ⟨he, hb⟩ => ?_
 subst he
 exact ⟨_, rfl, law_post Tryz.laidOut (by kernel_rfl) (t := 4) rfl Tryz.underlying4 rfl hW' rfl rfl rfl hb⟩
theorem topSpeaks_holds : Rows.TopSpeaksSaid :=
 OpenClaim.holds_of_wide 4 Tryz.f4 rfl rfl rfl rfl rfl rfl rfl ⟨rfl, rfl, rfl, rfl, rfl⟩ rfl rfl rfl rfl rfl (by kernel_rfl) Tryz.func4 (by kernel_rfl)
  (of_decide_eq_true (by kernel_rfl)) (by unfold Func.isWrapper; first | (rw [if_pos (by decide +kernel)]; kernel_rfl) | (rw [if_neg (by decide +kernel)]; exact ⟨rfl, rfl⟩))
  (fun os started H enc _ => topSpeaks_lifted os started H enc)
theorem topSpeaks_stand (j : Nat) (t : TypeId) (h : Tryz.f4.params[j]? = some t) : Tryz.prog.wantsStandIn t = false := by
 rw [Tryz.params4] at h
 have hj : j < 2 := by
  have := (Array.getElem?_eq_some_iff.1 h).1
  simpa using this
 rcases (by omega : j = 0 ∨ j = 1) with rfl | rfl
 ·have ht : t = 23 := by simpa using h.symm
  subst ht
  exact (show Tryz.prog.wantsStandIn 23 = false by kernel_rfl)
 have ht : t = 43 := by simpa using h.symm
 subst ht
 exact (show Tryz.prog.wantsStandIn 43 = false by kernel_rfl)
theorem topSpeaksCard_holds : Rows.TopSpeaksCardSaid :=
 Claim7.holds_tied_plain_at .later [] [.data] true (true, "10c10f9aaef2fa2ef77ed2104d4f84d24df9b502324ccf04e3583b3ec2c3504e") false
  topSpeaks_holds (fun _ h => by cases h) (by kernel_rfl) (fun _ h => by cases h) topSpeaks_row_tie rfl ⟨rfl, rfl⟩ (by kernel_rfl) rfl
  (fun f fn hf hfn => by
   obtain rfl : f = 4 := Option.some.inj ((show Tryz.prog.funcNamed "isthmus/isthmustop.TopSpeaks" = some 4 by kernel_rfl).symm.trans hf) |>.symm
   obtain rfl : fn = Tryz.f4 := (Option.some.inj (Tryz.func4.symm.trans hfn)).symm
   exact ⟨by kernel_rfl, fun j t ht => topSpeaks_stand j t ht⟩)
  (by kernel_rfl)
end Go.Proofs.YtoplbfijodebmaaGreatDoor
