/-
  What is said in one tunnel is heard in no other one, of the same two, or of others, unless a tag is the same; for any two handshakes and any texts: no conditions.
-/
import Derived.Test.YtoplbfijodebmaaGreatDoorM45UC
import Derived.Test.YtoplbfijodebmaaGreatDoorM46Laid
import Derived.Test.YtoplbfijodebmaaGreatDoorCards
import Derived.Test.YtoplbfijodebmaaGreatDoorTie
import Derived.ChangeMaps5
import Derived.SliceStrings
import Derived.Deep.SlicePairs
set_option linter.unusedVariables false
set_option linter.unusedSimpArgs false
set_option maxRecDepth 100000
set_option maxHeartbeats 40000000
namespace Go.Proofs.YtoplbfijodebmaaGreatDoor
open Go.ChangeShapes Go.WideShapes Go.ChangeAt Go.RowKit
open Go.ChangeMaps (open_string shut_string)
theorem cell_string {W : World} {r : Reach} {base : Nat} {v : Value} (h : Cell.okWide Tryz.prog W r base 9 v) : ∃ s : ByteArray, v = .string s := by
 simp only [Cell.okWide, Tryz.underlying9] at h
 cases v <;> simp_all [Cell.ok, Tryz.underlying9, IntKind.max, IntKind.signed, IntKind.bits]
theorem row_of {W : World} {r : Reach} {base t : Nat} {v : Value} {ts : List TypeId} {n : Nat} (hu : (match Tryz.prog.underlying t with | some (.struct _) => true | _ => false) = true) (hts : Tryz.prog.cellTypes Tryz.prog.depth t = some ts) (hn : Tryz.prog.cellsOf t = n) (hl : ts.length = n)
  (h : Value.okWide Tryz.prog W r base t v) : ∃ cs : Array Value, v = .agg cs ∧ cs.size = n ∧ ∀ (i : Nat) (x : Value) (u : TypeId), cs[i]? = some x → ts[i]? = some u → Cell.okWide Tryz.prog W r base u x := by
 unfold Value.okWide at h
 cases hq : Tryz.prog.underlying t with
 | none => simp [hq] at hu
 | some d =>
  cases d <;> simp [hq] at hu
  simp only [hq] at h
  obtain ⟨cs, rfl, hs, ts', h1, _, h2⟩ := h
  rw [hts] at h1
  obtain rfl := Option.some.inj h1
  refine ⟨cs, rfl, hs.trans hn, fun i x u hx hu' => ?_⟩
  obtain ⟨u', h3, h4⟩ := h2 i x hx
  have hi : i < ts.length := by
   have := (Array.getElem?_eq_some_iff.1 hx).1
   omega
  rw [Nat.mod_eq_of_lt hi, hu'] at h3
  obtain rfl := Option.some.inj h3
  exact h4
theorem open_sh {W : World} {r : Reach} {base : Nat} {v : Value} (h : Value.okWide Tryz.prog W r base 23 v) : ∃ A B E F : ByteArray, v = .agg (shC A B E F) := by
 obtain ⟨cs, rfl, hs, hc⟩ := row_of (ts := [9, 9, 9, 9]) (n := 4) (by kernel_rfl) (by kernel_rfl) (by kernel_rfl) rfl h
 obtain ⟨l⟩ := cs
 match l, hs with
 | [c0, c1, c2, c3], _ =>
  obtain ⟨A, rfl⟩ := cell_string (hc 0 c0 9 rfl rfl)
  obtain ⟨B, rfl⟩ := cell_string (hc 1 c1 9 rfl rfl)
  obtain ⟨E, rfl⟩ := cell_string (hc 2 c2 9 rfl rfl)
  obtain ⟨F, rfl⟩ := cell_string (hc 3 c3 9 rfl rfl)
  exact ⟨A, B, E, F, rfl⟩
theorem weights_strs {H : Type} (P : Program) (e : TypeId) (s : ByteArray) : ∀ l : List ByteArray, s ∈ l → s.size ∈ DataW.weightsAll P e (l.map fun s => (DataW.lit (.string s.data.toList) : DataW H))
 | [], h => by simp at h
 | x :: r, h => by
  simp only [mCx, DataW.weightsAll, DataW.weights, List.mem_append, List.mem_cons, List.not_mem_nil, or_false]
  rcases List.mem_cons.1 h with rfl | h
  ·exact Or.inl (show s.data.size = s.data.toList.length from Array.length_toList.symm)
  ·exact Or.inr (weights_strs P e s r h)
theorem open_strs {H : Type} {enc : TypeId × Value → H} {W : World} {fuel : Nat} {ao : Option Addr} {len cap : Nat} {d : DataW H} {p : List MemPlace}
  (hf : DataW.trod enc Tryz.prog W 0 (fun _ => true) true fuel 24 (Value.slice ao len cap).cells.toList = some (d, p)) (hw : ∀ n ∈ d.weights Tryz.prog 24, n ≤ reachBytes) :
  ∃ l : List ByteArray, l.length = len ∧ StrsAt W ao l ∧ len ≤ reachN ∧ ∀ k (h : k < l.length), l[k].size ≤ reachN := by
 have hR : reachBytes ≤ reachN := by decide
 rcases open_strings (show Tryz.prog.underlying 24 = some (.slice 9) by kernel_rfl) (show Tryz.prog.underlying 9 = some .string by kernel_rfl) (show Tryz.prog.cellsOf 9 = 1 by kernel_rfl) hf with ⟨hcs, _⟩ | ⟨a, len', cap', ss, hcs, _, hl, hm, hz, hx, hcell, _⟩
 ·simp [Value.cells] at hcs
  obtain ⟨rfl, rfl, rfl⟩ := hcs
  exact ⟨[], rfl, fun k hk => absurd hk (Nat.not_lt_zero k), Nat.zero_le _, fun k hk => absurd hk (Nat.not_lt_zero k)⟩
 simp [Value.cells] at hcs
 obtain ⟨rfl, rfl, rfl⟩ := hcs
 simp only [if_true] at hz
 obtain ⟨rfl, rfl⟩ := Prod.mk.inj hx
 simp only [DataW.weights, show Tryz.prog.underlying 24 = some (.slice 9) by kernel_rfl] at hw
 have hb : Tryz.prog.bytesOf 9 = 16 := by kernel_rfl
 have hlen : (ss.take len).length = len := by rw [List.length_take]; omega
 refine ⟨ss.take len, hlen, fun k hk => ?_, ?_, fun k hk => ?_⟩
 ·have hk' : k < len := by omega
  obtain ⟨b, off, spot⟩ := a
  have hspot : spot = none := by simpa [Addr.add] using World.cell?_spot (hcell 0 (by omega))
  subst hspot
  have e0 := hcell k (by omega)
  rw [Addr.add_lit] at e0
  refine ⟨b, off, rfl, World.block_lt_of_cell? _ _ e0, ?_⟩
  rw [e0, List.getElem_take, List.getD_eq_getElem?_getD, List.getElem?_eq_getElem (by omega)]
  rfl
 ·have h1 := hw _ (List.mem_cons_self ..)
  have e1 : (strs (H := H) (ss.take len)).length = len := by unfold strs; rw [List.length_map]; exact hlen
  rw [hb, e1] at h1
  refine Nat.le_trans ?_ hR
  omega
 refine Nat.le_trans (hw _ (List.mem_cons_of_mem _ (List.mem_append.2 (Or.inl ?_)))) hR
 exact weights_strs Tryz.prog 9 _ _ (List.getElem_mem hk)
set_option maxRecDepth 100000 in
theorem topApart_lifted (os : Os) (started : os.Started) (H : Type) (enc : TypeId × Value → H) :
  ReturnsInHanded {} Tryz.checked os 3 .any (fun w args => (Rows.topApartSpec.pre enc Tryz.prog Tryz.f3 Rows.topApartRow.domain false w args ∧ laidMet Tryz.prog Rows.topApartRow.laid w) ∧ sizedMet enc Tryz.prog Tryz.f3 (OpenSpec.ofChange Rows.topApartSpec) false w args)
   (Rows.topApartSpec.post enc Tryz.prog Tryz.f3 false true false false) := by
 refine returnsInHanded_of_change_and (C := Tryz.checked) (X := fun w _ => laidMet Tryz.prog Rows.topApartRow.laid w) (fun _ _ _ hh h => h.of_heap hh) Tryz.own started (by kernel_rfl) Tryz.func3
  (ChangeSpec.witness_at (enc := enc) (C := Tryz.checked) (os := os) (X := fun w _ => laidMet Tryz.prog Rows.topApartRow.laid w) false (tabWorld os) #[.agg (shC .empty .empty .empty .empty), .agg (shC .empty .empty .empty .empty), .slice none 0 0] 8 rfl (by kernel_rfl) (by kernel_rfl) (by kernel_rfl) (by kernel_rfl) (by kernel_rfl) (tab_met os _)) ?_
 intro W base args ds gs before hval0 hW _ hwt hL _
 have hval : ∀ (j : Nat) t v, Tryz.f3.params[j]? = some t → args[j]? = some v → Value.okWide Tryz.prog W .any base t v := hval0
 have hW' := hW
 obtain ⟨p, q, hA0, hV, rfl, _, _⟩ := hW
 have hA : DataW.TrodAll enc Tryz.prog W 0 (fun _ => true) true Tryz.f3.params.toList args.toList ds p := hA0
 have hwt2 : (DataW.weightsEach Tryz.prog (Tryz.f3.params.toList ++ Rows.topApartSpec.plain.varTypes Tryz.prog) (ds ++ gs)).all (· ≤ reachBytes) = true := hwt
 rw [Tryz.params3] at hA hval hwt2
 obtain ⟨v0, v1, v2, d0, d1, d2, p0, p1, p2, rfl, rfl, rfl, h0, h1, h2⟩ := trodAll_three hA
 obtain ⟨rfl, rfl⟩ := trodVars_none hV
 obtain ⟨A, B, E, F, rfl⟩ := open_sh (hval 0 23 v0 rfl rfl)
 obtain ⟨A', B', E', F', rfl⟩ := open_sh (hval 1 23 v1 rfl rfl)
 obtain ⟨a2, l2, c2, rfl⟩ := okWide_slice (show Tryz.prog.underlying 24 = some (.slice 9) by kernel_rfl) (hval 2 24 v2 rfl rfl)
 have hT := tab_of_laid hL
 have hw : ∀ n ∈ d2.weights Tryz.prog 24, n ≤ reachBytes := by
  intro n hn
  have h := List.all_eq_true.1 hwt2 n (by simp only [List.cons_append, List.nil_append, DataW.weightsEach, List.mem_append]; exact Or.inr (Or.inr (Or.inl hn)))
  simpa using h
 have fin : Calls Tryz.prog 3 #[.agg (shC A B E F), .agg (shC A' B' E' F'), .slice a2 l2 c2] W fun e W' => e = .returned (.bool true) ∧ Below W.heap.size W W' := by
  obtain ⟨fuel, hf⟩ := h2
  obtain ⟨ll, hll, hS, hlm, hsz⟩ := open_strs hf hw
  subst hll
  exact apart_walk A B E F A' B' E' F' ll a2 c2 W hT hS hlm hsz
 refine fin.mono fun e W' ⟨he, hb⟩ => ?_
 subst he
 exact ⟨_, rfl, law_post Tryz.laidOut (by kernel_rfl) (t := 4) rfl Tryz.underlying4 rfl hW' rfl rfl rfl hb⟩
theorem topApart_holds : Rows.TopApartSaid :=
 OpenClaim.holds_of_wide 3 Tryz.f3 rfl rfl rfl rfl rfl rfl rfl ⟨rfl, rfl, rfl, rfl, rfl⟩ rfl rfl rfl rfl rfl (by kernel_rfl) Tryz.func3 (by kernel_rfl)
  (of_decide_eq_true (by kernel_rfl)) (by unfold Func.isWrapper; first | (rw [if_pos (by decide +kernel)]; kernel_rfl) | (rw [if_neg (by decide +kernel)]; exact ⟨rfl, rfl⟩))
  (fun os started H enc _ => topApart_lifted os started H enc)
theorem topApart_stand (j : Nat) (t : TypeId) (h : Tryz.f3.params[j]? = some t) : Tryz.prog.wantsStandIn t = false := by
 rw [Tryz.params3] at h
 have hj : j < 3 := by
  have := (Array.getElem?_eq_some_iff.1 h).1
  simpa using this
 rcases (by omega : j = 0 ∨ j = 1 ∨ j = 2) with rfl | rfl | rfl
 ·have ht : t = 23 := by simpa using h.symm
  subst ht
  exact (show Tryz.prog.wantsStandIn 23 = false by kernel_rfl)
 ·have ht : t = 23 := by simpa using h.symm
  subst ht
  exact (show Tryz.prog.wantsStandIn 23 = false by kernel_rfl)
 have ht : t = 24 := by simpa using h.symm
 subst ht
 exact (show Tryz.prog.wantsStandIn 24 = false by kernel_rfl)
theorem topApartCard_holds : Rows.TopApartCardSaid :=
 Claim7.holds_tied_plain_at .later [] [.data] true (true, "10c10f9aaef2fa2ef77ed2104d4f84d24df9b502324ccf04e3583b3ec2c3504e") false
  topApart_holds (fun _ h => by cases h) (by kernel_rfl) (fun _ h => by cases h) topApart_row_tie rfl ⟨rfl, rfl⟩ (by kernel_rfl) rfl
  (fun f fn hf hfn => by
   obtain rfl : f = 3 := Option.some.inj ((show Tryz.prog.funcNamed "isthmus/isthmustop.TopApart" = some 3 by kernel_rfl).symm.trans hf) |>.symm
   obtain rfl : fn = Tryz.f3 := (Option.some.inj (Tryz.func3.symm.trans hfn)).symm
   exact ⟨by kernel_rfl, fun j t ht => topApart_stand j t ht⟩)
  (by kernel_rfl)
end Go.Proofs.YtoplbfijodebmaaGreatDoor
