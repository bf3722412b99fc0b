/-
  The script of a statement: its steps in memory; whether it is heavy.
-/
import Derived.Test.YtimoenlnkafhoaaWorks
import Derived.Deep.Slices
set_option linter.unusedVariables false
namespace Go.Proofs.Ytimoenlnkafhoaa
open Go.ChangeShapes Go.WideShapes Go.ChangeAt Go.RowKit
open Go.Deep

/-- A step of a script. -/
structure St where
  o : Int
  S : ByteArray
  n : Int
  m : Int

instance : Inhabited St := ⟨⟨0, .empty, 0, 0⟩⟩
def St.Ok (x : St) : Prop := x.n ≤ 9223372036854775807 ∧ x.m ≤ 9223372036854775807
def StepsAt (w : World) (ao : Option Addr) (l : List St) : Prop :=
  ∀ k (h : k < l.length), ∃ b off, ao = some ⟨b, off, none⟩ ∧ b < w.heap.size ∧ w.cell? ⟨b, off + k * 4, none⟩ = some (.int .i64 l[k].o) ∧ w.cell? ⟨b, off + k * 4 + 1, none⟩ = some (.string l[k].S) ∧
    w.cell? ⟨b, off + k * 4 + 2, none⟩ = some (.int .i64 l[k].n) ∧ w.cell? ⟨b, off + k * 4 + 3, none⟩ = some (.int .i64 l[k].m) ∧ l[k].Ok
theorem StepsAt.below {w w' : World} {ao : Option Addr} {l : List St} (h : StepsAt w ao l) (hb : Below w.heap.size w w') : StepsAt w' ao l := by
  intro k hk
  obtain ⟨b, off, h1, h2, h3, h4, h5, h6, h7⟩ := h k hk
  exact ⟨b, off, h1, Nat.lt_of_lt_of_le h2 hb.size, (hb.cell (p := ⟨b, _, none⟩) h2).trans h3, (hb.cell (p := ⟨b, _, none⟩) h2).trans h4, (hb.cell (p := ⟨b, _, none⟩) h2).trans h5, (hb.cell (p := ⟨b, _, none⟩) h2).trans h6, h7⟩

def sumS : List St → Nat
  | [] => 0
  | u :: us => u.S.size + sumS us
theorem sumS_append (us vs : List St) : sumS (us ++ vs) = sumS us + sumS vs := by
  induction us with
  | nil => simp [sumS]
  | cons u us ih => simp only [List.cons_append, sumS, ih]; omega
theorem sumS_take (us : List St) (k : Nat) : sumS (us.take k) ≤ sumS us := by
  have h := sumS_append (us.take k) (us.drop k)
  rw [List.take_append_drop] at h
  omega
theorem sumS_step (us : List St) (k : Nat) (h : k < us.length) : sumS (us.take (k + 1)) = sumS (us.take k) + us[k].S.size := by
  rw [List.take_succ_eq_append_getElem h, sumS_append]; simp [sumS]

/-- heavy. -/
def heavyB (l : List St) : Bool := decide (300 < l.length ∨ 65536 < sumS l)
theorem heavy_any (ao : Option Addr) (cap : Nat) (l : List St) (w : World) (H : Hid (StepsAt w ao l)) (hl : l.length ≤ maxLen) (hs : sumS l ≤ 1048576) :
    Calls Try.prog 8 #[.slice ao l.length cap] w fun e w' => e = .returned (.bool (heavyB l)) ∧ w = w' := by
  unfold maxLen at hl
  go_enter Try.func8, Try.ntmps8
  go_wp2_with fail
  go_loop [3, 4] (fun n i => ∃ k : Nat, k ≤ l.length ∧ i = .int .i64 k ∧ n = .int .i64 (sumS (l.take k) : Nat)) (fun _ i => l.length - (intOf i).toNat)
  case atStart => exact ⟨0, Nat.zero_le _, rfl, rfl⟩
  case round =>
    obtain ⟨k, hk, rfl, rfl⟩ := hrel
    have hs := sumS_take l k
    by_cases hlt : k < l.length
    · obtain ⟨b, off, hal, hbw, _, hc, _⟩ := H.out k hlt
      subst hal
      have hst := Lib.hid (sumS_step l k hlt)
      have hs2 : sumS (l.take k) + l[k].S.size ≤ sumS l := by rw [← sumS_step l k hlt]; exact sumS_take _ _
      obtain ⟨t, ht2⟩ : ∃ t, t = l[k].S := ⟨_, rfl⟩
      rw [← ht2] at hc hs2
      have HTT := Lib.hid ht2
      clear ht2
      go_wp2_with fail
      go_round
      case rel => exact ⟨k + 1, by omega, by go_num, by rw [hst.out, ← HTT.out]; go_num⟩
      case measure => simp [intOf]; omega
    · obtain rfl : k = l.length := by omega
      have hs3 : sumS (l.take l.length) = sumS l := by rw [List.take_length]
      rw [hs3] at hs ⊢
      clear hs3 hlt
      have hfin : heavyB l = (decide ((300 : Int) < l.length) || decide ((65536 : Int) < sumS l)) := by
        unfold heavyB
        rw [Bool.eq_iff_iff]
        simp only [decide_eq_true_eq, Bool.or_eq_true]
        omega
      have HF := Lib.hid hfin
      clear hfin
      by_cases h1 : 300 < l.length
      · go_wp2_with fail
        go_ret
        exact ⟨by rw [HF.out]; simp; omega, rfl⟩
      · go_wp2_with fail
        go_ret
        exact ⟨by rw [HF.out]; simp, rfl⟩

theorem Try.cells31 : Try.prog.cellsOf 31 = 4 := by kernel_rfl
theorem Try.cells3 : Try.prog.cellsOf 3 = 1 := by kernel_rfl
theorem Try.cells9 : Try.prog.cellsOf 9 = 1 := by kernel_rfl

theorem open_step {H : Type} {enc : TypeId × Value → H} {W : World} {fuel : Nat} {cs : List Value} {x : DataW H × List MemPlace} {base : Nat} {spare : Nat → Bool} {held : Bool}
    (h : DataW.trod enc Try.prog W base spare held fuel 31 cs = some x) :
    ∃ u : St, cs = [.int .i64 u.o, .string u.S, .int .i64 u.n, .int .i64 u.m] ∧ u.Ok ∧ u.S.size ≤ Rows.uptoBulk x.1 := by
  obtain ⟨xs, n, _, hx, hlen, hxl, hf⟩ := DataW.trod_struct Try.underlying31 h
  rw [Try.cells31] at hlen
  match cs, hlen with
  | [c0, c1, c2, c3], _ =>
    have g0 := hf 0 _ rfl
    have g1 := hf 1 _ rfl
    have g2 := hf 2 _ rfl
    have g3 := hf 3 _ rfl
    simp [Try.cells3, Try.cells9] at g0 g1 g2 g3
    match xs, hxl with
    | [y0, y1, y2, y3], _ =>
      obtain ⟨a, e0, _, _⟩ := DataW.trod_int Try.underlying3 g0
      obtain ⟨s, e1, f1, _⟩ := DataW.trod_string Try.underlying9 g1
      obtain ⟨b, e2, _, w2⟩ := DataW.trod_int Try.underlying3 g2
      obtain ⟨c, e3, _, w3⟩ := DataW.trod_int Try.underlying3 g3
      simp only [List.cons.injEq, and_true] at e0 e1 e2 e3
      subst e0 e1 e2 e3
      refine ⟨⟨a, s, b, c⟩, rfl, ?_, ?_⟩
      · have h2 : -9223372036854775808 ≤ b ∧ b ≤ 9223372036854775807 := by simpa [Lit.wf, IntKind.min, IntKind.max, IntKind.signed, IntKind.bits] using w2
        have h3 : -9223372036854775808 ≤ c ∧ c ≤ 9223372036854775807 := by simpa [Lit.wf, IntKind.min, IntKind.max, IntKind.signed, IntKind.bits] using w3
        exact ⟨h2.2, h3.2⟩
      · rw [hx]
        simp only [List.map_cons, List.map_nil, Rows.uptoBulk, Rows.uptoBulkAll]
        have hy : y1.1 = .lit (.string s.data.toList) := by rw [f1]
        rw [hy]
        simp only [Rows.uptoBulk]
        have e : s.data.toList.length = s.size := by rw [Array.length_toList]; rfl
        show s.size ≤ _
        omega

theorem open_script {H : Type} {enc : TypeId × Value → H} {W : World} {fuel : Nat} {ao : Option Addr} {len cap : Nat} {d : DataW H} {p : List MemPlace}
    (hf : DataW.trod enc Try.prog W 0 (fun _ => true) true fuel 23 (Value.slice ao len cap).cells.toList = some (d, p)) :
    ∃ l : List St, l.length = len ∧ StepsAt W ao l ∧ len ≤ maxLen ∧ sumS l ≤ Rows.uptoBulk d := by
  have hop := open_slice (P := Try.prog) Try.underlying23 hf
  rcases hop with ⟨hcs, _⟩ | ⟨a, len', cap', m, n, D, Pl, hcs, _, hl, hm, hmm, hx, hel⟩
  · simp [Value.cells] at hcs
    obtain ⟨rfl, rfl, rfl⟩ := hcs
    exact ⟨[], rfl, fun k hk => absurd hk (by simp), Nat.zero_le _, Nat.zero_le _⟩
  · simp [Value.cells] at hcs
    obtain ⟨rfl, rfl, rfl⟩ := hcs
    simp only [if_true] at hmm
    subst hmm
    simp only [Prod.mk.injEq] at hx
    obtain ⟨rfl, rfl⟩ := hx
    have each : ∀ i, i < len → ∃ u : St, W.cell? (a.add (i * 4)) = some (.int .i64 u.o) ∧ W.cell? (a.add (i * 4 + 1)) = some (.string u.S) ∧ W.cell? (a.add (i * 4 + 2)) = some (.int .i64 u.n) ∧ W.cell? (a.add (i * 4 + 3)) = some (.int .i64 u.m) ∧ u.Ok ∧ u.S.size ≤ Rows.uptoBulk (D i) := by
      intro i hi
      obtain ⟨cs, h1, h2⟩ := hel i (by omega)
      rw [Try.cells31] at h1
      obtain ⟨_, hlen, hcell⟩ := World.cells?_some h1
      obtain ⟨u, rfl, hu, hb⟩ := open_step h2
      have e0 := hcell 0 (by decide)
      have e1 := hcell 1 (by decide)
      have e2 := hcell 2 (by decide)
      have e3 := hcell 3 (by decide)
      rw [add_add] at e0 e1 e2 e3
      exact ⟨u, by simpa using e0, by simpa using e1, by simpa using e2, by simpa using e3, hu, hb⟩
    obtain ⟨q, hq⟩ := choose_lt each
    refine ⟨(List.range len).map q, by simp, fun k hk => ?_, by omega, ?_⟩
    · have hk' : k < len := by simpa using hk
      obtain ⟨b, off, spot⟩ := a
      have hspot : spot = none := by simpa [Addr.add] using World.cell?_spot (hq 0 (by omega)).1
      subst hspot
      obtain ⟨e0, e1, e2, e3, hu, _⟩ := hq k hk'
      rw [add_plain] at e0 e1 e2 e3
      simp only [List.getElem_map, List.getElem_range]
      exact ⟨b, off, rfl, World.block_lt_of_cell? _ _ e0, e0, e1, e2, e3, hu⟩
    · have h : ∀ xs : List Nat, (∀ i ∈ xs, i < len) → sumS (xs.map q) ≤ Rows.uptoBulkAll (xs.map D) := by
        intro xs
        induction xs with
        | nil => intro _; exact Nat.zero_le _
        | cons i xs ih =>
          intro hi
          have h1 := ih (fun j hj => hi j (List.mem_cons_of_mem _ hj))
          have h2 := (hq i (hi i (by simp))).2.2.2.2.2
          simp only [List.map_cons, sumS, Rows.uptoBulkAll]
          omega
      have := h (List.range len) (fun i hi => List.mem_range.1 hi)
      simp only [Rows.uptoBulk]
      omega

end Go.Proofs.Ytimoenlnkafhoaa
