/-
  The disk's calls: Copy, Same; what no disk answers; the statements' small run.
-/
import Derived.Test.YtimoenlnkafhoaaCalls2
import Derived.Laws.AppendOwnNone
set_option linter.unusedVariables false
namespace Go.Proofs.Ytimoenlnkafhoaa
open Go.RowKit
open Go.Lib (strCells)

theorem strCells_length (s : ByteArray) : (strCells s).length = s.size := by simp [strCells]
theorem strCells_one (s : ByteArray) : ∀ u ∈ strCells s, u.oneCell' = true := by
  intro u hu
  simp only [strCells, List.mem_map] at hu
  obtain ⟨b, _, rfl⟩ := hu
  rfl

/-- 'append([]byte(nil), bytes...)', as a step of a region that draws. -/
theorem step_append_copy {ops : Array Oper} {o : Oper} {a : Act} {w : World} {K : Act → World → Prop} {Q : Exit → Act → World → Prop} {E : Prop}
    (hg : o.guard = none) (s x : Operand) (hop : o.op = Op.call { callee := Callee.builtin Builtin.append, args := #[s, x], argTypes := #[54, 54] })
    {i : TypeInfo} (hi : Try.prog.info? 5 = some i) (hz : i.zero = some (.int .u8 0)) (hsize : i.size = 1) (hby : i.bytes = 1)
    (hs : a.eval s = .slice none 0 0) {v : Value} {S : ByteArray} (hx : a.eval x = v) (hown : w.ownsRow 0 5 1 v S.size (strCells S)) (hb : S.size ≤ 1048576)
    (hK : ∀ v' w', w'.ownsRow 0 5 1 v' S.size (strCells S) → w.grownBy w' none → (∀ g, v'.ownBlock = some g → w.heap.size ≤ g) → K (a.put o.dst v') w') :
    if Region.wanted o (yielded ops a.tmps) = true then Oper.wp Try.prog o a w K Q else E := by
  have hw : Region.wanted o (yielded ops a.tmps) = true := by simp [Region.wanted, hg]
  rw [if_pos hw]
  rcases hown.2 with ⟨rfl, hn⟩ | ⟨g, cap, cur, rfl, _, hh, hnc, _, hcs, _⟩
  · have hrun := run_append_owned_none (P := Try.prog) (w := w) 0 54 o.type 5 i 1 Try.underlying54 hi (.slice none 0 0) 0 [] (World.ownsRow_nil _ _ _ _)
    unfold Oper.wp
    simp [execOp, hop, resolve, invoke, builtin, hs, hx, hrun, Result.andThen]
    refine hK _ _ ?_ ⟨rfl, rfl, rfl, Nat.le_refl _, fun _ _ _ => rfl⟩ (fun g hg => by simp [Value.ownBlock] at hg)
    have hs0 : strCells S = [] := List.eq_nil_of_length_eq_zero (by rw [strCells_length]; exact hn)
    rw [hn, hs0]
    exact World.ownsRow_nil _ _ _ _
  · obtain ⟨v', w', hr, h2, h3, _⟩ := run_append_own (P := Try.prog) w w.heap.size 54 o.type 5 i (.int .u8 0) 1 1 Try.underlying54 hi hz hsize hby rfl (by decide) (.slice none 0 0) 0 [] (World.ownsRow_nil _ _ _ _) ⟨g, 0, none⟩ S.size cap (strCells S) (by rw [strCells_length, Nat.mul_one]) (hown.cells (g := g) rfl) (strCells_one S) (by unfold maxLen; omega) (by omega) (Nat.le_refl _)
    unfold Oper.wp execOp
    simp only [hop, resolve, invoke, builtin, Sem.run_bind, Sem.run_pure, Result.andThen_ok, List.map_toArray, List.map_cons, List.map_nil, hs, hx, hr]
    simp only [Nat.zero_add, List.nil_append] at h2
    refine hK v' w' ?_ h3 (fun g' hg' => (h2.lt g' hg').1)
    exact ⟨h2.1, by
      rcases h2.2 with h | ⟨g', cap', cur', e1, _, e3⟩
      · exact Or.inl h
      · exact Or.inr ⟨g', cap', cur', e1, Nat.zero_le _, e3⟩⟩

/-- What Copy leaves. -/
def Copied (x : DS) (w : World) (e : Ending) (w' : World) : Prop :=
  ∃ d v, e = .returned (.pointer (some ⟨d, 0, none⟩)) ∧ DiskV w' d v x.copy ∧ Below w.heap.size w w' ∧ w.heap.size ≤ d ∧ (∀ g, v.ownBlock = some g → w.heap.size ≤ g)

theorem copy_any (d : Nat) (v : Value) (x : DS) (w : World) (h : DiskV w d v x) :
    Calls Try.prog 23 #[.pointer (some ⟨d, 0, none⟩)] w (Copied x w) := by
  have c2 := h.c2
  have c3 := h.c3
  have c4 := h.c4
  have k2 : x.S.size ≤ 1048576 := Nat.le_trans h.ok.size h.ok.room
  obtain ⟨i0, hi, hz, hz1, hz2⟩ := info_parts Try.info5
  go_enter Try.func23, Try.ntmps23
  go_wp2_with fail
  go_region_held3 (fun w' => w'.cell? ⟨d, 2, none⟩ = some (.int .i64 x.room) ∧ w'.cell? ⟨d, 3, none⟩ = some v ∧ w'.cell? ⟨d, 4, none⟩ = some (.int .i64 x.k)) (first | (refine ⟨?_, ?_, ?_⟩ <;> (first | assumption | (refine (World.cell?_alloc_old _ _ _ ?_).trans ?_ <;> assumption) | (simp; done))) | assumption | (refine (World.cell?_alloc_old _ _ _ ?_).trans ?_ <;> assumption)) (first | (refine step_append_copy rfl _ _ rfl hi hz hz1 hz2 rfl rfl h.drew.own k2 ?_; intro v' w' own' gr' trk'; obtain ⟨ao, cap, rfl⟩ := own_shape own'; have n2 : d ≠ w'.heap.size := Nat.ne_of_lt (Nat.lt_of_lt_of_le h.lt gr'.size); have a2 := (World.cell?_of_block (a := ⟨d, 2, none⟩) (gr'.block d h.lt (by simp))).trans c2; have a3 := (World.cell?_of_block (a := ⟨d, 3, none⟩) (gr'.block d h.lt (by simp))).trans c3; have a4 := (World.cell?_of_block (a := ⟨d, 4, none⟩) (gr'.block d h.lt (by simp))).trans c4))
  go_wp2_with fail
  go_ret
  have hsz : w.heap.size ≤ w'.heap.size := gr'.size
  have hb : Below w.heap.size w w' := ⟨gr'.os, gr'.tape, gr'.output, gr'.size, fun j hj => gr'.block j hj (by simp)⟩
  refine ⟨w'.heap.size, _, rfl, ⟨heap_alloc_new w' _, own'.alloc _, fun e => ?_, h.ok.copy⟩, hb.alloc hsz _, hsz, trk'⟩
  have := (own'.lt _ e).2
  omega

end Go.Proofs.Ytimoenlnkafhoaa
