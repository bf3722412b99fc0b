/-
  The walk.
-/
import Derived.Test.YtoplbfijodebmaaGreatDoorM17Makes
import Derived.LaidLaws
import Derived.Handed
import Derived.Lib.LaidTab
set_option linter.unusedVariables false
set_option linter.unusedSimpArgs false
set_option maxRecDepth 100000
set_option maxHeartbeats 40000000
namespace Go.Proofs.YtoplbfijodebmaaGreatDoor
open Go.ChangeShapes Go.WideShapes Go.ChangeAt Go.RowKit
theorem Tryz.ordersN : Tryz.prog.globalNamed "isthmus/blake.orders" = some 0 := by kernel_rfl
theorem Tryz.ordersType : (Tryz.prog.globals[0]?).map (·.type) = some 207 := by kernel_rfl
def rowI (i : Nat) : List Int := (sigma.getD i []).map fun n : Nat => (n : Int)
theorem rows_data {H : Type} : (Rows.laid_isthmus_blake_orders : DataW H) = .agg ((List.range 10).map fun i => Lib.tabData .u8 (rowI i)) := rfl
theorem row_cells (i : Nat) : ((rowI i).map fun z => Value.int .u8 z) = (us (sigma.getD i [])).toList := by simp [rowI, us]
set_option maxRecDepth 100000 in
theorem tab_of_laid {W : World} (h : laidMet Tryz.prog [("isthmus/blake.orders", Rows.laid_isthmus_blake_orders)] W) : Tab W := by
 obtain ⟨ps, ⟨g, t, cs, fuel, p, q, hg, ht, hvar, hd, _, _⟩, _⟩ := h
 obtain rfl := Option.some.inj (Tryz.ordersN.symm.trans hg)
 obtain rfl := Option.some.inj (Tryz.ordersType.symm.trans ht)
 obtain ⟨xs, m, _, hx, hl, hxl, hi⟩ := DataW.trod_array (show Tryz.prog.underlying 207 = some (.array 10 163) by kernel_rfl) hd
 have hc163 : Tryz.prog.cellsOf 163 = 16 := by kernel_rfl
 have hc207 : Tryz.prog.cellsOf 207 = 160 := by kernel_rfl
 rw [hc207] at hl
 have hx1 : xs.map (·.1) = (List.range 10).map fun i => (Lib.tabData .u8 (rowI i) : DataW Unit) := by
  have := congrArg Prod.fst hx
  rw [rows_data] at this
  simpa using this.symm
 refine ⟨fun j v hv => ?_⟩
 have hj : j < 160 := by
  have := (List.getElem?_eq_some_iff.1 hv).1
  rw [ordC_size] at this
  exact this
 rw [Nat.zero_add]
 have hcell := World.var?_cell hg hvar j
 rw [hcell]
 have hr : j / 16 < 10 := by omega
 have hrow := hi (j / 16) hr
 rw [hc163] at hrow
 have hlt : j / 16 < xs.length := by omega
 rw [List.getElem?_eq_getElem hlt] at hrow
 have hfst : (xs[j / 16]'hlt).1 = Lib.tabData .u8 (rowI (j / 16)) := by
  have := congrArg (fun l => l[j / 16]?) hx1
  simp only [List.getElem?_map, List.getElem?_eq_getElem hlt, Option.map_some, List.getElem?_range hr, Option.some.injEq] at this
  exact this
 obtain ⟨d, pl⟩ := nm (xs[j / 16]'hlt)
 rw [← pl] at hrow hfst
 obtain ⟨d1, d2⟩ := d
 simp only at hfst
 subst hfst
 have hcs := Lib.cells_of_tab (show Tryz.prog.underlying 163 = some (.array 16 5) by kernel_rfl) (show Tryz.prog.underlying 5 = some (.int .u8) by kernel_rfl) (show Tryz.prog.cellsOf 5 = 1 by kernel_rfl) hc163 hrow
 rw [row_cells, ← ordC_part (j / 16) hr] at hcs
 have e1 := congrArg (fun l => l[j % 16]?) hcs
 change ((cs.toList.drop (j / 16 * 16)).take 16)[j % 16]? = (ordC.extract (j / 16 * 16) (j / 16 * 16 + 16)).toList[j % 16]? at e1
 have e2 : (cs.toList.drop (j / 16 * 16))[j % 16]? = cs[j]? := by
  rw [List.getElem?_drop, show j / 16 * 16 + j % 16 = j by omega]
  simp
 rw [List.getElem?_take, if_pos (Nat.mod_lt _ (by decide)), e2] at e1
 rw [e1]
 have e3 : (ordC.extract (j / 16 * 16) (j / 16 * 16 + 16)).toList[j % 16]? = ordC.toList[j]? := by
  rw [Array.toList_extract, List.extract_eq_take_drop, List.getElem?_take, if_pos (by omega), List.getElem?_drop, show j / 16 * 16 + j % 16 = j by omega]
 rw [e3]
 exact hv
noncomputable def tabWorld (os : Os) : World :=
 let w0 := World.holding Tryz.prog os ⟨#[], #[], []⟩
 { w0 with heap := w0.heap.modify 0 fun
   | .cells _ t frozen => .cells ordC t frozen
   | o => o }
set_option maxRecDepth 100000 in
theorem tab_met (os : Os) (args : Array Value) : laidMet Tryz.prog [("isthmus/blake.orders", Rows.laid_isthmus_blake_orders)] ((tabWorld os).forCall (fun _ _ => 0) ⟨#[], args, []⟩).memory :=
 laidMet_of_run (ps := (List.range 160).map fun i => .cell 0 i) 8 (by kernel_rfl) (by kernel_rfl) (by kernel_rfl)
end Go.Proofs.YtoplbfijodebmaaGreatDoor
