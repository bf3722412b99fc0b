/-
  The walk.
-/
import Derived.Test.YtoplbfijodebmaaGreatDoorM18Hmac
import Derived.Lib.BufferRead
import Derived.Deep.RegionHeld3
import Derived.OwnWalk
import Derived.WalkMore
import Derived.ScopeJumps
import Derived.Outline
set_option linter.unusedVariables false
set_option linter.unusedSimpArgs false
set_option maxRecDepth 100000
set_option maxHeartbeats 40000000
namespace Go.Proofs.YtoplbfijodebmaaGreatDoor
section
open Go.RowKit
open Go.Lib (strCells)
theorem und9 : Tryz.prog.underlying 9 = some .string := by kernel_rfl
def lastT (key info : ByteArray) : Nat → ByteArray
 | 0 => .empty
 | i + 1 => hmacS key (lastT key info i ++ info ++ ⟨#[UInt8.ofNat (i + 1)]⟩)
def outT (key info : ByteArray) : Nat → ByteArray
 | 0 => .empty
 | i + 1 => outT key info i ++ lastT key info (i + 1)
def expN (n : Nat) : Nat := (n + 31) / 32
def expS (key info : ByteArray) (n : Nat) : ByteArray := (outT key info (expN n)).extract 0 n
theorem lastT_size (key info : ByteArray) (i : Nat) : (lastT key info i).size ≤ 32 := by
 cases i with
 | zero => exact (by decide : (0 : Nat) ≤ 32)
 | succ i => exact Nat.le_of_eq (hmacS_size _ _)
theorem lastT_size1 (key info : ByteArray) (i : Nat) : (lastT key info (i + 1)).size = 32 := hmacS_size _ _
theorem outT_size (key info : ByteArray) : ∀ i, (outT key info i).size = 32 * i
 | 0 => rfl
 | i + 1 => by
  show (outT key info i ++ lastT key info (i + 1)).size = _
  rw [ByteArray.size_append, outT_size key info i, lastT_size1]
  omega
theorem expS_size (key info : ByteArray) (n : Nat) : (expS key info n).size = n := by
 unfold expS
 rw [ext_size _ _ _ (by rw [outT_size]; unfold expN; omega)]
 omega
theorem wp_scope_key {P : Program} {a : Act} {w : World} {Q : Exit → Act → World → Prop} {c R : Code} (l : Nat) (J : Act → World → Prop) (μ : Act → World → Nat) (hf : findLabel c l = some (Code.skip.seq R))
  (pass : ∀ a w, J a w → R.wp P (Exit.jump l (fun a' w' => J a' w' ∧ μ a' w' < μ a w) Q) a w)
  (first : (∀ a w, J a w → R.wp P (Exit.jump l J Q) a w) → c.wp P (Exit.jump l J Q) a w) : (Code.scope c).wp P Q a w :=
 wp_scope_jumps l J μ hf (first (fun a w h => Code.wp_mono (fun e a' w' he => by
  cases e <;> first | exact he | exact ⟨he.1, he.2.1⟩) (pass a w h))) (fun a w h => wp_seq (wp_skip (pass a w h)))
theorem rndI (i n : Nat) (h : i ≤ expN n) (hlt : 32 * i < n) (hn : n ≤ 8160) : ∃ X : Nat, X = i + 1 ∧ (i : Int) + 1 = X ∧ IntKind.u8.wrap ((i : Int) + 1) = X ∧ X ≤ expN n ∧ X < 256 ∧ (0 : Int) ≤ X ∧ (X : Int) < 256 ∧ 32 * i + 32 ≤ maxLen ∧ 32 * i + 32 ≤ 140737488355328 := by
 refine ⟨i + 1, rfl, by omega, ?_, by unfold expN; omega, by omega, by omega, by omega, by unfold maxLen; omega, by omega⟩
 rw [IntKind.wrap_u8]
 omega
theorem rndO (i n : Nat) (h : i ≤ expN n) (hlt : ¬ 32 * i < n) : i = expN n ∧ n ≤ 32 * i := by unfold expN at *; omega
theorem lt32I {i n : Nat} (h : 32 * i < n) : ((32 * i : Nat) : Int) < n := Int.ofNat_lt.2 h
theorem nlt32I {i n : Nat} (h : ¬ 32 * i < n) : ¬ ((32 * i : Nat) : Int) < n := fun e => h (Int.ofNat_lt.1 e)
theorem one_conv {u : World} {b X : Nat} (h : X < 256) (hb : u.heap[b]? = some (.cells #[.int .u8 (X : Int)] 5)) : (convert 52 9 (.slice (some ⟨b, 0, none⟩) 1 1)).run Tryz.prog u = .ok (.string ⟨#[UInt8.ofNat X]⟩) u := by
 have := run_convert_bytes_back (P := Tryz.prog) u 52 9 5 ⟨b, 0, none⟩ 1 [UInt8.ofNat X] Tryz.underlying52 (by kernel_rfl) (by kernel_rfl) (fun j hj => by
  have hj0 : j = 0 := by simpa using hj
  subst hj0
  rw [Addr.add_mid]
  unfold World.cell?
  rw [hb]
  simp
  omega)
 exact this
def AtL (key info : ByteArray) (n : Nat) (w : World) (a : Act) (w' : World) : Prop :=
 ∃ (i : Nat) (v u11 u12 u13 u14 u15 u16 u17 u18 u19 u20 u21 u22 u23 u24 u25 u26 u27 u28 u29 u30 u31 u32 u33 u34 u35 u36 u37 u38 : Value), a = { tmps := #[.string key, .string info, .int .i64 n, undef, undef, undef, .string .empty, .int .i64 0, v, .string (lastT key info i), .int .u8 i, u11, u12, u13, u14, u15, u16, u17, u18, u19, u20, u21, u22, u23, u24, u25, u26, u27, u28, u29, u30, u31, u32, u33, u34, u35, u36, u37, u38], defers := [] } ∧
  i ≤ expN n ∧ w'.ownsRow w.heap.size 5 1 v (32 * i) (strCells (outT key info i)) ∧ Below w.heap.size w w'
theorem own_cap {B M cap : Nat} {ao : Option Addr} {w : World} {xs : List Value} (h : w.ownsRow B 5 1 (.slice ao M cap) M xs) : M ≤ cap := by
 rcases h.2 with ⟨hv, hn⟩ | ⟨g, c, cur, hv, _, _, hn, _⟩
 ·omega
 cases hv; exact hn
theorem own_conv_pre {B M cap n : Nat} {ao : Option Addr} {w : World} {s : ByteArray} (h : w.ownsRow B 5 1 (.slice ao M cap) M (strCells s)) (hM : M = s.size) (hn : n ≤ M) : (convert 52 9 (.slice ao n cap)).run Tryz.prog w = .ok (.string (s.extract 0 n)) w := by
 rcases h.2 with ⟨hv, h0⟩ | ⟨g, c, cur, hv, _⟩
 ·cases hv
  have hn0 : n = 0 := by omega
  subst hn0
  rw [ext_nil]
  exact Lib.run_convert_nil_bytes w 52 9 5 0 Tryz.underlying52 (by kernel_rfl) (by kernel_rfl)
 cases hv
 have hc := h.cells (g := g) rfl
 have hd : s.data.size = s.size := rfl
 have hl : (s.data.toList.take n).length = n := by rw [List.length_take, Array.length_toList]; omega
 have := run_convert_bytes_back (P := Tryz.prog) w 52 9 5 ⟨g, 0, none⟩ cap (s.data.toList.take n) Tryz.underlying52 (by kernel_rfl) (by kernel_rfl) (fun j hj => by
  have hx : j < (strCells s).length := by simp [strCells]; omega
  rw [hc j _ (List.getElem?_eq_getElem hx)]
  simp [strCells])
 rw [hl] at this
 rw [this]
 congr 2
 apply ByteArray.ext
 rw [ByteArray.data_extract]
 apply Array.toList_inj.1
 simp
def muL (n : Nat) (a : Act) : Nat := expN n - (intOf (a.tmps.getD 10 undef)).toNat
theorem mu_lt {n i X : Nat} (hX : X = i + 1) (h : X ≤ expN n) : expN n - (intOf (.int .u8 (X : Int))).toNat < expN n - (intOf (.int .u8 (i : Int))).toNat := by
 simp [intOf]
 omega
theorem expand_any (key info : ByteArray) (n : Nat) (w : World) (hT : Tab w) (hk : key.size ≤ 10000) (hi : info.size ≤ 9000) (hn : n ≤ 8160) :
  Calls Tryz.prog 88 #[.string key, .string info, .int .i64 n] w fun e w' => e = .returned (.tuple #[.string (expS key info n), .int .i64 0]) ∧ Below w.heap.size w w' := by
 have HT := hDx (And.intro hT (And.intro hk (And.intro hi hn)))
 have n1 : (0 : Int) ≤ n := by omega
 have n2 : (n : Int) ≤ 8160 := by omega
 clear hT hk hi hn
 go_enter Tryz.func88, Tryz.ntmps88
 go_wp2_with fail
 refine wp_scope_key 0 (AtL key info n w) (fun a _ => muL n a) rfl ?pass ?first
 case first =>
  intro hrest
  go_wp2_with fail
  go_step3
  rename_i K0 hK0
  refine hK0 _ _ (hrest _ _ ?_)
  exact ⟨0, .slice none 0 0, _, _, _, _, _, _, _, _, _, _, _, _, _, _, _, _, _, _, _, _, _, _, _, _, _, _, _, _, rfl, Nat.zero_le _, World.ownsRow_nil _ _ _ _, Below.refl _ _⟩
 case pass =>
  rintro a w1 ⟨i, v, u11, u12, u13, u14, u15, u16, u17, u18, u19, u20, u21, u22, u23, u24, u25, u26, u27, u28, u29, u30, u31, u32, u33, u34, u35, u36, u37, u38, rfl, hin, own, bl⟩
  obtain ⟨ao, cap, rfl⟩ := own_shape own
  have HO := hDx (And.intro own (And.intro bl hin))
  clear own bl hin
  by_cases hlt : 32 * i < n
  ·obtain ⟨X, hX, x1, x2, x3, x4, x5, x6, x7, x8⟩ := rndI i n HO.out.2.2 hlt HT.out.2.2.2
   have l1 := lt32I hlt
   have HX := hDx (And.intro hX (And.intro x3 (And.intro x4 (And.intro x7 (And.intro x8 hlt)))))
   clear hX x3 x4 x7 x8 hlt
   obtain ⟨M, hM⟩ : ∃ M, M = 32 * i := ⟨_, rfl⟩
   rw [← hM] at l1 ⊢
   have HM := hDx hM
   clear hM
   obtain ⟨L, hL⟩ := nm (lastT key info i)
   rw [← hL]
   have hLs : L.size ≤ 32 := by rw [hL]; exact lastT_size _ _ _
   obtain ⟨C, hC⟩ : ∃ C : ByteArray, C = ⟨#[UInt8.ofNat X]⟩ := ⟨_, rfl⟩
   have hCs : C.size = 1 := by rw [hC]; rfl
   have a1 := addS L info (by have := HT.out.2.2.1; omega)
   have a2 := addS (L ++ info) C (by rw [ByteArray.size_append, hCs]; have := HT.out.2.2.1; omega)
   have hcv : (convert 52 9 (.slice (some ⟨w1.heap.size, 0, none⟩) 1 1)).run Tryz.prog (w1.alloc (.cells #[.int .u8 (X : Int)] 5)) = .ok (.string C) (w1.alloc (.cells #[.int .u8 (X : Int)] 5)) := by rw [hC]; exact one_conv HX.out.2.2.1 (heap_alloc_last w1 _)
   have hz : (L ++ info ++ C).size ≤ 10000 := by rw [ByteArray.size_append, ByteArray.size_append, hCs]; have := HT.out.2.2.1; omega
   have HZ := hDx (And.intro hz (And.intro hL hC))
   have BW := HO.out.2.1.alloc HO.out.2.1.size (.cells #[.int .u8 (X : Int)] 5)
   have OW := HO.out.1.alloc (.cells #[.int .u8 (X : Int)] 5)
   have HW := hDx (And.intro OW BW)
   clear hz hL hC hLs hCs BW OW
   go_wp2_with fail
   refine (hmac_any key (L ++ info ++ C) _ (HT.out.1.more HW.out.2) HZ.out.1 HT.out.2.1).mono ?_
   rintro e w2 ⟨rfl, B2⟩
   obtain ⟨T, hTT⟩ := nm (hmacS key (L ++ info ++ C))
   rw [← hTT]
   have hTs : T.size = 32 := by rw [hTT]; exact hmacS_size _ _
   have hTl : T = lastT key info X := by rw [hTT, HZ.out.2.1, HZ.out.2.2, HX.out.1]; rfl
   have own2 := HW.out.1.kept (row := Option.none) ⟨B2.os, B2.tape, B2.output, B2.size, fun j hj _ => B2.block j hj⟩ (Classical.em _)
   rw [← HM.out] at own2
   have B3 := HW.out.2.trans (B2.mono HW.out.2.size)
   obtain ⟨i0, hi, hz, hz1, hz2⟩ := info5_parts
   have HO2 := hDx (And.intro own2 (And.intro B3 (And.intro hTs hTl)))
   have HI := hDx (And.intro hi (And.intro hz (And.intro hz1 hz2)))
   clear own2 B3 B2 hTl hTs hTT hi hz hz1 hz2 hcv a1 a2
   simp only []
   go_wp2_with (at_builtin; go_must (refine Lib.wpList_append_own_string _ rfl _ _ 52 9 rfl w.heap.size 5 i0 Tryz.underlying52 und9 HI.out.1 HI.out.2.1 HI.out.2.2.1 HI.out.2.2.2 _ _ _ rfl HO2.out.1 T rfl ?c1 ?c2 HO2.out.2.1.size ?_))
   case c1 => rw [HO2.out.2.2.1, HM.out]; exact HX.out.2.2.2.1
   case c2 => rw [HO2.out.2.2.1, HM.out]; exact HX.out.2.2.2.2.1
   intro v' w3 own3 gr3 _
   have B4 := HO2.out.2.1.grown gr3 HO2.out.2.1.size (fun g hg => (HO2.out.1.lt g hg).1)
   have own4 : w3.ownsRow w.heap.size 5 1 v' (32 * X) (strCells (outT key info X)) := by
    have e1 : M + T.size = 32 * X := by rw [HO2.out.2.2.1, HM.out, HX.out.1]; omega
    have e2 : strCells (outT key info i) ++ strCells T = strCells (outT key info X) := by
     rw [HO2.out.2.2.2, HX.out.1]
     show _ = strCells (outT key info i ++ lastT key info (i + 1))
     simp [strCells, ByteArray.data_append]
    rw [e1, e2] at own3
    exact own3
   have HF := hDx (And.intro own4 (And.intro B4 HO2.out.2.2.2))
   clear own4 own3 gr3 B4
   go_wp2_with fail
   go_step3
   refine ⟨rfl, ⟨X, v', _, _, _, _, _, _, _, _, _, _, _, _, _, _, _, _, _, _, _, _, _, _, _, _, _, _, _, _, by rw [← HF.out.2.2], HX.out.2.1, HF.out.1, HF.out.2.1⟩, ?_⟩
   exact mu_lt HX.out.1 HX.out.2.1
  obtain ⟨hie, hno⟩ := rndO i n HO.out.2.2 hlt
  have l1 := nlt32I hlt
  have hcap := own_cap HO.out.1
  have l2 : (n : Int) ≤ cap := by omega
  have hcv := own_conv_pre HO.out.1 (outT_size key info i).symm (n := n) hno
  have hout : (outT key info i).extract 0 n = expS key info n := by rw [hie]; rfl
  rw [hout] at hcv
  obtain ⟨OUT, hOUT⟩ := nm (expS key info n)
  rw [← hOUT] at hcv
  have HB := hDx (And.intro HO.out.2.1 hOUT)
  clear hie hno hlt hcap hout hOUT
  go_wp2_with fail
  simp only [Exit.jump]
  go_ret2
  exact ⟨by rw [HB.out.2]; rfl, HB.out.1⟩
end
section
open Go.RowKit
open Go.Lib (strCells)
def linkS (key s : ByteArray) (n i : Nat) : ByteArray := (expS (hmacS key s) .empty (32 * n)).extract (32 * i) (32 * i + 32)
theorem und33 : Tryz.prog.underlying 24 = some (.slice 9) := by kernel_rfl
theorem lkI (z n : Nat) (h : z < n) (hn : n ≤ 3) : ∃ A B : Nat, A = 32 * z ∧ B = 32 * z + 32 ∧ (z : Int) * 32 = A ∧ 32 * (z : Int) = A ∧ ((z : Int) + 1) * 32 = B ∧ (A : Int) + 32 = B ∧ IntKind.i64.wrap (A : Int) = A ∧ IntKind.i64.wrap (B : Int) = B ∧ wrap64 (A : Int) = A ∧ wrap64 (B : Int) = B ∧ (0 : Int) ≤ A ∧ (A : Int) ≤ B ∧ (B : Int) ≤ ((32 * n : Nat) : Int) ∧ A ≤ B ∧ B ≤ 32 * n ∧ (z : Int) < n ∧ (0 : Int) ≤ z := by
 refine ⟨32 * z, 32 * z + 32, rfl, rfl, by omega, by omega, by omega, by omega, IntWalk.i64_in _ (by omega), IntWalk.i64_in _ (by omega), by unfold wrap64; omega, by unfold wrap64; omega, by omega⟩
theorem nI (n : Nat) (h1 : 1 ≤ n) (h3 : n ≤ 3) : ∃ M : Nat, M = 32 * n ∧ (n : Int) * 32 = M ∧ 32 * (n : Int) = M ∧ IntKind.i64.wrap (M : Int) = M ∧ wrap64 (M : Int) = M ∧ M ≤ 8160 ∧ (1 : Int) ≤ n ∧ (n : Int) ≤ 3 :=
 ⟨32 * n, rfl, by omega, by omega, IntWalk.i64_in _ (by omega), by unfold wrap64; omega, by omega⟩
def lkV (key s : ByteArray) (n z j : Nat) : Value := .string (if j < z then linkS key s n j else .empty)
theorem lk_step {w : World} {b t n z : Nat} {key s L : ByteArray} (h : w.rowIs b t n (lkV key s n z)) (hL : L = linkS key s n z) : (w.setCell ⟨b, z, none⟩ (.string L)).rowIs b t n (lkV key s n (z + 1)) := by
 refine (h.set _ _).congr (fun j hj => ?_)
 unfold lkV
 by_cases e : j = z
 ·subst e
  rw [if_pos rfl, if_pos (by omega), hL]
 rw [if_neg e]
 by_cases e2 : j < z
 ·rw [if_pos e2, if_pos (by omega)]
 rw [if_neg e2, if_neg (by omega)]
def Links (key s : ByteArray) (n : Nat) (w : World) (e : Ending) (w' : World) : Prop :=
 ∃ g cap, e = .returned (.tuple #[.slice (some ⟨g, 0, none⟩) n cap, .int .i64 0]) ∧ (∀ i, i < n → w'.cell? ⟨g, i, none⟩ = some (.string (linkS key s n i))) ∧ Below w.heap.size w w'
theorem chain_any (key s : ByteArray) (n : Nat) (w : World) (hT : Tab w) (hk : key.size ≤ 10000) (hs : s.size ≤ 9000) (h1 : 1 ≤ n) (h3 : n ≤ 3) :
  Calls Tryz.prog 63 #[.string key, .string s, .int .i64 n] w (Links key s n w) := by
 have HT := hDx (And.intro hT (And.intro hk (And.intro hs (And.intro h1 h3))))
 obtain ⟨M, hM, m1, m2, m3, m4, m5, n1, n2⟩ := nI n h1 h3
 have HM := hDx (And.intro hM m5)
 have hmk := run_make_row' (P := Tryz.prog) 24 9 (.string .empty) 16 und33 (show (Tryz.prog.info? 9).map (fun i => (i.zero, i.size, i.bytes)) = some (some (.string .empty), 1, 16) by kernel_rfl) rfl .i64 .i64 n (by omega) (by omega)
 have HMK := hDx hmk
 clear hT hk hs h1 h3 hM m5 hmk
 go_enter Tryz.func63, Tryz.ntmps63
 go_wp2_with fail
 refine (extract_any key s _ HT.out.1 (by have := HT.out.2.2.1; omega) HT.out.2.1).mono ?_
 rintro e w1 ⟨rfl, B1⟩
 have H1 := hDx B1
 clear B1
 simp only []
 go_wp2_with fail
 refine (expand_any (hmacS key s) .empty M _ (HT.out.1.more H1.out) (by rw [hmacS_size]; decide) (by decide) HM.out.2).mono ?_
 rintro e w2 ⟨rfl, B2⟩
 have H2 := hDx (H1.out.trans (B2.mono H1.out.size))
 clear B2
 obtain ⟨all, hall⟩ := nm (expS (hmacS key s) .empty M)
 have has : all.size = 32 * n := by rw [hall, expS_size, HM.out.1]
 rw [← hall]
 have HA := hDx (And.intro hall has)
 clear hall has
 simp only []
 have hmk := HMK.out
 go_wp2_with fail
 clear hmk
 have R0 := World.rowIs_made w2 (.string .empty) n 9
 have B3 := H2.out.alloc H2.out.size (.cells (madeCells #[.string .empty] n) 9)
 have hg := H2.out.size
 obtain ⟨g, hgg⟩ := nm w2.heap.size
 rw [← hgg] at R0 hg
 rw [← hgg]
 obtain ⟨w3, hw3⟩ := nm (w2.alloc (.cells (madeCells #[.string .empty] n) 9))
 rw [← hw3] at R0 B3
 rw [← hw3]
 have H3 := hDx (And.intro R0 (And.intro B3 hg))
 clear R0 B3 hg hgg hw3
 go_loopw [34] (fun i wr => ∃ z : Nat, z ≤ n ∧ i = .int .i64 z ∧ wr.rowIs g 9 n (lkV key s n z) ∧ Below w.heap.size w wr) (fun i _ => n - (intOf i).toNat)
 case atStart => exact ⟨0, Nat.zero_le _, rfl, H3.out.1.congr (fun j _ => rfl), H3.out.2.1⟩
 obtain ⟨z, hz, rfl, R, B⟩ := hrel
 have HR := hDx (And.intro R B)
 clear R B
 by_cases hlt : z < n
 ·obtain ⟨A, B, hA, hB, q1, q2, q3, q4, q5, q6, q7, q8, l1, l2, l3, l4, l5, l6, l7⟩ := lkI z n hlt HT.out.2.2.2.2
  rw [← HA.out.2] at l3 l5
  have c0 := HR.out.1.cell hlt
  have f0 := HR.out.1.frozen z
  have hL : all.extract A B = linkS key s n z := by rw [HA.out.1, HM.out.1, hA, hB]; rfl
  obtain ⟨L, hLL⟩ := nm (all.extract A B)
  rw [← hLL] at hL
  have N1 := lk_step HR.out.1 hL
  have NB := HR.out.2.setCell (p := ⟨g, z, none⟩) H3.out.2.2 (.string L)
  have hsl : ∀ u, (Instr.slice 9 (.string all) (some (.int .i64 A)) (some (.int .i64 B)) none).run Tryz.prog u = .ok (.string L) u := fun u => by rw [hLL]; exact run_slice_string u 9 all .i64 .i64 A B und9 l1 l2 l3
  have HN := hDx (And.intro N1 (And.intro NB hlt))
  clear hA hB hL hLL N1 NB hlt
  go_wp2_with fail
  go_roundw
  case rel => exact ⟨z + 1, HN.out.2.2, succI z, HN.out.1, HN.out.2.1⟩
  exact measI n z HN.out.2.2
 have hzn := isN hz hlt
 have l1 : ¬ (z : Int) < n := nltI hlt
 have HZ := hDx hzn
 clear hzn hlt hz
 go_wp2_with fail
 go_ret2
 refine ⟨g, n, rfl, fun i hi => ?_, HR.out.2⟩
 rw [HR.out.1.cell hi]
 unfold lkV
 rw [if_pos (by rw [HZ.out]; exact hi)]
end
end Go.Proofs.YtoplbfijodebmaaGreatDoor
