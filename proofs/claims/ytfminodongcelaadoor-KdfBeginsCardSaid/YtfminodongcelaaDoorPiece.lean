/-
  The document's piece.
-/
import Derived.Test.YtfminodongcelaaDoorPlain
import Derived.Laws.IdiomStrings
import Derived.Deep.Cut
set_option linter.unusedVariables false
namespace Go.Proofs.YtfminodongcelaaDoor
open Go.RowKit

theorem bt_get (p : ByteArray) (k : Nat) (h : k < p.size) : (p[k]'h).toNat = bt p k := by
  unfold bt
  rw [Array.getD_eq_getD_getElem?]
  have hd : k < p.data.size := h
  rw [Array.getElem?_eq_getElem hd]
  rfl


theorem set_lt {v : List Nat} (h : ∀ i, at_ v i < 4294967296) (k x : Nat) (hx : x < 4294967296) (i : Nat) : at_ (v.set k x) i < 4294967296 := by
  by_cases hk : k < v.length
  · rw [at_set _ _ _ _ hk]
    split
    · exact hx
    · exact h i
  · rw [List.set_eq_of_length_le (by omega)]
    exact h i
theorem half_len (v : List Nat) (a b c d x r1 r2 : Nat) : (half v a b c d x r1 r2).length = v.length := by simp [half]
theorem half_lt {v : List Nat} (h : ∀ i, at_ v i < 4294967296) (a b c d x r1 r2 : Nat) : ∀ i, at_ (half v a b c d x r1 r2) i < 4294967296 := by
  have h1 := set_lt h a (add32 (add32 (at_ v a) (at_ v b)) x) (add32_lt _ _)
  have h2 := set_lt h1 d (rotr (at_ (v.set a (add32 (add32 (at_ v a) (at_ v b)) x)) d ^^^ at_ (v.set a (add32 (add32 (at_ v a) (at_ v b)) x)) a) r1) (rotr_lt _ _ (xor32_lt _ _ (h1 _) (h1 _)))
  have h3 := set_lt h2 c (add32 (at_ ((v.set a (add32 (add32 (at_ v a) (at_ v b)) x)).set d (rotr (at_ (v.set a (add32 (add32 (at_ v a) (at_ v b)) x)) d ^^^ at_ (v.set a (add32 (add32 (at_ v a) (at_ v b)) x)) a) r1)) c) (at_ ((v.set a (add32 (add32 (at_ v a) (at_ v b)) x)).set d (rotr (at_ (v.set a (add32 (add32 (at_ v a) (at_ v b)) x)) d ^^^ at_ (v.set a (add32 (add32 (at_ v a) (at_ v b)) x)) a) r1)) d)) (add32_lt _ _)
  exact set_lt h3 b _ (rotr_lt _ _ (xor32_lt _ _ (h3 _) (h3 _)))
theorem mixL_len (v : List Nat) (a b c d x y : Nat) : (mixL v a b c d x y).length = v.length := by simp [mixL, half_len]
theorem mixL_lt {v : List Nat} (h : ∀ i, at_ v i < 4294967296) (a b c d x y : Nat) : ∀ i, at_ (mixL v a b c d x y) i < 4294967296 := half_lt (half_lt h _ _ _ _ _ _ _) _ _ _ _ _ _ _
theorem sg_lt : ∀ r < 10, ∀ i < 16, sg r i < 16 := by decide +kernel
theorem sg_at : ∀ r < 10, ∀ i < 16, (is (sigma.getD r []))[i]? = some (.int .i64 (sg r i)) := by
  intro r hr i hi
  have hl : (sigma.getD r []).length = 16 := (by decide +kernel : ∀ r < 10, (sigma.getD r []).length = 16) r hr
  simp [is, sg, List.getD_eq_getElem?_getD]
  have hl2 := hl
  rw [List.getD_eq_getElem?_getD] at hl2
  rw [List.getElem?_eq_getElem (by omega)]
  simp
theorem is_size : ∀ r < 10, (is (sigma.getD r [])).size = 16 := by decide +kernel
theorem is_one (v : List Nat) : (is v).all (·.oneCell') = true := by
  rw [Array.all_eq_true_iff_forall_mem]
  intro x hx
  simp only [is, List.mem_toArray, List.mem_map] at hx
  obtain ⟨n, _, rfl⟩ := hx
  rfl
theorem wpStill_load_row {ops : Array Oper} {rest : List Oper} {o : Oper} {a : Act} {w : World} {Q : Act → Prop} {b n t : Nat} {v : List Nat} (hgd : o.guard = none) (x : Operand) (ho : o.op = .load t x)
    (hx : a.eval x = .pointer (some ⟨b, 0, none⟩)) (hr : Row w b t n v) (ht : RowTy t n) (h : wpStill Tryd.prog ops w Q rest (a.put o.dst (.agg (ws v)))) : wpStill Tryd.prog ops w Q (o :: rest) a := by
  refine wpStill_step (fun K hK => ?_)
  have hwt : Region.wanted o (yielded ops a.tmps) = true := by simp [Region.wanted, hgd]
  rw [if_pos hwt]
  unfold Oper.still execOp
  simp only [ho, hx, Instr.loadAt, Instr.sureAddr, Sem.run_bind, Sem.run_pure, Result.andThen_ok, hr.loadVar ht, Oper.stillUpon]
  exact ⟨trivial, hK _ h⟩
theorem Row.of_eq {w : World} {b t n : Nat} {v u : List Nat} (h : Row w b t n v) (e : v = u) : Row w b t n u := e ▸ h
/-- A round under way. -/
structure Rnd (w4 w : World) (V M O : Nat) (m v : List Nat) (r : Nat) : Prop where
  v : Row w V 68 16 v
  m : Row w M 68 16 m
  o : Cells w O 69 (is (sigma.getD r []))
  only : Only V w4 w
  hv : V < w4.heap.size
  hm : M ≠ V
  ho : O ≠ V
theorem Only.call {V : Nat} {w4 w w' : World} (h : Only V w4 w) (hb : Below w.heap.size w w') : Only V w4 w' :=
  h.trans ⟨hb.os, hb.tape, hb.output, hb.size, fun j hj _ => hb.block j hj⟩
theorem Rnd.drew {w4 w : World} {V M O r : Nat} {m v : List Nat} (h : Rnd w4 w V M O m v r) : Rnd w4 w.drew V M O m v r := ⟨h.v.drew, h.m.drew, h.o.drew, h.only.drew, h.hv, h.hm, h.ho⟩
theorem Rnd.call {w4 w w' : World} {V M O r : Nat} {m v : List Nat} (h : Rnd w4 w V M O m v r) (hb : Below w.heap.size w w') : Rnd w4 w' V M O m v r :=
  ⟨h.v.more hb, h.m.more hb, h.o.more hb, h.only.call hb, h.hv, h.hm, h.ho⟩
theorem Rnd.next {w4 w : World} {V M O r : Nat} {m v : List Nat} (h : Rnd w4 w V M O m v r) (u : List Nat) (hl : u.length = 16) (hu : ∀ i, at_ u i < 4294967296) : Rnd w4 (w.setRow V (ws u)) V M O m u r :=
  ⟨h.v.setRow u hl hu, h.m.other (Only.setRow V w _) h.hm, h.o.other (Only.setRow V w _) h.ho, h.only.trans (Only.setRow V w _), h.hv, h.hm, h.ho⟩
theorem Only.setRowNew {V O : Nat} {w4 w : World} (h : Only V w4 w) (hO : w4.heap.size ≤ O) (cs : Array Value) : Only V w4 (w.setRow O cs) :=
  ⟨h.os, h.tape, h.output, by have := h.size; simp [World.setRow]; exact this, fun j hj hb => (setRow_other w O j cs (by omega)).trans (h.block j hj hb)⟩
theorem Rnd.start {w4 wr w7 : World} {V M r : Nat} {m v : List Nat} {o : Obj} {cs : Array Value} (hv : Row wr V 68 16 v) (hm : Row w4 M 68 16 m) (ho : Only V w4 wr) (h7 : Below wr.heap.size wr w7) (hC : Cells (w7.alloc o) w7.heap.size 69 cs) (hV : V < w4.heap.size) (hMV : M ≠ V) :
    Rnd w4 ((w7.alloc o).setRow w7.heap.size (is (sigma.getD r []))) V M w7.heap.size m v r := by
  have s1 := ho.size
  have s2 := h7.size
  have s3 := hm.size_lt
  refine ⟨((hv.more h7).alloc o).other (Only.setRow _ _ _) (by omega), ((((hm.other ho hMV).more h7).alloc o).other (Only.setRow _ _ _) (by omega)), hC.setRow _, ((ho.call h7).alloc o).setRowNew (by omega) _, hV, hMV, by omega⟩
theorem measI (n k : Nat) (h : k < n) : n - (intOf (.int .i64 ((k : Int) + 1))).toNat < n - (intOf (.int .i64 (k : Int))).toNat := by simp [intOf]; omega
theorem succI (k : Nat) : Value.int .i64 ((k : Int) + 1) = .int .i64 ((k + 1 : Nat) : Int) := by simp
theorem rng10 (r : Nat) (h : r < 10) : (0 : Int) ≤ r ∧ (r : Int) < 10 := by omega
theorem rng8 (r : Nat) (h : r < 8) : (0 : Int) ≤ r ∧ (r : Int) < 8 ∧ (r : Int) < 16 ∧ r < 16 ∧ 8 + r < 16 := by omega
theorem isN {k n : Nat} (h : k ≤ n) (h2 : ¬ k < n) : k = n := Nat.le_antisymm h (Nat.not_lt.1 h2)
theorem nltI {k n : Nat} (h2 : ¬ k < n) : ¬ (k : Int) < (n : Int) := by omega
theorem i64w {x : Int} {n : Nat} (h : x = n) (hn : n < 1000) : wrap64 x = n ∧ IntKind.i64.wrap x = n := by
  subst h
  exact ⟨by unfold wrap64; omega, IntWalk.i64_in _ (by omega)⟩
theorem ix8 (k : Nat) (h : k < 8) : ∃ j : Nat, j = 8 + k ∧ wrap64 (8 + (k : Int)) = j ∧ IntKind.i64.wrap (8 + (k : Int)) = j ∧ (0 : Int) ≤ j ∧ (j : Int) < 16 ∧ j < 16 :=
  ⟨8 + k, rfl, (i64w (by omega) (by omega)).1, (i64w (by omega) (by omega)).2, by omega⟩
theorem two16 (x y : Nat) (hx : x < 16) (hy : y < 16) : (0 : Int) ≤ x ∧ (x : Int) < 16 ∧ (0 : Int) ≤ y ∧ (y : Int) < 16 := by omega
theorem far6 {H E M V B a b c : Nat} (h : H < E ∧ E < M ∧ M < V ∧ V < B ∧ a < b ∧ H = c) : H ≠ V ∧ E ≠ V ∧ M ≠ V ∧ H ≤ V ∧ V ≠ H ∧ E ≠ H ∧ H ≤ E := by omega
theorem far7 {V B N : Nat} {H E M a b c : Nat} (h : H < E ∧ E < M ∧ M < V ∧ V < B ∧ a < b ∧ H = c) (k : B < N) : V < N := by omega
def fill (h : List Nat) : Nat → List Nat
  | 0 => zeros 16
  | k + 1 => ((fill h k).set k (at_ h k)).set (8 + k) (at_ iv k)
theorem fill_all (h : List Nat) (hl : h.length = 8) : fill h 8 = h ++ iv := by
  match h, hl with
  | [a, b, c, d, e, f, g, i], _ => rfl

set_option maxHeartbeats 8000000 in
set_option maxRecDepth 100000 in
theorem piece_any (hv8 : List Nat) (p : ByteArray) (t : Nat) (last : Bool) (w : World) (hl : hv8.length = 8) (hh : ∀ i, at_ hv8 i < 4294967296) (hp : p.size = 64) (ht : t < 18446744073709551616) :
    Calls Tryd.prog 31 #[.agg (ws hv8), .string p, .int .u64 t, .bool last] w fun e w' => e = .returned (.agg (ws (compress hv8 p t last))) ∧ Below w.heap.size w w' := by
  have HH := Lib.hid (And.intro hl hh)
  clear hl hh
  go_enter Tryd.func31, Tryd.ntmps31
  go_wp2_with fail
  rw [← ws_zeros8, ← ws_zeros16]
  have R0 := (((row_new w 38 8 hv8 HH.out.1 HH.out.2).alloc (.cells (ws (zeros 8)) 38)).alloc (.cells (ws (zeros 16)) 68))
  have RE := (row_new (w.alloc (.cells (ws hv8) 38)) 38 8 (zeros 8) (by rfl) (at_zeros 8)).alloc (.cells (ws (zeros 16)) 68)
  have RM := row_new ((w.alloc (.cells (ws hv8) 38)).alloc (.cells (ws (zeros 8)) 38)) 68 16 (zeros 16) (by rfl) (at_zeros 16)
  have B0 := (((Below.refl w.heap.size w).alloc (Nat.le_refl _) (.cells (ws hv8) 38)).alloc (by simp) (.cells (ws (zeros 8)) 38)).alloc (by simp; omega) (.cells (ws (zeros 16)) 68)
  rw [show (w.alloc (.cells (ws hv8) 38)).heap.size = w.heap.size + 1 by simp] at RE
  rw [show ((w.alloc (.cells (ws hv8) 38)).alloc (.cells (ws (zeros 8)) 38)).heap.size = w.heap.size + 1 + 1 by simp] at RM
  obtain ⟨w0, hw0⟩ : ∃ w0, w0 = ((w.alloc (.cells (ws hv8) 38)).alloc (.cells (ws (zeros 8)) 38)).alloc (.cells (ws (zeros 16)) 68) := ⟨_, rfl⟩
  rw [← hw0] at R0 RE RM B0
  rw [← hw0]
  obtain ⟨H, hH⟩ : ∃ E, E = w.heap.size := ⟨_, rfl⟩
  obtain ⟨E, hE⟩ : ∃ E, E = w.heap.size + 1 := ⟨_, rfl⟩
  obtain ⟨M, hM⟩ : ∃ E, E = w.heap.size + 1 + 1 := ⟨_, rfl⟩
  rw [← hH] at R0 B0
  rw [← hE] at RE
  rw [← hM] at RM
  rw [← hM, ← hE, ← hH]
  have HW := Lib.hid (And.intro R0 (And.intro RE (And.intro B0 (And.intro hH (And.intro hE hM)))))
  clear R0 RE B0 hH hE hM hw0
  go_loopw [10] (fun i wr => ∃ n : Nat, n ≤ 64 ∧ i = .int .i64 (63 - n) ∧ Row wr M 68 16 (rw_ p n) ∧ Only M w0 wr) (fun i _ => (intOf i + 1).toNat)
  case atStart => exact ⟨0, Nat.zero_le _, rfl, RM, Only.refl _ _⟩
  case round =>
    obtain ⟨n, hn, rfl, RR, OR⟩ := hrel
    clear RM
    have HR := Lib.hid (And.intro RR OR)
    clear RR OR
    by_cases hlt : n < 64
    · obtain ⟨k, hk⟩ : ∃ k, k = 63 - n := ⟨_, rfl⟩
      have hki : (63 : Int) - n = k := by omega
      rw [hki]
      have hk64 : k < 64 := by omega
      have hj : k / 4 < 16 := by omega
      have cM := HR.out.1.cell (k / 4) hj
      have f1 := HR.out.1.drew.fz (k / 4)
      have lA := HR.out.1.lt (k / 4)
      obtain ⟨j, hj2⟩ : ∃ j, j = k / 4 := ⟨_, rfl⟩
      have q1 : (k : Int).tdiv 4 = j := by rw [hj2]; simp [Int.tdiv_eq_ediv_of_nonneg]
      have q2 : (k : Int) / 4 = j := by omega
      have q3 : IntKind.i64.wrap (j : Int) = j := IntWalk.i64_in _ (by omega)
      rw [← hj2] at cM f1 lA hj
      obtain ⟨A, hA⟩ : ∃ A, A = at_ (rw_ p n) j := ⟨_, rfl⟩
      rw [← hA] at cM lA
      have hkp : k < p.size := by omega
      have g1 : (0 : Int) ≤ k := by omega
      have g2 : (k : Int) < p.size := by omega
      have g5 : (k : Int) < 64 := by omega
      have g3 : (0 : Int) ≤ j ∧ (j : Int) < 16 := by omega
      obtain ⟨g3, g4⟩ := g3
      have HK := Lib.hid (And.intro hk (And.intro hj2 hA))
      clear hk hj2 hA hki
      go_wp2_with fail
      go_still_tail 13, (by kernel_rfl)
      go_wp2_with fail
      have hS : bits .or .u32 ((A : Int) * 256 % 4294967296) (((p[k]'hkp).toNat : Int) % 4294967296) = ((A * 256 % 4294967296 ||| bt p k : Nat) : Int) := by
        rw [bt_get p k hkp]
        have h1 := u32_or_nat (A * 256 % 4294967296) (bt p k) (Nat.mod_lt _ (by decide)) (Nat.lt_trans (bt_lt p k) (by decide))
        rw [← h1]
        congr 1
        have := bt_lt p k
        omega
      rw [hS]
      have R2 := (HR.out.1.set j (A * 256 % 4294967296 ||| bt p k) hj (Nat.or_lt_two_pow (n := 32) (Nat.mod_lt _ (by decide)) (Nat.lt_trans (bt_lt p k) (by decide)))).drew
      have O2 := (HR.out.2.setCell j (.int .u32 ((A * 256 % 4294967296 ||| bt p k : Nat) : Int))).drew
      have hv : (rw_ p n).set j (A * 256 % 4294967296 ||| bt p k) = rw_ p (n + 1) := by
        rw [HK.out.2.2, HK.out.2.1, HK.out.1]; rfl
      rw [hv] at R2
      go_roundw
      case rel => exact ⟨n + 1, by omega, by have := HK.out.1; congr 1; omega, R2, O2⟩
      case measure => simp [intOf]
    · obtain rfl : n = 64 := by omega
      obtain ⟨w1, rfl⟩ : ∃ w1 : World, w1 = wr := ⟨_, rfl⟩
      clear hlt hn
      go_wp2_with fail
      rw [← ws_zeros16]
      have RV := row_new w1 68 16 (zeros 16) (by rfl) (at_zeros 16)
      have RM1 := HR.out.1.alloc (.cells (ws (zeros 16)) 68)
      have O1 := HR.out.2.alloc (.cells (ws (zeros 16)) 68)
      obtain ⟨V, hV⟩ : ∃ V, V = w1.heap.size := ⟨_, rfl⟩
      obtain ⟨w2, hw2⟩ : ∃ w2, w2 = w1.alloc (.cells (ws (zeros 16)) 68) := ⟨_, rfl⟩
      have hs2 : w2.heap.size = V + 1 := by rw [hw2, hV]; simp
      rw [← hV] at RV
      rw [← hw2] at RV RM1 O1
      rw [← hw2, ← hV]
      have HV := Lib.hid (And.intro RV (And.intro RM1 (And.intro O1 (And.intro hV hs2))))
      clear RV RM1 O1 hV hw2 hs2
      refine (begin_any w2).mono ?_
      rintro e w3 ⟨rfl, B3⟩
      simp only []
      have RB0 : Row (w3.alloc (.cells #[.int .u32 0, .int .u32 0, .int .u32 0, .int .u32 0, .int .u32 0, .int .u32 0, .int .u32 0, .int .u32 0] 38)) w3.heap.size 38 8 (zeros 8) := row_new w3 38 8 (zeros 8) (by rfl) (at_zeros 8)
      have HB0 := Lib.hid RB0
      have H3 := Lib.hid B3
      clear RB0 B3
      go_wp2_with (refine wpList_store_row rfl _ _ rfl rfl rfl HB0.out rowTy38 iv_len ?_)
      have RB := HB0.out.setRow iv iv_len iv_lt
      have OB : Only w3.heap.size w3 ((w3.alloc (.cells #[.int .u32 0, .int .u32 0, .int .u32 0, .int .u32 0, .int .u32 0, .int .u32 0, .int .u32 0, .int .u32 0] 38)).setRow w3.heap.size (ws iv)) := ((Only.refl _ w3).alloc _).trans (Only.setRow _ _ _)
      obtain ⟨B, hB⟩ : ∃ V, V = w3.heap.size := ⟨_, rfl⟩
      rw [← hB] at RB OB
      rw [← hB]
      obtain ⟨w4, hw4⟩ : ∃ uu, uu = (w3.alloc (.cells #[.int .u32 0, .int .u32 0, .int .u32 0, .int .u32 0, .int .u32 0, .int .u32 0, .int .u32 0, .int .u32 0] 38)).setRow B (ws iv) := ⟨_, rfl⟩
      rw [← hw4] at RB OB
      rw [← hw4]
      have s3 := H3.out.size
      have hs4 : w3.heap.size < w4.heap.size := by have := RB.size_lt; omega
      have hMV : M < V := by have := HV.out.2.1.size_lt; have := HV.out.2.2.2.2; have := HV.out.2.2.2.1; have := HR.out.1.size_lt; omega
      have hHEM : H < E ∧ E < M := by have := HW.out.2.2.2; omega
      have hVB : V < B := by have := HV.out.2.2.2.2; omega
      have RH4 := (((HW.out.1.other HV.out.2.2.1 (by omega)).more H3.out).other OB (by omega))
      have RE4 := (((HW.out.2.1.other HV.out.2.2.1 (by omega)).more H3.out).other OB (by omega))
      have RM4 := (HV.out.2.1.more H3.out).other OB (by omega)
      have RV4 := (HV.out.1.more H3.out).other OB (by omega)
      rw [rw_words] at RM4
      have BL4 := ((HW.out.2.2.1.trans (HV.out.2.2.1.below (B := H) (by have := HW.out.2.2.2; omega) (by rw [HW.out.2.2.2.1]; exact HW.out.2.2.1.size))).trans (H3.out.mono (by have := HV.out.2.2.2.2; have := HW.out.2.2.2; omega))).trans (OB.below (B := H) (by have := HW.out.2.2.2; omega) (by have := HV.out.2.2.2.2; have := HW.out.2.2.2; omega))
      have HM := Lib.hid (And.intro RH4 (And.intro RE4 (And.intro RM4 (And.intro RB BL4))))
      have HI := Lib.hid (And.intro hHEM.1 (And.intro hHEM.2 (And.intro hMV (And.intro hVB (And.intro hs4 HW.out.2.2.2.1)))))
      clear RB OB hB hw4 s3 hs4 hMV hHEM hVB RH4 RE4 RM4 BL4 H3 HB0 HV HR HW
      go_loopw [13] (fun i wr => ∃ k : Nat, k ≤ 8 ∧ i = .int .i64 k ∧ Row wr V 68 16 (fill hv8 k) ∧ Only V w4 wr) (fun i _ => 8 - (intOf i).toNat)
      case atStart => exact ⟨0, Nat.zero_le _, rfl, RV4, Only.refl _ _⟩
      case round =>
        obtain ⟨k, hk, rfl, RR, OR⟩ := hrel
        clear RV4
        have HR := Lib.hid (And.intro RR OR)
        clear RR OR
        by_cases hlt : k < 8
        · have g1 : (0 : Int) ≤ k ∧ (k : Int) < 8 ∧ (k : Int) < 16 := by omega
          obtain ⟨g1, g2, g3⟩ := g1
          have cH := (HM.out.1.other HR.out.2 (by have := HI.out; omega)).cell k hlt
          have cV := HR.out.1.cell k (by omega)
          have f1 := HR.out.1.fz k
          have R2 := HR.out.1.set k (at_ hv8 k) (by omega) (HH.out.2 k)
          have O2 := HR.out.2.setCell k (.int .u32 ((at_ hv8 k : Nat) : Int))
          have cB := (HM.out.2.2.2.1.other O2 (by have := HI.out; omega)).cell k hlt
          have cV2 := R2.cell (8 + k) (by omega)
          have f2 := R2.fz (8 + k)
          have R3 := R2.set (8 + k) (at_ iv k) (by omega) (iv_lt k)
          have O3 := O2.setCell (8 + k) (.int .u32 ((at_ iv k : Nat) : Int))
          have HR3 := Lib.hid (And.intro R3 O3)
          clear R2 O2 R3 O3
          obtain ⟨j, hj⟩ : ∃ j, j = 8 + k := ⟨_, rfl⟩
          rw [← hj] at cV2 f2 HR3
          have q1 : (8 : Int) + k = j := by omega
          have q2 : wrap64 (8 + (k : Int)) = j := by unfold wrap64; omega
          have q3 : IntKind.i64.wrap (8 + (k : Int)) = j := by rw [q1]; exact IntWalk.i64_in _ (by omega)
          have g4 : (0 : Int) ≤ j ∧ (j : Int) < 16 := by omega
          obtain ⟨g4, g5⟩ := g4
          have HJ := Lib.hid hj
          clear hj q1
          go_wp2_with fail
          go_roundw
          case rel => exact ⟨k + 1, by omega, by go_num, by
            have h3 := HR3.out.1
            show Row _ _ _ _ (((fill hv8 k).set k (at_ hv8 k)).set (8 + k) (at_ iv k))
            rw [← HJ.out]
            exact h3, HR3.out.2⟩
          case measure => simp [intOf]; omega
        · have hk8 : k = 8 := by omega
          have RR := HR.out.1
          rw [hk8, fill_all hv8 HH.out.1] at RR
          have hlt2 : ¬ (k : Int) < 8 := by omega
          obtain ⟨v0, hv0⟩ : ∃ uu, uu = hv8 ++ iv := ⟨_, rfl⟩
          rw [← hv0] at RR
          have OR := HR.out.2
          obtain ⟨w5, rfl⟩ : ∃ uu : World, uu = wr := ⟨_, rfl⟩
          have HV0 := Lib.hid hv0
          clear hlt hk hv0 HR hk8
          -- vA
          have cA := RR.cell 12 (by omega)
          have f1 := RR.fz 12
          have lA := RR.lt 12
          obtain ⟨A, hA⟩ : ∃ A, A = at_ v0 12 := ⟨_, rfl⟩
          rw [← hA] at cA lA
          have tlt : t % 4294967296 < 4294967296 := Nat.mod_lt _ (by decide)
          obtain ⟨S, hS⟩ : ∃ S, S = A ^^^ t % 4294967296 := ⟨_, rfl⟩
          have e1 := u32_xor_nat A (t % 4294967296) lA tlt
          rw [← hS] at e1
          have lS : S < 4294967296 := by rw [hS]; exact xor32_lt _ _ lA tlt
          have e2 : ((t % 4294967296 : Nat) : Int) = (t : Int) % 4294967296 := by omega
          rw [e2] at e1
          have R2 := RR.set 12 S (by omega) lS
          have O2 := OR.setCell 12 (.int .u32 (S : Int))
          obtain ⟨v1, hv1⟩ : ∃ uu, uu = v0.set 12 S := ⟨_, rfl⟩
          rw [← hv1] at R2
          rw [hS, hA] at hv1
          -- vB
          have cB := R2.cell 13 (by omega)
          have f2 := R2.fz 13
          have lB := R2.lt 13
          obtain ⟨A2, hA2⟩ : ∃ A, A = at_ v1 13 := ⟨_, rfl⟩
          rw [← hA2] at cB lB
          have ulb : t / 4294967296 % 4294967296 < 4294967296 := Nat.mod_lt _ (by decide)
          obtain ⟨S2, hS2⟩ : ∃ S, S = A2 ^^^ t / 4294967296 % 4294967296 := ⟨_, rfl⟩
          have e3 := u32_xor_nat A2 (t / 4294967296 % 4294967296) lB ulb
          rw [← hS2] at e3
          have lS2 : S2 < 4294967296 := by rw [hS2]; exact xor32_lt _ _ lB ulb
          have e4 : ((t / 4294967296 % 4294967296 : Nat) : Int) = (t : Int) / 4294967296 % 4294967296 := by omega
          rw [e4] at e3
          have e4' : (t : Int) / 4294967296 % 4294967296 = (t : Int) / 4294967296 := by omega
          rw [e4'] at e3
          have R3 := R2.set 13 S2 (by omega) lS2
          have O3 := O2.setCell 13 (.int .u32 (S2 : Int))
          obtain ⟨v2, hv2⟩ : ∃ uu, uu = v1.set 13 S2 := ⟨_, rfl⟩
          rw [← hv2] at R3
          rw [hS2, hA2] at hv2
          -- vC
          have cC := R3.cell 14 (by omega)
          have f3 := R3.fz 14
          have lC := R3.lt 14
          obtain ⟨A3, hA3⟩ : ∃ A, A = at_ v2 14 := ⟨_, rfl⟩
          rw [← hA3] at cC lC
          obtain ⟨S3, hS3⟩ : ∃ S, S = 4294967295 ^^^ A3 := ⟨_, rfl⟩
          have lS3 : S3 < 4294967296 := by rw [hS3]; exact xor32_lt _ _ (by decide) lC
          have R4 := R3.set 14 S3 (by omega) lS3
          have O4 := O3.setCell 14 (.int .u32 (S3 : Int))
          obtain ⟨v3, hv3⟩ : ∃ uu, uu = v2.set 14 S3 := ⟨_, rfl⟩
          rw [← hv3] at R4
          have e5 : bits .xor .u32 IntKind.u32.max (A3 : Int) = S3 := by rw [hS3]; exact u32_xor_nat 4294967295 A3 (by decide) lC
          rw [hS3, hA3] at hv3
          have HR := Lib.hid (And.intro R3 (And.intro O3 (And.intro R4 O4)))
          have HE := Lib.hid (And.intro hv1 (And.intro hv2 hv3))
          clear RR OR hA hS R2 O2 lS lA tlt e2 hv1 lB ulb hS2 lS2 e4 e4' R3 O3 hv2 lC hS3 lS3 R4 O4 hv3 hA2 hA3
          have RF := HR.out.1.of_eq (u := vC hv8 t false) (by rw [HE.out.2.1, HE.out.1, HV0.out]; rfl)
          have RT := HR.out.2.2.1.of_eq (u := vC hv8 t true) (by rw [HE.out.2.2, HE.out.2.1, HE.out.1, HV0.out]; rfl)
          have HFF := Lib.hid (And.intro RF HR.out.2.1)
          have HTT := Lib.hid (And.intro RT HR.out.2.2.2)
          clear RF RT HR HE HV0
          go_upto_if 63 with (fail)
          go_cut [] from 64 (fun wc => Row wc V 68 16 (vC hv8 t last) ∧ Only V w4 wc)
          case first =>
            cases last
            · go_wp2_with fail
              go_meet
              case rel => exact HFF.out
            · go_wp2_with fail
              go_meet
              case rel => exact HTT.out
          case rest =>
            obtain ⟨R6, O6⟩ := hcut
            clear HFF HTT cA cB cC f1 f2 f3 e1 e3 e5
            obtain ⟨vc, hvc⟩ : ∃ uu, uu = vC hv8 t last := ⟨_, rfl⟩
            rw [← hvc] at R6
            have HC := Lib.hid hvc
            clear hvc
            go_wp2_with fail
            go_loopw [14] (fun i wr => ∃ r : Nat, r ≤ 10 ∧ i = .int .i64 r ∧ Row wr V 68 16 (rds vc (words p) r) ∧ Only V w4 wr) (fun i _ => 10 - (intOf i).toNat)
            case atStart => exact ⟨0, Nat.zero_le _, rfl, R6, O6⟩
            case round =>
              obtain ⟨r, hr, rfl, RR, OR⟩ := hrel
              clear R6 O6
              have HR := Lib.hid (And.intro RR OR)
              clear RR OR
              by_cases hlt : r < 10
              · have hr1 := rng10 r hlt
                obtain ⟨hr1, hr2⟩ := hr1
                go_wp2_with fail
                refine (order_any r hlt wr).mono ?_
                rintro e w7 ⟨rfl, B7⟩
                simp only []
                have CO := cells_new w7 69 (is (zeros 16))
                rw [is_zeros16] at CO
                have H7 := Lib.hid (And.intro CO B7)
                clear CO B7
                go_wp2_with (refine wpList_store_cells rfl _ _ rfl rfl rfl H7.out.1 rowTy69 (by rfl) (is_size r hlt) (is_one _) ?_)
                have F0 := Rnd.start (r := r) HR.out.1 HM.out.2.2.1 HR.out.2 H7.out.2 H7.out.1 (far7 HI.out HM.out.2.2.2.1.size_lt) (far6 HI.out).2.2.1
                obtain ⟨O, hO⟩ : ∃ uu, uu = w7.heap.size := ⟨_, rfl⟩
                rw [← hO] at F0
                rw [← hO]
                obtain ⟨w8, hw8⟩ : ∃ uu, uu = (w7.alloc (.cells #[.int .i64 0, .int .i64 0, .int .i64 0, .int .i64 0, .int .i64 0, .int .i64 0, .int .i64 0, .int .i64 0, .int .i64 0, .int .i64 0, .int .i64 0, .int .i64 0, .int .i64 0, .int .i64 0, .int .i64 0, .int .i64 0] 69)).setRow O (is (sigma.getD r [])) := ⟨_, rfl⟩
                rw [← hw8] at F0
                rw [← hw8]
                obtain ⟨q0, hq0⟩ : ∃ uu, uu = rds vc (words p) r := ⟨_, rfl⟩
                rw [← hq0] at F0
                have HF0 := Lib.hid F0
                have HQ0 := Lib.hid hq0
                clear F0 hO hw8 hq0 H7 HR
                obtain ⟨x, hx⟩ : ∃ uu, uu = sg r 0 := ⟨_, rfl⟩
                obtain ⟨y, hy⟩ : ∃ uu, uu = sg r 1 := ⟨_, rfl⟩
                have cx := HF0.out.o.cell 0 _ (sg_at r hlt 0 (by decide))
                have cy := HF0.out.o.cell 1 _ (sg_at r hlt 1 (by decide))
                have lx : x < 16 := by rw [hx]; exact sg_lt r hlt _ (by decide)
                have ly : y < 16 := by rw [hy]; exact sg_lt r hlt _ (by decide)
                rw [← hx] at cx
                rw [← hy] at cy
                have bx := two16 x y lx ly
                obtain ⟨bx, bx', by_, by'⟩ := bx
                have mx := HF0.out.m.cell x lx
                have my := HF0.out.m.cell y ly
                obtain ⟨X, hX⟩ : ∃ uu, uu = at_ (words p) x := ⟨_, rfl⟩
                obtain ⟨Y, hY⟩ : ∃ uu, uu = at_ (words p) y := ⟨_, rfl⟩
                rw [← hX] at mx
                rw [← hY] at my
                rw [hx] at hX
                rw [hy] at hY
                have KX := Lib.hid (And.intro hX hY)
                clear hx hy hX hY lx ly
                refine wp_region_still_tail 9 (by kernel_rfl) (by kernel_rfl) ?_
                simp only [List.take_succ_cons, List.take_zero, List.drop_succ_cons, List.drop_zero]
                refine wpStill_load_row rfl _ rfl rfl HF0.out.drew.v rowTy68 ?_
                repeat still_step
                refine wpStill_nil ?_
                go_wp2_with fail
                refine (mixr_any 0 4 8 12 X Y HF0.out.v.len HF0.out.v.lt (by decide) (by decide) (by decide) (by decide)).mono ?_
                rintro e wn ⟨rfl, Bn⟩
                simp only []
                have hqe : mixL q0 0 4 8 12 X Y = quads q0 (words p) r 1 := by
                  rw [KX.out.1, KX.out.2]
                  rfl
                have hql : (mixL q0 0 4 8 12 X Y).length = 16 := by rw [mixL_len]; exact HF0.out.v.len
                have hqt := mixL_lt HF0.out.v.lt 0 4 8 12 X Y
                have FC := HF0.out.drew.call Bn
                have FN := FC.next _ hql hqt
                have HFC := Lib.hid (And.intro FC hql)
                clear FC Bn
                obtain ⟨q1, hq1⟩ : ∃ uu, uu = mixL q0 0 4 8 12 X Y := ⟨_, rfl⟩
                rw [← hq1] at hqe hql hqt FN HFC ⊢
                have HQ1 := Lib.hid hqe
                have HFN := Lib.hid FN
                clear hqe hql hqt hq1 FN
                go_wp2_with (refine wpList_store_row rfl _ _ rfl rfl rfl HFC.out.1.v rowTy68 HFC.out.2 ?_)
                obtain ⟨wm1, hwm⟩ : ∃ uu, uu = wn.setRow V (ws q1) := ⟨_, rfl⟩
                have FN := HFN.out
                rw [← hwm] at FN ⊢
                have HF1 := Lib.hid FN
                clear FN hwm HFN HFC KX cx cy mx my HF0
                obtain ⟨x, hx⟩ : ∃ uu, uu = sg r 2 := ⟨_, rfl⟩
                obtain ⟨y, hy⟩ : ∃ uu, uu = sg r 3 := ⟨_, rfl⟩
                have cx := HF1.out.o.cell 2 _ (sg_at r hlt 2 (by decide))
                have cy := HF1.out.o.cell 3 _ (sg_at r hlt 3 (by decide))
                have lx : x < 16 := by rw [hx]; exact sg_lt r hlt _ (by decide)
                have ly : y < 16 := by rw [hy]; exact sg_lt r hlt _ (by decide)
                rw [← hx] at cx
                rw [← hy] at cy
                have bx := two16 x y lx ly
                obtain ⟨bx, bx', by_, by'⟩ := bx
                have mx := HF1.out.m.cell x lx
                have my := HF1.out.m.cell y ly
                obtain ⟨X, hX⟩ : ∃ uu, uu = at_ (words p) x := ⟨_, rfl⟩
                obtain ⟨Y, hY⟩ : ∃ uu, uu = at_ (words p) y := ⟨_, rfl⟩
                rw [← hX] at mx
                rw [← hY] at my
                rw [hx] at hX
                rw [hy] at hY
                have KX := Lib.hid (And.intro hX hY)
                clear hx hy hX hY lx ly
                refine wp_region_still_tail 9 (by kernel_rfl) (by kernel_rfl) ?_
                simp only [List.take_succ_cons, List.take_zero, List.drop_succ_cons, List.drop_zero]
                refine wpStill_load_row rfl _ rfl rfl HF1.out.drew.v rowTy68 ?_
                repeat still_step
                refine wpStill_nil ?_
                go_wp2_with fail
                refine (mixr_any 1 5 9 13 X Y HF1.out.v.len HF1.out.v.lt (by decide) (by decide) (by decide) (by decide)).mono ?_
                rintro e wn ⟨rfl, Bn⟩
                simp only []
                have hqe : mixL q1 1 5 9 13 X Y = quads q0 (words p) r 2 := by
                  rw [KX.out.1, KX.out.2, HQ1.out]
                  rfl
                have hql : (mixL q1 1 5 9 13 X Y).length = 16 := by rw [mixL_len]; exact HF1.out.v.len
                have hqt := mixL_lt HF1.out.v.lt 1 5 9 13 X Y
                have FC := HF1.out.drew.call Bn
                have FN := FC.next _ hql hqt
                have HFC := Lib.hid (And.intro FC hql)
                clear FC Bn
                obtain ⟨q2, hq2⟩ : ∃ uu, uu = mixL q1 1 5 9 13 X Y := ⟨_, rfl⟩
                rw [← hq2] at hqe hql hqt FN HFC ⊢
                have HQ2 := Lib.hid hqe
                have HFN := Lib.hid FN
                clear hqe hql hqt hq2 FN
                go_wp2_with (refine wpList_store_row rfl _ _ rfl rfl rfl HFC.out.1.v rowTy68 HFC.out.2 ?_)
                obtain ⟨wm2, hwm⟩ : ∃ uu, uu = wn.setRow V (ws q2) := ⟨_, rfl⟩
                have FN := HFN.out
                rw [← hwm] at FN ⊢
                have HF2 := Lib.hid FN
                clear FN hwm HFN HFC KX cx cy mx my HF1
                obtain ⟨x, hx⟩ : ∃ uu, uu = sg r 4 := ⟨_, rfl⟩
                obtain ⟨y, hy⟩ : ∃ uu, uu = sg r 5 := ⟨_, rfl⟩
                have cx := HF2.out.o.cell 4 _ (sg_at r hlt 4 (by decide))
                have cy := HF2.out.o.cell 5 _ (sg_at r hlt 5 (by decide))
                have lx : x < 16 := by rw [hx]; exact sg_lt r hlt _ (by decide)
                have ly : y < 16 := by rw [hy]; exact sg_lt r hlt _ (by decide)
                rw [← hx] at cx
                rw [← hy] at cy
                have bx := two16 x y lx ly
                obtain ⟨bx, bx', by_, by'⟩ := bx
                have mx := HF2.out.m.cell x lx
                have my := HF2.out.m.cell y ly
                obtain ⟨X, hX⟩ : ∃ uu, uu = at_ (words p) x := ⟨_, rfl⟩
                obtain ⟨Y, hY⟩ : ∃ uu, uu = at_ (words p) y := ⟨_, rfl⟩
                rw [← hX] at mx
                rw [← hY] at my
                rw [hx] at hX
                rw [hy] at hY
                have KX := Lib.hid (And.intro hX hY)
                clear hx hy hX hY lx ly
                refine wp_region_still_tail 9 (by kernel_rfl) (by kernel_rfl) ?_
                simp only [List.take_succ_cons, List.take_zero, List.drop_succ_cons, List.drop_zero]
                refine wpStill_load_row rfl _ rfl rfl HF2.out.drew.v rowTy68 ?_
                repeat still_step
                refine wpStill_nil ?_
                go_wp2_with fail
                refine (mixr_any 2 6 10 14 X Y HF2.out.v.len HF2.out.v.lt (by decide) (by decide) (by decide) (by decide)).mono ?_
                rintro e wn ⟨rfl, Bn⟩
                simp only []
                have hqe : mixL q2 2 6 10 14 X Y = quads q0 (words p) r 3 := by
                  rw [KX.out.1, KX.out.2, HQ2.out]
                  rfl
                have hql : (mixL q2 2 6 10 14 X Y).length = 16 := by rw [mixL_len]; exact HF2.out.v.len
                have hqt := mixL_lt HF2.out.v.lt 2 6 10 14 X Y
                have FC := HF2.out.drew.call Bn
                have FN := FC.next _ hql hqt
                have HFC := Lib.hid (And.intro FC hql)
                clear FC Bn
                obtain ⟨q3, hq3⟩ : ∃ uu, uu = mixL q2 2 6 10 14 X Y := ⟨_, rfl⟩
                rw [← hq3] at hqe hql hqt FN HFC ⊢
                have HQ3 := Lib.hid hqe
                have HFN := Lib.hid FN
                clear hqe hql hqt hq3 FN
                go_wp2_with (refine wpList_store_row rfl _ _ rfl rfl rfl HFC.out.1.v rowTy68 HFC.out.2 ?_)
                obtain ⟨wm3, hwm⟩ : ∃ uu, uu = wn.setRow V (ws q3) := ⟨_, rfl⟩
                have FN := HFN.out
                rw [← hwm] at FN ⊢
                have HF3 := Lib.hid FN
                clear FN hwm HFN HFC KX cx cy mx my HF2
                obtain ⟨x, hx⟩ : ∃ uu, uu = sg r 6 := ⟨_, rfl⟩
                obtain ⟨y, hy⟩ : ∃ uu, uu = sg r 7 := ⟨_, rfl⟩
                have cx := HF3.out.o.cell 6 _ (sg_at r hlt 6 (by decide))
                have cy := HF3.out.o.cell 7 _ (sg_at r hlt 7 (by decide))
                have lx : x < 16 := by rw [hx]; exact sg_lt r hlt _ (by decide)
                have ly : y < 16 := by rw [hy]; exact sg_lt r hlt _ (by decide)
                rw [← hx] at cx
                rw [← hy] at cy
                have bx := two16 x y lx ly
                obtain ⟨bx, bx', by_, by'⟩ := bx
                have mx := HF3.out.m.cell x lx
                have my := HF3.out.m.cell y ly
                obtain ⟨X, hX⟩ : ∃ uu, uu = at_ (words p) x := ⟨_, rfl⟩
                obtain ⟨Y, hY⟩ : ∃ uu, uu = at_ (words p) y := ⟨_, rfl⟩
                rw [← hX] at mx
                rw [← hY] at my
                rw [hx] at hX
                rw [hy] at hY
                have KX := Lib.hid (And.intro hX hY)
                clear hx hy hX hY lx ly
                refine wp_region_still_tail 9 (by kernel_rfl) (by kernel_rfl) ?_
                simp only [List.take_succ_cons, List.take_zero, List.drop_succ_cons, List.drop_zero]
                refine wpStill_load_row rfl _ rfl rfl HF3.out.drew.v rowTy68 ?_
                repeat still_step
                refine wpStill_nil ?_
                go_wp2_with fail
                refine (mixr_any 3 7 11 15 X Y HF3.out.v.len HF3.out.v.lt (by decide) (by decide) (by decide) (by decide)).mono ?_
                rintro e wn ⟨rfl, Bn⟩
                simp only []
                have hqe : mixL q3 3 7 11 15 X Y = quads q0 (words p) r 4 := by
                  rw [KX.out.1, KX.out.2, HQ3.out]
                  rfl
                have hql : (mixL q3 3 7 11 15 X Y).length = 16 := by rw [mixL_len]; exact HF3.out.v.len
                have hqt := mixL_lt HF3.out.v.lt 3 7 11 15 X Y
                have FC := HF3.out.drew.call Bn
                have FN := FC.next _ hql hqt
                have HFC := Lib.hid (And.intro FC hql)
                clear FC Bn
                obtain ⟨q4, hq4⟩ : ∃ uu, uu = mixL q3 3 7 11 15 X Y := ⟨_, rfl⟩
                rw [← hq4] at hqe hql hqt FN HFC ⊢
                have HQ4 := Lib.hid hqe
                have HFN := Lib.hid FN
                clear hqe hql hqt hq4 FN
                go_wp2_with (refine wpList_store_row rfl _ _ rfl rfl rfl HFC.out.1.v rowTy68 HFC.out.2 ?_)
                obtain ⟨wm4, hwm⟩ : ∃ uu, uu = wn.setRow V (ws q4) := ⟨_, rfl⟩
                have FN := HFN.out
                rw [← hwm] at FN ⊢
                have HF4 := Lib.hid FN
                clear FN hwm HFN HFC KX cx cy mx my HF3
                obtain ⟨x, hx⟩ : ∃ uu, uu = sg r 8 := ⟨_, rfl⟩
                obtain ⟨y, hy⟩ : ∃ uu, uu = sg r 9 := ⟨_, rfl⟩
                have cx := HF4.out.o.cell 8 _ (sg_at r hlt 8 (by decide))
                have cy := HF4.out.o.cell 9 _ (sg_at r hlt 9 (by decide))
                have lx : x < 16 := by rw [hx]; exact sg_lt r hlt _ (by decide)
                have ly : y < 16 := by rw [hy]; exact sg_lt r hlt _ (by decide)
                rw [← hx] at cx
                rw [← hy] at cy
                have bx := two16 x y lx ly
                obtain ⟨bx, bx', by_, by'⟩ := bx
                have mx := HF4.out.m.cell x lx
                have my := HF4.out.m.cell y ly
                obtain ⟨X, hX⟩ : ∃ uu, uu = at_ (words p) x := ⟨_, rfl⟩
                obtain ⟨Y, hY⟩ : ∃ uu, uu = at_ (words p) y := ⟨_, rfl⟩
                rw [← hX] at mx
                rw [← hY] at my
                rw [hx] at hX
                rw [hy] at hY
                have KX := Lib.hid (And.intro hX hY)
                clear hx hy hX hY lx ly
                refine wp_region_still_tail 9 (by kernel_rfl) (by kernel_rfl) ?_
                simp only [List.take_succ_cons, List.take_zero, List.drop_succ_cons, List.drop_zero]
                refine wpStill_load_row rfl _ rfl rfl HF4.out.drew.v rowTy68 ?_
                repeat still_step
                refine wpStill_nil ?_
                go_wp2_with fail
                refine (mixr_any 0 5 10 15 X Y HF4.out.v.len HF4.out.v.lt (by decide) (by decide) (by decide) (by decide)).mono ?_
                rintro e wn ⟨rfl, Bn⟩
                simp only []
                have hqe : mixL q4 0 5 10 15 X Y = quads q0 (words p) r 5 := by
                  rw [KX.out.1, KX.out.2, HQ4.out]
                  rfl
                have hql : (mixL q4 0 5 10 15 X Y).length = 16 := by rw [mixL_len]; exact HF4.out.v.len
                have hqt := mixL_lt HF4.out.v.lt 0 5 10 15 X Y
                have FC := HF4.out.drew.call Bn
                have FN := FC.next _ hql hqt
                have HFC := Lib.hid (And.intro FC hql)
                clear FC Bn
                obtain ⟨q5, hq5⟩ : ∃ uu, uu = mixL q4 0 5 10 15 X Y := ⟨_, rfl⟩
                rw [← hq5] at hqe hql hqt FN HFC ⊢
                have HQ5 := Lib.hid hqe
                have HFN := Lib.hid FN
                clear hqe hql hqt hq5 FN
                go_wp2_with (refine wpList_store_row rfl _ _ rfl rfl rfl HFC.out.1.v rowTy68 HFC.out.2 ?_)
                obtain ⟨wm5, hwm⟩ : ∃ uu, uu = wn.setRow V (ws q5) := ⟨_, rfl⟩
                have FN := HFN.out
                rw [← hwm] at FN ⊢
                have HF5 := Lib.hid FN
                clear FN hwm HFN HFC KX cx cy mx my HF4
                obtain ⟨x, hx⟩ : ∃ uu, uu = sg r 10 := ⟨_, rfl⟩
                obtain ⟨y, hy⟩ : ∃ uu, uu = sg r 11 := ⟨_, rfl⟩
                have cx := HF5.out.o.cell 10 _ (sg_at r hlt 10 (by decide))
                have cy := HF5.out.o.cell 11 _ (sg_at r hlt 11 (by decide))
                have lx : x < 16 := by rw [hx]; exact sg_lt r hlt _ (by decide)
                have ly : y < 16 := by rw [hy]; exact sg_lt r hlt _ (by decide)
                rw [← hx] at cx
                rw [← hy] at cy
                have bx := two16 x y lx ly
                obtain ⟨bx, bx', by_, by'⟩ := bx
                have mx := HF5.out.m.cell x lx
                have my := HF5.out.m.cell y ly
                obtain ⟨X, hX⟩ : ∃ uu, uu = at_ (words p) x := ⟨_, rfl⟩
                obtain ⟨Y, hY⟩ : ∃ uu, uu = at_ (words p) y := ⟨_, rfl⟩
                rw [← hX] at mx
                rw [← hY] at my
                rw [hx] at hX
                rw [hy] at hY
                have KX := Lib.hid (And.intro hX hY)
                clear hx hy hX hY lx ly
                refine wp_region_still_tail 9 (by kernel_rfl) (by kernel_rfl) ?_
                simp only [List.take_succ_cons, List.take_zero, List.drop_succ_cons, List.drop_zero]
                refine wpStill_load_row rfl _ rfl rfl HF5.out.drew.v rowTy68 ?_
                repeat still_step
                refine wpStill_nil ?_
                go_wp2_with fail
                refine (mixr_any 1 6 11 12 X Y HF5.out.v.len HF5.out.v.lt (by decide) (by decide) (by decide) (by decide)).mono ?_
                rintro e wn ⟨rfl, Bn⟩
                simp only []
                have hqe : mixL q5 1 6 11 12 X Y = quads q0 (words p) r 6 := by
                  rw [KX.out.1, KX.out.2, HQ5.out]
                  rfl
                have hql : (mixL q5 1 6 11 12 X Y).length = 16 := by rw [mixL_len]; exact HF5.out.v.len
                have hqt := mixL_lt HF5.out.v.lt 1 6 11 12 X Y
                have FC := HF5.out.drew.call Bn
                have FN := FC.next _ hql hqt
                have HFC := Lib.hid (And.intro FC hql)
                clear FC Bn
                obtain ⟨q6, hq6⟩ : ∃ uu, uu = mixL q5 1 6 11 12 X Y := ⟨_, rfl⟩
                rw [← hq6] at hqe hql hqt FN HFC ⊢
                have HQ6 := Lib.hid hqe
                have HFN := Lib.hid FN
                clear hqe hql hqt hq6 FN
                go_wp2_with (refine wpList_store_row rfl _ _ rfl rfl rfl HFC.out.1.v rowTy68 HFC.out.2 ?_)
                obtain ⟨wm6, hwm⟩ : ∃ uu, uu = wn.setRow V (ws q6) := ⟨_, rfl⟩
                have FN := HFN.out
                rw [← hwm] at FN ⊢
                have HF6 := Lib.hid FN
                clear FN hwm HFN HFC KX cx cy mx my HF5
                obtain ⟨x, hx⟩ : ∃ uu, uu = sg r 12 := ⟨_, rfl⟩
                obtain ⟨y, hy⟩ : ∃ uu, uu = sg r 13 := ⟨_, rfl⟩
                have cx := HF6.out.o.cell 12 _ (sg_at r hlt 12 (by decide))
                have cy := HF6.out.o.cell 13 _ (sg_at r hlt 13 (by decide))
                have lx : x < 16 := by rw [hx]; exact sg_lt r hlt _ (by decide)
                have ly : y < 16 := by rw [hy]; exact sg_lt r hlt _ (by decide)
                rw [← hx] at cx
                rw [← hy] at cy
                have bx := two16 x y lx ly
                obtain ⟨bx, bx', by_, by'⟩ := bx
                have mx := HF6.out.m.cell x lx
                have my := HF6.out.m.cell y ly
                obtain ⟨X, hX⟩ : ∃ uu, uu = at_ (words p) x := ⟨_, rfl⟩
                obtain ⟨Y, hY⟩ : ∃ uu, uu = at_ (words p) y := ⟨_, rfl⟩
                rw [← hX] at mx
                rw [← hY] at my
                rw [hx] at hX
                rw [hy] at hY
                have KX := Lib.hid (And.intro hX hY)
                clear hx hy hX hY lx ly
                refine wp_region_still_tail 9 (by kernel_rfl) (by kernel_rfl) ?_
                simp only [List.take_succ_cons, List.take_zero, List.drop_succ_cons, List.drop_zero]
                refine wpStill_load_row rfl _ rfl rfl HF6.out.drew.v rowTy68 ?_
                repeat still_step
                refine wpStill_nil ?_
                go_wp2_with fail
                refine (mixr_any 2 7 8 13 X Y HF6.out.v.len HF6.out.v.lt (by decide) (by decide) (by decide) (by decide)).mono ?_
                rintro e wn ⟨rfl, Bn⟩
                simp only []
                have hqe : mixL q6 2 7 8 13 X Y = quads q0 (words p) r 7 := by
                  rw [KX.out.1, KX.out.2, HQ6.out]
                  rfl
                have hql : (mixL q6 2 7 8 13 X Y).length = 16 := by rw [mixL_len]; exact HF6.out.v.len
                have hqt := mixL_lt HF6.out.v.lt 2 7 8 13 X Y
                have FC := HF6.out.drew.call Bn
                have FN := FC.next _ hql hqt
                have HFC := Lib.hid (And.intro FC hql)
                clear FC Bn
                obtain ⟨q7, hq7⟩ : ∃ uu, uu = mixL q6 2 7 8 13 X Y := ⟨_, rfl⟩
                rw [← hq7] at hqe hql hqt FN HFC ⊢
                have HQ7 := Lib.hid hqe
                have HFN := Lib.hid FN
                clear hqe hql hqt hq7 FN
                go_wp2_with (refine wpList_store_row rfl _ _ rfl rfl rfl HFC.out.1.v rowTy68 HFC.out.2 ?_)
                obtain ⟨wm7, hwm⟩ : ∃ uu, uu = wn.setRow V (ws q7) := ⟨_, rfl⟩
                have FN := HFN.out
                rw [← hwm] at FN ⊢
                have HF7 := Lib.hid FN
                clear FN hwm HFN HFC KX cx cy mx my HF6
                obtain ⟨x, hx⟩ : ∃ uu, uu = sg r 14 := ⟨_, rfl⟩
                obtain ⟨y, hy⟩ : ∃ uu, uu = sg r 15 := ⟨_, rfl⟩
                have cx := HF7.out.o.cell 14 _ (sg_at r hlt 14 (by decide))
                have cy := HF7.out.o.cell 15 _ (sg_at r hlt 15 (by decide))
                have lx : x < 16 := by rw [hx]; exact sg_lt r hlt _ (by decide)
                have ly : y < 16 := by rw [hy]; exact sg_lt r hlt _ (by decide)
                rw [← hx] at cx
                rw [← hy] at cy
                have bx := two16 x y lx ly
                obtain ⟨bx, bx', by_, by'⟩ := bx
                have mx := HF7.out.m.cell x lx
                have my := HF7.out.m.cell y ly
                obtain ⟨X, hX⟩ : ∃ uu, uu = at_ (words p) x := ⟨_, rfl⟩
                obtain ⟨Y, hY⟩ : ∃ uu, uu = at_ (words p) y := ⟨_, rfl⟩
                rw [← hX] at mx
                rw [← hY] at my
                rw [hx] at hX
                rw [hy] at hY
                have KX := Lib.hid (And.intro hX hY)
                clear hx hy hX hY lx ly
                refine wp_region_still_tail 9 (by kernel_rfl) (by kernel_rfl) ?_
                simp only [List.take_succ_cons, List.take_zero, List.drop_succ_cons, List.drop_zero]
                refine wpStill_load_row rfl _ rfl rfl HF7.out.drew.v rowTy68 ?_
                repeat still_step
                refine wpStill_nil ?_
                go_wp2_with fail
                refine (mixr_any 3 4 9 14 X Y HF7.out.v.len HF7.out.v.lt (by decide) (by decide) (by decide) (by decide)).mono ?_
                rintro e wn ⟨rfl, Bn⟩
                simp only []
                have hqe : mixL q7 3 4 9 14 X Y = quads q0 (words p) r 8 := by
                  rw [KX.out.1, KX.out.2, HQ7.out]
                  rfl
                have hql : (mixL q7 3 4 9 14 X Y).length = 16 := by rw [mixL_len]; exact HF7.out.v.len
                have hqt := mixL_lt HF7.out.v.lt 3 4 9 14 X Y
                have FC := HF7.out.drew.call Bn
                have FN := FC.next _ hql hqt
                have HFC := Lib.hid (And.intro FC hql)
                clear FC Bn
                obtain ⟨q8, hq8⟩ : ∃ uu, uu = mixL q7 3 4 9 14 X Y := ⟨_, rfl⟩
                rw [← hq8] at hqe hql hqt FN HFC ⊢
                have HQ8 := Lib.hid hqe
                have HFN := Lib.hid FN
                clear hqe hql hqt hq8 FN
                go_wp2_with (refine wpList_store_row rfl _ _ rfl rfl rfl HFC.out.1.v rowTy68 HFC.out.2 ?_)
                have FV : Hid (Row (wn.setRow V (ws q8)) V 68 16 (rds vc (words p) (r + 1)) ∧ Only V w4 (wn.setRow V (ws q8))) := by
                  have h := HQ8.out
                  rw [HQ0.out] at h
                  exact Lib.hid (And.intro (HFN.out.v.of_eq (u := rds vc (words p) (r + 1)) h) HFN.out.only)
                clear HFN HFC HQ8 HQ7 HQ6 HQ5 HQ4 HQ3 HQ2 HQ1 HQ0 KX
                go_roundw
                case rel => exact ⟨r + 1, hlt, succI r, FV.out.1, FV.out.2⟩
                case measure => exact measI 10 r hlt
              · have hr10 := isN hr hlt
                have R9 := HR.out.1
                rw [hr10] at R9
                have hlt2 : ¬ (r : Int) < 10 := nltI (n := 10) hlt
                have O9 := HR.out.2
                obtain ⟨w9, rfl⟩ : ∃ uu : World, uu = wr := ⟨_, rfl⟩
                obtain ⟨vr, hvr⟩ : ∃ uu, uu = rds vc (words p) 10 := ⟨_, rfl⟩
                rw [← hvr] at R9
                rw [HC.out] at hvr
                have RH9 := HM.out.1.other O9 (far6 HI.out).1
                have RE9 := HM.out.2.1.other O9 (far6 HI.out).2.1
                have B9 := HM.out.2.2.2.2.trans (O9.below (B := H) (far6 HI.out).2.2.2.1 (Nat.le_of_lt HM.out.1.size_lt))
                have hHlt := RH9.size_lt
                have hHV := And.intro (far6 HI.out) HI.out.2.2.2.2.2
                have HN := Lib.hid (And.intro R9 (And.intro RE9 (And.intro B9 (And.intro hvr hHV))))
                clear hlt hr hr10 R9 O9 HR hvr HC RE9 B9 hHlt hHV HM HI
                go_wp2_with fail
                go_loopw [16] (fun i wr => ∃ k : Nat, k ≤ 8 ∧ i = .int .i64 k ∧ Row wr H 38 8 (folds hv8 vr k) ∧ Only H w9 wr) (fun i _ => 8 - (intOf i).toNat)
                case atStart => exact ⟨0, Nat.zero_le _, rfl, RH9, Only.refl _ _⟩
                case round =>
                  obtain ⟨k, hk, rfl, RR, OR⟩ := hrel
                  clear RH9
                  have HR := Lib.hid (And.intro RR OR)
                  clear RR OR
                  by_cases hlt : k < 8
                  · have g1 := rng8 k hlt
                    obtain ⟨g1, g2, g3, k16, j16⟩ := g1
                    obtain ⟨j, hj, q2, q3, g4, g5, _⟩ := ix8 k hlt
                    have RV := HN.out.1.other HR.out.2 HN.out.2.2.2.2.1.2.2.2.2.1
                    have cH := HR.out.1.cell k hlt
                    have cV := RV.cell k k16
                    have cW := RV.cell (8 + k) j16
                    rw [← hj] at cW
                    have f1 := HR.out.1.drew.fz k
                    have l1 := HR.out.1.lt k
                    have l2 := RV.lt k
                    have l3 := RV.lt j
                    obtain ⟨A, hA⟩ : ∃ uu, uu = at_ (folds hv8 vr k) k := ⟨_, rfl⟩
                    obtain ⟨C, hC⟩ : ∃ uu, uu = at_ vr k := ⟨_, rfl⟩
                    obtain ⟨D, hD⟩ : ∃ uu, uu = at_ vr j := ⟨_, rfl⟩
                    rw [← hA] at cH l1
                    rw [← hC] at cV l2
                    rw [← hD] at cW l3
                    obtain ⟨T, hT⟩ : ∃ uu, uu = A ^^^ C := ⟨_, rfl⟩
                    have lT : T < 4294967296 := by rw [hT]; exact xor32_lt _ _ l1 l2
                    obtain ⟨S, hS⟩ : ∃ uu, uu = T ^^^ D := ⟨_, rfl⟩
                    have lS : S < 4294967296 := by rw [hS]; exact xor32_lt _ _ lT l3
                    have e1 := u32_xor_nat A C l1 l2
                    rw [← hT] at e1
                    have e2 := u32_xor_nat T D lT l3
                    rw [← hS] at e2
                    have R2 := (HR.out.1.set k S hlt lS).drew
                    have O2 := (HR.out.2.setCell k (.int .u32 (S : Int))).drew
                    have hfe : (folds hv8 vr k).set k S = folds hv8 vr (k + 1) := by
                      rw [hS, hT, hA, hC, hD, hj, Nat.xor_assoc]
                      rfl
                    rw [hfe] at R2
                    have HX := Lib.hid (And.intro R2 O2)
                    clear hA hC hD hT hS lT lS l1 l2 l3 R2 O2 hfe RV hj k16 j16
                    go_wp2_with fail
                    go_still_tail 14, (by kernel_rfl)
                    go_wp2_with fail
                    go_roundw
                    case rel => exact ⟨k + 1, hlt, succI k, HX.out.1, HX.out.2⟩
                    case measure => exact measI 8 k hlt
                  · obtain rfl := isN hk hlt
                    obtain ⟨w10, rfl⟩ : ∃ uu : World, uu = wr := ⟨_, rfl⟩
                    have REf := HN.out.2.1.other HR.out.2 HN.out.2.2.2.2.1.2.2.2.2.2.1
                    have HE := Lib.hid REf
                    have REs := REf.setRow _ HR.out.1.len HR.out.1.lt
                    have HES := Lib.hid REs
                    clear hlt hk REf REs
                    go_wp2_with (first | (refine wpList_load_row rfl _ rfl rfl HR.out.1 rowTy38 ?_) | (refine wpList_store_row rfl _ _ rfl rfl rfl HE.out rowTy38 HR.out.1.len ?_))
                    refine bodyPost_ret (results_row (p := 8) (by kernel_rfl) (by rfl) HES.out rowTy38) rfl ⟨?_, ?_⟩
                    · rw [HN.out.2.2.2.1]
                      rfl
                    · have e7 := (HN.out.2.2.1.trans (HR.out.2.below (B := H) (Nat.le_refl _) (Nat.le_trans HN.out.2.2.2.2.1.2.2.2.2.2.2 (Nat.le_of_lt HN.out.2.1.size_lt)))).trans ((Only.setRow E w10 (ws (folds hv8 vr 8))).below (B := H) HN.out.2.2.2.2.1.2.2.2.2.2.2 (Nat.le_trans HN.out.2.2.2.2.1.2.2.2.2.2.2 (Nat.le_of_lt HE.out.size_lt)))
                      rw [HN.out.2.2.2.2.2] at e7
                      exact e7

end Go.Proofs.YtfminodongcelaaDoor
