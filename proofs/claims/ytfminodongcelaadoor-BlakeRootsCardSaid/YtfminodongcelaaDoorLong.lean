/-
  Long numbers: what the document's times and above compute.
-/
import Derived.Test.YtfminodongcelaaDoorAlive
set_option linter.unusedVariables false
namespace Go.Proofs.YtfminodongcelaaDoor
open Go.RowKit

def M64 : Nat := 18446744073709551616
def ls (v : List Nat) : Array Value := (v.map fun n : Nat => Value.int .u64 (n : Int)).toArray
/-- A long number lies in the block b. -/
structure Lw (w : World) (b : Nat) (v : List Nat) : Prop where
  block : w.heap[b]? = some (.cells (ls v) 78)
  len : v.length = 16
  lt : ∀ i, at_ v i < M64
theorem ls_size (v : List Nat) : (ls v).size = v.length := by simp [ls]
theorem ls_one (v : List Nat) : (ls v).all (·.oneCell') = true := by
  rw [Array.all_eq_true_iff_forall_mem]
  intro x hx
  simp only [ls, List.mem_toArray, List.mem_map] at hx
  obtain ⟨n, _, rfl⟩ := hx
  rfl
theorem rowTy78 : RowTy 78 16 := ⟨⟨40, by kernel_rfl⟩, by kernel_rfl⟩
theorem ls_zeros : ls (zeros 16) = #[.int .u64 0, .int .u64 0, .int .u64 0, .int .u64 0, .int .u64 0, .int .u64 0, .int .u64 0, .int .u64 0, .int .u64 0, .int .u64 0, .int .u64 0, .int .u64 0, .int .u64 0, .int .u64 0, .int .u64 0, .int .u64 0] := rfl
theorem at_zerosM (i : Nat) : at_ (zeros 16) i < M64 := Nat.lt_trans (at_zeros 16 i) (by decide)
namespace Lw
variable {w : World} {b : Nat} {v : List Nat}
theorem cell (h : Lw w b v) (i : Nat) (hi : i < 16) : w.cell? ⟨b, i, none⟩ = some (.int .u64 (at_ v i)) := by
  have hi' : i < v.length := by rw [h.len]; exact hi
  simp [World.cell?, h.block, ls, at_, hi']
theorem fz (h : Lw w b v) (i : Nat) : w.frozen? ⟨b, i, none⟩ = false := by simp [World.frozen?, h.block]
theorem size_lt (h : Lw w b v) : b < w.heap.size := (Array.getElem?_eq_some_iff.1 h.block).1
theorem keep (h : Lw w b v) {w' : World} (hb : w'.heap[b]? = w.heap[b]?) : Lw w' b v := ⟨hb.trans h.block, h.len, h.lt⟩
theorem drew (h : Lw w b v) : Lw w.drew b v := h.keep rfl
theorem alloc (h : Lw w b v) (o : Obj) : Lw (w.alloc o) b v := h.keep (Below.heap_alloc _ _ _ h.size_lt)
theorem other (h : Lw w b v) {c : Nat} {w' : World} (hf : Only c w w') (hc : b ≠ c) : Lw w' b v := h.keep (hf.block b h.size_lt hc)
theorem more (h : Lw w b v) {w' : World} (hb : Below w.heap.size w w') : Lw w' b v := h.keep (hb.block b h.size_lt)
theorem set (h : Lw w b v) (i x : Nat) (hi : i < 16) (hx : x < M64) : Lw (w.setCell ⟨b, i, none⟩ (.int .u64 x)) b (v.set i x) := by
  refine ⟨?_, by rw [List.length_set]; exact h.len, fun j => ?_⟩
  · simp [World.setCell, Array.getElem?_modify, h.block, ls, List.map_set]
  · rw [at_set _ _ _ _ (by rw [h.len]; exact hi)]
    split
    · exact hx
    · exact h.lt j
theorem of_eq (h : Lw w b v) {u : List Nat} (e : v = u) : Lw w b u := e ▸ h
theorem cells (h : Lw w b v) : Cells w b 78 (ls v) := ⟨h.block⟩
theorem setRow (h : Lw w b v) (u : List Nat) (hu : u.length = 16) (hl : ∀ i, at_ u i < M64) : Lw (w.setRow b (ls u)) b u := ⟨setRow_heap w b _ _ _ _ h.block, hu, hl⟩
end Lw
theorem lw_new (w : World) (v : List Nat) (hl : v.length = 16) (hv : ∀ i, at_ v i < M64) : Lw (w.alloc (.cells (ls v) 78)) w.heap.size v := ⟨heap_alloc_last w _, hl, hv⟩

/-! ### Plain. -/
def accL (a b t : List Nat) (i k : Nat) : List Nat := t.set (i + k) ((at_ t (i + k) + at_ a i * at_ b k % M64) % M64)
def innL (a b t : List Nat) (i : Nat) : Nat → List Nat
  | 0 => t
  | k + 1 => accL a b (innL a b t i k) i k
def outL (a b : List Nat) : Nat → List Nat
  | 0 => zeros 16
  | i + 1 => innL a b (outL a b i) i (16 - i)
def cryL (t : List Nat) : Nat → List Nat × Nat
  | 0 => (t, 0)
  | i + 1 => ((cryL t i).1.set i (((at_ (cryL t i).1 i + (cryL t i).2) % M64) &&& 65535), ((at_ (cryL t i).1 i + (cryL t i).2) % M64) / 65536)
def timesL (a b : List Nat) : List Nat := (cryL (outL a b 16) 16).1
def aboveN (a b : List Nat) : Nat → Bool
  | 0 => false
  | i + 1 => if at_ a i = at_ b i then aboveN a b i else decide (at_ b i < at_ a i)
theorem setM {v : List Nat} (h : ∀ i, at_ v i < M64) (k x : Nat) (hx : x < M64) (i : Nat) : at_ (v.set k x) i < M64 := by
  by_cases hk : k < v.length
  · rw [at_set _ _ _ _ hk]
    split
    · exact hx
    · exact h i
  · rw [List.set_eq_of_length_le (by omega)]
    exact h i
theorem ixik (i k : Nat) (h : i + k < 16) : ∃ j : Nat, j = i + k ∧ wrap64 ((i : Int) + k) = j ∧ IntKind.i64.wrap ((i : Int) + k) = j ∧ (0 : Int) ≤ j ∧ (j : Int) < 16 ∧ (0 : Int) ≤ i ∧ (i : Int) < 16 ∧ (0 : Int) ≤ k ∧ (k : Int) < 16 ∧ j < 16 ∧ i < 16 ∧ k < 16 :=
  ⟨i + k, rfl, (i64w (by omega) (by omega)).1, (i64w (by omega) (by omega)).2, by omega⟩
theorem mul_u64 (A C : Nat) : IntKind.u64.wrap ((A : Int) * C) = ((A * C % M64 : Nat) : Int) := by rw [IntKind.wrap_u64]; unfold M64; omega
theorem add_u64 (A C : Nat) : IntKind.u64.wrap ((A : Int) + C) = (((A + C) % M64 : Nat) : Int) := by rw [IntKind.wrap_u64]; unfold M64; omega

theorem kEnd {n k : Nat} (h : k ≤ 16 - n) (h2 : ¬ n + k < 16) : k = 16 - n := by omega
theorem ixEnd (n k : Nat) (h : k ≤ 16 - n) (h2 : ¬ n + k < 16) (h3 : n < 16) : wrap64 ((n : Int) + k) = ((16 : Nat) : Int) ∧ IntKind.i64.wrap ((n : Int) + k) = ((16 : Nat) : Int) := i64w (n := 16) (by omega) (by decide)
theorem rng16 (n : Nat) (h : n < 16) : (0 : Int) ≤ n ∧ (n : Int) < 16 := by omega

set_option maxHeartbeats 8000000 in
theorem times_any (a b : List Nat) (w : World) (la : a.length = 16) (ha : ∀ i, at_ a i < M64) (lb : b.length = 16) (hb : ∀ i, at_ b i < M64) :
    Calls Tryd.prog 39 #[.agg (ls a), .agg (ls b)] w fun e w' => e = .returned (.agg (ls (timesL a b))) ∧ Below w.heap.size w w' ∧ (timesL a b).length = 16 ∧ ∀ i, at_ (timesL a b) i < M64 := by
  have RA := (((lw_new w a la ha).alloc (.cells (ls b) 78)).alloc (.cells (ls (zeros 16)) 78)).alloc (.cells (ls (zeros 16)) 78)
  have RB := ((lw_new (w.alloc (.cells (ls a) 78)) b lb hb).alloc (.cells (ls (zeros 16)) 78)).alloc (.cells (ls (zeros 16)) 78)
  have RE := (lw_new ((w.alloc (.cells (ls a) 78)).alloc (.cells (ls b) 78)) (zeros 16) rfl at_zerosM).alloc (.cells (ls (zeros 16)) 78)
  have RT := lw_new (((w.alloc (.cells (ls a) 78)).alloc (.cells (ls b) 78)).alloc (.cells (ls (zeros 16)) 78)) (zeros 16) rfl at_zerosM
  have B0 := ((((Below.refl w.heap.size w).alloc (Nat.le_refl _) (.cells (ls a) 78)).alloc (by simp) (.cells (ls b) 78)).alloc (by simp; omega) (.cells (ls (zeros 16)) 78)).alloc (by simp; omega) (.cells (ls (zeros 16)) 78)
  clear la ha lb hb
  go_enter Tryd.func39, Tryd.ntmps39
  go_wp2_with fail
  rw [← ls_zeros]
  rw [show (w.alloc (.cells (ls a) 78)).heap.size = w.heap.size + 1 by simp] at RB
  rw [show ((w.alloc (.cells (ls a) 78)).alloc (.cells (ls b) 78)).heap.size = w.heap.size + 1 + 1 by simp] at RE
  rw [show (((w.alloc (.cells (ls a) 78)).alloc (.cells (ls b) 78)).alloc (.cells (ls (zeros 16)) 78)).heap.size = w.heap.size + 1 + 1 + 1 by simp] at RT
  obtain ⟨w0, hw0⟩ : ∃ uu, uu = (((w.alloc (.cells (ls a) 78)).alloc (.cells (ls b) 78)).alloc (.cells (ls (zeros 16)) 78)).alloc (.cells (ls (zeros 16)) 78) := ⟨_, rfl⟩
  rw [← hw0] at RA RB RE RT B0
  rw [← hw0]
  obtain ⟨hA, hB, hE, hT, q1, q2, q3, q4, q5⟩ : ∃ A B E T : Nat, A = w.heap.size ∧ B = w.heap.size + 1 ∧ E = w.heap.size + 1 + 1 ∧ T = w.heap.size + 1 + 1 + 1 ∧ (A ≠ T ∧ B ≠ T ∧ E ≠ T ∧ A ≤ T ∧ A ≤ E) := ⟨_, _, _, _, rfl, rfl, rfl, rfl, by omega⟩
  rw [← q1] at RA B0
  rw [← q2] at RB
  rw [← q3] at RE
  rw [← q4] at RT
  rw [← q4, ← q3, ← q2, ← q1]
  have H0 := Lib.hid (And.intro RA (And.intro RB (And.intro RE (And.intro B0 (And.intro q1 q5)))))
  clear RA RB RE B0 q1 q2 q3 q4 q5 hw0
  go_loopw [6] (fun i wr => ∃ n : Nat, n ≤ 16 ∧ i = .int .i64 n ∧ Lw wr hT (outL a b n) ∧ Only hT w0 wr) (fun i _ => 16 - (intOf i).toNat)
  case atStart => exact ⟨0, Nat.zero_le _, rfl, RT, Only.refl _ _⟩
  case round =>
    obtain ⟨n, hn, rfl, RR, OR⟩ := hrel
    clear RT
    by_cases hlt : n < 16
    · have hn1 := rng16 n hlt
      obtain ⟨hn1, hn2⟩ := hn1
      have HN := Lib.hid (And.intro RR OR)
      obtain ⟨t0, ht0⟩ : ∃ t0, t0 = outL a b n := ⟨_, rfl⟩
      rw [← ht0] at RR
      have HT0 := Lib.hid ht0
      clear OR ht0
      go_wp2_with fail
      go_loopw [7] (fun i wr' => ∃ k : Nat, k ≤ 16 - n ∧ i = .int .i64 k ∧ Lw wr' hT (innL a b t0 n k) ∧ Only hT wr wr') (fun i _ => 16 - n - (intOf i).toNat)
      case atStart => exact ⟨0, Nat.zero_le _, rfl, RR, Only.refl _ _⟩
      case round =>
        obtain ⟨k, hk, rfl, RK, OK⟩ := hrel
        clear RR
        have HK := Lib.hid (And.intro RK OK)
        clear RK OK
        by_cases hkt : n + k < 16
        · obtain ⟨j, hj, k1, k2, l1, l2, l3, l4, l5, l6, l7, l8, l9⟩ := ixik n k hkt
          have g0 : (j : Int) < 16 := l2
          have OA := HN.out.2.trans HK.out.2
          have cA := (H0.out.1.other OA H0.out.2.2.2.2.2.1).cell n l8
          have cB := (H0.out.2.1.other OA H0.out.2.2.2.2.2.2.1).cell k l9
          have cT := HK.out.1.cell j l7
          have f1 := HK.out.1.drew.fz j
          obtain ⟨A, hA'⟩ : ∃ A, A = at_ a n := ⟨_, rfl⟩
          obtain ⟨C, hC'⟩ : ∃ A, A = at_ b k := ⟨_, rfl⟩
          obtain ⟨D, hD'⟩ : ∃ A, A = at_ (innL a b t0 n k) j := ⟨_, rfl⟩
          rw [← hA'] at cA
          rw [← hC'] at cB
          rw [← hD'] at cT
          have e1 := mul_u64 A C
          obtain ⟨P, hP⟩ : ∃ P, P = A * C % M64 := ⟨_, rfl⟩
          rw [← hP] at e1
          have e2 := add_u64 D P
          obtain ⟨S, hS⟩ : ∃ S, S = (D + P) % M64 := ⟨_, rfl⟩
          rw [← hS] at e2
          have lS : S < M64 := by rw [hS]; exact Nat.mod_lt _ (by decide)
          have R2 := (HK.out.1.set j S l7 lS).drew
          have O2 := (HK.out.2.setCell j (.int .u64 (S : Int))).drew
          have hse : (innL a b t0 n k).set j S = innL a b t0 n (k + 1) := by
            rw [hS, hP, hA', hC', hD', hj]
            rfl
          have HX := Lib.hid (And.intro (R2.of_eq hse) O2)
          have hk1 := Lib.hid (Nat.le_sub_of_add_le (show k + 1 + n ≤ 16 by rw [Nat.add_comm (k + 1) n]; exact hkt))
          clear hA' hC' hD' hP hS lS R2 O2 hse OA hj l7 l8 l9
          go_wp2_with fail
          go_still_tail 17, (by kernel_rfl)
          go_wp2_with fail
          go_roundw
          case rel => exact ⟨k + 1, hk1.out, succI k, HX.out.1, HX.out.2⟩
          case measure => exact measI _ k hk1.out
        · have hkn := kEnd hk hkt
          obtain ⟨x1, x2⟩ := ixEnd n k hk hkt hlt
          have RN := HK.out.1
          rw [hkn] at RN
          have RN2 := RN.of_eq (u := outL a b (n + 1)) (by rw [HT0.out]; rfl)
          have HX := Lib.hid (And.intro RN2 (HN.out.2.trans HK.out.2))
          clear RN RN2 hkn hk HK
          go_wp2_with fail
          go_roundw
          case rel => exact ⟨n + 1, hlt, succI n, HX.out.1, HX.out.2⟩
          case measure => exact measI 16 n hlt
    · have hn16 := isN hn hlt
      have hlt2 : ¬ (n : Int) < 16 := nltI (n := 16) hlt
      rw [hn16] at RR
      obtain ⟨t1, ht1⟩ : ∃ t1, t1 = outL a b 16 := ⟨_, rfl⟩
      rw [← ht1] at RR
      obtain ⟨w1, rfl⟩ : ∃ uu : World, uu = wr := ⟨_, rfl⟩
      have H1 := Lib.hid (And.intro OR ht1)
      clear hn hlt hn16 OR ht1
      go_wp2_with fail
      go_loopw [8, 9] (fun c i wr => ∃ m : Nat, m ≤ 16 ∧ i = .int .i64 m ∧ c = .int .u64 (((cryL t1 m).2 : Nat) : Int) ∧ Lw wr hT (cryL t1 m).1 ∧ Only hT w1 wr) (fun c i _ => 16 - (intOf i).toNat)
      case atStart => exact ⟨0, Nat.zero_le _, rfl, rfl, RR, Only.refl _ _⟩
      case round =>
        obtain ⟨m, hm, rfl, rfl, RK, OK⟩ := hrel
        clear RR
        have HK := Lib.hid (And.intro RK OK)
        clear RK OK
        by_cases hmt : m < 16
        · obtain ⟨l1, l2⟩ := rng16 m hmt
          have cT := HK.out.1.cell m hmt
          have f1 := HK.out.1.fz m
          obtain ⟨D, hD'⟩ : ∃ A, A = at_ (cryL t1 m).1 m := ⟨_, rfl⟩
          obtain ⟨C, hC'⟩ : ∃ A, A = (cryL t1 m).2 := ⟨_, rfl⟩
          rw [← hD'] at cT
          rw [← hC']
          have e2 := add_u64 D C
          obtain ⟨X, hX⟩ : ∃ X, X = (D + C) % M64 := ⟨_, rfl⟩
          rw [← hX] at e2
          have lX : X < M64 := by rw [hX]; exact Nat.mod_lt _ (by decide)
          have e3 := u64_and_nat X 65535 lX (by decide)
          obtain ⟨S, hS⟩ : ∃ S, S = X &&& 65535 := ⟨_, rfl⟩
          rw [← hS] at e3
          have lS : S < M64 := by rw [hS]; exact Nat.lt_of_le_of_lt Nat.and_le_left lX
          have e4 : (X : Int) / 65536 = ((X / 65536 : Nat) : Int) := by simp
          obtain ⟨G, hG⟩ : ∃ G, G = X / 65536 := ⟨_, rfl⟩
          rw [← hG] at e4
          have R2 := HK.out.1.set m S hmt lS
          have O2 := HK.out.2.setCell m (.int .u64 (S : Int))
          have hse : (cryL t1 m).1.set m S = (cryL t1 (m + 1)).1 := by
            rw [hS, hX, hD', hC']
            rfl
          have hge : G = (cryL t1 (m + 1)).2 := by
            rw [hG, hX, hD', hC']
            rfl
          have HX := Lib.hid (And.intro (R2.of_eq hse) (And.intro O2 hge))
          have e3' : bits .and .u64 (X : Int) 65535 = S := e3
          clear hD' hC' hX hS lS lX R2 O2 hse hge hG e3
          go_wp2_with fail
          go_roundw
          case rel => exact ⟨m + 1, hmt, succI m, by rw [← HX.out.2.2], HX.out.1, HX.out.2.1⟩
          case measure => exact measI 16 m hmt
        · have hm16 := isN hm hmt
          have hlt3 : ¬ (m : Int) < 16 := nltI (n := 16) hmt
          have RK := HK.out.1
          rw [hm16] at RK
          have RF := RK.of_eq (u := timesL a b) (by rw [H1.out.2]; rfl)
          have OF := H1.out.1.trans HK.out.2
          have RE2 := H0.out.2.2.1.other OF H0.out.2.2.2.2.2.2.2.1
          have HF := Lib.hid (And.intro RF RE2)
          have HRow := Lib.hid (RE2.setRow (timesL a b) RF.len RF.lt)
          have HBl := Lib.hid ((H0.out.2.2.2.1.trans (OF.below (B := hA) H0.out.2.2.2.2.2.2.2.2.1 (Nat.le_of_lt H0.out.1.size_lt))).trans ((Only.setRow hE wr (ls (timesL a b))).below (B := hA) H0.out.2.2.2.2.2.2.2.2.2 (Nat.le_trans H0.out.2.2.2.2.2.2.2.2.2 (Nat.le_of_lt RE2.size_lt))))
          have HS := Lib.hid (show (ls (timesL a b)).size = 16 by rw [ls_size]; exact RF.len)
          clear hm hmt hm16 RK RF OF RE2 HK
          go_wp2_with (first | (refine wpList_load_cells rfl _ rfl rfl HF.out.1.cells rowTy78 HS.out ?_) | (refine wpList_store_cells rfl _ _ rfl rfl rfl HF.out.2.cells rowTy78 (by rfl) HS.out (ls_one _) ?_))
          refine bodyPost_ret (results_cells (p := 4) (by kernel_rfl) (by rfl) HRow.out.cells rowTy78 HS.out) rfl ⟨rfl, ?_, HF.out.1.len, HF.out.1.lt⟩
          have h := HBl.out
          rw [H0.out.2.2.2.2.1] at h
          exact h

end Go.Proofs.YtfminodongcelaaDoor
