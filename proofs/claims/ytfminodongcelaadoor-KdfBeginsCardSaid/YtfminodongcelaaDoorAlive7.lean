/-
  Chains of keys: the document's; texts that are looked at; the small run.
-/
import Derived.Test.YtfminodongcelaaDoorChain
import Derived.Handy
set_option linter.unusedVariables false
set_option linter.unusedSimpArgs false
namespace Go.Proofs.YtfminodongcelaaDoor
open Go.RowKit
open Go.Lib (strCells)

def lks (key s : ByteArray) (n k : Nat) : List Value := (List.range k).map fun j => Value.string (linkS key s n j)
theorem lks_snoc (key s : ByteArray) (n k : Nat) : lks key s n (k + 1) = lks key s n k ++ [.string (linkS key s n k)] := by simp [lks, List.range_succ]
theorem own_shape9 {B : Nat} {w : World} {v : Value} {n : Nat} {xs : List Value} (h : w.ownsRow B 9 1 v n xs) : ∃ ao cap, v = .slice ao n cap := by
  rcases h.2 with ⟨hv, hn⟩ | ⟨g, cap, cur, hv, _⟩
  · exact ⟨none, 0, by rw [hv, hn]⟩
  · exact ⟨_, cap, hv⟩
theorem small3 {z n : Nat} (h : z < n) (hn : n ≤ 3) : z + 1 ≤ maxLen ∧ (z + 1) * 16 ≤ 140737488355328 := by unfold maxLen; omega
theorem links_of_own {key s : ByteArray} {n : Nat} {w w' : World} {ao : Option Addr} {cap : Nat} (h : w'.ownsRow w.heap.size 9 1 (.slice ao n cap) n (lks key s n n)) (h1 : 1 ≤ n) (hb : Below w.heap.size w w') :
    Links key s n w (.returned (.tuple #[.slice ao n cap, .int .i64 0])) w' := by
  rcases h.2 with ⟨hv, hn⟩ | ⟨g, c, cur, hv, _⟩
  · omega
  · cases hv
    refine ⟨g, cap, rfl, fun i hi => ?_, hb⟩
    have := h.cells (g := g) rfl i (.string (linkS key s n i)) (by simp [lks, hi])
    rw [Addr.add_mid, Nat.zero_add] at this
    exact this
set_option maxHeartbeats 8000000 in
theorem refchain_any (key s : ByteArray) (n : Nat) (w : World) (hk : key.size ≤ 10000) (hs : s.size ≤ 9000) (h1 : 1 ≤ n) (h3 : n ≤ 3) :
    Calls Tryd.prog 29 #[.string key, .string s, .int .i64 n] w (Links key s n w) := by
  have HT := Lib.hid (And.intro hk (And.intro hs (And.intro h1 h3)))
  obtain ⟨M, hM, m1, m2, m3, m4, m5, n1, n2⟩ := nI n h1 h3
  have HM := Lib.hid (And.intro hM m5)
  obtain ⟨i0, hi, hz, hz1, hz2⟩ := info9_parts
  have HI := Lib.hid (And.intro hi (And.intro hz (And.intro hz1 hz2)))
  clear hk hs h1 h3 hM m5 hi hz hz1 hz2
  go_enter Tryd.func29, Tryd.ntmps29
  go_wp2_with fail
  refine (refhmac_any key s _ (by have := HT.out.2.1; omega) HT.out.1).mono ?_
  rintro e w1 ⟨rfl, B1⟩
  have H1 := Lib.hid B1
  clear B1
  simp only []
  go_wp2_with fail
  refine (refexpand_any (hmacS key s) .empty M _ (by rw [hmacS_size]; decide) (by decide) HM.out.2).mono ?_
  rintro e w2 ⟨rfl, B2⟩
  have H2 := Lib.hid (H1.out.trans (B2.mono H1.out.size))
  clear B2
  obtain ⟨all, hall⟩ : ∃ all, all = expS (hmacS key s) .empty M := ⟨_, rfl⟩
  have has : all.size = 32 * n := by rw [hall, expS_size, HM.out.1]
  rw [← hall]
  have HA := Lib.hid (And.intro hall has)
  clear hall has
  simp only []
  go_wp2_with fail
  go_loopw [10, 11] (fun v i wr => ∃ z : Nat, z ≤ n ∧ i = .int .i64 z ∧ wr.ownsRow w.heap.size 9 1 v z (lks key s n z) ∧ Below w.heap.size w wr) (fun _ i _ => n - (intOf i).toNat)
  case atStart => exact ⟨0, Nat.zero_le _, rfl, World.ownsRow_nil _ _ _ _, H2.out⟩
  case round =>
    obtain ⟨z, hz, rfl, own, B⟩ := hrel
    obtain ⟨ao, cap, rfl⟩ := own_shape9 own
    obtain ⟨w3, rfl⟩ : ∃ uu : World, uu = wr := ⟨_, rfl⟩
    have HR := Lib.hid (And.intro own B)
    clear own B
    by_cases hlt : z < n
    · obtain ⟨A, B, hA, hB, q1, q2, q3, q4, q5, q6, q7, q8, l1, l2, l3, l4, l5, l6, l7⟩ := lkI z n hlt HT.out.2.2.2
      rw [← HA.out.2] at l3 l5
      have hL : all.extract A B = linkS key s n z := by rw [HA.out.1, HM.out.1, hA, hB]; rfl
      obtain ⟨L, hLL⟩ : ∃ L, L = all.extract A B := ⟨_, rfl⟩
      rw [← hLL] at hL
      have hsl : ∀ u, (Instr.slice 9 (.string all) (some (.int .i64 A)) (some (.int .i64 B)) none).run Tryd.prog u = .ok (.string L) u := fun u => by rw [hLL]; exact run_slice_string u 9 all .i64 .i64 A B und9 l1 l2 l3
      have HN := Lib.hid (And.intro hL hlt)
      clear hA hB hL hLL hlt
      go_wp2_with (at_builtin; go_must (refine wpList_append_own _ rfl _ _ 33 rfl w.heap.size 9 i0 (.string .empty) 1 16 und33 HI.out.1 HI.out.2.1 HI.out.2.2.1 HI.out.2.2.2 rfl (by decide) _ _ _ rfl (HR.out.1.alloc _) ⟨w3.heap.size, 0, none⟩ 1 1 [.string L] rfl rfl ?c1 ?c2 ?c3 ?c4 ?c5 ?_))
      case c1 =>
        intro jj uu hj
        match jj, hj with
        | 0, hj => simp at hj; subst hj; simp [Addr.add]
      case c2 => intro uu hu; simp at hu; subst hu; rfl
      case c3 => exact (small3 HN.out.2 HT.out.2.2.2).1
      case c4 => exact (small3 HN.out.2 HT.out.2.2.2).2
      case c5 => exact Nat.le_trans HR.out.2.size (by simp)
      intro v' w4 own4 gr4 _
      have B4 := (HR.out.2.alloc HR.out.2.size (.cells #[.string L] 9)).grown gr4 (Nat.le_trans HR.out.2.size (by simp)) (fun g hg => (HR.out.1.lt g hg).1)
      have own5 : w4.ownsRow w.heap.size 9 1 v' (z + 1) (lks key s n (z + 1)) := by
        rw [lks_snoc, ← HN.out.1]
        exact own4
      have HF := Lib.hid (And.intro own5 B4)
      clear own4 own5 gr4 B4
      go_wp2_with fail
      go_roundw
      case rel => exact ⟨z + 1, HN.out.2, succI z, HF.out.1, HF.out.2⟩
      case measure => exact measI n z HN.out.2
    · obtain rfl := isN hz hlt
      clear hlt hz
      go_wp2_with fail
      go_ret2
      exact links_of_own HR.out.1 HT.out.2.2.1 HR.out.2

/-! ### Texts that a statement looks at. -/
theorem smN {a b : Nat} : ((a : Int) + b = ((a + b : Nat) : Int)) := by omega
set_option maxHeartbeats 4000000 in
theorem small_yes {b : Nat} (x y : ByteArray) (w : World) (c0 : w.cell? ⟨b, 0, none⟩ = some (.string x)) (c1 : w.cell? ⟨b, 1, none⟩ = some (.string y)) (h : x.size + y.size ≤ 2048) :
    Calls Tryd.prog 21 #[.slice (some ⟨b, 0, none⟩) 2 2] w fun e w' => e = .returned (.bool true) ∧ w' = w := by
  have h1 : (x.size : Int) ≤ 2048 := by omega
  have h2 : (x.size : Int) + y.size ≤ 2048 := by omega
  clear h
  go_enter Tryd.func21, Tryd.ntmps21
  go_wp2_with fail
  go_rounds 3
  go_ret
  exact ⟨rfl, rfl⟩
set_option maxHeartbeats 4000000 in
theorem small_no {b : Nat} (x y : ByteArray) (w : World) (c0 : w.cell? ⟨b, 0, none⟩ = some (.string x)) (c1 : w.cell? ⟨b, 1, none⟩ = some (.string y)) (h : ¬ x.size + y.size ≤ 2048) (hx : x.size ≤ 140737488355328) (hy : y.size ≤ 140737488355328) :
    Calls Tryd.prog 21 #[.slice (some ⟨b, 0, none⟩) 2 2] w fun e w' => e = .returned (.bool false) ∧ w' = w := by
  by_cases h1 : x.size ≤ 2048
  · have h1 : (x.size : Int) ≤ 2048 := by omega
    have h2 : ¬ (x.size : Int) + y.size ≤ 2048 := by omega
    have HH := Lib.hid h
    clear h
    go_enter Tryd.func21, Tryd.ntmps21
    go_wp2_with fail
    go_rounds 3
    go_ret
    have hh := HH.out
    exact ⟨by simp; omega, rfl⟩
  · have h1 : ¬ (x.size : Int) ≤ 2048 := by omega
    have HH := Lib.hid h
    clear h
    go_enter Tryd.func21, Tryd.ntmps21
    go_wp2_with fail
    go_rounds 2
    go_ret
    have hh := HH.out
    exact ⟨by simp; omega, rfl⟩

theorem linkS_size (key s : ByteArray) (n i : Nat) (h : i < n) : (linkS key s n i).size = 32 := by
  unfold linkS
  rw [ext_size _ _ _ (by rw [expS_size]; omega)]
  omega
set_option maxHeartbeats 8000000 in
theorem alive7_any (w : World) (hT : Tab w) : Calls Tryd.prog 22 #[] w fun e w' => e = .returned (.bool true) ∧ Below w.heap.size w w' := by
  have H0 := Lib.hid hT
  clear hT
  go_enter Tryd.func22, Tryd.ntmps22
  go_wp2_with fail
  refine (chain_any ⟨#[107]⟩ ⟨#[115]⟩ 2 _ H0.out (by decide) (by decide) (by decide) (by decide)).mono ?_
  rintro e w1 ⟨g, cap, rfl, hc, B1⟩
  have c0 := hc 0 (by decide)
  have hg := World.block_lt_of_cell? _ _ c0
  obtain ⟨L, hL⟩ : ∃ L, L = linkS ⟨#[107]⟩ ⟨#[115]⟩ 2 0 := ⟨_, rfl⟩
  have hLs : L.size = 32 := by rw [hL]; exact linkS_size _ _ _ _ (by decide)
  rw [← hL] at c0
  have H1 := Lib.hid (And.intro B1 (And.intro c0 hg))
  clear B1 hc c0 hL hg
  simp only []
  go_wp2_with fail
  refine (chain_bad _ _ 4 _ (Or.inr (by decide))).mono ?_
  rintro e w2 ⟨rfl, rfl⟩
  simp only []
  go_wp2_with fail
  refine (expand_bad _ _ 8161 _ (Or.inr (by decide))).mono ?_
  rintro e w2 ⟨rfl, rfl⟩
  simp only []
  go_wp2_with fail
  refine (hmac_any ⟨#[107]⟩ ⟨#[115]⟩ _ (H0.out.more H1.out.1) (by decide) (by decide)).mono ?_
  rintro e w2 ⟨rfl, B2⟩
  have H2 := Lib.hid (H1.out.1.trans (B2.mono H1.out.1.size))
  have c0 := (B2.cell (p := ⟨g, 0, none⟩) H1.out.2.2).trans H1.out.2.1
  obtain ⟨T, hT⟩ : ∃ T, T = hmacS ⟨#[107]⟩ ⟨#[115]⟩ := ⟨_, rfl⟩
  have hTs : T.size = 32 := by rw [hT]; exact hmacS_size _ _
  rw [← hT]
  have HT := Lib.hid hT
  clear B2 hT
  simp only []
  go_wp2_with fail
  refine (hmac_any ⟨#[107]⟩ ⟨#[115]⟩ _ (H0.out.more H2.out) (by decide) (by decide)).mono ?_
  rintro e w3 ⟨rfl, B3⟩
  rw [← HT.out]
  have H3 := Lib.hid (H2.out.trans (B3.mono H2.out.size))
  clear B3 c0
  simp only []
  go_wp2_with fail
  refine (extract_any ⟨#[107]⟩ ⟨#[115]⟩ _ (H0.out.more H3.out) (by decide) (by decide)).mono ?_
  rintro e w4 ⟨rfl, B4⟩
  rw [← HT.out]
  have H4 := Lib.hid (H3.out.trans (B4.mono H3.out.size))
  clear B4
  simp only []
  go_wp2_with fail
  refine (hmac_any ⟨#[107]⟩ ⟨#[115]⟩ _ (H0.out.more H4.out) (by decide) (by decide)).mono ?_
  rintro e w5 ⟨rfl, B5⟩
  rw [← HT.out]
  have H5 := Lib.hid (H4.out.trans (B5.mono H4.out.size))
  clear B5
  simp only []
  go_wp2_with fail
  refine (refhmac_any ⟨#[107]⟩ ⟨#[115]⟩ _ (by decide) (by decide)).mono ?_
  rintro e w6 ⟨rfl, B6⟩
  rw [← HT.out]
  have H6 := Lib.hid (H5.out.trans (B6.mono H5.out.size))
  clear B6
  simp only []
  go_wp2_with fail
  go_ret
  exact ⟨rfl, H6.out⟩

end Go.Proofs.YtfminodongcelaaDoor
