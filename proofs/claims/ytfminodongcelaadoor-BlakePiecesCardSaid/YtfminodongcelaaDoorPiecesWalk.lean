/-
  The sum hangs on the bytes alone, not on how they came: the statement's walk.
-/
import Derived.Test.YtfminodongcelaaDoorSumsWalk
set_option linter.unusedVariables false
namespace Go.Proofs.YtfminodongcelaaDoor
open Go.RowKit
open Go.Lib (strCells)

/-- Texts lie in a row of cells. -/
def StrsAt (w : World) (ao : Option Addr) (l : List ByteArray) : Prop :=
  ∀ k (h : k < l.length), ∃ b off, ao = some ⟨b, off, none⟩ ∧ b < w.heap.size ∧ w.cell? ⟨b, off + k, none⟩ = some (.string l[k])
theorem add_nil_st (x : HSt) : x.add .empty = x := rfl
theorem st_sum_hash (size : Nat) (key c : ByteArray) : digs (compress ((newS size key).add c).h (pad ((newS size key).add c).r) (w64 (((newS size key).add c).n + ((newS size key).add c).r.size)) true) size = hashS size key c := rfl
theorem rem5 (k : Nat) : ∃ R : Nat, (k : Int).tmod 5 = R ∧ (k : Int) % 5 = R ∧ wrap64 (R : Int) = R ∧ IntKind.i64.wrap (R : Int) = R := by
  refine ⟨k % 5, by rw [Int.tmod_eq_emod_of_nonneg (by omega)]; simp, by simp, ?_, IntWalk.i64_in _ (by omega)⟩
  unfold wrap64; omega
theorem pc_in {n z k : Nat} (h1 : n ≤ 500) (h2 : z ≤ 4096) : ¬ (500 : Int) < n ∧ ¬ (4096 : Int) < z ∧ n ≤ maxLen ∧ z + n ≤ 9223372036854775807 ∧ z + n ≤ 100000 ∧ z + n ≤ 5000 ∧ z + n ≤ maxLen := by unfold maxLen; omega
theorem ltN {k n : Nat} (h : k < n) : (k : Int) < n := Int.ofNat_lt.2 h
theorem lt40 {k : Nat} (h : k < 40) : (k : Int) < 40 := by omega
theorem nlt40 {k : Nat} (h : ¬ k < 40) : ¬ (k : Int) < 40 := by omega
theorem gt500 {n : Nat} (h : ¬ n ≤ 500) : (500 : Int) < n := by omega
theorem le500 {n : Nat} (h : n ≤ 500) : ¬ (500 : Int) < n := by omega
theorem ne0I {R : Nat} (h : ¬ R = 0) : ¬ (R : Int) = 0 := by omega
theorem smallS {n : Nat} (h : n ≤ 5000) : n ≤ 100000 ∧ n ≤ maxLen := by unfold maxLen; omega

set_option maxHeartbeats 8000000 in
theorem pieces_long (size : Int) (key : ByteArray) (v : Value) (w : World) (hT : Tab w) (h : ¬ key.size ≤ 4096) : Calls Tryd.prog 4 #[.int .i64 size, .string key, v] w fun e w' => e = .returned (.bool true) ∧ Below w.heap.size w w' := by
  have H0 := Lib.hid hT
  clear hT
  have h := gt4096 h
  go_enter Tryd.func4, Tryd.ntmps4
  go_wp2_with fail
  refine (alive_any _ H0.out).mono ?_
  rintro e w1 ⟨rfl, B1⟩
  have H1 := Lib.hid B1
  clear B1
  simp only []
  go_wp2_with fail
  go_ret
  exact ⟨rfl, H1.out⟩
set_option maxHeartbeats 8000000 in
theorem pieces_no (size : Int) (key : ByteArray) (v : Value) (w : World) (hT : Tab w) (hk : key.size ≤ 4096) (hm : ¬ may size key) : Calls Tryd.prog 4 #[.int .i64 size, .string key, v] w fun e w' => e = .returned (.bool true) ∧ Below w.heap.size w w' := by
  have H0 := Lib.hid (And.intro hT hm)
  have h1 := (le4096 hk).1
  clear hT hm hk
  go_enter Tryd.func4, Tryd.ntmps4
  go_wp2_with fail
  refine (new_bad size key _ H0.out.2).mono ?_
  rintro e w1 ⟨rfl, rfl⟩
  simp only []
  go_wp2_with fail
  refine (may_no size key _ H0.out.2).mono ?_
  rintro e w1 ⟨rfl, rfl⟩
  simp only []
  go_wp2_with fail
  refine (alive_any _ H0.out.1).mono ?_
  rintro e w1 ⟨rfl, B1⟩
  have H1 := Lib.hid B1
  clear B1
  simp only []
  go_wp2_with fail
  go_ret
  exact ⟨rfl, H1.out⟩

set_option maxHeartbeats 16000000 in
theorem pieces_yes (size : Nat) (key : ByteArray) (ao : Option Addr) (cap : Nat) (l : List ByteArray) (w : World) (hT : Tab w) (HL : Hid (StrsAt w ao l)) (hll : l.length ≤ maxLen) (hm : 1 ≤ size ∧ size ≤ 32 ∧ key.size ≤ 32) :
    Calls Tryd.prog 4 #[.int .i64 size, .string key, .slice ao l.length cap] w fun e w' => e = .returned (.bool true) ∧ Below w.heap.size w w' := by
  have H0 := Lib.hid (And.intro hT hm)
  have h1 := (le4096 (n := key.size) (by omega)).1
  unfold maxLen at hll
  have hll2 : (l.length : Int) ≤ 9223372036854775807 := by omega
  clear hT hm hll
  go_enter Tryd.func4, Tryd.ntmps4
  go_wp2_with fail
  refine (new_any size key _ H0.out.1 H0.out.2.1 H0.out.2.2.1 H0.out.2.2.2).mono ?_
  rintro e w1 ⟨b, v, hb, rfl, V1, B1⟩
  have H1 := Lib.hid (And.intro V1 (And.intro B1 hb))
  clear V1 B1 hb
  simp only []
  go_wp2_with fail
  go_loopw [9, 10] (fun al i wr => ∃ (k : Nat) (c : ByteArray) (v : Value), k ≤ l.length ∧ k ≤ 40 ∧ i = .int .i64 k ∧ al = .string c ∧ c.size ≤ 5000 ∧ (HV w.heap.size wr b size v ((newS size key).add c) ∧ Below w.heap.size w wr)) (fun _ i _ => l.length - (intOf i).toNat)
  case atStart => exact ⟨0, .empty, v, Nat.zero_le _, Nat.zero_le _, rfl, rfl, by decide, H1.out.1, H1.out.2.1⟩
  case round =>
    obtain ⟨k, c, vr, hk, hk40, rfl, rfl, hcs, hV, hB⟩ := hrel
    have HR := Lib.hid (And.intro hV (And.intro hB (And.intro hcs (And.intro hk hk40))))
    clear hV hB hcs hk hk40
    by_cases hlt : k < l.length
    · by_cases h40 : k < 40
      · obtain ⟨bb, off, hal, hbw, q0⟩ := HL.out k hlt
        subst hal
        have q1 := (HR.out.2.1.cell (p := ⟨bb, _, none⟩) hbw).trans q0
        obtain ⟨s, hs⟩ : ∃ s, s = l[k] := ⟨_, rfl⟩
        rw [← hs] at q0 q1
        clear hs
        have i1 := ltN hlt
        have i2 := lt40 h40
        have HK := Lib.hid (And.intro hlt (And.intro h40 (And.intro hbw q0)))
        clear hlt h40 hbw q0
        by_cases g1 : s.size ≤ 500
        · by_cases g2 : c.size ≤ 4096
          · obtain ⟨p1, p2, p3, p4, p5, p6, p7⟩ := pc_in (k := k) g1 g2
            have hadd : ∀ u, (Op.stringOp .add c s).run Tryd.prog u = .ok (.string (c ++ s)) u := fun u => run_string_add_sum u _ _ p4
            have hcs := c.size_append (b := s)
            obtain ⟨d, hd⟩ : ∃ d, d = c ++ s := ⟨_, rfl⟩
            rw [← hd] at hadd hcs
            rw [← hcs] at p5 p6 p7
            have HD := Lib.hid (And.intro hd (And.intro hcs (And.intro p3 (And.intro p5 (And.intro p6 p7)))))
            clear hd hcs p3 p4 p5 p6 p7 g1 g2
            obtain ⟨R, r1, r2, r3, r4⟩ := rem5 k
            go_wp2_with fail
            refine (add_any w.heap.size s (H0.out.1.more HR.out.2.1) HR.out.1 HR.out.2.1.size H0.out.1.lt H1.out.2.2 (ne0 H0.out.2.1) HD.out.2.2.1).mono ?_
            rintro e w2 ⟨rfl, ⟨v2, V2⟩, B2⟩
            rw [add_add, ← HD.out.1] at V2
            have BB := HR.out.2.1.trans B2
            have q2 := (BB.cell (p := ⟨bb, _, none⟩) HK.out.2.2.1).trans HK.out.2.2.2
            have H2 := Lib.hid (And.intro V2 BB)
            clear V2 B2 BB q1
            simp only []
            go_wp2_with fail
            refine (sum_any size key d _ (H0.out.1.more H2.out.2) H0.out.2.1 H0.out.2.2.1 H0.out.2.2.2 HD.out.2.2.2.2.2).mono ?_
            rintro e w3 ⟨rfl, B3⟩
            have V3 := H2.out.1.more (B3.mono (Nat.le_refl _))
            have H3 := Lib.hid (And.intro V3 (H2.out.2.trans (B3.mono H2.out.2.size)))
            clear B3 V3
            obtain ⟨X, hX⟩ : ∃ X, X = hashS size key d := ⟨_, rfl⟩
            rw [← hX]
            have HX := Lib.hid hX
            clear hX q2
            simp only []
            by_cases hR : R = 0
            · subst hR
              go_wp2_with fail
              refine (hsum_any w.heap.size (H0.out.1.more H3.out.2) H3.out.1 H0.out.2.1 H0.out.2.2.1).mono ?_
              rintro e w4 ⟨rfl, B4⟩
              rw [st_sum_hash, ← HX.out]
              have V4 := H3.out.1.more (B4.mono (Nat.le_refl _))
              have H4 := Lib.hid (And.intro V4 (H3.out.2.trans (B4.mono H3.out.2.size)))
              clear B4 V4
              simp only []
              go_wp2_with fail
              go_roundw
              case rel => exact ⟨k + 1, d, v2, HK.out.1, HK.out.2.1, succI k, rfl, HD.out.2.2.2.2.1, H4.out.1, H4.out.2⟩
              case measure => exact measI l.length k HK.out.1
            · have hR1 : ((R : Int) == 0) = false := beq_eq_false_iff_ne.2 (ne0I hR)
              have hR2 : ¬ (R : Int) = 0 := ne0I hR
              clear hR
              go_wp2_with fail
              go_roundw
              case rel => exact ⟨k + 1, d, v2, HK.out.1, HK.out.2.1, succI k, rfl, HD.out.2.2.2.2.1, H3.out.1, H3.out.2⟩
              case measure => exact measI l.length k HK.out.1
          · have g2 := gt4096 g2
            have g1 := le500 g1
            go_wp2_with fail
            refine (alive_any _ (H0.out.1.more HR.out.2.1)).mono ?_
            rintro e w2 ⟨rfl, B2⟩
            have H2 := Lib.hid (HR.out.2.1.trans (B2.mono HR.out.2.1.size))
            clear B2
            simp only []
            go_wp2_with fail
            go_ret
            exact ⟨rfl, H2.out⟩
        · have g1 := gt500 g1
          go_wp2_with fail
          refine (alive_any _ (H0.out.1.more HR.out.2.1)).mono ?_
          rintro e w2 ⟨rfl, B2⟩
          have H2 := Lib.hid (HR.out.2.1.trans (B2.mono HR.out.2.1.size))
          clear B2
          simp only []
          go_wp2_with fail
          go_ret
          exact ⟨rfl, H2.out⟩
      · have i1 := ltN hlt
        have i2 := nlt40 h40
        clear hlt h40
        go_wp2_with fail
        refine (hsum_any w.heap.size (H0.out.1.more HR.out.2.1) HR.out.1 H0.out.2.1 H0.out.2.2.1).mono ?_
        rintro e w4 ⟨rfl, B4⟩
        rw [st_sum_hash]
        obtain ⟨X, hX⟩ : ∃ X, X = hashS size key c := ⟨_, rfl⟩
        rw [← hX]
        have H4 := Lib.hid (And.intro hX (HR.out.2.1.trans (B4.mono HR.out.2.1.size)))
        clear B4 hX
        simp only []
        go_wp2_with fail
        refine (refhash_any size key c _ H0.out.2.1 H0.out.2.2.1 H0.out.2.2.2 (smallS HR.out.2.2.1).1).mono ?_
        rintro e w5 ⟨rfl, B5⟩
        rw [← H4.out.1]
        have H5 := Lib.hid (H4.out.2.trans (B5.mono H4.out.2.size))
        clear B5
        simp only []
        go_wp2_with fail
        refine (alive_any _ (H0.out.1.more H5.out)).mono ?_
        rintro e w6 ⟨rfl, B6⟩
        have H6 := Lib.hid (H5.out.trans (B6.mono H5.out.size))
        clear B6
        simp only []
        go_wp2_with fail
        go_ret
        exact ⟨rfl, H6.out⟩
    · have i1 := nltI hlt
      clear hlt
      go_wp2_with fail
      refine (hsum_any w.heap.size (H0.out.1.more HR.out.2.1) HR.out.1 H0.out.2.1 H0.out.2.2.1).mono ?_
      rintro e w4 ⟨rfl, B4⟩
      rw [st_sum_hash]
      obtain ⟨X, hX⟩ : ∃ X, X = hashS size key c := ⟨_, rfl⟩
      rw [← hX]
      have H4 := Lib.hid (And.intro hX (HR.out.2.1.trans (B4.mono HR.out.2.1.size)))
      clear B4 hX
      simp only []
      go_wp2_with fail
      refine (refhash_any size key c _ H0.out.2.1 H0.out.2.2.1 H0.out.2.2.2 (smallS HR.out.2.2.1).1).mono ?_
      rintro e w5 ⟨rfl, B5⟩
      rw [← H4.out.1]
      have H5 := Lib.hid (H4.out.2.trans (B5.mono H4.out.2.size))
      clear B5
      simp only []
      go_wp2_with fail
      refine (alive_any _ (H0.out.1.more H5.out)).mono ?_
      rintro e w6 ⟨rfl, B6⟩
      have H6 := Lib.hid (H5.out.trans (B6.mono H5.out.size))
      clear B6
      simp only []
      go_wp2_with fail
      go_ret
      exact ⟨rfl, H6.out⟩
theorem pieces_walk (size : Int) (key : ByteArray) (ao : Option Addr) (cap : Nat) (l : List ByteArray) (w : World) (hT : Tab w) (HL : Hid (StrsAt w ao l)) (hll : l.length ≤ maxLen) :
    Calls Tryd.prog 4 #[.int .i64 size, .string key, .slice ao l.length cap] w fun e w' => e = .returned (.bool true) ∧ Below w.heap.size w w' := by
  by_cases hk : key.size ≤ 4096
  · by_cases hm : may size key
    · obtain ⟨n, rfl, hn⟩ := may_nat hm
      exact pieces_yes n key ao cap l w hT HL hll hn
    · exact pieces_no size key _ w hT hk hm
  · exact pieces_long size key _ w hT hk

end Go.Proofs.YtfminodongcelaaDoor
