/-
  Addresses and packets: may they be; an address's bytes.
-/
import Derived.Test.YtgonakpoflacoaaReader
import Derived.Outline
set_option linter.unusedVariables false
set_option linter.unusedSimpArgs false
namespace Go.Proofs.Ytgonakpoflacoaa
open Go.RowKit

structure Ad where
  v6 : Bool
  hi : Nat
  lo : Nat
def Ad.Ok (a : Ad) : Prop := a.hi < 18446744073709551616 ∧ a.lo < 18446744073709551616
def Ad.val (a : Ad) : Value := .agg #[.bool a.v6, .int .u64 a.hi, .int .u64 a.lo]
structure Pk where
  src : Ad
  dst : Ad
  proto : Nat
  ttl : Nat
  data : ByteArray
def Pk.Ok (p : Pk) : Prop := p.src.Ok ∧ p.dst.Ok ∧ p.proto < 256 ∧ p.ttl < 256
def Pk.cells (p : Pk) : Array Value := #[.bool p.src.v6, .int .u64 p.src.hi, .int .u64 p.src.lo, .bool p.dst.v6, .int .u64 p.dst.hi, .int .u64 p.dst.lo, .int .u8 p.proto, .int .u8 p.ttl, .string p.data]
def Pk.val (p : Pk) : Value := .agg p.cells
def mayA (a : Ad) : Bool := a.v6 || (decide (a.hi = 0) && decide (a.lo < 4294967296))
def mayE (p : Pk) : Int :=
  if mayA p.src = false then 2 else if mayA p.dst = false then 2 else if p.src.v6 ≠ p.dst.v6 then 2 else if (if p.src.v6 then 40 else 20) + p.data.size > 1500 then 4 else 0

theorem heap_alloc_last (w : World) (o : Obj) : (w.alloc o).heap[w.heap.size]? = some o := heap_alloc_new w o
theorem shr0 {lo : Nat} (h : lo < 4294967296) : (lo : Int) / 4294967296 = 0 := by omega
theorem shr1 {lo : Nat} (h : ¬ lo < 4294967296) : ∃ k : Nat, (lo : Int) / 4294967296 = k ∧ ¬ (k : Int) = 0 ∧ ((k : Int) == 0) = false := by
  refine ⟨lo / 4294967296, by omega, by omega, beq_eq_false_iff_ne.2 (by omega)⟩
theorem ne0N {k : Nat} (h : ¬ k = 0) : ¬ (k : Int) = 0 ∧ ((k : Int) == 0) = false := ⟨by omega, beq_eq_false_iff_ne.2 (by omega)⟩
theorem ltN4 {k : Nat} (h : k < 4294967296) : (k : Int) < 4294967296 := by omega
theorem nltN4 {k : Nat} (h : ¬ k < 4294967296) : ¬ (k : Int) < 4294967296 := by omega
set_option maxHeartbeats 4000000 in
theorem mayAddr_any (a : Ad) (w : World) : Calls Try.prog 36 #[a.val] w fun e w' => e = .returned (.bool (mayA a)) ∧ Below w.heap.size w w' := by
  obtain ⟨v6, hi, lo⟩ := a
  have HB := Lib.hid ((Below.refl w.heap.size w).alloc (Nat.le_refl _) (.cells #[.bool v6, .int .u64 hi, .int .u64 lo] 24))
  show Calls Try.prog 36 #[.agg #[.bool v6, .int .u64 hi, .int .u64 lo]] w _
  cases v6
  · by_cases h1 : hi = 0
    · subst h1
      by_cases h2 : lo < 4294967296
      · have H2 := Lib.hid h2
        have e1 := shr0 h2
        have e2 := ltN4 h2
        clear h2
        go_enter Try.func36, Try.ntmps36
        go_wp2_with fail
        go_ret
        exact ⟨by simp [mayA, H2.out], HB.out⟩
      · have H2 := Lib.hid h2
        obtain ⟨k, e1, e2, e3⟩ := shr1 h2
        have e4 := nltN4 h2
        clear h2
        go_enter Try.func36, Try.ntmps36
        go_wp2_with fail
        go_ret
        exact ⟨by simp [mayA, H2.out], HB.out⟩
    · have H1 := Lib.hid h1
      obtain ⟨e1, e2⟩ := ne0N h1
      clear h1
      go_enter Try.func36, Try.ntmps36
      go_wp2_with fail
      go_ret
      exact ⟨by simp [mayA, H1.out], HB.out⟩
  · go_enter Try.func36, Try.ntmps36
    go_wp2_with fail
    go_ret
    exact ⟨rfl, HB.out⟩
set_option maxHeartbeats 4000000 in
theorem refMayAddr_any (a : Ad) (w : World) : Calls Try.prog 44 #[a.val] w fun e w' => e = .returned (.bool (mayA a)) ∧ Below w.heap.size w w' := by
  obtain ⟨v6, hi, lo⟩ := a
  have HB := Lib.hid ((Below.refl w.heap.size w).alloc (Nat.le_refl _) (.cells #[.bool v6, .int .u64 hi, .int .u64 lo] 24))
  show Calls Try.prog 44 #[.agg #[.bool v6, .int .u64 hi, .int .u64 lo]] w _
  cases v6
  · by_cases h1 : hi = 0
    · subst h1
      by_cases h2 : lo < 4294967296
      · have H2 := Lib.hid h2
        have e1 := shr0 h2
        have e2 := ltN4 h2
        clear h2
        go_enter Try.func44, Try.ntmps44
        go_wp2_with fail
        go_ret
        exact ⟨by simp [mayA, H2.out], HB.out⟩
      · have H2 := Lib.hid h2
        obtain ⟨k, e1, e2, e3⟩ := shr1 h2
        have e4 := nltN4 h2
        clear h2
        go_enter Try.func44, Try.ntmps44
        go_wp2_with fail
        go_ret
        exact ⟨by simp [mayA, H2.out], HB.out⟩
    · have H1 := Lib.hid h1
      obtain ⟨e1, e2⟩ := ne0N h1
      clear h1
      go_enter Try.func44, Try.ntmps44
      go_wp2_with fail
      go_ret
      exact ⟨by simp [mayA, H1.out], HB.out⟩
  · go_enter Try.func44, Try.ntmps44
    go_wp2_with fail
    go_ret
    exact ⟨rfl, HB.out⟩

/-- What May answers, test by test. -/
theorem mayE_1 {p : Pk} (h : mayA p.src = false) : mayE p = 2 := by unfold mayE; rw [if_pos h]
theorem mayE_2 {p : Pk} (h : mayA p.src = true) (h2 : mayA p.dst = false) : mayE p = 2 := by unfold mayE; simp [h, h2]
theorem mayE_3 {p : Pk} (h : mayA p.src = true) (h2 : mayA p.dst = true) (h3 : p.src.v6 ≠ p.dst.v6) : mayE p = 2 := by unfold mayE; simp [h, h2, h3]
theorem mayE_4 {p : Pk} (h : mayA p.src = true) (h2 : mayA p.dst = true) (h3 : p.src.v6 = p.dst.v6) (h4 : (if p.src.v6 then 40 else 20) + p.data.size > 1500) : mayE p = 4 := by unfold mayE; simp [h, h2, h3] at *; omega
theorem mayE_5 {p : Pk} (h : mayA p.src = true) (h2 : mayA p.dst = true) (h3 : p.src.v6 = p.dst.v6) (h4 : ¬ (if p.src.v6 then 40 else 20) + p.data.size > 1500) : mayE p = 0 := by unfold mayE; simp [h, h2, h3] at *; omega
set_option maxHeartbeats 8000000 in
theorem may_any (p : Pk) (w : World) (hd : p.data.size ≤ 100000) : Calls Try.prog 26 #[p.val] w fun e w' => e = .returned (.int .i64 (mayE p)) ∧ Below w.heap.size w w' := by
  obtain ⟨⟨v1, h1, l1⟩, ⟨v2, h2, l2⟩, pr, tt, d⟩ := p
  obtain ⟨p, hp⟩ : ∃ p : Pk, p = ⟨⟨v1, h1, l1⟩, ⟨v2, h2, l2⟩, pr, tt, d⟩ := ⟨_, rfl⟩
  have HP := Lib.hid (And.intro hp hd)
  rw [← hp]
  have HB := Lib.hid ((Below.refl w.heap.size w).alloc (Nat.le_refl _) (.cells #[.bool v1, .int .u64 h1, .int .u64 l1, .bool v2, .int .u64 h2, .int .u64 l2, .int .u8 pr, .int .u8 tt, .string d] 30))
  have hz : (d.size : Int) ≤ 100000 := by have : d.size ≤ 100000 := hd; omega
  clear hd
  rw [show p.val = .agg #[.bool v1, .int .u64 h1, .int .u64 l1, .bool v2, .int .u64 h2, .int .u64 l2, .int .u8 pr, .int .u8 tt, .string d] by rw [hp]; rfl]
  clear hp
  obtain ⟨b1, hb1⟩ : ∃ b, b = mayA ⟨v1, h1, l1⟩ := ⟨_, rfl⟩
  obtain ⟨b2, hb2⟩ : ∃ b, b = mayA ⟨v2, h2, l2⟩ := ⟨_, rfl⟩
  have H1 := Lib.hid hb1
  have H2 := Lib.hid hb2
  clear hb1 hb2
  have C1 : ∀ u, Calls Try.prog 36 #[.agg #[.bool v1, .int .u64 h1, .int .u64 l1]] u fun e w' => e = .returned (.bool b1) ∧ Below u.heap.size u w' := fun u => (mayAddr_any ⟨v1, h1, l1⟩ u).mono (by rintro e w1 ⟨rfl, B⟩; rw [H1.out]; exact ⟨rfl, B⟩)
  have C2 : ∀ u, Calls Try.prog 36 #[.agg #[.bool v2, .int .u64 h2, .int .u64 l2]] u fun e w' => e = .returned (.bool b2) ∧ Below u.heap.size u w' := fun u => (mayAddr_any ⟨v2, h2, l2⟩ u).mono (by rintro e w1 ⟨rfl, B⟩; rw [H2.out]; exact ⟨rfl, B⟩)
  have HC1 := Lib.hid C1
  have HC2 := Lib.hid C2
  clear C1 C2
  cases b1
  · cases v1
    · go_enter Try.func26, Try.ntmps26
      go_wp2_with fail
      refine (HC1.out _).mono ?_
      rintro e w1 ⟨rfl, B1⟩
      simp only []
      have HB1 := Lib.hid (HB.out.trans (B1.mono HB.out.size))
      have D0 : w1.heap[w.heap.size]? = some (.cells #[.bool false, .int .u64 h1, .int .u64 l1, .bool v2, .int .u64 h2, .int .u64 l2, .int .u8 pr, .int .u8 tt, .string d] 30) := (B1.block _ (by simp)).trans (heap_alloc_last w _)
      clear B1
      have e3 : w1.cell? ⟨w.heap.size, 3, none⟩ = some (.bool v2) := by simp [World.cell?, D0]
      have e4 : w1.cell? ⟨w.heap.size, 4, none⟩ = some (.int .u64 h2) := by simp [World.cell?, D0]
      have e5 : w1.cell? ⟨w.heap.size, 5, none⟩ = some (.int .u64 l2) := by simp [World.cell?, D0]
      have HD := Lib.hid D0
      clear D0
      go_wp2_with fail
      go_ret
      exact ⟨by rw [mayE_1 (by rw [HP.out.1]; exact H1.out.symm)]; rfl, HB1.out⟩
    · go_enter Try.func26, Try.ntmps26
      go_wp2_with fail
      refine (HC1.out _).mono ?_
      rintro e w1 ⟨rfl, B1⟩
      simp only []
      have HB1 := Lib.hid (HB.out.trans (B1.mono HB.out.size))
      have D0 : w1.heap[w.heap.size]? = some (.cells #[.bool true, .int .u64 h1, .int .u64 l1, .bool v2, .int .u64 h2, .int .u64 l2, .int .u8 pr, .int .u8 tt, .string d] 30) := (B1.block _ (by simp)).trans (heap_alloc_last w _)
      clear B1
      have e3 : w1.cell? ⟨w.heap.size, 3, none⟩ = some (.bool v2) := by simp [World.cell?, D0]
      have e4 : w1.cell? ⟨w.heap.size, 4, none⟩ = some (.int .u64 h2) := by simp [World.cell?, D0]
      have e5 : w1.cell? ⟨w.heap.size, 5, none⟩ = some (.int .u64 l2) := by simp [World.cell?, D0]
      have HD := Lib.hid D0
      clear D0
      go_wp2_with fail
      go_ret
      exact ⟨by rw [mayE_1 (by rw [HP.out.1]; exact H1.out.symm)]; rfl, HB1.out⟩
  · cases b2
    · cases v1
      · go_enter Try.func26, Try.ntmps26
        go_wp2_with fail
        refine (HC1.out _).mono ?_
        rintro e w1 ⟨rfl, B1⟩
        simp only []
        have HB1 := Lib.hid (HB.out.trans (B1.mono HB.out.size))
        have D0 : w1.heap[w.heap.size]? = some (.cells #[.bool false, .int .u64 h1, .int .u64 l1, .bool v2, .int .u64 h2, .int .u64 l2, .int .u8 pr, .int .u8 tt, .string d] 30) := (B1.block _ (by simp)).trans (heap_alloc_last w _)
        clear B1
        have e3 : w1.cell? ⟨w.heap.size, 3, none⟩ = some (.bool v2) := by simp [World.cell?, D0]
        have e4 : w1.cell? ⟨w.heap.size, 4, none⟩ = some (.int .u64 h2) := by simp [World.cell?, D0]
        have e5 : w1.cell? ⟨w.heap.size, 5, none⟩ = some (.int .u64 l2) := by simp [World.cell?, D0]
        have HD := Lib.hid D0
        clear D0
        go_wp2_with fail
        refine (HC2.out _).mono ?_
        rintro e w2 ⟨rfl, B2⟩
        simp only []
        have D2 : w2.heap[w.heap.size]? = some (.cells #[.bool false, .int .u64 h1, .int .u64 l1, .bool v2, .int .u64 h2, .int .u64 l2, .int .u8 pr, .int .u8 tt, .string d] 30) := (B2.block _ (by have := (Array.getElem?_eq_some_iff.1 HD.out).1; exact this)).trans HD.out
        have HB2 := Lib.hid (HB1.out.trans (B2.mono HB1.out.size))
        clear e3 e4 e5 B2
        have f0 : w2.cell? ⟨w.heap.size, 0, none⟩ = some (.bool false) := by simp [World.cell?, D2]
        have f3 : w2.cell? ⟨w.heap.size, 3, none⟩ = some (.bool v2) := by simp [World.cell?, D2]
        have f8 : w2.cell? ⟨w.heap.size, 8, none⟩ = some (.string d) := by simp [World.cell?, D2]
        clear D2
        go_wp2_with fail
        go_ret
        exact ⟨by rw [mayE_2 (by rw [HP.out.1]; exact H1.out.symm) (by rw [HP.out.1]; exact H2.out.symm)]; rfl, HB2.out⟩
      · go_enter Try.func26, Try.ntmps26
        go_wp2_with fail
        refine (HC1.out _).mono ?_
        rintro e w1 ⟨rfl, B1⟩
        simp only []
        have HB1 := Lib.hid (HB.out.trans (B1.mono HB.out.size))
        have D0 : w1.heap[w.heap.size]? = some (.cells #[.bool true, .int .u64 h1, .int .u64 l1, .bool v2, .int .u64 h2, .int .u64 l2, .int .u8 pr, .int .u8 tt, .string d] 30) := (B1.block _ (by simp)).trans (heap_alloc_last w _)
        clear B1
        have e3 : w1.cell? ⟨w.heap.size, 3, none⟩ = some (.bool v2) := by simp [World.cell?, D0]
        have e4 : w1.cell? ⟨w.heap.size, 4, none⟩ = some (.int .u64 h2) := by simp [World.cell?, D0]
        have e5 : w1.cell? ⟨w.heap.size, 5, none⟩ = some (.int .u64 l2) := by simp [World.cell?, D0]
        have HD := Lib.hid D0
        clear D0
        go_wp2_with fail
        refine (HC2.out _).mono ?_
        rintro e w2 ⟨rfl, B2⟩
        simp only []
        have D2 : w2.heap[w.heap.size]? = some (.cells #[.bool true, .int .u64 h1, .int .u64 l1, .bool v2, .int .u64 h2, .int .u64 l2, .int .u8 pr, .int .u8 tt, .string d] 30) := (B2.block _ (by have := (Array.getElem?_eq_some_iff.1 HD.out).1; exact this)).trans HD.out
        have HB2 := Lib.hid (HB1.out.trans (B2.mono HB1.out.size))
        clear e3 e4 e5 B2
        have f0 : w2.cell? ⟨w.heap.size, 0, none⟩ = some (.bool true) := by simp [World.cell?, D2]
        have f3 : w2.cell? ⟨w.heap.size, 3, none⟩ = some (.bool v2) := by simp [World.cell?, D2]
        have f8 : w2.cell? ⟨w.heap.size, 8, none⟩ = some (.string d) := by simp [World.cell?, D2]
        clear D2
        go_wp2_with fail
        go_ret
        exact ⟨by rw [mayE_2 (by rw [HP.out.1]; exact H1.out.symm) (by rw [HP.out.1]; exact H2.out.symm)]; rfl, HB2.out⟩
    · cases v1
      · cases v2
        · by_cases hs : 1500 < (20 : Int) + d.size
          · have HS := Lib.hid hs
            go_enter Try.func26, Try.ntmps26
            go_wp2_with fail
            refine (HC1.out _).mono ?_
            rintro e w1 ⟨rfl, B1⟩
            simp only []
            have HB1 := Lib.hid (HB.out.trans (B1.mono HB.out.size))
            have D0 : w1.heap[w.heap.size]? = some (.cells #[.bool false, .int .u64 h1, .int .u64 l1, .bool false, .int .u64 h2, .int .u64 l2, .int .u8 pr, .int .u8 tt, .string d] 30) := (B1.block _ (by simp)).trans (heap_alloc_last w _)
            clear B1
            have e3 : w1.cell? ⟨w.heap.size, 3, none⟩ = some (.bool false) := by simp [World.cell?, D0]
            have e4 : w1.cell? ⟨w.heap.size, 4, none⟩ = some (.int .u64 h2) := by simp [World.cell?, D0]
            have e5 : w1.cell? ⟨w.heap.size, 5, none⟩ = some (.int .u64 l2) := by simp [World.cell?, D0]
            have HD := Lib.hid D0
            clear D0
            go_wp2_with fail
            refine (HC2.out _).mono ?_
            rintro e w2 ⟨rfl, B2⟩
            simp only []
            have D2 : w2.heap[w.heap.size]? = some (.cells #[.bool false, .int .u64 h1, .int .u64 l1, .bool false, .int .u64 h2, .int .u64 l2, .int .u8 pr, .int .u8 tt, .string d] 30) := (B2.block _ (by have := (Array.getElem?_eq_some_iff.1 HD.out).1; exact this)).trans HD.out
            have HB2 := Lib.hid (HB1.out.trans (B2.mono HB1.out.size))
            clear e3 e4 e5 B2
            have f0 : w2.cell? ⟨w.heap.size, 0, none⟩ = some (.bool false) := by simp [World.cell?, D2]
            have f3 : w2.cell? ⟨w.heap.size, 3, none⟩ = some (.bool false) := by simp [World.cell?, D2]
            have f8 : w2.cell? ⟨w.heap.size, 8, none⟩ = some (.string d) := by simp [World.cell?, D2]
            clear D2
            go_wp2_with fail
            go_ret
            exact ⟨by rw [mayE_4 (by rw [HP.out.1]; exact H1.out.symm) (by rw [HP.out.1]; exact H2.out.symm) (by rw [HP.out.1]) (by rw [HP.out.1]; have := HS.out; simp; omega)]; rfl, HB2.out⟩
          · have HS := Lib.hid hs
            go_enter Try.func26, Try.ntmps26
            go_wp2_with fail
            refine (HC1.out _).mono ?_
            rintro e w1 ⟨rfl, B1⟩
            simp only []
            have HB1 := Lib.hid (HB.out.trans (B1.mono HB.out.size))
            have D0 : w1.heap[w.heap.size]? = some (.cells #[.bool false, .int .u64 h1, .int .u64 l1, .bool false, .int .u64 h2, .int .u64 l2, .int .u8 pr, .int .u8 tt, .string d] 30) := (B1.block _ (by simp)).trans (heap_alloc_last w _)
            clear B1
            have e3 : w1.cell? ⟨w.heap.size, 3, none⟩ = some (.bool false) := by simp [World.cell?, D0]
            have e4 : w1.cell? ⟨w.heap.size, 4, none⟩ = some (.int .u64 h2) := by simp [World.cell?, D0]
            have e5 : w1.cell? ⟨w.heap.size, 5, none⟩ = some (.int .u64 l2) := by simp [World.cell?, D0]
            have HD := Lib.hid D0
            clear D0
            go_wp2_with fail
            refine (HC2.out _).mono ?_
            rintro e w2 ⟨rfl, B2⟩
            simp only []
            have D2 : w2.heap[w.heap.size]? = some (.cells #[.bool false, .int .u64 h1, .int .u64 l1, .bool false, .int .u64 h2, .int .u64 l2, .int .u8 pr, .int .u8 tt, .string d] 30) := (B2.block _ (by have := (Array.getElem?_eq_some_iff.1 HD.out).1; exact this)).trans HD.out
            have HB2 := Lib.hid (HB1.out.trans (B2.mono HB1.out.size))
            clear e3 e4 e5 B2
            have f0 : w2.cell? ⟨w.heap.size, 0, none⟩ = some (.bool false) := by simp [World.cell?, D2]
            have f3 : w2.cell? ⟨w.heap.size, 3, none⟩ = some (.bool false) := by simp [World.cell?, D2]
            have f8 : w2.cell? ⟨w.heap.size, 8, none⟩ = some (.string d) := by simp [World.cell?, D2]
            clear D2
            go_wp2_with fail
            go_ret
            exact ⟨by rw [mayE_5 (by rw [HP.out.1]; exact H1.out.symm) (by rw [HP.out.1]; exact H2.out.symm) (by rw [HP.out.1]) (by rw [HP.out.1]; have := HS.out; simp; omega)]; rfl, HB2.out⟩
        · go_enter Try.func26, Try.ntmps26
          go_wp2_with fail
          refine (HC1.out _).mono ?_
          rintro e w1 ⟨rfl, B1⟩
          simp only []
          have HB1 := Lib.hid (HB.out.trans (B1.mono HB.out.size))
          have D0 : w1.heap[w.heap.size]? = some (.cells #[.bool false, .int .u64 h1, .int .u64 l1, .bool true, .int .u64 h2, .int .u64 l2, .int .u8 pr, .int .u8 tt, .string d] 30) := (B1.block _ (by simp)).trans (heap_alloc_last w _)
          clear B1
          have e3 : w1.cell? ⟨w.heap.size, 3, none⟩ = some (.bool true) := by simp [World.cell?, D0]
          have e4 : w1.cell? ⟨w.heap.size, 4, none⟩ = some (.int .u64 h2) := by simp [World.cell?, D0]
          have e5 : w1.cell? ⟨w.heap.size, 5, none⟩ = some (.int .u64 l2) := by simp [World.cell?, D0]
          have HD := Lib.hid D0
          clear D0
          go_wp2_with fail
          refine (HC2.out _).mono ?_
          rintro e w2 ⟨rfl, B2⟩
          simp only []
          have D2 : w2.heap[w.heap.size]? = some (.cells #[.bool false, .int .u64 h1, .int .u64 l1, .bool true, .int .u64 h2, .int .u64 l2, .int .u8 pr, .int .u8 tt, .string d] 30) := (B2.block _ (by have := (Array.getElem?_eq_some_iff.1 HD.out).1; exact this)).trans HD.out
          have HB2 := Lib.hid (HB1.out.trans (B2.mono HB1.out.size))
          clear e3 e4 e5 B2
          have f0 : w2.cell? ⟨w.heap.size, 0, none⟩ = some (.bool false) := by simp [World.cell?, D2]
          have f3 : w2.cell? ⟨w.heap.size, 3, none⟩ = some (.bool true) := by simp [World.cell?, D2]
          have f8 : w2.cell? ⟨w.heap.size, 8, none⟩ = some (.string d) := by simp [World.cell?, D2]
          clear D2
          go_wp2_with fail
          go_ret
          exact ⟨by rw [mayE_3 (by rw [HP.out.1]; exact H1.out.symm) (by rw [HP.out.1]; exact H2.out.symm) (by rw [HP.out.1]; simp)]; rfl, HB2.out⟩
      · cases v2
        · go_enter Try.func26, Try.ntmps26
          go_wp2_with fail
          refine (HC1.out _).mono ?_
          rintro e w1 ⟨rfl, B1⟩
          simp only []
          have HB1 := Lib.hid (HB.out.trans (B1.mono HB.out.size))
          have D0 : w1.heap[w.heap.size]? = some (.cells #[.bool true, .int .u64 h1, .int .u64 l1, .bool false, .int .u64 h2, .int .u64 l2, .int .u8 pr, .int .u8 tt, .string d] 30) := (B1.block _ (by simp)).trans (heap_alloc_last w _)
          clear B1
          have e3 : w1.cell? ⟨w.heap.size, 3, none⟩ = some (.bool false) := by simp [World.cell?, D0]
          have e4 : w1.cell? ⟨w.heap.size, 4, none⟩ = some (.int .u64 h2) := by simp [World.cell?, D0]
          have e5 : w1.cell? ⟨w.heap.size, 5, none⟩ = some (.int .u64 l2) := by simp [World.cell?, D0]
          have HD := Lib.hid D0
          clear D0
          go_wp2_with fail
          refine (HC2.out _).mono ?_
          rintro e w2 ⟨rfl, B2⟩
          simp only []
          have D2 : w2.heap[w.heap.size]? = some (.cells #[.bool true, .int .u64 h1, .int .u64 l1, .bool false, .int .u64 h2, .int .u64 l2, .int .u8 pr, .int .u8 tt, .string d] 30) := (B2.block _ (by have := (Array.getElem?_eq_some_iff.1 HD.out).1; exact this)).trans HD.out
          have HB2 := Lib.hid (HB1.out.trans (B2.mono HB1.out.size))
          clear e3 e4 e5 B2
          have f0 : w2.cell? ⟨w.heap.size, 0, none⟩ = some (.bool true) := by simp [World.cell?, D2]
          have f3 : w2.cell? ⟨w.heap.size, 3, none⟩ = some (.bool false) := by simp [World.cell?, D2]
          have f8 : w2.cell? ⟨w.heap.size, 8, none⟩ = some (.string d) := by simp [World.cell?, D2]
          clear D2
          go_wp2_with fail
          go_ret
          exact ⟨by rw [mayE_3 (by rw [HP.out.1]; exact H1.out.symm) (by rw [HP.out.1]; exact H2.out.symm) (by rw [HP.out.1]; simp)]; rfl, HB2.out⟩
        · by_cases hs : 1500 < (40 : Int) + d.size
          · have HS := Lib.hid hs
            go_enter Try.func26, Try.ntmps26
            go_wp2_with fail
            refine (HC1.out _).mono ?_
            rintro e w1 ⟨rfl, B1⟩
            simp only []
            have HB1 := Lib.hid (HB.out.trans (B1.mono HB.out.size))
            have D0 : w1.heap[w.heap.size]? = some (.cells #[.bool true, .int .u64 h1, .int .u64 l1, .bool true, .int .u64 h2, .int .u64 l2, .int .u8 pr, .int .u8 tt, .string d] 30) := (B1.block _ (by simp)).trans (heap_alloc_last w _)
            clear B1
            have e3 : w1.cell? ⟨w.heap.size, 3, none⟩ = some (.bool true) := by simp [World.cell?, D0]
            have e4 : w1.cell? ⟨w.heap.size, 4, none⟩ = some (.int .u64 h2) := by simp [World.cell?, D0]
            have e5 : w1.cell? ⟨w.heap.size, 5, none⟩ = some (.int .u64 l2) := by simp [World.cell?, D0]
            have HD := Lib.hid D0
            clear D0
            go_wp2_with fail
            refine (HC2.out _).mono ?_
            rintro e w2 ⟨rfl, B2⟩
            simp only []
            have D2 : w2.heap[w.heap.size]? = some (.cells #[.bool true, .int .u64 h1, .int .u64 l1, .bool true, .int .u64 h2, .int .u64 l2, .int .u8 pr, .int .u8 tt, .string d] 30) := (B2.block _ (by have := (Array.getElem?_eq_some_iff.1 HD.out).1; exact this)).trans HD.out
            have HB2 := Lib.hid (HB1.out.trans (B2.mono HB1.out.size))
            clear e3 e4 e5 B2
            have f0 : w2.cell? ⟨w.heap.size, 0, none⟩ = some (.bool true) := by simp [World.cell?, D2]
            have f3 : w2.cell? ⟨w.heap.size, 3, none⟩ = some (.bool true) := by simp [World.cell?, D2]
            have f8 : w2.cell? ⟨w.heap.size, 8, none⟩ = some (.string d) := by simp [World.cell?, D2]
            clear D2
            go_wp2_with fail
            go_ret
            exact ⟨by rw [mayE_4 (by rw [HP.out.1]; exact H1.out.symm) (by rw [HP.out.1]; exact H2.out.symm) (by rw [HP.out.1]) (by rw [HP.out.1]; have := HS.out; simp; omega)]; rfl, HB2.out⟩
          · have HS := Lib.hid hs
            go_enter Try.func26, Try.ntmps26
            go_wp2_with fail
            refine (HC1.out _).mono ?_
            rintro e w1 ⟨rfl, B1⟩
            simp only []
            have HB1 := Lib.hid (HB.out.trans (B1.mono HB.out.size))
            have D0 : w1.heap[w.heap.size]? = some (.cells #[.bool true, .int .u64 h1, .int .u64 l1, .bool true, .int .u64 h2, .int .u64 l2, .int .u8 pr, .int .u8 tt, .string d] 30) := (B1.block _ (by simp)).trans (heap_alloc_last w _)
            clear B1
            have e3 : w1.cell? ⟨w.heap.size, 3, none⟩ = some (.bool true) := by simp [World.cell?, D0]
            have e4 : w1.cell? ⟨w.heap.size, 4, none⟩ = some (.int .u64 h2) := by simp [World.cell?, D0]
            have e5 : w1.cell? ⟨w.heap.size, 5, none⟩ = some (.int .u64 l2) := by simp [World.cell?, D0]
            have HD := Lib.hid D0
            clear D0
            go_wp2_with fail
            refine (HC2.out _).mono ?_
            rintro e w2 ⟨rfl, B2⟩
            simp only []
            have D2 : w2.heap[w.heap.size]? = some (.cells #[.bool true, .int .u64 h1, .int .u64 l1, .bool true, .int .u64 h2, .int .u64 l2, .int .u8 pr, .int .u8 tt, .string d] 30) := (B2.block _ (by have := (Array.getElem?_eq_some_iff.1 HD.out).1; exact this)).trans HD.out
            have HB2 := Lib.hid (HB1.out.trans (B2.mono HB1.out.size))
            clear e3 e4 e5 B2
            have f0 : w2.cell? ⟨w.heap.size, 0, none⟩ = some (.bool true) := by simp [World.cell?, D2]
            have f3 : w2.cell? ⟨w.heap.size, 3, none⟩ = some (.bool true) := by simp [World.cell?, D2]
            have f8 : w2.cell? ⟨w.heap.size, 8, none⟩ = some (.string d) := by simp [World.cell?, D2]
            clear D2
            go_wp2_with fail
            go_ret
            exact ⟨by rw [mayE_5 (by rw [HP.out.1]; exact H1.out.symm) (by rw [HP.out.1]; exact H2.out.symm) (by rw [HP.out.1]) (by rw [HP.out.1]; have := HS.out; simp; omega)]; rfl, HB2.out⟩
set_option maxHeartbeats 8000000 in
theorem refMay_any (p : Pk) (w : World) (hd : p.data.size ≤ 100000) : Calls Try.prog 30 #[p.val] w fun e w' => e = .returned (.int .i64 (mayE p)) ∧ Below w.heap.size w w' := by
  obtain ⟨⟨v1, h1, l1⟩, ⟨v2, h2, l2⟩, pr, tt, d⟩ := p
  obtain ⟨p, hp⟩ : ∃ p : Pk, p = ⟨⟨v1, h1, l1⟩, ⟨v2, h2, l2⟩, pr, tt, d⟩ := ⟨_, rfl⟩
  have HP := Lib.hid (And.intro hp hd)
  rw [← hp]
  have HB := Lib.hid ((Below.refl w.heap.size w).alloc (Nat.le_refl _) (.cells #[.bool v1, .int .u64 h1, .int .u64 l1, .bool v2, .int .u64 h2, .int .u64 l2, .int .u8 pr, .int .u8 tt, .string d] 30))
  have hz : (d.size : Int) ≤ 100000 := by have : d.size ≤ 100000 := hd; omega
  clear hd
  rw [show p.val = .agg #[.bool v1, .int .u64 h1, .int .u64 l1, .bool v2, .int .u64 h2, .int .u64 l2, .int .u8 pr, .int .u8 tt, .string d] by rw [hp]; rfl]
  clear hp
  obtain ⟨b1, hb1⟩ : ∃ b, b = mayA ⟨v1, h1, l1⟩ := ⟨_, rfl⟩
  obtain ⟨b2, hb2⟩ : ∃ b, b = mayA ⟨v2, h2, l2⟩ := ⟨_, rfl⟩
  have H1 := Lib.hid hb1
  have H2 := Lib.hid hb2
  clear hb1 hb2
  have C1 : ∀ u, Calls Try.prog 44 #[.agg #[.bool v1, .int .u64 h1, .int .u64 l1]] u fun e w' => e = .returned (.bool b1) ∧ Below u.heap.size u w' := fun u => (refMayAddr_any ⟨v1, h1, l1⟩ u).mono (by rintro e w1 ⟨rfl, B⟩; rw [H1.out]; exact ⟨rfl, B⟩)
  have C2 : ∀ u, Calls Try.prog 44 #[.agg #[.bool v2, .int .u64 h2, .int .u64 l2]] u fun e w' => e = .returned (.bool b2) ∧ Below u.heap.size u w' := fun u => (refMayAddr_any ⟨v2, h2, l2⟩ u).mono (by rintro e w1 ⟨rfl, B⟩; rw [H2.out]; exact ⟨rfl, B⟩)
  have HC1 := Lib.hid C1
  have HC2 := Lib.hid C2
  clear C1 C2
  cases b1
  · cases v1
    · go_enter Try.func30, Try.ntmps30
      go_wp2_with fail
      refine (HC1.out _).mono ?_
      rintro e w1 ⟨rfl, B1⟩
      simp only []
      have HB1 := Lib.hid (HB.out.trans (B1.mono HB.out.size))
      have D0 : w1.heap[w.heap.size]? = some (.cells #[.bool false, .int .u64 h1, .int .u64 l1, .bool v2, .int .u64 h2, .int .u64 l2, .int .u8 pr, .int .u8 tt, .string d] 30) := (B1.block _ (by simp)).trans (heap_alloc_last w _)
      clear B1
      have e3 : w1.cell? ⟨w.heap.size, 3, none⟩ = some (.bool v2) := by simp [World.cell?, D0]
      have e4 : w1.cell? ⟨w.heap.size, 4, none⟩ = some (.int .u64 h2) := by simp [World.cell?, D0]
      have e5 : w1.cell? ⟨w.heap.size, 5, none⟩ = some (.int .u64 l2) := by simp [World.cell?, D0]
      have HD := Lib.hid D0
      clear D0
      go_wp2_with fail
      go_ret
      exact ⟨by rw [mayE_1 (by rw [HP.out.1]; exact H1.out.symm)]; rfl, HB1.out⟩
    · go_enter Try.func30, Try.ntmps30
      go_wp2_with fail
      refine (HC1.out _).mono ?_
      rintro e w1 ⟨rfl, B1⟩
      simp only []
      have HB1 := Lib.hid (HB.out.trans (B1.mono HB.out.size))
      have D0 : w1.heap[w.heap.size]? = some (.cells #[.bool true, .int .u64 h1, .int .u64 l1, .bool v2, .int .u64 h2, .int .u64 l2, .int .u8 pr, .int .u8 tt, .string d] 30) := (B1.block _ (by simp)).trans (heap_alloc_last w _)
      clear B1
      have e3 : w1.cell? ⟨w.heap.size, 3, none⟩ = some (.bool v2) := by simp [World.cell?, D0]
      have e4 : w1.cell? ⟨w.heap.size, 4, none⟩ = some (.int .u64 h2) := by simp [World.cell?, D0]
      have e5 : w1.cell? ⟨w.heap.size, 5, none⟩ = some (.int .u64 l2) := by simp [World.cell?, D0]
      have HD := Lib.hid D0
      clear D0
      go_wp2_with fail
      go_ret
      exact ⟨by rw [mayE_1 (by rw [HP.out.1]; exact H1.out.symm)]; rfl, HB1.out⟩
  · cases b2
    · cases v1
      · go_enter Try.func30, Try.ntmps30
        go_wp2_with fail
        refine (HC1.out _).mono ?_
        rintro e w1 ⟨rfl, B1⟩
        simp only []
        have HB1 := Lib.hid (HB.out.trans (B1.mono HB.out.size))
        have D0 : w1.heap[w.heap.size]? = some (.cells #[.bool false, .int .u64 h1, .int .u64 l1, .bool v2, .int .u64 h2, .int .u64 l2, .int .u8 pr, .int .u8 tt, .string d] 30) := (B1.block _ (by simp)).trans (heap_alloc_last w _)
        clear B1
        have e3 : w1.cell? ⟨w.heap.size, 3, none⟩ = some (.bool v2) := by simp [World.cell?, D0]
        have e4 : w1.cell? ⟨w.heap.size, 4, none⟩ = some (.int .u64 h2) := by simp [World.cell?, D0]
        have e5 : w1.cell? ⟨w.heap.size, 5, none⟩ = some (.int .u64 l2) := by simp [World.cell?, D0]
        have HD := Lib.hid D0
        clear D0
        go_wp2_with fail
        refine (HC2.out _).mono ?_
        rintro e w2 ⟨rfl, B2⟩
        simp only []
        have D2 : w2.heap[w.heap.size]? = some (.cells #[.bool false, .int .u64 h1, .int .u64 l1, .bool v2, .int .u64 h2, .int .u64 l2, .int .u8 pr, .int .u8 tt, .string d] 30) := (B2.block _ (by have := (Array.getElem?_eq_some_iff.1 HD.out).1; exact this)).trans HD.out
        have HB2 := Lib.hid (HB1.out.trans (B2.mono HB1.out.size))
        clear e3 e4 e5 B2
        have f0 : w2.cell? ⟨w.heap.size, 0, none⟩ = some (.bool false) := by simp [World.cell?, D2]
        have f3 : w2.cell? ⟨w.heap.size, 3, none⟩ = some (.bool v2) := by simp [World.cell?, D2]
        have f8 : w2.cell? ⟨w.heap.size, 8, none⟩ = some (.string d) := by simp [World.cell?, D2]
        clear D2
        go_wp2_with fail
        go_ret
        exact ⟨by rw [mayE_2 (by rw [HP.out.1]; exact H1.out.symm) (by rw [HP.out.1]; exact H2.out.symm)]; rfl, HB2.out⟩
      · go_enter Try.func30, Try.ntmps30
        go_wp2_with fail
        refine (HC1.out _).mono ?_
        rintro e w1 ⟨rfl, B1⟩
        simp only []
        have HB1 := Lib.hid (HB.out.trans (B1.mono HB.out.size))
        have D0 : w1.heap[w.heap.size]? = some (.cells #[.bool true, .int .u64 h1, .int .u64 l1, .bool v2, .int .u64 h2, .int .u64 l2, .int .u8 pr, .int .u8 tt, .string d] 30) := (B1.block _ (by simp)).trans (heap_alloc_last w _)
        clear B1
        have e3 : w1.cell? ⟨w.heap.size, 3, none⟩ = some (.bool v2) := by simp [World.cell?, D0]
        have e4 : w1.cell? ⟨w.heap.size, 4, none⟩ = some (.int .u64 h2) := by simp [World.cell?, D0]
        have e5 : w1.cell? ⟨w.heap.size, 5, none⟩ = some (.int .u64 l2) := by simp [World.cell?, D0]
        have HD := Lib.hid D0
        clear D0
        go_wp2_with fail
        refine (HC2.out _).mono ?_
        rintro e w2 ⟨rfl, B2⟩
        simp only []
        have D2 : w2.heap[w.heap.size]? = some (.cells #[.bool true, .int .u64 h1, .int .u64 l1, .bool v2, .int .u64 h2, .int .u64 l2, .int .u8 pr, .int .u8 tt, .string d] 30) := (B2.block _ (by have := (Array.getElem?_eq_some_iff.1 HD.out).1; exact this)).trans HD.out
        have HB2 := Lib.hid (HB1.out.trans (B2.mono HB1.out.size))
        clear e3 e4 e5 B2
        have f0 : w2.cell? ⟨w.heap.size, 0, none⟩ = some (.bool true) := by simp [World.cell?, D2]
        have f3 : w2.cell? ⟨w.heap.size, 3, none⟩ = some (.bool v2) := by simp [World.cell?, D2]
        have f8 : w2.cell? ⟨w.heap.size, 8, none⟩ = some (.string d) := by simp [World.cell?, D2]
        clear D2
        go_wp2_with fail
        go_ret
        exact ⟨by rw [mayE_2 (by rw [HP.out.1]; exact H1.out.symm) (by rw [HP.out.1]; exact H2.out.symm)]; rfl, HB2.out⟩
    · cases v1
      · cases v2
        · by_cases hs : 1500 < (20 : Int) + d.size
          · have HS := Lib.hid hs
            go_enter Try.func30, Try.ntmps30
            go_wp2_with fail
            refine (HC1.out _).mono ?_
            rintro e w1 ⟨rfl, B1⟩
            simp only []
            have HB1 := Lib.hid (HB.out.trans (B1.mono HB.out.size))
            have D0 : w1.heap[w.heap.size]? = some (.cells #[.bool false, .int .u64 h1, .int .u64 l1, .bool false, .int .u64 h2, .int .u64 l2, .int .u8 pr, .int .u8 tt, .string d] 30) := (B1.block _ (by simp)).trans (heap_alloc_last w _)
            clear B1
            have e3 : w1.cell? ⟨w.heap.size, 3, none⟩ = some (.bool false) := by simp [World.cell?, D0]
            have e4 : w1.cell? ⟨w.heap.size, 4, none⟩ = some (.int .u64 h2) := by simp [World.cell?, D0]
            have e5 : w1.cell? ⟨w.heap.size, 5, none⟩ = some (.int .u64 l2) := by simp [World.cell?, D0]
            have HD := Lib.hid D0
            clear D0
            go_wp2_with fail
            refine (HC2.out _).mono ?_
            rintro e w2 ⟨rfl, B2⟩
            simp only []
            have D2 : w2.heap[w.heap.size]? = some (.cells #[.bool false, .int .u64 h1, .int .u64 l1, .bool false, .int .u64 h2, .int .u64 l2, .int .u8 pr, .int .u8 tt, .string d] 30) := (B2.block _ (by have := (Array.getElem?_eq_some_iff.1 HD.out).1; exact this)).trans HD.out
            have HB2 := Lib.hid (HB1.out.trans (B2.mono HB1.out.size))
            clear e3 e4 e5 B2
            have f0 : w2.cell? ⟨w.heap.size, 0, none⟩ = some (.bool false) := by simp [World.cell?, D2]
            have f3 : w2.cell? ⟨w.heap.size, 3, none⟩ = some (.bool false) := by simp [World.cell?, D2]
            have f8 : w2.cell? ⟨w.heap.size, 8, none⟩ = some (.string d) := by simp [World.cell?, D2]
            clear D2
            go_wp2_with fail
            go_ret
            exact ⟨by rw [mayE_4 (by rw [HP.out.1]; exact H1.out.symm) (by rw [HP.out.1]; exact H2.out.symm) (by rw [HP.out.1]) (by rw [HP.out.1]; have := HS.out; simp; omega)]; rfl, HB2.out⟩
          · have HS := Lib.hid hs
            go_enter Try.func30, Try.ntmps30
            go_wp2_with fail
            refine (HC1.out _).mono ?_
            rintro e w1 ⟨rfl, B1⟩
            simp only []
            have HB1 := Lib.hid (HB.out.trans (B1.mono HB.out.size))
            have D0 : w1.heap[w.heap.size]? = some (.cells #[.bool false, .int .u64 h1, .int .u64 l1, .bool false, .int .u64 h2, .int .u64 l2, .int .u8 pr, .int .u8 tt, .string d] 30) := (B1.block _ (by simp)).trans (heap_alloc_last w _)
            clear B1
            have e3 : w1.cell? ⟨w.heap.size, 3, none⟩ = some (.bool false) := by simp [World.cell?, D0]
            have e4 : w1.cell? ⟨w.heap.size, 4, none⟩ = some (.int .u64 h2) := by simp [World.cell?, D0]
            have e5 : w1.cell? ⟨w.heap.size, 5, none⟩ = some (.int .u64 l2) := by simp [World.cell?, D0]
            have HD := Lib.hid D0
            clear D0
            go_wp2_with fail
            refine (HC2.out _).mono ?_
            rintro e w2 ⟨rfl, B2⟩
            simp only []
            have D2 : w2.heap[w.heap.size]? = some (.cells #[.bool false, .int .u64 h1, .int .u64 l1, .bool false, .int .u64 h2, .int .u64 l2, .int .u8 pr, .int .u8 tt, .string d] 30) := (B2.block _ (by have := (Array.getElem?_eq_some_iff.1 HD.out).1; exact this)).trans HD.out
            have HB2 := Lib.hid (HB1.out.trans (B2.mono HB1.out.size))
            clear e3 e4 e5 B2
            have f0 : w2.cell? ⟨w.heap.size, 0, none⟩ = some (.bool false) := by simp [World.cell?, D2]
            have f3 : w2.cell? ⟨w.heap.size, 3, none⟩ = some (.bool false) := by simp [World.cell?, D2]
            have f8 : w2.cell? ⟨w.heap.size, 8, none⟩ = some (.string d) := by simp [World.cell?, D2]
            clear D2
            go_wp2_with fail
            go_ret
            exact ⟨by rw [mayE_5 (by rw [HP.out.1]; exact H1.out.symm) (by rw [HP.out.1]; exact H2.out.symm) (by rw [HP.out.1]) (by rw [HP.out.1]; have := HS.out; simp; omega)]; rfl, HB2.out⟩
        · go_enter Try.func30, Try.ntmps30
          go_wp2_with fail
          refine (HC1.out _).mono ?_
          rintro e w1 ⟨rfl, B1⟩
          simp only []
          have HB1 := Lib.hid (HB.out.trans (B1.mono HB.out.size))
          have D0 : w1.heap[w.heap.size]? = some (.cells #[.bool false, .int .u64 h1, .int .u64 l1, .bool true, .int .u64 h2, .int .u64 l2, .int .u8 pr, .int .u8 tt, .string d] 30) := (B1.block _ (by simp)).trans (heap_alloc_last w _)
          clear B1
          have e3 : w1.cell? ⟨w.heap.size, 3, none⟩ = some (.bool true) := by simp [World.cell?, D0]
          have e4 : w1.cell? ⟨w.heap.size, 4, none⟩ = some (.int .u64 h2) := by simp [World.cell?, D0]
          have e5 : w1.cell? ⟨w.heap.size, 5, none⟩ = some (.int .u64 l2) := by simp [World.cell?, D0]
          have HD := Lib.hid D0
          clear D0
          go_wp2_with fail
          refine (HC2.out _).mono ?_
          rintro e w2 ⟨rfl, B2⟩
          simp only []
          have D2 : w2.heap[w.heap.size]? = some (.cells #[.bool false, .int .u64 h1, .int .u64 l1, .bool true, .int .u64 h2, .int .u64 l2, .int .u8 pr, .int .u8 tt, .string d] 30) := (B2.block _ (by have := (Array.getElem?_eq_some_iff.1 HD.out).1; exact this)).trans HD.out
          have HB2 := Lib.hid (HB1.out.trans (B2.mono HB1.out.size))
          clear e3 e4 e5 B2
          have f0 : w2.cell? ⟨w.heap.size, 0, none⟩ = some (.bool false) := by simp [World.cell?, D2]
          have f3 : w2.cell? ⟨w.heap.size, 3, none⟩ = some (.bool true) := by simp [World.cell?, D2]
          have f8 : w2.cell? ⟨w.heap.size, 8, none⟩ = some (.string d) := by simp [World.cell?, D2]
          clear D2
          go_wp2_with fail
          go_ret
          exact ⟨by rw [mayE_3 (by rw [HP.out.1]; exact H1.out.symm) (by rw [HP.out.1]; exact H2.out.symm) (by rw [HP.out.1]; simp)]; rfl, HB2.out⟩
      · cases v2
        · go_enter Try.func30, Try.ntmps30
          go_wp2_with fail
          refine (HC1.out _).mono ?_
          rintro e w1 ⟨rfl, B1⟩
          simp only []
          have HB1 := Lib.hid (HB.out.trans (B1.mono HB.out.size))
          have D0 : w1.heap[w.heap.size]? = some (.cells #[.bool true, .int .u64 h1, .int .u64 l1, .bool false, .int .u64 h2, .int .u64 l2, .int .u8 pr, .int .u8 tt, .string d] 30) := (B1.block _ (by simp)).trans (heap_alloc_last w _)
          clear B1
          have e3 : w1.cell? ⟨w.heap.size, 3, none⟩ = some (.bool false) := by simp [World.cell?, D0]
          have e4 : w1.cell? ⟨w.heap.size, 4, none⟩ = some (.int .u64 h2) := by simp [World.cell?, D0]
          have e5 : w1.cell? ⟨w.heap.size, 5, none⟩ = some (.int .u64 l2) := by simp [World.cell?, D0]
          have HD := Lib.hid D0
          clear D0
          go_wp2_with fail
          refine (HC2.out _).mono ?_
          rintro e w2 ⟨rfl, B2⟩
          simp only []
          have D2 : w2.heap[w.heap.size]? = some (.cells #[.bool true, .int .u64 h1, .int .u64 l1, .bool false, .int .u64 h2, .int .u64 l2, .int .u8 pr, .int .u8 tt, .string d] 30) := (B2.block _ (by have := (Array.getElem?_eq_some_iff.1 HD.out).1; exact this)).trans HD.out
          have HB2 := Lib.hid (HB1.out.trans (B2.mono HB1.out.size))
          clear e3 e4 e5 B2
          have f0 : w2.cell? ⟨w.heap.size, 0, none⟩ = some (.bool true) := by simp [World.cell?, D2]
          have f3 : w2.cell? ⟨w.heap.size, 3, none⟩ = some (.bool false) := by simp [World.cell?, D2]
          have f8 : w2.cell? ⟨w.heap.size, 8, none⟩ = some (.string d) := by simp [World.cell?, D2]
          clear D2
          go_wp2_with fail
          go_ret
          exact ⟨by rw [mayE_3 (by rw [HP.out.1]; exact H1.out.symm) (by rw [HP.out.1]; exact H2.out.symm) (by rw [HP.out.1]; simp)]; rfl, HB2.out⟩
        · by_cases hs : 1500 < (40 : Int) + d.size
          · have HS := Lib.hid hs
            go_enter Try.func30, Try.ntmps30
            go_wp2_with fail
            refine (HC1.out _).mono ?_
            rintro e w1 ⟨rfl, B1⟩
            simp only []
            have HB1 := Lib.hid (HB.out.trans (B1.mono HB.out.size))
            have D0 : w1.heap[w.heap.size]? = some (.cells #[.bool true, .int .u64 h1, .int .u64 l1, .bool true, .int .u64 h2, .int .u64 l2, .int .u8 pr, .int .u8 tt, .string d] 30) := (B1.block _ (by simp)).trans (heap_alloc_last w _)
            clear B1
            have e3 : w1.cell? ⟨w.heap.size, 3, none⟩ = some (.bool true) := by simp [World.cell?, D0]
            have e4 : w1.cell? ⟨w.heap.size, 4, none⟩ = some (.int .u64 h2) := by simp [World.cell?, D0]
            have e5 : w1.cell? ⟨w.heap.size, 5, none⟩ = some (.int .u64 l2) := by simp [World.cell?, D0]
            have HD := Lib.hid D0
            clear D0
            go_wp2_with fail
            refine (HC2.out _).mono ?_
            rintro e w2 ⟨rfl, B2⟩
            simp only []
            have D2 : w2.heap[w.heap.size]? = some (.cells #[.bool true, .int .u64 h1, .int .u64 l1, .bool true, .int .u64 h2, .int .u64 l2, .int .u8 pr, .int .u8 tt, .string d] 30) := (B2.block _ (by have := (Array.getElem?_eq_some_iff.1 HD.out).1; exact this)).trans HD.out
            have HB2 := Lib.hid (HB1.out.trans (B2.mono HB1.out.size))
            clear e3 e4 e5 B2
            have f0 : w2.cell? ⟨w.heap.size, 0, none⟩ = some (.bool true) := by simp [World.cell?, D2]
            have f3 : w2.cell? ⟨w.heap.size, 3, none⟩ = some (.bool true) := by simp [World.cell?, D2]
            have f8 : w2.cell? ⟨w.heap.size, 8, none⟩ = some (.string d) := by simp [World.cell?, D2]
            clear D2
            go_wp2_with fail
            go_ret
            exact ⟨by rw [mayE_4 (by rw [HP.out.1]; exact H1.out.symm) (by rw [HP.out.1]; exact H2.out.symm) (by rw [HP.out.1]) (by rw [HP.out.1]; have := HS.out; simp; omega)]; rfl, HB2.out⟩
          · have HS := Lib.hid hs
            go_enter Try.func30, Try.ntmps30
            go_wp2_with fail
            refine (HC1.out _).mono ?_
            rintro e w1 ⟨rfl, B1⟩
            simp only []
            have HB1 := Lib.hid (HB.out.trans (B1.mono HB.out.size))
            have D0 : w1.heap[w.heap.size]? = some (.cells #[.bool true, .int .u64 h1, .int .u64 l1, .bool true, .int .u64 h2, .int .u64 l2, .int .u8 pr, .int .u8 tt, .string d] 30) := (B1.block _ (by simp)).trans (heap_alloc_last w _)
            clear B1
            have e3 : w1.cell? ⟨w.heap.size, 3, none⟩ = some (.bool true) := by simp [World.cell?, D0]
            have e4 : w1.cell? ⟨w.heap.size, 4, none⟩ = some (.int .u64 h2) := by simp [World.cell?, D0]
            have e5 : w1.cell? ⟨w.heap.size, 5, none⟩ = some (.int .u64 l2) := by simp [World.cell?, D0]
            have HD := Lib.hid D0
            clear D0
            go_wp2_with fail
            refine (HC2.out _).mono ?_
            rintro e w2 ⟨rfl, B2⟩
            simp only []
            have D2 : w2.heap[w.heap.size]? = some (.cells #[.bool true, .int .u64 h1, .int .u64 l1, .bool true, .int .u64 h2, .int .u64 l2, .int .u8 pr, .int .u8 tt, .string d] 30) := (B2.block _ (by have := (Array.getElem?_eq_some_iff.1 HD.out).1; exact this)).trans HD.out
            have HB2 := Lib.hid (HB1.out.trans (B2.mono HB1.out.size))
            clear e3 e4 e5 B2
            have f0 : w2.cell? ⟨w.heap.size, 0, none⟩ = some (.bool true) := by simp [World.cell?, D2]
            have f3 : w2.cell? ⟨w.heap.size, 3, none⟩ = some (.bool true) := by simp [World.cell?, D2]
            have f8 : w2.cell? ⟨w.heap.size, 8, none⟩ = some (.string d) := by simp [World.cell?, D2]
            clear D2
            go_wp2_with fail
            go_ret
            exact ⟨by rw [mayE_5 (by rw [HP.out.1]; exact H1.out.symm) (by rw [HP.out.1]; exact H2.out.symm) (by rw [HP.out.1]) (by rw [HP.out.1]; have := HS.out; simp; omega)]; rfl, HB2.out⟩

end Go.Proofs.Ytgonakpoflacoaa
