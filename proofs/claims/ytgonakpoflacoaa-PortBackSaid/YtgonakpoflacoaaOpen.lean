/-
  What comes in: an end, a packet, a flow, opened.
-/
import Derived.Test.YtgonakpoflacoaaAsk
set_option linter.unusedVariables false
set_option linter.unusedSimpArgs false
namespace Go.Proofs.Ytgonakpoflacoaa
open Go.RowKit Go.WideShapes

theorem cell_bool {W : World} {r : Reach} {base : Nat} {v : Value} (h : Cell.okWide Try.prog W r base 4 v) : ∃ b, v = .bool b := by
  simp only [Cell.okWide, Try.underlying4] at h
  cases v <;> simp_all [Cell.ok, Try.underlying4]
theorem nat_of {k : Int} (h : 0 ≤ k) : ∃ n : Nat, k = n := ⟨k.toNat, by omega⟩
theorem cell_u8 {W : World} {r : Reach} {base : Nat} {v : Value} (h : Cell.okWide Try.prog W r base 5 v) : ∃ n : Nat, v = .int .u8 n ∧ n < 256 := by
  simp only [Cell.okWide, Try.underlying5] at h
  cases v <;> simp_all [Cell.ok, Try.underlying5, IntKind.has, IntKind.min, IntKind.max, IntKind.signed, IntKind.bits]
  rename_i k n
  obtain ⟨m, hm⟩ := nat_of (k := n) (by omega)
  exact ⟨m, hm, by omega⟩
theorem cell_u16 {W : World} {r : Reach} {base : Nat} {v : Value} (h : Cell.okWide Try.prog W r base 25 v) : ∃ n : Nat, v = .int .u16 n ∧ n < 65536 := by
  simp only [Cell.okWide, Try.underlying25] at h
  cases v <;> simp_all [Cell.ok, Try.underlying25, IntKind.has, IntKind.min, IntKind.max, IntKind.signed, IntKind.bits]
  rename_i k n
  obtain ⟨m, hm⟩ := nat_of (k := n) (by omega)
  exact ⟨m, hm, by omega⟩
theorem cell_u64 {W : World} {r : Reach} {base : Nat} {v : Value} (h : Cell.okWide Try.prog W r base 22 v) : ∃ n : Nat, v = .int .u64 n ∧ n < 18446744073709551616 := by
  simp only [Cell.okWide, Try.underlying22] at h
  cases v <;> simp_all [Cell.ok, Try.underlying22, IntKind.has, IntKind.min, IntKind.max, IntKind.signed, IntKind.bits]
  rename_i k n
  obtain ⟨m, hm⟩ := nat_of (k := n) (by omega)
  exact ⟨m, hm, by omega⟩

theorem cell_string {W : World} {r : Reach} {base : Nat} {v : Value} (h : Cell.okWide Try.prog W r base 9 v) : ∃ s : ByteArray, v = .string s ∧ s.size ≤ 9223372036854775807 := by
  simp only [Cell.okWide, Try.underlying9] at h
  cases v <;> simp_all [Cell.ok, Try.underlying9, IntKind.max, IntKind.signed, IntKind.bits]
  omega
theorem row_of {W : World} {r : Reach} {base t : Nat} {v : Value} {ts : List TypeId} {n : Nat} (hu : (match Try.prog.underlying t with | some (.struct _) => true | _ => false) = true) (hts : Try.prog.cellTypes Try.prog.depth t = some ts) (hn : Try.prog.cellsOf t = n) (hl : ts.length = n)
    (h : Value.okWide Try.prog W r base t v) : ∃ cs : Array Value, v = .agg cs ∧ cs.size = n ∧ ∀ (i : Nat) (x : Value) (u : TypeId), cs[i]? = some x → ts[i]? = some u → Cell.okWide Try.prog W r base u x := by
  unfold Value.okWide at h
  cases hq : Try.prog.underlying t with
  | none => simp [hq] at hu
  | some d =>
    cases d <;> simp [hq] at hu
    simp only [hq] at h
    obtain ⟨cs, rfl, hs, ts', h1, _, h2⟩ := h
    rw [hts] at h1
    obtain rfl := Option.some.inj h1
    refine ⟨cs, rfl, hs.trans hn, fun i x u hx hu' => ?_⟩
    obtain ⟨u', h3, h4⟩ := h2 i x hx
    have hi : i < ts.length := by
      have := (Array.getElem?_eq_some_iff.1 hx).1
      omega
    rw [Nat.mod_eq_of_lt hi, hu'] at h3
    obtain rfl := Option.some.inj h3
    exact h4
theorem arr4 {cs : Array Value} (h : cs.size = 4) : ∃ c0 c1 c2 c3, cs = #[c0, c1, c2, c3] := by
  obtain ⟨l⟩ := cs
  match l, h with
  | [c0, c1, c2, c3], _ => exact ⟨c0, c1, c2, c3, rfl⟩
theorem arr9 {cs : Array Value} (h : cs.size = 9) : ∃ c0 c1 c2 c3 c4 c5 c6 c7 c8, cs = #[c0, c1, c2, c3, c4, c5, c6, c7, c8] := by
  obtain ⟨l⟩ := cs
  match l, h with
  | [c0, c1, c2, c3, c4, c5, c6, c7, c8], _ => exact ⟨c0, c1, c2, c3, c4, c5, c6, c7, c8, rfl⟩
theorem open_ep {W : World} {r : Reach} {base : Nat} {v : Value} (h : Value.okWide Try.prog W r base 27 v) :
    ∃ (a : Ad) (f : Nat), v = .agg #[.bool a.v6, .int .u64 a.hi, .int .u64 a.lo, .int .u16 f] ∧ a.Ok ∧ f < 65536 := by
  obtain ⟨cs, rfl, hs, hc⟩ := row_of (ts := [4, 22, 22, 25]) (n := 4) (by kernel_rfl) (by kernel_rfl) (by kernel_rfl) rfl h
  obtain ⟨c0, c1, c2, c3, rfl⟩ := arr4 hs
  obtain ⟨b0, rfl⟩ := cell_bool (hc 0 c0 4 rfl rfl)
  obtain ⟨n1, rfl, h1⟩ := cell_u64 (hc 1 c1 22 rfl rfl)
  obtain ⟨n2, rfl, h2⟩ := cell_u64 (hc 2 c2 22 rfl rfl)
  obtain ⟨n3, rfl, h3⟩ := cell_u16 (hc 3 c3 25 rfl rfl)
  exact ⟨⟨b0, n1, n2⟩, n3, rfl, ⟨h1, h2⟩, h3⟩
theorem open_pk {W : World} {r : Reach} {base : Nat} {v : Value} (h : Value.okWide Try.prog W r base 30 v) :
    ∃ p : Pk, v = p.val ∧ p.Ok ∧ p.data.size ≤ 9223372036854775807 := by
  obtain ⟨cs, rfl, hs, hc⟩ := row_of (ts := [4, 22, 22, 4, 22, 22, 5, 5, 9]) (n := 9) (by kernel_rfl) (by kernel_rfl) (by kernel_rfl) rfl h
  obtain ⟨c0, c1, c2, c3, c4, c5, c6, c7, c8, rfl⟩ := arr9 hs
  obtain ⟨b0, rfl⟩ := cell_bool (hc 0 c0 4 rfl rfl)
  obtain ⟨n1, rfl, h1⟩ := cell_u64 (hc 1 c1 22 rfl rfl)
  obtain ⟨n2, rfl, h2⟩ := cell_u64 (hc 2 c2 22 rfl rfl)
  obtain ⟨b3, rfl⟩ := cell_bool (hc 3 c3 4 rfl rfl)
  obtain ⟨n4, rfl, h4⟩ := cell_u64 (hc 4 c4 22 rfl rfl)
  obtain ⟨n5, rfl, h5⟩ := cell_u64 (hc 5 c5 22 rfl rfl)
  obtain ⟨n6, rfl, h6⟩ := cell_u8 (hc 6 c6 5 rfl rfl)
  obtain ⟨n7, rfl, h7⟩ := cell_u8 (hc 7 c7 5 rfl rfl)
  obtain ⟨s, rfl, h8⟩ := cell_string (hc 8 c8 9 rfl rfl)
  exact ⟨⟨⟨b0, n1, n2⟩, ⟨b3, n4, n5⟩, n6, n7, s⟩, rfl, ⟨⟨h1, h2⟩, ⟨h4, h5⟩, h6, h7⟩, h8⟩
theorem open_fl {W : World} {r : Reach} {base : Nat} {v : Value} (h : Value.okWide Try.prog W r base 39 v) : ∃ f : Fl, v = f.val := by
  obtain ⟨cs, rfl, hs, hc⟩ := row_of (ts := [5, 4, 22, 22, 4, 22, 22, 25, 25]) (n := 9) (by kernel_rfl) (by kernel_rfl) (by kernel_rfl) rfl h
  obtain ⟨c0, c1, c2, c3, c4, c5, c6, c7, c8, rfl⟩ := arr9 hs
  obtain ⟨n0, rfl, _⟩ := cell_u8 (hc 0 c0 5 rfl rfl)
  obtain ⟨b1, rfl⟩ := cell_bool (hc 1 c1 4 rfl rfl)
  obtain ⟨n2, rfl, h2⟩ := cell_u64 (hc 2 c2 22 rfl rfl)
  obtain ⟨n3, rfl, h3⟩ := cell_u64 (hc 3 c3 22 rfl rfl)
  obtain ⟨b4, rfl⟩ := cell_bool (hc 4 c4 4 rfl rfl)
  obtain ⟨n5, rfl, h5⟩ := cell_u64 (hc 5 c5 22 rfl rfl)
  obtain ⟨n6, rfl, h6⟩ := cell_u64 (hc 6 c6 22 rfl rfl)
  obtain ⟨n7, rfl, h7⟩ := cell_u16 (hc 7 c7 25 rfl rfl)
  obtain ⟨n8, rfl, h8⟩ := cell_u16 (hc 8 c8 25 rfl rfl)
  exact ⟨⟨n0, ⟨b1, n2, n3⟩, ⟨b4, n5, n6⟩, n7, n8⟩, rfl⟩

end Go.Proofs.Ytgonakpoflacoaa
