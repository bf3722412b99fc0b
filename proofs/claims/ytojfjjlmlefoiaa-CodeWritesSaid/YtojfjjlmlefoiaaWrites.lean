/-
  CodeWrites: numbers and texts as bytes are those of the document: for every number, for every text.
-/
import Derived.Test.YtojfjjlmlefoiaaWorks
import Derived.Lib.Hide
set_option linter.unusedVariables false
namespace Go.Proofs.Ytojfjjlmlefoiaa
open Go.ChangeShapes Go.WideShapes Go.ChangeAt Go.RowKit
open Go.ChangeMaps (open_string shut_string)

theorem div_mod_pow (x n j : Nat) (hj : j < n) : x % 256 ^ n / 256 ^ (n - 1 - j) % 256 = x / 256 ^ (n - 1 - j) % 256 := by
  have e : 256 ^ n = 256 ^ (n - 1 - j) * (256 * 256 ^ j) := by
    rw [← Nat.pow_succ', ← Nat.pow_add]; congr 1; omega
  rw [e, Nat.mod_mul_right_div_self, Nat.mod_mul_right_mod]
theorem beS_mod (x n : Nat) : beS (x % 256 ^ n) n = beS x n := by
  unfold beS beL
  congr 2
  refine List.map_congr_left fun j hj => ?_
  have hj := List.mem_range.1 hj
  apply UInt8.toNat_inj.1
  simp only [UInt8.toNat_ofNat']
  exact div_mod_pow x n j hj

theorem putw16 (x : Nat) (w : World) : Calls Try.prog 10 #[.int .u16 (IntKind.u16.wrap (x : Int))] w fun e w' => e = .returned (.string (beS x 2)) ∧ Below w.heap.size w w' := by
  have e : IntKind.u16.wrap (x : Int) = ((x % 65536 : Nat) : Int) := by rw [IntKind.wrap_u16]; omega
  have h := put16 (x % 65536) w (by omega)
  rwa [show beS (x % 65536) 2 = beS x 2 from beS_mod x 2, ← e] at h
theorem putw32 (x : Nat) (w : World) : Calls Try.prog 12 #[.int .u32 (IntKind.u32.wrap (x : Int))] w fun e w' => e = .returned (.string (beS x 4)) ∧ Below w.heap.size w w' := by
  have e : IntKind.u32.wrap (x : Int) = ((x % 4294967296 : Nat) : Int) := by rw [IntKind.wrap_u32]; omega
  have h := put32 (x % 4294967296) w (by omega)
  rwa [show beS (x % 4294967296) 4 = beS x 4 from beS_mod x 4, ← e] at h

theorem writes_big (x : Int) (s : ByteArray) (w : World) (h : 131072 < s.size) (hm : s.size ≤ maxLen) :
    Calls Try.prog 3 #[.int .u64 x, .string s] w fun e w' => e = .returned (.bool true) ∧ Below w.heap.size w w' := by
  unfold maxLen at hm
  go_enter Try.func3, Try.ntmps3
  go_wp2_with (go_at_call 7; refine (works_any _).mono ?_; rintro e w1 ⟨rfl, b1⟩)
  go_ret
  exact ⟨rfl, b1⟩
theorem writes_small (x : Nat) (hx : x < 18446744073709551616) (s : ByteArray) (w : World) (h : s.size ≤ 131072) :
    Calls Try.prog 3 #[.int .u64 x, .string s] w fun e w' => e = .returned (.bool true) ∧ Below w.heap.size w w' := by
  have hm : s.size ≤ maxLen := by unfold maxLen; omega
  go_enter Try.func3, Try.ntmps3
  go_wp2_with fail
  refine (text_put s _ hm).mono ?_
  rintro e w1 ⟨rfl, b1⟩
  simp only []
  go_wp2_with fail
  refine (text_ref s _ hm).mono ?_
  rintro e w2 ⟨rfl, b2⟩
  simp only []
  go_wp2_with fail
  refine (putw16 x _).mono ?_
  rintro e w3 ⟨rfl, b3⟩
  simp only []
  go_wp2_with fail
  refine (num_any x 2 _ hx (by decide) (by decide)).mono ?_
  rintro e w4 ⟨rfl, b4⟩
  simp only []
  go_wp2_with fail
  refine (putw32 x _).mono ?_
  rintro e w5 ⟨rfl, b5⟩
  simp only []
  go_wp2_with fail
  refine (num_any x 4 _ hx (by decide) (by decide)).mono ?_
  rintro e w6 ⟨rfl, b6⟩
  simp only []
  go_wp2_with fail
  refine (put64 x _ hx).mono ?_
  rintro e w7 ⟨rfl, b7⟩
  simp only []
  go_wp2_with fail
  refine (num_any x 8 _ hx (by decide) (by decide)).mono ?_
  rintro e w8 ⟨rfl, b8⟩
  simp only []
  go_wp2_with fail
  refine (works_any _).mono ?_
  rintro e w9 ⟨rfl, b9⟩
  simp only []
  go_wp2_with fail
  go_ret
  exact ⟨rfl, (((((((b1.more b2).more b3).more b4).more b5).more b6).more b7).more b8).more b9⟩

set_option maxRecDepth 100000 in
theorem writes_lifted (os : Os) (started : os.Started) (H : Type) (enc : TypeId × Value → H) :
    ReturnsInHanded {} Try.checked os 3 .any (Rows.codeWritesSpec.pre6 enc Try.prog Try.f3 Rows.codeWritesRow.domain false) (Rows.codeWritesSpec.post enc Try.prog Try.f3 false true false false) := by
  refine returnsInHanded_of_change (C := Try.checked) Try.own started (by kernel_rfl) Try.func3
    (ChangeSpec.witness6 (enc := enc) (C := Try.checked) false ⟨#[], #[.int .u64 0, .string .empty], []⟩ 8 (by kernel_rfl) (by kernel_rfl) (by kernel_rfl) (by kernel_rfl)) ?_
  intro W base args ds gs before hval0 hW _ _
  have hval : ∀ (j : Nat) t v, Try.f3.params[j]? = some t → args[j]? = some v → Value.okWide Try.prog W .any base t v := hval0
  have hW' := hW
  obtain ⟨p, q, hA0, hV, rfl, _, _⟩ := hW
  have hA : DataW.TrodAll enc Try.prog W 0 (fun _ => true) true Try.f3.params.toList args.toList ds p := hA0
  rw [Try.params3] at hA hval
  obtain ⟨v0, v1, d0, d1, p0, p1, rfl, rfl, rfl, h0, h1⟩ := trodAll_two hA
  obtain ⟨rfl, rfl⟩ := trodVars_none hV
  obtain ⟨x, rfl, rfl, rfl, wx⟩ := open_int Try.underlying22 (hval 0 22 v0 rfl rfl) h0
  obtain ⟨s, rfl, rfl, rfl, hs⟩ := open_string Try.underlying9 (hval 1 9 v1 rfl rfl) h1
  have hx : 0 ≤ x ∧ x ≤ 18446744073709551615 := by simpa [Lit.wf, IntKind.min, IntKind.max, IntKind.signed, IntKind.bits] using wx
  have fin : Calls Try.prog 3 #[.int .u64 x, .string s] W fun e w' => e = .returned (.bool true) ∧ Below W.heap.size W w' := by
    by_cases hb : s.size ≤ 131072
    · obtain ⟨x, rfl⟩ := Int.eq_ofNat_of_zero_le hx.1
      exact writes_small x (by omega) s W hb
    · exact writes_big x s W (by omega) hs
  refine fin.mono fun e W' ⟨he, hb⟩ => ?_
  subst he
  exact ⟨_, rfl, law_post Try.laidOut (by kernel_rfl) (t := 4) rfl Try.underlying4 rfl hW' rfl rfl rfl hb⟩

theorem writes_holds : Rows.CodeWritesSaid :=
  OpenClaim.holds_of_wide 3 Try.f3 rfl rfl rfl rfl rfl rfl rfl ⟨rfl, rfl, rfl, rfl, rfl⟩ rfl rfl rfl rfl rfl (by kernel_rfl) Try.func3 (by kernel_rfl)
    (of_decide_eq_true (by kernel_rfl)) (by unfold Func.isWrapper; first | (rw [if_pos (by decide +kernel)]; kernel_rfl) | (rw [if_neg (by decide +kernel)]; exact ⟨rfl, rfl⟩))
    (fun os started H enc _ => writes_lifted os started H enc)
end Go.Proofs.Ytojfjjlmlefoiaa
