/-
  The walk.
-/
set_option linter.unusedVariables false
set_option linter.unusedSimpArgs false
namespace T
structure El where
 a : Nat
 b : Nat
 c : Nat
 d : Nat
 e : Nat
def El.v (x : El) : Nat := x.a + 2251799813685248 * x.b + 5070602400912917605986812821504 * x.c + 11417981541647679048466287755595961091061972992 * x.d + 25711008708143844408671393477458601640355247900524685364822016 * x.e
def El.carry (x : El) : El := ⟨x.a % 2251799813685248 + 19 * (x.e / 2251799813685248), x.b % 2251799813685248 + x.a / 2251799813685248, x.c % 2251799813685248 + x.b / 2251799813685248, x.d % 2251799813685248 + x.c / 2251799813685248, x.e % 2251799813685248 + x.d / 2251799813685248⟩
theorem El.carry_v (x : El) : x.carry.v + 57896044618658097711785492504343953926634992332820282019728792003956564819949 * (x.e / 2251799813685248) = x.v := by
 unfold El.v El.carry
 simp only []
 omega
def El.sub (x y : El) : El := ⟨x.a + 4503599627370458 - y.a, x.b + 4503599627370494 - y.b, x.c + 4503599627370494 - y.c, x.d + 4503599627370494 - y.d, x.e + 4503599627370494 - y.e⟩
theorem El.sub_v (x y : El) (h : y.a ≤ 4503599627370458 ∧ y.b ≤ 4503599627370494 ∧ y.c ≤ 4503599627370494 ∧ y.d ≤ 4503599627370494 ∧ y.e ≤ 4503599627370494) : (x.sub y).v + y.v = x.v + 2 * 57896044618658097711785492504343953926634992332820282019728792003956564819949 := by
 unfold El.v El.sub
 simp only []
 omega
def El.lo0 (x y : El) : Nat := x.a * y.a
def El.hi0 (x y : El) : Nat := x.b * y.e + x.c * y.d + x.d * y.c + x.e * y.b
def El.lo1 (x y : El) : Nat := x.a * y.b + x.b * y.a
def El.hi1 (x y : El) : Nat := x.c * y.e + x.d * y.d + x.e * y.c
def El.lo2 (x y : El) : Nat := x.a * y.c + x.b * y.b + x.c * y.a
def El.hi2 (x y : El) : Nat := x.d * y.e + x.e * y.d
def El.lo3 (x y : El) : Nat := x.a * y.d + x.b * y.c + x.c * y.b + x.d * y.a
def El.hi3 (x y : El) : Nat := x.e * y.e
def El.lo4 (x y : El) : Nat := x.a * y.e + x.b * y.d + x.c * y.c + x.d * y.b + x.e * y.a
def El.hi4 (x y : El) : Nat := 0
theorem El.mul_v (x y : El) : x.v * y.v = (x.lo0 y + 2251799813685248 * x.lo1 y + 5070602400912917605986812821504 * x.lo2 y + 11417981541647679048466287755595961091061972992 * x.lo3 y + 25711008708143844408671393477458601640355247900524685364822016 * x.lo4 y) + 57896044618658097711785492504343953926634992332820282019728792003956564819968 * (x.hi0 y + 2251799813685248 * x.hi1 y + 5070602400912917605986812821504 * x.hi2 y + 11417981541647679048466287755595961091061972992 * x.hi3 y + 25711008708143844408671393477458601640355247900524685364822016 * x.hi4 y) := by
 unfold El.v El.lo0 El.hi0 El.lo1 El.hi1 El.lo2 El.hi2 El.lo3 El.hi3 El.lo4 El.hi4
 grind
end T
