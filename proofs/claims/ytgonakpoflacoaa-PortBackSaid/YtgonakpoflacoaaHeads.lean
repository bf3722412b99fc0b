/-
  What a packet is told as, told plainly; a reader at a place of its data, and beside it the head that is filled.
-/
import Derived.Test.YtgonakpoflacoaaAsk
import Derived.Test.YtgonakpoflacoaaDraw
import Derived.Test.YtgonakpoflacoaaReader
set_option linter.unusedVariables false
set_option linter.unusedSimpArgs false
namespace Go.Proofs.Ytgonakpoflacoaa
open Go.RowKit

/-- A byte of a text; two, the highest first. -/
def byt (d : ByteArray) (i : Nat) : Nat := (d.data.toList.getD i 0).toNat
def n2 (d : ByteArray) (i : Nat) : Nat := byt d i * 256 + byt d (i + 1)
theorem byt_lt (d : ByteArray) (i : Nat) : byt d i < 256 := UInt8.toNat_lt _
theorem n2_lt (d : ByteArray) (i : Nat) : n2 d i < 65536 := by unfold n2; have := byt_lt d i; have := byt_lt d (i + 1); omega
theorem drop_two (l : List UInt8) (i : Nat) (h : i + 2 ≤ l.length) : (l.drop i).take 2 = [l.getD i 0, l.getD (i + 1) 0] := by
  rw [List.drop_eq_getElem_cons (by omega), List.drop_eq_getElem_cons (by omega)]
  simp only [List.take_succ_cons, List.take_zero, List.getD_eq_getElem?_getD, List.getElem?_eq_getElem (show i < l.length by omega), List.getElem?_eq_getElem (show i + 1 < l.length by omega), Option.getD_some]
theorem drop_one (l : List UInt8) (i : Nat) (h : i + 1 ≤ l.length) : (l.drop i).take 1 = [l.getD i 0] := by
  rw [List.drop_eq_getElem_cons (by omega)]
  simp only [List.take_succ_cons, List.take_zero, List.getD_eq_getElem?_getD, List.getElem?_eq_getElem (show i < l.length by omega), Option.getD_some]
/-- What is left of d from i on. -/
def Lf (d : ByteArray) (i : Nat) : ByteArray := d.extract i d.size
theorem Lf_size (d : ByteArray) (i : Nat) : (Lf d i).size = d.size - i := by unfold Lf; rw [ByteArray.size_extract]; omega
theorem Lf_zero (d : ByteArray) : Lf d 0 = d := by unfold Lf; exact ByteArray.extract_zero_size
theorem Lf_list (d : ByteArray) (i : Nat) : (Lf d i).data.toList = d.data.toList.drop i := by
  unfold Lf
  rw [ByteArray.data_extract]
  simp only [Array.toList_extract, List.extract]
  exact List.take_of_length_le (by simp)
theorem ba_ext_list {a b : ByteArray} (h : a.data.toList = b.data.toList) : a = b := ByteArray.ext (Array.toList_inj.1 h)
theorem outS_Lf (d : ByteArray) (i n : Nat) (h : i + n ≤ d.size) : (outS (Lf d i) 0 n).data.toList = (d.data.toList.drop i).take n := by
  unfold outS
  rw [show okB (Lf d i) 0 n = true by simp [okB, Lf_size]; omega, if_pos rfl]
  rw [ByteArray.data_extract, Array.toList_extract, Lf_list]
  simp [List.extract]
theorem leftS_Lf (d : ByteArray) (i n : Nat) (h : i + n ≤ d.size) : leftS (Lf d i) 0 n = Lf d (i + n) := by
  unfold leftS
  rw [show okB (Lf d i) 0 n = true by simp [okB, Lf_size]; omega, if_pos rfl]
  apply ba_ext_list
  rw [ByteArray.data_extract, Array.toList_extract, Lf_list, Lf_list]
  simp only [List.extract, Lf_size, Int.toNat_natCast, List.drop_drop]
  rw [List.take_of_length_le (by simp; omega), Nat.add_comm]
theorem leftF_Lf (d : ByteArray) (i n : Nat) (h : i + n ≤ d.size) : leftF (Lf d i) 0 n = 0 := by
  unfold leftF
  rw [if_neg (by simp), if_neg (by omega), if_neg (by rw [Lf_size]; omega)]
theorem numOf_two (a b : UInt8) : numOf [a, b] = a.toNat * 256 + b.toNat := by simp [numOf]
theorem numOf_one (a : UInt8) : numOf [a] = a.toNat := by simp [numOf]

/-- A reader that has not room for k bytes more, or none at all any more. -/
def Short (s : ByteArray) (f : Int) (k : Nat) : Prop := s.size ≤ 10000 ∧ (f = 7 ∨ (f = 0 ∧ s.size < k))
theorem Short.next {s : ByteArray} {f : Int} {k n : Nat} (h : Short s f (k + n)) : Short (leftS s f n) (leftF s f n) k := by
  obtain ⟨h0, h⟩ := h
  refine ⟨Nat.le_trans (leftS_le _ _ _) h0, ?_⟩
  rcases h with rfl | ⟨rfl, h⟩
  · left; simp [leftF]
  · by_cases hn : n ≤ s.size
    · right
      refine ⟨by unfold leftF; rw [if_neg (by simp), if_neg (by omega), if_neg (by omega)], ?_⟩
      unfold leftS
      rw [show okB s 0 n = true by simp [okB]; omega, if_pos rfl, ByteArray.size_extract, Int.toNat_natCast]
      omega
    · left
      unfold leftF
      rw [if_neg (by simp), if_neg (by omega), if_pos (by omega)]
theorem Short.fault {s : ByteArray} {f : Int} (h : Short s f 0) : f = 7 := by
  rcases h.2 with h | ⟨_, h⟩
  · exact h
  · omega

structure Hd where
  fl : Fl
  flags : Nat
  kind : Nat
  code : Nat
  size : Int
def Hd.cells (h : Hd) : Array Value := #[.int .u8 h.fl.proto, .bool h.fl.src.v6, .int .u64 h.fl.src.hi, .int .u64 h.fl.src.lo, .bool h.fl.dst.v6, .int .u64 h.fl.dst.hi, .int .u64 h.fl.dst.lo, .int .u16 h.fl.fp, .int .u16 h.fl.tp, .int .u8 h.flags, .int .u8 h.kind, .int .u8 h.code, .int .i64 h.size]
def Hd.val (h : Hd) : Value := .agg h.cells
def Hd.zero : Hd := ⟨⟨0, ⟨false, 0, 0⟩, ⟨false, 0, 0⟩, 0, 0⟩, 0, 0, 0, 0⟩
theorem hdOne (h : Hd) : h.cells.all (·.oneCell') = true := by simp [Hd.cells, Value.oneCell']

/-- A packet's block, a reader's, a head's; else nothing below has turned. -/
structure PS (P b H : Nat) (pc : Array Value) (s : ByteArray) (f : Int) (h : Hd) (w u : World) : Prop where
  pk : u.heap[P]? = some (.cells pc 30)
  rd : Rd u b 72 s f
  hd : u.heap[H]? = some (.cells h.cells 41)
  only : Only H w u
  nP : w.heap.size ≤ P
  nb : w.heap.size ≤ b
  nH : H < w.heap.size
  Pb : P < b
theorem PS.read {P b H : Nat} {pc : Array Value} {s s' : ByteArray} {f f' : Int} {h : Hd} {w u u' : World} (p : PS P b H pc s f h w u) (l : Left b 72 u u' s' f') : PS P b H pc s' f' h w u' := by
  obtain ⟨p1, p2, p3, p4, n1, n2, n3, n4⟩ := p
  refine ⟨?_, l.rd, ?_, ?_, n1, n2, n3, n4⟩
  · rw [l.only.block P (lt_of_heap p1) (by omega)]; exact p1
  · rw [l.only.block H (lt_of_heap p3) (by omega)]; exact p3
  · exact ⟨l.only.os.trans p4.os, l.only.tape.trans p4.tape, l.only.output.trans p4.output, Nat.le_trans p4.size l.only.size, fun k hk hne => (l.only.block k (Nat.lt_of_lt_of_le hk p4.size) (by omega)).trans (p4.block k hk hne)⟩
theorem PS.call {P b H : Nat} {pc : Array Value} {s : ByteArray} {f : Int} {h : Hd} {w u u' : World} (p : PS P b H pc s f h w u) (l : Below u.heap.size u u') : PS P b H pc s f h w u' := by
  obtain ⟨p1, p2, p3, p4, n1, n2, n3, n4⟩ := p
  refine ⟨?_, ?_, ?_, ?_, n1, n2, n3, n4⟩
  · rw [l.block P (lt_of_heap p1)]; exact p1
  · unfold Rd at *; rw [l.block b (lt_of_heap p2)]; exact p2
  · rw [l.block H (lt_of_heap p3)]; exact p3
  · exact ⟨l.os.trans p4.os, l.tape.trans p4.tape, l.output.trans p4.output, Nat.le_trans p4.size l.size, fun k hk hne => (l.block k (Nat.lt_of_lt_of_le hk p4.size)).trans (p4.block k hk hne)⟩
theorem PS.set {P b H : Nat} {pc : Array Value} {s : ByteArray} {f : Int} {h h' : Hd} {w u : World} (p : PS P b H pc s f h w u) {o : Nat} {v : Value} (e : h.cells.setIfInBounds o v = h'.cells) : PS P b H pc s f h' w (u.setCell ⟨H, o, none⟩ v) := by
  obtain ⟨p1, p2, p3, p4, n1, n2, n3, n4⟩ := p
  have hPH : P ≠ H := by omega
  have hbH : b ≠ H := by omega
  refine ⟨?_, ?_, ?_, ?_, n1, n2, n3, n4⟩
  · rw [Below.heap_setCell _ _ _ _ (by simpa using hPH)]; exact p1
  · unfold Rd at *; rw [Below.heap_setCell _ _ _ _ (by simpa using hbH)]; exact p2
  · rw [← e]; simp [World.setCell, Array.getElem?_modify, p3]
  · exact ⟨p4.os, p4.tape, p4.output, by simpa using p4.size, fun k hk hne => (Below.heap_setCell _ _ _ _ hne).trans (p4.block k hk hne)⟩
theorem hdCells {u : World} {B : Nat} {h : Hd} (p : u.heap[B]? = some (.cells h.cells 41)) :
    u.cell? ⟨B, 10, none⟩ = some (.int .u8 h.kind) ∧ u.cell? ⟨B, 12, none⟩ = some (.int .i64 h.size) ∧ u.cell? ⟨B, 7, none⟩ = some (.int .u16 h.fl.fp) := by
  simp [World.cell?, p, Hd.cells]
theorem hdSets {u : World} {B : Nat} {h : Hd} (p : u.heap[B]? = some (.cells h.cells 41)) :
    (u.cell? ⟨B, 7, none⟩ = some (.int .u16 h.fl.fp) ∧ u.cell? ⟨B, 8, none⟩ = some (.int .u16 h.fl.tp) ∧ u.cell? ⟨B, 9, none⟩ = some (.int .u8 h.flags) ∧ u.cell? ⟨B, 10, none⟩ = some (.int .u8 h.kind) ∧ u.cell? ⟨B, 11, none⟩ = some (.int .u8 h.code) ∧ u.cell? ⟨B, 12, none⟩ = some (.int .i64 h.size)) ∧
    (u.frozen? ⟨B, 7, none⟩ = false ∧ u.frozen? ⟨B, 8, none⟩ = false ∧ u.frozen? ⟨B, 9, none⟩ = false ∧ u.frozen? ⟨B, 10, none⟩ = false ∧ u.frozen? ⟨B, 11, none⟩ = false ∧ u.frozen? ⟨B, 12, none⟩ = false) := by
  simp [World.cell?, World.frozen?, p, Hd.cells]

/-- The reader's methods at a place of d that has room. -/
theorem u16_at (d : ByteArray) (b i : Nat) (u : World) (h : Rd u b 72 (Lf d i) 0) (hi : i + 2 ≤ d.size) (hd : d.size ≤ 10000) :
    Calls Try.prog 38 #[.pointer (some ⟨b, 0, none⟩)] u fun e w' => e = .returned (.int .u16 (n2 d i)) ∧ Left b 72 u w' (Lf d (i + 2)) 0 := by
  refine (u16_any b _ _ u h (by rw [Lf_size]; unfold maxLen; omega)).mono ?_
  rintro e w' ⟨rfl, hl⟩
  rw [show ((2 : Int)) = ((2 : Nat) : Int) from rfl] at *
  rw [leftS_Lf d i 2 hi, leftF_Lf d i 2 hi] at hl
  rw [outS_Lf d i 2 hi, drop_two _ _ (by simpa using hi), numOf_two]
  exact ⟨rfl, hl⟩
theorem u8_at (d : ByteArray) (b i : Nat) (u : World) (h : Rd u b 72 (Lf d i) 0) (hi : i + 1 ≤ d.size) (hd : d.size ≤ 10000) :
    Calls Try.prog 42 #[.pointer (some ⟨b, 0, none⟩)] u fun e w' => e = .returned (.int .u8 (byt d i)) ∧ Left b 72 u w' (Lf d (i + 1)) 0 := by
  refine (u8_any b _ _ u h (by rw [Lf_size]; unfold maxLen; omega)).mono ?_
  rintro e w' ⟨rfl, hl⟩
  rw [show ((1 : Int)) = ((1 : Nat) : Int) from rfl] at *
  rw [leftS_Lf d i 1 hi, leftF_Lf d i 1 hi] at hl
  rw [outS_Lf d i 1 hi, drop_one _ _ (by simpa using hi), numOf_one]
  exact ⟨rfl, hl⟩
theorem u64_at (d : ByteArray) (b i : Nat) (u : World) (h : Rd u b 72 (Lf d i) 0) (hi : i + 8 ≤ d.size) (hd : d.size ≤ 10000) :
    Calls Try.prog 41 #[.pointer (some ⟨b, 0, none⟩)] u fun e w' => (∃ x : Nat, e = .returned (.int .u64 x)) ∧ Left b 72 u w' (Lf d (i + 8)) 0 := by
  refine (u64_any b _ _ u h (by rw [Lf_size]; unfold maxLen; omega)).mono ?_
  rintro e w' ⟨rfl, hl⟩
  rw [show ((8 : Int)) = ((8 : Nat) : Int) from rfl] at *
  rw [leftS_Lf d i 8 hi, leftF_Lf d i 8 hi] at hl
  exact ⟨⟨_, rfl⟩, hl⟩
theorem take6_at (d : ByteArray) (b i : Nat) (u : World) (h : Rd u b 72 (Lf d i) 0) (hi : i + 6 ≤ d.size) (hd : d.size ≤ 10000) :
    Calls Try.prog 43 #[.pointer (some ⟨b, 0, none⟩), .int .i64 6] u fun e w' => (∃ x : ByteArray, e = .returned (.string x)) ∧ Left b 72 u w' (Lf d (i + 6)) 0 := by
  refine (take_meth b _ _ 6 u h (by rw [Lf_size]; unfold maxLen; omega)).mono ?_
  rintro e w' ⟨rfl, hl⟩
  rw [show ((6 : Int)) = ((6 : Nat) : Int) from rfl] at *
  rw [leftS_Lf d i 6 hi, leftF_Lf d i 6 hi] at hl
  exact ⟨⟨_, rfl⟩, hl⟩
/-- .. and where there is no room. -/
theorem numOf_le (s : ByteArray) (f : Int) (n m : Nat) (hn : n ≤ m) : numOf (outS s f n).data.toList < 256 ^ m := by
  refine Nat.lt_of_lt_of_le (numOf_lt _) (Nat.pow_le_pow_right (by decide) (Nat.le_trans ?_ hn))
  unfold outS
  split
  · rename_i h
    simp [ByteArray.size_extract]
    omega
  · simp
theorem u16_sh (b k : Nat) (s : ByteArray) (f : Int) (u : World) (h : Rd u b 72 s f) (hs : Short s f (k + 2)) :
    Calls Try.prog 38 #[.pointer (some ⟨b, 0, none⟩)] u fun e w' => ∃ (x : Nat) (s' : ByteArray) (f' : Int), e = .returned (.int .u16 x) ∧ x < 65536 ∧ Left b 72 u w' s' f' ∧ Short s' f' k := by
  refine (u16_any b _ _ u h (Nat.le_trans hs.1 (by unfold maxLen; decide))).mono ?_
  rintro e w' ⟨rfl, hl⟩
  exact ⟨_, _, _, rfl, numOf_le s f 2 2 (Nat.le_refl _), hl, hs.next (n := 2)⟩
theorem u8_sh (b k : Nat) (s : ByteArray) (f : Int) (u : World) (h : Rd u b 72 s f) (hs : Short s f (k + 1)) :
    Calls Try.prog 42 #[.pointer (some ⟨b, 0, none⟩)] u fun e w' => ∃ (x : Nat) (s' : ByteArray) (f' : Int), e = .returned (.int .u8 x) ∧ x < 256 ∧ Left b 72 u w' s' f' ∧ Short s' f' k := by
  refine (u8_any b _ _ u h (Nat.le_trans hs.1 (by unfold maxLen; decide))).mono ?_
  rintro e w' ⟨rfl, hl⟩
  exact ⟨_, _, _, rfl, numOf_le s f 1 1 (Nat.le_refl _), hl, hs.next (n := 1)⟩
theorem u64_sh (b k : Nat) (s : ByteArray) (f : Int) (u : World) (h : Rd u b 72 s f) (hs : Short s f (k + 8)) :
    Calls Try.prog 41 #[.pointer (some ⟨b, 0, none⟩)] u fun e w' => ∃ (x : Nat) (s' : ByteArray) (f' : Int), e = .returned (.int .u64 x) ∧ True ∧ Left b 72 u w' s' f' ∧ Short s' f' k := by
  refine (u64_any b _ _ u h (Nat.le_trans hs.1 (by unfold maxLen; decide))).mono ?_
  rintro e w' ⟨rfl, hl⟩
  exact ⟨_, _, _, rfl, trivial, hl, hs.next (n := 8)⟩
theorem take6_sh (b k : Nat) (s : ByteArray) (f : Int) (u : World) (h : Rd u b 72 s f) (hs : Short s f (k + 6)) :
    Calls Try.prog 43 #[.pointer (some ⟨b, 0, none⟩), .int .i64 6] u fun e w' => ∃ (x : ByteArray) (s' : ByteArray) (f' : Int), e = .returned (.string x) ∧ True ∧ Left b 72 u w' s' f' ∧ Short s' f' k := by
  refine (take_meth b _ _ 6 u h (Nat.le_trans hs.1 (by unfold maxLen; decide))).mono ?_
  rintro e w' ⟨rfl, hl⟩
  exact ⟨_, _, _, rfl, trivial, hl, hs.next (n := 6)⟩

/-- What is told, by each protocol. -/
def udpE (p : Pk) : Int := if p.data.size < 8 then 7 else if n2 p.data 4 ≠ p.data.size then 8 else if sumP p ≠ 0 ∧ (n2 p.data 6 ≠ 0 ∨ p.src.v6 = true) then 131 else 0
def udpG (p : Pk) (h : Hd) : Hd := { h with fl := { h.fl with fp := n2 p.data 0, tp := n2 p.data 2 }, size := (p.data.size : Int) - 8 }
def hdl (p : Pk) : Nat := 4 * (byt p.data 12 / 16)
def tcpE (p : Pk) : Int := if p.data.size < 20 then 7 else if hdl p < 20 ∨ p.data.size < hdl p then 8 else if sumP p ≠ 0 then 131 else 0
def tcpG (p : Pk) (h : Hd) : Hd := { h with fl := { h.fl with fp := n2 p.data 0, tp := n2 p.data 2 }, flags := byt p.data 13, size := (p.data.size : Int) - hdl p }
def icmpE (p : Pk) : Int := if decide (p.proto = 58) ≠ p.src.v6 then 8 else if p.data.size < 8 then 7 else if sumP p ≠ 0 then 131 else 0
def isEcho (p : Pk) : Bool := if p.src.v6 then decide (byt p.data 0 = 128) || decide (byt p.data 0 = 129) else decide (byt p.data 0 = 8) || decide (byt p.data 0 = 0)
def icmpG (p : Pk) (h : Hd) : Hd := { h with fl := (if isEcho p then { h.fl with fp := n2 p.data 4, tp := n2 p.data 4 } else h.fl), kind := byt p.data 0, code := byt p.data 1, size := (p.data.size : Int) - 8 }
def HdPost (H : Nat) (w : World) (E : Int) (G : Hd) (e : Ending) (w' : World) : Prop := ∃ h', e = .returned (.int .i64 E) ∧ w'.heap[H]? = some (.cells h'.cells 41) ∧ Only H w w' ∧ (E = 0 → h' = G)

end Go.Proofs.Ytgonakpoflacoaa
