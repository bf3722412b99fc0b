/-
  The document's sum of a text.
-/
import Derived.Test.YtfminodongcelaaDoorPiece
import Derived.Test.YtfminodongcelaaDoorChunk
import Derived.Deep.RegionHeld3
import Derived.Lib.BufferRead
import Derived.OwnWalk
import Derived.Deep.CutRange
set_option linter.unusedVariables false
set_option linter.unusedSimpArgs false
namespace Go.Proofs.YtfminodongcelaaDoor
open Go.RowKit
open Go.Lib (strCells)

theorem own_conv {B : Nat} {w : World} {v : Value} {n : Nat} {s : ByteArray} (h : w.ownsRow B 5 1 v n (strCells s)) (hn : n = s.size) : (convert 58 9 v).run Tryd.prog w = .ok (.string s) w := by
  subst hn
  rcases h.2 with ⟨hv, h0⟩ | ⟨g, cap, cur, hv, _⟩
  · have e : s = .empty := by
      apply ByteArray.ext
      have h2 : s.data.size = 0 := h0
      rw [Array.eq_empty_of_size_eq_zero h2]
      rfl
    subst e
    rw [hv]
    exact Lib.run_convert_nil_bytes w 58 9 5 0 Tryd.underlying58 (by kernel_rfl) (by kernel_rfl)
  · have hc := h.cells (g := g) (by rw [hv]; rfl)
    have hl : s.data.toList.length = s.size := Array.length_toList
    have := run_convert_bytes_back (P := Tryd.prog) w 58 9 5 ⟨g, 0, none⟩ cap s.data.toList Tryd.underlying58 (by kernel_rfl) (by kernel_rfl) (fun j hj => by
      have hx : j < (strCells s).length := by simp [strCells]; rw [hl] at hj; exact hj
      rw [hc j _ (List.getElem?_eq_getElem hx)]
      simp [strCells])
    rw [hl] at this
    rw [hv]
    have hs : (⟨s.data.toList.toArray⟩ : ByteArray) = s := by simp
    rw [hs] at this
    exact this
theorem empty_of_not {key : ByteArray} (h : false = !key.toList.isEmpty) : key = .empty := by
  apply Classical.byContradiction
  intro e
  rw [not_empty e] at h
  cases h
theorem full_of_not {key : ByteArray} (h : true = !key.toList.isEmpty) : ¬ key = .empty := by
  intro e
  rw [e, ByteArray.toList_eq] at h
  cases h
theorem yieldsIf_load_row {ops : Array Oper} {S : World → Prop} {o : Oper} {a : Act} {b n t : Nat} {v : List Nat} (hgd : o.guard = none) (x : Operand) (ho : o.op = .load t x)
    (hx : a.eval x = .pointer (some ⟨b, 0, none⟩)) (ht : RowTy t n) (hS : ∀ u, S u → Row u b t n v) : YieldsIf Tryd.prog ops S o (.agg (ws v)) a :=
  Or.inl ⟨by simp [Region.wanted, hgd], fun u hu => by
    unfold execOp
    simp only [ho, hx, Instr.loadAt, Instr.sureAddr, Sem.run_bind, Sem.run_pure, Result.andThen_ok, (hS u hu).loadVar ht]⟩
theorem word0_ref (size z : Nat) (hs : size ≤ 32) (hz : z ≤ 32) : ∃ K a1 a2 a3 : Nat, IntKind.u32.wrap (z : Int) = z ∧ IntKind.u32.wrap ((z : Int) * 256) = K ∧ IntKind.u32.wrap (size : Int) = size ∧ bits .xor .u32 ((at_ iv 0 : Nat) : Int) (16842752 : Int) = a1 ∧ bits .xor .u32 (a1 : Int) (K : Int) = a2 ∧ bits .xor .u32 (a2 : Int) (size : Int) = a3 ∧ a3 = at_ iv 0 ^^^ (16842752 ^^^ z * 256 ^^^ size) ∧ a3 < 4294967296 := by
  have l1 : z * 256 < 4294967296 := by omega
  have l2 : size < 4294967296 := by omega
  have l3 : at_ iv 0 ^^^ 16842752 < 4294967296 := xor32_lt _ _ (iv_lt 0) (by decide)
  have l4 : at_ iv 0 ^^^ 16842752 ^^^ z * 256 < 4294967296 := xor32_lt _ _ l3 l1
  refine ⟨z * 256, at_ iv 0 ^^^ 16842752, at_ iv 0 ^^^ 16842752 ^^^ z * 256, at_ iv 0 ^^^ 16842752 ^^^ z * 256 ^^^ size, wrap32_small z (by omega), ?_, wrap32_small size l2, u32_xor_nat _ 16842752 (iv_lt 0) (by decide), u32_xor_nat _ _ l3 l1, u32_xor_nat _ _ l4 l2, by simp only [Nat.xor_assoc], xor32_lt _ _ l4 l2⟩
  have := wrap32_small (z * 256) l1
  rw [← this]
  congr 1
theorem quads_lt {v : List Nat} (m : List Nat) (r : Nat) (h : ∀ i, at_ v i < 4294967296) : ∀ k i, at_ (quads v m r k) i < 4294967296
  | 0 => h
  | k + 1 => mixL_lt (quads_lt m r h k) _ _ _ _ _ _
theorem rds_lt {v : List Nat} (m : List Nat) (h : ∀ i, at_ v i < 4294967296) : ∀ k i, at_ (rds v m k) i < 4294967296
  | 0 => h
  | k + 1 => quads_lt m k (rds_lt m h k) 8
theorem app_lt {a b : List Nat} (ha : ∀ i, at_ a i < 4294967296) (hb : ∀ i, at_ b i < 4294967296) (i : Nat) : at_ (a ++ b) i < 4294967296 := by
  have h1 := ha i
  have h2 := hb (i - a.length)
  unfold at_ at *
  simp only [List.getD_eq_getElem?_getD] at *
  rw [List.getElem?_append]
  split
  · exact h1
  · exact h2
theorem vC_lt {h : List Nat} (hh : ∀ i, at_ h i < 4294967296) (t : Nat) (last : Bool) : ∀ i, at_ (vC h t last) i < 4294967296 := by
  have h0 := app_lt hh iv_lt
  have hA : ∀ i, at_ (vA h t) i < 4294967296 := set_lt h0 12 _ (xor32_lt _ _ (h0 12) (Nat.mod_lt _ (by decide)))
  have hB : ∀ i, at_ (vB h t) i < 4294967296 := set_lt hA 13 _ (xor32_lt _ _ (hA 13) (Nat.mod_lt _ (by decide)))
  unfold vC
  cases last
  · exact hB
  · exact set_lt hB 14 _ (xor32_lt _ _ (by decide) (hB 14))
theorem folds_lt {h v : List Nat} (hh : ∀ i, at_ h i < 4294967296) (hv : ∀ i, at_ v i < 4294967296) : ∀ k i, at_ (folds h v k) i < 4294967296
  | 0 => hh
  | k + 1 => set_lt (folds_lt hh hv k) k _ (xor32_lt _ _ (folds_lt hh hv k k) (xor32_lt _ _ (hv _) (hv _)))
theorem folds_len (h v : List Nat) : ∀ k, (folds h v k).length = h.length
  | 0 => rfl
  | k + 1 => by simp only [folds, List.length_set]; exact folds_len h v k
theorem compress_len (h : List Nat) (p : ByteArray) (t : Nat) (last : Bool) : (compress h p t last).length = h.length := folds_len _ _ _
theorem compress_lt {h : List Nat} (hh : ∀ i, at_ h i < 4294967296) (p : ByteArray) (t : Nat) (last : Bool) : ∀ i, at_ (compress h p t last) i < 4294967296 :=
  folds_lt hh (rds_lt _ (vC_lt hh t last) 10) 8
theorem ch_len (all : ByteArray) (h : List Nat) : ∀ k, (ch all h k).length = h.length
  | 0 => rfl
  | k + 1 => (compress_len _ _ _ _).trans (ch_len all h k)
theorem ch_lt (all : ByteArray) (h : List Nat) (hh : ∀ i, at_ h i < 4294967296) : ∀ k i, at_ (ch all h k) i < 4294967296
  | 0 => hh
  | k + 1 => compress_lt (ch_lt all h hh k) _ _ _
theorem digs_push (h : List Nat) (k : Nat) : digs h (k + 1) = (digs h k).push (UInt8.ofNat (dig h k)) := by
  apply ByteArray.ext
  show ((List.range (k + 1)).map fun i => UInt8.ofNat (dig h i)).toArray = (((List.range k).map fun i => UInt8.ofNat (dig h i)).toArray).push _
  rw [List.range_succ, List.map_append]
  simp
theorem pad_ext (all : ByteArray) (m z : Nat) (hz : z = 64 - (all.extract m all.size).size) : all.extract m all.size ++ zeroB z = pad (all.extract m all.size) := by
  subst hz
  apply ByteArray.ext
  simp [zeroB, pad, ByteArray.data_append]

theorem zero_conv2 {u : World} {b : Nat} (m : Nat) (hb : u.heap[b]? = some (.cells (madeCells #[.int .u8 0] m) 5)) : (convert 58 9 (.slice (some ⟨b, 0, none⟩) m m)).run Tryd.prog u = .ok (.string (zeroB m)) u := by
  have := run_convert_bytes_back (P := Tryd.prog) u 58 9 5 ⟨b, 0, none⟩ m (List.replicate m 0) Tryd.underlying58 (by kernel_rfl) (by kernel_rfl) (fun j hj => by
    have hj' : j < m := by simpa using hj
    rw [Addr.add_mid, Nat.zero_add]
    unfold World.cell?
    rw [hb]
    simp [madeCells, hj', Nat.mod_one])
  simpa [zeroB] using this

section
variable {md : Region.Mode} {ops : Array Oper} {Q : Exit → Act → World → Prop} {fuel i : Nat} {listed : Array Bool} {a : Act} {w : World} {o : Oper} {rs : List Nat} {b n t : Nat} {v u : List Nat}
theorem ready_load (ho : ops[i]? = some o) (hgd : o.guard = none) (x : Operand) (hop : o.op = .load t x) (hx : a.eval x = .pointer (some ⟨b, 0, none⟩)) (hr : Row w b t n v) (ht : RowTy t n)
    (h : wpAny Tryd.prog md ops Q fuel (listed.setIfInBounds i true) (a.put o.dst (.agg (ws v))) w) (hs : AllReady Tryd.prog md ops Q fuel listed a w rs) : AllReady Tryd.prog md ops Q fuel listed a w (i :: rs) :=
  AllReady.cons ho (fun K hK => by
    rw [if_pos (by simp [Region.wanted, hgd])]
    exact wp_load_row x hop hx hr ht (hK _ _ h)) hs
theorem ready_store (ho : ops[i]? = some o) (hgd : o.guard = none) (x y : Operand) (hop : o.op = .store t x y) (hx : a.eval x = .pointer (some ⟨b, 0, none⟩)) (hy : a.eval y = .agg (ws u)) (hr : Row w b t n v) (ht : RowTy t n) (hu : u.length = n)
    (h : wpAny Tryd.prog md ops Q fuel (listed.setIfInBounds i true) (a.put o.dst undef) (w.setRow b (ws u))) (hs : AllReady Tryd.prog md ops Q fuel listed a w rs) : AllReady Tryd.prog md ops Q fuel listed a w (i :: rs) :=
  AllReady.cons ho (fun K hK => by
    rw [if_pos (by simp [Region.wanted, hgd])]
    exact wp_store_row x y hop hx hy hr ht hu (hK _ _ h)) hs
end

theorem refS_of {h0 hc hf : List Nat} {all rst : ByteArray} {k m size : Nat} (e1 : hf = compress hc (pad rst) all.size true) (e2 : hc = ch all h0 k) (e3 : rst = all.extract m all.size) (e4 : m = 64 * k) (e5 : k = whole all.size) (h : all.size ≤ 200000) : digs hf size = refS h0 all size := by
  have hw : w64 all.size = all.size := Nat.mod_eq_of_lt (by omega)
  subst e1
  subst e2
  subst e3
  subst e4
  subst e5
  unfold refS
  rw [hw]
theorem small32 {k size : Nat} (h : k < size) (h2 : size ≤ 32) : k + 1 ≤ maxLen ∧ (k + 1) * 1 ≤ 140737488355328 := by unfold maxLen; omega
theorem dig_lt (h : List Nat) (k : Nat) : dig h k < 256 := Nat.mod_lt _ (by decide)
theorem digs_own {B k G : Nat} {w : World} {v : Value} {hf : List Nat} (hG : dig hf k = G) (h : w.ownsRow B 5 1 v (k + 1) (strCells (digs hf k) ++ [.int .u8 (G : Int)])) : w.ownsRow B 5 1 v (k + 1) (strCells (digs hf (k + 1))) := by
  rw [digs_push, strCells_push]
  have e : (UInt8.ofNat (dig hf k)).toNat = G := by
    rw [← hG]
    have := dig_lt hf k
    simp
    omega
  rw [e]
  exact h

/-! ### Numbers of the walk. -/
theorem mul8I (u : Nat) (h : u < 4) : ∃ U : Nat, U = 8 * u ∧ IntKind.i64.wrap (8 * (u : Int)) = U ∧ wrap64 (8 * (u : Int)) = U ∧ 8 * (u : Int) = U ∧ IntKind.u64.wrap (U : Int) = U ∧ (0 : Int) ≤ U ∧ wrap64 (U : Int) = U ∧ min U 32 = U := by
  refine ⟨8 * u, rfl, IntWalk.i64_in _ (by omega), by unfold wrap64; omega, by omega, ?_, by omega, by unfold wrap64; omega, by omega⟩
  rw [IntKind.wrap_u64]
  omega
theorem dig_int2 (A U : Nat) (lA : A < 4294967296) : ((A : Int) / 2 ^ U) % 256 = ((A / 2 ^ U % 256 : Nat) : Int) := by simp
theorem sub64b (z : Nat) (h : z ≤ 64) : ∃ m : Nat, m = 64 - z ∧ IntKind.i64.wrap (64 - (z : Int)) = m ∧ wrap64 (64 - (z : Int)) = m :=
  ⟨64 - z, rfl, (i64w (by omega) (by omega)).2, (i64w (by omega) (by omega)).1⟩
theorem loopI (all m z : Nat) (hz : all = z) (h : 64 + m < z) (hb : z ≤ 200000) : ∃ E : Nat, E = m + 64 ∧ IntKind.i64.wrap ((m : Int) + 64) = E ∧ IntKind.u64.wrap (E : Int) = E ∧ (m : Int) + 64 = E ∧ IntKind.i64.wrap (E : Int) = E ∧ (0 : Int) ≤ m ∧ (m : Int) ≤ E ∧ (E : Int) ≤ z ∧ (0 : Int) ≤ E ∧ m ≤ E ∧ E ≤ all ∧ E < 18446744073709551616 ∧ E - m = 64 := by
  refine ⟨m + 64, rfl, IntWalk.i64_in _ (by omega), ?_, by omega, IntWalk.i64_in _ (by omega), by omega⟩
  rw [IntKind.wrap_u64]
  omega

set_option maxHeartbeats 8000000 in
set_option maxRecDepth 100000 in
theorem refsum_any (size : Nat) (key s : ByteArray) (w : World) (h1 : 1 ≤ size) (h32 : size ≤ 32) (hk : key.size ≤ 32) (hs : s.size ≤ 100000) :
    Calls Tryd.prog 14 #[.int .i64 size, .string key, .string s] w fun e w' => e = .returned (.string (refS (iv.set 0 (word0 size key)) (allOf key s) size)) ∧ Below w.heap.size w w' := by
  have H0 := Lib.hid (And.intro h1 (And.intro h32 (And.intro hk hs)))
  clear h1 h32 hk hs
  go_enter Tryd.func14, Tryd.ntmps14
  go_wp2_with fail
  refine (begin_any w).mono ?_
  rintro e w1 ⟨rfl, B1⟩
  simp only []
  have RB0 : Row (w1.alloc (.cells #[.int .u32 0, .int .u32 0, .int .u32 0, .int .u32 0, .int .u32 0, .int .u32 0, .int .u32 0, .int .u32 0] 38)) w1.heap.size 38 8 (zeros 8) := row_new w1 38 8 (zeros 8) (by rfl) (at_zeros 8)
  have HB0 := Lib.hid RB0
  have R1 := RB0.setRow iv iv_len iv_lt
  have O1 := ((Only.refl w1.heap.size w1).alloc (.cells #[.int .u32 0, .int .u32 0, .int .u32 0, .int .u32 0, .int .u32 0, .int .u32 0, .int .u32 0, .int .u32 0] 38)).trans (Only.setRow w1.heap.size _ (ws iv))
  have BB := B1.trans (O1.below (B := w.heap.size) B1.size B1.size)
  obtain ⟨K, a1, a2, a3, k1, k2, k3, e1, e2, e3, e4, l3⟩ := word0_ref size key.size H0.out.2.1 H0.out.2.2.1
  have hH := B1.size
  have c0 := R1.cell 0 (by decide)
  have f0 := R1.fz 0
  obtain ⟨I0, hI⟩ : ∃ I, I = at_ iv 0 := ⟨_, rfl⟩
  rw [← hI] at c0 e1
  have R2 := R1.set 0 a3 (by decide) l3
  have B2 := BB.setCell (p := ⟨w1.heap.size, 0, none⟩) hH (.int .u32 (a3 : Int))
  have H2 := Lib.hid (And.intro R2 (And.intro B2 (And.intro hH e4)))
  clear RB0 R1 O1 BB hI e4 l3 R2 B2 hH B1
  obtain ⟨kb, hkb⟩ : ∃ kb : Bool, kb = !key.toList.isEmpty := ⟨_, rfl⟩
  have HKB := Lib.hid hkb
  have ekb := hkb.symm
  clear hkb
  go_upto_if 28 with (refine wpList_store_row rfl _ _ rfl rfl rfl HB0.out rowTy38 iv_len ?_)
  obtain ⟨H, hH⟩ : ∃ H, H = w1.heap.size := ⟨_, rfl⟩
  obtain ⟨w2, hw2⟩ : ∃ uu, uu = ((w1.alloc (.cells #[.int .u32 0, .int .u32 0, .int .u32 0, .int .u32 0, .int .u32 0, .int .u32 0, .int .u32 0, .int .u32 0] 38)).setRow w1.heap.size (ws iv)).setCell ⟨w1.heap.size, 0, none⟩ (.int .u32 (a3 : Int)) := ⟨_, rfl⟩
  have hh := H2.out
  rw [← hw2] at hh
  rw [← hw2]
  rw [← hH] at hh
  rw [← hH]
  have H3 := Lib.hid hh
  clear hh H2 hH hw2 c0 f0 HB0 e1 e2 e3 k1 k2 k3
  obtain ⟨all, hall⟩ : ∃ all, all = allOf key s := ⟨_, rfl⟩
  have HALL := Lib.hid hall
  clear hall
  go_cut [8] from 29 to 37 (fun v wc => v = .string all ∧ Row wc H 38 8 (iv.set 0 a3) ∧ Below w.heap.size w wc)
  case first =>
    clear ekb
    cases kb
    · have hke : key = .empty := empty_of_not HKB.out
      have hall : s = all := by
        rw [HALL.out, hke]
        rfl
      subst hall
      clear hke
      go_wp2_with fail
      go_meet
      case rel => exact ⟨rfl, H3.out.1, H3.out.2.1⟩
    · have hke : ¬ key = .empty := full_of_not HKB.out
      have hz1 := size_pos hke
      clear hke
      obtain ⟨m, hm, m1, m2⟩ := sub64 key.size H0.out.2.2.1
      have hmk := run_make_row' (P := Tryd.prog) 58 5 (.int .u8 0) 1 Tryd.underlying58 Tryd.info5 rfl .i64 .i64 m (by rw [hm]; omega) (by rw [hm]; omega)
      have hcv := zero_conv w2 m
      obtain ⟨Z, hZ⟩ : ∃ Z, Z = zeroB m := ⟨_, rfl⟩
      rw [← hZ] at hcv
      have hZs : Z.size = m := by rw [hZ]; simp [zeroB, ByteArray.size]
      have hadd : ∀ u, (Op.stringOp .add key Z).run Tryd.prog u = .ok (.string (key ++ Z)) u := fun u => run_string_add_sum u _ _ (by rw [hZs, hm]; have := H0.out.2.2.1; omega)
      have hadd2 : ∀ u, (Op.stringOp .add (key ++ Z) s).run Tryd.prog u = .ok (.string (key ++ Z ++ s)) u := fun u => run_string_add_sum u _ _ (by rw [ByteArray.size_append, hZs, hm]; have := H0.out.2.2; omega)
      have hall : key ++ Z ++ s = all := by
        rw [HALL.out, hZ, hm]
        unfold allOf
        rw [if_neg hz1]
      rw [hall] at hadd2
      have B4 := H3.out.2.1.alloc H3.out.2.1.size (.cells (madeCells #[.int .u8 0] m) 5)
      have R4 := H3.out.1.alloc (.cells (madeCells #[.int .u8 0] m) 5)
      have HK := Lib.hid (And.intro R4 B4)
      clear R4 B4 hz1 hm hZ hZs hall
      go_wp2_with fail
      go_meet
      case rel => exact ⟨rfl, HK.out.1, HK.out.2⟩
  case rest =>
    obtain ⟨rfl, R6, B6⟩ := hcut
    obtain ⟨h0, hh0⟩ : ∃ h0, h0 = iv.set 0 a3 := ⟨_, rfl⟩
    rw [← hh0] at R6
    rw [H3.out.2.2.2] at hh0
    have hzs : all.size ≤ 200000 := by
      rw [HALL.out]
      unfold allOf
      have := H0.out
      split
      · omega
      · rw [ByteArray.size_append, ByteArray.size_append]
        have hzb : ∀ n, (zeroB n).size = n := fun n => by show (Array.replicate n (0 : UInt8)).size = n; simp
        rw [hzb]
        omega
    have HF := Lib.hid (And.intro R6 (And.intro B6 (And.intro hzs (And.intro hh0 H3.out.2.2.1))))
    clear R6 B6 hh0 H3 ekb
    go_wp2_with fail
    go_loopw [9] (fun i wr => ∃ k m : Nat, m = 64 * k ∧ k ≤ whole all.size ∧ i = .int .i64 (m : Int) ∧ Row wr H 38 8 (ch all h0 k) ∧ Below w.heap.size w wr) (fun i _ => all.size - (intOf i).toNat)
    case atStart => exact ⟨0, 0, rfl, Nat.zero_le _, rfl, HF.out.1, HF.out.2.1⟩
    case round =>
      obtain ⟨k, m, hm, hk, rfl, RR, BR⟩ := hrel
      have HR := Lib.hid (And.intro RR (And.intro BR (And.intro hm hk)))
      clear RR BR hm hk
      by_cases hlt : 64 + m < all.size
      · obtain ⟨E, hE, q1, q2, q3, q4, l1, l2, l3, l4, l5, l6, l7, l8⟩ := loopI all.size m all.size rfl hlt hzs
        have hgt : (64 : Int) < (all.size : Int) - m := by omega
        have hme := hE
        have HE := Lib.hid (And.intro hE (And.intro l7 (And.intro l8 (And.intro hlt l6))))
        clear hE l7 l8 hlt hme
        obtain ⟨hc, hhc⟩ : ∃ hc, hc = ch all h0 k := ⟨_, rfl⟩
        have hl := HR.out.1.len
        have hhl := HR.out.1.lt
        rw [← hhc] at hl hhl
        have RD := HR.out.1.drew
        rw [← hhc] at RD
        have HC := Lib.hid (And.intro RD (And.intro hhc (And.intro hl hhl)))
        clear RD hhc hl hhl
        go_wp2_with fail
        refine wp_region_still_tail 9 (by kernel_rfl) (by kernel_rfl) ?_
        simp only [List.take_succ_cons, List.take_zero, List.drop_succ_cons, List.drop_zero]
        refine wpStill_load_row rfl _ rfl rfl HC.out.1 rowTy38 ?_
        repeat still_step
        refine wpStill_nil ?_
        go_wp2_with fail
        refine (piece_any hc (all.extract m E) E false _ HC.out.2.2.1 HC.out.2.2.2 (by rw [ext_size _ _ _ HE.out.2.2.2.2]; exact HE.out.2.2.1) HE.out.2.1).mono ?_
        rintro e w7 ⟨rfl, B7⟩
        have R7 := Lib.hid (HC.out.1.more B7)
        have B7w := HR.out.2.1.drew.trans (B7.mono HR.out.2.1.drew.size)
        have hl2 : (compress hc (all.extract m E) E false).length = 8 := by rw [compress_len]; exact HC.out.2.2.1
        have hlt2 := compress_lt HC.out.2.2.2 (all.extract m E) E false
        have hch : compress hc (all.extract m E) E false = ch all h0 (k + 1) := by
          rw [HC.out.2.1]
          show _ = compress (ch all h0 k) (all.extract (64 * k) (64 * k + 64)) (w64 (64 * k + 64)) false
          have e1 : w64 (64 * k + 64) = E := by rw [← HR.out.2.2.1, ← HE.out.1]; exact Nat.mod_eq_of_lt HE.out.2.1
          rw [e1, ← HR.out.2.2.1, ← HE.out.1]
        obtain ⟨h7, hh7⟩ : ∃ h7, h7 = compress hc (all.extract m E) E false := ⟨_, rfl⟩
        rw [← hh7] at hl2 hlt2 hch
        rw [← hh7]
        have HX := Lib.hid (And.intro hl2 (And.intro hlt2 (And.intro hch B7w)))
        clear hl2 hlt2 hch B7w hh7 B7
        simp only []
        go_wp2_with (refine wpList_store_row rfl _ _ rfl rfl rfl R7.out rowTy38 HX.out.1 ?_)
        have R8 := R7.out.setRow h7 HX.out.1 HX.out.2.1
        rw [HX.out.2.2.1] at R8
        have B8 := HX.out.2.2.2.trans ((Only.setRow H w7 (ws h7)).below (B := w.heap.size) HF.out.2.2.2.2 HX.out.2.2.2.size)
        have HY := Lib.hid (And.intro R8 B8)
        clear R8 B8
        go_roundw
        case rel => exact ⟨k + 1, E, by rw [HE.out.1, HR.out.2.2.1]; rfl, by have := HE.out.2.2.2.1; have := HR.out.2.2.1; unfold whole; omega, rfl, by rw [HX.out.2.2.1] at *; exact HY.out.1, HY.out.2⟩
        case measure => have := HE.out.1; have := HE.out.2.2.2.1; simp [intOf]; omega
      · have hkw : k = whole all.size := by
          have h1 := HR.out.2.2
          unfold whole at h1
          unfold whole
          omega
        have hm1 : m ≤ all.size ∧ (m : Int) ≤ all.size ∧ ¬ (64 : Int) < (all.size : Int) - m ∧ (0 : Int) ≤ m := by
          have h1 := HR.out.2.2
          unfold whole at h1
          omega
        obtain ⟨l0, l1, l2, l3⟩ := hm1
        clear hlt
        obtain ⟨rst, hrst⟩ : ∃ rst, rst = all.extract m all.size := ⟨_, rfl⟩
        have hrs : rst.size = all.size - m := by rw [hrst]; exact ext_size _ _ _ (Nat.le_refl _)
        have hrs64 : rst.size ≤ 64 := by have := HR.out.2.2; unfold whole at this; omega
        go_upto_region 11 with (fail)
        rw [← hrst]
        obtain ⟨p, hp, m1, m2⟩ := sub64b rst.size hrs64
        have hmk := run_make_row' (P := Tryd.prog) 58 5 (.int .u8 0) 1 Tryd.underlying58 Tryd.info5 rfl .i64 .i64 p (by rw [hp]; omega) (by rw [hp]; omega)
        obtain ⟨Z, hZ⟩ : ∃ Z, Z = zeroB p := ⟨_, rfl⟩
        have hZs : Z.size = p := by rw [hZ]; show (Array.replicate p (0 : UInt8)).size = p; simp
        have hpad : rst ++ Z = pad rst := by
          rw [hZ, hrst]
          exact pad_ext all m p (by rw [hp, hrst])
        have hadd : ∀ u, (Op.stringOp .add rst Z).run Tryd.prog u = .ok (.string (pad rst)) u := fun u => by rw [← hpad]; exact run_string_add_sum u _ _ (by rw [hZs, hp]; omega)
        have hu : IntKind.u64.wrap (all.size : Int) = all.size := by rw [IntKind.wrap_u64]; have := HF.out.2.2.1; omega
        obtain ⟨hc, hhc⟩ : ∃ hc, hc = ch all h0 k := ⟨_, rfl⟩
        have R0 := HR.out.1
        rw [← hhc] at R0
        have HP := Lib.hid (And.intro hrst (And.intro hrs (And.intro hrs64 (And.intro hp (And.intro hpad (And.intro hhc hkw))))))
        have HN := Lib.hid (And.intro R0 (And.intro HR.out.2.1 HF.out.2.2.1))
        have hl := HN.out.1.len
        have hlt1 := HN.out.1.lt
        have hps : (pad rst).size = 64 := by show (rst.data ++ Array.replicate (64 - rst.size) 0).size = 64; simp; omega
        have hcv := zero_conv2 (u := (wr.alloc (.cells (madeCells #[.int .u8 0] p) 5)).drew) (b := wr.heap.size) p (heap_alloc_last wr _)
        rw [← hZ] at hcv
        have HZ := Lib.hid hZ
        clear hZ
        have HL := Lib.hid (And.intro HN.out.1.drew (And.intro (HN.out.1.alloc (.cells (madeCells #[.int .u8 0] p) 5)).drew (HN.out.2.1.alloc HN.out.2.1.size (.cells (madeCells #[.int .u8 0] p) 5)).drew))
        have HN2 := Lib.hid (And.intro hl (And.intro hlt1 (And.intro hps (And.intro (show all.size < 18446744073709551616 by omega) (And.intro (show (compress hc (pad rst) all.size true).length = 8 by rw [compress_len]; exact hl) (compress_lt hlt1 (pad rst) all.size true))))))
        clear hrst hrs hrs64 hp hpad hZs hhc hkw R0 l0 hl hlt1 hps
        go_cut [] from 58 to 69 (fun wc => Row wc H 38 8 (compress hc (pad rst) all.size true) ∧ Below w.heap.size w wc)
        case first =>
          refine wp_region_any (by kernel_rfl) ?_
          change wpAny _ _ _ _ _ _ _ (World.drew _)
          refine wpAny_take (i := 1) (v := ?_) rfl (by kernel_rfl) (by kernel_rfl) (by kernel_rfl) (fun _ _ _ h => h) (Or.inl ⟨by rfl, ?_⟩) ?_
          rotate_left 1
          · (intro w; go_simp; try (with_reducible rfl))
          try simp only [Act.put, List.setIfInBounds_toArray, List.set_cons_zero, List.set_cons_succ]
          refine wpAny_take (i := 2) (v := ?_) rfl (by kernel_rfl) (by kernel_rfl) (by kernel_rfl) (fun _ _ _ h => h) (Or.inl ⟨by rfl, ?_⟩) ?_
          rotate_left 1
          · (intro w; go_simp; try (with_reducible rfl))
          try simp only [Act.put, List.setIfInBounds_toArray, List.set_cons_zero, List.set_cons_succ]
          refine wpAny_take (i := 3) (v := ?_) rfl (by kernel_rfl) (by kernel_rfl) (by kernel_rfl) (fun _ _ _ h => h) (Or.inl ⟨by rfl, ?_⟩) ?_
          rotate_left 1
          · (intro w; go_simp; try (with_reducible rfl))
          try simp only [Act.put, List.setIfInBounds_toArray, List.set_cons_zero, List.set_cons_succ]
          refine wpAny_take (i := 4) (v := ?_) rfl (by kernel_rfl) (by kernel_rfl) (by kernel_rfl) (fun _ _ _ h => h) (Or.inl ⟨by rfl, ?_⟩) ?_
          rotate_left 1
          · (intro w; go_simp; try (with_reducible rfl))
          try simp only [Act.put, List.setIfInBounds_toArray, List.set_cons_zero, List.set_cons_succ]
          refine wpAny_take (i := 8) (v := ?_) rfl (by kernel_rfl) (by kernel_rfl) (by kernel_rfl) (fun _ _ _ h => h) (Or.inl ⟨by rfl, ?_⟩) ?_
          rotate_left 1
          · (intro w; go_simp; try (with_reducible rfl))
          try simp only [Act.put, List.setIfInBounds_toArray, List.set_cons_zero, List.set_cons_succ]
          refine wpAny_take (i := 9) (v := ?_) rfl (by kernel_rfl) (by kernel_rfl) (by kernel_rfl) (fun _ _ _ h => h) (Or.inl ⟨by rfl, ?_⟩) ?_
          rotate_left 1
          · (intro w; go_simp; try (with_reducible rfl))
          try simp only [Act.put, List.setIfInBounds_toArray, List.set_cons_zero, List.set_cons_succ]
          refine wpAny_take (i := 10) (v := ?_) rfl (by kernel_rfl) (by kernel_rfl) (by kernel_rfl) (fun _ _ _ h => h) (Or.inl ⟨by rfl, ?_⟩) ?_
          rotate_left 1
          · (intro w; go_simp; try (with_reducible rfl))
          try simp only [Act.put, List.setIfInBounds_toArray, List.set_cons_zero, List.set_cons_succ]
          refine wpAny_ready (rs := [0, 5]) (by kernel_rfl) (by simp) ?_
          refine ready_load (i := 0) (b := H) (v := hc) (t := 38) (n := 8) (o := ?g10) ?g11 ?g12 (.tmp 7) ?g13 ?g14 HL.out.1 rowTy38 ?g15 ?g16
          case g11 => rfl
          case g12 => rfl
          case g13 => rfl
          case g14 => rfl
          · try simp only [Act.put, List.setIfInBounds_toArray, List.set_cons_zero, List.set_cons_succ]
            refine wpAny_ready (rs := [5]) (by kernel_rfl) (by simp) ?_
            refine AllReady.cons rfl (fun K hK => ?_) AllReady.nil
            go_simp
            refine hK _ _ ?_
            clear hK K
            try simp only [Act.put, List.setIfInBounds_toArray, List.set_cons_zero, List.set_cons_succ]
            refine wpAny_ready (rs := [6]) (by kernel_rfl) (by simp) ?_
            refine AllReady.cons rfl (fun K hK => ?_) AllReady.nil
            go_simp
            refine hK _ _ ?_
            clear hK K
            try simp only [Act.put, List.setIfInBounds_toArray, List.set_cons_zero, List.set_cons_succ]
            refine wpAny_ready (rs := [7]) (by kernel_rfl) (by simp) ?_
            refine AllReady.cons rfl (fun K hK => ?_) AllReady.nil
            go_simp
            refine hK _ _ ?_
            clear hK K
            try simp only [Act.put, List.setIfInBounds_toArray, List.set_cons_zero, List.set_cons_succ]
            refine wpAny_ready (rs := [11]) (by kernel_rfl) (by simp) ?_
            refine AllReady.cons rfl (fun K hK => ?_) AllReady.nil
            go_simp
            refine (piece_any hc (pad rst) all.size true _ HN2.out.1 HN2.out.2.1 HN2.out.2.2.1 HN2.out.2.2.2.1).mono ?_
            rintro e w7 ⟨rfl, B7⟩
            simp only []
            refine hK _ _ ?_
            clear hK K
            try simp only [Act.put, List.setIfInBounds_toArray, List.set_cons_zero, List.set_cons_succ]
            have R7 := Lib.hid (HL.out.2.1.more B7)
            have B7w := Lib.hid (HL.out.2.2.trans (B7.mono HL.out.2.2.size))
            clear B7
            refine wpAny_ready (rs := [12]) (by kernel_rfl) (by simp) ?_
            refine ready_store rfl rfl _ _ rfl rfl rfl R7.out rowTy38 HN2.out.2.2.2.2.1 ?_ AllReady.nil
            refine wpAny_done (by kernel_rfl) ?_ _
            try simp only [Act.put, List.setIfInBounds_toArray, List.set_cons_zero, List.set_cons_succ]
            go_wp2_with fail
            go_meet
            case rel => exact ⟨R7.out.setRow _ HN2.out.2.2.2.2.1 HN2.out.2.2.2.2.2, B7w.out.trans ((Only.setRow H w7 _).below (B := w.heap.size) HF.out.2.2.2.2 B7w.out.size)⟩
          refine AllReady.cons rfl (fun K hK => ?_) AllReady.nil
          go_simp
          refine hK _ _ ?_
          clear hK K
          try simp only [Act.put, List.setIfInBounds_toArray, List.set_cons_zero, List.set_cons_succ]
          refine wpAny_ready (rs := [0, 6]) (by kernel_rfl) (by simp) ?_
          refine ready_load (i := 0) (b := H) (v := hc) (t := 38) (n := 8) (o := ?g20) ?g21 ?g22 (.tmp 7) ?g23 ?g24 HL.out.2.1 rowTy38 ?g25 ?g26
          case g21 => rfl
          case g22 => rfl
          case g23 => rfl
          case g24 => rfl
          · try simp only [Act.put, List.setIfInBounds_toArray, List.set_cons_zero, List.set_cons_succ]
            refine wpAny_ready (rs := [6]) (by kernel_rfl) (by simp) ?_
            refine AllReady.cons rfl (fun K hK => ?_) AllReady.nil
            go_simp
            refine hK _ _ ?_
            clear hK K
            try simp only [Act.put, List.setIfInBounds_toArray, List.set_cons_zero, List.set_cons_succ]
            refine wpAny_ready (rs := [7]) (by kernel_rfl) (by simp) ?_
            refine AllReady.cons rfl (fun K hK => ?_) AllReady.nil
            go_simp
            refine hK _ _ ?_
            clear hK K
            try simp only [Act.put, List.setIfInBounds_toArray, List.set_cons_zero, List.set_cons_succ]
            refine wpAny_ready (rs := [11]) (by kernel_rfl) (by simp) ?_
            refine AllReady.cons rfl (fun K hK => ?_) AllReady.nil
            go_simp
            refine (piece_any hc (pad rst) all.size true _ HN2.out.1 HN2.out.2.1 HN2.out.2.2.1 HN2.out.2.2.2.1).mono ?_
            rintro e w7 ⟨rfl, B7⟩
            simp only []
            refine hK _ _ ?_
            clear hK K
            try simp only [Act.put, List.setIfInBounds_toArray, List.set_cons_zero, List.set_cons_succ]
            have R7 := Lib.hid (HL.out.2.1.more B7)
            have B7w := Lib.hid (HL.out.2.2.trans (B7.mono HL.out.2.2.size))
            clear B7
            refine wpAny_ready (rs := [12]) (by kernel_rfl) (by simp) ?_
            refine ready_store rfl rfl _ _ rfl rfl rfl R7.out rowTy38 HN2.out.2.2.2.2.1 ?_ AllReady.nil
            refine wpAny_done (by kernel_rfl) ?_ _
            try simp only [Act.put, List.setIfInBounds_toArray, List.set_cons_zero, List.set_cons_succ]
            go_wp2_with fail
            go_meet
            case rel => exact ⟨R7.out.setRow _ HN2.out.2.2.2.2.1 HN2.out.2.2.2.2.2, B7w.out.trans ((Only.setRow H w7 _).below (B := w.heap.size) HF.out.2.2.2.2 B7w.out.size)⟩
          refine AllReady.cons rfl (fun K hK => ?_) AllReady.nil
          go_simp
          refine hK _ _ ?_
          clear hK K
          try simp only [Act.put, List.setIfInBounds_toArray, List.set_cons_zero, List.set_cons_succ]
          refine wpAny_ready (rs := [0, 7]) (by kernel_rfl) (by simp) ?_
          refine ready_load (i := 0) (b := H) (v := hc) (t := 38) (n := 8) (o := ?g30) ?g31 ?g32 (.tmp 7) ?g33 ?g34 HL.out.2.1 rowTy38 ?g35 ?g36
          case g31 => rfl
          case g32 => rfl
          case g33 => rfl
          case g34 => rfl
          · try simp only [Act.put, List.setIfInBounds_toArray, List.set_cons_zero, List.set_cons_succ]
            refine wpAny_ready (rs := [7]) (by kernel_rfl) (by simp) ?_
            refine AllReady.cons rfl (fun K hK => ?_) AllReady.nil
            go_simp
            refine hK _ _ ?_
            clear hK K
            try simp only [Act.put, List.setIfInBounds_toArray, List.set_cons_zero, List.set_cons_succ]
            refine wpAny_ready (rs := [11]) (by kernel_rfl) (by simp) ?_
            refine AllReady.cons rfl (fun K hK => ?_) AllReady.nil
            go_simp
            refine (piece_any hc (pad rst) all.size true _ HN2.out.1 HN2.out.2.1 HN2.out.2.2.1 HN2.out.2.2.2.1).mono ?_
            rintro e w7 ⟨rfl, B7⟩
            simp only []
            refine hK _ _ ?_
            clear hK K
            try simp only [Act.put, List.setIfInBounds_toArray, List.set_cons_zero, List.set_cons_succ]
            have R7 := Lib.hid (HL.out.2.1.more B7)
            have B7w := Lib.hid (HL.out.2.2.trans (B7.mono HL.out.2.2.size))
            clear B7
            refine wpAny_ready (rs := [12]) (by kernel_rfl) (by simp) ?_
            refine ready_store rfl rfl _ _ rfl rfl rfl R7.out rowTy38 HN2.out.2.2.2.2.1 ?_ AllReady.nil
            refine wpAny_done (by kernel_rfl) ?_ _
            try simp only [Act.put, List.setIfInBounds_toArray, List.set_cons_zero, List.set_cons_succ]
            go_wp2_with fail
            go_meet
            case rel => exact ⟨R7.out.setRow _ HN2.out.2.2.2.2.1 HN2.out.2.2.2.2.2, B7w.out.trans ((Only.setRow H w7 _).below (B := w.heap.size) HF.out.2.2.2.2 B7w.out.size)⟩
          refine AllReady.cons rfl (fun K hK => ?_) AllReady.nil
          go_simp
          refine hK _ _ ?_
          clear hK K
          try simp only [Act.put, List.setIfInBounds_toArray, List.set_cons_zero, List.set_cons_succ]
          refine wpAny_ready (rs := [0]) (by kernel_rfl) (by simp) ?_
          refine ready_load (i := 0) (b := H) (v := hc) (t := 38) (n := 8) (o := ?g40) ?g41 ?g42 (.tmp 7) ?g43 ?g44 HL.out.2.1 rowTy38 ?g45 AllReady.nil
          case g41 => rfl
          case g42 => rfl
          case g43 => rfl
          case g44 => rfl
          try simp only [Act.put, List.setIfInBounds_toArray, List.set_cons_zero, List.set_cons_succ]
          refine wpAny_ready (rs := [11]) (by kernel_rfl) (by simp) ?_
          refine AllReady.cons rfl (fun K hK => ?_) AllReady.nil
          go_simp
          refine (piece_any hc (pad rst) all.size true _ HN2.out.1 HN2.out.2.1 HN2.out.2.2.1 HN2.out.2.2.2.1).mono ?_
          rintro e w7 ⟨rfl, B7⟩
          simp only []
          refine hK _ _ ?_
          clear hK K
          try simp only [Act.put, List.setIfInBounds_toArray, List.set_cons_zero, List.set_cons_succ]
          have R7 := Lib.hid (HL.out.2.1.more B7)
          have B7w := Lib.hid (HL.out.2.2.trans (B7.mono HL.out.2.2.size))
          clear B7
          refine wpAny_ready (rs := [12]) (by kernel_rfl) (by simp) ?_
          refine ready_store rfl rfl _ _ rfl rfl rfl R7.out rowTy38 HN2.out.2.2.2.2.1 ?_ AllReady.nil
          refine wpAny_done (by kernel_rfl) ?_ _
          try simp only [Act.put, List.setIfInBounds_toArray, List.set_cons_zero, List.set_cons_succ]
          go_wp2_with fail
          go_meet
          case rel => exact ⟨R7.out.setRow _ HN2.out.2.2.2.2.1 HN2.out.2.2.2.2.2, B7w.out.trans ((Only.setRow H w7 _).below (B := w.heap.size) HF.out.2.2.2.2 B7w.out.size)⟩
        case rest =>
          obtain ⟨R12, B12⟩ := hcut
          obtain ⟨hf, hhf⟩ : ∃ hf, hf = compress hc (pad rst) all.size true := ⟨_, rfl⟩
          rw [← hhf] at R12
          have HR12 := Lib.hid (And.intro R12 (And.intro B12 hhf))
          clear R12 B12 hhf hadd hcv hmk HL HN2 HN hu m1 m2
          obtain ⟨i0, hi, hz, hz1, hz2⟩ := info5_parts
          have HI := Lib.hid (And.intro hi (And.intro hz (And.intro hz1 hz2)))
          clear hi hz hz1 hz2
          have hsz1 := szI size H0.out.2.1
          obtain ⟨s1, s2⟩ := hsz1
          clear l1 l2 l3 hzs
          go_wp2_with fail
          go_loopw [11, 12] (fun v i wr => ∃ k : Nat, k ≤ size ∧ i = .int .i64 k ∧ wr.ownsRow wc.heap.size 5 1 v k (strCells (digs hf k)) ∧ Below wc.heap.size wc wr) (fun _ i _ => size - (intOf i).toNat)
          case atStart => exact ⟨0, Nat.zero_le _, rfl, World.ownsRow_nil _ _ _ _, Below.refl _ _⟩
          case round =>
            obtain ⟨k, hk, rfl, own, bl⟩ := hrel
            obtain ⟨ao, cap, rfl⟩ := own_shape own
            obtain ⟨w3, rfl⟩ : ∃ uu : World, uu = wr := ⟨_, rfl⟩
            have HO := Lib.hid (And.intro own bl)
            clear own bl
            by_cases hlt : k < size
            · obtain ⟨j, u, hj, hu, q1, q2, q3, q4, q5, q6, q7, q8, q9, q10, l1, l2, l3, l4⟩ := ix32 k (Nat.lt_of_lt_of_le hlt H0.out.2.1)
              have RR := HR12.out.1.more HO.out.2
              have cH := RR.cell j l3
              have lA := RR.lt j
              have hltI : (k : Int) < size := Int.ofNat_lt.2 hlt
              obtain ⟨A, hA⟩ : ∃ A, A = at_ hf j := ⟨_, rfl⟩
              rw [← hA] at cH lA
              have u0 := mul8I u l4
              obtain ⟨U, hU, u1, u2, u3, u4, u5, u6, u7⟩ := u0
              have eD := dig_int2 A U lA
              have hde : dig hf k = A / 2 ^ U % 256 := by unfold dig; rw [← hj, ← hu, ← hA, hU, Nat.mul_comm]
              obtain ⟨G, hG⟩ : ∃ G, G = A / 2 ^ U % 256 := ⟨_, rfl⟩
              rw [← hG] at eD hde
              have HX := Lib.hid (And.intro hde (And.intro hG (And.intro hlt hk)))
              clear RR hA hG hde hj hu l3 q4 q7 q8 hU hlt hk l4
              go_wp2_with (at_builtin; refine wpList_append_own _ rfl _ _ 58 rfl wc.heap.size 5 i0 (.int .u8 0) 1 1 Tryd.underlying58 HI.out.1 HI.out.2.1 HI.out.2.2.1 HI.out.2.2.2 rfl (by decide) _ _ _ rfl (HO.out.1.alloc _) ⟨w3.heap.size, 0, none⟩ 1 1 [.int .u8 (G : Int)] rfl rfl ?c1 ?c2 ?c3 ?c4 ?c5 ?_)
              case c1 =>
                intro jj uu hj
                match jj, hj with
                | 0, hj => simp at hj; subst hj; simp [Addr.add]
              case c2 => intro uu hu; simp at hu; subst hu; rfl
              case c3 => exact (small32 HX.out.2.2.1 H0.out.2.1).1
              case c4 => exact (small32 HX.out.2.2.1 H0.out.2.1).2
              case c5 => exact Nat.le_trans HO.out.2.size (by simp)
              intro v' w4 own4 gr4 _
              have B4 := (HO.out.2.alloc HO.out.2.size (.cells #[.int .u8 (G : Int)] 5)).grown gr4 (Nat.le_trans HO.out.2.size (by simp)) (fun g hg => (HO.out.1.lt g hg).1)
              have own5 := digs_own HX.out.1 own4
              have HF4 := Lib.hid (And.intro own5 B4)
              clear own4 gr4 B4 own5 cH lA u1 u2 u3 u4 u5 u6 u7 eD q1 q2 q3 q5 q6 q9 q10 l1 l2
              go_wp2_with fail
              go_roundw
              case rel => exact ⟨k + 1, HX.out.2.2.1, succI k, HF4.out.1, HF4.out.2⟩
              case measure => exact measI size k HX.out.2.2.1
            · have hks : k = size := isN hk hlt
              have hltI : ¬ (k : Int) < size := nltI hlt
              have hcv := own_conv HO.out.1 (digs_size hf k).symm
              have hfin := refS_of (size := size) HR12.out.2.2 HP.out.2.2.2.2.2.1 HP.out.1 HR.out.2.2.1 HP.out.2.2.2.2.2.2 HF.out.2.2.1
              rw [← hks] at hfin
              obtain ⟨OUT, hOUT⟩ : ∃ OUT, OUT = digs hf k := ⟨_, rfl⟩
              rw [← hOUT] at hcv hfin
              have HE := Lib.hid (And.intro hfin hks)
              clear hfin hks hOUT hlt hk
              go_wp2_with fail
              go_ret
              refine ⟨?_, HR12.out.2.1.trans (HO.out.2.mono HR12.out.2.1.size)⟩
              rw [HE.out.1, HE.out.2, HF.out.2.2.2.1, HALL.out]
              rfl

end Go.Proofs.YtfminodongcelaaDoor
