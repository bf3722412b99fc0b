/-
  The walk.
-/
import Derived.Test.YtoplbfijodebmaaGreatDoorM17Makes
import Derived.Lib.LazyBuf
import Derived.Deep.RegionHeld3
import Derived.Laws.BitsAllLaws
set_option linter.unusedVariables false
set_option linter.unusedSimpArgs false
set_option maxRecDepth 100000
set_option maxHeartbeats 40000000
namespace Go.Proofs.YtoplbfijodebmaaGreatDoor
open Go.RowKit
open Go.Lib (strCells)
def xorS (b : ByteArray) (X : Nat) : ByteArray := ⟨b.data.map fun c => UInt8.ofNat (c.toNat ^^^ X)⟩
def keyS (key : ByteArray) : ByteArray := if key.size ≤ 64 then key else hashS 32 .empty key
def hmacS (key s : ByteArray) : ByteArray := hashS 32 .empty (xorS (pad (keyS key)) 92 ++ hashS 32 .empty (xorS (pad (keyS key)) 54 ++ s))
theorem xorS_size (b : ByteArray) (X : Nat) : (xorS b X).size = b.size := by show (b.data.map _).size = b.data.size; simp
theorem keyS_size (key : ByteArray) : (keyS key).size ≤ 64 := by
 unfold keyS
 split
 ·assumption
 rw [hashS_size]; decide
theorem hmacS_size (key s : ByteArray) : (hmacS key s).size = 32 := hashS_size _ _ _
theorem rowTy66 : RowTy 198 64 := ⟨⟨5, by kernel_rfl⟩, by kernel_rfl⟩
theorem strA_size (k : ByteArray) : (strCells k).toArray.size = k.size := by
 show ((k.data.toList.map _).toArray).size = k.data.size
 simp
theorem strA_get (k : ByteArray) (i : Nat) (h : i < k.size) : (strCells k).toArray[i]? = some (.int .u8 (bt k i)) := by
 have hd : i < k.data.size := h
 unfold bt
 rw [gDx, Array.getElem?_eq_getElem hd]
 simp [strCells]
 exact ⟨_, Array.getElem?_eq_getElem hd, rfl⟩
theorem cells_of_rowIs {w : World} {b t n : Nat} {f : Nat → Value} {cs : Array Value} (h : w.rowIs b t n f) (hn : cs.size = n) (he : ∀ i, i < n → cs[i]? = some (f i)) : Cells w b t cs := by
 obtain ⟨c, hb, hc, hf⟩ := h
 have : c = cs := by
  apply Array.ext_getElem?
  intro i
  by_cases hi : i < n
  ·rw [hf i hi, he i hi]
  ·rw [Array.getElem?_eq_none (by omega), Array.getElem?_eq_none (by omega)]
 subst this
 exact ⟨hb⟩
theorem yieldsIf_load_cells {ops : Array Oper} {S : World → Prop} {o : Oper} {a : Act} {b n t : Nat} {cs : Array Value} (hgd : o.guard = none) (x : Operand) (ho : o.op = .load t x)
  (hx : a.eval x = .pointer (some ⟨b, 0, none⟩)) (ht : RowTy t n) (hn : cs.size = n) (hS : ∀ u, S u → Cells u b t cs) : YieldsIf Tryz.prog ops S o (.agg cs) a :=
 Or.inl ⟨by simp [Region.wanted, hgd], fun u hu => by
  unfold execOp
  simp only [ho, hx, Instr.loadAt, Instr.sureAddr, Sem.run_bind, Sem.run_pure, Result.andThen_ok, (hS u hu).loadVar ht hn]⟩
def bX (k : ByteArray) (X z j : Nat) : Nat := if j < z then bt k j ^^^ X else bt k j
theorem xor8 (A X : Nat) (hA : A < 256) (hX : X < 256) : ∃ G : Nat, G = A ^^^ X ∧ bits .xor .u8 (A : Int) (X : Int) = G := ⟨_, rfl, u8_xor_nat A X hA hX⟩
theorem bX_step {w : World} {b t k0 X z G : Nat} {k : ByteArray} (h : w.rowIs b t k0 (fun j => .int .u8 ((bX k X z j : Nat) : Int))) (hG : G = bt k z ^^^ X) :
  (w.setCell ⟨b, z, none⟩ (.int .u8 (G : Int))).rowIs b t k0 (fun j => .int .u8 ((bX k X (z + 1) j : Nat) : Int)) := by
 refine (h.set _ _).congr (fun j hj => ?_)
 by_cases e : j = z
 ·subst e
  rw [if_pos rfl, hG]
  unfold bX
  rw [if_pos (by omega)]
 rw [if_neg e]
 unfold bX
 by_cases e2 : j < z
 ·rw [if_pos e2, if_pos (by omega)]
 rw [if_neg e2, if_neg (by omega)]
theorem xorS_conv {w : World} {b t X : Nat} {k : ByteArray} (h : w.rowIs b t 64 (fun j => .int .u8 ((bX k X 64 j : Nat) : Int))) (hk : k.size = 64) (hX : X < 256) :
  (convert 52 9 (.slice (some ⟨b, 0, none⟩) 64 64)).run Tryz.prog w = .ok (.string (xorS k X)) w := by
 have hl : (xorS k X).data.toList.length = 64 := by
  rw [Array.length_toList]
  exact (xorS_size k X).trans hk
 have := run_convert_bytes_back (P := Tryz.prog) w 52 9 5 ⟨b, 0, none⟩ 64 (xorS k X).data.toList Tryz.underlying52 (by kernel_rfl) (by kernel_rfl) (fun j hj => by
  rw [Addr.add_mid, Nat.zero_add, h.cell (by omega)]
  have hd : j < k.data.size := by have : k.data.size = 64 := hk; omega
  have hb : (k.data[j]).toNat ^^^ X < 256 := Nat.xor_lt_two_pow (n := 8) (UInt8.toNat_lt _) hX
  have e1 : bX k X 64 j = (k.data[j]).toNat ^^^ X := by
   unfold bX bt
   rw [if_pos (by omega), gDx, Array.getElem?_eq_getElem hd]
   rfl
  have e2 : ((xorS k X).data.toList[j]).toNat = (k.data[j]).toNat ^^^ X := by
   simp only [xorS, Array.toList_map, List.getElem_map, Array.getElem_toList]
   rw [UInt8.toNat_ofNat']
   exact Nat.mod_eq_of_lt hb
  rw [e1, e2])
 rw [hl] at this
 simpa using this
theorem with_any (k : ByteArray) (X : Nat) (w : World) (hk : k.size = 64) (hX : X < 256) :
  Calls Tryz.prog 123 #[.agg (strCells k).toArray, .int .u8 (X : Int)] w fun e w' => e = .returned (.string (xorS k X)) ∧ Below w.heap.size w w' := by
 have RB : (w.alloc (.cells (strCells k).toArray 198)).rowIs w.heap.size 198 64 (fun j => .int .u8 ((bX k X 0 j : Nat) : Int)) := by
  have := World.rowIs_alloc w (strCells k).toArray 198 (fun j => .int .u8 ((bX k X 0 j : Nat) : Int)) (fun i hi => by
   rw [strA_size] at hi
   rw [strA_get k i hi]
   unfold bX
   rw [if_neg (by omega)])
  rw [strA_size, hk] at this
  exact this
 have B0 := (Below.refl w.heap.size w).alloc (Nat.le_refl _) (.cells (strCells k).toArray 198)
 have HK := hDx (And.intro hk hX)
 clear hk hX
 go_enter Tryz.func123, Tryz.ntmps123
 go_wp2_with fail
 obtain ⟨w0, hw0⟩ := nm (w.alloc (.cells (strCells k).toArray 198))
 rw [← hw0] at RB B0
 rw [← hw0]
 have H0 := hDx (And.intro RB B0)
 clear RB B0 hw0
 go_loopw [6] (fun i wr => ∃ z : Nat, z ≤ 64 ∧ i = .int .i64 z ∧ wr.rowIs w.heap.size 198 64 (fun j => .int .u8 ((bX k X z j : Nat) : Int)) ∧ Below w.heap.size w wr) (fun i _ => 64 - (intOf i).toNat)
 case atStart => exact ⟨0, Nat.zero_le _, rfl, H0.out⟩
 obtain ⟨z, hz, rfl, R, B⟩ := hrel
 have HR := hDx (And.intro R B)
 clear R B
 by_cases hlt : z < 64
 ·have c0 := HR.out.1.cell hlt
  have f0 := HR.out.1.frozen z
  have e0 : bX k X z z = bt k z := by unfold bX; rw [if_neg (by omega)]
  rw [e0] at c0
  obtain ⟨G, hG, e1⟩ := xor8 (bt k z) X (bt_lt k z) HK.out.2
  obtain ⟨A, hA⟩ := nm (bt k z)
  rw [← hA] at c0 e1
  have HG := hDx hG
  have l1 : (z : Int) < 64 := by omega
  clear e0 hA hG
  go_wp2_with fail
  go_roundw
  case rel => exact ⟨z + 1, hlt, succI z, bX_step HR.out.1 HG.out, HR.out.2.setCell (Nat.le_refl _) _⟩
  exact measI 64 z hlt
 obtain rfl := isN hz hlt
 have hcv := xorS_conv HR.out.1 HK.out.1 HK.out.2
 clear hlt hz
 go_wp2_with fail
 go_ret
 exact ⟨rfl, HR.out.2⟩
theorem run_copyS {w : World} {b : Nat} (r : ByteArray) (h64 : r.size ≤ 64) (hrow : w.rowIs b 198 64 (fun _ => .int .u8 0)) :
  (Builtin.copy_ #[52, 9] 3 #[.slice (some ⟨b, 0, none⟩) 64 64, .string r]).run Tryz.prog w = .ok (goInt r.size) (w.setCells b 0 (strCells r)) :=
 run_copy_string (P := Tryz.prog) w 52 9 3 5 b 0 64 64 r Tryz.underlying52 (fun _ => by rfl) h64 (fun j hj => by rw [Nat.zero_add, hrow.cell (by omega)]; rfl) (fun j _ => hrow.frozen _)
theorem pad_block {w : World} {b : Nat} (r : ByteArray) (hrow : w.rowIs b 198 64 (fun _ => .int .u8 0)) (h : r.size ≤ 64) : Cells (w.setCells b 0 (strCells r)) b 198 (strCells (pad r)).toArray := by
 refine cells_of_rowIs (rowIs_setCells (strCells r) 0 w _ hrow) ((strA_size _).trans (pad_size r h)) (fun i hi => ?_)
 rw [strA_get _ _ (by rw [pad_size r h]; exact hi)]
 have hl : (strCells r).length = r.size := by simp [strCells]
 have hd : r.data.size = r.size := rfl
 rw [hl]
 unfold bt pad
 by_cases c : i < r.size
 ·rw [if_pos (by omega)]
  simp [strCells, gDx, Array.getElem?_append, c, hd]
 rw [if_neg (by omega), gDx]
 simp [Array.getElem?_append, hd, c]
 rw [Array.getElem?_replicate]
 split <;> rfl
theorem zero64_row (w : World) : (w.alloc (.cells #[.int .u8 0, .int .u8 0, .int .u8 0, .int .u8 0, .int .u8 0, .int .u8 0, .int .u8 0, .int .u8 0, .int .u8 0, .int .u8 0, .int .u8 0, .int .u8 0, .int .u8 0, .int .u8 0, .int .u8 0, .int .u8 0, .int .u8 0, .int .u8 0, .int .u8 0, .int .u8 0, .int .u8 0, .int .u8 0, .int .u8 0, .int .u8 0, .int .u8 0, .int .u8 0, .int .u8 0, .int .u8 0, .int .u8 0, .int .u8 0, .int .u8 0, .int .u8 0, .int .u8 0, .int .u8 0, .int .u8 0, .int .u8 0, .int .u8 0, .int .u8 0, .int .u8 0, .int .u8 0, .int .u8 0, .int .u8 0, .int .u8 0, .int .u8 0, .int .u8 0, .int .u8 0, .int .u8 0, .int .u8 0, .int .u8 0, .int .u8 0, .int .u8 0, .int .u8 0, .int .u8 0, .int .u8 0, .int .u8 0, .int .u8 0, .int .u8 0, .int .u8 0, .int .u8 0, .int .u8 0, .int .u8 0, .int .u8 0, .int .u8 0, .int .u8 0] 198)).rowIs w.heap.size 198 64 (fun _ => .int .u8 0) := by
 refine World.rowIs_alloc w #[.int .u8 0, .int .u8 0, .int .u8 0, .int .u8 0, .int .u8 0, .int .u8 0, .int .u8 0, .int .u8 0, .int .u8 0, .int .u8 0, .int .u8 0, .int .u8 0, .int .u8 0, .int .u8 0, .int .u8 0, .int .u8 0, .int .u8 0, .int .u8 0, .int .u8 0, .int .u8 0, .int .u8 0, .int .u8 0, .int .u8 0, .int .u8 0, .int .u8 0, .int .u8 0, .int .u8 0, .int .u8 0, .int .u8 0, .int .u8 0, .int .u8 0, .int .u8 0, .int .u8 0, .int .u8 0, .int .u8 0, .int .u8 0, .int .u8 0, .int .u8 0, .int .u8 0, .int .u8 0, .int .u8 0, .int .u8 0, .int .u8 0, .int .u8 0, .int .u8 0, .int .u8 0, .int .u8 0, .int .u8 0, .int .u8 0, .int .u8 0, .int .u8 0, .int .u8 0, .int .u8 0, .int .u8 0, .int .u8 0, .int .u8 0, .int .u8 0, .int .u8 0, .int .u8 0, .int .u8 0, .int .u8 0, .int .u8 0, .int .u8 0, .int .u8 0] 198 _ (fun i hi => ?_)
 have hi2 : i < 64 := hi
 have : (#[.int .u8 0, .int .u8 0, .int .u8 0, .int .u8 0, .int .u8 0, .int .u8 0, .int .u8 0, .int .u8 0, .int .u8 0, .int .u8 0, .int .u8 0, .int .u8 0, .int .u8 0, .int .u8 0, .int .u8 0, .int .u8 0, .int .u8 0, .int .u8 0, .int .u8 0, .int .u8 0, .int .u8 0, .int .u8 0, .int .u8 0, .int .u8 0, .int .u8 0, .int .u8 0, .int .u8 0, .int .u8 0, .int .u8 0, .int .u8 0, .int .u8 0, .int .u8 0, .int .u8 0, .int .u8 0, .int .u8 0, .int .u8 0, .int .u8 0, .int .u8 0, .int .u8 0, .int .u8 0, .int .u8 0, .int .u8 0, .int .u8 0, .int .u8 0, .int .u8 0, .int .u8 0, .int .u8 0, .int .u8 0, .int .u8 0, .int .u8 0, .int .u8 0, .int .u8 0, .int .u8 0, .int .u8 0, .int .u8 0, .int .u8 0, .int .u8 0, .int .u8 0, .int .u8 0, .int .u8 0, .int .u8 0, .int .u8 0, .int .u8 0, .int .u8 0] : Array Value) = Array.replicate 64 (.int .u8 0) := rfl
 rw [this, Array.getElem?_replicate, if_pos hi2]
theorem addS (a b : ByteArray) (h : a.size + b.size ≤ 9223372036854775807) : ∀ u, (Op.stringOp .add a b).run Tryz.prog u = .ok (.string (a ++ b)) u := fun u => run_string_add_sum u _ _ h
theorem hmac_short (key s : ByteArray) (w : World) (hT : Tab w) (hs : s.size ≤ 10000) (hkm : key.size ≤ 10000) (hc : key.size ≤ 64) :
  Calls Tryz.prog 115 #[.string key, .string s] w fun e w' => e = .returned (.string (hmacS key s)) ∧ Below w.heap.size w w' := by
 have HT := hDx (And.intro hT (And.intro hs hkm))
 have hkey : keyS key = key := by unfold keyS; rw [if_pos hc]
 have HKEY := hDx hkey
 have hci : ¬ (64 : Int) < key.size := by omega
 clear hT hs hkm hc hkey
 go_enter Tryz.func115, Tryz.ntmps115
 go_wp2_with fail
 obtain ⟨k, hk⟩ := nm key
 have hkk : keyS key = k := by rw [HKEY.out, hk]
 have HKK := hDx hkk
 rw [← hk]
 obtain ⟨wa, hwa⟩ : ∃ uu : World, uu = w := ⟨_, rfl⟩
 have HWA : Hid (Below w.heap.size w wa) := by rw [hwa]; exact hDx (Below.refl _ _)
 rw [← hwa]
 clear hk hkk hwa
 have h64 : k.size ≤ 64 := by rw [← HKK.out]; exact keyS_size key
 have ZR := zero64_row wa
 have ZB := HWA.out.alloc HWA.out.size (.cells #[.int .u8 0, .int .u8 0, .int .u8 0, .int .u8 0, .int .u8 0, .int .u8 0, .int .u8 0, .int .u8 0, .int .u8 0, .int .u8 0, .int .u8 0, .int .u8 0, .int .u8 0, .int .u8 0, .int .u8 0, .int .u8 0, .int .u8 0, .int .u8 0, .int .u8 0, .int .u8 0, .int .u8 0, .int .u8 0, .int .u8 0, .int .u8 0, .int .u8 0, .int .u8 0, .int .u8 0, .int .u8 0, .int .u8 0, .int .u8 0, .int .u8 0, .int .u8 0, .int .u8 0, .int .u8 0, .int .u8 0, .int .u8 0, .int .u8 0, .int .u8 0, .int .u8 0, .int .u8 0, .int .u8 0, .int .u8 0, .int .u8 0, .int .u8 0, .int .u8 0, .int .u8 0, .int .u8 0, .int .u8 0, .int .u8 0, .int .u8 0, .int .u8 0, .int .u8 0, .int .u8 0, .int .u8 0, .int .u8 0, .int .u8 0, .int .u8 0, .int .u8 0, .int .u8 0, .int .u8 0, .int .u8 0, .int .u8 0, .int .u8 0, .int .u8 0] 198)
 have hP := HWA.out.size
 obtain ⟨P, hPP⟩ := nm wa.heap.size
 rw [← hPP] at ZR hP
 rw [← hPP]
 obtain ⟨wb, hwb⟩ := nm (wa.alloc (.cells ZRu8x64 198))
 rw [← hwb] at ZR ZB
 rw [← hwb]
 have HZ := hDx (And.intro ZR (And.intro ZB (And.intro hP h64)))
 clear ZR ZB hP h64 hPP hwb
 have hcp := run_copyS k HZ.out.2.2.2 HZ.out.1
 obtain ⟨wc, hwc⟩ := nm (wb.setCells P 0 (strCells k))
 rw [← hwc] at hcp
 have HWC := hDx hwc
 clear hwc
 go_wp2_with fail
 rw [hcp]
 go_simp
 go_wp2_with fail
 clear hcp
 have CB := pad_block k HZ.out.1 HZ.out.2.2.2
 have BB := HZ.out.2.1.trans ((Only.setCells P (strCells k) 0 wb).below (B := w.heap.size) HZ.out.2.2.1 HZ.out.2.1.size)
 rw [← HWC.out] at CB BB
 obtain ⟨p, hp⟩ := nm (pad k)
 rw [← hp] at CB
 have hps : p.size = 64 := by rw [hp]; exact pad_size k HZ.out.2.2.2
 have HP := hDx (And.intro CB (And.intro BB (And.intro hps hp)))
 clear CB BB hps hp
 obtain ⟨I, hI⟩ := nm (xorS p 54)
 obtain ⟨O, hO⟩ := nm (xorS p 92)
 have hIs : I.size = 64 := by rw [hI, xorS_size]; exact HP.out.2.2.1
 have hOs : O.size = 64 := by rw [hO, xorS_size]; exact HP.out.2.2.1
 have add1 := addS I s (by rw [hIs]; have := HT.out.2.1; omega)
 have add2 := addS O (hashS 32 .empty (I ++ s)) (by rw [hOs, hashS_size]; decide)
 have m1 : (I ++ s).size ≤ maxLen := by rw [ByteArray.size_append, hIs]; have := HT.out.2.1; unfold maxLen; omega
 have m2 : (O ++ hashS 32 .empty (I ++ s)).size ≤ maxLen := by rw [ByteArray.size_append, hOs, hashS_size]; decide
 obtain ⟨IS, hIS⟩ : ∃ I, I = I := ⟨I ++ s, rfl⟩
 have HM := hDx (And.intro m1 m2)
 have HIO := hDx (And.intro hI hO)
 clear m1 m2 hI hO hIs hOs hIS
 refine wp_region_held_drew (S := fun u => Cells u P 198 (strCells p).toArray ∧ Below w.heap.size w u) (by kernel_rfl) ⟨HP.out.1.drew, HP.out.2.1.drew⟩ (fun hHeld => ?_)
 refine wpAnyH_take (i := 0) rfl (by kernel_rfl) (by kernel_rfl) (by kernel_rfl) (fun _ _ _ h => h) (yieldsIf_load_cells rfl _ rfl rfl rowTy66 ((strA_size p).trans HP.out.2.2.1) (fun u hu => hu.1)) (by assumption) ?_
 try simp only [Act.put, sAx, s0x, s1x]
 refine wpAnyH_take (i := 2) rfl (by kernel_rfl) (by kernel_rfl) (by kernel_rfl) (fun _ _ _ h => h) (yieldsIf_load_cells rfl _ rfl rfl rowTy66 ((strA_size p).trans HP.out.2.2.1) (fun u hu => hu.1)) (by assumption) ?_
 try simp only [Act.put, sAx, s0x, s1x]
 refine wpAnyH_take (i := 4) (v := ?_) rfl (by kernel_rfl) (by kernel_rfl) (by kernel_rfl) (fun _ _ _ h => h) (Or.inl ⟨by rfl, ?_⟩) (by assumption) ?_
 rotate_left 1
 ·(intro w hSw; clear hSw; go_simp; try (with_reducible rfl))
 try simp only [Act.put, sAx, s0x, s1x]
 refine wpAnyH_ready (rs := [1]) (by kernel_rfl) (by simp) ?_
 refine AllReadyH.cons rfl (fun K hK => ?_) AllReadyH.nil
 have HS := hDx hHeld
 clear hHeld
 go_simp
 refine (with_any p 92 _ HP.out.2.2.1 (by decide)).mono ?_
 rintro e w1 ⟨rfl, B1⟩
 rw [← HIO.out.2]
 simp only []
 refine hK.out _ _ ⟨HS.out.1.more B1, HS.out.2.trans (B1.mono HS.out.2.size)⟩ (fun hHeld => ?_)
 clear hK K
 try simp only [Act.put, sAx, s0x, s1x]
 clear B1 HS
 refine wpAnyH_ready (rs := [3]) (by kernel_rfl) (by simp) ?_
 refine AllReadyH.cons rfl (fun K hK => ?_) AllReadyH.nil
 have HS := hDx hHeld
 clear hHeld
 go_simp
 refine (with_any p 54 _ HP.out.2.2.1 (by decide)).mono ?_
 rintro e w1 ⟨rfl, B1⟩
 rw [← HIO.out.1]
 simp only []
 refine hK.out _ _ ⟨HS.out.1.more B1, HS.out.2.trans (B1.mono HS.out.2.size)⟩ (fun hHeld => ?_)
 clear hK K
 try simp only [Act.put, sAx, s0x, s1x]
 clear B1 HS
 refine wpAnyH_take (i := 5) (v := ?_) rfl (by kernel_rfl) (by kernel_rfl) (by kernel_rfl) (fun _ _ _ h => h) (Or.inl ⟨by rfl, ?_⟩) (by assumption) ?_
 rotate_left 1
 ·(intro w hSw; clear hSw; go_simp; try (with_reducible rfl))
 try simp only [Act.put, sAx, s0x, s1x]
 refine wpAnyH_ready (rs := [6]) (by kernel_rfl) (by simp) ?_
 refine AllReadyH.cons rfl (fun K hK => ?_) AllReadyH.nil
 have HS := hDx hHeld
 clear hHeld
 go_simp
 refine (of_any (I ++ s) _ (HT.out.1.more HS.out.2) HM.out.1).mono ?_
 rintro e w1 ⟨rfl, B1⟩
 simp only []
 refine hK.out _ _ ⟨HS.out.1.more B1, HS.out.2.trans (B1.mono HS.out.2.size)⟩ (fun hHeld => ?_)
 clear hK K
 try simp only [Act.put, sAx, s0x, s1x]
 clear B1 HS
 refine wpAnyH_take (i := 7) (v := ?_) rfl (by kernel_rfl) (by kernel_rfl) (by kernel_rfl) (fun _ _ _ h => h) (Or.inl ⟨by rfl, ?_⟩) (by assumption) ?_
 rotate_left 1
 ·(intro w hSw; clear hSw; go_simp; try (with_reducible rfl))
 try simp only [Act.put, sAx, s0x, s1x]
 refine wpAnyH_ready (rs := [8]) (by kernel_rfl) (by simp) ?_
 refine AllReadyH.cons rfl (fun K hK => ?_) AllReadyH.nil
 have HS := hDx hHeld
 clear hHeld
 go_simp
 refine (of_any (O ++ hashS 32 .empty (I ++ s)) _ (HT.out.1.more HS.out.2) HM.out.2).mono ?_
 rintro e w1 ⟨rfl, B1⟩
 simp only []
 refine hK.out _ _ ⟨HS.out.1.more B1, HS.out.2.trans (B1.mono HS.out.2.size)⟩ (fun hHeld => ?_)
 clear hK K
 try simp only [Act.put, sAx, s0x, s1x]
 clear B1 HS
 refine wpAnyH_ready (rs := [9]) (by kernel_rfl) (by simp) ?_
 refine AllReadyH.cons rfl (fun K hK => ?_) AllReadyH.nil
 have HS := hDx hHeld
 clear hHeld
 go_simp
 refine hK.out _ _ ⟨HS.out.1, HS.out.2⟩ (fun hHeld => ?_)
 clear hK K
 try simp only [Act.put, sAx, s0x, s1x]
 clear HS
 have HE := hDx hHeld
 clear hHeld
 refine wpAnyH_done (by kernel_rfl) ?_ _
 go_wp2_with fail
 go_ret
 refine ⟨?_, HE.out.2⟩
 unfold hmacS
 rw [HKK.out, ← HP.out.2.2.2, ← HIO.out.1, ← HIO.out.2]
 rfl
theorem hmac_long (key s : ByteArray) (w : World) (hT : Tab w) (hs : s.size ≤ 10000) (hkm : key.size ≤ 10000) (hc : ¬ key.size ≤ 64) :
  Calls Tryz.prog 115 #[.string key, .string s] w fun e w' => e = .returned (.string (hmacS key s)) ∧ Below w.heap.size w w' := by
 have HT := hDx (And.intro hT (And.intro hs hkm))
 have hkey : keyS key = hashS 32 .empty key := by unfold keyS; rw [if_neg hc]
 have HKEY := hDx hkey
 have hci : (64 : Int) < key.size := by omega
 clear hT hs hkm hc hkey
 go_enter Tryz.func115, Tryz.ntmps115
 go_wp2_with fail
 refine (of_any key _ HT.out.1 (by have := HT.out.2.2; unfold maxLen; omega)).mono ?_
 rintro e wa ⟨rfl, BA⟩
 obtain ⟨k, hk⟩ := nm (hashS 32 .empty key)
 have hkk : keyS key = k := by rw [HKEY.out, hk]
 have HKK := hDx hkk
 rw [← hk]
 have HWA := hDx BA
 clear hk hkk BA
 simp only []
 go_wp2_with fail
 have h64 : k.size ≤ 64 := by rw [← HKK.out]; exact keyS_size key
 have ZR := zero64_row wa
 have ZB := HWA.out.alloc HWA.out.size (.cells #[.int .u8 0, .int .u8 0, .int .u8 0, .int .u8 0, .int .u8 0, .int .u8 0, .int .u8 0, .int .u8 0, .int .u8 0, .int .u8 0, .int .u8 0, .int .u8 0, .int .u8 0, .int .u8 0, .int .u8 0, .int .u8 0, .int .u8 0, .int .u8 0, .int .u8 0, .int .u8 0, .int .u8 0, .int .u8 0, .int .u8 0, .int .u8 0, .int .u8 0, .int .u8 0, .int .u8 0, .int .u8 0, .int .u8 0, .int .u8 0, .int .u8 0, .int .u8 0, .int .u8 0, .int .u8 0, .int .u8 0, .int .u8 0, .int .u8 0, .int .u8 0, .int .u8 0, .int .u8 0, .int .u8 0, .int .u8 0, .int .u8 0, .int .u8 0, .int .u8 0, .int .u8 0, .int .u8 0, .int .u8 0, .int .u8 0, .int .u8 0, .int .u8 0, .int .u8 0, .int .u8 0, .int .u8 0, .int .u8 0, .int .u8 0, .int .u8 0, .int .u8 0, .int .u8 0, .int .u8 0, .int .u8 0, .int .u8 0, .int .u8 0, .int .u8 0] 198)
 have hP := HWA.out.size
 obtain ⟨P, hPP⟩ := nm wa.heap.size
 rw [← hPP] at ZR hP
 rw [← hPP]
 obtain ⟨wb, hwb⟩ := nm (wa.alloc (.cells ZRu8x64 198))
 rw [← hwb] at ZR ZB
 rw [← hwb]
 have HZ := hDx (And.intro ZR (And.intro ZB (And.intro hP h64)))
 clear ZR ZB hP h64 hPP hwb
 have hcp := run_copyS k HZ.out.2.2.2 HZ.out.1
 obtain ⟨wc, hwc⟩ := nm (wb.setCells P 0 (strCells k))
 rw [← hwc] at hcp
 have HWC := hDx hwc
 clear hwc
 go_wp2_with fail
 rw [hcp]
 go_simp
 go_wp2_with fail
 clear hcp
 have CB := pad_block k HZ.out.1 HZ.out.2.2.2
 have BB := HZ.out.2.1.trans ((Only.setCells P (strCells k) 0 wb).below (B := w.heap.size) HZ.out.2.2.1 HZ.out.2.1.size)
 rw [← HWC.out] at CB BB
 obtain ⟨p, hp⟩ := nm (pad k)
 rw [← hp] at CB
 have hps : p.size = 64 := by rw [hp]; exact pad_size k HZ.out.2.2.2
 have HP := hDx (And.intro CB (And.intro BB (And.intro hps hp)))
 clear CB BB hps hp
 obtain ⟨I, hI⟩ := nm (xorS p 54)
 obtain ⟨O, hO⟩ := nm (xorS p 92)
 have hIs : I.size = 64 := by rw [hI, xorS_size]; exact HP.out.2.2.1
 have hOs : O.size = 64 := by rw [hO, xorS_size]; exact HP.out.2.2.1
 have add1 := addS I s (by rw [hIs]; have := HT.out.2.1; omega)
 have add2 := addS O (hashS 32 .empty (I ++ s)) (by rw [hOs, hashS_size]; decide)
 have m1 : (I ++ s).size ≤ maxLen := by rw [ByteArray.size_append, hIs]; have := HT.out.2.1; unfold maxLen; omega
 have m2 : (O ++ hashS 32 .empty (I ++ s)).size ≤ maxLen := by rw [ByteArray.size_append, hOs, hashS_size]; decide
 obtain ⟨IS, hIS⟩ : ∃ I, I = I := ⟨I ++ s, rfl⟩
 have HM := hDx (And.intro m1 m2)
 have HIO := hDx (And.intro hI hO)
 clear m1 m2 hI hO hIs hOs hIS
 refine wp_region_held_drew (S := fun u => Cells u P 198 (strCells p).toArray ∧ Below w.heap.size w u) (by kernel_rfl) ⟨HP.out.1.drew, HP.out.2.1.drew⟩ (fun hHeld => ?_)
 refine wpAnyH_take (i := 0) rfl (by kernel_rfl) (by kernel_rfl) (by kernel_rfl) (fun _ _ _ h => h) (yieldsIf_load_cells rfl _ rfl rfl rowTy66 ((strA_size p).trans HP.out.2.2.1) (fun u hu => hu.1)) (by assumption) ?_
 try simp only [Act.put, sAx, s0x, s1x]
 refine wpAnyH_take (i := 2) rfl (by kernel_rfl) (by kernel_rfl) (by kernel_rfl) (fun _ _ _ h => h) (yieldsIf_load_cells rfl _ rfl rfl rowTy66 ((strA_size p).trans HP.out.2.2.1) (fun u hu => hu.1)) (by assumption) ?_
 try simp only [Act.put, sAx, s0x, s1x]
 refine wpAnyH_take (i := 4) (v := ?_) rfl (by kernel_rfl) (by kernel_rfl) (by kernel_rfl) (fun _ _ _ h => h) (Or.inl ⟨by rfl, ?_⟩) (by assumption) ?_
 rotate_left 1
 ·(intro w hSw; clear hSw; go_simp; try (with_reducible rfl))
 try simp only [Act.put, sAx, s0x, s1x]
 refine wpAnyH_ready (rs := [1]) (by kernel_rfl) (by simp) ?_
 refine AllReadyH.cons rfl (fun K hK => ?_) AllReadyH.nil
 have HS := hDx hHeld
 clear hHeld
 go_simp
 refine (with_any p 92 _ HP.out.2.2.1 (by decide)).mono ?_
 rintro e w1 ⟨rfl, B1⟩
 rw [← HIO.out.2]
 simp only []
 refine hK.out _ _ ⟨HS.out.1.more B1, HS.out.2.trans (B1.mono HS.out.2.size)⟩ (fun hHeld => ?_)
 clear hK K
 try simp only [Act.put, sAx, s0x, s1x]
 clear B1 HS
 refine wpAnyH_ready (rs := [3]) (by kernel_rfl) (by simp) ?_
 refine AllReadyH.cons rfl (fun K hK => ?_) AllReadyH.nil
 have HS := hDx hHeld
 clear hHeld
 go_simp
 refine (with_any p 54 _ HP.out.2.2.1 (by decide)).mono ?_
 rintro e w1 ⟨rfl, B1⟩
 rw [← HIO.out.1]
 simp only []
 refine hK.out _ _ ⟨HS.out.1.more B1, HS.out.2.trans (B1.mono HS.out.2.size)⟩ (fun hHeld => ?_)
 clear hK K
 try simp only [Act.put, sAx, s0x, s1x]
 clear B1 HS
 refine wpAnyH_take (i := 5) (v := ?_) rfl (by kernel_rfl) (by kernel_rfl) (by kernel_rfl) (fun _ _ _ h => h) (Or.inl ⟨by rfl, ?_⟩) (by assumption) ?_
 rotate_left 1
 ·(intro w hSw; clear hSw; go_simp; try (with_reducible rfl))
 try simp only [Act.put, sAx, s0x, s1x]
 refine wpAnyH_ready (rs := [6]) (by kernel_rfl) (by simp) ?_
 refine AllReadyH.cons rfl (fun K hK => ?_) AllReadyH.nil
 have HS := hDx hHeld
 clear hHeld
 go_simp
 refine (of_any (I ++ s) _ (HT.out.1.more HS.out.2) HM.out.1).mono ?_
 rintro e w1 ⟨rfl, B1⟩
 simp only []
 refine hK.out _ _ ⟨HS.out.1.more B1, HS.out.2.trans (B1.mono HS.out.2.size)⟩ (fun hHeld => ?_)
 clear hK K
 try simp only [Act.put, sAx, s0x, s1x]
 clear B1 HS
 refine wpAnyH_take (i := 7) (v := ?_) rfl (by kernel_rfl) (by kernel_rfl) (by kernel_rfl) (fun _ _ _ h => h) (Or.inl ⟨by rfl, ?_⟩) (by assumption) ?_
 rotate_left 1
 ·(intro w hSw; clear hSw; go_simp; try (with_reducible rfl))
 try simp only [Act.put, sAx, s0x, s1x]
 refine wpAnyH_ready (rs := [8]) (by kernel_rfl) (by simp) ?_
 refine AllReadyH.cons rfl (fun K hK => ?_) AllReadyH.nil
 have HS := hDx hHeld
 clear hHeld
 go_simp
 refine (of_any (O ++ hashS 32 .empty (I ++ s)) _ (HT.out.1.more HS.out.2) HM.out.2).mono ?_
 rintro e w1 ⟨rfl, B1⟩
 simp only []
 refine hK.out _ _ ⟨HS.out.1.more B1, HS.out.2.trans (B1.mono HS.out.2.size)⟩ (fun hHeld => ?_)
 clear hK K
 try simp only [Act.put, sAx, s0x, s1x]
 clear B1 HS
 refine wpAnyH_ready (rs := [9]) (by kernel_rfl) (by simp) ?_
 refine AllReadyH.cons rfl (fun K hK => ?_) AllReadyH.nil
 have HS := hDx hHeld
 clear hHeld
 go_simp
 refine hK.out _ _ ⟨HS.out.1, HS.out.2⟩ (fun hHeld => ?_)
 clear hK K
 try simp only [Act.put, sAx, s0x, s1x]
 clear HS
 have HE := hDx hHeld
 clear hHeld
 refine wpAnyH_done (by kernel_rfl) ?_ _
 go_wp2_with fail
 go_ret
 refine ⟨?_, HE.out.2⟩
 unfold hmacS
 rw [HKK.out, ← HP.out.2.2.2, ← HIO.out.1, ← HIO.out.2]
 rfl
theorem hmac_any (key s : ByteArray) (w : World) (hT : Tab w) (hs : s.size ≤ 10000) (hkm : key.size ≤ 10000) :
  Calls Tryz.prog 115 #[.string key, .string s] w fun e w' => e = .returned (.string (hmacS key s)) ∧ Below w.heap.size w w' := by
 by_cases hc : key.size ≤ 64
 ·exact hmac_short key s w hT hs hkm hc
 exact hmac_long key s w hT hs hkm hc
theorem extract_any (key s : ByteArray) (w : World) (hT : Tab w) (hs : s.size ≤ 10000) (hkm : key.size ≤ 10000) :
  Calls Tryz.prog 89 #[.string key, .string s] w fun e w' => e = .returned (.string (hmacS key s)) ∧ Below w.heap.size w w' := by
 go_enter Tryz.func89, Tryz.ntmps89
 go_wp2_with fail
 refine (hmac_any key s _ hT hs hkm).mono ?_
 rintro e w1 ⟨rfl, B1⟩
 simp only []
 go_wp2_with fail
 go_ret
 exact ⟨rfl, B1⟩
end Go.Proofs.YtoplbfijodebmaaGreatDoor
