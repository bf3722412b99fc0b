/-
  The walk.
-/
import Derived.Test.YtoplbfijodebmaaGreatDoorS41ND
import Derived.Test.YtoplbfijodebmaaGreatDoorM10Calm
set_option linter.unusedVariables false
set_option linter.unusedSimpArgs false
set_option maxRecDepth 100000
set_option maxHeartbeats 40000000
namespace Go.Proofs.YtoplbfijodebmaaGreatDoor
section
open Go.RowKit T
def endL (ta wa ba na tb wb bb nb : Nat) (K1 K2 : ByteArray) : List (Nat × Obj) :=
 [(tb, tunO wb nb K2 K1 false false 0), (wb, winO bb 0 false), (bb, bitO 0), (nb, nowO), (ta, tunO wa na K1 K2 true true 0), (wa, winO ba 0 false), (ba, bitO 0), (na, nowO)]
def shC (A B E F : ByteArray) : Array Value := #[.string A, .string B, .string E, .string F]
theorem shaken_any (A B E F : ByteArray) (w : World) (hT : Tab w) (hA : A.size = 32) (hB : B.size = 32) (hE : E.size = 32) (hF : F.size = 32) :
  Calls Tryz.prog 6 #[.agg (shC A B E F), .agg limA] w fun e w' => ∃ ta wa ba na tb wb bb nb,
   e = .returned (.tuple #[.pointer (some ⟨ta, 0, none⟩), .pointer (some ⟨tb, 0, none⟩)]) ∧ KS (endL ta wa ba na tb wb bb nb (key1 A B E F) (key2 A B E F)) [] w w' := by
 have HP := hDx (And.intro hT (And.intro hA (And.intro hB (And.intro hE hF))))
 clear hT hA hB hE hF
 have zst := fun (u : World) => heap_alloc_last u (.cells #[.string ⟨#[]⟩, .string ⟨#[]⟩, .string ⟨#[]⟩, .string ⟨#[]⟩, .string ⟨#[]⟩] 61)
 unfold shC limA
 go_enter Tryz.func6, Tryz.ntmps6
 go_upto_region 1 with (fail)
 have HK0 := hDx (KS.start w)
 have hm1 := ((HK0.out.made (.cells #[.string A, .string B, .string E, .string F] 23)).made (.cells #[.int .u64 40, .int .u64 50, .int .u64 10, .int .u64 20, .int .i64 64] 31))
 try rw [show ((World.alloc w (.cells #[.string A, .string B, .string E, .string F] 23))).heap.size = w.heap.size + 1 by simp] at hm1
 obtain ⟨lb, hglb⟩ := nm (w.heap.size + 1)
 obtain ⟨xb, hgxb⟩ := nm w.heap.size
 obtain ⟨ww1, hv1⟩ := nm (World.alloc (World.alloc w (.cells #[.string A, .string B, .string E, .string F] 23)) (.cells #[.int .u64 40, .int .u64 50, .int .u64 10, .int .u64 20, .int .i64 64] 31))
 rw [← hv1, ← hglb, ← hgxb] at hm1
 rw [← hv1]
 try rw [← hglb]
 try rw [← hgxb]
 have HK1 : Hid (KS [(lb, .cells limA 31), (xb, .cells (shC A B E F) 23)] [] w ww1) := hDx hm1
 clear hm1 hv1 hgxb hglb
 have c0 : ww1.cell? ⟨xb, 0, none⟩ = some (.string A) := (HK1.out.cells 1 rfl).cell 0 _ rfl
 have c1 : ww1.cell? ⟨xb, 1, none⟩ = some (.string B) := (HK1.out.cells 1 rfl).cell 1 _ rfl
 have c2 : ww1.cell? ⟨xb, 2, none⟩ = some (.string E) := (HK1.out.cells 1 rfl).cell 2 _ rfl
 have c3 : ww1.cell? ⟨xb, 3, none⟩ = some (.string F) := (HK1.out.cells 1 rfl).cell 3 _ rfl
 go_upto_region 4 with (go_at_call 15; refine (rpublic_any B HP.out.2.2.1 _).mono ?_; rintro e w1 ⟨rfl, B1⟩; have J1 := hDx (HK1.out.call B1); clear B1)
 clear c0 c1 c2 c3
 have c0 : w1.cell? ⟨xb, 0, none⟩ = some (.string A) := (J1.out.cells 1 rfl).cell 0 _ rfl
 have c1 : w1.cell? ⟨xb, 1, none⟩ = some (.string B) := (J1.out.cells 1 rfl).cell 1 _ rfl
 have c2 : w1.cell? ⟨xb, 2, none⟩ = some (.string E) := (J1.out.cells 1 rfl).cell 2 _ rfl
 have c3 : w1.cell? ⟨xb, 3, none⟩ = some (.string F) := (J1.out.cells 1 rfl).cell 3 _ rfl
 go_upto_region 7 with (go_at_call 16; refine (sh_begin A B E HP.out.2.1 HP.out.2.2.1 HP.out.2.2.2.1 _ (HP.out.1.more J1.out.below)).mono ?_; rintro e w2 ⟨hb, rfl, K⟩; have J2 : Hid (KS [(hb, stO (sH A B E) (sCK A B E) (sK A B E) 0 [.string A, .string E, .string (pubS B)] 86), (lb, .cells limA 31), (xb, .cells (shC A B E F) 23)] [] w w2) := hDx (J1.out.join K); clear K)
 clear c0 c1 c2 c3
 have c0 : w2.cell? ⟨xb, 0, none⟩ = some (.string A) := (J2.out.cells 2 rfl).cell 0 _ rfl
 have c1 : w2.cell? ⟨xb, 1, none⟩ = some (.string B) := (J2.out.cells 2 rfl).cell 1 _ rfl
 have c2 : w2.cell? ⟨xb, 2, none⟩ = some (.string E) := (J2.out.cells 2 rfl).cell 2 _ rfl
 have c3 : w2.cell? ⟨xb, 3, none⟩ = some (.string F) := (J2.out.cells 2 rfl).cell 3 _ rfl
 go_upto_region 10 with (go_at_call 17; refine (sh_read A B E HP.out.2.1 HP.out.2.2.1 HP.out.2.2.2.1 _ (HP.out.1.more J2.out.below)).mono ?_; rintro e w3 ⟨ob, rfl, K⟩; have J3 : Hid (KS [(ob, stO (sH A B E) (sCK A B E) (sK A B E) 0 [.string (pubS A), .string (pubS E)] 92), (hb, stO (sH A B E) (sCK A B E) (sK A B E) 0 [.string A, .string E, .string (pubS B)] 86), (lb, .cells limA 31), (xb, .cells (shC A B E F) 23)] [] w w3) := hDx (J2.out.join K); clear K; unfold gotV)
 have hm := J3.out.made (.cells (#[.string (pubS A), .string .empty, .string .empty, .string .empty, .string .empty]) 61)
 obtain ⟨g1, hG⟩ := nm w3.heap.size
 obtain ⟨w4, hvl⟩ := nm (World.alloc w3 (.cells (#[.string (pubS A), .string .empty, .string .empty, .string .empty, .string .empty]) 61))
 rw [← hvl, ← hG] at hm
 rw [← hvl]
 try rw [← hG]
 have Jw4 : Hid (KS [(g1, .cells (gotV (pubS A) .empty .empty .empty .empty) 61), (ob, stO (sH A B E) (sCK A B E) (sK A B E) 0 [.string (pubS A), .string (pubS E)] 92), (hb, stO (sH A B E) (sCK A B E) (sK A B E) 0 [.string A, .string E, .string (pubS B)] 86), (lb, .cells limA 31), (xb, .cells (shC A B E F) 23)] [] w w4) := hDx hm
 clear hm hvl hG
 clear c0 c1 c2 c3
 have c0 : w4.cell? ⟨xb, 0, none⟩ = some (.string A) := (Jw4.out.cells 4 rfl).cell 0 _ rfl
 have c1 : w4.cell? ⟨xb, 1, none⟩ = some (.string B) := (Jw4.out.cells 4 rfl).cell 1 _ rfl
 have c2 : w4.cell? ⟨xb, 2, none⟩ = some (.string E) := (Jw4.out.cells 4 rfl).cell 2 _ rfl
 have c3 : w4.cell? ⟨xb, 3, none⟩ = some (.string F) := (Jw4.out.cells 4 rfl).cell 3 _ rfl
 go_upto_region 13 with (go_at_call 18; refine (sh_answer A B E F HP.out.2.1 HP.out.2.2.1 HP.out.2.2.2.1 HP.out.2.2.2.2 _ ob (HP.out.1.more Jw4.out.below) (neX HP.out.1 (Nat.le_refl _) ((Jw4.out.mem 1 rfl).resolve_left (by simp))) (Jw4.out.get 1 rfl)).mono ?_; rintro e w5 ⟨rfl, B1⟩; have J5 := hDx (Jw4.out.call B1); clear B1; unfold gotV)
 have hm := J5.out.made (.cells (#[.string (pubS A), .string .empty, .string (key2 A B E F), .string (key1 A B E F), .string (sH7 A B E F)]) 61)
 obtain ⟨g2, hG⟩ := nm w5.heap.size
 obtain ⟨w6, hvl⟩ := nm (World.alloc w5 (.cells (#[.string (pubS A), .string .empty, .string (key2 A B E F), .string (key1 A B E F), .string (sH7 A B E F)]) 61))
 rw [← hvl, ← hG] at hm
 rw [← hvl]
 try rw [← hG]
 have Jw6 : Hid (KS [(g2, .cells (gotV (pubS A) .empty (key2 A B E F) (key1 A B E F) (sH7 A B E F)) 61), (g1, .cells (gotV (pubS A) .empty .empty .empty .empty) 61), (ob, stO (sH A B E) (sCK A B E) (sK A B E) 0 [.string (pubS A), .string (pubS E)] 92), (hb, stO (sH A B E) (sCK A B E) (sK A B E) 0 [.string A, .string E, .string (pubS B)] 86), (lb, .cells limA 31), (xb, .cells (shC A B E F) 23)] [] w w6) := hDx hm
 clear hm hvl hG
 clear c0 c1 c2 c3
 go_upto_region 16 with (go_at_call 19; refine (sh_finish A B E F HP.out.2.1 HP.out.2.2.1 HP.out.2.2.2.1 HP.out.2.2.2.2 _ hb (HP.out.1.more Jw6.out.below) (neX HP.out.1 (Nat.le_refl _) ((Jw6.out.mem 3 rfl).resolve_left (by simp))) (Jw6.out.get 3 rfl)).mono ?_; rintro e w7 ⟨rfl, B1⟩; have J7 := hDx (Jw6.out.call B1); clear B1; unfold gotV)
 have hm := J7.out.made (.cells (#[.string (pubS B), .string .empty, .string (key1 A B E F), .string (key2 A B E F), .string (sH7 A B E F)]) 61)
 obtain ⟨g3, hG⟩ := nm w7.heap.size
 obtain ⟨w8, hvl⟩ := nm (World.alloc w7 (.cells (#[.string (pubS B), .string .empty, .string (key1 A B E F), .string (key2 A B E F), .string (sH7 A B E F)]) 61))
 rw [← hvl, ← hG] at hm
 rw [← hvl]
 try rw [← hG]
 have Jw8 : Hid (KS [(g3, .cells (gotV (pubS B) .empty (key1 A B E F) (key2 A B E F) (sH7 A B E F)) 61), (g2, .cells (gotV (pubS A) .empty (key2 A B E F) (key1 A B E F) (sH7 A B E F)) 61), (g1, .cells (gotV (pubS A) .empty .empty .empty .empty) 61), (ob, stO (sH A B E) (sCK A B E) (sK A B E) 0 [.string (pubS A), .string (pubS E)] 92), (hb, stO (sH A B E) (sCK A B E) (sK A B E) 0 [.string A, .string E, .string (pubS B)] 86), (lb, .cells limA 31), (xb, .cells (shC A B E F) 23)] [] w w8) := hDx hm
 clear hm hvl hG
 clear zst
 have ld1 := (Jw8.out.get 0 rfl)
 have ld2 := (Jw8.out.get 5 rfl)
 go_upto_region 17 with (first | (refine wpList_loadM (t := 61) (n := 5) (b := g3) (o := 0) (cs := gotA (pubS B) .empty (key1 A B E F) (key2 A B E F) (sH7 A B E F)) rfl _ rfl rfl ld1 ag61 rfl rfl ?_) | (refine wpList_loadM (t := 31) (n := 5) (b := lb) (o := 0) (cs := limA) rfl _ rfl rfl ld2 ag31 rfl rfl ?_) | (go_at_call 20; refine (tun_new _ _ _ _ _ true _ (key1_size _ _ _ _) (key2_size _ _ _ _)).mono ?_; rintro e w9 ⟨ta, wa, ba, na, rfl, K⟩; have J9 : Hid (KS [(ta, tunO wa na (key1 A B E F) (key2 A B E F) true true 0), (wa, winO ba 0 false), (ba, bitO 0), (na, nowO), (g3, .cells (gotV (pubS B) .empty (key1 A B E F) (key2 A B E F) (sH7 A B E F)) 61), (g2, .cells (gotV (pubS A) .empty (key2 A B E F) (key1 A B E F) (sH7 A B E F)) 61), (g1, .cells (gotV (pubS A) .empty .empty .empty .empty) 61), (ob, stO (sH A B E) (sCK A B E) (sK A B E) 0 [.string (pubS A), .string (pubS E)] 92), (hb, stO (sH A B E) (sCK A B E) (sK A B E) 0 [.string A, .string E, .string (pubS B)] 86), (lb, .cells limA 31), (xb, .cells (shC A B E F) 23)] [] w w9) := hDx (Jw8.out.join K); clear K))
 clear ld1 ld2
 have ld1 := (J9.out.get 5 rfl)
 have ld2 := (J9.out.get 9 rfl)
 go_upto_region 18 with (first | (refine wpList_loadM (t := 61) (n := 5) (b := g2) (o := 0) (cs := gotA (pubS A) .empty (key2 A B E F) (key1 A B E F) (sH7 A B E F)) rfl _ rfl rfl ld1 ag61 rfl rfl ?_) | (refine wpList_loadM (t := 31) (n := 5) (b := lb) (o := 0) (cs := limA) rfl _ rfl rfl ld2 ag31 rfl rfl ?_) | (go_at_call 20; refine (tun_new _ _ _ _ _ false _ (key2_size _ _ _ _) (key1_size _ _ _ _)).mono ?_; rintro e w10 ⟨tb, wb, bb, nb, rfl, K⟩; have J10 : Hid (KS [(tb, tunO wb nb (key2 A B E F) (key1 A B E F) false false 0), (wb, winO bb 0 false), (bb, bitO 0), (nb, nowO), (ta, tunO wa na (key1 A B E F) (key2 A B E F) true true 0), (wa, winO ba 0 false), (ba, bitO 0), (na, nowO), (g3, .cells (gotV (pubS B) .empty (key1 A B E F) (key2 A B E F) (sH7 A B E F)) 61), (g2, .cells (gotV (pubS A) .empty (key2 A B E F) (key1 A B E F) (sH7 A B E F)) 61), (g1, .cells (gotV (pubS A) .empty .empty .empty .empty) 61), (ob, stO (sH A B E) (sCK A B E) (sK A B E) 0 [.string (pubS A), .string (pubS E)] 92), (hb, stO (sH A B E) (sCK A B E) (sK A B E) 0 [.string A, .string E, .string (pubS B)] 86), (lb, .cells limA 31), (xb, .cells (shC A B E F) 23)] [] w w10) := hDx (J9.out.join K); clear K))
 clear ld1 ld2
 go_wp2_with fail
 go_ret2
 exact ⟨ta, wa, ba, na, tb, wb, bb, nb, rfl, J10.out.sub (.cons_cons _ (.cons_cons _ (.cons_cons _ (.cons_cons _ (.cons_cons _ (.cons_cons _ (.cons_cons _ (.cons_cons _ (List.nil_sublist _)))))))))⟩
end
section
open Go.RowKit T
theorem KS.overH {M L' R : List (Nat × Obj)} {X X' : List Nat} {w u u' : World} (h : KS (M ++ R) X w u) (k : KS L' X' u u') (hk : L'.map (·.1) = M.map (·.1)) (hX : X' = M.map (·.1)) : KS (L' ++ R) X w u' := by
 refine h.over k (fun x hx => ?_) (by rw [List.map_append, List.map_append, hk]) (fun g hg => ?_)
 ·rcases List.mem_append.1 hx with hx | hx
  ·exact Or.inl hx
  refine Or.inr ⟨List.mem_append.2 (Or.inr hx), fun hm => ?_⟩
  rw [hX] at hm
  obtain ⟨a, ha, e⟩ := List.mem_map.1 hm
  exact (List.pairwise_append.1 h.ne).2.2 a ha x hx e
 rw [hX] at hg
 obtain ⟨a, ha, rfl⟩ := List.mem_map.1 hg
 exact ⟨a.2, List.mem_append.2 (Or.inl ha)⟩
def xS : ByteArray := ⟨#[120]⟩
theorem xS_size : xS.size ≤ 65536 := by decide
theorem seal_i (key nonce a s : ByteArray) (h : s.size ≤ 65536) : 16 ≤ (sealS key nonce a s).size ∧ (sealS key nonce a s).size ≤ 65552 := by rw [sealS_size]; omega
theorem win0 : WinOk 0 0 false := WinOk.new
theorem bit0 (n : Nat) : (0 : Nat).testBit n = false := Nat.zero_testBit n
theorem speaks_any (w : World) (hT : Tab w) : Calls Tryz.prog 5 #[] w fun e w' => e = .returned (.bool true) ∧ Below w.heap.size w w' := by
 have HP := hDx hT
 clear hT
 obtain ⟨s97, y97⟩ := nm (secS 97)
 have q97 : s97.size = 32 := by rw [y97]; exact secS_size _
 have C97 : ∀ u, Calls Tryz.prog 14 #[.int .u8 97] u fun e w' => e = .returned (.string s97) ∧ Below u.heap.size u w' := fun u => by rw [y97]; exact secret_any 97 u (by decide)
 clear y97
 obtain ⟨s98, y98⟩ := nm (secS 98)
 have q98 : s98.size = 32 := by rw [y98]; exact secS_size _
 have C98 : ∀ u, Calls Tryz.prog 14 #[.int .u8 98] u fun e w' => e = .returned (.string s98) ∧ Below u.heap.size u w' := fun u => by rw [y98]; exact secret_any 98 u (by decide)
 clear y98
 obtain ⟨s101, y101⟩ := nm (secS 101)
 have q101 : s101.size = 32 := by rw [y101]; exact secS_size _
 have C101 : ∀ u, Calls Tryz.prog 14 #[.int .u8 101] u fun e w' => e = .returned (.string s101) ∧ Below u.heap.size u w' := fun u => by rw [y101]; exact secret_any 101 u (by decide)
 clear y101
 obtain ⟨s102, y102⟩ := nm (secS 102)
 have q102 : s102.size = 32 := by rw [y102]; exact secS_size _
 have C102 : ∀ u, Calls Tryz.prog 14 #[.int .u8 102] u fun e w' => e = .returned (.string s102) ∧ Below u.heap.size u w' := fun u => by rw [y102]; exact secret_any 102 u (by decide)
 clear y102
 have HC := hDx (And.intro C97 (And.intro C98 (And.intro C101 C102)))
 have HQ := hDx (And.intro q97 (And.intro q98 (And.intro q101 q102)))
 clear C97 C98 C101 C102 q97 q98 q101 q102
 go_enter Tryz.func5, Tryz.ntmps5
 have J0 := hDx (KS.start w)
 go_upto_region 2 with (first | (go_at_call 14; with_reducible refine (HC.out.1 _).mono ?_; rintro e w1 ⟨rfl, B1⟩; have J1 := hDx (J0.out.call B1); clear B1) | (go_at_call 14; with_reducible refine (HC.out.2.1 _).mono ?_; rintro e w2 ⟨rfl, B1⟩; have J2 := hDx (J1.out.call B1); clear B1) | (go_at_call 14; with_reducible refine (HC.out.2.2.1 _).mono ?_; rintro e w3 ⟨rfl, B1⟩; have J3 := hDx (J2.out.call B1); clear B1) | (go_at_call 14; with_reducible refine (HC.out.2.2.2 _).mono ?_; rintro e w4 ⟨rfl, B1⟩; have J4 := hDx (J3.out.call B1); clear B1) | (go_at_call 7; refine (limits_any _).mono ?_; rintro e w5 ⟨rfl, B1⟩; have J5 := hDx (J4.out.call B1); clear B1) | (go_at_call 6; refine (shaken_any s97 s98 s101 s102 _ (HP.out.more J5.out.below) HQ.out.1 HQ.out.2.1 HQ.out.2.2.1 HQ.out.2.2.2).mono ?_; rintro e w6 ⟨ta, wa, ba, na, tb, wb, bb, nb, rfl, K⟩; have J6 := hDx (J5.out.join K); clear K))
 obtain ⟨K1, hK1⟩ := nm (key1 s97 s98 s101 s102)
 obtain ⟨K2, hK2⟩ := nm (key2 s97 s98 s101 s102)
 have z1 : K1.size = 32 := by rw [hK1]; exact key1_size _ _ _ _
 have z2 : K2.size = 32 := by rw [hK2]; exact key2_size _ _ _ _
 rw [← hK1, ← hK2] at J6
 have HZ := hDx (And.intro z1 z2)
 clear hK1 hK2 z1 z2
 have J7 : Hid (KS [(tb, tunO wb nb K2 K1 false false 0), (wb, winO bb 0 false), (bb, bitO 0), (nb, nowO), (ta, tunO wa na K1 K2 true true 0), (wa, winO ba 0 false), (ba, bitO 0), (na, nowO)] [] w w6) := hDx (by simpa [endL] using J6.out)
 clear J6
 go_upto_region 5 with (go_at_call 9; refine (tun_seal ta wa na 0 K1 K2 xS true _ (J7.out.get 4 rfl) (J7.out.get 7 rfl) HZ.out.1 (by decide) xS_size).mono ?_; rintro e w7 ⟨rfl, K⟩; have J8 : Hid (KS [(tb, tunO wb nb K2 K1 false false 0), (wb, winO bb 0 false), (bb, bitO 0), (nb, nowO), (ta, tunO wa na K1 K2 true true 1), (wa, winO ba 0 false), (ba, bitO 0), (na, nowO)] [] w w7) := hDx (J7.out.callT 4 rfl K.only (K.get 0 rfl)); clear K)
 go_upto_region 6 with (go_at_call 12; refine (tun_open tb wb nb bb 0 0 0 0 K2 K1 (sealS K1 (nonS 0) .empty xS) false false false _ (J8.out.get 0 rfl) (J8.out.get 3 rfl) (J8.out.get 1 rfl) (J8.out.get 2 rfl) win0 HZ.out.2 HZ.out.1 (by decide) (seal_i _ _ _ _ xS_size).1 (seal_i _ _ _ _ xS_size).2 (bit0 0) (opens_seal _ _ _ _)).mono ?_; rintro e w8 ⟨rfl, K⟩; rw [open_seal]; have J9 := hDx K; clear K)
 have HB := hDx (KS.overH (M := [(tb, tunO wb nb K2 K1 false false 0), (wb, winO bb 0 false), (bb, bitO 0)]) J8.out J9.out rfl rfl).below
 have hx : (xS.toList == [120]) = true := by rw [ByteArray.toList_eq]; rfl
 go_wp2_with fail
 go_ret
 exact ⟨rfl, HB.out⟩
end
end Go.Proofs.YtoplbfijodebmaaGreatDoor
