/-
  PortTurned: the walk.
-/
import Derived.Test.YtgonakpoflacoaaTold
import Derived.Test.YtgonakpoflacoaaPlain3
set_option linter.unusedVariables false
set_option linter.unusedSimpArgs false
namespace Go.Proofs.Ytgonakpoflacoaa
open Go.RowKit

theorem i64N (n : Nat) (h : n ≤ 65535) : IntKind.i64.wrap (n : Int) = n := IntWalk.i64_in _ (by omega)
set_option maxHeartbeats 32000000 in
set_option maxRecDepth 100000 in
theorem turned_main (v1 : Bool) (h1 l1 : Nat) (v2 : Bool) (h2 l2 f tp : Nat) (d : ByteArray) (at_ by_ : Nat) (w : World) (ha : (⟨v1, h1, l1⟩ : Ad).Ok) (hb : (⟨v2, h2, l2⟩ : Ad).Ok) (hf : f < 65536) (ht : tp < 65536) (hat : at_ < 65536) (hby : by_ < 256)
    (hs : d.size ≤ 4096) (hb0 : by_ ≠ 0) (hm : mayE ⟨⟨v1, h1, l1⟩, ⟨v2, h2, l2⟩, 6, 64, tcpD f tp 16 d⟩ = 0) :
    Calls Try.prog 4 #[.agg #[.bool v1, .int .u64 h1, .int .u64 l1, .int .u16 f], .agg #[.bool v2, .int .u64 h2, .int .u64 l2, .int .u16 tp], .string d, .int .u16 at_, .int .u8 by_] w fun e w' => e = .returned (.bool true) ∧ Below w.heap.size w w' := by
  have HK0 := Lib.hid (KL.nil w)
  have hz : ¬ (4096 : Int) < (d.size : Int) := by omega
  have cby : ((by_ : Int) == 0) = false := byNe (b := 0) hb0
  have hmU : mayE ⟨⟨v1, h1, l1⟩, ⟨v2, h2, l2⟩, 17, 64, udpD f tp d⟩ = 0 := may_less ⟨v1, h1, l1⟩ ⟨v2, h2, l2⟩ f tp 16 d hm
  have C10 := Lib.hid (show ∀ u, Calls Try.prog 10 #[.agg #[.bool v1, .int .u64 h1, .int .u64 l1, .int .u16 f], .agg #[.bool v2, .int .u64 h2, .int .u64 l2, .int .u16 tp], .int .u8 16, .string d] u fun e w' => e = .returned (.tuple #[(madeP ⟨⟨v1, h1, l1⟩, ⟨v2, h2, l2⟩, 6, 64, tcpD f tp 16 d⟩ 16).val, .int .i64 0]) ∧ Below u.heap.size u w' from fun u => by
    have h := tcpMake_any ⟨v1, h1, l1⟩ ⟨v2, h2, l2⟩ f tp 16 d u ha hb hf ht (by decide) (by omega)
    rw [hm] at h
    exact h)
  have C8 := Lib.hid (show ∀ u, Calls Try.prog 8 #[.agg #[.bool v1, .int .u64 h1, .int .u64 l1, .int .u16 f], .agg #[.bool v2, .int .u64 h2, .int .u64 l2, .int .u16 tp], .string d] u fun e w' => e = .returned (.tuple #[(madeP ⟨⟨v1, h1, l1⟩, ⟨v2, h2, l2⟩, 17, 64, udpD f tp d⟩ 6).val, .int .i64 0]) ∧ Below u.heap.size u w' from fun u => by
    have h := udpMake_any ⟨v1, h1, l1⟩ ⟨v2, h2, l2⟩ f tp d u ha hb hf ht (by omega)
    rw [hmU] at h
    exact h)
  have tT := fun n y hn hy hne => turned_tcp ⟨v1, h1, l1⟩ ⟨v2, h2, l2⟩ f tp 16 d hf ht (by decide) (by omega) hm n y hn hy hne
  have tU := fun n y hn hy hne h0 => turned_udp ⟨v1, h1, l1⟩ ⟨v2, h2, l2⟩ f tp d (by omega) hmU n y hn hy hne h0
  have okT : (madeP ⟨⟨v1, h1, l1⟩, ⟨v2, h2, l2⟩, 6, 64, tcpD f tp 16 d⟩ 16).Ok := madeP_ok (p := ⟨⟨v1, h1, l1⟩, ⟨v2, h2, l2⟩, 6, 64, tcpD f tp 16 d⟩) ⟨ha, hb, (by decide : 6 < 256), (by decide : 64 < 256)⟩
  have okU : (madeP ⟨⟨v1, h1, l1⟩, ⟨v2, h2, l2⟩, 17, 64, udpD f tp d⟩ 6).Ok := madeP_ok (p := ⟨⟨v1, h1, l1⟩, ⟨v2, h2, l2⟩, 17, 64, udpD f tp d⟩) ⟨ha, hb, (by decide : 17 < 256), (by decide : 64 < 256)⟩
  have sT : (madeP ⟨⟨v1, h1, l1⟩, ⟨v2, h2, l2⟩, 6, 64, tcpD f tp 16 d⟩ 16).data.size = 20 + d.size := by
    rw [made_may hm]
    show (putS ⟨⟨v1, h1, l1⟩, ⟨v2, h2, l2⟩, 6, 64, tcpD f tp 16 d⟩ 16).size = _
    rw [putS_size (by show 16 + 2 ≤ (tcpD f tp 16 d).size; rw [tcpD_size]; omega)]
    exact tcpD_size _ _ _ _
  have sU : (madeP ⟨⟨v1, h1, l1⟩, ⟨v2, h2, l2⟩, 17, 64, udpD f tp d⟩ 6).data.size = 8 + d.size := by
    rw [made_may hmU]
    show (putS ⟨⟨v1, h1, l1⟩, ⟨v2, h2, l2⟩, 17, 64, udpD f tp d⟩ 6).size = _
    rw [putS_size (by show 6 + 2 ≤ (udpD f tp d).size; rw [udpD_size]; omega)]
    exact udpD_size _ _ _
  have vU : (madeP ⟨⟨v1, h1, l1⟩, ⟨v2, h2, l2⟩, 17, 64, udpD f tp d⟩ 6).src.v6 = v1 := by rw [made_may hmU]
  obtain ⟨T, hT⟩ : ∃ x, x = madeP ⟨⟨v1, h1, l1⟩, ⟨v2, h2, l2⟩, 6, 64, tcpD f tp 16 d⟩ 16 := ⟨_, rfl⟩
  obtain ⟨U, hU⟩ : ∃ x, x = madeP ⟨⟨v1, h1, l1⟩, ⟨v2, h2, l2⟩, 17, 64, udpD f tp d⟩ 6 := ⟨_, rfl⟩
  rw [← hT] at C10 tT okT sT
  rw [← hU] at C8 tU okU sU vU
  -- the place and the byte, of each
  obtain ⟨n, hn⟩ : ∃ x, x = at_ % T.data.size := ⟨_, rfl⟩
  obtain ⟨m, hm'⟩ : ∃ x, x = at_ % U.data.size := ⟨_, rfl⟩
  have nl : n < T.data.size := by rw [hn]; exact Nat.mod_lt _ (by omega)
  have ml : m < U.data.size := by rw [hm']; exact Nat.mod_lt _ (by omega)
  obtain ⟨x1, hx1⟩ : ∃ x, x = bt T.data n := ⟨_, rfl⟩
  obtain ⟨x2, hx2⟩ : ∃ x, x = bt U.data m := ⟨_, rfl⟩
  have b1 : x1 < 256 := by rw [hx1]; exact bt_lt _ _
  have b2 : x2 < 256 := by rw [hx2]; exact bt_lt _ _
  obtain ⟨y1, hy1⟩ : ∃ x, x = x1 ^^^ by_ := ⟨_, rfl⟩
  obtain ⟨y2, hy2⟩ : ∃ x, x = x2 ^^^ by_ := ⟨_, rfl⟩
  have y1b : y1 < 256 := by rw [hy1]; exact Nat.xor_lt_two_pow (n := 8) b1 hby
  have y2b : y2 < 256 := by rw [hy2]; exact Nat.xor_lt_two_pow (n := 8) b2 hby
  have y1n : y1 ≠ x1 := by rw [hy1]; exact xor_ne x1 by_ hb0
  have y2n : y2 ≠ x2 := by rw [hy2]; exact xor_ne x2 by_ hb0
  have g1x := Lib.hid (show bits .xor .u8 (x1 : Int) (by_ : Int) = (y1 : Int) by rw [u8_xor_nat x1 by_ b1 hby, hy1])
  have g2x := Lib.hid (show bits .xor .u8 (x2 : Int) (by_ : Int) = (y2 : Int) by rw [u8_xor_nat x2 by_ b2 hby, hy2])
  obtain ⟨s1, hs1⟩ : ∃ x, x = flip T.data n y1 := ⟨_, rfl⟩
  obtain ⟨s2, hs2⟩ : ∃ x, x = flip U.data m y2 := ⟨_, rfl⟩
  have ss1 : s1.size = T.data.size := by rw [hs1]; exact flip_size _ _ _
  have ss2 : s2.size = U.data.size := by rw [hs2]; exact flip_size _ _ _
  obtain ⟨D1, hD1⟩ : ∃ x : Hd, x = decH { T with data := s1 } := ⟨_, rfl⟩
  obtain ⟨X1, hX1⟩ : ∃ x : Int, x = decE { T with data := s1 } := ⟨_, rfl⟩
  obtain ⟨D2, hD2⟩ : ∃ x : Hd, x = decH { U with data := s2 } := ⟨_, rfl⟩
  obtain ⟨X2, hX2⟩ : ∃ x : Int, x = decE { U with data := s2 } := ⟨_, rfl⟩
  have X1n : X1 ≠ 0 := by rw [hX1, hs1]; exact tT n y1 nl y1b (by rw [← hx1]; exact y1n)
  obtain ⟨n6, hn6⟩ : ∃ x, x = bt s2 6 := ⟨_, rfl⟩
  obtain ⟨n7, hn7⟩ : ∃ x, x = bt s2 7 := ⟨_, rfl⟩
  have X2n := Lib.hid (show X2 = 0 → n6 = 0 ∧ n7 = 0 ∧ v1 = false from fun h => by
    rw [hn6, hn7, hs2]
    exact tU m y2 ml y2b (by rw [← hx2]; exact y2n) (by rw [← hs2, ← hX2]; exact h))
  have C14a := Lib.hid (show ∀ u, Calls Try.prog 14 #[.agg #[.bool T.src.v6, .int .u64 T.src.hi, .int .u64 T.src.lo, .bool T.dst.v6, .int .u64 T.dst.hi, .int .u64 T.dst.lo, .int .u8 T.proto, .int .u8 T.ttl, .string s1]] u fun e w' => e = .returned (.tuple #[.agg #[.int .u8 D1.fl.proto, .bool D1.fl.src.v6, .int .u64 D1.fl.src.hi, .int .u64 D1.fl.src.lo, .bool D1.fl.dst.v6, .int .u64 D1.fl.dst.hi, .int .u64 D1.fl.dst.lo, .int .u16 D1.fl.fp, .int .u16 D1.fl.tp, .int .u8 D1.flags, .int .u8 D1.kind, .int .u8 D1.code, .int .i64 D1.size], .int .i64 X1]) ∧ Below u.heap.size u w' from fun u => by
    have h := decode_any { T with data := s1 } u okT (by show s1.size ≤ 10000; omega)
    rw [← hD1, ← hX1] at h
    exact h)
  have C14b := Lib.hid (show ∀ u, Calls Try.prog 14 #[.agg #[.bool U.src.v6, .int .u64 U.src.hi, .int .u64 U.src.lo, .bool U.dst.v6, .int .u64 U.dst.hi, .int .u64 U.dst.lo, .int .u8 U.proto, .int .u8 U.ttl, .string s2]] u fun e w' => e = .returned (.tuple #[.agg #[.int .u8 D2.fl.proto, .bool D2.fl.src.v6, .int .u64 D2.fl.src.hi, .int .u64 D2.fl.src.lo, .bool D2.fl.dst.v6, .int .u64 D2.fl.dst.hi, .int .u64 D2.fl.dst.lo, .int .u16 D2.fl.fp, .int .u16 D2.fl.tp, .int .u8 D2.flags, .int .u8 D2.kind, .int .u8 D2.code, .int .i64 D2.size], .int .i64 X2]) ∧ Below u.heap.size u w' from fun u => by
    have h := decode_any { U with data := s2 } u okU (by show s2.size ≤ 10000; omega)
    rw [← hD2, ← hX2] at h
    exact h)
  have C10 := Lib.hid (show ∀ u, Calls Try.prog 10 #[.agg #[.bool v1, .int .u64 h1, .int .u64 l1, .int .u16 f], .agg #[.bool v2, .int .u64 h2, .int .u64 l2, .int .u16 tp], .int .u8 16, .string d] u fun e w' => e = .returned (.tuple #[.agg #[.bool T.src.v6, .int .u64 T.src.hi, .int .u64 T.src.lo, .bool T.dst.v6, .int .u64 T.dst.hi, .int .u64 T.dst.lo, .int .u8 T.proto, .int .u8 T.ttl, .string T.data], .int .i64 0]) ∧ Below u.heap.size u w' from C10.out)
  have C8 := Lib.hid (show ∀ u, Calls Try.prog 8 #[.agg #[.bool v1, .int .u64 h1, .int .u64 l1, .int .u16 f], .agg #[.bool v2, .int .u64 h2, .int .u64 l2, .int .u16 tp], .string d] u fun e w' => e = .returned (.tuple #[.agg #[.bool U.src.v6, .int .u64 U.src.hi, .int .u64 U.src.lo, .bool U.dst.v6, .int .u64 U.dst.hi, .int .u64 U.dst.lo, .int .u8 U.proto, .int .u8 U.ttl, .string U.data], .int .i64 0]) ∧ Below u.heap.size u w' from C8.out)
  have zT : (0 : Int) < T.data.size := by omega
  have zT2 : (T.data.size : Int) ≤ 5000 := by omega
  have zU : ¬ (U.data.size : Int) < 8 := by omega
  have zU2 : (U.data.size : Int) ≤ 5000 := by omega
  have cT0 : ((T.data.size : Int) == 0) = false := byNe (b := 0) (by omega)
  have eN1 : (at_ : Int) % (T.data.size : Int) = n := by rw [hn]; rfl
  have eN2 : Int.tmod (at_ : Int) (T.data.size : Int) = n := by rw [hn]; rfl
  have eM1 : (at_ : Int) % (U.data.size : Int) = m := by rw [hm']; rfl
  have eM2 : Int.tmod (at_ : Int) (U.data.size : Int) = m := by rw [hm']; rfl
  have HR := Lib.hid (And.intro (And.intro eN1 eN2) (And.intro eM1 eM2))
  have ea : IntKind.i64.wrap (at_ : Int) = at_ := i64N at_ (by omega)
  have al : (at_ : Int) ≤ 65535 := by omega
  have HL1 := Lib.hid (And.intro nl (And.intro y1b (And.intro hs1 (And.intro ss1 hx1))))
  have HL2 := Lib.hid (And.intro ml (And.intro y2b (And.intro hs2 (And.intro ss2 hx2))))
  have HV := Lib.hid (And.intro vU (And.intro hn6 (And.intro hn7 X1n)))
  have H8 := Lib.hid (show 8 ≤ s2.size by omega)
  have nl' : (n : Int) < T.data.size := by omega
  have ml' : (m : Int) < U.data.size := by omega
  clear ha hb hf ht hat hby hs hb0 hm hmU tT tU okT okU sT sU vU hT hU hn hm' nl ml hx1 hx2 b1 b2 hy1 hy2 y1b y2b y1n y2n hs1 hs2 ss1 ss2 hD1 hX1 hD2 hX2 X1n hn6 hn7 eN1 eN2 eM1 eM2
  go_enter Try.func4, Try.ntmps4
  go_upto_region 3 with (fail)
  obtain ⟨g2, hgg2⟩ : ∃ g, g = w.heap.size + 1 := ⟨_, rfl⟩
  obtain ⟨g1, hgg1⟩ : ∃ g, g = w.heap.size := ⟨_, rfl⟩
  obtain ⟨ww1, hv1⟩ : ∃ x, x = (World.alloc (World.alloc w (.cells #[.bool v1, .int .u64 h1, .int .u64 l1, .int .u16 f] 27)) (.cells #[.bool v2, .int .u64 h2, .int .u64 l2, .int .u16 tp] 27)) := ⟨_, rfl⟩
  have HK1 : Hid (KL [(g2, .cells #[.bool v2, .int .u64 h2, .int .u64 l2, .int .u16 tp] 27), (g1, .cells #[.bool v1, .int .u64 h1, .int .u64 l1, .int .u16 f] 27)] w ww1) := by rw [hv1, hgg1, hgg2]; exact Lib.hid (HK0.out.made2 (.cells #[.bool v1, .int .u64 h1, .int .u64 l1, .int .u16 f] 27) (.cells #[.bool v2, .int .u64 h2, .int .u64 l2, .int .u16 tp] 27))
  rw [← hv1]
  rw [← hgg2]
  rw [← hgg1]
  clear hv1 hgg1 hgg2
  obtain ⟨a0, a1, a2, a3⟩ := epCells (HK1.out.tail.head)
  obtain ⟨b0, b1, b2, b3⟩ := epCells (HK1.out.head)
  go_wp2_with fail
  clear a0 a1 a2 a3 b0 b1 b2 b3
  refine (C10.out _).mono ?_
  rintro e ww2 ⟨rfl, B1⟩
  simp only []
  have HK2 := Lib.hid (HK1.out.call B1)
  clear B1
  go_upto_region 4 with (fail)
  obtain ⟨g3, hgg3⟩ : ∃ g, g = ww2.heap.size := ⟨_, rfl⟩
  obtain ⟨ww3, hv3⟩ : ∃ x, x = (World.alloc ww2 (.cells #[.bool T.src.v6, .int .u64 T.src.hi, .int .u64 T.src.lo, .bool T.dst.v6, .int .u64 T.dst.hi, .int .u64 T.dst.lo, .int .u8 T.proto, .int .u8 T.ttl, .string T.data] 30)) := ⟨_, rfl⟩
  have HK3 : Hid (KL [(g3, .cells #[.bool T.src.v6, .int .u64 T.src.hi, .int .u64 T.src.lo, .bool T.dst.v6, .int .u64 T.dst.hi, .int .u64 T.dst.lo, .int .u8 T.proto, .int .u8 T.ttl, .string T.data] 30), (g2, .cells #[.bool v2, .int .u64 h2, .int .u64 l2, .int .u16 tp] 27), (g1, .cells #[.bool v1, .int .u64 h1, .int .u64 l1, .int .u16 f] 27)] w ww3) := by rw [hv3, hgg3]; exact Lib.hid (HK2.out.made (.cells #[.bool T.src.v6, .int .u64 T.src.hi, .int .u64 T.src.lo, .bool T.dst.v6, .int .u64 T.dst.hi, .int .u64 T.dst.lo, .int .u8 T.proto, .int .u8 T.ttl, .string T.data] 30))
  rw [← hv3]
  rw [← hgg3]
  have N3 := Lib.hid (show w.heap.size ≤ g3 ∧ ∀ x ∈ ([(g2, .cells #[.bool v2, .int .u64 h2, .int .u64 l2, .int .u16 tp] 27), (g1, .cells #[.bool v1, .int .u64 h1, .int .u64 l1, .int .u16 f] 27)] : List (Nat × Obj)), x.1 ≠ g3 from ⟨by rw [hgg3]; exact HK2.out.2.size, fun x hx => by rw [hgg3]; exact Nat.ne_of_lt (HK2.out.lt x hx)⟩)
  clear hv3 hgg3
  go_upto_region 6 with (fail)
  obtain ⟨q3, cap3, wb3, hconv, hB, hbs, hgb⟩ := conv_w T.data ww3
  have HB3 := Lib.hid (And.intro (HK3.out.call hB) (And.intro hbs hgb))
  have LT3 := Lib.hid (HK3.out.lt)
  clear hB hbs hgb
  obtain ⟨k0, k1, k2, k3, k4, k5, k6, k7, k8⟩ := pkCells (HK3.out.head)
  go_upto_region 9 with (fail)
  clear hconv
  clear k0 k1 k2 k3 k4 k5 k6 k7 k8
  obtain ⟨eN1, eN2⟩ := HR.out.1
  go_upto_region 10 with (fail)
  clear eN1 eN2
  have x1c := HB3.out.2.1.cell n HL1.out.1
  rw [← HL1.out.2.2.2.2] at x1c
  have x1f := HB3.out.2.1.free n HL1.out.1
  have gx := g1x.out
  go_upto_region 11 with (fail)
  clear x1c x1f gx
  have nq3 : q3 ≥ w.heap.size ∧ ∀ x ∈ ([(g3, .cells #[.bool T.src.v6, .int .u64 T.src.hi, .int .u64 T.src.lo, .bool T.dst.v6, .int .u64 T.dst.hi, .int .u64 T.dst.lo, .int .u8 T.proto, .int .u8 T.ttl, .string T.data] 30), (g2, .cells #[.bool v2, .int .u64 h2, .int .u64 l2, .int .u16 tp] 27), (g1, .cells #[.bool v1, .int .u64 h1, .int .u64 l1, .int .u16 f] 27)] : List (Nat × Obj)), x.1 ≠ q3 := ⟨by rw [HB3.out.2.2]; exact HK3.out.2.size, fun x hx => by rw [HB3.out.2.2]; exact Nat.ne_of_lt (LT3.out x hx)⟩
  obtain ⟨ww4, hww⟩ : ∃ x, x = World.setCell wb3 ⟨q3, n, none⟩ (.int .u8 y1) := ⟨_, rfl⟩
  have HK4 : Hid (KL [(g3, .cells #[.bool T.src.v6, .int .u64 T.src.hi, .int .u64 T.src.lo, .bool T.dst.v6, .int .u64 T.dst.hi, .int .u64 T.dst.lo, .int .u8 T.proto, .int .u8 T.ttl, .string T.data] 30), (g2, .cells #[.bool v2, .int .u64 h2, .int .u64 l2, .int .u16 tp] 27), (g1, .cells #[.bool v1, .int .u64 h1, .int .u64 l1, .int .u16 f] 27)] w ww4) := by rw [hww]; exact Lib.hid (HB3.out.1.set nq3.1 nq3.2)
  have HS3 : Hid (Bs q3 s1 ww4) := by rw [hww, HL1.out.2.2.1]; exact Lib.hid (HB3.out.2.1.turn HL1.out.1 HL1.out.2.1)
  rw [← hww]
  clear hww nq3
  have hback := HS3.out.back (cap := cap3)
  rw [HL1.out.2.2.2.1] at hback
  obtain ⟨k0, k1, k2, k3, k4, k5, k6, k7, k8⟩ := pkCells (HK4.out.head)
  have f8 : ww4.frozen? ⟨g3, 8, none⟩ = false := by
    have := (HK4.out.head)
    have h : ww4.heap[g3]? = _ := this
    simp [World.frozen?, h]
  go_upto_region 12 with (fail)
  clear hback f8
  clear k0 k1 k2 k3 k4 k5 k6 k7 k8
  obtain ⟨ww5, hww⟩ : ∃ x, x = World.setCell ww4 ⟨g3, 8, none⟩ (.string s1) := ⟨_, rfl⟩
  have HK5 : Hid (KL [(g3, .cells #[.bool T.src.v6, .int .u64 T.src.hi, .int .u64 T.src.lo, .bool T.dst.v6, .int .u64 T.dst.hi, .int .u64 T.dst.lo, .int .u8 T.proto, .int .u8 T.ttl, .string s1] 30), (g2, .cells #[.bool v2, .int .u64 h2, .int .u64 l2, .int .u16 tp] 27), (g1, .cells #[.bool v1, .int .u64 h1, .int .u64 l1, .int .u16 f] 27)] w ww5) := by rw [hww]; exact Lib.hid (KL.data HK4.out N3.out.1 N3.out.2)
  rw [← hww]
  clear hww
  obtain ⟨k0, k1, k2, k3, k4, k5, k6, k7, k8⟩ := pkCells (HK5.out.head)
  go_wp2_with fail
  clear k0 k1 k2 k3 k4 k5 k6 k7 k8
  refine (C14a.out _).mono ?_
  rintro e ww6 ⟨rfl, B1⟩
  simp only []
  have HK6 := Lib.hid (HK5.out.call B1)
  clear B1
  go_upto_region 13 with (fail)
  obtain ⟨g4, hgg4⟩ : ∃ g, g = ww6.heap.size := ⟨_, rfl⟩
  obtain ⟨ww7, hv7⟩ : ∃ x, x = (World.alloc ww6 (.cells #[.int .u8 D1.fl.proto, .bool D1.fl.src.v6, .int .u64 D1.fl.src.hi, .int .u64 D1.fl.src.lo, .bool D1.fl.dst.v6, .int .u64 D1.fl.dst.hi, .int .u64 D1.fl.dst.lo, .int .u16 D1.fl.fp, .int .u16 D1.fl.tp, .int .u8 D1.flags, .int .u8 D1.kind, .int .u8 D1.code, .int .i64 D1.size] 41)) := ⟨_, rfl⟩
  have HK7 : Hid (KL [(g4, .cells #[.int .u8 D1.fl.proto, .bool D1.fl.src.v6, .int .u64 D1.fl.src.hi, .int .u64 D1.fl.src.lo, .bool D1.fl.dst.v6, .int .u64 D1.fl.dst.hi, .int .u64 D1.fl.dst.lo, .int .u16 D1.fl.fp, .int .u16 D1.fl.tp, .int .u8 D1.flags, .int .u8 D1.kind, .int .u8 D1.code, .int .i64 D1.size] 41), (g3, .cells #[.bool T.src.v6, .int .u64 T.src.hi, .int .u64 T.src.lo, .bool T.dst.v6, .int .u64 T.dst.hi, .int .u64 T.dst.lo, .int .u8 T.proto, .int .u8 T.ttl, .string s1] 30), (g2, .cells #[.bool v2, .int .u64 h2, .int .u64 l2, .int .u16 tp] 27), (g1, .cells #[.bool v1, .int .u64 h1, .int .u64 l1, .int .u16 f] 27)] w ww7) := by rw [hv7, hgg4]; exact Lib.hid (HK6.out.made (.cells #[.int .u8 D1.fl.proto, .bool D1.fl.src.v6, .int .u64 D1.fl.src.hi, .int .u64 D1.fl.src.lo, .bool D1.fl.dst.v6, .int .u64 D1.fl.dst.hi, .int .u64 D1.fl.dst.lo, .int .u16 D1.fl.fp, .int .u16 D1.fl.tp, .int .u8 D1.flags, .int .u8 D1.kind, .int .u8 D1.code, .int .i64 D1.size] 41))
  rw [← hv7]
  rw [← hgg4]
  have N4 := Lib.hid (show w.heap.size ≤ g4 ∧ ∀ x ∈ ([(g3, .cells #[.bool T.src.v6, .int .u64 T.src.hi, .int .u64 T.src.lo, .bool T.dst.v6, .int .u64 T.dst.hi, .int .u64 T.dst.lo, .int .u8 T.proto, .int .u8 T.ttl, .string s1] 30), (g2, .cells #[.bool v2, .int .u64 h2, .int .u64 l2, .int .u16 tp] 27), (g1, .cells #[.bool v1, .int .u64 h1, .int .u64 l1, .int .u16 f] 27)] : List (Nat × Obj)), x.1 ≠ g4 from ⟨by rw [hgg4]; exact HK6.out.2.size, fun x hx => by rw [hgg4]; exact Nat.ne_of_lt (HK6.out.lt x hx)⟩)
  clear hv7 hgg4
  obtain ⟨a0, a1, a2, a3⟩ := epCells (HK7.out.tail.tail.tail.head)
  obtain ⟨b0, b1, b2, b3⟩ := epCells (HK7.out.tail.tail.head)
  go_wp2_with fail
  clear a0 a1 a2 a3 b0 b1 b2 b3
  refine (C8.out _).mono ?_
  rintro e ww8 ⟨rfl, B1⟩
  simp only []
  have HK8 := Lib.hid (HK7.out.call B1)
  clear B1
  go_upto_region 14 with (fail)
  obtain ⟨g5, hgg5⟩ : ∃ g, g = ww8.heap.size := ⟨_, rfl⟩
  obtain ⟨ww9, hv9⟩ : ∃ x, x = (World.alloc ww8 (.cells #[.bool U.src.v6, .int .u64 U.src.hi, .int .u64 U.src.lo, .bool U.dst.v6, .int .u64 U.dst.hi, .int .u64 U.dst.lo, .int .u8 U.proto, .int .u8 U.ttl, .string U.data] 30)) := ⟨_, rfl⟩
  have HK9 : Hid (KL [(g5, .cells #[.bool U.src.v6, .int .u64 U.src.hi, .int .u64 U.src.lo, .bool U.dst.v6, .int .u64 U.dst.hi, .int .u64 U.dst.lo, .int .u8 U.proto, .int .u8 U.ttl, .string U.data] 30), (g4, .cells #[.int .u8 D1.fl.proto, .bool D1.fl.src.v6, .int .u64 D1.fl.src.hi, .int .u64 D1.fl.src.lo, .bool D1.fl.dst.v6, .int .u64 D1.fl.dst.hi, .int .u64 D1.fl.dst.lo, .int .u16 D1.fl.fp, .int .u16 D1.fl.tp, .int .u8 D1.flags, .int .u8 D1.kind, .int .u8 D1.code, .int .i64 D1.size] 41), (g3, .cells #[.bool T.src.v6, .int .u64 T.src.hi, .int .u64 T.src.lo, .bool T.dst.v6, .int .u64 T.dst.hi, .int .u64 T.dst.lo, .int .u8 T.proto, .int .u8 T.ttl, .string s1] 30), (g2, .cells #[.bool v2, .int .u64 h2, .int .u64 l2, .int .u16 tp] 27), (g1, .cells #[.bool v1, .int .u64 h1, .int .u64 l1, .int .u16 f] 27)] w ww9) := by rw [hv9, hgg5]; exact Lib.hid (HK8.out.made (.cells #[.bool U.src.v6, .int .u64 U.src.hi, .int .u64 U.src.lo, .bool U.dst.v6, .int .u64 U.dst.hi, .int .u64 U.dst.lo, .int .u8 U.proto, .int .u8 U.ttl, .string U.data] 30))
  rw [← hv9]
  rw [← hgg5]
  have N5 := Lib.hid (show w.heap.size ≤ g5 ∧ ∀ x ∈ ([(g4, .cells #[.int .u8 D1.fl.proto, .bool D1.fl.src.v6, .int .u64 D1.fl.src.hi, .int .u64 D1.fl.src.lo, .bool D1.fl.dst.v6, .int .u64 D1.fl.dst.hi, .int .u64 D1.fl.dst.lo, .int .u16 D1.fl.fp, .int .u16 D1.fl.tp, .int .u8 D1.flags, .int .u8 D1.kind, .int .u8 D1.code, .int .i64 D1.size] 41), (g3, .cells #[.bool T.src.v6, .int .u64 T.src.hi, .int .u64 T.src.lo, .bool T.dst.v6, .int .u64 T.dst.hi, .int .u64 T.dst.lo, .int .u8 T.proto, .int .u8 T.ttl, .string s1] 30), (g2, .cells #[.bool v2, .int .u64 h2, .int .u64 l2, .int .u16 tp] 27), (g1, .cells #[.bool v1, .int .u64 h1, .int .u64 l1, .int .u16 f] 27)] : List (Nat × Obj)), x.1 ≠ g5 from ⟨by rw [hgg5]; exact HK8.out.2.size, fun x hx => by rw [hgg5]; exact Nat.ne_of_lt (HK8.out.lt x hx)⟩)
  clear hv9 hgg5
  obtain ⟨q5, cap5, wb5, hconv, hB, hbs, hgb⟩ := conv_w U.data ww9
  have HB5 := Lib.hid (And.intro (HK9.out.call hB) (And.intro hbs hgb))
  have LT5 := Lib.hid (HK9.out.lt)
  clear hB hbs hgb
  obtain ⟨k0, k1, k2, k3, k4, k5, k6, k7, k8⟩ := pkCells (HK9.out.head)
  go_upto_region 17 with (fail)
  clear hconv
  clear k0 k1 k2 k3 k4 k5 k6 k7 k8
  obtain ⟨eN1, eN2⟩ := HR.out.2
  go_upto_region 18 with (fail)
  clear eN1 eN2
  have x1c := HB5.out.2.1.cell m HL2.out.1
  rw [← HL2.out.2.2.2.2] at x1c
  have x1f := HB5.out.2.1.free m HL2.out.1
  have gx := g2x.out
  go_upto_region 19 with (fail)
  clear x1c x1f gx
  have nq5 : q5 ≥ w.heap.size ∧ ∀ x ∈ ([(g5, .cells #[.bool U.src.v6, .int .u64 U.src.hi, .int .u64 U.src.lo, .bool U.dst.v6, .int .u64 U.dst.hi, .int .u64 U.dst.lo, .int .u8 U.proto, .int .u8 U.ttl, .string U.data] 30), (g4, .cells #[.int .u8 D1.fl.proto, .bool D1.fl.src.v6, .int .u64 D1.fl.src.hi, .int .u64 D1.fl.src.lo, .bool D1.fl.dst.v6, .int .u64 D1.fl.dst.hi, .int .u64 D1.fl.dst.lo, .int .u16 D1.fl.fp, .int .u16 D1.fl.tp, .int .u8 D1.flags, .int .u8 D1.kind, .int .u8 D1.code, .int .i64 D1.size] 41), (g3, .cells #[.bool T.src.v6, .int .u64 T.src.hi, .int .u64 T.src.lo, .bool T.dst.v6, .int .u64 T.dst.hi, .int .u64 T.dst.lo, .int .u8 T.proto, .int .u8 T.ttl, .string s1] 30), (g2, .cells #[.bool v2, .int .u64 h2, .int .u64 l2, .int .u16 tp] 27), (g1, .cells #[.bool v1, .int .u64 h1, .int .u64 l1, .int .u16 f] 27)] : List (Nat × Obj)), x.1 ≠ q5 := ⟨by rw [HB5.out.2.2]; exact HK9.out.2.size, fun x hx => by rw [HB5.out.2.2]; exact Nat.ne_of_lt (LT5.out x hx)⟩
  obtain ⟨ww10, hww⟩ : ∃ x, x = World.setCell wb5 ⟨q5, m, none⟩ (.int .u8 y2) := ⟨_, rfl⟩
  have HK10 : Hid (KL [(g5, .cells #[.bool U.src.v6, .int .u64 U.src.hi, .int .u64 U.src.lo, .bool U.dst.v6, .int .u64 U.dst.hi, .int .u64 U.dst.lo, .int .u8 U.proto, .int .u8 U.ttl, .string U.data] 30), (g4, .cells #[.int .u8 D1.fl.proto, .bool D1.fl.src.v6, .int .u64 D1.fl.src.hi, .int .u64 D1.fl.src.lo, .bool D1.fl.dst.v6, .int .u64 D1.fl.dst.hi, .int .u64 D1.fl.dst.lo, .int .u16 D1.fl.fp, .int .u16 D1.fl.tp, .int .u8 D1.flags, .int .u8 D1.kind, .int .u8 D1.code, .int .i64 D1.size] 41), (g3, .cells #[.bool T.src.v6, .int .u64 T.src.hi, .int .u64 T.src.lo, .bool T.dst.v6, .int .u64 T.dst.hi, .int .u64 T.dst.lo, .int .u8 T.proto, .int .u8 T.ttl, .string s1] 30), (g2, .cells #[.bool v2, .int .u64 h2, .int .u64 l2, .int .u16 tp] 27), (g1, .cells #[.bool v1, .int .u64 h1, .int .u64 l1, .int .u16 f] 27)] w ww10) := by rw [hww]; exact Lib.hid (HB5.out.1.set nq5.1 nq5.2)
  have HS5 : Hid (Bs q5 s2 ww10) := by rw [hww, HL2.out.2.2.1]; exact Lib.hid (HB5.out.2.1.turn HL2.out.1 HL2.out.2.1)
  rw [← hww]
  clear hww nq5
  have c6c := HS5.out.cell 6 (by have := H8.out; omega)
  have c7c := HS5.out.cell 7 (by have := H8.out; omega)
  rw [← HV.out.2.1] at c6c
  rw [← HV.out.2.2.1] at c7c
  have z6 : (6 : Int) < U.data.size := by omega
  have z7 : (7 : Int) < U.data.size := by omega
  have X1c : ((X1 : Int) != 0) = true := bne_iff_ne.2 HV.out.2.2.2
  by_cases q2 : X2 = 0
  · obtain ⟨r6, r7, r1⟩ := X2n.out q2
    have c6 : ((n6 : Int) == 0) = true := byEq (b := 0) r6
    have c7 : ((n7 : Int) == 0) = true := byEq (b := 0) r7
    have e2 : ((X2 : Int) != 0) = false := by rw [q2]; rfl
    subst r1
    have C6 := Lib.hid c6
    have C7 := Lib.hid c7
    have EE := Lib.hid e2
    clear q2 r6 r7 c6 c7 e2
    have c6 := C6.out
    have c7 := C7.out
    go_upto_region 20 with (fail)
    clear c6 c7 c6c c7c z6 z7
    have hback := HS5.out.back (cap := cap5)
    rw [HL2.out.2.2.2.1] at hback
    obtain ⟨k0, k1, k2, k3, k4, k5, k6, k7, k8⟩ := pkCells (HK10.out.head)
    have f8 : ww10.frozen? ⟨g5, 8, none⟩ = false := by
      have := (HK10.out.head)
      have h : ww10.heap[g5]? = _ := this
      simp [World.frozen?, h]
    go_upto_region 21 with (fail)
    clear hback f8
    clear k0 k1 k2 k3 k4 k5 k6 k7 k8
    obtain ⟨ww11, hww⟩ : ∃ x, x = World.setCell ww10 ⟨g5, 8, none⟩ (.string s2) := ⟨_, rfl⟩
    have HK11 : Hid (KL [(g5, .cells #[.bool U.src.v6, .int .u64 U.src.hi, .int .u64 U.src.lo, .bool U.dst.v6, .int .u64 U.dst.hi, .int .u64 U.dst.lo, .int .u8 U.proto, .int .u8 U.ttl, .string s2] 30), (g4, .cells #[.int .u8 D1.fl.proto, .bool D1.fl.src.v6, .int .u64 D1.fl.src.hi, .int .u64 D1.fl.src.lo, .bool D1.fl.dst.v6, .int .u64 D1.fl.dst.hi, .int .u64 D1.fl.dst.lo, .int .u16 D1.fl.fp, .int .u16 D1.fl.tp, .int .u8 D1.flags, .int .u8 D1.kind, .int .u8 D1.code, .int .i64 D1.size] 41), (g3, .cells #[.bool T.src.v6, .int .u64 T.src.hi, .int .u64 T.src.lo, .bool T.dst.v6, .int .u64 T.dst.hi, .int .u64 T.dst.lo, .int .u8 T.proto, .int .u8 T.ttl, .string s1] 30), (g2, .cells #[.bool v2, .int .u64 h2, .int .u64 l2, .int .u16 tp] 27), (g1, .cells #[.bool false, .int .u64 h1, .int .u64 l1, .int .u16 f] 27)] w ww11) := by rw [hww]; exact Lib.hid (KL.data HK10.out N5.out.1 N5.out.2)
    rw [← hww]
    clear hww
    obtain ⟨k0, k1, k2, k3, k4, k5, k6, k7, k8⟩ := pkCells (HK11.out.head)
    go_wp2_with fail
    clear k0 k1 k2 k3 k4 k5 k6 k7 k8
    refine (C14b.out _).mono ?_
    rintro e ww12 ⟨rfl, B1⟩
    simp only []
    have HK12 := Lib.hid (HK11.out.call B1)
    clear B1
    go_upto_region 22 with (fail)
    obtain ⟨g6, hgg6⟩ : ∃ g, g = ww12.heap.size := ⟨_, rfl⟩
    obtain ⟨ww13, hv13⟩ : ∃ x, x = (World.alloc ww12 (.cells #[.int .u8 D2.fl.proto, .bool D2.fl.src.v6, .int .u64 D2.fl.src.hi, .int .u64 D2.fl.src.lo, .bool D2.fl.dst.v6, .int .u64 D2.fl.dst.hi, .int .u64 D2.fl.dst.lo, .int .u16 D2.fl.fp, .int .u16 D2.fl.tp, .int .u8 D2.flags, .int .u8 D2.kind, .int .u8 D2.code, .int .i64 D2.size] 41)) := ⟨_, rfl⟩
    have HK13 : Hid (KL [(g6, .cells #[.int .u8 D2.fl.proto, .bool D2.fl.src.v6, .int .u64 D2.fl.src.hi, .int .u64 D2.fl.src.lo, .bool D2.fl.dst.v6, .int .u64 D2.fl.dst.hi, .int .u64 D2.fl.dst.lo, .int .u16 D2.fl.fp, .int .u16 D2.fl.tp, .int .u8 D2.flags, .int .u8 D2.kind, .int .u8 D2.code, .int .i64 D2.size] 41), (g5, .cells #[.bool U.src.v6, .int .u64 U.src.hi, .int .u64 U.src.lo, .bool U.dst.v6, .int .u64 U.dst.hi, .int .u64 U.dst.lo, .int .u8 U.proto, .int .u8 U.ttl, .string s2] 30), (g4, .cells #[.int .u8 D1.fl.proto, .bool D1.fl.src.v6, .int .u64 D1.fl.src.hi, .int .u64 D1.fl.src.lo, .bool D1.fl.dst.v6, .int .u64 D1.fl.dst.hi, .int .u64 D1.fl.dst.lo, .int .u16 D1.fl.fp, .int .u16 D1.fl.tp, .int .u8 D1.flags, .int .u8 D1.kind, .int .u8 D1.code, .int .i64 D1.size] 41), (g3, .cells #[.bool T.src.v6, .int .u64 T.src.hi, .int .u64 T.src.lo, .bool T.dst.v6, .int .u64 T.dst.hi, .int .u64 T.dst.lo, .int .u8 T.proto, .int .u8 T.ttl, .string s1] 30), (g2, .cells #[.bool v2, .int .u64 h2, .int .u64 l2, .int .u16 tp] 27), (g1, .cells #[.bool false, .int .u64 h1, .int .u64 l1, .int .u16 f] 27)] w ww13) := by rw [hv13, hgg6]; exact Lib.hid (HK12.out.made (.cells #[.int .u8 D2.fl.proto, .bool D2.fl.src.v6, .int .u64 D2.fl.src.hi, .int .u64 D2.fl.src.lo, .bool D2.fl.dst.v6, .int .u64 D2.fl.dst.hi, .int .u64 D2.fl.dst.lo, .int .u16 D2.fl.fp, .int .u16 D2.fl.tp, .int .u8 D2.flags, .int .u8 D2.kind, .int .u8 D2.code, .int .i64 D2.size] 41))
    rw [← hv13]
    rw [← hgg6]
    have N6 := Lib.hid (show w.heap.size ≤ g6 ∧ ∀ x ∈ ([(g5, .cells #[.bool U.src.v6, .int .u64 U.src.hi, .int .u64 U.src.lo, .bool U.dst.v6, .int .u64 U.dst.hi, .int .u64 U.dst.lo, .int .u8 U.proto, .int .u8 U.ttl, .string s2] 30), (g4, .cells #[.int .u8 D1.fl.proto, .bool D1.fl.src.v6, .int .u64 D1.fl.src.hi, .int .u64 D1.fl.src.lo, .bool D1.fl.dst.v6, .int .u64 D1.fl.dst.hi, .int .u64 D1.fl.dst.lo, .int .u16 D1.fl.fp, .int .u16 D1.fl.tp, .int .u8 D1.flags, .int .u8 D1.kind, .int .u8 D1.code, .int .i64 D1.size] 41), (g3, .cells #[.bool T.src.v6, .int .u64 T.src.hi, .int .u64 T.src.lo, .bool T.dst.v6, .int .u64 T.dst.hi, .int .u64 T.dst.lo, .int .u8 T.proto, .int .u8 T.ttl, .string s1] 30), (g2, .cells #[.bool v2, .int .u64 h2, .int .u64 l2, .int .u16 tp] 27), (g1, .cells #[.bool false, .int .u64 h1, .int .u64 l1, .int .u16 f] 27)] : List (Nat × Obj)), x.1 ≠ g6 from ⟨by rw [hgg6]; exact HK12.out.2.size, fun x hx => by rw [hgg6]; exact Nat.ne_of_lt (HK12.out.lt x hx)⟩)
    clear hv13 hgg6
    have k0 : ww13.cell? ⟨g5, 0, none⟩ = some (.bool false) := by
      have := (pkCells (HK13.out.tail.head)).1
      rw [HV.out.1] at this
      exact this
    have e2 := EE.out
    go_wp2_with fail
    refine (works_any _).mono ?_
    rintro e ww14 ⟨rfl, B1⟩
    simp only []
    have HK14 := Lib.hid (HK13.out.call B1)
    clear B1
    go_wp2_with fail
    go_ret
    exact ⟨rfl, HK14.out.2⟩
  · have EE := Lib.hid (show ((X2 : Int) != 0) = true from bne_iff_ne.2 q2)
    clear q2
    by_cases q6 : n6 = 0
    · by_cases q7 : n7 = 0
      · have c6 : ((n6 : Int) == 0) = true := byEq (b := 0) q6
        have c7 : ((n7 : Int) == 0) = true := byEq (b := 0) q7
        clear q6 q7
        go_upto_region 20 with (fail)
        clear c6 c7 c6c c7c z6 z7
        have hback := HS5.out.back (cap := cap5)
        rw [HL2.out.2.2.2.1] at hback
        obtain ⟨k0, k1, k2, k3, k4, k5, k6, k7, k8⟩ := pkCells (HK10.out.head)
        have f8 : ww10.frozen? ⟨g5, 8, none⟩ = false := by
          have := (HK10.out.head)
          have h : ww10.heap[g5]? = _ := this
          simp [World.frozen?, h]
        go_upto_region 21 with (fail)
        clear hback f8
        clear k0 k1 k2 k3 k4 k5 k6 k7 k8
        obtain ⟨ww11, hww⟩ : ∃ x, x = World.setCell ww10 ⟨g5, 8, none⟩ (.string s2) := ⟨_, rfl⟩
        have HK11 : Hid (KL [(g5, .cells #[.bool U.src.v6, .int .u64 U.src.hi, .int .u64 U.src.lo, .bool U.dst.v6, .int .u64 U.dst.hi, .int .u64 U.dst.lo, .int .u8 U.proto, .int .u8 U.ttl, .string s2] 30), (g4, .cells #[.int .u8 D1.fl.proto, .bool D1.fl.src.v6, .int .u64 D1.fl.src.hi, .int .u64 D1.fl.src.lo, .bool D1.fl.dst.v6, .int .u64 D1.fl.dst.hi, .int .u64 D1.fl.dst.lo, .int .u16 D1.fl.fp, .int .u16 D1.fl.tp, .int .u8 D1.flags, .int .u8 D1.kind, .int .u8 D1.code, .int .i64 D1.size] 41), (g3, .cells #[.bool T.src.v6, .int .u64 T.src.hi, .int .u64 T.src.lo, .bool T.dst.v6, .int .u64 T.dst.hi, .int .u64 T.dst.lo, .int .u8 T.proto, .int .u8 T.ttl, .string s1] 30), (g2, .cells #[.bool v2, .int .u64 h2, .int .u64 l2, .int .u16 tp] 27), (g1, .cells #[.bool v1, .int .u64 h1, .int .u64 l1, .int .u16 f] 27)] w ww11) := by rw [hww]; exact Lib.hid (KL.data HK10.out N5.out.1 N5.out.2)
        rw [← hww]
        clear hww
        obtain ⟨k0, k1, k2, k3, k4, k5, k6, k7, k8⟩ := pkCells (HK11.out.head)
        go_wp2_with fail
        clear k0 k1 k2 k3 k4 k5 k6 k7 k8
        refine (C14b.out _).mono ?_
        rintro e ww12 ⟨rfl, B1⟩
        simp only []
        have HK12 := Lib.hid (HK11.out.call B1)
        clear B1
        go_upto_region 22 with (fail)
        obtain ⟨g6, hgg6⟩ : ∃ g, g = ww12.heap.size := ⟨_, rfl⟩
        obtain ⟨ww13, hv13⟩ : ∃ x, x = (World.alloc ww12 (.cells #[.int .u8 D2.fl.proto, .bool D2.fl.src.v6, .int .u64 D2.fl.src.hi, .int .u64 D2.fl.src.lo, .bool D2.fl.dst.v6, .int .u64 D2.fl.dst.hi, .int .u64 D2.fl.dst.lo, .int .u16 D2.fl.fp, .int .u16 D2.fl.tp, .int .u8 D2.flags, .int .u8 D2.kind, .int .u8 D2.code, .int .i64 D2.size] 41)) := ⟨_, rfl⟩
        have HK13 : Hid (KL [(g6, .cells #[.int .u8 D2.fl.proto, .bool D2.fl.src.v6, .int .u64 D2.fl.src.hi, .int .u64 D2.fl.src.lo, .bool D2.fl.dst.v6, .int .u64 D2.fl.dst.hi, .int .u64 D2.fl.dst.lo, .int .u16 D2.fl.fp, .int .u16 D2.fl.tp, .int .u8 D2.flags, .int .u8 D2.kind, .int .u8 D2.code, .int .i64 D2.size] 41), (g5, .cells #[.bool U.src.v6, .int .u64 U.src.hi, .int .u64 U.src.lo, .bool U.dst.v6, .int .u64 U.dst.hi, .int .u64 U.dst.lo, .int .u8 U.proto, .int .u8 U.ttl, .string s2] 30), (g4, .cells #[.int .u8 D1.fl.proto, .bool D1.fl.src.v6, .int .u64 D1.fl.src.hi, .int .u64 D1.fl.src.lo, .bool D1.fl.dst.v6, .int .u64 D1.fl.dst.hi, .int .u64 D1.fl.dst.lo, .int .u16 D1.fl.fp, .int .u16 D1.fl.tp, .int .u8 D1.flags, .int .u8 D1.kind, .int .u8 D1.code, .int .i64 D1.size] 41), (g3, .cells #[.bool T.src.v6, .int .u64 T.src.hi, .int .u64 T.src.lo, .bool T.dst.v6, .int .u64 T.dst.hi, .int .u64 T.dst.lo, .int .u8 T.proto, .int .u8 T.ttl, .string s1] 30), (g2, .cells #[.bool v2, .int .u64 h2, .int .u64 l2, .int .u16 tp] 27), (g1, .cells #[.bool v1, .int .u64 h1, .int .u64 l1, .int .u16 f] 27)] w ww13) := by rw [hv13, hgg6]; exact Lib.hid (HK12.out.made (.cells #[.int .u8 D2.fl.proto, .bool D2.fl.src.v6, .int .u64 D2.fl.src.hi, .int .u64 D2.fl.src.lo, .bool D2.fl.dst.v6, .int .u64 D2.fl.dst.hi, .int .u64 D2.fl.dst.lo, .int .u16 D2.fl.fp, .int .u16 D2.fl.tp, .int .u8 D2.flags, .int .u8 D2.kind, .int .u8 D2.code, .int .i64 D2.size] 41))
        rw [← hv13]
        rw [← hgg6]
        have N6 := Lib.hid (show w.heap.size ≤ g6 ∧ ∀ x ∈ ([(g5, .cells #[.bool U.src.v6, .int .u64 U.src.hi, .int .u64 U.src.lo, .bool U.dst.v6, .int .u64 U.dst.hi, .int .u64 U.dst.lo, .int .u8 U.proto, .int .u8 U.ttl, .string s2] 30), (g4, .cells #[.int .u8 D1.fl.proto, .bool D1.fl.src.v6, .int .u64 D1.fl.src.hi, .int .u64 D1.fl.src.lo, .bool D1.fl.dst.v6, .int .u64 D1.fl.dst.hi, .int .u64 D1.fl.dst.lo, .int .u16 D1.fl.fp, .int .u16 D1.fl.tp, .int .u8 D1.flags, .int .u8 D1.kind, .int .u8 D1.code, .int .i64 D1.size] 41), (g3, .cells #[.bool T.src.v6, .int .u64 T.src.hi, .int .u64 T.src.lo, .bool T.dst.v6, .int .u64 T.dst.hi, .int .u64 T.dst.lo, .int .u8 T.proto, .int .u8 T.ttl, .string s1] 30), (g2, .cells #[.bool v2, .int .u64 h2, .int .u64 l2, .int .u16 tp] 27), (g1, .cells #[.bool v1, .int .u64 h1, .int .u64 l1, .int .u16 f] 27)] : List (Nat × Obj)), x.1 ≠ g6 from ⟨by rw [hgg6]; exact HK12.out.2.size, fun x hx => by rw [hgg6]; exact Nat.ne_of_lt (HK12.out.lt x hx)⟩)
        clear hv13 hgg6
        have e2 := EE.out
        go_wp2_with fail
        refine (works_any _).mono ?_
        rintro e ww14 ⟨rfl, B1⟩
        simp only []
        have HK14 := Lib.hid (HK13.out.call B1)
        clear B1
        go_wp2_with fail
        go_ret
        exact ⟨rfl, HK14.out.2⟩
      · have c6 : ((n6 : Int) == 0) = true := byEq (b := 0) q6
        have c7 : ((n7 : Int) == 0) = false := byNe (b := 0) q7
        clear q6 q7
        go_upto_region 20 with (fail)
        clear c6 c7 c6c c7c z6 z7
        have hback := HS5.out.back (cap := cap5)
        rw [HL2.out.2.2.2.1] at hback
        obtain ⟨k0, k1, k2, k3, k4, k5, k6, k7, k8⟩ := pkCells (HK10.out.head)
        have f8 : ww10.frozen? ⟨g5, 8, none⟩ = false := by
          have := (HK10.out.head)
          have h : ww10.heap[g5]? = _ := this
          simp [World.frozen?, h]
        go_upto_region 21 with (fail)
        clear hback f8
        clear k0 k1 k2 k3 k4 k5 k6 k7 k8
        obtain ⟨ww11, hww⟩ : ∃ x, x = World.setCell ww10 ⟨g5, 8, none⟩ (.string s2) := ⟨_, rfl⟩
        have HK11 : Hid (KL [(g5, .cells #[.bool U.src.v6, .int .u64 U.src.hi, .int .u64 U.src.lo, .bool U.dst.v6, .int .u64 U.dst.hi, .int .u64 U.dst.lo, .int .u8 U.proto, .int .u8 U.ttl, .string s2] 30), (g4, .cells #[.int .u8 D1.fl.proto, .bool D1.fl.src.v6, .int .u64 D1.fl.src.hi, .int .u64 D1.fl.src.lo, .bool D1.fl.dst.v6, .int .u64 D1.fl.dst.hi, .int .u64 D1.fl.dst.lo, .int .u16 D1.fl.fp, .int .u16 D1.fl.tp, .int .u8 D1.flags, .int .u8 D1.kind, .int .u8 D1.code, .int .i64 D1.size] 41), (g3, .cells #[.bool T.src.v6, .int .u64 T.src.hi, .int .u64 T.src.lo, .bool T.dst.v6, .int .u64 T.dst.hi, .int .u64 T.dst.lo, .int .u8 T.proto, .int .u8 T.ttl, .string s1] 30), (g2, .cells #[.bool v2, .int .u64 h2, .int .u64 l2, .int .u16 tp] 27), (g1, .cells #[.bool v1, .int .u64 h1, .int .u64 l1, .int .u16 f] 27)] w ww11) := by rw [hww]; exact Lib.hid (KL.data HK10.out N5.out.1 N5.out.2)
        rw [← hww]
        clear hww
        obtain ⟨k0, k1, k2, k3, k4, k5, k6, k7, k8⟩ := pkCells (HK11.out.head)
        go_wp2_with fail
        clear k0 k1 k2 k3 k4 k5 k6 k7 k8
        refine (C14b.out _).mono ?_
        rintro e ww12 ⟨rfl, B1⟩
        simp only []
        have HK12 := Lib.hid (HK11.out.call B1)
        clear B1
        go_upto_region 22 with (fail)
        obtain ⟨g6, hgg6⟩ : ∃ g, g = ww12.heap.size := ⟨_, rfl⟩
        obtain ⟨ww13, hv13⟩ : ∃ x, x = (World.alloc ww12 (.cells #[.int .u8 D2.fl.proto, .bool D2.fl.src.v6, .int .u64 D2.fl.src.hi, .int .u64 D2.fl.src.lo, .bool D2.fl.dst.v6, .int .u64 D2.fl.dst.hi, .int .u64 D2.fl.dst.lo, .int .u16 D2.fl.fp, .int .u16 D2.fl.tp, .int .u8 D2.flags, .int .u8 D2.kind, .int .u8 D2.code, .int .i64 D2.size] 41)) := ⟨_, rfl⟩
        have HK13 : Hid (KL [(g6, .cells #[.int .u8 D2.fl.proto, .bool D2.fl.src.v6, .int .u64 D2.fl.src.hi, .int .u64 D2.fl.src.lo, .bool D2.fl.dst.v6, .int .u64 D2.fl.dst.hi, .int .u64 D2.fl.dst.lo, .int .u16 D2.fl.fp, .int .u16 D2.fl.tp, .int .u8 D2.flags, .int .u8 D2.kind, .int .u8 D2.code, .int .i64 D2.size] 41), (g5, .cells #[.bool U.src.v6, .int .u64 U.src.hi, .int .u64 U.src.lo, .bool U.dst.v6, .int .u64 U.dst.hi, .int .u64 U.dst.lo, .int .u8 U.proto, .int .u8 U.ttl, .string s2] 30), (g4, .cells #[.int .u8 D1.fl.proto, .bool D1.fl.src.v6, .int .u64 D1.fl.src.hi, .int .u64 D1.fl.src.lo, .bool D1.fl.dst.v6, .int .u64 D1.fl.dst.hi, .int .u64 D1.fl.dst.lo, .int .u16 D1.fl.fp, .int .u16 D1.fl.tp, .int .u8 D1.flags, .int .u8 D1.kind, .int .u8 D1.code, .int .i64 D1.size] 41), (g3, .cells #[.bool T.src.v6, .int .u64 T.src.hi, .int .u64 T.src.lo, .bool T.dst.v6, .int .u64 T.dst.hi, .int .u64 T.dst.lo, .int .u8 T.proto, .int .u8 T.ttl, .string s1] 30), (g2, .cells #[.bool v2, .int .u64 h2, .int .u64 l2, .int .u16 tp] 27), (g1, .cells #[.bool v1, .int .u64 h1, .int .u64 l1, .int .u16 f] 27)] w ww13) := by rw [hv13, hgg6]; exact Lib.hid (HK12.out.made (.cells #[.int .u8 D2.fl.proto, .bool D2.fl.src.v6, .int .u64 D2.fl.src.hi, .int .u64 D2.fl.src.lo, .bool D2.fl.dst.v6, .int .u64 D2.fl.dst.hi, .int .u64 D2.fl.dst.lo, .int .u16 D2.fl.fp, .int .u16 D2.fl.tp, .int .u8 D2.flags, .int .u8 D2.kind, .int .u8 D2.code, .int .i64 D2.size] 41))
        rw [← hv13]
        rw [← hgg6]
        have N6 := Lib.hid (show w.heap.size ≤ g6 ∧ ∀ x ∈ ([(g5, .cells #[.bool U.src.v6, .int .u64 U.src.hi, .int .u64 U.src.lo, .bool U.dst.v6, .int .u64 U.dst.hi, .int .u64 U.dst.lo, .int .u8 U.proto, .int .u8 U.ttl, .string s2] 30), (g4, .cells #[.int .u8 D1.fl.proto, .bool D1.fl.src.v6, .int .u64 D1.fl.src.hi, .int .u64 D1.fl.src.lo, .bool D1.fl.dst.v6, .int .u64 D1.fl.dst.hi, .int .u64 D1.fl.dst.lo, .int .u16 D1.fl.fp, .int .u16 D1.fl.tp, .int .u8 D1.flags, .int .u8 D1.kind, .int .u8 D1.code, .int .i64 D1.size] 41), (g3, .cells #[.bool T.src.v6, .int .u64 T.src.hi, .int .u64 T.src.lo, .bool T.dst.v6, .int .u64 T.dst.hi, .int .u64 T.dst.lo, .int .u8 T.proto, .int .u8 T.ttl, .string s1] 30), (g2, .cells #[.bool v2, .int .u64 h2, .int .u64 l2, .int .u16 tp] 27), (g1, .cells #[.bool v1, .int .u64 h1, .int .u64 l1, .int .u16 f] 27)] : List (Nat × Obj)), x.1 ≠ g6 from ⟨by rw [hgg6]; exact HK12.out.2.size, fun x hx => by rw [hgg6]; exact Nat.ne_of_lt (HK12.out.lt x hx)⟩)
        clear hv13 hgg6
        have e2 := EE.out
        go_wp2_with fail
        refine (works_any _).mono ?_
        rintro e ww14 ⟨rfl, B1⟩
        simp only []
        have HK14 := Lib.hid (HK13.out.call B1)
        clear B1
        go_wp2_with fail
        go_ret
        exact ⟨rfl, HK14.out.2⟩
    · have c6 : ((n6 : Int) == 0) = false := byNe (b := 0) q6
      clear q6
      go_upto_region 20 with (fail)
      clear c6 c6c c7c z6 z7
      have hback := HS5.out.back (cap := cap5)
      rw [HL2.out.2.2.2.1] at hback
      obtain ⟨k0, k1, k2, k3, k4, k5, k6, k7, k8⟩ := pkCells (HK10.out.head)
      have f8 : ww10.frozen? ⟨g5, 8, none⟩ = false := by
        have := (HK10.out.head)
        have h : ww10.heap[g5]? = _ := this
        simp [World.frozen?, h]
      go_upto_region 21 with (fail)
      clear hback f8
      clear k0 k1 k2 k3 k4 k5 k6 k7 k8
      obtain ⟨ww11, hww⟩ : ∃ x, x = World.setCell ww10 ⟨g5, 8, none⟩ (.string s2) := ⟨_, rfl⟩
      have HK11 : Hid (KL [(g5, .cells #[.bool U.src.v6, .int .u64 U.src.hi, .int .u64 U.src.lo, .bool U.dst.v6, .int .u64 U.dst.hi, .int .u64 U.dst.lo, .int .u8 U.proto, .int .u8 U.ttl, .string s2] 30), (g4, .cells #[.int .u8 D1.fl.proto, .bool D1.fl.src.v6, .int .u64 D1.fl.src.hi, .int .u64 D1.fl.src.lo, .bool D1.fl.dst.v6, .int .u64 D1.fl.dst.hi, .int .u64 D1.fl.dst.lo, .int .u16 D1.fl.fp, .int .u16 D1.fl.tp, .int .u8 D1.flags, .int .u8 D1.kind, .int .u8 D1.code, .int .i64 D1.size] 41), (g3, .cells #[.bool T.src.v6, .int .u64 T.src.hi, .int .u64 T.src.lo, .bool T.dst.v6, .int .u64 T.dst.hi, .int .u64 T.dst.lo, .int .u8 T.proto, .int .u8 T.ttl, .string s1] 30), (g2, .cells #[.bool v2, .int .u64 h2, .int .u64 l2, .int .u16 tp] 27), (g1, .cells #[.bool v1, .int .u64 h1, .int .u64 l1, .int .u16 f] 27)] w ww11) := by rw [hww]; exact Lib.hid (KL.data HK10.out N5.out.1 N5.out.2)
      rw [← hww]
      clear hww
      obtain ⟨k0, k1, k2, k3, k4, k5, k6, k7, k8⟩ := pkCells (HK11.out.head)
      go_wp2_with fail
      clear k0 k1 k2 k3 k4 k5 k6 k7 k8
      refine (C14b.out _).mono ?_
      rintro e ww12 ⟨rfl, B1⟩
      simp only []
      have HK12 := Lib.hid (HK11.out.call B1)
      clear B1
      go_upto_region 22 with (fail)
      obtain ⟨g6, hgg6⟩ : ∃ g, g = ww12.heap.size := ⟨_, rfl⟩
      obtain ⟨ww13, hv13⟩ : ∃ x, x = (World.alloc ww12 (.cells #[.int .u8 D2.fl.proto, .bool D2.fl.src.v6, .int .u64 D2.fl.src.hi, .int .u64 D2.fl.src.lo, .bool D2.fl.dst.v6, .int .u64 D2.fl.dst.hi, .int .u64 D2.fl.dst.lo, .int .u16 D2.fl.fp, .int .u16 D2.fl.tp, .int .u8 D2.flags, .int .u8 D2.kind, .int .u8 D2.code, .int .i64 D2.size] 41)) := ⟨_, rfl⟩
      have HK13 : Hid (KL [(g6, .cells #[.int .u8 D2.fl.proto, .bool D2.fl.src.v6, .int .u64 D2.fl.src.hi, .int .u64 D2.fl.src.lo, .bool D2.fl.dst.v6, .int .u64 D2.fl.dst.hi, .int .u64 D2.fl.dst.lo, .int .u16 D2.fl.fp, .int .u16 D2.fl.tp, .int .u8 D2.flags, .int .u8 D2.kind, .int .u8 D2.code, .int .i64 D2.size] 41), (g5, .cells #[.bool U.src.v6, .int .u64 U.src.hi, .int .u64 U.src.lo, .bool U.dst.v6, .int .u64 U.dst.hi, .int .u64 U.dst.lo, .int .u8 U.proto, .int .u8 U.ttl, .string s2] 30), (g4, .cells #[.int .u8 D1.fl.proto, .bool D1.fl.src.v6, .int .u64 D1.fl.src.hi, .int .u64 D1.fl.src.lo, .bool D1.fl.dst.v6, .int .u64 D1.fl.dst.hi, .int .u64 D1.fl.dst.lo, .int .u16 D1.fl.fp, .int .u16 D1.fl.tp, .int .u8 D1.flags, .int .u8 D1.kind, .int .u8 D1.code, .int .i64 D1.size] 41), (g3, .cells #[.bool T.src.v6, .int .u64 T.src.hi, .int .u64 T.src.lo, .bool T.dst.v6, .int .u64 T.dst.hi, .int .u64 T.dst.lo, .int .u8 T.proto, .int .u8 T.ttl, .string s1] 30), (g2, .cells #[.bool v2, .int .u64 h2, .int .u64 l2, .int .u16 tp] 27), (g1, .cells #[.bool v1, .int .u64 h1, .int .u64 l1, .int .u16 f] 27)] w ww13) := by rw [hv13, hgg6]; exact Lib.hid (HK12.out.made (.cells #[.int .u8 D2.fl.proto, .bool D2.fl.src.v6, .int .u64 D2.fl.src.hi, .int .u64 D2.fl.src.lo, .bool D2.fl.dst.v6, .int .u64 D2.fl.dst.hi, .int .u64 D2.fl.dst.lo, .int .u16 D2.fl.fp, .int .u16 D2.fl.tp, .int .u8 D2.flags, .int .u8 D2.kind, .int .u8 D2.code, .int .i64 D2.size] 41))
      rw [← hv13]
      rw [← hgg6]
      have N6 := Lib.hid (show w.heap.size ≤ g6 ∧ ∀ x ∈ ([(g5, .cells #[.bool U.src.v6, .int .u64 U.src.hi, .int .u64 U.src.lo, .bool U.dst.v6, .int .u64 U.dst.hi, .int .u64 U.dst.lo, .int .u8 U.proto, .int .u8 U.ttl, .string s2] 30), (g4, .cells #[.int .u8 D1.fl.proto, .bool D1.fl.src.v6, .int .u64 D1.fl.src.hi, .int .u64 D1.fl.src.lo, .bool D1.fl.dst.v6, .int .u64 D1.fl.dst.hi, .int .u64 D1.fl.dst.lo, .int .u16 D1.fl.fp, .int .u16 D1.fl.tp, .int .u8 D1.flags, .int .u8 D1.kind, .int .u8 D1.code, .int .i64 D1.size] 41), (g3, .cells #[.bool T.src.v6, .int .u64 T.src.hi, .int .u64 T.src.lo, .bool T.dst.v6, .int .u64 T.dst.hi, .int .u64 T.dst.lo, .int .u8 T.proto, .int .u8 T.ttl, .string s1] 30), (g2, .cells #[.bool v2, .int .u64 h2, .int .u64 l2, .int .u16 tp] 27), (g1, .cells #[.bool v1, .int .u64 h1, .int .u64 l1, .int .u16 f] 27)] : List (Nat × Obj)), x.1 ≠ g6 from ⟨by rw [hgg6]; exact HK12.out.2.size, fun x hx => by rw [hgg6]; exact Nat.ne_of_lt (HK12.out.lt x hx)⟩)
      clear hv13 hgg6
      have e2 := EE.out
      go_wp2_with fail
      refine (works_any _).mono ?_
      rintro e ww14 ⟨rfl, B1⟩
      simp only []
      have HK14 := Lib.hid (HK13.out.call B1)
      clear B1
      go_wp2_with fail
      go_ret
      exact ⟨rfl, HK14.out.2⟩
set_option maxHeartbeats 8000000 in
set_option maxRecDepth 100000 in
theorem turned_walk (a b : Ad) (f tp : Nat) (d : ByteArray) (at_ by_ : Nat) (w : World) (ha : a.Ok) (hb : b.Ok) (hf : f < 65536) (ht : tp < 65536) (hat : at_ < 65536) (hby : by_ < 256) :
    Calls Try.prog 4 #[.agg #[.bool a.v6, .int .u64 a.hi, .int .u64 a.lo, .int .u16 f], .agg #[.bool b.v6, .int .u64 b.hi, .int .u64 b.lo, .int .u16 tp], .string d, .int .u16 at_, .int .u8 by_] w fun e w' => e = .returned (.bool true) ∧ Below w.heap.size w w' := by
  obtain ⟨v1, h1, l1⟩ := a
  obtain ⟨v2, h2, l2⟩ := b
  have HK0 := Lib.hid (KL.nil w)
  by_cases hs : d.size ≤ 4096
  · by_cases hb0 : by_ = 0
    · have hz : ¬ (4096 : Int) < (d.size : Int) := by omega
      have cby : ((by_ : Int) == 0) = true := byEq (b := 0) hb0
      have CB := Lib.hid cby
      clear ha hb hf ht hat hby hs hb0 cby
      go_enter Try.func4, Try.ntmps4
      have cby := CB.out
      go_upto_region 2 with (fail)
      clear cby
      obtain ⟨g2, hgg2⟩ : ∃ g, g = w.heap.size + 1 := ⟨_, rfl⟩
      obtain ⟨g1, hgg1⟩ : ∃ g, g = w.heap.size := ⟨_, rfl⟩
      obtain ⟨ww1, hv1⟩ : ∃ x, x = (World.alloc (World.alloc w (.cells #[.bool v1, .int .u64 h1, .int .u64 l1, .int .u16 f] 27)) (.cells #[.bool v2, .int .u64 h2, .int .u64 l2, .int .u16 tp] 27)) := ⟨_, rfl⟩
      have HK1 : Hid (KL [(g2, .cells #[.bool v2, .int .u64 h2, .int .u64 l2, .int .u16 tp] 27), (g1, .cells #[.bool v1, .int .u64 h1, .int .u64 l1, .int .u16 f] 27)] w ww1) := by rw [hv1, hgg1, hgg2]; exact Lib.hid (HK0.out.made2 (.cells #[.bool v1, .int .u64 h1, .int .u64 l1, .int .u16 f] 27) (.cells #[.bool v2, .int .u64 h2, .int .u64 l2, .int .u16 tp] 27))
      rw [← hv1]
      rw [← hgg2]
      rw [← hgg1]
      clear hv1 hgg1 hgg2
      go_wp2_with fail
      refine (works_any _).mono ?_
      rintro e ww2 ⟨rfl, B1⟩
      simp only []
      have HK2 := Lib.hid (HK1.out.call B1)
      clear B1
      go_wp2_with fail
      go_ret
      exact ⟨rfl, HK2.out.2⟩
    · by_cases hm : mayE ⟨⟨v1, h1, l1⟩, ⟨v2, h2, l2⟩, 6, 64, tcpD f tp 16 d⟩ = 0
      · exact turned_main v1 h1 l1 v2 h2 l2 f tp d at_ by_ w ha hb hf ht hat hby hs hb0 hm
      · have hz : ¬ (4096 : Int) < (d.size : Int) := by omega
        have cby : ((by_ : Int) == 0) = false := byNe (b := 0) hb0
        obtain ⟨T, hT⟩ : ∃ x, x = madeP ⟨⟨v1, h1, l1⟩, ⟨v2, h2, l2⟩, 6, 64, tcpD f tp 16 d⟩ 16 := ⟨_, rfl⟩
        obtain ⟨E, hE⟩ : ∃ x, x = mayE ⟨⟨v1, h1, l1⟩, ⟨v2, h2, l2⟩, 6, 64, tcpD f tp 16 d⟩ := ⟨_, rfl⟩
        have C10 := Lib.hid (show ∀ u, Calls Try.prog 10 #[.agg #[.bool v1, .int .u64 h1, .int .u64 l1, .int .u16 f], .agg #[.bool v2, .int .u64 h2, .int .u64 l2, .int .u16 tp], .int .u8 16, .string d] u fun e w' => e = .returned (.tuple #[.agg #[.bool T.src.v6, .int .u64 T.src.hi, .int .u64 T.src.lo, .bool T.dst.v6, .int .u64 T.dst.hi, .int .u64 T.dst.lo, .int .u8 T.proto, .int .u8 T.ttl, .string T.data], .int .i64 E]) ∧ Below u.heap.size u w' from fun u => by
          have h := tcpMake_any ⟨v1, h1, l1⟩ ⟨v2, h2, l2⟩ f tp 16 d u ha hb hf ht (by decide) (by omega)
          rw [← hT, ← hE] at h
          exact h)
        have cE : ((E : Int) != 0) = true := bne_iff_ne.2 (by rw [hE]; exact hm)
        clear ha hb hf ht hat hby hs hb0 hm hT hE
        go_enter Try.func4, Try.ntmps4
        go_upto_region 3 with (fail)
        obtain ⟨g2, hgg2⟩ : ∃ g, g = w.heap.size + 1 := ⟨_, rfl⟩
        obtain ⟨g1, hgg1⟩ : ∃ g, g = w.heap.size := ⟨_, rfl⟩
        obtain ⟨ww1, hv1⟩ : ∃ x, x = (World.alloc (World.alloc w (.cells #[.bool v1, .int .u64 h1, .int .u64 l1, .int .u16 f] 27)) (.cells #[.bool v2, .int .u64 h2, .int .u64 l2, .int .u16 tp] 27)) := ⟨_, rfl⟩
        have HK1 : Hid (KL [(g2, .cells #[.bool v2, .int .u64 h2, .int .u64 l2, .int .u16 tp] 27), (g1, .cells #[.bool v1, .int .u64 h1, .int .u64 l1, .int .u16 f] 27)] w ww1) := by rw [hv1, hgg1, hgg2]; exact Lib.hid (HK0.out.made2 (.cells #[.bool v1, .int .u64 h1, .int .u64 l1, .int .u16 f] 27) (.cells #[.bool v2, .int .u64 h2, .int .u64 l2, .int .u16 tp] 27))
        rw [← hv1]
        rw [← hgg2]
        rw [← hgg1]
        clear hv1 hgg1 hgg2
        obtain ⟨a0, a1, a2, a3⟩ := epCells (HK1.out.tail.head)
        obtain ⟨b0, b1, b2, b3⟩ := epCells (HK1.out.head)
        go_wp2_with fail
        clear a0 a1 a2 a3 b0 b1 b2 b3
        refine (C10.out _).mono ?_
        rintro e ww2 ⟨rfl, B1⟩
        simp only []
        have HK2 := Lib.hid (HK1.out.call B1)
        clear B1
        go_upto_region 4 with (fail)
        obtain ⟨g3, hgg3⟩ : ∃ g, g = ww2.heap.size := ⟨_, rfl⟩
        obtain ⟨ww3, hv3⟩ : ∃ x, x = (World.alloc ww2 (.cells #[.bool T.src.v6, .int .u64 T.src.hi, .int .u64 T.src.lo, .bool T.dst.v6, .int .u64 T.dst.hi, .int .u64 T.dst.lo, .int .u8 T.proto, .int .u8 T.ttl, .string T.data] 30)) := ⟨_, rfl⟩
        have HK3 : Hid (KL [(g3, .cells #[.bool T.src.v6, .int .u64 T.src.hi, .int .u64 T.src.lo, .bool T.dst.v6, .int .u64 T.dst.hi, .int .u64 T.dst.lo, .int .u8 T.proto, .int .u8 T.ttl, .string T.data] 30), (g2, .cells #[.bool v2, .int .u64 h2, .int .u64 l2, .int .u16 tp] 27), (g1, .cells #[.bool v1, .int .u64 h1, .int .u64 l1, .int .u16 f] 27)] w ww3) := by rw [hv3, hgg3]; exact Lib.hid (HK2.out.made (.cells #[.bool T.src.v6, .int .u64 T.src.hi, .int .u64 T.src.lo, .bool T.dst.v6, .int .u64 T.dst.hi, .int .u64 T.dst.lo, .int .u8 T.proto, .int .u8 T.ttl, .string T.data] 30))
        rw [← hv3]
        rw [← hgg3]
        clear hv3 hgg3
        go_wp2_with fail
        refine (works_any _).mono ?_
        rintro e ww4 ⟨rfl, B1⟩
        simp only []
        have HK4 := Lib.hid (HK3.out.call B1)
        clear B1
        go_wp2_with fail
        go_ret
        exact ⟨rfl, HK4.out.2⟩
  · have hz : (4096 : Int) < (d.size : Int) := by omega
    clear ha hb hf ht hat hby hs
    go_enter Try.func4, Try.ntmps4
    go_upto_region 2 with (fail)
    obtain ⟨g2, hgg2⟩ : ∃ g, g = w.heap.size + 1 := ⟨_, rfl⟩
    obtain ⟨g1, hgg1⟩ : ∃ g, g = w.heap.size := ⟨_, rfl⟩
    obtain ⟨ww1, hv1⟩ : ∃ x, x = (World.alloc (World.alloc w (.cells #[.bool v1, .int .u64 h1, .int .u64 l1, .int .u16 f] 27)) (.cells #[.bool v2, .int .u64 h2, .int .u64 l2, .int .u16 tp] 27)) := ⟨_, rfl⟩
    have HK1 : Hid (KL [(g2, .cells #[.bool v2, .int .u64 h2, .int .u64 l2, .int .u16 tp] 27), (g1, .cells #[.bool v1, .int .u64 h1, .int .u64 l1, .int .u16 f] 27)] w ww1) := by rw [hv1, hgg1, hgg2]; exact Lib.hid (HK0.out.made2 (.cells #[.bool v1, .int .u64 h1, .int .u64 l1, .int .u16 f] 27) (.cells #[.bool v2, .int .u64 h2, .int .u64 l2, .int .u16 tp] 27))
    rw [← hv1]
    rw [← hgg2]
    rw [← hgg1]
    clear hv1 hgg1 hgg2
    go_wp2_with fail
    refine (works_any _).mono ?_
    rintro e ww2 ⟨rfl, B1⟩
    simp only []
    have HK2 := Lib.hid (HK1.out.call B1)
    clear B1
    go_wp2_with fail
    go_ret
    exact ⟨rfl, HK2.out.2⟩

end Go.Proofs.Ytgonakpoflacoaa
