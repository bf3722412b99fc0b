/-
  The plain law: what was made is told as its flow, its flags, its size.
-/
import Derived.Test.YtgonakpoflacoaaPlain
set_option linter.unusedVariables false
set_option linter.unusedSimpArgs false
namespace Go.Proofs.Ytgonakpoflacoaa
open Go.RowKit

theorem may_of {p : Pk} (h : mayE p = 0) : mayA p.src = true ∧ mayA p.dst = true ∧ p.src.v6 = p.dst.v6 ∧ ((if p.src.v6 then 40 else 20) + p.data.size ≤ 1500) := by
  by_cases h1 : mayA p.src = false
  · rw [mayE_1 h1] at h; exact absurd h (by decide)
  · have h1 : mayA p.src = true := by simpa using h1
    by_cases h2 : mayA p.dst = false
    · rw [mayE_2 h1 h2] at h; exact absurd h (by decide)
    · have h2 : mayA p.dst = true := by simpa using h2
      by_cases h3 : p.src.v6 = p.dst.v6
      · by_cases h4 : (if p.src.v6 then 40 else 20) + p.data.size > 1500
        · rw [mayE_4 h1 h2 h3 h4] at h; exact absurd h (by decide)
        · exact ⟨h1, h2, h3, Nat.le_of_not_lt h4⟩
      · rw [mayE_3 h1 h2 h3] at h; exact absurd h (by decide)
theorem may_data (p : Pk) (d : ByteArray) (h : d.size = p.data.size) : mayE { p with data := d } = mayE p := by
  unfold mayE
  simp only [h]
theorem n2_bt (d : ByteArray) (i : Nat) : n2 d i = bt d i * 256 + bt d (i + 1) := by unfold n2; rw [bt_byt, bt_byt]
theorem udpD_bt (f tp : Nat) (d : ByteArray) : (bt (udpD f tp d) 0 = f / 256 % 256 ∧ bt (udpD f tp d) 1 = f % 256) ∧ (bt (udpD f tp d) 2 = tp / 256 % 256 ∧ bt (udpD f tp d) 3 = tp % 256) ∧ (bt (udpD f tp d) 4 = (8 + d.size) / 256 % 256 ∧ bt (udpD f tp d) 5 = (8 + d.size) % 256) ∧ bt (udpD f tp d) 6 = 0 ∧ bt (udpD f tp d) 7 = 0 := by
  have h := fun x => bt_be2 x
  refine ⟨⟨?_, ?_⟩, ⟨?_, ?_⟩, ⟨?_, ?_⟩, ?_, ?_⟩ <;> simp [udpD, bt_append, ByteArray.size_append, beS_size, h]
theorem tcpT_bt (fl : Nat) (h : fl < 256) : bt (tcpT fl) 0 = 80 ∧ bt (tcpT fl) 1 = fl ∧ bt (tcpT fl) 4 = 0 ∧ bt (tcpT fl) 5 = 0 := by
  refine ⟨?_, ?_, ?_, ?_⟩ <;> simp [tcpT, bt]
  omega
theorem tcpD_bt (f tp fl : Nat) (d : ByteArray) (h : fl < 256) : (bt (tcpD f tp fl d) 0 = f / 256 % 256 ∧ bt (tcpD f tp fl d) 1 = f % 256) ∧ (bt (tcpD f tp fl d) 2 = tp / 256 % 256 ∧ bt (tcpD f tp fl d) 3 = tp % 256) ∧ bt (tcpD f tp fl d) 12 = 80 ∧ bt (tcpD f tp fl d) 13 = fl ∧ bt (tcpD f tp fl d) 16 = 0 ∧ bt (tcpD f tp fl d) 17 = 0 := by
  have hb := fun x => bt_be2 x
  have ht := tcpT_bt fl h
  refine ⟨⟨?_, ?_⟩, ⟨?_, ?_⟩, ?_, ?_, ?_, ?_⟩ <;> simp [tcpD, bt_append, ByteArray.size_append, beS_size, tcpT_size, hb, ht]
theorem echoT_bt (k : Nat) (h : k < 256) : bt (echoT k) 0 = k ∧ bt (echoT k) 2 = 0 ∧ bt (echoT k) 3 = 0 := by
  refine ⟨?_, ?_, ?_⟩ <;> simp [echoT, bt]
  omega
theorem echoD_bt (k id : Nat) (d : ByteArray) (h : k < 256) : bt (echoD k id d) 0 = k ∧ bt (echoD k id d) 2 = 0 ∧ bt (echoD k id d) 3 = 0 ∧ bt (echoD k id d) 4 = id / 256 % 256 ∧ bt (echoD k id d) 5 = id % 256 := by
  have hb := fun x => bt_be2 x
  have ht := echoT_bt k h
  refine ⟨?_, ?_, ?_, ?_, ?_⟩ <;> simp [echoD, bt_append, ByteArray.size_append, beS_size, echoT_size, hb, ht]
/-- What is told of a packet. -/
def ToldAs (p : Pk) (f : Fl) (fl : Nat) (sz : Int) : Prop := decE p = 0 ∧ (decH p).fl = f ∧ (decH p).flags = fl ∧ (decH p).size = sz ∧ sumQ p = 0
theorem put_keep (p : Pk) (k i : Nat) (hk : k + 2 ≤ p.data.size) (h : i ≠ k ∧ i ≠ k + 1) : bt (putS p k) i = bt p.data i := by
  rw [bt_put p k i hk, if_neg h.1, if_neg h.2]
theorem udp_told (a b : Ad) (f tp : Nat) (d : ByteArray) (hf : f < 65536) (ht : tp < 65536) (hd : d.size ≤ 9000) (hm : mayE ⟨a, b, 17, 64, udpD f tp d⟩ = 0) :
    ToldAs (madeP ⟨a, b, 17, 64, udpD f tp d⟩ 6) ⟨17, a, b, f, tp⟩ 0 d.size := by
  obtain ⟨p, hp⟩ : ∃ p : Pk, p = ⟨a, b, 17, 64, udpD f tp d⟩ := ⟨_, rfl⟩
  rw [← hp] at hm ⊢
  have hD : p.data = udpD f tp d := by rw [hp]
  have hs : p.data.size = 8 + d.size := by rw [hD, udpD_size]
  have hv := (may_of hm).2.2.1
  obtain ⟨⟨b0, b1⟩, ⟨b2, b3⟩, ⟨b4, b5⟩, b6, b7⟩ := udpD_bt f tp d
  rw [← hD] at b0 b1 b2 b3 b4 b5 b6 b7
  have hk : 6 + 2 ≤ p.data.size := by omega
  have hz := putS_size (k := 6) hk
  have hsum := put_sum p 6 hk (by decide) hv b6 b7
  have hM : madeP p 6 = { p with data := putS p 6 } := by unfold madeP; rw [if_pos hm]
  have hmay := may_data p (putS p 6) hz
  rw [hM]
  obtain ⟨q, hq⟩ : ∃ q : Pk, q = { p with data := putS p 6 } := ⟨_, rfl⟩
  rw [← hq] at hsum hmay ⊢
  rw [hm] at hmay
  have qp : q.proto = 17 := by rw [hq, hp]
  have qd : q.data = putS p 6 := by rw [hq]
  have n0 : n2 q.data 0 = f := by rw [qd, n2_bt, put_keep p 6 0 hk (by decide), put_keep p 6 1 hk (by decide), b0, b1]; omega
  have n2' : n2 q.data 2 = tp := by rw [qd, n2_bt, put_keep p 6 2 hk (by decide), put_keep p 6 3 hk (by decide), b2, b3]; omega
  have n4 : n2 q.data 4 = 8 + d.size := by rw [qd, n2_bt, put_keep p 6 4 hk (by decide), put_keep p 6 5 hk (by decide), b4, b5]; omega
  have qs : q.data.size = 8 + d.size := by rw [qd, hz, hs]
  have hE : decE q = 0 := by
    unfold decE
    rw [if_neg (by rw [hmay]; simp), if_pos qp]
    unfold udpE
    rw [if_neg (by omega), if_neg (by rw [n4, qs]; simp), if_neg (by simp [hsum])]
  have hH : decH q = udpG q (hd0 q) := by unfold decH decG; rw [if_pos hE, if_pos qp]
  refine ⟨hE, ?_, ?_, ?_, ?_⟩
  · rw [hH]
    show (⟨q.proto, q.src, q.dst, n2 q.data 0, n2 q.data 2⟩ : Fl) = _
    rw [n0, n2', hq, hp]
  · rw [hH]; rfl
  · rw [hH]
    show (q.data.size : Int) - 8 = _
    omega
  · unfold sumQ
    rw [if_pos hmay, hsum]
theorem tcp_told (a b : Ad) (f tp fl : Nat) (d : ByteArray) (hf : f < 65536) (ht : tp < 65536) (hfl : fl < 256) (hd : d.size ≤ 9000) (hm : mayE ⟨a, b, 6, 64, tcpD f tp fl d⟩ = 0) :
    ToldAs (madeP ⟨a, b, 6, 64, tcpD f tp fl d⟩ 16) ⟨6, a, b, f, tp⟩ fl d.size := by
  obtain ⟨p, hp⟩ : ∃ p : Pk, p = ⟨a, b, 6, 64, tcpD f tp fl d⟩ := ⟨_, rfl⟩
  rw [← hp] at hm ⊢
  have hD : p.data = tcpD f tp fl d := by rw [hp]
  have hs : p.data.size = 20 + d.size := by rw [hD, tcpD_size]
  have hv := (may_of hm).2.2.1
  obtain ⟨⟨b0, b1⟩, ⟨b2, b3⟩, b12, b13, b6, b7⟩ := tcpD_bt f tp fl d hfl
  rw [← hD] at b0 b1 b2 b3 b12 b13 b6 b7
  have hk : 16 + 2 ≤ p.data.size := by omega
  have hz := putS_size (k := 16) hk
  have hsum := put_sum p 16 hk (by decide) hv b6 b7
  have hM : madeP p 16 = { p with data := putS p 16 } := by unfold madeP; rw [if_pos hm]
  have hmay := may_data p (putS p 16) hz
  rw [hM]
  obtain ⟨q, hq⟩ : ∃ q : Pk, q = { p with data := putS p 16 } := ⟨_, rfl⟩
  rw [← hq] at hsum hmay ⊢
  rw [hm] at hmay
  have qp : q.proto = 6 := by rw [hq, hp]
  have qd : q.data = putS p 16 := by rw [hq]
  have n0 : n2 q.data 0 = f := by rw [qd, n2_bt, put_keep p 16 0 hk (by decide), put_keep p 16 1 hk (by decide), b0, b1]; omega
  have n2' : n2 q.data 2 = tp := by rw [qd, n2_bt, put_keep p 16 2 hk (by decide), put_keep p 16 3 hk (by decide), b2, b3]; omega
  have n12 : byt q.data 12 = 80 := by rw [qd, ← bt_byt, put_keep p 16 12 hk (by decide), b12]
  have n13 : byt q.data 13 = fl := by rw [qd, ← bt_byt, put_keep p 16 13 hk (by decide), b13]
  have hl : hdl q = 20 := by unfold hdl; rw [n12]
  have qs : q.data.size = 20 + d.size := by rw [qd, hz, hs]
  have hE : decE q = 0 := by
    unfold decE
    rw [if_neg (by rw [hmay]; simp), if_neg (by omega), if_pos qp]
    unfold tcpE
    rw [if_neg (by omega), if_neg (by omega), if_neg (by simp [hsum])]
  have hH : decH q = tcpG q (hd0 q) := by unfold decH decG; rw [if_pos hE, if_neg (by omega), if_pos qp]
  refine ⟨hE, ?_, ?_, ?_, ?_⟩
  · rw [hH]
    show (⟨q.proto, q.src, q.dst, n2 q.data 0, n2 q.data 2⟩ : Fl) = _
    rw [n0, n2', hq, hp]
  · rw [hH]
    show byt q.data 13 = fl
    exact n13
  · rw [hH]
    show (q.data.size : Int) - hdl q = _
    omega
  · unfold sumQ
    rw [if_pos hmay, hsum]
theorem echo_told (a b : Ad) (id : Nat) (d : ByteArray) (hf : id < 65536) (hd : d.size ≤ 9000) (hm : mayE ⟨a, b, echoP a.v6, 64, echoD (echoK a.v6 false) id d⟩ = 0) :
    ToldAs (madeP ⟨a, b, echoP a.v6, 64, echoD (echoK a.v6 false) id d⟩ 2) ⟨echoP a.v6, a, b, id, id⟩ 0 d.size := by
  obtain ⟨p, hp⟩ : ∃ p : Pk, p = ⟨a, b, echoP a.v6, 64, echoD (echoK a.v6 false) id d⟩ := ⟨_, rfl⟩
  rw [← hp] at hm ⊢
  have hK : echoK a.v6 false < 256 := by unfold echoK; split <;> decide
  have hD : p.data = echoD (echoK a.v6 false) id d := by rw [hp]
  have hs : p.data.size = 8 + d.size := by rw [hD, echoD_size]
  have hv := (may_of hm).2.2.1
  obtain ⟨b0, b6, b7, b4, b5⟩ := echoD_bt (echoK a.v6 false) id d hK
  rw [← hD] at b0 b4 b5 b6 b7
  have hk : 2 + 2 ≤ p.data.size := by omega
  have hz := putS_size (k := 2) hk
  have hsum := put_sum p 2 hk (by decide) hv b6 b7
  have hM : madeP p 2 = { p with data := putS p 2 } := by unfold madeP; rw [if_pos hm]
  have hmay := may_data p (putS p 2) hz
  rw [hM]
  obtain ⟨q, hq⟩ : ∃ q : Pk, q = { p with data := putS p 2 } := ⟨_, rfl⟩
  rw [← hq] at hsum hmay ⊢
  rw [hm] at hmay
  have qp : q.proto = echoP a.v6 := by rw [hq, hp]
  have qv : q.src = a := by rw [hq, hp]
  have qd : q.data = putS p 2 := by rw [hq]
  have n4 : n2 q.data 4 = id := by rw [qd, n2_bt, put_keep p 2 4 hk (by decide), put_keep p 2 5 hk (by decide), b4, b5]; omega
  have n0 : byt q.data 0 = echoK a.v6 false := by rw [qd, ← bt_byt, put_keep p 2 0 hk (by decide), b0]
  have qs : q.data.size = 8 + d.size := by rw [qd, hz, hs]
  have hI : isEcho q = true := by
    unfold isEcho
    rw [n0, qv]
    cases a.v6 <;> rfl
  have q17 : ¬ q.proto = 17 := by rw [qp]; unfold echoP; split <;> decide
  have q6 : ¬ q.proto = 6 := by rw [qp]; unfold echoP; split <;> decide
  have q58 : q.proto = 1 ∨ q.proto = 58 := by rw [qp]; unfold echoP; split <;> simp
  have hE : decE q = 0 := by
    unfold decE
    rw [if_neg (by rw [hmay]; simp), if_neg q17, if_neg q6, if_pos q58]
    unfold icmpE
    rw [if_neg (by rw [qp, qv]; unfold echoP; cases a.v6 <;> simp), if_neg (by omega), if_neg (by simp [hsum])]
  have hH : decH q = icmpG q (hd0 q) := by unfold decH decG; rw [if_pos hE, if_neg q17, if_neg q6, if_pos q58]
  refine ⟨hE, ?_, ?_, ?_, ?_⟩
  · rw [hH]
    show (if isEcho q then (⟨q.proto, q.src, q.dst, n2 q.data 4, n2 q.data 4⟩ : Fl) else _) = _
    rw [hI, if_pos rfl, n4, hq, hp]
  · rw [hH]; rfl
  · rw [hH]
    show (q.data.size : Int) - 8 = _
    omega
  · unfold sumQ
    rw [if_pos hmay, hsum]
/-- The same the other way about may be, too. -/
theorem may_back (a b : Ad) (f tp pr : Nat) (d : ByteArray) (h : mayE ⟨a, b, pr, 64, udpD f tp d⟩ = 0) : mayE ⟨b, a, pr, 64, udpD tp f d⟩ = 0 := by
  obtain ⟨h1, h2, h3, h4⟩ := may_of h
  have s1 : (udpD f tp d).size = 8 + d.size := udpD_size _ _ _
  have s2 : (udpD tp f d).size = 8 + d.size := udpD_size _ _ _
  have h1 : mayA a = true := h1
  have h2 : mayA b = true := h2
  have h3 : a.v6 = b.v6 := h3
  have h4 : (if a.v6 then 40 else 20) + (udpD f tp d).size ≤ 1500 := h4
  unfold mayE
  show (if mayA b = false then (2 : Int) else if mayA a = false then 2 else if b.v6 ≠ a.v6 then 2 else if (if b.v6 then 40 else 20) + (udpD tp f d).size > 1500 then 4 else 0) = 0
  rw [h1, h2, if_neg (by decide), if_neg (by decide), if_neg (by simp [h3]), if_neg (by rw [← h3]; omega)]

end Go.Proofs.Ytgonakpoflacoaa
