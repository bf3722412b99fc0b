/-
  The plain law of PortTurned, and bytes of a text turned in memory.
-/
import Derived.Test.YtgonakpoflacoaaPlain2
import Derived.Laws.IdiomStrings
import Derived.Laws.BitsAllLaws
set_option linter.unusedVariables false
set_option linter.unusedSimpArgs false
namespace Go.Proofs.Ytgonakpoflacoaa
open Go.RowKit

def flip (s : ByteArray) (n y : Nat) : ByteArray := ⟨(s.data.toList.set n (UInt8.ofNat y)).toArray⟩
theorem flip_size (s : ByteArray) (n y : Nat) : (flip s n y).size = s.size := by
  show (s.data.toList.set n (UInt8.ofNat y)).toArray.size = s.data.size
  simp
theorem bt_flip (s : ByteArray) (n y k : Nat) (hn : n < s.size) (hy : y < 256) : bt (flip s n y) k = if k = n then y else bt s k := by
  have hs : s.size = s.data.size := rfl
  unfold bt flip
  rw [Array.getD_eq_getD_getElem?, Array.getD_eq_getD_getElem?, List.getElem?_toArray, List.getElem?_set]
  split
  · rename_i h
    subst h
    rw [if_pos (by simpa using hn)]
    simp
    omega
  · rename_i h
    rw [if_neg (fun e => h e.symm)]
    simp
theorem turn_p (T : Pk) (n y : Nat) (hn : n < T.data.size) (hy : y < 256) (hne : y ≠ bt T.data n) (h0 : sumP T = 0) : sumP { T with data := flip T.data n y } ≠ 0 := by
  unfold sumP at *
  rw [ahead_put T _ (flip_size _ _ _)]
  refine turn_sum (s := aheadS T ++ T.data) (s' := aheadS T ++ flip T.data n y) ((aheadS T).size + n) (by rw [ByteArray.size_append]; omega) (by rw [ByteArray.size_append, ByteArray.size_append, flip_size]) (fun k hk => ?_) ?_ h0
  · rw [bt_append, bt_append]
    split
    · rfl
    · rw [bt_flip _ _ _ _ hn hy, if_neg (by omega)]
  · rw [bt_append, bt_append, if_neg (by omega), if_neg (by omega), show (aheadS T).size + n - (aheadS T).size = n by omega, bt_flip _ _ _ _ hn hy, if_pos rfl]
    exact hne
theorem turned_tcp (a b : Ad) (f tp fl : Nat) (d : ByteArray) (hf : f < 65536) (ht : tp < 65536) (hfl : fl < 256) (hd : d.size ≤ 9000) (hm : mayE ⟨a, b, 6, 64, tcpD f tp fl d⟩ = 0)
    (n y : Nat) (hn : n < (madeP ⟨a, b, 6, 64, tcpD f tp fl d⟩ 16).data.size) (hy : y < 256) (hne : y ≠ bt (madeP ⟨a, b, 6, 64, tcpD f tp fl d⟩ 16).data n) :
    decE { madeP ⟨a, b, 6, 64, tcpD f tp fl d⟩ 16 with data := flip (madeP ⟨a, b, 6, 64, tcpD f tp fl d⟩ 16).data n y } ≠ 0 := by
  obtain ⟨p, hp⟩ : ∃ p : Pk, p = ⟨a, b, 6, 64, tcpD f tp fl d⟩ := ⟨_, rfl⟩
  rw [← hp] at hm hn hne ⊢
  have hk : 16 + 2 ≤ p.data.size := by rw [hp]; show 18 ≤ (tcpD f tp fl d).size; rw [tcpD_size]; omega
  obtain ⟨_, _, _, _, b6, b7⟩ := tcpD_bt f tp fl d hfl
  have hsum := put_sum p 16 hk (by decide) (may_of hm).2.2.1 (by rw [hp]; exact b6) (by rw [hp]; exact b7)
  have hM : madeP p 16 = { p with data := putS p 16 } := by unfold madeP; rw [if_pos hm]
  rw [← hM] at hsum
  have hmT : mayE (madeP p 16) = 0 := by rw [hM, may_data p _ (putS_size hk)]; exact hm
  obtain ⟨T, hT⟩ : ∃ T, T = madeP p 16 := ⟨_, rfl⟩
  have hTp : T.proto = 6 := by rw [hT, hM, hp]
  rw [← hT] at hsum hmT hn hne ⊢
  have hs := turn_p T n y hn hy hne hsum
  obtain ⟨q, hq⟩ : ∃ q : Pk, q = { T with data := flip T.data n y } := ⟨_, rfl⟩
  have hmq : mayE q = 0 := by rw [hq, may_data T _ (flip_size _ _ _)]; exact hmT
  have hqp : q.proto = 6 := by rw [hq]; exact hTp
  rw [← hq] at hs ⊢
  unfold decE
  rw [if_neg (by rw [hmq]; simp), if_neg (by omega), if_pos hqp]
  unfold tcpE
  split
  · decide
  · split
    · decide
    · first | (rw [if_pos hs]; decide) | decide
theorem turned_udp (a b : Ad) (f tp : Nat) (d : ByteArray) (hd : d.size ≤ 9000) (hm : mayE ⟨a, b, 17, 64, udpD f tp d⟩ = 0)
    (n y : Nat) (hn : n < (madeP ⟨a, b, 17, 64, udpD f tp d⟩ 6).data.size) (hy : y < 256) (hne : y ≠ bt (madeP ⟨a, b, 17, 64, udpD f tp d⟩ 6).data n)
    (h0 : decE { madeP ⟨a, b, 17, 64, udpD f tp d⟩ 6 with data := flip (madeP ⟨a, b, 17, 64, udpD f tp d⟩ 6).data n y } = 0) :
    bt (flip (madeP ⟨a, b, 17, 64, udpD f tp d⟩ 6).data n y) 6 = 0 ∧ bt (flip (madeP ⟨a, b, 17, 64, udpD f tp d⟩ 6).data n y) 7 = 0 ∧ a.v6 = false := by
  obtain ⟨p, hp⟩ : ∃ p : Pk, p = ⟨a, b, 17, 64, udpD f tp d⟩ := ⟨_, rfl⟩
  rw [← hp] at hm hn hne h0 ⊢
  have hk : 6 + 2 ≤ p.data.size := by rw [hp]; show 8 ≤ (udpD f tp d).size; rw [udpD_size]; omega
  obtain ⟨_, _, _, b6, b7⟩ := udpD_bt f tp d
  have hsum := put_sum p 6 hk (by decide) (may_of hm).2.2.1 (by rw [hp]; exact b6) (by rw [hp]; exact b7)
  have hM : madeP p 6 = { p with data := putS p 6 } := by unfold madeP; rw [if_pos hm]
  rw [← hM] at hsum
  have hmT : mayE (madeP p 6) = 0 := by rw [hM, may_data p _ (putS_size hk)]; exact hm
  obtain ⟨T, hT⟩ : ∃ T, T = madeP p 6 := ⟨_, rfl⟩
  have hTp : T.proto = 17 := by rw [hT, hM, hp]
  have hTv : T.src.v6 = a.v6 := by rw [hT, hM, hp]
  rw [← hT] at hsum hmT hn hne h0 ⊢
  have hs := turn_p T n y hn hy hne hsum
  obtain ⟨q, hq⟩ : ∃ q : Pk, q = { T with data := flip T.data n y } := ⟨_, rfl⟩
  have hmq : mayE q = 0 := by rw [hq, may_data T _ (flip_size _ _ _)]; exact hmT
  have hqp : q.proto = 17 := by rw [hq]; exact hTp
  have hqd : q.data = flip T.data n y := by rw [hq]
  have hqv : q.src.v6 = a.v6 := by rw [hq]; exact hTv
  rw [← hq] at hs h0
  rw [← hqd]
  unfold decE at h0
  rw [if_neg (by rw [hmq]; simp), if_pos hqp] at h0
  unfold udpE at h0
  split at h0
  · exact absurd h0 (by decide)
  · split at h0
    · exact absurd h0 (by decide)
    · split at h0
      · exact absurd h0 (by decide)
      · rename_i hc
        have h6 : n2 q.data 6 = 0 := Classical.byContradiction fun h => hc ⟨hs, Or.inl h⟩
        have hv : q.src.v6 = false := by
          cases hv : q.src.v6
          · rfl
          · exact absurd ⟨hs, Or.inr hv⟩ hc
        rw [n2_bt] at h6
        have h6 : bt q.data 6 * 256 + bt q.data 7 = 0 := h6
        exact ⟨by omega, by omega, by rw [← hqv]; exact hv⟩
theorem may_less (a b : Ad) (f tp fl : Nat) (d : ByteArray) (h : mayE ⟨a, b, 6, 64, tcpD f tp fl d⟩ = 0) : mayE ⟨a, b, 17, 64, udpD f tp d⟩ = 0 := by
  obtain ⟨h1, h2, h3, h4⟩ := may_of h
  have s1 : (udpD f tp d).size = 8 + d.size := udpD_size _ _ _
  have s2 : (tcpD f tp fl d).size = 20 + d.size := tcpD_size _ _ _ _
  have h1 : mayA a = true := h1
  have h2 : mayA b = true := h2
  have h3 : a.v6 = b.v6 := h3
  have h4 : (if a.v6 then 40 else 20) + (tcpD f tp fl d).size ≤ 1500 := h4
  unfold mayE
  show (if mayA a = false then (2 : Int) else if mayA b = false then 2 else if a.v6 ≠ b.v6 then 2 else if (if a.v6 then 40 else 20) + (udpD f tp d).size > 1500 then 4 else 0) = 0
  rw [h1, h2, if_neg (by decide), if_neg (by decide), if_neg (by simp [h3]), if_neg (by omega)]
theorem xor_ne (x y : Nat) (h : y ≠ 0) : x ^^^ y ≠ x := fun e => by
  have := congrArg (fun z => x ^^^ z) e
  simp only [← Nat.xor_assoc, Nat.xor_self, Nat.zero_xor] at this
  exact h this
theorem made_may {p : Pk} {k : Nat} (h : mayE p = 0) : madeP p k = { p with data := putS p k } := by unfold madeP; rw [if_pos h]

/-- A text's bytes in a new block. -/
structure Bs (g : Nat) (s : ByteArray) (u : World) : Prop where
  cell : ∀ k, k < s.size → u.cell? ⟨g, k, none⟩ = some (.int .u8 (bt s k : Int))
  free : ∀ k, k < s.size → u.frozen? ⟨g, k, none⟩ = false
  lt : g < u.heap.size
theorem conv_w (s : ByteArray) (w : World) : ∃ (g cap : Nat) (w2 : World), (convert 9 37 (.string s)).run Try.prog w = .ok (.slice (some ⟨g, 0, none⟩) s.size cap) w2 ∧ Below w.heap.size w w2 ∧ Bs g s w2 ∧ g = w.heap.size := by
  have hconv := run_bytes_of_string (P := Try.prog) w 9 37 5 s Try.underlying9 Try.underlying37 Try.underlying5
  refine ⟨w.heap.size, grownCap w s.size 0 5, _, hconv, ((Below.refl w.heap.size w).drew).alloc (Nat.le_refl _) _, ⟨fun k hk => ?_, fun k hk => ?_, by simp⟩, rfl⟩
  · have h := bytesRow_cell w.drew s (grownCap w s.size 0 5) 5 ((bytesRow s (grownCap w s.size 0 5)).size, (bytesRow s (grownCap w s.size 0 5)).size + 1) k hk
    rw [bt_get s k hk] at h
    exact h
  · have hl := heap_alloc_last w.drew (.cells (bytesRow s (grownCap w s.size 0 5)) 5 ((bytesRow s (grownCap w s.size 0 5)).size, (bytesRow s (grownCap w s.size 0 5)).size + 1))
    have hl : (w.drew.alloc (.cells (bytesRow s (grownCap w s.size 0 5)) 5 ((bytesRow s (grownCap w s.size 0 5)).size, (bytesRow s (grownCap w s.size 0 5)).size + 1))).heap[w.heap.size]? = _ := hl
    have hz : s.size ≤ (bytesRow s (grownCap w s.size 0 5)).size := by
      unfold bytesRow
      simp
    obtain ⟨C, hC⟩ : ∃ C, C = bytesRow s (grownCap w s.size 0 5) := ⟨_, rfl⟩
    rw [← hC] at hl hz ⊢
    have hn : ¬ C.size ≤ k := by omega
    unfold World.frozen?
    show (match (w.drew.alloc (.cells C 5 (C.size, C.size + 1))).heap[w.heap.size]? with | some (.cells _ _ (lo, hi)) => decide (lo ≤ k) && decide (k < hi) | _ => false) = false
    rw [hl]
    simp [hn]
theorem Bs.turn {g : Nat} {s : ByteArray} {u : World} (h : Bs g s u) {n y : Nat} (hn : n < s.size) (hy : y < 256) : Bs g (flip s n y) (u.setCell ⟨g, n, none⟩ (.int .u8 (y : Int))) := by
  refine ⟨fun k hk => ?_, fun k hk => ?_, by simpa using h.lt⟩
  · rw [flip_size] at hk
    rw [bt_flip s n y k hn hy]
    by_cases e : k = n
    · subst e
      rw [if_pos rfl]
      exact World.cell?_setCell_same _ _ _ (by rw [h.cell k hk])
    · rw [if_neg e, World.cell?_setCell_other _ _ _ _ (by intro hh; injection hh with _ hh; exact e hh.symm)]
      exact h.cell k hk
  · rw [flip_size] at hk
    rw [World.frozen?_setCell]
    exact h.free k hk
theorem Bs.back {g cap : Nat} {s : ByteArray} {u : World} (h : Bs g s u) : (convert 37 9 (.slice (some ⟨g, 0, none⟩) s.size cap)).run Try.prog u = .ok (.string s) u := by
  have hl : s.data.toList.length = s.size := by simp
  have := run_convert_bytes_back (P := Try.prog) u 37 9 5 ⟨g, 0, none⟩ cap s.data.toList Try.underlying37 Try.underlying5 Try.underlying9 (fun j hj => by
    have hj' : j < s.size := by omega
    rw [Addr.add_mid, Nat.zero_add, h.cell j hj', ← bt_get s j hj']
    rfl)
  rw [hl] at this
  rw [this]
theorem KL.set {L : List (Nat × Obj)} {w u : World} (h : KL L w u) {g o : Nat} {v : Value} (hg : w.heap.size ≤ g) (hne : ∀ x ∈ L, x.1 ≠ g) : KL L w (u.setCell ⟨g, o, none⟩ v) :=
  ⟨fun x hx => by rw [Below.heap_setCell _ _ _ _ (hne x hx)]; exact h.1 x hx, h.2.setCell (p := ⟨g, o, none⟩) hg v⟩
theorem KL.lt {L : List (Nat × Obj)} {w u : World} (h : KL L w u) : ∀ x ∈ L, x.1 < u.heap.size := fun x hx => lt_of_heap (h.1 x hx)
theorem KL.data {L : List (Nat × Obj)} {w u : World} {g : Nat} {c0 c1 c2 c3 c4 c5 c6 c7 c8 v : Value} (h : KL ((g, .cells #[c0, c1, c2, c3, c4, c5, c6, c7, c8] 30) :: L) w u) (hg : w.heap.size ≤ g) (hne : ∀ x ∈ L, x.1 ≠ g) :
    KL ((g, .cells #[c0, c1, c2, c3, c4, c5, c6, c7, v] 30) :: L) w (u.setCell ⟨g, 8, none⟩ v) := by
  have h1 := h.head
  have h1 : u.heap[g]? = _ := h1
  have hs := (h.tail).set (o := 8) (v := v) hg hne
  refine ⟨fun x hx => ?_, hs.2⟩
  rcases List.mem_cons.1 hx with rfl | hx
  · simp [World.setCell, Array.getElem?_modify, h1]
  · exact hs.1 x hx

end Go.Proofs.Ytgonakpoflacoaa
