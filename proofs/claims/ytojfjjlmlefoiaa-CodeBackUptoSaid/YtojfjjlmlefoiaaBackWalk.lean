/-
  CodeBack's walk: what was written, one behind the other, is read as itself, and at its end.
-/
import Derived.Test.YtojfjjlmlefoiaaStream
import Derived.Lib.Hide
import Derived.BigQuiet
import Derived.Deep.QuietTactic
import Derived.Deep.RegionHeld3
import Derived.OwnWalk
set_option linter.unusedVariables false
namespace Go.Proofs.Ytojfjjlmlefoiaa
open Go.ChangeShapes Go.WideShapes Go.ChangeAt Go.RowKit

theorem Try.info9 : (Try.prog.info? 9).map (fun i => (i.zero, i.size, i.bytes)) = some (some (.string .empty), 1, 16) := by kernel_rfl

/-- The elements of a slice of numbers, of texts. -/
def IntsAt (w : World) (ao : Option Addr) (xs : List Nat) : Prop := ∀ k (h : k < xs.length), ∃ b off, ao = some ⟨b, off, none⟩ ∧ b < w.heap.size ∧ w.cell? ⟨b, off + k, none⟩ = some (.int .u64 (xs[k] : Nat)) ∧ xs[k] < 18446744073709551616
def StrsAt (w : World) (ao : Option Addr) (ts : List ByteArray) : Prop := ∀ k (h : k < ts.length), ∃ b off, ao = some ⟨b, off, none⟩ ∧ b < w.heap.size ∧ w.cell? ⟨b, off + k, none⟩ = some (.string ts[k])

theorem kept_cell {w w' : World} {b c o : Nat} {v : Value} (h : Only b w w') (hc : w.cell? ⟨c, o, none⟩ = some v) (hne : c ≠ b) : w'.cell? ⟨c, o, none⟩ = some v :=
  (World.cell?_of_block (a := ⟨c, o, none⟩) (h.block c (World.block_lt_of_cell? _ _ hc) hne)).trans hc
theorem told_shape {w : World} {base : Nat} {v : Value} {us : List ByteArray} (h : w.ownsRow base 9 1 v us.length (us.map Value.string)) :
    ∃ ao cap, v = .slice ao us.length cap ∧ StrsAt w ao us := by
  have h0 := h
  obtain ⟨_, h2⟩ := h
  rcases h2 with ⟨hv, hn⟩ | ⟨g, cap, cur, hv, _, hh, _⟩
  · refine ⟨none, 0, by rw [hv, hn], fun k hk => by omega⟩
  · refine ⟨_, cap, hv, fun k hk => ⟨g, 0, rfl, (Array.getElem?_eq_some_iff.1 hh).1, ?_⟩⟩
    subst hv
    have := h0.cellAt k (by simpa using hk)
    simpa [hk] using this
theorem StrsAt.below {w w' : World} {ao : Option Addr} {us : List ByteArray} (h : StrsAt w ao us) (hb : Below w.heap.size w w') : StrsAt w' ao us := by
  intro k hk
  obtain ⟨b, off, h1, h2, h3⟩ := h k hk
  exact ⟨b, off, h1, Nat.lt_of_lt_of_le h2 hb.size, (hb.cell (p := ⟨b, off + k, none⟩) h2).trans h3⟩
theorem IntsAt.below {w w' : World} {ao : Option Addr} {us : List Nat} (h : IntsAt w ao us) (hb : Below w.heap.size w w') : IntsAt w' ao us := by
  intro k hk
  obtain ⟨b, off, h1, h2, h3, h4⟩ := h k hk
  exact ⟨b, off, h1, Nat.lt_of_lt_of_le h2 hb.size, (hb.cell (p := ⟨b, off + k, none⟩) h2).trans h3, h4⟩

theorem rdU64 {b x : Nat} {t : ByteArray} {w : World} (h : Rd w b 61 (beS x 8 ++ t) 0) (hm : (beS x 8 ++ t).size ≤ maxLen) (hx : x < 18446744073709551616) :
    Calls Try.prog 15 #[.pointer (some ⟨b, 0, none⟩)] w fun e w' => e = .returned (.int .u64 x) ∧ Left b 61 w w' t 0 :=
  u64_at (rd64 x t hx).1 (rd64 x t hx).2.1 (rd64 x t hx).2.2 h hm
theorem rdU32 {b x : Nat} {t : ByteArray} {w : World} (h : Rd w b 61 (beS x 4 ++ t) 0) (hm : (beS x 4 ++ t).size ≤ maxLen) :
    Calls Try.prog 16 #[.pointer (some ⟨b, 0, none⟩)] w fun e w' => e = .returned (.int .u32 (IntKind.u32.wrap (x : Int))) ∧ Left b 61 w w' t 0 := by
  have h := u32_at (rd32 x t).1 (rd32 x t).2.1 (rd32 x t).2.2 h hm
  rwa [show ((x % 4294967296 : Nat) : Int) = IntKind.u32.wrap (x : Int) by rw [IntKind.wrap_u32]; omega] at h
theorem rdU16 {b x : Nat} {t : ByteArray} {w : World} (h : Rd w b 61 (beS x 2 ++ t) 0) (hm : (beS x 2 ++ t).size ≤ maxLen) :
    Calls Try.prog 17 #[.pointer (some ⟨b, 0, none⟩)] w fun e w' => e = .returned (.int .u16 (IntKind.u16.wrap (x : Int))) ∧ Left b 61 w w' t 0 := by
  have h := u16_at (rd16 x t).1 (rd16 x t).2.1 (rd16 x t).2.2 h hm
  rwa [show ((x % 65536 : Nat) : Int) = IntKind.u16.wrap (x : Int) by rw [IntKind.wrap_u16]; omega] at h
theorem rdTxt {b : Nat} {u t : ByteArray} {w : World} (h : Rd w b 61 (beS u.size 2 ++ u ++ t) 0) (hm : (beS u.size 2 ++ u ++ t).size ≤ maxLen) (hu : u.size ≤ 32768) :
    Calls Try.prog 18 #[.pointer (some ⟨b, 0, none⟩)] w fun e w' => e = .returned (.string u) ∧ Left b 61 w w' t 0 :=
  txt_at (rdText u t hu).1 (rdText u t hu).2.1 (rdText u t hu).2.2 h hm

theorem end_empty (s : ByteArray) : (endF s 0 == 0) = s.toList.isEmpty := by
  rw [ByteArray.toList_eq]
  by_cases h : s.size = 0
  · rw [(toList_nil s).2 h]; simp [endF, h]
  · have h2 : s.data.toList ≠ [] := fun e => h ((toList_nil s).1 e)
    rw [show endF s 0 = 8 by simp [endF, h]]
    cases hl : s.data.toList with
    | nil => exact absurd hl h2
    | cons a l => rfl
theorem take_all {b : Nat} {s : ByteArray} {w : World} (h : Rd w b 61 s 0) (hm : s.size ≤ maxLen) :
    Calls Try.prog 22 #[.pointer (some ⟨b, 0, none⟩), .int .i64 s.size] w fun e w' => e = .returned (.string s) ∧ Left b 61 w w' .empty 0 := by
  have h0 : s ++ ByteArray.empty = s := ByteArray.append_empty
  have e1 := outS_front s .empty _ rfl
  have e2 := leftS_front s .empty _ rfl
  have e3 := leftF_front s .empty _ rfl
  rw [h0] at e1 e2 e3
  have h := take_meth b s 0 s.size w h hm
  rwa [e1, e2, e3] at h

set_option maxRecDepth 100000 in
theorem back_big (al tl : Option Addr) (cl ct lx : Nat) (ts : List ByteArray) (rest : ByteArray) (w : World) (hbig : 100 < lx ∨ 100 < ts.length ∨ 131072 < sumS ts + rest.size) (hlx : lx ≤ maxLen) (htm : ts.length ≤ maxLen) (hsum : sumS ts + rest.size ≤ 2097152)
    (HT : Hid (StrsAt w tl ts)) :
    Calls Try.prog 4 #[.slice al lx cl, .slice tl ts.length ct, .string rest] w fun e w' => e = .returned (.bool true) ∧ Below w.heap.size w w' := by
  unfold maxLen at hlx htm
  go_enter Try.func4, Try.ntmps4
  go_wp2_with fail
  go_loop [7, 8] (fun n i => ∃ k : Nat, k ≤ ts.length ∧ i = .int .i64 k ∧ n = .int .i64 ((rest.size + sumS (ts.take k) : Nat) : Int)) (fun _ i => ts.length - (intOf i).toNat)
  case atStart => exact ⟨0, Nat.zero_le _, rfl, by simp [sumS]⟩
  case round =>
    obtain ⟨k, hk, rfl, rfl⟩ := hrel
    have hs := sumS_take ts k
    by_cases hlt : k < ts.length
    · obtain ⟨b, off, hal, hbw, hc⟩ := HT.out k hlt
      subst hal
      have hst := Lib.hid (sumS_step ts k hlt)
      have hs2 : sumS (ts.take k) + ts[k].size ≤ sumS ts := by rw [← sumS_step ts k hlt]; exact sumS_take _ _
      obtain ⟨t, ht2⟩ : ∃ t, t = ts[k] := ⟨_, rfl⟩
      rw [← ht2] at hc hs2
      have HTT := Lib.hid ht2
      have HB := Lib.hid hbig
      clear ht2 hbig
      go_wp2_with fail
      go_round
      case rel => exact ⟨k + 1, by omega, by go_num, by rw [hst.out, ← HTT.out]; go_num⟩
      case measure => simp [intOf]; omega
    · obtain rfl : k = ts.length := by omega
      have hs3 : sumS (ts.take ts.length) = sumS ts := by rw [List.take_length]
      rw [hs3] at hs ⊢
      clear hs3 hlt
      by_cases h1 : 100 < lx
      · clear hbig
        go_wp2_with (go_at_call 7; refine (works_any _).mono ?_; rintro e w1 ⟨rfl, b1⟩)
        go_ret
        exact ⟨rfl, b1⟩
      · by_cases h2 : 100 < ts.length
        · clear hbig
          go_wp2_with (go_at_call 7; refine (works_any _).mono ?_; rintro e w1 ⟨rfl, b1⟩)
          go_ret
          exact ⟨rfl, b1⟩
        · have h3 : 131072 < sumS ts + rest.size := by omega
          clear hbig
          go_wp2_with (go_at_call 7; refine (works_any _).mono ?_; rintro e w1 ⟨rfl, b1⟩)
          go_ret
          exact ⟨rfl, b1⟩

set_option maxHeartbeats 1000000 in
set_option maxRecDepth 100000 in
theorem back_walk (al tl : Option Addr) (cl ct : Nat) (xs : List Nat) (ts : List ByteArray) (rest : ByteArray) (w : World) (hl : xs.length ≤ 100) (ht : ts.length ≤ 100) (hsum : sumS ts + rest.size ≤ 131072)
    (HX : Hid (IntsAt w al xs)) (HT : Hid (StrsAt w tl ts)) :
    Calls Try.prog 4 #[.slice al xs.length cl, .slice tl ts.length ct, .string rest] w fun e w' => e = .returned (.bool true) ∧ Below w.heap.size w w' := by
  go_enter Try.func4, Try.ntmps4
  go_wp2_with fail
  go_loop [7, 8] (fun n i => ∃ k : Nat, k ≤ ts.length ∧ i = .int .i64 k ∧ n = .int .i64 ((rest.size + sumS (ts.take k) : Nat) : Int)) (fun _ i => ts.length - (intOf i).toNat)
  case atStart => exact ⟨0, Nat.zero_le _, rfl, by simp [sumS]⟩
  case round =>
    obtain ⟨k, hk, rfl, rfl⟩ := hrel
    have hs := sumS_take ts k
    by_cases hlt : k < ts.length
    · obtain ⟨b, off, hal, hbw, hc⟩ := HT.out k hlt
      subst hal
      have hst := Lib.hid (sumS_step ts k hlt)
      have hs2 : sumS (ts.take k) + ts[k].size ≤ sumS ts := by rw [← sumS_step ts k hlt]; exact sumS_take _ _
      obtain ⟨t, ht2⟩ : ∃ t, t = ts[k] := ⟨_, rfl⟩
      rw [← ht2] at hc hs2
      have HTT := Lib.hid ht2
      clear ht2
      go_wp2_with fail
      go_round
      case rel => exact ⟨k + 1, by omega, by go_num, by rw [hst.out, ← HTT.out]; go_num⟩
      case measure => simp [intOf]; omega
    · obtain rfl : k = ts.length := by omega
      have hs3 : sumS (ts.take ts.length) = sumS ts := by rw [List.take_length]
      rw [hs3] at hs ⊢
      clear hs3 hlt
      go_wp2_with fail
      go_loopw [9, 10] (fun s i wr => ∃ k : Nat, k ≤ xs.length ∧ i = .int .i64 k ∧ s = .string (encL (xs.take k)) ∧ Below w.heap.size w wr) (fun _ i _ => xs.length - (intOf i).toNat)
      case atStart => exact ⟨0, Nat.zero_le _, rfl, rfl, Below.refl _ _⟩
      case round =>
        obtain ⟨k, hk, rfl, rfl, hb⟩ := hrel
        have hz0 : (encL (xs.take k)).size ≤ 1400 := by rw [encL_size, List.length_take]; omega
        by_cases hlt : k < xs.length
        · obtain ⟨b, off, hal, hbw, hc, hx⟩ := HX.out k hlt
          subst hal
          have hst := Lib.hid (show encL (xs.take (k + 1)) = _ by rw [List.take_succ_eq_append_getElem hlt, encL_snoc])
          obtain ⟨x, hx2⟩ : ∃ x, x = xs[k] := ⟨_, rfl⟩
          rw [← hx2] at hc hx
          have HXX := Lib.hid hx2
          clear hx2
          have z8 : (beS x 8).size ≤ 8 := Nat.le_of_eq (beS_size x 8)
          have z4 : (beS x 4).size ≤ 4 := Nat.le_of_eq (beS_size x 4)
          have z2 : (beS x 2).size ≤ 2 := Nat.le_of_eq (beS_size x 2)
          have hc := (hb.cell (p := ⟨b, off + k, none⟩) hbw).trans hc
          have hbs := hb.size
          have a1 : ∀ u, (Op.stringOp .add (encL (xs.take k)) (beS x 8)).run Try.prog u = .ok (.string (encL (xs.take k) ++ beS x 8)) u := fun u => run_string_add_sum u _ _ (by omega)
          have a2 : ∀ u, (Op.stringOp .add (encL (xs.take k) ++ beS x 8) (beS x 4)).run Try.prog u = .ok (.string (encL (xs.take k) ++ beS x 8 ++ beS x 4)) u := fun u => run_string_add_sum u _ _ (by rw [ByteArray.size_append]; omega)
          have a3 : ∀ u, (Op.stringOp .add (encL (xs.take k) ++ beS x 8 ++ beS x 4) (beS x 2)).run Try.prog u = .ok (.string (encL (xs.take k) ++ beS x 8 ++ beS x 4 ++ beS x 2)) u := fun u => run_string_add_sum u _ _ (by rw [ByteArray.size_append, ByteArray.size_append]; omega)
          go_wp2_with fail
          go_region_held3 (fun w' => w'.cell? ⟨b, off + k, none⟩ = some (.int .u64 x)) (first | assumption | (simp; done)) (first | (go_at_call 13; refine (put64 x _ hx).mono ?_; rintro e w1 ⟨rfl, b1⟩; have c1 := (b1.cell (p := ⟨b, off + k, none⟩) (Nat.lt_of_lt_of_le hbw hbs)).trans hc; have d1 := b1.size) | (go_at_call 12; refine (wput32 x _).mono ?_; rintro e w2 ⟨rfl, b2⟩; have c2 := (b2.cell (p := ⟨b, off + k, none⟩) (Nat.lt_of_lt_of_le hbw (Nat.le_trans hbs d1))).trans c1; have d2 := b2.size) | (go_at_call 10; refine (wput16 x _).mono ?_; rintro e w3 ⟨rfl, b3⟩; have c3 := (b3.cell (p := ⟨b, off + k, none⟩) (Nat.lt_of_lt_of_le hbw (Nat.le_trans hbs (Nat.le_trans d1 d2)))).trans c2))
          go_wp2_with fail
          go_roundw
          case rel => exact ⟨k + 1, by omega, by go_num, by rw [hst.out, ← HXX.out], ((hb.drew.more b1).more b2).more b3⟩
          case measure => simp [intOf]; omega
        · obtain rfl : k = xs.length := by omega
          rw [List.take_length] at hz0 ⊢
          clear hlt
          go_wp2_with fail
          obtain ⟨i0, hi, hz, hz1, hz2⟩ := info_parts Try.info9
          go_loopw [9, 11, 12] (fun s v i wr => ∃ k : Nat, k ≤ ts.length ∧ i = .int .i64 k ∧ s = .string (encL xs ++ encT ((ts.take k).filter good)) ∧ wr.ownsRow w.heap.size 9 1 v ((ts.take k).filter good).length (((ts.take k).filter good).map Value.string) ∧ Below w.heap.size w wr) (fun _ _ i _ => ts.length - (intOf i).toNat)
          case atStart => exact ⟨0, Nat.zero_le _, rfl, by simp [encT], World.ownsRow_nil _ _ _ _, hb⟩
          case round =>
            obtain ⟨k, hk, rfl, rfl, hown, hb⟩ := hrel
            have hzt : (encT ((ts.take k).filter good)).size ≤ 131272 := by
              have h1 := encT_size ((ts.take k).filter good)
              have h2 := sumS_filter (ts.take k)
              have h3 := sumS_take ts k
              have h4 : ((ts.take k).filter good).length ≤ (ts.take k).length := List.length_filter_le _ _
              rw [List.length_take] at h4
              omega
            by_cases hlt : k < ts.length
            · obtain ⟨b, off, hal, hbw, hc⟩ := HT.out k hlt
              subst hal
              have hc := (hb.cell (p := ⟨b, off + k, none⟩) hbw).trans hc
              have hbs := hb.size
              have hfs := Lib.hid (filter_step ts k hlt)
              have hlk : ((ts.take k).filter good).length ≤ 100 := by
                have h4 : ((ts.take k).filter good).length ≤ (ts.take k).length := List.length_filter_le _ _
                rw [List.length_take] at h4
                omega
              obtain ⟨t, ht2⟩ : ∃ t, t = ts[k] := ⟨_, rfl⟩
              rw [← ht2] at hc
              have HTT := Lib.hid ht2
              have htz : t.size ≤ 131072 := by
                have := sumS_step ts k hlt
                have h3 := sumS_take ts (k + 1)
                rw [ht2]
                omega
              clear ht2
              by_cases hg : t.size ≤ 32768
              · have eg : good t = true := decide_eq_true hg
                have HG := Lib.hid eg
                clear eg
                have a1 : ∀ u, (Op.stringOp .add (encL xs ++ encT ((ts.take k).filter good)) (beS t.size 2 ++ t)).run Try.prog u = .ok (.string (encL xs ++ encT ((ts.take k).filter good) ++ (beS t.size 2 ++ t))) u := fun u => run_string_add_sum u _ _ (by rw [ByteArray.size_append, ByteArray.size_append, beS_size]; omega)
                go_wp2_with fail
                refine (text_at (s := t) (o := beS t.size 2 ++ t) (f := 0) (by simp [textS, hg]) (by simp [textE, hg]) _ (by unfold maxLen; omega)).mono ?_
                rintro e w1 ⟨rfl, b1⟩
                simp only []
                have c1 := (b1.cell (p := ⟨b, off + k, none⟩) (Nat.lt_of_lt_of_le hbw hbs)).trans hc
                have d1 := b1.size
                have own1 := hown.kept (row := Option.none) ⟨b1.os, b1.tape, b1.output, b1.size, fun j hj _ => b1.block j hj⟩ (Classical.em _)
                have hd : (!decide ((t.size : Int) ≤ 32768)) = false := by rw [decide_eq_true (by omega)]; rfl
                go_wp2_with (at_builtin; refine wpList_append_own _ rfl _ _ 35 rfl w.heap.size 9 i0 (.string .empty) 1 16 Try.underlying35 hi hz hz1 hz2 rfl (by decide) _ _ _ rfl (own1.alloc _) ⟨w1.heap.size, 0, none⟩ 1 1 [.string t] rfl rfl ?c1 ?c2 ?c3 ?c4 ?c5 ?_)
                case c1 =>
                  intro j u hj
                  match j, hj with
                  | 0, hj => simp at hj; subst hj; simp [Addr.add]
                case c2 => intro u hu; simp at hu; subst hu; rfl
                case c3 => unfold maxLen; omega
                case c4 => omega
                case c5 => simp; omega
                intro v' w2 own2 gr2 _
                have b2 := (hb.more b1).alloc (by omega) (.cells #[.string t] 9)
                have b3 := b2.grown gr2 (by simp; omega) (fun j hj => (own1.lt j hj).1)
                clear own1 hown gr2
                go_wp2_with fail
                go_roundw
                case rel => exact ⟨k + 1, by omega, by go_num, by rw [hfs.out, ← HTT.out, HG.out]; simp [encT_snoc, ByteArray.append_assoc], by rw [hfs.out, ← HTT.out, HG.out]; simpa using own2, b3⟩
                case measure => simp [intOf]; omega
              · have eg : good t = false := decide_eq_false hg
                have HG := Lib.hid eg
                clear eg
                have hd : (decide ((t.size : Int) ≤ 32768)) = false := decide_eq_false (by omega)
                go_wp2_with fail
                refine (text_at (s := t) (o := .empty) (f := 4) (by simp [textS, hg]) (by simp [textE, hg]) _ (by unfold maxLen; omega)).mono ?_
                rintro e w1 ⟨rfl, b1⟩
                simp only []
                have c1 := (b1.cell (p := ⟨b, off + k, none⟩) (Nat.lt_of_lt_of_le hbw hbs)).trans hc
                have own1 := hown.kept (row := Option.none) ⟨b1.os, b1.tape, b1.output, b1.size, fun j hj _ => b1.block j hj⟩ (Classical.em _)
                go_wp2_with fail
                go_roundw
                case rel => exact ⟨k + 1, by omega, by go_num, by rw [hfs.out, ← HTT.out, HG.out]; simp, by rw [hfs.out, ← HTT.out, HG.out]; simpa using own1, hb.more b1⟩
                case measure => simp [intOf]; omega
            · obtain rfl : k = ts.length := by omega
              rw [List.take_length] at hown hzt ⊢
              clear hlt
              obtain ⟨w3, rfl⟩ : ∃ w3 : World, w3 = wr := ⟨_, rfl⟩
              have hgood : ∀ u ∈ ts.filter good, u.size ≤ 32768 := fun u hu => of_decide_eq_true (List.mem_filter.1 hu).2
              have hul : (ts.filter good).length ≤ 100 := Nat.le_trans (List.length_filter_le _ _) ht
              obtain ⟨us, hus⟩ : ∃ us, us = ts.filter good := ⟨_, rfl⟩
              rw [← hus] at hown hzt hgood hul ⊢
              clear hus
              obtain ⟨ao, cap, hv, hU⟩ := told_shape hown
              have HU := Lib.hid hU
              have HG := Lib.hid hgood
              clear hU hgood hown
              subst hv
              have a1 : ∀ u, (Op.stringOp .add (encL xs ++ encT us) rest).run Try.prog u = .ok (.string (encL xs ++ encT us ++ rest)) u := fun u => run_string_add_sum u _ _ (by rw [ByteArray.size_append]; omega)
              have HX2 := Lib.hid (HX.out.below hb)
              clear HX HT
              go_wp2_with fail
              refine (new_at (t := encL xs ++ (encT us ++ rest)) (by rw [ByteArray.append_assoc]) _).mono ?_
              rintro e w5 ⟨rfl, r5, b5⟩
              simp only []
              clear a1
              obtain ⟨B, hB⟩ : ∃ B, B = w3.heap.size := ⟨_, rfl⟩
              rw [← hB] at r5 ⊢
              have HB := Lib.hid hB
              clear hB
              go_wp2_with fail
              go_loopw [16] (fun i wq => ∃ k : Nat, k ≤ xs.length ∧ i = .int .i64 k ∧ Rd wq B 61 (encL (xs.drop k) ++ (encT us ++ rest)) 0 ∧ Below w3.heap.size w3 wq) (fun i _ => xs.length - (intOf i).toNat)
              case atStart => exact ⟨0, Nat.zero_le _, rfl, r5, b5⟩
              case round =>
                obtain ⟨k, hk, rfl, rq, bq⟩ := hrel
                clear r5 b5
                by_cases hlt : k < xs.length
                · obtain ⟨b, off, hal, hbw, hc, hx⟩ := HX2.out k hlt
                  subst hal
                  have hzl := encL_size (xs.drop (k + 1))
                  have hzk : (xs.drop (k + 1)).length ≤ 100 := by rw [List.length_drop]; omega
                  rw [List.drop_eq_getElem_cons hlt] at rq
                  obtain ⟨x, hx2⟩ : ∃ x, x = xs[k] := ⟨_, rfl⟩
                  rw [← hx2] at hc hx rq
                  clear hx2
                  obtain ⟨T, hT⟩ : ∃ T, T = encL (xs.drop (k + 1)) ++ (encT us ++ rest) := ⟨_, rfl⟩
                  have hTz : T.size ≤ 1000000 := by rw [hT, ByteArray.size_append, ByteArray.size_append]; omega
                  simp only [encL, encN, ByteArray.append_assoc] at rq
                  rw [← hT] at rq
                  have HT := Lib.hid hT
                  clear hT hzl
                  have m1 : (beS x 8 ++ (beS x 4 ++ (beS x 2 ++ T))).size ≤ maxLen := by simp only [ByteArray.size_append, beS_size]; unfold maxLen; omega
                  have m2 : (beS x 4 ++ (beS x 2 ++ T)).size ≤ maxLen := by simp only [ByteArray.size_append, beS_size]; unfold maxLen; omega
                  have m3 : (beS x 2 ++ T).size ≤ maxLen := by simp only [ByteArray.size_append, beS_size]; unfold maxLen; omega
                  have M1 := Lib.hid m1
                  have M2 := Lib.hid m2
                  have M3 := Lib.hid m3
                  clear m1 m2 m3
                  have hc := (bq.cell (p := ⟨b, off + k, none⟩) hbw).trans hc
                  have hbq := bq.size
                  have n1 : b ≠ B := by have := HB.out; omega
                  go_wp2_with fail
                  go_region_held3 (fun w' => w'.cell? ⟨b, off + k, none⟩ = some (.int .u64 x)) (first | assumption | (simp; done)) (first | (go_at_call 15; refine (rdU64 (by exact rq) M1.out hx).mono ?_; rintro e w6 ⟨rfl, h6⟩; have c6 := kept_cell h6.only (by exact hc) n1) | (go_at_call 16; refine (rdU32 h6.rd M2.out).mono ?_; rintro e w7 ⟨rfl, h7⟩; have c7 := kept_cell h7.only c6 n1) | (go_at_call 17; refine (rdU16 h7.rd M3.out).mono ?_; rintro e w8 ⟨rfl, h8⟩; have c8 := kept_cell h8.only c7 n1))
                  have r8 := h8.rd
                  have b8 : Below w3.heap.size w3 w8 := ((bq.drew.with h6.only (Nat.le_of_eq HB.out.symm)).with h7.only (Nat.le_of_eq HB.out.symm)).with h8.only (Nat.le_of_eq HB.out.symm)
                  clear h6 h7 h8 c6 c7 c8 rq
                  go_wp2_with fail
                  go_roundw
                  case rel => exact ⟨k + 1, by omega, by go_num, by rw [← HT.out]; exact r8, b8⟩
                  case measure => simp [intOf]; omega
                · obtain rfl : k = xs.length := by omega
                  rw [List.drop_length] at rq
                  simp only [encL, ByteArray.empty_append] at rq
                  clear hlt
                  go_wp2_with fail
                  go_loopw [17] (fun i wq => ∃ k : Nat, k ≤ us.length ∧ i = .int .i64 k ∧ Rd wq B 61 (encT (us.drop k) ++ rest) 0 ∧ Below w3.heap.size w3 wq) (fun i _ => us.length - (intOf i).toNat)
                  case atStart => exact ⟨0, Nat.zero_le _, rfl, rq, bq⟩
                  case round =>
                    obtain ⟨k, hk, rfl, rq, bq⟩ := hrel
                    by_cases hlt : k < us.length
                    · obtain ⟨g, goff, hal, hbw, hc⟩ := HU.out k hlt
                      subst hal
                      have hu := HG.out us[k] (List.getElem_mem hlt)
                      have hzd : (encT (us.drop k)).size ≤ (encT us).size := by
                        rw [encT_size, encT_size]
                        have h1 := sumS_append (us.take k) (us.drop k)
                        rw [List.take_append_drop] at h1
                        rw [List.length_drop]
                        omega
                      rw [List.drop_eq_getElem_cons hlt] at rq hzd
                      obtain ⟨u, hu2⟩ : ∃ u, u = us[k] := ⟨_, rfl⟩
                      rw [← hu2] at hc hu rq hzd
                      clear hu2
                      have hz2 : (encT (u :: us.drop (k + 1)) ++ rest).size ≤ maxLen := by rw [ByteArray.size_append]; unfold maxLen; omega
                      rw [encT, ByteArray.append_assoc] at rq hz2
                      have HZ := Lib.hid hz2
                      clear hz2 hzd
                      have hc := (bq.cell (p := ⟨g, goff + k, none⟩) hbw).trans hc
                      have hbq := bq.size
                      have n1 : g ≠ B := by have := HB.out; omega
                      go_wp2_with fail
                      go_region_held3 (fun w' => w'.cell? ⟨g, goff + k, none⟩ = some (.string u)) (first | assumption | (simp; done)) (first | (go_at_call 18; refine (rdTxt (by exact rq) HZ.out hu).mono ?_; rintro e w6 ⟨rfl, h6⟩; have c6 := kept_cell h6.only (by exact hc) n1))
                      have r8 := h6.rd
                      have b8 : Below w3.heap.size w3 w6 := bq.drew.with h6.only (Nat.le_of_eq HB.out.symm)
                      clear h6 c6 rq
                      go_wp2_with fail
                      go_roundw
                      case rel => exact ⟨k + 1, by omega, by go_num, r8, b8⟩
                      case measure => simp [intOf]; omega
                    · obtain rfl : k = us.length := by omega
                      rw [List.drop_length] at rq
                      simp only [encT, ByteArray.empty_append] at rq
                      clear hlt
                      go_wp2_with fail
                      have he := end_empty rest
                      refine (left_any B rest 0 _ rq).mono ?_
                      rintro e w6 ⟨rfl, rfl⟩
                      simp only []
                      go_wp2_with fail
                      refine (fault_any B rest 0 _ rq).mono ?_
                      rintro e w6 ⟨rfl, rfl⟩
                      simp only []
                      go_wp2_with fail
                      refine (end_any B rest 0 _ rq).mono ?_
                      rintro e w6 ⟨rfl, rfl⟩
                      simp only []
                      go_wp2_with fail
                      refine (take_all rq (by unfold maxLen; omega)).mono ?_
                      rintro e w6 ⟨rfl, h6⟩
                      simp only []
                      go_wp2_with fail
                      refine (end_at (f' := 0) (by decide +kernel) h6.rd).mono ?_
                      rintro e w7 ⟨rfl, rfl⟩
                      simp only []
                      go_wp2_with fail
                      refine (works_any _).mono ?_
                      rintro e w8 ⟨rfl, b8⟩
                      simp only []
                      go_wp2_with fail
                      go_ret
                      have hB := HB.out
                      exact ⟨rfl, ((hb.more bq).with h6.only (by have := hb.size; omega)).more b8⟩

end Go.Proofs.Ytojfjjlmlefoiaa
