/-
  Layer 25 (journal): the comparisons of lists, at equal lists; strings.Repeat; a device and its journal are started.
  Layer 25 (journal): a journal on a device without worn sectors; Open on a device of one sector.
-/
import Derived.Test.YtgdpgiegiacepaaDoorG17
import Derived.Test.YtgdpgiegiacepaaDoorDevX3
namespace Go.Proofs.YtgdpgiegiacepaaDoor
open Go.RowKit Go.Shelf
open Sec (mostN countN)
attribute [local go_sem] Oper.semAt_some

theorem below_drewN' {B : Nat} {a w : World} (h : Below B a w) (n : Nat) : Below B a (w.drewN n) := ⟨h.os, h.tape, h.output, h.size, h.block⟩
/-- A slice of texts that lies somewhere. -/
def TextsAt (w : World) (v : Value) (I : List ByteArray) : Prop := ∃ A c, v = .slice A I.length c ∧ I.length ≤ c ∧ c ≤ maxLen ∧ ∀ (i : Nat) (t : ByteArray), I[i]? = some t → ∃ gb, A = some ⟨gb, 0, none⟩ ∧ gb < w.heap.size ∧ w.cell? ⟨gb, i, none⟩ = some (.string t)
theorem textsAt_row {w : World} {base : Nat} {v : Value} {I : List ByteArray} (h : w.ownsRow base 9 1 v I.length (strCells I)) : TextsAt w v I := by
  have h' := h
  rcases h.2 with ⟨rfl, h0⟩ | ⟨gb, cap, cur, rfl, _, hb, h1, h2, _, _⟩
  · exact ⟨none, 0, by rw [h0], by omega, by unfold maxLen; omega, fun i t hi => by rw [List.eq_nil_of_length_eq_zero h0] at hi; simp at hi⟩
  · refine ⟨_, cap, rfl, h1, h2, fun i t hi => ⟨gb, rfl, Blk.lt hb, ?_⟩⟩
    rw [h'.cellAt i (by have := (List.getElem?_eq_some_iff.1 hi).1; omega)]
    simp [strCells, hi]
theorem TextsAt.below {w w' : World} {v : Value} {I : List ByteArray} (h : TextsAt w v I) (hB : Below w.heap.size w w') : TextsAt w' v I := by
  obtain ⟨A, c, e, h1, h2, h3⟩ := h
  refine ⟨A, c, e, h1, h2, fun i t hi => ?_⟩
  obtain ⟨gb, e1, l1, c1⟩ := h3 i t hi
  exact ⟨gb, e1, Nat.lt_of_lt_of_le l1 hB.size, (hB.cell (p := ⟨gb, i, none⟩) l1).trans c1⟩
set_option maxHeartbeats 4000000 in
theorem jsame_true (w : World) (v1 v2 : Value) (I : List ByteArray) (h1 : TextsAt w v1 I) (h2 : TextsAt w v2 I) :
    Calls Tryd.prog 19 #[v1, v2] w fun e w' => e = .returned (.bool true) ∧ Below w.heap.size w w' := by
  obtain ⟨A, c, rfl, hc1, hc2, hc3⟩ := h1
  obtain ⟨B, d, rfl, hd1, hd2, hd3⟩ := h2
  unfold maxLen at hc2 hd2
  have HA := Lib.hid hc3
  have HB := Lib.hid hd3
  clear hc3 hd3
  go_enter Tryd.func19, Tryd.ntmps19
  go_wp2_with fail
  go_loopw [5] (fun a wr => ∃ k : Nat, k ≤ I.length ∧ a = .int .i64 k ∧ Below w.heap.size w wr) (fun a _ => I.length - (intOf a).toNat)
  case atStart => exact ⟨0, Nat.zero_le _, rfl, Below.refl _ _⟩
  case round =>
    obtain ⟨k, hk, rfl, hB⟩ := hrel
    by_cases hkl : k < I.length
    · obtain ⟨t, hs⟩ : ∃ t, I[k]? = some t := ⟨_, List.getElem?_eq_getElem hkl⟩
      obtain ⟨ga, rfl, la, ha0⟩ := HA.out k t hs
      obtain ⟨gb, rfl, lb, hb0⟩ := HB.out k t hs
      have ha := (hB.cell (p := ⟨ga, k, none⟩) la).trans ha0
      have hb := (hB.cell (p := ⟨gb, k, none⟩) lb).trans hb0
      clear ha0 hb0 la lb
      clear hs
      go_wp2_with (go_quiet (fail))
      go_roundw
      case rel => exact ⟨k + 1, by omega, by go_num, below_drewN' hB _⟩
      case measure => simp [intOf]; omega
    · obtain rfl : k = I.length := by omega
      go_wp2_with fail
      go_ret
      exact ⟨rfl, hB⟩
/-- A slice of numbers that lies somewhere. -/
def NumsAt (w : World) (v : Value) (l : List Nat) : Prop := ∃ A c, v = .slice A l.length c ∧ l.length ≤ c ∧ c ≤ maxLen ∧ ∀ (i t : Nat), l[i]? = some t → ∃ gb, A = some ⟨gb, 0, none⟩ ∧ gb < w.heap.size ∧ w.cell? ⟨gb, i, none⟩ = some (.int .i64 t)
theorem numsAt_row {w : World} {base : Nat} {v : Value} {I : List Nat} (h : w.ownsRow base 3 1 v I.length (intCells I)) : NumsAt w v I := by
  have h' := h
  rcases h.2 with ⟨rfl, h0⟩ | ⟨gb, cap, cur, rfl, _, hb, h1, h2, _, _⟩
  · exact ⟨none, 0, by rw [h0], by omega, by unfold maxLen; omega, fun i t hi => by rw [List.eq_nil_of_length_eq_zero h0] at hi; simp at hi⟩
  · refine ⟨_, cap, rfl, h1, h2, fun i t hi => ⟨gb, rfl, Blk.lt hb, ?_⟩⟩
    rw [h'.cellAt i (by have := (List.getElem?_eq_some_iff.1 hi).1; omega)]
    simp [intCells, hi]
theorem NumsAt.below {w w' : World} {v : Value} {I : List Nat} (h : NumsAt w v I) (hB : Below w.heap.size w w') : NumsAt w' v I := by
  obtain ⟨A, c, e, h1, h2, h3⟩ := h
  refine ⟨A, c, e, h1, h2, fun i t hi => ?_⟩
  obtain ⟨gb, e1, l1, c1⟩ := h3 i t hi
  exact ⟨gb, e1, Nat.lt_of_lt_of_le l1 hB.size, (hB.cell (p := ⟨gb, i, none⟩) l1).trans c1⟩
set_option maxHeartbeats 4000000 in
theorem jnums_true (w : World) (v1 v2 : Value) (I : List Nat) (h1 : NumsAt w v1 I) (h2 : NumsAt w v2 I) :
    Calls Tryd.prog 22 #[v1, v2] w fun e w' => e = .returned (.bool true) ∧ Below w.heap.size w w' := by
  obtain ⟨A, c, rfl, hc1, hc2, hc3⟩ := h1
  obtain ⟨B, d, rfl, hd1, hd2, hd3⟩ := h2
  unfold maxLen at hc2 hd2
  have HA := Lib.hid hc3
  have HB := Lib.hid hd3
  clear hc3 hd3
  go_enter Tryd.func22, Tryd.ntmps22
  go_wp2_with fail
  go_loopw [5] (fun a wr => ∃ k : Nat, k ≤ I.length ∧ a = .int .i64 k ∧ Below w.heap.size w wr) (fun a _ => I.length - (intOf a).toNat)
  case atStart => exact ⟨0, Nat.zero_le _, rfl, Below.refl _ _⟩
  case round =>
    obtain ⟨k, hk, rfl, hB⟩ := hrel
    by_cases hkl : k < I.length
    · obtain ⟨t, hs⟩ : ∃ t, I[k]? = some t := ⟨_, List.getElem?_eq_getElem hkl⟩
      obtain ⟨ga, rfl, la, ha0⟩ := HA.out k t hs
      obtain ⟨gb, rfl, lb, hb0⟩ := HB.out k t hs
      have ha := (hB.cell (p := ⟨ga, k, none⟩) la).trans ha0
      have hb := (hB.cell (p := ⟨gb, k, none⟩) lb).trans hb0
      clear ha0 hb0 la lb
      clear hs
      go_wp2_with (go_quiet (fail))
      go_roundw
      case rel => exact ⟨k + 1, by omega, by go_num, below_drewN' hB _⟩
      case measure => simp [intOf]; omega
    · obtain rfl : k = I.length := by omega
      go_wp2_with fail
      go_ret
      exact ⟨rfl, hB⟩
/-- A fresh device with its journal. -/
theorem fresh_st {W w : World} {a : DAt} {n jb : Nat} {v : Value} (hn : 2 ≤ n ∧ n ≤ 40) (hd : MDev W w a (freshDev n 1 1)) (hj : JIs w jb a (n / 2) (jopen (n / 2) (freshDev n 1 1).M) v) (hb : W.heap.size ≤ jb) : JSt W w a n 0 jb v J0 (freshDev n 1 1) := by
  have e : jopen (n / 2) (freshDev n 1 1).M = J0 := fresh_open n (n / 2) (by omega) (by omega)
  rw [e] at hj
  exact ⟨hd, hj, ⟨rfl, rfl⟩, fresh_inv n (n / 2) (by omega) (by omega), fresh_low n _, hb, List.length_replicate, hn, Nat.le_refl _, Nat.le_refl _, by omega⟩
set_option maxRecDepth 100000 in
set_option maxHeartbeats 4000000 in
theorem start_any (W w : World) (hW : Below W.heap.size W w) (n : Nat) (hn : 2 ≤ n ∧ n ≤ 40) : Calls Tryd.prog 7 #[.int .i64 n] w fun e w' => ∃ (a : DAt) (jb : Nat) (v : Value), e = .returned (.tuple #[.pointer (some ⟨a.d, 0, none⟩), .pointer (some ⟨jb, 0, none⟩), .bool true]) ∧ Hid (JSt W w' a n 0 jb v J0 (freshDev n 1 1)) ∧ Hid (Below w.heap.size w w') := by
  have HN := Lib.hid (dNew_ok w n 1 1 ⟨by omega, by omega⟩ (by decide) (by decide))
  have hs := hW.size
  go_enter Tryd.func7, Tryd.ntmps7
  go_wp2_with fail
  refine HN.out.mono ?_
  rintro e w1 ⟨a, rfl, h1, ⟨l1, l2, l3, l4⟩, hB⟩
  have HO := Lib.hid (jOpen_good h1 ⟨rfl, rfl⟩ (fresh_inv n (n / 2) (by omega) (by omega)).fine (fresh_inv n (n / 2) (by omega) (by omega)).clean (n / 2) (by show (List.replicate n Sec.blank).length / 2 = _; rw [List.length_replicate]) (by omega) (by show (List.replicate n Sec.blank).length ≤ _; rw [List.length_replicate]; omega))
  go_wp2_with fail
  refine HO.out.mono ?_
  rintro e w2 ⟨jb, v, hjb, rfl, hj, hB2⟩
  have hz := hB.size
  have hM : MDev W w2 a (freshDev n 1 1) := MDev.on ⟨h1, hW.trans (hB.mono hs), by omega, by omega, by omega, by omega⟩ hB2
  have HS := Lib.hid (fresh_st hn hM hj (by omega))
  have HB := Lib.hid (hB.trans (hB2.mono hz))
  clear hj hM hB hB2 h1 HN HO
  go_wp2_with fail
  go_ret3
  exact ⟨a, jb, v, rfl, HS, HB⟩
end Go.Proofs.YtgdpgiegiacepaaDoor
namespace Go.Proofs.YtgdpgiegiacepaaDoor
open Go.RowKit Go.Shelf
open Sec (mostN countN)
attribute [local go_sem] Oper.semAt_some

/-- No sector is worn. -/
structure FSt (W w : World) (a : DAt) (n k : Nat) (jb : Nat) (v : Value) (J : Jrn) (D : Dev) : Prop where
  st : JSt W w a n k jb v J D
  whole : Unworn 0 D.M
  good : J.spoiled = false
section
variable {W w w' : World} {a : DAt} {n k jb : Nat} {v : Value} {J : Jrn} {D : Dev}
theorem FSt.on (h : FSt W w a n k jb v J D) (hB : Below w.heap.size w w') : FSt W w' a n k jb v J D := ⟨h.st.on hB, h.whole, h.good⟩
theorem FSt.more (h : FSt W w a n k jb v J D) (hk : k + 1 ≤ 100) : FSt W w a n (k + 1) jb v J D := ⟨h.st.more hk, h.whole, h.good⟩
theorem FSt.append (h : FSt W w a n k jb v J D) (t : ByteArray) (ht : t.size ≤ 8000) (hk : k + 1 ≤ 100) (hr : J.used + countN t.size ≤ n / 2) {N : Nat} {J' : Jrn} (hN : J.next = N) (hJ : (⟨J.bank, J.used + countN t.size, J.next + 1, J.l ++ [(J.next, t)], false⟩ : Jrn) = J') :
    Calls Tryd.prog 11 #[.pointer (some ⟨jb, 0, none⟩), .string t] w fun e w' => ∃ v' D', e = .returned (.tuple #[.int .i64 (N : Int), .int .i64 0]) ∧ Hid (FSt W w' a n (k + 1) jb v' J' D') ∧ Hid (JLeft w w' a jb) := by
  have e := append_unworn h.st.inv (unworn_up h.whole (Nat.zero_le _)) h.good t
  rw [if_neg (by omega)] at e
  have hw : Unworn 0 (jappend (n / 2) t J D.M).2.2 := append_worn h.st.inv h.whole
  rw [e] at hw
  refine (h.st.append t ht hk e).mono ?_
  rintro e w' ⟨v', rfl, h1, h2⟩
  subst hN hJ
  exact ⟨v', _, rfl, ⟨h1.out, hw, rfl⟩, h2⟩
theorem FSt.append_full (h : FSt W w a n k jb v J D) (t : ByteArray) (ht : t.size ≤ 8000) (hk : k + 1 ≤ 100) (hr : n / 2 < J.used + countN t.size) :
    Calls Tryd.prog 11 #[.pointer (some ⟨jb, 0, none⟩), .string t] w fun e w' => ∃ v' D', e = .returned (.tuple #[.int .i64 0, .int .i64 15]) ∧ Hid (FSt W w' a n (k + 1) jb v' J D') ∧ Hid (JLeft w w' a jb) := by
  have e := append_unworn h.st.inv (unworn_up h.whole (Nat.zero_le _)) h.good t
  rw [if_pos hr] at e
  refine (h.st.append t ht hk e).mono ?_
  rintro e w' ⟨v', rfl, h1, h2⟩
  exact ⟨v', _, rfl, ⟨h1.out, h.whole, h.good⟩, h2⟩
theorem FSt.compact (h : FSt W w a n k jb v J D) (t : ByteArray) (ht : t.size ≤ 8000) (hk : k + 1 ≤ 100) (hr : countN t.size ≤ n / 2) {N : Nat} {J' : Jrn} (hN : J.next = N) (hJ : (⟨1 - J.bank, countN t.size, J.next + 1, [(J.next, t)], false⟩ : Jrn) = J') :
    Calls Tryd.prog 12 #[.pointer (some ⟨jb, 0, none⟩), .string t] w fun e w' => ∃ v' D', e = .returned (.tuple #[.int .i64 (N : Int), .int .i64 0]) ∧ Hid (FSt W w' a n (k + 1) jb v' J' D') ∧ Hid (JLeft w w' a jb) := by
  have e := compact_unworn h.st.inv (unworn_up h.whole (Nat.zero_le _)) t
  rw [if_neg (by omega)] at e
  have hw : Unworn 0 (jcompact (n / 2) t J D.M).2.2 := compact_worn h.st.inv h.whole
  rw [e] at hw
  refine (h.st.compact t ht hk e).mono ?_
  rintro e w' ⟨v', rfl, h1, h2⟩
  subst hN hJ
  exact ⟨v', _, rfl, ⟨h1.out, hw, rfl⟩, h2⟩
theorem FSt.compact_full (h : FSt W w a n k jb v J D) (t : ByteArray) (ht : t.size ≤ 8000) (hk : k + 1 ≤ 100) (hr : n / 2 < countN t.size) :
    Calls Tryd.prog 12 #[.pointer (some ⟨jb, 0, none⟩), .string t] w fun e w' => ∃ v' D', e = .returned (.tuple #[.int .i64 0, .int .i64 15]) ∧ Hid (FSt W w' a n (k + 1) jb v' J D') ∧ Hid (JLeft w w' a jb) := by
  have e := compact_unworn h.st.inv (unworn_up h.whole (Nat.zero_le _)) t
  rw [if_pos hr] at e
  refine (h.st.compact t ht hk e).mono ?_
  rintro e w' ⟨v', rfl, h1, h2⟩
  exact ⟨v', _, rfl, ⟨h1.out, h.whole, h.good⟩, h2⟩
theorem FSt.room (h : FSt W w a n k jb v J D) : Calls Tryd.prog 9 #[.pointer (some ⟨jb, 0, none⟩)] w fun e w' => e = .returned (.int .i64 ((n / 2 - J.used : Nat) : Int)) ∧ Hid (FSt W w' a n k jb v J D) ∧ Hid (Below w.heap.size w w') := by
  refine h.st.room.mono ?_
  rintro e w' ⟨rfl, h1, h2⟩
  exact ⟨rfl, h.on h2.out, h2⟩
/-- Open, once more. -/
theorem FSt.open_ (h : FSt W w a n k jb v J D) (hl : lastN J.l + 1 = J.next) : Calls Tryd.prog 17 #[.pointer (some ⟨a.d, 0, none⟩)] w fun e w' => ∃ jc u, e = .returned (.tuple #[.pointer (some ⟨jc, 0, none⟩), .int .i64 0]) ∧ Hid (FSt W w' a n k jc u J D) ∧ Hid (Below w.heap.size w w') := by
  refine h.st.open_.mono ?_
  rintro e w' ⟨jc, u, rfl, h1, h2⟩
  refine ⟨jc, u, rfl, ?_, h2⟩
  have e1 := jopen_eq h.st.inv
  have e2 := open_low h.st.inv h.st.low
  have e3 := (open_inv h.st.inv).last
  have e4 : (jopen (n / 2) D.M).l = J.l := by rw [e1]
  rw [e4] at e3
  have e5 : jopen (n / 2) D.M = J := by
    rw [e1] at e2 e3 ⊢
    dsimp only at e2 e3
    have e6 : jnext ((nowL D.M).take (2 * (n / 2))) 1 = J.next := by omega
    have e7 := h.good
    rw [e6]
    obtain ⟨q1, q2, q3, q4, q5⟩ := J
    dsimp only at e7
    subst e7
    rfl
  rw [e5] at h1
  exact ⟨h1.out, h.whole, h.good⟩
set_option maxRecDepth 100000 in
set_option maxHeartbeats 4000000 in
/-- Open on a device of one sector. -/
theorem jOpen_none (hd : DevIs w a D) (hl : D.M.length = 1) : Calls Tryd.prog 17 #[.pointer (some ⟨a.d, 0, none⟩)] w fun e w' => e = .returned (.tuple #[.pointer none, .int .i64 1]) ∧ Below w.heap.size w w' := by
  have HS := Lib.hid (Sectors_any hd)
  rw [hl] at HS
  clear hd hl
  obtain ⟨o1, ho1⟩ : ∃ o1, o1 = Obj.cells #[.pointer (some ⟨a.d, 0, none⟩), .int .i64 0, .int .i64 0, .int .i64 0, .int .i64 1, .slice none 0 0, .bool false, .bool false] 57 := ⟨_, rfl⟩
  have hb : Hid (∀ w0, w0 = ((w.alloc o1).alloc (.cells #[.pointer (some ⟨w.heap.size, 0, none⟩)] 25)).alloc (.cells #[.slice none 0 0] 38) → w0.cell? ⟨w.heap.size + 1, 0, none⟩ = some (.pointer (some ⟨w.heap.size, 0, none⟩)) ∧ w0.cell? ⟨w.heap.size, 1, none⟩ = some (.int .i64 0) ∧ Below w.heap.size w w0) := by
    rintro w0 rfl
    subst ho1
    have b1 := (Below.refl _ w).alloc (Nat.le_refl _) (.cells #[.pointer (some ⟨a.d, 0, none⟩), .int .i64 0, .int .i64 0, .int .i64 0, .int .i64 1, .slice none 0 0, .bool false, .bool false] 57)
    have b2 := b1.alloc b1.size (.cells #[.pointer (some ⟨w.heap.size, 0, none⟩)] 25)
    have b3 := b2.alloc b2.size (.cells #[.slice none 0 0] 38)
    refine ⟨?_, ?_, b3⟩
    · have := (Blk.new (w.alloc (.cells #[.pointer (some ⟨a.d, 0, none⟩), .int .i64 0, .int .i64 0, .int .i64 0, .int .i64 1, .slice none 0 0, .bool false, .bool false] 57)) 25 #[.pointer (some ⟨w.heap.size, 0, none⟩)]).alloc (.cells #[.slice none 0 0] 38)
      rw [World.size_alloc] at this
      exact this.cell 0
    · exact (((Blk.new w 57 #[.pointer (some ⟨a.d, 0, none⟩), .int .i64 0, .int .i64 0, .int .i64 0, .int .i64 1, .slice none 0 0, .bool false, .bool false]).alloc (.cells #[.pointer (some ⟨w.heap.size, 0, none⟩)] 25)).alloc (.cells #[.slice none 0 0] 38)).cell 1
  go_enter Tryd.func17, Tryd.ntmps17
  go_wp2_with (first | (go_at_call 29; refine HS.out.mono ?_; rintro e w1 ⟨rfl, rfl⟩))
  have hq : Int.tdiv ((1 : Nat) : Int) 2 = 0 := by decide
  try rw [hq]
  rw [← ho1]
  generalize hw0 : ((w.alloc o1).alloc (.cells #[.pointer (some ⟨w.heap.size, 0, none⟩)] 25)).alloc (.cells #[.slice none 0 0] 38) = w0 at *
  obtain ⟨c1, c2, hB⟩ := hb.out w0 rfl
  clear hb hw0 HS
  go_loopw [25] (fun i wr => i = .int .i64 0 ∧ wr = w0) (fun _ _ => 0)
  case atStart => exact ⟨rfl, rfl⟩
  case round =>
    obtain ⟨rfl, rfl⟩ := hrel
    go_wp2_with fail
    go_ret2
    exact ⟨rfl, hB⟩
end
end Go.Proofs.YtgdpgiegiacepaaDoor
