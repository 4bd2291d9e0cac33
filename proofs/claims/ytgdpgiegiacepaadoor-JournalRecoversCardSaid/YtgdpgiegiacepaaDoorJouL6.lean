/-
  Layer 25 (journal): a journal on a device whose second half is not worn.
-/
import Derived.Test.YtgdpgiegiacepaaDoorJouL5
namespace Go.Proofs.YtgdpgiegiacepaaDoor
open Go.RowKit Go.Shelf
open Sec (mostN countN)

theorem append_bank (h : Nat) (t : ByteArray) (J : Jrn) (M : List Sec) : (jappend h t J M).2.1.bank = J.bank := by
  unfold jappend
  split
  · rfl
  split
  · rfl
  split <;> rfl
theorem wear_half {M : List Sec} {o : Nat} {i : Int} (hw : Unworn o M) (hi : i < (o : Int)) : Unworn o (if isAt M i then upd Sec.wear M i else M) := by
  by_cases h : isAt M i
  · rw [if_pos h]
    obtain ⟨m, rfl⟩ := Int.eq_ofNat_of_zero_le h.1
    exact wear_unworn hw (by omega)
  · rw [if_neg h]
    exact hw
/-- No sector of the second half is worn. -/
structure GSt (W w : World) (a : DAt) (n k : Nat) (jb : Nat) (v : Value) (J : Jrn) (D : Dev) : Prop where
  st : JSt W w a n k jb v J D
  whole : Unworn (n / 2) D.M
section
variable {W w w' : World} {a : DAt} {n k jb : Nat} {v : Value} {J : Jrn} {D : Dev}
theorem GSt.on (h : GSt W w a n k jb v J D) (hB : Below w.heap.size w w') : GSt W w' a n k jb v J D := ⟨h.st.on hB, h.whole⟩
theorem GSt.more (h : GSt W w a n k jb v J D) (hk : k + 1 ≤ 100) : GSt W w a n (k + 1) jb v J D := ⟨h.st.more hk, h.whole⟩
theorem GSt.wear (h : GSt W w a n k jb v J D) (i : Int) (hi : i < ((n / 2 : Nat) : Int)) : Calls Tryd.prog 13 #[.pointer (some ⟨a.d, 0, none⟩), .int .i64 i] w fun e w' => ∃ x : Int, e = .returned (.int .i64 x) ∧ Hid (GSt W w' a n k jb v J (jwear i D)) ∧ Hid (DLeft w w' a) := by
  refine (h.st.wear i).mono ?_
  rintro e w' ⟨x, rfl, h1, h2⟩
  exact ⟨x, rfl, ⟨h1.out, wear_half h.whole hi⟩, h2⟩
theorem GSt.append (h : GSt W w a n k jb v J D) (t : ByteArray) (ht : t.size ≤ 8000) (hk : k + 1 ≤ 100) :
    Calls Tryd.prog 11 #[.pointer (some ⟨jb, 0, none⟩), .string t] w fun e w' => ∃ (num er : Int) (v' : Value) (J' : Jrn) (D' : Dev), e = .returned (.tuple #[.int .i64 num, .int .i64 er]) ∧ Hid (GSt W w' a n (k + 1) jb v' J' D') ∧ Hid (J'.bank = J.bank) ∧ Hid (JLeft w w' a jb) := by
  have hw : Unworn (n / 2) (jappend (n / 2) t J D.M).2.2 := append_worn h.st.inv h.whole
  refine (h.st.append t ht hk rfl).mono ?_
  rintro e w' ⟨v', rfl, h1, h2⟩
  exact ⟨_, _, v', _, _, rfl, ⟨h1.out, hw⟩, append_bank _ _ _ _, h2⟩
theorem GSt.compact_ok (h : GSt W w a n k jb v J D) (hb : J.bank = 0) (t : ByteArray) (ht : t.size ≤ 8000) (hk : k + 1 ≤ 100) (hr : countN t.size ≤ n / 2) {J' : Jrn} (hJ : (⟨1, countN t.size, J.next + 1, [(J.next, t)], false⟩ : Jrn) = J') :
    Calls Tryd.prog 12 #[.pointer (some ⟨jb, 0, none⟩), .string t] w fun e w' => ∃ (num : Int) (v' : Value) (D' : Dev), e = .returned (.tuple #[.int .i64 num, .int .i64 0]) ∧ Hid (GSt W w' a n (k + 1) jb v' J' D') := by
  have e := compact_unworn h.st.inv (t := t) (by rw [hb, Nat.sub_zero, Nat.one_mul]; exact h.whole)
  rw [if_neg (by omega), hb] at e
  have hw : Unworn (n / 2) (jcompact (n / 2) t J D.M).2.2 := compact_worn h.st.inv h.whole
  rw [e] at hw
  refine (h.st.compact t ht hk e).mono ?_
  rintro e w' ⟨v', rfl, h1, h2⟩
  subst hJ
  exact ⟨_, v', _, rfl, ⟨h1.out, hw⟩⟩
theorem GSt.compact_full (h : GSt W w a n k jb v J D) (hb : J.bank = 0) (t : ByteArray) (ht : t.size ≤ 8000) (hk : k + 1 ≤ 100) (hr : n / 2 < countN t.size) :
    Calls Tryd.prog 12 #[.pointer (some ⟨jb, 0, none⟩), .string t] w fun e w' => ∃ (v' : Value) (D' : Dev), e = .returned (.tuple #[.int .i64 0, .int .i64 15]) ∧ Hid (GSt W w' a n (k + 1) jb v' J D') := by
  have e := compact_unworn h.st.inv (t := t) (by rw [hb, Nat.sub_zero, Nat.one_mul]; exact h.whole)
  rw [if_pos hr] at e
  refine (h.st.compact t ht hk e).mono ?_
  rintro e w' ⟨v', rfl, h1, h2⟩
  exact ⟨v', _, rfl, ⟨h1.out, h.whole⟩⟩
theorem GSt.more_ok (h : GSt W w a n k jb v J D) (hb : J.bank = 1) (hs : J.spoiled = false) (t : ByteArray) (ht : t.size ≤ 8000) (hk : k + 1 ≤ 100) (hr : J.used + countN t.size ≤ n / 2) {J' : Jrn} (hJ : (⟨1, J.used + countN t.size, J.next + 1, J.l ++ [(J.next, t)], false⟩ : Jrn) = J') {N : Nat} (hN : J.next = N) :
    Calls Tryd.prog 11 #[.pointer (some ⟨jb, 0, none⟩), .string t] w fun e w' => ∃ (v' : Value) (D' : Dev), e = .returned (.tuple #[.int .i64 (N : Int), .int .i64 0]) ∧ Hid (GSt W w' a n (k + 1) jb v' J' D') := by
  have e := append_unworn h.st.inv (by rw [hb, Nat.one_mul]; exact h.whole) hs t
  rw [if_neg (by omega), hb] at e
  have hw : Unworn (n / 2) (jappend (n / 2) t J D.M).2.2 := append_worn h.st.inv h.whole
  rw [e] at hw
  refine (h.st.append t ht hk e).mono ?_
  rintro e w' ⟨v', rfl, h1, h2⟩
  subst hJ hN
  exact ⟨v', _, rfl, ⟨h1.out, hw⟩⟩
theorem GSt.more_full (h : GSt W w a n k jb v J D) (hb : J.bank = 1) (hs : J.spoiled = false) (t : ByteArray) (ht : t.size ≤ 8000) (hk : k + 1 ≤ 100) (hr : n / 2 < J.used + countN t.size) :
    Calls Tryd.prog 11 #[.pointer (some ⟨jb, 0, none⟩), .string t] w fun e w' => ∃ (v' : Value) (D' : Dev), e = .returned (.tuple #[.int .i64 0, .int .i64 15]) ∧ Hid (GSt W w' a n (k + 1) jb v' J D') := by
  have e := append_unworn h.st.inv (by rw [hb, Nat.one_mul]; exact h.whole) hs t
  rw [if_pos hr] at e
  refine (h.st.append t ht hk e).mono ?_
  rintro e w' ⟨v', rfl, h1, h2⟩
  exact ⟨v', _, rfl, ⟨h1.out, h.whole⟩⟩
theorem GSt.recs (h : GSt W w a n k jb v J D) {N : Nat} (hN : J.l.length = N) : Calls Tryd.prog 15 #[.pointer (some ⟨jb, 0, none⟩)] w fun e w' => ∃ A c, e = .returned (.slice A N c) ∧ Hid (GSt W w' a n k jb v J D) := by
  refine h.st.records.mono ?_
  rintro e w' ⟨u, rfl, hT, h1⟩
  obtain ⟨A, c, rfl, _⟩ := textsAt_row hT.out.1
  rw [List.length_map, hN]
  exact ⟨A, c, rfl, ⟨h1.out, h.whole⟩⟩
theorem GSt.sane (h : GSt W w a n k jb v J D) : Calls Tryd.prog 6 #[] w fun e w' => e = .returned (.bool true) ∧ Hid (GSt W w' a n k jb v J D) := by
  refine (sanity_true w).mono ?_
  rintro e w' ⟨rfl, hB⟩
  exact ⟨rfl, h.on hB⟩
end
end Go.Proofs.YtgdpgiegiacepaaDoor
