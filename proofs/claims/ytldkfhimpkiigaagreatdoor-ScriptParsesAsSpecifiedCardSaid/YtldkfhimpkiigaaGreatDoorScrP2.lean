/-
  Layer 46 (script): runes and bytes: what a test of all runes says of the bytes; the fields between blanks (plain).
-/
import Derived.Test.YtldkfhimpkiigaaGreatDoorScrP1
import Derived.Lib.DecodeN
import Derived.Lib.FieldsP
import Derived.Lib.TrimByte
import Derived.Shelf.GgClosure.StringsIndexFunc
namespace Go.Proofs.YtldkfhimpkiigaaGreatDoor
namespace ScrP
open Go.Lib (idxFunc idxFuncFrom goFieldsP spansOfP spansFromP closeSpans decodeN decode_at)

theorem blen (s : ByteArray) : s.data.toList.length = s.size := Array.length_toList
theorem get_at {s : ByteArray} {i : Nat} (h : i < s.size) : s.data.toList[i]? = some (s.get! i) := by
  have h2 : i < s.data.toList.length := by rw [blen]; exact h
  rw [List.getElem?_eq_getElem h2]
  congr 1
  show s.data.toList[i] = s.data[i]!
  have h3 : i < s.data.size := h
  rw [getElem!_pos s.data i h3, Array.getElem_toList]
theorem drop_get {s : ByteArray} {i : Nat} (h : i < s.size) : s.data.toList.drop i = s.get! i :: s.data.toList.drop (i + 1) := by
  obtain ⟨h1, h2⟩ := List.getElem?_eq_some_iff.1 (get_at h)
  rw [List.drop_eq_getElem_cons h1, h2]
theorem dec_low {s : ByteArray} {i : Nat} (hb : (s.get! i).toNat < 128) : Utf8.decode s i = ((s.get! i).toNat, 1) := by
  rw [decode_at]
  unfold decodeN
  rw [if_pos hb]
theorem decN_high {n b0 b1 b2 b3 : Nat} (hn : 1 ≤ n) (hb : 128 ≤ b0) : 128 ≤ (decodeN n b0 b1 b2 b3).1 ∧ 1 ≤ (decodeN n b0 b1 b2 b3).2 ∧ (decodeN n b0 b1 b2 b3).2 ≤ n ∧ (1 < (decodeN n b0 b1 b2 b3).2 → 128 ≤ b1) ∧ (2 < (decodeN n b0 b1 b2 b3).2 → 128 ≤ b2) ∧ (3 < (decodeN n b0 b1 b2 b3).2 → 128 ≤ b3) ∧ (decodeN n b0 b1 b2 b3).2 ≤ 4 := by
  unfold decodeN
  rw [if_neg (by omega)]
  repeat' split
  all_goals (dsimp only; omega)
theorem dec_high {s : ByteArray} {i : Nat} (h : i < s.size) (hb : 128 ≤ (s.get! i).toNat) : 128 ≤ (Utf8.decode s i).1 ∧ 1 ≤ (Utf8.decode s i).2 ∧ i + (Utf8.decode s i).2 ≤ s.size ∧ ∀ j, 0 < j → j < (Utf8.decode s i).2 → 128 ≤ (s.get! (i + j)).toNat := by
  have hd := decN_high (n := s.size - i) (b1 := (s.get! (i + 1)).toNat) (b2 := (s.get! (i + 2)).toNat) (b3 := (s.get! (i + 3)).toNat) (by omega) hb
  rw [← decode_at] at hd
  obtain ⟨h1, h2, h3, h4, h5, h6, h7⟩ := hd
  refine ⟨h1, h2, by omega, fun j hj hj2 => ?_⟩
  have : j = 1 ∨ j = 2 ∨ j = 3 := by omega
  rcases this with rfl | rfl | rfl
  · exact h4 hj2
  · exact h5 hj2
  · exact h6 hj2
/-- A test of runes that all runes from 128 on pass, as one of bytes. -/
theorem any_runes {p : Nat → Bool} {q : UInt8 → Bool} (s : ByteArray) (h1 : ∀ c : UInt8, c.toNat < 128 → p c.toNat = q c) (h2 : ∀ r, 128 ≤ r → p r = true) (h3 : ∀ c : UInt8, 128 ≤ c.toNat → q c = true) :
    ∀ (f pos : Nat), s.size - pos ≤ f → decide (0 ≤ idxFuncFrom p true s f pos) = (s.data.toList.drop pos).any q
  | 0, pos, hf => by
    rw [List.drop_eq_nil_of_le (by rw [blen]; omega)]
    rfl
  | f + 1, pos, hf => by
    unfold idxFuncFrom
    by_cases hlt : pos < s.size
    · rw [if_pos hlt, drop_get hlt, List.any_cons]
      by_cases hb : (s.get! pos).toNat < 128
      · rw [dec_low hb, h1 _ hb]
        cases hq : q (s.get! pos)
        · rw [if_neg (by decide), any_runes s h1 h2 h3 f (pos + 1) (by omega)]
          rfl
        · rw [if_pos rfl, decide_eq_true (by omega)]
          rfl
      · obtain ⟨a, _, _, _⟩ := dec_high hlt (by omega)
        rw [if_pos (h2 _ a), h3 _ (by omega), decide_eq_true (by omega)]
        rfl
    · rw [if_neg hlt, List.drop_eq_nil_of_le (by rw [blen]; omega)]
      rfl
def oddR (r : Nat) : Bool := !(r == 10) && (decide (r < 32) || decide (126 < r))
theorem odd_runes (t : ByteArray) : decide (0 ≤ idxFunc oddR true t) = oddT t := by
  have h := any_runes (p := oddR) (q := oddB) t (fun c hc => by
    unfold oddR oddB
    congr 2
    rw [Bool.eq_iff_iff, beq_iff_eq, beq_iff_eq, ← UInt8.toNat_inj]
    rfl) (fun r hr => by
    unfold oddR
    rw [decide_eq_true (show 126 < r by omega), show (r == 10) = false from beq_eq_false_iff_ne.2 (by omega), Bool.or_true]
    rfl) (fun c hc => by
    unfold oddB
    rw [decide_eq_true (show 126 < c.toNat by omega), show (c == 10) = false from beq_eq_false_iff_ne.2 (fun e => by rw [e] at hc; exact absurd hc (by decide)), Bool.or_true]
    rfl) t.size 0 (by omega)
  rw [List.drop_zero] at h
  exact h

/-! The fields between blanks. -/
def wordsGo : Option (List UInt8) → List UInt8 → List (List UInt8)
  | none, [] => []
  | some c, [] => [c]
  | none, x :: r => if x = 32 then wordsGo none r else wordsGo (some [x]) r
  | some c, x :: r => if x = 32 then c :: wordsGo none r else wordsGo (some (c ++ [x])) r
theorem wordsGo_run : ∀ (x c r : List UInt8), (∀ b ∈ x, b ≠ 32) → wordsGo (some c) (x ++ r) = wordsGo (some (c ++ x)) r
  | [], c, r, _ => by rw [List.append_nil]; rfl
  | a :: x, c, r, h => by
    rw [List.cons_append, wordsGo, if_neg (h a (List.mem_cons_self ..)), wordsGo_run x _ r (fun b hb => h b (List.mem_cons_of_mem _ hb)), List.append_assoc]
    rfl
theorem partsB_ne (c : UInt8) : ∀ l : List UInt8, partsB c l ≠ []
  | [] => by simp [partsB]
  | x :: r => by
    unfold partsB
    split
    · simp
    · split <;> simp
theorem partsB_hit (c : UInt8) (r : List UInt8) : partsB c (c :: r) = [] :: partsB c r := by rw [partsB, if_pos rfl]
theorem partsB_miss {c x : UInt8} (r : List UInt8) (h : x ≠ c) : ∃ a t, partsB c r = a :: t ∧ partsB c (x :: r) = (x :: a) :: t := by
  cases e : partsB c r with
  | nil => exact absurd e (partsB_ne c r)
  | cons a t => exact ⟨a, t, rfl, by rw [partsB, if_neg h, e]⟩
theorem wordsGo_some : ∀ (l c : List UInt8) (a : List UInt8) (t : List (List UInt8)), partsB 32 l = a :: t → c ≠ [] → wordsGo (some c) l = (c ++ a) :: t.filter fun w => !w.isEmpty := by
  have key : ∀ (n : Nat) (l : List UInt8), l.length ≤ n → (∀ (c a : List UInt8) (t : List (List UInt8)), partsB 32 l = a :: t → c ≠ [] → wordsGo (some c) l = (c ++ a) :: t.filter fun w => !w.isEmpty) ∧ wordsGo none l = (partsB 32 l).filter fun w => !w.isEmpty := by
    intro n
    induction n with
    | zero =>
      intro l hl
      have : l = [] := List.eq_nil_of_length_eq_zero (Nat.le_zero.1 hl)
      subst this
      exact ⟨fun c a t h _ => by cases h; rw [List.append_nil]; rfl, rfl⟩
    | succ n ih =>
      intro l hl
      cases l with
      | nil => exact ⟨fun c a t h _ => by cases h; rw [List.append_nil]; rfl, rfl⟩
      | cons x r =>
        have hr : r.length ≤ n := by simpa using hl
        obtain ⟨i1, i2⟩ := ih r hr
        by_cases hx : x = 32
        · subst hx
          rw [partsB_hit]
          refine ⟨fun c a t h hc => ?_, ?_⟩
          · cases h
            rw [wordsGo, if_pos rfl, List.append_nil, i2]
          · rw [wordsGo, if_pos rfl, i2]
            rfl
        · obtain ⟨a, t, e1, e2⟩ := partsB_miss r hx
          rw [e2]
          refine ⟨fun c a' t' h hc => ?_, ?_⟩
          · cases h
            rw [wordsGo, if_neg hx, i1 _ a t e1 (by simp), List.append_assoc]
            rfl
          · rw [wordsGo, if_neg hx, i1 _ a t e1 (by simp)]
            rfl
  exact fun l c a t h hc => (key l.length l (Nat.le_refl _)).1 c a t h hc
theorem wordsGo_none (l : List UInt8) : wordsGo none l = wordsB l := by
  unfold wordsB
  induction l with
  | nil => rfl
  | cons x r ih =>
    by_cases hx : x = 32
    · subst hx
      rw [partsB_hit, wordsGo, if_pos rfl, ih]
      rfl
    · obtain ⟨a, t, e1, e2⟩ := partsB_miss r hx
      rw [e2, wordsGo, if_neg hx, wordsGo_some r [x] a t e1 (by simp)]
      rfl
def curP (s : ByteArray) (st : Option Nat) (pos : Nat) : Option (List UInt8) := st.map fun a => (s.extract a pos).data.toList
theorem curP_some (s : ByteArray) (a pos : Nat) : curP s (some a) pos = some (s.extract a pos).data.toList := rfl
theorem curP_none (s : ByteArray) (pos : Nat) : curP s none pos = none := rfl
theorem ext_list (s : ByteArray) (a b : Nat) : (s.extract a b).data.toList = (s.data.toList.drop a).take (b - a) := by
  rw [ByteArray.data_extract, Array.toList_extract, List.extract_eq_take_drop]
theorem take_more' (l : List UInt8) (a pos w : Nat) (ha : a ≤ pos) (_hp : pos ≤ l.length) : (l.drop a).take (pos + w - a) = (l.drop a).take (pos - a) ++ (l.drop pos).take w := by
  rw [show pos + w - a = (pos - a) + w by omega, List.take_add, List.drop_drop, show a + (pos - a) = pos by omega]
theorem spans_words (s : ByteArray) : ∀ (f pos : Nat) (st : Option Nat) (acc : List (Nat × Nat)), s.size - pos ≤ f → pos ≤ s.size → (∀ a, st = some a → a ≤ pos) →
    (closeSpans s (spansFromP (fun r => r == 32) s f pos st acc)).map (fun x => (s.extract x.1 x.2).data.toList) = acc.map (fun x => (s.extract x.1 x.2).data.toList) ++ wordsGo (curP s st pos) (s.data.toList.drop pos)
  | 0, pos, st, acc, hf, hp, hst => by
    have e : pos = s.size := by omega
    subst e
    rw [List.drop_eq_nil_of_le (by rw [blen]; exact Nat.le_refl _)]
    unfold spansFromP
    cases st with
    | none => simp [closeSpans, curP, wordsGo]
    | some a => simp [closeSpans, curP, wordsGo]
  | f + 1, pos, st, acc, hf, hp, hst => by
    unfold spansFromP
    by_cases hlt : pos < s.size
    · rw [if_pos hlt]
      by_cases hb : (s.get! pos).toNat < 128
      · rw [dec_low hb, drop_get hlt]
        dsimp only
        by_cases h32 : (s.get! pos) = 32
        · have hn : ((s.get! pos).toNat == 32) = true := by rw [h32]; rfl
          rw [if_pos hn]
          cases st with
          | none =>
            dsimp only
            rw [spans_words s f (pos + 1) none acc (by omega) (by omega) (fun a e => by cases e)]
            simp only [curP_none]
            rw [show wordsGo none (s.get! pos :: s.data.toList.drop (pos + 1)) = wordsGo none (s.data.toList.drop (pos + 1)) by rw [wordsGo, if_pos h32]]
          | some a =>
            dsimp only
            rw [spans_words s f (pos + 1) none _ (by omega) (by omega) (fun a e => by cases e)]
            simp only [curP_some, curP_none]
            rw [show wordsGo (some (s.extract a pos).data.toList) (s.get! pos :: s.data.toList.drop (pos + 1)) = (s.extract a pos).data.toList :: wordsGo none (s.data.toList.drop (pos + 1)) by rw [wordsGo, if_pos h32]]
            simp
        · have hn : ((s.get! pos).toNat == 32) = false := beq_eq_false_iff_ne.2 fun e => h32 (UInt8.toNat_inj.1 e)
          rw [hn, if_neg (by decide)]
          cases st with
          | none =>
            dsimp only
            rw [spans_words s f (pos + 1) (some pos) acc (by omega) (by omega) (fun a e => by cases e; omega)]
            simp only [curP_some, curP_none]
            rw [show wordsGo none (s.get! pos :: s.data.toList.drop (pos + 1)) = wordsGo (some [s.get! pos]) (s.data.toList.drop (pos + 1)) by rw [wordsGo, if_neg h32], ext_list, show pos + 1 - pos = 1 by omega, drop_get hlt]
            rfl
          | some a =>
            dsimp only
            rw [spans_words s f (pos + 1) (some a) acc (by omega) (by omega) (fun b e => by cases e; have := hst a rfl; omega)]
            simp only [curP_some]
            rw [show wordsGo (some (s.extract a pos).data.toList) (s.get! pos :: s.data.toList.drop (pos + 1)) = wordsGo (some ((s.extract a pos).data.toList ++ [s.get! pos])) (s.data.toList.drop (pos + 1)) by rw [wordsGo, if_neg h32], ext_list, ext_list, take_more' _ _ _ _ (hst a rfl) (by rw [blen]; exact hp), drop_get hlt]
            rfl
      · obtain ⟨h1, h2, h3, h4⟩ := dec_high hlt (by omega)
        obtain ⟨w, hw⟩ : ∃ w, (Utf8.decode s pos).2 = w := ⟨_, rfl⟩
        rw [hw] at h2 h3 h4
        rw [hw]
        have hn : ((Utf8.decode s pos).1 == 32) = false := beq_eq_false_iff_ne.2 (by omega)
        rw [hn, if_neg (by decide)]
        have hx : ∀ b ∈ (s.data.toList.drop pos).take w, b ≠ 32 := fun b hm e => by
          obtain ⟨j, hj⟩ := List.mem_iff_getElem?.1 hm
          have hjw : j < w := by
            have := (List.getElem?_eq_some_iff.1 hj).1
            rw [List.length_take] at this
            omega
          rw [List.getElem?_take, if_pos hjw, List.getElem?_drop, get_at (by omega)] at hj
          have hv : 128 ≤ (s.get! (pos + j)).toNat := by
            by_cases j0 : j = 0
            · subst j0; rw [Nat.add_zero]; omega
            · exact h4 j (by omega) hjw
          rw [Option.some.inj hj, e] at hv
          exact absurd hv (by decide)
        have hsp : s.data.toList.drop pos = (s.data.toList.drop pos).take w ++ s.data.toList.drop (pos + w) := by rw [← List.drop_drop, List.take_append_drop]
        cases st with
        | none =>
          dsimp only
          rw [spans_words s f (pos + w) (some pos) acc (by omega) h3 (fun a e => by cases e; omega)]
          simp only [curP_some, curP_none]
          obtain ⟨w', rfl⟩ : ∃ k, w = k + 1 := ⟨w - 1, by omega⟩
          have hh : (s.data.toList.drop pos).take (w' + 1) = s.get! pos :: (s.data.toList.drop (pos + 1)).take w' := by rw [drop_get hlt]; rfl
          have e32 : s.get! pos ≠ 32 := hx _ (by rw [hh]; exact List.mem_cons_self ..)
          have hr := wordsGo_run ((s.data.toList.drop (pos + 1)).take w') [s.get! pos] (s.data.toList.drop (pos + (w' + 1))) (fun b hb => hx b (by rw [hh]; exact List.mem_cons_of_mem _ hb))
          rw [ext_list, show pos + (w' + 1) - pos = w' + 1 by omega, hh]
          conv => rhs; rw [hsp, hh, List.cons_append, wordsGo, if_neg e32]
          rw [hr]
          rfl
        | some a =>
          dsimp only
          rw [spans_words s f (pos + w) (some a) acc (by omega) h3 (fun b e => by cases e; have := hst a rfl; omega)]
          simp only [curP_some]
          conv => rhs; rw [hsp, wordsGo_run _ _ _ hx]
          rw [ext_list, ext_list, take_more' _ _ _ _ (hst a rfl) (by rw [blen]; exact hp)]
    · have e : pos = s.size := by omega
      subst e
      rw [if_neg hlt, List.drop_eq_nil_of_le (by rw [blen]; exact Nat.le_refl _)]
      cases st with
      | none => simp [closeSpans, curP, wordsGo]
      | some a => simp [closeSpans, curP, wordsGo]
/-- The fields of a line are its words. -/
theorem fields_words (s : ByteArray) : (goFieldsP (fun r => r == 32) s).map (fun x => x.data.toList) = wordsB s.data.toList := by
  unfold goFieldsP spansOfP
  rw [List.map_map]
  have h := spans_words s s.size 0 none [] (by omega) (Nat.zero_le _) (fun a e => by cases e)
  rw [List.drop_zero] at h
  rw [← wordsGo_none]
  exact h
end ScrP
end Go.Proofs.YtldkfhimpkiigaaGreatDoor
