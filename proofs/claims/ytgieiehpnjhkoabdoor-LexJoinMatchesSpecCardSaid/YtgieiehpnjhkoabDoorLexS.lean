/-
  The walk of the sanity example of layer 11.
-/
import Derived.Test.YtgieiehpnjhkoabDoorLexW6
import Derived.Test.YtgieiehpnjhkoabDoorLexW8
import Derived.KernelRfl
namespace Go.Proofs.YtgieiehpnjhkoabDoor
open Go.RowKit LexP

def scanF : Nat → ByteArray → Nat → List Tok → Res
  | 0, _, _, out => .ok out
  | f + 1, s, a, out =>
    if a < s.size then
      if (tokenL (s.data.toList.drop a)).2.1 = 0 then .err a 3
      else if 1099511627776 < (tokenL (s.data.toList.drop a)).2.2 then .err a 2
      else scanF f s (next s a) (out ++ [tokAt s a])
    else .ok out

theorem scan_fuel (s : ByteArray) : ∀ (f a : Nat) (out : List Tok), s.size - a < f → scan s a out = scanF f s a out
  | 0, _, _, h => by omega
  | f + 1, a, out, h => by
    simp only [scanF]
    by_cases h1 : a < s.size
    · rw [if_pos h1]
      by_cases h2 : (tokenL (s.data.toList.drop a)).2.1 = 0
      · rw [if_pos h2, scan_syntax _ _ _ h1 h2]
      · rw [if_neg h2]
        by_cases h3 : 1099511627776 < (tokenL (s.data.toList.drop a)).2.2
        · rw [if_pos h3, scan_limit _ _ _ h1 h2 h3]
        · rw [if_neg h3, scan_step _ _ _ h1 h2 h3]
          exact scan_fuel s f _ _ (by unfold next; omega)
    · rw [if_neg h1, scan_end _ _ _ (by omega)]

theorem tokens_fuel (s : ByteArray) (h : s.size ≤ 4000) : tokens s = scanF (s.size + 1) s (skipB false s.data.toList) [] := by
  unfold tokens
  rw [if_neg (by omega)]
  exact scan_fuel s _ _ _ (by omega)

def san1 : ByteArray := ⟨#[116, 121, 112, 101, 32, 97, 45, 49, 123, 108, 105, 102, 101, 32, 50, 104, 59, 125, 35, 120]⟩
def san1L : List Tok := [⟨1, ⟨#[116, 121, 112, 101]⟩, 0, 0⟩, ⟨1, ⟨#[97, 45, 49]⟩, 0, 5⟩, ⟨3, ⟨#[123]⟩, 0, 8⟩, ⟨1, ⟨#[108, 105, 102, 101]⟩, 0, 9⟩, ⟨2, ⟨#[50, 104]⟩, 7200, 14⟩, ⟨3, ⟨#[59]⟩, 0, 16⟩, ⟨3, ⟨#[125]⟩, 0, 17⟩]
theorem san1_tokens : tokens san1 = .ok san1L := by rw [tokens_fuel _ (by decide)]; kernel_rfl
def san2 : ByteArray := ⟨#[97, 32, 49, 120]⟩
theorem san2_tokens : tokens san2 = .err 2 3 := by rw [tokens_fuel _ (by decide)]; kernel_rfl
def san3 : ByteArray := ⟨#[49, 48, 57, 57, 53, 49, 49, 54, 50, 55, 55, 55, 55]⟩
theorem san3_tokens : tokens san3 = .err 0 2 := by rw [tokens_fuel _ (by decide)]; kernel_rfl

/-- A call of Tokens that finds tokens. -/
theorem Tokens_ok (s : ByteArray) (l : List Tok) (h : tokens s = .ok l) (w : World) (hs : s.size ≤ maxLen) (hU : UnitsAt w) :
    Calls Tryd.prog 10 #[.string s] w fun e w' => ∃ v, e = .returned (.tuple #[v, .int .i64 0, .int .i64 0]) ∧ w'.ownsRow w.heap.size 36 4 v l.length (toksCells l) ∧ Below w.heap.size w w' :=
  (Tokens_any s w hs hU).mono fun e w' ⟨v, pos, err, he, hr, hb⟩ => by
    rw [h] at hr
    obtain ⟨rfl, rfl, hown⟩ := hr
    exact ⟨v, he, hown, hb⟩
/-- A call of Tokens that finds an error. -/
theorem Tokens_err (s : ByteArray) (a : Nat) (e0 : Int) (h : tokens s = .err a e0) (w : World) (hs : s.size ≤ maxLen) (hU : UnitsAt w) :
    Calls Tryd.prog 10 #[.string s] w fun e w' => e = .returned (.tuple #[.slice none 0 0, .int .i64 a, .int .i64 e0]) ∧ Below w.heap.size w w' :=
  (Tokens_any s w hs hU).mono fun e w' ⟨v, pos, err, he, hr, hb⟩ => by
    rw [h] at hr
    obtain ⟨rfl, rfl, rfl⟩ := hr
    exact ⟨he, hb⟩

theorem toksCells_at : ∀ (l : List Tok) (i : Nat) (T : Tok), l[i]? = some T → (toksCells l)[i * 4]? = some (.int .i64 T.kind) ∧ (toksCells l)[i * 4 + 1]? = some (.string T.text) ∧ (toksCells l)[i * 4 + 2]? = some (.int .i64 T.n) ∧ (toksCells l)[i * 4 + 3]? = some (.int .i64 T.pos)
  | a :: r, 0, T, h => by
    simp at h; subst h
    simp [toksCells, tokCells]
  | a :: r, i + 1, T, h => by
    have ih := toksCells_at r i T (by simpa using h)
    have e : ∀ j, (toksCells (a :: r))[(i + 1) * 4 + j]? = (toksCells r)[i * 4 + j]? := fun j => by
      have : (i + 1) * 4 + j = 4 + (i * 4 + j) := by omega
      rw [this]
      show (tokCells a ++ toksCells r)[4 + (i * 4 + j)]? = _
      rw [List.getElem?_append_right (by simp [tokCells])]
      simp [tokCells]
    exact ⟨(e 0).trans ih.1, (e 1).trans ih.2.1, (e 2).trans ih.2.2.1, (e 3).trans ih.2.2.2⟩

theorem toksAt_own {w : World} {B : Nat} {v : Value} {l : List Tok} (h : w.ownsRow B 36 4 v l.length (toksCells l)) : ToksAt w v (l.map gtok) := by
  rcases Joins.ownsRow_forms h with ⟨rfl, h0⟩ | ⟨g, cap, rfl⟩
  · have : l = [] := List.length_eq_zero_iff.1 h0
    subst this
    exact ⟨none, 0, rfl, fun h => absurd h (by simp)⟩
  · refine ⟨_, cap, by rw [List.length_map], fun _ => ⟨g, 0, rfl, (h.lt g rfl).2, fun i T hT => ?_⟩⟩
    rw [List.getElem?_map] at hT
    obtain ⟨t, ht, rfl⟩ := Option.map_eq_some_iff.1 hT
    obtain ⟨h0, h1, h2, h3⟩ := toksCells_at l i t ht
    have hc := h.cells (g := g) rfl
    have a0 := hc _ _ h0
    have a1 := hc _ _ h1
    have a2 := hc _ _ h2
    have a3 := hc _ _ h3
    rw [Addr.add_lit] at a0 a1 a2 a3
    exact ⟨a0, by rw [Nat.zero_add] at a1; rw [Nat.zero_add]; exact a1, by rw [Nat.zero_add] at a2; rw [Nat.zero_add]; exact a2, by rw [Nat.zero_add] at a3; rw [Nat.zero_add]; exact a3⟩

def san1J : List UInt8 := [116, 121, 112, 101, 32, 97, 45, 49, 32, 123, 32, 108, 105, 102, 101, 32, 50, 104, 32, 59, 32, 125]
theorem san1_join : joinT (san1L.map gtok) = san1J := by kernel_rfl

set_option maxHeartbeats 4000000 in
theorem sanity_any (w : World) (hU : UnitsAt w) :
    Calls Tryd.prog 9 #[] w fun e w' => e = .returned (.bool true) ∧ Below w.heap.size w w' := by
  go_enter Tryd.func9, Tryd.ntmps9
  go_wp2_with fail
  refine (Tokens_ok san1 san1L san1_tokens _ (by unfold maxLen san1; decide) hU).mono ?_
  rintro e w1 ⟨v, rfl, hown1, hb1⟩
  go_wp2_with fail
  refine (Tokens_err san2 2 3 san2_tokens _ (by unfold maxLen san2; decide) (hU.below hb1)).mono ?_
  rintro e w2 ⟨rfl, hb2⟩
  go_wp2_with fail
  refine (Tokens_err san3 0 2 san3_tokens _ (by unfold maxLen san3; decide) ((hU.below hb1).below hb2)).mono ?_
  rintro e w3 ⟨rfl, hb3⟩
  have hown3 := ownsRow_below (ownsRow_below hown1 hb2 (Nat.le_refl _)) hb3 (Nat.le_refl _)
  obtain ⟨g, cap, rfl⟩ := Joins.ownsRow_form hown3 (by decide)
  have hta := toksAt_own hown3
  have hc := hown3.cells (g := g) rfl
  obtain ⟨h0, h1, h2, h3⟩ := toksCells_at san1L 4 ⟨2, ⟨#[50, 104]⟩, 7200, 14⟩ rfl
  have p0 := hc _ _ h0
  have p1 := hc _ _ h1
  have p2 := hc _ _ h2
  have p3 := hc _ _ h3
  clear hc h0 h1 h2 h3
  rw [Addr.add_lit] at p0 p1 p2 p3
  simp only [Nat.zero_add, Nat.reduceMul, Nat.reduceAdd] at p0 p1 p2 p3
  have hB3 : Below w.heap.size w w3 := (hb1.trans (hb2.mono hb1.size)).trans (hb3.mono (Nat.le_trans hb1.size hb2.size))
  have hta2 := Lib.hid hta
  have hsp : Hid (∀ w, Calls Tryd.prog 13 #[.string ⟨#[97, 10, 98, 99]⟩, .int .i64 3] w fun e w' => e = .returned (.tuple #[.int .i64 2, .int .i64 2]) ∧ w = w') := fun w =>
    (Spot_any ⟨#[97, 10, 98, 99]⟩ 3 w (by decide)).mono fun e w' h => ⟨by rw [h.1]; exact ret_int2 (by decide) (by decide), h.2⟩
  have hjn : Hid (Calls Tryd.prog 15 #[.slice (some ⟨g, 0, none⟩) 7 cap] w3 fun e w' => e = .returned (.string ⟨#[116, 121, 112, 101, 32, 97, 45, 49, 32, 123, 32, 108, 105, 102, 101, 32, 50, 104, 32, 59, 32, 125]⟩) ∧ Below w3.heap.size w3 w') :=
    (Join_any _ _ w3 hta (by decide) (by rw [san1_join]; decide)).mono fun e w' h => ⟨by rw [h.1, san1_join]; rfl, h.2⟩
  clear hta hown1 hown3
  have e7 : san1L.length = 7 := rfl
  go_wp2_with (first | (go_at_call 13; refine (hsp.out _).mono ?_; rintro e w' ⟨rfl, rfl⟩) | (go_at_call 15; refine hjn.out.mono ?_; rintro e w4 ⟨rfl, hb4⟩))
  go_ret
  exact ⟨rfl, hB3.trans (hb4.mono hB3.size)⟩
end Go.Proofs.YtgieiehpnjhkoabDoor
