/-
  Layer 23 (device): Read, Load, Burned, Tick, Trip, Stale, Wear.
-/
import Derived.Test.YtcifkahmeimniaaDevW10
namespace Go.Proofs.Ytcifkahmeimniaa
open Go.RowKit Go.Shelf
attribute [local go_sem] Oper.semAt_some

section
variable {w : World} {d b g sb sc fb fc : Nat} {D : Dev}
set_option maxRecDepth 100000 in
set_option maxHeartbeats 1600000 in
theorem dRead_any (h : IsDev w d b g sb sc fb fc D) (i : Int) :
    Calls Try.prog 19 #[.pointer (some ⟨d, 0, none⟩), .int .i64 i] w fun e w' => e = .returned (.tuple #[.string (if D.down then ⟨#[]⟩ else if isAt D.M i then (D.M.getD i.toNat default).seen else ⟨#[]⟩), .int .i64 (if D.down then 14 else if isAt D.M i then 0 else 1)]) ∧ w = w' := by
  obtain ⟨c0, c1, c2, c3, c4, c5, c6⟩ := h.cells
  have HR := Lib.hid (read_any h.mem i)
  unfold errOf at HR
  cases hd : D.down with
  | true =>
    rw [hd] at c5
    clear HR h hd
    go_enter Try.func19, Try.ntmps19
    go_wp2_with fail
    go_ret2
    exact ⟨rfl, rfl⟩
  | false =>
    rw [hd] at c5
    simp only [Bool.false_eq_true, if_false]
    generalize (if isAt D.M i then (D.M.getD i.toNat default).seen else ⟨#[]⟩ : ByteArray) = T at HR ⊢
    generalize (if isAt D.M i then 0 else 1 : Int) = E at HR ⊢
    clear h hd
    go_enter Try.func19, Try.ntmps19
    go_wp2_with (first | (go_at_call 39; refine HR.out.mono ?_; rintro e w1 ⟨rfl, rfl⟩))
    go_ret2
    exact ⟨rfl, rfl⟩
set_option maxRecDepth 100000 in
set_option maxHeartbeats 1600000 in
theorem dLoad_any (h : IsDev w d b g sb sc fb fc D) (i : Int) :
    Calls Try.prog 17 #[.pointer (some ⟨d, 0, none⟩), .int .i64 i] w fun e w' => e = .returned (.tuple #[.string (if D.down then ⟨#[]⟩ else if inS D.slots i then D.slots.getD i.toNat ⟨#[]⟩ else ⟨#[]⟩), .int .i64 (if D.down then 14 else if inS D.slots i then 0 else 1)]) ∧ w = w' := by
  obtain ⟨c0, c1, c2, c3, c4, c5, c6⟩ := h.cells
  cases hd : D.down with
  | true =>
    rw [hd] at c5
    clear h hd
    go_enter Try.func17, Try.ntmps17
    go_wp2_with fail
    go_ret2
    exact ⟨rfl, rfl⟩
  | false =>
    rw [hd] at c5
    simp only [Bool.false_eq_true, if_false]
    by_cases hi : inS D.slots i
    · rw [if_pos hi, if_pos hi]
      obtain ⟨n, rfl⟩ := Int.eq_ofNat_of_zero_le hi.1
      have hn : n < D.slots.length := by have := hi.2; omega
      obtain ⟨o, ho⟩ : ∃ o, D.slots[n]? = some o := ⟨_, List.getElem?_eq_getElem hn⟩
      have hc : w.cell? ⟨sb, n, none⟩ = some (.string o) := by
        rw [h.srow.cellAt n (by omega)]
        unfold strCells
        rw [List.getElem?_map, ho]
        rfl
      have e : D.slots.getD (n : Int).toNat ⟨#[]⟩ = o := by
        rw [Int.toNat_natCast, List.getD_eq_getElem?_getD, ho]; rfl
      rw [e]
      have d1 : decide ((n : Int) < 0) = false := decide_eq_false (by omega)
      have d2 : decide (D.slots.length ≤ n) = false := decide_eq_false (by omega)
      have hi0 : (0 : Int) ≤ (n : Int) := by omega
      have hi1 : (n : Int) < D.slots.length := by omega
      clear h hd hi ho e
      go_enter Try.func17, Try.ntmps17
      go_wp2_with fail
      go_ret2
      exact ⟨rfl, rfl⟩
    · rw [if_neg hi, if_neg hi]
      rcases not_inS hi with h0 | h0
      · have d1 : decide (i < 0) = true := decide_eq_true h0
        clear h hd hi h0
        go_enter Try.func17, Try.ntmps17
        go_wp2_with fail
        go_ret2
        exact ⟨rfl, rfl⟩
      · have d1 : decide (i < 0) = false := decide_eq_false (by omega)
        have d2 : decide ((D.slots.length : Int) ≤ i) = true := decide_eq_true h0.2
        clear h hd hi h0
        go_enter Try.func17, Try.ntmps17
        go_wp2_with fail
        go_ret2
        exact ⟨rfl, rfl⟩
/-- Whether a fuse is burned. -/
def burnedD (D : Dev) (i : Int) : Bool := if inS D.fuses i then D.fuses.getD i.toNat false else false
set_option maxRecDepth 100000 in
set_option maxHeartbeats 1600000 in
theorem dBurned_any (h : IsDev w d b g sb sc fb fc D) (i : Int) :
    Calls Try.prog 13 #[.pointer (some ⟨d, 0, none⟩), .int .i64 i] w fun e w' => e = .returned (.bool (burnedD D i)) ∧ w = w' := by
  obtain ⟨c0, c1, c2, c3, c4, c5, c6⟩ := h.cells
  unfold burnedD
  by_cases hi : inS D.fuses i
  · rw [if_pos hi]
    obtain ⟨n, rfl⟩ := Int.eq_ofNat_of_zero_le hi.1
    have hn : n < D.fuses.length := by have := hi.2; omega
    obtain ⟨o, ho⟩ : ∃ o, D.fuses[n]? = some o := ⟨_, List.getElem?_eq_getElem hn⟩
    have hc : w.cell? ⟨fb, n, none⟩ = some (.bool o) := by
      rw [h.frow.cellAt n (by omega)]
      unfold boolCells
      rw [List.getElem?_map, ho]
      rfl
    have e : D.fuses.getD (n : Int).toNat false = o := by
      rw [Int.toNat_natCast, List.getD_eq_getElem?_getD, ho]; rfl
    rw [e]
    have hi0 : (0 : Int) ≤ (n : Int) := by omega
    have hi1 : (n : Int) < D.fuses.length := by omega
    clear h hi ho e
    go_enter Try.func13, Try.ntmps13
    go_wp2_with fail
    go_ret
    exact ⟨rfl, rfl⟩
  · rw [if_neg hi]
    rcases not_inS hi with h0 | h0
    · have d1 : decide (0 ≤ i) = false := decide_eq_false (by omega)
      clear h hi h0
      go_enter Try.func13, Try.ntmps13
      go_wp2_with fail
      go_ret
      exact ⟨rfl, rfl⟩
    · have d1 : decide (0 ≤ i) = true := decide_eq_true h0.1
      have d2 : decide (i < (D.fuses.length : Int)) = false := decide_eq_false (by omega)
      clear h hi h0
      go_enter Try.func13, Try.ntmps13
      go_wp2_with fail
      go_ret
      exact ⟨rfl, rfl⟩
set_option maxRecDepth 100000 in
set_option maxHeartbeats 1600000 in
theorem dTrip_any (h : IsDev w d b g sb sc fb fc D) (n : Int) :
    Calls Try.prog 22 #[.pointer (some ⟨d, 0, none⟩), .int .i64 n] w fun e w' => e = .returned (.tuple #[]) ∧ IsDev w' d b g sb sc fb fc { D with left := max n (-1) } ∧ DFr w w' d g sb fb := by
  have hf := h.blk.frozen 6
  have c6 := h.blk.cell 6
  have H := Lib.hid h
  clear h
  go_enter Try.func22, Try.ntmps22
  go_wp2_with fail
  go_end0
  have hg := grown_set w d 6 (.int .i64 (max n (-1)))
  exact ⟨by simp, H.out.scal hg rfl rfl rfl (H.out.blk.set_ 6 (.int .i64 (max n (-1)))), DFr.ofGrown hg (.inl rfl)⟩
set_option maxRecDepth 100000 in
set_option maxHeartbeats 1600000 in
theorem dStale_any (h : IsDev w d b g sb sc fb fc D) (i : Int) :
    Calls Try.prog 35 #[.pointer (some ⟨d, 0, none⟩), .int .i64 i] w fun e w' => e = .returned (.int .i64 (chk (isAt D.M i))) ∧ IsDev w' d b g sb sc fb fc { D with M := if isAt D.M i then upd Sec.stale D.M i else D.M } ∧ DFr w w' d g sb fb := by
  obtain ⟨c0, c1, c2, c3, c4, c5, c6⟩ := h.cells
  have HR := Lib.hid (stale_any h.mem i)
  have H := Lib.hid h
  unfold errOf at HR
  unfold chk
  generalize (if isAt D.M i then upd Sec.stale D.M i else D.M) = M2 at HR ⊢
  generalize (if isAt D.M i then 0 else 1 : Int) = E at HR ⊢
  clear h
  go_enter Try.func35, Try.ntmps35
  go_wp2_with (first | (go_at_call 56; refine HR.out.mono ?_; rintro e w1 ⟨rfl, hM, hg⟩))
  go_ret
  exact ⟨rfl, H.out.turn hM hg, DFr.ofGrown hg (.inr (.inl rfl))⟩
set_option maxRecDepth 100000 in
set_option maxHeartbeats 1600000 in
theorem dWear_any (h : IsDev w d b g sb sc fb fc D) (i : Int) :
    Calls Try.prog 36 #[.pointer (some ⟨d, 0, none⟩), .int .i64 i] w fun e w' => e = .returned (.int .i64 (chk (isAt D.M i))) ∧ IsDev w' d b g sb sc fb fc { D with M := if isAt D.M i then upd Sec.wear D.M i else D.M } ∧ DFr w w' d g sb fb := by
  obtain ⟨c0, c1, c2, c3, c4, c5, c6⟩ := h.cells
  have HR := Lib.hid (wear_any h.mem i)
  have H := Lib.hid h
  unfold errOf at HR
  unfold chk
  generalize (if isAt D.M i then upd Sec.wear D.M i else D.M) = M2 at HR ⊢
  generalize (if isAt D.M i then 0 else 1 : Int) = E at HR ⊢
  clear h
  go_enter Try.func36, Try.ntmps36
  go_wp2_with (first | (go_at_call 57; refine HR.out.mono ?_; rintro e w1 ⟨rfl, hM, hg⟩))
  go_ret
  exact ⟨rfl, H.out.turn hM hg, DFr.ofGrown hg (.inr (.inl rfl))⟩
end
end Go.Proofs.Ytcifkahmeimniaa
