/-
  Layer 23 (device): Store and Burn at every input; Raise.
  Layer 23 (device): Read, Load, Burned, Tick, Trip, Stale, Wear.
  Layer 23 (device): Tick, Image, Restore, Mount, Raise.
  Layer 23 (device): Flush (a method value is its step); Raise.
-/
import Derived.Test.YtcifkahmeimniaaGreatDevW8
import Derived.Test.YtcifkahmeimniaaGreatDevW9
namespace Go.Proofs.YtcifkahmeimniaaGreat
open Go.RowKit Go.Shelf
attribute [local go_sem] Oper.semAt_some

section
variable {w : World} {d b g sb sc fb fc : Nat} {D : Dev}
theorem dstep_slots (c : Int) (f : Dev → Dev) (hf : ∀ D, (f D).slots.length = D.slots.length) : (D.dstep c f).2.slots.length = D.slots.length := by
  unfold Dev.dstep
  split
  · rfl
  · split
    · rfl
    · split
      · rfl
      · exact hf _
theorem dstep_fuses (c : Int) (f : Dev → Dev) (hf : ∀ D, (f D).fuses.length = D.fuses.length) : (D.dstep c f).2.fuses.length = D.fuses.length := by
  unfold Dev.dstep
  split
  · rfl
  · split
    · rfl
    · split
      · rfl
      · exact hf _
theorem store_step (h : IsDev w d b g sb sc fb fc D) (hr : -1 ≤ D.left ∧ D.left ≤ 9223372036854775807) (bd bi bt : Nat) (i : Int) (t : ByteArray) (k1 : Blk w bd 27 #[.pointer (some ⟨d, 0, none⟩)]) (k2 : Blk w bi 3 #[.int .i64 i]) (k3 : Blk w bt 9 #[.string t]) :
    Calls Tryz.prog 62 #[.pointer (some ⟨d, 0, none⟩), .int .i64 (chk (inS D.slots i ∧ t.size = 32)), .func (.func 64) #[] #[.pointer (some ⟨bt, 0, none⟩), .pointer (some ⟨bd, 0, none⟩), .pointer (some ⟨bi, 0, none⟩)]] w fun e w' => e = .returned (.int .i64 (D.dstep (chk (inS D.slots i ∧ t.size = 32)) fun D => { D with slots := D.slots.set i.toNat t }).1) ∧
      IsDev w' d b g sb sc fb fc (D.dstep (chk (inS D.slots i ∧ t.size = 32)) fun D => { D with slots := D.slots.set i.toNat t }).2 ∧ DFr w w' d g sb fb := by
  refine step_any h hr _ _ _ eg_store _ (fun hc w2 h2 hg => ?_)
  have hp := of_chk hc
  obtain ⟨n, rfl⟩ := Int.eq_ofNat_of_zero_le hp.1.1
  have n1 := k1.ne_ h.blk (by decide)
  have n2 := k2.ne_ h.blk (by decide)
  have n3 := k3.ne_ h.blk (by decide)
  have hn : n < D.slots.length := by have := hp.1.2; omega
  refine (store1_any h2 bd bi bt n hn t (k1.grown hg (fun e => n1 (by cases e; rfl))) (k2.grown hg (fun e => n2 (by cases e; rfl))) (k3.grown hg (fun e => n3 (by cases e; rfl)))).mono ?_
  rintro e w' ⟨rfl, h3, h4⟩
  exact ⟨rfl, h3, DFr.ofGrown h4 (.inr (.inr (.inl rfl)))⟩
theorem burn_step (h : IsDev w d b g sb sc fb fc D) (hr : -1 ≤ D.left ∧ D.left ≤ 9223372036854775807) (bd bi : Nat) (i : Int) (k1 : Blk w bd 27 #[.pointer (some ⟨d, 0, none⟩)]) (k2 : Blk w bi 3 #[.int .i64 i]) :
    Calls Tryz.prog 62 #[.pointer (some ⟨d, 0, none⟩), .int .i64 (chk (inS D.fuses i)), .func (.func 65) #[] #[.pointer (some ⟨bd, 0, none⟩), .pointer (some ⟨bi, 0, none⟩)]] w fun e w' => e = .returned (.int .i64 (D.dstep (chk (inS D.fuses i)) fun D => { D with fuses := D.fuses.set i.toNat true }).1) ∧
      IsDev w' d b g sb sc fb fc (D.dstep (chk (inS D.fuses i)) fun D => { D with fuses := D.fuses.set i.toNat true }).2 ∧ DFr w w' d g sb fb := by
  refine step_any h hr _ _ _ eg_burn _ (fun hc w2 h2 hg => ?_)
  have hp := of_chk hc
  obtain ⟨n, rfl⟩ := Int.eq_ofNat_of_zero_le hp.1
  have n1 := k1.ne_ h.blk (by decide)
  have n2 := k2.ne_ h.blk (by decide)
  have hn : n < D.fuses.length := by have := hp.2; omega
  refine (burn1_any h2 bd bi n hn (k1.grown hg (fun e => n1 (by cases e; rfl))) (k2.grown hg (fun e => n2 (by cases e; rfl)))).mono ?_
  rintro e w' ⟨rfl, h3, h4⟩
  exact ⟨rfl, h3, DFr.ofGrown h4 (.inr (.inr (.inr rfl)))⟩
theorem raise_step (h : IsDev w d b g sb sc fb fc D) (hr : -1 ≤ D.left ∧ D.left ≤ 9223372036854775807) (c : Int) (bd bi : Nat) (n : Int) (k1 : Blk w bd 27 #[.pointer (some ⟨d, 0, none⟩)]) (k2 : Blk w bi 3 #[.int .i64 n]) :
    Calls Tryz.prog 62 #[.pointer (some ⟨d, 0, none⟩), .int .i64 c, .func (.func 67) #[] #[.pointer (some ⟨bi, 0, none⟩), .pointer (some ⟨bd, 0, none⟩)]] w fun e w' => e = .returned (.int .i64 (D.dstep c fun D => { D with counter := n }).1) ∧
      IsDev w' d b g sb sc fb fc (D.dstep c fun D => { D with counter := n }).2 ∧ DFr w w' d g sb fb := by
  refine step_any h hr _ _ _ eg_raise _ (fun hc w2 h2 hg => ?_)
  have n1 := k1.ne_ h.blk (by decide)
  have n2 := k2.ne_ h.blk (by decide)
  refine (raise1_any h2 bd bi n (k1.grown hg (fun e => n1 (by cases e; rfl))) (k2.grown hg (fun e => n2 (by cases e; rfl)))).mono ?_
  rintro e w' ⟨rfl, h3, h4⟩
  exact ⟨rfl, h3, DFr.ofGrown h4 (.inl rfl)⟩
theorem not_inS {α : Type} {l : List α} {i : Int} (h : ¬ inS l i) : i < 0 ∨ (0 ≤ i ∧ (l.length : Int) ≤ i) := by
  unfold inS at h
  omega
theorem dStore_any (h : IsDev w d b g sb sc fb fc D) (hr : -1 ≤ D.left ∧ D.left ≤ 9223372036854775807) (i : Int) (t : ByteArray) :
    Calls Tryz.prog 15 #[.pointer (some ⟨d, 0, none⟩), .int .i64 i, .string t] w fun e w' => e = .returned (.int .i64 (D.dstep (chk (inS D.slots i ∧ t.size = 32)) fun D => { D with slots := D.slots.set i.toNat t }).1) ∧
      IsDev w' d b g sb sc fb fc (D.dstep (chk (inS D.slots i ∧ t.size = 32)) fun D => { D with slots := D.slots.set i.toNat t }).2 ∧ DFr w w' d g sb fb := by
  have hlen := dstep_slots (D := D) (chk (inS D.slots i ∧ t.size = 32)) (fun D => { D with slots := D.slots.set i.toNat t }) (fun D => by simp)
  by_cases hi : inS D.slots i
  · by_cases ht : t.size = 32
    · refine dStore_in h i t hi ht _ _ hlen fun w2 bd bi bt h2 k1 k2 k3 => ?_
      have := store_step h2 hr bd bi bt i t k1 k2 k3
      rw [chk_pos (⟨hi, ht⟩ : inS D.slots i ∧ t.size = 32)] at this ⊢
      exact this
    · refine dStore_size h i t hi ht _ _ hlen fun w2 bd bi bt h2 k1 k2 k3 => ?_
      have := store_step h2 hr bd bi bt i t k1 k2 k3
      rw [chk_neg (show ¬ (inS D.slots i ∧ t.size = 32) from fun h => ht h.2)] at this ⊢
      exact this
  · rcases not_inS hi with h0 | h0
    · refine dStore_neg h i t h0 _ _ hlen fun w2 bd bi bt h2 k1 k2 k3 => ?_
      have := store_step h2 hr bd bi bt i t k1 k2 k3
      rw [chk_neg (show ¬ (inS D.slots i ∧ t.size = 32) from fun h => hi h.1)] at this ⊢
      exact this
    · refine dStore_beyond h i t h0 _ _ hlen fun w2 bd bi bt h2 k1 k2 k3 => ?_
      have := store_step h2 hr bd bi bt i t k1 k2 k3
      rw [chk_neg (show ¬ (inS D.slots i ∧ t.size = 32) from fun h => hi h.1)] at this ⊢
      exact this
theorem dBurn_any (h : IsDev w d b g sb sc fb fc D) (hr : -1 ≤ D.left ∧ D.left ≤ 9223372036854775807) (i : Int) :
    Calls Tryz.prog 16 #[.pointer (some ⟨d, 0, none⟩), .int .i64 i] w fun e w' => e = .returned (.int .i64 (D.dstep (chk (inS D.fuses i)) fun D => { D with fuses := D.fuses.set i.toNat true }).1) ∧
      IsDev w' d b g sb sc fb fc (D.dstep (chk (inS D.fuses i)) fun D => { D with fuses := D.fuses.set i.toNat true }).2 ∧ DFr w w' d g sb fb := by
  have hlen := dstep_fuses (D := D) (chk (inS D.fuses i)) (fun D => { D with fuses := D.fuses.set i.toNat true }) (fun D => by simp)
  by_cases hi : inS D.fuses i
  · refine dBurn_in h i hi _ _ hlen fun w2 bd bi h2 k1 k2 => ?_
    have := burn_step h2 hr bd bi i k1 k2
    rw [chk_pos hi] at this ⊢
    exact this
  · rcases not_inS hi with h0 | h0
    · refine dBurn_neg h i h0 _ _ hlen fun w2 bd bi h2 k1 k2 => ?_
      have := burn_step h2 hr bd bi i k1 k2
      rw [chk_neg hi] at this ⊢
      exact this
    · refine dBurn_beyond h i h0 _ _ hlen fun w2 bd bi h2 k1 k2 => ?_
      have := burn_step h2 hr bd bi i k1 k2
      rw [chk_neg hi] at this ⊢
      exact this
end
end Go.Proofs.YtcifkahmeimniaaGreat
namespace Go.Proofs.YtcifkahmeimniaaGreat
open Go.RowKit Go.Shelf
attribute [local go_sem] Oper.semAt_some

section
variable {w : World} {d b g sb sc fb fc : Nat} {D : Dev}
set_option maxRecDepth 100000 in
set_option maxHeartbeats 1600000 in
theorem dRead_any (h : IsDev w d b g sb sc fb fc D) (i : Int) :
    Calls Tryz.prog 35 #[.pointer (some ⟨d, 0, none⟩), .int .i64 i] w fun e w' => e = .returned (.tuple #[.string (if D.down then ⟨#[]⟩ else if isAt D.M i then (D.M.getD i.toNat default).seen else ⟨#[]⟩), .int .i64 (if D.down then 14 else if isAt D.M i then 0 else 1)]) ∧ w = w' := by
  obtain ⟨c0, c1, c2, c3, c4, c5, c6⟩ := h.cells
  have HR := Lib.hid (read_any h.mem i)
  unfold errOf at HR
  cases hd : D.down with
  | true =>
    rw [hd] at c5
    clear HR h hd
    go_enter Tryz.func35, Tryz.ntmps35
    go_wp2_with fail
    go_ret2
    exact ⟨rfl, rfl⟩
  | false =>
    rw [hd] at c5
    simp only [Bool.false_eq_true, if_false]
    generalize (if isAt D.M i then (D.M.getD i.toNat default).seen else ⟨#[]⟩ : ByteArray) = T at HR ⊢
    generalize (if isAt D.M i then 0 else 1 : Int) = E at HR ⊢
    clear h hd
    go_enter Tryz.func35, Tryz.ntmps35
    go_wp2_with (first | (go_at_call 74; refine HR.out.mono ?_; rintro e w1 ⟨rfl, rfl⟩))
    go_ret2
    exact ⟨rfl, rfl⟩
set_option maxRecDepth 100000 in
set_option maxHeartbeats 1600000 in
theorem dLoad_any (h : IsDev w d b g sb sc fb fc D) (i : Int) :
    Calls Tryz.prog 21 #[.pointer (some ⟨d, 0, none⟩), .int .i64 i] w fun e w' => e = .returned (.tuple #[.string (if D.down then ⟨#[]⟩ else if inS D.slots i then D.slots.getD i.toNat ⟨#[]⟩ else ⟨#[]⟩), .int .i64 (if D.down then 14 else if inS D.slots i then 0 else 1)]) ∧ w = w' := by
  obtain ⟨c0, c1, c2, c3, c4, c5, c6⟩ := h.cells
  cases hd : D.down with
  | true =>
    rw [hd] at c5
    clear h hd
    go_enter Tryz.func21, Tryz.ntmps21
    go_wp2_with fail
    go_ret2
    exact ⟨rfl, rfl⟩
  | false =>
    rw [hd] at c5
    simp only [Bool.false_eq_true, if_false]
    by_cases hi : inS D.slots i
    · rw [if_pos hi, if_pos hi]
      obtain ⟨n, rfl⟩ := Int.eq_ofNat_of_zero_le hi.1
      have hn : n < D.slots.length := by have := hi.2; omega
      obtain ⟨o, ho⟩ : ∃ o, D.slots[n]? = some o := ⟨_, List.getElem?_eq_getElem hn⟩
      have hc : w.cell? ⟨sb, n, none⟩ = some (.string o) := by
        rw [h.srow.cellAt n (by omega)]
        unfold strCells
        rw [List.getElem?_map, ho]
        rfl
      have e : D.slots.getD (n : Int).toNat ⟨#[]⟩ = o := by
        rw [Int.toNat_natCast, List.getD_eq_getElem?_getD, ho]; rfl
      rw [e]
      have d1 : decide ((n : Int) < 0) = false := decide_eq_false (by omega)
      have d2 : decide (D.slots.length ≤ n) = false := decide_eq_false (by omega)
      have hi0 : (0 : Int) ≤ (n : Int) := by omega
      have hi1 : (n : Int) < D.slots.length := by omega
      clear h hd hi ho e
      go_enter Tryz.func21, Tryz.ntmps21
      go_wp2_with fail
      go_ret2
      exact ⟨rfl, rfl⟩
    · rw [if_neg hi, if_neg hi]
      rcases not_inS hi with h0 | h0
      · have d1 : decide (i < 0) = true := decide_eq_true h0
        clear h hd hi h0
        go_enter Tryz.func21, Tryz.ntmps21
        go_wp2_with fail
        go_ret2
        exact ⟨rfl, rfl⟩
      · have d1 : decide (i < 0) = false := decide_eq_false (by omega)
        have d2 : decide ((D.slots.length : Int) ≤ i) = true := decide_eq_true h0.2
        clear h hd hi h0
        go_enter Tryz.func21, Tryz.ntmps21
        go_wp2_with fail
        go_ret2
        exact ⟨rfl, rfl⟩
/-- Whether a fuse is burned. -/
def burnedD (D : Dev) (i : Int) : Bool := if inS D.fuses i then D.fuses.getD i.toNat false else false
set_option maxRecDepth 100000 in
set_option maxHeartbeats 1600000 in
theorem dBurned_any (h : IsDev w d b g sb sc fb fc D) (i : Int) :
    Calls Tryz.prog 18 #[.pointer (some ⟨d, 0, none⟩), .int .i64 i] w fun e w' => e = .returned (.bool (burnedD D i)) ∧ w = w' := by
  obtain ⟨c0, c1, c2, c3, c4, c5, c6⟩ := h.cells
  unfold burnedD
  by_cases hi : inS D.fuses i
  · rw [if_pos hi]
    obtain ⟨n, rfl⟩ := Int.eq_ofNat_of_zero_le hi.1
    have hn : n < D.fuses.length := by have := hi.2; omega
    obtain ⟨o, ho⟩ : ∃ o, D.fuses[n]? = some o := ⟨_, List.getElem?_eq_getElem hn⟩
    have hc : w.cell? ⟨fb, n, none⟩ = some (.bool o) := by
      rw [h.frow.cellAt n (by omega)]
      unfold boolCells
      rw [List.getElem?_map, ho]
      rfl
    have e : D.fuses.getD (n : Int).toNat false = o := by
      rw [Int.toNat_natCast, List.getD_eq_getElem?_getD, ho]; rfl
    rw [e]
    have hi0 : (0 : Int) ≤ (n : Int) := by omega
    have hi1 : (n : Int) < D.fuses.length := by omega
    clear h hi ho e
    go_enter Tryz.func18, Tryz.ntmps18
    go_wp2_with fail
    go_ret
    exact ⟨rfl, rfl⟩
  · rw [if_neg hi]
    rcases not_inS hi with h0 | h0
    · have d1 : decide (0 ≤ i) = false := decide_eq_false (by omega)
      clear h hi h0
      go_enter Tryz.func18, Tryz.ntmps18
      go_wp2_with fail
      go_ret
      exact ⟨rfl, rfl⟩
    · have d1 : decide (0 ≤ i) = true := decide_eq_true h0.1
      have d2 : decide (i < (D.fuses.length : Int)) = false := decide_eq_false (by omega)
      clear h hi h0
      go_enter Tryz.func18, Tryz.ntmps18
      go_wp2_with fail
      go_ret
      exact ⟨rfl, rfl⟩
set_option maxRecDepth 100000 in
set_option maxHeartbeats 1600000 in
theorem dTrip_any (h : IsDev w d b g sb sc fb fc D) (n : Int) :
    Calls Tryz.prog 14 #[.pointer (some ⟨d, 0, none⟩), .int .i64 n] w fun e w' => e = .returned (.tuple #[]) ∧ IsDev w' d b g sb sc fb fc { D with left := max n (-1) } ∧ DFr w w' d g sb fb := by
  have hf := h.blk.frozen 6
  have c6 := h.blk.cell 6
  have H := Lib.hid h
  clear h
  go_enter Tryz.func14, Tryz.ntmps14
  go_wp2_with fail
  go_end0
  have hg := grown_set w d 6 (.int .i64 (max n (-1)))
  exact ⟨by simp, H.out.scal hg rfl rfl rfl (H.out.blk.set_ 6 (.int .i64 (max n (-1)))), DFr.ofGrown hg (.inl rfl)⟩
set_option maxRecDepth 100000 in
set_option maxHeartbeats 1600000 in
theorem dStale_any (h : IsDev w d b g sb sc fb fc D) (i : Int) :
    Calls Tryz.prog 38 #[.pointer (some ⟨d, 0, none⟩), .int .i64 i] w fun e w' => e = .returned (.int .i64 (chk (isAt D.M i))) ∧ IsDev w' d b g sb sc fb fc { D with M := if isAt D.M i then upd Sec.stale D.M i else D.M } ∧ DFr w w' d g sb fb := by
  obtain ⟨c0, c1, c2, c3, c4, c5, c6⟩ := h.cells
  have HR := Lib.hid (stale_any h.mem i)
  have H := Lib.hid h
  unfold errOf at HR
  unfold chk
  generalize (if isAt D.M i then upd Sec.stale D.M i else D.M) = M2 at HR ⊢
  generalize (if isAt D.M i then 0 else 1 : Int) = E at HR ⊢
  clear h
  go_enter Tryz.func38, Tryz.ntmps38
  go_wp2_with (first | (go_at_call 78; refine HR.out.mono ?_; rintro e w1 ⟨rfl, hM, hg⟩))
  go_ret
  exact ⟨rfl, H.out.turn hM hg, DFr.ofGrown hg (.inr (.inl rfl))⟩
set_option maxRecDepth 100000 in
set_option maxHeartbeats 1600000 in
theorem dWear_any (h : IsDev w d b g sb sc fb fc D) (i : Int) :
    Calls Tryz.prog 39 #[.pointer (some ⟨d, 0, none⟩), .int .i64 i] w fun e w' => e = .returned (.int .i64 (chk (isAt D.M i))) ∧ IsDev w' d b g sb sc fb fc { D with M := if isAt D.M i then upd Sec.wear D.M i else D.M } ∧ DFr w w' d g sb fb := by
  obtain ⟨c0, c1, c2, c3, c4, c5, c6⟩ := h.cells
  have HR := Lib.hid (wear_any h.mem i)
  have H := Lib.hid h
  unfold errOf at HR
  unfold chk
  generalize (if isAt D.M i then upd Sec.wear D.M i else D.M) = M2 at HR ⊢
  generalize (if isAt D.M i then 0 else 1 : Int) = E at HR ⊢
  clear h
  go_enter Tryz.func39, Tryz.ntmps39
  go_wp2_with (first | (go_at_call 79; refine HR.out.mono ?_; rintro e w1 ⟨rfl, hM, hg⟩))
  go_ret
  exact ⟨rfl, H.out.turn hM hg, DFr.ofGrown hg (.inr (.inl rfl))⟩
end
end Go.Proofs.YtcifkahmeimniaaGreat
namespace Go.Proofs.YtcifkahmeimniaaGreat
open Go.RowKit Go.Shelf
attribute [local go_sem] Oper.semAt_some

section
variable {w : World} {d b g sb sc fb fc : Nat} {D : Dev}
set_option maxRecDepth 100000 in
set_option maxHeartbeats 1600000 in
theorem dTick_any (h : IsDev w d b g sb sc fb fc D) (hc : 0 ≤ D.clock ∧ D.clock ≤ 1099511627776) (n : Int) :
    Calls Tryz.prog 19 #[.pointer (some ⟨d, 0, none⟩), .int .i64 n] w fun e w' => e = .returned (.int .i64 (if n < 0 ∨ 1099511627776 - D.clock < n then 1 else 0)) ∧ IsDev w' d b g sb sc fb fc (if n < 0 ∨ 1099511627776 - D.clock < n then D else { D with clock := D.clock + n }) ∧ DFr w w' d g sb fb := by
  have hf := h.blk.frozen 3
  have c3 := h.blk.cell 3
  have H := Lib.hid h
  clear h
  have hw1 : wrap64 (1099511627776 - D.clock) = 1099511627776 - D.clock := by unfold wrap64; omega
  by_cases h1 : n < 0
  · rw [if_pos (.inl h1), if_pos (.inl h1)]
    have d1 : decide (n < 0) = true := decide_eq_true h1
    clear h1 hc
    go_enter Tryz.func19, Tryz.ntmps19
    go_wp2_with fail
    go_ret
    exact ⟨rfl, H.out, DFr.refl _⟩
  · have d1 : decide (n < 0) = false := decide_eq_false h1
    by_cases h2 : 1099511627776 - D.clock < n
    · rw [if_pos (.inr h2), if_pos (.inr h2)]
      have d2 : decide (1099511627776 - D.clock < n) = true := decide_eq_true h2
      clear h1 h2 hc
      go_enter Tryz.func19, Tryz.ntmps19
      go_wp2_with fail
      go_ret
      exact ⟨rfl, H.out, DFr.refl _⟩
    · have hno : ¬ (n < 0 ∨ 1099511627776 - D.clock < n) := by omega
      rw [if_neg hno, if_neg hno]
      have d2 : decide (1099511627776 - D.clock < n) = false := decide_eq_false h2
      have hw2 : wrap64 (D.clock + n) = D.clock + n := by unfold wrap64; omega
      clear h1 h2 hc hno
      go_enter Tryz.func19, Tryz.ntmps19
      go_wp2_with fail
      go_ret
      have hg := grown_set w d 3 (.int .i64 (D.clock + n))
      exact ⟨rfl, H.out.scal hg rfl rfl rfl (H.out.blk.set_ 3 (.int .i64 (D.clock + n))), DFr.ofGrown hg (.inl rfl)⟩
set_option maxRecDepth 100000 in
set_option maxHeartbeats 1600000 in
theorem dImage_any (h : IsDev w d b g sb sc fb fc D) (hN : D.M.length ≤ 1048576) :
    Calls Tryz.prog 23 #[.pointer (some ⟨d, 0, none⟩)] w fun e w' => ∃ v, e = .returned v ∧ NewTexts w w' v (D.M.map Sec.now) := by
  obtain ⟨c0, c1, c2, c3, c4, c5, c6⟩ := h.cells
  have HR := Lib.hid (Image_any h.mem hN)
  clear h
  go_enter Tryz.func23, Tryz.ntmps23
  go_wp2_with (first | (go_at_call 68; refine HR.out.mono ?_; rintro e w1 ⟨v, rfl, hT⟩; have HT := Lib.hid hT; clear hT))
  go_ret
  exact ⟨_, rfl, HT.out⟩
set_option maxRecDepth 100000 in
set_option maxHeartbeats 1600000 in
theorem dRestore_any (h : IsDev w d b g sb sc fb fc D) (v : Value) (I : List ByteArray) (hv : Texts w v I) (hN : I.length ≤ 1048576) :
    Calls Tryz.prog 40 #[.pointer (some ⟨d, 0, none⟩), v] w fun e w' => e = .returned (.int .i64 (if loadErr I D.M then 1 else 0)) ∧ IsDev w' d b g sb sc fb fc { D with M := if loadErr I D.M then D.M else loadM I D.M } ∧ DFr w w' d g sb fb := by
  obtain ⟨c0, c1, c2, c3, c4, c5, c6⟩ := h.cells
  have HR := Lib.hid (Load_any h.mem v I hv hN)
  have H := Lib.hid h
  generalize (if loadErr I D.M then D.M else loadM I D.M) = M2 at HR ⊢
  generalize (if loadErr I D.M then 1 else 0 : Int) = E at HR ⊢
  clear h hv
  go_enter Tryz.func40, Tryz.ntmps40
  go_wp2_with (first | (go_at_call 80; refine HR.out.mono ?_; rintro e w1 ⟨rfl, hM, hg⟩))
  go_ret
  exact ⟨rfl, H.out.turn hM hg, DFr.ofGrown hg (.inr (.inl rfl))⟩
set_option maxRecDepth 100000 in
set_option maxHeartbeats 1600000 in
theorem dMount_any (h : IsDev w d b g sb sc fb fc D) (hf : Fine D.M) (hN : D.M.length ≤ 1048576) (v : Value) (P : List Int) (pb po : Nat) (hv : RestAt v P.length 0 pb po) (hpg : pb ≠ g)
    (hc : ∀ i x, P[i]? = some x → w.cell? ⟨pb, po + i, none⟩ = some (.int .i64 x)) :
    Calls Tryz.prog 20 #[.pointer (some ⟨d, 0, none⟩), v] w fun e w' => e = .returned (.tuple #[]) ∧ IsDev w' d b g sb sc fb fc { D with M := doneM (pick P) D.M (idxs Sec.dirty D.M), down := false, left := -1 } ∧ DFr w w' d g sb fb := by
  obtain ⟨c0, c1, c2, c3, c4, c5, c6⟩ := h.cells
  have HR := Lib.hid (Cut_any h.mem hf hN v P pb po hv hpg hc)
  have H := Lib.hid h
  generalize doneM (pick P) D.M (idxs Sec.dirty D.M) = M2 at HR ⊢
  clear h hv hc hf
  go_enter Tryz.func20, Tryz.ntmps20
  go_wp2_with (first | (go_at_call 66; refine HR.out.mono ?_; rintro e w1 ⟨rfl, hM, hg⟩; have h1 := H.out.turn hM hg; have y5 := h1.blk.cell 5; have y6 := h1.blk.cell 6; have z5 := h1.blk.frozen 5; have z6 := h1.blk.frozen 6; have H1 := Lib.hid h1; clear h1))
  go_end0
  have hg2 := grown_trans (grown_set w1 d 5 (.bool false)) (grown_set (w1.setCell ⟨d, 5, none⟩ (.bool false)) d 6 (.int .i64 (-1)))
  exact ⟨by simp, H1.out.scal hg2 rfl rfl rfl ((H1.out.blk.set_ 5 (.bool false)).set_ 6 (.int .i64 (-1))), (DFr.ofGrown hg (.inr (.inl rfl))).trans (DFr.ofGrown hg2 (.inl rfl))⟩
end
end Go.Proofs.YtcifkahmeimniaaGreat
namespace Go.Proofs.YtcifkahmeimniaaGreat
open Go.RowKit Go.Shelf
attribute [local go_sem] Oper.semAt_some

section
variable {w w' w2 : World} {d b g sb sc fb fc : Nat} {D : Dev}
set_option maxRecDepth 100000 in
set_option maxHeartbeats 4000000 in
theorem step_okb {Q : World → Prop} (h : IsDev w d b g sb sc fb fc D) (hd : D.down = false) (hl : D.left ≠ 0) (hr : -1 ≤ D.left ∧ D.left ≤ 9223372036854775807) (fi : Nat) (x : Value) (eg : ∀ args w, (callFunc fi args).run Tryz.prog w = .ok (.enter fi args) w)
    (HC : ∀ w2, IsDev w2 d b g sb sc fb fc { D with left := leftNext D.left } → w.grownBy w2 (some d) → Calls Tryz.prog fi #[x] w2 fun e w' => e = .returned (.tuple #[]) ∧ Q w') :
    Calls Tryz.prog 62 #[.pointer (some ⟨d, 0, none⟩), .int .i64 0, .func (.func fi) #[x] #[]] w fun e w' => e = .returned (.int .i64 0) ∧ Q w' := by
  have hf := h.blk.frozen
  obtain ⟨c0, c1, c2, c3, c4, c5, c6⟩ := h.cells
  rw [hd] at c5
  have hb : (D.left == 0) = false := beq_f hl
  have hw64 : wrap64 (D.left - 1) = D.left - 1 := by unfold wrap64; omega
  have H := Lib.hid h
  have Hc := Lib.hid HC
  clear hd hl h hr HC
  go_enter Tryz.func62, Tryz.ntmps62
  go_wp2_with fail
  have hg := grown_set w d 6 (.int .i64 (leftNext D.left))
  have hD : IsDev (w.setCell ⟨d, 6, none⟩ (.int .i64 (leftNext D.left))) d b g sb sc fb fc { D with left := leftNext D.left } := H.out.scal hg rfl rfl rfl (by
    have := H.out.blk.set_ 6 (.int .i64 (leftNext D.left))
    exact this)
  refine (Hc.out _ hD hg).mono ?_
  rintro e w' ⟨rfl, hQ⟩
  have HQ := Lib.hid hQ
  clear hQ
  go_wp2_with fail
  go_ret
  exact ⟨rfl, HQ.out⟩
theorem step_anyb (h : IsDev w d b g sb sc fb fc D) (hr : -1 ≤ D.left ∧ D.left ≤ 9223372036854775807) (check : Int) (fi : Nat) (x : Value) (eg : ∀ args w, (callFunc fi args).run Tryz.prog w = .ok (.enter fi args) w) (f : Dev → Dev)
    (HC : check = 0 → ∀ w2, IsDev w2 d b g sb sc fb fc { D with left := leftNext D.left } → w.grownBy w2 (some d) → Calls Tryz.prog fi #[x] w2 fun e w' => e = .returned (.tuple #[]) ∧ IsDev w' d b g sb sc fb fc (f { D with left := leftNext D.left }) ∧ DFr w2 w' d g sb fb) :
    Calls Tryz.prog 62 #[.pointer (some ⟨d, 0, none⟩), .int .i64 check, .func (.func fi) #[x] #[]] w fun e w' => e = .returned (.int .i64 (D.dstep check f).1) ∧ IsDev w' d b g sb sc fb fc (D.dstep check f).2 ∧ DFr w w' d g sb fb := by
  unfold Dev.dstep
  by_cases hd : D.down = true
  · rw [if_pos hd]
    refine (step_down h hd check _).mono ?_
    rintro e w' ⟨rfl, rfl⟩
    exact ⟨rfl, h, DFr.refl _⟩
  · rw [if_neg hd]
    have hd' : D.down = false := by simpa using hd
    by_cases hc : check ≠ 0
    · rw [if_pos hc]
      refine (step_chk h hd' check hc _).mono ?_
      rintro e w' ⟨rfl, rfl⟩
      exact ⟨rfl, h, DFr.refl _⟩
    · rw [if_neg hc]
      have hc' : check = 0 := by simpa using hc
      subst hc'
      by_cases hl : D.left = 0
      · rw [if_pos hl]
        refine (step_fail h hd' hl _).mono ?_
        rintro e w' ⟨rfl, h1, h2⟩
        exact ⟨rfl, h1, DFr.ofGrown h2 (.inl rfl)⟩
      · rw [if_neg hl]
        refine (step_okb (Q := fun w' => IsDev w' d b g sb sc fb fc (f { D with left := leftNext D.left }) ∧ DFr w w' d g sb fb) h hd' hl hr fi x eg (fun w2 h1 h2 => (HC rfl w2 h1 h2).mono ?_)).mono ?_
        · rintro e w' ⟨rfl, h3, h4⟩
          exact ⟨rfl, h3, (DFr.ofGrown h2 (.inl rfl)).trans h4⟩
        · rintro e w' ⟨rfl, h3, h4⟩
          exact ⟨rfl, h3, h4⟩

/-- The closures' entries. -/
theorem eg_flush (args : Array Value) (w : World) : (callFunc 77 args).run Tryz.prog w = .ok (.enter 77 args) w := by simp [go_sem]
theorem flush_step (h : IsDev w d b g sb sc fb fc D) (hr : -1 ≤ D.left ∧ D.left ≤ 9223372036854775807) (hf : Fine D.M) (hN : D.M.length ≤ 1048576) :
    Calls Tryz.prog 62 #[.pointer (some ⟨d, 0, none⟩), .int .i64 0, .func (.func 77) #[.pointer (some ⟨b, 0, none⟩)] #[]] w fun e w' => e = .returned (.int .i64 (D.dstep 0 fun D => { D with M := doneM (fun _ => 64) D.M (idxs Sec.dirty D.M) }).1) ∧
      IsDev w' d b g sb sc fb fc (D.dstep 0 fun D => { D with M := doneM (fun _ => 64) D.M (idxs Sec.dirty D.M) }).2 ∧ DFr w w' d g sb fb := by
  refine step_anyb h hr _ _ _ eg_flush _ (fun hc w2 h2 hg => ?_)
  refine (Flush_any h2.mem hf hN).mono ?_
  rintro e w' ⟨rfl, h3, h4⟩
  exact ⟨rfl, h2.turn h3 h4, DFr.ofGrown h4 (.inr (.inl rfl))⟩
set_option maxRecDepth 100000 in
set_option maxHeartbeats 1600000 in
theorem dFlush_any (h : IsDev w d b g sb sc fb fc D) (hr : -1 ≤ D.left ∧ D.left ≤ 9223372036854775807) (hf : Fine D.M) (hN : D.M.length ≤ 1048576) :
    Calls Tryz.prog 37 #[.pointer (some ⟨d, 0, none⟩)] w fun e w' => e = .returned (.int .i64 (D.dstep 0 fun D => { D with M := doneM (fun _ => 64) D.M (idxs Sec.dirty D.M) }).1) ∧
      IsDev w' d b g sb sc fb fc (D.dstep 0 fun D => { D with M := doneM (fun _ => 64) D.M (idxs Sec.dirty D.M) }).2 ∧ DFr w w' d g sb fb := by
  obtain ⟨c0, c1, c2, c3, c4, c5, c6⟩ := h.cells
  have HS := Lib.hid (flush_step h hr hf hN)
  generalize (D.dstep 0 fun D => { D with M := doneM (fun _ => 64) D.M (idxs Sec.dirty D.M) }) = R at HS ⊢
  obtain ⟨r, E⟩ := R
  dsimp only at HS ⊢
  clear h hr hf
  go_enter Tryz.func37, Tryz.ntmps37
  go_wp2_with (first | (go_at_call 62; refine HS.out.mono ?_; rintro e w' ⟨rfl, hE, hF⟩))
  go_ret
  exact ⟨rfl, hE, hF⟩
end
end Go.Proofs.YtcifkahmeimniaaGreat
