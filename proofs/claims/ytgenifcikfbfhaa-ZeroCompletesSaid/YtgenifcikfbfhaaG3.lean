/-
  Layer 23 (device): Store and Burn at every input; Raise.
  Layer 23 (device): Read, Load, Burned, Tick, Trip, Stale, Wear.
  Layer 23 (device), plain: what holds of a device behind whatever operations; slots; torn sectors.
  Layer 23 (device), plain: what a cut leaves in each sector; torn contents.
  Layer 33 (zero), plain: the steps of Resume.
  Layer 33 (zero): State, the number of slots, what is left of a slot and of a sector.
-/
import Derived.Test.YtgenifcikfbfhaaDevW8
import Derived.Test.YtgenifcikfbfhaaDevW9
import Derived.Test.YtgenifcikfbfhaaG2
import Derived.Test.YtgenifcikfbfhaaG1
namespace Go.Proofs.Ytgenifcikfbfhaa
open Go.RowKit Go.Shelf
attribute [local go_sem] Oper.semAt_some

section
variable {w : World} {d b g sb sc fb fc : Nat} {D : Dev}
theorem dstep_slots (c : Int) (f : Dev → Dev) (hf : ∀ D, (f D).slots.length = D.slots.length) : (D.dstep c f).2.slots.length = D.slots.length := by
  unfold Dev.dstep
  split
  · rfl
  · split
    · rfl
    · split
      · rfl
      · exact hf _
theorem dstep_fuses (c : Int) (f : Dev → Dev) (hf : ∀ D, (f D).fuses.length = D.fuses.length) : (D.dstep c f).2.fuses.length = D.fuses.length := by
  unfold Dev.dstep
  split
  · rfl
  · split
    · rfl
    · split
      · rfl
      · exact hf _
theorem store_step (h : IsDev w d b g sb sc fb fc D) (hr : -1 ≤ D.left ∧ D.left ≤ 9223372036854775807) (bd bi bt : Nat) (i : Int) (t : ByteArray) (k1 : Blk w bd 26 #[.pointer (some ⟨d, 0, none⟩)]) (k2 : Blk w bi 3 #[.int .i64 i]) (k3 : Blk w bt 9 #[.string t]) :
    Calls Try.prog 39 #[.pointer (some ⟨d, 0, none⟩), .int .i64 (chk (inS D.slots i ∧ t.size = 32)), .func (.func 52) #[] #[.pointer (some ⟨bt, 0, none⟩), .pointer (some ⟨bd, 0, none⟩), .pointer (some ⟨bi, 0, none⟩)]] w fun e w' => e = .returned (.int .i64 (D.dstep (chk (inS D.slots i ∧ t.size = 32)) fun D => { D with slots := D.slots.set i.toNat t }).1) ∧
      IsDev w' d b g sb sc fb fc (D.dstep (chk (inS D.slots i ∧ t.size = 32)) fun D => { D with slots := D.slots.set i.toNat t }).2 ∧ DFr w w' d g sb fb := by
  refine step_any h hr _ _ _ eg_store _ (fun hc w2 h2 hg => ?_)
  have hp := of_chk hc
  obtain ⟨n, rfl⟩ := Int.eq_ofNat_of_zero_le hp.1.1
  have n1 := k1.ne_ h.blk (by decide)
  have n2 := k2.ne_ h.blk (by decide)
  have n3 := k3.ne_ h.blk (by decide)
  have hn : n < D.slots.length := by have := hp.1.2; omega
  refine (store1_any h2 bd bi bt n hn t (k1.grown hg (fun e => n1 (by cases e; rfl))) (k2.grown hg (fun e => n2 (by cases e; rfl))) (k3.grown hg (fun e => n3 (by cases e; rfl)))).mono ?_
  rintro e w' ⟨rfl, h3, h4⟩
  exact ⟨rfl, h3, DFr.ofGrown h4 (.inr (.inr (.inl rfl)))⟩
theorem burn_step (h : IsDev w d b g sb sc fb fc D) (hr : -1 ≤ D.left ∧ D.left ≤ 9223372036854775807) (bd bi : Nat) (i : Int) (k1 : Blk w bd 26 #[.pointer (some ⟨d, 0, none⟩)]) (k2 : Blk w bi 3 #[.int .i64 i]) :
    Calls Try.prog 39 #[.pointer (some ⟨d, 0, none⟩), .int .i64 (chk (inS D.fuses i)), .func (.func 41) #[] #[.pointer (some ⟨bd, 0, none⟩), .pointer (some ⟨bi, 0, none⟩)]] w fun e w' => e = .returned (.int .i64 (D.dstep (chk (inS D.fuses i)) fun D => { D with fuses := D.fuses.set i.toNat true }).1) ∧
      IsDev w' d b g sb sc fb fc (D.dstep (chk (inS D.fuses i)) fun D => { D with fuses := D.fuses.set i.toNat true }).2 ∧ DFr w w' d g sb fb := by
  refine step_any h hr _ _ _ eg_burn _ (fun hc w2 h2 hg => ?_)
  have hp := of_chk hc
  obtain ⟨n, rfl⟩ := Int.eq_ofNat_of_zero_le hp.1
  have n1 := k1.ne_ h.blk (by decide)
  have n2 := k2.ne_ h.blk (by decide)
  have hn : n < D.fuses.length := by have := hp.2; omega
  refine (burn1_any h2 bd bi n hn (k1.grown hg (fun e => n1 (by cases e; rfl))) (k2.grown hg (fun e => n2 (by cases e; rfl)))).mono ?_
  rintro e w' ⟨rfl, h3, h4⟩
  exact ⟨rfl, h3, DFr.ofGrown h4 (.inr (.inr (.inr rfl)))⟩
theorem raise_step (h : IsDev w d b g sb sc fb fc D) (hr : -1 ≤ D.left ∧ D.left ≤ 9223372036854775807) (c : Int) (bd bi : Nat) (n : Int) (k1 : Blk w bd 26 #[.pointer (some ⟨d, 0, none⟩)]) (k2 : Blk w bi 3 #[.int .i64 n]) :
    Calls Try.prog 39 #[.pointer (some ⟨d, 0, none⟩), .int .i64 c, .func (.func 57) #[] #[.pointer (some ⟨bi, 0, none⟩), .pointer (some ⟨bd, 0, none⟩)]] w fun e w' => e = .returned (.int .i64 (D.dstep c fun D => { D with counter := n }).1) ∧
      IsDev w' d b g sb sc fb fc (D.dstep c fun D => { D with counter := n }).2 ∧ DFr w w' d g sb fb := by
  refine step_any h hr _ _ _ eg_raise _ (fun hc w2 h2 hg => ?_)
  have n1 := k1.ne_ h.blk (by decide)
  have n2 := k2.ne_ h.blk (by decide)
  refine (raise1_any h2 bd bi n (k1.grown hg (fun e => n1 (by cases e; rfl))) (k2.grown hg (fun e => n2 (by cases e; rfl)))).mono ?_
  rintro e w' ⟨rfl, h3, h4⟩
  exact ⟨rfl, h3, DFr.ofGrown h4 (.inl rfl)⟩
theorem not_inS {α : Type} {l : List α} {i : Int} (h : ¬ inS l i) : i < 0 ∨ (0 ≤ i ∧ (l.length : Int) ≤ i) := by
  unfold inS at h
  omega
theorem dStore_any (h : IsDev w d b g sb sc fb fc D) (hr : -1 ≤ D.left ∧ D.left ≤ 9223372036854775807) (i : Int) (t : ByteArray) :
    Calls Try.prog 29 #[.pointer (some ⟨d, 0, none⟩), .int .i64 i, .string t] w fun e w' => e = .returned (.int .i64 (D.dstep (chk (inS D.slots i ∧ t.size = 32)) fun D => { D with slots := D.slots.set i.toNat t }).1) ∧
      IsDev w' d b g sb sc fb fc (D.dstep (chk (inS D.slots i ∧ t.size = 32)) fun D => { D with slots := D.slots.set i.toNat t }).2 ∧ DFr w w' d g sb fb := by
  have hlen := dstep_slots (D := D) (chk (inS D.slots i ∧ t.size = 32)) (fun D => { D with slots := D.slots.set i.toNat t }) (fun D => by simp)
  by_cases hi : inS D.slots i
  · by_cases ht : t.size = 32
    · refine dStore_in h i t hi ht _ _ hlen fun w2 bd bi bt h2 k1 k2 k3 => ?_
      have := store_step h2 hr bd bi bt i t k1 k2 k3
      rw [chk_pos (⟨hi, ht⟩ : inS D.slots i ∧ t.size = 32)] at this ⊢
      exact this
    · refine dStore_size h i t hi ht _ _ hlen fun w2 bd bi bt h2 k1 k2 k3 => ?_
      have := store_step h2 hr bd bi bt i t k1 k2 k3
      rw [chk_neg (show ¬ (inS D.slots i ∧ t.size = 32) from fun h => ht h.2)] at this ⊢
      exact this
  · rcases not_inS hi with h0 | h0
    · refine dStore_neg h i t h0 _ _ hlen fun w2 bd bi bt h2 k1 k2 k3 => ?_
      have := store_step h2 hr bd bi bt i t k1 k2 k3
      rw [chk_neg (show ¬ (inS D.slots i ∧ t.size = 32) from fun h => hi h.1)] at this ⊢
      exact this
    · refine dStore_beyond h i t h0 _ _ hlen fun w2 bd bi bt h2 k1 k2 k3 => ?_
      have := store_step h2 hr bd bi bt i t k1 k2 k3
      rw [chk_neg (show ¬ (inS D.slots i ∧ t.size = 32) from fun h => hi h.1)] at this ⊢
      exact this
theorem dBurn_any (h : IsDev w d b g sb sc fb fc D) (hr : -1 ≤ D.left ∧ D.left ≤ 9223372036854775807) (i : Int) :
    Calls Try.prog 19 #[.pointer (some ⟨d, 0, none⟩), .int .i64 i] w fun e w' => e = .returned (.int .i64 (D.dstep (chk (inS D.fuses i)) fun D => { D with fuses := D.fuses.set i.toNat true }).1) ∧
      IsDev w' d b g sb sc fb fc (D.dstep (chk (inS D.fuses i)) fun D => { D with fuses := D.fuses.set i.toNat true }).2 ∧ DFr w w' d g sb fb := by
  have hlen := dstep_fuses (D := D) (chk (inS D.fuses i)) (fun D => { D with fuses := D.fuses.set i.toNat true }) (fun D => by simp)
  by_cases hi : inS D.fuses i
  · refine dBurn_in h i hi _ _ hlen fun w2 bd bi h2 k1 k2 => ?_
    have := burn_step h2 hr bd bi i k1 k2
    rw [chk_pos hi] at this ⊢
    exact this
  · rcases not_inS hi with h0 | h0
    · refine dBurn_neg h i h0 _ _ hlen fun w2 bd bi h2 k1 k2 => ?_
      have := burn_step h2 hr bd bi i k1 k2
      rw [chk_neg hi] at this ⊢
      exact this
    · refine dBurn_beyond h i h0 _ _ hlen fun w2 bd bi h2 k1 k2 => ?_
      have := burn_step h2 hr bd bi i k1 k2
      rw [chk_neg hi] at this ⊢
      exact this
end
end Go.Proofs.Ytgenifcikfbfhaa
namespace Go.Proofs.Ytgenifcikfbfhaa
open Go.RowKit Go.Shelf
attribute [local go_sem] Oper.semAt_some

section
variable {w : World} {d b g sb sc fb fc : Nat} {D : Dev}
set_option maxRecDepth 100000 in
set_option maxHeartbeats 1600000 in
theorem dRead_any (h : IsDev w d b g sb sc fb fc D) (i : Int) :
    Calls Try.prog 25 #[.pointer (some ⟨d, 0, none⟩), .int .i64 i] w fun e w' => e = .returned (.tuple #[.string (if D.down then ⟨#[]⟩ else if isAt D.M i then (D.M.getD i.toNat default).seen else ⟨#[]⟩), .int .i64 (if D.down then 14 else if isAt D.M i then 0 else 1)]) ∧ w = w' := by
  obtain ⟨c0, c1, c2, c3, c4, c5, c6⟩ := h.cells
  have HR := Lib.hid (read_any h.mem i)
  unfold errOf at HR
  cases hd : D.down with
  | true =>
    rw [hd] at c5
    clear HR h hd
    go_enter Try.func25, Try.ntmps25
    go_wp2_with fail
    go_ret2
    exact ⟨rfl, rfl⟩
  | false =>
    rw [hd] at c5
    simp only [Bool.false_eq_true, if_false]
    generalize (if isAt D.M i then (D.M.getD i.toNat default).seen else ⟨#[]⟩ : ByteArray) = T at HR ⊢
    generalize (if isAt D.M i then 0 else 1 : Int) = E at HR ⊢
    clear h hd
    go_enter Try.func25, Try.ntmps25
    go_wp2_with (first | (go_at_call 47; refine HR.out.mono ?_; rintro e w1 ⟨rfl, rfl⟩))
    go_ret2
    exact ⟨rfl, rfl⟩
set_option maxRecDepth 100000 in
set_option maxHeartbeats 1600000 in
theorem dLoad_any (h : IsDev w d b g sb sc fb fc D) (i : Int) :
    Calls Try.prog 11 #[.pointer (some ⟨d, 0, none⟩), .int .i64 i] w fun e w' => e = .returned (.tuple #[.string (if D.down then ⟨#[]⟩ else if inS D.slots i then D.slots.getD i.toNat ⟨#[]⟩ else ⟨#[]⟩), .int .i64 (if D.down then 14 else if inS D.slots i then 0 else 1)]) ∧ w = w' := by
  obtain ⟨c0, c1, c2, c3, c4, c5, c6⟩ := h.cells
  cases hd : D.down with
  | true =>
    rw [hd] at c5
    clear h hd
    go_enter Try.func11, Try.ntmps11
    go_wp2_with fail
    go_ret2
    exact ⟨rfl, rfl⟩
  | false =>
    rw [hd] at c5
    simp only [Bool.false_eq_true, if_false]
    by_cases hi : inS D.slots i
    · rw [if_pos hi, if_pos hi]
      obtain ⟨n, rfl⟩ := Int.eq_ofNat_of_zero_le hi.1
      have hn : n < D.slots.length := by have := hi.2; omega
      obtain ⟨o, ho⟩ : ∃ o, D.slots[n]? = some o := ⟨_, List.getElem?_eq_getElem hn⟩
      have hc : w.cell? ⟨sb, n, none⟩ = some (.string o) := by
        rw [h.srow.cellAt n (by omega)]
        unfold strCells
        rw [List.getElem?_map, ho]
        rfl
      have e : D.slots.getD (n : Int).toNat ⟨#[]⟩ = o := by
        rw [Int.toNat_natCast, List.getD_eq_getElem?_getD, ho]; rfl
      rw [e]
      have d1 : decide ((n : Int) < 0) = false := decide_eq_false (by omega)
      have d2 : decide (D.slots.length ≤ n) = false := decide_eq_false (by omega)
      have hi0 : (0 : Int) ≤ (n : Int) := by omega
      have hi1 : (n : Int) < D.slots.length := by omega
      clear h hd hi ho e
      go_enter Try.func11, Try.ntmps11
      go_wp2_with fail
      go_ret2
      exact ⟨rfl, rfl⟩
    · rw [if_neg hi, if_neg hi]
      rcases not_inS hi with h0 | h0
      · have d1 : decide (i < 0) = true := decide_eq_true h0
        clear h hd hi h0
        go_enter Try.func11, Try.ntmps11
        go_wp2_with fail
        go_ret2
        exact ⟨rfl, rfl⟩
      · have d1 : decide (i < 0) = false := decide_eq_false (by omega)
        have d2 : decide ((D.slots.length : Int) ≤ i) = true := decide_eq_true h0.2
        clear h hd hi h0
        go_enter Try.func11, Try.ntmps11
        go_wp2_with fail
        go_ret2
        exact ⟨rfl, rfl⟩
/-- Whether a fuse is burned. -/
def burnedD (D : Dev) (i : Int) : Bool := if inS D.fuses i then D.fuses.getD i.toNat false else false
set_option maxRecDepth 100000 in
set_option maxHeartbeats 1600000 in
theorem dBurned_any (h : IsDev w d b g sb sc fb fc D) (i : Int) :
    Calls Try.prog 10 #[.pointer (some ⟨d, 0, none⟩), .int .i64 i] w fun e w' => e = .returned (.bool (burnedD D i)) ∧ w = w' := by
  obtain ⟨c0, c1, c2, c3, c4, c5, c6⟩ := h.cells
  unfold burnedD
  by_cases hi : inS D.fuses i
  · rw [if_pos hi]
    obtain ⟨n, rfl⟩ := Int.eq_ofNat_of_zero_le hi.1
    have hn : n < D.fuses.length := by have := hi.2; omega
    obtain ⟨o, ho⟩ : ∃ o, D.fuses[n]? = some o := ⟨_, List.getElem?_eq_getElem hn⟩
    have hc : w.cell? ⟨fb, n, none⟩ = some (.bool o) := by
      rw [h.frow.cellAt n (by omega)]
      unfold boolCells
      rw [List.getElem?_map, ho]
      rfl
    have e : D.fuses.getD (n : Int).toNat false = o := by
      rw [Int.toNat_natCast, List.getD_eq_getElem?_getD, ho]; rfl
    rw [e]
    have hi0 : (0 : Int) ≤ (n : Int) := by omega
    have hi1 : (n : Int) < D.fuses.length := by omega
    clear h hi ho e
    go_enter Try.func10, Try.ntmps10
    go_wp2_with fail
    go_ret
    exact ⟨rfl, rfl⟩
  · rw [if_neg hi]
    rcases not_inS hi with h0 | h0
    · have d1 : decide (0 ≤ i) = false := decide_eq_false (by omega)
      clear h hi h0
      go_enter Try.func10, Try.ntmps10
      go_wp2_with fail
      go_ret
      exact ⟨rfl, rfl⟩
    · have d1 : decide (0 ≤ i) = true := decide_eq_true h0.1
      have d2 : decide (i < (D.fuses.length : Int)) = false := decide_eq_false (by omega)
      clear h hi h0
      go_enter Try.func10, Try.ntmps10
      go_wp2_with fail
      go_ret
      exact ⟨rfl, rfl⟩
set_option maxRecDepth 100000 in
set_option maxHeartbeats 1600000 in
theorem dTrip_any (h : IsDev w d b g sb sc fb fc D) (n : Int) :
    Calls Try.prog 13 #[.pointer (some ⟨d, 0, none⟩), .int .i64 n] w fun e w' => e = .returned (.tuple #[]) ∧ IsDev w' d b g sb sc fb fc { D with left := max n (-1) } ∧ DFr w w' d g sb fb := by
  have hf := h.blk.frozen 6
  have c6 := h.blk.cell 6
  have H := Lib.hid h
  clear h
  go_enter Try.func13, Try.ntmps13
  go_wp2_with fail
  go_end0
  have hg := grown_set w d 6 (.int .i64 (max n (-1)))
  exact ⟨by simp, H.out.scal hg rfl rfl rfl (H.out.blk.set_ 6 (.int .i64 (max n (-1)))), DFr.ofGrown hg (.inl rfl)⟩
set_option maxRecDepth 100000 in
set_option maxHeartbeats 1600000 in
theorem dStale_any (h : IsDev w d b g sb sc fb fc D) (i : Int) :
    Calls Try.prog 36 #[.pointer (some ⟨d, 0, none⟩), .int .i64 i] w fun e w' => e = .returned (.int .i64 (chk (isAt D.M i))) ∧ IsDev w' d b g sb sc fb fc { D with M := if isAt D.M i then upd Sec.stale D.M i else D.M } ∧ DFr w w' d g sb fb := by
  obtain ⟨c0, c1, c2, c3, c4, c5, c6⟩ := h.cells
  have HR := Lib.hid (stale_any h.mem i)
  have H := Lib.hid h
  unfold errOf at HR
  unfold chk
  generalize (if isAt D.M i then upd Sec.stale D.M i else D.M) = M2 at HR ⊢
  generalize (if isAt D.M i then 0 else 1 : Int) = E at HR ⊢
  clear h
  go_enter Try.func36, Try.ntmps36
  go_wp2_with (first | (go_at_call 59; refine HR.out.mono ?_; rintro e w1 ⟨rfl, hM, hg⟩))
  go_ret
  exact ⟨rfl, H.out.turn hM hg, DFr.ofGrown hg (.inr (.inl rfl))⟩
set_option maxRecDepth 100000 in
set_option maxHeartbeats 1600000 in
theorem dWear_any (h : IsDev w d b g sb sc fb fc D) (i : Int) :
    Calls Try.prog 37 #[.pointer (some ⟨d, 0, none⟩), .int .i64 i] w fun e w' => e = .returned (.int .i64 (chk (isAt D.M i))) ∧ IsDev w' d b g sb sc fb fc { D with M := if isAt D.M i then upd Sec.wear D.M i else D.M } ∧ DFr w w' d g sb fb := by
  obtain ⟨c0, c1, c2, c3, c4, c5, c6⟩ := h.cells
  have HR := Lib.hid (wear_any h.mem i)
  have H := Lib.hid h
  unfold errOf at HR
  unfold chk
  generalize (if isAt D.M i then upd Sec.wear D.M i else D.M) = M2 at HR ⊢
  generalize (if isAt D.M i then 0 else 1 : Int) = E at HR ⊢
  clear h
  go_enter Try.func37, Try.ntmps37
  go_wp2_with (first | (go_at_call 60; refine HR.out.mono ?_; rintro e w1 ⟨rfl, hM, hg⟩))
  go_ret
  exact ⟨rfl, H.out.turn hM hg, DFr.ofGrown hg (.inr (.inl rfl))⟩
end
end Go.Proofs.Ytgenifcikfbfhaa
namespace Go.Proofs.Ytgenifcikfbfhaa

/-- What holds of a device behind whatever operations. -/
structure Dev.Ok (n s f : Nat) (D : Dev) : Prop where
  M : D.M.length = n
  slots : D.slots.length = s
  fuses : D.fuses.length = f
  fine : Fine D.M
  left : -1 ≤ D.left ∧ D.left ≤ 9223372036854775807
  counter : 0 ≤ D.counter ∧ D.counter ≤ 4611686018427387904
  clock : 0 ≤ D.clock ∧ D.clock ≤ 1099511627776

/-- The new device. -/
def freshDev (n s f : Nat) : Dev := ⟨List.replicate s zero32, List.replicate f false, 0, 0, List.replicate n Sec.blank, false, -1⟩
theorem fresh_ok (n s f : Nat) : (freshDev n s f).Ok n s f :=
  ⟨by simp [freshDev], by simp [freshDev], by simp [freshDev], fun x hx => by
    have := List.eq_of_mem_replicate hx
    subst this
    exact ⟨zeros_size, zeros_size, fun e => by cases e⟩, ⟨by show (-1 : Int) ≤ -1; omega, by show (-1 : Int) ≤ _; omega⟩, ⟨Int.le_refl _, by show (0 : Int) ≤ _; omega⟩, ⟨Int.le_refl _, by show (0 : Int) ≤ _; omega⟩⟩

theorem left_next (l : Int) (h : -1 ≤ l ∧ l ≤ 9223372036854775807) : -1 ≤ max (l - 1) (-1) ∧ max (l - 1) (-1) ≤ 9223372036854775807 := by omega

section
variable {n s f : Nat} {D : Dev}
theorem dstep_ok (h : D.Ok n s f) (c : Int) (F : Dev → Dev) (hF : c = 0 → ({ D with left := max (D.left - 1) (-1) } : Dev).Ok n s f → (F { D with left := max (D.left - 1) (-1) }).Ok n s f) : (D.dstep c F).2.Ok n s f := by
  unfold Dev.dstep
  split
  · exact h
  · split
    · exact h
    · rename_i hc
      split
      · exact ⟨h.M, h.slots, h.fuses, h.fine, ⟨by show (-1 : Int) ≤ -1; omega, by show (-1 : Int) ≤ _; omega⟩, h.counter, h.clock⟩
      · exact hF (by omega) ⟨h.M, h.slots, h.fuses, h.fine, left_next _ h.left, h.counter, h.clock⟩
theorem chk_zero {p : Prop} [Decidable p] (h : chk p = 0) : p := by
  unfold chk at h
  split at h
  · assumption
  · omega
theorem fine_upd_write {M : List Sec} (h : Fine M) (t : ByteArray) (i : Int) (hi : isAt M i ∧ t.size = 64) : Fine (upd (fun s => s.write t) M i) := by
  refine fine_upd (f := fun s => s.write t) h (fun x hx => ?_) hi.1
  unfold Sec.write
  split
  · exact hx
  · exact ⟨hx.1, hx.2.1, fun _ => hi.2⟩
theorem dplay_ok (h : D.Ok n s f) (o : DOp) (ha : -9223372036854775808 ≤ o.a ∧ o.a ≤ 9223372036854775807) (img : List ByteArray) : (dplay o D img).2.1.Ok n s f := by
  have hD : ∀ i ∈ idxs Sec.dirty D.M, ∃ x, D.M[i]? = some x ∧ x.dirty = true := fun i hi => idxs_at hi
  unfold dplay
  by_cases k1 : o.kind = 1
  · rw [if_pos k1]; exact h
  rw [if_neg k1]
  by_cases k2 : o.kind = 2
  · rw [if_pos k2]
    refine dstep_ok h _ _ (fun hc h2 => ?_)
    exact ⟨by dsimp only; rw [upd_len]; exact h.M, h.slots, h.fuses, fine_upd_write h.fine _ _ (chk_zero hc), h2.left, h.counter, h.clock⟩
  rw [if_neg k2]
  by_cases k3 : o.kind = 3
  · rw [if_pos k3]
    refine dstep_ok h _ _ (fun hc h2 => ?_)
    exact ⟨by dsimp only; rw [doneM_len]; exact h.M, h.slots, h.fuses, fine_doneM h.fine _ (fun _ => Nat.le_refl _) _ _ rfl hD, h2.left, h.counter, h.clock⟩
  rw [if_neg k3]
  by_cases k4 : o.kind = 4
  · rw [if_pos k4]; exact h
  rw [if_neg k4]
  by_cases k5 : o.kind = 5
  · rw [if_pos k5]
    refine dstep_ok h _ _ (fun hc h2 => ?_)
    exact ⟨h.M, by dsimp only; rw [List.length_set]; exact h.slots, h.fuses, h.fine, h2.left, h.counter, h.clock⟩
  rw [if_neg k5]
  by_cases k6 : o.kind = 6
  · rw [if_pos k6]
    refine dstep_ok h _ _ (fun hc h2 => ?_)
    exact ⟨h.M, h.slots, by dsimp only; rw [List.length_set]; exact h.fuses, h.fine, h2.left, h.counter, h.clock⟩
  rw [if_neg k6]
  by_cases k7 : o.kind = 7
  · rw [if_pos k7]
    refine dstep_ok h _ _ (fun hc h2 => ?_)
    refine ⟨h.M, h.slots, h.fuses, h.fine, h2.left, ?_, h.clock⟩
    by_cases h1 : 0 ≤ o.a ∧ o.a ≤ 4611686018427387904
    · exact h1
    · rw [if_neg h1] at hc; omega
  rw [if_neg k7]
  by_cases k8 : o.kind = 8
  · rw [if_pos k8]
    by_cases hc : o.a < 0 ∨ 1099511627776 - D.clock < o.a
    · rw [if_pos hc]; exact h
    · rw [if_neg hc]
      have := h.clock
      exact ⟨h.M, h.slots, h.fuses, h.fine, h.left, h.counter, by dsimp only; omega⟩
  rw [if_neg k8]
  by_cases k9 : o.kind = 9
  · rw [if_pos k9]; exact ⟨h.M, h.slots, h.fuses, h.fine, by dsimp only; omega, h.counter, h.clock⟩
  rw [if_neg k9]
  by_cases k10 : o.kind = 10
  · rw [if_pos k10]
    exact ⟨by dsimp only; rw [doneM_len]; exact h.M, h.slots, h.fuses, fine_doneM h.fine _ (pick_le _) _ _ rfl hD, ⟨by show (-1 : Int) ≤ -1; omega, by show (-1 : Int) ≤ _; omega⟩, h.counter, h.clock⟩
  rw [if_neg k10]
  by_cases k11 : o.kind = 11
  · rw [if_pos k11]; exact ⟨h.M, by dsimp only; rw [List.length_replicate]; exact h.slots, h.fuses, h.fine, h.left, h.counter, h.clock⟩
  rw [if_neg k11]
  by_cases k12 : o.kind = 12
  · rw [if_pos k12]
    by_cases hi : isAt D.M o.a
    · rw [if_pos hi]
      exact ⟨by dsimp only; rw [upd_len]; exact h.M, h.slots, h.fuses, fine_upd (f := Sec.stale) h.fine (fun x hx => ⟨hx.2.1, hx.2.1, hx.2.2⟩) hi, h.left, h.counter, h.clock⟩
    · rw [if_neg hi]
      exact h
  rw [if_neg k12]
  by_cases k13 : o.kind = 13
  · rw [if_pos k13]
    by_cases hi : isAt D.M o.a
    · rw [if_pos hi]
      exact ⟨by dsimp only; rw [upd_len]; exact h.M, h.slots, h.fuses, fine_upd (f := Sec.wear) h.fine (fun x hx => ⟨hx.1, hx.2.1, hx.2.2⟩) hi, h.left, h.counter, h.clock⟩
    · rw [if_neg hi]
      exact h
  rw [if_neg k13]
  by_cases k14 : o.kind = 14
  · rw [if_pos k14]; exact h
  rw [if_neg k14]
  by_cases k15 : o.kind = 15
  · rw [if_pos k15]
    by_cases hl : loadErr img D.M = true
    · rw [hl]
      exact h
    · have hf : loadErr img D.M = false := by simpa using hl
      rw [hf]
      unfold loadErr at hf
      have h1 : (img.length : Int) = D.M.length := by simp at hf; exact hf.1
      have h2 : wrongs img = false := by simp at hf; simpa using hf.2
      exact ⟨by dsimp only; rw [if_neg (by decide), loadM_len _ _ (by omega)]; exact h.M, h.slots, h.fuses, by dsimp only; rw [if_neg (by decide)]; exact fine_load h2, h.left, h.counter, h.clock⟩
  rw [if_neg k15]
  exact h

/-- The image behind an operation. -/
theorem dplay_img (o : DOp) (img : List ByteArray) : (dplay o D img).2.2 = if o.kind = 14 then D.M.map Sec.now else img := by
  by_cases k : o.kind = 14
  · unfold dplay
    rw [if_pos k]
    simp [k]
  · rw [if_neg k]
    unfold dplay
    rw [if_neg k]
    by_cases k1 : o.kind = 1
    · rw [if_pos k1]
    rw [if_neg k1]
    by_cases k1 : o.kind = 2
    · rw [if_pos k1]; rfl
    rw [if_neg k1]
    by_cases k1 : o.kind = 3
    · rw [if_pos k1]; rfl
    rw [if_neg k1]
    by_cases k1 : o.kind = 4
    · rw [if_pos k1]
    rw [if_neg k1]
    by_cases k1 : o.kind = 5
    · rw [if_pos k1]; rfl
    rw [if_neg k1]
    by_cases k1 : o.kind = 6
    · rw [if_pos k1]; rfl
    rw [if_neg k1]
    by_cases k1 : o.kind = 7
    · rw [if_pos k1]; rfl
    rw [if_neg k1]
    by_cases k1 : o.kind = 8
    · rw [if_pos k1]
      split <;> rfl
    rw [if_neg k1]
    by_cases k1 : o.kind = 9
    · rw [if_pos k1]
    rw [if_neg k1]
    by_cases k1 : o.kind = 10
    · rw [if_pos k1]
    rw [if_neg k1]
    by_cases k1 : o.kind = 11
    · rw [if_pos k1]
    rw [if_neg k1]
    by_cases k1 : o.kind = 12
    · rw [if_pos k1]
    rw [if_neg k1]
    by_cases k1 : o.kind = 13
    · rw [if_pos k1]
    rw [if_neg k1]
    by_cases k1 : o.kind = 15
    · rw [if_pos k1]
    rw [if_neg k1]
end

/-- The device and the image behind a list of operations. -/
def druns : List DOp → Dev × List ByteArray → Dev × List ByteArray
  | [], x => x
  | o :: r, x => druns r (dplay o x.1 x.2).2
theorem druns_snoc : ∀ (l : List DOp) (o : DOp) (x : Dev × List ByteArray), druns (l ++ [o]) x = (dplay o (druns l x).1 (druns l x).2).2
  | [], _, _ => rfl
  | _ :: l, o, _ => druns_snoc l o _
/-- Behind the first k operations. -/
def dUpTo (n s f : Nat) (ops : List DOp) (k : Nat) : Dev × List ByteArray := druns (ops.take k) (freshDev n s f, [])
theorem dUpTo_succ (n s f : Nat) (ops : List DOp) (k : Nat) (o : DOp) (h : ops[k]? = some o) : dUpTo n s f ops (k + 1) = (dplay o (dUpTo n s f ops k).1 (dUpTo n s f ops k).2).2 := by
  unfold dUpTo
  rw [List.take_add_one, h]
  exact druns_snoc _ _ _
/-- Every operation's number is a number of the machine. -/
def OpsIn (ops : List DOp) : Prop := ∀ (i : Nat) (o : DOp), ops[i]? = some o → -9223372036854775808 ≤ o.a ∧ o.a ≤ 9223372036854775807
theorem dUpTo_ok (n s f : Nat) (ops : List DOp) (ho : OpsIn ops) : ∀ k, k ≤ ops.length → (dUpTo n s f ops k).1.Ok n s f ∧ ((dUpTo n s f ops k).2 = [] ∨ (dUpTo n s f ops k).2.length = n)
  | 0, _ => ⟨fresh_ok n s f, .inl rfl⟩
  | k + 1, h => by
    obtain ⟨o, hk⟩ : ∃ o, ops[k]? = some o := ⟨_, List.getElem?_eq_getElem (by omega)⟩
    obtain ⟨h1, h2⟩ := dUpTo_ok n s f ops ho k (by omega)
    rw [dUpTo_succ n s f ops k o hk]
    refine ⟨dplay_ok h1 o (ho k o hk) _, ?_⟩
    rw [dplay_img]
    split
    · exact .inr (by rw [List.length_map]; exact h1.M)
    · exact h2
end Go.Proofs.Ytgenifcikfbfhaa
namespace Go.Proofs.Ytgenifcikfbfhaa
open Go.RowKit

theorem idxs_none {p : Sec → Bool} {M : List Sec} (h : ∀ s ∈ M, p s = false) : idxs p M = [] := by
  unfold idxs upto
  rw [List.filter_eq_nil_iff]
  intro i hi
  have hi' : i < M.length := by simpa using hi
  have := h _ (List.getElem_mem hi')
  simp [List.getElem?_eq_getElem hi', this]
theorem idxs_mem {p : Sec → Bool} {M : List Sec} {j : Nat} : j ∈ idxs p M ↔ ∃ s, M[j]? = some s ∧ p s = true := by
  refine ⟨idxs_at, fun ⟨s, h1, h2⟩ => ?_⟩
  unfold idxs upto
  rw [List.mem_filter, List.mem_range]
  exact ⟨(List.getElem?_eq_some_iff.1 h1).1, by simp [h1, h2]⟩

theorem doneM_get (cnt : Nat → Nat) (M : List Sec) : ∀ (n : Nat) (pre : List Nat), pre.length = n → pre.Nodup → ∀ j s, j ∈ pre → M[j]? = some s → ∃ i, (doneM cnt M pre)[j]? = some (s.settle (cnt i))
  | 0, pre, hl, _, j, s, hj, _ => by rw [List.eq_nil_of_length_eq_zero hl] at hj; cases hj
  | n + 1, pre, hl, hn, j, s, hj, hs => by
    have hne : pre ≠ [] := by intro e; rw [e] at hl; simp at hl
    rw [← List.dropLast_concat_getLast hne] at hj hn ⊢
    rw [doneM_snoc]
    by_cases hjl : j = pre.getLast hne
    · subst hjl
      refine ⟨pre.dropLast.length, ?_⟩
      rw [List.getElem?_set_self (by rw [doneM_len]; exact (List.getElem?_eq_some_iff.1 hs).1), List.getD, hs]
      rfl
    · have hj' : j ∈ pre.dropLast := by
        rcases List.mem_append.1 hj with h | h
        · exact h
        · exact absurd (by simpa using h) hjl
      rw [List.getElem?_set_ne (fun e => hjl e.symm)]
      exact doneM_get cnt M n _ (by simp [hl]) (List.nodup_append.1 hn).1 j s hj' hs

/-- A sector behind a flush. -/
def Sec.flushed (s : Sec) : Sec := if s.dirty then ⟨s.fresh, s.now, ⟨#[]⟩, false, s.worn⟩ else s
theorem extract_all {t : ByteArray} (h : t.size = 64) : t.extract 0 64 = t := by
  rw [← h]; exact ByteArray.extract_zero_size
theorem flush_get {M : List Sec} (hf : Fine M) {j : Nat} {s : Sec} (hs : M[j]? = some s) : (doneM (fun _ => 64) M (idxs Sec.dirty M))[j]? = some s.flushed := by
  unfold Sec.flushed
  by_cases hd : s.dirty = true
  · rw [if_pos hd]
    obtain ⟨i, hi⟩ := doneM_get (fun _ => 64) M _ (idxs Sec.dirty M) rfl (upto_nodup _ _) j s (idxs_mem.2 ⟨s, hs, hd⟩) hs
    rw [hi]
    obtain ⟨h1, h2, h3⟩ := hf s (List.mem_of_getElem? hs)
    have h4 := h3 hd
    obtain ⟨now, before, fresh, dirty, worn⟩ := s
    dsimp only at h1 h4 ⊢
    rw [settle_full h1, extract_all h4]
  · rw [if_neg hd, doneM_at _ _ _ _ (fun i hi e => by
      obtain ⟨s', h1, h2⟩ := idxs_mem.1 hi
      rw [e, hs] at h1
      cases h1
      exact hd h2), hs]
theorem flush_map {M : List Sec} (hf : Fine M) : doneM (fun _ => 64) M (idxs Sec.dirty M) = M.map Sec.flushed := by
  apply List.ext_getElem?
  intro j
  rw [List.getElem?_map]
  cases hs : M[j]? with
  | none => rw [List.getElem?_eq_none (by rw [doneM_len]; exact List.getElem?_eq_none_iff.1 hs)]; rfl
  | some s => exact flush_get hf hs
theorem flushed_clean (s : Sec) : s.flushed.dirty = false := by
  unfold Sec.flushed
  split
  · rfl
  · rename_i h; simpa using h
theorem map_clean (M : List Sec) : ∀ s ∈ M.map Sec.flushed, s.dirty = false := by
  intro s hs
  obtain ⟨x, _, rfl⟩ := List.mem_map.1 hs
  exact flushed_clean x
/-- A sector behind a cut. -/
theorem cut_get {M : List Sec} (P : List Int) {j : Nat} {s : Sec} (hs : M[j]? = some s) : (s.dirty = false ∧ (doneM (pick P) M (idxs Sec.dirty M))[j]? = some s) ∨ (s.dirty = true ∧ ∃ n, n ≤ 64 ∧ (doneM (pick P) M (idxs Sec.dirty M))[j]? = some (s.settle n)) := by
  by_cases hd : s.dirty = true
  · obtain ⟨i, hi⟩ := doneM_get (pick P) M _ (idxs Sec.dirty M) rfl (upto_nodup _ _) j s (idxs_mem.2 ⟨s, hs, hd⟩) hs
    exact .inr ⟨hd, _, pick_le P i, hi⟩
  · refine .inl ⟨by simpa using hd, ?_⟩
    rw [doneM_at _ _ _ _ (fun i hi e => by
      obtain ⟨s', h1, h2⟩ := idxs_mem.1 hi
      rw [e, hs] at h1
      cases h1
      exact hd h2), hs]
theorem cut_none {M : List Sec} (P : List Int) (h : ∀ s ∈ M, s.dirty = false) : doneM (pick P) M (idxs Sec.dirty M) = M := by
  rw [idxs_none h, doneM_nil]
theorem settle_clean (s : Sec) (n : Nat) : (s.settle n).dirty = false := by unfold Sec.settle; split <;> rfl

/-- A text's bytes. -/
def toL (t : ByteArray) : List UInt8 := t.data.toList
theorem toL_len (t : ByteArray) : (toL t).length = t.size := by simp [toL]
theorem toL_inj {a b : ByteArray} (h : toL a = toL b) : a = b := by
  obtain ⟨a⟩ := a
  obtain ⟨b⟩ := b
  unfold toL at h
  dsimp only at h
  rw [Array.ext' h]
theorem toL_extract (t : ByteArray) (i j : Nat) : toL (t.extract i j) = ((toL t).drop i).take (j - i) := by
  unfold toL
  rw [ByteArray.data_extract, Array.toList_extract, List.extract_eq_take_drop]
theorem toL_append (a b : ByteArray) : toL (a ++ b) = toL a ++ toL b := by
  unfold toL
  rw [ByteArray.data_append, Array.toList_append]

theorem idx_at (t : ByteArray) {j : Nat} (h : j < t.size) : ∃ b : UInt8, (toL t)[j]? = some b ∧ ∀ w, (Instr.index 9 (.string t) (.int .i64 j)).run Try.prog w = .ok (.int .u8 b.toNat) w := by
  refine ⟨t[j], ?_, fun w => ?_⟩
  · unfold toL
    rw [Array.getElem?_toList, Array.getElem?_eq_getElem h]
    rfl
  · rw [run_index_string w 9 t .i64 j Try.underlying9, dif_pos ⟨by omega, by omega⟩]
    rfl
/-- Old, new and torn contents. -/
structure Torn (old fresh now : ByteArray) (m : Nat) : Prop where
  sold : old.size = 64
  sfresh : fresh.size = 64
  snow : now.size = 64
  le : m ≤ 64
  low : ∀ i, i < m → (toL now)[i]? = (toL fresh)[i]?
  high : ∀ i, m ≤ i → (toL now)[i]? = (toL old)[i]?

theorem Torn.tail {old fresh now : ByteArray} {m a : Nat} (h : Torn old fresh now m) (ha : m ≤ a) (j : Nat) : now.extract a j = old.extract a j := by
  apply toL_inj
  rw [toL_extract, toL_extract]
  congr 1
  apply List.ext_getElem?
  intro i
  rw [List.getElem?_drop, List.getElem?_drop]
  exact h.high _ (by omega)

theorem tear_plain {M : List Sec} (hf : Fine M) (P : List Int) {k : Nat} {x : Sec} (hx : M[k]? = some x) :
    ∃ y m, (doneM (pick P) M (idxs Sec.dirty M))[k]? = some y ∧ Torn x.now x.seen y.now m ∧ (x.dirty = false → y.now = x.now ∧ x.seen = x.now) := by
  obtain ⟨h1, h2, h3⟩ := hf x (List.mem_of_getElem? hx)
  rcases cut_get P hx with ⟨hd, hy⟩ | ⟨hd, n, hn, hy⟩
  · have hs : x.seen = x.now := by unfold Sec.seen; rw [hd]; rfl
    exact ⟨x, 0, hy, ⟨h1, by rw [hs]; exact h1, h1, by omega, fun i hi => by omega, fun _ _ => rfl⟩, fun _ => ⟨rfl, hs⟩⟩
  · have h4 := h3 hd
    have hs : x.seen = x.fresh := by unfold Sec.seen; rw [hd]; rfl
    refine ⟨_, n, hy, ?_, fun e => by rw [hd] at e; cases e⟩
    rcases Nat.eq_zero_or_pos n with rfl | hp
    · have : (x.settle 0).now = x.now := by unfold Sec.settle; rfl
      rw [this]
      exact ⟨h1, by rw [hs]; exact h4, h1, by omega, fun i hi => by omega, fun _ _ => rfl⟩
    · have e : (x.settle n).now = x.fresh.extract 0 n ++ x.now.extract n x.now.size := by unfold Sec.settle; rw [if_pos hp]
      have el : toL (x.settle n).now = (toL x.fresh).take n ++ (toL x.now).drop n := by
        rw [e, toL_append, toL_extract, toL_extract, h1, Nat.sub_zero, List.drop_zero]
        congr 1
        rw [List.take_of_length_le]
        rw [List.length_drop, toL_len, h1]
        exact Nat.le_refl _
      have l1 : ((toL x.fresh).take n).length = n := by rw [List.length_take, toL_len, h4]; omega
      refine ⟨h1, by rw [hs]; exact h4, ?_, hn, fun i hi => ?_, fun i hi => ?_⟩
      · rw [← toL_len, el, List.length_append, l1, List.length_drop, toL_len, h1]
        omega
      · rw [el, List.getElem?_append_left (by omega), List.getElem?_take_of_lt hi, hs]
      · rw [el, List.getElem?_append_right (by omega), l1, List.getElem?_drop]
        congr 1
        omega
theorem cut_clean {M : List Sec} (P : List Int) : idxs Sec.dirty (doneM (pick P) M (idxs Sec.dirty M)) = [] := by
  apply idxs_none
  intro s hs
  obtain ⟨k, hk⟩ := List.mem_iff_getElem?.1 hs
  have hkl : k < M.length := by have := (List.getElem?_eq_some_iff.1 hk).1; rw [doneM_len] at this; exact this
  rcases cut_get P (List.getElem?_eq_getElem hkl) with ⟨hd, hy⟩ | ⟨hd, n, hn, hy⟩
  · rw [hy] at hk; cases hk; exact hd
  · rw [hy] at hk; cases hk; exact settle_clean _ _
end Go.Proofs.Ytgenifcikfbfhaa
namespace Go.Proofs.Ytgenifcikfbfhaa

/-- A step of Resume. -/
inductive ZStep
  | store (i : Nat)
  | write (i : Nat)
  | flush
  | burn
/-- Whether fuse i is burned. -/
def fuseB (D : Dev) (i : Nat) : Bool := D.fuses.getD i false
/-- The state of zeroization. -/
def zstate (D : Dev) : Int := if fuseB D 1 then 2 else if fuseB D 0 then 1 else 0
/-- One step: the error's number, the new device. -/
def zdo : ZStep → Dev → Int × Dev
  | .store i, D => D.dstep (chk (inS D.slots (i : Int) ∧ zero32.size = 32)) fun D => { D with slots := D.slots.set i zero32 }
  | .write i, D => D.dstep (chk (isAt D.M (i : Int) ∧ zeros.size = 64)) fun D => { D with M := upd (fun s => s.write zeros) D.M (i : Int) }
  | .flush, D => D.dstep 0 fun D => { D with M := doneM (fun _ => 64) D.M (idxs Sec.dirty D.M) }
  | .burn, D => D.dstep (chk (inS D.fuses (1 : Int))) fun D => { D with fuses := D.fuses.set 1 true }
/-- Steps, until one fails. -/
def zrun : List ZStep → Dev → Int × Dev
  | [], D => (0, D)
  | s :: r, D => if (zdo s D).1 = 0 then zrun r (zdo s D).2 else zdo s D
/-- The steps of Resume with a device of s slots and n sectors. -/
def zlist (s n : Nat) : List ZStep := (List.range s).map .store ++ ((List.range n).map .write ++ [.flush, .burn])
theorem zlist_len (s n : Nat) : (zlist s n).length = s + n + 2 := by simp [zlist]; omega
/-- Resume: the error's number, the new device. -/
def zresume (D : Dev) : Int × Dev :=
  if zstate D ≠ 1 then (0, D) else if D.down = true then (14, D) else zrun (zlist D.slots.length D.M.length) D
/-- Begin. -/
def zbegin (D : Dev) : Int × Dev :=
  let R := D.dstep (chk (inS D.fuses (0 : Int))) fun D => { D with fuses := D.fuses.set 0 true }
  if R.1 ≠ 0 then R else zresume R.2
/-- Steps. -/
def zcount (D : Dev) : Nat := if zstate D ≠ 1 then 0 else (if D.down then 0 else D.slots.length) + D.M.length + 2

/-- Nothing goes back in a step. -/
theorem zdo_fwd (s : ZStep) (D : Dev) : Fwd D (zdo s D).2 := by
  cases s with
  | store i => exact dstep_fwd D _ _ (fun _ l => ⟨Int.le_refl _, Int.le_refl _, rfl, by simp, rfl, fun _ h => h⟩)
  | write i => exact dstep_fwd D _ _ (fun _ l => ⟨Int.le_refl _, Int.le_refl _, rfl, rfl, by simp [upd], fun _ h => h⟩)
  | flush => exact dstep_fwd D _ _ (fun _ l => ⟨Int.le_refl _, Int.le_refl _, rfl, rfl, by simp [doneM_len], fun _ h => h⟩)
  | burn =>
    refine dstep_fwd D _ _ (fun _ l => ⟨Int.le_refl _, Int.le_refl _, by simp, rfl, rfl, fun i h => ?_⟩)
    dsimp only
    by_cases hi : 1 = i
    · subst hi
      rw [List.getElem?_set_self (List.getElem?_eq_some_iff.1 h).1]
    · rw [List.getElem?_set_ne hi]
      exact h
theorem Fwd.trans {D E G : Dev} (h : Fwd D E) (k : Fwd E G) : Fwd D G :=
  ⟨Int.le_trans h.counter k.counter, Int.le_trans h.clock k.clock, k.fuses.trans h.fuses, k.slots.trans h.slots, k.M.trans h.M, fun i e => k.burned i (h.burned i e)⟩
theorem zrun_fwd : ∀ (l : List ZStep) (D : Dev), Fwd D (zrun l D).2
  | [], D => Fwd.refl D
  | s :: r, D => by
    unfold zrun
    split
    · exact (zdo_fwd s D).trans (zrun_fwd r _)
    · exact zdo_fwd s D
theorem zresume_fwd (D : Dev) : Fwd D (zresume D).2 := by
  unfold zresume
  split
  · exact Fwd.refl D
  · split
    · exact Fwd.refl D
    · exact zrun_fwd _ _
theorem burn0_fwd (D : Dev) : Fwd D (D.dstep (chk (inS D.fuses (0 : Int))) fun D => { D with fuses := D.fuses.set 0 true }).2 := by
  refine dstep_fwd D _ _ (fun _ l => ⟨Int.le_refl _, Int.le_refl _, by simp, rfl, rfl, fun i h => ?_⟩)
  dsimp only
  by_cases hi : 0 = i
  · subst hi
    rw [List.getElem?_set_self (List.getElem?_eq_some_iff.1 h).1]
  · rw [List.getElem?_set_ne hi]
    exact h
theorem zbegin_fwd (D : Dev) : Fwd D (zbegin D).2 := by
  unfold zbegin
  dsimp only
  split
  · exact burn0_fwd D
  · exact (burn0_fwd D).trans (zresume_fwd _)
/-- A burned fuse stays burned. -/
theorem fuseB_fwd {D E : Dev} (h : Fwd D E) (i : Nat) (hb : fuseB D i = true) : fuseB E i = true := by
  unfold fuseB at hb ⊢
  rw [List.getD_eq_getElem?_getD] at hb ⊢
  have e : D.fuses[i]? = some true := by
    cases hx : D.fuses[i]? with
    | none => rw [hx] at hb; simp at hb
    | some x => rw [hx] at hb; simp at hb; rw [hb]
  rw [h.burned i e]
  rfl
/-- The state does not go back (all that ZeroNeverBack needs). -/
theorem zstate_fwd {D E : Dev} (h : Fwd D E) : zstate D ≤ zstate E := by
  unfold zstate
  by_cases h1 : fuseB D 1 = true
  · rw [if_pos h1, if_pos (fuseB_fwd h 1 h1)]
    exact Int.le_refl _
  · rw [if_neg h1]
    by_cases h0 : fuseB D 0 = true
    · rw [if_pos h0]
      by_cases e1 : fuseB E 1 = true
      · rw [if_pos e1]; decide
      · rw [if_neg e1, if_pos (fuseB_fwd h 0 h0)]; exact Int.le_refl _
    · rw [if_neg h0]
      by_cases e1 : fuseB E 1 = true
      · rw [if_pos e1]; decide
      · rw [if_neg e1]
        split <;> decide

/-- A device that is up, whose steps' arguments are right: what a step does. -/
theorem dstep_up (D : Dev) (F : Dev → Dev) (hd : D.down = false) : D.dstep 0 F = if D.left = 0 then (14, { D with down := true, left := -1 }) else (0, F { D with left := max (D.left - 1) (-1) }) := by
  unfold Dev.dstep
  rw [if_neg (by rw [hd]; decide), if_neg (by decide)]
/-- The effect of a step, without the power. -/
def zeff : ZStep → Dev → Dev
  | .store i, D => { D with slots := D.slots.set i zero32 }
  | .write i, D => { D with M := upd (fun s => s.write zeros) D.M (i : Int) }
  | .flush, D => { D with M := doneM (fun _ => 64) D.M (idxs Sec.dirty D.M) }
  | .burn, D => { D with fuses := D.fuses.set 1 true }
/-- The step's arguments are right. -/
def zfit : ZStep → Dev → Prop
  | .store i, D => i < D.slots.length
  | .write i, D => i < D.M.length
  | .flush, _ => True
  | .burn, D => 1 < D.fuses.length
theorem zero32_size : zero32.size = 32 := by decide
theorem zdo_up (s : ZStep) (D : Dev) (hd : D.down = false) (hf : zfit s D) : zdo s D = if D.left = 0 then (14, { D with down := true, left := -1 }) else (0, zeff s { D with left := max (D.left - 1) (-1) }) := by
  cases s with
  | store i =>
    have hc : chk (inS D.slots (i : Int) ∧ zero32.size = 32) = 0 := by
      unfold chk
      rw [if_pos ⟨⟨by omega, by have : i < D.slots.length := hf; omega⟩, zero32_size⟩]
    show D.dstep (chk (inS D.slots (i : Int) ∧ zero32.size = 32)) (zeff (.store i)) = _
    rw [hc, dstep_up D _ hd]
  | write i =>
    have hc : chk (isAt D.M (i : Int) ∧ zeros.size = 64) = 0 := by
      unfold chk
      rw [if_pos ⟨⟨by omega, by have : i < D.M.length := hf; omega⟩, zeros_size⟩]
    show D.dstep (chk (isAt D.M (i : Int) ∧ zeros.size = 64)) (zeff (.write i)) = _
    rw [hc, dstep_up D _ hd]
  | flush =>
    show D.dstep 0 (zeff .flush) = _
    rw [dstep_up D _ hd]
  | burn =>
    have hc : chk (inS D.fuses (1 : Int)) = 0 := by
      unfold chk
      rw [if_pos ⟨by omega, by have : 1 < D.fuses.length := hf; omega⟩]
    show D.dstep (chk (inS D.fuses (1 : Int))) (zeff .burn) = _
    rw [hc, dstep_up D _ hd]
theorem zeff_len (s : ZStep) (D : Dev) : (zeff s D).slots.length = D.slots.length ∧ (zeff s D).M.length = D.M.length ∧ (zeff s D).fuses.length = D.fuses.length ∧ (zeff s D).down = D.down ∧ (zeff s D).left = D.left := by
  cases s
  · exact ⟨by simp [zeff], rfl, rfl, rfl, rfl⟩
  · exact ⟨rfl, by simp [zeff, upd], rfl, rfl, rfl⟩
  · exact ⟨rfl, by simp [zeff, doneM_len], rfl, rfl, rfl⟩
  · exact ⟨rfl, rfl, by simp [zeff], rfl, rfl⟩
theorem zfit_same (s : ZStep) {D E : Dev} (h1 : E.slots.length = D.slots.length) (h2 : E.M.length = D.M.length) (h3 : E.fuses.length = D.fuses.length) (h : zfit s D) : zfit s E := by
  cases s
  · show _ < _; rw [h1]; exact h
  · show _ < _; rw [h2]; exact h
  · trivial
  · show _ < _; rw [h3]; exact h
/-- The effects of steps, without the power. -/
def zeffs : List ZStep → Dev → Dev
  | [], D => D
  | s :: r, D => zeffs r (zeff s D)
theorem zeff_left (s : ZStep) (D : Dev) (x : Int) : zeff s { D with left := x } = { zeff s D with left := x } := by cases s <;> rfl
theorem zeffs_left : ∀ (l : List ZStep) (D : Dev) (x : Int), zeffs l { D with left := x } = { zeffs l D with left := x }
  | [], _, _ => rfl
  | s :: r, D, x => by
    show zeffs r (zeff s { D with left := x }) = _
    rw [zeff_left, zeffs_left r]
    rfl
/-- With m steps of power left for a list of steps: the first m are done. -/
theorem zrun_up : ∀ (l : List ZStep) (D : Dev), D.down = false → (∀ s ∈ l, zfit s D) →
    (D.left < 0 → D.left = -1 → zrun l D = (0, zeffs l D)) ∧
    (∀ m : Nat, D.left = m → (l.length ≤ m → zrun l D = (0, { zeffs l D with left := (m : Int) - l.length })) ∧ (m < l.length → zrun l D = (14, { zeffs (l.take m) D with down := true, left := -1 })))
  | [], D, _, _ => ⟨fun _ _ => rfl, fun m hm => ⟨fun _ => by
      show (0, D) = _
      congr 1
      cases D
      dsimp only at hm ⊢
      simp [zeffs, hm], fun h => by simp at h⟩⟩
  | s :: r, D, hd, hf => by
    have h1 := zdo_up s D hd (hf s (by simp))
    refine ⟨fun hl hl1 => ?_, fun m hm => ⟨fun hle => ?_, fun hlt => ?_⟩⟩
    · have e : zdo s D = (0, zeff s D) := by
        rw [h1, if_neg (by omega), hl1]
        have : ({ D with left := max (-1 - 1) (-1) } : Dev) = D := by cases D; dsimp only at hl1 ⊢; rw [hl1]; rfl
        rw [this]
      unfold zrun
      rw [e, if_pos rfl]
      obtain ⟨a1, a2, a3, a4, a5⟩ := zeff_len s D
      exact (zrun_up r (zeff s D) (a4.trans hd) (fun x hx => zfit_same x a1 a2 a3 (hf x (by simp [hx])))).1 (by omega) (by omega)
    · have hm0 : D.left ≠ 0 := by simp at hle; omega
      have e : zdo s D = (0, zeff s { D with left := (m : Int) - 1 }) := by
        rw [h1, if_neg hm0, hm]
        have : max ((m : Int) - 1) (-1) = (m : Int) - 1 := by simp at hle; omega
        rw [this]
      unfold zrun
      rw [e, if_pos rfl]
      obtain ⟨a1, a2, a3, a4, a5⟩ := zeff_len s { D with left := (m : Int) - 1 }
      have hr : ∀ x ∈ r, zfit x (zeff s { D with left := (m : Int) - 1 }) := fun x hx => zfit_same (D := D) x a1 a2 a3 (hf x (by simp [hx]))
      have := ((zrun_up r _ (a4.trans hd) hr).2 (m - 1) (by rw [a5]; simp at hle; dsimp only; omega)).1 (by simp at hle; omega)
      rw [this]
      congr 1
      rw [zeff_left, zeffs_left]
      show _ = ({ zeffs r (zeff s D) with left := _ } : Dev)
      congr 1
      simp at hle ⊢
      omega
    · by_cases hm0 : m = 0
      · subst hm0
        have e : zdo s D = (14, { D with down := true, left := -1 }) := by rw [h1, if_pos (by simpa using hm)]
        unfold zrun
        rw [e, if_neg (by show ¬ (14 : Int) = 0; decide)]
        rfl
      · have e : zdo s D = (0, zeff s { D with left := (m : Int) - 1 }) := by
          rw [h1, if_neg (by omega), hm]
          have : max ((m : Int) - 1) (-1) = (m : Int) - 1 := by omega
          rw [this]
        unfold zrun
        rw [e, if_pos rfl]
        obtain ⟨a1, a2, a3, a4, a5⟩ := zeff_len s { D with left := (m : Int) - 1 }
        have hr : ∀ x ∈ r, zfit x (zeff s { D with left := (m : Int) - 1 }) := fun x hx => zfit_same (D := D) x a1 a2 a3 (hf x (by simp [hx]))
        have := ((zrun_up r _ (a4.trans hd) hr).2 (m - 1) (by rw [a5]; dsimp only; omega)).2 (by simp at hlt; omega)
        rw [this]
        congr 1
        obtain ⟨k, rfl⟩ : ∃ k, m = k + 1 := ⟨m - 1, by omega⟩
        rw [List.take_succ_cons, Nat.add_sub_cancel]
        show ({ zeffs (r.take k) (zeff s { D with left := _ }) with down := true, left := -1 } : Dev) = { zeffs (r.take k) (zeff s D) with down := true, left := -1 }
        rw [zeff_left, zeffs_left]
end Go.Proofs.Ytgenifcikfbfhaa
namespace Go.Proofs.Ytgenifcikfbfhaa
open Go.RowKit Go.Shelf
attribute [local go_sem] Oper.semAt_some

/-- 32 zero bytes, as cells. -/
def zc32 : Array Value := Array.replicate 32 (.int .u8 0)
theorem zmk32 (w : World) : (Instr.makeSlice 38 (.int .i64 32) (.int .i64 32)).run Try.prog w = .ok (.slice (some ⟨w.heap.size, 0, none⟩) 32 32) (w.alloc (.cells zc32 5)) := by kernel_rfl
theorem zcv32 (w : World) : (convert 38 9 (.slice (some ⟨w.heap.size, 0, none⟩) 32 32)).run Try.prog (w.alloc (.cells zc32 5)) = .ok (.string zero32) (w.alloc (.cells zc32 5)) := by
  have h := run_convert_bytes_back (P := Try.prog) (w.alloc (.cells zc32 5)) 38 9 5 ⟨w.heap.size, 0, none⟩ 32 (List.replicate 32 (0 : UInt8)) Try.underlying38 Try.underlying5 Try.underlying9 (fun j hj => by
    have hb := (Blk.new w 5 zc32).cell j
    have e : (⟨w.heap.size, 0, none⟩ : Addr).add j = ⟨w.heap.size, j, none⟩ := by
      simp [Addr.add]; intro e; exact e.symm
    rw [e, hb]
    have hj' : j < 32 := by simpa using hj
    rw [List.getElem_replicate]
    have hz : zc32[j]? = some (.int .u8 0) := by
      unfold zc32
      rw [Array.getElem?_replicate, if_pos hj']
    rw [hz]
    rfl)
  exact h
/-- 64 zero bytes, as cells. -/
def zc64 : Array Value := Array.replicate 64 (.int .u8 0)
theorem zmk64 (w : World) : (Instr.makeSlice 38 (.int .i64 64) (.int .i64 64)).run Try.prog w = .ok (.slice (some ⟨w.heap.size, 0, none⟩) 64 64) (w.alloc (.cells zc64 5)) := by kernel_rfl
theorem zcv64 (w : World) : (convert 38 9 (.slice (some ⟨w.heap.size, 0, none⟩) 64 64)).run Try.prog (w.alloc (.cells zc64 5)) = .ok (.string zeros) (w.alloc (.cells zc64 5)) := by
  have h := run_convert_bytes_back (P := Try.prog) (w.alloc (.cells zc64 5)) 38 9 5 ⟨w.heap.size, 0, none⟩ 64 (List.replicate 64 (0 : UInt8)) Try.underlying38 Try.underlying5 Try.underlying9 (fun j hj => by
    have hb := (Blk.new w 5 zc64).cell j
    have e : (⟨w.heap.size, 0, none⟩ : Addr).add j = ⟨w.heap.size, j, none⟩ := by
      simp [Addr.add]; intro e; exact e.symm
    rw [e, hb]
    have hj' : j < 64 := by simpa using hj
    rw [List.getElem_replicate]
    have hz : zc64[j]? = some (.int .u8 0) := by
      unfold zc64
      rw [Array.getElem?_replicate, if_pos hj']
    rw [hz]
    rfl)
  exact h
set_option maxRecDepth 100000 in
set_option maxHeartbeats 1600000 in
theorem emptySlot_any (w : World) : Calls Try.prog 64 #[] w fun e w' => e = .returned (.string zero32) ∧ Below w.heap.size w w' := by
  have k2 := zmk32
  have k3 := zcv32
  go_enter Try.func64, Try.ntmps64
  go_wp2_with fail
  go_ret
  exact ⟨rfl, (Below.refl _ _).alloc (Nat.le_refl _) _⟩
set_option maxRecDepth 100000 in
set_option maxHeartbeats 1600000 in
theorem emptySector_any (w : World) : Calls Try.prog 43 #[] w fun e w' => e = .returned (.string zeros) ∧ Below w.heap.size w w' := by
  have k2 := zmk64
  have k3 := zcv64
  go_enter Try.func43, Try.ntmps43
  go_wp2_with fail
  go_ret
  exact ⟨rfl, (Below.refl _ _).alloc (Nat.le_refl _) _⟩

theorem burned_fuse (D : Dev) (i : Nat) : burnedD D (i : Int) = fuseB D i := by
  unfold burnedD fuseB
  by_cases h : inS D.fuses (i : Int)
  · rw [if_pos h, Int.toNat_natCast]
  · rw [if_neg h, List.getD_eq_getElem?_getD, List.getElem?_eq_none]
    · rfl
    · have : ¬ (i : Int) < D.fuses.length := fun k => h ⟨by omega, k⟩
      omega
section
variable {w : World} {d b g sb sc fb fc : Nat} {D : Dev}
set_option maxRecDepth 100000 in
set_option maxHeartbeats 1600000 in
theorem zState_any (h : IsDev w d b g sb sc fb fc D) : Calls Try.prog 16 #[.pointer (some ⟨d, 0, none⟩)] w fun e w' => e = .returned (.int .i64 (zstate D)) ∧ w = w' := by
  have e : zstate D = if burnedD D 1 = true then 2 else if burnedD D 0 = true then 1 else 0 := by
    unfold zstate
    rw [← burned_fuse D 1, ← burned_fuse D 0]
    rfl
  have H1 := Lib.hid (dBurned_any h 1)
  have H0 := Lib.hid (dBurned_any h 0)
  rw [e]
  generalize burnedD D 1 = x at H1 ⊢
  generalize burnedD D 0 = y at H0 ⊢
  clear h e
  cases x with
  | true =>
    go_enter Try.func16, Try.ntmps16
    go_wp2_with (first | (go_at_call 10; refine H1.out.mono ?_; rintro e w1 ⟨rfl, rfl⟩))
    go_ret
    exact ⟨rfl, rfl⟩
  | false =>
    cases y with
    | true =>
      go_enter Try.func16, Try.ntmps16
      go_wp2_with (first | (go_at_call 10; refine Hx.out.mono ?_; rintro e w1 ⟨rfl, rfl⟩) | (go_at_call 10; refine H1.out.mono ?_; rintro e w1 ⟨rfl, rfl⟩; have Hx := H0))
      go_ret
      exact ⟨rfl, rfl⟩
    | false =>
      go_enter Try.func16, Try.ntmps16
      go_wp2_with (first | (go_at_call 10; refine Hx.out.mono ?_; rintro e w1 ⟨rfl, rfl⟩) | (go_at_call 10; refine H1.out.mono ?_; rintro e w1 ⟨rfl, rfl⟩; have Hx := H0))
      go_ret
      exact ⟨rfl, rfl⟩
/-- The number of slots that are to be read. -/
def zslots (D : Dev) : Nat := if D.down = true then 0 else D.slots.length
set_option maxRecDepth 100000 in
set_option maxHeartbeats 1600000 in
theorem zslots_any (h : IsDev w d b g sb sc fb fc D) (hN : D.slots.length ≤ 1048576) : Calls Try.prog 62 #[.pointer (some ⟨d, 0, none⟩)] w fun e w' => e = .returned (.int .i64 (zslots D : Nat)) ∧ w = w' := by
  obtain ⟨K, hK⟩ : ∃ K, zslots D = K := ⟨_, rfl⟩
  have hKd : K = if D.down = true then 0 else D.slots.length := hK.symm
  have hK2 : K ≤ 1048576 := by rw [hKd]; split <;> omega
  have HL : Hid (∀ k : Nat, k ≤ K → ∃ t c, ((k < K ∧ c = 0) ∨ (k = K ∧ (c = 14 ∨ c = 1))) ∧ Calls Try.prog 11 #[.pointer (some ⟨d, 0, none⟩), .int .i64 k] w fun e w' => e = .returned (.tuple #[.string t, .int .i64 c]) ∧ w = w') := by
    intro k hk
    refine ⟨_, _, ?_, dLoad_any h k⟩
    cases hd : D.down with
    | true =>
      rw [hd, if_pos rfl] at hKd
      exact .inr ⟨by omega, .inl (by simp)⟩
    | false =>
      rw [hd, if_neg (by decide)] at hKd
      rw [if_neg (by decide)]
      by_cases hi : k < K
      · exact .inl ⟨hi, by rw [if_pos ⟨by omega, by omega⟩]⟩
      · exact .inr ⟨by omega, .inr (by rw [if_neg (fun x => by have := x.2; omega)])⟩
  rw [hK]
  clear h hK hKd hN
  go_enter Try.func62, Try.ntmps62
  go_wp2_with fail
  go_loopw [2] (fun i wr => ∃ k : Nat, k ≤ K ∧ i = .int .i64 k ∧ w = wr) (fun i _ => K - (intOf i).toNat)
  case atStart => exact ⟨0, Nat.zero_le _, rfl, rfl⟩
  case round =>
    obtain ⟨k, hk, rfl, rfl⟩ := hrel
    obtain ⟨t, c, hc, HC⟩ := HL.out k hk
    have HCC := Lib.hid HC
    clear HC
    have hwk : wrap64 ((k : Int) + 1) = (k : Int) + 1 := by unfold wrap64; omega
    rcases hc with ⟨hlt, rfl⟩ | ⟨rfl, rfl | rfl⟩
    · go_wp2_with (first | (go_at_call 11; refine HCC.out.mono ?_; rintro e w1 ⟨rfl, rfl⟩))
      go_roundw
      case rel => exact ⟨k + 1, by omega, by go_num, by trivial⟩
      case measure => simp [intOf]; omega
    · go_wp2_with (first | (go_at_call 11; refine HCC.out.mono ?_; rintro e w1 ⟨rfl, rfl⟩))
      go_ret
      exact ⟨rfl, rfl⟩
    · go_wp2_with (first | (go_at_call 11; refine HCC.out.mono ?_; rintro e w1 ⟨rfl, rfl⟩))
      go_ret
      exact ⟨rfl, rfl⟩
end
end Go.Proofs.Ytgenifcikfbfhaa
