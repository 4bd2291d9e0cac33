/-
  Layer 22 (memory): the reference's methods that touch one sector.
-/
import Derived.Test.YtcifkahmeimniaaGreatMemW9
namespace Go.Proofs.YtcifkahmeimniaaGreat
open Go.RowKit Go.Shelf

section
variable {w : World} {b g : Nat} {M : List Sec}

theorem ris_in (h : RMem w b g M) (i : Nat) (hi : i < M.length) :
    Calls Tryz.prog 102 #[.pointer (some ⟨b, 0, none⟩), .int .i64 i] w fun e w' => e = .returned (.bool true) ∧ w = w' := by
  obtain ⟨cap, hc, hcap, hm⟩ := h.head
  unfold maxLen at hm
  go_enter Tryz.func102, Tryz.ntmps102
  go_wp2_with fail
  go_ret
  exact ⟨rfl, rfl⟩
theorem ris_out (h : RMem w b g M) (i : Int) (hi : i < 0 ∨ (M.length : Int) ≤ i) :
    Calls Tryz.prog 102 #[.pointer (some ⟨b, 0, none⟩), .int .i64 i] w fun e w' => e = .returned (.bool false) ∧ w = w' := by
  obtain ⟨cap, hc, hcap, hm⟩ := h.head
  unfold maxLen at hm
  by_cases h0 : i < 0
  · clear hi
    have h1 : decide (i ≥ 0) = false := by simp; omega
    go_enter Tryz.func102, Tryz.ntmps102
    go_wp2_with fail
    go_ret
    exact ⟨rfl, rfl⟩
  · have h1 : (M.length : Int) ≤ i := by omega
    clear hi
    go_enter Tryz.func102, Tryz.ntmps102
    go_wp2_with fail
    go_ret
    exact ⟨by show Ending.returned (.bool (decide (i < (M.length : Int)))) = _; rw [decide_eq_false (by omega)], rfl⟩

theorem rread_in (h : RMem w b g M) (i : Nat) (s : Sec) (hs : M[i]? = some s) :
    Calls Tryz.prog 81 #[.pointer (some ⟨b, 0, none⟩), .int .i64 i] w fun e w' => e = .returned (.tuple #[.string s.seen, .int .i64 0]) ∧ w = w' := by
  have hi := (List.getElem?_eq_some_iff.1 hs).1
  obtain ⟨cap, hc, hcap, hm⟩ := h.head
  unfold maxLen at hm
  obtain ⟨c0, c1, c2, c3, c4⟩ := h.sec hs
  have Hat := Lib.hid (ris_in h i hi)
  obtain ⟨now, before, fresh, dirty, worn⟩ := s
  dsimp only at c0 c1 c2 c3 c4
  clear hs
  cases dirty
  · go_enter Tryz.func81, Tryz.ntmps81
    go_wp2_with (go_at_call 102; refine Hat.out.mono ?_; rintro e w' ⟨rfl, rfl⟩)
    go_ret2
    exact ⟨rfl, rfl⟩
  · go_enter Tryz.func81, Tryz.ntmps81
    go_wp2_with (go_at_call 102; refine Hat.out.mono ?_; rintro e w' ⟨rfl, rfl⟩)
    go_ret2
    exact ⟨rfl, rfl⟩
theorem rread_out (h : RMem w b g M) (i : Int) (hi : i < 0 ∨ (M.length : Int) ≤ i) :
    Calls Tryz.prog 81 #[.pointer (some ⟨b, 0, none⟩), .int .i64 i] w fun e w' => e = .returned (.tuple #[.string ⟨#[]⟩, .int .i64 1]) ∧ w = w' := by
  have Hat := Lib.hid (ris_out h i hi)
  clear hi
  go_enter Tryz.func81, Tryz.ntmps81
  go_wp2_with (go_at_call 102; refine Hat.out.mono ?_; rintro e w' ⟨rfl, rfl⟩)
  go_ret2
  exact ⟨rfl, rfl⟩

theorem rwrite_in (h : RMem w b g M) (i : Nat) (s : Sec) (t : ByteArray) (hs : M[i]? = some s) (ht : t.size = 64) :
    Calls Tryz.prog 83 #[.pointer (some ⟨b, 0, none⟩), .int .i64 i, .string t] w fun e w' => e = .returned (.int .i64 0) ∧ RMem w' b g (M.set i (s.write t)) ∧ w.grownBy w' (some g) := by
  have hi := (List.getElem?_eq_some_iff.1 hs).1
  obtain ⟨cap, hc, hcap, hm⟩ := h.head
  unfold maxLen at hm
  obtain ⟨c0, c1, c2, c3, c4⟩ := h.sec hs
  have hne := h.ne
  have Hat := Lib.hid (ris_in h i hi)
  have f2 := h.frozen (i * 5 + 2)
  have f3 := h.frozen (i * 5 + 3)
  have t64 : ((t.size : Int) != 64) = false := bne_f (by omega)
  have Hs := Lib.hid hs
  obtain ⟨now, before, fresh, dirty, worn⟩ := s
  dsimp only at c0 c1 c2 c3 c4
  clear hs ht
  cases worn
  · have h1 := h.store (i := i) (j := 2) (s' := ⟨now, before, t, dirty, false⟩) (v := .string t) Hs.out (by omega) rfl
    have h2 := Lib.hid (h1.store (i := i) (j := 3) (s := ⟨now, before, t, dirty, false⟩) (s' := ⟨now, before, t, true, false⟩) (v := .bool true) (by rw [List.getElem?_set_self hi]) (by omega) rfl)
    clear h1
    go_enter Tryz.func83, Tryz.ntmps83
    go_wp2_with (go_at_call 102; refine Hat.out.mono ?_; rintro e w' ⟨rfl, rfl⟩)
    go_ret
    refine ⟨rfl, ?_, grown_trans (grown_set _ _ _ _) (grown_set _ _ _ _)⟩
    have := h2.out
    rw [List.set_set] at this
    exact this
  · go_enter Tryz.func83, Tryz.ntmps83
    go_wp2_with (go_at_call 102; refine Hat.out.mono ?_; rintro e w' ⟨rfl, rfl⟩)
    go_ret
    refine ⟨rfl, ?_, grown_refl _ _⟩
    have : M.set i (Sec.write ⟨now, before, fresh, dirty, true⟩ t) = M := by
      have e : Sec.write ⟨now, before, fresh, dirty, true⟩ t = ⟨now, before, fresh, dirty, true⟩ := rfl
      rw [e]
      have := List.getElem?_eq_some_iff.1 Hs.out
      obtain ⟨_, hq⟩ := this
      rw [← hq, List.set_getElem_self]
    rw [this]; exact h
theorem rwrite_out (h : RMem w b g M) (i : Int) (t : ByteArray) (hi : (i < 0 ∨ (M.length : Int) ≤ i) ∨ t.size ≠ 64) :
    Calls Tryz.prog 83 #[.pointer (some ⟨b, 0, none⟩), .int .i64 i, .string t] w fun e w' => e = .returned (.int .i64 1) ∧ w = w' := by
  by_cases hin : i < 0 ∨ (M.length : Int) ≤ i
  · have Hat := Lib.hid (ris_out h i hin)
    clear hi hin
    go_enter Tryz.func83, Tryz.ntmps83
    go_wp2_with (go_at_call 102; refine Hat.out.mono ?_; rintro e w' ⟨rfl, rfl⟩)
    go_ret
    exact ⟨rfl, rfl⟩
  · obtain ⟨k, rfl⟩ := Int.eq_ofNat_of_zero_le (show 0 ≤ i by omega)
    have Hat := Lib.hid (ris_in h k (by omega))
    have t64 : ((t.size : Int) != 64) = true := bne_t (by omega)
    clear hi hin
    go_enter Tryz.func83, Tryz.ntmps83
    go_wp2_with (go_at_call 102; refine Hat.out.mono ?_; rintro e w' ⟨rfl, rfl⟩)
    go_ret
    exact ⟨rfl, rfl⟩

theorem rstale_out (h : RMem w b g M) (i : Int) (hi : i < 0 ∨ (M.length : Int) ≤ i) :
    Calls Tryz.prog 86 #[.pointer (some ⟨b, 0, none⟩), .int .i64 i] w fun e w' => e = .returned (.int .i64 1) ∧ w = w' := by
  have Hat := Lib.hid (ris_out h i hi)
  clear hi
  go_enter Tryz.func86, Tryz.ntmps86
  go_wp2_with (go_at_call 102; refine Hat.out.mono ?_; rintro e w' ⟨rfl, rfl⟩)
  go_ret
  exact ⟨rfl, rfl⟩
theorem rwear_in (h : RMem w b g M) (i : Nat) (s : Sec) (hs : M[i]? = some s) :
    Calls Tryz.prog 87 #[.pointer (some ⟨b, 0, none⟩), .int .i64 i] w fun e w' => e = .returned (.int .i64 0) ∧ RMem w' b g (M.set i { s with worn := true }) ∧ w.grownBy w' (some g) := by
  have hi := (List.getElem?_eq_some_iff.1 hs).1
  obtain ⟨cap, hc, hcap, hm⟩ := h.head
  unfold maxLen at hm
  obtain ⟨c0, c1, c2, c3, c4⟩ := h.sec hs
  have Hat := Lib.hid (ris_in h i hi)
  have f4 := h.frozen (i * 5 + 4)
  obtain ⟨now, before, fresh, dirty, worn⟩ := s
  dsimp only at c0 c1 c2 c3 c4
  have h1 := Lib.hid (h.store (i := i) (j := 4) (s' := ⟨now, before, fresh, dirty, true⟩) (v := .bool true) hs (by omega) rfl)
  clear hs
  go_enter Tryz.func87, Tryz.ntmps87
  go_wp2_with (go_at_call 102; refine Hat.out.mono ?_; rintro e w' ⟨rfl, rfl⟩)
  go_ret
  exact ⟨rfl, h1.out, grown_set _ _ _ _⟩
theorem rwear_out (h : RMem w b g M) (i : Int) (hi : i < 0 ∨ (M.length : Int) ≤ i) :
    Calls Tryz.prog 87 #[.pointer (some ⟨b, 0, none⟩), .int .i64 i] w fun e w' => e = .returned (.int .i64 1) ∧ w = w' := by
  have Hat := Lib.hid (ris_out h i hi)
  clear hi
  go_enter Tryz.func87, Tryz.ntmps87
  go_wp2_with (go_at_call 102; refine Hat.out.mono ?_; rintro e w' ⟨rfl, rfl⟩)
  go_ret
  exact ⟨rfl, rfl⟩

set_option maxRecDepth 100000 in
theorem rstale_in (h : RMem w b g M) (i : Nat) (s : Sec) (hs : M[i]? = some s) :
    Calls Tryz.prog 86 #[.pointer (some ⟨b, 0, none⟩), .int .i64 i] w fun e w' => e = .returned (.int .i64 0) ∧ RMem w' b g (M.set i { s with now := s.before }) ∧ w.grownBy w' (some g) := by
  have hi := (List.getElem?_eq_some_iff.1 hs).1
  obtain ⟨cap, hc, hcap, hm⟩ := h.head
  unfold maxLen at hm
  obtain ⟨c0, c1, c2, c3, c4⟩ := h.sec hs
  have Hat := Lib.hid (ris_in h i hi)
  have f0 := h.frozen (i * 5)
  obtain ⟨now, before, fresh, dirty, worn⟩ := s
  dsimp only at c0 c1 c2 c3 c4
  have Hs := Lib.hid hs
  clear hs
  go_enter Tryz.func86, Tryz.ntmps86
  go_wp2_with (go_at_call 102; refine Hat.out.mono ?_; rintro e w' ⟨rfl, rfl⟩)
  go_still_tail 15, (by kernel_rfl)
  change wpList _ _ _ _ _ w.drew
  have hM2 : RMem w.drew b g M := h.grown (grown_drewN w 1 none) (by simp) (by simp)
  have hg2 : w.grownBy w.drew (some g) := grown_drewN w 1 _
  clear c0 c1 c2 c3 c4 f0 hc Hat
  generalize w.drew = w2 at hM2 hg2 ⊢
  obtain ⟨c0, c1, c2, c3, c4⟩ := hM2.sec Hs.out
  have hfr := hM2.frozen
  have h1 := Lib.hid (hM2.store (i := i) (j := 0) (s' := ⟨before, before, fresh, dirty, worn⟩) (v := .string before) Hs.out (by omega) rfl)
  dsimp only at c0 c1 c2 c3 c4
  go_wp2_with fail
  go_ret
  exact ⟨rfl, h1.out, grown_trans hg2 (grown_set _ _ _ _)⟩
end
end Go.Proofs.YtcifkahmeimniaaGreat
