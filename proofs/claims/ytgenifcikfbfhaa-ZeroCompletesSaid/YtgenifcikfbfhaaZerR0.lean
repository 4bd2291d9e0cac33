/-
  Layer 33 (zero): texts that lie anywhere; Restore with them. (Out of layer 23's text.)
-/
import Derived.Test.YtgenifcikfbfhaaG5
import Derived.Laws.OwnMore
import Derived.StillTailTactics
namespace Go.Proofs.Ytgenifcikfbfhaa
open Go.RowKit Go.Shelf
attribute [local go_sem] Oper.semAt_some

/-- Texts at block b from offset o on. -/
def StrAt (w : World) (A : Option Addr) (c b o : Nat) (I : List ByteArray) : Prop := I.length ≤ c ∧ c ≤ maxLen ∧ ∀ i t, I[i]? = some t → A = some ⟨b, o, none⟩ ∧ b < w.heap.size ∧ w.cell? ⟨b, o + i, none⟩ = some (.string t)
theorem StrAt.below {w w' : World} {A : Option Addr} {c b o : Nat} {I : List ByteArray} (h : StrAt w A c b o I) (hB : Below w.heap.size w w') : StrAt w' A c b o I :=
  ⟨h.1, h.2.1, fun i t ht => by
    obtain ⟨h1, h2, h3⟩ := h.2.2 i t ht
    exact ⟨h1, Nat.lt_of_lt_of_le h2 hB.size, (hB.cell (p := ⟨b, o + i, none⟩) h2).trans h3⟩⟩
/-- Texts that a row owns. -/
theorem Texts.strAt {w : World} {v : Value} {I : List ByteArray} (h : Texts w v I) : ∃ A c b, v = .slice A I.length c ∧ StrAt w A c b 0 I := by
  rcases h.2 with ⟨rfl, h0⟩ | ⟨gb, cap, cur, rfl, _, hb, h1, h2, _, _⟩
  · refine ⟨none, 0, 0, by rw [h0], by omega, by unfold maxLen; omega, fun i t ht => ?_⟩
    rw [List.eq_nil_of_length_eq_zero h0] at ht
    simp at ht
  · refine ⟨_, cap, gb, rfl, h1, h2, fun i t ht => ⟨rfl, Blk.lt hb, ?_⟩⟩
    have hl := (List.getElem?_eq_some_iff.1 ht).1
    have := World.ownsRow.cellAt h i (by omega)
    rw [Nat.zero_add, this]
    simp [strCells, ht]
set_option maxHeartbeats 4000000 in
theorem IndexF_at (w : World) (A : Option Addr) (c b o : Nat) (I : List ByteArray) (h : StrAt w A c b o I) (_hN : I.length ≤ 1099511627776) :
    Calls Try.prog 75 #[.slice A I.length c, .func (.func 68) #[] #[]] w fun e w' => (∃ r : Int, e = .returned (.int .i64 r) ∧ (decide (r ≥ 0)) = wrongs I) ∧ w = w' := by
  obtain ⟨hc1, hc2, hc3⟩ := h
  unfold maxLen at hc2
  have H3 := Lib.hid hc3
  clear hc3
  go_enter Try.func75, Try.ntmps75
  go_wp2_with fail
  go_loop [5, 8] (fun _ a => ∃ k : Nat, k ≤ I.length ∧ a = .int .i64 k ∧ Hid (wrongs (I.take k) = false)) (fun _ a => I.length - (intOf a).toNat)
  case atStart => exact ⟨0, Nat.zero_le _, rfl, rfl⟩
  case round =>
    obtain ⟨k, hk, rfl, hw⟩ := hrel
    by_cases hkl : k < I.length
    · obtain ⟨t, hs⟩ : ∃ t, I[k]? = some t := ⟨_, List.getElem?_eq_getElem hkl⟩
      obtain ⟨rfl, _, hc⟩ := H3.out k t hs
      have hw1 : Hid (wrongs (I.take (k + 1)) = ((t.size : Int) != 64)) := by
        unfold Hid; rw [List.take_add_one, hs]; unfold wrongs at *; rw [List.any_append, hw.out]; simp
      have hw2 : Hid (((t.size : Int) != 64) = true → wrongs I = true) := by
        intro e
        unfold wrongs
        exact List.any_eq_true.2 ⟨t, List.mem_of_getElem? hs, e⟩
      clear hs
      cases hq : ((t.size : Int) != 64)
      · have HC := Lib.hid (Load1_any w t)
        rw [hq] at HC hw1
        clear hq
        go_wp2_with fail
        refine HC.out.mono ?_
        rintro e w' ⟨rfl, rfl⟩
        go_wp2_with fail
        go_round
        case rel => exact ⟨k + 1, by omega, by go_num, hw1⟩
        case measure => simp [intOf]; omega
      · have HC := Lib.hid (Load1_any w t)
        rw [hq] at HC
        clear hw1
        go_wp2_with fail
        refine HC.out.mono ?_
        rintro e w' ⟨rfl, rfl⟩
        go_wp2_with fail
        go_ret
        exact ⟨⟨_, rfl, by rw [hw2.out hq]; simp⟩, rfl⟩
    · obtain rfl : k = I.length := by omega
      rw [List.take_length] at hw
      go_wp2_with fail
      go_ret
      exact ⟨⟨_, rfl, by rw [hw.out]; simp⟩, rfl⟩

theorem Contains_at (w : World) (A : Option Addr) (c b o : Nat) (I : List ByteArray) (h : StrAt w A c b o I) (hN : I.length ≤ 1099511627776) :
    Calls Try.prog 69 #[.slice A I.length c, .func (.func 68) #[] #[]] w fun e w' => e = .returned (.bool (wrongs I)) ∧ w = w' := by
  have HC := Lib.hid (IndexF_at w A c b o I h hN)
  clear h
  go_enter Try.func69, Try.ntmps69
  go_wp2_with (go_at_call 75; refine HC.out.mono ?_; rintro e w' ⟨⟨r, rfl, hr⟩, rfl⟩)
  go_ret
  exact ⟨by rw [← hr]; rfl, rfl⟩

section
variable {w : World} {b g : Nat} {M : List Sec}
set_option maxRecDepth 100000 in
set_option maxHeartbeats 4000000 in
theorem Load_at (h : PMem w b g M) (A : Option Addr) (c sb so : Nat) (I : List ByteArray) (hv : StrAt w A c sb so I) (hne : sb ≠ g) (hN : I.length ≤ 1048576) :
    Calls Try.prog 42 #[.pointer (some ⟨b, 0, none⟩), .slice A I.length c] w fun e w' => e = .returned (.int .i64 (if loadErr I M then 1 else 0)) ∧ PMem w' b g (if loadErr I M then M else loadM I M) ∧ w.grownBy w' (some g) := by
  have HC := Lib.hid (Contains_at w A c sb so I hv (by omega))
  obtain ⟨hc1, hc2, hc3⟩ := hv
  obtain ⟨cap, hc, hcap, hm⟩ := h.head
  unfold maxLen at hm hc2
  have H3 := Lib.hid hc3
  clear hc3
  have HM := Lib.hid h
  clear h
  cases hq : ((I.length : Int) != M.length)
  · have hl : I.length = M.length := by have : (I.length : Int) = M.length := by simpa using hq
                                        omega
    cases hw : wrongs I
    · rw [hw] at HC
      have e : loadErr I M = false := by unfold loadErr; rw [hq, hw]; rfl
      rw [e]
      have Hl := Lib.hid hl
      clear e hl hw
      go_enter Try.func42, Try.ntmps42
      go_wp2_with (go_at_call 69; refine HC.out.mono ?_; rintro e w' ⟨rfl, rfl⟩)
      go_loopw [6, 7, 23] (fun _ _ a wr => ∃ k : Nat, k ≤ M.length ∧ a = .int .i64 k ∧ PMem wr b g (loadTo I M k) ∧ w.grownBy wr (some g)) (fun _ _ a _ => M.length - (intOf a).toNat)
      case atStart => exact ⟨0, Nat.zero_le _, rfl, by rw [loadTo_zero]; exact HM.out, grown_refl _ _⟩
      case round =>
        obtain ⟨k, hk, rfl, hM, hg⟩ := hrel
        have hlen := loadTo_len I M k Hl.out hk
        have HL2 := Lib.hid Hl.out
        by_cases hkl : k < M.length
        · obtain ⟨t, ht⟩ : ∃ t, I[k]? = some t := ⟨_, List.getElem?_eq_getElem (by have := Hl.out; omega)⟩
          obtain ⟨s, hs⟩ : ∃ s, M[k]? = some s := ⟨_, List.getElem?_eq_getElem hkl⟩
          obtain ⟨rfl, _, hct⟩ := H3.out k t ht
          have hng := hne
          have hct1 := hg.cell hct (by simp; exact hng)
          have hs1 : (loadTo I M k)[k]? = some s := by rw [loadTo_at I M k Hl.out hkl, hs]
          obtain ⟨c0, c1, c2, c3, c4⟩ := hM.sec hs1
          obtain ⟨cap1, hc', hcap', hm'⟩ := hM.head
          rw [hlen] at hc' hcap'
          unfold maxLen at hm'
          have hfr := hM.frozen
          have Hs1 := Lib.hid hs1
          have Hsu := Lib.hid (loadTo_succ I M k t s Hl.out ht hs)
          clear hs1 ht hs hlen hct
          have hkI : k < I.length := by have := Hl.out; omega
          go_wp2_with fail
          go_still_tail 17, (by kernel_rfl)
          change wpList _ _ _ _ _ wr.drew
          have hM2 : PMem wr.drew b g (loadTo I M k) := hM.grown (grown_drewN wr 1 none) (by simp) (by simp)
          have hg2 : w.grownBy wr.drew (some g) := grown_trans hg (grown_drewN wr 1 _)
          clear c0 c1 c2 c3 c4 hct1 hc' hfr hM hg
          generalize wr.drew = w2 at hM2 hg2 ⊢
          clear wr
          obtain ⟨c0, c1, c2, c3, c4⟩ := hM2.sec Hs1.out
          have hfr := hM2.frozen
          obtain ⟨cap2, hc', _⟩ := hM2.head
          rw [loadTo_len I M k Hl.out hk] at hc'
          go_wp2_with fail
          go_roundw
          case rel => exact ⟨k + 1, by omega, by go_num, by rw [Hsu.out]; exact store5 hM2 Hs1.out ⟨t, t, ⟨#[]⟩, false, s.worn⟩, grown_five hg2 _ _ _ _ _ _ _ _ _ _⟩
          case measure => simp [intOf]; omega
        · obtain rfl : k = M.length := by omega
          rw [loadTo_end I M Hl.out] at hM
          have hnl : ¬ M.length < I.length := by have := Hl.out; omega
          go_wp2_with fail
          go_ret
          exact ⟨rfl, hM, hg⟩
    · rw [hw] at HC
      have e : loadErr I M = true := by unfold loadErr; rw [hq, hw]; rfl
      rw [e]
      clear e hl hw
      go_enter Try.func42, Try.ntmps42
      go_wp2_with (go_at_call 69; refine HC.out.mono ?_; rintro e w' ⟨rfl, rfl⟩)
      go_ret
      exact ⟨rfl, HM.out, grown_refl _ _⟩
  · have e : loadErr I M = true := by unfold loadErr; rw [hq]; rfl
    rw [e]
    clear e
    go_enter Try.func42, Try.ntmps42
    go_wp2_with fail
    go_ret
    exact ⟨rfl, HM.out, grown_refl _ _⟩
end
section
variable {w : World} {a : DAt} {D : Dev}
set_option maxRecDepth 100000 in
set_option maxHeartbeats 1600000 in
theorem dRestore_at (h : DevIs w a D) (A : Option Addr) (c sb so : Nat) (I : List ByteArray) (hv : StrAt w A c sb so I) (hne : sb ≠ a.g) (hN : I.length ≤ 1048576) :
    Calls Try.prog 20 #[.pointer (some ⟨a.d, 0, none⟩), .slice A I.length c] w fun e w' => e = .returned (.int .i64 (if loadErr I D.M then 1 else 0)) ∧ DevIs w' a { D with M := if loadErr I D.M then D.M else loadM I D.M } ∧ DLeft w w' a := by
  obtain ⟨c0, c1, c2, c3, c4, c5, c6⟩ := IsDev.cells h
  have HR := Lib.hid (Load_at h.mem A c sb so I hv hne hN)
  have H := Lib.hid h
  generalize (if loadErr I D.M then D.M else loadM I D.M) = M2 at HR ⊢
  generalize (if loadErr I D.M then 1 else 0 : Int) = E at HR ⊢
  clear h hv
  go_enter Try.func20, Try.ntmps20
  go_wp2_with (first | (go_at_call 42; refine HR.out.mono ?_; rintro e w1 ⟨rfl, hM, hg⟩))
  go_ret
  exact ⟨rfl, IsDev.turn H.out hM hg, DFr.ofGrown hg (.inr (.inl rfl))⟩
end
end Go.Proofs.Ytgenifcikfbfhaa
