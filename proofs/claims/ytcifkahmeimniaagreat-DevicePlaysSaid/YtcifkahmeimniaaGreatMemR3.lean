/-
  Layer 22 (memory): the reference's Load and Clone.
-/
import Derived.Test.YtcifkahmeimniaaGreatMemR2
namespace Go.Proofs.YtcifkahmeimniaaGreat
open Go.RowKit Go.Shelf
attribute [local go_sem] Oper.semAt_some

section
variable {w : World} {b g : Nat} {M : List Sec}

set_option maxRecDepth 100000 in
set_option maxHeartbeats 4000000 in
theorem rLoad_any (h : RMem w b g M) (v : Value) (I : List ByteArray) (hv : Texts w v I) (hN : I.length ≤ 1048576) :
    Calls Tryz.prog 89 #[.pointer (some ⟨b, 0, none⟩), v] w fun e w' => e = .returned (.int .i64 (if loadErr I M then 1 else 0)) ∧ RMem w' b g (if loadErr I M then M else loadM I M) ∧ w.grownBy w' (some g) := by
  obtain ⟨A, c, rfl, hc1, hc2, hc3⟩ := hv.parts
  obtain ⟨cap, hc, hcap, hm⟩ := h.head
  unfold maxLen at hm hc2
  have H3 := Lib.hid hc3
  clear hc3 hv
  have hne : ∀ {gb cs}, Blk w gb 9 cs → gb ≠ g := by
    obtain ⟨_, cur, _, hbg, _⟩ := h.body
    exact fun hb => hb.ne_ hbg (by decide)
  have HM := Lib.hid h
  clear h
  cases hq : ((I.length : Int) != M.length)
  · have hl : I.length = M.length := by have : (I.length : Int) = M.length := by simpa using hq
                                        omega
    have Hl := Lib.hid hl
    clear hl
    cases hw : wrongs I
    · have e : loadErr I M = false := by unfold loadErr; rw [hq, hw]; rfl
      rw [e]
      have Hw := Lib.hid hw
      clear e hw
      go_enter Tryz.func89, Tryz.ntmps89
      go_wp2_with fail
      go_loop [5] (fun a => ∃ k : Nat, k ≤ I.length ∧ a = .int .i64 k) (fun a => I.length - (intOf a).toNat)
      case atStart => exact ⟨0, Nat.zero_le _, rfl⟩
      case round =>
        obtain ⟨k, hk, rfl⟩ := hrel
        by_cases hkl : k < I.length
        · obtain ⟨t, hs⟩ : ∃ t, I[k]? = some t := ⟨_, List.getElem?_eq_getElem hkl⟩
          obtain ⟨gb, cs, rfl, hb, hct⟩ := H3.out k t hs
          have hq2 : ((t.size : Int) != 64) = false := by
            cases hq2 : ((t.size : Int) != 64)
            · rfl
            · exact absurd (Hw.out.symm.trans (List.any_eq_true.2 ⟨t, List.mem_of_getElem? hs, hq2⟩)) (by simp)
          clear hs hb
          go_wp2_with fail
          go_round
          case rel => exact ⟨k + 1, by omega, by go_num⟩
          case measure => simp [intOf]; omega
        · obtain rfl : k = I.length := by omega
          go_wp2_with fail
          go_loopw [6] (fun a wr => ∃ k : Nat, k ≤ M.length ∧ a = .int .i64 k ∧ RMem wr b g (loadTo I M k) ∧ w.grownBy wr (some g)) (fun a _ => M.length - (intOf a).toNat)
          case atStart => exact ⟨0, Nat.zero_le _, rfl, by rw [loadTo_zero]; exact HM.out, grown_refl _ _⟩
          case round =>
            obtain ⟨k, hk, rfl, hM, hg⟩ := hrel
            have hlen := loadTo_len I M k Hl.out hk
            by_cases hkl : k < M.length
            · obtain ⟨t, ht⟩ : ∃ t, I[k]? = some t := ⟨_, List.getElem?_eq_getElem (by have := Hl.out; omega)⟩
              obtain ⟨s, hs⟩ : ∃ s, M[k]? = some s := ⟨_, List.getElem?_eq_getElem hkl⟩
              obtain ⟨gb, cs, rfl, hb, hct⟩ := H3.out k t ht
              have hng := hne hb
              have hct1 := hg.cell hct (by simp; exact hng)
              have hs1 : (loadTo I M k)[k]? = some s := by rw [loadTo_at I M k Hl.out hkl, hs]
              obtain ⟨c0, c1, c2, c3, c4⟩ := hM.sec hs1
              obtain ⟨cap1, hc', hcap', hm'⟩ := hM.head
              rw [hlen] at hc' hcap'
              unfold maxLen at hm'
              have hfr := hM.frozen
              have Hs1 := Lib.hid hs1
              have Hsu := Lib.hid (loadTo_succ I M k t s Hl.out ht hs)
              clear hs1 ht hs hlen hct
              have hkI : k < I.length := by have := Hl.out; omega
              go_wp2_with fail
              go_still_tail 23, (by kernel_rfl)
              change wpList _ _ _ _ _ wr.drew
              have hM2 : RMem wr.drew b g (loadTo I M k) := hM.grown (grown_drewN wr 1 none) (by simp) (by simp)
              have hg2 : w.grownBy wr.drew (some g) := grown_trans hg (grown_drewN wr 1 _)
              clear c0 c1 c2 c3 c4 hct1 hc' hfr hM hg
              generalize wr.drew = w2 at hM2 hg2 ⊢
              clear wr
              obtain ⟨c0, c1, c2, c3, c4⟩ := hM2.sec Hs1.out
              have hfr := hM2.frozen
              obtain ⟨cap2, hc', _⟩ := hM2.head
              rw [loadTo_len I M k Hl.out hk] at hc'
              go_wp2_with fail
              go_roundw
              case rel => exact ⟨k + 1, by omega, by go_num, by rw [Hsu.out]; exact store5 hM2 Hs1.out ⟨t, t, ⟨#[]⟩, false, s.worn⟩, grown_five hg2 _ _ _ _ _ _ _ _ _ _⟩
              case measure => simp [intOf]; omega
            · obtain rfl : k = M.length := by omega
              rw [loadTo_end I M Hl.out] at hM
              have hnl : ¬ M.length < I.length := by have := Hl.out; omega
              go_wp2_with fail
              go_ret
              exact ⟨rfl, hM, hg⟩
    · have e : loadErr I M = true := by unfold loadErr; rw [hq, hw]; rfl
      rw [e]
      have Hw := Lib.hid hw
      clear e hw
      go_enter Tryz.func89, Tryz.ntmps89
      go_wp2_with fail
      go_loop [5] (fun a => ∃ k : Nat, k ≤ I.length ∧ a = .int .i64 k ∧ Hid (wrongs (I.take k) = false)) (fun a => I.length - (intOf a).toNat)
      case atStart => exact ⟨0, Nat.zero_le _, rfl, rfl⟩
      case round =>
        obtain ⟨k, hk, rfl, hw⟩ := hrel
        by_cases hkl : k < I.length
        · obtain ⟨t, hs⟩ : ∃ t, I[k]? = some t := ⟨_, List.getElem?_eq_getElem hkl⟩
          obtain ⟨gb, cs, rfl, hb, hct⟩ := H3.out k t hs
          have hw1 : Hid (wrongs (I.take (k + 1)) = ((t.size : Int) != 64)) := by
            unfold Hid; rw [List.take_add_one, hs]; unfold wrongs at *; rw [List.any_append, hw.out]; simp
          clear hs hb
          cases hq2 : ((t.size : Int) != 64)
          · rw [hq2] at hw1
            go_wp2_with fail
            go_round
            case rel => exact ⟨k + 1, by omega, by go_num, hw1⟩
            case measure => simp [intOf]; omega
          · clear hw1
            go_wp2_with fail
            go_ret
            exact ⟨rfl, HM.out, grown_refl _ _⟩
        · obtain rfl : k = I.length := by omega
          rw [List.take_length] at hw
          exact absurd (Hw.out.symm.trans hw.out) (by simp)
  · have e : loadErr I M = true := by unfold loadErr; rw [hq]; rfl
    rw [e]
    clear e
    go_enter Tryz.func89, Tryz.ntmps89
    go_wp2_with fail
    go_ret
    exact ⟨rfl, HM.out, grown_refl _ _⟩
end
end Go.Proofs.YtcifkahmeimniaaGreat
