/-
  Layer 29 (session): the examples of the documentation hold.
-/
import Derived.Test.YtbhagfdkipgggaaDoorSanW3
namespace Go.Proofs.YtbhagfdkipgggaaDoor
open Go.RowKit Go.Shelf
theorem fits1 {K : ByteArray} (hK : K.size = 32) {side sent top : Int} {seen : Nat} (h1 : 0 ≤ side ∧ side ≤ 100) (h2 : 0 ≤ sent ∧ sent ≤ 100) (h3 : 0 ≤ top ∧ top ≤ 100) (h4 : seen ≤ 100) : (ses1 K side sent top seen).Fits := by
  unfold ses1
  constructor <;> dsimp only <;> omega
theorem fitsP {top : Int} {seen : Nat} (h3 : 0 ≤ top ∧ top ≤ 100) (h4 : seen ≤ 100) : (Ses.mk 0 0 0 noT 0 top seen).Fits := by
  have e : noT.size = 0 := rfl
  constructor <;> dsimp only <;> omega
theorem sealP_size (s : Ses) (t : ByteArray) : (sealP s t).size = t.size + 28 := by
  unfold sealP
  rw [txt_size, sealL_len, bl_len]
theorem text_any' (N : Nat) (c : UInt8) (T : ByteArray) (hT : txt (textL N c) = T) (hN : N ≤ 100) (z : Int) (hz : (c.toNat : Int) = z) (wx : World) :
    Calls Tryd.prog 37 #[.int .i64 N, .int .u8 z] wx fun e w' => e = .returned (.string T) ∧ Below wx.heap.size wx w' := by
  subst hT hz
  exact text_any wx N c hN
theorem sanity_any (w : World) (hK : KAt w 1) : Calls Tryd.prog 10 #[] w fun e w' => e = .returned (.bool true) ∧ Below w.heap.size w w' := by
  have k32 := sanKey_size
  have q1 : acceptP sanK sanHel 7 sanB = (ses1 sanKey 2 0 0 0, sanWel, 0) := san_accept
  have q2 : joinP sanK sanHel sanWel = (ses1 sanKey 1 0 0 0, 0) := san_join
  have q3 : receiveP (ses1 sanKey 1 0 0 0) ⟨7, 1, sealP (ses1 sanKey 1 0 0 0) sanFirst⟩ = (noSes, noT, 8) := rch
  have hh : sanHel.tag.size < 100 := by
    unfold sanHel helloL
    dsimp only
    rw [txt_size, codeL_len]
    decide
  have hw : sanWel.tag.size < 100 := by
    unfold sanWel welcomeL
    dsimp only
    rw [txt_size, codeL_len]
    decide
  have q0 := san_greet
  generalize sanWel = Wl at *
  generalize sanHel = Hl at *
  generalize sanKey = K at *
  have t1 : (sealP (ses1 K 1 0 0 0) sanFirst).size ≤ 1000000 := by rw [sealP_size]; decide
  have t2 : (sealP (ses1 K 1 1 0 0) sanSecond).size ≤ 1000000 := by rw [sealP_size]; decide
  have s1 := sn1 k32 sanFirst
  have s2 := sn2 k32 sanSecond
  have r1 := rc2 k32 sanSecond
  have r2 := rc1 k32 sanFirst
  have r3 := rc1' k32 (sealP (ses1 K 1 0 0 0) sanFirst)
  obtain ⟨T1, hT1⟩ : ∃ T, sealP (ses1 K 1 0 0 0) sanFirst = T := ⟨_, rfl⟩
  obtain ⟨T2, hT2⟩ : ∃ T, sealP (ses1 K 1 1 0 0) sanSecond = T := ⟨_, rfl⟩
  rw [hT1] at q3 t1 s1 r2 r3
  rw [hT2] at t2 s2 r1
  clear hT1 hT2
  have f0 : ∀ side, 0 ≤ side ∧ side ≤ 100 → (ses1 K side 0 0 0).Fits := fun side h => fits1 k32 h (by decide) (by decide) (by decide)
  have f1 : (ses1 K 1 1 0 0).Fits := fits1 k32 (by decide) (by decide) (by decide) (by decide)
  have f2 : (ses1 K 2 0 2 1).Fits := fits1 k32 (by decide) (by decide) (by decide) (by decide)
  have f3 : (ses1 K 2 0 2 3).Fits := fits1 k32 (by decide) (by decide) (by decide) (by decide)
  refine sanity_core w sanK sanA sanB K T1 T2 k32 ?t1 ?t2 ?t3 ?me ?s1 ?s2 ?r1 ?r2 ?r3 ?r4 ?g4 ?m1 ?m2 ?v1 ?v2 ?fr1 ?fr2 ?pu ?fi ?rm ?fre
  case t1 => exact Lib.hid fun wx _ => text_any' 32 1 sanK rfl (by decide) 1 rfl wx
  case t2 => exact Lib.hid fun wx _ => text_any' 16 65 sanA rfl (by decide) 65 rfl wx
  case t3 => exact Lib.hid fun wx _ => text_any' 16 97 sanB rfl (by decide) 97 rfl wx
  case me => exact Lib.hid fun wx hB => meet_any wx sanK sanA sanB 2 7 Hl (ses1 K 2 0 0 0) (ses1 K 1 0 0 0) Wl (hK.below hB) q0 q1 q2 hh hw
  case s1 => exact Lib.hid fun wx hB => by have h := send_any wx (ses1 K 1 0 0 0) sanFirst (f0 1 (by decide)) (by decide) (hK.below hB); rw [s1] at h; exact h
  case s2 => exact Lib.hid fun wx hB => by have h := send_any wx (ses1 K 1 1 0 0) sanSecond f1 (by decide) (hK.below hB); rw [s2] at h; exact h
  case r1 => exact Lib.hid fun wx hB => by have h := receive_any wx (ses1 K 2 0 0 0) ⟨7, 2, T2⟩ (f0 2 (by decide)) t2 (hK.below hB); rw [r1] at h; exact h
  case r2 => exact Lib.hid fun wx hB => by have h := receive_any wx (ses1 K 2 0 2 1) ⟨7, 1, T1⟩ f2 t1 (hK.below hB); rw [r2] at h; exact h
  case r3 => exact Lib.hid fun wx hB => by have h := receive_any wx (ses1 K 2 0 2 3) ⟨7, 1, T1⟩ f3 t1 (hK.below hB); rw [r3] at h; exact h
  case r4 => exact Lib.hid fun wx hB => by have h := receive_any wx (ses1 K 1 0 0 0) ⟨7, 1, T1⟩ (f0 1 (by decide)) t1 (hK.below hB); rw [q3] at h; exact h
  case g4 => exact Lib.hid fun wx hB => by have h := greet_any wx sanK sanA 4 (hK.below hB); rw [san_greet4] at h; exact h
  case m1 => exact Lib.hid fun wx _ => by have h := mark_any wx ⟨0, 0, 0, noT, 0, 3, 5⟩ 2 (fitsP (by decide) (by decide)); rw [mk2] at h; exact h
  case m2 => exact Lib.hid fun wx _ => by have h := mark_any wx sanP 70 (fitsP (by decide) (by decide)); rw [mk70] at h; exact h
  case v1 => exact Lib.hid fun wx _ => by have h := valid_any wx (ses1 K 2 0 2 3) f3; rw [w23 k32] at h; exact h
  case v2 => exact Lib.hid fun wx _ => by have h := valid_any wx sanP (fitsP (by decide) (by decide)); rw [vp] at h; exact h
  case fr1 => exact Lib.hid fun wx _ => by have h := fresh_any wx (ses1 K 2 0 2 3) 3 f3; rw [fr3] at h; exact h
  case fr2 => exact Lib.hid fun wx _ => by have h := fresh_any wx (ses1 K 2 0 2 3) 1 f3; rw [fr1] at h; exact h
  case pu =>
    refine Lib.hid fun wx _ => ?_
    have h := tput_any wx _ [] (ses1 K 2 0 2 3) (TabAt.nil wx) f3 (by decide)
    rw [pt1 k32] at h
    refine h.mono ?_
    rintro e w' ⟨v', rfl, hrow, hB⟩
    have hT := tabAt_of_row hrow
    obtain ⟨A, c, rfl, h2, h3, h4⟩ := hT
    obtain ⟨b, o, rfl, h5, h6⟩ := h4 (Nat.succ_pos _)
    rcases hrow.2 with ⟨h7, _⟩ | ⟨g, cap, cur, h7, _, hg, _, _, _, _⟩
    · cases h7
    · cases h7
      exact ⟨b, c, rfl, tabAt_of_row hrow, hB⟩
  case fi => exact Lib.hid fun wx v hT => by have h := find_any wx v _ 7 hT; rw [fd7] at h; exact h
  case rm =>
    refine Lib.hid fun wx v hT => ?_
    have h := tremove_any wx v _ 7 hT (by rw [List.length_singleton]; decide)
    rw [rm7] at h
    refine h.mono ?_
    rintro e w' ⟨v', rfl, hrow, hB⟩
    obtain ⟨A, c, rfl, _⟩ := tabAt_of_row hrow
    exact ⟨A, c, rfl, hB⟩
  case fre => exact Lib.hid fun wx v hT => by have h := tfree_any wx v _ hT; rw [fre] at h; exact h
end Go.Proofs.YtbhagfdkipgggaaDoor
