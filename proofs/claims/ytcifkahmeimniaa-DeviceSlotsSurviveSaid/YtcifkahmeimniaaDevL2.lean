/-
  Layer 23 (device): each slot has what was last stored in it.
-/
import Derived.Test.YtcifkahmeimniaaDevP4
import Derived.Deep.RegionHeld3
namespace Go.Proofs.Ytcifkahmeimniaa
open Go.RowKit Go.Shelf
attribute [local go_sem] Oper.semAt_some

section
variable {W : World}
set_option maxRecDepth 100000 in
set_option maxHeartbeats 1600000 in
theorem slots_off (x y z : Int) (A : Option Addr) (N c : Nat) (h : (decide (x ≤ 12) && decide ((N : Int) ≤ 60)) = false) :
    Calls Try.prog 4 #[.agg #[.int .i64 x, .int .i64 y, .int .i64 z], .slice A N c] W fun e w' => e = .returned (.bool true) ∧ Below W.heap.size W w' := by
  obtain ⟨hk, hB⟩ := box_new W x y z
  have HB : Hid (Boxed W _ x y z) := ⟨hk, hB⟩
  clear hk hB
  have Hh := Lib.hid h
  clear h
  go_enter Try.func4, Try.ntmps4
  go_wp2_with (first | (go_at_call 8; refine (sanity_true _).mono ?_; rintro e w1 ⟨rfl, hB⟩; have HX := Lib.hid (HB.out.on hB); obtain ⟨q0, q1, q2⟩ := HX.out.c; clear hB) | (go_at_call 9; refine (few_any _ x y z A N c).mono ?_; rw [Hh.out]; rintro e w2 ⟨rfl, hB⟩; have HY := Lib.hid (HX.out.on hB); obtain ⟨p0, p1, p2⟩ := HY.out.c; clear hB))
  go_ret
  exact ⟨rfl, HY.out.2⟩
set_option maxRecDepth 100000 in
set_option maxHeartbeats 1600000 in
theorem slots_bad (x y z : Int) (A : Option Addr) (N c : Nat) (h : (decide (x ≤ 12) && decide ((N : Int) ≤ 60)) = true) (hz : ¬ SizeOk x y z) :
    Calls Try.prog 4 #[.agg #[.int .i64 x, .int .i64 y, .int .i64 z], .slice A N c] W fun e w' => e = .returned (.bool true) ∧ Below W.heap.size W w' := by
  obtain ⟨hk, hB⟩ := box_new W x y z
  have HB : Hid (Boxed W _ x y z) := ⟨hk, hB⟩
  clear hk hB
  have Hh := Lib.hid h
  have Hz := Lib.hid hz
  clear h hz
  go_enter Try.func4, Try.ntmps4
  go_wp2_with (first | (go_at_call 8; refine (sanity_true _).mono ?_; rintro e w1 ⟨rfl, hB⟩; have HX := Lib.hid (HB.out.on hB); obtain ⟨q0, q1, q2⟩ := HX.out.c; clear hB) | (go_at_call 9; refine (few_any _ x y z A N c).mono ?_; rw [Hh.out]; rintro e w2 ⟨rfl, hB⟩; have HY := Lib.hid (HX.out.on hB); obtain ⟨p0, p1, p2⟩ := HY.out.c; clear hB) | (go_at_call 10; refine (dNew_bad _ x y z Hz.out).mono ?_; rintro e w3 ⟨rfl, hB⟩; have HZ := Lib.hid (HY.out.on hB); clear hB))
  go_ret
  exact ⟨rfl, HZ.out.2⟩
set_option maxRecDepth 100000 in
set_option maxHeartbeats 4000000 in
theorem slots_loop (n s f : Nat) (hn : 1 ≤ n ∧ n ≤ 4096) (hs : 1 ≤ s ∧ s ≤ 16) (hf : 1 ≤ f ∧ f ≤ 16) (hx : (n : Int) ≤ 12) (v : Value) (ops : List DOp) (hv : DOpsAt W v ops) (ho : OpsIn ops) (hN : ops.length ≤ 60) :
    Calls Try.prog 4 #[.agg #[.int .i64 n, .int .i64 s, .int .i64 f], v] W fun e w' => e = .returned (.bool true) ∧ Below W.heap.size W w' := by
  obtain ⟨A, c, rfl, hA⟩ := hv
  obtain ⟨hk, hB⟩ := box_new W n s f
  have HB : Hid (Boxed W _ n s f) := ⟨hk, hB⟩
  have Hn := Lib.hid (And.intro hn (And.intro hs hf))
  have HA := Lib.hid hA
  have Ho := Lib.hid ho
  have Hh : Hid ((decide ((n : Int) ≤ 12) && decide ((ops.length : Int) ≤ 60)) = true) := by
    unfold Hid
    rw [decide_eq_true hx, decide_eq_true (by omega : (ops.length : Int) ≤ 60)]
    rfl
  have k1 : ∀ wx, (Instr.makeSlice 31 (.int .i64 s) (.int .i64 s)).run Try.prog wx = .ok (.slice (some ⟨wx.heap.size, 0, none⟩) s s) (wx.alloc (.cells (madeCells #[.string ⟨#[]⟩] s) 9)) := fun wx => run_make_row' 31 9 _ 16 Try.underlying31 infoString rfl .i64 .i64 s (by omega) (by omega) wx
  have k2 := make32
  have k3 := conv32
  clear hk hB hA ho hx hn hs hf
  go_enter Try.func4, Try.ntmps4
  go_wp2_with (first | (go_at_call 8; refine (sanity_true _).mono ?_; rintro e w1 ⟨rfl, hB⟩; have HX := Lib.hid (HB.out.on hB); obtain ⟨q0, q1, q2⟩ := HX.out.c; clear hB) | (go_at_call 9; refine (few_any _ n s f A ops.length c).mono ?_; rw [Hh.out]; rintro e w2 ⟨rfl, hB⟩; have HY := Lib.hid (HX.out.on hB); obtain ⟨p0, p1, p2⟩ := HY.out.c; clear hB) | (go_at_call 10; refine (law_new W HY.out.2 HY.out.1 Hn.out.1 Hn.out.2.1 Hn.out.2.2).mono ?_; rintro e w3 ⟨a, rfl, hs, hfb⟩; obtain ⟨s0, s1, s2⟩ := hs.out.c; have slt := hs.out.box.lt))
  have hw0 := made_whole (s := s) (w3.alloc (.cells zcells 5))
  have hoff0 : Off W a (.slice none 0 0) (w3.alloc (.cells zcells 5)).heap.size := hs.out.off _ (by simp)
  have hl0 := (hs.out.on ((Below.refl _ _).alloc (Nat.le_refl _) (.cells zcells 5))).on ((Below.refl _ _).alloc (Nat.le_refl _) (.cells (madeCells #[.string ⟨#[]⟩] s) 9))
  have hgw : (w3.alloc (.cells zcells 5)).heap.size = w3.heap.size + 1 := by simp
  rw [hgw] at hw0 hoff0
  generalize (w3.alloc (.cells zcells 5)).alloc (.cells (madeCells #[.string ⟨#[]⟩] s) 9) = w4 at hw0 hl0 ⊢
  obtain ⟨gw, hgwe⟩ : ∃ gw, w3.heap.size + 1 = gw := ⟨_, rfl⟩
  rw [hgwe] at hw0 hoff0 ⊢
  have Hw0 : Hid (Whole w4 gw (emptied (List.replicate s ⟨#[]⟩) 0)) := hw0
  have Hl0 := Lib.hid hl0
  have Hoff0 := Lib.hid hoff0
  clear hw0 hl0 hoff0 hgw hs hfb HX HY s0 s1 s2 slt k1 k2 k3 hgwe q0 q1 q2 p0 p1 p2
  go_loopw [10] (fun i wr => ∃ j : Nat, j ≤ s ∧ i = .int .i64 j ∧ Hid (Whole wr gw (emptied (List.replicate s ⟨#[]⟩) j)) ∧ Hid (LSt W wr a n s f (freshDev n s f) (.slice none 0 0) [])) (fun i _ => s - (intOf i).toNat)
  case atStart => exact ⟨0, Nat.zero_le _, rfl, Hw0, Hl0⟩
  case round =>
    obtain ⟨j, hj, rfl, hw, hl⟩ := hrel
    clear Hw0 Hl0
    by_cases hjs : j < s
    · have hd0 : decide (j < s) = true := decide_eq_true hjs
      have hel : (emptied (List.replicate s (⟨#[]⟩ : ByteArray)) j).length = s := (emptied_len _ _ (by simp; omega)).trans (by simp)
      obtain ⟨t0, ht0⟩ : ∃ t0, (emptied (List.replicate s (⟨#[]⟩ : ByteArray)) j)[j]? = some t0 := ⟨_, List.getElem?_eq_getElem (by omega)⟩
      have hc := hw.out.cell ht0
      have hfz := Blk.frozen hw.out j
      have hji : (j : Int) < 16 := by have := Hn.out.2.1.2; omega
      have Hw1 : Hid (Whole (wr.setCell ⟨gw, j, none⟩ (.string zero32)) gw (emptied (List.replicate s ⟨#[]⟩) (j + 1))) := by
        unfold Hid
        rw [← emptied_set _ _ (by simp; omega)]
        exact hw.out.set j zero32
      have Hl1 : Hid (LSt W (wr.setCell ⟨gw, j, none⟩ (.string zero32)) a n s f (freshDev n s f) (.slice none 0 0) []) := hl.out.grown (grown_set wr gw j _) (fun k e => by cases e; exact Hoff0.out)
      have Hjs := Lib.hid hjs
      clear hel ht0 hjs
      go_wp2_with fail
      go_roundw
      case rel => exact ⟨j + 1, Hjs.out, by go_num, Hw1, Hl1⟩
      case measure => have := Hjs.out; simp [intOf]; omega
    · obtain rfl : s = j := by omega
      have hd0 : decide (s < s) = false := decide_eq_false (by omega)
      have Hw1 : Hid (Whole wr gw (freshDev n s f).slots) := by
        have h1 := hw.out
        unfold emptied at h1
        rw [List.drop_of_length_le (by simp), List.append_nil] at h1
        exact h1
      clear hw hj hjs
      go_wp2_with fail
      go_loopw [11, 12] (fun v i wr => ∃ (k : Nat) (iA : Option Addr) (iN iC : Nat), k ≤ ops.length ∧ v = .slice iA iN iC ∧ i = .int .i64 k ∧ Hid (LSt W wr a n s f (dUpTo n s f ops k).1 (.slice iA iN iC) (dUpTo n s f ops k).2) ∧ Hid (Whole wr gw (dUpTo n s f ops k).1.slots) ∧ Hid (Off W a (.slice iA iN iC) gw)) (fun _ i _ => ops.length - (intOf i).toNat)
      case atStart => exact ⟨0, none, 0, 0, Nat.zero_le _, rfl, rfl, hl, Hw1, Hoff0⟩
      case round =>
        obtain ⟨k, iA, iN, iC, hk, rfl, rfl, hu, hw, hoff⟩ := hrel
        clear Hw1 hl
        by_cases hkl : k < ops.length
        · have hd1 : decide (k < ops.length) = true := decide_eq_true hkl
          obtain ⟨o, hk0⟩ : ∃ o, ops[k]? = some o := ⟨_, List.getElem?_eq_getElem hkl⟩
          obtain ⟨B, off, rfl, hbl, hat⟩ := HA.out (by omega)
          have Hat := Lib.hid (hat k o hk0)
          have Hbl := Lib.hid hbl
          obtain ⟨hDok, hIl⟩ := dUpTo_ok n s f ops Ho.out k hk
          have HD := Lib.hid hDok
          have HI := Lib.hid hIl
          have Hk := Lib.hid (dUpTo_succ n s f ops k o hk0)
          generalize (dUpTo n s f ops k).1 = D at hu hw HD Hk
          generalize (dUpTo n s f ops k).2 = I at hu HI Hk
          clear hDok hIl hat hk0

          obtain ⟨A1, n1, cc, g0, g1, g2, g3, g4, g5, hok⟩ := Hat.out.below Hbl.out hu.out.dev.bel
          have Hok := Lib.hid hok
          obtain ⟨R, hR⟩ : ∃ R, dplay o D I = R := ⟨_, rfl⟩
          have HR := Lib.hid hR
          have Hds : Hid (R.2.1.slots = slotsNext o R.1.e D.slots ∧ (o.kind = 5 → R.1.e = 0 → inS D.slots o.a ∧ (dtext o.fill o.short 32).size = 32)) := by
            unfold Hid
            rw [← hR]
            exact dplay_slots o D I
          have hst := Lib.hid (hu.out.play HD.out Hn.out.1.2 Hn.out.2.1.2 HI.out o _ Hok.out HR.out)
          have Hfr : Hid (∀ w', DLeft wr w' a → Whole w' gw D.slots) := fun w' hF => (hF.blk hu.out.dev.dev hw.out (fun e => by cases e) (fun e => by cases e) (fun _ => hoff.out.sb) (fun e => by cases e)).trans hw.out
          have Hkl := Lib.hid hkl
          clear hok hR hkl
          have hfill : Hid (o.fill < 256) := by obtain ⟨_, _, _, _, h1, _⟩ := Hok.out; exact h1.1
          have hsl : Hid (D.slots.length = s) := HD.out.slots
          by_cases h11 : o.kind = 11
          · have b5 : (o.kind == 5) = false := beq_f (by omega)
            have b11 : (o.kind == 11) = true := beq_t h11
            have Hsl : Hid (R.2.1.slots = emptied D.slots s) := by
              unfold Hid
              rw [Hds.out.1]
              unfold slotsNext emptied
              rw [if_neg (by omega), if_pos h11, hsl.out, List.drop_of_length_le (by rw [hsl.out]; exact Nat.le_refl _), List.append_nil]
            clear h11
            go_wp2_with (first | (go_at_call 14; refine hst.out.mono ?_; rintro e w4 ⟨A2, n2, c2, rfl, hl, hF, hv2⟩; have kb := Blk.new w4 36 #[.string R.1.text, .int .i64 R.1.e]; have kb1 := kb.cell 1; obtain ⟨A3, n3, c3, g0', g1', g2', g3', g4', g5', hok'⟩ := Hat.out.below Hbl.out (hl.out.on ((Below.refl _ w4).alloc (Nat.le_refl _) (.cells #[.string R.1.text, .int .i64 R.1.e] 36))).dev.bel))
            have hl5 := Lib.hid (hl.out.on ((Below.refl _ w4).alloc (Nat.le_refl _) (.cells #[.string R.1.text, .int .i64 R.1.e] 36)))
            have hw5 : Hid (Whole (w4.alloc (.cells #[.string R.1.text, .int .i64 R.1.e] 36)) gw D.slots) := (Hfr.out w4 hF.out).alloc _
            have hoff5 : Hid (Off W a (.slice A2 n2 c2) gw) := hoff.out.next (Blk.lt hw.out) hv2.out
            have hsix : Hid (SixAt (w4.alloc (.cells #[.string R.1.text, .int .i64 R.1.e] 36)) B (off + k * 6) (.int .i64 o.kind) (.int .i64 o.a) (.int .i64 o.b) (.int .u8 o.fill) (.bool o.short) (.slice A3 n3 c3)) := ⟨g0', g1', g2', g3', g4', g5'⟩
            have hBl5 : Hid (B < (w4.alloc (.cells #[.string R.1.text, .int .i64 R.1.e] 36)).heap.size) := Nat.lt_of_lt_of_le Hbl.out hl5.out.dev.bel.size
            have hBg : Hid (gw ≠ B) := by have := hoff.out.W; have := Hbl.out; unfold Hid; omega
            clear hl hF Hfr hst hv2 hw hoff hu kb hok' g0 g1 g2 g3 g4 g5
            generalize w4.alloc (.cells #[.string R.1.text, .int .i64 R.1.e] 36) = w5 at hl5 hw5 hsix hBl5 kb1 g0' g1' g2' g3' g4' g5' ⊢
            have Hk2 : Hid ((dUpTo n s f ops (k + 1)).1 = R.2.1 ∧ (dUpTo n s f ops (k + 1)).2 = R.2.2) := by
              have := Hk.out
              rw [HR.out] at this
              exact ⟨by rw [this], by rw [this]⟩
            go_loopw [15] (fun i wr => ∃ j : Nat, j ≤ s ∧ i = .int .i64 j ∧ Hid (Whole wr gw (emptied D.slots j)) ∧ Hid (LSt W wr a n s f R.2.1 (.slice A2 n2 c2) R.2.2)) (fun i _ => s - (intOf i).toNat)
            case atStart => exact ⟨0, Nat.zero_le _, rfl, hw5, hl5⟩
            case round =>
              obtain ⟨j, hj, rfl, hw, hl⟩ := hrel
              clear hw5 hl5 g0' g1' g2' g3' g4' g5' kb1
              obtain ⟨A4, n4, c4, g0, g1, g2, g3, g4, g5, _⟩ := Hat.out.below Hbl.out hl.out.dev.bel
              by_cases hjs : j < s
              · have hd0 : decide (j < s) = true := decide_eq_true hjs
                have hel : (emptied D.slots j).length = s := (emptied_len _ _ (by have := hsl.out; omega)).trans hsl.out
                obtain ⟨t0, ht0⟩ : ∃ t0, (emptied D.slots j)[j]? = some t0 := ⟨_, List.getElem?_eq_getElem (by omega)⟩
                have hc := hw.out.cell ht0
                have hfz := Blk.frozen hw.out j
                have hji : (j : Int) < 16 := by have := Hn.out.2.1.2; omega
                have Hw1 : Hid (Whole (wr.setCell ⟨gw, j, none⟩ (.string zero32)) gw (emptied D.slots (j + 1))) := by
                  unfold Hid
                  rw [← emptied_set _ _ (by have := hsl.out; omega)]
                  exact hw.out.set j zero32
                have Hl1 : Hid (LSt W (wr.setCell ⟨gw, j, none⟩ (.string zero32)) a n s f R.2.1 (.slice A2 n2 c2) R.2.2) := hl.out.grown (grown_set wr gw j _) (fun k e => by cases e; exact hoff5.out)
                have Hjs := Lib.hid hjs
                clear hel ht0 hjs
                go_wp2_with fail
                go_roundw
                case rel => exact ⟨j + 1, Hjs.out, by go_num, Hw1, Hl1⟩
                case measure => have := Hjs.out; simp [intOf]; omega
              · obtain rfl : s = j := by omega
                have hd0 : decide (s < s) = false := decide_eq_false (by omega)
                clear hjs hj
                go_wp2_with fail
                go_roundw
                case rel => exact ⟨k + 1, A2, n2, c2, Hkl.out, rfl, by go_num, by rw [Hk2.out.1, Hk2.out.2]; exact hl, by rw [Hk2.out.1, Hsl.out]; exact hw, hoff5⟩
                case measure => have := Hkl.out; simp [intOf]; omega
          · have b11 : (o.kind == 11) = false := beq_f h11
            have hs0 : decide (0 < s) = true := decide_eq_true (by have := Hn.out.2.1.1; omega)
            have Hs0 := Lib.hid hs0
            by_cases h5 : o.kind = 5 ∧ R.1.e = 0
            · have b5 : (o.kind == 5) = true := beq_t h5.1
              have be : (R.1.e == 0) = true := beq_t h5.2
              obtain ⟨hin, hsz⟩ := Hds.out.2 h5.1 h5.2
              have Hsl : Hid (R.2.1.slots = D.slots.set o.a.toNat (dtext o.fill o.short 32)) := by
                unfold Hid
                rw [Hds.out.1]
                unfold slotsNext
                rw [if_pos h5]
              obtain ⟨m, hm⟩ := Int.eq_ofNat_of_zero_le hin.1
              have hml : m < s := by have := hin.2; have := hsl.out; omega
              have hm0 : (0 : Int) ≤ (m : Int) := by omega
              have hm1 : (m : Int) < (s : Int) := by omega
              rw [hm, Int.toNat_natCast] at Hsl
              have Hm := Lib.hid hm
              obtain ⟨t0, ht0⟩ : ∃ t0, D.slots[m]? = some t0 := ⟨_, List.getElem?_eq_getElem (by have := hsl.out; omega)⟩
              have Ht0 := Lib.hid ht0
              clear h5 h11 hin hsz hm ht0 hs0
              go_wp2_with (first | (go_at_call 14; refine hst.out.mono ?_; rintro e w4 ⟨A2, n2, c2, rfl, hl, hF, hv2⟩; have kb := Blk.new w4 36 #[.string R.1.text, .int .i64 R.1.e]; have kb1 := kb.cell 1; obtain ⟨A3, n3, c3, g0', g1', g2', g3', g4', g5', hok'⟩ := Hat.out.below Hbl.out (hl.out.on ((Below.refl _ w4).alloc (Nat.le_refl _) (.cells #[.string R.1.text, .int .i64 R.1.e] 36))).dev.bel))
              have hl5 := Lib.hid (hl.out.on ((Below.refl _ w4).alloc (Nat.le_refl _) (.cells #[.string R.1.text, .int .i64 R.1.e] 36)))
              have hw5 : Hid (Whole (w4.alloc (.cells #[.string R.1.text, .int .i64 R.1.e] 36)) gw D.slots) := (Hfr.out w4 hF.out).alloc _
              have hoff5 : Hid (Off W a (.slice A2 n2 c2) gw) := hoff.out.next (Blk.lt hw.out) hv2.out
              have hsix : Hid (SixAt (w4.alloc (.cells #[.string R.1.text, .int .i64 R.1.e] 36)) B (off + k * 6) (.int .i64 o.kind) (.int .i64 o.a) (.int .i64 o.b) (.int .u8 o.fill) (.bool o.short) (.slice A3 n3 c3)) := ⟨g0', g1', g2', g3', g4', g5'⟩
              have hBl5 : Hid (B < (w4.alloc (.cells #[.string R.1.text, .int .i64 R.1.e] 36)).heap.size) := Nat.lt_of_lt_of_le Hbl.out hl5.out.dev.bel.size
              have hBg : Hid (gw ≠ B) := by have := hoff.out.W; have := Hbl.out; unfold Hid; omega
              clear hl hF Hfr hst hv2 hw hoff hu kb hok' g0 g1 g2 g3 g4 g5
              generalize w4.alloc (.cells #[.string R.1.text, .int .i64 R.1.e] 36) = w5 at hl5 hw5 hsix hBl5 kb1 g0' g1' g2' g3' g4' g5' ⊢
              have Hk2 : Hid ((dUpTo n s f ops (k + 1)).1 = R.2.1 ∧ (dUpTo n s f ops (k + 1)).2 = R.2.2) := by
                have := Hk.out
                rw [HR.out] at this
                exact ⟨by rw [this], by rw [this]⟩
              rw [Hm.out] at g1' hsix
              have HT := Lib.hid (dText_any w5.drew o.kind m o.b o.fill 32 o.short hfill.out (.inr rfl) A3 n3 c3)
              have hsd : Hid (∀ w6, Below w5.drew.heap.size w5.drew w6 → SixAt w6 B (off + k * 6) (.int .i64 o.kind) (.int .i64 m) (.int .i64 o.b) (.int .u8 o.fill) (.bool o.short) (.slice A3 n3 c3) ∧ w6.cell? ⟨gw, m, none⟩ = some (.string t0) ∧ w6.frozen? ⟨gw, m, none⟩ = false ∧ SixAt (w6.setCell ⟨gw, m, none⟩ (.string (dtext o.fill o.short 32))) B (off + k * 6) (.int .i64 o.kind) (.int .i64 m) (.int .i64 o.b) (.int .u8 o.fill) (.bool o.short) (.slice A3 n3 c3) ∧
                  Whole (w6.setCell ⟨gw, m, none⟩ (.string (dtext o.fill o.short 32))) gw R.2.1.slots ∧ LSt W (w6.setCell ⟨gw, m, none⟩ (.string (dtext o.fill o.short 32))) a n s f R.2.1 (.slice A2 n2 c2) R.2.2) := fun w6 hB => by
                have hB' : Below w5.heap.size w5 w6 := (Below.refl _ w5).drew.trans hB
                have h6 := hsix.out.below hB' hBl5.out
                have h7 : Whole w6 gw D.slots := Blk.below hw5.out hB' (Blk.lt hw5.out)
                refine ⟨h6, h7.cell Ht0.out, Blk.frozen h7 m, h6.set (Nat.lt_of_lt_of_le hBl5.out hB'.size) hBg.out m _, ?_, (hl5.out.on hB').grown (grown_set w6 gw m _) (fun k e => by cases e; exact hoff5.out)⟩
                rw [Hsl.out]
                exact h7.set m _
              go_region_held3 (fun w' => w'.cell? ⟨B, off + k * 6, none⟩ = some (.int .i64 o.kind) ∧ w'.cell? ⟨B, off + k * 6 + 1, none⟩ = some (.int .i64 m) ∧ w'.cell? ⟨B, off + k * 6 + 2, none⟩ = some (.int .i64 o.b) ∧ w'.cell? ⟨B, off + k * 6 + 3, none⟩ = some (.int .u8 o.fill) ∧ w'.cell? ⟨B, off + k * 6 + 4, none⟩ = some (.bool o.short) ∧ w'.cell? ⟨B, off + k * 6 + 5, none⟩ = some (.slice A3 n3 c3)) (go_keep)
                (first | (go_at_call 15; refine HT.out.mono ?_; rintro e w6 ⟨rfl, hB6⟩; obtain ⟨⟨i0, i1, i2, i3, i4, i5⟩, m0, m1, ⟨j0, j1, j2, j3, j4, j5⟩, hwn, hln⟩ := hsd.out _ hB6; have Hwn := Lib.hid hwn; have Hln := Lib.hid hln; clear hwn hln hB6))
              clear hsd HT g0' g1' g2' g3' g4' g5' hw5 hl5
              generalize w6.setCell ⟨gw, m, none⟩ (.string (dtext o.fill o.short 32)) = w7 at j0 j1 j2 j3 j4 j5 Hwn Hln ⊢
              go_wp2_with fail
              go_loop [15] (fun i => i = .int .i64 0) (fun _ => 0)
              case atStart => rfl
              case round =>
                subst hrel
                have hs0 := Hs0.out
                go_wp2_with fail
                go_roundw
                case rel => exact ⟨k + 1, A2, n2, c2, Hkl.out, rfl, by go_num, by rw [Hk2.out.1, Hk2.out.2]; exact Hln, by rw [Hk2.out.1]; exact Hwn, hoff5⟩
                case measure => have := Hkl.out; simp [intOf]; omega
            · have Hsl : Hid (R.2.1.slots = D.slots) := by
                unfold Hid
                rw [Hds.out.1]
                unfold slotsNext
                rw [if_neg h5, if_neg h11]
              by_cases k5 : o.kind = 5
              · have b5 : (o.kind == 5) = true := beq_t k5
                have be : (R.1.e == 0) = false := beq_f (fun e => h5 ⟨k5, e⟩)
                clear h5 h11 k5
                go_wp2_with (first | (go_at_call 14; refine hst.out.mono ?_; rintro e w4 ⟨A2, n2, c2, rfl, hl, hF, hv2⟩; have kb := Blk.new w4 36 #[.string R.1.text, .int .i64 R.1.e]; have kb1 := kb.cell 1; obtain ⟨A3, n3, c3, g0', g1', g2', g3', g4', g5', hok'⟩ := Hat.out.below Hbl.out (hl.out.on ((Below.refl _ w4).alloc (Nat.le_refl _) (.cells #[.string R.1.text, .int .i64 R.1.e] 36))).dev.bel))
                have hl5 := Lib.hid (hl.out.on ((Below.refl _ w4).alloc (Nat.le_refl _) (.cells #[.string R.1.text, .int .i64 R.1.e] 36)))
                have hw5 : Hid (Whole (w4.alloc (.cells #[.string R.1.text, .int .i64 R.1.e] 36)) gw D.slots) := (Hfr.out w4 hF.out).alloc _
                have hoff5 : Hid (Off W a (.slice A2 n2 c2) gw) := hoff.out.next (Blk.lt hw.out) hv2.out
                have hsix : Hid (SixAt (w4.alloc (.cells #[.string R.1.text, .int .i64 R.1.e] 36)) B (off + k * 6) (.int .i64 o.kind) (.int .i64 o.a) (.int .i64 o.b) (.int .u8 o.fill) (.bool o.short) (.slice A3 n3 c3)) := ⟨g0', g1', g2', g3', g4', g5'⟩
                have hBl5 : Hid (B < (w4.alloc (.cells #[.string R.1.text, .int .i64 R.1.e] 36)).heap.size) := Nat.lt_of_lt_of_le Hbl.out hl5.out.dev.bel.size
                have hBg : Hid (gw ≠ B) := by have := hoff.out.W; have := Hbl.out; unfold Hid; omega
                clear hl hF Hfr hst hv2 hw hoff hu kb hok' g0 g1 g2 g3 g4 g5
                generalize w4.alloc (.cells #[.string R.1.text, .int .i64 R.1.e] 36) = w5 at hl5 hw5 hsix hBl5 kb1 g0' g1' g2' g3' g4' g5' ⊢
                have Hk2 : Hid ((dUpTo n s f ops (k + 1)).1 = R.2.1 ∧ (dUpTo n s f ops (k + 1)).2 = R.2.2) := by
                  have := Hk.out
                  rw [HR.out] at this
                  exact ⟨by rw [this], by rw [this]⟩
                go_loop [15] (fun i => i = .int .i64 0) (fun _ => 0)
                case atStart => rfl
                case round =>
                  subst hrel
                  go_wp2_with fail
                  go_roundw
                  case rel => exact ⟨k + 1, A2, n2, c2, Hkl.out, rfl, by go_num, by rw [Hk2.out.1, Hk2.out.2]; exact hl5, by rw [Hk2.out.1, Hsl.out]; exact hw5, hoff5⟩
                  case measure => have := Hkl.out; simp [intOf]; omega
              · have b5 : (o.kind == 5) = false := beq_f k5
                clear h5 h11 k5
                go_wp2_with (first | (go_at_call 14; refine hst.out.mono ?_; rintro e w4 ⟨A2, n2, c2, rfl, hl, hF, hv2⟩; have kb := Blk.new w4 36 #[.string R.1.text, .int .i64 R.1.e]; have kb1 := kb.cell 1; obtain ⟨A3, n3, c3, g0', g1', g2', g3', g4', g5', hok'⟩ := Hat.out.below Hbl.out (hl.out.on ((Below.refl _ w4).alloc (Nat.le_refl _) (.cells #[.string R.1.text, .int .i64 R.1.e] 36))).dev.bel))
                have hl5 := Lib.hid (hl.out.on ((Below.refl _ w4).alloc (Nat.le_refl _) (.cells #[.string R.1.text, .int .i64 R.1.e] 36)))
                have hw5 : Hid (Whole (w4.alloc (.cells #[.string R.1.text, .int .i64 R.1.e] 36)) gw D.slots) := (Hfr.out w4 hF.out).alloc _
                have hoff5 : Hid (Off W a (.slice A2 n2 c2) gw) := hoff.out.next (Blk.lt hw.out) hv2.out
                have hsix : Hid (SixAt (w4.alloc (.cells #[.string R.1.text, .int .i64 R.1.e] 36)) B (off + k * 6) (.int .i64 o.kind) (.int .i64 o.a) (.int .i64 o.b) (.int .u8 o.fill) (.bool o.short) (.slice A3 n3 c3)) := ⟨g0', g1', g2', g3', g4', g5'⟩
                have hBl5 : Hid (B < (w4.alloc (.cells #[.string R.1.text, .int .i64 R.1.e] 36)).heap.size) := Nat.lt_of_lt_of_le Hbl.out hl5.out.dev.bel.size
                have hBg : Hid (gw ≠ B) := by have := hoff.out.W; have := Hbl.out; unfold Hid; omega
                clear hl hF Hfr hst hv2 hw hoff hu kb hok' g0 g1 g2 g3 g4 g5
                generalize w4.alloc (.cells #[.string R.1.text, .int .i64 R.1.e] 36) = w5 at hl5 hw5 hsix hBl5 kb1 g0' g1' g2' g3' g4' g5' ⊢
                have Hk2 : Hid ((dUpTo n s f ops (k + 1)).1 = R.2.1 ∧ (dUpTo n s f ops (k + 1)).2 = R.2.2) := by
                  have := Hk.out
                  rw [HR.out] at this
                  exact ⟨by rw [this], by rw [this]⟩
                go_loop [15] (fun i => i = .int .i64 0) (fun _ => 0)
                case atStart => rfl
                case round =>
                  subst hrel
                  go_wp2_with fail
                  go_roundw
                  case rel => exact ⟨k + 1, A2, n2, c2, Hkl.out, rfl, by go_num, by rw [Hk2.out.1, Hk2.out.2]; exact hl5, by rw [Hk2.out.1, Hsl.out]; exact hw5, hoff5⟩
                  case measure => have := Hkl.out; simp [intOf]; omega
        · have hd1 : decide (k < ops.length) = false := decide_eq_false hkl
          obtain ⟨hDok, _⟩ := dUpTo_ok n s f ops Ho.out k hk
          have HD := Lib.hid hDok
          generalize (dUpTo n s f ops k).1 = D at hu hw HD
          generalize (dUpTo n s f ops k).2 = I at hu
          have HMt := Lib.hid (dMount_any hu.out.dev.dev HD.out.fine (by have h1 := HD.out.M; have := Hn.out; omega) (.slice none 0 0) [] a.b 0 ⟨none, 0, rfl, Nat.le_refl _, Nat.zero_le _, fun e => absurd e (by simp)⟩ hu.out.dev.dev.mem.ne (fun i x e => by simp at e))
          generalize hE : ({ D with M := doneM (pick []) D.M (idxs Sec.dirty D.M), down := false, left := -1 } : Dev) = E at HMt
          have hEd : Hid (E.down = false ∧ E.slots = D.slots) := by rw [← hE]; exact ⟨rfl, rfl⟩
          have hsl : Hid (D.slots.length = s) := HD.out.slots
          have Hfr : Hid (∀ w', DLeft wr w' a → Whole w' gw D.slots) := fun w' hF => (hF.blk hu.out.dev.dev hw.out (fun e => by cases e) (fun e => by cases e) (fun _ => hoff.out.sb) (fun e => by cases e)).trans hw.out
          clear hE hDok hkl hk
          go_wp2_with (first | (go_at_call 16; refine HMt.out.mono ?_; rintro e w8 ⟨rfl, hE, hF⟩))
          have hl8 := Lib.hid (hu.out.next hF hE)
          have hw8 : Hid (Whole w8 gw D.slots) := Hfr.out w8 hF
          clear hE hF Hfr HMt hu hw
          go_loop [16] (fun i => ∃ j : Nat, j ≤ s ∧ i = .int .i64 j) (fun i => s - (intOf i).toNat)
          case atStart => exact ⟨0, Nat.zero_le _, rfl⟩
          case round =>
            obtain ⟨j, hj, rfl⟩ := hrel
            by_cases hjs : j < s
            · have hd0 : decide (j < s) = true := decide_eq_true hjs
              obtain ⟨t0, ht0⟩ : ∃ t0, D.slots[j]? = some t0 := ⟨_, List.getElem?_eq_getElem (by have := hsl.out; omega)⟩
              have hc := hw8.out.cell ht0
              have hLd : Hid (Calls Try.prog 17 #[.pointer (some ⟨a.d, 0, none⟩), .int .i64 j] w8 fun e w' => e = .returned (.tuple #[.string t0, .int .i64 0]) ∧ w8 = w') := by
                have h1 := dLoad_any hl8.out.dev.dev (j : Int)
                have h2 : inS E.slots (j : Int) := ⟨by omega, by rw [hEd.out.2]; have := hsl.out; omega⟩
                rw [hEd.out.1, if_pos h2, if_pos h2] at h1
                have h3 : E.slots.getD (j : Int).toNat ⟨#[]⟩ = t0 := by rw [hEd.out.2, Int.toNat_natCast, List.getD_eq_getElem?_getD, ht0]; rfl
                rw [h3] at h1
                exact h1
              have hji : (j : Int) < 16 := by have := Hn.out.2.1.2; omega
              have Hjs := Lib.hid hjs
              clear ht0 hjs
              go_wp2_with (first | (go_at_call 17; refine hLd.out.mono ?_; rintro e w9 ⟨rfl, rfl⟩))
              go_round
              case rel => exact ⟨j + 1, Hjs.out, by go_num⟩
              case measure => have := Hjs.out; simp [intOf]; omega
            · have hd0 : decide (j < s) = false := decide_eq_false hjs
              have hb := Lib.hid hl8.out.dev.bel
              clear hjs hj
              go_wp2_with fail
              go_ret
              exact ⟨rfl, hb.out⟩
/-- The whole. -/
theorem law_slots (x y z : Int) (v : Value) (ops : List DOp) (hv : DOpsAt W v ops) (ho : OpsIn ops) :
    Calls Try.prog 4 #[.agg #[.int .i64 x, .int .i64 y, .int .i64 z], v] W fun e w' => e = .returned (.bool true) ∧ Below W.heap.size W w' := by
  have hv0 := hv
  obtain ⟨A, c, rfl, _⟩ := hv
  cases h : (decide (x ≤ 12) && decide ((ops.length : Int) ≤ 60)) with
  | false => exact slots_off x y z A ops.length c h
  | true =>
    by_cases hz : SizeOk x y z
    · obtain ⟨h1, h2, h3, h4, h5, h6⟩ := hz
      obtain ⟨n, rfl⟩ := Int.eq_ofNat_of_zero_le (show 0 ≤ x by omega)
      obtain ⟨s, rfl⟩ := Int.eq_ofNat_of_zero_le (show 0 ≤ y by omega)
      obtain ⟨f, rfl⟩ := Int.eq_ofNat_of_zero_le (show 0 ≤ z by omega)
      have h7 := (Bool.and_eq_true _ _ ▸ h : _ ∧ _)
      have h8 := of_decide_eq_true h7.1
      have h9 := of_decide_eq_true h7.2
      exact slots_loop n s f ⟨by omega, by omega⟩ ⟨by omega, by omega⟩ ⟨by omega, by omega⟩ h8 _ ops hv0 ho (by omega)
    · exact slots_bad x y z A ops.length c h hz
end
end Go.Proofs.Ytcifkahmeimniaa
