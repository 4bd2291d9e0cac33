/-
  Layer 23 (device): nothing goes back.
-/
import Derived.Test.YtcifkahmeimniaaDevL0
namespace Go.Proofs.Ytcifkahmeimniaa
open Go.RowKit Go.Shelf
attribute [local go_sem] Oper.semAt_some

section
variable {W : World}
theorem burned_fwd {D E : Dev} (h : Fwd D E) (j : Nat) (hb : burnedD D j = true) : burnedD E j = true := by
  unfold burnedD at hb ⊢
  by_cases hi : inS D.fuses (j : Int)
  · rw [if_pos hi] at hb
    have hj : j < D.fuses.length := by have := hi.2; omega
    rw [if_pos (show inS E.fuses (j : Int) from ⟨hi.1, by rw [h.fuses]; exact hi.2⟩)]
    rw [Int.toNat_natCast, List.getD_eq_getElem?_getD] at hb ⊢
    have e : D.fuses[j]? = some true := by
      rw [List.getElem?_eq_getElem hj] at hb ⊢
      simpa using hb
    rw [h.burned j e]
    rfl
  · rw [if_neg hi] at hb
    cases hb
/-- The fuses as the law notes them. -/
def noted (D : Dev) (j : Nat) : List Value := boolCells ((List.range j).map fun (t : Nat) => burnedD D t)
theorem noted_succ (D : Dev) (j : Nat) : noted D (j + 1) = noted D j ++ [.bool (burnedD D j)] := by
  unfold noted boolCells
  rw [List.range_succ, List.map_append, List.map_append]
  rfl
theorem noted_at (D : Dev) (j m : Nat) (h : j < m) : (noted D m)[j]? = some (.bool (burnedD D j)) := by
  unfold noted boolCells
  rw [List.getElem?_map, List.getElem?_map, List.getElem?_range h]
  rfl
set_option maxRecDepth 100000 in
set_option maxHeartbeats 1600000 in
theorem never_off (x y z : Int) (A : Option Addr) (N c : Nat) (h : (decide (x ≤ 12) && decide ((N : Int) ≤ 60)) = false) :
    Calls Try.prog 3 #[.agg #[.int .i64 x, .int .i64 y, .int .i64 z], .slice A N c] W fun e w' => e = .returned (.bool true) ∧ Below W.heap.size W w' := by
  obtain ⟨hk, hB⟩ := box_new W x y z
  have HB : Hid (Boxed W _ x y z) := ⟨hk, hB⟩
  clear hk hB
  have Hh := Lib.hid h
  clear h
  go_enter Try.func3, Try.ntmps3
  go_wp2_with (first | (go_at_call 8; refine (sanity_true _).mono ?_; rintro e w1 ⟨rfl, hB⟩; have HX := Lib.hid (HB.out.on hB); obtain ⟨q0, q1, q2⟩ := HX.out.c; clear hB) | (go_at_call 9; refine (few_any _ x y z A N c).mono ?_; rw [Hh.out]; rintro e w2 ⟨rfl, hB⟩; have HY := Lib.hid (HX.out.on hB); obtain ⟨p0, p1, p2⟩ := HY.out.c; clear hB))
  go_ret
  exact ⟨rfl, HY.out.2⟩
set_option maxRecDepth 100000 in
set_option maxHeartbeats 1600000 in
theorem never_bad (x y z : Int) (A : Option Addr) (N c : Nat) (h : (decide (x ≤ 12) && decide ((N : Int) ≤ 60)) = true) (hz : ¬ SizeOk x y z) :
    Calls Try.prog 3 #[.agg #[.int .i64 x, .int .i64 y, .int .i64 z], .slice A N c] W fun e w' => e = .returned (.bool true) ∧ Below W.heap.size W w' := by
  obtain ⟨hk, hB⟩ := box_new W x y z
  have HB : Hid (Boxed W _ x y z) := ⟨hk, hB⟩
  clear hk hB
  have Hh := Lib.hid h
  have Hz := Lib.hid hz
  clear h hz
  go_enter Try.func3, Try.ntmps3
  go_wp2_with (first | (go_at_call 8; refine (sanity_true _).mono ?_; rintro e w1 ⟨rfl, hB⟩; have HX := Lib.hid (HB.out.on hB); obtain ⟨q0, q1, q2⟩ := HX.out.c; clear hB) | (go_at_call 9; refine (few_any _ x y z A N c).mono ?_; rw [Hh.out]; rintro e w2 ⟨rfl, hB⟩; have HY := Lib.hid (HX.out.on hB); obtain ⟨p0, p1, p2⟩ := HY.out.c; clear hB) | (go_at_call 10; refine (dNew_bad _ x y z Hz.out).mono ?_; rintro e w3 ⟨rfl, hB⟩; have HZ := Lib.hid (HY.out.on hB); clear hB))
  go_ret
  exact ⟨rfl, HZ.out.2⟩
set_option maxRecDepth 100000 in
set_option maxHeartbeats 4000000 in
theorem never_loop (n s f : Nat) (hn : 1 ≤ n ∧ n ≤ 4096) (hs : 1 ≤ s ∧ s ≤ 16) (hf : 1 ≤ f ∧ f ≤ 16) (hx : (n : Int) ≤ 12) (v : Value) (ops : List DOp) (hv : DOpsAt W v ops) (ho : OpsIn ops) (hN : ops.length ≤ 60) :
    Calls Try.prog 3 #[.agg #[.int .i64 n, .int .i64 s, .int .i64 f], v] W fun e w' => e = .returned (.bool true) ∧ Below W.heap.size W w' := by
  obtain ⟨A, c, rfl, hA⟩ := hv
  obtain ⟨hk, hB⟩ := box_new W n s f
  have HB : Hid (Boxed W _ n s f) := ⟨hk, hB⟩
  have Hn := Lib.hid (And.intro hn (And.intro hs hf))
  have HA := Lib.hid hA
  have Ho := Lib.hid ho
  have Hh : Hid ((decide ((n : Int) ≤ 12) && decide ((ops.length : Int) ≤ 60)) = true) := by
    unfold Hid
    rw [decide_eq_true hx, decide_eq_true (by omega : (ops.length : Int) ≤ 60)]
    rfl
  clear hk hB hA ho hx hn hs hf
  go_enter Try.func3, Try.ntmps3
  go_wp2_with (first | (go_at_call 8; refine (sanity_true _).mono ?_; rintro e w1 ⟨rfl, hB⟩; have HX := Lib.hid (HB.out.on hB); obtain ⟨q0, q1, q2⟩ := HX.out.c; clear hB) | (go_at_call 9; refine (few_any _ n s f A ops.length c).mono ?_; rw [Hh.out]; rintro e w2 ⟨rfl, hB⟩; have HY := Lib.hid (HX.out.on hB); obtain ⟨p0, p1, p2⟩ := HY.out.c; clear hB) | (go_at_call 10; refine (law_new W HY.out.2 HY.out.1 Hn.out.1 Hn.out.2.1 Hn.out.2.2).mono ?_; rintro e w3 ⟨a, rfl, hs, hfb⟩; obtain ⟨s0, s1, s2⟩ := hs.out.c; have slt := hs.out.box.lt))
  obtain ⟨i0, hi, hz0, hz1, hz2⟩ := info_parts infoBool
  have hu0 := hs
  have Hfb := hfb
  clear hs hfb HX HY
  go_loopw [8, 9] (fun v i wr => ∃ (k : Nat) (iA : Option Addr) (iN iC : Nat), k ≤ ops.length ∧ v = .slice iA iN iC ∧ i = .int .i64 k ∧ Hid (LSt W wr a n s f (dUpTo n s f ops k).1 (.slice iA iN iC) (dUpTo n s f ops k).2)) (fun _ i _ => ops.length - (intOf i).toNat)
  case atStart => exact ⟨0, none, 0, 0, Nat.zero_le _, rfl, rfl, hu0⟩
  case round =>
    obtain ⟨k, iA, iN, iC, hk, rfl, rfl, hu⟩ := hrel
    clear hu0
    by_cases hkl : k < ops.length
    · have Hkl := Lib.hid hkl
      obtain ⟨o, hk0⟩ : ∃ o, ops[k]? = some o := ⟨_, List.getElem?_eq_getElem hkl⟩
      obtain ⟨B, off, rfl, hbl, hat⟩ := HA.out (by omega)
      have Hat := Lib.hid (hat k o hk0)
      have Hbl := Lib.hid hbl
      obtain ⟨hDok, hIl⟩ := dUpTo_ok n s f ops Ho.out k hk
      have HD := Lib.hid hDok
      have HI := Lib.hid hIl
      have Hk := Lib.hid (dUpTo_succ n s f ops k o hk0)
      generalize (dUpTo n s f ops k).1 = D at hu HD Hk
      generalize (dUpTo n s f ops k).2 = I at hu HI Hk
      clear hDok hIl hat hk0
      have hd1 : decide (k < ops.length) = true := decide_eq_true hkl
      go_wp2_with (first | (go_at_call 11; refine (Counter_any hu.out.dev.dev).mono ?_; rintro e w4 ⟨rfl, rfl⟩) | (go_at_call 12; refine (Now_any hu.out.dev.dev).mono ?_; rintro e w4 ⟨rfl, rfl⟩))
      obtain ⟨base, hbase⟩ : ∃ base, wr.heap.size = base := ⟨_, rfl⟩
      have Hoff : Hid (∀ k, base ≤ k → Off W a (.slice iA iN iC) k) := by rw [← hbase]; exact hu.out.off
      go_loopw [12, 13] (fun bv i w2 => ∃ j : Nat, j ≤ f ∧ i = .int .i64 j ∧ Hid (w2.ownsRow base 4 1 bv j (noted D j)) ∧ Hid (base ≤ w2.heap.size) ∧ Hid (LSt W w2 a n s f D (.slice iA iN iC) I)) (fun _ i _ => f - (intOf i).toNat)
      case atStart => exact ⟨0, Nat.zero_le _, rfl, World.ownsRow_nil _ _ _ _, Nat.le_of_eq hbase.symm, hu⟩
      case round =>
        obtain ⟨j, hj, rfl, hrow, hbl2, hu⟩ := hrel
        have hc2 := hu.out.c.2.2
        by_cases hjl : j < f
        · have hd2 : decide (j < f) = true := decide_eq_true hjl
          have hlt := Lib.hid (And.intro hjl (Hn.out.2.2.2))
          have HBu := Lib.hid (dBurned_any hu.out.dev.dev j)
          have Hns := Lib.hid (noted_succ D j)
          generalize burnedD D j = bb at HBu Hns
          clear hjl
          have hji : (j : Int) < 16 := by have := hlt.out; omega
          go_wp2_with (first | (go_at_call 13; refine HBu.out.mono ?_; rintro e w4 ⟨rfl, rfl⟩) | (at_builtin; refine wpList_append_own _ rfl _ _ 33 rfl base 4 i0 _ 1 1 Try.underlying33 hi hz0 hz1 hz2 rfl (by decide) _ j (noted D j) rfl (hrow.out.alloc _) ⟨wr.heap.size, 0, none⟩ 1 1 [.bool bb] rfl rfl ?c1 ?c2 ?c3 ?c4 ?c5 ?_))
          case c1 => exact cell_one_new _ _ _
          case c2 => simp [Value.oneCell']
          case c3 => have := hlt.out.2; unfold maxLen; omega
          case c4 => have := hlt.out.2; omega
          case c5 => have := hbl2.out; simp; omega
          intro v' w' hown hg _
          have Hown : Hid (w'.ownsRow base 4 1 v' (j + 1) (noted D (j + 1))) := by
            unfold Hid
            rw [Hns.out]
            exact hown
          have hu2 : Hid (LSt W w' a n s f D (.slice iA iN iC) I) := (hu.out.on ((Below.refl _ _).alloc (Nat.le_refl _) _)).grown hg (fun k e => Hoff.out k (hrow.out.lt k e).1)
          have hbl3 : Hid (base ≤ w'.heap.size) := by
            have h1 := hg.size
            have h2 := hbl2.out
            unfold Hid
            simp at h1
            omega
          clear hown hg
          go_wp2_with fail
          go_roundw
          case rel => exact ⟨j + 1, by have := hlt.out.1; omega, by go_num, Hown, hbl3, hu2⟩
          case measure => have := hlt.out.1; simp [intOf]; omega
        · obtain rfl : f = j := by omega
          have hd2 : decide (f < f) = false := decide_eq_false (by omega)
          obtain ⟨gb, capb, rfl⟩ : ∃ gb cap, u12 = .slice (some ⟨gb, 0, none⟩) f cap := by
            rcases hrow.out.2 with ⟨_, h0⟩ | ⟨gb, cap, _, e, _⟩
            · have := Hn.out.2.2.1; omega
            · exact ⟨gb, cap, e⟩
          obtain ⟨A1, n1, cc, g0, g1, g2, g3, g4, g5, hok⟩ := Hat.out.below Hbl.out hu.out.dev.bel
          have Hok := Lib.hid hok
          obtain ⟨R, hR⟩ : ∃ R, dplay o D I = R := ⟨_, rfl⟩
          have HR := Lib.hid hR
          have Hfw : Hid (Fwd D R.2.1) := by
            unfold Hid
            rw [← hR]
            exact dplay_fwd o D I
          have hst := Lib.hid (hu.out.play HD.out Hn.out.1.2 Hn.out.2.1.2 HI.out o _ Hok.out HR.out)
          have hfr : Hid (∀ w', DLeft wr w' a → w'.ownsRow base 4 1 (.slice (some ⟨gb, 0, none⟩) f capb) f (noted D f)) := fun w' hF => ownsRow_left hrow.out hF hu.out.dev.dev (fun k hk => ⟨(Hoff.out k hk).d, (Hoff.out k hk).g, (Hoff.out k hk).sb, (Hoff.out k hk).fb⟩)
          clear hok hR hjl
          go_wp2_with (first | (go_at_call 14; refine hst.out.mono ?_; rintro e w4 ⟨A2, n2, c2, rfl, hl, hF, hv2⟩))
          have hl5 := Lib.hid (hl.out.on ((Below.refl _ w4).alloc (Nat.le_refl _) (.cells #[.string R.1.text, .int .i64 R.1.e] 36)))
          have hr5 := Lib.hid ((hfr.out w4 hF.out).alloc (.cells #[.string R.1.text, .int .i64 R.1.e] 36))
          clear hl hF hfr hst hv2
          generalize w4.alloc (.cells #[.string R.1.text, .int .i64 R.1.e] 36) = w5 at hl5 hr5 ⊢
          have hq2 := hl5.out.c.2.2
          have Hk2 : Hid ((dUpTo n s f ops (k + 1)).1 = R.2.1 ∧ (dUpTo n s f ops (k + 1)).2 = R.2.2) := by
            have := Hk.out
            rw [HR.out] at this
            exact ⟨by rw [this], by rw [this]⟩
          go_loop [16] (fun i => ∃ j : Nat, j ≤ f ∧ i = .int .i64 j) (fun i => f - (intOf i).toNat)
          case atStart => exact ⟨0, Nat.zero_le _, rfl⟩
          case round =>
            obtain ⟨j, hj, rfl⟩ := hrel
            by_cases hjl : j < f
            · have hd3 : decide (j < f) = true := decide_eq_true hjl
              have hji : (j : Int) < 16 := by have := Hn.out; omega
              have hcell : w5.cell? ⟨gb, j, none⟩ = some (.bool (burnedD D j)) := (hr5.out.cellAt j (by omega)).trans (noted_at D j f hjl)
              have HBu := Lib.hid (dBurned_any hl5.out.dev.dev j)
              have Hjl := Lib.hid hjl
              cases hb : burnedD D j with
              | true =>
                rw [burned_fwd Hfw.out j hb] at HBu
                rw [hb] at hcell
                clear hb
                go_wp2_with (first | (go_at_call 13; refine HBu.out.mono ?_; rintro e w6 ⟨rfl, rfl⟩))
                go_round
                case rel => exact ⟨j + 1, Hjl.out, by go_num⟩
                case measure => have := Hjl.out; simp [intOf]; omega
              | false =>
                rw [hb] at hcell
                clear hb
                go_wp2_with fail
                go_round
                case rel => exact ⟨j + 1, Hjl.out, by go_num⟩
                case measure => have := Hjl.out; simp [intOf]; omega
            · have hd3 : decide (j < f) = false := decide_eq_false hjl
              have HC := Lib.hid (Counter_any hl5.out.dev.dev)
              have HO := Lib.hid (Now_any hl5.out.dev.dev)
              have b1 : decide (R.2.1.counter < D.counter) = false := decide_eq_false (by have := Hfw.out.counter; omega)
              have b2 : decide (R.2.1.clock < D.clock) = false := decide_eq_false (by have := Hfw.out.clock; omega)
              have Hkl2 := Lib.hid hkl
              clear hjl
              go_wp2_with (first | (go_at_call 11; refine HC.out.mono ?_; rintro e w6 ⟨rfl, rfl⟩) | (go_at_call 12; refine HO.out.mono ?_; rintro e w6 ⟨rfl, rfl⟩))
              go_roundw
              case rel => exact ⟨k + 1, A2, n2, c2, Hkl2.out, rfl, by go_num, by rw [Hk2.out.1, Hk2.out.2]; exact hl5⟩
              case measure => have := Hkl2.out; simp [intOf]; omega
    · have hd1 : decide (k < ops.length) = false := decide_eq_false hkl
      have hb := Lib.hid hu.out.dev.bel
      clear hkl
      go_wp2_with fail
      go_ret
      exact ⟨rfl, hb.out⟩
/-- The whole. -/
theorem law_never (x y z : Int) (v : Value) (ops : List DOp) (hv : DOpsAt W v ops) (ho : OpsIn ops) :
    Calls Try.prog 3 #[.agg #[.int .i64 x, .int .i64 y, .int .i64 z], v] W fun e w' => e = .returned (.bool true) ∧ Below W.heap.size W w' := by
  have hv0 := hv
  obtain ⟨A, c, rfl, _⟩ := hv
  cases h : (decide (x ≤ 12) && decide ((ops.length : Int) ≤ 60)) with
  | false => exact never_off x y z A ops.length c h
  | true =>
    by_cases hz : SizeOk x y z
    · obtain ⟨h1, h2, h3, h4, h5, h6⟩ := hz
      obtain ⟨n, rfl⟩ := Int.eq_ofNat_of_zero_le (show 0 ≤ x by omega)
      obtain ⟨s, rfl⟩ := Int.eq_ofNat_of_zero_le (show 0 ≤ y by omega)
      obtain ⟨f, rfl⟩ := Int.eq_ofNat_of_zero_le (show 0 ≤ z by omega)
      have h7 := (Bool.and_eq_true _ _ ▸ h : _ ∧ _)
      have h8 := of_decide_eq_true h7.1
      have h9 := of_decide_eq_true h7.2
      exact never_loop n s f ⟨by omega, by omega⟩ ⟨by omega, by omega⟩ ⟨by omega, by omega⟩ h8 _ ops hv0 ho (by omega)
    · exact never_bad x y z A ops.length c h hz
end
end Go.Proofs.Ytcifkahmeimniaa
