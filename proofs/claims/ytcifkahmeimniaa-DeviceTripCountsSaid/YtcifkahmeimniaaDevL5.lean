/-
  Layer 23 (device): Trip counts.
-/
import Derived.Test.YtcifkahmeimniaaDevL4
namespace Go.Proofs.Ytcifkahmeimniaa
open Go.RowKit Go.Shelf
attribute [local go_sem] Oper.semAt_some

/-- What a step of a script does to the power: kinds 2, 3, 5, 6, 7. -/
def stepKind (o : DOp) : Prop := o.kind = 2 ∨ o.kind = 3 ∨ o.kind = 5 ∨ o.kind = 6 ∨ o.kind = 7
/-- The law's number agrees with the device's. -/
def Agree (D : Dev) (l : Int) : Prop := (0 ≤ l ∧ D.down = false ∧ D.left = l) ∨ (l = -1 ∧ D.down = true)
/-- A step: how it answers. -/
structure StepAns (D E : Dev) (e l l' : Int) : Prop where
  agree : Agree E l'
  same : e ≠ 0 → E.M = D.M ∧ E.counter = D.counter
  down : D.down = true → e = 14 ∧ E.down = true ∧ l' = l
  ok : D.down = false → e = 0 → E.down = false ∧ l' = l - 1 ∧ 0 ≤ l'
  fail : D.down = false → e = 14 → E.down = true ∧ l = 0 ∧ l' = -1
  other : D.down = false → e ≠ 0 → e ≠ 14 → E.down = false ∧ l' = l
theorem dstep_ans (D : Dev) (l : Int) (h : Agree D l) (c : Int) (hc : c ≠ 14) (F : Dev → Dev) (hF : ∀ D : Dev, (F D).down = D.down ∧ (F D).left = D.left) : ∃ l', StepAns D (D.dstep c F).2 (D.dstep c F).1 l l' := by
  unfold Dev.dstep
  rcases h with ⟨h1, h2, h3⟩ | ⟨h1, h2⟩
  · rw [h2, if_neg (by decide)]
    by_cases hc0 : c ≠ 0
    · rw [if_pos hc0]
      exact ⟨l, .inl ⟨h1, h2, h3⟩, fun _ => ⟨rfl, rfl⟩, fun e => by rw [h2] at e; (cases e), fun _ e => absurd e hc0, fun _ e => absurd e hc, fun _ _ _ => ⟨h2, rfl⟩⟩
    · rw [if_neg hc0]
      by_cases hl : D.left = 0
      · rw [if_pos hl]
        exact ⟨-1, .inr ⟨rfl, rfl⟩, fun _ => ⟨rfl, rfl⟩, fun e => by rw [h2] at e; (cases e), fun _ e => absurd e (by show (14 : Int) ≠ 0; decide), fun _ _ => ⟨rfl, by omega, rfl⟩, fun _ _ e => absurd rfl e⟩
      · rw [if_neg hl]
        have f1 := (hF { D with left := max (D.left - 1) (-1) }).1
        have f2 := (hF { D with left := max (D.left - 1) (-1) }).2
        dsimp only at f1 f2
        refine ⟨l - 1, .inl ⟨by omega, ?_, ?_⟩, fun e => absurd rfl e, fun e => by rw [h2] at e; (cases e), fun _ _ => ⟨?_, rfl, by omega⟩, fun _ e => absurd e (by show (0 : Int) ≠ 14; decide), fun _ e => absurd rfl e⟩
        · rw [h2] at f1; exact f1
        · rw [h2] at f2; exact f2.trans (by omega)
        · rw [h2] at f1; exact f1
  · rw [h2, if_pos rfl]
    exact ⟨l, .inr ⟨h1, h2⟩, fun _ => ⟨rfl, rfl⟩, fun _ => ⟨rfl, h2, rfl⟩, fun e => by rw [h2] at e; (cases e), fun e => by rw [h2] at e; (cases e), fun e => by rw [h2] at e; (cases e)⟩
theorem chk_ne {p : Prop} [Decidable p] : chk p ≠ 14 := by
  unfold chk
  split <;> decide
theorem dplay_ans (o : DOp) (hk : stepKind o) (D : Dev) (I : List ByteArray) (l : Int) (h : Agree D l) : ∃ l', StepAns D (dplay o D I).2.1 (dplay o D I).1.e l l' := by
  unfold dplay
  rcases hk with k | k | k | k | k
  · rw [k, if_neg (by decide), if_pos rfl]
    exact dstep_ans D l h _ chk_ne _ (fun _ => ⟨rfl, rfl⟩)
  · rw [k, if_neg (by decide), if_neg (by decide), if_pos rfl]
    exact dstep_ans D l h _ (by decide) _ (fun _ => ⟨rfl, rfl⟩)
  · rw [k, if_neg (by decide), if_neg (by decide), if_neg (by decide), if_neg (by decide), if_pos rfl]
    exact dstep_ans D l h _ chk_ne _ (fun _ => ⟨rfl, rfl⟩)
  · rw [k, if_neg (by decide), if_neg (by decide), if_neg (by decide), if_neg (by decide), if_neg (by decide), if_pos rfl]
    exact dstep_ans D l h _ chk_ne _ (fun _ => ⟨rfl, rfl⟩)
  · rw [k, if_neg (by decide), if_neg (by decide), if_neg (by decide), if_neg (by decide), if_neg (by decide), if_neg (by decide), if_pos rfl]
    refine dstep_ans D l h _ ?_ _ (fun _ => ⟨rfl, rfl⟩)
    split
    · split <;> decide
    · decide
/-- How the law ends. -/
theorem agree_up {D : Dev} {l : Int} (h : Agree D l) : (!D.down) = decide (0 ≤ l) := by
  rcases h with ⟨h1, h2, _⟩ | ⟨h1, h2⟩
  · rw [h2, decide_eq_true h1]; rfl
  · rw [h2, decide_eq_false (by omega)]; rfl
section
variable {W : World}
set_option maxRecDepth 100000 in
set_option maxHeartbeats 1600000 in
theorem trip_off (x y z : Int) (A : Option Addr) (N c : Nat) (q : Nat) (h : (decide (x ≤ 12) && decide ((N : Int) ≤ 60)) = false) :
    Calls Try.prog 6 #[.agg #[.int .i64 x, .int .i64 y, .int .i64 z], .slice A N c, .int .u8 q] W fun e w' => e = .returned (.bool true) ∧ Below W.heap.size W w' := by
  obtain ⟨hk, hB⟩ := box_new W x y z
  have HB : Hid (Boxed W _ x y z) := ⟨hk, hB⟩
  clear hk hB
  have Hh := Lib.hid h
  clear h
  go_enter Try.func6, Try.ntmps6
  go_wp2_with (first | (go_at_call 8; refine (sanity_true _).mono ?_; rintro e w1 ⟨rfl, hB⟩; have HX := Lib.hid (HB.out.on hB); obtain ⟨q0, q1, q2⟩ := HX.out.c; clear hB) | (go_at_call 9; refine (few_any _ x y z A N c).mono ?_; rw [Hh.out]; rintro e w2 ⟨rfl, hB⟩; have HY := Lib.hid (HX.out.on hB); obtain ⟨p0, p1, p2⟩ := HY.out.c; clear hB))
  go_ret
  exact ⟨rfl, HY.out.2⟩
set_option maxRecDepth 100000 in
set_option maxHeartbeats 1600000 in
theorem trip_bad (x y z : Int) (A : Option Addr) (N c : Nat) (q : Nat) (h : (decide (x ≤ 12) && decide ((N : Int) ≤ 60)) = true) (hz : ¬ SizeOk x y z) :
    Calls Try.prog 6 #[.agg #[.int .i64 x, .int .i64 y, .int .i64 z], .slice A N c, .int .u8 q] W fun e w' => e = .returned (.bool true) ∧ Below W.heap.size W w' := by
  obtain ⟨hk, hB⟩ := box_new W x y z
  have HB : Hid (Boxed W _ x y z) := ⟨hk, hB⟩
  clear hk hB
  have Hh := Lib.hid h
  have Hz := Lib.hid hz
  clear h hz
  go_enter Try.func6, Try.ntmps6
  go_wp2_with (first | (go_at_call 8; refine (sanity_true _).mono ?_; rintro e w1 ⟨rfl, hB⟩; have HX := Lib.hid (HB.out.on hB); obtain ⟨q0, q1, q2⟩ := HX.out.c; clear hB) | (go_at_call 9; refine (few_any _ x y z A N c).mono ?_; rw [Hh.out]; rintro e w2 ⟨rfl, hB⟩; have HY := Lib.hid (HX.out.on hB); obtain ⟨p0, p1, p2⟩ := HY.out.c; clear hB) | (go_at_call 10; refine (dNew_bad _ x y z Hz.out).mono ?_; rintro e w3 ⟨rfl, hB⟩; have HZ := Lib.hid (HY.out.on hB); clear hB))
  go_ret
  exact ⟨rfl, HZ.out.2⟩
set_option maxRecDepth 100000 in
set_option maxHeartbeats 4000000 in
theorem trip_loop (n s f : Nat) (hn : 1 ≤ n ∧ n ≤ 4096) (hs : 1 ≤ s ∧ s ≤ 16) (hf : 1 ≤ f ∧ f ≤ 16) (hx : (n : Int) ≤ 12) (v : Value) (ops : List DOp) (hv : DOpsAt W v ops) (ho : OpsIn ops) (hN : ops.length ≤ 60) (q : Nat) (hq : q < 256) :
    Calls Try.prog 6 #[.agg #[.int .i64 n, .int .i64 s, .int .i64 f], v, .int .u8 q] W fun e w' => e = .returned (.bool true) ∧ Below W.heap.size W w' := by
  obtain ⟨A, c, rfl, hA⟩ := hv
  obtain ⟨hk, hB⟩ := box_new W n s f
  have HB : Hid (Boxed W _ n s f) := ⟨hk, hB⟩
  have Hn := Lib.hid (And.intro hn (And.intro hs hf))
  have HA := Lib.hid hA
  have Ho := Lib.hid ho
  have Hh : Hid ((decide ((n : Int) ≤ 12) && decide ((ops.length : Int) ≤ 60)) = true) := by
    unfold Hid
    rw [decide_eq_true hx, decide_eq_true (by omega : (ops.length : Int) ≤ 60)]
    rfl
  have Hq := Lib.hid hq
  clear hq
  clear hk hB hA ho hx hn hs hf
  go_enter Try.func6, Try.ntmps6
  go_wp2_with (first | (go_at_call 8; refine (sanity_true _).mono ?_; rintro e w1 ⟨rfl, hB⟩; have HX := Lib.hid (HB.out.on hB); obtain ⟨q0, q1, q2⟩ := HX.out.c; clear hB) | (go_at_call 9; refine (few_any _ n s f A ops.length c).mono ?_; rw [Hh.out]; rintro e w2 ⟨rfl, hB⟩; have HY := Lib.hid (HX.out.on hB); obtain ⟨p0, p1, p2⟩ := HY.out.c; clear hB) | (go_at_call 10; refine (law_new W HY.out.2 HY.out.1 Hn.out.1 Hn.out.2.1 Hn.out.2.2).mono ?_; rintro e w3 ⟨a, rfl, hs, hfb⟩))
  have hu0 := hs
  clear hs hfb HX HY q0 q1 q2 p0 p1 p2
  have hb0 : 0 ≤ (q : Int) % 61 ∧ (q : Int) % 61 ≤ 60 := by omega
  generalize (q : Int) % 61 = l0 at hb0 ⊢
  refine (dTrip_any hu0.out.dev.dev l0).mono ?_
  rintro e w4 ⟨rfl, h1, hF⟩
  have hu1 := Lib.hid (hu0.out.next (a := a) hF h1)
  have hok1 : Hid (({ freshDev n s f with left := max l0 (-1) } : Dev).Ok n s f) := by
    have h2 := fresh_ok n s f
    exact ⟨h2.M, h2.slots, h2.fuses, h2.fine, ⟨by dsimp only; omega, by dsimp only; omega⟩, h2.counter, h2.clock⟩
  have hag1 : Hid (Agree { freshDev n s f with left := max l0 (-1) } l0) := .inl ⟨hb0.1, rfl, by dsimp only; omega⟩
  have hlb1 : Hid (-1 ≤ l0 ∧ l0 ≤ 60) := by unfold Hid; omega
  generalize ({ freshDev n s f with left := max l0 (-1) } : Dev) = D0 at hu1 hok1 hag1
  clear hb0 h1 hF hu0
  go_wp2_with fail
  go_loopw [10, 11] (fun u i wr => ∃ (k : Nat) (D : Dev) (l : Int), k ≤ ops.length ∧ u = .int .i64 l ∧ i = .int .i64 k ∧ Hid (LSt W wr a n s f D (.slice none 0 0) []) ∧ Hid (D.Ok n s f) ∧ Hid (Agree D l) ∧ Hid (-1 ≤ l ∧ l ≤ 60)) (fun _ i _ => ops.length - (intOf i).toNat)
  case atStart => exact ⟨0, D0, l0, Nat.zero_le _, rfl, rfl, hu1, hok1, hag1, hlb1⟩
  case round =>
    obtain ⟨k, D, l, hk, rfl, rfl, hu, HD, Hag, Hlb⟩ := hrel
    clear hu1 hok1 hag1 hlb1
    by_cases hkl : k < ops.length
    · have hd1 : decide (k < ops.length) = true := decide_eq_true hkl
      obtain ⟨o, hk0⟩ : ∃ o, ops[k]? = some o := ⟨_, List.getElem?_eq_getElem hkl⟩
      obtain ⟨B, off, rfl, hbl, hat⟩ := HA.out (by omega)
      have Hat := Lib.hid (hat k o hk0)
      have Hbl := Lib.hid hbl
      have Hko := Lib.hid hk0
      have Hkl := Lib.hid hkl
      obtain ⟨A1, n1, cc1, g0, g1, g2, g3, g4, g5, _⟩ := Hat.out.below Hbl.out hu.out.dev.bel
      clear hat hk0 hbl hkl
      have HUa : Hid (Calls Try.prog 20 #[.pointer (some ⟨a.d, 0, none⟩)] wr fun e w' => e = .returned (.bool (decide (0 ≤ l))) ∧ wr = w') := by
        have h1 := Up_any hu.out.dev.dev
        rw [agree_up Hag.out] at h1
        exact h1
      by_cases k9 : o.kind = 9
      · have b9 : (o.kind == 9) = true := beq_t k9
        have hb := Lib.hid hu.out.dev.bel
        clear k9
        go_wp2_with (first | (go_at_call 20; refine HUa.out.mono ?_; rintro e wu ⟨rfl, rfl⟩))
        go_ret
        exact ⟨by simp, hb.out⟩
      have b9 : (o.kind == 9) = false := beq_f k9
      by_cases k10 : o.kind = 10
      · have b10 : (o.kind == 10) = true := beq_t k10
        have hb := Lib.hid hu.out.dev.bel
        clear k9 k10
        go_wp2_with (first | (go_at_call 20; refine HUa.out.mono ?_; rintro e wu ⟨rfl, rfl⟩))
        go_ret
        exact ⟨by simp, hb.out⟩
      have b10 : (o.kind == 10) = false := beq_f k10
      clear k9 k10 HUa
      by_cases hlt2 : o.kind < 2
      · have e1 : decide (o.kind < 2) = true := decide_eq_true hlt2
        clear hlt2
        go_wp2_with fail
        go_roundw
        case rel => exact ⟨k + 1, D, l, Hkl.out, rfl, by go_num, hu, HD, Hag, Hlb⟩
        case measure => have := Hkl.out; simp [intOf]; omega
      have e1 : decide (o.kind < 2) = false := decide_eq_false hlt2
      by_cases hgt7 : 7 < o.kind
      · have e2 : decide (7 < o.kind) = true := decide_eq_true hgt7
        clear hgt7 hlt2
        go_wp2_with fail
        go_roundw
        case rel => exact ⟨k + 1, D, l, Hkl.out, rfl, by go_num, hu, HD, Hag, Hlb⟩
        case measure => have := Hkl.out; simp [intOf]; omega
      have e2 : decide (7 < o.kind) = false := decide_eq_false hgt7
      by_cases k4 : o.kind = 4
      · have e3 : (o.kind == 4) = true := beq_t k4
        clear hgt7 hlt2 k4
        go_wp2_with fail
        go_roundw
        case rel => exact ⟨k + 1, D, l, Hkl.out, rfl, by go_num, hu, HD, Hag, Hlb⟩
        case measure => have := Hkl.out; simp [intOf]; omega
      have e3 : (o.kind == 4) = false := beq_f k4
      have hsk : stepKind o := by unfold stepKind; omega
      clear hgt7 hlt2 k4
      obtain ⟨R, hR⟩ : ∃ R, dplay o D [] = R := ⟨_, rfl⟩
      have HR := Lib.hid hR
      obtain ⟨l', hans⟩ : ∃ l', StepAns D R.2.1 R.1.e l l' := by
        rw [← hR]
        exact dplay_ans o hsk D [] l Hag.out
      have Hans := Lib.hid hans
      have hOkE : Hid (R.2.1.Ok n s f) := by
        unfold Hid
        rw [← hR]
        exact dplay_ok HD.out o (Ho.out k o Hko.out) []
      have HUp : Hid (Calls Try.prog 20 #[.pointer (some ⟨a.d, 0, none⟩)] wr fun e w' => e = .returned (.bool (!D.down)) ∧ wr = w') := Up_any hu.out.dev.dev
      have HCl := Lib.hid (dClone_any hu.out.dev.dev (by have h1 := HD.out.M; have := Hn.out; omega) (by have h1 := HD.out.slots; have := Hn.out; omega) (by have h1 := HD.out.fuses; have := Hn.out; omega))
      obtain ⟨L1, hL1⟩ : ∃ L, D.M.map Sec.now = L := ⟨_, rfl⟩
      obtain ⟨L2, hL2⟩ : ∃ L, R.2.1.M.map Sec.now = L := ⟨_, rfl⟩
      have HL1 := Lib.hid hL1
      have HL2 := Lib.hid hL2
      have HL1l : Hid (L1.length = n) := by unfold Hid; rw [← hL1, List.length_map]; exact HD.out.M
      have HL2l : Hid (L2.length = n) := by unfold Hid; rw [← hL2, List.length_map]; exact hOkE.out.M
      clear hR hans hL1 hL2 hsk
      cases hdn : D.down with
      | true =>
        have HE0 : Hid (R.1.e ≠ 0) := by have := (Hans.out.down hdn).1; unfold Hid; omega
        have be0 : (R.1.e == 0) = false := beq_f HE0.out
        have be0n : (R.1.e != 0) = true := bne_t HE0.out
        have be14 : (R.1.e == 14) = true := beq_t (Hans.out.down hdn).1
        have be14n : (R.1.e != 14) = false := bne_f (Hans.out.down hdn).1
        have hl1 : l = -1 := by
          rcases Hag.out with ⟨_, h, _⟩ | ⟨h, _⟩
          · rw [hdn] at h; cases h
          · exact h
        have Hag2 : Hid (Agree R.2.1 (-1)) := by have := Hans.out.agree; rw [(Hans.out.down hdn).2.2, hl1] at this; exact this
        have Hdn := Lib.hid hdn
        rw [hdn] at HUp
        subst hl1
        clear hdn
        go_wp2_with (first | (go_at_call 20; refine HUp.out.mono ?_; rintro e wu ⟨rfl, rfl⟩))
        refine HCl.out.mono ?_
        rintro e w4 ⟨cc, rfl, hc, ⟨m1, m2, m3, m4⟩, hB4⟩
        have Hap : Hid (a.Apart cc) := DevIs.apart hu.out.dev.dev m1 m2 m3 m4
        have hl4 := Lib.hid (hu.out.on hB4)
        have hc4 := Lib.hid hc
        obtain ⟨A3, n3, c3, g0', g1', g2', g3', g4', g5', hok'⟩ := Hat.out.below Hbl.out hl4.out.dev.bel
        have Hok' := Lib.hid hok'
        have hst := Lib.hid (do_any hl4.out.dev HD.out Hn.out.1.2 Hn.out.2.1.2 (Img.nil w4 a) (by simp) o _ Hok'.out)
        rw [HR.out] at hst
        clear hc m1 m2 m3 m4 hB4 hu HCl HUp g0 g1 g2 g3 g4 g5 hok'
        go_wp2_with fail
        refine hst.out.mono ?_
        rintro e w5 ⟨v', rfl, h1, h2, h3, _⟩
        obtain ⟨iA, iN, iC, rfl⟩ := h3.slice
        have kb := Blk.new w5 36 #[.string R.1.text, .int .i64 R.1.e]
        have kb1 := kb.cell 1
        have hl5 := Lib.hid ((hl4.out.next h2 h1).on ((Below.refl _ w5).alloc (Nat.le_refl _) (.cells #[.string R.1.text, .int .i64 R.1.e] 36)))
        have hc5 := Lib.hid ((h2.dev hl4.out.dev.dev hc4.out Hap.out).below ((Below.refl _ w5).alloc (Nat.le_refl _) (.cells #[.string R.1.text, .int .i64 R.1.e] 36)))
        have Kb := Lib.hid kb
        have HUp2 : Hid (∀ w, DevIs w a R.2.1 → Calls Try.prog 20 #[.pointer (some ⟨a.d, 0, none⟩)] w fun e w' => e = .returned (.bool (!true)) ∧ w = w') := fun w h => by
          have h1 := Up_any h
          rw [(Hans.out.down Hdn.out).2.1] at h1
          exact h1
        clear h1 h2 h3 hst hl4 hc4 kb g0' g1' g2' g3' g4' g5'
        go_wp2_with fail
        generalize w5.alloc (.cells #[.string R.1.text, .int .i64 R.1.e] 36) = w6 at hl5 hc5 Kb kb1 ⊢
        have HUp3 := Lib.hid (HUp2.out w6 hl5.out.dev.dev)
        go_wp2_with (first | (go_at_call 20; refine HUp3.out.mono ?_; rintro e wu ⟨rfl, rfl⟩))
        refine (img_row hc5.out (by have h1 := HD.out.M; have := Hn.out; omega) HL1.out HL1l.out (by have := Hn.out; omega)).mono ?_
        rintro e w7 ⟨A7, c7, b7, rfl, hr7, hB7, _⟩
        have hl7 := Lib.hid (hl5.out.on hB7.out)
        have hc7 := Lib.hid (DevIs.below hc5.out hB7.out)
        have Kb7 := Lib.hid (Kb.out.below hB7.out Kb.out.lt)
        clear hl5 hc5 hB7 HUp3 kb1 Kb
        go_wp2_with fail
        refine (img_row hl7.out.dev.dev (by have h1 := hOkE.out.M; have := Hn.out; omega) HL2.out HL2l.out (by have := Hn.out; omega)).mono ?_
        rintro e w8 ⟨A8, c8, b8, rfl, hr8, hB8, _⟩
        have hl8 := Lib.hid (hl7.out.on hB8.out)
        have hc8 := Lib.hid (DevIs.below hc7.out hB8.out)
        have Kb8 := Lib.hid (Kb7.out.below hB8.out Kb7.out.lt)
        have hr78 := Lib.hid (hr7.out.below hB8.out)
        have HSm : Hid (Calls Try.prog 21 #[.slice A7 n c7, .slice A8 n c8] w8 fun e w' => e = .returned (.bool (decide (L1 = L2))) ∧ Below w8.heap.size w8 w') := by
          have h1 := sameTexts_any w8 A7 c7 b7 0 L1 hr78.out.s A8 c8 b8 0 L2 hr8.out.s (by have := HL1l.out; have := Hn.out; omega) (by have := HL2l.out; have := Hn.out; omega)
          rw [HL1l.out, HL2l.out] at h1
          exact h1
        clear hl7 hc7 hB8 Kb7 hr7 hr8 hr78
        have hLL : L1 = L2 := by rw [← HL1.out, ← HL2.out, (Hans.out.same HE0.out).1]
        rw [decide_eq_true hLL] at HSm
        clear hLL
        go_wp2_with fail
        refine HSm.out.mono ?_
        rintro e w9 ⟨rfl, hB9⟩
        have hl9 := Lib.hid (hl8.out.on hB9)
        have hc9 := Lib.hid (DevIs.below hc8.out hB9)
        have kb9 := (Kb8.out.below hB9 Kb8.out.lt).cell 1
        clear hl8 hc8 hB9 Kb8 HSm
        have HCt : Hid (∀ x, x = a.d ∨ x = cc.d → Calls Try.prog 11 #[.pointer (some ⟨x, 0, none⟩)] w9 fun e w' => e = .returned (.int .i64 D.counter) ∧ w9 = w') := fun x hx => by
          rcases hx with rfl | rfl
          · have h1 := Counter_any hl9.out.dev.dev
            rw [(Hans.out.same HE0.out).2] at h1
            exact h1
          · exact Counter_any hc9.out
        generalize D.counter = dc at HCt
        go_wp2_with (first | (go_at_call 11; refine (HCt.out _ (by first | exact Or.inl rfl | exact Or.inr rfl)).mono ?_; rintro e wc ⟨rfl, rfl⟩))
        go_roundw
        case rel => exact ⟨k + 1, R.2.1, -1, Hkl.out, rfl, by go_num, hl9, hOkE, Hag2,  ⟨by decide, by decide⟩⟩
        case measure => have := Hkl.out; simp [intOf]; omega
      | false =>
        by_cases he0 : R.1.e = 0
        · skip
          have be0 : (R.1.e == 0) = true := beq_t he0
          have be0n : (R.1.e != 0) = false := bne_f he0
          have be14 : (R.1.e == 14) = false := beq_f (by omega)
          have be14n : (R.1.e != 14) = true := bne_t (by omega)
          obtain ⟨hE1, hE2, hE3⟩ := Hans.out.ok hdn he0
          have HE1 := Lib.hid hE1
          have hll : decide (l - 1 < 0) = false := decide_eq_false (by omega)
          have hll2 : decide (l < 1) = false := decide_eq_false (by omega)
          have Hag2 : Hid (Agree R.2.1 (l - 1)) := by have := Hans.out.agree; rw [hE2] at this; exact this
          have hlb : -1 ≤ l ∧ l ≤ 60 := Hlb.out
          have Hlb2 : Hid (-1 ≤ l - 1 ∧ l - 1 ≤ 60) := by unfold Hid; omega
          have hw64 : wrap64 (l - 1) = l - 1 := by unfold wrap64; omega
          rw [hdn] at HUp
          clear hdn he0 hE1 hE2 hE3 hlb
          go_wp2_with (first | (go_at_call 20; refine HUp.out.mono ?_; rintro e wu ⟨rfl, rfl⟩))
          refine HCl.out.mono ?_
          rintro e w4 ⟨cc, rfl, hc, ⟨m1, m2, m3, m4⟩, hB4⟩
          have Hap : Hid (a.Apart cc) := DevIs.apart hu.out.dev.dev m1 m2 m3 m4
          have hl4 := Lib.hid (hu.out.on hB4)
          have hc4 := Lib.hid hc
          obtain ⟨A3, n3, c3, g0', g1', g2', g3', g4', g5', hok'⟩ := Hat.out.below Hbl.out hl4.out.dev.bel
          have Hok' := Lib.hid hok'
          have hst := Lib.hid (do_any hl4.out.dev HD.out Hn.out.1.2 Hn.out.2.1.2 (Img.nil w4 a) (by simp) o _ Hok'.out)
          rw [HR.out] at hst
          clear hc m1 m2 m3 m4 hB4 hu HCl HUp g0 g1 g2 g3 g4 g5 hok'
          go_wp2_with fail
          refine hst.out.mono ?_
          rintro e w5 ⟨v', rfl, h1, h2, h3, _⟩
          obtain ⟨iA, iN, iC, rfl⟩ := h3.slice
          have kb := Blk.new w5 36 #[.string R.1.text, .int .i64 R.1.e]
          have kb1 := kb.cell 1
          have hl5 := Lib.hid ((hl4.out.next h2 h1).on ((Below.refl _ w5).alloc (Nat.le_refl _) (.cells #[.string R.1.text, .int .i64 R.1.e] 36)))
          have hc5 := Lib.hid ((h2.dev hl4.out.dev.dev hc4.out Hap.out).below ((Below.refl _ w5).alloc (Nat.le_refl _) (.cells #[.string R.1.text, .int .i64 R.1.e] 36)))
          have Kb := Lib.hid kb
          have HUp2 : Hid (∀ w, DevIs w a R.2.1 → Calls Try.prog 20 #[.pointer (some ⟨a.d, 0, none⟩)] w fun e w' => e = .returned (.bool (!false)) ∧ w = w') := fun w h => by
            have h1 := Up_any h
            rw [HE1.out] at h1
            exact h1
          clear h1 h2 h3 hst hl4 hc4 kb g0' g1' g2' g3' g4' g5'
          go_wp2_with fail
          generalize w5.alloc (.cells #[.string R.1.text, .int .i64 R.1.e] 36) = w6 at hl5 hc5 Kb kb1 ⊢
          have HUp3 := Lib.hid (HUp2.out w6 hl5.out.dev.dev)
          go_wp2_with (first | (go_at_call 20; refine HUp3.out.mono ?_; rintro e wu ⟨rfl, rfl⟩))
          refine (img_row hc5.out (by have h1 := HD.out.M; have := Hn.out; omega) HL1.out HL1l.out (by have := Hn.out; omega)).mono ?_
          rintro e w7 ⟨A7, c7, b7, rfl, hr7, hB7, _⟩
          have hl7 := Lib.hid (hl5.out.on hB7.out)
          have hc7 := Lib.hid (DevIs.below hc5.out hB7.out)
          have Kb7 := Lib.hid (Kb.out.below hB7.out Kb.out.lt)
          clear hl5 hc5 hB7 HUp3 kb1 Kb
          go_wp2_with fail
          refine (img_row hl7.out.dev.dev (by have h1 := hOkE.out.M; have := Hn.out; omega) HL2.out HL2l.out (by have := Hn.out; omega)).mono ?_
          rintro e w8 ⟨A8, c8, b8, rfl, hr8, hB8, _⟩
          have hl8 := Lib.hid (hl7.out.on hB8.out)
          have hc8 := Lib.hid (DevIs.below hc7.out hB8.out)
          have Kb8 := Lib.hid (Kb7.out.below hB8.out Kb7.out.lt)
          have hr78 := Lib.hid (hr7.out.below hB8.out)
          have HSm : Hid (Calls Try.prog 21 #[.slice A7 n c7, .slice A8 n c8] w8 fun e w' => e = .returned (.bool (decide (L1 = L2))) ∧ Below w8.heap.size w8 w') := by
            have h1 := sameTexts_any w8 A7 c7 b7 0 L1 hr78.out.s A8 c8 b8 0 L2 hr8.out.s (by have := HL1l.out; have := Hn.out; omega) (by have := HL2l.out; have := Hn.out; omega)
            rw [HL1l.out, HL2l.out] at h1
            exact h1
          clear hl7 hc7 hB8 Kb7 hr7 hr8 hr78
          generalize decide (L1 = L2) = sm at HSm
          go_wp2_with fail
          refine HSm.out.mono ?_
          rintro e w9 ⟨rfl, hB9⟩
          have hl9 := Lib.hid (hl8.out.on hB9)
          have hc9 := Lib.hid (DevIs.below hc8.out hB9)
          have kb9 := (Kb8.out.below hB9 Kb8.out.lt).cell 1
          clear hl8 hc8 hB9 Kb8 HSm
          go_wp2_with fail
          go_roundw
          case rel => exact ⟨k + 1, R.2.1, l - 1, Hkl.out, rfl, by go_num, hl9, hOkE, Hag2, Hlb2⟩
          case measure => have := Hkl.out; simp [intOf]; omega
        · by_cases he14 : R.1.e = 14
          · skip
            have HE0 : Hid (R.1.e ≠ 0) := by unfold Hid; omega
            have be0 : (R.1.e == 0) = false := beq_f HE0.out
            have be0n : (R.1.e != 0) = true := bne_t HE0.out
            have be14 : (R.1.e == 14) = true := beq_t he14
            have be14n : (R.1.e != 14) = false := bne_f he14
            obtain ⟨hE1, hE2, hE3⟩ := Hans.out.fail hdn he14
            have HE1 := Lib.hid hE1
            have Hag2 : Hid (Agree R.2.1 (-1)) := by have := Hans.out.agree; rw [hE3] at this; exact this
            rw [hdn] at HUp
            subst hE2
            clear hdn he14 he0 hE1 hE3
            go_wp2_with (first | (go_at_call 20; refine HUp.out.mono ?_; rintro e wu ⟨rfl, rfl⟩))
            refine HCl.out.mono ?_
            rintro e w4 ⟨cc, rfl, hc, ⟨m1, m2, m3, m4⟩, hB4⟩
            have Hap : Hid (a.Apart cc) := DevIs.apart hu.out.dev.dev m1 m2 m3 m4
            have hl4 := Lib.hid (hu.out.on hB4)
            have hc4 := Lib.hid hc
            obtain ⟨A3, n3, c3, g0', g1', g2', g3', g4', g5', hok'⟩ := Hat.out.below Hbl.out hl4.out.dev.bel
            have Hok' := Lib.hid hok'
            have hst := Lib.hid (do_any hl4.out.dev HD.out Hn.out.1.2 Hn.out.2.1.2 (Img.nil w4 a) (by simp) o _ Hok'.out)
            rw [HR.out] at hst
            clear hc m1 m2 m3 m4 hB4 hu HCl HUp g0 g1 g2 g3 g4 g5 hok'
            go_wp2_with fail
            refine hst.out.mono ?_
            rintro e w5 ⟨v', rfl, h1, h2, h3, _⟩
            obtain ⟨iA, iN, iC, rfl⟩ := h3.slice
            have kb := Blk.new w5 36 #[.string R.1.text, .int .i64 R.1.e]
            have kb1 := kb.cell 1
            have hl5 := Lib.hid ((hl4.out.next h2 h1).on ((Below.refl _ w5).alloc (Nat.le_refl _) (.cells #[.string R.1.text, .int .i64 R.1.e] 36)))
            have hc5 := Lib.hid ((h2.dev hl4.out.dev.dev hc4.out Hap.out).below ((Below.refl _ w5).alloc (Nat.le_refl _) (.cells #[.string R.1.text, .int .i64 R.1.e] 36)))
            have Kb := Lib.hid kb
            have HUp2 : Hid (∀ w, DevIs w a R.2.1 → Calls Try.prog 20 #[.pointer (some ⟨a.d, 0, none⟩)] w fun e w' => e = .returned (.bool (!true)) ∧ w = w') := fun w h => by
              have h1 := Up_any h
              rw [HE1.out] at h1
              exact h1
            clear h1 h2 h3 hst hl4 hc4 kb g0' g1' g2' g3' g4' g5'
            go_wp2_with fail
            generalize w5.alloc (.cells #[.string R.1.text, .int .i64 R.1.e] 36) = w6 at hl5 hc5 Kb kb1 ⊢
            have HUp3 := Lib.hid (HUp2.out w6 hl5.out.dev.dev)
            go_wp2_with (first | (go_at_call 20; refine HUp3.out.mono ?_; rintro e wu ⟨rfl, rfl⟩))
            refine (img_row hc5.out (by have h1 := HD.out.M; have := Hn.out; omega) HL1.out HL1l.out (by have := Hn.out; omega)).mono ?_
            rintro e w7 ⟨A7, c7, b7, rfl, hr7, hB7, _⟩
            have hl7 := Lib.hid (hl5.out.on hB7.out)
            have hc7 := Lib.hid (DevIs.below hc5.out hB7.out)
            have Kb7 := Lib.hid (Kb.out.below hB7.out Kb.out.lt)
            clear hl5 hc5 hB7 HUp3 kb1 Kb
            go_wp2_with fail
            refine (img_row hl7.out.dev.dev (by have h1 := hOkE.out.M; have := Hn.out; omega) HL2.out HL2l.out (by have := Hn.out; omega)).mono ?_
            rintro e w8 ⟨A8, c8, b8, rfl, hr8, hB8, _⟩
            have hl8 := Lib.hid (hl7.out.on hB8.out)
            have hc8 := Lib.hid (DevIs.below hc7.out hB8.out)
            have Kb8 := Lib.hid (Kb7.out.below hB8.out Kb7.out.lt)
            have hr78 := Lib.hid (hr7.out.below hB8.out)
            have HSm : Hid (Calls Try.prog 21 #[.slice A7 n c7, .slice A8 n c8] w8 fun e w' => e = .returned (.bool (decide (L1 = L2))) ∧ Below w8.heap.size w8 w') := by
              have h1 := sameTexts_any w8 A7 c7 b7 0 L1 hr78.out.s A8 c8 b8 0 L2 hr8.out.s (by have := HL1l.out; have := Hn.out; omega) (by have := HL2l.out; have := Hn.out; omega)
              rw [HL1l.out, HL2l.out] at h1
              exact h1
            clear hl7 hc7 hB8 Kb7 hr7 hr8 hr78
            have hLL : L1 = L2 := by rw [← HL1.out, ← HL2.out, (Hans.out.same HE0.out).1]
            rw [decide_eq_true hLL] at HSm
            clear hLL
            go_wp2_with fail
            refine HSm.out.mono ?_
            rintro e w9 ⟨rfl, hB9⟩
            have hl9 := Lib.hid (hl8.out.on hB9)
            have hc9 := Lib.hid (DevIs.below hc8.out hB9)
            have kb9 := (Kb8.out.below hB9 Kb8.out.lt).cell 1
            clear hl8 hc8 hB9 Kb8 HSm
            have HCt : Hid (∀ x, x = a.d ∨ x = cc.d → Calls Try.prog 11 #[.pointer (some ⟨x, 0, none⟩)] w9 fun e w' => e = .returned (.int .i64 D.counter) ∧ w9 = w') := fun x hx => by
              rcases hx with rfl | rfl
              · have h1 := Counter_any hl9.out.dev.dev
                rw [(Hans.out.same HE0.out).2] at h1
                exact h1
              · exact Counter_any hc9.out
            generalize D.counter = dc at HCt
            go_wp2_with (first | (go_at_call 11; refine (HCt.out _ (by first | exact Or.inl rfl | exact Or.inr rfl)).mono ?_; rintro e wc ⟨rfl, rfl⟩))
            go_roundw
            case rel => exact ⟨k + 1, R.2.1, -1, Hkl.out, rfl, by go_num, hl9, hOkE, Hag2,  ⟨by decide, by decide⟩⟩
            case measure => have := Hkl.out; simp [intOf]; omega
          · skip
            have HE0 : Hid (R.1.e ≠ 0) := he0
            have be0 : (R.1.e == 0) = false := beq_f he0
            have be0n : (R.1.e != 0) = true := bne_t he0
            have be14 : (R.1.e == 14) = false := beq_f he14
            have be14n : (R.1.e != 14) = true := bne_t he14
            obtain ⟨hE1, hE2⟩ := Hans.out.other hdn he0 he14
            have HE1 := Lib.hid hE1
            have Hag2 : Hid (Agree R.2.1 l) := by have := Hans.out.agree; rw [hE2] at this; exact this
            have hll : decide (l < 0) = false := by
              rcases Hag.out with ⟨h, _, _⟩ | ⟨_, h⟩
              · exact decide_eq_false (by omega)
              · rw [hdn] at h; cases h
            rw [hdn] at HUp
            clear hdn he14 he0 hE1 hE2
            go_wp2_with (first | (go_at_call 20; refine HUp.out.mono ?_; rintro e wu ⟨rfl, rfl⟩))
            refine HCl.out.mono ?_
            rintro e w4 ⟨cc, rfl, hc, ⟨m1, m2, m3, m4⟩, hB4⟩
            have Hap : Hid (a.Apart cc) := DevIs.apart hu.out.dev.dev m1 m2 m3 m4
            have hl4 := Lib.hid (hu.out.on hB4)
            have hc4 := Lib.hid hc
            obtain ⟨A3, n3, c3, g0', g1', g2', g3', g4', g5', hok'⟩ := Hat.out.below Hbl.out hl4.out.dev.bel
            have Hok' := Lib.hid hok'
            have hst := Lib.hid (do_any hl4.out.dev HD.out Hn.out.1.2 Hn.out.2.1.2 (Img.nil w4 a) (by simp) o _ Hok'.out)
            rw [HR.out] at hst
            clear hc m1 m2 m3 m4 hB4 hu HCl HUp g0 g1 g2 g3 g4 g5 hok'
            go_wp2_with fail
            refine hst.out.mono ?_
            rintro e w5 ⟨v', rfl, h1, h2, h3, _⟩
            obtain ⟨iA, iN, iC, rfl⟩ := h3.slice
            have kb := Blk.new w5 36 #[.string R.1.text, .int .i64 R.1.e]
            have kb1 := kb.cell 1
            have hl5 := Lib.hid ((hl4.out.next h2 h1).on ((Below.refl _ w5).alloc (Nat.le_refl _) (.cells #[.string R.1.text, .int .i64 R.1.e] 36)))
            have hc5 := Lib.hid ((h2.dev hl4.out.dev.dev hc4.out Hap.out).below ((Below.refl _ w5).alloc (Nat.le_refl _) (.cells #[.string R.1.text, .int .i64 R.1.e] 36)))
            have Kb := Lib.hid kb
            have HUp2 : Hid (∀ w, DevIs w a R.2.1 → Calls Try.prog 20 #[.pointer (some ⟨a.d, 0, none⟩)] w fun e w' => e = .returned (.bool (!false)) ∧ w = w') := fun w h => by
              have h1 := Up_any h
              rw [HE1.out] at h1
              exact h1
            clear h1 h2 h3 hst hl4 hc4 kb g0' g1' g2' g3' g4' g5'
            go_wp2_with fail
            generalize w5.alloc (.cells #[.string R.1.text, .int .i64 R.1.e] 36) = w6 at hl5 hc5 Kb kb1 ⊢
            have HUp3 := Lib.hid (HUp2.out w6 hl5.out.dev.dev)
            go_wp2_with (first | (go_at_call 20; refine HUp3.out.mono ?_; rintro e wu ⟨rfl, rfl⟩))
            refine (img_row hc5.out (by have h1 := HD.out.M; have := Hn.out; omega) HL1.out HL1l.out (by have := Hn.out; omega)).mono ?_
            rintro e w7 ⟨A7, c7, b7, rfl, hr7, hB7, _⟩
            have hl7 := Lib.hid (hl5.out.on hB7.out)
            have hc7 := Lib.hid (DevIs.below hc5.out hB7.out)
            have Kb7 := Lib.hid (Kb.out.below hB7.out Kb.out.lt)
            clear hl5 hc5 hB7 HUp3 kb1 Kb
            go_wp2_with fail
            refine (img_row hl7.out.dev.dev (by have h1 := hOkE.out.M; have := Hn.out; omega) HL2.out HL2l.out (by have := Hn.out; omega)).mono ?_
            rintro e w8 ⟨A8, c8, b8, rfl, hr8, hB8, _⟩
            have hl8 := Lib.hid (hl7.out.on hB8.out)
            have hc8 := Lib.hid (DevIs.below hc7.out hB8.out)
            have Kb8 := Lib.hid (Kb7.out.below hB8.out Kb7.out.lt)
            have hr78 := Lib.hid (hr7.out.below hB8.out)
            have HSm : Hid (Calls Try.prog 21 #[.slice A7 n c7, .slice A8 n c8] w8 fun e w' => e = .returned (.bool (decide (L1 = L2))) ∧ Below w8.heap.size w8 w') := by
              have h1 := sameTexts_any w8 A7 c7 b7 0 L1 hr78.out.s A8 c8 b8 0 L2 hr8.out.s (by have := HL1l.out; have := Hn.out; omega) (by have := HL2l.out; have := Hn.out; omega)
              rw [HL1l.out, HL2l.out] at h1
              exact h1
            clear hl7 hc7 hB8 Kb7 hr7 hr8 hr78
            have hLL : L1 = L2 := by rw [← HL1.out, ← HL2.out, (Hans.out.same HE0.out).1]
            rw [decide_eq_true hLL] at HSm
            clear hLL
            go_wp2_with fail
            refine HSm.out.mono ?_
            rintro e w9 ⟨rfl, hB9⟩
            have hl9 := Lib.hid (hl8.out.on hB9)
            have hc9 := Lib.hid (DevIs.below hc8.out hB9)
            have kb9 := (Kb8.out.below hB9 Kb8.out.lt).cell 1
            clear hl8 hc8 hB9 Kb8 HSm
            have HCt : Hid (∀ x, x = a.d ∨ x = cc.d → Calls Try.prog 11 #[.pointer (some ⟨x, 0, none⟩)] w9 fun e w' => e = .returned (.int .i64 D.counter) ∧ w9 = w') := fun x hx => by
              rcases hx with rfl | rfl
              · have h1 := Counter_any hl9.out.dev.dev
                rw [(Hans.out.same HE0.out).2] at h1
                exact h1
              · exact Counter_any hc9.out
            generalize D.counter = dc at HCt
            go_wp2_with (first | (go_at_call 11; refine (HCt.out _ (by first | exact Or.inl rfl | exact Or.inr rfl)).mono ?_; rintro e wc ⟨rfl, rfl⟩))
            go_roundw
            case rel => exact ⟨k + 1, R.2.1, l, Hkl.out, rfl, by go_num, hl9, hOkE, Hag2, Hlb⟩
            case measure => have := Hkl.out; simp [intOf]; omega
    · have hd1 : decide (k < ops.length) = false := decide_eq_false hkl
      have HUa : Hid (Calls Try.prog 20 #[.pointer (some ⟨a.d, 0, none⟩)] wr fun e w' => e = .returned (.bool (decide (0 ≤ l))) ∧ wr = w') := by
        have h1 := Up_any hu.out.dev.dev
        rw [agree_up Hag.out] at h1
        exact h1
      have hb := Lib.hid hu.out.dev.bel
      clear hkl hk
      go_wp2_with (first | (go_at_call 20; refine HUa.out.mono ?_; rintro e wu ⟨rfl, rfl⟩))
      go_ret
      exact ⟨by simp, hb.out⟩
/-- The whole. -/
theorem law_trip (x y z : Int) (v : Value) (ops : List DOp) (hv : DOpsAt W v ops) (ho : OpsIn ops) (q : Nat) (hq : q < 256) :
    Calls Try.prog 6 #[.agg #[.int .i64 x, .int .i64 y, .int .i64 z], v, .int .u8 q] W fun e w' => e = .returned (.bool true) ∧ Below W.heap.size W w' := by
  have hv0 := hv
  obtain ⟨A, c, rfl, _⟩ := hv
  cases h : (decide (x ≤ 12) && decide ((ops.length : Int) ≤ 60)) with
  | false => exact trip_off x y z A ops.length c q h
  | true =>
    by_cases hz : SizeOk x y z
    · obtain ⟨h1, h2, h3, h4, h5, h6⟩ := hz
      obtain ⟨n, rfl⟩ := Int.eq_ofNat_of_zero_le (show 0 ≤ x by omega)
      obtain ⟨s, rfl⟩ := Int.eq_ofNat_of_zero_le (show 0 ≤ y by omega)
      obtain ⟨f, rfl⟩ := Int.eq_ofNat_of_zero_le (show 0 ≤ z by omega)
      have h7 := (Bool.and_eq_true _ _ ▸ h : _ ∧ _)
      have h8 := of_decide_eq_true h7.1
      have h9 := of_decide_eq_true h7.2
      exact trip_loop n s f ⟨by omega, by omega⟩ ⟨by omega, by omega⟩ ⟨by omega, by omega⟩ h8 _ ops hv0 ho (by omega) q hq
    · exact trip_bad x y z A ops.length c q h hz
end
end Go.Proofs.Ytcifkahmeimniaa
