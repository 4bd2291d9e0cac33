/-
  Layer 23 (device): Restore is local.
-/
import Derived.Test.YtcifkahmeimniaaDevR1
namespace Go.Proofs.Ytcifkahmeimniaa
open Go.RowKit Go.Shelf
attribute [local go_sem] Oper.semAt_some

/-- A device, its copy, and what else the law looks at. -/
structure Two (W w : World) (a c : DAt) (x y z : Int) (E D : Dev) (v : Value) (I : List ByteArray) (A2 : Option Addr) (c2 sb so : Nat) (J : List ByteArray) : Prop where
  l : LSt W w a x y z E v I
  c : DevIs w c D
  j : StrAt w A2 c2 sb so J
theorem Two.on {W w w' : World} {a c : DAt} {x y z : Int} {E D : Dev} {v : Value} {I : List ByteArray} {A2 : Option Addr} {c2 sb so : Nat} {J : List ByteArray} (h : Two W w a c x y z E D v I A2 c2 sb so J) (hB : Below w.heap.size w w') : Two W w' a c x y z E D v I A2 c2 sb so J :=
  ⟨h.l.on hB, h.c.below hB, h.j.below hB⟩
theorem DLeft.strAt {w w' : World} {a : DAt} {D : Dev} {A : Option Addr} {c b o : Nat} {J : List ByteArray} (hF : DLeft w w' a) (h : StrAt w A c b o J) (h1 : b ≠ a.d) (h2 : b ≠ a.g) (h3 : b ≠ a.sb) (h4 : b ≠ a.fb) : StrAt w' A c b o J :=
  ⟨h.1, h.2.1, fun i t ht => by
    obtain ⟨e1, e2, e3⟩ := h.2.2 i t ht
    have e := hF.rest b e2 h1 h2 h3 h4
    refine ⟨e1, Nat.lt_of_lt_of_le e2 hF.size, ?_⟩
    rw [← e3]
    unfold World.cell?
    dsimp only
    rw [e]⟩
theorem two_image {w : World} {a : DAt} {D : Dev} (h : DevIs w a D) (hN : D.M.length ≤ 1048576) {L : List ByteArray} (hL : D.M.map Sec.now = L) :
    Calls Try.prog 18 #[.pointer (some ⟨a.d, 0, none⟩)] w fun e w' => ∃ A c b, e = .returned (.slice A L.length c) ∧ Hid (StrAt w' A c b 0 L) ∧ Hid (Below w.heap.size w w') := by
  subst hL
  refine (dImage_any h hN).mono ?_
  rintro e w' ⟨v, rfl, hT⟩
  have hI := (Img.fresh hT h).texts
  obtain ⟨A, c, b, rfl, hs⟩ := Texts.strAt hI
  exact ⟨A, c, b, rfl, hs, hT.2.2⟩
section
variable {W : World}
set_option maxRecDepth 100000 in
set_option maxHeartbeats 1600000 in
theorem restore_off (x y z : Int) (A : Option Addr) (N c : Nat) (A2 : Option Addr) (c2 sb so : Nat) (J : List ByteArray) (h : (decide (x ≤ 12) && decide ((N : Int) ≤ 60)) = false) :
    Calls Try.prog 7 #[.agg #[.int .i64 x, .int .i64 y, .int .i64 z], .slice A N c, .slice A2 J.length c2] W fun e w' => e = .returned (.bool true) ∧ Below W.heap.size W w' := by
  obtain ⟨hk, hB⟩ := box_new W x y z
  have HB : Hid (Boxed W _ x y z) := ⟨hk, hB⟩
  clear hk hB
  have Hh := Lib.hid h
  clear h
  go_enter Try.func7, Try.ntmps7
  go_wp2_with (first | (go_at_call 8; refine (sanity_true _).mono ?_; rintro e w1 ⟨rfl, hB⟩; have HX := Lib.hid (HB.out.on hB); obtain ⟨q0, q1, q2⟩ := HX.out.c; clear hB) | (go_at_call 9; refine (few_any _ x y z A N c).mono ?_; rw [Hh.out]; rintro e w2 ⟨rfl, hB⟩; have HY := Lib.hid (HX.out.on hB); obtain ⟨p0, p1, p2⟩ := HY.out.c; clear hB))
  go_ret
  exact ⟨rfl, HY.out.2⟩
set_option maxRecDepth 100000 in
set_option maxHeartbeats 1600000 in
theorem restore_long (x y z : Int) (A : Option Addr) (N c : Nat) (A2 : Option Addr) (c2 sb so : Nat) (J : List ByteArray) (h : (decide (x ≤ 12) && decide ((N : Int) ≤ 60)) = true) (hJ : 20 < J.length) :
    Calls Try.prog 7 #[.agg #[.int .i64 x, .int .i64 y, .int .i64 z], .slice A N c, .slice A2 J.length c2] W fun e w' => e = .returned (.bool true) ∧ Below W.heap.size W w' := by
  obtain ⟨hk, hB⟩ := box_new W x y z
  have HB : Hid (Boxed W _ x y z) := ⟨hk, hB⟩
  clear hk hB
  have Hh := Lib.hid h
  have d20 : decide (20 < (J.length : Int)) = true := decide_eq_true (by omega)
  clear h hJ
  go_enter Try.func7, Try.ntmps7
  go_wp2_with (first | (go_at_call 8; refine (sanity_true _).mono ?_; rintro e w1 ⟨rfl, hB⟩; have HX := Lib.hid (HB.out.on hB); obtain ⟨q0, q1, q2⟩ := HX.out.c; clear hB) | (go_at_call 9; refine (few_any _ x y z A N c).mono ?_; rw [Hh.out]; rintro e w2 ⟨rfl, hB⟩; have HY := Lib.hid (HX.out.on hB); obtain ⟨p0, p1, p2⟩ := HY.out.c; clear hB))
  go_ret
  exact ⟨rfl, HY.out.2⟩
set_option maxRecDepth 100000 in
set_option maxHeartbeats 1600000 in
theorem restore_bad (x y z : Int) (A : Option Addr) (N c : Nat) (A2 : Option Addr) (c2 sb so : Nat) (J : List ByteArray) (h : (decide (x ≤ 12) && decide ((N : Int) ≤ 60)) = true) (hJ : StrAt W A2 c2 sb so J) (hJl : J.length ≤ 20) (hz : ¬ SizeOk x y z) :
    Calls Try.prog 7 #[.agg #[.int .i64 x, .int .i64 y, .int .i64 z], .slice A N c, .slice A2 J.length c2] W fun e w' => e = .returned (.bool true) ∧ Below W.heap.size W w' := by
  obtain ⟨hk, hB⟩ := box_new W x y z
  have HB : Hid (Boxed W _ x y z) := ⟨hk, hB⟩
  clear hk hB
  have Hh := Lib.hid h
  have Hz := Lib.hid hz
  have HJ := Lib.hid hJ
  have d20 : decide (20 < (J.length : Int)) = false := decide_eq_false (by omega)
  clear h hJ hz
  go_enter Try.func7, Try.ntmps7
  go_wp2_with (first | (go_at_call 8; refine (sanity_true _).mono ?_; rintro e w1 ⟨rfl, hB⟩; have HX := Lib.hid (HB.out.on hB); obtain ⟨q0, q1, q2⟩ := HX.out.c; clear hB) | (go_at_call 9; refine (few_any _ x y z A N c).mono ?_; rw [Hh.out]; rintro e w2 ⟨rfl, hB⟩; have HY := Lib.hid (HX.out.on hB); obtain ⟨p0, p1, p2⟩ := HY.out.c; clear hB))
  go_loop [8] (fun i => ∃ k : Nat, k ≤ J.length ∧ i = .int .i64 k) (fun i => J.length - (intOf i).toNat)
  case atStart => exact ⟨0, Nat.zero_le _, rfl⟩
  case round =>
    obtain ⟨k, hk, rfl⟩ := hrel
    have hJ2 := HJ.out.below HY.out.2
    have hb2 := Lib.hid HY.out.2
    by_cases hkl : k < J.length
    · have hd1 : decide (k < J.length) = true := decide_eq_true hkl
      obtain ⟨t, ht⟩ : ∃ t, J[k]? = some t := ⟨_, List.getElem?_eq_getElem hkl⟩
      obtain ⟨rfl, _, hct⟩ := hJ2.2.2 k t ht
      have Hkl := Lib.hid hkl
      have hk0 : (0 : Int) ≤ (k : Int) := by omega
      have hk1 : (k : Int) < J.length := by omega
      clear hJ2 ht hkl
      by_cases h70 : 70 < (t.size : Int)
      · have d70 : decide (70 < (t.size : Int)) = true := decide_eq_true h70
        clear h70
        go_wp2_with fail
        go_ret
        exact ⟨rfl, hb2.out⟩
      · have d70 : decide (70 < (t.size : Int)) = false := decide_eq_false h70
        clear h70
        go_wp2_with fail
        go_round
        case rel => exact ⟨k + 1, Hkl.out, by go_num⟩
        case measure => have := Hkl.out; simp [intOf]; omega
    · have hd1 : decide (k < J.length) = false := decide_eq_false hkl
      clear hJ2 hkl hk
      go_wp2_with (first | (go_at_call 10; refine (dNew_bad _ x y z Hz.out).mono ?_; rintro e w3 ⟨rfl, hB⟩; have HZ := Lib.hid (HY.out.on hB); clear hB))
      go_ret
      exact ⟨rfl, HZ.out.2⟩
set_option maxRecDepth 100000 in
set_option maxHeartbeats 4000000 in
theorem restore_loop (n s f : Nat) (hn : 1 ≤ n ∧ n ≤ 4096) (hs : 1 ≤ s ∧ s ≤ 16) (hf : 1 ≤ f ∧ f ≤ 16) (hx : (n : Int) ≤ 12) (v : Value) (ops : List DOp) (hv : DOpsAt W v ops) (ho : OpsIn ops) (hN : ops.length ≤ 60) (A2 : Option Addr) (c2 sb so : Nat) (J : List ByteArray) (hJ : StrAt W A2 c2 sb so J) (hJl : J.length ≤ 20) (hsb : sb ≤ W.heap.size) :
    Calls Try.prog 7 #[.agg #[.int .i64 n, .int .i64 s, .int .i64 f], v, .slice A2 J.length c2] W fun e w' => e = .returned (.bool true) ∧ Below W.heap.size W w' := by
  obtain ⟨A, c, rfl, hA⟩ := hv
  obtain ⟨hk, hB⟩ := box_new W n s f
  have HB : Hid (Boxed W _ n s f) := ⟨hk, hB⟩
  have Hn := Lib.hid (And.intro hn (And.intro hs hf))
  have HA := Lib.hid hA
  have Ho := Lib.hid ho
  have Hh : Hid ((decide ((n : Int) ≤ 12) && decide ((ops.length : Int) ≤ 60)) = true) := by
    unfold Hid
    rw [decide_eq_true hx, decide_eq_true (by omega : (ops.length : Int) ≤ 60)]
    rfl
  have HJ := Lib.hid hJ
  have Hsb := Lib.hid hsb
  have HJl := Lib.hid hJl
  have d20 : decide (20 < (J.length : Int)) = false := decide_eq_false (by omega)
  clear hJ hsb
  clear hk hB hA ho hx hn hs hf
  go_enter Try.func7, Try.ntmps7
  go_wp2_with (first | (go_at_call 8; refine (sanity_true _).mono ?_; rintro e w1 ⟨rfl, hB⟩; have HX := Lib.hid (HB.out.on hB); obtain ⟨q0, q1, q2⟩ := HX.out.c; clear hB) | (go_at_call 9; refine (few_any _ n s f A ops.length c).mono ?_; rw [Hh.out]; rintro e w2 ⟨rfl, hB⟩; have HY := Lib.hid (HX.out.on hB); obtain ⟨p0, p1, p2⟩ := HY.out.c; clear hB))
  go_loop [8] (fun i => ∃ k : Nat, k ≤ J.length ∧ i = .int .i64 k) (fun i => J.length - (intOf i).toNat)
  case atStart => exact ⟨0, Nat.zero_le _, rfl⟩
  case round =>
    obtain ⟨k, hk, rfl⟩ := hrel
    have hJ2 := HJ.out.below HY.out.2
    have hb2 := Lib.hid HY.out.2
    by_cases hkl : k < J.length
    · have hd1 : decide (k < J.length) = true := decide_eq_true hkl
      obtain ⟨t, ht⟩ : ∃ t, J[k]? = some t := ⟨_, List.getElem?_eq_getElem hkl⟩
      obtain ⟨rfl, _, hct⟩ := hJ2.2.2 k t ht
      have Hkl := Lib.hid hkl
      have hk0 : (0 : Int) ≤ (k : Int) := by omega
      have hk1 : (k : Int) < J.length := by omega
      clear hJ2 ht hkl
      by_cases h70 : 70 < (t.size : Int)
      · have d70 : decide (70 < (t.size : Int)) = true := decide_eq_true h70
        clear h70
        go_wp2_with fail
        go_ret
        exact ⟨rfl, hb2.out⟩
      · have d70 : decide (70 < (t.size : Int)) = false := decide_eq_false h70
        clear h70
        go_wp2_with fail
        go_round
        case rel => exact ⟨k + 1, Hkl.out, by go_num⟩
        case measure => have := Hkl.out; simp [intOf]; omega
    · have hd1 : decide (k < J.length) = false := decide_eq_false hkl
      clear hJ2 hkl hk
      go_wp2_with (first | (go_at_call 10; refine (law_new W HY.out.2 HY.out.1 Hn.out.1 Hn.out.2.1 Hn.out.2.2).mono ?_; rintro e w3 ⟨a, rfl, hs, hfb⟩))
      have hu0 := hs
      clear hs hfb HX HY q0 q1 q2 p0 p1 p2 hb2
      go_loopw [11, 12] (fun v i wr => ∃ (k : Nat) (iA : Option Addr) (iN iC : Nat), k ≤ ops.length ∧ v = .slice iA iN iC ∧ i = .int .i64 k ∧ Hid (LSt W wr a n s f (dUpTo n s f ops k).1 (.slice iA iN iC) (dUpTo n s f ops k).2)) (fun _ i _ => ops.length - (intOf i).toNat)
      case atStart => exact ⟨0, none, 0, 0, Nat.zero_le _, rfl, rfl, hu0⟩
      case round =>
        obtain ⟨k, iA, iN, iC, hk, rfl, rfl, hu⟩ := hrel
        clear hu0
        by_cases hkl : k < ops.length
        · have hd1 : decide (k < ops.length) = true := decide_eq_true hkl
          obtain ⟨o, hk0⟩ : ∃ o, ops[k]? = some o := ⟨_, List.getElem?_eq_getElem hkl⟩
          obtain ⟨B, off, rfl, hbl, hat⟩ := HA.out (by omega)
          have Hat := Lib.hid (hat k o hk0)
          have Hbl := Lib.hid hbl
          obtain ⟨hDok, hIl⟩ := dUpTo_ok n s f ops Ho.out k hk
          have HD := Lib.hid hDok
          have HI := Lib.hid hIl
          have Hk := Lib.hid (dUpTo_succ n s f ops k o hk0)
          generalize (dUpTo n s f ops k).1 = D at hu HD Hk
          generalize (dUpTo n s f ops k).2 = I at hu HI Hk
          clear hDok hIl hat hk0
          obtain ⟨A1, n1, cc1, g0, g1, g2, g3, g4, g5, hok⟩ := Hat.out.below Hbl.out hu.out.dev.bel
          have Hok := Lib.hid hok
          obtain ⟨R, hR⟩ : ∃ R, dplay o D I = R := ⟨_, rfl⟩
          have HR := Lib.hid hR
          have hst := Lib.hid (hu.out.play HD.out Hn.out.1.2 Hn.out.2.1.2 HI.out o _ Hok.out HR.out)
          have Hk2 : Hid ((dUpTo n s f ops (k + 1)).1 = R.2.1 ∧ (dUpTo n s f ops (k + 1)).2 = R.2.2) := by
            have := Hk.out
            rw [HR.out] at this
            exact ⟨by rw [this], by rw [this]⟩
          have Hkl := Lib.hid hkl
          clear hok hR hkl
          go_wp2_with (first | (go_at_call 14; refine hst.out.mono ?_; rintro e w4 ⟨iA2, iN2, iC2, rfl, hl, hF, hv2⟩))
          have hl5 := Lib.hid (hl.out.on ((Below.refl _ w4).alloc (Nat.le_refl _) (.cells #[.string R.1.text, .int .i64 R.1.e] 36)))
          clear hl hF hst hv2
          generalize w4.alloc (.cells #[.string R.1.text, .int .i64 R.1.e] 36) = w5 at hl5 ⊢
          go_roundw
          case rel => exact ⟨k + 1, iA2, iN2, iC2, Hkl.out, rfl, by go_num, by rw [Hk2.out.1, Hk2.out.2]; exact hl5⟩
          case measure => have := Hkl.out; simp [intOf]; omega
        have hd1 : decide (k < ops.length) = false := decide_eq_false hkl
        obtain ⟨hDok, _⟩ := dUpTo_ok n s f ops Ho.out k hk
        have HD := Lib.hid hDok
        generalize (dUpTo n s f ops k).1 = D at hu HD
        generalize (dUpTo n s f ops k).2 = I at hu
        obtain ⟨L, hL⟩ : ∃ L, D.M.map Sec.now = L := ⟨_, rfl⟩
        have HL := Lib.hid hL
        have HCl := Lib.hid (dClone_any hu.out.dev.dev (by have h1 := HD.out.M; have := Hn.out; omega) (by have h1 := HD.out.slots; have := Hn.out; omega) (by have h1 := HD.out.fuses; have := Hn.out; omega))
        have hsg : Hid (sb ≠ a.d ∧ sb ≠ a.g ∧ sb ≠ a.sb ∧ sb ≠ a.fb) := by
          obtain ⟨_, q2⟩ := DevIs.gblk hu.out.dev.dev
          obtain ⟨_, q3⟩ := DevIs.sblk hu.out.dev.dev
          obtain ⟨_, q4⟩ := DevIs.fblk hu.out.dev.dev
          have n1 := hu.out.box.ne_ hu.out.dev.dev.blk (by decide)
          have n2 := hu.out.box.ne_ q2 (by decide)
          have n3 := hu.out.box.ne_ q3 (by decide)
          have n4 := hu.out.box.ne_ q4 (by decide)
          have m1 := hu.out.dev.hd
          have m2 := hu.out.dev.hg
          have m3 := hu.out.dev.hsb
          have m4 := hu.out.dev.hfb
          have := Hsb.out
          exact ⟨by omega, by omega, by omega, by omega⟩
        clear hDok hkl hk hL
        go_wp2_with fail
        refine HCl.out.mono ?_
        rintro e w5 ⟨cc, rfl, hc, ⟨l1, l2, l3, l4⟩, hB⟩
        have Hap : Hid (a.Apart cc) := DevIs.apart hu.out.dev.dev l1 l2 l3 l4
        have hl5 := Lib.hid (hu.out.on hB)
        have hc5 := Lib.hid hc
        have hJ5 : Hid (StrAt w5 A2 c2 sb so J) := HJ.out.below hl5.out.dev.bel
        clear hc l1 l2 l3 l4 hB hu HCl
        go_wp2_with fail
        cases hle0 : loadErr J D.M with
        | true =>
          have hle : loadErr J D.M = true := hle0
          have HRs : Hid (Calls Try.prog 24 #[.pointer (some ⟨a.d, 0, none⟩), .slice A2 J.length c2] w5 fun e w' => e = .returned (.int .i64 1) ∧ DevIs w' a { D with M := D.M } ∧ DLeft w5 w' a) := by
            have h1 := dRestore_at hl5.out.dev.dev A2 c2 sb so J hJ5.out hsg.out.2.1 (by have := HJl.out; omega)
            rw [hle] at h1
            exact h1
          have HRt : Hid (∀ w' , StrAt w' A2 c2 sb so J → Calls Try.prog 25 #[.slice A2 J.length c2, .int .i64 n] w' fun e w2 => e = .returned (.bool false) ∧ w' = w2) := fun w' h => by
            have h1 := right_any w' A2 c2 sb so J h (by have := HJl.out; omega) D.M
            rw [hle, HD.out.M] at h1
            exact h1
          have HL2 : Hid (D.M.map Sec.now = L) := HL.out
          clear hle hle0
          refine HRs.out.mono ?_
          rintro e w6 ⟨rfl, hE, hF⟩
          have hT6 : Hid (Two W w6 a cc n s f { D with M := D.M } D (.slice iA iN iC) I A2 c2 sb so J) := ⟨hl5.out.next hF hE, hF.dev hl5.out.dev.dev hc5.out Hap.out, hF.strAt (D := D) hJ5.out hsg.out.1 hsg.out.2.1 hsg.out.2.2.1 hsg.out.2.2.2⟩
          clear hE hF HRs hl5 hc5 hJ5
          go_wp2_with fail
          refine (two_image hT6.out.c (by have h1 := HD.out.M; have := Hn.out; omega) HL.out).mono ?_
          rintro e w7 ⟨iA3, iC3, ib3, rfl, hs7, hB7⟩
          have hT7 := Lib.hid (hT6.out.on hB7.out)
          clear hB7 hT6
          go_wp2_with fail
          refine (two_image hT7.out.l.dev.dev (by have h1 := HD.out.M; have := Hn.out; omega) HL2.out).mono ?_
          rintro e w8 ⟨iA4, iC4, ib4, rfl, hs8, hB8⟩
          have hT8 := Lib.hid (hT7.out.on hB8.out)
          have hs7q := Lib.hid (hs7.out.below hB8.out)
          clear hB8 hT7 hs7
          have HSm : Hid (Calls Try.prog 21 #[.slice iA4 L.length iC4, .slice iA3 L.length iC3] w8 fun e w' => e = .returned (.bool true) ∧ Below w8.heap.size w8 w') := by
            have h1 := sameTexts_any w8 iA4 iC4 ib4 0 L hs8.out iA3 iC3 ib3 0 L hs7q.out (by have h1 := congrArg List.length HL.out; rw [List.length_map] at h1; have h2 := HD.out.M; have := Hn.out; omega) (by have h1 := congrArg List.length HL.out; rw [List.length_map] at h1; have h2 := HD.out.M; have := Hn.out; omega)
            rw [decide_eq_true rfl] at h1
            exact h1
          go_wp2_with fail
          refine HSm.out.mono ?_
          rintro e w9 ⟨rfl, hB9⟩
          have hT9 := Lib.hid (hT8.out.on hB9)
          clear hB9 hT8 hs7q hs8 HSm
          obtain ⟨z0, z1, z2⟩ := hT9.out.l.c
          have HCt : Hid (∀ x, x = a.d ∨ x = cc.d → Calls Try.prog 11 #[.pointer (some ⟨x, 0, none⟩)] w9 fun e w' => e = .returned (.int .i64 D.counter) ∧ w9 = w') := fun x hx => by
            rcases hx with rfl | rfl
            · have h1 := Counter_any hT9.out.l.dev.dev
              exact h1
            · exact Counter_any hT9.out.c
          have HNw : Hid (∀ x, x = a.d ∨ x = cc.d → Calls Try.prog 12 #[.pointer (some ⟨x, 0, none⟩)] w9 fun e w' => e = .returned (.int .i64 D.clock) ∧ w9 = w') := fun x hx => by
            rcases hx with rfl | rfl
            · have h1 := Now_any hT9.out.l.dev.dev
              exact h1
            · exact Now_any hT9.out.c
          have HUp : Hid (∀ x, x = a.d ∨ x = cc.d → Calls Try.prog 20 #[.pointer (some ⟨x, 0, none⟩)] w9 fun e w' => e = .returned (.bool (!D.down)) ∧ w9 = w') := fun x hx => by
            rcases hx with rfl | rfl
            · have h1 := Up_any hT9.out.l.dev.dev
              exact h1
            · exact Up_any hT9.out.c
          have HBd : Hid (∀ (k : Nat) x, x = a.d ∨ x = cc.d → Calls Try.prog 13 #[.pointer (some ⟨x, 0, none⟩), .int .i64 k] w9 fun e w' => e = .returned (.bool (burnedD D k)) ∧ w9 = w') := fun k x hx => by
            rcases hx with rfl | rfl
            · have h1 := dBurned_any hT9.out.l.dev.dev k
              exact h1
            · exact dBurned_any hT9.out.c k
          have HLd : Hid (∀ (k : Nat), ∃ t r, ∀ x, x = a.d ∨ x = cc.d → Calls Try.prog 17 #[.pointer (some ⟨x, 0, none⟩), .int .i64 k] w9 fun e w' => e = .returned (.tuple #[.string t, .int .i64 r]) ∧ w9 = w') := fun k => ⟨_, _, fun x hx => by
            rcases hx with rfl | rfl
            · exact dLoad_any hT9.out.l.dev.dev k
            · exact dLoad_any hT9.out.c k⟩
          have HRr := Lib.hid (HRt.out w9 hT9.out.j)
          have Hbel := Lib.hid hT9.out.l.dev.bel
          generalize D.counter = dc at HCt
          generalize D.clock = dk at HNw
          generalize D.down = dd at HUp
          clear hT9 HRt HL2
          go_wp2_with (first | (go_at_call 11; refine (HCt.out _ (by first | exact Or.inl rfl | exact Or.inr rfl)).mono ?_; rintro e w9 ⟨rfl, rfl⟩) | (go_at_call 12; refine (HNw.out _ (by first | exact Or.inl rfl | exact Or.inr rfl)).mono ?_; rintro e w9 ⟨rfl, rfl⟩) | (go_at_call 20; refine (HUp.out _ (by first | exact Or.inl rfl | exact Or.inr rfl)).mono ?_; rintro e w9 ⟨rfl, rfl⟩))
          go_loop [19] (fun i => ∃ k : Nat, k ≤ f ∧ i = .int .i64 k) (fun i => f - (intOf i).toNat)
          case atStart => exact ⟨0, Nat.zero_le _, rfl⟩
          case round =>
            obtain ⟨k, hk, rfl⟩ := hrel
            by_cases hkl : k < f
            · have hd1 : decide (k < f) = true := decide_eq_true hkl
              have HBk := Lib.hid (HBd.out k)
              generalize burnedD D k = bb at HBk
              have Hkl := Lib.hid hkl
              have hk16 : (k : Int) < 16 := by have := Hn.out; omega
              clear hkl
              go_wp2_with (first | (go_at_call 13; refine (HBk.out _ (by first | exact Or.inl rfl | exact Or.inr rfl)).mono ?_; rintro e w9 ⟨rfl, rfl⟩))
              go_round
              case rel => exact ⟨k + 1, Hkl.out, by go_num⟩
              case measure => have := Hkl.out; simp [intOf]; omega
            · have hd1 : decide (k < f) = false := decide_eq_false hkl
              clear hkl hk
              go_wp2_with fail
              go_loop [20] (fun i => ∃ k : Nat, k ≤ s ∧ i = .int .i64 k) (fun i => s - (intOf i).toNat)
              case atStart => exact ⟨0, Nat.zero_le _, rfl⟩
              case round =>
                obtain ⟨j, hj, rfl⟩ := hrel
                by_cases hjl : j < s
                · have hd2 : decide (j < s) = true := decide_eq_true hjl
                  obtain ⟨t, r, hld⟩ := HLd.out j
                  have HLk := Lib.hid hld
                  have Hjl := Lib.hid hjl
                  have hj16 : (j : Int) < 16 := by have := Hn.out; omega
                  clear hjl hld
                  go_wp2_with (first | (go_at_call 17; refine (HLk.out _ (by first | exact Or.inl rfl | exact Or.inr rfl)).mono ?_; rintro e w9 ⟨rfl, rfl⟩))
                  go_round
                  case rel => exact ⟨j + 1, Hjl.out, by go_num⟩
                  case measure => have := Hjl.out; simp [intOf]; omega
                · have hd2 : decide (j < s) = false := decide_eq_false hjl
                  clear hjl hj
                  go_wp2_with (first | (go_at_call 25; refine HRr.out.mono ?_; rintro e w10 ⟨rfl, rfl⟩))
                  go_ret
                  exact ⟨rfl, Hbel.out⟩
        | false =>
          have hle : loadErr J D.M = false := hle0
          have HRs : Hid (Calls Try.prog 24 #[.pointer (some ⟨a.d, 0, none⟩), .slice A2 J.length c2] w5 fun e w' => e = .returned (.int .i64 0) ∧ DevIs w' a { D with M := loadM J D.M } ∧ DLeft w5 w' a) := by
            have h1 := dRestore_at hl5.out.dev.dev A2 c2 sb so J hJ5.out hsg.out.2.1 (by have := HJl.out; omega)
            rw [hle] at h1
            exact h1
          have HRt : Hid (∀ w' , StrAt w' A2 c2 sb so J → Calls Try.prog 25 #[.slice A2 J.length c2, .int .i64 n] w' fun e w2 => e = .returned (.bool true) ∧ w' = w2) := fun w' h => by
            have h1 := right_any w' A2 c2 sb so J h (by have := HJl.out; omega) D.M
            rw [hle, HD.out.M] at h1
            exact h1
          have HL2 : Hid ((loadM J D.M).map Sec.now = J) := loadM_now _ _ (loadErr_len hle)
          clear hle hle0
          refine HRs.out.mono ?_
          rintro e w6 ⟨rfl, hE, hF⟩
          have hT6 : Hid (Two W w6 a cc n s f { D with M := loadM J D.M } D (.slice iA iN iC) I A2 c2 sb so J) := ⟨hl5.out.next hF hE, hF.dev hl5.out.dev.dev hc5.out Hap.out, hF.strAt (D := D) hJ5.out hsg.out.1 hsg.out.2.1 hsg.out.2.2.1 hsg.out.2.2.2⟩
          clear hE hF HRs hl5 hc5 hJ5
          go_wp2_with fail
          refine (two_image hT6.out.c (by have h1 := HD.out.M; have := Hn.out; omega) HL.out).mono ?_
          rintro e w7 ⟨iA3, iC3, ib3, rfl, hs7, hB7⟩
          have hT7 := Lib.hid (hT6.out.on hB7.out)
          clear hB7 hT6
          go_wp2_with fail
          refine (two_image hT7.out.l.dev.dev (by have h1 := HJl.out; dsimp only; have h2 := congrArg List.length HL2.out; rw [List.length_map] at h2; omega) HL2.out).mono ?_
          rintro e w8 ⟨iA4, iC4, ib4, rfl, hs8, hB8⟩
          have hT8 := Lib.hid (hT7.out.on hB8.out)
          have hs7q := Lib.hid (hs7.out.below hB8.out)
          clear hB8 hT7 hs7
          have HSm : Hid (Calls Try.prog 21 #[.slice iA4 J.length iC4, .slice A2 J.length c2] w8 fun e w' => e = .returned (.bool true) ∧ Below w8.heap.size w8 w') := by
            have h1 := sameTexts_any w8 iA4 iC4 ib4 0 J hs8.out A2 c2 sb so J hT8.out.j (by have := HJl.out; omega) (by have := HJl.out; omega)
            rw [decide_eq_true rfl] at h1
            exact h1
          go_wp2_with fail
          refine HSm.out.mono ?_
          rintro e w9 ⟨rfl, hB9⟩
          have hT9 := Lib.hid (hT8.out.on hB9)
          clear hB9 hT8 hs7q hs8 HSm
          obtain ⟨z0, z1, z2⟩ := hT9.out.l.c
          have HCt : Hid (∀ x, x = a.d ∨ x = cc.d → Calls Try.prog 11 #[.pointer (some ⟨x, 0, none⟩)] w9 fun e w' => e = .returned (.int .i64 D.counter) ∧ w9 = w') := fun x hx => by
            rcases hx with rfl | rfl
            · have h1 := Counter_any hT9.out.l.dev.dev
              exact h1
            · exact Counter_any hT9.out.c
          have HNw : Hid (∀ x, x = a.d ∨ x = cc.d → Calls Try.prog 12 #[.pointer (some ⟨x, 0, none⟩)] w9 fun e w' => e = .returned (.int .i64 D.clock) ∧ w9 = w') := fun x hx => by
            rcases hx with rfl | rfl
            · have h1 := Now_any hT9.out.l.dev.dev
              exact h1
            · exact Now_any hT9.out.c
          have HUp : Hid (∀ x, x = a.d ∨ x = cc.d → Calls Try.prog 20 #[.pointer (some ⟨x, 0, none⟩)] w9 fun e w' => e = .returned (.bool (!D.down)) ∧ w9 = w') := fun x hx => by
            rcases hx with rfl | rfl
            · have h1 := Up_any hT9.out.l.dev.dev
              exact h1
            · exact Up_any hT9.out.c
          have HBd : Hid (∀ (k : Nat) x, x = a.d ∨ x = cc.d → Calls Try.prog 13 #[.pointer (some ⟨x, 0, none⟩), .int .i64 k] w9 fun e w' => e = .returned (.bool (burnedD D k)) ∧ w9 = w') := fun k x hx => by
            rcases hx with rfl | rfl
            · have h1 := dBurned_any hT9.out.l.dev.dev k
              exact h1
            · exact dBurned_any hT9.out.c k
          have HLd : Hid (∀ (k : Nat), ∃ t r, ∀ x, x = a.d ∨ x = cc.d → Calls Try.prog 17 #[.pointer (some ⟨x, 0, none⟩), .int .i64 k] w9 fun e w' => e = .returned (.tuple #[.string t, .int .i64 r]) ∧ w9 = w') := fun k => ⟨_, _, fun x hx => by
            rcases hx with rfl | rfl
            · exact dLoad_any hT9.out.l.dev.dev k
            · exact dLoad_any hT9.out.c k⟩
          have HRr := Lib.hid (HRt.out w9 hT9.out.j)
          have Hbel := Lib.hid hT9.out.l.dev.bel
          generalize D.counter = dc at HCt
          generalize D.clock = dk at HNw
          generalize D.down = dd at HUp
          clear hT9 HRt HL2
          go_wp2_with (first | (go_at_call 11; refine (HCt.out _ (by first | exact Or.inl rfl | exact Or.inr rfl)).mono ?_; rintro e w9 ⟨rfl, rfl⟩) | (go_at_call 12; refine (HNw.out _ (by first | exact Or.inl rfl | exact Or.inr rfl)).mono ?_; rintro e w9 ⟨rfl, rfl⟩) | (go_at_call 20; refine (HUp.out _ (by first | exact Or.inl rfl | exact Or.inr rfl)).mono ?_; rintro e w9 ⟨rfl, rfl⟩))
          go_loop [19] (fun i => ∃ k : Nat, k ≤ f ∧ i = .int .i64 k) (fun i => f - (intOf i).toNat)
          case atStart => exact ⟨0, Nat.zero_le _, rfl⟩
          case round =>
            obtain ⟨k, hk, rfl⟩ := hrel
            by_cases hkl : k < f
            · have hd1 : decide (k < f) = true := decide_eq_true hkl
              have HBk := Lib.hid (HBd.out k)
              generalize burnedD D k = bb at HBk
              have Hkl := Lib.hid hkl
              have hk16 : (k : Int) < 16 := by have := Hn.out; omega
              clear hkl
              go_wp2_with (first | (go_at_call 13; refine (HBk.out _ (by first | exact Or.inl rfl | exact Or.inr rfl)).mono ?_; rintro e w9 ⟨rfl, rfl⟩))
              go_round
              case rel => exact ⟨k + 1, Hkl.out, by go_num⟩
              case measure => have := Hkl.out; simp [intOf]; omega
            · have hd1 : decide (k < f) = false := decide_eq_false hkl
              clear hkl hk
              go_wp2_with fail
              go_loop [20] (fun i => ∃ k : Nat, k ≤ s ∧ i = .int .i64 k) (fun i => s - (intOf i).toNat)
              case atStart => exact ⟨0, Nat.zero_le _, rfl⟩
              case round =>
                obtain ⟨j, hj, rfl⟩ := hrel
                by_cases hjl : j < s
                · have hd2 : decide (j < s) = true := decide_eq_true hjl
                  obtain ⟨t, r, hld⟩ := HLd.out j
                  have HLk := Lib.hid hld
                  have Hjl := Lib.hid hjl
                  have hj16 : (j : Int) < 16 := by have := Hn.out; omega
                  clear hjl hld
                  go_wp2_with (first | (go_at_call 17; refine (HLk.out _ (by first | exact Or.inl rfl | exact Or.inr rfl)).mono ?_; rintro e w9 ⟨rfl, rfl⟩))
                  go_round
                  case rel => exact ⟨j + 1, Hjl.out, by go_num⟩
                  case measure => have := Hjl.out; simp [intOf]; omega
                · have hd2 : decide (j < s) = false := decide_eq_false hjl
                  clear hjl hj
                  go_wp2_with (first | (go_at_call 25; refine HRr.out.mono ?_; rintro e w10 ⟨rfl, rfl⟩))
                  go_ret
                  exact ⟨rfl, Hbel.out⟩
/-- The whole. -/
theorem law_restore (x y z : Int) (v : Value) (ops : List DOp) (hv : DOpsAt W v ops) (ho : OpsIn ops) (A2 : Option Addr) (c2 sb so : Nat) (J : List ByteArray) (hJ : StrAt W A2 c2 sb so J) (hsb : sb ≤ W.heap.size) :
    Calls Try.prog 7 #[.agg #[.int .i64 x, .int .i64 y, .int .i64 z], v, .slice A2 J.length c2] W fun e w' => e = .returned (.bool true) ∧ Below W.heap.size W w' := by
  have hv0 := hv
  obtain ⟨A, c, rfl, _⟩ := hv
  cases h : (decide (x ≤ 12) && decide ((ops.length : Int) ≤ 60)) with
  | false => exact restore_off x y z A ops.length c A2 c2 sb so J h
  | true =>
    by_cases h20' : 20 < J.length
    · exact restore_long x y z A ops.length c A2 c2 sb so J h h20'
    have h20 : J.length ≤ 20 := by omega
    by_cases hz : SizeOk x y z
    · obtain ⟨h1, h2, h3, h4, h5, h6⟩ := hz
      obtain ⟨n, rfl⟩ := Int.eq_ofNat_of_zero_le (show 0 ≤ x by omega)
      obtain ⟨s, rfl⟩ := Int.eq_ofNat_of_zero_le (show 0 ≤ y by omega)
      obtain ⟨f, rfl⟩ := Int.eq_ofNat_of_zero_le (show 0 ≤ z by omega)
      have h7 := (Bool.and_eq_true _ _ ▸ h : _ ∧ _)
      have h8 := of_decide_eq_true h7.1
      have h9 := of_decide_eq_true h7.2
      exact restore_loop n s f ⟨by omega, by omega⟩ ⟨by omega, by omega⟩ ⟨by omega, by omega⟩ h8 _ ops hv0 ho (by omega) A2 c2 sb so J hJ h20 hsb
    · exact restore_bad x y z A ops.length c A2 c2 sb so J h hJ h20 hz
end
end Go.Proofs.Ytcifkahmeimniaa
