/-
  Layer 33 (zero): build, a device after a script.
-/
import Derived.Test.YtgenifcikfbfhaaZerX3
namespace Go.Proofs.Ytgenifcikfbfhaa
open Go.RowKit Go.Shelf
attribute [local go_sem] Oper.semAt_some

/-- A size that New takes. -/
def SizeFit (x y z : Int) : Prop := 1 ≤ x ∧ x ≤ 4096 ∧ 1 ≤ y ∧ y ≤ 16 ∧ 1 ≤ z ∧ z ≤ 16
instance (x y z : Int) : Decidable (SizeFit x y z) := by unfold SizeFit; infer_instance
/-- The device and the last image, behind the world W. -/
structure BSt (W w : World) (a : DAt) (D : Dev) (v : Value) (I : List ByteArray) : Prop where
  dev : MDev W w a D
  img : Img w v I a
section
variable {W w w' : World} {a : DAt} {D : Dev} {n s f : Nat} {v : Value} {I : List ByteArray}
theorem BSt.play (h : BSt W w a D v I) (hD : D.Ok n s f) (hn : n ≤ 4096) (hs : s ≤ 16) (hIl : I = [] ∨ I.length = n) (o : DOp) (u : Value) (hu : DOpOk W o u) {R : DRes × Dev × List ByteArray} (hR : dplay o D I = R) :
    Calls Try.prog 17 #[.pointer (some ⟨a.d, 0, none⟩), u, v] w fun e w' => ∃ A n c, e = .returned (.slice A n c) ∧ Hid (BSt W w' a R.2.1 (.slice A n c) R.2.2) ∧ Hid (DLeft w w' a) := by
  subst hR
  refine (lz_any h.dev hD hn hs h.img (by rcases hIl with rfl | e; exact Nat.zero_le _; omega) o u hu).mono ?_
  rintro e w' ⟨v', rfl, h1, h2, h3, h4⟩
  obtain ⟨A, n', c', rfl⟩ := h3.slice
  exact ⟨A, n', c', rfl, ⟨h.dev.next h2 h1, h3⟩, h2⟩
theorem BSt.on (h : BSt W w a D v I) (hB : Below w.heap.size w w') : BSt W w' a D v I := ⟨h.dev.on hB, h.img.below hB⟩
/-- Integers, operations behind what wrote nothing. -/
theorem IntsAt.below {pv : Value} {P : List Int} (h : IntsAt W pv P) (hB : Below W.heap.size W w) : IntsAt w pv P := by
  obtain ⟨A, c, h0, h1, h2, h3⟩ := h
  refine ⟨A, c, h0, h1, h2, fun hp => ?_⟩
  obtain ⟨pb, po, e, hl, hc⟩ := h3 hp
  exact ⟨pb, po, e, Nat.lt_of_lt_of_le hl hB.size, fun i x hx => (hB.cell (p := ⟨pb, po + i, none⟩) hl).trans (hc i x hx)⟩
theorem DOpsAt.below {ops : List DOp} (h : DOpsAt W v ops) (hB : Below W.heap.size W w) : DOpsAt w v ops := by
  obtain ⟨A, c, h0, h1⟩ := h
  refine ⟨A, c, h0, fun hp => ?_⟩
  obtain ⟨b, o, e, hl, hc⟩ := h1 hp
  refine ⟨b, o, e, Nat.lt_of_lt_of_le hl hB.size, fun i op hi => ?_⟩
  obtain ⟨pv, q1, q2, q3⟩ := hc i op hi
  exact ⟨pv, fun j hj => (hB.cell (p := ⟨b, o + i * 6 + j, none⟩) hl).trans (q1 j hj), q2, q3.below hB⟩
theorem bnew_ok (W w : World) (hB : Below W.heap.size W w) (hn : 1 ≤ n ∧ n ≤ 4096) (hs : 1 ≤ s ∧ s ≤ 16) (hf : 1 ≤ f ∧ f ≤ 16) :
    Calls Try.prog 28 #[.int .i64 n, .int .i64 s, .int .i64 f] w fun e w' => ∃ a : DAt, e = .returned (.tuple #[.pointer (some ⟨a.d, 0, none⟩), .int .i64 0]) ∧ Hid (BSt W w' a (freshDev n s f) (.slice none 0 0) []) := by
  refine (dNew_ok w n s f hn hs hf).mono ?_
  rintro e w' ⟨a, rfl, h1, ⟨l1, l2, l3, l4⟩, hB2⟩
  have hz := hB.size
  exact ⟨a, rfl, ⟨⟨h1, hB.trans (hB2.mono hz), by omega, by omega, by omega, by omega⟩, Img.nil _ _⟩⟩
set_option maxRecDepth 100000 in
set_option maxHeartbeats 1600000 in
theorem build_bad (w : World) (x y z : Int) (A : Option Addr) (N c : Nat) (h : ¬ (1 ≤ x ∧ x ≤ 12 ∧ N ≤ 40 ∧ SizeFit x y z)) :
    Calls Try.prog 7 #[.agg #[.int .i64 x, .int .i64 y, .int .i64 z], .slice A N c] w fun e w' => e = .returned (.pointer none) ∧ Below w.heap.size w w' := by
  by_cases h1 : 12 < x
  · have d1 : decide (12 < x) = true := decide_eq_true h1
    clear h h1
    go_enter Try.func7, Try.ntmps7
    go_wp2_with fail
    go_ret
    exact ⟨rfl, (Below.refl _ _).alloc (Nat.le_refl _) _⟩
  have d1 : decide (12 < x) = false := decide_eq_false h1
  by_cases h2 : x < 1
  · have d2 : decide (x < 1) = true := decide_eq_true h2
    clear h h1 h2
    go_enter Try.func7, Try.ntmps7
    go_wp2_with fail
    go_ret
    exact ⟨rfl, (Below.refl _ _).alloc (Nat.le_refl _) _⟩
  have d2 : decide (x < 1) = false := decide_eq_false h2
  by_cases h3 : 40 < N
  · have d3 : decide (40 < N) = true := decide_eq_true h3
    have d3' : decide (40 < (N : Int)) = true := decide_eq_true (by omega)
    clear h h1 h2 h3
    go_enter Try.func7, Try.ntmps7
    go_wp2_with fail
    go_ret
    exact ⟨rfl, (Below.refl _ _).alloc (Nat.le_refl _) _⟩
  have d3 : decide (40 < N) = false := decide_eq_false h3
  have d3' : decide (40 < (N : Int)) = false := decide_eq_false (by omega)
  have HN := Lib.hid (fun w => dNew_bad w x y z (fun k => h ⟨by omega, by omega, by omega, k⟩))
  have HB := Lib.hid ((Below.refl w.heap.size w).alloc (Nat.le_refl _) (.cells #[.int .i64 x, .int .i64 y, .int .i64 z] 23))
  clear h h1 h2 h3
  go_enter Try.func7, Try.ntmps7
  go_wp2_with (first | (go_at_call 28; refine (HN.out _).mono ?_; rintro e w1 ⟨rfl, hB1⟩))
  go_ret
  exact ⟨rfl, HB.out.trans (hB1.mono (by simp))⟩
set_option maxRecDepth 100000 in
set_option maxHeartbeats 4000000 in
theorem build_ok (w : World) (n s f : Nat) (hn : 1 ≤ n ∧ n ≤ 12) (hs : 1 ≤ s ∧ s ≤ 16) (hf : 1 ≤ f ∧ f ≤ 16) (v : Value) (ops : List DOp) (hv : DOpsAt w v ops) (ho : OpsIn ops) (hN : ops.length ≤ 40) :
    Calls Try.prog 7 #[.agg #[.int .i64 n, .int .i64 s, .int .i64 f], v] w fun e w' => ∃ a : DAt, e = .returned (.pointer (some ⟨a.d, 0, none⟩)) ∧ MDev w w' a (dUpTo n s f ops ops.length).1 := by
  obtain ⟨A, c, rfl, hA⟩ := hv
  have hB := (Below.refl w.heap.size w).alloc (Nat.le_refl _) (.cells #[.int .i64 n, .int .i64 s, .int .i64 f] 23)
  have Hn := Lib.hid (And.intro hn (And.intro hs hf))
  have HA := Lib.hid hA
  have Ho := Lib.hid ho
  have HNew := Lib.hid (bnew_ok w _ hB (n := n) (s := s) (f := f) ⟨hn.1, by omega⟩ hs hf)
  have d1 : decide (12 < (n : Int)) = false := decide_eq_false (by omega)
  have d1' : decide (12 < n) = false := decide_eq_false (by omega)
  have d2 : decide ((n : Int) < 1) = false := decide_eq_false (by omega)
  have d2' : decide (n < 1) = false := decide_eq_false (by omega)
  have d3 : decide (40 < ops.length) = false := decide_eq_false (by omega)
  have d3' : decide (40 < (ops.length : Int)) = false := decide_eq_false (by omega)
  clear hB hA ho hn hs hf
  go_enter Try.func7, Try.ntmps7
  go_wp2_with (first | (go_at_call 28; refine HNew.out.mono ?_; rintro e w1 ⟨a, rfl, hs⟩))
  have hu0 := hs
  clear hs HNew
  go_loopw [7, 8] (fun v i wr => ∃ (k : Nat) (iA : Option Addr) (iN iC : Nat), k ≤ ops.length ∧ v = .slice iA iN iC ∧ i = .int .i64 k ∧ Hid (BSt w wr a (dUpTo n s f ops k).1 (.slice iA iN iC) (dUpTo n s f ops k).2)) (fun _ i _ => ops.length - (intOf i).toNat)
  case atStart => exact ⟨0, none, 0, 0, Nat.zero_le _, rfl, rfl, hu0⟩
  case round =>
    obtain ⟨k, iA, iN, iC, hk, rfl, rfl, hu⟩ := hrel
    clear hu0
    have hwk : wrap64 ((k : Int) + 1) = (k : Int) + 1 := by unfold wrap64; omega
    by_cases hkl : k < ops.length
    · have Hkl := Lib.hid hkl
      obtain ⟨o, hk0⟩ : ∃ o, ops[k]? = some o := ⟨_, List.getElem?_eq_getElem hkl⟩
      obtain ⟨B, off, rfl, hbl, hat⟩ := HA.out (by omega)
      have Hat := Lib.hid (hat k o hk0)
      have Hbl := Lib.hid hbl
      obtain ⟨hDok, hIl⟩ := dUpTo_ok n s f ops Ho.out k hk
      have HD := Lib.hid hDok
      have HI := Lib.hid hIl
      have Hk := Lib.hid (dUpTo_succ n s f ops k o hk0)
      generalize (dUpTo n s f ops k).1 = D at hu HD Hk
      generalize (dUpTo n s f ops k).2 = I at hu HI Hk
      clear hDok hIl hat hk0
      have hd1 : decide (k < ops.length) = true := decide_eq_true hkl
      obtain ⟨A1, n1, cc, g0, g1, g2, g3, g4, g5, hok⟩ := Hat.out.below Hbl.out hu.out.dev.bel
      have Hok := Lib.hid hok
      obtain ⟨R, hR⟩ : ∃ R, dplay o D I = R := ⟨_, rfl⟩
      rw [hR] at Hk
      have hst := Lib.hid (hu.out.play HD.out (by have := Hn.out.1.2; omega) Hn.out.2.1.2 HI.out o _ Hok.out hR)
      clear hok hu hR hkl
      go_wp2_with (first | (go_at_call 17; refine hst.out.mono ?_; rintro e w4 ⟨A2, n2, c2, rfl, hl, hF⟩))
      go_roundw
      case rel => exact ⟨k + 1, A2, n2, c2, Hkl.out, rfl, by go_num, by rw [Hk.out]; exact hl⟩
      case measure => have := Hkl.out; simp [intOf]; omega
    · obtain rfl : k = ops.length := by omega
      have hd1 : decide (ops.length < ops.length) = false := decide_eq_false hkl
      clear hkl
      go_wp2_with fail
      go_ret
      exact ⟨_, rfl, hu.out.dev⟩
end
end Go.Proofs.Ytgenifcikfbfhaa
