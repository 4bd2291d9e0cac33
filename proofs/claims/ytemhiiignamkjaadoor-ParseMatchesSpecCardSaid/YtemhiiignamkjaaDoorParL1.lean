/-
  Layer 12 (parse): the walk of the statement that parsing a printed policy returns it.
-/
import Derived.Test.YtemhiiignamkjaaDoorParS2
import Derived.Test.YtemhiiignamkjaaDoorMB
namespace Go.Proofs.YtemhiiignamkjaaDoor
open Go.RowKit LexP ParP
attribute [local go_sem] Oper.semAt_some

/-- A policy's numbers are integers of 64 bits. -/
structure PolIn (p : Pol) : Prop where
  name : p.name.size ≤ maxLen
  typs : ∀ t ∈ p.typs, t.name.size ≤ maxLen ∧ InI t.flags ∧ InI t.life
  ruls : ∀ r ∈ p.ruls, InI r.kind ∧ InI r.a ∧ InI r.b
  quos : ∀ q ∈ p.quos, InI q.cmd ∧ InI q.count ∧ InI q.delay ∧ InI q.valid ∧ InI q.uses
theorem few_facts {p : Pol} (h : fewB p = true) : p.name.size ≤ 100 ∧ p.typs.length ≤ 40 ∧ p.ruls.length ≤ 300 ∧ p.quos.length ≤ 40 ∧ ∀ t ∈ p.typs, t.name.size ≤ 100 := by
  unfold fewB at h
  simp only [Bool.and_eq_true, Bool.not_eq_true', decide_eq_false_iff_not, List.all_eq_true] at h
  obtain ⟨⟨⟨⟨h1, h2⟩, h3⟩, h4⟩, h5⟩ := h
  exact ⟨by omega, by omega, by omega, by omega, fun t ht => by have := h5 t ht; omega⟩
theorem PolIn.ok {p : Pol} (h : PolIn p) (hf : fewB p = true) : PolOk p := by
  obtain ⟨_, h2, h3, h4, _⟩ := few_facts hf
  exact ⟨h.name, h.typs, h.ruls, h.quos, by omega, by omega, by omega⟩
/-- A boxed policy, and what lay there. -/
structure BoxAt (w W : World) (g : Nat) (p : Pol) (nm : ByteArray) (At : Option Addr) (T ct : Nat) (Ar : Option Addr) (R cr : Nat) (Aq : Option Addr) (Q cq : Nat) : Prop where
  bel : Below w.heap.size w W
  box : Blk W g 27 #[.string nm, .slice At T ct, .slice Ar R cr, .slice Aq Q cq]
  pol : PolAt W W.heap.size (.agg #[.string nm, .slice At T ct, .slice Ar R cr, .slice Aq Q cq]) p
theorem BoxAt.below {w W V : World} {g : Nat} {p : Pol} {nm : ByteArray} {At : Option Addr} {T ct : Nat} {Ar : Option Addr} {R cr : Nat} {Aq : Option Addr} {Q cq : Nat} (h : BoxAt w W g p nm At T ct Ar R cr Aq Q cq) (hB : Below W.heap.size W V) : BoxAt w V g p nm At T ct Ar R cr Aq Q cq :=
  ⟨h.bel.trans (hB.mono h.bel.size), h.box.below hB h.box.lt, (h.pol.below hB).mono hB.size⟩
theorem printP_no {p : Pol} (h : (printP p).2 ≠ 0) : (printP p).1 = ⟨#[]⟩ ∧ ((printP p).2 = 1 ∨ (printP p).2 = 2) := by
  unfold printP at h ⊢
  split
  · split
    · exact ⟨rfl, .inr rfl⟩
    · next h1 h2 => rw [if_pos h1, if_neg h2] at h; exact absurd rfl h
  · exact ⟨rfl, .inl rfl⟩
theorem printP_ok {p : Pol} (h : (printP p).2 = 0) : printableB p = true ∧ (printL p).length ≤ 4000 ∧ (printP p).1 = ⟨(printL p).toArray⟩ := by
  unfold printP at h ⊢
  by_cases h1 : printableB p = true
  · rw [if_pos h1] at h ⊢
    by_cases h2 : 4000 < (printL p).length
    · rw [if_pos h2] at h
      cases h
    · rw [if_neg h2]
      exact ⟨h1, by omega, rfl⟩
  · rw [if_neg h1] at h
    cases h
theorem out_is {o : Out} {p : Pol} {e : Int} (h1 : o.pol = p) (h2 : o.err = e) : o = ⟨p, o.pos, e⟩ := by
  subst h1 h2
  rfl
set_option maxRecDepth 100000 in
set_option maxHeartbeats 12800000 in
theorem law_round (p : Pol) (v : Value) (w : World) (hp : PolAt w w.heap.size v p) (hin : PolIn p) (hW : Tabs w) (hpow : PowAt w) :
    Calls Tryd.prog 5 #[v] w fun e w' => e = .returned (.bool true) ∧ Below w.heap.size w w' := by
  obtain ⟨vt, vr, vq, rfl, hrt, hrr, hrq⟩ := id hp
  obtain ⟨At, ct, evt, ht⟩ := id hrt
  obtain ⟨Ar, cr, evr, hr⟩ := id hrr
  obtain ⟨Aq, cq, evq, hq⟩ := id hrq
  subst evt evr evq
  clear ht hr hq hrt hrr hrq
  have HW := Lib.hid hW
  have HP := Lib.hid hpow
  have HS := Lib.hid (fun W (h : Below w.heap.size w W) => sanity_any W (hW.below h) (hpow.below h))
  have HPol := Lib.hid hp
  have HIN := Lib.hid hin
  obtain ⟨T, hT⟩ : ∃ T, p.typs.length = T := ⟨_, rfl⟩
  obtain ⟨R, hR⟩ : ∃ R, p.ruls.length = R := ⟨_, rfl⟩
  obtain ⟨Q, hQ⟩ : ∃ Q, p.quos.length = Q := ⟨_, rfl⟩
  obtain ⟨nm, hnm⟩ : ∃ n, p.name = n := ⟨_, rfl⟩
  rw [hT, hR, hQ, hnm] at HPol ⊢
  clear hp hW hpow hT hR hQ hnm hin
  go_enter Tryd.func5, Tryd.ntmps5
  go_upto_region 1 with fail
  refine world_is (P := fun W => Code.wp _ _ _ _ W) (fun W0 hW0 => ?_)
  have X0 : Hid (BoxAt w W0 w.heap.size p nm At T ct Ar R cr Aq Q cq) := by
    have hB : Below w.heap.size w W0 := by rw [← hW0]; exact (Below.refl _ _).alloc (Nat.le_refl _) _
    exact ⟨hB, by rw [← hW0]; exact Blk.new _ _ _, (HPol.out.below hB).mono hB.size⟩
  obtain ⟨g, hg⟩ : ∃ g, w.heap.size = g := ⟨_, rfl⟩
  rw [show (BoxAt w W0 w.heap.size p nm At T ct Ar R cr Aq Q cq) = (BoxAt w W0 g p nm At T ct Ar R cr Aq Q cq) by rw [hg]] at X0
  rw [show Value.pointer (some ⟨w.heap.size, 0, none⟩) = Value.pointer (some ⟨g, 0, none⟩) by rw [hg]]
  clear hW0 hg
  have c0 := X0.out.box.cell 0
  have c1 := X0.out.box.cell 1
  have c2 := X0.out.box.cell 2
  have c3 := X0.out.box.cell 3
  obtain ⟨bf, hbf⟩ : ∃ b, fewB p = b := ⟨_, rfl⟩
  have HF := Lib.hid (few_any p _ W0 X0.out.pol)
  rw [hbf] at HF
  cases bf
  case false =>
    clear hbf
    go_wp2_with fail
    refine HF.out.mono ?_
    rintro e w1 ⟨rfl, hB1⟩
    have X1 := Lib.hid (X0.out.below hB1)
    clear hB1 X0 HF
    go_wp2_with fail
    refine (HS.out w1 X1.out.bel).mono ?_
    rintro e w2 ⟨rfl, hB2⟩
    have X2 := Lib.hid (X1.out.below hB2)
    clear hB2 X1
    go_wp2_with fail
    go_ret
    exact ⟨rfl, X2.out.bel⟩
  case true =>
    have hOK := Lib.hid (HIN.out.ok hbf)
    clear hbf
    go_wp2_with fail
    refine HF.out.mono ?_
    rintro e w1 ⟨rfl, hB1⟩
    have X1 := Lib.hid (X0.out.below hB1)
    clear hB1 X0 HF c0 c1 c2 c3
    have c0 := X1.out.box.cell 0
    have c1 := X1.out.box.cell 1
    have c2 := X1.out.box.cell 2
    have c3 := X1.out.box.cell 3
    go_wp2_with fail
    refine (Print_any p _ w1 X1.out.pol hOK.out (HW.out.below X1.out.bel) (HP.out.below X1.out.bel)).mono ?_
    rintro e w2 ⟨rfl, hB2⟩
    have X2 := Lib.hid (X1.out.below hB2)
    clear hB2 X1 c0 c1 c2 c3
    by_cases he : (printP p).2 = 0
    · obtain ⟨h1, h2, h3⟩ := printP_ok he
      obtain ⟨J, hJ⟩ : ∃ J, (printP p).1 = J := ⟨_, rfl⟩
      have hJl : J.data.toList = printL p := by rw [← hJ, h3]
      have hJs : J.size ≤ 4000 := by rw [← blen, hJl]; exact h2
      obtain ⟨r1, r2⟩ := round_trip hOK.out h1 hJl hJs
      obtain ⟨a, ha⟩ : ∃ a, parse J = ⟨p, a, 0⟩ := ⟨_, out_is r1 r2⟩
      have HPA := Lib.hid (fun W (h : Below w.heap.size w W) => Parse_at J W (by unfold maxLen; omega) (HW.out.below h) _ ha)
      rw [he, hJ]
      clear h1 h2 h3 hJ hJl hJs r1 r2 ha he
      go_wp2_with fail
      refine (HPA.out w2 X2.out.bel).mono ?_
      rintro e w3 ⟨At2, ct2, Ar2, cr2, Aq2, cq2, rfl, hp3, hB3⟩
      have X3 := Lib.hid (X2.out.below hB3)
      have P3 := Lib.hid hp3
      clear hB3 hp3 X2 HPA
      obtain ⟨T2, hT2⟩ : ∃ T, p.typs.length = T := ⟨_, rfl⟩
      obtain ⟨R2, hR2⟩ : ∃ R, p.ruls.length = R := ⟨_, rfl⟩
      obtain ⟨Q2, hQ2⟩ : ∃ Q, p.quos.length = Q := ⟨_, rfl⟩
      obtain ⟨nm2, hnm2⟩ : ∃ n, p.name = n := ⟨_, rfl⟩
      rw [hT2, hR2, hQ2, hnm2] at P3 ⊢
      clear hT2 hR2 hQ2 hnm2
      go_upto_region 8 with fail
      refine world_is (P := fun W => Code.wp _ _ _ _ W) (fun W4 hW4 => ?_)
      have hB4 : Below w3.heap.size w3 W4 := by rw [← hW4]; exact (Below.refl _ _).alloc (Nat.le_refl _) _
      have X4 := Lib.hid (X3.out.below hB4)
      have Y4 : Hid (BoxAt w W4 w3.heap.size p nm2 At2 T2 ct2 Ar2 R2 cr2 Aq2 Q2 cq2) := ⟨X4.out.bel, by rw [← hW4]; exact Blk.new _ _ _, (P3.out.below hB4).mono hB4.size⟩
      obtain ⟨k, hk⟩ : ∃ k, w3.heap.size = k := ⟨_, rfl⟩
      rw [hk] at Y4 ⊢
      clear hW4 hB4 X3 P3 hk
      go_wp2_with fail
      refine (HS.out W4 X4.out.bel).mono ?_
      rintro e w5 ⟨rfl, hB5⟩
      have X5 := Lib.hid (X4.out.below hB5)
      have Y5 := Lib.hid (Y4.out.below hB5)
      clear hB5 X4 Y4
      have c0 := X5.out.box.cell 0
      have c1 := X5.out.box.cell 1
      have c2 := X5.out.box.cell 2
      have c3 := X5.out.box.cell 3
      have e0 := Y5.out.box.cell 0
      have e1 := Y5.out.box.cell 1
      have e2 := Y5.out.box.cell 2
      have e3 := Y5.out.box.cell 3
      have HSM := Lib.hid (same_any p _ _ w5 X5.out.pol Y5.out.pol hOK.out)
      go_wp2_with fail
      refine HSM.out.mono ?_
      rintro e w6 ⟨rfl, hB6⟩
      have X6 := Lib.hid (X5.out.below hB6)
      clear hB6
      go_wp2_with fail
      go_ret
      exact ⟨rfl, X6.out.bel⟩
    · obtain ⟨h1, h2⟩ := printP_no he
      obtain ⟨ec, hec⟩ : ∃ c, (printP p).2 = c := ⟨_, rfl⟩
      rw [h1, hec]
      rw [hec] at h2 he
      have t0 : (ec != 0) = true := by rw [bne_iff_ne]; exact he
      clear h1 h2 he hec
      go_wp2_with fail
      refine (HS.out w2 X2.out.bel).mono ?_
      rintro e w3 ⟨rfl, hB3⟩
      have X3 := Lib.hid (X2.out.below hB3)
      clear hB3 X2
      go_wp2_with fail
      go_ret
      exact ⟨rfl, X3.out.bel⟩
end Go.Proofs.YtemhiiignamkjaaDoor
