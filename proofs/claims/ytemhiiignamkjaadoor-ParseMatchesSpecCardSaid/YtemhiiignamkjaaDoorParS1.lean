/-
  Layer 12 (parse), the specification: Same of equal policies, Few.
-/
import Derived.Test.YtemhiiignamkjaaDoorNE
namespace Go.Proofs.YtemhiiignamkjaaDoor
open Go.RowKit LexP ParP
attribute [local go_sem] Oper.semAt_some

/-- Two boxed policies. -/
structure Two (w wr : World) (p : Pol) (T R Q : Nat) (At : Option Addr) (ct : Nat) (Ar : Option Addr) (cr : Nat) (Aq : Option Addr) (cq : Nat) (Bt : Option Addr) (dt : Nat) (Br : Option Addr) (dr : Nat) (Bq : Option Addr) (dq : Nat) : Prop where
  bel : Below w.heap.size w wr
  x : Blk wr w.heap.size 27 #[.string p.name, .slice At T ct, .slice Ar R cr, .slice Aq Q cq]
  y : Blk wr (w.heap.size + 1) 27 #[.string p.name, .slice Bt T dt, .slice Br R dr, .slice Bq Q dq]
theorem Two.drewN {w wr : World} {p : Pol} {T R Q : Nat} {At : Option Addr} {ct : Nat} {Ar : Option Addr} {cr : Nat} {Aq : Option Addr} {cq : Nat} {Bt : Option Addr} {dt : Nat} {Br : Option Addr} {dr : Nat} {Bq : Option Addr} {dq : Nat} (h : Two w wr p T R Q At ct Ar cr Aq cq Bt dt Br dr Bq dq) (n : Nat) : Two w (wr.drewN n) p T R Q At ct Ar cr Aq cq Bt dt Br dr Bq dq :=
  ⟨below_drewN h.bel n, h.x.drewN n, h.y.drewN n⟩
set_option maxRecDepth 100000 in
set_option maxHeartbeats 12800000 in
theorem same_any (p : Pol) (v1 v2 : Value) (w : World) (h1 : PolAt w w.heap.size v1 p) (h2 : PolAt w w.heap.size v2 p) (hok : PolOk p) :
    Calls Tryd.prog 12 #[v1, v2] w fun e w' => e = .returned (.bool true) ∧ Below w.heap.size w w' := by
  obtain ⟨vt, vr, vq, rfl, hrt, hrr, hrq⟩ := h1
  obtain ⟨At, ct, evt, ht⟩ := id hrt
  obtain ⟨Ar, cr, evr, hr⟩ := id hrr
  obtain ⟨Aq, cq, evq, hq⟩ := id hrq
  subst evt evr evq
  clear ht hr hq
  obtain ⟨vt, vr, vq, rfl, hst, hsr, hsq⟩ := h2
  obtain ⟨Bt, dt, evt, ht⟩ := id hst
  obtain ⟨Br, dr, evr, hr⟩ := id hsr
  obtain ⟨Bq, dq, evq, hq⟩ := id hsq
  subst evt evr evq
  clear ht hr hq
  have RT := Lib.hid hrt
  have RR := Lib.hid hrr
  have RQ := Lib.hid hrq
  have ST := Lib.hid hst
  have SR := Lib.hid hsr
  have SQ := Lib.hid hsq
  obtain ⟨T, hT⟩ : ∃ T, p.typs.length = T := ⟨_, rfl⟩
  obtain ⟨R, hR⟩ : ∃ R, p.ruls.length = R := ⟨_, rfl⟩
  obtain ⟨Q, hQ⟩ : ∃ Q, p.quos.length = Q := ⟨_, rfl⟩
  have hTb : T ≤ 5000 := by have := hok.nt; omega
  have hRb : R ≤ 5000 := by have := hok.nr; omega
  have hQb : Q ≤ 5000 := by have := hok.nq; omega
  have hTH := Lib.hid hT
  have hRH := Lib.hid hR
  have hQH := Lib.hid hQ
  rw [hT, hR, hQ]
  clear hrt hrr hrq hst hsr hsq hT hR hQ hok
  go_enter Tryd.func12, Tryd.ntmps12
  go_upto_region 1 with fail
  refine world_is (P := fun W => Code.wp _ _ _ _ W) (fun W0 hW0 => ?_)
  have B0 : Hid (Below w.heap.size w W0) := by unfold Hid; rw [← hW0]; exact ((Below.refl _ _).alloc (Nat.le_refl _) _).alloc (by rw [World.size_alloc]; omega) _
  have X0 : Hid (Blk W0 w.heap.size 27 #[.string p.name, .slice At T ct, .slice Ar R cr, .slice Aq Q cq]) := by unfold Hid; rw [← hW0]; exact (Blk.new _ _ _).alloc _
  have Y0 : Hid (Blk W0 (w.heap.size + 1) 27 #[.string p.name, .slice Bt T dt, .slice Br R dr, .slice Bq Q dq]) := by
    unfold Hid
    rw [← hW0]
    have h := Blk.new (w.alloc (.cells #[.string p.name, .slice At T ct, .slice Ar R cr, .slice Aq Q cq] 27)) 27 #[.string p.name, .slice Bt T dt, .slice Br R dr, .slice Bq Q dq]
    rwa [World.size_alloc] at h
  have c0 := X0.out.cell 0
  have c1 := X0.out.cell 1
  have c2 := X0.out.cell 2
  have c3 := X0.out.cell 3
  have e0 := Y0.out.cell 0
  have e1 := Y0.out.cell 1
  have e2 := Y0.out.cell 2
  have e3 := Y0.out.cell 3
  have TW0 : Hid (Two w W0 p T R Q At ct Ar cr Aq cq Bt dt Br dr Bq dq) := ⟨B0.out, X0.out, Y0.out⟩
  clear hW0 X0 Y0 B0
  have m0 : (p.name.toList == p.name.toList) = true := beq_self_eq_true _
  have m1 : ((T : Int) != (T : Int)) = false := by simp
  have m2 : ((R : Int) != (R : Int)) = false := by simp
  have m3 : ((Q : Int) != (Q : Int)) = false := by simp
  have m4 : (T != T) = false := by simp
  have m5 : (R != R) = false := by simp
  have m6 : (Q != Q) = false := by simp
  go_wp2_with fail
  go_loopw [5] (fun v wr => ∃ i : Nat, v = .int .i64 i ∧ i ≤ T ∧ Hid (Two w wr p T R Q At ct Ar cr Aq cq Bt dt Br dr Bq dq)) (fun v _ => T - (intOf v).toNat)
  case atStart => exact ⟨0, rfl, Nat.zero_le _, TW0.out⟩
  case round =>
  clear TW0 c0 c1 c2 c3 e0 e1 e2 e3
  obtain ⟨i0, rfl, hi0, TW⟩ := hrel
  have c1 := TW.out.x.cell 1; have c2 := TW.out.x.cell 2; have c3 := TW.out.x.cell 3
  have e1 := TW.out.y.cell 1; have e2 := TW.out.y.cell 2; have e3 := TW.out.y.cell 3
  have c0 := TW.out.x.cell 0; have e0 := TW.out.y.cell 0
  by_cases hlt : i0 < T
  · have d1 : decide (i0 < T) = true := decide_eq_true hlt
    have d2 : decide ((i0 : Int) < (T : Int)) = true := decide_eq_true (by omega)
    obtain ⟨t, ht⟩ : ∃ x, p.typs[i0]? = some x := ⟨_, List.getElem?_eq_getElem (by rw [hTH.out]; exact hlt)⟩
    obtain ⟨rb, ro, rfl, hrb, y0, y1, y2⟩ := RT.out.typ i0 t ht
    obtain ⟨sb, so, rfl, hsb, z0, z1, z2⟩ := ST.out.typ i0 t ht
    have k0 := (TW.out.bel.cell (p := ⟨rb, _, none⟩) hrb).trans y0
    have l0 := (TW.out.bel.cell (p := ⟨sb, _, none⟩) hsb).trans z0
    have k1 := (TW.out.bel.cell (p := ⟨rb, _, none⟩) hrb).trans y1
    have l1 := (TW.out.bel.cell (p := ⟨sb, _, none⟩) hsb).trans z1
    have k2 := (TW.out.bel.cell (p := ⟨rb, _, none⟩) hrb).trans y2
    have l2 := (TW.out.bel.cell (p := ⟨sb, _, none⟩) hsb).trans z2
    have q0 : (0 : Int) ≤ (i0 : Int) := by omega
    have q1 : (i0 : Int) < (T : Int) := by omega
    have q2 : (T : Int) ≤ 5000 := by omega
    have hltH := Lib.hid hlt
    obtain ⟨x0, x1, x2⟩ := t
    dsimp only at k0 l0 k1 l1 k2 l2
    clear ht hlt y0 y1 y2 z0 z1 z2
    go_wp2_with (first | go_quiet (fail))
    go_roundw
    case rel => exact ⟨i0 + 1, by go_num, hltH.out, TW.out.drewN _⟩
    case measure => have := hltH.out; simp [intOf]; omega
  · have d1 : decide (i0 < T) = false := decide_eq_false hlt
    have d2 : decide ((i0 : Int) < (T : Int)) = false := decide_eq_false (by omega)
    have TW1 := TW
    clear hlt TW
    obtain ⟨wo0, rfl⟩ : ∃ x, x = wr := ⟨_, rfl⟩
    go_wp2_with fail
    go_loopw [6] (fun v wr => ∃ i : Nat, v = .int .i64 i ∧ i ≤ R ∧ Hid (Two w wr p T R Q At ct Ar cr Aq cq Bt dt Br dr Bq dq)) (fun v _ => R - (intOf v).toNat)
    case atStart => exact ⟨0, rfl, Nat.zero_le _, TW1.out⟩
    case round =>
    clear TW1 c0 c1 c2 c3 e0 e1 e2 e3
    obtain ⟨i1, rfl, hi1, TW⟩ := hrel
    have c1 := TW.out.x.cell 1; have c2 := TW.out.x.cell 2; have c3 := TW.out.x.cell 3
    have e1 := TW.out.y.cell 1; have e2 := TW.out.y.cell 2; have e3 := TW.out.y.cell 3
    have c0 := TW.out.x.cell 0; have e0 := TW.out.y.cell 0
    by_cases hlt : i1 < R
    · have d1 : decide (i1 < R) = true := decide_eq_true hlt
      have d2 : decide ((i1 : Int) < (R : Int)) = true := decide_eq_true (by omega)
      obtain ⟨r, hr⟩ : ∃ x, p.ruls[i1]? = some x := ⟨_, List.getElem?_eq_getElem (by rw [hRH.out]; exact hlt)⟩
      obtain ⟨rb, ro, rfl, hrb, y0, y1, y2⟩ := RR.out.rul i1 r hr
      obtain ⟨sb, so, rfl, hsb, z0, z1, z2⟩ := SR.out.rul i1 r hr
      have k0 := (TW.out.bel.cell (p := ⟨rb, _, none⟩) hrb).trans y0
      have l0 := (TW.out.bel.cell (p := ⟨sb, _, none⟩) hsb).trans z0
      have k1 := (TW.out.bel.cell (p := ⟨rb, _, none⟩) hrb).trans y1
      have l1 := (TW.out.bel.cell (p := ⟨sb, _, none⟩) hsb).trans z1
      have k2 := (TW.out.bel.cell (p := ⟨rb, _, none⟩) hrb).trans y2
      have l2 := (TW.out.bel.cell (p := ⟨sb, _, none⟩) hsb).trans z2
      have q0 : (0 : Int) ≤ (i1 : Int) := by omega
      have q1 : (i1 : Int) < (R : Int) := by omega
      have q2 : (R : Int) ≤ 5000 := by omega
      have hltH := Lib.hid hlt
      obtain ⟨x0, x1, x2⟩ := r
      dsimp only at k0 l0 k1 l1 k2 l2
      clear hr hlt y0 y1 y2 z0 z1 z2
      go_wp2_with (first | go_quiet (fail))
      go_roundw
      case rel => exact ⟨i1 + 1, by go_num, hltH.out, TW.out.drewN _⟩
      case measure => have := hltH.out; simp [intOf]; omega
    · have d1 : decide (i1 < R) = false := decide_eq_false hlt
      have d2 : decide ((i1 : Int) < (R : Int)) = false := decide_eq_false (by omega)
      have TW2 := TW
      clear hlt TW
      obtain ⟨wo1, rfl⟩ : ∃ x, x = wr := ⟨_, rfl⟩
      go_wp2_with fail
      go_loopw [7] (fun v wr => ∃ i : Nat, v = .int .i64 i ∧ i ≤ Q ∧ Hid (Two w wr p T R Q At ct Ar cr Aq cq Bt dt Br dr Bq dq)) (fun v _ => Q - (intOf v).toNat)
      case atStart => exact ⟨0, rfl, Nat.zero_le _, TW2.out⟩
      case round =>
      clear TW2 c0 c1 c2 c3 e0 e1 e2 e3
      obtain ⟨i2, rfl, hi2, TW⟩ := hrel
      have c1 := TW.out.x.cell 1; have c2 := TW.out.x.cell 2; have c3 := TW.out.x.cell 3
      have e1 := TW.out.y.cell 1; have e2 := TW.out.y.cell 2; have e3 := TW.out.y.cell 3
      have c0 := TW.out.x.cell 0; have e0 := TW.out.y.cell 0
      by_cases hlt : i2 < Q
      · have d1 : decide (i2 < Q) = true := decide_eq_true hlt
        have d2 : decide ((i2 : Int) < (Q : Int)) = true := decide_eq_true (by omega)
        obtain ⟨q, hq⟩ : ∃ x, p.quos[i2]? = some x := ⟨_, List.getElem?_eq_getElem (by rw [hQH.out]; exact hlt)⟩
        obtain ⟨rb, ro, rfl, hrb, y0, y1, y2, y3, y4⟩ := RQ.out.quo i2 q hq
        obtain ⟨sb, so, rfl, hsb, z0, z1, z2, z3, z4⟩ := SQ.out.quo i2 q hq
        have k0 := (TW.out.bel.cell (p := ⟨rb, _, none⟩) hrb).trans y0
        have l0 := (TW.out.bel.cell (p := ⟨sb, _, none⟩) hsb).trans z0
        have k1 := (TW.out.bel.cell (p := ⟨rb, _, none⟩) hrb).trans y1
        have l1 := (TW.out.bel.cell (p := ⟨sb, _, none⟩) hsb).trans z1
        have k2 := (TW.out.bel.cell (p := ⟨rb, _, none⟩) hrb).trans y2
        have l2 := (TW.out.bel.cell (p := ⟨sb, _, none⟩) hsb).trans z2
        have k3 := (TW.out.bel.cell (p := ⟨rb, _, none⟩) hrb).trans y3
        have l3 := (TW.out.bel.cell (p := ⟨sb, _, none⟩) hsb).trans z3
        have k4 := (TW.out.bel.cell (p := ⟨rb, _, none⟩) hrb).trans y4
        have l4 := (TW.out.bel.cell (p := ⟨sb, _, none⟩) hsb).trans z4
        have q0 : (0 : Int) ≤ (i2 : Int) := by omega
        have q1 : (i2 : Int) < (Q : Int) := by omega
        have q2 : (Q : Int) ≤ 5000 := by omega
        have hltH := Lib.hid hlt
        obtain ⟨x0, x1, x2, x3, x4⟩ := q
        dsimp only at k0 l0 k1 l1 k2 l2 k3 l3 k4 l4
        clear hq hlt y0 y1 y2 y3 y4 z0 z1 z2 z3 z4
        go_wp2_with (first | go_quiet (fail))
        go_roundw
        case rel => exact ⟨i2 + 1, by go_num, hltH.out, TW.out.drewN _⟩
        case measure => have := hltH.out; simp [intOf]; omega
      · have d1 : decide (i2 < Q) = false := decide_eq_false hlt
        have d2 : decide ((i2 : Int) < (Q : Int)) = false := decide_eq_false (by omega)
        have TW3 := TW
        clear hlt TW
        obtain ⟨wo2, rfl⟩ : ∃ x, x = wr := ⟨_, rfl⟩
        go_wp2_with fail
        go_ret
        exact ⟨rfl, TW3.out.bel⟩
/-- A small policy. -/
def fewB (p : Pol) : Bool := !decide (100 < p.name.size) && !decide (40 < p.typs.length) && !decide (300 < p.ruls.length) && !decide (40 < p.quos.length) && p.typs.all fun t => !decide (100 < t.name.size)
set_option maxRecDepth 100000 in
set_option maxHeartbeats 12800000 in
theorem few_any (p : Pol) (v : Value) (w : World) (h1 : PolAt w w.heap.size v p) :
    Calls Tryd.prog 13 #[v] w fun e w' => e = .returned (.bool (fewB p)) ∧ Below w.heap.size w w' := by
  obtain ⟨vt, vr, vq, rfl, hrt, hrr, hrq⟩ := h1
  obtain ⟨At, ct, evt, ht⟩ := id hrt
  obtain ⟨Ar, cr, evr, hr⟩ := id hrr
  obtain ⟨Aq, cq, evq, hq⟩ := id hrq
  subst evt evr evq
  clear ht hr hq hrr hrq
  have RT := Lib.hid hrt
  obtain ⟨T, hT⟩ : ∃ T, p.typs.length = T := ⟨_, rfl⟩
  obtain ⟨R, hR⟩ : ∃ R, p.ruls.length = R := ⟨_, rfl⟩
  obtain ⟨Q, hQ⟩ : ∃ Q, p.quos.length = Q := ⟨_, rfl⟩
  obtain ⟨nm, hnm⟩ : ∃ n, p.name = n := ⟨_, rfl⟩
  have hF : Hid (fewB p = (!decide (100 < nm.size) && !decide (40 < T) && !decide (300 < R) && !decide (40 < Q) && p.typs.all fun t => !decide (100 < t.name.size))) := by
    unfold Hid fewB
    rw [hT, hR, hQ, hnm]
  have hTH := Lib.hid hT
  rw [hT, hR, hQ, hnm]
  clear hrt hT hR hQ hnm
  go_enter Tryd.func13, Tryd.ntmps13
  go_upto_region 1 with fail
  refine world_is (P := fun W => Code.wp _ _ _ _ W) (fun W0 hW0 => ?_)
  have B0 : Hid (Below w.heap.size w W0) := by unfold Hid; rw [← hW0]; exact (Below.refl _ _).alloc (Nat.le_refl _) _
  have X0 : Hid (Blk W0 w.heap.size 27 #[.string nm, .slice At T ct, .slice Ar R cr, .slice Aq Q cq]) := by unfold Hid; rw [← hW0]; exact Blk.new _ _ _
  have c0 := X0.out.cell 0
  have c1 := X0.out.cell 1
  have c2 := X0.out.cell 2
  have c3 := X0.out.cell 3
  clear hW0 X0
  by_cases b0 : 100 < nm.size
  · have d1 : decide (100 < nm.size) = true := decide_eq_true b0
    have d2 : decide ((100 : Int) < (nm.size : Int)) = true := decide_eq_true (by omega)
    rw [d1] at hF
    have hR2 : Hid (fewB p = false) := by unfold Hid; rw [hF.out]; simp
    clear b0 hF
    go_wp2_with fail
    go_ret
    exact ⟨by rw [hR2.out]; rfl, B0.out⟩
  have g0 : decide (100 < nm.size) = false := decide_eq_false b0
  have f0 : decide ((100 : Int) < (nm.size : Int)) = false := decide_eq_false (by omega)
  rw [g0] at hF
  by_cases b1 : 40 < T
  · have d1 : decide (40 < T) = true := decide_eq_true b1
    have d2 : decide ((40 : Int) < (T : Int)) = true := decide_eq_true (by omega)
    rw [d1] at hF
    have hR2 : Hid (fewB p = false) := by unfold Hid; rw [hF.out]; simp
    clear b1 hF
    go_wp2_with fail
    go_ret
    exact ⟨by rw [hR2.out]; rfl, B0.out⟩
  have g1 : decide (40 < T) = false := decide_eq_false b1
  have f1 : decide ((40 : Int) < (T : Int)) = false := decide_eq_false (by omega)
  rw [g1] at hF
  by_cases b2 : 300 < R
  · have d1 : decide (300 < R) = true := decide_eq_true b2
    have d2 : decide ((300 : Int) < (R : Int)) = true := decide_eq_true (by omega)
    rw [d1] at hF
    have hR2 : Hid (fewB p = false) := by unfold Hid; rw [hF.out]; simp
    clear b2 hF
    go_wp2_with fail
    go_ret
    exact ⟨by rw [hR2.out]; rfl, B0.out⟩
  have g2 : decide (300 < R) = false := decide_eq_false b2
  have f2 : decide ((300 : Int) < (R : Int)) = false := decide_eq_false (by omega)
  rw [g2] at hF
  by_cases b3 : 40 < Q
  · have d1 : decide (40 < Q) = true := decide_eq_true b3
    have d2 : decide ((40 : Int) < (Q : Int)) = true := decide_eq_true (by omega)
    rw [d1] at hF
    have hR2 : Hid (fewB p = false) := by unfold Hid; rw [hF.out]; simp
    clear b3 hF
    go_wp2_with fail
    go_ret
    exact ⟨by rw [hR2.out]; rfl, B0.out⟩
  have g3 : decide (40 < Q) = false := decide_eq_false b3
  have f3 : decide ((40 : Int) < (Q : Int)) = false := decide_eq_false (by omega)
  rw [g3] at hF
  have hF2 : Hid (fewB p = p.typs.all fun t => !decide (100 < t.name.size)) := by unfold Hid; rw [hF.out]; simp
  have hTb : T ≤ 40 := by omega
  clear b0 b1 b2 b3 hF
  go_wp2_with fail
  go_loopw [3] (fun v wr => ∃ i : Nat, v = .int .i64 i ∧ i ≤ T ∧ wr = W0 ∧ Hid (fewB p = (p.typs.drop i).all fun t => !decide (100 < t.name.size))) (fun v _ => T - (intOf v).toNat)
  case atStart => exact ⟨0, rfl, Nat.zero_le _, rfl, hF2.out⟩
  case round =>
  obtain ⟨i, rfl, hi, hwr, hE⟩ := hrel
  rw [hwr]
  clear hwr
  by_cases hlt : i < T
  · have d1 : decide (i < T) = true := decide_eq_true hlt
    have d2 : decide ((i : Int) < (T : Int)) = true := decide_eq_true (by omega)
    obtain ⟨t, ht⟩ : ∃ x, p.typs[i]? = some x := ⟨_, List.getElem?_eq_getElem (by rw [hTH.out]; exact hlt)⟩
    obtain ⟨rb, ro, rfl, hrb, y0, y1, y2⟩ := RT.out.typ i t ht
    have k0 := (B0.out.cell (p := ⟨rb, _, none⟩) hrb).trans y0
    have q0 : (0 : Int) ≤ (i : Int) := by omega
    have q1 : (i : Int) < (T : Int) := by omega
    have q2 : (T : Int) ≤ 40 := by omega
    have hltH := Lib.hid hlt
    have hstep : Hid ((p.typs.drop i).all (fun t => !decide (100 < t.name.size)) = (!decide (100 < t.name.size) && (p.typs.drop (i + 1)).all fun t => !decide (100 < t.name.size))) := by
      obtain ⟨h1, h2⟩ := List.getElem?_eq_some_iff.1 ht
      unfold Hid
      rw [List.drop_eq_getElem_cons h1, h2, List.all_cons]
    clear ht hlt y0 y1 y2
    by_cases hb : 100 < t.name.size
    · have d3 : decide (100 < t.name.size) = true := decide_eq_true hb
      have d4 : decide ((100 : Int) < (t.name.size : Int)) = true := decide_eq_true (by omega)
      rw [d3] at hstep
      clear hb
      go_wp2_with fail
      go_ret
      exact ⟨by rw [hE.out, hstep.out]; rfl, B0.out⟩
    · have d3 : decide (100 < t.name.size) = false := decide_eq_false hb
      have d4 : decide ((100 : Int) < (t.name.size : Int)) = false := decide_eq_false (by omega)
      rw [d3] at hstep
      clear hb
      go_wp2_with fail
      go_roundw
      case rel => exact ⟨i + 1, by go_num, hltH.out, trivial, by unfold Hid; rw [hE.out, hstep.out]; simp⟩
      case measure => have := hltH.out; simp [intOf]; omega
  · have d1 : decide (i < T) = false := decide_eq_false hlt
    have d2 : decide ((i : Int) < (T : Int)) = false := decide_eq_false (by omega)
    have hR2 : Hid (fewB p = true) := by
      unfold Hid
      rw [hE.out, List.drop_eq_nil_of_le (by rw [hTH.out]; omega)]
      rfl
    clear hlt
    go_wp2_with fail
    go_ret
    exact ⟨by rw [hR2.out]; rfl, B0.out⟩
end Go.Proofs.YtemhiiignamkjaaDoor
