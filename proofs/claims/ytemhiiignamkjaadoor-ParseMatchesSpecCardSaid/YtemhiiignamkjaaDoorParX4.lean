/-
  Layer 12 (parse), printing: printable.
-/
import Derived.Test.YtemhiiignamkjaaDoorParM2
import Derived.Deep.DeepCutAuto
import Derived.Deep.CutBlock
namespace Go.Proofs.YtemhiiignamkjaaDoor
open Go.RowKit LexP ParP
attribute [local go_sem] Oper.semAt_some

def InI (x : Int) : Prop := -9223372036854775808 ≤ x ∧ x ≤ 9223372036854775807
structure PolOk (p : Pol) : Prop where
  name : p.name.size ≤ maxLen
  typs : ∀ t ∈ p.typs, t.name.size ≤ maxLen ∧ InI t.flags ∧ InI t.life
  ruls : ∀ r ∈ p.ruls, InI r.kind ∧ InI r.a ∧ InI r.b
  quos : ∀ q ∈ p.quos, InI q.cmd ∧ InI q.count ∧ InI q.delay ∧ InI q.valid ∧ InI q.uses
  nt : p.typs.length ≤ 5000
  nr : p.ruls.length ≤ 5000
  nq : p.quos.length ≤ 5000
def typOk (seen : List ByteArray) (t : Typ) : Bool := isWordB t.name && !(memB t.name seen) && withinB 127 [t.flags] && withinB 1099511627776 [t.life]
def typsOk : List ByteArray → List Typ → Bool
  | _, [] => true
  | seen, t :: l => typOk seen t && typsOk (seen ++ [t.name]) l
def rulOk (n : Int) (r : Rul) : Bool := withinB 4 [wrap64 (r.kind - 1)] && withinB (n - 1) [r.a, r.b]
def quoOk (q : Quo) : Bool := !((wordN q.cmd).toList == []) && withinB 1099511627776 [q.count, q.delay, q.valid, q.uses]
/-- A policy that can be printed. -/
def printableB (p : Pol) : Bool := isWordB p.name && typsOk [] p.typs && p.ruls.all (rulOk p.typs.length) && p.quos.all quoOk
/-- What printable keeps: the boxed policy, and what lay there. -/
structure PEnv (w wr : World) (g : Nat) (nm vt vr vq : Value) : Prop where
  bel : Below w.heap.size w wr
  box : Blk wr g 27 #[nm, vt, vr, vq]
  ge : w.heap.size ≤ g
theorem PEnv.below {w w1 w2 : World} {g : Nat} {nm vt vr vq : Value} (h : PEnv w w1 g nm vt vr vq) (hB : Below w1.heap.size w1 w2) : PEnv w w2 g nm vt vr vq :=
  ⟨h.bel.trans (hB.mono h.bel.size), h.box.below hB h.box.lt, h.ge⟩
theorem PEnv.grown {w w1 w2 : World} {g m : Nat} {nm vt vr vq : Value} (h : PEnv w w1 g nm vt vr vq) (hG : w1.grownBy w2 (some m)) (hm : w.heap.size ≤ m) (hne : m ≠ g) : PEnv w w2 g nm vt vr vq :=
  ⟨h.bel.grown hG h.bel.size (fun k e => by cases e; exact hm), (hG.block g h.box.lt (fun e => hne (by cases e; rfl))).trans h.box, h.ge⟩
theorem withinB_nil (m : Int) : withinB m [] = true := rfl
set_option maxRecDepth 100000 in
set_option maxHeartbeats 12800000 in
theorem printable_any (p : Pol) (v : Value) (w : World) (hp : PolAt w w.heap.size v p) (hok : PolOk p) (hW : Tabs w) :
    Calls Tryd.prog 36 #[v] w fun e w' => e = .returned (.bool (printableB p)) ∧ Below w.heap.size w w' := by
  obtain ⟨vt, vr, vq, rfl, hrt, hrr, hrq⟩ := hp
  obtain ⟨At, ct, evt, ht⟩ := id hrt
  obtain ⟨Ar, cr, evr, hr⟩ := id hrr
  obtain ⟨Aq, cq, evq, hq⟩ := id hrq
  subst evt evr evq
  clear ht hr hq
  have RT := Lib.hid hrt
  have RR := Lib.hid hrr
  have RQ := Lib.hid hrq
  have OK := Lib.hid hok
  have HW := Lib.hid hW
  obtain ⟨T, hT⟩ : ∃ T, p.typs.length = T := ⟨_, rfl⟩
  obtain ⟨R, hR⟩ : ∃ R, p.ruls.length = R := ⟨_, rfl⟩
  obtain ⟨Q, hQ⟩ : ∃ Q, p.quos.length = Q := ⟨_, rfl⟩
  have hTb : T ≤ 100000 := by have := hok.nt; omega
  have hRb : R ≤ 100000 := by have := hok.nr; omega
  have hQb : Q ≤ 100000 := by have := hok.nq; omega
  have hTH := Lib.hid hT
  have hRH := Lib.hid hR
  have hQH := Lib.hid hQ
  rw [hT, hR, hQ]
  clear hrt hrr hrq hok hW hT hR hQ
  go_enter Tryd.func36, Tryd.ntmps36
  go_upto_region 1 with fail
  refine world_is (P := fun W => Code.wp _ _ _ _ W) (fun W0 hW0 => ?_)
  have E0 : Hid (PEnv w W0 w.heap.size (.string p.name) (.slice At T ct) (.slice Ar R cr) (.slice Aq Q cq)) := by
    subst hW0
    exact ⟨(Below.refl _ _).alloc (Nat.le_refl _) _, Blk.new _ _ _, Nat.le_refl _⟩
  obtain ⟨g, hg⟩ : ∃ g, w.heap.size = g := ⟨_, rfl⟩
  rw [show (PEnv w W0 w.heap.size (.string p.name) (.slice At T ct) (.slice Ar R cr) (.slice Aq Q cq)) = (PEnv w W0 g (.string p.name) (.slice At T ct) (.slice Ar R cr) (.slice Aq Q cq)) by rw [hg]] at E0
  rw [show Value.pointer (some ⟨w.heap.size, 0, none⟩) = Value.pointer (some ⟨g, 0, none⟩) by rw [hg]]
  clear hW0 hg
  have c0 : W0.cell? ⟨g, 0, none⟩ = some (.string p.name) := E0.out.box.cell 0
  have hmm := @run_makeMap Tryd.prog
  obtain ⟨bn, hbn⟩ : ∃ b, isWordB p.name = b := ⟨_, rfl⟩
  have hbnH := Lib.hid hbn
  have hIN := Lib.hid (fun W (h : Below w.heap.size w W) => isWord_any p.name W OK.out.name (HW.out.units.below h))
  rw [hbn] at hIN
  clear hbn
  go_upto_region 2 with (go_at_call 61; refine (hIN.out _ (by first | exact E0.out.bel | exact E0.out.bel.drew)).mono ?_; rintro e w1 ⟨rfl, hB1⟩; have E1 := Lib.hid (E0.out.below hB1); clear hB1)
  clear hmm hIN E0 c0
  refine world_is (P := fun W => Code.wp _ _ _ _ W) (fun W1 hW1 => ?_)
  have M1 : Hid (SetMap W1 w1.heap.size 0 []) := by subst hW1; exact setMap_new _
  have E2 : Hid (PEnv w W1 g (.string p.name) (.slice At T ct) (.slice Ar R cr) (.slice Aq Q cq)) := by subst hW1; exact E1.out.below ((Below.refl _ _).alloc (Nat.le_refl _) _)
  obtain ⟨mb, hmb⟩ : ∃ m, w1.heap.size = m := ⟨_, rfl⟩
  have hwm : Hid (w.heap.size ≤ mb) := by unfold Hid; rw [← hmb]; exact E1.out.bel.size
  rw [show (SetMap W1 w1.heap.size 0 []) = (SetMap W1 mb 0 []) by rw [hmb]] at M1
  rw [show (Value.map (some w1.heap.size)) = Value.map (some mb) by rw [hmb]]
  clear hW1 hmb E1
  have c1 : W1.cell? ⟨g, 1, none⟩ = some (.slice At T ct) := E2.out.box.cell 1
  go_wp2_with fail
  go_loopw [3, 18] (fun v3 v18 wr => ∃ (i : Nat) (ok : Bool), v18 = .int .i64 i ∧ v3 = .bool ok ∧ i ≤ T ∧ Hid ((isWordB p.name && typsOk [] p.typs) = (ok && typsOk ((p.typs.take i).map Typ.name) (p.typs.drop i))) ∧ Hid (PEnv w wr g (.string p.name) (.slice At T ct) (.slice Ar R cr) (.slice Aq Q cq)) ∧ Hid (SetMap wr mb i ((p.typs.take i).map Typ.name))) (fun _ v18 _ => T - (intOf v18).toNat)
  case atStart => exact ⟨0, bn, rfl, rfl, Nat.zero_le _, by unfold Hid; rw [hbnH.out]; rfl, E2.out, M1.out⟩
  case round =>
    clear E2 M1 c1
    obtain ⟨i, ok, rfl, rfl, hi, hE, EN, MP⟩ := hrel
    by_cases hlt : i < T
    · have d1 : decide (i < T) = true := decide_eq_true hlt
      have d2 : decide ((i : Int) < (T : Int)) = true := decide_eq_true (by omega)
      obtain ⟨t, ht⟩ : ∃ t, p.typs[i]? = some t := ⟨_, List.getElem?_eq_getElem (by rw [hTH.out]; exact hlt)⟩
      obtain ⟨rb, ro, rfl, hrb, y0, y1, y2⟩ := RT.out.typ i t ht
      have k0 := (EN.out.bel.cell (p := ⟨rb, _, none⟩) hrb).trans y0
      have k1 := (EN.out.bel.cell (p := ⟨rb, _, none⟩) hrb).trans y1
      have k2 := (EN.out.bel.cell (p := ⟨rb, _, none⟩) hrb).trans y2
      have htok := Lib.hid (OK.out.typs t (List.mem_of_getElem? ht))
      have hstep : Hid (typsOk ((p.typs.take i).map Typ.name) (p.typs.drop i) = (typOk ((p.typs.take i).map Typ.name) t && typsOk ((p.typs.take (i + 1)).map Typ.name) (p.typs.drop (i + 1)))) := by
        obtain ⟨h1, h2⟩ := List.getElem?_eq_some_iff.1 ht
        unfold Hid
        rw [List.drop_eq_getElem_cons h1, h2, typsOk, take_snoc ht, List.map_append]
        rfl
      have hsn : Hid ((p.typs.take (i + 1)).map Typ.name = (p.typs.take i).map Typ.name ++ [t.name]) := by
        unfold Hid
        rw [take_snoc ht, List.map_append]
        rfl
      have q0 : (0 : Int) ≤ (i : Int) := by omega
      have q1 : (i : Int) < (T : Int) := by omega
      have q2 : (T : Int) ≤ 100000 := by omega
      have hltH := Lib.hid hlt
      clear ht hlt y0 y1 y2
      obtain ⟨S, hS⟩ : ∃ S, (p.typs.take i).map Typ.name = S := ⟨_, rfl⟩
      rw [hS] at hE MP hstep hsn
      clear hS
      go_upto_region 5 with fail
      refine world_is (P := fun W => Code.wp _ _ _ _ W) (fun W2 hW2 => ?_)
      have hB2 : Below wr.heap.size wr W2 := by rw [← hW2]; exact (Below.refl _ _).alloc (Nat.le_refl _) _
      have EB : Hid (Blk W2 wr.heap.size 51 #[.string t.name, .int .i64 t.flags, .int .i64 t.life]) := by unfold Hid; rw [← hW2]; exact Blk.new _ _ _
      have EN2 := Lib.hid (EN.out.below hB2)
      have MP2 := Lib.hid (MP.out.below hB2)
      obtain ⟨a, ea⟩ : ∃ x, wr.heap.size = x := ⟨_, rfl⟩
      rw [ea] at EB ⊢
      clear hW2 hB2 EN MP k0 k1 k2 ea
      go_cut [3] (fun v3 wx => ∃ b, v3 = .bool b ∧ Hid (b = (ok && typOk S t)) ∧ Hid (Below W2.heap.size W2 wx))
      case first =>
        clear hE hstep hsn
        cases ok
        case false =>
          go_wp2_with fail
          go_meet
          exact ⟨false, rfl, rfl, Below.refl _ _⟩
        case true =>
          obtain ⟨bw, hbw⟩ : ∃ b, isWordB t.name = b := ⟨_, rfl⟩
          obtain ⟨bs, hbs⟩ : ∃ b, memB t.name S = b := ⟨_, rfl⟩
          obtain ⟨u1, hu1⟩ : ∃ b, withinB 127 [t.flags] = b := ⟨_, rfl⟩
          obtain ⟨u2, hu2⟩ : ∃ b, withinB 1099511627776 [t.life] = b := ⟨_, rfl⟩
          have hTO : Hid (typOk S t = (bw && !bs && u1 && u2)) := by unfold Hid typOk; rw [hbw, hbs, hu1, hu2]
          have hIN := Lib.hid (fun W (h : Below w.heap.size w W) => isWord_any t.name W htok.out.1 (HW.out.units.below h))
          rw [hbw] at hIN
          have hWI : Hid (∀ (W : World) (b : Nat) (m x : Int), Blk W b 3 #[.int .i64 x] → Calls Tryd.prog 62 #[.int .i64 m, .slice (some ⟨b, 0, none⟩) 1 1] W fun e w' => e = .returned (.bool (withinB m [x])) ∧ w' = W) := fun W b m x hb => within_any m [x] b 1 W hb (by simp)
          have hU1 := Lib.hid hu1
          have hU2 := Lib.hid hu2
          have hbsH := Lib.hid hbs
          have b0 : W2.cell? ⟨a, 0, none⟩ = some (.string t.name) := EB.out.cell 0
          clear hbw hbs hu1 hu2
          cases bw
          case false =>
            go_wp2_with (first | (go_at_call 61; refine (hIN.out _ (by first | exact EN2.out.bel | exact EN2.out.bel.drew)).mono ?_; rintro e w3 ⟨rfl, hB3⟩; have HB3 : Hid (Below W2.heap.size W2 w3) := hB3; have EB3 := Lib.hid (EB.out.below hB3 EB.out.lt); have hlook := (MP2.out.below hB3).look htok.out.1; rw [hbsH.out] at hlook; have f0 : w3.cell? ⟨a, 0, none⟩ = some (.string t.name) := EB3.out.cell 0; have f1 : w3.cell? ⟨a, 1, none⟩ = some (.int .i64 t.flags) := EB3.out.cell 1; have f2 : w3.cell? ⟨a, 2, none⟩ = some (.int .i64 t.life) := EB3.out.cell 2; clear hB3))
            go_meet
            exact ⟨false, rfl, by unfold Hid; rw [hTO.out]; rfl, HB3.out⟩
          case true =>
            cases bs
            case true =>
              go_wp2_with (first | (go_at_call 61; refine (hIN.out _ (by first | exact EN2.out.bel | exact EN2.out.bel.drew)).mono ?_; rintro e w3 ⟨rfl, hB3⟩; have HB3 : Hid (Below W2.heap.size W2 w3) := hB3; have EB3 := Lib.hid (EB.out.below hB3 EB.out.lt); have hlook := (MP2.out.below hB3).look htok.out.1; rw [hbsH.out] at hlook; have f0 : w3.cell? ⟨a, 0, none⟩ = some (.string t.name) := EB3.out.cell 0; have f1 : w3.cell? ⟨a, 1, none⟩ = some (.int .i64 t.flags) := EB3.out.cell 1; have f2 : w3.cell? ⟨a, 2, none⟩ = some (.int .i64 t.life) := EB3.out.cell 2; clear hB3))
              go_meet
              exact ⟨false, rfl, by unfold Hid; rw [hTO.out]; rfl, HB3.out⟩
            case false =>
              cases u1
              case false =>
                go_wp2_with (first | (go_at_call 61; refine (hIN.out _ (by first | exact EN2.out.bel | exact EN2.out.bel.drew)).mono ?_; rintro e w3 ⟨rfl, hB3⟩; have HB3 : Hid (Below W2.heap.size W2 w3) := hB3; have EB3 := Lib.hid (EB.out.below hB3 EB.out.lt); have hlook := (MP2.out.below hB3).look htok.out.1; rw [hbsH.out] at hlook; have f0 : w3.cell? ⟨a, 0, none⟩ = some (.string t.name) := EB3.out.cell 0; have f1 : w3.cell? ⟨a, 1, none⟩ = some (.int .i64 t.flags) := EB3.out.cell 1; have f2 : w3.cell? ⟨a, 2, none⟩ = some (.int .i64 t.life) := EB3.out.cell 2; clear hB3) | (go_at_call 62; refine (hWI.out _ _ _ _ (Blk.new _ _ _)).mono ?_; rintro e w4 ⟨rfl, hw4⟩; rw [hU1.out]; have HB4 : Hid (Below W2.heap.size W2 w4) := by { rw [hw4]; exact HB3.out.alloc HB3.out.size _ }; have EB4 := Lib.hid (EB.out.below HB4.out EB.out.lt); have g2 : w4.cell? ⟨a, 2, none⟩ = some (.int .i64 t.life) := EB4.out.cell 2; clear hw4 hU1))
                go_meet
                exact ⟨false, rfl, by unfold Hid; rw [hTO.out]; rfl, HB4.out⟩
              case true =>
                go_wp2_with (first | (go_at_call 61; refine (hIN.out _ (by first | exact EN2.out.bel | exact EN2.out.bel.drew)).mono ?_; rintro e w3 ⟨rfl, hB3⟩; have HB3 : Hid (Below W2.heap.size W2 w3) := hB3; have EB3 := Lib.hid (EB.out.below hB3 EB.out.lt); have hlook := (MP2.out.below hB3).look htok.out.1; rw [hbsH.out] at hlook; have f0 : w3.cell? ⟨a, 0, none⟩ = some (.string t.name) := EB3.out.cell 0; have f1 : w3.cell? ⟨a, 1, none⟩ = some (.int .i64 t.flags) := EB3.out.cell 1; have f2 : w3.cell? ⟨a, 2, none⟩ = some (.int .i64 t.life) := EB3.out.cell 2; clear hB3) | (go_at_call 62; refine (hWI.out _ _ _ _ (Blk.new _ _ _)).mono ?_; rintro e w4 ⟨rfl, hw4⟩; rw [hU1.out]; have HB4 : Hid (Below W2.heap.size W2 w4) := by { rw [hw4]; exact HB3.out.alloc HB3.out.size _ }; have EB4 := Lib.hid (EB.out.below HB4.out EB.out.lt); have g2 : w4.cell? ⟨a, 2, none⟩ = some (.int .i64 t.life) := EB4.out.cell 2; clear hw4 hU1) | (go_at_call 62; refine (hWI.out _ _ _ _ (Blk.new _ _ _)).mono ?_; rintro e w5 ⟨rfl, hw5⟩; rw [hU2.out]; have HB5 : Hid (Below W2.heap.size W2 w5) := by { rw [hw5]; exact HB4.out.alloc HB4.out.size _ }; clear hw5))
                go_meet
                exact ⟨u2, rfl, by unfold Hid; rw [hTO.out]; rfl, HB5.out⟩
      case rest =>
        obtain ⟨b, rfl, hb, hB3⟩ := hcut
        have MP3 := MP2.out.below hB3.out
        have EN3 := EN2.out.below hB3.out
        have EB3 := Lib.hid (EB.out.below hB3.out EB.out.lt)
        have f0 : wc.cell? ⟨a, 0, none⟩ = some (.string t.name) := EB3.out.cell 0
        obtain ⟨wu, hrun, hMu, hGu⟩ := MP3.put (Nat.lt_of_lt_of_le hltH.out (by omega)) htok.out.1
        have hMuH := Lib.hid hMu
        have ENu := Lib.hid (EN3.grown hGu hwm.out (MP3.ne EN3.box))
        clear MP3 EN3 hMu hGu
        go_wp2_with fail
        go_roundw
        case rel => exact ⟨i + 1, b, by go_num, rfl, hltH.out, by unfold Hid; rw [hE.out, hstep.out, hb.out, Bool.and_assoc], ENu.out, by unfold Hid; rw [hsn.out]; exact hMuH.out⟩
        case measure => have := hltH.out; simp [intOf]; omega
    · have d1 : decide (i < T) = false := decide_eq_false hlt
      have d2 : decide ((i : Int) < (T : Int)) = false := decide_eq_false (by omega)
      have hiT : i = T := Nat.le_antisymm hi (Nat.le_of_not_lt hlt)
      have hE1 : Hid ((isWordB p.name && typsOk [] p.typs) = ok) := by
        have h := hE.out
        rw [hiT, ← hTH.out, List.drop_length] at h
        unfold Hid
        rw [h, typsOk, Bool.and_true]
      have c2 : wr.cell? ⟨g, 2, none⟩ = some (.slice Ar R cr) := EN.out.box.cell 2
      clear hlt hiT hE MP
      obtain ⟨wo, rfl⟩ : ∃ x, x = wr := ⟨_, rfl⟩
      go_wp2_with fail
      go_loopw [3, 54] (fun v3 v54 wr => ∃ (j : Nat) (ok2 : Bool), v54 = .int .i64 j ∧ v3 = .bool ok2 ∧ j ≤ R ∧ Hid ((isWordB p.name && typsOk [] p.typs && p.ruls.all (rulOk T)) = (ok2 && (p.ruls.drop j).all (rulOk T))) ∧ Hid (PEnv w wr g (.string p.name) (.slice At T ct) (.slice Ar R cr) (.slice Aq Q cq))) (fun _ v54 _ => R - (intOf v54).toNat)
      case atStart => exact ⟨0, ok, rfl, rfl, Nat.zero_le _, by unfold Hid; rw [hE1.out]; rfl, EN.out⟩
      case round =>
        clear EN c2 hE1
        obtain ⟨j, ok2, rfl, rfl, hj, hF, EN⟩ := hrel
        by_cases hlt : j < R
        · have d1 : decide (j < R) = true := decide_eq_true hlt
          have d2 : decide ((j : Int) < (R : Int)) = true := decide_eq_true (by omega)
          obtain ⟨r, hr⟩ : ∃ r, p.ruls[j]? = some r := ⟨_, List.getElem?_eq_getElem (by rw [hRH.out]; exact hlt)⟩
          obtain ⟨rb, ro, rfl, hrb, y0, y1, y2⟩ := RR.out.rul j r hr
          have k0 := (EN.out.bel.cell (p := ⟨rb, _, none⟩) hrb).trans y0
          have k1 := (EN.out.bel.cell (p := ⟨rb, _, none⟩) hrb).trans y1
          have k2 := (EN.out.bel.cell (p := ⟨rb, _, none⟩) hrb).trans y2
          have hrok := Lib.hid (OK.out.ruls r (List.mem_of_getElem? hr))
          have hstep : Hid ((p.ruls.drop j).all (rulOk T) = (rulOk T r && (p.ruls.drop (j + 1)).all (rulOk T))) := by
            obtain ⟨h1, h2⟩ := List.getElem?_eq_some_iff.1 hr
            unfold Hid
            rw [List.drop_eq_getElem_cons h1, h2, List.all_cons]
          have q0 : (0 : Int) ≤ (j : Int) := by omega
          have q1 : (j : Int) < (R : Int) := by omega
          have q2 : (R : Int) ≤ 100000 := by omega
          have hltH := Lib.hid hlt
          clear hr hlt y0 y1 y2
          go_upto_block 3 with fail
          go_cut [3] (fun v3 wx => ∃ b, v3 = .bool b ∧ Hid (b = (ok2 && rulOk T r)) ∧ Hid (Below wr.heap.size wr wx))
          case first =>
            clear hF hstep
            go_upto_region 11 with fail
            refine world_is (P := fun W => Code.wp _ _ _ _ W) (fun W2 hW2 => ?_)
            have hB2 : Below wr.heap.size wr W2 := by rw [← hW2]; exact (Below.refl _ _).alloc (Nat.le_refl _) _
            have EB : Hid (Blk W2 wr.heap.size 53 #[.int .i64 r.kind, .int .i64 r.a, .int .i64 r.b]) := by unfold Hid; rw [← hW2]; exact Blk.new _ _ _
            have EN2 := Lib.hid (EN.out.below hB2)
            have HB2 : Hid (Below wr.heap.size wr W2) := hB2
            have hwW : Hid (wr.heap.size ≤ W2.heap.size) := hB2.size
            obtain ⟨a, ea⟩ : ∃ x, wr.heap.size = x := ⟨_, rfl⟩
            rw [ea] at EB ⊢
            clear hW2 hB2 EN k0 k1 k2 ea
            cases ok2
            case false =>
              go_wp2_with fail
              go_meet
              exact ⟨false, rfl, rfl, HB2.out⟩
            case true =>
              obtain ⟨u1, hu1⟩ : ∃ b, withinB 4 [wrap64 (r.kind - 1)] = b := ⟨_, rfl⟩
              obtain ⟨u2, hu2⟩ : ∃ b, withinB ((T : Int) - 1) [r.a, r.b] = b := ⟨_, rfl⟩
              have hTO : Hid (rulOk T r = (u1 && u2)) := by unfold Hid rulOk; rw [hu1, hu2]
              have hU1 := Lib.hid hu1
              have hU2 := Lib.hid hu2
              have hT1 : Hid (wrap64 ((T : Int) - 1) = (T : Int) - 1) := by unfold Hid; rw [wrap64]; omega
              have hWI : Hid (∀ (W : World) (b : Nat) (m x : Int), Blk W b 3 #[.int .i64 x] → Calls Tryd.prog 62 #[.int .i64 m, .slice (some ⟨b, 0, none⟩) 1 1] W fun e w' => e = .returned (.bool (withinB m [x])) ∧ w' = W) := fun W b m x hb => within_any m [x] b 1 W hb (by simp)
              have hWJ : Hid (∀ (W : World) (b : Nat) (m x y : Int), Blk W b 3 #[.int .i64 x, .int .i64 y] → Calls Tryd.prog 62 #[.int .i64 m, .slice (some ⟨b, 0, none⟩) 2 2] W fun e w' => e = .returned (.bool (withinB m [x, y])) ∧ w' = W) := fun W b m x y hb => within_any m [x, y] b 2 W hb (by simp)
              have f0 : W2.cell? ⟨a, 0, none⟩ = some (.int .i64 r.kind) := EB.out.cell 0
              clear hu1 hu2
              cases u1
              case false =>
                go_wp2_with (first | (go_at_call 62; refine (hWI.out _ _ _ _ (Blk.new _ _ _)).mono ?_; rintro e w4 ⟨rfl, hw4⟩; rw [hU1.out]; have HB4 : Hid (Below W2.heap.size W2 w4) := by { rw [hw4]; exact (Below.refl _ _).alloc (Nat.le_refl _) _ }; clear hw4))
                go_meet
                exact ⟨false, rfl, by unfold Hid; rw [hTO.out]; rfl, HB2.out.trans (HB4.out.mono hwW.out)⟩
              case true =>
                go_wp2_with (first | (have hmk := HB4; clear hmk; go_at_call 62; refine (hWJ.out _ _ _ _ _ (Blk.new _ _ _)).mono ?_; rintro e w5 ⟨rfl, hw5⟩; (try rw [hT1.out]); rw [hU2.out]; have HB5 : Hid (Below W2.heap.size W2 w5) := by { rw [hw5]; exact HB4.out.alloc HB4.out.size _ }; clear hw5) | (have hmk := hU1; clear hmk; go_at_call 62; refine (hWI.out _ _ _ _ (Blk.new _ _ _)).mono ?_; rintro e w4 ⟨rfl, hw4⟩; rw [hU1.out]; have HB4 : Hid (Below W2.heap.size W2 w4) := by { rw [hw4]; exact (Below.refl _ _).alloc (Nat.le_refl _) _ }; have EB4 := Lib.hid (EB.out.below HB4.out EB.out.lt); have g1 : w4.cell? ⟨a, 1, none⟩ = some (.int .i64 r.a) := EB4.out.cell 1; have g2 : w4.cell? ⟨a, 2, none⟩ = some (.int .i64 r.b) := EB4.out.cell 2; have g3 : w4.cell? ⟨g, 1, none⟩ = some (.slice At T ct) := (EN2.out.below HB4.out).box.cell 1; clear hw4 hU1))
                go_meet
                exact ⟨u2, rfl, by unfold Hid; rw [hTO.out]; rfl, HB2.out.trans (HB5.out.mono hwW.out)⟩
          case rest =>
            obtain ⟨b, rfl, hb, hB3⟩ := hcut
            have EN3 := Lib.hid (EN.out.below hB3.out)
            go_wp2_with fail
            go_roundw
            case rel => exact ⟨j + 1, b, by go_num, rfl, hltH.out, by unfold Hid; rw [hF.out, hstep.out, hb.out, Bool.and_assoc], EN3.out⟩
            case measure => have := hltH.out; simp [intOf]; omega
        · have d1 : decide (j < R) = false := decide_eq_false hlt
          have d2 : decide ((j : Int) < (R : Int)) = false := decide_eq_false (by omega)
          have hjR : j = R := Nat.le_antisymm hj (Nat.le_of_not_lt hlt)
          have hE2 : Hid ((isWordB p.name && typsOk [] p.typs && p.ruls.all (rulOk T)) = ok2) := by
            have h := hF.out
            rw [hjR, ← hRH.out, List.drop_length] at h
            unfold Hid
            rw [h, List.all_nil, Bool.and_true]
          have c3 : wr.cell? ⟨g, 3, none⟩ = some (.slice Aq Q cq) := EN.out.box.cell 3
          clear hlt hjR hF
          obtain ⟨wo2, rfl⟩ : ∃ x, x = wr := ⟨_, rfl⟩
          go_wp2_with fail
          go_loopw [3, 82] (fun v3 v82 wr => ∃ (m : Nat) (ok3 : Bool), v82 = .int .i64 m ∧ v3 = .bool ok3 ∧ m ≤ Q ∧ Hid ((isWordB p.name && typsOk [] p.typs && p.ruls.all (rulOk T) && p.quos.all quoOk) = (ok3 && (p.quos.drop m).all quoOk)) ∧ Hid (PEnv w wr g (.string p.name) (.slice At T ct) (.slice Ar R cr) (.slice Aq Q cq))) (fun _ v82 _ => Q - (intOf v82).toNat)
          case atStart => exact ⟨0, ok2, rfl, rfl, Nat.zero_le _, by unfold Hid; rw [hE2.out]; rfl, EN.out⟩
          case round =>
            clear EN c3 hE2
            obtain ⟨m, ok3, rfl, rfl, hm, hF, EN⟩ := hrel
            by_cases hlt : m < Q
            · have d1 : decide (m < Q) = true := decide_eq_true hlt
              have d2 : decide ((m : Int) < (Q : Int)) = true := decide_eq_true (by omega)
              obtain ⟨q, hq⟩ : ∃ q, p.quos[m]? = some q := ⟨_, List.getElem?_eq_getElem (by rw [hQH.out]; exact hlt)⟩
              obtain ⟨qb, qo, rfl, hqb, y0, y1, y2, y3, y4⟩ := RQ.out.quo m q hq
              have k0 := (EN.out.bel.cell (p := ⟨qb, _, none⟩) hqb).trans y0
              have k1 := (EN.out.bel.cell (p := ⟨qb, _, none⟩) hqb).trans y1
              have k2 := (EN.out.bel.cell (p := ⟨qb, _, none⟩) hqb).trans y2
              have k3 := (EN.out.bel.cell (p := ⟨qb, _, none⟩) hqb).trans y3
              have k4 := (EN.out.bel.cell (p := ⟨qb, _, none⟩) hqb).trans y4
              have hqok := Lib.hid (OK.out.quos q (List.mem_of_getElem? hq))
              have hstep : Hid ((p.quos.drop m).all quoOk = (quoOk q && (p.quos.drop (m + 1)).all quoOk)) := by
                obtain ⟨h1, h2⟩ := List.getElem?_eq_some_iff.1 hq
                unfold Hid
                rw [List.drop_eq_getElem_cons h1, h2, List.all_cons]
              have q0 : (0 : Int) ≤ (m : Int) := by omega
              have q1 : (m : Int) < (Q : Int) := by omega
              have q2 : (Q : Int) ≤ 100000 := by omega
              have hltH := Lib.hid hlt
              clear hq hlt y0 y1 y2 y3 y4
              go_upto_block 5 with fail
              go_cut [3] (fun v3 wx => ∃ b, v3 = .bool b ∧ Hid (b = (ok3 && quoOk q)) ∧ Hid (Below wr.heap.size wr wx))
              case first =>
                clear hF hstep
                go_upto_region 16 with fail
                refine world_is (P := fun W => Code.wp _ _ _ _ W) (fun W2 hW2 => ?_)
                have hB2 : Below wr.heap.size wr W2 := by rw [← hW2]; exact (Below.refl _ _).alloc (Nat.le_refl _) _
                have EB : Hid (Blk W2 wr.heap.size 55 #[.int .i64 q.cmd, .int .i64 q.count, .int .i64 q.delay, .int .i64 q.valid, .int .i64 q.uses]) := by unfold Hid; rw [← hW2]; exact Blk.new _ _ _
                have HB2 : Hid (Below wr.heap.size wr W2) := hB2
                have hwW : Hid (wr.heap.size ≤ W2.heap.size) := hB2.size
                have hBW : Hid (Below w.heap.size w W2) := (EN.out.below hB2).bel
                obtain ⟨a, ea⟩ : ∃ x, wr.heap.size = x := ⟨_, rfl⟩
                rw [ea] at EB ⊢
                clear hW2 hB2 EN k0 k1 k2 k3 k4 ea
                cases ok3
                case false =>
                  go_wp2_with fail
                  go_meet
                  exact ⟨false, rfl, rfl, HB2.out⟩
                case true =>
                  obtain ⟨uw, huw⟩ : ∃ b, ((wordN q.cmd).toList == []) = b := ⟨_, rfl⟩
                  obtain ⟨wd, hwd⟩ : ∃ b, wordN q.cmd = b := ⟨_, rfl⟩
                  obtain ⟨u2, hu2⟩ : ∃ b, withinB 1099511627776 [q.count, q.delay, q.valid, q.uses] = b := ⟨_, rfl⟩
                  have hTO : Hid (quoOk q = (!uw && u2)) := by unfold Hid quoOk; rw [huw, hu2]
                  have hU2 := Lib.hid hu2
                  rw [hwd] at huw
                  have hWD := Lib.hid (fun W (h : Below w.heap.size w W) => Word_any q.cmd hqok.out.1.1 hqok.out.1.2 W (HW.out.commands.below h))
                  rw [hwd] at hWD
                  have hWI : Hid (∀ (W : World) (b : Nat) (m x y z u : Int), Blk W b 3 #[.int .i64 x, .int .i64 y, .int .i64 z, .int .i64 u] → Calls Tryd.prog 62 #[.int .i64 m, .slice (some ⟨b, 0, none⟩) 4 4] W fun e w' => e = .returned (.bool (withinB m [x, y, z, u])) ∧ w' = W) := fun W b m x y z u hb => within_any m [x, y, z, u] b 4 W hb (by simp)
                  have f0 : W2.cell? ⟨a, 0, none⟩ = some (.int .i64 q.cmd) := EB.out.cell 0
                  clear hwd hu2
                  cases uw
                  case true =>
                    go_wp2_with (first | (go_at_call 16; refine (hWD.out _ (by first | exact hBW.out | exact hBW.out.drew)).mono ?_; rintro e w4 ⟨rfl, hb4⟩; have HB4 : Hid (Below W2.heap.size W2 w4) := hb4; clear hb4))
                    go_meet
                    exact ⟨false, rfl, by unfold Hid; rw [hTO.out]; rfl, HB2.out.trans (HB4.out.mono hwW.out)⟩
                  case false =>
                    go_wp2_with (first | (go_at_call 16; refine (hWD.out _ (by first | exact hBW.out | exact hBW.out.drew)).mono ?_; rintro e w4 ⟨rfl, hb4⟩; have HB4 : Hid (Below W2.heap.size W2 w4) := hb4; have EB4 := Lib.hid (EB.out.below hb4 EB.out.lt); have g1 : w4.cell? ⟨a, 1, none⟩ = some (.int .i64 q.count) := EB4.out.cell 1; have g2 : w4.cell? ⟨a, 2, none⟩ = some (.int .i64 q.delay) := EB4.out.cell 2; have g3 : w4.cell? ⟨a, 3, none⟩ = some (.int .i64 q.valid) := EB4.out.cell 3; have g4 : w4.cell? ⟨a, 4, none⟩ = some (.int .i64 q.uses) := EB4.out.cell 4; clear hb4) | (go_at_call 62; refine (hWI.out _ _ _ _ _ _ _ (Blk.new _ _ _)).mono ?_; rintro e w5 ⟨rfl, hw5⟩; rw [hU2.out]; have HB5 : Hid (Below W2.heap.size W2 w5) := by { rw [hw5]; exact HB4.out.alloc HB4.out.size _ }; clear hw5))
                    go_meet
                    exact ⟨u2, rfl, by unfold Hid; rw [hTO.out]; rfl, HB2.out.trans (HB5.out.mono hwW.out)⟩
              case rest =>
                obtain ⟨b, rfl, hb, hB3⟩ := hcut
                have EN3 := Lib.hid (EN.out.below hB3.out)
                go_wp2_with fail
                go_roundw
                case rel => exact ⟨m + 1, b, by go_num, rfl, hltH.out, by unfold Hid; rw [hF.out, hstep.out, hb.out, Bool.and_assoc], EN3.out⟩
                case measure => have := hltH.out; simp [intOf]; omega
            · have d1 : decide (m < Q) = false := decide_eq_false hlt
              have d2 : decide ((m : Int) < (Q : Int)) = false := decide_eq_false (by omega)
              have hmQ : m = Q := Nat.le_antisymm hm (Nat.le_of_not_lt hlt)
              have hE3 : Hid (printableB p = ok3) := by
                have h := hF.out
                rw [hmQ, ← hQH.out, List.drop_length] at h
                unfold Hid printableB
                rw [hTH.out, h, List.all_nil, Bool.and_true]
              clear hlt hmQ hF
              go_wp2_with fail
              go_ret
              exact ⟨by rw [hE3.out]; rfl, EN.out.bel⟩
end Go.Proofs.YtemhiiignamkjaaDoor
