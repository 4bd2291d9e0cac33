/-
  Layer 12 (parse), the specification: printable.
-/
import Derived.Test.YtemhiiignamkjaaDoorME
namespace Go.Proofs.YtemhiiignamkjaaDoor
open Go.RowKit LexP ParP
attribute [local go_sem] Oper.semAt_some

theorem rulOk_iff {T : Nat} {r : Rul} (h : InI r.kind) : rulOk (T : Int) r = true ↔ 1 ≤ r.kind ∧ r.kind ≤ 5 ∧ 0 ≤ r.a ∧ r.a < T ∧ 0 ≤ r.b ∧ r.b < T := by
  unfold rulOk
  rw [Bool.and_eq_true, withinB_iff, withinB_iff]
  unfold InI at h
  have hw : wrap64 (r.kind - 1) = r.kind - 1 ∨ (r.kind = -9223372036854775808 ∧ wrap64 (r.kind - 1) = 9223372036854775807) := by
    by_cases e : r.kind = -9223372036854775808
    · rw [e]
      exact .inr ⟨rfl, by kernel_rfl⟩
    · exact .inl (by rw [wrap64]; omega)
  constructor
  · rintro ⟨h1, h2⟩
    have a := h1 (wrap64 (r.kind - 1)) (by simp)
    have b := h2 r.a (by simp)
    have c := h2 r.b (by simp)
    omega
  · rintro ⟨h1, h2, h3, h4, h5, h6⟩
    refine ⟨fun x hx => ?_, fun x hx => ?_⟩
    · rw [List.mem_singleton.1 hx]
      omega
    · have hx : x = r.a ∨ x = r.b := by simpa using hx
      rcases hx with rfl | rfl <;> omega
theorem word_none {z : Int} : ((wordN z).toList == []) = !(decide (1 ≤ z) && decide (z ≤ 27)) := by
  by_cases h : 1 ≤ z ∧ z ≤ 27
  · obtain ⟨c, rfl⟩ : ∃ c : Nat, z = (c : Int) := ⟨z.toNat, by omega⟩
    rw [word_some (c := c) (by omega) (by omega), decide_eq_true h.1, decide_eq_true h.2]
    rfl
  · unfold wordN
    rw [if_neg h]
    have : (decide (1 ≤ z) && decide (z ≤ 27)) = false := by
      rw [Bool.and_eq_false_iff, decide_eq_false_iff_not, decide_eq_false_iff_not]
      omega
    have e : ((⟨#[]⟩ : ByteArray).toList == []) = true := by kernel_rfl
    rw [this, e]
    rfl
theorem quoOk_eq (q : Quo) : quoOk q = (decide (1 ≤ q.cmd) && decide (q.cmd ≤ 27) && withinB 1099511627776 [q.count] && withinB 1099511627776 [q.delay] && withinB 1099511627776 [q.valid] && withinB 1099511627776 [q.uses]) := by
  unfold quoOk
  rw [word_none, Bool.not_not]
  unfold withinB
  simp only [List.all_cons, List.all_nil, Bool.and_true, Bool.and_assoc]
theorem memB_take {l : List Typ} {i : Nat} {t : Typ} (h : l[i]? = some t) : memB t.name ((l.take i).map Typ.name) = decide (findI (l.map Typ.name) t.name < (i : Int)) := by
  have hi := (List.getElem?_eq_some_iff.1 h).1
  have hn : (l.map Typ.name)[i]? = some t.name := by rw [List.getElem?_map, h]; rfl
  have hf : findW (l.map Typ.name) t.name ≤ i := by
    unfold findW
    have h1 := (List.getElem?_eq_some_iff.1 hn)
    exact Nat.le_of_not_lt fun c => by
      have := List.not_of_lt_findIdx c
      rw [h1.2] at this
      simp at this
  have hI : findI (l.map Typ.name) t.name = (findW (l.map Typ.name) t.name : Int) := by
    unfold findI
    rw [if_pos (by rw [List.length_map]; omega)]
  rw [hI]
  by_cases c : findW (l.map Typ.name) t.name < i
  · rw [decide_eq_true (by omega)]
    unfold memB
    rw [List.any_eq_true]
    have hc : findW (l.map Typ.name) t.name < (l.map Typ.name).length := by rw [List.length_map]; omega
    refine ⟨(l.map Typ.name)[findW (l.map Typ.name) t.name], ?_, ?_⟩
    · rw [List.map_take]
      exact List.mem_iff_getElem.2 ⟨findW (l.map Typ.name) t.name, by rw [List.length_take]; omega, by rw [List.getElem_take]⟩
    · have := List.findIdx_getElem (p := fun x : ByteArray => x.toList == t.name.toList) (w := hc)
      exact decide_eq_true (text_eq_iff.1 this)
  · rw [decide_eq_false (by omega)]
    unfold memB
    rw [List.any_eq_false]
    intro x hx e
    have e := of_decide_eq_true e
    subst e
    rw [List.map_take] at hx
    obtain ⟨j, hj, ej⟩ := List.mem_iff_getElem.1 hx
    rw [List.length_take] at hj
    rw [List.getElem_take] at ej
    have h3 : findW (l.map Typ.name) t.name ≤ j := Nat.le_of_not_lt fun c2 => by
      have := List.not_of_lt_findIdx c2
      rw [ej] at this
      simp at this
    omega
set_option maxRecDepth 100000 in
set_option maxHeartbeats 12800000 in
theorem rprintable_any (p : Pol) (v : Value) (w : World) (hp : PolAt w w.heap.size v p) (hok : PolOk p) :
    Calls Tryd.prog 43 #[v] w fun e w' => e = .returned (.bool (printableB p)) ∧ Below w.heap.size w w' := by
  obtain ⟨vt, vr, vq, rfl, hrt, hrr, hrq⟩ := hp
  obtain ⟨At, ct, evt, ht⟩ := id hrt
  obtain ⟨Ar, cr, evr, hr⟩ := id hrr
  obtain ⟨Aq, cq, evq, hq⟩ := id hrq
  subst evt evr evq
  clear ht hr hq
  have RT := Lib.hid hrt
  have RR := Lib.hid hrr
  have RQ := Lib.hid hrq
  have OK := Lib.hid hok
  obtain ⟨T, hT⟩ : ∃ T, p.typs.length = T := ⟨_, rfl⟩
  obtain ⟨R, hR⟩ : ∃ R, p.ruls.length = R := ⟨_, rfl⟩
  obtain ⟨Q, hQ⟩ : ∃ Q, p.quos.length = Q := ⟨_, rfl⟩
  have hTb : T ≤ 5000 := by have := hok.nt; omega
  have hRb : R ≤ 5000 := by have := hok.nr; omega
  have hQb : Q ≤ 5000 := by have := hok.nq; omega
  have hTH := Lib.hid hT
  have hRH := Lib.hid hR
  have hQH := Lib.hid hQ
  rw [hT, hR, hQ]
  clear hrt hrr hrq hok hT hR hQ
  go_enter Tryd.func43, Tryd.ntmps43
  go_upto_region 1 with fail
  refine world_is (P := fun W => Code.wp _ _ _ _ W) (fun W0 hW0 => ?_)
  have E0 : Hid (PEnv w W0 w.heap.size (.string p.name) (.slice At T ct) (.slice Ar R cr) (.slice Aq Q cq)) := by
    unfold Hid
    rw [← hW0]
    exact ⟨(Below.refl _ _).alloc (Nat.le_refl _) _, Blk.new _ _ _, Nat.le_refl _⟩
  obtain ⟨g, hg⟩ : ∃ g, w.heap.size = g := ⟨_, rfl⟩
  rw [show (PEnv w W0 w.heap.size (.string p.name) (.slice At T ct) (.slice Ar R cr) (.slice Aq Q cq)) = (PEnv w W0 g (.string p.name) (.slice At T ct) (.slice Ar R cr) (.slice Aq Q cq)) by rw [hg]] at E0
  rw [show Value.pointer (some ⟨w.heap.size, 0, none⟩) = Value.pointer (some ⟨g, 0, none⟩) by rw [hg]]
  clear hW0 hg
  have c0 := E0.out.box.cell 0
  have HN := Lib.hid (rword_any p.name W0 OK.out.name)
  obtain ⟨bn, hbn⟩ : ∃ b, isWordB p.name = b := ⟨_, rfl⟩
  rw [hbn] at HN
  go_wp2_with fail
  refine HN.out.mono ?_
  rintro e w1 ⟨rfl, hB1⟩
  have E1 := Lib.hid (E0.out.below hB1)
  clear hB1 HN E0 c0
  cases bn
  case false =>
    have hR2 : Hid (printableB p = false) := by unfold Hid printableB; rw [hbn]; rfl
    clear hbn
    go_wp2_with fail
    go_ret
    exact ⟨by rw [hR2.out]; rfl, E1.out.bel⟩
  case true =>
  have hP1 : Hid (printableB p = (typsOk [] p.typs && p.ruls.all (rulOk T) && p.quos.all quoOk)) := by unfold Hid printableB; rw [hbn, hTH.out, Bool.true_and]
  clear hbn
  have c1 := E1.out.box.cell 1
  go_wp2_with fail
  go_loopw [4] (fun v4 wr => ∃ i : Nat, v4 = .int .i64 i ∧ i ≤ T ∧ Hid (printableB p = (typsOk ((p.typs.take i).map Typ.name) (p.typs.drop i) && p.ruls.all (rulOk T) && p.quos.all quoOk)) ∧ Hid (PEnv w wr g (.string p.name) (.slice At T ct) (.slice Ar R cr) (.slice Aq Q cq))) (fun v4 _ => T - (intOf v4).toNat)
  case atStart => exact ⟨0, rfl, Nat.zero_le _, hP1.out, E1.out⟩
  case round =>
  clear E1 c1 hP1
  obtain ⟨i, rfl, hi, hE, EN⟩ := hrel
  have c1 := EN.out.box.cell 1
  by_cases hlt : i < T
  · have d1 : decide (i < T) = true := decide_eq_true hlt
    have d2 : decide ((i : Int) < (T : Int)) = true := decide_eq_true (by omega)
    obtain ⟨t, ht⟩ : ∃ t, p.typs[i]? = some t := ⟨_, List.getElem?_eq_getElem (by rw [hTH.out]; exact hlt)⟩
    obtain ⟨rb, ro, rfl, hrb, y0, y1, y2⟩ := RT.out.typ i t ht
    have k0 := (EN.out.bel.cell (p := ⟨rb, _, none⟩) hrb).trans y0
    have k1 := (EN.out.bel.cell (p := ⟨rb, _, none⟩) hrb).trans y1
    have k2 := (EN.out.bel.cell (p := ⟨rb, _, none⟩) hrb).trans y2
    have htok := Lib.hid (OK.out.typs t (List.mem_of_getElem? ht))
    have hstep : Hid (typsOk ((p.typs.take i).map Typ.name) (p.typs.drop i) = (typOk ((p.typs.take i).map Typ.name) t && typsOk ((p.typs.take (i + 1)).map Typ.name) (p.typs.drop (i + 1)))) := by
      obtain ⟨h1, h2⟩ := List.getElem?_eq_some_iff.1 ht
      unfold Hid
      rw [List.drop_eq_getElem_cons h1, h2, typsOk, take_snoc ht, List.map_append]
      rfl
    have hmem := memB_take ht
    obtain ⟨fi, hfi⟩ : ∃ z, findI (p.typs.map Typ.name) t.name = z := ⟨_, rfl⟩
    rw [hfi] at hmem
    have hTO : Hid (typOk ((p.typs.take i).map Typ.name) t = (isWordB t.name && !(decide (fi < (i : Int))) && withinB 127 [t.flags] && withinB 1099511627776 [t.life])) := by unfold Hid typOk; rw [hmem]
    have HX := Lib.hid (fun W (h : Below w.heap.size w W) => rindex_any W w.heap.size (.slice (some ⟨rb, ro, none⟩) p.typs.length ct) p.typs t.name (by rw [hTH.out]; omega) (RT.out.below h))
    rw [hfi, hTH.out] at HX
    have q0 : (0 : Int) ≤ (i : Int) := by omega
    have q1 : (i : Int) < (T : Int) := by omega
    have q2 : (T : Int) ≤ 100000 := by omega
    have hltH := Lib.hid hlt
    clear ht hlt y0 y1 y2 hmem hfi
    obtain ⟨bw, hbw⟩ : ∃ b, isWordB t.name = b := ⟨_, rfl⟩
    obtain ⟨bf, hbf⟩ : ∃ b, decide (fi < (i : Int)) = b := ⟨_, rfl⟩
    obtain ⟨u1, hu1⟩ : ∃ b, withinB 127 [t.flags] = b := ⟨_, rfl⟩
    obtain ⟨u2, hu2⟩ : ∃ b, withinB 1099511627776 [t.life] = b := ⟨_, rfl⟩
    rw [hbw, hbf, hu1, hu2] at hTO
    have HN := Lib.hid (fun W => rword_any t.name W htok.out.1)
    rw [hbw] at HN
    clear hbw
    go_upto_region 8 with fail
    refine world_is (P := fun W => Code.wp _ _ _ _ W) (fun W2 hW2 => ?_)
    have hB2 : Below wr.heap.size wr W2 := by rw [← hW2]; exact (Below.refl _ _).alloc (Nat.le_refl _) _
    have EB : Hid (Blk W2 wr.heap.size 51 #[.string t.name, .int .i64 t.flags, .int .i64 t.life]) := by unfold Hid; rw [← hW2]; exact Blk.new _ _ _
    have EN2 := Lib.hid (EN.out.below hB2)
    obtain ⟨a, ea⟩ : ∃ x, wr.heap.size = x := ⟨_, rfl⟩
    rw [ea] at EB ⊢
    clear hW2 hB2 EN c1 k0 k1 k2 ea
    have b0 := EB.out.cell 0
    go_wp2_with fail
    refine (HN.out W2).mono ?_
    rintro e w3 ⟨rfl, hB3⟩
    have EN3 := Lib.hid (EN2.out.below hB3)
    have EB3 := Lib.hid (EB.out.below hB3 EB.out.lt)
    clear hB3 EN2 EB b0 HN
    have b0 := EB3.out.cell 0
    have b1 := EB3.out.cell 1
    have b2 := EB3.out.cell 2
    have c1 := EN3.out.box.cell 1
    have HXX := Lib.hid (HX.out w3 EN3.out.bel)
    clear HX
    cases bw
    case false =>
      have hR2 : Hid (printableB p = false) := by unfold Hid; rw [hE.out, hstep.out, hTO.out]; simp
      go_wp2_with (first | (go_at_call 35; refine HXX.out.mono ?_; rintro e w4 ⟨rfl, rfl⟩) | (go_at_call 66; refine (rwithin_any _ _ _).mono ?_; rintro e w4 ⟨rfl, rfl⟩))
      go_ret
      exact ⟨by rw [hR2.out]; rfl, EN3.out.bel⟩
    case true =>
    cases bf
    case true =>
      have hR2 : Hid (printableB p = false) := by unfold Hid; rw [hE.out, hstep.out, hTO.out]; simp
      go_wp2_with (first | (go_at_call 35; refine HXX.out.mono ?_; rintro e w4 ⟨rfl, rfl⟩) | (go_at_call 66; refine (rwithin_any _ _ _).mono ?_; rintro e w4 ⟨rfl, rfl⟩))
      go_ret
      exact ⟨by rw [hR2.out]; rfl, EN3.out.bel⟩
    case false =>
    cases u1
    case false =>
      have hR2 : Hid (printableB p = false) := by unfold Hid; rw [hE.out, hstep.out, hTO.out]; simp
      go_wp2_with (first | (go_at_call 35; refine HXX.out.mono ?_; rintro e w4 ⟨rfl, rfl⟩) | (go_at_call 66; refine (rwithin_any _ _ _).mono ?_; rintro e w4 ⟨rfl, rfl⟩))
      go_ret
      exact ⟨by rw [hR2.out]; rfl, EN3.out.bel⟩
    case true =>
    cases u2
    case false =>
      have hR2 : Hid (printableB p = false) := by unfold Hid; rw [hE.out, hstep.out, hTO.out]; simp
      go_wp2_with (first | (go_at_call 35; refine HXX.out.mono ?_; rintro e w4 ⟨rfl, rfl⟩) | (go_at_call 66; refine (rwithin_any _ _ _).mono ?_; rintro e w4 ⟨rfl, rfl⟩))
      go_ret
      exact ⟨by rw [hR2.out]; rfl, EN3.out.bel⟩
    case true =>
    have hE2 : Hid (printableB p = (typsOk ((p.typs.take (i + 1)).map Typ.name) (p.typs.drop (i + 1)) && p.ruls.all (rulOk T) && p.quos.all quoOk)) := by unfold Hid; rw [hE.out, hstep.out, hTO.out]; simp
    go_wp2_with (first | (go_at_call 35; refine HXX.out.mono ?_; rintro e w4 ⟨rfl, rfl⟩) | (go_at_call 66; refine (rwithin_any _ _ _).mono ?_; rintro e w4 ⟨rfl, rfl⟩))
    go_roundw
    case rel => exact ⟨i + 1, by go_num, hltH.out, hE2.out, EN3.out⟩
    case measure => have := hltH.out; simp [intOf]; omega
  · have d1 : decide (i < T) = false := decide_eq_false hlt
    have d2 : decide ((i : Int) < (T : Int)) = false := decide_eq_false (by omega)
    have hP2 : Hid (printableB p = (p.ruls.all (rulOk T) && p.quos.all quoOk)) := by
      have hiT : i = T := Nat.le_antisymm hi (Nat.le_of_not_lt hlt)
      unfold Hid
      rw [hE.out, hiT, ← hTH.out, List.drop_length, typsOk, Bool.true_and]
    have c2 := EN.out.box.cell 2
    clear hlt hE
    obtain ⟨wo, rfl⟩ : ∃ x, x = wr := ⟨_, rfl⟩
    go_wp2_with fail
    go_loopw [7] (fun v7 wr => ∃ j : Nat, v7 = .int .i64 j ∧ j ≤ R ∧ Hid (printableB p = ((p.ruls.drop j).all (rulOk T) && p.quos.all quoOk)) ∧ Hid (PEnv w wr g (.string p.name) (.slice At T ct) (.slice Ar R cr) (.slice Aq Q cq))) (fun v7 _ => R - (intOf v7).toNat)
    case atStart => exact ⟨0, rfl, Nat.zero_le _, hP2.out, EN.out⟩
    case round =>
    clear EN c2 hP2 c1
    obtain ⟨j, rfl, hj, hE, EN⟩ := hrel
    have c1 := EN.out.box.cell 1
    have c2 := EN.out.box.cell 2
    by_cases hlt : j < R
    · have d1 : decide (j < R) = true := decide_eq_true hlt
      have d2 : decide ((j : Int) < (R : Int)) = true := decide_eq_true (by omega)
      obtain ⟨r, hr⟩ : ∃ r, p.ruls[j]? = some r := ⟨_, List.getElem?_eq_getElem (by rw [hRH.out]; exact hlt)⟩
      obtain ⟨rb, ro, rfl, hrb, y0, y1, y2⟩ := RR.out.rul j r hr
      have k0 := (EN.out.bel.cell (p := ⟨rb, _, none⟩) hrb).trans y0
      have k1 := (EN.out.bel.cell (p := ⟨rb, _, none⟩) hrb).trans y1
      have k2 := (EN.out.bel.cell (p := ⟨rb, _, none⟩) hrb).trans y2
      have hiff := Lib.hid (rulOk_iff (T := T) (OK.out.ruls r (List.mem_of_getElem? hr)).1)
      have hstep : Hid ((p.ruls.drop j).all (rulOk T) = (rulOk T r && (p.ruls.drop (j + 1)).all (rulOk T))) := by
        obtain ⟨h1, h2⟩ := List.getElem?_eq_some_iff.1 hr
        unfold Hid
        rw [List.drop_eq_getElem_cons h1, h2, List.all_cons]
      have q0 : (0 : Int) ≤ (j : Int) := by omega
      have q1 : (j : Int) < (R : Int) := by omega
      have q2 : (R : Int) ≤ 100000 := by omega
      have hltH := Lib.hid hlt
      obtain ⟨kd, ka, kb⟩ := r
      dsimp only at k0 k1 k2 hiff
      clear hr hlt y0 y1 y2
      go_upto_region 15 with fail
      refine world_is (P := fun W => Code.wp _ _ _ _ W) (fun W2 hW2 => ?_)
      have hB2 : Below wr.heap.size wr W2 := by rw [← hW2]; exact (Below.refl _ _).alloc (Nat.le_refl _) _
      have EB : Hid (Blk W2 wr.heap.size 53 #[.int .i64 kd, .int .i64 ka, .int .i64 kb]) := by unfold Hid; rw [← hW2]; exact Blk.new _ _ _
      have EN2 := Lib.hid (EN.out.below hB2)
      obtain ⟨a, ea⟩ : ∃ x, wr.heap.size = x := ⟨_, rfl⟩
      rw [ea] at EB ⊢
      clear hW2 hB2 EN c1 c2 k0 k1 k2 ea
      have b0 := EB.out.cell 0
      have b1 := EB.out.cell 1
      have b2 := EB.out.cell 2
      have c1 := EN2.out.box.cell 1
      by_cases t0 : kd < 1
      · have s0 : decide (kd < 1) = true := decide_eq_true t0
        have hR2 : Hid (printableB p = false) := by
          have hf : rulOk T ⟨kd, ka, kb⟩ = false := Bool.eq_false_iff.2 fun e => by have := hiff.out.1 e; omega
          unfold Hid
          rw [hE.out, hstep.out, hf]
          rfl
        go_wp2_with fail
        go_ret
        exact ⟨by rw [hR2.out]; rfl, EN2.out.bel⟩
      have s0 : decide (kd < 1) = false := decide_eq_false t0
      have n0 : 1 ≤ kd := by omega
      by_cases t1 : 5 < kd
      · have s1 : decide (5 < kd) = true := decide_eq_true t1
        have hR2 : Hid (printableB p = false) := by
          have hf : rulOk T ⟨kd, ka, kb⟩ = false := Bool.eq_false_iff.2 fun e => by have := hiff.out.1 e; omega
          unfold Hid
          rw [hE.out, hstep.out, hf]
          rfl
        go_wp2_with fail
        go_ret
        exact ⟨by rw [hR2.out]; rfl, EN2.out.bel⟩
      have s1 : decide (5 < kd) = false := decide_eq_false t1
      have n1 : kd ≤ 5 := by omega
      by_cases t2 : ka < 0
      · have s2 : decide (ka < 0) = true := decide_eq_true t2
        have hR2 : Hid (printableB p = false) := by
          have hf : rulOk T ⟨kd, ka, kb⟩ = false := Bool.eq_false_iff.2 fun e => by have := hiff.out.1 e; omega
          unfold Hid
          rw [hE.out, hstep.out, hf]
          rfl
        go_wp2_with fail
        go_ret
        exact ⟨by rw [hR2.out]; rfl, EN2.out.bel⟩
      have s2 : decide (ka < 0) = false := decide_eq_false t2
      have n2 : 0 ≤ ka := by omega
      by_cases t3 : (T : Int) ≤ ka
      · have s3 : decide ((T : Int) ≤ ka) = true := decide_eq_true t3
        have hR2 : Hid (printableB p = false) := by
          have hf : rulOk T ⟨kd, ka, kb⟩ = false := Bool.eq_false_iff.2 fun e => by have := hiff.out.1 e; omega
          unfold Hid
          rw [hE.out, hstep.out, hf]
          rfl
        go_wp2_with fail
        go_ret
        exact ⟨by rw [hR2.out]; rfl, EN2.out.bel⟩
      have s3 : decide ((T : Int) ≤ ka) = false := decide_eq_false t3
      have n3 : ka < (T : Int) := by omega
      by_cases t4 : kb < 0
      · have s4 : decide (kb < 0) = true := decide_eq_true t4
        have hR2 : Hid (printableB p = false) := by
          have hf : rulOk T ⟨kd, ka, kb⟩ = false := Bool.eq_false_iff.2 fun e => by have := hiff.out.1 e; omega
          unfold Hid
          rw [hE.out, hstep.out, hf]
          rfl
        go_wp2_with fail
        go_ret
        exact ⟨by rw [hR2.out]; rfl, EN2.out.bel⟩
      have s4 : decide (kb < 0) = false := decide_eq_false t4
      have n4 : 0 ≤ kb := by omega
      by_cases t5 : (T : Int) ≤ kb
      · have s5 : decide ((T : Int) ≤ kb) = true := decide_eq_true t5
        have hR2 : Hid (printableB p = false) := by
          have hf : rulOk T ⟨kd, ka, kb⟩ = false := Bool.eq_false_iff.2 fun e => by have := hiff.out.1 e; omega
          unfold Hid
          rw [hE.out, hstep.out, hf]
          rfl
        go_wp2_with fail
        go_ret
        exact ⟨by rw [hR2.out]; rfl, EN2.out.bel⟩
      have s5 : decide ((T : Int) ≤ kb) = false := decide_eq_false t5
      have n5 : kb < (T : Int) := by omega
      have hE2 : Hid (printableB p = ((p.ruls.drop (j + 1)).all (rulOk T) && p.quos.all quoOk)) := by
        have hf : rulOk T ⟨kd, ka, kb⟩ = true := hiff.out.2 ⟨n0, n1, n2, n3, n4, n5⟩
        unfold Hid
        rw [hE.out, hstep.out, hf, Bool.true_and]
      go_wp2_with fail
      go_roundw
      case rel => exact ⟨j + 1, by go_num, hltH.out, hE2.out, EN2.out⟩
      case measure => have := hltH.out; simp [intOf]; omega
    · have d1 : decide (j < R) = false := decide_eq_false hlt
      have d2 : decide ((j : Int) < (R : Int)) = false := decide_eq_false (by omega)
      have hP3 : Hid (printableB p = p.quos.all quoOk) := by
        have hjR : j = R := Nat.le_antisymm hj (Nat.le_of_not_lt hlt)
        unfold Hid
        rw [hE.out, hjR, ← hRH.out, List.drop_length, List.all_nil, Bool.true_and]
      have c3 := EN.out.box.cell 3
      clear hlt hE
      obtain ⟨wo2, rfl⟩ : ∃ x, x = wr := ⟨_, rfl⟩
      go_wp2_with fail
      go_loopw [9] (fun v9 wr => ∃ m : Nat, v9 = .int .i64 m ∧ m ≤ Q ∧ Hid (printableB p = (p.quos.drop m).all quoOk) ∧ Hid (PEnv w wr g (.string p.name) (.slice At T ct) (.slice Ar R cr) (.slice Aq Q cq))) (fun v9 _ => Q - (intOf v9).toNat)
      case atStart => exact ⟨0, rfl, Nat.zero_le _, hP3.out, EN.out⟩
      case round =>
      clear EN c3 hP3 c1 c2
      obtain ⟨m, rfl, hm, hE, EN⟩ := hrel
      have c3 := EN.out.box.cell 3
      by_cases hlt : m < Q
      · have d1 : decide (m < Q) = true := decide_eq_true hlt
        have d2 : decide ((m : Int) < (Q : Int)) = true := decide_eq_true (by omega)
        obtain ⟨q, hq⟩ : ∃ q, p.quos[m]? = some q := ⟨_, List.getElem?_eq_getElem (by rw [hQH.out]; exact hlt)⟩
        obtain ⟨qb, qo, rfl, hqb, y0, y1, y2, y3, y4⟩ := RQ.out.quo m q hq
        have k0 := (EN.out.bel.cell (p := ⟨qb, _, none⟩) hqb).trans y0
        have k1 := (EN.out.bel.cell (p := ⟨qb, _, none⟩) hqb).trans y1
        have k2 := (EN.out.bel.cell (p := ⟨qb, _, none⟩) hqb).trans y2
        have k3 := (EN.out.bel.cell (p := ⟨qb, _, none⟩) hqb).trans y3
        have k4 := (EN.out.bel.cell (p := ⟨qb, _, none⟩) hqb).trans y4
        have hstep : Hid ((p.quos.drop m).all quoOk = (quoOk q && (p.quos.drop (m + 1)).all quoOk)) := by
          obtain ⟨h1, h2⟩ := List.getElem?_eq_some_iff.1 hq
          unfold Hid
          rw [List.drop_eq_getElem_cons h1, h2, List.all_cons]
        have hTO := Lib.hid (quoOk_eq q)
        have q0 : (0 : Int) ≤ (m : Int) := by omega
        have q1 : (m : Int) < (Q : Int) := by omega
        have q2 : (Q : Int) ≤ 100000 := by omega
        have hltH := Lib.hid hlt
        obtain ⟨cm, cn, cd, cv, cu⟩ := q
        dsimp only at k0 k1 k2 k3 k4 hTO
        obtain ⟨u1, hu1⟩ : ∃ b, withinB 1099511627776 [cn] = b := ⟨_, rfl⟩
        obtain ⟨u2, hu2⟩ : ∃ b, withinB 1099511627776 [cd] = b := ⟨_, rfl⟩
        obtain ⟨u3, hu3⟩ : ∃ b, withinB 1099511627776 [cv] = b := ⟨_, rfl⟩
        obtain ⟨u4, hu4⟩ : ∃ b, withinB 1099511627776 [cu] = b := ⟨_, rfl⟩
        rw [hu1, hu2, hu3, hu4] at hTO
        clear hq hlt y0 y1 y2 y3 y4
        go_upto_region 21 with fail
        refine world_is (P := fun W => Code.wp _ _ _ _ W) (fun W2 hW2 => ?_)
        have hB2 : Below wr.heap.size wr W2 := by rw [← hW2]; exact (Below.refl _ _).alloc (Nat.le_refl _) _
        have EB : Hid (Blk W2 wr.heap.size 55 #[.int .i64 cm, .int .i64 cn, .int .i64 cd, .int .i64 cv, .int .i64 cu]) := by unfold Hid; rw [← hW2]; exact Blk.new _ _ _
        have EN2 := Lib.hid (EN.out.below hB2)
        obtain ⟨a, ea⟩ : ∃ x, wr.heap.size = x := ⟨_, rfl⟩
        rw [ea] at EB ⊢
        clear hW2 hB2 EN c3 k0 k1 k2 k3 k4 ea
        have b0 := EB.out.cell 0
        have b1 := EB.out.cell 1
        have b2 := EB.out.cell 2
        have b3 := EB.out.cell 3
        have b4 := EB.out.cell 4
        by_cases t0 : cm < 1
        · have s0 : decide (cm < 1) = true := decide_eq_true t0
          have hR2 : Hid (printableB p = false) := by
            have hf : decide (1 ≤ cm) = false := decide_eq_false (by omega)
            unfold Hid
            rw [hE.out, hstep.out, hTO.out, hf]
            simp
          go_wp2_with (first | (go_at_call 66; refine (rwithin_any _ _ _).mono ?_; rintro e w4 ⟨rfl, rfl⟩))
          go_ret
          exact ⟨by rw [hR2.out]; rfl, EN2.out.bel⟩
        have s0 : decide (cm < 1) = false := decide_eq_false t0
        have n0 : decide (1 ≤ cm) = true := decide_eq_true (by omega)
        by_cases t1 : 27 < cm
        · have s1 : decide (27 < cm) = true := decide_eq_true t1
          have hR2 : Hid (printableB p = false) := by
            have hf : decide (cm ≤ 27) = false := decide_eq_false (by omega)
            unfold Hid
            rw [hE.out, hstep.out, hTO.out, hf]
            simp
          go_wp2_with (first | (go_at_call 66; refine (rwithin_any _ _ _).mono ?_; rintro e w4 ⟨rfl, rfl⟩))
          go_ret
          exact ⟨by rw [hR2.out]; rfl, EN2.out.bel⟩
        have s1 : decide (27 < cm) = false := decide_eq_false t1
        have n1 : decide (cm ≤ 27) = true := decide_eq_true (by omega)
        rw [n0, n1] at hTO
        cases u1
        case false =>
          have hR2 : Hid (printableB p = false) := by unfold Hid; rw [hE.out, hstep.out, hTO.out]; simp
          go_wp2_with (first | (go_at_call 66; refine (rwithin_any _ _ _).mono ?_; rintro e w4 ⟨rfl, rfl⟩))
          go_ret
          exact ⟨by rw [hR2.out]; rfl, EN2.out.bel⟩
        case true =>
        cases u2
        case false =>
          have hR2 : Hid (printableB p = false) := by unfold Hid; rw [hE.out, hstep.out, hTO.out]; simp
          go_wp2_with (first | (go_at_call 66; refine (rwithin_any _ _ _).mono ?_; rintro e w4 ⟨rfl, rfl⟩))
          go_ret
          exact ⟨by rw [hR2.out]; rfl, EN2.out.bel⟩
        case true =>
        cases u3
        case false =>
          have hR2 : Hid (printableB p = false) := by unfold Hid; rw [hE.out, hstep.out, hTO.out]; simp
          go_wp2_with (first | (go_at_call 66; refine (rwithin_any _ _ _).mono ?_; rintro e w4 ⟨rfl, rfl⟩))
          go_ret
          exact ⟨by rw [hR2.out]; rfl, EN2.out.bel⟩
        case true =>
        cases u4
        case false =>
          have hR2 : Hid (printableB p = false) := by unfold Hid; rw [hE.out, hstep.out, hTO.out]; simp
          go_wp2_with (first | (go_at_call 66; refine (rwithin_any _ _ _).mono ?_; rintro e w4 ⟨rfl, rfl⟩))
          go_ret
          exact ⟨by rw [hR2.out]; rfl, EN2.out.bel⟩
        case true =>
        have hE2 : Hid (printableB p = (p.quos.drop (m + 1)).all quoOk) := by unfold Hid; rw [hE.out, hstep.out, hTO.out]; simp
        go_wp2_with (first | (go_at_call 66; refine (rwithin_any _ _ _).mono ?_; rintro e w4 ⟨rfl, rfl⟩))
        go_roundw
        case rel => exact ⟨m + 1, by go_num, hltH.out, hE2.out, EN2.out⟩
        case measure => have := hltH.out; simp [intOf]; omega
      · have d1 : decide (m < Q) = false := decide_eq_false hlt
        have d2 : decide ((m : Int) < (Q : Int)) = false := decide_eq_false (by omega)
        have hR2 : Hid (printableB p = true) := by
          have hmQ : m = Q := Nat.le_antisymm hm (Nat.le_of_not_lt hlt)
          unfold Hid
          rw [hE.out, hmQ, ← hQH.out, List.drop_length, List.all_nil]
        clear hlt hE
        go_wp2_with fail
        go_ret
        exact ⟨by rw [hR2.out]; rfl, EN.out.bel⟩
end Go.Proofs.YtemhiiignamkjaaDoor
