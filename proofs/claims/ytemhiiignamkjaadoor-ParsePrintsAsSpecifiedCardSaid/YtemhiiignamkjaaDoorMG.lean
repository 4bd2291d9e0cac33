/-
  Layer 12 (parse), the specification: Print.
  Layer 12 (parse): the walk of the statement that Print, Word and Command do as specified.
-/
import Derived.Test.YtemhiiignamkjaaDoorParR4
import Derived.Test.YtemhiiignamkjaaDoorParX6
import Derived.Test.YtemhiiignamkjaaDoorParL1
namespace Go.Proofs.YtemhiiignamkjaaDoor
open Go.RowKit LexP ParP
attribute [local go_sem] Oper.semAt_some

theorem wpAnyH_more {P : Program} {md : Region.Mode} {ops : Array Oper} {Q : Exit → Act → World → Prop} {S S' : World → Prop} (h : ∀ w, S' w → S w) : ∀ (fuel : Nat) (listed : Array Bool) (a : Act) (w : World), wpAnyH P md ops Q S' fuel listed a w → wpAnyH P md ops Q S fuel listed a w
  | 0, _, _, _, H => H
  | fuel + 1, _, _, _, H => ⟨H.1, fun i hi => wpOp_mono (fun a' w' h' => ⟨h w' h'.1, wpAnyH_more h fuel _ a' w' h'.2⟩) (H.2 i hi)⟩
theorem cat_ex (S X : ByteArray) (h : S.size + X.size ≤ 1000000000) : ∃ U : ByteArray, (∀ wx, (Op.stringOp .add S X).run Tryd.prog wx = .ok (.string U) wx) ∧ U.data.toList = S.data.toList ++ X.data.toList ∧ U.size = S.size + X.size :=
  ⟨S ++ X, fun wx => run_string_add_sum wx _ _ (by omega), by rw [ByteArray.data_append, Array.toList_append], ByteArray.size_append⟩
theorem itoa_size (n : Nat) (h : n ≤ 1099511627776) : (⟨(Lib.itoa (n : Int)).toArray⟩ : ByteArray).size ≤ 21 := by
  show (Lib.itoa (n : Int)).toArray.size ≤ 21
  rw [List.size_toArray]
  exact Lib.itoa_length_le _ (by omega) (by omega)
theorem quo_bits {fl k : Nat} (hf : fl < 128) (hk : k < 7) : ((fl : Int) / ((2 ^ k : Nat) : Int)).tmod 2 = if fl.testBit k = true then 1 else 0 := by
  have h : ((List.range 128).all fun f => (List.range 7).all fun j => decide (((f : Int) / ((2 ^ j : Nat) : Int)).tmod 2 = if f.testBit j = true then 1 else 0)) = true := by kernel_rfl
  exact of_decide_eq_true (List.all_eq_true.1 (List.all_eq_true.1 h fl (List.mem_range.2 hf)) k (List.mem_range.2 hk))
set_option maxRecDepth 100000 in
set_option maxHeartbeats 12800000 in
theorem rPrint_any (p : Pol) (v : Value) (w : World) (hp : PolAt w w.heap.size v p) (hok : PolOk p) :
    Calls Tryd.prog 15 #[v] w fun e w' => e = .returned (.tuple #[.string (printP p).1, .int .i64 (printP p).2]) ∧ Below w.heap.size w w' := by
  obtain ⟨vt, vr, vq, rfl, hrt, hrr, hrq⟩ := id hp
  obtain ⟨At, ct, evt, ht⟩ := id hrt
  obtain ⟨Ar, cr, evr, hr⟩ := id hrr
  obtain ⟨Aq, cq, evq, hq⟩ := id hrq
  subst evt evr evq
  clear ht hr hq
  have HPR := Lib.hid (fun W (h : Below w.heap.size w W) => rprintable_any p _ W ((hp.below h).mono h.size) hok)
  have RT := Lib.hid hrt
  have RR := Lib.hid hrr
  have RQ := Lib.hid hrq
  have OK := Lib.hid hok
  obtain ⟨T, hT⟩ : ∃ T, p.typs.length = T := ⟨_, rfl⟩
  obtain ⟨R, hR⟩ : ∃ R, p.ruls.length = R := ⟨_, rfl⟩
  obtain ⟨Q, hQ⟩ : ∃ Q, p.quos.length = Q := ⟨_, rfl⟩
  have hTb : T ≤ 5000 := by have := hok.nt; omega
  have hRb : R ≤ 5000 := by have := hok.nr; omega
  have hQb : Q ≤ 5000 := by have := hok.nq; omega
  have hTH := Lib.hid hT
  have hRH := Lib.hid hR
  have hQH := Lib.hid hQ
  rw [hT, hR, hQ] at HPR ⊢
  clear hp hrt hrr hrq hT hR hQ
  go_enter Tryd.func15, Tryd.ntmps15
  go_upto_region 1 with fail
  refine world_is (P := fun W => Code.wp _ _ _ _ W) (fun W0 hW0 => ?_)
  have E0 : Hid (PEnv w W0 w.heap.size (.string p.name) (.slice At T ct) (.slice Ar R cr) (.slice Aq Q cq)) := by
    unfold Hid
    rw [← hW0]
    exact ⟨(Below.refl _ _).alloc (Nat.le_refl _) _, Blk.new _ _ _, Nat.le_refl _⟩
  obtain ⟨g, hg⟩ : ∃ g, w.heap.size = g := ⟨_, rfl⟩
  rw [show (PEnv w W0 w.heap.size (.string p.name) (.slice At T ct) (.slice Ar R cr) (.slice Aq Q cq)) = (PEnv w W0 g (.string p.name) (.slice At T ct) (.slice Ar R cr) (.slice Aq Q cq)) by rw [hg]] at E0
  rw [show Value.pointer (some ⟨w.heap.size, 0, none⟩) = Value.pointer (some ⟨g, 0, none⟩) by rw [hg]]
  clear hW0 hg
  have c0 := E0.out.box.cell 0
  have c1 := E0.out.box.cell 1
  have c2 := E0.out.box.cell 2
  have c3 := E0.out.box.cell 3
  obtain ⟨bp, hbp⟩ : ∃ b, printableB p = b := ⟨_, rfl⟩
  rw [hbp] at HPR
  go_wp2_with fail
  refine (HPR.out W0 E0.out.bel).mono ?_
  rintro e w1 ⟨rfl, hB1⟩
  have E1 := Lib.hid (E0.out.below hB1)
  clear hB1 E0 c0 c1 c2 c3 HPR
  cases bp
  case false =>
    have hres : Hid (printP p = (⟨#[]⟩, 1)) := by unfold Hid printP; rw [if_neg (by rw [hbp]; decide)]
    clear hbp
    go_wp2_with fail
    go_ret2
    exact ⟨by rw [hres.out]; rfl, E1.out.bel⟩
  case true =>
  have hPO := Lib.hid (prOk p hok hbp)
  have hres : Hid (printP p = if 4000 < (printL p).length then (⟨#[]⟩, 2) else (⟨(printL p).toArray⟩, 0)) := by unfold Hid printP; rw [if_pos hbp]
  clear hbp hok
  have c0 := E1.out.box.cell 0
  have c1 := E1.out.box.cell 1
  have hnm := hPO.out.name
  obtain ⟨U1, a1, l1, s1⟩ := cat_ex ⟨#[112, 111, 108, 105, 99, 121, 32]⟩ p.name (by show 7 + p.name.size ≤ _; omega)
  have s1 : U1.size = 7 + p.name.size := s1
  obtain ⟨U2, a2, l2, s2⟩ := cat_ex U1 ⟨#[32, 123, 10]⟩ (by show U1.size + 3 ≤ _; omega)
  have s2 : U2.size = U1.size + 3 := s2
  have hU2 : Hid (U2.data.toList = polHead p ++ (p.typs.take 0).flatMap typTxt) := by unfold Hid; rw [l2, l1]; simp [polHead, strL]
  have hs2 : Hid (U2.size ≤ 5000 + 5000 * 0) := by unfold Hid; omega
  clear l1 l2 s1 s2 hnm
  go_wp2_with fail
  go_loopw [5, 6] (fun v5 v6 wr => ∃ (S : ByteArray) (i : Nat), v5 = .string S ∧ v6 = .int .i64 i ∧ i ≤ T ∧ Hid (S.data.toList = polHead p ++ (p.typs.take i).flatMap typTxt) ∧ Hid (S.size ≤ 5000 + 5000 * i) ∧ Hid (PEnv w wr g (.string p.name) (.slice At T ct) (.slice Ar R cr) (.slice Aq Q cq))) (fun _ v6 _ => T - (intOf v6).toNat)
  case atStart => exact ⟨U2, 0, rfl, rfl, Nat.zero_le _, hU2.out, hs2.out, E1.out⟩
  case round =>
  clear E1 c0 c1 a1 a2 hU2 hs2
  obtain ⟨S, i, rfl, rfl, hi, hSl, hSs, EN⟩ := hrel
  have c1 := EN.out.box.cell 1
  by_cases hlt : i < T
  · have d1 : decide (i < T) = true := decide_eq_true hlt
    have d2 : decide ((i : Int) < (T : Int)) = true := decide_eq_true (by omega)
    obtain ⟨t, ht⟩ : ∃ t, p.typs[i]? = some t := ⟨_, List.getElem?_eq_getElem (by rw [hTH.out]; exact hlt)⟩
    obtain ⟨rb, ro, rfl, hrb, y0, y1, y2⟩ := RT.out.typ i t ht
    have htok := Lib.hid (hPO.out.typs t (List.mem_of_getElem? ht))
    obtain ⟨fl, hfl⟩ : ∃ fl : Nat, t.flags = (fl : Int) := ⟨t.flags.toNat, by have := htok.out.2.1; omega⟩
    obtain ⟨lf, hlf⟩ : ∃ lf : Nat, t.life = (lf : Int) := ⟨t.life.toNat, by have := htok.out.2.2.2.1; omega⟩
    have hfl7 : fl < 128 := by have := htok.out.2.2.1; omega
    have hlfb : Hid (lf ≤ 1099511627776) := by have := htok.out.2.2.2.2; unfold Hid; omega
    rw [hfl] at y1
    rw [hlf] at y2
    have k0 := (EN.out.bel.cell (p := ⟨rb, _, none⟩) hrb).trans y0
    have k1 := (EN.out.bel.cell (p := ⟨rb, _, none⟩) hrb).trans y1
    have k2 := (EN.out.bel.cell (p := ⟨rb, _, none⟩) hrb).trans y2
    have hsn := Lib.hid (flat_snoc typTxt ht)
    have hflH := Lib.hid hfl
    have hlfH := Lib.hid hlf
    have q0 : (0 : Int) ≤ (i : Int) := by omega
    have q1 : (i : Int) < (T : Int) := by omega
    have q2 : (T : Int) ≤ 100000 := by omega
    have hltH := Lib.hid hlt
    have hi5 : Hid (i < 5000) := by unfold Hid; omega
    obtain ⟨nt, hnt⟩ : ∃ n, t.name = n := ⟨_, rfl⟩
    have hnts : nt.size ≤ 4000 := by rw [← hnt]; exact htok.out.1
    rw [hnt] at k0
    have hntH := Lib.hid hnt
    clear ht hlt y0 y1 y2 hfl hlf hnt
    go_upto_region 9 with fail
    refine world_is (P := fun W => Code.wp _ _ _ _ W) (fun W2 hW2 => ?_)
    have hB2 : Below wr.heap.size wr W2 := by rw [← hW2]; exact (Below.refl _ _).alloc (Nat.le_refl _) _
    have EB : Hid (Blk W2 wr.heap.size 51 #[.string nt, .int .i64 (fl : Int), .int .i64 (lf : Int)]) := by unfold Hid; rw [← hW2]; exact Blk.new _ _ _
    have EN2 := Lib.hid (EN.out.below hB2)
    obtain ⟨a, ea⟩ : ∃ x, wr.heap.size = x := ⟨_, rfl⟩
    rw [ea] at EB ⊢
    clear hW2 hB2 EN c1 k0 k1 k2 ea
    have b0 := EB.out.cell 0
    have hS0 := hSs.out
    have hi0 := hi5.out
    obtain ⟨U1, a1, l1, s1⟩ := cat_ex S ⟨#[9, 116, 121, 112, 101, 32]⟩ (by show S.size + 6 ≤ _; omega)
    have s1 : U1.size = S.size + 6 := s1
    obtain ⟨U2, a2, l2, s2⟩ := cat_ex U1 nt (by omega)
    obtain ⟨U3, a3, l3, s3⟩ := cat_ex U2 ⟨#[32, 123, 32]⟩ (by show U2.size + 3 ≤ _; omega)
    have s3 : U3.size = U2.size + 3 := s3
    obtain ⟨H, hH⟩ : ∃ H, polHead p ++ (p.typs.take i).flatMap typTxt = H := ⟨_, rfl⟩
    rw [hH] at hSl
    have hHH := Lib.hid hH
    have hU3 : Hid (U3.data.toList = H ++ typHead t ++ flagsTxt (fl : Int) 0) := by unfold Hid; rw [l3, l2, l1, hSl.out, ← hntH.out]; simp [typHead, strL, flagsTxt]
    have hs3 : Hid (U3.size ≤ 5000 + 5000 * i + 4100 + 20 * 0) := by unfold Hid; omega
    clear l1 l2 l3 s1 s2 s3 hS0 hi0 hnts hH
    obtain ⟨wo, rfl⟩ : ∃ x, x = wr := ⟨_, rfl⟩
    go_wp2_with fail
    go_loopw [5, 8, 9] (fun v5 v8 v9 wr => ∃ (V : ByteArray) (k b : Nat), v5 = .string V ∧ v8 = .int .i64 (b : Int) ∧ v9 = .int .i64 k ∧ k ≤ 7 ∧ Hid (b = 2 ^ k) ∧ Hid (V.data.toList = H ++ typHead t ++ flagsTxt (fl : Int) k) ∧ Hid (V.size ≤ 5000 + 5000 * i + 4100 + 20 * k) ∧ Hid (PEnv w wr g (.string p.name) (.slice (some ⟨rb, ro, none⟩) T ct) (.slice Ar R cr) (.slice Aq Q cq)) ∧ Hid (Blk wr a 51 #[.string nt, .int .i64 (fl : Int), .int .i64 (lf : Int)])) (fun _ _ v9 _ => 7 - (intOf v9).toNat)
    case atStart => exact ⟨U3, 0, 1, rfl, rfl, rfl, Nat.zero_le _, rfl, hU3.out, hs3.out, EN2.out, EB.out⟩
    case round =>
    clear EN2 EB b0 a1 a2 a3 hU3 hs3
    obtain ⟨V, k, b, rfl, rfl, rfl, hk7, hb, hVl, hVs, EN, EB⟩ := hrel
    have b1 := EB.out.cell 1
    by_cases hkl : k < 7
    · have d1 : decide (k < 7) = true := decide_eq_true hkl
      have d2 : decide ((k : Int) < 7) = true := decide_eq_true (by omega)
      obtain ⟨z, hz⟩ : ∃ z, flagWords[k]? = some z := ⟨_, List.getElem?_eq_getElem hkl⟩
      have q0 : (0 : Int) ≤ (k : Int) := by omega
      have q1 : (k : Int) < 7 := by omega
      have hbb : 1 ≤ b ∧ b ≤ 64 := by
        rw [hb.out]
        exact ⟨Nat.one_le_two_pow, Nat.le_trans (Nat.pow_le_pow_right (by decide) (show k ≤ 6 by omega)) (by decide)⟩
      have n1 : ((b : Int) == 0) = false := by rw [beq_eq_false_iff_ne]; omega
      have n2 : ¬ (b : Int) = 0 := by omega
      have n3 : ¬ b = 0 := by omega
      obtain ⟨qn, hqn⟩ : ∃ q : Nat, fl / b = q := ⟨_, rfl⟩
      have r0 : (fl : Int) / (b : Int) = (qn : Int) := by rw [← hqn]; exact (Int.natCast_ediv fl b).symm
      have r1 : (fl : Int).tdiv (b : Int) = (qn : Int) := by rw [Int.tdiv_eq_ediv_of_nonneg (by omega)]; exact r0
      have r2h : Hid (wrap64 (qn : Int) = (qn : Int)) := by
        have : qn ≤ fl := by rw [← hqn]; exact Nat.div_le_self _ _
        unfold Hid
        rw [wrap64]
        omega
      have hqb := quo_bits hfl7 hkl
      rw [← hb.out, r0] at hqb
      obtain ⟨b2, hb2⟩ : ∃ c, 2 * b = c := ⟨_, rfl⟩
      have r3h : Hid (wrap64 (2 * (b : Int)) = (b2 : Int)) := by unfold Hid; rw [wrap64]; omega
      have r4 : 2 * (b : Int) = (b2 : Int) := by omega
      have r5h : Hid (wrap64 (b2 : Int) = (b2 : Int)) := by unfold Hid; rw [wrap64]; omega
      have hb2H : Hid (b2 = 2 ^ (k + 1)) := by unfold Hid; rw [← hb2, hb.out, Nat.pow_succ, Nat.mul_comm]
      have hzs : z.size ≤ 9 := by have h := flags_len k; rw [getD_of hz, strL_len] at h; exact h
      have hzH := Lib.hid hz
      have hklH := Lib.hid hkl
      have hV0 := hVs.out
      have hi0 := hi5.out
      obtain ⟨U1, a1, l1, s1⟩ := cat_ex V z (by omega)
      obtain ⟨U2, a2, l2, s2⟩ := cat_ex U1 ⟨#[59, 32]⟩ (by show U1.size + 2 ≤ _; omega)
      have s2 : U2.size = U1.size + 2 := s2
      have hU2s : Hid (U2.size ≤ 5000 + 5000 * i + 4100 + 20 * (k + 1)) := by unfold Hid; omega
      have hVs2 : Hid (V.size ≤ 5000 + 5000 * i + 4100 + 20 * (k + 1)) := by unfold Hid; omega
      have r2 := r2h.out
      have r3 := r3h.out
      have r5 := r5h.out
      clear hz hkl hqn hb2 hb hbb hzs hV0 hi0 s1 s2
      cases hbit : fl.testBit k
      case false =>
        rw [hbit, if_neg (by decide)] at hqb
        have hsn2 : Hid (flagsTxt (fl : Int) (k + 1) = flagsTxt (fl : Int) k) := by unfold Hid; rw [flags_snoc hzH.out (z := (fl : Int)) (b := false) hbit]; simp
        clear hbit l1 l2 a1 a2
        go_wp2_with fail
        go_roundw
        case rel => exact ⟨V, k + 1, b2, rfl, by rw [r5], by go_num, hklH.out, hb2H.out, by unfold Hid; rw [hsn2.out]; exact hVl.out, hVs2.out, EN.out, EB.out⟩
        case measure => have := hklH.out; simp [intOf]; omega
      case true =>
        rw [hbit, if_pos rfl] at hqb
        have hU2l : Hid (U2.data.toList = H ++ typHead t ++ flagsTxt (fl : Int) (k + 1)) := by unfold Hid; rw [flags_snoc hzH.out (z := (fl : Int)) (b := true) hbit, l2, l1, hVl.out]; simp [strL]
        clear hbit l1 l2
        go_wp2_with fail
        refine (rFlags_any wr).mono ?_
        rintro e w3 ⟨fb, rfl, hfb, hB3⟩
        have EN3 := Lib.hid (EN.out.below hB3)
        have EB3 := Lib.hid (EB.out.below hB3 EB.out.lt)
        have zc := blk_words hfb k z hzH.out
        rw [Nat.zero_add] at zc
        clear hfb hB3 EN EB b1
        go_wp2_with fail
        go_roundw
        case rel => exact ⟨U2, k + 1, b2, rfl, by rw [r5], by go_num, hklH.out, hb2H.out, hU2l.out, hU2s.out, EN3.out, EB3.out⟩
        case measure => have := hklH.out; simp [intOf]; omega
    · have d1 : decide (k < 7) = false := decide_eq_false hkl
      have d2 : decide ((k : Int) < 7) = false := decide_eq_false (by omega)
      have hk7e : k = 7 := by omega
      have hV7 : Hid (V.data.toList = H ++ typHead t ++ flagsTxt (fl : Int) 7) := by rw [hk7e] at hVl; exact hVl.out
      have hVs7 : V.size ≤ 5000 + 5000 * i + 4240 := by have := hVs.out; omega
      have b2 := EB.out.cell 2
      have hi0 := hi5.out
      clear hkl hk7e hVl hk7
      obtain ⟨wo2, rfl⟩ : ∃ x, x = wr := ⟨_, rfl⟩
      by_cases hl0 : 0 < lf
      · have d3 : decide (0 < lf) = true := decide_eq_true hl0
        have d4 : decide ((0 : Int) < (lf : Int)) = true := decide_eq_true (by omega)
        have d5 : (0 : Int) < (lf : Int) := by omega
        obtain ⟨D, hD⟩ : ∃ D : ByteArray, (⟨(Lib.itoa (lf : Int)).toArray⟩ : ByteArray) = D := ⟨_, rfl⟩
        have hDs : D.size ≤ 21 := by rw [← hD]; exact itoa_size lf hlfb.out
        have HD := Lib.hid (rdigits_any lf hlfb.out wo2)
        rw [hD] at HD
        obtain ⟨U1, a1, l1, s1⟩ := cat_ex V ⟨#[108, 105, 102, 101, 32]⟩ (by show V.size + 5 ≤ _; omega)
        have s1 : U1.size = V.size + 5 := s1
        obtain ⟨U2, a2, l2, s2⟩ := cat_ex U1 D (by omega)
        obtain ⟨U3, a3, l3, s3⟩ := cat_ex U2 ⟨#[59, 32]⟩ (by show U2.size + 2 ≤ _; omega)
        have s3 : U3.size = U2.size + 2 := s3
        obtain ⟨U4, a4, l4, s4⟩ := cat_ex U3 ⟨#[125, 10]⟩ (by show U3.size + 2 ≤ _; omega)
        have s4 : U4.size = U3.size + 2 := s4
        have hU4s : Hid (U4.size ≤ 5000 + 5000 * (i + 1)) := by unfold Hid; omega
        have hU4 : Hid (U4.data.toList = polHead p ++ (p.typs.take (i + 1)).flatMap typTxt) := by
          unfold Hid
          rw [l4, l3, l2, l1, hV7.out, ← hD, hsn.out, ← hHH.out]
          unfold typTxt lifeTxt
          rw [hflH.out, hlfH.out, if_pos d5]
          simp
        clear l1 l2 l3 l4 s1 s2 s3 s4 hD hDs hVs7 hi0 hl0
        go_wp2_with fail
        refine HD.out.mono ?_
        rintro e w3 ⟨rfl, hB3⟩
        have EN3 := Lib.hid (EN.out.below hB3)
        clear hB3 EN EB b2
        go_wp2_with fail
        go_roundw
        case rel => exact ⟨U4, i + 1, rfl, by go_num, hltH.out, hU4.out, hU4s.out, EN3.out⟩
        case measure => have := hltH.out; simp [intOf]; omega
      · have d3 : decide (0 < lf) = false := decide_eq_false hl0
        have d4 : decide ((0 : Int) < (lf : Int)) = false := decide_eq_false (by omega)
        have d5 : ¬ (0 : Int) < (lf : Int) := by omega
        have hlf0 : Hid (lf = 0) := by unfold Hid; omega
        obtain ⟨U4, a4, l4, s4⟩ := cat_ex V ⟨#[125, 10]⟩ (by show V.size + 2 ≤ _; omega)
        have s4 : U4.size = V.size + 2 := s4
        have hU4s : Hid (U4.size ≤ 5000 + 5000 * (i + 1)) := by unfold Hid; omega
        have hU4 : Hid (U4.data.toList = polHead p ++ (p.typs.take (i + 1)).flatMap typTxt) := by
          unfold Hid
          rw [l4, hV7.out, hsn.out, ← hHH.out]
          unfold typTxt lifeTxt
          rw [hflH.out, hlfH.out, if_neg d5]
          simp
        clear l4 s4 hVs7 hi0 hl0
        go_wp2_with fail
        go_roundw
        case rel => exact ⟨U4, i + 1, rfl, by go_num, hltH.out, hU4.out, hU4s.out, EN.out⟩
        case measure => have := hltH.out; simp [intOf]; omega
  · have d1 : decide (i < T) = false := decide_eq_false hlt
    have d2 : decide ((i : Int) < (T : Int)) = false := decide_eq_false (by omega)
    have hiT : i = T := Nat.le_antisymm hi (Nat.le_of_not_lt hlt)
    have hS1 : Hid (S.data.toList = polHead p ++ p.typs.flatMap typTxt ++ (p.ruls.take 0).flatMap (rulTxt p.typs)) := by
      unfold Hid
      rw [hSl.out, hiT, List.take_of_length_le (by rw [hTH.out]; exact Nat.le_refl _)]
      simp
    have hSs1 : Hid (S.size ≤ 25005000 + 9000 * 0) := by have := hSs.out; unfold Hid; omega
    have c2 := EN.out.box.cell 2
    obtain ⟨H1, hH1⟩ : ∃ H, polHead p ++ p.typs.flatMap typTxt = H := ⟨_, rfl⟩
    rw [hH1] at hS1
    have hH1H := Lib.hid hH1
    clear hlt hiT hSl hSs hH1
    obtain ⟨wo, rfl⟩ : ∃ x, x = wr := ⟨_, rfl⟩
    go_wp2_with fail
    go_loopw [5, 10] (fun v5 v10 wr => ∃ (S : ByteArray) (j : Nat), v5 = .string S ∧ v10 = .int .i64 j ∧ j ≤ R ∧ Hid (S.data.toList = H1 ++ (p.ruls.take j).flatMap (rulTxt p.typs)) ∧ Hid (S.size ≤ 25005000 + 9000 * j) ∧ Hid (PEnv w wr g (.string p.name) (.slice At T ct) (.slice Ar R cr) (.slice Aq Q cq))) (fun _ v10 _ => R - (intOf v10).toNat)
    case atStart => exact ⟨S, 0, rfl, rfl, Nat.zero_le _, hS1.out, hSs1.out, EN.out⟩
    case round =>
    clear EN c1 c2 hS1 hSs1
    obtain ⟨S, j, rfl, rfl, hj, hSl, hSs, EN⟩ := hrel
    have c2 := EN.out.box.cell 2
    by_cases hlt : j < R
    · have d1 : decide (j < R) = true := decide_eq_true hlt
      have d2 : decide ((j : Int) < (R : Int)) = true := decide_eq_true (by omega)
      obtain ⟨r, hr⟩ : ∃ r, p.ruls[j]? = some r := ⟨_, List.getElem?_eq_getElem (by rw [hRH.out]; exact hlt)⟩
      obtain ⟨rb, ro, rfl, hrb, y0, y1, y2⟩ := RR.out.rul j r hr
      have hrok := Lib.hid (hPO.out.ruls r (List.mem_of_getElem? hr))
      obtain ⟨kd, hkd⟩ : ∃ kd : Nat, r.kind = (kd : Int) + 1 := ⟨(r.kind - 1).toNat, by have := hrok.out.1; omega⟩
      obtain ⟨ia, hia⟩ : ∃ ia : Nat, r.a = (ia : Int) := ⟨r.a.toNat, by have := hrok.out.2.2.1; omega⟩
      obtain ⟨ib, hib⟩ : ∃ ib : Nat, r.b = (ib : Int) := ⟨r.b.toNat, by have := hrok.out.2.2.2.2.1; omega⟩
      have hk5 : kd < 5 := by have := hrok.out.2.1; omega
      have hiaT : ia < T := by have := hrok.out.2.2.2.1; rw [hTH.out] at this; omega
      have hibT : ib < T := by have := hrok.out.2.2.2.2.2; rw [hTH.out] at this; omega
      rw [hkd] at y0
      rw [hia] at y1
      rw [hib] at y2
      have k0 := (EN.out.bel.cell (p := ⟨rb, _, none⟩) hrb).trans y0
      have k1 := (EN.out.bel.cell (p := ⟨rb, _, none⟩) hrb).trans y1
      have k2 := (EN.out.bel.cell (p := ⟨rb, _, none⟩) hrb).trans y2
      obtain ⟨ta, hta⟩ : ∃ t, p.typs[ia]? = some t := ⟨_, List.getElem?_eq_getElem (by rw [hTH.out]; exact hiaT)⟩
      obtain ⟨tb, htb⟩ : ∃ t, p.typs[ib]? = some t := ⟨_, List.getElem?_eq_getElem (by rw [hTH.out]; exact hibT)⟩
      obtain ⟨tb0, to0, rfl, htb0, z0, _, _⟩ := RT.out.typ ia ta hta
      obtain ⟨tb1, to1, e1, _, z1, _, _⟩ := RT.out.typ ib tb htb
      cases e1
      have hZ0 := Lib.hid z0
      have hZ1 := Lib.hid z1
      obtain ⟨na, hna⟩ : ∃ n, ta.name = n := ⟨_, rfl⟩
      obtain ⟨nb, hnb⟩ : ∃ n, tb.name = n := ⟨_, rfl⟩
      rw [hna] at hZ0
      rw [hnb] at hZ1
      have hnas : na.size ≤ 4000 := by rw [← hna]; exact (hPO.out.typs ta (List.mem_of_getElem? hta)).1
      have hnbs : nb.size ≤ 4000 := by rw [← hnb]; exact (hPO.out.typs tb (List.mem_of_getElem? htb)).1
      have hnma : Hid (nameOf p.typs r.a = na) := by unfold Hid nameOf; rw [hia]; exact getD_of (by rw [List.getElem?_map]; show (p.typs[ia]?).map _ = _; rw [hta, ← hna]; rfl)
      have hnmb : Hid (nameOf p.typs r.b = nb) := by unfold Hid nameOf; rw [hib]; exact getD_of (by rw [List.getElem?_map]; show (p.typs[ib]?).map _ = _; rw [htb, ← hnb]; rfl)
      obtain ⟨z, hz⟩ : ∃ z, ruleWords[kd]? = some z := ⟨_, List.getElem?_eq_getElem hk5⟩
      have hzs : z.size ≤ 10 := by have h := rules_len kd; rw [getD_of hz, strL_len] at h; exact h
      have hzr : Hid (ruleWords.getD (r.kind.toNat - 1) ⟨#[]⟩ = z) := by unfold Hid; rw [hkd, show ((kd : Int) + 1).toNat - 1 = kd by omega]; exact getD_of hz
      have hsn := Lib.hid (flat_snoc (rulTxt p.typs) hr)
      have q0 : (0 : Int) ≤ (j : Int) := by omega
      have q1 : (j : Int) < (R : Int) := by omega
      have q2 : (R : Int) ≤ 100000 := by omega
      have hltH := Lib.hid hlt
      have hj0 : j < 5000 := by omega
      have hS0 := hSs.out
      obtain ⟨U1, a1, l1, s1⟩ := cat_ex S ⟨#[9]⟩ (by show S.size + 1 ≤ _; omega)
      have s1 : U1.size = S.size + 1 := s1
      obtain ⟨U2, a2, l2, s2⟩ := cat_ex U1 z (by omega)
      obtain ⟨U3, a3, l3, s3⟩ := cat_ex U2 ⟨#[32]⟩ (by show U2.size + 1 ≤ _; omega)
      have s3 : U3.size = U2.size + 1 := s3
      obtain ⟨U4, a4, l4, s4⟩ := cat_ex U3 na (by omega)
      obtain ⟨U5, a5, l5, s5⟩ := cat_ex U4 ⟨#[32, 45, 62, 32]⟩ (by show U4.size + 4 ≤ _; omega)
      have s5 : U5.size = U4.size + 4 := s5
      obtain ⟨U6, a6, l6, s6⟩ := cat_ex U5 nb (by omega)
      obtain ⟨U7, a7, l7, s7⟩ := cat_ex U6 ⟨#[59, 10]⟩ (by show U6.size + 2 ≤ _; omega)
      have s7 : U7.size = U6.size + 2 := s7
      have hU7s : Hid (U7.size ≤ 25005000 + 9000 * (j + 1)) := by unfold Hid; omega
      have hU7 : Hid (U7.data.toList = H1 ++ (p.ruls.take (j + 1)).flatMap (rulTxt p.typs)) := by
        unfold Hid
        rw [l7, l6, l5, l4, l3, l2, l1, hSl.out, hsn.out]
        unfold rulTxt
        rw [hzr.out, hnma.out, hnmb.out]
        simp [strL]
      have HZ0 := Lib.hid (fun W (h : Below w.heap.size w W) => (h.cell (p := ⟨tb0, _, none⟩) htb0).trans hZ0.out)
      have HZ1 := Lib.hid (fun W (h : Below w.heap.size w W) => (h.cell (p := ⟨tb0, _, none⟩) htb0).trans hZ1.out)
      have hzH := Lib.hid hz
      clear hr hlt y0 y1 y2 hkd hia hib hta htb hna hnb hz z0 z1 hZ0 hZ1 htb0 l1 l2 l3 l4 l5 l6 l7 s1 s2 s3 s4 s5 s6 s7 hnas hnbs hzs hS0 hj0 hSl hSs
      go_upto_region 24 with fail
      refine world_is (P := fun W => Code.wp _ _ _ _ W) (fun W2 hW2 => ?_)
      have hB2 : Below wr.heap.size wr W2 := by rw [← hW2]; exact (Below.refl _ _).alloc (Nat.le_refl _) _
      have EB : Hid (Blk W2 wr.heap.size 53 #[.int .i64 ((kd : Int) + 1), .int .i64 (ia : Int), .int .i64 (ib : Int)]) := by unfold Hid; rw [← hW2]; exact Blk.new _ _ _
      have EN2 := Lib.hid (EN.out.below hB2)
      obtain ⟨a, ea⟩ : ∃ x, wr.heap.size = x := ⟨_, rfl⟩
      rw [ea] at EB ⊢
      clear hW2 hB2 EN c2 k0 k1 k2 ea
      have qk1h : Hid (wrap64 ((kd : Int) + 1 - 1) = (kd : Int)) := by unfold Hid; rw [wrap64]; omega
      have qk2h : Hid (IntKind.i64.wrap (kd : Int) = (kd : Int)) := by unfold Hid; rw [IntKind.wrap_i64]; omega
      have p0 : (0 : Int) ≤ (kd : Int) := by omega
      have p1 : (kd : Int) < 5 := by omega
      have p2 : (0 : Int) ≤ (ia : Int) := by omega
      have p3 : (ia : Int) < (T : Int) := by omega
      have p4 : (0 : Int) ≤ (ib : Int) := by omega
      have p5 : (ib : Int) < (T : Int) := by omega
      have qk1 := qk1h.out
      have qk2 := qk2h.out
      clear hk5 hiaT hibT
      refine wp_region_held_drew (S := (fun w' => w'.cell? ⟨a, 0, none⟩ = some (.int .i64 ((kd : Int) + 1)) ∧ w'.cell? ⟨g, 1, none⟩ = some (.slice (some ⟨tb0, to0, none⟩) T ct) ∧ w'.cell? ⟨a, 1, none⟩ = some (.int .i64 (ia : Int)) ∧ w'.cell? ⟨tb0, to0 + ia * 3, none⟩ = some (.string na) ∧ w'.cell? ⟨a, 2, none⟩ = some (.int .i64 (ib : Int)) ∧ w'.cell? ⟨tb0, to0 + ib * 3, none⟩ = some (.string nb))) (by kernel_rfl) ⟨EB.out.cell 0, EN2.out.box.cell 1, EB.out.cell 1, HZ0.out W2 EN2.out.bel, EB.out.cell 2, HZ1.out W2 EN2.out.bel⟩ (fun hHeld => ?_)
      refine' wpAnyH_take (i := 0) (v := ?v0r) rfl (by kernel_rfl) (by kernel_rfl) (by kernel_rfl) (fun _ _ _ h => h) (Or.inl ⟨by rfl, ?hy0r⟩) hHeld ?rest0r
      case hy0r =>
        intro w hSw
        try dsimp only at hSw
        go_simp
        all_goals with_reducible rfl
      try simp only [Act.put, List.setIfInBounds_toArray, List.set_cons_zero, List.set_cons_succ, List.getElem_toArray, List.getElem_cons_zero]
      refine' wpAnyH_take (i := 1) (v := ?v1r) rfl (by kernel_rfl) (by kernel_rfl) (by kernel_rfl) (fun _ _ _ h => h) (Or.inl ⟨by rfl, ?hy1r⟩) hHeld ?rest1r
      case hy1r =>
        intro w hSw
        try dsimp only at hSw
        go_simp
        all_goals with_reducible rfl
      try simp only [Act.put, List.setIfInBounds_toArray, List.set_cons_zero, List.set_cons_succ, List.getElem_toArray, List.getElem_cons_zero, List.getElem_cons_succ]
      refine' wpAnyH_take (i := 3) (v := ?v3r) rfl (by kernel_rfl) (by kernel_rfl) (by kernel_rfl) (fun _ _ _ h => h) (Or.inl ⟨by rfl, ?hy3r⟩) hHeld ?rest3r
      case hy3r =>
        intro w hSw
        try dsimp only at hSw
        go_simp
        all_goals with_reducible rfl
      try simp only [Act.put, List.setIfInBounds_toArray, List.set_cons_zero, List.set_cons_succ, List.getElem_toArray, List.getElem_cons_zero, List.getElem_cons_succ]
      refine' wpAnyH_take (i := 4) (v := ?v4r) rfl (by kernel_rfl) (by kernel_rfl) (by kernel_rfl) (fun _ _ _ h => h) (Or.inl ⟨by rfl, ?hy4r⟩) hHeld ?rest4r
      case hy4r =>
        intro w hSw
        try dsimp only at hSw
        go_simp
        all_goals with_reducible rfl
      try simp only [Act.put, List.setIfInBounds_toArray, List.set_cons_zero, List.set_cons_succ, List.getElem_toArray, List.getElem_cons_zero, List.getElem_cons_succ]
      refine' wpAnyH_take (i := 5) (v := ?v5r) rfl (by kernel_rfl) (by kernel_rfl) (by kernel_rfl) (fun _ _ _ h => h) (Or.inl ⟨by rfl, ?hy5r⟩) hHeld ?rest5r
      case hy5r =>
        intro w hSw
        try dsimp only at hSw
        go_simp
        all_goals with_reducible rfl
      try simp only [Act.put, List.setIfInBounds_toArray, List.set_cons_zero, List.set_cons_succ, List.getElem_toArray, List.getElem_cons_zero, List.getElem_cons_succ]
      refine' wpAnyH_take (i := 10) (v := ?v10r) rfl (by kernel_rfl) (by kernel_rfl) (by kernel_rfl) (fun _ _ _ h => h) (Or.inl ⟨by rfl, ?hy10r⟩) hHeld ?rest10r
      case hy10r =>
        intro w hSw
        try dsimp only at hSw
        go_simp
        all_goals with_reducible rfl
      try simp only [Act.put, List.setIfInBounds_toArray, List.set_cons_zero, List.set_cons_succ, List.getElem_toArray, List.getElem_cons_zero, List.getElem_cons_succ]
      refine' wpAnyH_take (i := 11) (v := ?v11r) rfl (by kernel_rfl) (by kernel_rfl) (by kernel_rfl) (fun _ _ _ h => h) (Or.inl ⟨by rfl, ?hy11r⟩) hHeld ?rest11r
      case hy11r =>
        intro w hSw
        try dsimp only at hSw
        go_simp
        all_goals with_reducible rfl
      try simp only [Act.put, List.setIfInBounds_toArray, List.set_cons_zero, List.set_cons_succ, List.getElem_toArray, List.getElem_cons_zero, List.getElem_cons_succ]
      refine' wpAnyH_take (i := 12) (v := ?v12r) rfl (by kernel_rfl) (by kernel_rfl) (by kernel_rfl) (fun _ _ _ h => h) (Or.inl ⟨by rfl, ?hy12r⟩) hHeld ?rest12r
      case hy12r =>
        intro w hSw
        try dsimp only at hSw
        go_simp
        all_goals with_reducible rfl
      try simp only [Act.put, List.setIfInBounds_toArray, List.set_cons_zero, List.set_cons_succ, List.getElem_toArray, List.getElem_cons_zero, List.getElem_cons_succ]
      refine' wpAnyH_take (i := 13) (v := ?v13r) rfl (by kernel_rfl) (by kernel_rfl) (by kernel_rfl) (fun _ _ _ h => h) (Or.inl ⟨by rfl, ?hy13r⟩) hHeld ?rest13r
      case hy13r =>
        intro w hSw
        try dsimp only at hSw
        go_simp
        all_goals with_reducible rfl
      try simp only [Act.put, List.setIfInBounds_toArray, List.set_cons_zero, List.set_cons_succ, List.getElem_toArray, List.getElem_cons_zero, List.getElem_cons_succ]
      refine' wpAnyH_take (i := 14) (v := ?v14r) rfl (by kernel_rfl) (by kernel_rfl) (by kernel_rfl) (fun _ _ _ h => h) (Or.inl ⟨by rfl, ?hy14r⟩) hHeld ?rest14r
      case hy14r =>
        intro w hSw
        try dsimp only at hSw
        go_simp
        all_goals with_reducible rfl
      try simp only [Act.put, List.setIfInBounds_toArray, List.set_cons_zero, List.set_cons_succ, List.getElem_toArray, List.getElem_cons_zero, List.getElem_cons_succ]
      refine' wpAnyH_take (i := 15) (v := ?v15r) rfl (by kernel_rfl) (by kernel_rfl) (by kernel_rfl) (fun _ _ _ h => h) (Or.inl ⟨by rfl, ?hy15r⟩) hHeld ?rest15r
      case hy15r =>
        intro w hSw
        try dsimp only at hSw
        go_simp
        all_goals with_reducible rfl
      try simp only [Act.put, List.setIfInBounds_toArray, List.set_cons_zero, List.set_cons_succ, List.getElem_toArray, List.getElem_cons_zero, List.getElem_cons_succ]
      refine' wpAnyH_take (i := 16) (v := ?v16r) rfl (by kernel_rfl) (by kernel_rfl) (by kernel_rfl) (fun _ _ _ h => h) (Or.inl ⟨by rfl, ?hy16r⟩) hHeld ?rest16r
      case hy16r =>
        intro w hSw
        try dsimp only at hSw
        go_simp
        all_goals with_reducible rfl
      try simp only [Act.put, List.setIfInBounds_toArray, List.set_cons_zero, List.set_cons_succ, List.getElem_toArray, List.getElem_cons_zero, List.getElem_cons_succ]
      refine' wpAnyH_take (i := 19) (v := ?v19r) rfl (by kernel_rfl) (by kernel_rfl) (by kernel_rfl) (fun _ _ _ h => h) (Or.inl ⟨by rfl, ?hy19r⟩) hHeld ?rest19r
      case hy19r =>
        intro w hSw
        try dsimp only at hSw
        go_simp
        all_goals with_reducible rfl
      try simp only [Act.put, List.setIfInBounds_toArray, List.set_cons_zero, List.set_cons_succ, List.getElem_toArray, List.getElem_cons_zero, List.getElem_cons_succ]
      refine' wpAnyH_take (i := 20) (v := ?v20r) rfl (by kernel_rfl) (by kernel_rfl) (by kernel_rfl) (fun _ _ _ h => h) (Or.inl ⟨by rfl, ?hy20r⟩) hHeld ?rest20r
      case hy20r =>
        intro w hSw
        try dsimp only at hSw
        go_simp
        all_goals with_reducible rfl
      try simp only [Act.put, List.setIfInBounds_toArray, List.set_cons_zero, List.set_cons_succ, List.getElem_toArray, List.getElem_cons_zero, List.getElem_cons_succ]
      refine' wpAnyH_take (i := 21) (v := ?v21r) rfl (by kernel_rfl) (by kernel_rfl) (by kernel_rfl) (fun _ _ _ h => h) (Or.inl ⟨by rfl, ?hy21r⟩) hHeld ?rest21r
      case hy21r =>
        intro w hSw
        try dsimp only at hSw
        go_simp
        all_goals with_reducible rfl
      try simp only [Act.put, List.setIfInBounds_toArray, List.set_cons_zero, List.set_cons_succ, List.getElem_toArray, List.getElem_cons_zero, List.getElem_cons_succ]
      refine' wpAnyH_take (i := 22) (v := ?v22r) rfl (by kernel_rfl) (by kernel_rfl) (by kernel_rfl) (fun _ _ _ h => h) (Or.inl ⟨by rfl, ?hy22r⟩) hHeld ?rest22r
      case hy22r =>
        intro w hSw
        try dsimp only at hSw
        go_simp
        all_goals with_reducible rfl
      try simp only [Act.put, List.setIfInBounds_toArray, List.set_cons_zero, List.set_cons_succ, List.getElem_toArray, List.getElem_cons_zero, List.getElem_cons_succ]
      refine' wpAnyH_take (i := 23) (v := ?v23r) rfl (by kernel_rfl) (by kernel_rfl) (by kernel_rfl) (fun _ _ _ h => h) (Or.inl ⟨by rfl, ?hy23r⟩) hHeld ?rest23r
      case hy23r =>
        intro w hSw
        try dsimp only at hSw
        go_simp
        all_goals with_reducible rfl
      try simp only [Act.put, List.setIfInBounds_toArray, List.set_cons_zero, List.set_cons_succ, List.getElem_toArray, List.getElem_cons_zero, List.getElem_cons_succ]
      refine' wpAnyH_take (i := 24) (v := ?v24r) rfl (by kernel_rfl) (by kernel_rfl) (by kernel_rfl) (fun _ _ _ h => h) (Or.inl ⟨by rfl, ?hy24r⟩) hHeld ?rest24r
      case hy24r =>
        intro w hSw
        try dsimp only at hSw
        go_simp
        all_goals with_reducible rfl
      try simp only [Act.put, List.setIfInBounds_toArray, List.set_cons_zero, List.set_cons_succ, List.getElem_toArray, List.getElem_cons_zero, List.getElem_cons_succ]
      refine' wpAnyH_take (i := 25) (v := ?v25r) rfl (by kernel_rfl) (by kernel_rfl) (by kernel_rfl) (fun _ _ _ h => h) (Or.inl ⟨by rfl, ?hy25r⟩) hHeld ?rest25r
      case hy25r =>
        intro w hSw
        try dsimp only at hSw
        go_simp
        all_goals with_reducible rfl
      try simp only [Act.put, List.setIfInBounds_toArray, List.set_cons_zero, List.set_cons_succ, List.getElem_toArray, List.getElem_cons_zero, List.getElem_cons_succ]
      refine wpAnyH_ready (rs := [2]) (by kernel_rfl) (by simp) ?_
      refine AllReadyH.cons rfl (fun K hK => ?_) AllReadyH.nil
      go_simp
      go_at_call 31
      refine (rRules_any _).mono ?_
      rintro e w3 ⟨fb, rfl, hfb, hb3⟩
      have hB3 : Below W2.heap.size W2 w3 := ((Below.refl _ _).drew).trans hb3
      have EN3 := Lib.hid (EN2.out.below hB3)
      have EB3 := Lib.hid (EB.out.below hB3 EB.out.lt)
      have zc := blk_words hfb kd z hzH.out
      rw [Nat.zero_add] at zc
      have HS3 : Hid ((fun w' => w'.cell? ⟨a, 0, none⟩ = some (.int .i64 ((kd : Int) + 1)) ∧ w'.cell? ⟨g, 1, none⟩ = some (.slice (some ⟨tb0, to0, none⟩) T ct) ∧ w'.cell? ⟨a, 1, none⟩ = some (.int .i64 (ia : Int)) ∧ w'.cell? ⟨tb0, to0 + ia * 3, none⟩ = some (.string na) ∧ w'.cell? ⟨a, 2, none⟩ = some (.int .i64 (ib : Int)) ∧ w'.cell? ⟨tb0, to0 + ib * 3, none⟩ = some (.string nb)) w3) := ⟨EB3.out.cell 0, EN3.out.box.cell 1, EB3.out.cell 1, HZ0.out w3 EN3.out.bel, EB3.out.cell 2, HZ1.out w3 EN3.out.bel⟩
      clear hfb hb3 hB3
      refine hK.out _ _ ?_ (fun hHeld2 => ?_)
      · exact HS3.out
      clear hK K hHeld
      have hHeld := hHeld2
      clear hHeld2
      try simp only [Act.put, List.setIfInBounds_toArray, List.set_cons_zero, List.set_cons_succ, List.getElem_toArray, List.getElem_cons_zero, List.getElem_cons_succ]
      refine wpAnyH_more (S' := (fun w' => w'.cell? ⟨fb, kd, none⟩ = some (.string z) ∧ w'.cell? ⟨a, 0, none⟩ = some (.int .i64 ((kd : Int) + 1)) ∧ w'.cell? ⟨g, 1, none⟩ = some (.slice (some ⟨tb0, to0, none⟩) T ct) ∧ w'.cell? ⟨a, 1, none⟩ = some (.int .i64 (ia : Int)) ∧ w'.cell? ⟨tb0, to0 + ia * 3, none⟩ = some (.string na) ∧ w'.cell? ⟨a, 2, none⟩ = some (.int .i64 (ib : Int)) ∧ w'.cell? ⟨tb0, to0 + ib * 3, none⟩ = some (.string nb))) (fun _ h => h.2) _ _ _ _ ?_
      have hHeld2 := And.intro zc hHeld
      clear hHeld
      have hHeld := hHeld2
      clear hHeld2
      refine' wpAnyH_take (i := 6) (v := ?v6r) rfl (by kernel_rfl) (by kernel_rfl) (by kernel_rfl) (fun _ _ _ h => h) (Or.inl ⟨by rfl, ?hy6r⟩) hHeld ?rest6r
      case hy6r =>
        intro w hSw
        try dsimp only at hSw
        go_simp
        all_goals with_reducible rfl
      try simp only [Act.put, List.setIfInBounds_toArray, List.set_cons_zero, List.set_cons_succ, List.getElem_toArray, List.getElem_cons_zero, List.getElem_cons_succ]
      refine' wpAnyH_take (i := 7) (v := ?v7r) rfl (by kernel_rfl) (by kernel_rfl) (by kernel_rfl) (fun _ _ _ h => h) (Or.inl ⟨by rfl, ?hy7r⟩) hHeld ?rest7r
      case hy7r =>
        intro w hSw
        try dsimp only at hSw
        go_simp
        all_goals with_reducible rfl
      try simp only [Act.put, List.setIfInBounds_toArray, List.set_cons_zero, List.set_cons_succ, List.getElem_toArray, List.getElem_cons_zero, List.getElem_cons_succ]
      refine' wpAnyH_take (i := 8) (v := ?v8r) rfl (by kernel_rfl) (by kernel_rfl) (by kernel_rfl) (fun _ _ _ h => h) (Or.inl ⟨by rfl, ?hy8r⟩) hHeld ?rest8r
      case hy8r =>
        intro w hSw
        try dsimp only at hSw
        go_simp
        all_goals with_reducible rfl
      try simp only [Act.put, List.setIfInBounds_toArray, List.set_cons_zero, List.set_cons_succ, List.getElem_toArray, List.getElem_cons_zero, List.getElem_cons_succ]
      refine' wpAnyH_take (i := 9) (v := ?v9r) rfl (by kernel_rfl) (by kernel_rfl) (by kernel_rfl) (fun _ _ _ h => h) (Or.inl ⟨by rfl, ?hy9r⟩) hHeld ?rest9r
      case hy9r =>
        intro w hSw
        try dsimp only at hSw
        go_simp
        all_goals with_reducible rfl
      try simp only [Act.put, List.setIfInBounds_toArray, List.set_cons_zero, List.set_cons_succ, List.getElem_toArray, List.getElem_cons_zero, List.getElem_cons_succ]
      refine' wpAnyH_take (i := 17) (v := ?v17r) rfl (by kernel_rfl) (by kernel_rfl) (by kernel_rfl) (fun _ _ _ h => h) (Or.inl ⟨by rfl, ?hy17r⟩) hHeld ?rest17r
      case hy17r =>
        intro w hSw
        try dsimp only at hSw
        go_simp
        all_goals with_reducible rfl
      try simp only [Act.put, List.setIfInBounds_toArray, List.set_cons_zero, List.set_cons_succ, List.getElem_toArray, List.getElem_cons_zero, List.getElem_cons_succ]
      refine' wpAnyH_take (i := 18) (v := ?v18r) rfl (by kernel_rfl) (by kernel_rfl) (by kernel_rfl) (fun _ _ _ h => h) (Or.inl ⟨by rfl, ?hy18r⟩) hHeld ?rest18r
      case hy18r =>
        intro w hSw
        try dsimp only at hSw
        go_simp
        all_goals with_reducible rfl
      try simp only [Act.put, List.setIfInBounds_toArray, List.set_cons_zero, List.set_cons_succ, List.getElem_toArray, List.getElem_cons_zero, List.getElem_cons_succ]
      refine' wpAnyH_take (i := 26) (v := ?v26r) rfl (by kernel_rfl) (by kernel_rfl) (by kernel_rfl) (fun _ _ _ h => h) (Or.inl ⟨by rfl, ?hy26r⟩) hHeld ?rest26r
      case hy26r =>
        intro w hSw
        try dsimp only at hSw
        go_simp
        all_goals with_reducible rfl
      try simp only [Act.put, List.setIfInBounds_toArray, List.set_cons_zero, List.set_cons_succ, List.getElem_toArray, List.getElem_cons_zero, List.getElem_cons_succ]
      refine' wpAnyH_take (i := 27) (v := ?v27r) rfl (by kernel_rfl) (by kernel_rfl) (by kernel_rfl) (fun _ _ _ h => h) (Or.inl ⟨by rfl, ?hy27r⟩) hHeld ?rest27r
      case hy27r =>
        intro w hSw
        try dsimp only at hSw
        go_simp
        all_goals with_reducible rfl
      try simp only [Act.put, List.setIfInBounds_toArray, List.set_cons_zero, List.set_cons_succ, List.getElem_toArray, List.getElem_cons_zero, List.getElem_cons_succ]
      refine' wpAnyH_take (i := 28) (v := ?v28r) rfl (by kernel_rfl) (by kernel_rfl) (by kernel_rfl) (fun _ _ _ h => h) (Or.inl ⟨by rfl, ?hy28r⟩) hHeld ?rest28r
      case hy28r =>
        intro w hSw
        try dsimp only at hSw
        go_simp
        all_goals with_reducible rfl
      try simp only [Act.put, List.setIfInBounds_toArray, List.set_cons_zero, List.set_cons_succ, List.getElem_toArray, List.getElem_cons_zero, List.getElem_cons_succ]
      refine wpAnyH_done (by kernel_rfl) ?_ _
      clear hHeld
      go_wp2_with fail
      go_roundw
      case rel => exact ⟨U7, j + 1, rfl, by go_num, hltH.out, hU7.out, hU7s.out, EN3.out⟩
      case measure => have := hltH.out; simp [intOf]; omega
    · have d1 : decide (j < R) = false := decide_eq_false hlt
      have d2 : decide ((j : Int) < (R : Int)) = false := decide_eq_false (by omega)
      have hjR : j = R := Nat.le_antisymm hj (Nat.le_of_not_lt hlt)
      have hS2 : Hid (S.data.toList = H1 ++ p.ruls.flatMap (rulTxt p.typs) ++ (p.quos.take 0).flatMap quoTxt) := by
        unfold Hid
        rw [hSl.out, hjR, List.take_of_length_le (by rw [hRH.out]; exact Nat.le_refl _)]
        simp
      have hSs2 : Hid (S.size ≤ 70005000 + 300 * 0) := by have := hSs.out; unfold Hid; omega
      have c3 := EN.out.box.cell 3
      obtain ⟨H2, hH2⟩ : ∃ H, H1 ++ p.ruls.flatMap (rulTxt p.typs) = H := ⟨_, rfl⟩
      rw [hH2] at hS2
      have hH2H := Lib.hid hH2
      clear hlt hjR hSl hSs hH2
      obtain ⟨wo3, rfl⟩ : ∃ x, x = wr := ⟨_, rfl⟩
      go_wp2_with fail
      go_loopw [5, 12] (fun v5 v12 wr => ∃ (S : ByteArray) (m : Nat), v5 = .string S ∧ v12 = .int .i64 m ∧ m ≤ Q ∧ Hid (S.data.toList = H2 ++ (p.quos.take m).flatMap quoTxt) ∧ Hid (S.size ≤ 70005000 + 300 * m) ∧ Hid (PEnv w wr g (.string p.name) (.slice At T ct) (.slice Ar R cr) (.slice Aq Q cq))) (fun _ v12 _ => Q - (intOf v12).toNat)
      case atStart => exact ⟨S, 0, rfl, rfl, Nat.zero_le _, hS2.out, hSs2.out, EN.out⟩
      case round =>
      clear EN c2 c3 hS2 hSs2
      obtain ⟨S, m, rfl, rfl, hm, hSl, hSs, EN⟩ := hrel
      have c3 := EN.out.box.cell 3
      by_cases hlt : m < Q
      · have d1 : decide (m < Q) = true := decide_eq_true hlt
        have d2 : decide ((m : Int) < (Q : Int)) = true := decide_eq_true (by omega)
        obtain ⟨u, hu⟩ : ∃ u, p.quos[m]? = some u := ⟨_, List.getElem?_eq_getElem (by rw [hQH.out]; exact hlt)⟩
        obtain ⟨rb, ro, rfl, hrb, y0, y1, y2, y3, y4⟩ := RQ.out.quo m u hu
        have huok := Lib.hid (hPO.out.quos u (List.mem_of_getElem? hu))
        have hsn := Lib.hid (flat_snoc quoTxt hu)
        have hoo := Lib.hid (OK.out.quos u (List.mem_of_getElem? hu))
        obtain ⟨uc, hcn⟩ : ∃ n : Nat, u.count = (n : Int) := ⟨u.count.toNat, by have := huok.out.2.2.1.1; omega⟩
        obtain ⟨ud, hdn⟩ : ∃ n : Nat, u.delay = (n : Int) := ⟨u.delay.toNat, by have := huok.out.2.2.2.1.1; omega⟩
        obtain ⟨uv, hvn⟩ : ∃ n : Nat, u.valid = (n : Int) := ⟨u.valid.toNat, by have := huok.out.2.2.2.2.1.1; omega⟩
        obtain ⟨uu, hun⟩ : ∃ n : Nat, u.uses = (n : Int) := ⟨u.uses.toNat, by have := huok.out.2.2.2.2.2.1; omega⟩
        have bc : uc ≤ 1099511627776 := by have := huok.out.2.2.1.2; omega
        have bd : ud ≤ 1099511627776 := by have := huok.out.2.2.2.1.2; omega
        have bv : uv ≤ 1099511627776 := by have := huok.out.2.2.2.2.1.2; omega
        have bu : uu ≤ 1099511627776 := by have := huok.out.2.2.2.2.2.2; omega
        rw [hcn] at y1
        rw [hdn] at y2
        rw [hvn] at y3
        rw [hun] at y4
        have k0 := (EN.out.bel.cell (p := ⟨rb, _, none⟩) hrb).trans y0
        have k1 := (EN.out.bel.cell (p := ⟨rb, _, none⟩) hrb).trans y1
        have k2 := (EN.out.bel.cell (p := ⟨rb, _, none⟩) hrb).trans y2
        have k3 := (EN.out.bel.cell (p := ⟨rb, _, none⟩) hrb).trans y3
        have k4 := (EN.out.bel.cell (p := ⟨rb, _, none⟩) hrb).trans y4
        have HWD := Lib.hid (fun W => rWord_any u.cmd hoo.out.1 W)
        have hXs : (wordN u.cmd).size ≤ 12 := wordN_len u.cmd
        obtain ⟨X, hX⟩ : ∃ X, wordN u.cmd = X := ⟨_, rfl⟩
        rw [hX] at HWD hXs
        obtain ⟨D1, hD1⟩ : ∃ D : ByteArray, (⟨(Lib.itoa (uc : Int)).toArray⟩ : ByteArray) = D := ⟨_, rfl⟩
        obtain ⟨D2, hD2⟩ : ∃ D : ByteArray, (⟨(Lib.itoa (ud : Int)).toArray⟩ : ByteArray) = D := ⟨_, rfl⟩
        obtain ⟨D3, hD3⟩ : ∃ D : ByteArray, (⟨(Lib.itoa (uv : Int)).toArray⟩ : ByteArray) = D := ⟨_, rfl⟩
        obtain ⟨D4, hD4⟩ : ∃ D : ByteArray, (⟨(Lib.itoa (uu : Int)).toArray⟩ : ByteArray) = D := ⟨_, rfl⟩
        have t1 : D1.size ≤ 21 := by rw [← hD1]; exact itoa_size uc bc
        have t2 : D2.size ≤ 21 := by rw [← hD2]; exact itoa_size ud bd
        have t3 : D3.size ≤ 21 := by rw [← hD3]; exact itoa_size uv bv
        have t4 : D4.size ≤ 21 := by rw [← hD4]; exact itoa_size uu bu
        have HD1 := Lib.hid (fun W => rdigits_any uc bc W)
        have HD2 := Lib.hid (fun W => rdigits_any ud bd W)
        have HD3 := Lib.hid (fun W => rdigits_any uv bv W)
        have HD4 := Lib.hid (fun W => rdigits_any uu bu W)
        rw [hD1] at HD1
        rw [hD2] at HD2
        rw [hD3] at HD3
        rw [hD4] at HD4
        have q0 : (0 : Int) ≤ (m : Int) := by omega
        have q1 : (m : Int) < (Q : Int) := by omega
        have q2 : (Q : Int) ≤ 100000 := by omega
        have hltH := Lib.hid hlt
        have hm0 : m < 5000 := by omega
        have hS0 := hSs.out
        obtain ⟨U1, a1, l1, s1⟩ := cat_ex S ⟨#[9, 113, 117, 111, 114, 117, 109, 32]⟩ (by show S.size + 8 ≤ _; omega)
        have s1 : U1.size = S.size + 8 := s1
        obtain ⟨U2, a2, l2, s2⟩ := cat_ex U1 X (by omega)
        obtain ⟨U3, a3, l3, s3⟩ := cat_ex U2 ⟨#[32]⟩ (by show U2.size + 1 ≤ _; omega)
        have s3 : U3.size = U2.size + 1 := s3
        obtain ⟨U4, a4, l4, s4⟩ := cat_ex U3 D1 (by omega)
        have hU4 : Hid (U4.data.toList = H2 ++ (p.quos.take m).flatMap quoTxt ++ quoHead u) := by
          unfold Hid quoHead
          rw [l4, l3, l2, l1, hSl.out, ← hD1, hX, hcn]
          simp [strL]
        have hU4s : U4.size ≤ 70005000 + 300 * m + 50 := by omega
        have hdnH := Lib.hid hdn
        have hvnH := Lib.hid hvn
        have hunH := Lib.hid hun
        clear hu hlt y0 y1 y2 y3 y4 hcn hdn hvn hun bc bd bv bu hX hD1 hXs t1 l1 l2 l3 l4 s1 s2 s3 s4 hSl hSs
        go_upto_region 29 with fail
        refine world_is (P := fun W => Code.wp _ _ _ _ W) (fun W2 hW2 => ?_)
        have hB2 : Below wr.heap.size wr W2 := by rw [← hW2]; exact (Below.refl _ _).alloc (Nat.le_refl _) _
        have EB : Hid (Blk W2 wr.heap.size 55 #[.int .i64 u.cmd, .int .i64 (uc : Int), .int .i64 (ud : Int), .int .i64 (uv : Int), .int .i64 (uu : Int)]) := by unfold Hid; rw [← hW2]; exact Blk.new _ _ _
        have EN2 := Lib.hid (EN.out.below hB2)
        obtain ⟨a, ea⟩ : ∃ x, wr.heap.size = x := ⟨_, rfl⟩
        rw [ea] at EB ⊢
        clear hW2 hB2 EN c3 k0 k1 k2 k3 k4 ea
        refine wp_region_held_drew (S := (fun w' => w'.cell? ⟨a, 0, none⟩ = some (.int .i64 u.cmd) ∧ w'.cell? ⟨a, 1, none⟩ = some (.int .i64 (uc : Int)))) (by kernel_rfl) ⟨EB.out.cell 0, EB.out.cell 1⟩ (fun hHeld => ?_)
        refine' wpAnyH_take (i := 0) (v := ?v0q) rfl (by kernel_rfl) (by kernel_rfl) (by kernel_rfl) (fun _ _ _ h => h) (Or.inl ⟨by rfl, ?hy0q⟩) hHeld ?rest0q
        case hy0q =>
          intro w hSw
          try dsimp only at hSw
          go_simp
          all_goals with_reducible rfl
        try simp only [Act.put, List.setIfInBounds_toArray, List.set_cons_zero, List.set_cons_succ, List.getElem_toArray, List.getElem_cons_zero]
        refine' wpAnyH_take (i := 1) (v := ?v1q) rfl (by kernel_rfl) (by kernel_rfl) (by kernel_rfl) (fun _ _ _ h => h) (Or.inl ⟨by rfl, ?hy1q⟩) hHeld ?rest1q
        case hy1q =>
          intro w hSw
          try dsimp only at hSw
          go_simp
          all_goals with_reducible rfl
        try simp only [Act.put, List.setIfInBounds_toArray, List.set_cons_zero, List.set_cons_succ, List.getElem_toArray, List.getElem_cons_zero, List.getElem_cons_succ]
        refine' wpAnyH_take (i := 2) (v := ?v2q) rfl (by kernel_rfl) (by kernel_rfl) (by kernel_rfl) (fun _ _ _ h => h) (Or.inl ⟨by rfl, ?hy2q⟩) hHeld ?rest2q
        case hy2q =>
          intro w hSw
          try dsimp only at hSw
          go_simp
          all_goals with_reducible rfl
        try simp only [Act.put, List.setIfInBounds_toArray, List.set_cons_zero, List.set_cons_succ, List.getElem_toArray, List.getElem_cons_zero, List.getElem_cons_succ]
        refine' wpAnyH_take (i := 3) (v := ?v3q) rfl (by kernel_rfl) (by kernel_rfl) (by kernel_rfl) (fun _ _ _ h => h) (Or.inl ⟨by rfl, ?hy3q⟩) hHeld ?rest3q
        case hy3q =>
          intro w hSw
          try dsimp only at hSw
          go_simp
          all_goals with_reducible rfl
        try simp only [Act.put, List.setIfInBounds_toArray, List.set_cons_zero, List.set_cons_succ, List.getElem_toArray, List.getElem_cons_zero, List.getElem_cons_succ]
        refine' wpAnyH_take (i := 7) (v := ?v7q) rfl (by kernel_rfl) (by kernel_rfl) (by kernel_rfl) (fun _ _ _ h => h) (Or.inl ⟨by rfl, ?hy7q⟩) hHeld ?rest7q
        case hy7q =>
          intro w hSw
          try dsimp only at hSw
          go_simp
          all_goals with_reducible rfl
        try simp only [Act.put, List.setIfInBounds_toArray, List.set_cons_zero, List.set_cons_succ, List.getElem_toArray, List.getElem_cons_zero, List.getElem_cons_succ]
        refine' wpAnyH_take (i := 8) (v := ?v8q) rfl (by kernel_rfl) (by kernel_rfl) (by kernel_rfl) (fun _ _ _ h => h) (Or.inl ⟨by rfl, ?hy8q⟩) hHeld ?rest8q
        case hy8q =>
          intro w hSw
          try dsimp only at hSw
          go_simp
          all_goals with_reducible rfl
        try simp only [Act.put, List.setIfInBounds_toArray, List.set_cons_zero, List.set_cons_succ, List.getElem_toArray, List.getElem_cons_zero, List.getElem_cons_succ]
        refine wpAnyH_ready (rs := [4]) (by kernel_rfl) (by simp) ?_
        refine AllReadyH.cons rfl (fun K hK => ?_) AllReadyH.nil
        go_simp
        go_at_call 17
        refine (HWD.out _).mono ?_
        rintro e w3 ⟨rfl, hb3⟩
        have hB3 : Below W2.heap.size W2 w3 := ((Below.refl _ _).drew).trans hb3
        have EN3 := Lib.hid (EN2.out.below hB3)
        have EB3 := Lib.hid (EB.out.below hB3 EB.out.lt)
        clear hb3 hB3
        refine hK.out _ _ ?_ (fun hHeld2 => ?_)
        · exact ⟨EB3.out.cell 0, EB3.out.cell 1⟩
        clear hK K hHeld
        have hHeld := hHeld2
        clear hHeld2
        try simp only [Act.put, List.setIfInBounds_toArray, List.set_cons_zero, List.set_cons_succ, List.getElem_toArray, List.getElem_cons_zero, List.getElem_cons_succ]
        refine' wpAnyH_take (i := 5) (v := ?v5q) rfl (by kernel_rfl) (by kernel_rfl) (by kernel_rfl) (fun _ _ _ h => h) (Or.inl ⟨by rfl, ?hy5q⟩) hHeld ?rest5q
        case hy5q =>
          intro w hSw
          try dsimp only at hSw
          go_simp
          all_goals with_reducible rfl
        try simp only [Act.put, List.setIfInBounds_toArray, List.set_cons_zero, List.set_cons_succ, List.getElem_toArray, List.getElem_cons_zero, List.getElem_cons_succ]
        refine' wpAnyH_take (i := 6) (v := ?v6q) rfl (by kernel_rfl) (by kernel_rfl) (by kernel_rfl) (fun _ _ _ h => h) (Or.inl ⟨by rfl, ?hy6q⟩) hHeld ?rest6q
        case hy6q =>
          intro w hSw
          try dsimp only at hSw
          go_simp
          all_goals with_reducible rfl
        try simp only [Act.put, List.setIfInBounds_toArray, List.set_cons_zero, List.set_cons_succ, List.getElem_toArray, List.getElem_cons_zero, List.getElem_cons_succ]
        refine wpAnyH_ready (rs := [9]) (by kernel_rfl) (by simp) ?_
        refine AllReadyH.cons rfl (fun K hK => ?_) AllReadyH.nil
        go_simp
        go_at_call 45
        refine (HD1.out _).mono ?_
        rintro e w4 ⟨rfl, hb4⟩
        have EN4 := Lib.hid (EN3.out.below hb4)
        have EB4 := Lib.hid (EB3.out.below hb4 EB3.out.lt)
        clear hb4
        refine hK.out _ _ ?_ (fun hHeld2 => ?_)
        · exact ⟨EB4.out.cell 0, EB4.out.cell 1⟩
        clear hK K hHeld
        have hHeld := hHeld2
        clear hHeld2
        try simp only [Act.put, List.setIfInBounds_toArray, List.set_cons_zero, List.set_cons_succ, List.getElem_toArray, List.getElem_cons_zero, List.getElem_cons_succ]
        refine' wpAnyH_take (i := 10) (v := ?v10q) rfl (by kernel_rfl) (by kernel_rfl) (by kernel_rfl) (fun _ _ _ h => h) (Or.inl ⟨by rfl, ?hy10q⟩) hHeld ?rest10q
        case hy10q =>
          intro w hSw
          try dsimp only at hSw
          go_simp
          all_goals with_reducible rfl
        try simp only [Act.put, List.setIfInBounds_toArray, List.set_cons_zero, List.set_cons_succ, List.getElem_toArray, List.getElem_cons_zero, List.getElem_cons_succ]
        refine' wpAnyH_take (i := 11) (v := ?v11q) rfl (by kernel_rfl) (by kernel_rfl) (by kernel_rfl) (fun _ _ _ h => h) (Or.inl ⟨by rfl, ?hy11q⟩) hHeld ?rest11q
        case hy11q =>
          intro w hSw
          try dsimp only at hSw
          go_simp
          all_goals with_reducible rfl
        try simp only [Act.put, List.setIfInBounds_toArray, List.set_cons_zero, List.set_cons_succ, List.getElem_toArray, List.getElem_cons_zero, List.getElem_cons_succ]
        refine wpAnyH_done (by kernel_rfl) ?_ _
        clear hHeld
        clear a1 a2 a3 a4 HWD HD1
        have b2 := EB4.out.cell 2
        -- the delay
        have hcut5 : ∃ V : ByteArray, Hid (V.data.toList = H2 ++ (p.quos.take m).flatMap quoTxt ++ quoHead u ++ delayTxt u.delay) ∧ V.size ≤ 70005000 + 300 * m + 90 ∧ ((¬ 0 < ud ∧ V = U4) ∨ (0 < ud ∧ ∃ V1 : ByteArray, (∀ wx, (Op.stringOp .add U4 ⟨#[32, 97, 102, 116, 101, 114, 32]⟩).run Tryd.prog wx = .ok (.string V1) wx) ∧ (∀ wx, (Op.stringOp .add V1 D2).run Tryd.prog wx = .ok (.string V) wx))) := by
          by_cases h0 : 0 < ud
          · obtain ⟨V1, v1, m1, z1⟩ := cat_ex U4 ⟨#[32, 97, 102, 116, 101, 114, 32]⟩ (by show U4.size + 7 ≤ _; omega)
            have z1 : V1.size = U4.size + 7 := z1
            obtain ⟨V, v2, m2, z2⟩ := cat_ex V1 D2 (by omega)
            refine ⟨V, ?_, by omega, .inr ⟨h0, V1, v1, v2⟩⟩
            unfold Hid delayTxt
            rw [m2, m1, hU4.out, hdnH.out, if_pos (by omega), ← hD2]
            simp
          · refine ⟨U4, ?_, by omega, .inl ⟨h0, rfl⟩⟩
            unfold Hid delayTxt
            rw [hU4.out, hdnH.out, if_neg (by omega), List.append_nil]
        obtain ⟨V, hV, hVs, hVw⟩ := hcut5
        have hVwH := Lib.hid hVw
        obtain ⟨Y1, e1, l1, s1⟩ := cat_ex V ⟨#[32, 119, 105, 116, 104, 105, 110, 32]⟩ (by show V.size + 8 ≤ _; omega)
        have s1 : Y1.size = V.size + 8 := s1
        obtain ⟨Y2, e2, l2, s2⟩ := cat_ex Y1 D3 (by omega)
        have hY2 : Hid (Y2.data.toList = H2 ++ (p.quos.take m).flatMap quoTxt ++ quoHead u ++ delayTxt u.delay ++ [32, 119, 105, 116, 104, 105, 110, 32] ++ Lib.itoa u.valid) := by
          unfold Hid
          rw [l2, l1, hV.out, hvnH.out, ← hD3]
        have hY2s : Y2.size ≤ 70005000 + 300 * m + 130 := by omega
        have hcut6 : ∃ Z : ByteArray, Hid (Z.data.toList = H2 ++ (p.quos.take m).flatMap quoTxt ++ quoHead u ++ delayTxt u.delay ++ [32, 119, 105, 116, 104, 105, 110, 32] ++ Lib.itoa u.valid ++ usesTxt u.uses) ∧ Z.size ≤ 70005000 + 300 * m + 170 ∧ ((uu = 1 ∧ Z = Y2) ∨ (uu ≠ 1 ∧ ∃ V1 : ByteArray, (∀ wx, (Op.stringOp .add Y2 ⟨#[32, 117, 115, 101, 115, 32]⟩).run Tryd.prog wx = .ok (.string V1) wx) ∧ (∀ wx, (Op.stringOp .add V1 D4).run Tryd.prog wx = .ok (.string Z) wx))) := by
          by_cases h0 : uu = 1
          · refine ⟨Y2, ?_, by omega, .inl ⟨h0, rfl⟩⟩
            unfold Hid usesTxt
            rw [hY2.out, hunH.out, if_pos (by omega), List.append_nil]
          · obtain ⟨V1, v1, m1, z1⟩ := cat_ex Y2 ⟨#[32, 117, 115, 101, 115, 32]⟩ (by show Y2.size + 6 ≤ _; omega)
            have z1 : V1.size = Y2.size + 6 := z1
            obtain ⟨Z, v2, m2, z2⟩ := cat_ex V1 D4 (by omega)
            refine ⟨Z, ?_, by omega, .inr ⟨h0, V1, v1, v2⟩⟩
            unfold Hid usesTxt
            rw [m2, m1, hY2.out, hunH.out, if_neg (by omega), ← hD4]
            simp
        obtain ⟨Z, hZ, hZs, hZw⟩ := hcut6
        have hZwH := Lib.hid hZw
        obtain ⟨F, f1, lF, sF⟩ := cat_ex Z ⟨#[59, 10]⟩ (by show Z.size + 2 ≤ _; omega)
        have sF : F.size = Z.size + 2 := sF
        have hFs : Hid (F.size ≤ 70005000 + 300 * (m + 1)) := by unfold Hid; omega
        have hF : Hid (F.data.toList = H2 ++ (p.quos.take (m + 1)).flatMap quoTxt) := by
          unfold Hid
          rw [lF, hZ.out, hsn.out]
          unfold quoTxt
          simp
        clear hVw hZw l1 l2 lF s1 s2 sF hVs hY2s hZs hU4s hD2 hD3 hD4 t2 t3 t4 hm0 hS0
        go_upto_if 136 with fail
        go_cut [5] from 136 to 159 (fun v5 wx => v5 = .string V ∧ Hid (PEnv w wx g (.string p.name) (.slice At T ct) (.slice Ar R cr) (.slice (some ⟨rb, ro, none⟩) Q cq)) ∧ Hid (Blk wx a 55 #[.int .i64 u.cmd, .int .i64 (uc : Int), .int .i64 (ud : Int), .int .i64 (uv : Int), .int .i64 (uu : Int)]))
        case first =>
          rcases hVwH.out with ⟨h0, hVe⟩ | ⟨h0, V1, v1, v2⟩
          · have d3 : decide (0 < ud) = false := decide_eq_false h0
            have d4 : decide ((0 : Int) < (ud : Int)) = false := decide_eq_false (by omega)
            have d5 : ¬ (0 : Int) < (ud : Int) := by omega
            subst hVe
            clear h0 e1 e2 f1
            go_wp2_with fail
            go_meet
            exact ⟨rfl, EN4.out, EB4.out⟩
          · have d3 : decide (0 < ud) = true := decide_eq_true h0
            have d4 : decide ((0 : Int) < (ud : Int)) = true := decide_eq_true (by omega)
            have d5 : (0 : Int) < (ud : Int) := by omega
            clear h0 e1 e2 f1
            go_wp2_with fail
            refine (HD2.out _).mono ?_
            rintro e w5 ⟨rfl, hb5⟩
            have EN5 := Lib.hid (EN4.out.below hb5)
            have EB5 := Lib.hid (EB4.out.below hb5 EB4.out.lt)
            clear hb5 EN4 EB4 b2
            go_wp2_with fail
            go_meet
            exact ⟨rfl, EN5.out, EB5.out⟩
        case rest =>
        obtain ⟨rfl, h1, h2⟩ := hcut
        have EN5 := Lib.hid h1.out
        have EB5 := Lib.hid h2.out
        have b3 := EB5.out.cell 3
        clear h1 h2 EN4 EB4 b2 hVwH HD2
        go_wp2_with fail
        refine (HD3.out _).mono ?_
        rintro e w6 ⟨rfl, hb6⟩
        have EN6 := Lib.hid (EN5.out.below hb6)
        have EB6 := Lib.hid (EB5.out.below hb6 EB5.out.lt)
        have b4 := EB6.out.cell 4
        clear hb6 EN5 EB5 b3 HD3
        go_upto_if 151 with fail
        clear e1 e2
        go_cut [5] from 151 to 159 (fun v5 wx => v5 = .string Z ∧ Hid (PEnv w wx g (.string p.name) (.slice At T ct) (.slice Ar R cr) (.slice (some ⟨rb, ro, none⟩) Q cq)))
        case first =>
          rcases hZwH.out with ⟨h0, hVe⟩ | ⟨h0, V1, v1, v2⟩
          · have d3 : ((uu : Int) != 1) = false := by rw [h0]; rfl
            have d4 : (uu != 1) = false := by rw [h0]; rfl
            subst hVe
            clear h0 f1
            go_wp2_with fail
            go_meet
            exact ⟨rfl, EN6.out⟩
          · have d3 : ((uu : Int) != 1) = true := by rw [bne_iff_ne]; omega
            have d4 : (uu != 1) = true := by rw [bne_iff_ne]; exact h0
            clear h0 f1
            go_wp2_with fail
            refine (HD4.out _).mono ?_
            rintro e w7 ⟨rfl, hb7⟩
            have EN7 := Lib.hid (EN6.out.below hb7)
            clear hb7 EN6 EB6 b4
            go_wp2_with fail
            go_meet
            exact ⟨rfl, EN7.out⟩
        case rest =>
        obtain ⟨rfl, h1⟩ := hcut
        have EN7 := Lib.hid h1.out
        clear h1 EN6 EB6 b4 hZwH HD4
        go_wp2_with fail
        go_roundw
        case rel => exact ⟨F, m + 1, rfl, by go_num, hltH.out, hF.out, hFs.out, EN7.out⟩
        case measure => have := hltH.out; simp [intOf]; omega
      · have d1 : decide (m < Q) = false := decide_eq_false hlt
        have d2 : decide ((m : Int) < (Q : Int)) = false := decide_eq_false (by omega)
        have hmQ : m = Q := Nat.le_antisymm hm (Nat.le_of_not_lt hlt)
        obtain ⟨F, f1, lF, sF⟩ := cat_ex S ⟨#[125, 10]⟩ (by show S.size + 2 ≤ _; have := hSs.out; omega)
        have hF : Hid (printL p = F.data.toList) := by
          unfold Hid printL
          rw [lF, hSl.out, hmQ, List.take_of_length_le (by rw [hQH.out]; exact Nat.le_refl _), ← hH2H.out, ← hH1H.out]
        have hres2 : Hid (printP p = if 4000 < F.size then (⟨#[]⟩, 2) else (F, 0)) := by
          unfold Hid
          rw [hres.out, hF.out, blen]
        clear hlt hmQ hSl hSs lF sF hres hF
        by_cases hbig : 4000 < F.size
        · have d3 : decide (4000 < F.size) = true := decide_eq_true hbig
          have d4 : decide ((4000 : Int) < (F.size : Int)) = true := decide_eq_true (by omega)
          have hr2 : Hid (printP p = (⟨#[]⟩, 2)) := by unfold Hid; rw [hres2.out, if_pos hbig]
          clear hbig
          go_wp2_with fail
          go_ret2
          exact ⟨by rw [hr2.out]; rfl, EN.out.bel⟩
        · have d3 : decide (4000 < F.size) = false := decide_eq_false hbig
          have d4 : decide ((4000 : Int) < (F.size : Int)) = false := decide_eq_false (by omega)
          have hr2 : Hid (printP p = (F, 0)) := by unfold Hid; rw [hres2.out, if_neg hbig]
          clear hbig
          go_wp2_with fail
          go_ret2
          exact ⟨by rw [hr2.out]; rfl, EN.out.bel⟩
end Go.Proofs.YtemhiiignamkjaaDoor
namespace Go.Proofs.YtemhiiignamkjaaDoor
open Go.RowKit LexP ParP
attribute [local go_sem] Oper.semAt_some

set_option maxRecDepth 100000 in
set_option maxHeartbeats 12800000 in
theorem law_prints (p : Pol) (v : Value) (z : Int) (s : ByteArray) (w : World) (hp : PolAt w w.heap.size v p) (hin : PolIn p) (hz : InI z) (hs : s.size ≤ maxLen) (hW : Tabs w) (hpow : PowAt w) :
    Calls Tryd.prog 4 #[v, .int .i64 z, .string s] w fun e w' => e = .returned (.bool true) ∧ Below w.heap.size w w' := by
  obtain ⟨vt, vr, vq, rfl, hrt, hrr, hrq⟩ := id hp
  obtain ⟨At, ct, evt, ht⟩ := id hrt
  obtain ⟨Ar, cr, evr, hr⟩ := id hrr
  obtain ⟨Aq, cq, evq, hq⟩ := id hrq
  subst evt evr evq
  clear ht hr hq hrt hrr hrq
  have HW := Lib.hid hW
  have HP := Lib.hid hpow
  have HS := Lib.hid (fun W (h : Below w.heap.size w W) => sanity_any W (hW.below h) (hpow.below h))
  have HPol := Lib.hid hp
  have HIN := Lib.hid hin
  have HZ := Lib.hid hz
  obtain ⟨T, hT⟩ : ∃ T, p.typs.length = T := ⟨_, rfl⟩
  obtain ⟨R, hR⟩ : ∃ R, p.ruls.length = R := ⟨_, rfl⟩
  obtain ⟨Q, hQ⟩ : ∃ Q, p.quos.length = Q := ⟨_, rfl⟩
  obtain ⟨nm, hnm⟩ : ∃ n, p.name = n := ⟨_, rfl⟩
  rw [hT, hR, hQ, hnm] at HPol ⊢
  unfold maxLen at hs
  clear hp hW hpow hT hR hQ hnm hin hz
  obtain ⟨bf, hbf⟩ : ∃ b, fewB p = b := ⟨_, rfl⟩
  go_enter Tryd.func4, Tryd.ntmps4
  go_upto_region 1 with fail
  refine world_is (P := fun W => Code.wp _ _ _ _ W) (fun W0 hW0 => ?_)
  have X0 : Hid (BoxAt w W0 w.heap.size p nm At T ct Ar R cr Aq Q cq) := by
    have hB : Below w.heap.size w W0 := by rw [← hW0]; exact (Below.refl _ _).alloc (Nat.le_refl _) _
    exact ⟨hB, by rw [← hW0]; exact Blk.new _ _ _, (HPol.out.below hB).mono hB.size⟩
  obtain ⟨g, hg⟩ : ∃ g, w.heap.size = g := ⟨_, rfl⟩
  rw [show (BoxAt w W0 w.heap.size p nm At T ct Ar R cr Aq Q cq) = (BoxAt w W0 g p nm At T ct Ar R cr Aq Q cq) by rw [hg]] at X0
  rw [show Value.pointer (some ⟨w.heap.size, 0, none⟩) = Value.pointer (some ⟨g, 0, none⟩) by rw [hg]]
  clear hW0 hg
  have c0 := X0.out.box.cell 0
  have c1 := X0.out.box.cell 1
  have c2 := X0.out.box.cell 2
  have c3 := X0.out.box.cell 3
  have HF := Lib.hid (few_any p _ W0 X0.out.pol)
  rw [hbf] at HF
  cases bf
  case false =>
    clear hbf hs
    go_wp2_with fail
    refine HF.out.mono ?_
    rintro e w1 ⟨rfl, hB1⟩
    have X1 := Lib.hid (X0.out.below hB1)
    clear hB1 X0 HF
    go_wp2_with fail
    refine (HS.out w1 X1.out.bel).mono ?_
    rintro e w2 ⟨rfl, hB2⟩
    have X2 := Lib.hid (X1.out.below hB2)
    clear hB2 X1
    go_wp2_with fail
    go_ret
    exact ⟨rfl, X2.out.bel⟩
  case true =>
  have hOK := Lib.hid (HIN.out.ok hbf)
  clear hbf
  by_cases hbig : 100 < s.size
  · have d1 : decide (100 < s.size) = true := decide_eq_true hbig
    have d2 : decide ((100 : Int) < (s.size : Int)) = true := decide_eq_true (by omega)
    clear hs hbig
    go_wp2_with fail
    refine HF.out.mono ?_
    rintro e w1 ⟨rfl, hB1⟩
    have X1 := Lib.hid (X0.out.below hB1)
    clear hB1 X0 HF
    go_wp2_with fail
    refine (HS.out w1 X1.out.bel).mono ?_
    rintro e w2 ⟨rfl, hB2⟩
    have X2 := Lib.hid (X1.out.below hB2)
    clear hB2 X1
    go_wp2_with fail
    go_ret
    exact ⟨rfl, X2.out.bel⟩
  have d1 : decide (100 < s.size) = false := decide_eq_false hbig
  have d2 : decide ((100 : Int) < (s.size : Int)) = false := decide_eq_false (by omega)
  clear hs hbig
  go_wp2_with fail
  refine HF.out.mono ?_
  rintro e w1 ⟨rfl, hB1⟩
  have X1 := Lib.hid (X0.out.below hB1)
  clear hB1 X0 HF c0 c1 c2 c3
  have c0 := X1.out.box.cell 0
  have c1 := X1.out.box.cell 1
  have c2 := X1.out.box.cell 2
  have c3 := X1.out.box.cell 3
  obtain ⟨J, hJ⟩ : ∃ J, (printP p).1 = J := ⟨_, rfl⟩
  obtain ⟨er, her⟩ : ∃ c, (printP p).2 = c := ⟨_, rfl⟩
  have HP1 := Lib.hid (fun W (h : BoxAt w W g p nm At T ct Ar R cr Aq Q cq) => Print_any p _ W h.pol hOK.out (HW.out.below h.bel) (HP.out.below h.bel))
  have HP2 := Lib.hid (fun W (h : BoxAt w W g p nm At T ct Ar R cr Aq Q cq) => rPrint_any p _ W h.pol hOK.out)
  rw [hJ, her] at HP1 HP2
  clear hJ her
  go_wp2_with fail
  refine (HP1.out w1 X1.out).mono ?_
  rintro e w2 ⟨rfl, hB2⟩
  have X2 := Lib.hid (X1.out.below hB2)
  clear hB2 X1 c0 c1 c2 c3 HP1
  have c0 := X2.out.box.cell 0
  have c1 := X2.out.box.cell 1
  have c2 := X2.out.box.cell 2
  have c3 := X2.out.box.cell 3
  go_wp2_with fail
  refine (HP2.out w2 X2.out).mono ?_
  rintro e w3 ⟨rfl, hB3⟩
  have B3 : Hid (Below w.heap.size w w3) := X2.out.bel.trans (hB3.mono X2.out.bel.size)
  clear hB3 X2 c0 c1 c2 c3 HP2
  obtain ⟨X, hX⟩ : ∃ X, wordN z = X := ⟨_, rfl⟩
  obtain ⟨n, hn⟩ : ∃ n, commandN s = n := ⟨_, rfl⟩
  have H1 := Lib.hid (fun W (h : Below w.heap.size w W) => Word_any z HZ.out.1 HZ.out.2 W (HW.out.below h).commands)
  have H2 := Lib.hid (fun W => rWord_any z HZ.out W)
  have H3 := Lib.hid (fun W (h : Below w.heap.size w W) => Command_any s W (HW.out.below h).commands)
  have H4 := Lib.hid (fun W => rCommand_any s W)
  rw [hX] at H1 H2
  rw [hn] at H3 H4
  have m1 : (J.toList == J.toList) = true := beq_self_eq_true _
  have m2 : (X.toList == X.toList) = true := beq_self_eq_true _
  clear hX hn
  go_wp2_with (first
    | (have hmk := B6; clear hmk; go_at_call 19; refine (H4.out _).mono ?_; rintro e w8 ⟨rfl, hb8⟩; have B8 : Hid (Below w.heap.size w w8) := B6.out.trans (hb8.mono B6.out.size); clear hb8)
    | (have hmk := B6; clear hmk; go_at_call 18; refine (H3.out _ B6.out).mono ?_; rintro e w7 ⟨rfl, rfl⟩)
    | (have hmk := B5; clear hmk; go_at_call 17; refine (H2.out _).mono ?_; rintro e w6 ⟨rfl, hb6⟩; have B6 : Hid (Below w.heap.size w w6) := B5.out.trans (hb6.mono B5.out.size); clear hb6)
    | (have hmk := B4; clear hmk; go_at_call 16; refine (H1.out _ B4.out).mono ?_; rintro e w5 ⟨rfl, hb5⟩; have B5 : Hid (Below w.heap.size w w5) := B4.out.trans (hb5.mono B4.out.size); clear hb5)
    | (go_at_call 9; refine (HS.out _ B3.out).mono ?_; rintro e w4 ⟨rfl, hb4⟩; have B4 : Hid (Below w.heap.size w w4) := B3.out.trans (hb4.mono B3.out.size); clear hb4))
  go_ret
  exact ⟨rfl, B8.out⟩
end Go.Proofs.YtemhiiignamkjaaDoor
