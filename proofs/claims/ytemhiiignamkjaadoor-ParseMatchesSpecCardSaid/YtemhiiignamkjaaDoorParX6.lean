/-
  Layer 12 (parse), printing: Print.
-/
import Derived.Test.YtemhiiignamkjaaDoorNE
import Derived.Laws.EntriesVeiled
namespace Go.Proofs.YtemhiiignamkjaaDoor
open Go.RowKit LexP ParP
attribute [local go_sem] Oper.semAt_some

theorem getD_of {α : Type} {l : List α} {k : Nat} {x d : α} (h : l[k]? = some x) : l.getD k d = x := by
  rw [List.getD_eq_getElem?_getD, h]
  rfl
theorem flags_snoc {z : Int} {k : Nat} {s : ByteArray} {b : Bool} (hs : flagWords[k]? = some s) (hb : z.toNat.testBit k = b) : flagsTxt z (k + 1) = flagsTxt z k ++ (if b = true then strL s ++ [59, 32] else []) := by
  rw [flagsTxt, hb, getD_of hs]
theorem flat_snoc {α β : Type} {l : List α} {i : Nat} {t : α} (f : α → List β) (h : l[i]? = some t) : (l.take (i + 1)).flatMap f = (l.take i).flatMap f ++ f t := by
  rw [take_snoc h, List.flatMap_append]
  simp
set_option maxRecDepth 100000 in
set_option maxHeartbeats 12800000 in
theorem Print_any (p : Pol) (v : Value) (w : World) (hp : PolAt w w.heap.size v p) (hok : PolOk p) (hW : Tabs w) (hpow : PowAt w) :
    Calls Tryd.prog 14 #[v] w fun e w' => e = .returned (.tuple #[.string (printP p).1, .int .i64 (printP p).2]) ∧ Below w.heap.size w w' := by
  obtain ⟨vt, vr, vq, rfl, hrt, hrr, hrq⟩ := id hp
  obtain ⟨At, ct, evt, ht⟩ := id hrt
  obtain ⟨Ar, cr, evr, hr⟩ := id hrr
  obtain ⟨Aq, cq, evq, hq⟩ := id hrq
  subst evt evr evq
  clear ht hr hq
  have HPR := Lib.hid (fun W (h : Below w.heap.size w W) => printable_any p _ W ((hp.below h).mono h.size) hok (hW.below h))
  have RT := Lib.hid hrt
  have RR := Lib.hid hrr
  have RQ := Lib.hid hrq
  have OK := Lib.hid hok
  have HW := Lib.hid hW
  have HPW := Lib.hid hpow
  obtain ⟨T, hT⟩ : ∃ T, p.typs.length = T := ⟨_, rfl⟩
  obtain ⟨R, hR⟩ : ∃ R, p.ruls.length = R := ⟨_, rfl⟩
  obtain ⟨Q, hQ⟩ : ∃ Q, p.quos.length = Q := ⟨_, rfl⟩
  have hTb : T ≤ 5000 := by have := hok.nt; omega
  have hRb : R ≤ 5000 := by have := hok.nr; omega
  have hQb : Q ≤ 5000 := by have := hok.nq; omega
  have hTH := Lib.hid hT
  have hRH := Lib.hid hR
  have hQH := Lib.hid hQ
  rw [hT, hR, hQ] at HPR ⊢
  clear hp hrt hrr hrq hW hT hR hQ hpow
  go_enter Tryd.func14, Tryd.ntmps14
  go_upto_region 1 with fail
  refine world_is (P := fun W => Code.wp _ _ _ _ W) (fun W0 hW0 => ?_)
  have B0 : Hid (Below w.heap.size w W0) := by unfold Hid; rw [← hW0]; exact (Below.refl _ _).alloc (Nat.le_refl _) _
  have X0 : Hid (Blk W0 w.heap.size 27 #[.string p.name, .slice At T ct, .slice Ar R cr, .slice Aq Q cq]) := by unfold Hid; rw [← hW0]; exact Blk.new _ _ _
  obtain ⟨g, hg⟩ : ∃ g, w.heap.size = g := ⟨_, rfl⟩
  rw [show (Blk W0 w.heap.size 27 #[.string p.name, .slice At T ct, .slice Ar R cr, .slice Aq Q cq]) = (Blk W0 g 27 #[.string p.name, .slice At T ct, .slice Ar R cr, .slice Aq Q cq]) by rw [hg]] at X0
  rw [show Value.pointer (some ⟨w.heap.size, 0, none⟩) = Value.pointer (some ⟨g, 0, none⟩) by rw [hg]]
  clear hW0 hg
  have c0 := X0.out.cell 0
  have c1 := X0.out.cell 1
  have c2 := X0.out.cell 2
  have c3 := X0.out.cell 3
  obtain ⟨bp, hbp⟩ : ∃ b, printableB p = b := ⟨_, rfl⟩
  rw [hbp] at HPR
  cases bp
  case false =>
    have hres : Hid (printP p = (⟨#[]⟩, 1)) := by unfold Hid printP; rw [if_neg (by rw [hbp]; decide)]
    clear hbp
    go_wp2_with fail
    refine (HPR.out W0 B0.out).mono ?_
    rintro e w1 ⟨rfl, hB1⟩
    have HB1 : Hid (Below w.heap.size w w1) := B0.out.trans (hB1.mono B0.out.size)
    clear hB1
    go_wp2_with fail
    go_ret2
    exact ⟨by rw [hres.out]; rfl, HB1.out⟩
  case true =>
    have hPO := Lib.hid (prOk p hok hbp)
    have hres : Hid (printP p = if 4000 < (printL p).length then (⟨#[]⟩, 2) else (⟨(printL p).toArray⟩, 0)) := by unfold Hid printP; rw [if_pos hbp]
    clear hbp
    go_upto_region 4 with (go_at_call 36; refine (HPR.out W0 B0.out).mono ?_; rintro e w1 ⟨rfl, hB1⟩; have B1 : Hid (Below w.heap.size w w1) := B0.out.trans (hB1.mono B0.out.size); have X1 := Lib.hid (X0.out.below hB1 X0.out.lt); clear hB1)
    clear HPR c0 c1 c2 c3 X0 B0
    refine world_is (P := fun W => Code.wp _ _ _ _ W) (fun W1 hW1 => ?_)
    have B2 : Hid (Below w.heap.size w W1) := by unfold Hid; rw [← hW1]; exact B1.out.alloc B1.out.size _
    have X2 : Hid (Blk W1 g 27 #[.string p.name, .slice At T ct, .slice Ar R cr, .slice Aq Q cq]) := by unfold Hid; rw [← hW1]; exact X1.out.alloc _
    have S2 : Hid (BIs W1 w.heap.size w1.heap.size []) := by
      unfold Hid
      rw [← hW1]
      exact Or.inl ⟨B1.out.size, .slice none 0 0, heap_alloc_new w1 _, World.ownsRow_nil _ _ _ _, by simp [Value.ownBlock]⟩
    obtain ⟨b, hb⟩ : ∃ b, w1.heap.size = b := ⟨_, rfl⟩
    rw [hb] at S2 ⊢
    clear hW1 hb B1 X1
    go_upto_region 5 with fail
    refine world_is (P := fun W => Code.wp _ _ _ _ W) (fun W2 hW2 => ?_)
    have E2 : Hid (PrE w W2 g b W1.heap.size (.string p.name) (.slice At T ct) (.slice Ar R cr) (.slice Aq Q cq) [] 0) := by
      have hB : Below W1.heap.size W1 W2 := by rw [← hW2]; exact (Below.refl _ _).alloc (Nat.le_refl _) _
      exact ⟨B2.out.trans (hB.mono B2.out.size), X2.out.below hB X2.out.lt, by rw [← hW2]; exact Blk.new _ _ _, S2.out.below hB, Nat.le_refl _⟩
    obtain ⟨q, hq⟩ : ∃ q, W1.heap.size = q := ⟨_, rfl⟩
    rw [hq] at E2 ⊢
    clear hW2 hq B2 X2 S2
    have qc := E2.out.put.cell 0
    have c0 := E2.out.box.cell 0
    have hk : Hid ((cat [⟨#[112, 111, 108, 105, 99, 121, 32]⟩, p.name, ⟨#[32, 123, 10]⟩]).length ≤ 5000) := by
      unfold Hid
      rw [cat_len]
      show 7 + (p.name.size + (3 + 0)) ≤ 5000
      have := hPO.out.name
      omega
    go_wp2_with fail
    refine (putE E2.out ((Below.refl _ _).alloc (Nat.le_refl _) _) _ _ 5000 [⟨#[112, 111, 108, 105, 99, 121, 32]⟩, p.name, ⟨#[32, 123, 10]⟩] hk.out (by omega) (by simp) (Blk.new _ _ _)).mono ?_
    rintro e w3 ⟨rfl, h1, _⟩
    have E3 : Hid (PrE w w3 g b q (.string p.name) (.slice At T ct) (.slice Ar R cr) (.slice Aq Q cq) (polHead p ++ (p.typs.take 0).flatMap typTxt) (5000 + 5000 * 0)) := h1.is (by unfold polHead cat strL; simp)
    clear h1 E2 qc c0 hk
    have c1 := E3.out.box.cell 1
    go_wp2_with fail
    go_loopw [28] (fun v28 wr => ∃ i : Nat, v28 = .int .i64 i ∧ i ≤ T ∧ Hid (PrE w wr g b q (.string p.name) (.slice At T ct) (.slice Ar R cr) (.slice Aq Q cq) (polHead p ++ (p.typs.take i).flatMap typTxt) (5000 + 5000 * i))) (fun v28 _ => T - (intOf v28).toNat)
    case atStart => exact ⟨0, rfl, Nat.zero_le _, E3.out⟩
    case round =>
      clear E3 c1
      obtain ⟨i, rfl, hi, EN⟩ := hrel
      by_cases hlt : i < T
      · have d1 : decide (i < T) = true := decide_eq_true hlt
        have d2 : decide ((i : Int) < (T : Int)) = true := decide_eq_true (by omega)
        obtain ⟨t, ht⟩ : ∃ t, p.typs[i]? = some t := ⟨_, List.getElem?_eq_getElem (by rw [hTH.out]; exact hlt)⟩
        obtain ⟨rb, ro, rfl, hrb, y0, y1, y2⟩ := RT.out.typ i t ht
        have k0 := (EN.out.bel.cell (p := ⟨rb, _, none⟩) hrb).trans y0
        have k1 := (EN.out.bel.cell (p := ⟨rb, _, none⟩) hrb).trans y1
        have k2 := (EN.out.bel.cell (p := ⟨rb, _, none⟩) hrb).trans y2
        have htok := Lib.hid (hPO.out.typs t (List.mem_of_getElem? ht))
        have hsn := Lib.hid (flat_snoc typTxt ht)
        have q0 : (0 : Int) ≤ (i : Int) := by omega
        have q1 : (i : Int) < (T : Int) := by omega
        have q2 : (T : Int) ≤ 100000 := by omega
        have hltH := Lib.hid hlt
        have hiH : Hid (i < 5000) := by unfold Hid; omega
        clear ht hlt y0 y1 y2
        go_upto_region 10 with fail
        refine world_is (P := fun W => Code.wp _ _ _ _ W) (fun W2 hW2 => ?_)
        have hB2 : Below wr.heap.size wr W2 := by rw [← hW2]; exact (Below.refl _ _).alloc (Nat.le_refl _) _
        have EB : Hid (Blk W2 wr.heap.size 51 #[.string t.name, .int .i64 t.flags, .int .i64 t.life]) := by unfold Hid; rw [← hW2]; exact Blk.new _ _ _
        have EN2 := Lib.hid (EN.out.below hB2)
        obtain ⟨a, ea⟩ : ∃ x, wr.heap.size = x := ⟨_, rfl⟩
        rw [ea] at EB ⊢
        clear hW2 hB2 EN k0 k1 k2 ea
        obtain ⟨H, hH⟩ : ∃ H, polHead p ++ (p.typs.take i).flatMap typTxt = H := ⟨_, rfl⟩
        rw [hH] at EN2
        have hHH := Lib.hid hH
        clear hH
        have qc := EN2.out.put.cell 0
        have b0 := EB.out.cell 0
        have hk : Hid ((cat [⟨#[9, 116, 121, 112, 101, 32]⟩, t.name, ⟨#[32, 123, 32]⟩]).length ≤ 4100) := by
          unfold Hid
          rw [cat_len]
          show 6 + (t.name.size + (3 + 0)) ≤ 4100
          have := htok.out.1
          omega
        have hN : Hid (5000 + 5000 * i + 4100 ≤ 1000000000) := by have := hiH.out; unfold Hid; omega
        go_wp2_with fail
        refine (putE EN2.out ((Below.refl _ _).alloc (Nat.le_refl _) _) _ _ 4100 [⟨#[9, 116, 121, 112, 101, 32]⟩, t.name, ⟨#[32, 123, 32]⟩] hk.out hN.out (by simp) (Blk.new _ _ _)).mono ?_
        rintro e w3 ⟨rfl, h1, hK⟩
        have EB3 := Lib.hid (EN2.out.keeps (hK) EB.out (by decide) (by decide))
        have E3 : Hid (PrE w w3 g b q (.string p.name) (.slice (some ⟨rb, ro, none⟩) T ct) (.slice Ar R cr) (.slice Aq Q cq) (H ++ typHead t ++ flagsTxt t.flags 0) (5000 + 5000 * i + 4100 + 20 * 0)) := h1.is (by unfold typHead cat strL flagsTxt; simp)
        clear h1 hK EN2 EB qc b0 hk hN
        obtain ⟨fl, hfl⟩ : ∃ fl : Nat, t.flags = (fl : Int) := ⟨t.flags.toNat, by have := htok.out.2.1; omega⟩
        have hfl7 : fl < 128 := by have := htok.out.2.2.1; omega
        have hflH := Lib.hid hfl
        rw [hfl] at EB3 E3
        clear hfl
        obtain ⟨fb, fo, fc, F0, F1, F2⟩ := HW.out.flags
        have gc : w3.cell? ⟨0, 0, none⟩ = some (.slice (some ⟨fb, fo, none⟩) 7 fc) := (E3.out.bel.cell (p := ⟨0, 0, none⟩) HW.out.flags.lt).trans F0
        have FF := Lib.hid (fun W (h : Below w.heap.size w W) j z (hz : flagWords[j]? = some z) => (h.cell (p := ⟨fb, fo + j, none⟩) F1).trans (F2 j z hz))
        clear F0 F1 F2
        obtain ⟨wo, rfl⟩ : ∃ x, x = wr := ⟨_, rfl⟩
        go_wp2_with fail
        go_loopw [39] (fun v39 wr => ∃ k : Nat, v39 = .int .i64 k ∧ k ≤ 7 ∧ Hid (PrE w wr g b q (.string p.name) (.slice (some ⟨rb, ro, none⟩) T ct) (.slice Ar R cr) (.slice Aq Q cq) (H ++ typHead t ++ flagsTxt (fl : Int) k) (5000 + 5000 * i + 4100 + 20 * k)) ∧ Hid (Blk wr a 51 #[.string t.name, .int .i64 (fl : Int), .int .i64 t.life])) (fun v39 _ => 7 - (intOf v39).toNat)
        case atStart => exact ⟨0, rfl, Nat.zero_le _, E3.out, EB3.out⟩
        case round =>
          clear E3 EB3 gc
          obtain ⟨k, rfl, hk7, EN, EB⟩ := hrel
          by_cases hkl : k < 7
          · have d1 : decide (k < 7) = true := decide_eq_true hkl
            have d2 : decide ((k : Int) < 7) = true := decide_eq_true (by omega)
            obtain ⟨z, hz⟩ : ∃ z, flagWords[k]? = some z := ⟨_, List.getElem?_eq_getElem hkl⟩
            have zc := FF.out _ EN.out.bel k z hz
            have q0 : (0 : Int) ≤ (k : Int) := by omega
            have q1 : (k : Int) < 7 := by omega
            have q3 : decide ((0 : Int) ≤ (k : Int)) = true := decide_eq_true q0
            have b1 := EB.out.cell 1
            have qc := EN.out.put.cell 0
            have hfb := flag_bit1 hfl7 hkl
            have hzs : Hid (z.size ≤ 9) := by have h := flags_len k; rw [getD_of hz, strL_len] at h; exact h
            have hzH := Lib.hid hz
            have hklH := Lib.hid hkl
            clear hz hkl
            cases hbit : fl.testBit k
            case false =>
              rw [hbit] at hfb
              have hfb2 : (bits BinOp.and IntKind.i64 ((fl : Int) / 2 ^ k) 1 == 1) = false := hfb
              have hsn2 : Hid (flagsTxt (fl : Int) (k + 1) = flagsTxt (fl : Int) k) := by unfold Hid; rw [flags_snoc hzH.out (z := (fl : Int)) (b := false) hbit]; simp
              clear hbit
              go_wp2_with fail
              go_roundw
              case rel => exact ⟨k + 1, by go_num, hklH.out, by unfold Hid; rw [hsn2.out]; exact EN.out.up (by omega), EB.out⟩
              case measure => have := hklH.out; simp [intOf]; omega
            case true =>
              rw [hbit] at hfb
              have hfb2 : (bits BinOp.and IntKind.i64 ((fl : Int) / 2 ^ k) 1 == 1) = true := hfb
              have hsn2 : Hid (flagsTxt (fl : Int) (k + 1) = flagsTxt (fl : Int) k ++ cat [z, ⟨#[59, 32]⟩]) := by unfold Hid; rw [flags_snoc hzH.out (z := (fl : Int)) (b := true) hbit]; simp [cat, strL]
              have hkk : Hid ((cat [z, ⟨#[59, 32]⟩]).length ≤ 20) := by
                unfold Hid
                rw [cat_len]
                show z.size + (2 + 0) ≤ 20
                have := hzs.out
                omega
              have hN : Hid (5000 + 5000 * i + 4100 + 20 * k + 20 ≤ 1000000000) := by have := hiH.out; unfold Hid; omega
              clear hbit
              go_wp2_with fail
              refine (putE EN.out ((Below.refl _ _).alloc (Nat.le_refl _) _) _ _ 20 [z, ⟨#[59, 32]⟩] hkk.out hN.out (by simp) (Blk.new _ _ _)).mono ?_
              rintro e w4 ⟨rfl, h1, hK⟩
              have EB4 := Lib.hid (EN.out.keeps hK EB.out (by decide) (by decide))
              have E4 : Hid (PrE w w4 g b q (.string p.name) (.slice (some ⟨rb, ro, none⟩) T ct) (.slice Ar R cr) (.slice Aq Q cq) (H ++ typHead t ++ flagsTxt (fl : Int) (k + 1)) (5000 + 5000 * i + 4100 + 20 * (k + 1))) := (h1.up (by omega)).is (by rw [hsn2.out, ← List.append_assoc])
              clear h1 hK EN EB b1 qc zc
              go_wp2_with fail
              go_roundw
              case rel => exact ⟨k + 1, by go_num, hklH.out, E4.out, EB4.out⟩
              case measure => have := hklH.out; simp [intOf]; omega
          · have d1 : decide (k < 7) = false := decide_eq_false hkl
            have d2 : decide ((k : Int) < 7) = false := decide_eq_false (by omega)
            have hk7e : k = 7 := by omega
            have E7 : Hid (PrE w wr g b q (.string p.name) (.slice (some ⟨rb, ro, none⟩) T ct) (.slice Ar R cr) (.slice Aq Q cq) (H ++ typHead t ++ flagsTxt (fl : Int) 7) (5000 + 5000 * i + 4240)) := by rw [hk7e] at EN; exact EN.out.up (by omega)
            have b2 := EB.out.cell 2
            clear hkl hk7e EN hk7
            go_upto_if 57 with fail
            go_cut [] from 57 to 68 (fun wx => Hid (PrE w wx g b q (.string p.name) (.slice (some ⟨rb, ro, none⟩) T ct) (.slice Ar R cr) (.slice Aq Q cq) (H ++ typHead t ++ flagsTxt (fl : Int) 7 ++ lifeTxt t.life) (5000 + 5000 * i + 4300)))
            case first =>
              by_cases hlf : 0 < t.life
              · have d3 : decide ((0 : Int) < t.life) = true := decide_eq_true hlf
                have hN : Hid (5000 + 5000 * i + 4240 + 30 ≤ 1000000000) := by have := hiH.out; unfold Hid; omega
                have hN2 : Hid (5000 + 5000 * i + 4240 + 30 + 2 ≤ 1000000000) := by have := hiH.out; unfold Hid; omega
                have hl1 : Hid (-9223372036854775808 ≤ t.life) := by have := htok.out.2.2.2.1; unfold Hid; omega
                have hl2 : Hid (t.life ≤ 9223372036854775807) := by have := htok.out.2.2.2.2; unfold Hid; omega
                have hlt2 : Hid (lifeTxt t.life = [108, 105, 102, 101, 32] ++ Lib.itoa t.life ++ [59, 32]) := by unfold Hid lifeTxt; rw [if_pos hlf]
                go_wp2_with fail
                refine (numE E7.out (Below.refl _ _) ⟨#[108, 105, 102, 101, 32]⟩ t.life 30 hl1.out hl2.out (by decide) hN.out HPW.out).mono ?_
                rintro e w5 ⟨rfl, h1, hK⟩
                have E8 := Lib.hid h1
                have qc := E8.out.put.cell 0
                clear h1 hK E7 EB b2
                go_wp2_with fail
                refine (putE E8.out ((Below.refl _ _).alloc (Nat.le_refl _) _) _ _ 2 [⟨#[59, 32]⟩] (by decide) hN2.out (by simp) (Blk.new _ _ _)).mono ?_
                rintro e w6 ⟨rfl, h1, hK⟩
                have E9 := Lib.hid h1
                clear h1 hK E8 qc
                go_wp2_with fail
                go_meet
                exact (E9.out.up (by omega)).is (by rw [hlt2.out]; simp [cat, strL])
              · have d3 : decide ((0 : Int) < t.life) = false := decide_eq_false hlf
                have hlt2 : Hid (lifeTxt t.life = []) := by unfold Hid lifeTxt; rw [if_neg hlf]
                go_wp2_with fail
                go_meet
                exact (E7.out.up (by omega)).is (by rw [hlt2.out]; simp)
            case rest =>
              have E8 := Lib.hid hcut.out
              have qc := E8.out.put.cell 0
              have hN : Hid (5000 + 5000 * i + 4300 + 2 ≤ 1000000000) := by have := hiH.out; unfold Hid; omega
              clear hcut E7 EB b2
              go_wp2_with fail
              refine (putE E8.out ((Below.refl _ _).alloc (Nat.le_refl _) _) _ _ 2 [⟨#[125, 10]⟩] (by decide) hN.out (by simp) (Blk.new _ _ _)).mono ?_
              rintro e w6 ⟨rfl, h1, hK⟩
              have E9 : Hid (PrE w w6 g b q (.string p.name) (.slice (some ⟨rb, ro, none⟩) T ct) (.slice Ar R cr) (.slice Aq Q cq) (polHead p ++ (p.typs.take (i + 1)).flatMap typTxt) (5000 + 5000 * (i + 1))) := (h1.up (by omega)).is (by rw [hsn.out, ← List.append_assoc, hHH.out]; unfold typTxt; rw [hflH.out]; simp [cat])
              clear h1 hK E8 qc
              go_wp2_with fail
              go_roundw
              case rel => exact ⟨i + 1, by go_num, hltH.out, E9.out⟩
              case measure => have := hltH.out; simp [intOf]; omega
      · have d1 : decide (i < T) = false := decide_eq_false hlt
        have d2 : decide ((i : Int) < (T : Int)) = false := decide_eq_false (by omega)
        have hiT : i = T := Nat.le_antisymm hi (Nat.le_of_not_lt hlt)
        have E1 : Hid (PrE w wr g b q (.string p.name) (.slice At T ct) (.slice Ar R cr) (.slice Aq Q cq) (polHead p ++ p.typs.flatMap typTxt ++ (p.ruls.take 0).flatMap (rulTxt p.typs)) (25005000 + 9000 * 0)) := by
          rw [hiT, List.take_of_length_le (by rw [hTH.out]; exact Nat.le_refl _)] at EN
          exact (EN.out.up (by omega)).is (by simp)
        have c2 := E1.out.box.cell 2
        clear hlt hiT EN
        obtain ⟨H1, hH1⟩ : ∃ H, polHead p ++ p.typs.flatMap typTxt = H := ⟨_, rfl⟩
        rw [hH1] at E1
        have hH1H := Lib.hid hH1
        clear hH1
        obtain ⟨wo, rfl⟩ : ∃ x, x = wr := ⟨_, rfl⟩
        go_wp2_with fail
        go_loopw [72] (fun v72 wr => ∃ j : Nat, v72 = .int .i64 j ∧ j ≤ R ∧ Hid (PrE w wr g b q (.string p.name) (.slice At T ct) (.slice Ar R cr) (.slice Aq Q cq) (H1 ++ (p.ruls.take j).flatMap (rulTxt p.typs)) (25005000 + 9000 * j))) (fun v72 _ => R - (intOf v72).toNat)
        case atStart => exact ⟨0, rfl, Nat.zero_le _, E1.out⟩
        case round =>
        clear E1 c2
        obtain ⟨j, rfl, hj, EN⟩ := hrel
        by_cases hlt : j < R
        · have d1 : decide (j < R) = true := decide_eq_true hlt
          have d2 : decide ((j : Int) < (R : Int)) = true := decide_eq_true (by omega)
          obtain ⟨r, hr⟩ : ∃ r, p.ruls[j]? = some r := ⟨_, List.getElem?_eq_getElem (by rw [hRH.out]; exact hlt)⟩
          obtain ⟨rb, ro, rfl, hrb, y0, y1, y2⟩ := RR.out.rul j r hr
          have hrok := Lib.hid (hPO.out.ruls r (List.mem_of_getElem? hr))
          obtain ⟨kd, hkd⟩ : ∃ kd : Nat, r.kind = (kd : Int) + 1 := ⟨(r.kind - 1).toNat, by have := hrok.out.1; omega⟩
          obtain ⟨ia, hia⟩ : ∃ ia : Nat, r.a = (ia : Int) := ⟨r.a.toNat, by have := hrok.out.2.2.1; omega⟩
          obtain ⟨ib, hib⟩ : ∃ ib : Nat, r.b = (ib : Int) := ⟨r.b.toNat, by have := hrok.out.2.2.2.2.1; omega⟩
          have hk5 : kd < 5 := by have := hrok.out.2.1; omega
          have hiaT : ia < T := by have := hrok.out.2.2.2.1; rw [hTH.out] at this; omega
          have hibT : ib < T := by have := hrok.out.2.2.2.2.2; rw [hTH.out] at this; omega
          rw [hkd] at y0
          rw [hia] at y1
          rw [hib] at y2
          have k0 := (EN.out.bel.cell (p := ⟨rb, _, none⟩) hrb).trans y0
          have k1 := (EN.out.bel.cell (p := ⟨rb, _, none⟩) hrb).trans y1
          have k2 := (EN.out.bel.cell (p := ⟨rb, _, none⟩) hrb).trans y2
          obtain ⟨ta, hta⟩ : ∃ t, p.typs[ia]? = some t := ⟨_, List.getElem?_eq_getElem (by rw [hTH.out]; exact hiaT)⟩
          obtain ⟨tb, htb⟩ : ∃ t, p.typs[ib]? = some t := ⟨_, List.getElem?_eq_getElem (by rw [hTH.out]; exact hibT)⟩
          obtain ⟨tb0, to0, rfl, htb0, z0, _, _⟩ := RT.out.typ ia ta hta
          obtain ⟨tb1, to1, e1, _, z1, _, _⟩ := RT.out.typ ib tb htb
          cases e1
          have hZ0 := Lib.hid z0
          have hZ1 := Lib.hid z1
          have htb0H := Lib.hid htb0
          obtain ⟨na, hna⟩ : ∃ n, ta.name = n := ⟨_, rfl⟩
          obtain ⟨nb, hnb⟩ : ∃ n, tb.name = n := ⟨_, rfl⟩
          rw [hna] at hZ0
          rw [hnb] at hZ1
          have hnas : Hid (na.size ≤ 4000) := by unfold Hid; rw [← hna]; exact (hPO.out.typs ta (List.mem_of_getElem? hta)).1
          have hnbs : Hid (nb.size ≤ 4000) := by unfold Hid; rw [← hnb]; exact (hPO.out.typs tb (List.mem_of_getElem? htb)).1
          have hnma : Hid (nameOf p.typs r.a = na) := by unfold Hid nameOf; rw [hia]; exact getD_of (by rw [List.getElem?_map]; show (p.typs[ia]?).map _ = _; rw [hta, ← hna]; rfl)
          have hnmb : Hid (nameOf p.typs r.b = nb) := by unfold Hid nameOf; rw [hib]; exact getD_of (by rw [List.getElem?_map]; show (p.typs[ib]?).map _ = _; rw [htb, ← hnb]; rfl)
          obtain ⟨z, hz⟩ : ∃ z, ruleWords[kd]? = some z := ⟨_, List.getElem?_eq_getElem hk5⟩
          have hzs : Hid (z.size ≤ 10) := by have h := rules_len kd; rw [getD_of hz, strL_len] at h; exact h
          have hzr : Hid (ruleWords.getD (r.kind.toNat - 1) ⟨#[]⟩ = z) := by unfold Hid; rw [hkd, show ((kd : Int) + 1).toNat - 1 = kd by omega]; exact getD_of hz
          have hrt : Hid (rulTxt p.typs r = cat [⟨#[9]⟩, z, ⟨#[32]⟩, na, ⟨#[32, 45, 62, 32]⟩, nb, ⟨#[59, 10]⟩]) := by unfold Hid rulTxt; rw [hzr.out, hnma.out, hnmb.out]; simp [cat, strL]
          have hsn := Lib.hid (flat_snoc (rulTxt p.typs) hr)
          have q0 : (0 : Int) ≤ (j : Int) := by omega
          have q1 : (j : Int) < (R : Int) := by omega
          have q2 : (R : Int) ≤ 100000 := by omega
          have hltH := Lib.hid hlt
          have hjH : Hid (j < 5000) := by unfold Hid; omega
          obtain ⟨fb, fo, fc, F0, F1, F2⟩ := HW.out.rules
          have HF0 := Lib.hid (fun W (h : Below w.heap.size w W) => (h.cell (p := ⟨1, 0, none⟩) HW.out.rules.lt).trans F0)
          have HF2 := Lib.hid (fun W (h : Below w.heap.size w W) => (h.cell (p := ⟨fb, fo + kd, none⟩) F1).trans (F2 kd z hz))
          have HZ0 := Lib.hid (fun W (h : Below w.heap.size w W) => (h.cell (p := ⟨tb0, _, none⟩) htb0).trans hZ0.out)
          have HZ1 := Lib.hid (fun W (h : Below w.heap.size w W) => (h.cell (p := ⟨tb0, _, none⟩) htb0).trans hZ1.out)
          clear hr hlt y0 y1 y2 hkd hia hib hta htb hna hnb hz z0 z1 hZ0 hZ1 htb0 F0 F1 F2
          go_upto_region 25 with fail
          refine world_is (P := fun W => Code.wp _ _ _ _ W) (fun W2 hW2 => ?_)
          have hB2 : Below wr.heap.size wr W2 := by rw [← hW2]; exact (Below.refl _ _).alloc (Nat.le_refl _) _
          have EB : Hid (Blk W2 wr.heap.size 53 #[.int .i64 ((kd : Int) + 1), .int .i64 (ia : Int), .int .i64 (ib : Int)]) := by unfold Hid; rw [← hW2]; exact Blk.new _ _ _
          have EN2 := Lib.hid (EN.out.below hB2)
          obtain ⟨a, ea⟩ : ∃ x, wr.heap.size = x := ⟨_, rfl⟩
          rw [ea] at EB ⊢
          clear hW2 hB2 EN k0 k1 k2 ea
          obtain ⟨H, hH⟩ : ∃ H, H1 ++ (p.ruls.take j).flatMap (rulTxt p.typs) = H := ⟨_, rfl⟩
          obtain ⟨N0, hN0⟩ : ∃ N, 25005000 + 9000 * j = N := ⟨_, rfl⟩
          rw [hH, hN0] at EN2
          have hHH := Lib.hid hH
          have hN : Hid (N0 + 8900 ≤ 1000000000) := by have := hjH.out; unfold Hid; omega
          have hN0H := Lib.hid hN0
          clear hH hN0
          have hk : Hid ((cat [⟨#[9]⟩, z, ⟨#[32]⟩, na, ⟨#[32, 45, 62, 32]⟩, nb, ⟨#[59, 10]⟩]).length ≤ 8900) := by
            unfold Hid
            rw [cat_len]
            show 1 + (z.size + (1 + (na.size + (4 + (nb.size + (2 + 0)))))) ≤ 8900
            have := hnas.out
            have := hnbs.out
            have := hzs.out
            omega
          have hSk : ∀ W, Below w.heap.size w W → Below W2.heap.size W2 W → (fun w' => w'.cell? ⟨q, 0, none⟩ = some (.func (.func 37) #[] #[.pointer (some ⟨b, 0, none⟩)]) ∧ w'.cell? ⟨1, 0, none⟩ = some (.slice (some ⟨fb, fo, none⟩) 5 fc) ∧ w'.cell? ⟨a, 0, none⟩ = some (.int .i64 ((kd : Int) + 1)) ∧ w'.cell? ⟨fb, fo + kd, none⟩ = some (.string z) ∧ w'.cell? ⟨g, 1, none⟩ = some (.slice (some ⟨tb0, to0, none⟩) T ct) ∧ w'.cell? ⟨a, 1, none⟩ = some (.int .i64 (ia : Int)) ∧ w'.cell? ⟨tb0, to0 + ia * 3, none⟩ = some (.string na) ∧ w'.cell? ⟨a, 2, none⟩ = some (.int .i64 (ib : Int)) ∧ w'.cell? ⟨tb0, to0 + ib * 3, none⟩ = some (.string nb)) W := fun W h h2 =>
            ⟨(EN2.out.below h2).put.cell 0, HF0.out W h, (EB.out.below h2 EB.out.lt).cell 0, HF2.out W h, (EN2.out.below h2).box.cell 1, (EB.out.below h2 EB.out.lt).cell 1, HZ0.out W h, (EB.out.below h2 EB.out.lt).cell 2, HZ1.out W h⟩
          have hS0 : Hid ((fun w' => w'.cell? ⟨q, 0, none⟩ = some (.func (.func 37) #[] #[.pointer (some ⟨b, 0, none⟩)]) ∧ w'.cell? ⟨1, 0, none⟩ = some (.slice (some ⟨fb, fo, none⟩) 5 fc) ∧ w'.cell? ⟨a, 0, none⟩ = some (.int .i64 ((kd : Int) + 1)) ∧ w'.cell? ⟨fb, fo + kd, none⟩ = some (.string z) ∧ w'.cell? ⟨g, 1, none⟩ = some (.slice (some ⟨tb0, to0, none⟩) T ct) ∧ w'.cell? ⟨a, 1, none⟩ = some (.int .i64 (ia : Int)) ∧ w'.cell? ⟨tb0, to0 + ia * 3, none⟩ = some (.string na) ∧ w'.cell? ⟨a, 2, none⟩ = some (.int .i64 (ib : Int)) ∧ w'.cell? ⟨tb0, to0 + ib * 3, none⟩ = some (.string nb)) W2) := hSk W2 EN2.out.bel (Below.refl _ _)
          have qk1 : wrap64 ((kd : Int) + 1 - 1) = (kd : Int) := by rw [wrap64]; omega
          have qk2 : IntKind.i64.wrap (kd : Int) = (kd : Int) := by rw [IntKind.wrap_i64]; omega
          have p0 : (0 : Int) ≤ (kd : Int) := by omega
          have p1 : (kd : Int) < 5 := by omega
          have p2 : (0 : Int) ≤ (ia : Int) := by omega
          have p3 : (ia : Int) < (T : Int) := by omega
          have p4 : (0 : Int) ≤ (ib : Int) := by omega
          have p5 : (ib : Int) < (T : Int) := by omega
          clear hk5 hiaT hibT
          refine wp_region_held_drew (S := (fun w' => w'.cell? ⟨q, 0, none⟩ = some (.func (.func 37) #[] #[.pointer (some ⟨b, 0, none⟩)]) ∧ w'.cell? ⟨1, 0, none⟩ = some (.slice (some ⟨fb, fo, none⟩) 5 fc) ∧ w'.cell? ⟨a, 0, none⟩ = some (.int .i64 ((kd : Int) + 1)) ∧ w'.cell? ⟨fb, fo + kd, none⟩ = some (.string z) ∧ w'.cell? ⟨g, 1, none⟩ = some (.slice (some ⟨tb0, to0, none⟩) T ct) ∧ w'.cell? ⟨a, 1, none⟩ = some (.int .i64 (ia : Int)) ∧ w'.cell? ⟨tb0, to0 + ia * 3, none⟩ = some (.string na) ∧ w'.cell? ⟨a, 2, none⟩ = some (.int .i64 (ib : Int)) ∧ w'.cell? ⟨tb0, to0 + ib * 3, none⟩ = some (.string nb))) (by kernel_rfl) hS0.out (fun hHeld => ?_)
          refine' wpAnyH_take (i := 0) (v := ?v0r) rfl (by kernel_rfl) (by kernel_rfl) (by kernel_rfl) (fun _ _ _ h => h) (Or.inl ⟨by rfl, ?hy0r⟩) hHeld ?rest0r
          case hy0r =>
            intro w hSw
            try dsimp only at hSw
            go_simp
            all_goals with_reducible rfl
          try simp only [Act.put, List.setIfInBounds_toArray, List.set_cons_zero, List.set_cons_succ, List.getElem_toArray, List.getElem_cons_zero]
          refine' wpAnyH_take (i := 1) (v := ?v1r) rfl (by kernel_rfl) (by kernel_rfl) (by kernel_rfl) (fun _ _ _ h => h) (Or.inl ⟨by rfl, ?hy1r⟩) hHeld ?rest1r
          case hy1r =>
            intro w hSw
            try dsimp only at hSw
            go_simp
            all_goals with_reducible rfl
          try simp only [Act.put, List.setIfInBounds_toArray, List.set_cons_zero, List.set_cons_succ, List.getElem_toArray, List.getElem_cons_zero, List.getElem_cons_succ]
          refine' wpAnyH_take (i := 2) (v := ?v2r) rfl (by kernel_rfl) (by kernel_rfl) (by kernel_rfl) (fun _ _ _ h => h) (Or.inl ⟨by rfl, ?hy2r⟩) hHeld ?rest2r
          case hy2r =>
            intro w hSw
            try dsimp only at hSw
            go_simp
            all_goals with_reducible rfl
          try simp only [Act.put, List.setIfInBounds_toArray, List.set_cons_zero, List.set_cons_succ, List.getElem_toArray, List.getElem_cons_zero, List.getElem_cons_succ]
          refine' wpAnyH_take (i := 3) (v := ?v3r) rfl (by kernel_rfl) (by kernel_rfl) (by kernel_rfl) (fun _ _ _ h => h) (Or.inl ⟨by rfl, ?hy3r⟩) hHeld ?rest3r
          case hy3r =>
            intro w hSw
            try dsimp only at hSw
            go_simp
            all_goals with_reducible rfl
          try simp only [Act.put, List.setIfInBounds_toArray, List.set_cons_zero, List.set_cons_succ, List.getElem_toArray, List.getElem_cons_zero, List.getElem_cons_succ]
          refine' wpAnyH_take (i := 4) (v := ?v4r) rfl (by kernel_rfl) (by kernel_rfl) (by kernel_rfl) (fun _ _ _ h => h) (Or.inl ⟨by rfl, ?hy4r⟩) hHeld ?rest4r
          case hy4r =>
            intro w hSw
            try dsimp only at hSw
            go_simp
            all_goals with_reducible rfl
          try simp only [Act.put, List.setIfInBounds_toArray, List.set_cons_zero, List.set_cons_succ, List.getElem_toArray, List.getElem_cons_zero, List.getElem_cons_succ]
          refine' wpAnyH_take (i := 5) (v := ?v5r) rfl (by kernel_rfl) (by kernel_rfl) (by kernel_rfl) (fun _ _ _ h => h) (Or.inl ⟨by rfl, ?hy5r⟩) hHeld ?rest5r
          case hy5r =>
            intro w hSw
            try dsimp only at hSw
            go_simp
            all_goals with_reducible rfl
          try simp only [Act.put, List.setIfInBounds_toArray, List.set_cons_zero, List.set_cons_succ, List.getElem_toArray, List.getElem_cons_zero, List.getElem_cons_succ]
          refine' wpAnyH_take (i := 6) (v := ?v6r) rfl (by kernel_rfl) (by kernel_rfl) (by kernel_rfl) (fun _ _ _ h => h) (Or.inl ⟨by rfl, ?hy6r⟩) hHeld ?rest6r
          case hy6r =>
            intro w hSw
            try dsimp only at hSw
            go_simp
            all_goals with_reducible rfl
          try simp only [Act.put, List.setIfInBounds_toArray, List.set_cons_zero, List.set_cons_succ, List.getElem_toArray, List.getElem_cons_zero, List.getElem_cons_succ]
          refine' wpAnyH_take (i := 7) (v := ?v7r) rfl (by kernel_rfl) (by kernel_rfl) (by kernel_rfl) (fun _ _ _ h => h) (Or.inl ⟨by rfl, ?hy7r⟩) hHeld ?rest7r
          case hy7r =>
            intro w hSw
            try dsimp only at hSw
            go_simp
            all_goals with_reducible rfl
          try simp only [Act.put, List.setIfInBounds_toArray, List.set_cons_zero, List.set_cons_succ, List.getElem_toArray, List.getElem_cons_zero, List.getElem_cons_succ]
          refine' wpAnyH_take (i := 8) (v := ?v8r) rfl (by kernel_rfl) (by kernel_rfl) (by kernel_rfl) (fun _ _ _ h => h) (Or.inl ⟨by rfl, ?hy8r⟩) hHeld ?rest8r
          case hy8r =>
            intro w hSw
            try dsimp only at hSw
            go_simp
            all_goals with_reducible rfl
          try simp only [Act.put, List.setIfInBounds_toArray, List.set_cons_zero, List.set_cons_succ, List.getElem_toArray, List.getElem_cons_zero, List.getElem_cons_succ]
          refine' wpAnyH_take (i := 9) (v := ?v9r) rfl (by kernel_rfl) (by kernel_rfl) (by kernel_rfl) (fun _ _ _ h => h) (Or.inl ⟨by rfl, ?hy9r⟩) hHeld ?rest9r
          case hy9r =>
            intro w hSw
            try dsimp only at hSw
            go_simp
            all_goals with_reducible rfl
          try simp only [Act.put, List.setIfInBounds_toArray, List.set_cons_zero, List.set_cons_succ, List.getElem_toArray, List.getElem_cons_zero, List.getElem_cons_succ]
          refine' wpAnyH_take (i := 10) (v := ?v10r) rfl (by kernel_rfl) (by kernel_rfl) (by kernel_rfl) (fun _ _ _ h => h) (Or.inl ⟨by rfl, ?hy10r⟩) hHeld ?rest10r
          case hy10r =>
            intro w hSw
            try dsimp only at hSw
            go_simp
            all_goals with_reducible rfl
          try simp only [Act.put, List.setIfInBounds_toArray, List.set_cons_zero, List.set_cons_succ, List.getElem_toArray, List.getElem_cons_zero, List.getElem_cons_succ]
          refine' wpAnyH_take (i := 11) (v := ?v11r) rfl (by kernel_rfl) (by kernel_rfl) (by kernel_rfl) (fun _ _ _ h => h) (Or.inl ⟨by rfl, ?hy11r⟩) hHeld ?rest11r
          case hy11r =>
            intro w hSw
            try dsimp only at hSw
            go_simp
            all_goals with_reducible rfl
          try simp only [Act.put, List.setIfInBounds_toArray, List.set_cons_zero, List.set_cons_succ, List.getElem_toArray, List.getElem_cons_zero, List.getElem_cons_succ]
          refine' wpAnyH_take (i := 12) (v := ?v12r) rfl (by kernel_rfl) (by kernel_rfl) (by kernel_rfl) (fun _ _ _ h => h) (Or.inl ⟨by rfl, ?hy12r⟩) hHeld ?rest12r
          case hy12r =>
            intro w hSw
            try dsimp only at hSw
            go_simp
            all_goals with_reducible rfl
          try simp only [Act.put, List.setIfInBounds_toArray, List.set_cons_zero, List.set_cons_succ, List.getElem_toArray, List.getElem_cons_zero, List.getElem_cons_succ]
          refine' wpAnyH_take (i := 13) (v := ?v13r) rfl (by kernel_rfl) (by kernel_rfl) (by kernel_rfl) (fun _ _ _ h => h) (Or.inl ⟨by rfl, ?hy13r⟩) hHeld ?rest13r
          case hy13r =>
            intro w hSw
            try dsimp only at hSw
            go_simp
            all_goals with_reducible rfl
          try simp only [Act.put, List.setIfInBounds_toArray, List.set_cons_zero, List.set_cons_succ, List.getElem_toArray, List.getElem_cons_zero, List.getElem_cons_succ]
          refine' wpAnyH_take (i := 14) (v := ?v14r) rfl (by kernel_rfl) (by kernel_rfl) (by kernel_rfl) (fun _ _ _ h => h) (Or.inl ⟨by rfl, ?hy14r⟩) hHeld ?rest14r
          case hy14r =>
            intro w hSw
            try dsimp only at hSw
            go_simp
            all_goals with_reducible rfl
          try simp only [Act.put, List.setIfInBounds_toArray, List.set_cons_zero, List.set_cons_succ, List.getElem_toArray, List.getElem_cons_zero, List.getElem_cons_succ]
          refine' wpAnyH_take (i := 15) (v := ?v15r) rfl (by kernel_rfl) (by kernel_rfl) (by kernel_rfl) (fun _ _ _ h => h) (Or.inl ⟨by rfl, ?hy15r⟩) hHeld ?rest15r
          case hy15r =>
            intro w hSw
            try dsimp only at hSw
            go_simp
            all_goals with_reducible rfl
          try simp only [Act.put, List.setIfInBounds_toArray, List.set_cons_zero, List.set_cons_succ, List.getElem_toArray, List.getElem_cons_zero, List.getElem_cons_succ]
          refine' wpAnyH_take (i := 16) (v := ?v16r) rfl (by kernel_rfl) (by kernel_rfl) (by kernel_rfl) (fun _ _ _ h => h) (Or.inl ⟨by rfl, ?hy16r⟩) hHeld ?rest16r
          case hy16r =>
            intro w hSw
            try dsimp only at hSw
            go_simp
            all_goals with_reducible rfl
          try simp only [Act.put, List.setIfInBounds_toArray, List.set_cons_zero, List.set_cons_succ, List.getElem_toArray, List.getElem_cons_zero, List.getElem_cons_succ]
          refine' wpAnyH_take (i := 17) (v := ?v17r) rfl (by kernel_rfl) (by kernel_rfl) (by kernel_rfl) (fun _ _ _ h => h) (Or.inl ⟨by rfl, ?hy17r⟩) hHeld ?rest17r
          case hy17r =>
            intro w hSw
            try dsimp only at hSw
            go_simp
            all_goals with_reducible rfl
          try simp only [Act.put, List.setIfInBounds_toArray, List.set_cons_zero, List.set_cons_succ, List.getElem_toArray, List.getElem_cons_zero, List.getElem_cons_succ]
          refine' wpAnyH_take (i := 18) (v := ?v18r) rfl (by kernel_rfl) (by kernel_rfl) (by kernel_rfl) (fun _ _ _ h => h) (Or.inl ⟨by rfl, ?hy18r⟩) hHeld ?rest18r
          case hy18r =>
            intro w hSw
            try dsimp only at hSw
            go_simp
            all_goals with_reducible rfl
          try simp only [Act.put, List.setIfInBounds_toArray, List.set_cons_zero, List.set_cons_succ, List.getElem_toArray, List.getElem_cons_zero, List.getElem_cons_succ]
          refine' wpAnyH_take (i := 19) (v := ?v19r) rfl (by kernel_rfl) (by kernel_rfl) (by kernel_rfl) (fun _ _ _ h => h) (Or.inl ⟨by rfl, ?hy19r⟩) hHeld ?rest19r
          case hy19r =>
            intro w hSw
            try dsimp only at hSw
            go_simp
            all_goals with_reducible rfl
          try simp only [Act.put, List.setIfInBounds_toArray, List.set_cons_zero, List.set_cons_succ, List.getElem_toArray, List.getElem_cons_zero, List.getElem_cons_succ]
          refine' wpAnyH_take (i := 20) (v := ?v20r) rfl (by kernel_rfl) (by kernel_rfl) (by kernel_rfl) (fun _ _ _ h => h) (Or.inl ⟨by rfl, ?hy20r⟩) hHeld ?rest20r
          case hy20r =>
            intro w hSw
            try dsimp only at hSw
            go_simp
            all_goals with_reducible rfl
          try simp only [Act.put, List.setIfInBounds_toArray, List.set_cons_zero, List.set_cons_succ, List.getElem_toArray, List.getElem_cons_zero, List.getElem_cons_succ]
          refine wpAnyH_ready (rs := [21]) (by kernel_rfl) (by simp) ?_
          refine AllReadyH.cons rfl (fun K hK => ?_) AllReadyH.nil
          go_simp
          refine world_is (P := fun W => K _ W) (fun W3 hW3 => ?_)
          have hB3 : Below W2.heap.size W2 W3 := by rw [← hW3]; exact ((Below.refl _ _).drew).alloc (Nat.le_refl _) _
          have E3 : Hid (PrE w W3 g b q (.string p.name) (.slice (some ⟨tb0, to0, none⟩) T ct) (.slice (some ⟨rb, ro, none⟩) R cr) (.slice Aq Q cq) (H) (N0)) := EN2.out.below hB3
          have X3 : Hid (Blk W3 W2.heap.size 9 (([⟨#[9]⟩, z, ⟨#[32]⟩, na, ⟨#[32, 45, 62, 32]⟩, nb, ⟨#[59, 10]⟩] : List ByteArray).map Value.string).toArray) := by unfold Hid; rw [← hW3]; exact Blk.new _ _ _
          have EB3 := Lib.hid (EB.out.below hB3 EB.out.lt)
          have HS3 : Hid ((fun w' => w'.cell? ⟨q, 0, none⟩ = some (.func (.func 37) #[] #[.pointer (some ⟨b, 0, none⟩)]) ∧ w'.cell? ⟨1, 0, none⟩ = some (.slice (some ⟨fb, fo, none⟩) 5 fc) ∧ w'.cell? ⟨a, 0, none⟩ = some (.int .i64 ((kd : Int) + 1)) ∧ w'.cell? ⟨fb, fo + kd, none⟩ = some (.string z) ∧ w'.cell? ⟨g, 1, none⟩ = some (.slice (some ⟨tb0, to0, none⟩) T ct) ∧ w'.cell? ⟨a, 1, none⟩ = some (.int .i64 (ia : Int)) ∧ w'.cell? ⟨tb0, to0 + ia * 3, none⟩ = some (.string na) ∧ w'.cell? ⟨a, 2, none⟩ = some (.int .i64 (ib : Int)) ∧ w'.cell? ⟨tb0, to0 + ib * 3, none⟩ = some (.string nb)) W3) := (hSk W3 E3.out.bel hB3)
          clear hW3 hB3
          refine hK.out _ _ ?_ (fun hHeld2 => ?_)
          · exact HS3.out
          clear hK K hHeld
          have hHeld := hHeld2
          clear hHeld2
          try simp only [Act.put, List.setIfInBounds_toArray, List.set_cons_zero, List.set_cons_succ, List.getElem_toArray, List.getElem_cons_zero, List.getElem_cons_succ]
          refine wpAnyH_ready (rs := [22]) (by kernel_rfl) (by simp) ?_
          refine AllReadyH.cons rfl (fun K hK => ?_) AllReadyH.nil
          go_simp
          go_at_call 37
          refine (putE E3.out (Below.refl _ _) W2.heap.size 7 8900 [⟨#[9]⟩, z, ⟨#[32]⟩, na, ⟨#[32, 45, 62, 32]⟩, nb, ⟨#[59, 10]⟩] hk.out hN.out (by simp) X3.out).mono ?_
          rintro e w4 ⟨rfl, h1, hK⟩
          have E4 := Lib.hid h1
          have EB4 := Lib.hid (E3.out.keeps hK EB3.out (by decide) (by decide))
          have HS4 : Hid ((fun w' => w'.cell? ⟨q, 0, none⟩ = some (.func (.func 37) #[] #[.pointer (some ⟨b, 0, none⟩)]) ∧ w'.cell? ⟨1, 0, none⟩ = some (.slice (some ⟨fb, fo, none⟩) 5 fc) ∧ w'.cell? ⟨a, 0, none⟩ = some (.int .i64 ((kd : Int) + 1)) ∧ w'.cell? ⟨fb, fo + kd, none⟩ = some (.string z) ∧ w'.cell? ⟨g, 1, none⟩ = some (.slice (some ⟨tb0, to0, none⟩) T ct) ∧ w'.cell? ⟨a, 1, none⟩ = some (.int .i64 (ia : Int)) ∧ w'.cell? ⟨tb0, to0 + ia * 3, none⟩ = some (.string na) ∧ w'.cell? ⟨a, 2, none⟩ = some (.int .i64 (ib : Int)) ∧ w'.cell? ⟨tb0, to0 + ib * 3, none⟩ = some (.string nb)) w4) := ⟨E4.out.put.cell 0, HF0.out w4 E4.out.bel, EB4.out.cell 0, HF2.out w4 E4.out.bel, E4.out.box.cell 1, EB4.out.cell 1, HZ0.out w4 E4.out.bel, EB4.out.cell 2, HZ1.out w4 E4.out.bel⟩
          clear h1 hK
          go_wp2_with fail
          refine hK.out _ _ ?_ (fun hHeld2 => ?_)
          · exact HS4.out
          clear hK K hHeld
          have hHeld := hHeld2
          clear hHeld2
          try simp only [Act.put, List.setIfInBounds_toArray, List.set_cons_zero, List.set_cons_succ, List.getElem_toArray, List.getElem_cons_zero, List.getElem_cons_succ]
          refine wpAnyH_done (by kernel_rfl) ?_ _
          clear hHeld
          go_wp2_with fail
          go_roundw
          case rel => exact ⟨j + 1, by go_num, hltH.out, (E4.out.up (by have := hN0H.out; omega)).is (by rw [hsn.out, ← List.append_assoc, hHH.out, hrt.out])⟩
          case measure => have := hltH.out; simp [intOf]; omega
        · have d1 : decide (j < R) = false := decide_eq_false hlt
          have d2 : decide ((j : Int) < (R : Int)) = false := decide_eq_false (by omega)
          have hjR : j = R := Nat.le_antisymm hj (Nat.le_of_not_lt hlt)
          have E2 : Hid (PrE w wr g b q (.string p.name) (.slice At T ct) (.slice Ar R cr) (.slice Aq Q cq) (H1 ++ p.ruls.flatMap (rulTxt p.typs) ++ (p.quos.take 0).flatMap quoTxt) (70005000 + 300 * 0)) := by
            rw [hjR, List.take_of_length_le (by rw [hRH.out]; exact Nat.le_refl _)] at EN
            exact (EN.out.up (by omega)).is (by simp)
          have c3 := E2.out.box.cell 3
          clear hlt hjR EN
          obtain ⟨H2, hH2⟩ : ∃ H, H1 ++ p.ruls.flatMap (rulTxt p.typs) = H := ⟨_, rfl⟩
          rw [hH2] at E2
          have hH2H := Lib.hid hH2
          clear hH2
          obtain ⟨wo2, rfl⟩ : ∃ x, x = wr := ⟨_, rfl⟩
          go_wp2_with fail
          go_loopw [103] (fun v103 wr => ∃ m : Nat, v103 = .int .i64 m ∧ m ≤ Q ∧ Hid (PrE w wr g b q (.string p.name) (.slice At T ct) (.slice Ar R cr) (.slice Aq Q cq) (H2 ++ (p.quos.take m).flatMap quoTxt) (70005000 + 300 * m))) (fun v103 _ => Q - (intOf v103).toNat)
          case atStart => exact ⟨0, rfl, Nat.zero_le _, E2.out⟩
          case round =>
          clear E2 c3
          obtain ⟨m, rfl, hm, EN⟩ := hrel
          by_cases hlt : m < Q
          · have d1 : decide (m < Q) = true := decide_eq_true hlt
            have d2 : decide ((m : Int) < (Q : Int)) = true := decide_eq_true (by omega)
            obtain ⟨u, hu⟩ : ∃ u, p.quos[m]? = some u := ⟨_, List.getElem?_eq_getElem (by rw [hQH.out]; exact hlt)⟩
            obtain ⟨rb, ro, rfl, hrb, y0, y1, y2, y3, y4⟩ := RQ.out.quo m u hu
            have k0 := (EN.out.bel.cell (p := ⟨rb, _, none⟩) hrb).trans y0
            have k1 := (EN.out.bel.cell (p := ⟨rb, _, none⟩) hrb).trans y1
            have k2 := (EN.out.bel.cell (p := ⟨rb, _, none⟩) hrb).trans y2
            have k3 := (EN.out.bel.cell (p := ⟨rb, _, none⟩) hrb).trans y3
            have k4 := (EN.out.bel.cell (p := ⟨rb, _, none⟩) hrb).trans y4
            have huok := Lib.hid (hPO.out.quos u (List.mem_of_getElem? hu))
            have hoo := Lib.hid (OK.out.quos u (List.mem_of_getElem? hu))
            have hsn := Lib.hid (flat_snoc quoTxt hu)
            have q0 : (0 : Int) ≤ (m : Int) := by omega
            have q1 : (m : Int) < (Q : Int) := by omega
            have q2 : (Q : Int) ≤ 100000 := by omega
            have hltH := Lib.hid hlt
            have hmH : Hid (m < 5000) := by unfold Hid; omega
            clear hu hlt y0 y1 y2 y3 y4
            go_upto_region 30 with fail
            refine world_is (P := fun W => Code.wp _ _ _ _ W) (fun W2 hW2 => ?_)
            have hB2 : Below wr.heap.size wr W2 := by rw [← hW2]; exact (Below.refl _ _).alloc (Nat.le_refl _) _
            have EB : Hid (Blk W2 wr.heap.size 55 #[.int .i64 u.cmd, .int .i64 u.count, .int .i64 u.delay, .int .i64 u.valid, .int .i64 u.uses]) := by unfold Hid; rw [← hW2]; exact Blk.new _ _ _
            have EN2 := Lib.hid (EN.out.below hB2)
            obtain ⟨a, ea⟩ : ∃ x, wr.heap.size = x := ⟨_, rfl⟩
            rw [ea] at EB ⊢
            clear hW2 hB2 EN k0 k1 k2 k3 k4 ea
            obtain ⟨H, hH⟩ : ∃ H, H2 ++ (p.quos.take m).flatMap quoTxt = H := ⟨_, rfl⟩
            obtain ⟨N0, hN0⟩ : ∃ N, 70005000 + 300 * m = N := ⟨_, rfl⟩
            rw [hH, hN0] at EN2
            have hHH := Lib.hid hH
            have hN : Hid (N0 + 50 ≤ 1000000000) := by have := hmH.out; unfold Hid; omega
            have hNx : Hid (N0 + 300 ≤ 1000000000) := by have := hmH.out; unfold Hid; omega
            have hN0H := Lib.hid hN0
            clear hH hN0
            have hWD := Lib.hid (fun W (h : Below w.heap.size w W) => Word_any u.cmd hoo.out.1.1 hoo.out.1.2 W (HW.out.commands.below h))
            have hXs : Hid ((wordN u.cmd).size ≤ 12) := wordN_len u.cmd
            have hXq := Lib.hid (rfl : quoHead u = quoHead u)
            obtain ⟨X, hX⟩ : ∃ X, wordN u.cmd = X := ⟨_, rfl⟩
            have hXH := Lib.hid hX
            rw [hX] at hWD hXs
            clear hX
            obtain ⟨U1, hU1⟩ : ∃ U, (⟨#[9, 113, 117, 111, 114, 117, 109, 32]⟩ : ByteArray) ++ X = U := ⟨_, rfl⟩
            have a1 : ∀ wx, (Op.stringOp .add ⟨#[9, 113, 117, 111, 114, 117, 109, 32]⟩ X).run Tryd.prog wx = .ok (.string U1) wx := fun wx => by
              rw [← hU1]
              exact run_string_add_sum wx _ _ (by show 8 + X.size ≤ _; have := hXs.out; omega)
            have hU1s : Hid (U1.size = 8 + X.size) := by unfold Hid; rw [← hU1, ByteArray.size_append]; rfl
            obtain ⟨U2, hU2⟩ : ∃ U, U1 ++ (⟨#[32]⟩ : ByteArray) = U := ⟨_, rfl⟩
            have a2 : ∀ wx, (Op.stringOp .add U1 ⟨#[32]⟩).run Tryd.prog wx = .ok (.string U2) wx := fun wx => by
              rw [← hU2]
              exact run_string_add_sum wx _ _ (by show U1.size + 1 ≤ _; have := hXs.out; have := hU1s.out; omega)
            have hU2s : Hid (U2.size + 21 ≤ 50) := by
              unfold Hid
              rw [← hU2, ByteArray.size_append]
              show U1.size + 1 + 21 ≤ 50
              have := hXs.out
              have := hU1s.out
              omega
            have hhd : Hid (strL U2 ++ Lib.itoa u.count = quoHead u) := by unfold Hid quoHead; rw [← hU2, ← hU1, strL_app, strL_app, hXH.out]; simp [strL]
            have hc1 : Hid (-9223372036854775808 ≤ u.count) := hoo.out.2.1.1
            have hc2 : Hid (u.count ≤ 9223372036854775807) := hoo.out.2.1.2
            clear hU1 hU2 hU1s
            refine wp_region_held_drew (S := (fun w' => w'.cell? ⟨a, 0, none⟩ = some (.int .i64 u.cmd) ∧ w'.cell? ⟨a, 1, none⟩ = some (.int .i64 u.count))) (by kernel_rfl) ⟨EB.out.cell 0, EB.out.cell 1⟩ (fun hHeld => ?_)
            refine' wpAnyH_take (i := 0) (v := ?v0q) rfl (by kernel_rfl) (by kernel_rfl) (by kernel_rfl) (fun _ _ _ h => h) (Or.inl ⟨by rfl, ?hy0q⟩) hHeld ?rest0q
            case hy0q =>
              intro w hSw
              try dsimp only at hSw
              go_simp
              all_goals with_reducible rfl
            try simp only [Act.put, List.setIfInBounds_toArray, List.set_cons_zero, List.set_cons_succ, List.getElem_toArray, List.getElem_cons_zero]
            refine' wpAnyH_take (i := 1) (v := ?v1q) rfl (by kernel_rfl) (by kernel_rfl) (by kernel_rfl) (fun _ _ _ h => h) (Or.inl ⟨by rfl, ?hy1q⟩) hHeld ?rest1q
            case hy1q =>
              intro w hSw
              try dsimp only at hSw
              go_simp
              all_goals with_reducible rfl
            try simp only [Act.put, List.setIfInBounds_toArray, List.set_cons_zero, List.set_cons_succ, List.getElem_toArray, List.getElem_cons_zero, List.getElem_cons_succ]
            refine' wpAnyH_take (i := 2) (v := ?v2q) rfl (by kernel_rfl) (by kernel_rfl) (by kernel_rfl) (fun _ _ _ h => h) (Or.inl ⟨by rfl, ?hy2q⟩) hHeld ?rest2q
            case hy2q =>
              intro w hSw
              try dsimp only at hSw
              go_simp
              all_goals with_reducible rfl
            try simp only [Act.put, List.setIfInBounds_toArray, List.set_cons_zero, List.set_cons_succ, List.getElem_toArray, List.getElem_cons_zero, List.getElem_cons_succ]
            refine' wpAnyH_take (i := 6) (v := ?v6q) rfl (by kernel_rfl) (by kernel_rfl) (by kernel_rfl) (fun _ _ _ h => h) (Or.inl ⟨by rfl, ?hy6q⟩) hHeld ?rest6q
            case hy6q =>
              intro w hSw
              try dsimp only at hSw
              go_simp
              all_goals with_reducible rfl
            try simp only [Act.put, List.setIfInBounds_toArray, List.set_cons_zero, List.set_cons_succ, List.getElem_toArray, List.getElem_cons_zero, List.getElem_cons_succ]
            refine' wpAnyH_take (i := 7) (v := ?v7q) rfl (by kernel_rfl) (by kernel_rfl) (by kernel_rfl) (fun _ _ _ h => h) (Or.inl ⟨by rfl, ?hy7q⟩) hHeld ?rest7q
            case hy7q =>
              intro w hSw
              try dsimp only at hSw
              go_simp
              all_goals with_reducible rfl
            try simp only [Act.put, List.setIfInBounds_toArray, List.set_cons_zero, List.set_cons_succ, List.getElem_toArray, List.getElem_cons_zero, List.getElem_cons_succ]
            refine wpAnyH_ready (rs := [3]) (by kernel_rfl) (by simp) ?_
            refine AllReadyH.cons rfl (fun K hK => ?_) AllReadyH.nil
            go_simp
            go_at_call 16
            refine (hWD.out _ (by first | exact EN2.out.bel | exact EN2.out.bel.drew)).mono ?_
            rintro e w3 ⟨rfl, hb3⟩
            have hB3 : Below W2.heap.size W2 w3 := ((Below.refl _ _).drew).trans hb3
            have E3 : Hid (PrE w w3 g b q (.string p.name) (.slice At T ct) (.slice Ar R cr) (.slice (some ⟨rb, ro, none⟩) Q cq) (H) (N0)) := EN2.out.below hB3
            have EB3 := Lib.hid (EB.out.below hB3 EB.out.lt)
            clear hb3 hB3
            refine hK.out _ _ ?_ (fun hHeld2 => ?_)
            · exact ⟨EB3.out.cell 0, EB3.out.cell 1⟩
            clear hK K hHeld
            have hHeld := hHeld2
            clear hHeld2
            try simp only [Act.put, List.setIfInBounds_toArray, List.set_cons_zero, List.set_cons_succ, List.getElem_toArray, List.getElem_cons_zero, List.getElem_cons_succ]
            refine' wpAnyH_take (i := 4) (v := ?v4q) rfl (by kernel_rfl) (by kernel_rfl) (by kernel_rfl) (fun _ _ _ h => h) (Or.inl ⟨by rfl, ?hy4q⟩) hHeld ?rest4q
            case hy4q =>
              intro w hSw
              try dsimp only at hSw
              go_simp
              all_goals with_reducible rfl
            try simp only [Act.put, List.setIfInBounds_toArray, List.set_cons_zero, List.set_cons_succ, List.getElem_toArray, List.getElem_cons_zero, List.getElem_cons_succ]
            refine' wpAnyH_take (i := 5) (v := ?v5q) rfl (by kernel_rfl) (by kernel_rfl) (by kernel_rfl) (fun _ _ _ h => h) (Or.inl ⟨by rfl, ?hy5q⟩) hHeld ?rest5q
            case hy5q =>
              intro w hSw
              try dsimp only at hSw
              go_simp
              all_goals with_reducible rfl
            try simp only [Act.put, List.setIfInBounds_toArray, List.set_cons_zero, List.set_cons_succ, List.getElem_toArray, List.getElem_cons_zero, List.getElem_cons_succ]
            refine wpAnyH_ready (rs := [8]) (by kernel_rfl) (by simp) ?_
            refine AllReadyH.cons rfl (fun K hK => ?_) AllReadyH.nil
            go_simp
            go_at_call 39
            refine (numE E3.out (Below.refl _ _) U2 u.count 50 hc1.out hc2.out hU2s.out hN.out HPW.out).mono ?_
            rintro e w4 ⟨rfl, h1, hK⟩
            have E4 := Lib.hid h1
            have EB4 := Lib.hid (E3.out.keeps hK EB3.out (by decide) (by decide))
            clear h1 hK
            go_wp2_with fail
            refine hK.out _ _ ?_ (fun hHeld2 => ?_)
            · exact ⟨EB4.out.cell 0, EB4.out.cell 1⟩
            clear hK K hHeld
            have hHeld := hHeld2
            clear hHeld2
            try simp only [Act.put, List.setIfInBounds_toArray, List.set_cons_zero, List.set_cons_succ, List.getElem_toArray, List.getElem_cons_zero, List.getElem_cons_succ]
            refine wpAnyH_done (by kernel_rfl) ?_ _
            clear hHeld
            rw [hhd.out] at E4
            have b2 := EB4.out.cell 2
            clear EN2 EB EB3 E3 a1 a2 hWD
            go_upto_if 118 with fail
            go_cut [] from 118 to 137 (fun wx => Hid (PrE w wx g b q (.string p.name) (.slice At T ct) (.slice Ar R cr) (.slice (some ⟨rb, ro, none⟩) Q cq) (H ++ quoHead u ++ delayTxt u.delay) (N0 + 80)) ∧ Hid (Blk wx a 55 #[.int .i64 u.cmd, .int .i64 u.count, .int .i64 u.delay, .int .i64 u.valid, .int .i64 u.uses]))
            case first =>
              by_cases hdl : 0 < u.delay
              · have d3 : decide ((0 : Int) < u.delay) = true := decide_eq_true hdl
                have hdt : Hid (delayTxt u.delay = [32, 97, 102, 116, 101, 114, 32] ++ Lib.itoa u.delay) := by unfold Hid delayTxt; rw [if_pos hdl]
                go_wp2_with fail
                refine (numE E4.out (Below.refl _ _) ⟨#[32, 97, 102, 116, 101, 114, 32]⟩ u.delay 30 hoo.out.2.2.1.1 hoo.out.2.2.1.2 (by decide) (by have := hNx.out; omega) HPW.out).mono ?_
                rintro e w5 ⟨rfl, h1, hK⟩
                have E5 := Lib.hid h1
                have EB5 := Lib.hid (E4.out.keeps hK EB4.out (by decide) (by decide))
                clear h1 hK E4 EB4 b2
                go_wp2_with fail
                go_meet
                exact ⟨(E5.out.up (by omega)).is (by rw [hdt.out]; simp [strL]), EB5.out⟩
              · have d3 : decide ((0 : Int) < u.delay) = false := decide_eq_false hdl
                have hdt : Hid (delayTxt u.delay = []) := by unfold Hid delayTxt; rw [if_neg hdl]
                go_wp2_with fail
                go_meet
                exact ⟨(E4.out.up (by omega)).is (by rw [hdt.out]; simp), EB4.out⟩
            case rest =>
            obtain ⟨h1, h2⟩ := hcut
            have E5 := Lib.hid h1.out
            have EB5 := Lib.hid h2.out
            have b3 := EB5.out.cell 3
            clear h1 h2 E4 EB4 b2
            go_wp2_with fail
            refine (numE E5.out (Below.refl _ _) ⟨#[32, 119, 105, 116, 104, 105, 110, 32]⟩ u.valid 30 hoo.out.2.2.2.1.1 hoo.out.2.2.2.1.2 (by decide) (by have := hNx.out; omega) HPW.out).mono ?_
            rintro e w6 ⟨rfl, h1, hK⟩
            have E6 := Lib.hid h1
            have EB6 := Lib.hid (E5.out.keeps hK EB5.out (by decide) (by decide))
            clear h1 hK E5 EB5 b3
            have b4 := EB6.out.cell 4
            go_upto_if 129 with fail
            go_cut [] from 129 to 137 (fun wx => Hid (PrE w wx g b q (.string p.name) (.slice At T ct) (.slice Ar R cr) (.slice (some ⟨rb, ro, none⟩) Q cq) (H ++ quoHead u ++ delayTxt u.delay ++ ([32, 119, 105, 116, 104, 105, 110, 32] ++ Lib.itoa u.valid) ++ usesTxt u.uses) (N0 + 140)))
            case first =>
              by_cases hus : u.uses = 1
              · have d3 : (u.uses != 1) = false := by rw [hus]; rfl
                have hut : Hid (usesTxt u.uses = []) := by unfold Hid usesTxt; rw [if_pos hus]
                go_wp2_with fail
                go_meet
                exact (E6.out.up (by omega)).is (by rw [hut.out]; simp [strL])
              · have d3 : (u.uses != 1) = true := by simpa using hus
                have hut : Hid (usesTxt u.uses = [32, 117, 115, 101, 115, 32] ++ Lib.itoa u.uses) := by unfold Hid usesTxt; rw [if_neg hus]
                go_wp2_with fail
                refine (numE E6.out (Below.refl _ _) ⟨#[32, 117, 115, 101, 115, 32]⟩ u.uses 30 hoo.out.2.2.2.2.1 hoo.out.2.2.2.2.2 (by decide) (by have := hNx.out; omega) HPW.out).mono ?_
                rintro e w7 ⟨rfl, h1, hK⟩
                have E7 := Lib.hid h1
                clear h1 hK E6 EB6 b4
                go_wp2_with fail
                go_meet
                exact (E7.out.up (by omega)).is (by rw [hut.out]; simp [strL])
            case rest =>
            have E7 := Lib.hid hcut.out
            have qc := E7.out.put.cell 0
            clear hcut E6 EB6 b4
            go_wp2_with fail
            refine (putE E7.out ((Below.refl _ _).alloc (Nat.le_refl _) _) _ _ 2 [⟨#[59, 10]⟩] (by decide) (by have := hNx.out; omega) (by simp) (Blk.new _ _ _)).mono ?_
            rintro e w8 ⟨rfl, h1, hK⟩
            have E8 : Hid (PrE w w8 g b q (.string p.name) (.slice At T ct) (.slice Ar R cr) (.slice (some ⟨rb, ro, none⟩) Q cq) (H2 ++ (p.quos.take (m + 1)).flatMap quoTxt) (70005000 + 300 * (m + 1))) := (h1.up (by have := hN0H.out; omega)).is (by rw [hsn.out, ← hHH.out]; unfold quoTxt; simp [cat])
            clear h1 hK E7 qc
            go_wp2_with fail
            go_roundw
            case rel => exact ⟨m + 1, by go_num, hltH.out, E8.out⟩
            case measure => have := hltH.out; simp [intOf]; omega
          · have d1 : decide (m < Q) = false := decide_eq_false hlt
            have d2 : decide ((m : Int) < (Q : Int)) = false := decide_eq_false (by omega)
            have hmQ : m = Q := Nat.le_antisymm hm (Nat.le_of_not_lt hlt)
            have E3 : Hid (PrE w wr g b q (.string p.name) (.slice At T ct) (.slice Ar R cr) (.slice Aq Q cq) (H2 ++ p.quos.flatMap quoTxt) 71505000) := by
              rw [hmQ, List.take_of_length_le (by rw [hQH.out]; exact Nat.le_refl _)] at EN
              exact EN.out.up (by omega)
            have qc := E3.out.put.cell 0
            clear hlt hmQ EN
            go_wp2_with fail
            refine (putE E3.out ((Below.refl _ _).alloc (Nat.le_refl _) _) _ _ 2 [⟨#[125, 10]⟩] (by decide) (by omega) (by simp) (Blk.new _ _ _)).mono ?_
            rintro e w8 ⟨rfl, h1, hK⟩
            have E4 : Hid (PrE w w8 g b q (.string p.name) (.slice At T ct) (.slice Ar R cr) (.slice Aq Q cq) (printL p) 71505002) := h1.is (by unfold printL; rw [hH1H.out, hH2H.out]; simp [cat])
            clear h1 hK E3 qc
            obtain ⟨L, hL⟩ : ∃ L, printL p = L := ⟨_, rfl⟩
            rw [hL] at E4 hres
            have hLen := Lib.hid (Tryd.Builder_Len w.heap.size b (Lib.byteCells L) w8 E4.out.bis)
            rw [byteCells_len] at hLen
            have hStr := Lib.hid (Tryd.Builder_String_any w.heap.size b L w8 E4.out.bis E4.out.bel.size)
            obtain ⟨n, hn⟩ : ∃ n, L.length = n := ⟨_, rfl⟩
            rw [hn] at hres hLen
            clear hL hn
            go_wp2_with fail
            refine hLen.out.mono ?_
            rintro e w9 ⟨rfl, rfl⟩
            by_cases hbig : 4000 < n
            · have d3 : decide (4000 < n) = true := decide_eq_true hbig
              have d4 : decide ((4000 : Int) < (n : Int)) = true := decide_eq_true (by omega)
              have hr2 : Hid (printP p = (⟨#[]⟩, 2)) := by unfold Hid; rw [hres.out, if_pos hbig]
              clear hbig
              go_wp2_with fail
              go_ret2
              exact ⟨by rw [hr2.out]; rfl, E4.out.bel⟩
            · have d3 : decide (4000 < n) = false := decide_eq_false hbig
              have d4 : decide ((4000 : Int) < (n : Int)) = false := decide_eq_false (by omega)
              have hr2 : Hid (printP p = (⟨L.toArray⟩, 0)) := by unfold Hid; rw [hres.out, if_neg hbig]
              clear hbig
              go_wp2_with fail
              refine hStr.out.mono ?_
              rintro e w10 ⟨rfl, hB⟩
              have HB : Hid (Below w.heap.size w w10) := E4.out.bel.trans hB
              clear hB
              go_wp2_with fail
              go_ret2
              exact ⟨by rw [hr2.out]; rfl, HB.out⟩
end Go.Proofs.YtemhiiignamkjaaDoor
