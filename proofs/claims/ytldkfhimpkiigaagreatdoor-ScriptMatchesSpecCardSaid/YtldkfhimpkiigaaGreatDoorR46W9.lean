/-
  Layer 46 (script), the specification: Print.
-/
import Derived.Test.YtldkfhimpkiigaaGreatDoorR46W8
import Derived.Test.YtldkfhimpkiigaaGreatDoorScrW14
namespace Go.Proofs.YtldkfhimpkiigaaGreatDoor
open Go.RowKit ScrP
attribute [local go_sem] Oper.semAt_some

theorem flat_len {α : Type} {f : α → List UInt8} {c : Nat} : ∀ (l : List α), (∀ x ∈ l, (f x).length ≤ c) → (l.flatMap f).length ≤ l.length * c
  | [], _ => Nat.zero_le _
  | x :: l, h => by
    have h1 := h x (List.mem_cons_self ..)
    have h2 := flat_len l (fun y hy => h y (List.mem_cons_of_mem _ hy))
    rw [List.flatMap_cons, List.length_append, List.length_cons, Nat.succ_mul]
    omega
theorem textB_len {t : ByteArray} (h : t.size ≤ 4000) : (textB t).length ≤ 10000 := by
  have h1 := barB_len t.data.toList
  have h2 : t.data.toList.length = t.size := Array.length_toList
  rw [textB_bar]
  simp only [List.length_append, List.length_cons, List.length_nil]
  omega
theorem argsB_len {l : List Int} (h : ∀ a ∈ l, 0 ≤ a ∧ a ≤ 2199023255552) : (argsB l).length ≤ l.length * 22 := flat_len l fun a ha => by
  have h6 := h a ha
  have h7 := Lib.itoa_length_le a (by omega) (by omega)
  rw [List.length_cons]
  omega
theorem stepB_len {x : Stp} (h : stepOk x = true) : (stepB x).length ≤ 10000 := by
  have hb := stpB_of h
  have h1 := nameN_small x.kind
  have h2 : (nameN x.kind).data.toList.length = (nameN x.kind).size := Array.length_toList
  have h3 := dataB_len x.text
  have h4 := hb.text
  have h5 := argsB_len hb.args
  have h8 := hb.nargs
  rw [stepB_eq]
  simp only [List.length_append, List.length_cons, List.length_nil]
  omega
theorem barB_step {l : List UInt8} {j : Nat} {c : UInt8} (h : l[j]? = some c) : barB (l.take (j + 1)) = barB (l.take j) ++ if c = 10 then [10, 124] else [c] := by
  unfold barB
  rw [flat_snoc _ h]
def datP (c : UInt8) (l : List UInt8) : List UInt8 := if c = 64 then l else hexB l
theorem datP_nil (c : UInt8) : datP c [] = [] := by unfold datP; split <;> rfl
theorem datP_len (c : UInt8) (l : List UInt8) : (datP c l).length ≤ 2 * l.length := by
  unfold datP
  split
  · omega
  · rw [hexB_len]; omega
theorem datP_step (c : UInt8) {l : List UInt8} {j : Nat} {d : UInt8} (h : l[j]? = some d) : datP c (l.take (j + 1)) = datP c (l.take j) ++ if c = 64 then [d] else [hexD (d.toNat / 16), hexD (d.toNat % 16)] := by
  rw [List.take_add_one, h]
  unfold datP
  split
  · rfl
  · exact hexB_snoc _ _
theorem data_head {t : ByteArray} {c : UInt8} {r : List UInt8} (h : t.data.toList = c :: r) (he : (dataR t).err = 0) : c = 64 ∨ c = 61 := by
  rw [dataR_cons h] at he
  split at he
  · rename_i h1; exact .inr h1.1
  · split at he
    · rename_i h2; exact .inl h2.1
    · cases he
theorem hex_lo2 (c : UInt8) (wx : World) : (Instr.index 9 (.string ⟨#[48, 49, 50, 51, 52, 53, 54, 55, 56, 57, 97, 98, 99, 100, 101, 102]⟩) (.int .u8 ((c.toNat : Int) % 16))).run Tryz.prog wx = .ok (.int .u8 ((hexD (c.toNat % 16)).toNat : Int)) wx := by
  have h := hex_at (c.toNat % 16) (by omega) wx
  rwa [show ((c.toNat % 16 : Nat) : Int) = (c.toNat : Int) % 16 by omega] at h
theorem u8_div (c : UInt8) : IntKind.u8.wrap ((c.toNat : Int) / 16) = (c.toNat : Int) / 16 := by
  have := c.toNat_lt
  unfold IntKind.wrap
  simp [IntKind.signed, IntKind.bits]
  omega
theorem u8_mod (c : UInt8) : IntKind.u8.wrap ((c.toNat : Int) % 16) = (c.toNat : Int) % 16 := by
  have := c.toNat_lt
  unfold IntKind.wrap
  simp [IntKind.signed, IntKind.bits]
  omega
/-- A row that lies below a frame's bound in a later world lay so in the first one. -/
theorem row_back {w w' : World} {B n : Nat} {v : Value} {cs : List Value} (h : RowAt w' B v n cs) (hb : Below B w w') : RowAt w B v n cs := by
  obtain ⟨A, c, hv, hr⟩ := h
  refine ⟨A, c, hv, fun hn => ?_⟩
  obtain ⟨b, o, e, hlt, hc⟩ := hr hn
  exact ⟨b, o, e, hlt, fun j x hj => by rw [← hb.cell (p := ⟨b, o + j, none⟩) hlt]; exact hc j x hj⟩
set_option maxRecDepth 100000 in
set_option maxHeartbeats 40000000 in
theorem rPrint_any (s : Scr) (v : Value) (B : Nat) (w : World) (h : ScrAt w B v s) (hB : B ≤ w.heap.size) (hin : ScrIn s) :
    Calls Tryz.prog 18 #[v] w (PrintPost s w) := by
  have hall := Lib.hid h
  obtain ⟨vt, vs, rfl, ht, hs⟩ := h
  obtain ⟨At, ct, rfl⟩ : ∃ A c, vt = .slice A s.texts.length c := ⟨ht.choose, ht.choose_spec.choose, ht.choose_spec.choose_spec.1⟩
  obtain ⟨As, cs, rfl⟩ : ∃ A c, vs = .slice A s.steps.length c := ⟨hs.choose_spec.2.1.choose, hs.choose_spec.2.1.choose_spec.choose, hs.choose_spec.2.1.choose_spec.choose_spec.1⟩
  have HT := Lib.hid ht
  have HS := Lib.hid hs
  have hBH := Lib.hid hB
  obtain ⟨T, hT⟩ : ∃ n, s.texts.length = n := ⟨_, rfl⟩
  obtain ⟨N, hN⟩ : ∃ n, s.steps.length = n := ⟨_, rfl⟩
  have hTH := Lib.hid hT
  have hNH := Lib.hid hN
  have HCk := Lib.hid (fun W (hb : Below w.heap.size w W) => rCheck_any s _ B W (hall.out.below (hb.mono hB)) (Nat.le_trans hB hb.size) hin)
  rw [hT] at HT
  rw [hT, hN] at HCk
  rw [hT, hN]
  clear ht hs hB hT hN hall
  go_enter Tryz.func18, Tryz.ntmps18
  go_upto_region 1 with fail
  refine world_is (P := fun W => Code.wp _ _ _ _ W) (fun W1 hW1 => ?_)
  have B1 : Hid (Below w.heap.size w W1) := by unfold Hid; rw [← hW1]; exact (Below.refl _ _).alloc (Nat.le_refl _) _
  have X1 : Hid (Blk W1 w.heap.size 25 #[.slice At T ct, .slice As N cs]) := by unfold Hid; rw [← hW1]; exact Blk.new _ _ _
  obtain ⟨g, hg⟩ : ∃ g, w.heap.size = g := ⟨_, rfl⟩
  rw [hg] at X1 ⊢
  clear hW1 hg
  have x0 := X1.out.cell 0
  have x1 := X1.out.cell 1
  obtain ⟨C, hC⟩ : ∃ C, checkS s = C := ⟨_, rfl⟩
  have hPS : Hid (printS s = if C.2 = 0 then (printB s, 0) else ([], C.2)) := by unfold Hid printS; rw [hC]
  have HC := HCk.out W1 B1.out
  unfold CheckPost at HC
  rw [hC] at HC
  have HCH := Lib.hid HC
  have hCH := Lib.hid hC
  clear HC HCk hC
  go_wp2_with fail
  refine HCH.out.mono ?_
  rintro e w2 ⟨rfl, hb⟩
  have B2 := Lib.hid (B1.out.trans (hb.mono B1.out.size))
  have X2 := Lib.hid (X1.out.below hb X1.out.lt)
  clear hb HCH B1 X1 x0 x1
  by_cases hc : C.2 = 0
  case neg =>
    have hp : Hid (printS s = ([], C.2)) := by unfold Hid; rw [hPS.out, if_neg hc]
    have d1 : (C.2 != 0) = true := by rw [bne_iff_ne]; exact hc
    clear hc
    go_wp2_with fail
    go_ret2
    exact ⟨B2.out, ⟨#[]⟩, by rw [hp.out]; rfl, by rw [hp.out]⟩
  case pos =>
  have hp : Hid (printS s = (printB s, 0)) := by unfold Hid; rw [hPS.out, if_pos hc]
  have okH := Lib.hid (check_ok (s := s) (by rw [hCH.out]; exact hc))
  obtain ⟨C1, hC1⟩ : ∃ z, C.1 = z := ⟨_, rfl⟩
  rw [hc, hC1]
  clear hc hC1 hCH hPS
  obtain ⟨B0, hB0⟩ : ∃ g, w2.heap.size = g := ⟨_, rfl⟩
  have hBw : Hid (w2.heap.size = B0) := hB0
  have hT8 : T ≤ 8 := by have := okH.out.nt; rw [hTH.out] at this; exact this
  have hN4 : N ≤ 400 := by have := okH.out.ns; rw [hNH.out] at this; exact this
  clear hB0
  go_wp2_with fail
  go_loopw [6, 7] (fun v6 v7 wr => ∃ k : Nat, v7 = .int .i64 (k : Int) ∧ Hid (k ≤ T) ∧ Hid (BRow wr B0 v6 ((s.texts.take k).flatMap textB)) ∧ Hid (Below B0 w2 wr)) (fun _ v7 _ => T - (intOf v7).toNat)
  case atStart => exact ⟨0, rfl, Nat.zero_le _, brow_nil _ _, Below.refl _ _⟩
  case round =>
  obtain ⟨k, rfl, hk, hR, hF⟩ := hrel
  obtain ⟨wo, hwo⟩ : ∃ x, x = wr := ⟨_, rfl⟩
  subst hwo
  have X3 := X2.out.below (hF.out.mono (Nat.le_of_eq hBw.out)) X2.out.lt
  have x0 := X3.cell 0
  by_cases hlt : k < T
  case pos =>
    have d1 : decide (k < T) = true := decide_eq_true hlt
    have d2 : decide ((k : Int) < (T : Int)) = true := decide_eq_true (by omega)
    have q0 : (0 : Int) ≤ (k : Int) := by omega
    have q1 : (k : Int) < (T : Int) := by omega
    have hltH := Lib.hid hlt
    obtain ⟨t, hx⟩ : ∃ a, s.texts[k]? = some a := ⟨_, List.getElem?_eq_getElem (by rw [hTH.out]; exact hlt)⟩
    have HTo := HT.out.below ((B2.out.mono hBH.out).trans (hF.out.mono (Nat.le_trans hBH.out (Nat.le_trans B2.out.size (Nat.le_of_eq hBw.out)))))
    obtain ⟨b, o, rfl, ca⟩ := text_at HTo hTH.out hx
    have htz : t.size ≤ 4000 := okH.out.txt t (List.mem_of_getElem? hx)
    have hlen : Hid (t.data.toList.length = t.size) := Array.length_toList
    have hxH := Lib.hid hx
    have HTX := Lib.hid (fun (wz : World) (h : Below B0 w2 wz) => text_at (HT.out.below ((B2.out.mono hBH.out).trans (h.mono (Nat.le_trans hBH.out (Nat.le_trans B2.out.size (Nat.le_of_eq hBw.out)))))) hTH.out hx)
    clear hx HTo hlt X3
    have hl21 : Hid (((s.texts.take k).flatMap textB).length + ((⟨#[116, 101, 120, 116, 10, 124]⟩ : ByteArray)).size < 100000000000) := by
      unfold Hid
      have := flat_len (f := textB) (c := 10000) (s.texts.take k) (fun t ht => textB_len (okH.out.txt t (List.mem_of_mem_take ht)))
      rw [List.length_take] at this
      have := okH.out.nt
      show _ + 6 < _
      omega
    have hb21 : Hid (B0 ≤ _) := Nat.le_trans (Nat.le_of_eq hBw.out.symm) hF.out.size
    go_upto_region 9 with (at_builtin; refine wp_cat_text rfl _ _ rfl B0 _ ((s.texts.take k).flatMap textB) rfl hR.out (⟨#[116, 101, 120, 116, 10, 124]⟩ : ByteArray) rfl hl21.out hb21.out ?_; intro v21 w21 hP21)
    have R21 : Hid (BRow w21 B0 v21 (((s.texts.take k).flatMap textB) ++ bl (⟨#[116, 101, 120, 116, 10, 124]⟩ : ByteArray))) := hP21.row
    have F21 : Hid (Below B0 w2 w21) := hP21.bel B0 w2 (Nat.le_refl _) hb21.out hF.out
    clear hP21 hl21 hb21 hR hF
    clear ca x0
    go_wp2_with fail
    go_loopw [6, 8] (fun v6 v8 wr => ∃ j : Nat, v8 = .int .i64 (j : Int) ∧ Hid (j ≤ t.size) ∧ Hid (BRow wr B0 v6 ((s.texts.take k).flatMap textB ++ [116, 101, 120, 116, 10, 124] ++ barB (t.data.toList.take j))) ∧ Hid (Below B0 w2 wr)) (fun _ v8 _ => t.size - (intOf v8).toNat)
    case atStart => exact ⟨0, rfl, Nat.zero_le _, by unfold Hid; rw [List.take_zero, show barB [] = [] from rfl, List.append_nil]; exact R21.out, F21.out⟩
    case round =>
      clear R21 F21
      obtain ⟨j, rfl, hj, hR, hF⟩ := hrel
      obtain ⟨wi, hwi⟩ : ∃ x, x = wr := ⟨_, rfl⟩
      subst hwi
      have X3 := X2.out.below (hF.out.mono (Nat.le_of_eq hBw.out)) X2.out.lt
      have x0 := X3.cell 0
      obtain ⟨_, _, eA, ca⟩ := HTX.out wi hF.out
      cases eA
      clear X3
      by_cases hjl : j < t.size
      case pos =>
        have e1 : decide (j < t.size) = true := decide_eq_true hjl
        have e2 : decide ((j : Int) < (t.size : Int)) = true := decide_eq_true (by omega)
        have e5 : j < 4000 := by omega
        obtain ⟨c, hc⟩ : ∃ c, t.data.toList[j]? = some c := ⟨_, List.getElem?_eq_getElem (by rw [hlen.out]; exact hjl)⟩
        have ic := str_index hc
        have hbs := Lib.hid (barB_step hc)
        have hjlH := Lib.hid hjl
        clear hc hjl
        have hl22 : Hid (((s.texts.take k).flatMap textB ++ [116, 101, 120, 116, 10, 124] ++ barB (t.data.toList.take j)).length < 99999999999) := by
          unfold Hid
          have := flat_len (f := textB) (c := 10000) (s.texts.take k) (fun t ht => textB_len (okH.out.txt t (List.mem_of_mem_take ht)))
          rw [List.length_take] at this
          have := okH.out.nt
          have := barB_len (t.data.toList.take j)
          rw [List.length_take] at this
          have := hlen.out
          simp only [List.length_append, List.length_cons, List.length_nil]
          omega
        have hb22 : Hid (B0 ≤ _) := Nat.le_trans (Nat.le_of_eq hBw.out.symm) hF.out.size
        go_upto_region 13 with (at_builtin; refine wp_push rfl _ _ rfl B0 _ ((s.texts.take k).flatMap textB ++ [116, 101, 120, 116, 10, 124] ++ barB (t.data.toList.take j)) rfl hR.out 1 c rfl rfl hl22.out hb22.out ?_; intro v22 w22 hP22)
        have R22 : Hid (BRow w22 B0 v22 (((s.texts.take k).flatMap textB ++ [116, 101, 120, 116, 10, 124] ++ barB (t.data.toList.take j)) ++ [c])) := hP22.row
        have F22 : Hid (Below B0 w2 w22) := hP22.bel B0 w2 (Nat.le_refl _) hb22.out hF.out
        clear hP22 hl22 hb22 hR hF
        have X3 := X2.out.below (F22.out.mono (Nat.le_of_eq hBw.out)) X2.out.lt
        have x0' := X3.cell 0
        obtain ⟨_, _, eA, ca'⟩ := HTX.out w22 F22.out
        cases eA
        clear X3 x0 ca
        by_cases c10 : c = 10
        · have n1 : ((c.toNat : Int) == 10) = true := by rw [c10]; rfl
          have hbs2 := hbs.out
          rw [if_pos c10] at hbs2
          have hbs3 := Lib.hid hbs2
          have hc10 : Hid (c = 10) := c10
          clear hbs2 c10
          have hl23 : Hid ((((s.texts.take k).flatMap textB ++ [116, 101, 120, 116, 10, 124] ++ barB (t.data.toList.take j)) ++ [c]).length < 99999999999) := by
            unfold Hid
            have := flat_len (f := textB) (c := 10000) (s.texts.take k) (fun t ht => textB_len (okH.out.txt t (List.mem_of_mem_take ht)))
            rw [List.length_take] at this
            have := okH.out.nt
            have := barB_len (t.data.toList.take j)
            rw [List.length_take] at this
            have := hlen.out
            simp only [List.length_append, List.length_cons, List.length_nil]
            omega
          have hb23 : Hid (B0 ≤ _) := Nat.le_trans (Nat.le_of_eq hBw.out.symm) F22.out.size
          go_upto_region 11 with (at_builtin; refine wp_push rfl _ _ rfl B0 _ (((s.texts.take k).flatMap textB ++ [116, 101, 120, 116, 10, 124] ++ barB (t.data.toList.take j)) ++ [c]) rfl R22.out 1 124 rfl rfl hl23.out hb23.out ?_; intro v23 w23 hP23)
          have R23 : Hid (BRow w23 B0 v23 ((((s.texts.take k).flatMap textB ++ [116, 101, 120, 116, 10, 124] ++ barB (t.data.toList.take j)) ++ [c]) ++ [124])) := hP23.row
          have F23 : Hid (Below B0 w2 w23) := hP23.bel B0 w2 (Nat.le_refl _) hb23.out F22.out
          clear hP23 hl23 hb23 R22 F22
          go_wp2_with fail
          go_roundw
          case rel => exact ⟨j + 1, by go_num, hjlH.out, by unfold Hid; rw [hbs3.out]; have h := R23.out; rw [hc10.out] at h; simpa using h, F23.out⟩
          case measure => have := hjlH.out; simp [intOf]; omega
        · have n1 : ((c.toNat : Int) == 10) = false := by
            rw [beq_eq_false_iff_ne]
            intro e
            exact c10 (UInt8.toNat_inj.1 (by rw [show (10 : UInt8).toNat = 10 from rfl]; omega))
          have hbs2 := hbs.out
          rw [if_neg c10] at hbs2
          have hbs3 := Lib.hid hbs2
          clear hbs2 c10
          go_wp2_with fail
          go_roundw
          case rel => exact ⟨j + 1, by go_num, hjlH.out, by unfold Hid; rw [hbs3.out]; have h := R22.out; simpa using h, F22.out⟩
          case measure => have := hjlH.out; simp [intOf]; omega
      case neg =>
        have e1 : decide (j < t.size) = false := decide_eq_false hjl
        have e2 : decide ((j : Int) < (t.size : Int)) = false := decide_eq_false (by omega)
        have htk : Hid (t.data.toList.take j = t.data.toList) := List.take_of_length_le (by rw [hlen.out]; omega)
        have hfl := Lib.hid (flat_snoc textB hxH.out)
        clear hjl
        have hl24 : Hid (((s.texts.take k).flatMap textB ++ [116, 101, 120, 116, 10, 124] ++ barB (t.data.toList.take j)).length < 99999999999) := by
          unfold Hid
          have := flat_len (f := textB) (c := 10000) (s.texts.take k) (fun t ht => textB_len (okH.out.txt t (List.mem_of_mem_take ht)))
          rw [List.length_take] at this
          have := okH.out.nt
          have := barB_len (t.data.toList.take j)
          rw [List.length_take] at this
          have := hlen.out
          simp only [List.length_append, List.length_cons, List.length_nil]
          omega
        have hb24 : Hid (B0 ≤ _) := Nat.le_trans (Nat.le_of_eq hBw.out.symm) hF.out.size
        go_upto_region 7 with (at_builtin; refine wp_push rfl _ _ rfl B0 _ ((s.texts.take k).flatMap textB ++ [116, 101, 120, 116, 10, 124] ++ barB (t.data.toList.take j)) rfl hR.out 1 10 rfl rfl hl24.out hb24.out ?_; intro v24 w24 hP24)
        have R24 : Hid (BRow w24 B0 v24 (((s.texts.take k).flatMap textB ++ [116, 101, 120, 116, 10, 124] ++ barB (t.data.toList.take j)) ++ [10])) := hP24.row
        have F24 : Hid (Below B0 w2 w24) := hP24.bel B0 w2 (Nat.le_refl _) hb24.out hF.out
        clear hP24 hl24 hb24 hR hF
        go_wp2_with fail
        go_roundw
        case rel => exact ⟨k + 1, by go_num, hltH.out, by unfold Hid; rw [hfl.out, textB_bar]; have h := R24.out; rw [htk.out] at h; simpa using h, F24.out⟩
        case measure => have := hltH.out; simp [intOf]; omega
  case neg =>
    have d1 : decide (k < T) = false := decide_eq_false hlt
    have d2 : decide ((k : Int) < (T : Int)) = false := decide_eq_false (by omega)
    have htk : s.texts.take k = s.texts := List.take_of_length_le (by rw [hTH.out]; omega)
    rw [htk] at hR
    clear hlt htk X3
    go_wp2_with fail
    go_loopw [6, 9] (fun v6 v9 wr => ∃ k : Nat, v9 = .int .i64 (k : Int) ∧ Hid (k ≤ N) ∧ Hid (BRow wr B0 v6 (s.texts.flatMap textB ++ (s.steps.take k).flatMap stepB)) ∧ Hid (Below B0 w2 wr)) (fun _ v9 _ => N - (intOf v9).toNat)
    case atStart => exact ⟨0, rfl, Nat.zero_le _, by unfold Hid; rw [List.take_zero, List.flatMap_nil, List.append_nil]; exact hR.out, hF.out⟩
    case round =>
    clear hR hF hk d1 d2 x0
    obtain ⟨k, rfl, hk, hR, hF⟩ := hrel
    obtain ⟨wp, hwp⟩ : ∃ x, x = wr := ⟨_, rfl⟩
    subst hwp
    have X3 := X2.out.below (hF.out.mono (Nat.le_of_eq hBw.out)) X2.out.lt
    have x1 := X3.cell 1
    have BW : Hid (Below B w wp) := (B2.out.mono hBH.out).trans (hF.out.mono (Nat.le_trans hBH.out (Nat.le_trans B2.out.size (Nat.le_of_eq hBw.out))))
    by_cases hlt : k < N
    case neg =>
      have d1 : decide (k < N) = false := decide_eq_false hlt
      have d2 : decide ((k : Int) < (N : Int)) = false := decide_eq_false (by omega)
      have htk : s.steps.take k = s.steps := List.take_of_length_le (by rw [hNH.out]; omega)
      have hR2 := hR.out
      rw [htk] at hR2
      have hcv := conv_row hR2
      obtain ⟨tt, htt⟩ : ∃ t : ByteArray, (⟨(s.texts.flatMap textB ++ s.steps.flatMap stepB).toArray⟩ : ByteArray) = t := ⟨_, rfl⟩
      have httd : Hid (tt.data.toList = printB s) := by unfold Hid; rw [← htt]; rfl
      rw [htt] at hcv
      have hBf : Hid (Below w.heap.size w wp) := B2.out.trans (hF.out.mono (Nat.le_trans B2.out.size (Nat.le_of_eq hBw.out)))
      clear hlt htk hR2 htt X3 hR hF BW
      go_wp2_with fail
      go_ret2
      exact ⟨hBf.out, tt, by rw [hp.out]; rfl, by rw [hp.out]; exact httd.out⟩
    case pos =>
    have d1 : decide (k < N) = true := decide_eq_true hlt
    have d2 : decide ((k : Int) < (N : Int)) = true := decide_eq_true (by omega)
    have q0 : (0 : Int) ≤ (k : Int) := by omega
    have q1 : (k : Int) < (N : Int) := by omega
    have hltH := Lib.hid hlt
    obtain ⟨x, hx⟩ : ∃ x, s.steps[k]? = some x := ⟨_, List.getElem?_eq_getElem (by rw [hNH.out]; exact hlt)⟩
    have hsb := Lib.hid (stpB_of (okH.out.stp x (List.mem_of_getElem? hx)))
    have hfl := Lib.hid (flat_snoc stepB hx)
    obtain ⟨b, o, u, eAs, hb, k0, k1, k2, hu⟩ := (by have h := HS.out.below BW.out; exact h.at_ hx : ∃ b o u, As = some ⟨b, o, none⟩ ∧ b < B ∧ wp.cell? ⟨b, o + k * 3, none⟩ = some (.int .i64 x.kind) ∧ wp.cell? ⟨b, o + k * 3 + 1, none⟩ = some u ∧ wp.cell? ⟨b, o + k * 3 + 2, none⟩ = some (.string x.text) ∧ RowAt wp B u x.args.length (intsC x.args))
    subst eAs
    obtain ⟨Au, cu, rfl⟩ : ∃ A c, u = .slice A x.args.length c := ⟨hu.choose, hu.choose_spec.choose, hu.choose_spec.choose_spec.1⟩
    have HU := Lib.hid hu
    obtain ⟨na, hna⟩ : ∃ n, x.args.length = n := ⟨_, rfl⟩
    obtain ⟨kd, hkd⟩ : ∃ n, x.kind = n := ⟨_, rfl⟩
    obtain ⟨tx, htx⟩ : ∃ n, x.text = n := ⟨_, rfl⟩
    obtain ⟨nm, hnm0⟩ : ∃ n, nameN x.kind = n := ⟨_, rfl⟩
    have hnm : Hid (nameN x.kind = nm) := hnm0
    have hna18 : na ≤ 18 := by rw [← hna]; exact hsb.out.nargs
    have htx4 : tx.size ≤ 4001 := by rw [← htx]; exact hsb.out.text
    have htx4H := Lib.hid htx4
    rw [hna] at k1 HU
    rw [hkd] at k0 hnm0
    rw [htx] at k2
    have hnaH := Lib.hid hna
    have hkdH := Lib.hid hkd
    have htxH := Lib.hid htx
    have HN := Lib.hid (fun W => rName_any kd W)
    rw [hnm0] at HN
    clear hx hu hlt hb hna hkd htx hnm0 X3 BW
    go_upto_region 20 with fail
    refine world_is (P := fun W => Code.wp _ _ _ _ W) (fun W5 hW5 => ?_)
    have hBp : Hid (B0 ≤ wp.heap.size) := Nat.le_trans (Nat.le_of_eq hBw.out.symm) hF.out.size
    have Y5 : Hid (Blk W5 wp.heap.size 53 #[.int .i64 kd, .slice Au na cu, .string tx]) := by unfold Hid; rw [← hW5]; exact Blk.new _ _ _
    have F5 : Hid (Below B0 w2 W5) := by unfold Hid; rw [← hW5]; exact hF.out.alloc hBp.out _
    have R5 : Hid (BRow W5 B0 u6 (s.texts.flatMap textB ++ (s.steps.take k).flatMap stepB)) := by unfold Hid; rw [← hW5]; exact hR.out.alloc _
    have U5 : Hid (RowAt W5 B (.slice Au na cu) na (intsC x.args)) := by unfold Hid; rw [← hW5]; exact HU.out.below ((Below.refl _ _).alloc (Nat.le_trans hBH.out (Nat.le_trans B2.out.size (Nat.le_trans (Nat.le_of_eq hBw.out) hBp.out))) _)
    have hBB : Hid (B ≤ B0) := Nat.le_trans hBH.out (Nat.le_trans B2.out.size (Nat.le_of_eq hBw.out))
    obtain ⟨y, hy⟩ : ∃ g, wp.heap.size = g := ⟨_, rfl⟩
    rw [hy] at Y5
    try rw [hy]
    have HUa : Hid (∀ wz, Below B0 w2 wz → RowAt wz B (.slice Au na cu) na (intsC x.args)) := fun wz h => (row_back HU.out (hF.out.mono hBB.out)).below (h.mono hBB.out)
    clear hW5 hy k0 k1 k2 hR hF HU hBp x1
    have y0 := Y5.out.cell 0
    go_wp2_with fail
    refine (HN.out W5).mono ?_
    rintro e w6 ⟨rfl, hb⟩
    have hB5 : B0 ≤ W5.heap.size := Nat.le_trans (Nat.le_of_eq hBw.out.symm) F5.out.size
    have F6 := Lib.hid (F5.out.trans (hb.mono hB5))
    have R6 : Hid (BRow w6 B0 u6 (s.texts.flatMap textB ++ (s.steps.take k).flatMap stepB)) := R5.out.below hb
    have Y6 := Lib.hid (Y5.out.below hb Y5.out.lt)
    clear hb F5 R5 Y5 HN hB5 y0 U5
    have hl25 : Hid ((s.texts.flatMap textB ++ (s.steps.take k).flatMap stepB).length + (nm).size < 100000000000) := by
      unfold Hid
      have := flat_len (f := textB) (c := 10000) s.texts (fun t ht => textB_len (okH.out.txt t ht))
      have := okH.out.nt
      have h7 := flat_len (f := stepB) (c := 10000) (s.steps.take k) (fun x hx => stepB_len (okH.out.stp x (List.mem_of_mem_take hx)))
      rw [List.length_take] at h7
      have := okH.out.ns
      have h8 := nameN_small x.kind
      rw [hnm.out] at h8
      have h9 := bl_len nm
      have hb := hsb.out.nargs
      simp only [List.length_append]
      omega
    have hb25 : Hid (B0 ≤ _) := Nat.le_trans (Nat.le_of_eq hBw.out.symm) F6.out.size
    go_upto_region 21 with (at_builtin; refine wp_cat_text rfl _ _ rfl B0 _ (s.texts.flatMap textB ++ (s.steps.take k).flatMap stepB) rfl R6.out nm rfl hl25.out hb25.out ?_; intro v25 w25 hP25)
    have R25 : Hid (BRow w25 B0 v25 ((s.texts.flatMap textB ++ (s.steps.take k).flatMap stepB) ++ bl nm)) := hP25.row
    have F25 : Hid (Below B0 w2 w25) := hP25.bel B0 w2 (Nat.le_refl _) hb25.out F6.out
    have Y25 : Hid (Blk w25 y 53 #[.int .i64 kd, .slice Au na cu, .string tx]) := Y6.out.grown hP25.grown (Ne.symm (own_blk_ne R6.out Y6.out (by decide)))
    clear hP25 hl25 hb25 R6 F6 Y6
    go_wp2_with fail
    go_loopw [6, 11] (fun v6 v11 wr => ∃ i : Nat, v11 = .int .i64 (i : Int) ∧ Hid (i ≤ na) ∧ Hid (BRow wr B0 v6 (s.texts.flatMap textB ++ (s.steps.take k).flatMap stepB ++ bl nm ++ argsB (x.args.take i))) ∧ Hid (Below B0 w2 wr) ∧ Hid (Blk wr y 53 #[.int .i64 kd, .slice Au na cu, .string tx])) (fun _ v11 _ => na - (intOf v11).toNat)
    case atStart => exact ⟨0, rfl, Nat.zero_le _, by unfold Hid; rw [List.take_zero, show argsB [] = [] from rfl, List.append_nil]; exact R25.out, F25.out, Y25.out⟩
    case round =>
    clear R25 F25 Y25
    obtain ⟨i, rfl, hi, hR, hF, hY⟩ := hrel
    obtain ⟨wq, hwq⟩ : ∃ x, x = wr := ⟨_, rfl⟩
    subst hwq
    have y1 := hY.out.cell 1
    by_cases hil : i < na
    case pos =>
      have e1 : decide (i < na) = true := decide_eq_true hil
      have e2 : decide ((i : Int) < (na : Int)) = true := decide_eq_true (by omega)
      have e3 : (0 : Int) ≤ (i : Int) := by omega
      have e4 : (i : Int) < (na : Int) := by omega
      obtain ⟨a, ha⟩ : ∃ a, x.args[i]? = some a := ⟨_, List.getElem?_eq_getElem (by rw [hnaH.out]; exact hil)⟩
      have hab := hsb.out.args a (List.mem_of_getElem? ha)
      obtain ⟨ua, rfl⟩ : ∃ u : Nat, a = (u : Int) := ⟨a.toNat, by omega⟩
      have hua : ua ≤ 2199023255552 := by omega
      have hst := Lib.hid (flat_snoc (fun a => 32 :: Lib.itoa a) ha)
      have hit : Hid (Lib.itoa (ua : Int) = Lib.decDigits ua) := by unfold Hid Lib.itoa; rw [if_neg (by omega)]; simp
      have HD := Lib.hid (fun W => rdig46 ua hua W)
      obtain ⟨dg, hdg⟩ : ∃ d : ByteArray, (⟨(Lib.decDigits ua).toArray⟩ : ByteArray) = d := ⟨_, rfl⟩
      have hdz : Hid (dg.size ≤ 21) := by unfold Hid; rw [← hdg]; show (List.toArray _).size ≤ _; rw [List.size_toArray]; exact dec_len ua hua
      have hdd : Hid (bl dg = Lib.decDigits ua) := by unfold Hid; rw [← hdg]; rfl
      rw [hdg] at HD
      have haH := Lib.hid ha
      have hilH := Lib.hid hil
      clear ha hab hil hdg
      have hl26 : Hid ((s.texts.flatMap textB ++ (s.steps.take k).flatMap stepB ++ bl nm ++ argsB (x.args.take i)).length < 99999999999) := by
        unfold Hid
        have := flat_len (f := textB) (c := 10000) s.texts (fun t ht => textB_len (okH.out.txt t ht))
        have := okH.out.nt
        have h7 := flat_len (f := stepB) (c := 10000) (s.steps.take k) (fun x hx => stepB_len (okH.out.stp x (List.mem_of_mem_take hx)))
        rw [List.length_take] at h7
        have := okH.out.ns
        have h8 := nameN_small x.kind
        rw [hnm.out] at h8
        have h9 := bl_len nm
        have hb := hsb.out.nargs
        have h10 := argsB_len (l := x.args.take i) (fun a ha => hsb.out.args a (List.mem_of_mem_take ha))
        rw [List.length_take] at h10
        simp only [List.length_append]
        omega
      have hb26 : Hid (B0 ≤ _) := Nat.le_trans (Nat.le_of_eq hBw.out.symm) hF.out.size
      go_upto_region 25 with (at_builtin; refine wp_push rfl _ _ rfl B0 _ (s.texts.flatMap textB ++ (s.steps.take k).flatMap stepB ++ bl nm ++ argsB (x.args.take i)) rfl hR.out 1 32 rfl rfl hl26.out hb26.out ?_; intro v26 w26 hP26)
      have R26 : Hid (BRow w26 B0 v26 ((s.texts.flatMap textB ++ (s.steps.take k).flatMap stepB ++ bl nm ++ argsB (x.args.take i)) ++ [32])) := hP26.row
      have F26 : Hid (Below B0 w2 w26) := hP26.bel B0 w2 (Nat.le_refl _) hb26.out hF.out
      have Y26 : Hid (Blk w26 y 53 #[.int .i64 kd, .slice Au na cu, .string tx]) := hY.out.grown hP26.grown (Ne.symm (own_blk_ne hR.out hY.out (by decide)))
      clear hP26 hl26 hb26 hR hF hY
      have y1' := Y26.out.cell 1
      obtain ⟨A', c', ev, hrow⟩ := HUa.out w26 F26.out
      obtain ⟨b9, o9, eA, _, hcell⟩ := hrow (by omega)
      cases ev
      subst eA
      have ca := hcell i (.int .i64 (ua : Int)) (by unfold intsC; rw [List.getElem?_map, haH.out]; rfl)
      clear hrow hcell y1
      go_wp2_with fail
      refine (HD.out w26).mono ?_
      rintro e w7 ⟨rfl, hb⟩
      have hB7 : B0 ≤ w26.heap.size := Nat.le_trans (Nat.le_of_eq hBw.out.symm) F26.out.size
      have F7 := Lib.hid (F26.out.trans (hb.mono hB7))
      have R7 : Hid (BRow w7 B0 v26 ((s.texts.flatMap textB ++ (s.steps.take k).flatMap stepB ++ bl nm ++ argsB (x.args.take i)) ++ [32])) := R26.out.below hb
      have Y7 := Lib.hid (Y26.out.below hb Y26.out.lt)
      clear hb F26 R26 Y26 HD hB7 y1' ca
      have hl27 : Hid (((s.texts.flatMap textB ++ (s.steps.take k).flatMap stepB ++ bl nm ++ argsB (x.args.take i)) ++ [32]).length + (dg).size < 100000000000) := by
        unfold Hid
        have := flat_len (f := textB) (c := 10000) s.texts (fun t ht => textB_len (okH.out.txt t ht))
        have := okH.out.nt
        have h7 := flat_len (f := stepB) (c := 10000) (s.steps.take k) (fun x hx => stepB_len (okH.out.stp x (List.mem_of_mem_take hx)))
        rw [List.length_take] at h7
        have := okH.out.ns
        have h8 := nameN_small x.kind
        rw [hnm.out] at h8
        have h9 := bl_len nm
        have hb := hsb.out.nargs
        have h10 := argsB_len (l := x.args.take i) (fun a ha => hsb.out.args a (List.mem_of_mem_take ha))
        rw [List.length_take] at h10
        simp only [List.length_append, List.length_cons, List.length_nil]
        have := hdz.out
        omega
      have hb27 : Hid (B0 ≤ _) := Nat.le_trans (Nat.le_of_eq hBw.out.symm) F7.out.size
      go_upto_region 23 with (at_builtin; refine wp_cat_text rfl _ _ rfl B0 _ ((s.texts.flatMap textB ++ (s.steps.take k).flatMap stepB ++ bl nm ++ argsB (x.args.take i)) ++ [32]) rfl R7.out dg rfl hl27.out hb27.out ?_; intro v27 w27 hP27)
      have R27 : Hid (BRow w27 B0 v27 (((s.texts.flatMap textB ++ (s.steps.take k).flatMap stepB ++ bl nm ++ argsB (x.args.take i)) ++ [32]) ++ bl dg)) := hP27.row
      have F27 : Hid (Below B0 w2 w27) := hP27.bel B0 w2 (Nat.le_refl _) hb27.out F7.out
      have Y27 : Hid (Blk w27 y 53 #[.int .i64 kd, .slice (some ⟨b9, o9, none⟩) na cu, .string tx]) := Y7.out.grown hP27.grown (Ne.symm (own_blk_ne R7.out Y7.out (by decide)))
      clear hP27 hl27 hb27 R7 F7 Y7
      go_wp2_with fail
      go_roundw
      case rel => exact ⟨i + 1, by go_num, hilH.out, by unfold Hid; rw [show argsB (x.args.take (i + 1)) = _ from hst.out, hit.out]; have h := R27.out; rw [hdd.out] at h; simpa [argsB] using h, F27.out, Y27.out⟩
      case measure => have := hilH.out; simp [intOf]; omega
    case neg =>
    have e1 : decide (i < na) = false := decide_eq_false hil
    have e2 : decide ((i : Int) < (na : Int)) = false := decide_eq_false (by omega)
    have htk : x.args.take i = x.args := List.take_of_length_le (by rw [hnaH.out]; omega)
    rw [htk] at hR
    have y2 := hY.out.cell 2
    clear hil htk
    cases htl : tx.data.toList with
    | nil =>
      have z1 : (tx.toList == []) = true := by rw [ByteArray.toList_eq, htl]; rfl
      have hdB : Hid (dataB tx = []) := by unfold Hid dataB; rw [htl]
      have ht0 : tx.size = 0 := by rw [show tx.size = tx.data.toList.length from Array.length_toList.symm, htl]; rfl
      have m2 : decide ((1 : Int) < (tx.size : Int)) = false := decide_eq_false (by omega)
      have m3 : decide (1 < tx.size) = false := decide_eq_false (by omega)
      clear htl ht0
      go_wp2_with fail
      go_loopw [6, 12] (fun v6 v12 wr => v12 = .int .i64 1 ∧ Hid (BRow wr B0 v6 (s.texts.flatMap textB ++ (s.steps.take k).flatMap stepB ++ bl nm ++ argsB x.args)) ∧ Hid (Below B0 w2 wr) ∧ Hid (Blk wr y 53 #[.int .i64 kd, .slice Au na cu, .string tx])) (fun _ _ _ => 0)
      case atStart => exact ⟨rfl, hR.out, hF.out, hY.out⟩
      case round =>
      clear hR hF hY y1 y2
      obtain ⟨rfl, hR, hF, hY⟩ := hrel
      obtain ⟨wq2, hwq2⟩ : ∃ x, x = wr := ⟨_, rfl⟩
      subst hwq2
      have y2 := hY.out.cell 2
      have hl28 : Hid ((s.texts.flatMap textB ++ (s.steps.take k).flatMap stepB ++ bl nm ++ argsB x.args).length < 99999999999) := by
        unfold Hid
        have := flat_len (f := textB) (c := 10000) s.texts (fun t ht => textB_len (okH.out.txt t ht))
        have := okH.out.nt
        have h7 := flat_len (f := stepB) (c := 10000) (s.steps.take k) (fun x hx => stepB_len (okH.out.stp x (List.mem_of_mem_take hx)))
        rw [List.length_take] at h7
        have := okH.out.ns
        have h8 := nameN_small x.kind
        rw [hnm.out] at h8
        have h9 := bl_len nm
        have hb := hsb.out.nargs
        have h10 := argsB_len hsb.out.args
        simp only [List.length_append]
        omega
      have hb28 : Hid (B0 ≤ _) := Nat.le_trans (Nat.le_of_eq hBw.out.symm) hF.out.size
      go_upto_region 18 with (at_builtin; refine wp_push rfl _ _ rfl B0 _ (s.texts.flatMap textB ++ (s.steps.take k).flatMap stepB ++ bl nm ++ argsB x.args) rfl hR.out 1 10 rfl rfl hl28.out hb28.out ?_; intro v28 w28 hP28)
      have R28 : Hid (BRow w28 B0 v28 ((s.texts.flatMap textB ++ (s.steps.take k).flatMap stepB ++ bl nm ++ argsB x.args) ++ [10])) := hP28.row
      have F28 : Hid (Below B0 w2 w28) := hP28.bel B0 w2 (Nat.le_refl _) hb28.out hF.out
      have Y28 : Hid (Blk w28 y 53 #[.int .i64 kd, .slice Au na cu, .string tx]) := hY.out.grown hP28.grown (Ne.symm (own_blk_ne hR.out hY.out (by decide)))
      clear hP28 hl28 hb28 hR hF hY
      go_wp2_with fail
      go_roundw
      case rel => exact ⟨k + 1, by go_num, hltH.out, by unfold Hid; rw [hfl.out, stepB_eq, hnm.out, htxH.out]; have h := R28.out; rw [hdB.out]; simpa [bl] using h, F28.out⟩
      case measure => have := hltH.out; simp [intOf]; omega
    | cons c r =>
      have z1 : (tx.toList == []) = false := by rw [ByteArray.toList_eq, htl]; rfl
      have hdat := hsb.out.data
      rw [htxH.out] at hdat
      have hcc : c = 64 ∨ c = 61 := data_head htl hdat
      have hdB : Hid (dataB tx = [32, c] ++ datP c r) := by
        unfold Hid dataB datP
        rw [htl]
        rcases hcc with rfl | rfl <;> rfl
      have i0 : ∀ wx, (Instr.index 9 (.string tx) (.int .i64 0)).run Tryz.prog wx = .ok (.int .u8 (c.toNat : Int)) wx := str_index (k := 0) (by rw [htl]; rfl)
      have hrl : Hid (tx.size = r.length + 1) := by unfold Hid; rw [show tx.size = tx.data.toList.length from Array.length_toList.symm, htl]; rfl
      have hri : Hid (∀ j d, r[j]? = some d → tx.data.toList[j + 1]? = some d) := fun j d h => by rw [htl, List.getElem?_cons_succ]; exact h
      have i0H := Lib.hid i0
      clear htl hdat
      have hl29 : Hid ((s.texts.flatMap textB ++ (s.steps.take k).flatMap stepB ++ bl nm ++ argsB x.args).length + 2 < 99999999999) := by
        unfold Hid
        have := flat_len (f := textB) (c := 10000) s.texts (fun t ht => textB_len (okH.out.txt t ht))
        have := okH.out.nt
        have h7 := flat_len (f := stepB) (c := 10000) (s.steps.take k) (fun x hx => stepB_len (okH.out.stp x (List.mem_of_mem_take hx)))
        rw [List.length_take] at h7
        have := okH.out.ns
        have h8 := nameN_small x.kind
        rw [hnm.out] at h8
        have h9 := bl_len nm
        have hb := hsb.out.nargs
        have h10 := argsB_len hsb.out.args
        simp only [List.length_append]
        omega
      have hb29 : Hid (B0 ≤ _) := Nat.le_trans (Nat.le_of_eq hBw.out.symm) hF.out.size
      go_upto_region 28 with (at_builtin; refine wp_lit rfl _ _ rfl B0 _ (s.texts.flatMap textB ++ (s.steps.take k).flatMap stepB ++ bl nm ++ argsB x.args) rfl hR.out 2 2 [32, c] rfl rfl rfl hl29.out hb29.out ?_; intro v29 w29 hP29)
      have R29 : Hid (BRow w29 B0 v29 ((s.texts.flatMap textB ++ (s.steps.take k).flatMap stepB ++ bl nm ++ argsB x.args) ++ [32, c])) := hP29.row
      have F29 : Hid (Below B0 w2 w29) := hP29.bel B0 w2 (Nat.le_refl _) hb29.out hF.out
      have Y29 : Hid (Blk w29 y 53 #[.int .i64 kd, .slice Au na cu, .string tx]) := hY.out.grown hP29.grown (Ne.symm (own_blk_ne hR.out hY.out (by decide)))
      clear hP29 hl29 hb29 hR hF hY
      clear i0 y2
      go_wp2_with fail
      go_loopw [6, 12] (fun v6 v12 wr => ∃ j : Nat, v12 = .int .i64 ((j + 1 : Nat) : Int) ∧ Hid (j ≤ r.length) ∧ Hid (BRow wr B0 v6 (s.texts.flatMap textB ++ (s.steps.take k).flatMap stepB ++ bl nm ++ argsB x.args ++ [32, c] ++ datP c (r.take j))) ∧ Hid (Below B0 w2 wr) ∧ Hid (Blk wr y 53 #[.int .i64 kd, .slice Au na cu, .string tx])) (fun _ v12 _ => r.length + 1 - (intOf v12).toNat)
      case atStart => exact ⟨0, rfl, Nat.zero_le _, by unfold Hid; rw [List.take_zero, datP_nil, List.append_nil]; exact R29.out, F29.out, Y29.out⟩
      case round =>
      clear R29 F29 Y29
      obtain ⟨j, ev12, hj, hR, hF, hY⟩ := hrel
      obtain ⟨j1, hj1⟩ : ∃ m : Nat, m = j + 1 := ⟨_, rfl⟩
      rw [← hj1] at ev12
      subst ev12
      obtain ⟨wq2, hwq2⟩ : ∃ x, x = wr := ⟨_, rfl⟩
      subst hwq2
      have y2 := hY.out.cell 2
      have hj1H := Lib.hid hj1
      clear hj1
      by_cases hjl : j < r.length
      case neg =>
        have m1 : decide (j1 < tx.size) = false := decide_eq_false (by rw [hrl.out, hj1H.out]; omega)
        have m2 : decide ((j1 : Int) < (tx.size : Int)) = false := decide_eq_false (by have := hrl.out; have := hj1H.out; omega)
        have htk : r.take j = r := List.take_of_length_le (by omega)
        rw [htk] at hR
        clear hjl htk
        have hl30 : Hid ((s.texts.flatMap textB ++ (s.steps.take k).flatMap stepB ++ bl nm ++ argsB x.args ++ [32, c] ++ datP c r).length < 99999999999) := by
          unfold Hid
          have := flat_len (f := textB) (c := 10000) s.texts (fun t ht => textB_len (okH.out.txt t ht))
          have := okH.out.nt
          have h7 := flat_len (f := stepB) (c := 10000) (s.steps.take k) (fun x hx => stepB_len (okH.out.stp x (List.mem_of_mem_take hx)))
          rw [List.length_take] at h7
          have := okH.out.ns
          have h8 := nameN_small x.kind
          rw [hnm.out] at h8
          have h9 := bl_len nm
          have hb := hsb.out.nargs
          have h10 := argsB_len hsb.out.args
          have h11 := datP_len c r
          have h12 := hrl.out
          simp only [List.length_append, List.length_cons, List.length_nil]
          omega
        have hb30 : Hid (B0 ≤ _) := Nat.le_trans (Nat.le_of_eq hBw.out.symm) hF.out.size
        go_upto_region 18 with (at_builtin; refine wp_push rfl _ _ rfl B0 _ (s.texts.flatMap textB ++ (s.steps.take k).flatMap stepB ++ bl nm ++ argsB x.args ++ [32, c] ++ datP c r) rfl hR.out 1 10 rfl rfl hl30.out hb30.out ?_; intro v30 w30 hP30)
        have R30 : Hid (BRow w30 B0 v30 ((s.texts.flatMap textB ++ (s.steps.take k).flatMap stepB ++ bl nm ++ argsB x.args ++ [32, c] ++ datP c r) ++ [10])) := hP30.row
        have F30 : Hid (Below B0 w2 w30) := hP30.bel B0 w2 (Nat.le_refl _) hb30.out hF.out
        have Y30 : Hid (Blk w30 y 53 #[.int .i64 kd, .slice Au na cu, .string tx]) := hY.out.grown hP30.grown (Ne.symm (own_blk_ne hR.out hY.out (by decide)))
        clear hP30 hl30 hb30 hR hF hY
        go_wp2_with fail
        go_roundw
        case rel => exact ⟨k + 1, by go_num, hltH.out, by unfold Hid; rw [hfl.out, stepB_eq, hnm.out, htxH.out]; have h := R30.out; rw [hdB.out]; simpa [bl] using h, F30.out⟩
        case measure => have := hltH.out; simp [intOf]; omega
      case pos =>
        have m1 : decide (j1 < tx.size) = true := decide_eq_true (by rw [hrl.out, hj1H.out]; omega)
        have m2 : decide ((j1 : Int) < (tx.size : Int)) = true := decide_eq_true (by have := hrl.out; have := hj1H.out; omega)
        obtain ⟨d, hd⟩ : ∃ d, r[j]? = some d := ⟨_, List.getElem?_eq_getElem hjl⟩
        have idx : ∀ wx, (Instr.index 9 (.string tx) (.int .i64 (j1 : Int))).run Tryz.prog wx = .ok (.int .u8 (d.toNat : Int)) wx := str_index (by rw [hj1H.out]; exact hri.out j d hd)
        have i0 := i0H.out
        have hst := Lib.hid (datP_step c hd)
        have hjlH := Lib.hid hjl
        have hj1s : j1 ≤ 4001 := by have := hrl.out; have := hj1H.out; have := htx4H.out; have := hjlH.out; omega
        clear hd hjl
        by_cases c64 : c = 64
        · have n1 : ((c.toNat : Int) == 64) = true := by rw [c64]; rfl
          have hst2 := hst.out
          rw [if_pos c64] at hst2
          have hst3 := Lib.hid hst2
          clear hst2 c64
          have hl31 : Hid ((s.texts.flatMap textB ++ (s.steps.take k).flatMap stepB ++ bl nm ++ argsB x.args ++ [32, c] ++ datP c (r.take j)).length < 99999999999) := by
            unfold Hid
            have := flat_len (f := textB) (c := 10000) s.texts (fun t ht => textB_len (okH.out.txt t ht))
            have := okH.out.nt
            have h7 := flat_len (f := stepB) (c := 10000) (s.steps.take k) (fun x hx => stepB_len (okH.out.stp x (List.mem_of_mem_take hx)))
            rw [List.length_take] at h7
            have := okH.out.ns
            have h8 := nameN_small x.kind
            rw [hnm.out] at h8
            have h9 := bl_len nm
            have hb := hsb.out.nargs
            have h10 := argsB_len hsb.out.args
            have h11 := datP_len c (r.take j)
            rw [List.length_take] at h11
            have h12 := hrl.out
            simp only [List.length_append, List.length_cons, List.length_nil]
            omega
          have hb31 : Hid (B0 ≤ _) := Nat.le_trans (Nat.le_of_eq hBw.out.symm) hF.out.size
          go_upto_region 30 with (at_builtin; refine wp_push rfl _ _ rfl B0 _ (s.texts.flatMap textB ++ (s.steps.take k).flatMap stepB ++ bl nm ++ argsB x.args ++ [32, c] ++ datP c (r.take j)) rfl hR.out 1 d rfl rfl hl31.out hb31.out ?_; intro v31 w31 hP31)
          have R31 : Hid (BRow w31 B0 v31 ((s.texts.flatMap textB ++ (s.steps.take k).flatMap stepB ++ bl nm ++ argsB x.args ++ [32, c] ++ datP c (r.take j)) ++ [d])) := hP31.row
          have F31 : Hid (Below B0 w2 w31) := hP31.bel B0 w2 (Nat.le_refl _) hb31.out hF.out
          have Y31 : Hid (Blk w31 y 53 #[.int .i64 kd, .slice Au na cu, .string tx]) := hY.out.grown hP31.grown (Ne.symm (own_blk_ne hR.out hY.out (by decide)))
          clear hP31 hl31 hb31 hR hF hY
          go_wp2_with fail
          go_roundw
          case rel => exact ⟨j + 1, by have h1 := hj1H.out; go_num, hjlH.out, by unfold Hid; rw [hst3.out]; simpa using R31.out, F31.out, Y31.out⟩
          case measure => have := hjlH.out; have := hj1H.out; simp [intOf]; omega
        · have n1 : ((c.toNat : Int) == 64) = false := by
            rw [beq_eq_false_iff_ne]
            intro e
            exact c64 (UInt8.toNat_inj.1 (by rw [show (64 : UInt8).toNat = 64 from rfl]; omega))
          have hst2 := hst.out
          rw [if_neg c64] at hst2
          have hst3 := Lib.hid hst2
          have i1 := hex_hi d
          obtain ⟨lo, hlo⟩ : ∃ m, d.toNat % 16 = m := ⟨_, rfl⟩
          have i2 := hex_at lo (by omega)
          have u1 := u8_div d
          have u2 : (d.toNat : Int).tmod 16 = (lo : Int) := by rw [Int.tmod_eq_emod_of_nonneg (by omega)]; omega
          have u3 : (0 : Int) ≤ (lo : Int) := by omega
          have u4 : (lo : Int) < 16 := by omega
          rw [hlo] at hst3
          have hl9 : Hid ((s.texts.flatMap textB ++ (s.steps.take k).flatMap stepB ++ bl nm ++ argsB x.args ++ [32, c] ++ datP c (r.take j)).length + 2 < 99999999999) := by
            unfold Hid
            have := flat_len (f := textB) (c := 10000) s.texts (fun t ht => textB_len (okH.out.txt t ht))
            have := okH.out.nt
            have h7 := flat_len (f := stepB) (c := 10000) (s.steps.take k) (fun x hx => stepB_len (okH.out.stp x (List.mem_of_mem_take hx)))
            rw [List.length_take] at h7
            have := okH.out.ns
            have h8 := nameN_small x.kind
            rw [hnm.out] at h8
            have h9 := bl_len nm
            have hb := hsb.out.nargs
            have h10 := argsB_len hsb.out.args
            have h11 := datP_len c (r.take j)
            rw [List.length_take] at h11
            have h12 := hrl.out
            simp only [List.length_append, List.length_cons, List.length_nil]
            omega
          have hb9 : Hid (B0 ≤ wq2.drew.heap.size) := Nat.le_trans (Nat.le_of_eq hBw.out.symm) hF.out.size
          have hRd : Hid (BRow wq2.drew B0 u6 (s.texts.flatMap textB ++ (s.steps.take k).flatMap stepB ++ bl nm ++ argsB x.args ++ [32, c] ++ datP c (r.take j))) := hR.out.drewN 1
          have hFd := Lib.hid hF.out.drew
          have hYd := Lib.hid hY.out.drew
          have hval : Hid (#[Value.int .u8 ((hexD (d.toNat / 16)).toNat : Int),   .int .u8 ((hexD lo).toNat : Int)] = ([hexD (d.toNat / 16), hexD lo].map byteV).toArray) := rfl
          have q3 : (0 : Int) ≤ (d.toNat : Int) := by omega
          have q4 : (d.toNat : Int) < 256 := by have := d.toNat_lt; omega
          clear hst2 c64 hlo
          go_upto_region 33 with fail
          refine wp_region_held_drew (S := (fun w' => w'.cell? ⟨y, 2, none⟩ = some (.string tx))) (by kernel_rfl) y2 (fun hHeld => ?_)
          refine' wpAnyH_take (i := 0) (v := ?v0h) rfl (by kernel_rfl) (by kernel_rfl) (by kernel_rfl) (fun _ _ _ h => h) (Or.inl ⟨by rfl, ?hy0h⟩) hHeld ?rest0h
          case hy0h => intro w hSw; (try dsimp only at hSw); go_simp; all_goals with_reducible rfl
          try simp only [Act.put, List.setIfInBounds_toArray, List.set_cons_zero, List.set_cons_succ, List.getElem_toArray, List.getElem_cons_zero]
          refine' wpAnyH_take (i := 1) (v := ?v1h) rfl (by kernel_rfl) (by kernel_rfl) (by kernel_rfl) (fun _ _ _ h => h) (Or.inl ⟨by rfl, ?hy1h⟩) hHeld ?rest1h
          case hy1h => intro w hSw; (try dsimp only at hSw); go_simp; all_goals with_reducible rfl
          try simp only [Act.put, List.setIfInBounds_toArray, List.set_cons_zero, List.set_cons_succ, List.getElem_toArray, List.getElem_cons_zero, List.getElem_cons_succ]
          refine' wpAnyH_take (i := 2) (v := ?v2h) rfl (by kernel_rfl) (by kernel_rfl) (by kernel_rfl) (fun _ _ _ h => h) (Or.inl ⟨by rfl, ?hy2h⟩) hHeld ?rest2h
          case hy2h => intro w hSw; (try dsimp only at hSw); go_simp; all_goals with_reducible rfl
          try simp only [Act.put, List.setIfInBounds_toArray, List.set_cons_zero, List.set_cons_succ, List.getElem_toArray, List.getElem_cons_zero, List.getElem_cons_succ]
          refine' wpAnyH_take (i := 3) (v := ?v3h) rfl (by kernel_rfl) (by kernel_rfl) (by kernel_rfl) (fun _ _ _ h => h) (Or.inl ⟨by rfl, ?hy3h⟩) hHeld ?rest3h
          case hy3h => intro w hSw; (try dsimp only at hSw); go_simp; all_goals with_reducible rfl
          try simp only [Act.put, List.setIfInBounds_toArray, List.set_cons_zero, List.set_cons_succ, List.getElem_toArray, List.getElem_cons_zero, List.getElem_cons_succ]
          refine' wpAnyH_take (i := 4) (v := ?v4h) rfl (by kernel_rfl) (by kernel_rfl) (by kernel_rfl) (fun _ _ _ h => h) (Or.inl ⟨by rfl, ?hy4h⟩) hHeld ?rest4h
          case hy4h => intro w hSw; (try dsimp only at hSw); go_simp; all_goals with_reducible rfl
          try simp only [Act.put, List.setIfInBounds_toArray, List.set_cons_zero, List.set_cons_succ, List.getElem_toArray, List.getElem_cons_zero, List.getElem_cons_succ]
          refine' wpAnyH_take (i := 5) (v := ?v5h) rfl (by kernel_rfl) (by kernel_rfl) (by kernel_rfl) (fun _ _ _ h => h) (Or.inl ⟨by rfl, ?hy5h⟩) hHeld ?rest5h
          case hy5h => intro w hSw; (try dsimp only at hSw); go_simp; all_goals with_reducible rfl
          try simp only [Act.put, List.setIfInBounds_toArray, List.set_cons_zero, List.set_cons_succ, List.getElem_toArray, List.getElem_cons_zero, List.getElem_cons_succ]
          refine' wpAnyH_take (i := 6) (v := ?v6h) rfl (by kernel_rfl) (by kernel_rfl) (by kernel_rfl) (fun _ _ _ h => h) (Or.inl ⟨by rfl, ?hy6h⟩) hHeld ?rest6h
          case hy6h => intro w hSw; (try dsimp only at hSw); go_simp; all_goals with_reducible rfl
          try simp only [Act.put, List.setIfInBounds_toArray, List.set_cons_zero, List.set_cons_succ, List.getElem_toArray, List.getElem_cons_zero, List.getElem_cons_succ]
          refine' wpAnyH_take (i := 7) (v := ?v7h) rfl (by kernel_rfl) (by kernel_rfl) (by kernel_rfl) (fun _ _ _ h => h) (Or.inl ⟨by rfl, ?hy7h⟩) hHeld ?rest7h
          case hy7h => intro w hSw; (try dsimp only at hSw); go_simp; all_goals with_reducible rfl
          try simp only [Act.put, List.setIfInBounds_toArray, List.set_cons_zero, List.set_cons_succ, List.getElem_toArray, List.getElem_cons_zero, List.getElem_cons_succ]
          refine' wpAnyH_take (i := 8) (v := ?v8h) rfl (by kernel_rfl) (by kernel_rfl) (by kernel_rfl) (fun _ _ _ h => h) (Or.inl ⟨by rfl, ?hy8h⟩) hHeld ?rest8h
          case hy8h => intro w hSw; (try dsimp only at hSw); go_simp; all_goals with_reducible rfl
          try simp only [Act.put, List.setIfInBounds_toArray, List.set_cons_zero, List.set_cons_succ, List.getElem_toArray, List.getElem_cons_zero, List.getElem_cons_succ]
          refine' wpAnyH_take (i := 9) (v := ?v9h) rfl (by kernel_rfl) (by kernel_rfl) (by kernel_rfl) (fun _ _ _ h => h) (Or.inl ⟨by rfl, ?hy9h⟩) hHeld ?rest9h
          case hy9h => intro w hSw; (try dsimp only at hSw); go_simp; all_goals with_reducible rfl
          try simp only [Act.put, List.setIfInBounds_toArray, List.set_cons_zero, List.set_cons_succ, List.getElem_toArray, List.getElem_cons_zero, List.getElem_cons_succ]
          refine' wpAnyH_take (i := 10) (v := ?v10h) rfl (by kernel_rfl) (by kernel_rfl) (by kernel_rfl) (fun _ _ _ h => h) (Or.inl ⟨by rfl, ?hy10h⟩) hHeld ?rest10h
          case hy10h => intro w hSw; (try dsimp only at hSw); go_simp; all_goals with_reducible rfl
          try simp only [Act.put, List.setIfInBounds_toArray, List.set_cons_zero, List.set_cons_succ, List.getElem_toArray, List.getElem_cons_zero, List.getElem_cons_succ]
          refine' wpAnyH_take (i := 11) (v := ?v11h) rfl (by kernel_rfl) (by kernel_rfl) (by kernel_rfl) (fun _ _ _ h => h) (Or.inl ⟨by rfl, ?hy11h⟩) hHeld ?rest11h
          case hy11h => intro w hSw; (try dsimp only at hSw); go_simp; all_goals with_reducible rfl
          try simp only [Act.put, List.setIfInBounds_toArray, List.set_cons_zero, List.set_cons_succ, List.getElem_toArray, List.getElem_cons_zero, List.getElem_cons_succ]
          refine' wpAnyH_take (i := 12) (v := ?v12h) rfl (by kernel_rfl) (by kernel_rfl) (by kernel_rfl) (fun _ _ _ h => h) (Or.inl ⟨by rfl, ?hy12h⟩) hHeld ?rest12h
          case hy12h => intro w hSw; (try dsimp only at hSw); go_simp; all_goals with_reducible rfl
          try simp only [Act.put, List.setIfInBounds_toArray, List.set_cons_zero, List.set_cons_succ, List.getElem_toArray, List.getElem_cons_zero, List.getElem_cons_succ]
          refine wpAnyH_ready (rs := [13]) (by kernel_rfl) (by simp) ?_
          refine AllReadyH.cons rfl (fun K hK => ?_) AllReadyH.nil
          go_simp
          refine hK.out _ _ ((hYd.out.alloc _).cell 2) (fun hHeld2 => ?_)
          clear hK K hHeld
          have hHeld := hHeld2
          clear hHeld2
          try simp only [Act.put, List.setIfInBounds_toArray, List.set_cons_zero, List.set_cons_succ, List.getElem_toArray, List.getElem_cons_zero, List.getElem_cons_succ]
          refine wpAnyH_ready (rs := [14]) (by kernel_rfl) (by simp) ?_
          refine AllReadyH.cons rfl (fun K hK => ?_) AllReadyH.nil
          refine wp_lit_op _ _ rfl B0 _ (s.texts.flatMap textB ++ (s.steps.take k).flatMap stepB ++ bl nm ++ argsB x.args ++ [32, c] ++ datP c (r.take j)) rfl hRd.out 2 2 [hexD (d.toNat / 16), hexD lo] hval.out rfl rfl hl9.out hb9.out ?_
          intro v9 w9 hP9
          have R9 := Lib.hid hP9.row
          have F9 := Lib.hid (hP9.bel B0 w2 (Nat.le_refl _) hb9.out hFd.out)
          have Y9 : Hid (Blk w9 y 53 #[.int .i64 kd, .slice Au na cu, .string tx]) := hYd.out.grown hP9.grown (Ne.symm (own_blk_ne hRd.out hYd.out (by decide)))
          clear hP9
          refine hK.out _ _ (Y9.out.cell 2) (fun hHeld2 => ?_)
          clear hK K hHeld
          have hHeld := hHeld2
          clear hHeld2
          try simp only [Act.put, List.setIfInBounds_toArray, List.set_cons_zero, List.set_cons_succ, List.getElem_toArray, List.getElem_cons_zero, List.getElem_cons_succ]
          refine' wpAnyH_take (i := 15) (v := ?v15h) rfl (by kernel_rfl) (by kernel_rfl) (by kernel_rfl) (fun _ _ _ h => h) (Or.inl ⟨by rfl, ?hy15h⟩) hHeld ?rest15h
          case hy15h => intro w hSw; (try dsimp only at hSw); go_simp; all_goals with_reducible rfl
          try simp only [Act.put, List.setIfInBounds_toArray, List.set_cons_zero, List.set_cons_succ, List.getElem_toArray, List.getElem_cons_zero, List.getElem_cons_succ]
          refine wpAnyH_done (by kernel_rfl) ?_ _
          clear hHeld hRd hFd hYd hR hF hY
          go_wp2_with fail
          go_roundw
          case rel => exact ⟨j + 1, by have h1 := hj1H.out; go_num, hjlH.out, by unfold Hid; rw [hst3.out]; simpa using R9.out, F9.out, Y9.out⟩
          case measure => have := hjlH.out; have := hj1H.out; simp [intOf]; omega
end Go.Proofs.YtldkfhimpkiigaaGreatDoor
