/-
  Layer 46 (script), the specification: step.
-/
import Derived.Test.YtldkfhimpkiigaaGreatDoorR46X4
import Derived.Test.YtldkfhimpkiigaaGreatDoorScrW10
namespace Go.Proofs.YtldkfhimpkiigaaGreatDoor
open Go.RowKit ScrP
attribute [local go_sem] Oper.semAt_some

theorem bls_get {rs : List ByteArray} {j : Nat} {u : ByteArray} (h : rs[j]? = some u) : (bls rs)[j]? = some u.data.toList := by unfold bls; rw [List.getElem?_map, h]; rfl
theorem bls_take (rs : List ByteArray) (j : Nat) : bls (rs.take j) = (bls rs).take j := by unfold bls; rw [List.map_take]
theorem last_at {l : List (List UInt8)} {j : Nat} {u : List UInt8} (hu : l[j]? = some u) (hn : j + 1 = l.length) : l.getLast? = some u := by rw [List.getLast?_eq_getElem?, show l.length - 1 = j by omega, hu]
theorem drop_last_take {l : List (List UInt8)} {j : Nat} (hn : j + 1 = l.length) : l.dropLast = l.take j := by rw [List.dropLast_eq_take, show l.length - 1 = j by omega]
theorem pl_lit_none {l : List (List UInt8)} {j : Nat} {u : List UInt8} (hu : l[j]? = some u) (hn : j + 1 = l.length) (hl : isLit u = true) (h : literalB u = none) : restB l = none := by
  unfold restB
  rw [last_at hu hn]
  dsimp only
  rw [if_pos hl, h]
theorem pl_lit_some {l : List (List UInt8)} {j : Nat} {u t : List UInt8} (hu : l[j]? = some u) (hn : j + 1 = l.length) (hl : isLit u = true) (h : literalB u = some t) (ha : (l.take j).all decOk = true) : restB l = some ((l.take j).map fun w => (decVal w : Int), t) := by
  unfold restB
  rw [last_at hu hn]
  dsimp only
  rw [if_pos hl, h, drop_last_take hn]
  dsimp only
  rw [if_pos ha]
theorem pl_dec_bad {l : List (List UInt8)} {j : Nat} {u : List UInt8} (hu : l[j]? = some u) (hn : j + 1 < l.length ∨ isLit u = false) (h : decOk u = false) : restB l = none := by
  have hlt := (List.getElem?_eq_some_iff.1 hu).1
  obtain ⟨v, hv⟩ : ∃ v, l.getLast? = some v := ⟨_, List.getLast?_eq_some_getLast (by intro e; rw [e] at hlt; cases hlt)⟩
  unfold restB
  rw [hv]
  dsimp only
  have hall : l.all decOk = false := by
    rw [List.all_eq_false]
    exact ⟨u, List.mem_of_getElem? hu, by rw [h]; exact Bool.false_ne_true⟩
  split
  · rename_i hlv
    cases literalB v with
    | none => rfl
    | some t =>
      dsimp only
      have hj : j + 1 < l.length := by
        rcases hn with hn | hn
        · exact hn
        · refine Nat.lt_of_le_of_ne (by omega) fun e => ?_
          rw [last_at hu e] at hv
          cases hv
          rw [hn] at hlv
          cases hlv
      have hd : l.dropLast.all decOk = false := by
        rw [List.all_eq_false]
        refine ⟨u, List.mem_of_getElem? (i := j) ?_, by rw [h]; exact Bool.false_ne_true⟩
        rw [List.getElem?_dropLast, if_pos (by omega)]
        exact hu
      rw [if_neg (by rw [hd]; exact Bool.false_ne_true)]
  · rw [if_neg (by rw [hall]; exact Bool.false_ne_true)]
theorem pl_dec_end {l : List (List UInt8)} {j : Nat} {u : List UInt8} (hu : l[j]? = some u) (hn : j + 1 = l.length) (hl : isLit u = false) (ha : (l.take (j + 1)).all decOk = true) : restB l = some ((l.take (j + 1)).map fun w => (decVal w : Int), []) := by
  rw [hn, List.take_length] at ha ⊢
  unfold restB
  rw [last_at hu hn]
  dsimp only
  rw [if_neg (by rw [hl]; exact Bool.false_ne_true), if_pos ha]
theorem unhex_len : ∀ (l : List UInt8) {t : List UInt8}, unhex l = some t → t.length ≤ l.length
  | [], t, h => by cases h; exact Nat.le_refl _
  | [_], _, h => by cases h
  | a :: b :: l, t, h => by
    rw [unhex] at h
    cases ha : unD a with
    | none => rw [ha] at h; cases h
    | some x =>
      cases hb : unD b with
      | none => rw [ha, hb] at h; cases h
      | some y =>
        cases hu : unhex l with
        | none => rw [ha, hb, hu] at h; cases h
        | some v =>
          rw [ha, hb, hu] at h
          cases h
          have := unhex_len l hu
          simp only [List.length_cons]
          omega
theorem lit_len {l t : List UInt8} (h : literalB l = some t) : t.length ≤ l.length + 1 := by
  unfold literalB at h
  split at h
  · cases h; omega
  · cases hu : unhex l.tail with
    | none => rw [hu] at h; cases h
    | some v =>
      rw [hu] at h
      cases h
      have := unhex_len _ hu
      rw [List.length_tail] at this
      rw [List.length_cons]
      omega
theorem head_lit {c : UInt8} {r : List UInt8} : isLit (c :: r) = (((c.toNat : Int) == 64) || ((c.toNat : Int) == 61)) := by
  have ht : ((List.range 256).all fun n => ((UInt8.ofNat n == 64) == (((UInt8.ofNat n).toNat : Int) == 64)) && ((UInt8.ofNat n == 61) == (((UInt8.ofNat n).toNat : Int) == 61))) = true := by kernel_rfl
  have h := List.all_eq_true.1 ht c.toNat (List.mem_range.2 c.toNat_lt)
  rw [UInt8.ofNat_toNat, Bool.and_eq_true] at h
  unfold isLit
  rw [← eq_of_beq h.1, ← eq_of_beq h.2]
  rfl
set_option maxRecDepth 100000 in
set_option maxHeartbeats 12800000 in
theorem rstep_any (z0 : ByteArray) (rs : List ByteArray) (b cap : Nat) (w : World) (hc : ∀ (j : Nat) (z : ByteArray), (z0 :: rs)[j]? = some z → w.cell? ⟨b, j, none⟩ = some (.string z)) (hb : b < w.heap.size)
    (hz : ∀ z ∈ z0 :: rs, z.size ≠ 0 ∧ z.size ≤ 100000000) (hn : rs.length ≤ 100000000) :
    Calls Tryz.prog 59 #[.slice (some ⟨b, 0, none⟩) (rs.length + 1) cap] w (StepPost (bls (z0 :: rs)) w) := by
  have HC := Lib.hid hc
  have HB := Lib.hid hb
  have HZ := Lib.hid hz
  obtain ⟨n, hnn⟩ : ∃ n, rs.length = n := ⟨_, rfl⟩
  have hnH := Lib.hid hnn
  rw [hnn] at hn ⊢
  have hbl : Hid ((bls rs).length = n) := by unfold Hid; rw [bls_len]; exact hnn
  obtain ⟨N, hN⟩ : ∃ N, n + 1 = N := ⟨_, rfl⟩
  rw [hN]
  have hNn := Lib.hid hN
  have q0 : (0 : Int) < (N : Int) := by omega
  have q0' : 0 < N := by omega
  clear hc hb hz hnn hN
  go_enter Tryz.func59, Tryz.ntmps59
  go_upto_region 1 with fail
  refine world_is (P := fun W => Code.wp _ _ _ _ W) (fun W1 hW1 => ?_)
  have B1 : Hid (Below w.heap.size w W1) := by unfold Hid; rw [← hW1]; exact (Below.refl _ _).alloc (Nat.le_refl _) _
  have RA1 : Hid (Blk W1 w.heap.size 53 #[.int .i64 0, .slice none 0 0, .string ⟨#[]⟩]) := by unfold Hid; rw [← hW1]; exact Blk.new _ _ _
  obtain ⟨ra, era⟩ : ∃ g, w.heap.size = g := ⟨_, rfl⟩
  have hra : Hid (w.heap.size ≤ ra) := Nat.le_of_eq era
  rw [era] at RA1 ⊢
  clear hW1 era
  have k0 : W1.cell? ⟨b, 0, none⟩ = some (.string z0) := (B1.out.cell (p := ⟨b, _, none⟩) HB.out).trans (HC.out 0 z0 rfl)
  obtain ⟨kn, hkn⟩ : ∃ k, kindN z0 = k := ⟨_, rfl⟩
  have HKd := Lib.hid (rKind_any z0 W1)
  rw [hkn] at HKd
  have hknH := Lib.hid hkn
  clear hkn
  go_wp2_with fail
  refine HKd.out.mono ?_
  rintro e w2 ⟨rfl, hB2⟩
  have B2 := Lib.hid (B1.out.trans (hB2.mono B1.out.size))
  have RA2 := Lib.hid (RA1.out.below hB2 RA1.out.lt)
  clear hB2 B1 RA1 k0 HKd
  by_cases hk : 0 < kn
  case neg =>
    have d1 : decide (0 < kn) = false := decide_eq_false hk
    have hF := Lib.hid (stepW_none (z := z0) (rs := rs) (by rw [hknH.out]; omega))
    clear hk
    have r0 := RA2.out.cell 0
    have r1 := RA2.out.cell 1
    have r2 := RA2.out.cell 2
    have f0 := RA2.out.frozen 0
    have f1 := RA2.out.frozen 1
    have f2 := RA2.out.frozen 2
    go_wp2_with fail
    refine bodyPost_ret (results_ct (P := Tryz.prog) rfl _ _ ra 53 #[.int .i64 0, .slice none 0 0, .string ⟨#[]⟩] _ rfl (((RA2.out.set_ 0 _).set_ 1 _).set_ 2 _) Tryz.underlying53 rfl (by kernel_rfl)) rfl ?_
    refine ⟨((B2.out.setCell (p := ⟨ra, 0, none⟩) hra.out _).setCell (p := ⟨ra, 1, none⟩) hra.out _).setCell (p := ⟨ra, 2, none⟩) hra.out _, ?_⟩
    rw [hF.out]
    rfl
  case pos =>
  have d1 : decide (0 < kn) = true := decide_eq_true hk
  have hF := Lib.hid (stepW_some (rs := rs) hknH.out hk)
  clear hk
  go_upto_region 5 with fail
  refine world_is (P := fun W => Code.wp _ _ _ _ W) (fun W3 hW3 => ?_)
  have hB3 : Below w2.heap.size w2 W3 := by rw [← hW3]; exact (Below.refl _ _).alloc (Nat.le_refl _) _
  have B3 := Lib.hid (B2.out.trans (hB3.mono B2.out.size))
  have RA3 := Lib.hid (RA2.out.below hB3 RA2.out.lt)
  have X3 : Hid (Blk W3 w2.heap.size 53 #[.int .i64 (kn : Int), .slice none 0 0, .string ⟨#[]⟩]) := by unfold Hid; rw [← hW3]; exact Blk.new _ _ _
  have hxr : w2.heap.size ≠ ra := Nat.ne_of_gt RA2.out.lt
  have hxb : Hid (w.heap.size ≤ w2.heap.size) := B2.out.size
  obtain ⟨xb, exb⟩ : ∃ g, w2.heap.size = g := ⟨_, rfl⟩
  rw [exb] at X3 hxr hxb ⊢
  clear hW3 exb hB3 B2 RA2 d1
  have hcell : Hid (∀ W, Below w.heap.size w W → ∀ (j : Nat) (z : ByteArray), rs[j]? = some z → W.cell? ⟨b, j + 1, none⟩ = some (.string z)) := fun W hW j z h => (hW.cell (p := ⟨b, _, none⟩) HB.out).trans (HC.out (j + 1) z (by rw [List.getElem?_cons_succ]; exact h))
  have hR0 : Hid (0 = n → restB (bls rs) = some (([] : List Int), (⟨#[]⟩ : ByteArray).data.toList)) := fun h => by
    rw [List.eq_nil_of_length_eq_zero (show (bls rs).length = 0 by rw [hbl.out]; exact h.symm)]
    rfl
  go_wp2_with fail
  go_loopw [7] (fun v7 wr => ∃ (j : Nat) (va : Value) (l : List Int) (tx : ByteArray), v7 = .int .i64 ((j + 1 : Nat) : Int) ∧ Hid (j ≤ n) ∧ Hid (j < n → tx = ⟨#[]⟩ ∧ ((bls rs).take j).all decOk = true ∧ l = ((bls rs).take j).map fun w => (decVal w : Int)) ∧ Hid (j = n → restB (bls rs) = some (l, tx.data.toList)) ∧ Hid (l.length ≤ j) ∧ Hid (tx.size ≤ 200000000) ∧ Hid (Blk wr xb 53 #[.int .i64 (kn : Int), va, .string tx]) ∧ Hid (wr.ownsRow w.heap.size 3 1 va l.length (intsC l)) ∧ Hid (Blk wr ra 53 #[.int .i64 0, .slice none 0 0, .string ⟨#[]⟩]) ∧ Hid (Below w.heap.size w wr)) (fun v7 _ => n + 1 - (intOf v7).toNat)
  case atStart => exact ⟨0, _, [], ⟨#[]⟩, rfl, Nat.zero_le _, fun _ => ⟨rfl, rfl, rfl⟩, hR0.out, Nat.le_refl _, Nat.zero_le _, X3.out, World.ownsRow_nil _ _ _ _, RA3.out, B3.out⟩
  case round =>
  obtain ⟨j, va, l, tx, ev7, hj, hS, hE, hll, htx, X7, hrow, RA7, B7⟩ := hrel
  obtain ⟨k, hk⟩ : ∃ k, j + 1 = k := ⟨_, rfl⟩
  rw [hk] at ev7
  subst ev7
  have hkH := Lib.hid hk
  obtain ⟨w7, hw7⟩ : ∃ x, x = wr := ⟨_, rfl⟩
  subst hw7
  obtain ⟨Av, Cv, rfl⟩ := own_slice hrow.out
  obtain ⟨L, hL⟩ : ∃ L, l.length = L := ⟨_, rfl⟩
  have hLH := Lib.hid hL
  rw [hL] at hrow X7 hll
  have hkn8 : k ≤ 100000001 := by have := hj.out; omega
  clear X3 RA3 B3 hk hL
  by_cases hlt : j < n
  case neg =>
    have d1 : decide (k < N) = false := decide_eq_false (by have := hkH.out; have := hNn.out; omega)
    have d2 : decide ((k : Int) < (N : Int)) = false := decide_eq_false (by have := hkH.out; have := hNn.out; omega)
    have hRB := Lib.hid (hE.out (by have := hj.out; omega))
    obtain ⟨x, hx⟩ : ∃ x : Stp, x = ⟨(kn : Int), l, tx⟩ := ⟨_, rfl⟩
    have hxl : x.args.length = L := by rw [hx]; exact hLH.out
    have hxk : x.kind = (kn : Int) := by rw [hx]
    have hxt : x.text = tx := by rw [hx]
    have hxa : x.args = l := by rw [hx]
    have hW : Hid (stepW (bls (z0 :: rs)) = if stepOk x = true then .ok x else .error 1) := by
      unfold Hid
      rw [hF.out, hRB.out, hx]
    have hrow' := hrow.out
    rw [← hxa] at hrow'
    have hro := own_rowAt hrow' B7.out.size
    have HS := risStep_any x (.slice Av L Cv) w7.heap.size w7 (by rw [hxl]; exact hro) (Nat.le_refl _) (by rw [hxl]; have := hll.out; have := hj.out; omega) (by rw [hxt]; have := htx.out; omega)
    rw [hxk, hxt] at HS
    obtain ⟨ok, hok⟩ : ∃ b, stepOk x = b := ⟨_, rfl⟩
    rw [hok] at HS hW
    have HSH := Lib.hid HS
    have hxlH := Lib.hid hxl
    have hxkH := Lib.hid hxk
    have hxtH := Lib.hid hxt
    have HRW := Lib.hid hrow'
    have x0 := X7.out.cell 0
    have x1 := X7.out.cell 1
    have x2 := X7.out.cell 2
    have hjb : Hid (L ≤ 100000000) := by unfold Hid; have := hll.out; have := hj.out; omega
    clear hlt hrow' hx hxl hxk hxt hxa hro HS hok
    go_wp2_with fail
    refine HSH.out.mono ?_
    rintro e w8 ⟨rfl, hB8⟩
    have X8 := Lib.hid (X7.out.below hB8 X7.out.lt)
    have RA8 := Lib.hid (RA7.out.below hB8 RA7.out.lt)
    have B8 := Lib.hid (B7.out.trans (hB8.mono B7.out.size))
    have R8 := Lib.hid (HRW.out.kept (grown_ofBelow hB8 none) (by cases (Value.slice Av L Cv).ownBlock with | none => exact .inl rfl | some c => exact .inr (fun e => by cases e)))
    clear hB8 X7 RA7 B7 HRW x0 x1 x2 HSH hrow
    cases ok
    case false =>
      have hWf : Hid (stepW (bls (z0 :: rs)) = .error 1) := hW.out.trans (by simp)
      have r0 := RA8.out.cell 0
      have r1 := RA8.out.cell 1
      have r2 := RA8.out.cell 2
      have f0 := RA8.out.frozen 0
      have f1 := RA8.out.frozen 1
      have f2 := RA8.out.frozen 2
      go_wp2_with fail
      refine bodyPost_ret (results_ct (P := Tryz.prog) rfl _ _ ra 53 #[.int .i64 0, .slice none 0 0, .string ⟨#[]⟩] _ rfl (((RA8.out.set_ 0 _).set_ 1 _).set_ 2 _) Tryz.underlying53 rfl (by kernel_rfl)) rfl ?_
      refine ⟨((B8.out.setCell (p := ⟨ra, 0, none⟩) hra.out _).setCell (p := ⟨ra, 1, none⟩) hra.out _).setCell (p := ⟨ra, 2, none⟩) hra.out _, ?_⟩
      rw [hWf.out]
      rfl
    case true =>
      have r0 := RA8.out.cell 0
      have r1 := RA8.out.cell 1
      have r2 := RA8.out.cell 2
      have f0 := RA8.out.frozen 0
      have f1 := RA8.out.frozen 1
      have f2 := RA8.out.frozen 2
      have x0 := X8.out.cell 0
      have x1 := X8.out.cell 1
      have x2 := X8.out.cell 2
      go_wp2_with fail
      refine bodyPost_ret (results_ct (P := Tryz.prog) rfl _ _ ra 53 #[.int .i64 (kn : Int), .slice Av L Cv, .string tx] _ rfl (((RA8.out.set_ 0 _).set_ 1 _).set_ 2 _) Tryz.underlying53 rfl (by kernel_rfl)) rfl ?_
      refine ⟨((B8.out.setCell (p := ⟨ra, 0, none⟩) hra.out _).setCell (p := ⟨ra, 1, none⟩) hra.out _).setCell (p := ⟨ra, 2, none⟩) hra.out _, ?_⟩
      have hWt : stepW (bls (z0 :: rs)) = .ok x := hW.out.trans (by simp)
      rw [hWt]
      refine ⟨.slice Av L Cv, by rw [hxkH.out, hxtH.out]; rfl, ?_, by rw [hxlH.out]; exact hjb.out, by rw [hxtH.out]; exact htx.out⟩
      rw [hxlH.out]
      have R9 := ownsRow_setCell_ne' R8.out RA8.out (by decide) 0 (.int .i64 (kn : Int))
      have R10 := ownsRow_setCell_ne' R9 (RA8.out.set_ 0 _) (by decide) 1 (.slice Av L Cv)
      exact ownsRow_setCell_ne' R10 ((RA8.out.set_ 0 _).set_ 1 _) (by decide) 2 (.string tx)
  case pos =>
  obtain ⟨rfl, hall, hlv⟩ := hS.out hlt
  have d1 : decide (k < N) = true := decide_eq_true (by have := hkH.out; have := hNn.out; omega)
  have d2 : decide ((k : Int) < (N : Int)) = true := decide_eq_true (by have := hkH.out; have := hNn.out; omega)
  have q1 : (0 : Int) ≤ (k : Int) := by omega
  have q2 : (k : Int) < (N : Int) := by have := hkH.out; have := hNn.out; omega
  have qn : (N : Int) - 1 = (n : Int) := by have := hNn.out; omega
  obtain ⟨u, hu⟩ : ∃ u, rs[j]? = some u := ⟨_, List.getElem?_eq_getElem (by rw [hnH.out]; exact hlt)⟩
  have huz := HZ.out u (List.mem_cons_of_mem _ (List.mem_of_getElem? hu))
  obtain ⟨c, r, hcr⟩ : ∃ c r, u.data.toList = c :: r := by
    cases e : u.data.toList with
    | nil => exact absurd (show u.size = 0 by rw [show u.size = u.data.toList.length from Array.length_toList.symm, e]; rfl) huz.1
    | cons c r => exact ⟨c, r, rfl⟩
  have ku := hcell.out w7 B7.out j u hu
  rw [hkH.out] at ku
  have i0 : ∀ wx, (Instr.index 9 (.string u) (.int .i64 0)).run Tryz.prog wx = .ok (.int .u8 (c.toNat : Int)) wx := str_index (k := 0) (by rw [hcr]; rfl)
  have hbu : Hid ((bls rs)[j]? = some (c :: r)) := by unfold Hid; rw [bls_get hu, hcr]
  have hlit := Lib.hid (head_lit (c := c) (r := r))
  have hcrH := Lib.hid hcr
  have huzH : Hid (u.size ≤ 100000000) := huz.2
  have hallH := Lib.hid hall
  have hlvH := Lib.hid hlv
  have hltH := Lib.hid hlt
  clear hu huz hcr hall hlv hlt hS hE
  by_cases hlast : j + 1 = n ∧ isLit (c :: r) = true
  case pos =>
    have t1 : ((k : Int) == (n : Int)) = true := by rw [beq_iff_eq]; have := hkH.out; omega
    have t1' : (k == n) = true := by rw [beq_iff_eq]; have := hkH.out; omega
    have hn1 : Hid (j + 1 = (bls rs).length) := by unfold Hid; rw [hbl.out]; exact hlast.1
    have hl1 := Lib.hid hlast.2
    have hjn := Lib.hid hlast.1
    have hcs : Hid (((c.toNat : Int) == 64) = true ∨ (((c.toNat : Int) == 64) = false ∧ ((c.toNat : Int) == 61) = true)) := by
      have h := hl1.out
      rw [hlit.out] at h
      unfold Hid
      cases h1 : ((c.toNat : Int) == 64) with
      | true => exact .inl rfl
      | false => rw [h1] at h; exact .inr ⟨rfl, h⟩
    have HL := Lib.hid (rliteral_any u c r hcrH.out w7 huzH.out)
    clear hlast
    rcases hcs.out with t2 | ⟨t2, t3⟩
    · go_wp2_with fail
      refine HL.out.mono ?_
      rintro e w8 ⟨hB8, hpost⟩
      have X8 := Lib.hid (X7.out.below hB8 X7.out.lt)
      have RA8 := Lib.hid (RA7.out.below hB8 RA7.out.lt)
      have B8 := Lib.hid (B7.out.trans (hB8.mono B7.out.size))
      have R8 := Lib.hid (hrow.out.kept (grown_ofBelow hB8 none) (by cases (Value.slice Av L Cv).ownBlock with | none => exact .inl rfl | some c => exact .inr (fun e => by cases e)))
      clear hB8 X7 RA7 B7 hrow ku
      cases hlb : literalB (c :: r) with
      | none =>
        rw [hlb] at hpost
        dsimp only at hpost
        subst hpost
        have hW : Hid (stepW (bls (z0 :: rs)) = .error 3) := by unfold Hid; rw [hF.out, pl_lit_none hbu.out hn1.out hl1.out hlb]
        clear hlb
        have r0 := RA8.out.cell 0
        have r1 := RA8.out.cell 1
        have r2 := RA8.out.cell 2
        have f0 := RA8.out.frozen 0
        have f1 := RA8.out.frozen 1
        have f2 := RA8.out.frozen 2
        go_wp2_with fail
        refine bodyPost_ret (results_ct (P := Tryz.prog) rfl _ _ ra 53 #[.int .i64 0, .slice none 0 0, .string ⟨#[]⟩] _ rfl (((RA8.out.set_ 0 _).set_ 1 _).set_ 2 _) Tryz.underlying53 rfl (by kernel_rfl)) rfl ?_
        refine ⟨((B8.out.setCell (p := ⟨ra, 0, none⟩) hra.out _).setCell (p := ⟨ra, 1, none⟩) hra.out _).setCell (p := ⟨ra, 2, none⟩) hra.out _, ?_⟩
        rw [hW.out]
        rfl
      | some t =>
        rw [hlb] at hpost
        dsimp only at hpost
        subst hpost
        have hRB : Hid (restB (bls rs) = some (l, t)) := by unfold Hid; rw [pl_lit_some hbu.out hn1.out hl1.out hlb hallH.out, ← hlvH.out]
        have hts : Hid (t.length ≤ 200000000) := by
          unfold Hid
          have h1 := lit_len hlb
          have h2 : u.data.toList.length = u.size := Array.length_toList
          rw [hcrH.out] at h2
          have := huzH.out
          omega
        obtain ⟨tt, htt⟩ : ∃ x : ByteArray, (⟨t.toArray⟩ : ByteArray) = x := ⟨_, rfl⟩
        have httd : Hid (tt.data.toList = t) := by unfold Hid; rw [← htt]
        have httz : Hid (tt.size ≤ 200000000) := by unfold Hid; rw [← htt]; show (List.toArray _).size ≤ _; rw [List.size_toArray]; exact hts.out
        rw [htt]
        have x2 := X8.out.cell 2
        have g2 := X8.out.frozen 2
        clear hlb htt
        go_wp2_with fail
        go_roundw
        case rel => exact ⟨j + 1, .slice Av L Cv, l, tt, by have := hkH.out; go_num, by have := hjn.out; unfold Hid; omega, fun h => absurd h (by have := hjn.out; omega), fun _ => by rw [httd.out]; exact hRB.out, by unfold Hid; have := hll.out; have := hLH.out; omega, httz.out, X8.out.set_ 2 _, by rw [hLH.out]; exact ownsRow_setCell_ne' R8.out X8.out (by decide) 2 _, RA8.out.other (a := ⟨xb, 2, none⟩) (Ne.symm hxr) _, B8.out.setCell (p := ⟨xb, 2, none⟩) hxb.out _⟩
        case measure => have := hkH.out; have := hltH.out; simp [intOf]; omega
    · go_wp2_with fail
      refine HL.out.mono ?_
      rintro e w8 ⟨hB8, hpost⟩
      have X8 := Lib.hid (X7.out.below hB8 X7.out.lt)
      have RA8 := Lib.hid (RA7.out.below hB8 RA7.out.lt)
      have B8 := Lib.hid (B7.out.trans (hB8.mono B7.out.size))
      have R8 := Lib.hid (hrow.out.kept (grown_ofBelow hB8 none) (by cases (Value.slice Av L Cv).ownBlock with | none => exact .inl rfl | some c => exact .inr (fun e => by cases e)))
      clear hB8 X7 RA7 B7 hrow ku
      cases hlb : literalB (c :: r) with
      | none =>
        rw [hlb] at hpost
        dsimp only at hpost
        subst hpost
        have hW : Hid (stepW (bls (z0 :: rs)) = .error 3) := by unfold Hid; rw [hF.out, pl_lit_none hbu.out hn1.out hl1.out hlb]
        clear hlb
        have r0 := RA8.out.cell 0
        have r1 := RA8.out.cell 1
        have r2 := RA8.out.cell 2
        have f0 := RA8.out.frozen 0
        have f1 := RA8.out.frozen 1
        have f2 := RA8.out.frozen 2
        go_wp2_with fail
        refine bodyPost_ret (results_ct (P := Tryz.prog) rfl _ _ ra 53 #[.int .i64 0, .slice none 0 0, .string ⟨#[]⟩] _ rfl (((RA8.out.set_ 0 _).set_ 1 _).set_ 2 _) Tryz.underlying53 rfl (by kernel_rfl)) rfl ?_
        refine ⟨((B8.out.setCell (p := ⟨ra, 0, none⟩) hra.out _).setCell (p := ⟨ra, 1, none⟩) hra.out _).setCell (p := ⟨ra, 2, none⟩) hra.out _, ?_⟩
        rw [hW.out]
        rfl
      | some t =>
        rw [hlb] at hpost
        dsimp only at hpost
        subst hpost
        have hRB : Hid (restB (bls rs) = some (l, t)) := by unfold Hid; rw [pl_lit_some hbu.out hn1.out hl1.out hlb hallH.out, ← hlvH.out]
        have hts : Hid (t.length ≤ 200000000) := by
          unfold Hid
          have h1 := lit_len hlb
          have h2 : u.data.toList.length = u.size := Array.length_toList
          rw [hcrH.out] at h2
          have := huzH.out
          omega
        obtain ⟨tt, htt⟩ : ∃ x : ByteArray, (⟨t.toArray⟩ : ByteArray) = x := ⟨_, rfl⟩
        have httd : Hid (tt.data.toList = t) := by unfold Hid; rw [← htt]
        have httz : Hid (tt.size ≤ 200000000) := by unfold Hid; rw [← htt]; show (List.toArray _).size ≤ _; rw [List.size_toArray]; exact hts.out
        rw [htt]
        have x2 := X8.out.cell 2
        have g2 := X8.out.frozen 2
        clear hlb htt
        go_wp2_with fail
        go_roundw
        case rel => exact ⟨j + 1, .slice Av L Cv, l, tt, by have := hkH.out; go_num, by have := hjn.out; unfold Hid; omega, fun h => absurd h (by have := hjn.out; omega), fun _ => by rw [httd.out]; exact hRB.out, by unfold Hid; have := hll.out; have := hLH.out; omega, httz.out, X8.out.set_ 2 _, by rw [hLH.out]; exact ownsRow_setCell_ne' R8.out X8.out (by decide) 2 _, RA8.out.other (a := ⟨xb, 2, none⟩) (Ne.symm hxr) _, B8.out.setCell (p := ⟨xb, 2, none⟩) hxb.out _⟩
        case measure => have := hkH.out; have := hltH.out; simp [intOf]; omega
  case neg =>
    have hnl : Hid (j + 1 < (bls rs).length ∨ isLit (c :: r) = false) := by
      unfold Hid
      rw [hbl.out]
      cases h : isLit (c :: r) with
      | false => exact .inr rfl
      | true => exact .inl (by
          have := hltH.out
          have : ¬ j + 1 = n := fun e => hlast ⟨e, h⟩
          omega)
    have HD := Lib.hid (rdecimal_any u w7 (by have := huzH.out; omega))
    rw [hcrH.out] at HD
    have hcs : Hid (((k : Int) == (n : Int)) = false ∨ (((k : Int) == (n : Int)) = true ∧ ((c.toNat : Int) == 64) = false ∧ ((c.toNat : Int) == 61) = false)) := by
      unfold Hid
      by_cases e : k = n
      · right
        have h : isLit (c :: r) = false := by
          rcases hnl.out with h | h
          · rw [hbl.out] at h; have := hkH.out; omega
          · exact h
        rw [hlit.out, Bool.or_eq_false_iff] at h
        exact ⟨by rw [e]; exact beq_self_eq_true _, h.1, h.2⟩
      · exact .inl (by rw [beq_eq_false_iff_ne]; omega)
    have hnl2 : Hid (j + 1 = n → isLit (c :: r) = false) := fun e => by
      rcases hnl.out with h | h
      · rw [hbl.out] at h; omega
      · exact h
    clear hlast
    obtain ⟨ok, hok⟩ : ∃ b, decOk (c :: r) = b := ⟨_, rfl⟩
    obtain ⟨dv, hdv⟩ : ∃ d, decN (c :: r) = d := ⟨_, rfl⟩
    rw [hok, hdv] at HD
    have hokH := Lib.hid hok
    have hdvH := Lib.hid hdv
    clear hok hdv
    rcases hcs.out with t1 | ⟨t1, t2, t3⟩
    · go_wp2_with fail
      refine HD.out.mono ?_
      rintro e w8 ⟨rfl, hw8⟩
      subst hw8
      cases ok
      case false =>
        have hW : Hid (stepW (bls (z0 :: rs)) = .error 3) := by unfold Hid; rw [hF.out, pl_dec_bad hbu.out hnl.out hokH.out]
        have r0 := RA7.out.cell 0
        have r1 := RA7.out.cell 1
        have r2 := RA7.out.cell 2
        have f0 := RA7.out.frozen 0
        have f1 := RA7.out.frozen 1
        have f2 := RA7.out.frozen 2
        go_wp2_with fail
        refine bodyPost_ret (results_ct (P := Tryz.prog) rfl _ _ ra 53 #[.int .i64 0, .slice none 0 0, .string ⟨#[]⟩] _ rfl (((RA7.out.set_ 0 _).set_ 1 _).set_ 2 _) Tryz.underlying53 rfl (by kernel_rfl)) rfl ?_
        refine ⟨((B7.out.setCell (p := ⟨ra, 0, none⟩) hra.out _).setCell (p := ⟨ra, 1, none⟩) hra.out _).setCell (p := ⟨ra, 2, none⟩) hra.out _, ?_⟩
        rw [hW.out]
        rfl
      case true =>
        have hdd : Hid ((dv : Int) = (decVal (c :: r) : Int)) := by unfold Hid; rw [← hdvH.out]; unfold decN; rw [if_pos hokH.out]
        have hall2 : Hid (((bls rs).take (j + 1)).all decOk = true) := by
          unfold Hid
          rw [take_m4 hbu.out, List.all_append, hallH.out]
          simp [hokH.out]
        have hvals : Hid (l ++ [(dv : Int)] = ((bls rs).take (j + 1)).map fun w => (decVal w : Int)) := by
          unfold Hid
          rw [take_m4 hbu.out, List.map_append, ← hlvH.out, hdd.out]
          rfl
        have hRB : Hid (j + 1 = n → restB (bls rs) = some (l ++ [(dv : Int)], (⟨#[]⟩ : ByteArray).data.toList)) := fun e => by
          rw [pl_dec_end hbu.out (by rw [hbl.out]; exact e) (hnl2.out e) hall2.out, ← hvals.out]
        have ho : ∀ u ∈ (#[Value.int .i64 (dv : Int)] : Array Value).toList, u.oneCell' = true := by intro u hu; simp only [List.mem_singleton] at hu; rw [hu]; rfl
        have hlS : Hid (L + 1 ≤ 1000000000) := by unfold Hid; have := hll.out; have := hj.out; omega
        have x1 := X7.out.cell 1
        have g1 := X7.out.frozen 1
        clear ku
        go_upto_region 7 with (refine wp_gpush_list 51 3 (.int .i64 0) 1 8 Tryz.underlying51 (by kernel_rfl) rfl (by decide) (by decide) rfl _ _ rfl w.heap.size (.slice Av L Cv) L (intsC l) rfl hrow.out 1 1 #[.int .i64 (dv : Int)] rfl rfl ho hlS.out B7.out.size ?_; intro v9 w9 hP9; obtain ⟨A9, C9, rfl⟩ := own_slice hP9.row; have q9 := (X7.out.grown hP9.grown (Ne.symm (own_blk_ne hrow.out X7.out (by decide)))).cell 1; have f9 := (X7.out.grown hP9.grown (Ne.symm (own_blk_ne hrow.out X7.out (by decide)))).frozen 1)
        have X9 := Lib.hid ((X7.out.grown hP9.grown (Ne.symm (own_blk_ne hrow.out X7.out (by decide)))).set_ 1 (.slice A9 (L + 1) C9))
        have RA9 := Lib.hid ((RA7.out.grown hP9.grown (Ne.symm (own_blk_ne hrow.out RA7.out (by decide)))).other (a := ⟨xb, 1, none⟩) (Ne.symm hxr) (.slice A9 (L + 1) C9))
        have B9 := Lib.hid ((hP9.bel w.heap.size w (Nat.le_refl _) B7.out.size B7.out).setCell (p := ⟨xb, 1, none⟩) hxb.out (.slice A9 (L + 1) C9))
        have R9 := Lib.hid (ownsRow_setCell_ne' hP9.row (X7.out.grown hP9.grown (Ne.symm (own_blk_ne hrow.out X7.out (by decide)))) (by decide) 1 (.slice A9 (L + 1) C9))
        clear hP9 q9 f9 x1 g1 X7 RA7 B7 hrow
        go_wp2_with fail
        go_roundw
        case rel => exact ⟨j + 1, .slice A9 (L + 1) C9, l ++ [(dv : Int)], ⟨#[]⟩, by have := hkH.out; go_num, hltH.out, fun _ => ⟨rfl, hall2.out, hvals.out⟩, hRB.out, by unfold Hid; rw [List.length_append, hLH.out]; have := hll.out; show L + 1 ≤ _; omega, Nat.zero_le _, X9.out, by rw [List.length_append, hLH.out, intsC_snoc]; exact R9.out, RA9.out, B9.out⟩
        case measure => have := hkH.out; have := hltH.out; simp [intOf]; omega
    · go_wp2_with fail
      refine HD.out.mono ?_
      rintro e w8 ⟨rfl, hw8⟩
      subst hw8
      cases ok
      case false =>
        have hW : Hid (stepW (bls (z0 :: rs)) = .error 3) := by unfold Hid; rw [hF.out, pl_dec_bad hbu.out hnl.out hokH.out]
        have r0 := RA7.out.cell 0
        have r1 := RA7.out.cell 1
        have r2 := RA7.out.cell 2
        have f0 := RA7.out.frozen 0
        have f1 := RA7.out.frozen 1
        have f2 := RA7.out.frozen 2
        go_wp2_with fail
        refine bodyPost_ret (results_ct (P := Tryz.prog) rfl _ _ ra 53 #[.int .i64 0, .slice none 0 0, .string ⟨#[]⟩] _ rfl (((RA7.out.set_ 0 _).set_ 1 _).set_ 2 _) Tryz.underlying53 rfl (by kernel_rfl)) rfl ?_
        refine ⟨((B7.out.setCell (p := ⟨ra, 0, none⟩) hra.out _).setCell (p := ⟨ra, 1, none⟩) hra.out _).setCell (p := ⟨ra, 2, none⟩) hra.out _, ?_⟩
        rw [hW.out]
        rfl
      case true =>
        have hdd : Hid ((dv : Int) = (decVal (c :: r) : Int)) := by unfold Hid; rw [← hdvH.out]; unfold decN; rw [if_pos hokH.out]
        have hall2 : Hid (((bls rs).take (j + 1)).all decOk = true) := by
          unfold Hid
          rw [take_m4 hbu.out, List.all_append, hallH.out]
          simp [hokH.out]
        have hvals : Hid (l ++ [(dv : Int)] = ((bls rs).take (j + 1)).map fun w => (decVal w : Int)) := by
          unfold Hid
          rw [take_m4 hbu.out, List.map_append, ← hlvH.out, hdd.out]
          rfl
        have hRB : Hid (j + 1 = n → restB (bls rs) = some (l ++ [(dv : Int)], (⟨#[]⟩ : ByteArray).data.toList)) := fun e => by
          rw [pl_dec_end hbu.out (by rw [hbl.out]; exact e) (hnl2.out e) hall2.out, ← hvals.out]
        have ho : ∀ u ∈ (#[Value.int .i64 (dv : Int)] : Array Value).toList, u.oneCell' = true := by intro u hu; simp only [List.mem_singleton] at hu; rw [hu]; rfl
        have hlS : Hid (L + 1 ≤ 1000000000) := by unfold Hid; have := hll.out; have := hj.out; omega
        have x1 := X7.out.cell 1
        have g1 := X7.out.frozen 1
        clear ku
        go_upto_region 7 with (refine wp_gpush_list 51 3 (.int .i64 0) 1 8 Tryz.underlying51 (by kernel_rfl) rfl (by decide) (by decide) rfl _ _ rfl w.heap.size (.slice Av L Cv) L (intsC l) rfl hrow.out 1 1 #[.int .i64 (dv : Int)] rfl rfl ho hlS.out B7.out.size ?_; intro v9 w9 hP9; obtain ⟨A9, C9, rfl⟩ := own_slice hP9.row; have q9 := (X7.out.grown hP9.grown (Ne.symm (own_blk_ne hrow.out X7.out (by decide)))).cell 1; have f9 := (X7.out.grown hP9.grown (Ne.symm (own_blk_ne hrow.out X7.out (by decide)))).frozen 1)
        have X9 := Lib.hid ((X7.out.grown hP9.grown (Ne.symm (own_blk_ne hrow.out X7.out (by decide)))).set_ 1 (.slice A9 (L + 1) C9))
        have RA9 := Lib.hid ((RA7.out.grown hP9.grown (Ne.symm (own_blk_ne hrow.out RA7.out (by decide)))).other (a := ⟨xb, 1, none⟩) (Ne.symm hxr) (.slice A9 (L + 1) C9))
        have B9 := Lib.hid ((hP9.bel w.heap.size w (Nat.le_refl _) B7.out.size B7.out).setCell (p := ⟨xb, 1, none⟩) hxb.out (.slice A9 (L + 1) C9))
        have R9 := Lib.hid (ownsRow_setCell_ne' hP9.row (X7.out.grown hP9.grown (Ne.symm (own_blk_ne hrow.out X7.out (by decide)))) (by decide) 1 (.slice A9 (L + 1) C9))
        clear hP9 q9 f9 x1 g1 X7 RA7 B7 hrow
        go_wp2_with fail
        go_roundw
        case rel => exact ⟨j + 1, .slice A9 (L + 1) C9, l ++ [(dv : Int)], ⟨#[]⟩, by have := hkH.out; go_num, hltH.out, fun _ => ⟨rfl, hall2.out, hvals.out⟩, hRB.out, by unfold Hid; rw [List.length_append, hLH.out]; have := hll.out; show L + 1 ≤ _; omega, Nat.zero_le _, X9.out, by rw [List.length_append, hLH.out, intsC_snoc]; exact R9.out, RA9.out, B9.out⟩
        case measure => have := hkH.out; have := hltH.out; simp [intOf]; omega
end Go.Proofs.YtldkfhimpkiigaaGreatDoor
