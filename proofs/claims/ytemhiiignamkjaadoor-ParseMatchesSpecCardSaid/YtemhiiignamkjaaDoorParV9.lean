/-
  Layer 12 (parse), the specification's reader: a type.
-/
import Derived.Test.YtemhiiignamkjaaDoorMV
namespace Go.Proofs.YtemhiiignamkjaaDoor
open Go.RowKit LexP ParP
attribute [local go_sem] Oper.semAt_some

def rdMeas (l : List Tok) (g : Nat) (w : World) : Nat := 2 * (l.length - (intOf ((w.cell? ⟨g, 1, none⟩).getD undef)).toNat) + (match w.cell? ⟨g, 2, none⟩ with | some (.bool true) => 0 | _ => 1)
theorem rdMeas_is {w : World} {g n : Nat} {b : Bool} {l : List Tok} {tv c3 c4 c5 c6 c7 c8 c9 c10 : Value} (h : Blk w g 71 #[tv, .int .i64 n, .bool b, c3, c4, c5, c6, c7, c8, c9, c10]) : rdMeas l g w = 2 * (l.length - n) + (if b then 0 else 1) := by
  unfold rdMeas
  have e1 : w.cell? ⟨g, 1, none⟩ = some (.int .i64 n) := h.cell 1
  have e2 : w.cell? ⟨g, 2, none⟩ = some (.bool b) := h.cell 2
  rw [e1, e2]
  cases b <;> simp [intOf]
set_option maxRecDepth 100000 in
set_option maxHeartbeats 12800000 in
theorem rkind_any {w : World} {B g n : Nat} {tv nm : Value} {st : St} {l : List Tok} (hP : RdIs w B g n false tv nm st) (hT : TkAt w B tv l) (hg : B ≤ g) (hnl : n ≤ l.length) (hl : l.length ≤ 5000) (hst : st.typs.length ≤ 5000) :
    Calls Tryd.prog 34 #[.pointer (some ⟨g, 0, none⟩)] w (RdPost w B g tv nm l ((expect wType (l.drop n)).bind fun m _ => (rdTyp m).bind fun r x => .ok r { st with typs := st.typs ++ [x] })) := by
  obtain ⟨vt, vr, vq, va, vf, vs, vk, hP, hR⟩ := hP
  obtain ⟨F, hF⟩ : ∃ F, st.ruls.map PRul.a = F := ⟨_, rfl⟩
  obtain ⟨S, hS⟩ : ∃ F, st.ruls.map PRul.b = F := ⟨_, rfl⟩
  obtain ⟨K, hK⟩ : ∃ F, st.ruls.map PRul.kind = F := ⟨_, rfl⟩
  obtain ⟨P, hPP⟩ : ∃ F, st.typs.map PTyp.name = F := ⟨_, rfl⟩
  rw [hF, hS, hK, hPP] at hR
  have hlP : Hid (P.length + 1 ≤ 1000000) := by unfold Hid; rw [← hPP, List.length_map]; omega
  have hFH := Lib.hid hF
  have hSH := Lib.hid hS
  have hKH := Lib.hid hK
  have hPH := Lib.hid hPP
  clear hF hS hK hPP
  have hgl := hP.lt
  have hl2 : l.length ≤ 1048576 := Nat.le_trans hl (by decide)
  have hBg : Hid (B ≤ w.heap.size) := Nat.le_trans hg (Nat.le_of_lt hgl)
  have HP1 := Lib.hid hP
  have HR1 := Lib.hid hR
  have HT1 := Lib.hid hT
  have HT := Lib.hid hT
  have hgH := Lib.hid hg
  have hlT : Hid (st.typs.length + 1 ≤ 1000000) := Nat.le_trans (Nat.succ_le_succ hst) (by decide)
  have L1 : Hid (Below B w w) := Below.refl _ _
  have K1 := Lib.hid (Sk.start hnl ())
  obtain ⟨n1, hn9⟩ : ∃ k, n = k := ⟨_, rfl⟩
  obtain ⟨b1, hb9⟩ : ∃ k, false = k := ⟨_, rfl⟩
  obtain ⟨r0, hr0⟩ : ∃ r, Rd.ok (l.drop n) () = r := ⟨_, rfl⟩
  rw [hr0, hn9, hb9] at K1
  rw [hn9, hb9] at HP1
  have Er0 := Lib.hid hr0
  clear hP hT hst hR hg hn9 hb9 hr0
  obtain ⟨A, c, rfl, hT'⟩ := id HT.out
  clear hT'
  go_enter Tryd.func34, Tryd.ntmps34
  go_wp2_with fail
  refine (rsign_any w g B n1 b1 ⟨#[116, 121, 112, 101]⟩ (.slice A l.length c) nm vt vr vq va vf vs vk l r0 HP1.out HT1.out K1.out hl2).mono ?_
  rintro e w2 ⟨rfl, n2, b2, hk2, hb2, hG2⟩
  obtain ⟨r1, hr9⟩ : ∃ r, thenTake r0 (isText ⟨#[116, 121, 112, 101]⟩) = r := ⟨_, rfl⟩
  rw [hr9] at hk2
  have Er1 := Lib.hid hr9
  clear hr9
  have K2 := Lib.hid hk2
  have L2 : Hid (Below B w w2) := L1.out.trans (grown_below hG2 hgH.out HP1.out.lt)
  have HR2 := Lib.hid (HR1.out.set HP1.out (by kernel_rfl) hG2)
  have HP2 := Lib.hid hb2
  have HT2 := Lib.hid (HT1.out.below (grown_below hG2 hgH.out HP1.out.lt))
  clear hk2 hb2 hG2 HP1 HR1 HT1 L1 K1 
  go_wp2_with fail
  refine (rtoken_any w2 g B n2 1 b2 isWordT (fun _ => rfl) (.slice A l.length c) nm vt vr vq va vf vs vk l r1 HP2.out HT2.out K2.out hgH.out hl2).mono ?_
  rintro e w3 ⟨rfl, n3, b3, hk3, hb3, hG3⟩
  obtain ⟨r2, hr9⟩ : ∃ r, thenTake r1 isWordT = r := ⟨_, rfl⟩
  rw [hr9] at hk3 ⊢
  have Er2 := Lib.hid hr9
  obtain ⟨t2, ht9⟩ : ∃ t, tokV r2 = t := ⟨_, rfl⟩
  rw [ht9]
  have Vr2 := Lib.hid ht9
  clear hr9 ht9
  have K3 := Lib.hid hk3
  have L3 : Hid (Below B w w3) := L2.out.trans (grown_below hG3 hgH.out HP2.out.lt)
  have HR3 := Lib.hid (HR2.out.set HP2.out (by kernel_rfl) hG3)
  have HP3 := Lib.hid hb3
  have HT3 := Lib.hid (HT2.out.below (grown_below hG3 hgH.out HP2.out.lt))
  clear hk3 hb3 hG3 HP2 HR2 HT2 L2 K2 
  unfold tokAgg
  go_upto_region 2 with fail
  refine world_is (P := fun W => Code.wp _ _ _ _ W) (fun w4 hW9 => ?_)
  have hB9 : Below w3.heap.size w3 w4 := by rw [← hW9]; exact (Below.refl _ _).alloc (Nat.le_refl _) _
  have NA4 : Hid (Blk w4 w3.heap.size 47 #[.int .i64 t2.kind, .string t2.text, .int .i64 t2.n, .int .i64 t2.pos]) := by unfold Hid; rw [← hW9]; exact Blk.new _ _ _
  have L4 : Hid (Below B w w4) := L3.out.trans (hB9.mono (Nat.le_trans hBg.out L3.out.size))
  have HP4 := Lib.hid (HP3.out.below hB9 HP3.out.lt)
  have HR4 := Lib.hid (HR3.out.below hB9)
  have HT4 := Lib.hid (HT3.out.below (hB9.mono (Nat.le_trans hBg.out L3.out.size)))
  have K4 := Lib.hid K3.out
  have hNA : w3.heap.size ≠ g := Nat.ne_of_gt HP3.out.lt
  have aNA := Lib.hid (HR3.out.fresh (Nat.le_refl w3.heap.size))
  have BNA : Hid (B ≤ w3.heap.size) := Nat.le_trans hBg.out L3.out.size
  obtain ⟨pNA, ea⟩ : ∃ a, w3.heap.size = a := ⟨_, rfl⟩
  rw [ea] at NA4 hNA aNA BNA  ⊢
  obtain ⟨n4, hn9⟩ : ∃ n, n3 = n := ⟨_, rfl⟩
  obtain ⟨b4, hb9⟩ : ∃ b, b3 = b := ⟨_, rfl⟩
  rw [hn9, hb9] at HP4 K4
  clear hW9 hB9 HP3 HR3 HT3 L3 K3 ea hn9 hb9 
  go_wp2_with fail
  refine (rsign_any w4 g B n4 b4 ⟨#[123]⟩ (.slice A l.length c) nm vt vr vq va vf vs vk l r2 HP4.out HT4.out K4.out hl2).mono ?_
  rintro e w5 ⟨rfl, n5, b5, hk5, hb5, hG5⟩
  obtain ⟨r3, hr9⟩ : ∃ r, thenTake r2 (isText ⟨#[123]⟩) = r := ⟨_, rfl⟩
  rw [hr9] at hk5
  have Er3 := Lib.hid hr9
  clear hr9
  have K5 := Lib.hid hk5
  have L5 : Hid (Below B w w5) := L4.out.trans (grown_below hG5 hgH.out HP4.out.lt)
  have HR5 := Lib.hid (HR4.out.set HP4.out (by kernel_rfl) hG5)
  have HP5 := Lib.hid hb5
  have HT5 := Lib.hid (HT4.out.below (grown_below hG5 hgH.out HP4.out.lt))
  have NA5 := Lib.hid (NA4.out.grown hG5 (fun e => hNA (by cases e; rfl)))
  clear hk5 hb5 hG5 HP4 HR4 HT4 L4 K4 NA4
  have c1 := NA5.out.cell 1
  go_upto_region 3 with fail
  go_upto_region 4 with fail
  refine world_is (P := fun W => Code.wp _ _ _ _ W) (fun w6 hW9 => ?_)
  have hB9 : Below w5.heap.size w5 w6 := by rw [← hW9]; exact (Below.refl _ _).alloc (Nat.le_refl _) _
  have OT6 : Hid (Blk w6 w5.heap.size 51 #[.string t2.text, .int .i64 0, .int .i64 0]) := by unfold Hid; rw [← hW9]; exact Blk.new _ _ _
  have L6 : Hid (Below B w w6) := L5.out.trans (hB9.mono (Nat.le_trans hBg.out L5.out.size))
  have HP6 := Lib.hid (HP5.out.below hB9 HP5.out.lt)
  have HR6 := Lib.hid (HR5.out.below hB9)
  have HT6 := Lib.hid (HT5.out.below (hB9.mono (Nat.le_trans hBg.out L5.out.size)))
  have K6 := Lib.hid K5.out
  have hOT : w5.heap.size ≠ g := Nat.ne_of_gt HP5.out.lt
  have aOT := Lib.hid (HR5.out.fresh (Nat.le_refl w5.heap.size))
  have BOT : Hid (B ≤ w5.heap.size) := Nat.le_trans hBg.out L5.out.size
  have NA6 := Lib.hid (NA5.out.below hB9 NA5.out.lt)
  have hNAOT : pNA ≠ w5.heap.size := Nat.ne_of_lt NA5.out.lt
  obtain ⟨pOT, ea⟩ : ∃ a, w5.heap.size = a := ⟨_, rfl⟩
  rw [ea] at OT6 hOT aOT BOT hNAOT ⊢
  obtain ⟨n6, hn9⟩ : ∃ n, n5 = n := ⟨_, rfl⟩
  obtain ⟨b6, hb9⟩ : ∃ b, b5 = b := ⟨_, rfl⟩
  rw [hn9, hb9] at HP6 K6
  clear hW9 hB9 HP5 HR5 HT5 L5 K5 ea hn9 hb9 NA5
  clear c1
  go_wp2_with fail
  go_loopw [4, 5] (fun v4 v5 wr => ∃ (n9 : Nat) (b9 : Bool) (fl lf : Nat) (lb : Bool) (seen : List ByteArray) (rH : Rd Tok), v4 = .bool lb ∧ seen.length ≤ n9 ∧ n9 ≤ l.length ∧ Hid (Sk l n9 b9 rH) ∧ Hid (typFrom r3 0 0 false = typFrom rH fl lf lb) ∧ Hid (SeenOk seen fl) ∧ Hid (Blk wr g 71 #[.slice A l.length c, .int .i64 (n9 : Int), .bool b9, nm, vt, vr, vq, va, vf, vs, vk]) ∧ Hid (RowsA wr B (rdRows vt vr vq va vf vs vk st.typs [] st.quos P F S K)) ∧ Hid (Blk wr pNA 47 #[.int .i64 t2.kind, .string t2.text, .int .i64 t2.n, .int .i64 t2.pos]) ∧ Hid (Blk wr pOT 51 #[.string t2.text, .int .i64 (fl : Int), .int .i64 (lf : Int)]) ∧ Hid (Below B w wr) ∧ Hid (wr.ownsRow B 9 1 v5 seen.length (seen.map Value.string))) (fun _ _ wr => rdMeas l g wr)
  case atStart => exact ⟨n6, b6, 0, 0, false, [], r3, rfl, Nat.zero_le _, K6.out.1, K6.out, rfl, seen_nil, HP6.out, HR6.out, NA6.out, OT6.out, L6.out, ⟨rfl, .inl ⟨rfl, rfl⟩⟩⟩
  case round =>
  obtain ⟨n9, b9, fl, lf, lb, seen, rH, rfl, hs9, hn9, K9, T9, S9, HP9, HR9, NA9, OT9, L9, W9⟩ := hrel
  have HT9 := Lib.hid (HT.out.below L9.out)
  obtain ⟨w9, hw9⟩ : ∃ x, x = wr := ⟨_, rfl⟩
  subst hw9
  have z2 := HP9.out.cell 2
  cases b9
  case true =>
    clear W9 S9
    have K0 := Lib.hid K9.out
    go_wp2_with fail
    refine (rsign_any w9 g B n9 true ⟨#[125]⟩ (.slice A l.length c) nm vt vr vq va vf vs vk l rH HP9.out HT9.out K9.out hl2).mono ?_
    rintro e w10 ⟨rfl, n10, b10, hk10, hb10, hG10⟩
    obtain ⟨rZ, hr9⟩ : ∃ r, thenTake rH (isText ⟨#[125]⟩) = r := ⟨_, rfl⟩
    rw [hr9] at hk10
    have ErZ := Lib.hid hr9
    clear hr9
    have K10 := Lib.hid hk10
    have L10 : Hid (Below B w w10) := L9.out.trans (grown_below hG10 hgH.out HP9.out.lt)
    have HR10 := Lib.hid (HR9.out.set HP9.out (by kernel_rfl) hG10)
    have HP10 := Lib.hid hb10
    have HT10 := Lib.hid (HT9.out.below (grown_below hG10 hgH.out HP9.out.lt))
    have NA10 := Lib.hid (NA9.out.grown hG10 (fun e => hNA (by cases e; rfl)))
    have OT10 := Lib.hid (OT9.out.grown hG10 (fun e => hOT (by cases e; rfl)))
    clear hk10 hb10 hG10 HP9 HR9 HT9 L9 K9 NA9 OT9
    have hx := typ_exit (fl := fl) (lf := lf) (lb := lb) K0.out (.inl rfl) (by rw [show wClose = (⟨#[125]⟩ : ByteArray) from rfl, ErZ.out]; exact K10.out)
    rw [← T9.out] at hx
    have hxH := Lib.hid hx
    clear hx
    go_upto_region 28 with fail
    obtain ⟨At, Ct, hv9⟩ := HR10.out.slice (i := 0) rfl
    dsimp only at hv9
    subst hv9
    obtain ⟨Aa, Ca, hv9⟩ := HR10.out.slice (i := 3) rfl
    dsimp only at hv9
    subst hv9
    refine Late.wp_region_late (S := fun w' => w'.cell? ⟨g, 4, none⟩ = some ((.slice At st.typs.length Ct)) ∧ w'.cell? ⟨pOT, 0, none⟩ = some (.string t2.text) ∧ w'.cell? ⟨pOT, 1, none⟩ = some (.int .i64 (fl : Int)) ∧ w'.cell? ⟨pOT, 2, none⟩ = some (.int .i64 (lf : Int)) ∧ w'.cell? ⟨pNA, 0, none⟩ = some (.int .i64 t2.kind) ∧ w'.cell? ⟨pNA, 1, none⟩ = some (.string t2.text) ∧ w'.cell? ⟨pNA, 2, none⟩ = some (.int .i64 t2.n) ∧ w'.cell? ⟨pNA, 3, none⟩ = some (.int .i64 t2.pos)) [12] (by kernel_rfl) (⟨HP10.out.cell 4, OT10.out.cell 0, OT10.out.cell 1, OT10.out.cell 2, NA10.out.cell 0, NA10.out.cell 1, NA10.out.cell 2, NA10.out.cell 3⟩) (fun hHeld => ?_)
    refine' Late.wpAnyK_take (i := 0) (v := ?v0xp) rfl (by kernel_rfl) (by kernel_rfl) (by kernel_rfl) (by kernel_rfl) (by kernel_rfl) (fun _ _ _ h => h) (Or.inl ⟨by rfl, ?hy0xp⟩) hHeld ?rest0xp
    case hy0xp => intro w hSw; (try dsimp only at hSw); go_simp; all_goals with_reducible rfl
    try simp only [Act.put, List.setIfInBounds_toArray, List.set_cons_zero, List.set_cons_succ, List.getElem_toArray, List.getElem_cons_zero]
    refine' Late.wpAnyK_take (i := 1) (v := ?v1xp) rfl (by kernel_rfl) (by kernel_rfl) (by kernel_rfl) (by kernel_rfl) (by kernel_rfl) (fun _ _ _ h => h) (Or.inl ⟨by rfl, ?hy1xp⟩) hHeld ?rest1xp
    case hy1xp => intro w hSw; (try dsimp only at hSw); go_simp; all_goals with_reducible rfl
    try simp only [Act.put, List.setIfInBounds_toArray, List.set_cons_zero, List.set_cons_succ, List.getElem_toArray, List.getElem_cons_zero, List.getElem_cons_succ]
    refine' Late.wpAnyK_take (i := 2) (v := ?v2xp) rfl (by kernel_rfl) (by kernel_rfl) (by kernel_rfl) (by kernel_rfl) (by kernel_rfl) (fun _ _ _ h => h) (Or.inl ⟨by rfl, ?hy2xp⟩) hHeld ?rest2xp
    case hy2xp => intro w hSw; (try dsimp only at hSw); go_simp; all_goals with_reducible rfl
    try simp only [Act.put, List.setIfInBounds_toArray, List.set_cons_zero, List.set_cons_succ, List.getElem_toArray, List.getElem_cons_zero, List.getElem_cons_succ]
    refine' Late.wpAnyK_take (i := 3) (v := ?v3xp) rfl (by kernel_rfl) (by kernel_rfl) (by kernel_rfl) (by kernel_rfl) (by kernel_rfl) (fun _ _ _ h => h) (Or.inl ⟨by rfl, ?hy3xp⟩) hHeld ?rest3xp
    case hy3xp => intro w hSw; (try dsimp only at hSw); go_simp; all_goals with_reducible rfl
    try simp only [Act.put, List.setIfInBounds_toArray, List.set_cons_zero, List.set_cons_succ, List.getElem_toArray, List.getElem_cons_zero, List.getElem_cons_succ]
    refine' Late.wpAnyK_take (i := 4) (v := ?v4xp) rfl (by kernel_rfl) (by kernel_rfl) (by kernel_rfl) (by kernel_rfl) (by kernel_rfl) (fun _ _ _ h => h) (Or.inl ⟨by rfl, ?hy4xp⟩) hHeld ?rest4xp
    case hy4xp => intro w hSw; (try dsimp only at hSw); go_simp; all_goals with_reducible rfl
    try simp only [Act.put, List.setIfInBounds_toArray, List.set_cons_zero, List.set_cons_succ, List.getElem_toArray, List.getElem_cons_zero, List.getElem_cons_succ]
    refine' Late.wpAnyK_take (i := 5) (v := ?v5xp) rfl (by kernel_rfl) (by kernel_rfl) (by kernel_rfl) (by kernel_rfl) (by kernel_rfl) (fun _ _ _ h => h) (Or.inl ⟨by rfl, ?hy5xp⟩) hHeld ?rest5xp
    case hy5xp => intro w hSw; (try dsimp only at hSw); go_simp; all_goals with_reducible rfl
    try simp only [Act.put, List.setIfInBounds_toArray, List.set_cons_zero, List.set_cons_succ, List.getElem_toArray, List.getElem_cons_zero, List.getElem_cons_succ]
    refine' Late.wpAnyK_take (i := 6) (v := ?v6xp) rfl (by kernel_rfl) (by kernel_rfl) (by kernel_rfl) (by kernel_rfl) (by kernel_rfl) (fun _ _ _ h => h) (Or.inl ⟨by rfl, ?hy6xp⟩) hHeld ?rest6xp
    case hy6xp => intro w hSw; (try dsimp only at hSw); go_simp; all_goals with_reducible rfl
    try simp only [Act.put, List.setIfInBounds_toArray, List.set_cons_zero, List.set_cons_succ, List.getElem_toArray, List.getElem_cons_zero, List.getElem_cons_succ]
    refine Late.wpAnyK_ready (rs := [7]) (by kernel_rfl) (by simp) ?_
    refine Late.AllReadyK.cons rfl (fun KQ hKQ => ?_) Late.AllReadyK.nil
    go_simp
    refine world_is (P := fun W => KQ _ W) (fun x1 hw9 => ?_)
    have hB9 : Below w10.heap.size w10 x1 := by rw [← hw9]; first | exact (Below.refl _ _).alloc (Nat.le_refl _) _ | exact ((Below.refl _ _).alloc (Nat.le_refl _) _).drew | exact (Below.refl _ _).drew.alloc (Nat.le_refl _) _
    have Fx1 : Hid (Blk x1 w10.heap.size 51 #[.string t2.text, .int .i64 (fl : Int), .int .i64 (lf : Int)]) := by unfold Hid; rw [← hw9]; exact Blk.new _ _ _
    have Px1 : Hid (Blk x1 g 71 #[.slice A l.length c, .int .i64 (n10 : Int), .bool b10, nm, .slice At st.typs.length Ct, vr, vq, .slice Aa P.length Ca, vf, vs, vk]) := by unfold Hid; exact HP10.out.below hB9 HP10.out.lt
    have Rx1 : Hid (RowsA x1 B (rdRows (.slice At st.typs.length Ct) vr vq (.slice Aa P.length Ca) vf vs vk st.typs [] st.quos P F S K)) := by unfold Hid; exact HR10.out.below hB9
    have E0x1 : Hid (Blk x1 pOT 51 #[.string t2.text, .int .i64 (fl : Int), .int .i64 (lf : Int)]) := by unfold Hid; exact OT10.out.below hB9 OT10.out.lt
    have E1x1 : Hid (Blk x1 pNA 47 #[.int .i64 t2.kind, .string t2.text, .int .i64 t2.n, .int .i64 t2.pos]) := by unfold Hid; exact NA10.out.below hB9 NA10.out.lt
    have Lx1 : Hid (Below B w x1) := by unfold Hid; exact L10.out.trans (hB9.mono (Nat.le_trans hBg.out L10.out.size))
    clear hw9 hB9
    refine hKQ.out _ _ (⟨Px1.out.cell 4, E0x1.out.cell 0, E0x1.out.cell 1, E0x1.out.cell 2, E1x1.out.cell 0, E1x1.out.cell 1, E1x1.out.cell 2, E1x1.out.cell 3⟩) (fun hHeld2 => ?_)
    clear hKQ KQ hHeld
    have hHeld := hHeld2
    clear hHeld2
    try simp only [Act.put, List.setIfInBounds_toArray, List.set_cons_zero, List.set_cons_succ, List.getElem_toArray, List.getElem_cons_zero, List.getElem_cons_succ]
    refine Late.wpAnyK_ready (rs := [8]) (by kernel_rfl) (by simp) ?_
    refine Late.AllReadyK.cons rfl (fun KQ hKQ => ?_) Late.AllReadyK.nil
    refine wp_gcat_own 23 51 (.agg #[.string ⟨#[]⟩, .int .i64 0, .int .i64 0]) 3 32 Tryd.underlying23 (by kernel_rfl) rfl (by decide) (by decide) _ _ rfl B (.slice At st.typs.length Ct) (st.typs.length) (typsC st.typs) rfl (Rx1.out.own 0 _ rfl) (w10.heap.size) 1 1 [.string t2.text, .int .i64 (fl : Int), .int .i64 (lf : Int)] rfl rfl Fx1.out (by intro u hu; simp only [List.mem_cons, List.not_mem_nil, or_false] at hu; rcases hu with rfl | rfl | rfl <;> rfl) hlT.out (Nat.le_trans hBg.out Lx1.out.size) ?_
    intro vx2 x2 hrow9 hG9 hO9
    have Rx2 : Hid (RowsA x2 B (List.set (rdRows (.slice At st.typs.length Ct) vr vq (.slice Aa P.length Ca) vf vs vk st.typs [] st.quos P F S K) 0 ⟨51, 3, vx2, st.typs.length + 1, typsC st.typs ++ [.string t2.text,.int .i64 (fl : Int),.int .i64 (lf : Int)]⟩)) := by unfold Hid; exact Rx1.out.push (i := 0) rfl hrow9 hG9 hO9
    have Px2 : Hid (Blk x2 g 71 #[.slice A l.length c, .int .i64 (n10 : Int), .bool b10, nm, .slice At st.typs.length Ct, vr, vq, .slice Aa P.length Ca, vf, vs, vk]) := by unfold Hid; exact Px1.out.grown hG9 (Ne.symm (Rx1.out.ne Px1.out (by kernel_rfl) 0 _ rfl))
    have E0x2 : Hid (Blk x2 pOT 51 #[.string t2.text, .int .i64 (fl : Int), .int .i64 (lf : Int)]) := by unfold Hid; exact E0x1.out.grown hG9 (Ne.symm (aOT.out 0 _ rfl))
    have E1x2 : Hid (Blk x2 pNA 47 #[.int .i64 t2.kind, .string t2.text, .int .i64 t2.n, .int .i64 t2.pos]) := by unfold Hid; exact E1x1.out.grown hG9 (Ne.symm (Rx1.out.ne E1x1.out (by kernel_rfl) 0 _ rfl))
    have Lx2 : Hid (Below B w x2) := by unfold Hid; exact Lx1.out.grown hG9 (Nat.le_trans hBg.out Lx1.out.size) (fun j e => ((Rx1.out.own 0 _ rfl).lt j e).1)
    obtain ⟨Ax2, Cx2, hv9⟩ := Rx2.out.slice (i := 0) rfl
    dsimp only at hv9
    subst hv9
    clear hrow9 hG9 hO9
    refine hKQ.out _ _ (⟨Px2.out.cell 4, E0x2.out.cell 0, E0x2.out.cell 1, E0x2.out.cell 2, E1x2.out.cell 0, E1x2.out.cell 1, E1x2.out.cell 2, E1x2.out.cell 3⟩) (fun hHeld2 => ?_)
    clear hKQ KQ hHeld
    have hHeld := hHeld2
    clear hHeld2
    try simp only [Act.put, List.setIfInBounds_toArray, List.set_cons_zero, List.set_cons_succ, List.getElem_toArray, List.getElem_cons_zero, List.getElem_cons_succ]
    refine' Late.wpAnyK_take (i := 9) (v := ?v9xq) rfl (by kernel_rfl) (by kernel_rfl) (by kernel_rfl) (by kernel_rfl) (by kernel_rfl) (fun _ _ _ h => h) (Or.inl ⟨by rfl, ?hy9xq⟩) hHeld ?rest9xq
    case hy9xq => intro w hSw; (try dsimp only at hSw); go_simp; all_goals with_reducible rfl
    try simp only [Act.put, List.setIfInBounds_toArray, List.set_cons_zero, List.set_cons_succ, List.getElem_toArray, List.getElem_cons_zero, List.getElem_cons_succ]
    refine' Late.wpAnyK_take (i := 10) (v := ?v10xq) rfl (by kernel_rfl) (by kernel_rfl) (by kernel_rfl) (by kernel_rfl) (by kernel_rfl) (fun _ _ _ h => h) (Or.inl ⟨by rfl, ?hy10xq⟩) hHeld ?rest10xq
    case hy10xq => intro w hSw; (try dsimp only at hSw); go_simp; all_goals with_reducible rfl
    try simp only [Act.put, List.setIfInBounds_toArray, List.set_cons_zero, List.set_cons_succ, List.getElem_toArray, List.getElem_cons_zero, List.getElem_cons_succ]
    refine' Late.wpAnyK_take (i := 11) (v := ?v11xq) rfl (by kernel_rfl) (by kernel_rfl) (by kernel_rfl) (by kernel_rfl) (by kernel_rfl) (fun _ _ _ h => h) (Or.inl ⟨by rfl, ?hy11xq⟩) hHeld ?rest11xq
    case hy11xq => intro w hSw; (try dsimp only at hSw); go_simp; all_goals with_reducible rfl
    try simp only [Act.put, List.setIfInBounds_toArray, List.set_cons_zero, List.set_cons_succ, List.getElem_toArray, List.getElem_cons_zero, List.getElem_cons_succ]
    refine Late.wpAnyK_ready (rs := [12]) (by kernel_rfl) (by simp) ?_
    refine Late.AllReadyK.late rfl (by kernel_rfl) (fun KQ hKQ => ?_)
    have c9 : x2.cell? ⟨g, 4, none⟩ = some ((.slice At st.typs.length Ct)) := Px2.out.cell 4
    have f9 := Px2.out.frozen 4
    go_simp
    clear c9 f9
    refine world_is (P := fun W => KQ _ W) (fun x3 hw9 => ?_)
    have hG9 : x2.grownBy x3 (some g) := by rw [← hw9]; exact grown_ofSet _ _ _ _
    have Px3 : Hid (Blk x3 g 71 #[.slice A l.length c, .int .i64 (n10 : Int), .bool b10, nm, (.slice Ax2 (st.typs.length + 1) Cx2), vr, vq, .slice Aa P.length Ca, vf, vs, vk]) := by unfold Hid; rw [← hw9]; exact Px2.out.set_ 4 _
    have Rx3 : Hid (RowsA x3 B (rdRows (.slice Ax2 (st.typs.length + 1) Cx2) vr vq (.slice Aa P.length Ca) vf vs vk (st.typs ++ [⟨t2, fl, lf⟩]) [] st.quos P F S K)) := by unfold Hid; exact (Rx2.out.set Px2.out (by kernel_rfl) hG9).cast (by simp [rdRows, typsC_snoc])
    have E0x3 : Hid (Blk x3 pOT 51 #[.string t2.text, .int .i64 (fl : Int), .int .i64 (lf : Int)]) := by unfold Hid; exact E0x2.out.grown hG9 (by intro e9; cases e9; exact hOT rfl)
    have E1x3 : Hid (Blk x3 pNA 47 #[.int .i64 t2.kind, .string t2.text, .int .i64 t2.n, .int .i64 t2.pos]) := by unfold Hid; exact E1x2.out.grown hG9 (by intro e9; cases e9; exact hNA rfl)
    have Lx3 : Hid (Below B w x3) := by unfold Hid; exact Lx2.out.trans (grown_below hG9 hgH.out Px2.out.lt)
    clear hw9 hG9
    refine hKQ.out _ _ ?_
    clear hKQ KQ
    try simp only [Act.put, List.setIfInBounds_toArray, List.set_cons_zero, List.set_cons_succ, List.getElem_toArray, List.getElem_cons_zero, List.getElem_cons_succ]
    refine Late.wpAnyK_done (by kernel_rfl) ?_ _
    go_upto_region 29 with fail
    refine Late.wp_region_late (S := fun w' => w'.cell? ⟨g, 7, none⟩ = some ((.slice Aa P.length Ca)) ∧ w'.cell? ⟨pNA, 0, none⟩ = some (.int .i64 t2.kind) ∧ w'.cell? ⟨pNA, 1, none⟩ = some (.string t2.text) ∧ w'.cell? ⟨pNA, 2, none⟩ = some (.int .i64 t2.n) ∧ w'.cell? ⟨pNA, 3, none⟩ = some (.int .i64 t2.pos)) [11] (by kernel_rfl) (⟨Px3.out.cell 7, E1x3.out.cell 0, E1x3.out.cell 1, E1x3.out.cell 2, E1x3.out.cell 3⟩) (fun hHeld => ?_)
    refine' Late.wpAnyK_take (i := 0) (v := ?v0yp) rfl (by kernel_rfl) (by kernel_rfl) (by kernel_rfl) (by kernel_rfl) (by kernel_rfl) (fun _ _ _ h => h) (Or.inl ⟨by rfl, ?hy0yp⟩) hHeld ?rest0yp
    case hy0yp => intro w hSw; (try dsimp only at hSw); go_simp; all_goals with_reducible rfl
    try simp only [Act.put, List.setIfInBounds_toArray, List.set_cons_zero, List.set_cons_succ, List.getElem_toArray, List.getElem_cons_zero]
    refine' Late.wpAnyK_take (i := 1) (v := ?v1yp) rfl (by kernel_rfl) (by kernel_rfl) (by kernel_rfl) (by kernel_rfl) (by kernel_rfl) (fun _ _ _ h => h) (Or.inl ⟨by rfl, ?hy1yp⟩) hHeld ?rest1yp
    case hy1yp => intro w hSw; (try dsimp only at hSw); go_simp; all_goals with_reducible rfl
    try simp only [Act.put, List.setIfInBounds_toArray, List.set_cons_zero, List.set_cons_succ, List.getElem_toArray, List.getElem_cons_zero, List.getElem_cons_succ]
    refine' Late.wpAnyK_take (i := 2) (v := ?v2yp) rfl (by kernel_rfl) (by kernel_rfl) (by kernel_rfl) (by kernel_rfl) (by kernel_rfl) (fun _ _ _ h => h) (Or.inl ⟨by rfl, ?hy2yp⟩) hHeld ?rest2yp
    case hy2yp => intro w hSw; (try dsimp only at hSw); go_simp; all_goals with_reducible rfl
    try simp only [Act.put, List.setIfInBounds_toArray, List.set_cons_zero, List.set_cons_succ, List.getElem_toArray, List.getElem_cons_zero, List.getElem_cons_succ]
    refine' Late.wpAnyK_take (i := 3) (v := ?v3yp) rfl (by kernel_rfl) (by kernel_rfl) (by kernel_rfl) (by kernel_rfl) (by kernel_rfl) (fun _ _ _ h => h) (Or.inl ⟨by rfl, ?hy3yp⟩) hHeld ?rest3yp
    case hy3yp => intro w hSw; (try dsimp only at hSw); go_simp; all_goals with_reducible rfl
    try simp only [Act.put, List.setIfInBounds_toArray, List.set_cons_zero, List.set_cons_succ, List.getElem_toArray, List.getElem_cons_zero, List.getElem_cons_succ]
    refine' Late.wpAnyK_take (i := 4) (v := ?v4yp) rfl (by kernel_rfl) (by kernel_rfl) (by kernel_rfl) (by kernel_rfl) (by kernel_rfl) (fun _ _ _ h => h) (Or.inl ⟨by rfl, ?hy4yp⟩) hHeld ?rest4yp
    case hy4yp => intro w hSw; (try dsimp only at hSw); go_simp; all_goals with_reducible rfl
    try simp only [Act.put, List.setIfInBounds_toArray, List.set_cons_zero, List.set_cons_succ, List.getElem_toArray, List.getElem_cons_zero, List.getElem_cons_succ]
    refine' Late.wpAnyK_take (i := 5) (v := ?v5yp) rfl (by kernel_rfl) (by kernel_rfl) (by kernel_rfl) (by kernel_rfl) (by kernel_rfl) (fun _ _ _ h => h) (Or.inl ⟨by rfl, ?hy5yp⟩) hHeld ?rest5yp
    case hy5yp => intro w hSw; (try dsimp only at hSw); go_simp; all_goals with_reducible rfl
    try simp only [Act.put, List.setIfInBounds_toArray, List.set_cons_zero, List.set_cons_succ, List.getElem_toArray, List.getElem_cons_zero, List.getElem_cons_succ]
    refine' Late.wpAnyK_take (i := 6) (v := ?v6yp) rfl (by kernel_rfl) (by kernel_rfl) (by kernel_rfl) (by kernel_rfl) (by kernel_rfl) (fun _ _ _ h => h) (Or.inl ⟨by rfl, ?hy6yp⟩) hHeld ?rest6yp
    case hy6yp => intro w hSw; (try dsimp only at hSw); go_simp; all_goals with_reducible rfl
    try simp only [Act.put, List.setIfInBounds_toArray, List.set_cons_zero, List.set_cons_succ, List.getElem_toArray, List.getElem_cons_zero, List.getElem_cons_succ]
    refine Late.wpAnyK_ready (rs := [7]) (by kernel_rfl) (by simp) ?_
    refine Late.AllReadyK.cons rfl (fun KQ hKQ => ?_) Late.AllReadyK.nil
    go_simp
    refine world_is (P := fun W => KQ _ W) (fun y1 hw9 => ?_)
    have hB9 : Below x3.heap.size x3 y1 := by rw [← hw9]; first | exact (Below.refl _ _).alloc (Nat.le_refl _) _ | exact ((Below.refl _ _).alloc (Nat.le_refl _) _).drew | exact (Below.refl _ _).drew.alloc (Nat.le_refl _) _
    have Fy1 : Hid (Blk y1 x3.heap.size 3 #[.int .i64 t2.pos]) := by unfold Hid; rw [← hw9]; exact Blk.new _ _ _
    have Py1 : Hid (Blk y1 g 71 #[.slice A l.length c, .int .i64 (n10 : Int), .bool b10, nm, (.slice Ax2 (st.typs.length + 1) Cx2), vr, vq, .slice Aa P.length Ca, vf, vs, vk]) := by unfold Hid; exact Px3.out.below hB9 Px3.out.lt
    have Ry1 : Hid (RowsA y1 B (rdRows (.slice Ax2 (st.typs.length + 1) Cx2) vr vq (.slice Aa P.length Ca) vf vs vk (st.typs ++ [⟨t2, fl, lf⟩]) [] st.quos P F S K)) := by unfold Hid; exact Rx3.out.below hB9
    have E0y1 : Hid (Blk y1 pNA 47 #[.int .i64 t2.kind, .string t2.text, .int .i64 t2.n, .int .i64 t2.pos]) := by unfold Hid; exact E1x3.out.below hB9 E1x3.out.lt
    have Ly1 : Hid (Below B w y1) := by unfold Hid; exact Lx3.out.trans (hB9.mono (Nat.le_trans hBg.out Lx3.out.size))
    clear hw9 hB9
    refine hKQ.out _ _ (⟨Py1.out.cell 7, E0y1.out.cell 0, E0y1.out.cell 1, E0y1.out.cell 2, E0y1.out.cell 3⟩) (fun hHeld2 => ?_)
    clear hKQ KQ hHeld
    have hHeld := hHeld2
    clear hHeld2
    try simp only [Act.put, List.setIfInBounds_toArray, List.set_cons_zero, List.set_cons_succ, List.getElem_toArray, List.getElem_cons_zero, List.getElem_cons_succ]
    refine Late.wpAnyK_ready (rs := [8]) (by kernel_rfl) (by simp) ?_
    refine Late.AllReadyK.cons rfl (fun KQ hKQ => ?_) Late.AllReadyK.nil
    refine wp_gcat_own 68 3 (.int .i64 0) 1 8 Tryd.underlying68 (by kernel_rfl) rfl (by decide) (by decide) _ _ rfl B (.slice Aa P.length Ca) (P.length) (posC P) rfl (Ry1.out.own 3 _ rfl) (x3.heap.size) 1 1 [.int .i64 t2.pos] rfl rfl Fy1.out (by intro u hu; simp only [List.mem_singleton] at hu; rw [hu]; rfl) hlP.out (Nat.le_trans hBg.out Ly1.out.size) ?_
    intro vy2 y2 hrow9 hG9 hO9
    have Ry2 : Hid (RowsA y2 B (List.set (rdRows (.slice Ax2 (st.typs.length + 1) Cx2) vr vq (.slice Aa P.length Ca) vf vs vk (st.typs ++ [⟨t2, fl, lf⟩]) [] st.quos P F S K) 3 ⟨3, 1, vy2, P.length + 1, posC P ++ [.int .i64 t2.pos]⟩)) := by unfold Hid; exact Ry1.out.push (i := 3) rfl hrow9 hG9 hO9
    have Py2 : Hid (Blk y2 g 71 #[.slice A l.length c, .int .i64 (n10 : Int), .bool b10, nm, (.slice Ax2 (st.typs.length + 1) Cx2), vr, vq, .slice Aa P.length Ca, vf, vs, vk]) := by unfold Hid; exact Py1.out.grown hG9 (Ne.symm (Ry1.out.ne Py1.out (by kernel_rfl) 3 _ rfl))
    have E0y2 : Hid (Blk y2 pNA 47 #[.int .i64 t2.kind, .string t2.text, .int .i64 t2.n, .int .i64 t2.pos]) := by unfold Hid; exact E0y1.out.grown hG9 (Ne.symm (Ry1.out.ne E0y1.out (by kernel_rfl) 3 _ rfl))
    have Ly2 : Hid (Below B w y2) := by unfold Hid; exact Ly1.out.grown hG9 (Nat.le_trans hBg.out Ly1.out.size) (fun j e => ((Ry1.out.own 3 _ rfl).lt j e).1)
    obtain ⟨Ay2, Cy2, hv9⟩ := Ry2.out.slice (i := 3) rfl
    dsimp only at hv9
    subst hv9
    clear hrow9 hG9 hO9
    refine hKQ.out _ _ (⟨Py2.out.cell 7, E0y2.out.cell 0, E0y2.out.cell 1, E0y2.out.cell 2, E0y2.out.cell 3⟩) (fun hHeld2 => ?_)
    clear hKQ KQ hHeld
    have hHeld := hHeld2
    clear hHeld2
    try simp only [Act.put, List.setIfInBounds_toArray, List.set_cons_zero, List.set_cons_succ, List.getElem_toArray, List.getElem_cons_zero, List.getElem_cons_succ]
    refine' Late.wpAnyK_take (i := 9) (v := ?v9yq) rfl (by kernel_rfl) (by kernel_rfl) (by kernel_rfl) (by kernel_rfl) (by kernel_rfl) (fun _ _ _ h => h) (Or.inl ⟨by rfl, ?hy9yq⟩) hHeld ?rest9yq
    case hy9yq => intro w hSw; (try dsimp only at hSw); go_simp; all_goals with_reducible rfl
    try simp only [Act.put, List.setIfInBounds_toArray, List.set_cons_zero, List.set_cons_succ, List.getElem_toArray, List.getElem_cons_zero, List.getElem_cons_succ]
    refine' Late.wpAnyK_take (i := 10) (v := ?v10yq) rfl (by kernel_rfl) (by kernel_rfl) (by kernel_rfl) (by kernel_rfl) (by kernel_rfl) (fun _ _ _ h => h) (Or.inl ⟨by rfl, ?hy10yq⟩) hHeld ?rest10yq
    case hy10yq => intro w hSw; (try dsimp only at hSw); go_simp; all_goals with_reducible rfl
    try simp only [Act.put, List.setIfInBounds_toArray, List.set_cons_zero, List.set_cons_succ, List.getElem_toArray, List.getElem_cons_zero, List.getElem_cons_succ]
    refine Late.wpAnyK_ready (rs := [11]) (by kernel_rfl) (by simp) ?_
    refine Late.AllReadyK.late rfl (by kernel_rfl) (fun KQ hKQ => ?_)
    have c9 : y2.cell? ⟨g, 7, none⟩ = some ((.slice Aa P.length Ca)) := Py2.out.cell 7
    have f9 := Py2.out.frozen 7
    go_simp
    clear c9 f9
    refine world_is (P := fun W => KQ _ W) (fun y3 hw9 => ?_)
    have hG9 : y2.grownBy y3 (some g) := by rw [← hw9]; exact grown_ofSet _ _ _ _
    have Py3 : Hid (Blk y3 g 71 #[.slice A l.length c, .int .i64 (n10 : Int), .bool b10, nm, (.slice Ax2 (st.typs.length + 1) Cx2), vr, vq, (.slice Ay2 (P.length + 1) Cy2), vf, vs, vk]) := by unfold Hid; rw [← hw9]; exact Py2.out.set_ 7 _
    have Ry3 : Hid (RowsA y3 B (rdRows (.slice Ax2 (st.typs.length + 1) Cx2) vr vq (.slice Ay2 (P.length + 1) Cy2) vf vs vk (st.typs ++ [⟨t2, fl, lf⟩]) [] st.quos (P ++ [t2]) F S K)) := by unfold Hid; exact (Ry2.out.set Py2.out (by kernel_rfl) hG9).cast (by simp [rdRows, typsC_snoc, posC_snoc])
    have E0y3 : Hid (Blk y3 pNA 47 #[.int .i64 t2.kind, .string t2.text, .int .i64 t2.n, .int .i64 t2.pos]) := by unfold Hid; exact E0y2.out.grown hG9 (by intro e9; cases e9; exact hNA rfl)
    have Ly3 : Hid (Below B w y3) := by unfold Hid; exact Ly2.out.trans (grown_below hG9 hgH.out Py2.out.lt)
    clear hw9 hG9
    refine hKQ.out _ _ ?_
    clear hKQ KQ
    try simp only [Act.put, List.setIfInBounds_toArray, List.set_cons_zero, List.set_cons_succ, List.getElem_toArray, List.getElem_cons_zero, List.getElem_cons_succ]
    refine Late.wpAnyK_done (by kernel_rfl) ?_ _
    go_wp2_with fail
    go_end0
    have hfin := sk_typ (by rw [Er0.out]; exact Er1.out) Er2.out Er3.out rfl hxH.out.1 hxH.out.2 st
    refine rdPost_sk Ly3.out hfin.1 (fun e => ?_) (fun st2 e hst2 => ?_)
    · rw [e] at Py3
      exact ⟨_, _, _, _, _, _, _, _, Py3.out⟩
    · rw [hfin.2 e] at hst2
      cases hst2
      rw [e] at Py3
      refine ⟨_, _, _, _, _, _, _, Py3.out, Ry3.out.cast ?_⟩
      rw [← hFH.out, ← hSH.out, ← hKH.out, ← hPH.out, Vr2.out]
      simp
  case false =>
    clear z2
    have z2 := HP9.out.cell 2
    go_wp2_with fail
    refine (ris_any w9 g B n9 false ⟨#[125]⟩ (.slice A l.length c) nm vt vr vq va vf vs vk l HP9.out HT9.out).mono ?_
    rintro e w10 ⟨rfl, hB10⟩
    have L10 := Lib.hid (L9.out.trans (hB10.mono (Nat.le_trans hBg.out L9.out.size)))
    have HP10 := Lib.hid (HP9.out.below hB10 HP9.out.lt)
    have HR10 := Lib.hid (HR9.out.below hB10)
    have HT10 := Lib.hid (HT.out.below L10.out)
    have NA10 := Lib.hid (NA9.out.below hB10 NA9.out.lt)
    have OT10 := Lib.hid (OT9.out.below hB10 OT9.out.lt)
    have K10 := Lib.hid K9.out
    have W10 : Hid (w10.ownsRow B 9 1 u5 seen.length (seen.map Value.string)) := W9.out.kept (grown_ofBelow hB10 none) (by cases u5.ownBlock with | none => exact .inl rfl | some c => exact .inr (fun e => by cases e))
    obtain ⟨z, hz⟩ : ∃ z, isB l n9 ⟨#[125]⟩ = z := ⟨_, rfl⟩
    rw [hz]
    have hzH := Lib.hid hz
    have M9 := Lib.hid (rdMeas_is (l := l) HP9.out)
    clear hB10 hz L9 HP9 HR9 HT9 NA9 OT9 K9 W9 z2
    cases z
    case true =>
      clear W10 S9 M9
      have K0 := Lib.hid K10.out
      go_wp2_with fail
      refine (rsign_any w10 g B n9 false ⟨#[125]⟩ (.slice A l.length c) nm vt vr vq va vf vs vk l rH HP10.out HT10.out K10.out hl2).mono ?_
      rintro e w11 ⟨rfl, n11, b11, hk11, hb11, hG11⟩
      obtain ⟨rZ, hr9⟩ : ∃ r, thenTake rH (isText ⟨#[125]⟩) = r := ⟨_, rfl⟩
      rw [hr9] at hk11
      have ErZ := Lib.hid hr9
      clear hr9
      have K11 := Lib.hid hk11
      have L11 : Hid (Below B w w11) := L10.out.trans (grown_below hG11 hgH.out HP10.out.lt)
      have HR11 := Lib.hid (HR10.out.set HP10.out (by kernel_rfl) hG11)
      have HP11 := Lib.hid hb11
      have HT11 := Lib.hid (HT10.out.below (grown_below hG11 hgH.out HP10.out.lt))
      have NA11 := Lib.hid (NA10.out.grown hG11 (fun e => hNA (by cases e; rfl)))
      have OT11 := Lib.hid (OT10.out.grown hG11 (fun e => hOT (by cases e; rfl)))
      clear hk11 hb11 hG11 HP10 HR10 HT10 L10 K10 NA10 OT10
      have hx := typ_exit (fl := fl) (lf := lf) (lb := lb) K0.out (.inr (by rw [← hzH.out]; rfl)) (by rw [show wClose = (⟨#[125]⟩ : ByteArray) from rfl, ErZ.out]; exact K11.out)
      rw [← T9.out] at hx
      have hxH := Lib.hid hx
      clear hx
      go_upto_region 28 with fail
      obtain ⟨At, Ct, hv9⟩ := HR11.out.slice (i := 0) rfl
      dsimp only at hv9
      subst hv9
      obtain ⟨Aa, Ca, hv9⟩ := HR11.out.slice (i := 3) rfl
      dsimp only at hv9
      subst hv9
      refine Late.wp_region_late (S := fun w' => w'.cell? ⟨g, 4, none⟩ = some ((.slice At st.typs.length Ct)) ∧ w'.cell? ⟨pOT, 0, none⟩ = some (.string t2.text) ∧ w'.cell? ⟨pOT, 1, none⟩ = some (.int .i64 (fl : Int)) ∧ w'.cell? ⟨pOT, 2, none⟩ = some (.int .i64 (lf : Int)) ∧ w'.cell? ⟨pNA, 0, none⟩ = some (.int .i64 t2.kind) ∧ w'.cell? ⟨pNA, 1, none⟩ = some (.string t2.text) ∧ w'.cell? ⟨pNA, 2, none⟩ = some (.int .i64 t2.n) ∧ w'.cell? ⟨pNA, 3, none⟩ = some (.int .i64 t2.pos)) [12] (by kernel_rfl) (⟨HP11.out.cell 4, OT11.out.cell 0, OT11.out.cell 1, OT11.out.cell 2, NA11.out.cell 0, NA11.out.cell 1, NA11.out.cell 2, NA11.out.cell 3⟩) (fun hHeld => ?_)
      refine' Late.wpAnyK_take (i := 0) (v := ?v0pp) rfl (by kernel_rfl) (by kernel_rfl) (by kernel_rfl) (by kernel_rfl) (by kernel_rfl) (fun _ _ _ h => h) (Or.inl ⟨by rfl, ?hy0pp⟩) hHeld ?rest0pp
      case hy0pp => intro w hSw; (try dsimp only at hSw); go_simp; all_goals with_reducible rfl
      try simp only [Act.put, List.setIfInBounds_toArray, List.set_cons_zero, List.set_cons_succ, List.getElem_toArray, List.getElem_cons_zero]
      refine' Late.wpAnyK_take (i := 1) (v := ?v1pp) rfl (by kernel_rfl) (by kernel_rfl) (by kernel_rfl) (by kernel_rfl) (by kernel_rfl) (fun _ _ _ h => h) (Or.inl ⟨by rfl, ?hy1pp⟩) hHeld ?rest1pp
      case hy1pp => intro w hSw; (try dsimp only at hSw); go_simp; all_goals with_reducible rfl
      try simp only [Act.put, List.setIfInBounds_toArray, List.set_cons_zero, List.set_cons_succ, List.getElem_toArray, List.getElem_cons_zero, List.getElem_cons_succ]
      refine' Late.wpAnyK_take (i := 2) (v := ?v2pp) rfl (by kernel_rfl) (by kernel_rfl) (by kernel_rfl) (by kernel_rfl) (by kernel_rfl) (fun _ _ _ h => h) (Or.inl ⟨by rfl, ?hy2pp⟩) hHeld ?rest2pp
      case hy2pp => intro w hSw; (try dsimp only at hSw); go_simp; all_goals with_reducible rfl
      try simp only [Act.put, List.setIfInBounds_toArray, List.set_cons_zero, List.set_cons_succ, List.getElem_toArray, List.getElem_cons_zero, List.getElem_cons_succ]
      refine' Late.wpAnyK_take (i := 3) (v := ?v3pp) rfl (by kernel_rfl) (by kernel_rfl) (by kernel_rfl) (by kernel_rfl) (by kernel_rfl) (fun _ _ _ h => h) (Or.inl ⟨by rfl, ?hy3pp⟩) hHeld ?rest3pp
      case hy3pp => intro w hSw; (try dsimp only at hSw); go_simp; all_goals with_reducible rfl
      try simp only [Act.put, List.setIfInBounds_toArray, List.set_cons_zero, List.set_cons_succ, List.getElem_toArray, List.getElem_cons_zero, List.getElem_cons_succ]
      refine' Late.wpAnyK_take (i := 4) (v := ?v4pp) rfl (by kernel_rfl) (by kernel_rfl) (by kernel_rfl) (by kernel_rfl) (by kernel_rfl) (fun _ _ _ h => h) (Or.inl ⟨by rfl, ?hy4pp⟩) hHeld ?rest4pp
      case hy4pp => intro w hSw; (try dsimp only at hSw); go_simp; all_goals with_reducible rfl
      try simp only [Act.put, List.setIfInBounds_toArray, List.set_cons_zero, List.set_cons_succ, List.getElem_toArray, List.getElem_cons_zero, List.getElem_cons_succ]
      refine' Late.wpAnyK_take (i := 5) (v := ?v5pp) rfl (by kernel_rfl) (by kernel_rfl) (by kernel_rfl) (by kernel_rfl) (by kernel_rfl) (fun _ _ _ h => h) (Or.inl ⟨by rfl, ?hy5pp⟩) hHeld ?rest5pp
      case hy5pp => intro w hSw; (try dsimp only at hSw); go_simp; all_goals with_reducible rfl
      try simp only [Act.put, List.setIfInBounds_toArray, List.set_cons_zero, List.set_cons_succ, List.getElem_toArray, List.getElem_cons_zero, List.getElem_cons_succ]
      refine' Late.wpAnyK_take (i := 6) (v := ?v6pp) rfl (by kernel_rfl) (by kernel_rfl) (by kernel_rfl) (by kernel_rfl) (by kernel_rfl) (fun _ _ _ h => h) (Or.inl ⟨by rfl, ?hy6pp⟩) hHeld ?rest6pp
      case hy6pp => intro w hSw; (try dsimp only at hSw); go_simp; all_goals with_reducible rfl
      try simp only [Act.put, List.setIfInBounds_toArray, List.set_cons_zero, List.set_cons_succ, List.getElem_toArray, List.getElem_cons_zero, List.getElem_cons_succ]
      refine Late.wpAnyK_ready (rs := [7]) (by kernel_rfl) (by simp) ?_
      refine Late.AllReadyK.cons rfl (fun KQ hKQ => ?_) Late.AllReadyK.nil
      go_simp
      refine world_is (P := fun W => KQ _ W) (fun p1 hw9 => ?_)
      have hB9 : Below w11.heap.size w11 p1 := by rw [← hw9]; first | exact (Below.refl _ _).alloc (Nat.le_refl _) _ | exact ((Below.refl _ _).alloc (Nat.le_refl _) _).drew | exact (Below.refl _ _).drew.alloc (Nat.le_refl _) _
      have Fp1 : Hid (Blk p1 w11.heap.size 51 #[.string t2.text, .int .i64 (fl : Int), .int .i64 (lf : Int)]) := by unfold Hid; rw [← hw9]; exact Blk.new _ _ _
      have Pp1 : Hid (Blk p1 g 71 #[.slice A l.length c, .int .i64 (n11 : Int), .bool b11, nm, .slice At st.typs.length Ct, vr, vq, .slice Aa P.length Ca, vf, vs, vk]) := by unfold Hid; exact HP11.out.below hB9 HP11.out.lt
      have Rp1 : Hid (RowsA p1 B (rdRows (.slice At st.typs.length Ct) vr vq (.slice Aa P.length Ca) vf vs vk st.typs [] st.quos P F S K)) := by unfold Hid; exact HR11.out.below hB9
      have E0p1 : Hid (Blk p1 pOT 51 #[.string t2.text, .int .i64 (fl : Int), .int .i64 (lf : Int)]) := by unfold Hid; exact OT11.out.below hB9 OT11.out.lt
      have E1p1 : Hid (Blk p1 pNA 47 #[.int .i64 t2.kind, .string t2.text, .int .i64 t2.n, .int .i64 t2.pos]) := by unfold Hid; exact NA11.out.below hB9 NA11.out.lt
      have Lp1 : Hid (Below B w p1) := by unfold Hid; exact L11.out.trans (hB9.mono (Nat.le_trans hBg.out L11.out.size))
      clear hw9 hB9
      refine hKQ.out _ _ (⟨Pp1.out.cell 4, E0p1.out.cell 0, E0p1.out.cell 1, E0p1.out.cell 2, E1p1.out.cell 0, E1p1.out.cell 1, E1p1.out.cell 2, E1p1.out.cell 3⟩) (fun hHeld2 => ?_)
      clear hKQ KQ hHeld
      have hHeld := hHeld2
      clear hHeld2
      try simp only [Act.put, List.setIfInBounds_toArray, List.set_cons_zero, List.set_cons_succ, List.getElem_toArray, List.getElem_cons_zero, List.getElem_cons_succ]
      refine Late.wpAnyK_ready (rs := [8]) (by kernel_rfl) (by simp) ?_
      refine Late.AllReadyK.cons rfl (fun KQ hKQ => ?_) Late.AllReadyK.nil
      refine wp_gcat_own 23 51 (.agg #[.string ⟨#[]⟩, .int .i64 0, .int .i64 0]) 3 32 Tryd.underlying23 (by kernel_rfl) rfl (by decide) (by decide) _ _ rfl B (.slice At st.typs.length Ct) (st.typs.length) (typsC st.typs) rfl (Rp1.out.own 0 _ rfl) (w11.heap.size) 1 1 [.string t2.text, .int .i64 (fl : Int), .int .i64 (lf : Int)] rfl rfl Fp1.out (by intro u hu; simp only [List.mem_cons, List.not_mem_nil, or_false] at hu; rcases hu with rfl | rfl | rfl <;> rfl) hlT.out (Nat.le_trans hBg.out Lp1.out.size) ?_
      intro vp2 p2 hrow9 hG9 hO9
      have Rp2 : Hid (RowsA p2 B (List.set (rdRows (.slice At st.typs.length Ct) vr vq (.slice Aa P.length Ca) vf vs vk st.typs [] st.quos P F S K) 0 ⟨51, 3, vp2, st.typs.length + 1, typsC st.typs ++ [.string t2.text,.int .i64 (fl : Int),.int .i64 (lf : Int)]⟩)) := by unfold Hid; exact Rp1.out.push (i := 0) rfl hrow9 hG9 hO9
      have Pp2 : Hid (Blk p2 g 71 #[.slice A l.length c, .int .i64 (n11 : Int), .bool b11, nm, .slice At st.typs.length Ct, vr, vq, .slice Aa P.length Ca, vf, vs, vk]) := by unfold Hid; exact Pp1.out.grown hG9 (Ne.symm (Rp1.out.ne Pp1.out (by kernel_rfl) 0 _ rfl))
      have E0p2 : Hid (Blk p2 pOT 51 #[.string t2.text, .int .i64 (fl : Int), .int .i64 (lf : Int)]) := by unfold Hid; exact E0p1.out.grown hG9 (Ne.symm (aOT.out 0 _ rfl))
      have E1p2 : Hid (Blk p2 pNA 47 #[.int .i64 t2.kind, .string t2.text, .int .i64 t2.n, .int .i64 t2.pos]) := by unfold Hid; exact E1p1.out.grown hG9 (Ne.symm (Rp1.out.ne E1p1.out (by kernel_rfl) 0 _ rfl))
      have Lp2 : Hid (Below B w p2) := by unfold Hid; exact Lp1.out.grown hG9 (Nat.le_trans hBg.out Lp1.out.size) (fun j e => ((Rp1.out.own 0 _ rfl).lt j e).1)
      obtain ⟨Ap2, Cp2, hv9⟩ := Rp2.out.slice (i := 0) rfl
      dsimp only at hv9
      subst hv9
      clear hrow9 hG9 hO9
      refine hKQ.out _ _ (⟨Pp2.out.cell 4, E0p2.out.cell 0, E0p2.out.cell 1, E0p2.out.cell 2, E1p2.out.cell 0, E1p2.out.cell 1, E1p2.out.cell 2, E1p2.out.cell 3⟩) (fun hHeld2 => ?_)
      clear hKQ KQ hHeld
      have hHeld := hHeld2
      clear hHeld2
      try simp only [Act.put, List.setIfInBounds_toArray, List.set_cons_zero, List.set_cons_succ, List.getElem_toArray, List.getElem_cons_zero, List.getElem_cons_succ]
      refine' Late.wpAnyK_take (i := 9) (v := ?v9pq) rfl (by kernel_rfl) (by kernel_rfl) (by kernel_rfl) (by kernel_rfl) (by kernel_rfl) (fun _ _ _ h => h) (Or.inl ⟨by rfl, ?hy9pq⟩) hHeld ?rest9pq
      case hy9pq => intro w hSw; (try dsimp only at hSw); go_simp; all_goals with_reducible rfl
      try simp only [Act.put, List.setIfInBounds_toArray, List.set_cons_zero, List.set_cons_succ, List.getElem_toArray, List.getElem_cons_zero, List.getElem_cons_succ]
      refine' Late.wpAnyK_take (i := 10) (v := ?v10pq) rfl (by kernel_rfl) (by kernel_rfl) (by kernel_rfl) (by kernel_rfl) (by kernel_rfl) (fun _ _ _ h => h) (Or.inl ⟨by rfl, ?hy10pq⟩) hHeld ?rest10pq
      case hy10pq => intro w hSw; (try dsimp only at hSw); go_simp; all_goals with_reducible rfl
      try simp only [Act.put, List.setIfInBounds_toArray, List.set_cons_zero, List.set_cons_succ, List.getElem_toArray, List.getElem_cons_zero, List.getElem_cons_succ]
      refine' Late.wpAnyK_take (i := 11) (v := ?v11pq) rfl (by kernel_rfl) (by kernel_rfl) (by kernel_rfl) (by kernel_rfl) (by kernel_rfl) (fun _ _ _ h => h) (Or.inl ⟨by rfl, ?hy11pq⟩) hHeld ?rest11pq
      case hy11pq => intro w hSw; (try dsimp only at hSw); go_simp; all_goals with_reducible rfl
      try simp only [Act.put, List.setIfInBounds_toArray, List.set_cons_zero, List.set_cons_succ, List.getElem_toArray, List.getElem_cons_zero, List.getElem_cons_succ]
      refine Late.wpAnyK_ready (rs := [12]) (by kernel_rfl) (by simp) ?_
      refine Late.AllReadyK.late rfl (by kernel_rfl) (fun KQ hKQ => ?_)
      have c9 : p2.cell? ⟨g, 4, none⟩ = some ((.slice At st.typs.length Ct)) := Pp2.out.cell 4
      have f9 := Pp2.out.frozen 4
      go_simp
      clear c9 f9
      refine world_is (P := fun W => KQ _ W) (fun p3 hw9 => ?_)
      have hG9 : p2.grownBy p3 (some g) := by rw [← hw9]; exact grown_ofSet _ _ _ _
      have Pp3 : Hid (Blk p3 g 71 #[.slice A l.length c, .int .i64 (n11 : Int), .bool b11, nm, (.slice Ap2 (st.typs.length + 1) Cp2), vr, vq, .slice Aa P.length Ca, vf, vs, vk]) := by unfold Hid; rw [← hw9]; exact Pp2.out.set_ 4 _
      have Rp3 : Hid (RowsA p3 B (rdRows (.slice Ap2 (st.typs.length + 1) Cp2) vr vq (.slice Aa P.length Ca) vf vs vk (st.typs ++ [⟨t2, fl, lf⟩]) [] st.quos P F S K)) := by unfold Hid; exact (Rp2.out.set Pp2.out (by kernel_rfl) hG9).cast (by simp [rdRows, typsC_snoc])
      have E0p3 : Hid (Blk p3 pOT 51 #[.string t2.text, .int .i64 (fl : Int), .int .i64 (lf : Int)]) := by unfold Hid; exact E0p2.out.grown hG9 (by intro e9; cases e9; exact hOT rfl)
      have E1p3 : Hid (Blk p3 pNA 47 #[.int .i64 t2.kind, .string t2.text, .int .i64 t2.n, .int .i64 t2.pos]) := by unfold Hid; exact E1p2.out.grown hG9 (by intro e9; cases e9; exact hNA rfl)
      have Lp3 : Hid (Below B w p3) := by unfold Hid; exact Lp2.out.trans (grown_below hG9 hgH.out Pp2.out.lt)
      clear hw9 hG9
      refine hKQ.out _ _ ?_
      clear hKQ KQ
      try simp only [Act.put, List.setIfInBounds_toArray, List.set_cons_zero, List.set_cons_succ, List.getElem_toArray, List.getElem_cons_zero, List.getElem_cons_succ]
      refine Late.wpAnyK_done (by kernel_rfl) ?_ _
      go_upto_region 29 with fail
      refine Late.wp_region_late (S := fun w' => w'.cell? ⟨g, 7, none⟩ = some ((.slice Aa P.length Ca)) ∧ w'.cell? ⟨pNA, 0, none⟩ = some (.int .i64 t2.kind) ∧ w'.cell? ⟨pNA, 1, none⟩ = some (.string t2.text) ∧ w'.cell? ⟨pNA, 2, none⟩ = some (.int .i64 t2.n) ∧ w'.cell? ⟨pNA, 3, none⟩ = some (.int .i64 t2.pos)) [11] (by kernel_rfl) (⟨Pp3.out.cell 7, E1p3.out.cell 0, E1p3.out.cell 1, E1p3.out.cell 2, E1p3.out.cell 3⟩) (fun hHeld => ?_)
      refine' Late.wpAnyK_take (i := 0) (v := ?v0qp) rfl (by kernel_rfl) (by kernel_rfl) (by kernel_rfl) (by kernel_rfl) (by kernel_rfl) (fun _ _ _ h => h) (Or.inl ⟨by rfl, ?hy0qp⟩) hHeld ?rest0qp
      case hy0qp => intro w hSw; (try dsimp only at hSw); go_simp; all_goals with_reducible rfl
      try simp only [Act.put, List.setIfInBounds_toArray, List.set_cons_zero, List.set_cons_succ, List.getElem_toArray, List.getElem_cons_zero]
      refine' Late.wpAnyK_take (i := 1) (v := ?v1qp) rfl (by kernel_rfl) (by kernel_rfl) (by kernel_rfl) (by kernel_rfl) (by kernel_rfl) (fun _ _ _ h => h) (Or.inl ⟨by rfl, ?hy1qp⟩) hHeld ?rest1qp
      case hy1qp => intro w hSw; (try dsimp only at hSw); go_simp; all_goals with_reducible rfl
      try simp only [Act.put, List.setIfInBounds_toArray, List.set_cons_zero, List.set_cons_succ, List.getElem_toArray, List.getElem_cons_zero, List.getElem_cons_succ]
      refine' Late.wpAnyK_take (i := 2) (v := ?v2qp) rfl (by kernel_rfl) (by kernel_rfl) (by kernel_rfl) (by kernel_rfl) (by kernel_rfl) (fun _ _ _ h => h) (Or.inl ⟨by rfl, ?hy2qp⟩) hHeld ?rest2qp
      case hy2qp => intro w hSw; (try dsimp only at hSw); go_simp; all_goals with_reducible rfl
      try simp only [Act.put, List.setIfInBounds_toArray, List.set_cons_zero, List.set_cons_succ, List.getElem_toArray, List.getElem_cons_zero, List.getElem_cons_succ]
      refine' Late.wpAnyK_take (i := 3) (v := ?v3qp) rfl (by kernel_rfl) (by kernel_rfl) (by kernel_rfl) (by kernel_rfl) (by kernel_rfl) (fun _ _ _ h => h) (Or.inl ⟨by rfl, ?hy3qp⟩) hHeld ?rest3qp
      case hy3qp => intro w hSw; (try dsimp only at hSw); go_simp; all_goals with_reducible rfl
      try simp only [Act.put, List.setIfInBounds_toArray, List.set_cons_zero, List.set_cons_succ, List.getElem_toArray, List.getElem_cons_zero, List.getElem_cons_succ]
      refine' Late.wpAnyK_take (i := 4) (v := ?v4qp) rfl (by kernel_rfl) (by kernel_rfl) (by kernel_rfl) (by kernel_rfl) (by kernel_rfl) (fun _ _ _ h => h) (Or.inl ⟨by rfl, ?hy4qp⟩) hHeld ?rest4qp
      case hy4qp => intro w hSw; (try dsimp only at hSw); go_simp; all_goals with_reducible rfl
      try simp only [Act.put, List.setIfInBounds_toArray, List.set_cons_zero, List.set_cons_succ, List.getElem_toArray, List.getElem_cons_zero, List.getElem_cons_succ]
      refine' Late.wpAnyK_take (i := 5) (v := ?v5qp) rfl (by kernel_rfl) (by kernel_rfl) (by kernel_rfl) (by kernel_rfl) (by kernel_rfl) (fun _ _ _ h => h) (Or.inl ⟨by rfl, ?hy5qp⟩) hHeld ?rest5qp
      case hy5qp => intro w hSw; (try dsimp only at hSw); go_simp; all_goals with_reducible rfl
      try simp only [Act.put, List.setIfInBounds_toArray, List.set_cons_zero, List.set_cons_succ, List.getElem_toArray, List.getElem_cons_zero, List.getElem_cons_succ]
      refine' Late.wpAnyK_take (i := 6) (v := ?v6qp) rfl (by kernel_rfl) (by kernel_rfl) (by kernel_rfl) (by kernel_rfl) (by kernel_rfl) (fun _ _ _ h => h) (Or.inl ⟨by rfl, ?hy6qp⟩) hHeld ?rest6qp
      case hy6qp => intro w hSw; (try dsimp only at hSw); go_simp; all_goals with_reducible rfl
      try simp only [Act.put, List.setIfInBounds_toArray, List.set_cons_zero, List.set_cons_succ, List.getElem_toArray, List.getElem_cons_zero, List.getElem_cons_succ]
      refine Late.wpAnyK_ready (rs := [7]) (by kernel_rfl) (by simp) ?_
      refine Late.AllReadyK.cons rfl (fun KQ hKQ => ?_) Late.AllReadyK.nil
      go_simp
      refine world_is (P := fun W => KQ _ W) (fun q1 hw9 => ?_)
      have hB9 : Below p3.heap.size p3 q1 := by rw [← hw9]; first | exact (Below.refl _ _).alloc (Nat.le_refl _) _ | exact ((Below.refl _ _).alloc (Nat.le_refl _) _).drew | exact (Below.refl _ _).drew.alloc (Nat.le_refl _) _
      have Fq1 : Hid (Blk q1 p3.heap.size 3 #[.int .i64 t2.pos]) := by unfold Hid; rw [← hw9]; exact Blk.new _ _ _
      have Pq1 : Hid (Blk q1 g 71 #[.slice A l.length c, .int .i64 (n11 : Int), .bool b11, nm, (.slice Ap2 (st.typs.length + 1) Cp2), vr, vq, .slice Aa P.length Ca, vf, vs, vk]) := by unfold Hid; exact Pp3.out.below hB9 Pp3.out.lt
      have Rq1 : Hid (RowsA q1 B (rdRows (.slice Ap2 (st.typs.length + 1) Cp2) vr vq (.slice Aa P.length Ca) vf vs vk (st.typs ++ [⟨t2, fl, lf⟩]) [] st.quos P F S K)) := by unfold Hid; exact Rp3.out.below hB9
      have E0q1 : Hid (Blk q1 pNA 47 #[.int .i64 t2.kind, .string t2.text, .int .i64 t2.n, .int .i64 t2.pos]) := by unfold Hid; exact E1p3.out.below hB9 E1p3.out.lt
      have Lq1 : Hid (Below B w q1) := by unfold Hid; exact Lp3.out.trans (hB9.mono (Nat.le_trans hBg.out Lp3.out.size))
      clear hw9 hB9
      refine hKQ.out _ _ (⟨Pq1.out.cell 7, E0q1.out.cell 0, E0q1.out.cell 1, E0q1.out.cell 2, E0q1.out.cell 3⟩) (fun hHeld2 => ?_)
      clear hKQ KQ hHeld
      have hHeld := hHeld2
      clear hHeld2
      try simp only [Act.put, List.setIfInBounds_toArray, List.set_cons_zero, List.set_cons_succ, List.getElem_toArray, List.getElem_cons_zero, List.getElem_cons_succ]
      refine Late.wpAnyK_ready (rs := [8]) (by kernel_rfl) (by simp) ?_
      refine Late.AllReadyK.cons rfl (fun KQ hKQ => ?_) Late.AllReadyK.nil
      refine wp_gcat_own 68 3 (.int .i64 0) 1 8 Tryd.underlying68 (by kernel_rfl) rfl (by decide) (by decide) _ _ rfl B (.slice Aa P.length Ca) (P.length) (posC P) rfl (Rq1.out.own 3 _ rfl) (p3.heap.size) 1 1 [.int .i64 t2.pos] rfl rfl Fq1.out (by intro u hu; simp only [List.mem_singleton] at hu; rw [hu]; rfl) hlP.out (Nat.le_trans hBg.out Lq1.out.size) ?_
      intro vq2 q2 hrow9 hG9 hO9
      have Rq2 : Hid (RowsA q2 B (List.set (rdRows (.slice Ap2 (st.typs.length + 1) Cp2) vr vq (.slice Aa P.length Ca) vf vs vk (st.typs ++ [⟨t2, fl, lf⟩]) [] st.quos P F S K) 3 ⟨3, 1, vq2, P.length + 1, posC P ++ [.int .i64 t2.pos]⟩)) := by unfold Hid; exact Rq1.out.push (i := 3) rfl hrow9 hG9 hO9
      have Pq2 : Hid (Blk q2 g 71 #[.slice A l.length c, .int .i64 (n11 : Int), .bool b11, nm, (.slice Ap2 (st.typs.length + 1) Cp2), vr, vq, .slice Aa P.length Ca, vf, vs, vk]) := by unfold Hid; exact Pq1.out.grown hG9 (Ne.symm (Rq1.out.ne Pq1.out (by kernel_rfl) 3 _ rfl))
      have E0q2 : Hid (Blk q2 pNA 47 #[.int .i64 t2.kind, .string t2.text, .int .i64 t2.n, .int .i64 t2.pos]) := by unfold Hid; exact E0q1.out.grown hG9 (Ne.symm (Rq1.out.ne E0q1.out (by kernel_rfl) 3 _ rfl))
      have Lq2 : Hid (Below B w q2) := by unfold Hid; exact Lq1.out.grown hG9 (Nat.le_trans hBg.out Lq1.out.size) (fun j e => ((Rq1.out.own 3 _ rfl).lt j e).1)
      obtain ⟨Aq2, Cq2, hv9⟩ := Rq2.out.slice (i := 3) rfl
      dsimp only at hv9
      subst hv9
      clear hrow9 hG9 hO9
      refine hKQ.out _ _ (⟨Pq2.out.cell 7, E0q2.out.cell 0, E0q2.out.cell 1, E0q2.out.cell 2, E0q2.out.cell 3⟩) (fun hHeld2 => ?_)
      clear hKQ KQ hHeld
      have hHeld := hHeld2
      clear hHeld2
      try simp only [Act.put, List.setIfInBounds_toArray, List.set_cons_zero, List.set_cons_succ, List.getElem_toArray, List.getElem_cons_zero, List.getElem_cons_succ]
      refine' Late.wpAnyK_take (i := 9) (v := ?v9qq) rfl (by kernel_rfl) (by kernel_rfl) (by kernel_rfl) (by kernel_rfl) (by kernel_rfl) (fun _ _ _ h => h) (Or.inl ⟨by rfl, ?hy9qq⟩) hHeld ?rest9qq
      case hy9qq => intro w hSw; (try dsimp only at hSw); go_simp; all_goals with_reducible rfl
      try simp only [Act.put, List.setIfInBounds_toArray, List.set_cons_zero, List.set_cons_succ, List.getElem_toArray, List.getElem_cons_zero, List.getElem_cons_succ]
      refine' Late.wpAnyK_take (i := 10) (v := ?v10qq) rfl (by kernel_rfl) (by kernel_rfl) (by kernel_rfl) (by kernel_rfl) (by kernel_rfl) (fun _ _ _ h => h) (Or.inl ⟨by rfl, ?hy10qq⟩) hHeld ?rest10qq
      case hy10qq => intro w hSw; (try dsimp only at hSw); go_simp; all_goals with_reducible rfl
      try simp only [Act.put, List.setIfInBounds_toArray, List.set_cons_zero, List.set_cons_succ, List.getElem_toArray, List.getElem_cons_zero, List.getElem_cons_succ]
      refine Late.wpAnyK_ready (rs := [11]) (by kernel_rfl) (by simp) ?_
      refine Late.AllReadyK.late rfl (by kernel_rfl) (fun KQ hKQ => ?_)
      have c9 : q2.cell? ⟨g, 7, none⟩ = some ((.slice Aa P.length Ca)) := Pq2.out.cell 7
      have f9 := Pq2.out.frozen 7
      go_simp
      clear c9 f9
      refine world_is (P := fun W => KQ _ W) (fun q3 hw9 => ?_)
      have hG9 : q2.grownBy q3 (some g) := by rw [← hw9]; exact grown_ofSet _ _ _ _
      have Pq3 : Hid (Blk q3 g 71 #[.slice A l.length c, .int .i64 (n11 : Int), .bool b11, nm, (.slice Ap2 (st.typs.length + 1) Cp2), vr, vq, (.slice Aq2 (P.length + 1) Cq2), vf, vs, vk]) := by unfold Hid; rw [← hw9]; exact Pq2.out.set_ 7 _
      have Rq3 : Hid (RowsA q3 B (rdRows (.slice Ap2 (st.typs.length + 1) Cp2) vr vq (.slice Aq2 (P.length + 1) Cq2) vf vs vk (st.typs ++ [⟨t2, fl, lf⟩]) [] st.quos (P ++ [t2]) F S K)) := by unfold Hid; exact (Rq2.out.set Pq2.out (by kernel_rfl) hG9).cast (by simp [rdRows, typsC_snoc, posC_snoc])
      have E0q3 : Hid (Blk q3 pNA 47 #[.int .i64 t2.kind, .string t2.text, .int .i64 t2.n, .int .i64 t2.pos]) := by unfold Hid; exact E0q2.out.grown hG9 (by intro e9; cases e9; exact hNA rfl)
      have Lq3 : Hid (Below B w q3) := by unfold Hid; exact Lq2.out.trans (grown_below hG9 hgH.out Pq2.out.lt)
      clear hw9 hG9
      refine hKQ.out _ _ ?_
      clear hKQ KQ
      try simp only [Act.put, List.setIfInBounds_toArray, List.set_cons_zero, List.set_cons_succ, List.getElem_toArray, List.getElem_cons_zero, List.getElem_cons_succ]
      refine Late.wpAnyK_done (by kernel_rfl) ?_ _
      go_wp2_with fail
      go_end0
      have hfin := sk_typ (by rw [Er0.out]; exact Er1.out) Er2.out Er3.out rfl hxH.out.1 hxH.out.2 st
      refine rdPost_sk Lq3.out hfin.1 (fun e => ?_) (fun st2 e hst2 => ?_)
      · rw [e] at Pq3
        exact ⟨_, _, _, _, _, _, _, _, Pq3.out⟩
      · rw [hfin.2 e] at hst2
        cases hst2
        rw [e] at Pq3
        refine ⟨_, _, _, _, _, _, _, Pq3.out, Rq3.out.cast ?_⟩
        rw [← hFH.out, ← hSH.out, ← hKH.out, ← hPH.out, Vr2.out]
        simp
    case false =>
      have y0 := HP10.out.cell 0
      have y1 := HP10.out.cell 1
      have y2 := HP10.out.cell 2
      by_cases hlt : n9 < l.length
      case neg =>
        have d2 : decide ((l.length : Int) ≤ (n9 : Int)) = true := decide_eq_true (by omega)
        have d3 : decide (l.length ≤ n9) = true := decide_eq_true (by omega)
        have hE := Lib.hid (typ_end (fl := fl) (lf := lf) (lb := lb) K10.out (Nat.le_of_not_lt hlt))
        clear hlt W10 S9 M9 NA10 OT10 HR10 HT10
        go_wp2_with fail
        go_quiet (fail)
        go_upto_region 8 with fail
        refine world_is (P := fun W => Code.wp _ _ _ _ W) (fun w11 hW9 => ?_)
        have hB9 : Below w10.heap.size w10 w11 := by rw [← hW9]; exact ⟨rfl, rfl, rfl, Nat.le_refl _, fun _ _ => rfl⟩
        have HP11 := Lib.hid (HP10.out.below hB9 HP10.out.lt)
        have L11 := Lib.hid (L10.out.trans (hB9.mono (Nat.le_trans hBg.out L10.out.size)))
        clear hW9 hB9 y0 y1 y2
        have z2 := HP11.out.cell 2
        have f2 := HP11.out.frozen 2
        go_wp2_with fail
        go_end0
        have hk9 : Sk l n9 true (typFrom r3 0 0 false) := by rw [T9.out, hE.out]; exact sk_bad hn9
        exact rdPost_sk (L11.out.setCell (p := ⟨g, 2, none⟩) hgH.out _) (sk_typ (fl := 0) (lf := 0) (by rw [Er0.out]; exact Er1.out) Er2.out Er3.out rfl hk9 (fun e => by cases e) st).1 (fun _ => ⟨_, _, _, _, _, _, _, _, HP11.out.set_ 2 _⟩) (fun _ e => by cases e)
      case pos =>
      have d2 : decide ((l.length : Int) ≤ (n9 : Int)) = false := decide_eq_false (by omega)
      have d3 : decide (l.length ≤ n9) = false := decide_eq_false (by omega)
      obtain ⟨T, hTn⟩ : ∃ T, l[n9]? = some T := ⟨_, List.getElem?_eq_getElem hlt⟩
      obtain ⟨tb, to9, rfl, htb, k0, k1, k2, k3⟩ := HT10.out.at_ n9 T hTn
      have hcH := Lib.hid (isB_false hzH.out T hTn)
      have hTnH := Lib.hid hTn
      have hltH := Lib.hid hlt
      have KH := Lib.hid K10.out
      have q0 : (0 : Int) ≤ (n9 : Int) := by omega
      have q1 : (n9 : Int) < (l.length : Int) := by omega
      clear hTn hlt htb k0 k2 k3 K10
      go_wp2_with fail
      go_quiet (fail)
      go_upto_region 9 with fail
      go_quiet (fail)
      go_upto_region 10 with fail
      refine world_is (P := fun W => Code.wp _ _ _ _ W) (fun w11 hW9 => ?_)
      have hB9 : Below w10.heap.size w10 w11 := by rw [← hW9]; exact ⟨rfl, rfl, rfl, Nat.le_refl _, fun _ _ => rfl⟩
      clear hW9
      have L11 := Lib.hid (L10.out.trans (hB9.mono (Nat.le_trans hBg.out L10.out.size)))
      have HP11 := Lib.hid (HP10.out.below hB9 HP10.out.lt)
      have HR11 := Lib.hid (HR10.out.below hB9)
      have HT11 := Lib.hid (HT10.out.below (hB9.mono (Nat.le_trans hBg.out L10.out.size)))
      have NA11 := Lib.hid (NA10.out.below hB9 NA10.out.lt)
      have OT11 := Lib.hid (OT10.out.below hB9 OT10.out.lt)
      have W11 := Lib.hid (W10.out.kept (grown_ofBelow hB9 none) (by cases u5.ownBlock with | none => exact .inl rfl | some c => exact .inr (fun e => by cases e)))
      clear L10 HP10 HR10 HT10 NA10 OT10 W10 hB9
      clear y0 y1 y2 k1
      go_wp2_with fail
      refine (rFlags_any w11).mono ?_
      rintro e w12 ⟨fb, rfl, hfb, hB12⟩
      have FB := Lib.hid hfb
      clear hfb
      have L12 := Lib.hid (L11.out.trans (hB12.mono (Nat.le_trans hBg.out L11.out.size)))
      have HP12 := Lib.hid (HP11.out.below hB12 HP11.out.lt)
      have HR12 := Lib.hid (HR11.out.below hB12)
      have HT12 := Lib.hid (HT11.out.below (hB12.mono (Nat.le_trans hBg.out L11.out.size)))
      have NA12 := Lib.hid (NA11.out.below hB12 NA11.out.lt)
      have OT12 := Lib.hid (OT11.out.below hB12 OT11.out.lt)
      have W12 := Lib.hid (W11.out.kept (grown_ofBelow hB12 none) (by cases u5.ownBlock with | none => exact .inl rfl | some c => exact .inr (fun e => by cases e)))
      clear L11 HP11 HR11 HT11 NA11 OT11 W11 hB12
      go_wp2_with fail
      refine (rfind_any w12 fb 0 7 flagWords T.text (by decide) (blk_words FB.out)).mono ?_
      rintro e w13 ⟨rfl, hww⟩
      rw [hww]
      clear hww w13 FB
      obtain ⟨f, hf⟩ : ∃ f, findW flagWords T.text = f := ⟨_, rfl⟩
      have FH := Lib.hid hf
      clear d2 d3 q0 q1
      by_cases hf7 : f < 7
      case neg =>
        have hI : findI flagWords T.text = -1 := by unfold findI; rw [hf]; exact if_neg hf7
        rw [hI]
        clear hI hf
        have hf7H := Lib.hid hf7
        clear hf7
        cases hL : isText wLife T
        case false =>
          have hL1 : (T.text.toList == [108, 105, 102, 101]) = false := by rw [← life_list]; exact hL
          have hL2 : ¬ T.text.toList = [108, 105, 102, 101] := beq_eq_false_iff_ne.1 hL1
          have hLH := Lib.hid hL
          clear hL
          have hE := Lib.hid (typ_stop (fl := fl) (lf := lf) (lb := lb) KH.out hTnH.out hcH.out (by rw [hLH.out]; rfl) (Or.inl (by rw [FH.out]; exact hf7H.out)))
          have z2 := HP12.out.cell 2
          have f2 := HP12.out.frozen 2
          clear W12 S9 M9 NA12 OT12 HR12 HT12
          go_wp2_with fail
          go_end0
          have hk9 : Sk l n9 true (typFrom r3 0 0 false) := by rw [T9.out, hE.out]; exact sk_bad hn9
          exact rdPost_sk (L12.out.setCell (p := ⟨g, 2, none⟩) hgH.out _) (sk_typ (fl := 0) (lf := 0) (by rw [Er0.out]; exact Er1.out) Er2.out Er3.out rfl hk9 (fun e => by cases e) st).1 (fun _ => ⟨_, _, _, _, _, _, _, _, HP12.out.set_ 2 _⟩) (fun _ e => by cases e)
        case true =>
          have hL1 : (T.text.toList == [108, 105, 102, 101]) = true := by rw [← life_list]; exact hL
          have hL2 : T.text.toList = [108, 105, 102, 101] := beq_iff_eq.1 hL1
          have hLH := Lib.hid hL
          clear hL
          cases lb
          case true =>
            have hE := Lib.hid (typ_stop (fl := fl) (lf := lf) (lb := true) KH.out hTnH.out hcH.out (by rw [hLH.out]; rfl) (Or.inl (by rw [FH.out]; exact hf7H.out)))
            have z2 := HP12.out.cell 2
            have f2 := HP12.out.frozen 2
            clear W12 S9 M9 NA12 OT12 HR12 HT12
            go_wp2_with fail
            go_end0
            have hk9 : Sk l n9 true (typFrom r3 0 0 false) := by rw [T9.out, hE.out]; exact sk_bad hn9
            exact rdPost_sk (L12.out.setCell (p := ⟨g, 2, none⟩) hgH.out _) (sk_typ (fl := 0) (lf := 0) (by rw [Er0.out]; exact Er1.out) Er2.out Er3.out rfl hk9 (fun e => by cases e) st).1 (fun _ => ⟨_, _, _, _, _, _, _, _, HP12.out.set_ 2 _⟩) (fun _ e => by cases e)
          case false =>
            go_wp2_with fail
            refine (rsign_any w12 g B n9 false ⟨#[108, 105, 102, 101]⟩ _ nm vt vr vq va vf vs vk l rH HP12.out HT12.out KH.out hl2).mono ?_
            rintro e w13 ⟨rfl, n13, b13, hk13, hb13, hG13⟩
            obtain ⟨q1, hr9⟩ : ∃ r, thenTake rH (isText ⟨#[108, 105, 102, 101]⟩) = r := ⟨_, rfl⟩
            have N13 := Lib.hid (Sk.next KH.out hk13)
            rw [hr9] at hk13
            have Eq1 := Lib.hid hr9
            clear hr9
            have K13 := Lib.hid hk13
            have L13 : Hid (Below B w w13) := L12.out.trans (grown_below hG13 hgH.out HP12.out.lt)
            have HR13 := Lib.hid (HR12.out.set HP12.out (by kernel_rfl) hG13)
            have HP13 := Lib.hid hb13
            have HT13 := Lib.hid (HT12.out.below (grown_below hG13 hgH.out HP12.out.lt))
            have NA13 := Lib.hid (NA12.out.grown hG13 (fun e => hNA (by cases e; rfl)))
            have OT13 := Lib.hid (OT12.out.grown hG13 (fun e => hOT (by cases e; rfl)))
            have W13 := Lib.hid (W12.out.kept hG13 (.inr (own_blk_ne W12.out HP12.out (by decide))))
            clear hk13 hb13 hG13 L12 HP12 HR12 HT12 NA12 OT12 W12
            go_wp2_with fail
            refine (rtoken_any w13 g B n13 2 b13 isNumT (fun _ => rfl) _ nm vt vr vq va vf vs vk l q1 HP13.out HT13.out K13.out hgH.out hl2).mono ?_
            rintro e w14 ⟨rfl, n14, b14, hk14, hb14, hG14⟩
            obtain ⟨q2, hr9⟩ : ∃ r, thenTake q1 isNumT = r := ⟨_, rfl⟩
            have N14 := Lib.hid (Sk.next K13.out hk14)
            rw [hr9] at hk14 ⊢
            have Eq2 := Lib.hid hr9
            clear hr9
            have K14 := Lib.hid hk14
            have L14 : Hid (Below B w w14) := L13.out.trans (grown_below hG14 hgH.out HP13.out.lt)
            have HR14 := Lib.hid (HR13.out.set HP13.out (by kernel_rfl) hG14)
            have HP14 := Lib.hid hb14
            have HT14 := Lib.hid (HT13.out.below (grown_below hG14 hgH.out HP13.out.lt))
            have NA14 := Lib.hid (NA13.out.grown hG14 (fun e => hNA (by cases e; rfl)))
            have OT14 := Lib.hid (OT13.out.grown hG14 (fun e => hOT (by cases e; rfl)))
            have W14 := Lib.hid (W13.out.kept hG14 (.inr (own_blk_ne W13.out HP13.out (by decide))))
            clear hk14 hb14 hG14 L13 HP13 HR13 HT13 NA13 OT13 W13
            obtain ⟨t9, ht9⟩ : ∃ t, tokV q2 = t := ⟨_, rfl⟩
            rw [ht9]
            have Vq2 := Lib.hid ht9
            clear ht9
            unfold tokAgg
            have hfld := tok_n t9.kind t9.text t9.n t9.pos
            have o2 := OT14.out.cell 2
            have of2 := OT14.out.frozen 2
            go_upto_region 15 with fail
            refine world_is (P := fun W => Code.wp _ _ _ _ W) (fun w15 hW9 => ?_)
            have hG9 : w14.grownBy w15 (some pOT) := by rw [← hW9]; exact grown_ofSet _ _ _ _
            have OT15 : Hid (Blk w15 pOT 51 #[.string t2.text, .int .i64 (fl : Int), .int .i64 (t9.n : Int)]) := by unfold Hid; rw [← hW9]; exact OT14.out.set_ 2 _
            have HP15 := Lib.hid (HP14.out.grown hG9 (fun e => hOT (by cases e; rfl)))
            have HR15 := Lib.hid (HR14.out.other aOT.out hG9)
            have HT15 := Lib.hid (HT14.out.below (grown_below hG9 BOT.out OT14.out.lt))
            have L15 := Lib.hid (L14.out.trans (grown_below hG9 BOT.out OT14.out.lt))
            have NA15 := Lib.hid (NA14.out.grown hG9 (fun e => hNAOT (by cases e; rfl)))
            have W15 := Lib.hid (W14.out.kept hG9 (.inr (own_blk_ne W14.out OT14.out (by decide))))
            clear hW9 hG9 hfld o2 of2 OT14 HP14 HR14 HT14 L14 NA14 W14
            go_wp2_with fail
            refine (rsign_any w15 g B n14 b14 ⟨#[59]⟩ _ nm vt vr vq va vf vs vk l q2 HP15.out HT15.out K14.out hl2).mono ?_
            rintro e w16 ⟨rfl, n16, b16, hk16, hb16, hG16⟩
            obtain ⟨q3, hr9⟩ : ∃ r, thenTake q2 (isText ⟨#[59]⟩) = r := ⟨_, rfl⟩
            have N16 := Lib.hid (Sk.next K14.out hk16)
            rw [hr9] at hk16
            have Eq3 := Lib.hid hr9
            clear hr9
            have K16 := Lib.hid hk16
            have L16 : Hid (Below B w w16) := L15.out.trans (grown_below hG16 hgH.out HP15.out.lt)
            have HR16 := Lib.hid (HR15.out.set HP15.out (by kernel_rfl) hG16)
            have HP16 := Lib.hid hb16
            have HT16 := Lib.hid (HT15.out.below (grown_below hG16 hgH.out HP15.out.lt))
            have NA16 := Lib.hid (NA15.out.grown hG16 (fun e => hNA (by cases e; rfl)))
            have OT16 := Lib.hid (OT15.out.grown hG16 (fun e => hOT (by cases e; rfl)))
            have W16 := Lib.hid (W15.out.kept hG16 (.inr (own_blk_ne W15.out HP15.out (by decide))))
            clear hk16 hb16 hG16 L15 HP15 HR15 HT15 NA15 OT15 W15
            go_wp2_with fail
            go_roundw
            case rel => exact ⟨n16, b16, fl, t9.n, true, seen, q3, rfl, by have := N13.out.1; have := N14.out.1; have := N16.out.1; omega, K16.out.1, K16.out, by unfold Hid; rw [T9.out, ← Vq2.out]; exact typ_life KH.out hTnH.out hcH.out hLH.out rfl Eq1.out Eq2.out Eq3.out, S9.out, HP16.out, HR16.out, NA16.out, OT16.out, L16.out, W16.out⟩
            case measure =>
              rw [rdMeas_is (l := l) HP16.out, M9.out]
              have i1 := N13.out.1
              have i2 := N14.out.1
              have i3 := N16.out.2
              have i4 := N16.out.1
              have i5 := hltH.out
              cases b16
              · have i6 := i3 rfl
                show 2 * (l.length - n16) + 1 < 2 * (l.length - n9) + 1
                omega
              · show 2 * (l.length - n16) + 0 < 2 * (l.length - n9) + 1
                omega
      case pos =>
        have hI : findI flagWords T.text = (f : Int) := by unfold findI; rw [hf]; exact if_pos hf7
        rw [hI]
        clear hI
        have hL : isText wLife T = false := by
          cases e : isText wLife T with
          | false => rfl
          | true => exact absurd (by rw [hf]; exact hf7) (flag_life_no e)
        clear hf
        have hL1 : (T.text.toList == [108, 105, 102, 101]) = false := by rw [← life_list]; exact hL
        have hL2 : ¬ T.text.toList = [108, 105, 102, 101] := beq_eq_false_iff_ne.1 hL1
        have hLH := Lib.hid hL
        clear hL
        have q2 : (0 : Int) ≤ (f : Int) := by omega
        have d4 : decide ((f : Int) < 0) = false := decide_eq_false (by omega)
        have d4' : ¬ (f : Int) < 0 := by omega
        have q3 : (f : Int) < 7 := by omega
        go_wp2_with fail
        refine (rfind_own w12 B u5 seen T.text (by omega) W12.out).mono ?_
        rintro e w13 ⟨rfl, hww⟩
        rw [hww]
        clear hww w13
        have hz0 : decide (0 ≤ findI seen T.text) = fl.testBit f := by rw [findI_neg]; exact S9.out.2 f T.text (flag_at' FH.out hf7)
        obtain ⟨zf, hzf⟩ : ∃ z, findI seen T.text = z := ⟨_, rfl⟩
        rw [hzf] at hz0 ⊢
        clear hzf
        cases hbit : fl.testBit f
        case true =>
          rw [hbit] at hz0
          have hz1 : 0 ≤ zf := of_decide_eq_true hz0
          have hbH := Lib.hid hbit
          clear hbit
          have hE := Lib.hid (typ_stop (fl := fl) (lf := lf) (lb := lb) KH.out hTnH.out hcH.out (by rw [hLH.out]; rfl) (Or.inr (by rw [FH.out]; exact hbH.out)))
          have z2 := HP12.out.cell 2
          have f2 := HP12.out.frozen 2
          clear W12 S9 M9 NA12 OT12 HR12 HT12
          go_wp2_with fail
          go_end0
          have hk9 : Sk l n9 true (typFrom r3 0 0 false) := by rw [T9.out, hE.out]; exact sk_bad hn9
          exact rdPost_sk (L12.out.setCell (p := ⟨g, 2, none⟩) hgH.out _) (sk_typ (fl := 0) (lf := 0) (by rw [Er0.out]; exact Er1.out) Er2.out Er3.out rfl hk9 (fun e => by cases e) st).1 (fun _ => ⟨_, _, _, _, _, _, _, _, HP12.out.set_ 2 _⟩) (fun _ e => by cases e)
        case false =>
          rw [hbit] at hz0
          have hz1 : ¬ 0 ≤ zf := of_decide_eq_false hz0
          have hbH := Lib.hid hbit
          clear hbit
          have ho : ∀ u ∈ (#[Value.string T.text] : Array Value).toList, u.oneCell' = true := by intro u hu; simp only [List.mem_singleton] at hu; rw [hu]; rfl
          have hlS : Hid (seen.length + 1 ≤ 1000000) := by unfold Hid; omega
          go_upto_region 19 with (refine wp_gpush_list 75 9 (.string ⟨#[]⟩) 1 16 Tryd.underlying75 (by kernel_rfl) rfl (by decide) (by decide) rfl _ _ rfl B u5 seen.length (seen.map Value.string) rfl W12.out 1 1 #[.string T.text] rfl rfl ho hlS.out (Nat.le_trans hBg.out L12.out.size) ?_; intro v13 w13 hP13)
          have hG9 := hP13.grown
          have L13 := Lib.hid (hP13.bel B w (Nat.le_refl _) (Nat.le_trans hBg.out L12.out.size) L12.out)
          have hB13 := hP13.bel B w12 (Nat.le_refl _) (Nat.le_trans hBg.out L12.out.size) (Below.refl _ _)
          have HP13 := Lib.hid (HP12.out.grown hG9 (Ne.symm (own_blk_ne W12.out HP12.out (by decide))))
          have HR13 := Lib.hid (HR12.out.kept hG9 (HR12.out.apartOwn W12.out (by kernel_rfl)))
          have HT13 := Lib.hid (HT12.out.below hB13)
          have NA13 := Lib.hid (NA12.out.grown hG9 (Ne.symm (own_blk_ne W12.out NA12.out (by decide))))
          have OT13 := Lib.hid (OT12.out.grown hG9 (Ne.symm (own_blk_ne W12.out OT12.out (by decide))))
          have W13 := Lib.hid hP13.row
          clear hG9 hB13 hP13 ho L12 HP12 HR12 HT12 NA12 OT12 W12
          go_wp2_with fail
          refine (rsign_any w13 g B n9 false T.text _ nm vt vr vq va vf vs vk l rH HP13.out HT13.out KH.out hl2).mono ?_
          rintro e w14 ⟨rfl, n14, b14, hk14, hb14, hG14⟩
          obtain ⟨q1, hr9⟩ : ∃ r, thenTake rH (isText T.text) = r := ⟨_, rfl⟩
          have M14 := Lib.hid (Sk.eq (KH.out.yes (p := isText T.text) hTnH.out (text_eq_iff.2 rfl)).1 hk14).1
          have N14 := Lib.hid (Sk.next KH.out hk14)
          rw [hr9] at hk14
          have Eq1 := Lib.hid hr9
          clear hr9
          have K14 := Lib.hid hk14
          have L14 : Hid (Below B w w14) := L13.out.trans (grown_below hG14 hgH.out HP13.out.lt)
          have HR14 := Lib.hid (HR13.out.set HP13.out (by kernel_rfl) hG14)
          have HP14 := Lib.hid hb14
          have HT14 := Lib.hid (HT13.out.below (grown_below hG14 hgH.out HP13.out.lt))
          have NA14 := Lib.hid (NA13.out.grown hG14 (fun e => hNA (by cases e; rfl)))
          have OT14 := Lib.hid (OT13.out.grown hG14 (fun e => hOT (by cases e; rfl)))
          have W14 := Lib.hid (W13.out.kept hG14 (.inr (own_blk_ne W13.out HP13.out (by decide))))
          clear hk14 hb14 hG14 L13 HP13 HR13 HT13 NA13 OT13 W13
          go_wp2_with fail
          refine (rsign_any w14 g B n14 b14 ⟨#[59]⟩ _ nm vt vr vq va vf vs vk l q1 HP14.out HT14.out K14.out hl2).mono ?_
          rintro e w15 ⟨rfl, n15, b15, hk15, hb15, hG15⟩
          obtain ⟨q2, hr9⟩ : ∃ r, thenTake q1 (isText ⟨#[59]⟩) = r := ⟨_, rfl⟩
          have N15 := Lib.hid (Sk.next K14.out hk15)
          rw [hr9] at hk15
          have Eq2 := Lib.hid hr9
          clear hr9
          have K15 := Lib.hid hk15
          have L15 : Hid (Below B w w15) := L14.out.trans (grown_below hG15 hgH.out HP14.out.lt)
          have HR15 := Lib.hid (HR14.out.set HP14.out (by kernel_rfl) hG15)
          have HP15 := Lib.hid hb15
          have HT15 := Lib.hid (HT14.out.below (grown_below hG15 hgH.out HP14.out.lt))
          have NA15 := Lib.hid (NA14.out.grown hG15 (fun e => hNA (by cases e; rfl)))
          have OT15 := Lib.hid (OT14.out.grown hG15 (fun e => hOT (by cases e; rfl)))
          have W15 := Lib.hid (W14.out.kept hG15 (.inr (own_blk_ne W14.out HP14.out (by decide))))
          clear hk15 hb15 hG15 L14 HP14 HR14 HT14 NA14 OT14 W14
          go_wp2_with fail
          go_loopw [8, 9] (fun v8 v9 wr => ∃ i p : Nat, v8 = .int .i64 (p : Int) ∧ v9 = .int .i64 (i : Int) ∧ i ≤ f ∧ Hid (p = 2 ^ i) ∧ wr = w15) (fun _ v9 _ => f - (intOf v9).toNat)
          case atStart => exact ⟨0, 1, rfl, rfl, Nat.zero_le _, rfl, rfl⟩
          case round =>
          obtain ⟨i, p, rfl, rfl, hi, hp, hwr⟩ := hrel
          rw [hwr]
          clear hwr
          have hp64 : p ≤ 64 := by rw [hp.out]; exact Nat.pow_le_pow_right (n := 2) (by decide) (show i ≤ 6 by omega)
          have q5 : (0 : Int) ≤ (p : Int) := by omega
          have q6 : (p : Int) ≤ 64 := by omega
          by_cases hif : i < f
          · have d5 : decide (i < f) = true := decide_eq_true hif
            have d6 : decide ((i : Int) < (f : Int)) = true := decide_eq_true (by omega)
            have q7 : (0 : Int) ≤ (i : Int) := by omega
            have q8 : (i : Int) ≤ 7 := by omega
            go_wp2_with fail
            go_roundw
            case rel => exact ⟨i + 1, 2 * p, by go_num, by go_num, hif, by unfold Hid; rw [hp.out, Nat.pow_succ, Nat.mul_comm], trivial⟩
            case measure => simp [intOf]; omega
          · have d5 : decide (i < f) = false := decide_eq_false hif
            have d6 : decide ((i : Int) < (f : Int)) = false := decide_eq_false (by omega)
            have hpf : Hid (p = 2 ^ f) := by unfold Hid; rw [hp.out, show i = f by omega]
            have o1 := OT15.out.cell 1
            have of1 := OT15.out.frozen 1
            have h128 := S9.out.1
            have q7 : (0 : Int) ≤ (fl : Int) := by omega
            have q8 : (fl : Int) < 128 := by omega
            have h128H := Lib.hid h128
            clear h128
            go_wp2_with fail
            go_roundw
            case rel =>
              have hne : some g ≠ some pOT := fun e => hOT (by cases e; rfl)
              refine ⟨n15, b15, fl + 2 ^ f, lf, lb, seen ++ [T.text], q2, rfl, ?_, K15.out.1, K15.out, ?_, S9.out.snoc (flag_at' FH.out hf7) hbH.out, Lib.hid (HP15.out.grown (grown_ofSet _ _ _ _) hne), Lib.hid (HR15.out.other aOT.out (grown_ofSet _ _ _ _)), Lib.hid (NA15.out.grown (grown_ofSet _ _ _ _) (fun e => hNAOT (by cases e; rfl))), ?_, Lib.hid (L15.out.trans (grown_below (grown_ofSet _ _ _ _) BOT.out OT15.out.lt)), ?_⟩
              · have i1 := M14.out
                have i2 := N15.out.1
                rw [List.length_append, List.length_singleton]
                omega
              · have h := typ_flag (fl := fl) (lf := lf) (lb := lb) KH.out hTnH.out hcH.out (by rw [hLH.out]; rfl) (by rw [FH.out]; exact hf7) (by rw [FH.out]; exact hbH.out) Eq1.out Eq2.out
                rw [FH.out] at h
                unfold Hid
                rw [T9.out, h]
              · unfold Hid
                rw [show ((fl + 2 ^ f : Nat) : Int) = (fl : Int) + (p : Int) by rw [← hpf.out]; omega]
                exact OT15.out.set_ 1 _
              · exact Lib.hid (own_cast (W15.out.kept (grown_ofSet _ _ _ _) (.inr (own_blk_ne W15.out OT15.out (by decide)))) (by simp) (by simp))
            case measure =>
              rw [rdMeas_is (l := l) (HP15.out.grown (grown_ofSet w15 pOT 1 _) (fun e => hOT (by cases e; rfl))), M9.out]
              have i1 := M14.out
              have i3 := N15.out.2
              have i4 := N15.out.1
              have i5 := hltH.out
              cases b15
              · have i6 := i3 rfl
                show 2 * (l.length - n15) + 1 < 2 * (l.length - n9) + 1
                omega
              · show 2 * (l.length - n15) + 0 < 2 * (l.length - n9) + 1
                omega
end Go.Proofs.YtemhiiignamkjaaDoor
