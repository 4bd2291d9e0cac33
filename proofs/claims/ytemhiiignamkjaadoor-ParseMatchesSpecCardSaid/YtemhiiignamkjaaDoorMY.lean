/-
  Layer 12 (parse), the specification's reader: a rule.
  Layer 12 (parse), the specification's reader: a quorum in plain words.
  Layer 12 (parse), the specification's reader: a quorum.
-/
import Derived.Test.YtemhiiignamkjaaDoorMX
import Derived.Test.YtemhiiignamkjaaDoorParW4
namespace Go.Proofs.YtemhiiignamkjaaDoor
open Go.RowKit LexP ParP
attribute [local go_sem] Oper.semAt_some

/-- The five steps of a rule, as rdRul says them. -/
theorem sk_rul {l : List Tok} {n n6 k : Nat} {b6 : Bool} {u : ByteArray} {t : Tok} {r1 r2 r3 r4 r5 : Rd Tok} (ht : l[n]? = some t) (hu : isText u t = true) (h1 : thenTake (Rd.ok (l.drop n) ()) (isText u) = r1)
    (h2 : thenTake r1 isWordT = r2) (h3 : thenTake r2 (isText ⟨#[45, 62]⟩) = r3) (h4 : thenTake r3 isWordT = r4) (h5 : thenTake r4 (isText ⟨#[59]⟩) = r5) (hk : Sk l n6 b6 r5) (st : St) :
    Sk l n6 b6 ((rdRul k (l.drop (n + 1))).bind fun r x => .ok r { st with ruls := st.ruls ++ [x] }) ∧
    (b6 = false → (rdRul k (l.drop (n + 1))).bind (fun r x => .ok r { st with ruls := st.ruls ++ [x] }) = .ok (l.drop n6) { st with ruls := st.ruls ++ [⟨k, tokV r2, tokV r4⟩] }) := by
  have e1 : r1 = .ok (l.drop (n + 1)) t := by rw [← h1]; exact take_drop_yes ht hu
  subst e1
  unfold rdRul expect wArrow wSemi
  have e2 : word (l.drop (n + 1)) = r2 := h2
  rw [e2]
  cases r2 with
  | bad m =>
    subst h3 h4 h5
    refine ⟨hk.of (fun m x e => by cases e) (fun m e => by cases e; rfl), fun e => ?_⟩
    subst e
    obtain ⟨x, hx⟩ := hk.isOk
    cases hx
  | ok m2 a =>
    simp only [Rd.bind]
    have e3 : take (isText ⟨#[45, 62]⟩) m2 = r3 := h3
    rw [e3]
    cases r3 with
    | bad m =>
      subst h4 h5
      refine ⟨hk.of (fun m x e => by cases e) (fun m e => by cases e; rfl), fun e => ?_⟩
      subst e
      obtain ⟨x, hx⟩ := hk.isOk
      cases hx
    | ok m3 c =>
      simp only []
      have e4 : word m3 = r4 := h4
      rw [e4]
      cases r4 with
      | bad m =>
        subst h5
        refine ⟨hk.of (fun m x e => by cases e) (fun m e => by cases e; rfl), fun e => ?_⟩
        subst e
        obtain ⟨x, hx⟩ := hk.isOk
        cases hx
      | ok m4 b =>
        simp only []
        have e5 : take (isText ⟨#[59]⟩) m4 = r5 := h5
        rw [e5]
        cases r5 with
        | bad m =>
          refine ⟨hk.of (fun m x e => by cases e) (fun m e => by cases e; rfl), fun e => ?_⟩
          subst e
          obtain ⟨x, hx⟩ := hk.isOk
          cases hx
        | ok m5 d =>
          refine ⟨hk.of (fun m x e => by cases e; exact ⟨_, rfl⟩) (fun m e => by cases e), fun e => ?_⟩
          subst e
          obtain ⟨x, hx⟩ := hk.isOk
          cases hx
          rfl
set_option maxRecDepth 100000 in
set_option maxHeartbeats 12800000 in
theorem rrule_any {w : World} {B g n k : Nat} {tv nm : Value} {st : St} {l : List Tok} {t : Tok} {u : ByteArray} (hP : RdIs w B g n false tv nm st) (hT : TkAt w B tv l) (hg : B ≤ g) (hl : l.length ≤ 5000) (hst : st.ruls.length ≤ 5000)
    (hk : k < 5) (hu : ruleWords[k]? = some u) (ht : l[n]? = some t) (htu : isText u t = true) :
    Calls Tryd.prog 32 #[.pointer (some ⟨g, 0, none⟩), .int .i64 (k : Int)] w (RdPost w B g tv nm l ((rdRul (k + 1) (l.drop (n + 1))).bind fun r x => .ok r { st with ruls := st.ruls ++ [x] })) := by
  obtain ⟨vt, vr, vq, va, vf, vs, vk, hP, hR⟩ := hP
  obtain ⟨F, hF⟩ : ∃ F, st.ruls.map PRul.a = F := ⟨_, rfl⟩
  obtain ⟨S, hS⟩ : ∃ F, st.ruls.map PRul.b = F := ⟨_, rfl⟩
  obtain ⟨K, hK⟩ : ∃ F, st.ruls.map PRul.kind = F := ⟨_, rfl⟩
  obtain ⟨P, hPP⟩ : ∃ F, st.typs.map PTyp.name = F := ⟨_, rfl⟩
  rw [hF, hS, hK, hPP] at hR
  have hlF : Hid (F.length + 1 ≤ 1000000) := by unfold Hid; rw [← hF, List.length_map]; omega
  have hlS : Hid (S.length + 1 ≤ 1000000) := by unfold Hid; rw [← hS, List.length_map]; omega
  have hlK : Hid (K.length + 1 ≤ 1000000) := by unfold Hid; rw [← hK, List.length_map]; omega
  have hFH := Lib.hid hF
  have hSH := Lib.hid hS
  have hKH := Lib.hid hK
  have hPH := Lib.hid hPP
  clear hF hS hK hPP
  have hgl := hP.lt
  have hnl : n ≤ l.length := Nat.le_of_lt (List.getElem?_eq_some_iff.1 ht).1
  have hl2 : l.length ≤ 1048576 := Nat.le_trans hl (by decide)
  have hBg : Hid (B ≤ w.heap.size) := Nat.le_trans hg (Nat.le_of_lt hgl)
  have HP := Lib.hid hP
  have HR := Lib.hid hR
  have HT := Lib.hid hT
  have htH := Lib.hid ht
  have htuH := Lib.hid htu
  have huH := Lib.hid hu
  have hgH := Lib.hid hg
  have q0 : (0 : Int) ≤ (k : Int) := by omega
  have q1 : (k : Int) < 5 := by omega
  clear hP hT hst hR ht htu hu hg
  go_enter Tryd.func32, Tryd.ntmps32
  go_wp2_with fail
  refine (rRules_any w).mono ?_
  rintro e w1 ⟨b, rfl, hb, hB1⟩
  have k0 := blk_words hb k u huH.out
  rw [Nat.zero_add] at k0
  have L1 : Hid (Below B w w1) := hB1.mono hBg.out
  have HP1 := Lib.hid (HP.out.below hB1 hgl)
  have HR1 := Lib.hid (HR.out.below hB1)
  have HT1 := Lib.hid (HT.out.below L1.out)
  clear hb hB1 HP HR HT
  go_wp2_with fail
  refine (rsign_any w1 g B n false u tv nm vt vr vq va vf vs vk l (Rd.ok (l.drop n) ()) HP1.out HT1.out (Sk.start hnl ()) hl2).mono ?_
  rintro e w2 ⟨rfl, n2, b2, hk2, hb2, hG2⟩
  clear k0
  obtain ⟨r1, hr1⟩ : ∃ r, thenTake (Rd.ok (l.drop n) ()) (isText u) = r := ⟨_, rfl⟩
  rw [hr1] at hk2
  have E1 := Lib.hid hr1
  have K2 := Lib.hid hk2
  have L2 : Hid (Below B w w2) := L1.out.trans (grown_below hG2 hgH.out HP1.out.lt)
  have HR2 := Lib.hid (HR1.out.set HP1.out (by kernel_rfl) hG2)
  have HP2 := Lib.hid hb2
  have HT2 := Lib.hid (HT1.out.below (grown_below hG2 hgH.out HP1.out.lt))
  clear hr1 hk2 hb2 hG2 HP1 HR1 HT1 L1
  go_wp2_with fail
  refine (rtoken_any w2 g B n2 1 b2 isWordT (fun _ => rfl) tv nm vt vr vq va vf vs vk l r1 HP2.out HT2.out K2.out hgH.out hl2).mono ?_
  rintro e w3 ⟨rfl, n3, b3, hk3, hb3, hG3⟩
  obtain ⟨r2, hr2⟩ : ∃ r, thenTake r1 isWordT = r := ⟨_, rfl⟩
  rw [hr2] at hk3 ⊢
  have E2 := Lib.hid hr2
  have K3 := Lib.hid hk3
  have M3 : Hid (Below B w w3) := L2.out.trans (grown_below hG3 hgH.out HP2.out.lt)
  have XR3 := Lib.hid (HR2.out.set HP2.out (by kernel_rfl) hG3)
  have XP3 := Lib.hid hb3
  have XT3 := Lib.hid (HT2.out.below (grown_below hG3 hgH.out HP2.out.lt))
  clear hr2 hk3 hb3 hG3 HP2 HR2 HT2 L2 
  obtain ⟨t2, ht2⟩ : ∃ t, tokV r2 = t := ⟨_, rfl⟩
  rw [ht2]
  have V2 := Lib.hid ht2
  clear ht2
  unfold tokAgg
  go_upto_region 2 with fail
  refine world_is (P := fun W => Code.wp _ _ _ _ W) (fun W3 hW9 => ?_)
  have hB9 : Below w3.heap.size w3 W3 := by rw [← hW9]; exact (Below.refl _ _).alloc (Nat.le_refl _) _
  have NA : Hid (Blk W3 w3.heap.size 47 #[.int .i64 t2.kind, .string t2.text, .int .i64 t2.n, .int .i64 t2.pos]) := by unfold Hid; rw [← hW9]; exact Blk.new _ _ _
  have L3 : Hid (Below B w W3) := M3.out.trans (hB9.mono (Nat.le_trans hBg.out M3.out.size))
  have HP3 := Lib.hid (XP3.out.below hB9 XP3.out.lt)
  have HR3 := Lib.hid (XR3.out.below hB9)
  have HT3 := Lib.hid (XT3.out.below (hB9.mono (Nat.le_trans hBg.out M3.out.size)))
  have hNA : w3.heap.size ≠ g := Nat.ne_of_gt XP3.out.lt
  obtain ⟨a2, ea2⟩ : ∃ a, w3.heap.size = a := ⟨_, rfl⟩
  rw [ea2] at NA hNA ⊢
  clear hW9 hB9 XP3 XR3 XT3 M3 ea2 
  go_wp2_with fail
  refine (rsign_any W3 g B n3 b3 ⟨#[45, 62]⟩ tv nm vt vr vq va vf vs vk l r2 HP3.out HT3.out K3.out hl2).mono ?_
  rintro e w4 ⟨rfl, n4, b4, hk4, hb4, hG4⟩
  obtain ⟨r3, hr3⟩ : ∃ r, thenTake r2 (isText ⟨#[45, 62]⟩) = r := ⟨_, rfl⟩
  rw [hr3] at hk4
  have E3 := Lib.hid hr3
  have K4 := Lib.hid hk4
  have NA := Lib.hid (NA.out.grown hG4 (fun e => hNA (by cases e; rfl)))
  have L4 : Hid (Below B w w4) := L3.out.trans (grown_below hG4 hgH.out HP3.out.lt)
  have HR4 := Lib.hid (HR3.out.set HP3.out (by kernel_rfl) hG4)
  have HP4 := Lib.hid hb4
  have HT4 := Lib.hid (HT3.out.below (grown_below hG4 hgH.out HP3.out.lt))
  clear hr3 hk4 hb4 hG4 HP3 HR3 HT3 L3
  go_wp2_with fail
  refine (rtoken_any w4 g B n4 1 b4 isWordT (fun _ => rfl) tv nm vt vr vq va vf vs vk l r3 HP4.out HT4.out K4.out hgH.out hl2).mono ?_
  rintro e w5 ⟨rfl, n5, b5, hk5, hb5, hG5⟩
  obtain ⟨r4, hr4⟩ : ∃ r, thenTake r3 isWordT = r := ⟨_, rfl⟩
  rw [hr4] at hk5 ⊢
  have E4 := Lib.hid hr4
  have K5 := Lib.hid hk5
  have NAb := Lib.hid (NA.out.grown hG5 (fun e => hNA (by cases e; rfl)))
  have M5 : Hid (Below B w w5) := L4.out.trans (grown_below hG5 hgH.out HP4.out.lt)
  have XR5 := Lib.hid (HR4.out.set HP4.out (by kernel_rfl) hG5)
  have XP5 := Lib.hid hb5
  have XT5 := Lib.hid (HT4.out.below (grown_below hG5 hgH.out HP4.out.lt))
  clear hr4 hk5 hb5 hG5 HP4 HR4 HT4 L4 NA
  obtain ⟨t4, ht4⟩ : ∃ t, tokV r4 = t := ⟨_, rfl⟩
  rw [ht4]
  have V4 := Lib.hid ht4
  clear ht4
  unfold tokAgg
  go_upto_region 4 with fail
  refine world_is (P := fun W => Code.wp _ _ _ _ W) (fun W5 hW9 => ?_)
  have hB9 : Below w5.heap.size w5 W5 := by rw [← hW9]; exact (Below.refl _ _).alloc (Nat.le_refl _) _
  have NB : Hid (Blk W5 w5.heap.size 47 #[.int .i64 t4.kind, .string t4.text, .int .i64 t4.n, .int .i64 t4.pos]) := by unfold Hid; rw [← hW9]; exact Blk.new _ _ _
  have L5 : Hid (Below B w W5) := M5.out.trans (hB9.mono (Nat.le_trans hBg.out M5.out.size))
  have HP5 := Lib.hid (XP5.out.below hB9 XP5.out.lt)
  have HR5 := Lib.hid (XR5.out.below hB9)
  have HT5 := Lib.hid (XT5.out.below (hB9.mono (Nat.le_trans hBg.out M5.out.size)))
  have NA := Lib.hid (NAb.out.below hB9 NAb.out.lt)
  have hNB : w5.heap.size ≠ g := Nat.ne_of_gt XP5.out.lt
  obtain ⟨a4, ea4⟩ : ∃ a, w5.heap.size = a := ⟨_, rfl⟩
  rw [ea4] at NB hNB ⊢
  clear hW9 hB9 XP5 XR5 XT5 M5 ea4 NAb
  go_wp2_with fail
  refine (rsign_any W5 g B n5 b5 ⟨#[59]⟩ tv nm vt vr vq va vf vs vk l r4 HP5.out HT5.out K5.out hl2).mono ?_
  rintro e w6 ⟨rfl, n6, b6, hk6, hb6, hG6⟩
  obtain ⟨r5, hr5⟩ : ∃ r, thenTake r4 (isText ⟨#[59]⟩) = r := ⟨_, rfl⟩
  rw [hr5] at hk6
  have E5 := Lib.hid hr5
  have K6 := Lib.hid hk6
  have NA := Lib.hid (NA.out.grown hG6 (fun e => hNA (by cases e; rfl)))
  have NB := Lib.hid (NB.out.grown hG6 (fun e => hNB (by cases e; rfl)))
  have L6 : Hid (Below B w w6) := L5.out.trans (grown_below hG6 hgH.out HP5.out.lt)
  have HR6 := Lib.hid (HR5.out.set HP5.out (by kernel_rfl) hG6)
  have HP6 := Lib.hid hb6
  have HT6 := Lib.hid (HT5.out.below (grown_below hG6 hgH.out HP5.out.lt))
  clear hr5 hk6 hb6 hG6 HP5 HR5 HT5 L5
  obtain ⟨A0, C0, hv0⟩ := HR6.out.slice (i := 6) rfl
  dsimp only at hv0
  subst hv0
  have y10 := HP6.out.cell 10
  obtain ⟨m, hm⟩ : ∃ m, k + 1 = m := ⟨_, rfl⟩
  have hmi : (k : Int) + 1 = (m : Int) := by rw [← hm]; rfl
  have hmH := Lib.hid hm
  clear hm
  have hGO : Hid True := trivial
  go_upto_region 6 with (clear hGO; refine wpList_halt ⟨_, _, _, rfl⟩ ?_)
  refine Lib.hid ?_
  refine wpList_rpush HR6.out (i := 6) (r := ⟨3, 1, .slice A0 K.length C0, K.length, kinC K⟩) rfl 68 (.int .i64 0) 8 Tryd.underlying68 (by kernel_rfl) rfl Nat.zero_lt_one (by decide) rfl _ _ rfl rfl 1 #[.int .i64 (m : Int)] rfl rfl (by intro u hu; simp only [List.mem_singleton] at hu; rw [hu]; rfl) hlK.out (Nat.le_trans hBg.out L6.out.size) rfl ?_
  intro v7 w7 hP9
  have X7 := Lib.hid hP9.rows
  have Y7 := Lib.hid (hP9.blk _ _ _ HP6.out (HR6.out.ne HP6.out (by kernel_rfl) 6 _ rfl))
  have NA := Lib.hid (hP9.blk _ _ _ NA.out (HR6.out.ne NA.out (by kernel_rfl) 6 _ rfl))
  have NB := Lib.hid (hP9.blk _ _ _ NB.out (HR6.out.ne NB.out (by kernel_rfl) 6 _ rfl))
  have M7 := Lib.hid (hP9.bel _ L6.out)
  obtain ⟨A7, C7, hv9⟩ := X7.out.slice (i := 6) rfl
  dsimp only at hv9
  subst hv9
  clear hP9
  have z10 := Y7.out.cell 10
  have f10 := Y7.out.frozen 10
  go_upto_region 6 with fail
  refine world_is (P := fun W => Code.wp _ _ _ _ W) (fun W7 hW9 => ?_)
  have hG9 : w7.grownBy W7 (some g) := by rw [← hW9]; exact grown_ofSet _ _ _ _
  have HP7 : Hid (Blk W7 g 71 #[tv, .int .i64 (n6 : Int), .bool b6, nm, vt, vr, vq, va, vf, vs, .slice A7 (K.length + 1) C7]) := by unfold Hid; rw [← hW9]; exact Y7.out.set_ 10 _
  have HR7 : Hid (RowsA W7 B (rdRows vt vr vq va vf vs (.slice A7 (K.length + 1) C7) st.typs [] st.quos P (F) (S) (K ++ [m]))) := by unfold Hid; exact (X7.out.set Y7.out (by kernel_rfl) hG9).cast (by simp [rdRows, kinC_snoc])
  have NA := Lib.hid (NA.out.grown hG9 (fun e => hNA (by cases e; rfl)))
  have NB := Lib.hid (NB.out.grown hG9 (fun e => hNB (by cases e; rfl)))
  have L7 : Hid (Below B w W7) := M7.out.trans (grown_below hG9 hgH.out Y7.out.lt)
  clear hW9 hG9 z10 f10 y10 X7 Y7 M7 HP6 HR6 HT6 L6
  obtain ⟨Af, Cf, hv9⟩ := HR7.out.slice (i := 4) rfl
  dsimp only at hv9
  subst hv9
  refine Late.wp_region_late (S := fun w' => w'.cell? ⟨g, 8, none⟩ = some ((.slice Af F.length Cf)) ∧ w'.cell? ⟨a2, 0, none⟩ = some (.int .i64 t2.kind) ∧ w'.cell? ⟨a2, 1, none⟩ = some (.string t2.text) ∧ w'.cell? ⟨a2, 2, none⟩ = some (.int .i64 t2.n) ∧ w'.cell? ⟨a2, 3, none⟩ = some (.int .i64 t2.pos) ∧ w'.cell? ⟨a4, 0, none⟩ = some (.int .i64 t4.kind) ∧ w'.cell? ⟨a4, 1, none⟩ = some (.string t4.text) ∧ w'.cell? ⟨a4, 2, none⟩ = some (.int .i64 t4.n) ∧ w'.cell? ⟨a4, 3, none⟩ = some (.int .i64 t4.pos)) [14] (by kernel_rfl) (⟨HP7.out.cell 8, NA.out.cell 0, NA.out.cell 1, NA.out.cell 2, NA.out.cell 3, NB.out.cell 0, NB.out.cell 1, NB.out.cell 2, NB.out.cell 3⟩) (fun hHeld => ?_)
  refine' Late.wpAnyK_take (i := 0) (v := ?v0xp) rfl (by kernel_rfl) (by kernel_rfl) (by kernel_rfl) (by kernel_rfl) (by kernel_rfl) (fun _ _ _ h => h) (Or.inl ⟨by rfl, ?hy0xp⟩) hHeld ?rest0xp
  case hy0xp => intro w hSw; (try dsimp only at hSw); go_simp; all_goals with_reducible rfl
  try simp only [Act.put, List.setIfInBounds_toArray, List.set_cons_zero, List.set_cons_succ, List.getElem_toArray, List.getElem_cons_zero]
  refine' Late.wpAnyK_take (i := 1) (v := ?v1xp) rfl (by kernel_rfl) (by kernel_rfl) (by kernel_rfl) (by kernel_rfl) (by kernel_rfl) (fun _ _ _ h => h) (Or.inl ⟨by rfl, ?hy1xp⟩) hHeld ?rest1xp
  case hy1xp => intro w hSw; (try dsimp only at hSw); go_simp; all_goals with_reducible rfl
  try simp only [Act.put, List.setIfInBounds_toArray, List.set_cons_zero, List.set_cons_succ, List.getElem_toArray, List.getElem_cons_zero, List.getElem_cons_succ]
  refine' Late.wpAnyK_take (i := 2) (v := ?v2xp) rfl (by kernel_rfl) (by kernel_rfl) (by kernel_rfl) (by kernel_rfl) (by kernel_rfl) (fun _ _ _ h => h) (Or.inl ⟨by rfl, ?hy2xp⟩) hHeld ?rest2xp
  case hy2xp => intro w hSw; (try dsimp only at hSw); go_simp; all_goals with_reducible rfl
  try simp only [Act.put, List.setIfInBounds_toArray, List.set_cons_zero, List.set_cons_succ, List.getElem_toArray, List.getElem_cons_zero, List.getElem_cons_succ]
  refine' Late.wpAnyK_take (i := 3) (v := ?v3xp) rfl (by kernel_rfl) (by kernel_rfl) (by kernel_rfl) (by kernel_rfl) (by kernel_rfl) (fun _ _ _ h => h) (Or.inl ⟨by rfl, ?hy3xp⟩) hHeld ?rest3xp
  case hy3xp => intro w hSw; (try dsimp only at hSw); go_simp; all_goals with_reducible rfl
  try simp only [Act.put, List.setIfInBounds_toArray, List.set_cons_zero, List.set_cons_succ, List.getElem_toArray, List.getElem_cons_zero, List.getElem_cons_succ]
  refine' Late.wpAnyK_take (i := 4) (v := ?v4xp) rfl (by kernel_rfl) (by kernel_rfl) (by kernel_rfl) (by kernel_rfl) (by kernel_rfl) (fun _ _ _ h => h) (Or.inl ⟨by rfl, ?hy4xp⟩) hHeld ?rest4xp
  case hy4xp => intro w hSw; (try dsimp only at hSw); go_simp; all_goals with_reducible rfl
  try simp only [Act.put, List.setIfInBounds_toArray, List.set_cons_zero, List.set_cons_succ, List.getElem_toArray, List.getElem_cons_zero, List.getElem_cons_succ]
  refine' Late.wpAnyK_take (i := 5) (v := ?v5xp) rfl (by kernel_rfl) (by kernel_rfl) (by kernel_rfl) (by kernel_rfl) (by kernel_rfl) (fun _ _ _ h => h) (Or.inl ⟨by rfl, ?hy5xp⟩) hHeld ?rest5xp
  case hy5xp => intro w hSw; (try dsimp only at hSw); go_simp; all_goals with_reducible rfl
  try simp only [Act.put, List.setIfInBounds_toArray, List.set_cons_zero, List.set_cons_succ, List.getElem_toArray, List.getElem_cons_zero, List.getElem_cons_succ]
  refine' Late.wpAnyK_take (i := 6) (v := ?v6xp) rfl (by kernel_rfl) (by kernel_rfl) (by kernel_rfl) (by kernel_rfl) (by kernel_rfl) (fun _ _ _ h => h) (Or.inl ⟨by rfl, ?hy6xp⟩) hHeld ?rest6xp
  case hy6xp => intro w hSw; (try dsimp only at hSw); go_simp; all_goals with_reducible rfl
  try simp only [Act.put, List.setIfInBounds_toArray, List.set_cons_zero, List.set_cons_succ, List.getElem_toArray, List.getElem_cons_zero, List.getElem_cons_succ]
  refine' Late.wpAnyK_take (i := 7) (v := ?v7xp) rfl (by kernel_rfl) (by kernel_rfl) (by kernel_rfl) (by kernel_rfl) (by kernel_rfl) (fun _ _ _ h => h) (Or.inl ⟨by rfl, ?hy7xp⟩) hHeld ?rest7xp
  case hy7xp => intro w hSw; (try dsimp only at hSw); go_simp; all_goals with_reducible rfl
  try simp only [Act.put, List.setIfInBounds_toArray, List.set_cons_zero, List.set_cons_succ, List.getElem_toArray, List.getElem_cons_zero, List.getElem_cons_succ]
  refine' Late.wpAnyK_take (i := 8) (v := ?v8xp) rfl (by kernel_rfl) (by kernel_rfl) (by kernel_rfl) (by kernel_rfl) (by kernel_rfl) (fun _ _ _ h => h) (Or.inl ⟨by rfl, ?hy8xp⟩) hHeld ?rest8xp
  case hy8xp => intro w hSw; (try dsimp only at hSw); go_simp; all_goals with_reducible rfl
  try simp only [Act.put, List.setIfInBounds_toArray, List.set_cons_zero, List.set_cons_succ, List.getElem_toArray, List.getElem_cons_zero, List.getElem_cons_succ]
  refine' Late.wpAnyK_take (i := 9) (v := ?v9xp) rfl (by kernel_rfl) (by kernel_rfl) (by kernel_rfl) (by kernel_rfl) (by kernel_rfl) (fun _ _ _ h => h) (Or.inl ⟨by rfl, ?hy9xp⟩) hHeld ?rest9xp
  case hy9xp => intro w hSw; (try dsimp only at hSw); go_simp; all_goals with_reducible rfl
  try simp only [Act.put, List.setIfInBounds_toArray, List.set_cons_zero, List.set_cons_succ, List.getElem_toArray, List.getElem_cons_zero, List.getElem_cons_succ]
  refine Late.wpAnyK_ready (rs := [10]) (by kernel_rfl) (by simp) ?_
  refine Late.AllReadyK.cons rfl (fun KQ hKQ => ?_) Late.AllReadyK.nil
  go_simp
  refine world_is (P := fun W => KQ _ W) (fun x1 hw9 => ?_)
  have hB9 : Below W7.heap.size W7 x1 := by rw [← hw9]; first | exact (Below.refl _ _).alloc (Nat.le_refl _) _ | exact ((Below.refl _ _).alloc (Nat.le_refl _) _).drew | exact (Below.refl _ _).drew.alloc (Nat.le_refl _) _
  have Fx1 : Hid (Blk x1 W7.heap.size 80 #[.string t2.text, .int .i64 t2.pos]) := by unfold Hid; rw [← hw9]; exact Blk.new _ _ _
  have Px1 : Hid (Blk x1 g 71 #[tv, .int .i64 (n6 : Int), .bool b6, nm, vt, vr, vq, va, .slice Af F.length Cf, vs, .slice A7 (K.length + 1) C7]) := by unfold Hid; exact HP7.out.below hB9 HP7.out.lt
  have Rx1 : Hid (RowsA x1 B (rdRows vt vr vq va (.slice Af F.length Cf) vs (.slice A7 (K.length + 1) C7) st.typs [] st.quos P (F) (S) (K ++ [m]))) := by unfold Hid; exact HR7.out.below hB9
  have E0x1 : Hid (Blk x1 a2 47 #[.int .i64 t2.kind, .string t2.text, .int .i64 t2.n, .int .i64 t2.pos]) := by unfold Hid; exact NA.out.below hB9 NA.out.lt
  have E1x1 : Hid (Blk x1 a4 47 #[.int .i64 t4.kind, .string t4.text, .int .i64 t4.n, .int .i64 t4.pos]) := by unfold Hid; exact NB.out.below hB9 NB.out.lt
  have Lx1 : Hid (Below B w x1) := by unfold Hid; exact L7.out.trans (hB9.mono (Nat.le_trans hBg.out L7.out.size))
  clear hw9 hB9
  refine hKQ.out _ _ (⟨Px1.out.cell 8, E0x1.out.cell 0, E0x1.out.cell 1, E0x1.out.cell 2, E0x1.out.cell 3, E1x1.out.cell 0, E1x1.out.cell 1, E1x1.out.cell 2, E1x1.out.cell 3⟩) (fun hHeld2 => ?_)
  clear hKQ KQ hHeld
  have hHeld := hHeld2
  clear hHeld2
  try simp only [Act.put, List.setIfInBounds_toArray, List.set_cons_zero, List.set_cons_succ, List.getElem_toArray, List.getElem_cons_zero, List.getElem_cons_succ]
  refine Late.wpAnyK_ready (rs := [11]) (by kernel_rfl) (by simp) ?_
  refine Late.AllReadyK.cons rfl (fun KQ hKQ => ?_) Late.AllReadyK.nil
  refine wp_gcat_own 69 80 (.agg #[.string ⟨#[]⟩, .int .i64 0]) 2 24 Tryd.underlying69 (by kernel_rfl) rfl (by decide) (by decide) _ _ rfl B (.slice Af F.length Cf) (F.length) (menC F) rfl (Rx1.out.own 4 _ rfl) (W7.heap.size) 1 1 [.string t2.text, .int .i64 t2.pos] rfl rfl Fx1.out (by intro u hu; simp only [List.mem_cons, List.not_mem_nil, or_false] at hu; rcases hu with rfl | rfl <;> rfl) hlF.out (Nat.le_trans hBg.out Lx1.out.size) ?_
  intro vx2 x2 hrow9 hG9 hO9
  have Rx2 : Hid (RowsA x2 B (List.set (rdRows vt vr vq va (.slice Af F.length Cf) vs (.slice A7 (K.length + 1) C7) st.typs [] st.quos P (F) (S) (K ++ [m])) 4 ⟨80, 2, vx2, F.length + 1, menC F ++ [.string t2.text,.int .i64 t2.pos]⟩)) := by unfold Hid; exact Rx1.out.push (i := 4) rfl hrow9 hG9 hO9
  have Px2 : Hid (Blk x2 g 71 #[tv, .int .i64 (n6 : Int), .bool b6, nm, vt, vr, vq, va, .slice Af F.length Cf, vs, .slice A7 (K.length + 1) C7]) := by unfold Hid; exact Px1.out.grown hG9 (Ne.symm (Rx1.out.ne Px1.out (by kernel_rfl) 4 _ rfl))
  have E0x2 : Hid (Blk x2 a2 47 #[.int .i64 t2.kind, .string t2.text, .int .i64 t2.n, .int .i64 t2.pos]) := by unfold Hid; exact E0x1.out.grown hG9 (Ne.symm (Rx1.out.ne E0x1.out (by kernel_rfl) 4 _ rfl))
  have E1x2 : Hid (Blk x2 a4 47 #[.int .i64 t4.kind, .string t4.text, .int .i64 t4.n, .int .i64 t4.pos]) := by unfold Hid; exact E1x1.out.grown hG9 (Ne.symm (Rx1.out.ne E1x1.out (by kernel_rfl) 4 _ rfl))
  have Lx2 : Hid (Below B w x2) := by unfold Hid; exact Lx1.out.grown hG9 (Nat.le_trans hBg.out Lx1.out.size) (fun j e => ((Rx1.out.own 4 _ rfl).lt j e).1)
  obtain ⟨Ax2, Cx2, hv9⟩ := Rx2.out.slice (i := 4) rfl
  dsimp only at hv9
  subst hv9
  clear hrow9 hG9 hO9
  refine hKQ.out _ _ (⟨Px2.out.cell 8, E0x2.out.cell 0, E0x2.out.cell 1, E0x2.out.cell 2, E0x2.out.cell 3, E1x2.out.cell 0, E1x2.out.cell 1, E1x2.out.cell 2, E1x2.out.cell 3⟩) (fun hHeld2 => ?_)
  clear hKQ KQ hHeld
  have hHeld := hHeld2
  clear hHeld2
  try simp only [Act.put, List.setIfInBounds_toArray, List.set_cons_zero, List.set_cons_succ, List.getElem_toArray, List.getElem_cons_zero, List.getElem_cons_succ]
  refine' Late.wpAnyK_take (i := 12) (v := ?v12xq) rfl (by kernel_rfl) (by kernel_rfl) (by kernel_rfl) (by kernel_rfl) (by kernel_rfl) (fun _ _ _ h => h) (Or.inl ⟨by rfl, ?hy12xq⟩) hHeld ?rest12xq
  case hy12xq => intro w hSw; (try dsimp only at hSw); go_simp; all_goals with_reducible rfl
  try simp only [Act.put, List.setIfInBounds_toArray, List.set_cons_zero, List.set_cons_succ, List.getElem_toArray, List.getElem_cons_zero, List.getElem_cons_succ]
  refine' Late.wpAnyK_take (i := 13) (v := ?v13xq) rfl (by kernel_rfl) (by kernel_rfl) (by kernel_rfl) (by kernel_rfl) (by kernel_rfl) (fun _ _ _ h => h) (Or.inl ⟨by rfl, ?hy13xq⟩) hHeld ?rest13xq
  case hy13xq => intro w hSw; (try dsimp only at hSw); go_simp; all_goals with_reducible rfl
  try simp only [Act.put, List.setIfInBounds_toArray, List.set_cons_zero, List.set_cons_succ, List.getElem_toArray, List.getElem_cons_zero, List.getElem_cons_succ]
  refine Late.wpAnyK_ready (rs := [14]) (by kernel_rfl) (by simp) ?_
  refine Late.AllReadyK.late rfl (by kernel_rfl) (fun KQ hKQ => ?_)
  have c9 : x2.cell? ⟨g, 8, none⟩ = some ((.slice Af F.length Cf)) := Px2.out.cell 8
  have f9 := Px2.out.frozen 8
  go_simp
  clear c9 f9
  refine world_is (P := fun W => KQ _ W) (fun x3 hw9 => ?_)
  have hG9 : x2.grownBy x3 (some g) := by rw [← hw9]; exact grown_ofSet _ _ _ _
  have Px3 : Hid (Blk x3 g 71 #[tv, .int .i64 (n6 : Int), .bool b6, nm, vt, vr, vq, va, (.slice Ax2 (F.length + 1) Cx2), vs, .slice A7 (K.length + 1) C7]) := by unfold Hid; rw [← hw9]; exact Px2.out.set_ 8 _
  have Rx3 : Hid (RowsA x3 B (rdRows vt vr vq va (.slice Ax2 (F.length + 1) Cx2) vs (.slice A7 (K.length + 1) C7) st.typs [] st.quos P (F ++ [t2]) (S) (K ++ [m]))) := by unfold Hid; exact (Rx2.out.set Px2.out (by kernel_rfl) hG9).cast (by simp [rdRows, menC_snoc, kinC_snoc])
  have E0x3 : Hid (Blk x3 a2 47 #[.int .i64 t2.kind, .string t2.text, .int .i64 t2.n, .int .i64 t2.pos]) := by unfold Hid; exact E0x2.out.grown hG9 (by intro e9; cases e9; exact hNA rfl)
  have E1x3 : Hid (Blk x3 a4 47 #[.int .i64 t4.kind, .string t4.text, .int .i64 t4.n, .int .i64 t4.pos]) := by unfold Hid; exact E1x2.out.grown hG9 (by intro e9; cases e9; exact hNB rfl)
  have Lx3 : Hid (Below B w x3) := by unfold Hid; exact Lx2.out.trans (grown_below hG9 hgH.out Px2.out.lt)
  clear hw9 hG9
  refine hKQ.out _ _ ?_
  clear hKQ KQ
  try simp only [Act.put, List.setIfInBounds_toArray, List.set_cons_zero, List.set_cons_succ, List.getElem_toArray, List.getElem_cons_zero, List.getElem_cons_succ]
  refine Late.wpAnyK_done (by kernel_rfl) ?_ _
  go_upto_region 7 with fail
  obtain ⟨As, Cs, hv9⟩ := Rx3.out.slice (i := 5) rfl
  dsimp only at hv9
  subst hv9
  refine Late.wp_region_late (S := fun w' => w'.cell? ⟨g, 9, none⟩ = some ((.slice As S.length Cs)) ∧ w'.cell? ⟨a2, 0, none⟩ = some (.int .i64 t2.kind) ∧ w'.cell? ⟨a2, 1, none⟩ = some (.string t2.text) ∧ w'.cell? ⟨a2, 2, none⟩ = some (.int .i64 t2.n) ∧ w'.cell? ⟨a2, 3, none⟩ = some (.int .i64 t2.pos) ∧ w'.cell? ⟨a4, 0, none⟩ = some (.int .i64 t4.kind) ∧ w'.cell? ⟨a4, 1, none⟩ = some (.string t4.text) ∧ w'.cell? ⟨a4, 2, none⟩ = some (.int .i64 t4.n) ∧ w'.cell? ⟨a4, 3, none⟩ = some (.int .i64 t4.pos)) [14] (by kernel_rfl) (⟨Px3.out.cell 9, E0x3.out.cell 0, E0x3.out.cell 1, E0x3.out.cell 2, E0x3.out.cell 3, E1x3.out.cell 0, E1x3.out.cell 1, E1x3.out.cell 2, E1x3.out.cell 3⟩) (fun hHeld => ?_)
  refine' Late.wpAnyK_take (i := 0) (v := ?v0yp) rfl (by kernel_rfl) (by kernel_rfl) (by kernel_rfl) (by kernel_rfl) (by kernel_rfl) (fun _ _ _ h => h) (Or.inl ⟨by rfl, ?hy0yp⟩) hHeld ?rest0yp
  case hy0yp => intro w hSw; (try dsimp only at hSw); go_simp; all_goals with_reducible rfl
  try simp only [Act.put, List.setIfInBounds_toArray, List.set_cons_zero, List.set_cons_succ, List.getElem_toArray, List.getElem_cons_zero]
  refine' Late.wpAnyK_take (i := 1) (v := ?v1yp) rfl (by kernel_rfl) (by kernel_rfl) (by kernel_rfl) (by kernel_rfl) (by kernel_rfl) (fun _ _ _ h => h) (Or.inl ⟨by rfl, ?hy1yp⟩) hHeld ?rest1yp
  case hy1yp => intro w hSw; (try dsimp only at hSw); go_simp; all_goals with_reducible rfl
  try simp only [Act.put, List.setIfInBounds_toArray, List.set_cons_zero, List.set_cons_succ, List.getElem_toArray, List.getElem_cons_zero, List.getElem_cons_succ]
  refine' Late.wpAnyK_take (i := 2) (v := ?v2yp) rfl (by kernel_rfl) (by kernel_rfl) (by kernel_rfl) (by kernel_rfl) (by kernel_rfl) (fun _ _ _ h => h) (Or.inl ⟨by rfl, ?hy2yp⟩) hHeld ?rest2yp
  case hy2yp => intro w hSw; (try dsimp only at hSw); go_simp; all_goals with_reducible rfl
  try simp only [Act.put, List.setIfInBounds_toArray, List.set_cons_zero, List.set_cons_succ, List.getElem_toArray, List.getElem_cons_zero, List.getElem_cons_succ]
  refine' Late.wpAnyK_take (i := 3) (v := ?v3yp) rfl (by kernel_rfl) (by kernel_rfl) (by kernel_rfl) (by kernel_rfl) (by kernel_rfl) (fun _ _ _ h => h) (Or.inl ⟨by rfl, ?hy3yp⟩) hHeld ?rest3yp
  case hy3yp => intro w hSw; (try dsimp only at hSw); go_simp; all_goals with_reducible rfl
  try simp only [Act.put, List.setIfInBounds_toArray, List.set_cons_zero, List.set_cons_succ, List.getElem_toArray, List.getElem_cons_zero, List.getElem_cons_succ]
  refine' Late.wpAnyK_take (i := 4) (v := ?v4yp) rfl (by kernel_rfl) (by kernel_rfl) (by kernel_rfl) (by kernel_rfl) (by kernel_rfl) (fun _ _ _ h => h) (Or.inl ⟨by rfl, ?hy4yp⟩) hHeld ?rest4yp
  case hy4yp => intro w hSw; (try dsimp only at hSw); go_simp; all_goals with_reducible rfl
  try simp only [Act.put, List.setIfInBounds_toArray, List.set_cons_zero, List.set_cons_succ, List.getElem_toArray, List.getElem_cons_zero, List.getElem_cons_succ]
  refine' Late.wpAnyK_take (i := 5) (v := ?v5yp) rfl (by kernel_rfl) (by kernel_rfl) (by kernel_rfl) (by kernel_rfl) (by kernel_rfl) (fun _ _ _ h => h) (Or.inl ⟨by rfl, ?hy5yp⟩) hHeld ?rest5yp
  case hy5yp => intro w hSw; (try dsimp only at hSw); go_simp; all_goals with_reducible rfl
  try simp only [Act.put, List.setIfInBounds_toArray, List.set_cons_zero, List.set_cons_succ, List.getElem_toArray, List.getElem_cons_zero, List.getElem_cons_succ]
  refine' Late.wpAnyK_take (i := 6) (v := ?v6yp) rfl (by kernel_rfl) (by kernel_rfl) (by kernel_rfl) (by kernel_rfl) (by kernel_rfl) (fun _ _ _ h => h) (Or.inl ⟨by rfl, ?hy6yp⟩) hHeld ?rest6yp
  case hy6yp => intro w hSw; (try dsimp only at hSw); go_simp; all_goals with_reducible rfl
  try simp only [Act.put, List.setIfInBounds_toArray, List.set_cons_zero, List.set_cons_succ, List.getElem_toArray, List.getElem_cons_zero, List.getElem_cons_succ]
  refine' Late.wpAnyK_take (i := 7) (v := ?v7yp) rfl (by kernel_rfl) (by kernel_rfl) (by kernel_rfl) (by kernel_rfl) (by kernel_rfl) (fun _ _ _ h => h) (Or.inl ⟨by rfl, ?hy7yp⟩) hHeld ?rest7yp
  case hy7yp => intro w hSw; (try dsimp only at hSw); go_simp; all_goals with_reducible rfl
  try simp only [Act.put, List.setIfInBounds_toArray, List.set_cons_zero, List.set_cons_succ, List.getElem_toArray, List.getElem_cons_zero, List.getElem_cons_succ]
  refine' Late.wpAnyK_take (i := 8) (v := ?v8yp) rfl (by kernel_rfl) (by kernel_rfl) (by kernel_rfl) (by kernel_rfl) (by kernel_rfl) (fun _ _ _ h => h) (Or.inl ⟨by rfl, ?hy8yp⟩) hHeld ?rest8yp
  case hy8yp => intro w hSw; (try dsimp only at hSw); go_simp; all_goals with_reducible rfl
  try simp only [Act.put, List.setIfInBounds_toArray, List.set_cons_zero, List.set_cons_succ, List.getElem_toArray, List.getElem_cons_zero, List.getElem_cons_succ]
  refine' Late.wpAnyK_take (i := 9) (v := ?v9yp) rfl (by kernel_rfl) (by kernel_rfl) (by kernel_rfl) (by kernel_rfl) (by kernel_rfl) (fun _ _ _ h => h) (Or.inl ⟨by rfl, ?hy9yp⟩) hHeld ?rest9yp
  case hy9yp => intro w hSw; (try dsimp only at hSw); go_simp; all_goals with_reducible rfl
  try simp only [Act.put, List.setIfInBounds_toArray, List.set_cons_zero, List.set_cons_succ, List.getElem_toArray, List.getElem_cons_zero, List.getElem_cons_succ]
  refine Late.wpAnyK_ready (rs := [10]) (by kernel_rfl) (by simp) ?_
  refine Late.AllReadyK.cons rfl (fun KQ hKQ => ?_) Late.AllReadyK.nil
  go_simp
  refine world_is (P := fun W => KQ _ W) (fun y1 hw9 => ?_)
  have hB9 : Below x3.heap.size x3 y1 := by rw [← hw9]; first | exact (Below.refl _ _).alloc (Nat.le_refl _) _ | exact ((Below.refl _ _).alloc (Nat.le_refl _) _).drew | exact (Below.refl _ _).drew.alloc (Nat.le_refl _) _
  have Fy1 : Hid (Blk y1 x3.heap.size 80 #[.string t4.text, .int .i64 t4.pos]) := by unfold Hid; rw [← hw9]; exact Blk.new _ _ _
  have Py1 : Hid (Blk y1 g 71 #[tv, .int .i64 (n6 : Int), .bool b6, nm, vt, vr, vq, va, (.slice Ax2 (F.length + 1) Cx2), .slice As S.length Cs, .slice A7 (K.length + 1) C7]) := by unfold Hid; exact Px3.out.below hB9 Px3.out.lt
  have Ry1 : Hid (RowsA y1 B (rdRows vt vr vq va (.slice Ax2 (F.length + 1) Cx2) (.slice As S.length Cs) (.slice A7 (K.length + 1) C7) st.typs [] st.quos P (F ++ [t2]) (S) (K ++ [m]))) := by unfold Hid; exact Rx3.out.below hB9
  have E0y1 : Hid (Blk y1 a2 47 #[.int .i64 t2.kind, .string t2.text, .int .i64 t2.n, .int .i64 t2.pos]) := by unfold Hid; exact E0x3.out.below hB9 E0x3.out.lt
  have E1y1 : Hid (Blk y1 a4 47 #[.int .i64 t4.kind, .string t4.text, .int .i64 t4.n, .int .i64 t4.pos]) := by unfold Hid; exact E1x3.out.below hB9 E1x3.out.lt
  have Ly1 : Hid (Below B w y1) := by unfold Hid; exact Lx3.out.trans (hB9.mono (Nat.le_trans hBg.out Lx3.out.size))
  clear hw9 hB9
  refine hKQ.out _ _ (⟨Py1.out.cell 9, E0y1.out.cell 0, E0y1.out.cell 1, E0y1.out.cell 2, E0y1.out.cell 3, E1y1.out.cell 0, E1y1.out.cell 1, E1y1.out.cell 2, E1y1.out.cell 3⟩) (fun hHeld2 => ?_)
  clear hKQ KQ hHeld
  have hHeld := hHeld2
  clear hHeld2
  try simp only [Act.put, List.setIfInBounds_toArray, List.set_cons_zero, List.set_cons_succ, List.getElem_toArray, List.getElem_cons_zero, List.getElem_cons_succ]
  refine Late.wpAnyK_ready (rs := [11]) (by kernel_rfl) (by simp) ?_
  refine Late.AllReadyK.cons rfl (fun KQ hKQ => ?_) Late.AllReadyK.nil
  refine wp_gcat_own 69 80 (.agg #[.string ⟨#[]⟩, .int .i64 0]) 2 24 Tryd.underlying69 (by kernel_rfl) rfl (by decide) (by decide) _ _ rfl B (.slice As S.length Cs) (S.length) (menC S) rfl (Ry1.out.own 5 _ rfl) (x3.heap.size) 1 1 [.string t4.text, .int .i64 t4.pos] rfl rfl Fy1.out (by intro u hu; simp only [List.mem_cons, List.not_mem_nil, or_false] at hu; rcases hu with rfl | rfl <;> rfl) hlS.out (Nat.le_trans hBg.out Ly1.out.size) ?_
  intro vy2 y2 hrow9 hG9 hO9
  have Ry2 : Hid (RowsA y2 B (List.set (rdRows vt vr vq va (.slice Ax2 (F.length + 1) Cx2) (.slice As S.length Cs) (.slice A7 (K.length + 1) C7) st.typs [] st.quos P (F ++ [t2]) (S) (K ++ [m])) 5 ⟨80, 2, vy2, S.length + 1, menC S ++ [.string t4.text,.int .i64 t4.pos]⟩)) := by unfold Hid; exact Ry1.out.push (i := 5) rfl hrow9 hG9 hO9
  have Py2 : Hid (Blk y2 g 71 #[tv, .int .i64 (n6 : Int), .bool b6, nm, vt, vr, vq, va, (.slice Ax2 (F.length + 1) Cx2), .slice As S.length Cs, .slice A7 (K.length + 1) C7]) := by unfold Hid; exact Py1.out.grown hG9 (Ne.symm (Ry1.out.ne Py1.out (by kernel_rfl) 5 _ rfl))
  have E0y2 : Hid (Blk y2 a2 47 #[.int .i64 t2.kind, .string t2.text, .int .i64 t2.n, .int .i64 t2.pos]) := by unfold Hid; exact E0y1.out.grown hG9 (Ne.symm (Ry1.out.ne E0y1.out (by kernel_rfl) 5 _ rfl))
  have E1y2 : Hid (Blk y2 a4 47 #[.int .i64 t4.kind, .string t4.text, .int .i64 t4.n, .int .i64 t4.pos]) := by unfold Hid; exact E1y1.out.grown hG9 (Ne.symm (Ry1.out.ne E1y1.out (by kernel_rfl) 5 _ rfl))
  have Ly2 : Hid (Below B w y2) := by unfold Hid; exact Ly1.out.grown hG9 (Nat.le_trans hBg.out Ly1.out.size) (fun j e => ((Ry1.out.own 5 _ rfl).lt j e).1)
  obtain ⟨Ay2, Cy2, hv9⟩ := Ry2.out.slice (i := 5) rfl
  dsimp only at hv9
  subst hv9
  clear hrow9 hG9 hO9
  refine hKQ.out _ _ (⟨Py2.out.cell 9, E0y2.out.cell 0, E0y2.out.cell 1, E0y2.out.cell 2, E0y2.out.cell 3, E1y2.out.cell 0, E1y2.out.cell 1, E1y2.out.cell 2, E1y2.out.cell 3⟩) (fun hHeld2 => ?_)
  clear hKQ KQ hHeld
  have hHeld := hHeld2
  clear hHeld2
  try simp only [Act.put, List.setIfInBounds_toArray, List.set_cons_zero, List.set_cons_succ, List.getElem_toArray, List.getElem_cons_zero, List.getElem_cons_succ]
  refine' Late.wpAnyK_take (i := 12) (v := ?v12yq) rfl (by kernel_rfl) (by kernel_rfl) (by kernel_rfl) (by kernel_rfl) (by kernel_rfl) (fun _ _ _ h => h) (Or.inl ⟨by rfl, ?hy12yq⟩) hHeld ?rest12yq
  case hy12yq => intro w hSw; (try dsimp only at hSw); go_simp; all_goals with_reducible rfl
  try simp only [Act.put, List.setIfInBounds_toArray, List.set_cons_zero, List.set_cons_succ, List.getElem_toArray, List.getElem_cons_zero, List.getElem_cons_succ]
  refine' Late.wpAnyK_take (i := 13) (v := ?v13yq) rfl (by kernel_rfl) (by kernel_rfl) (by kernel_rfl) (by kernel_rfl) (by kernel_rfl) (fun _ _ _ h => h) (Or.inl ⟨by rfl, ?hy13yq⟩) hHeld ?rest13yq
  case hy13yq => intro w hSw; (try dsimp only at hSw); go_simp; all_goals with_reducible rfl
  try simp only [Act.put, List.setIfInBounds_toArray, List.set_cons_zero, List.set_cons_succ, List.getElem_toArray, List.getElem_cons_zero, List.getElem_cons_succ]
  refine Late.wpAnyK_ready (rs := [14]) (by kernel_rfl) (by simp) ?_
  refine Late.AllReadyK.late rfl (by kernel_rfl) (fun KQ hKQ => ?_)
  have c9 : y2.cell? ⟨g, 9, none⟩ = some ((.slice As S.length Cs)) := Py2.out.cell 9
  have f9 := Py2.out.frozen 9
  go_simp
  clear c9 f9
  refine world_is (P := fun W => KQ _ W) (fun y3 hw9 => ?_)
  have hG9 : y2.grownBy y3 (some g) := by rw [← hw9]; exact grown_ofSet _ _ _ _
  have Py3 : Hid (Blk y3 g 71 #[tv, .int .i64 (n6 : Int), .bool b6, nm, vt, vr, vq, va, (.slice Ax2 (F.length + 1) Cx2), (.slice Ay2 (S.length + 1) Cy2), .slice A7 (K.length + 1) C7]) := by unfold Hid; rw [← hw9]; exact Py2.out.set_ 9 _
  have Ry3 : Hid (RowsA y3 B (rdRows vt vr vq va (.slice Ax2 (F.length + 1) Cx2) (.slice Ay2 (S.length + 1) Cy2) (.slice A7 (K.length + 1) C7) st.typs [] st.quos P (F ++ [t2]) (S ++ [t4]) (K ++ [m]))) := by unfold Hid; exact (Ry2.out.set Py2.out (by kernel_rfl) hG9).cast (by simp [rdRows, menC_snoc, kinC_snoc])
  have E0y3 : Hid (Blk y3 a2 47 #[.int .i64 t2.kind, .string t2.text, .int .i64 t2.n, .int .i64 t2.pos]) := by unfold Hid; exact E0y2.out.grown hG9 (by intro e9; cases e9; exact hNA rfl)
  have E1y3 : Hid (Blk y3 a4 47 #[.int .i64 t4.kind, .string t4.text, .int .i64 t4.n, .int .i64 t4.pos]) := by unfold Hid; exact E1y2.out.grown hG9 (by intro e9; cases e9; exact hNB rfl)
  have Ly3 : Hid (Below B w y3) := by unfold Hid; exact Ly2.out.trans (grown_below hG9 hgH.out Py2.out.lt)
  clear hw9 hG9
  refine hKQ.out _ _ ?_
  clear hKQ KQ
  try simp only [Act.put, List.setIfInBounds_toArray, List.set_cons_zero, List.set_cons_succ, List.getElem_toArray, List.getElem_cons_zero, List.getElem_cons_succ]
  refine Late.wpAnyK_done (by kernel_rfl) ?_ _
  go_wp2_with fail
  go_end0
  have hfin := sk_rul (k := m) htH.out htuH.out E1.out E2.out E3.out E4.out E5.out K6.out st
  rw [← hmH.out] at hfin
  refine rdPost_sk Ly3.out hfin.1 (fun e => ?_) (fun st2 e hst2 => ?_)
  · rw [e] at Py3
    exact ⟨_, _, _, _, _, _, _, _, Py3.out⟩
  · rw [hfin.2 e] at hst2
    cases hst2
    rw [e] at Py3
    refine ⟨_, _, _, _, _, _, _, Py3.out, Ry3.out.cast ?_⟩
    rw [← hFH.out, ← hSH.out, ← hKH.out, ← hPH.out, V2.out, V4.out, hmH.out]
    simp
end Go.Proofs.YtemhiiignamkjaaDoor
namespace Go.Proofs.YtemhiiignamkjaaDoor
open Go.RowKit LexP ParP
namespace ParP
section
variable {α : Type} {l : List Tok} {n n' n1 n2 : Nat} {bad bad' b1 b2 : Bool}
theorem Sk.eq {r : Rd α} (h : Sk l n bad r) (k : Sk l n' bad' r) : n' = n ∧ bad' = bad := by
  have hh : ∀ m : List Tok, m = l.drop n → m = l.drop n' → n' = n := fun m e1 e2 => by
    have a := congrArg List.length (e1.symm.trans e2)
    rw [List.length_drop, List.length_drop] at a
    have := h.1
    have := k.1
    omega
  obtain ⟨_, h2⟩ := h
  obtain ⟨_, k2⟩ := k
  cases r with
  | ok m x => dsimp only at h2 k2; exact ⟨hh m h2.1 k2.1, k2.2.trans h2.2.symm⟩
  | bad m => dsimp only at h2 k2; exact ⟨hh m h2.1 k2.1, k2.2.trans h2.2.symm⟩
/-- A number that stands behind a word, if the word is there. -/
def thenOpt (r : Rd α) (s : ByteArray) (z : Nat) : Rd Nat := r.bind fun m _ => opt s z m
theorem peek_drop (s : ByteArray) (hs : (s.toList == []) = false) : ((peek (l.drop n)).toList == s.toList) = isB l n s := by
  unfold isB
  cases h : l[n]? with
  | some t => rw [drop_at_ h]; rfl
  | none =>
    rw [List.drop_eq_nil_of_le (by rw [List.getElem?_eq_none_iff] at h; exact h)]
    have e : (peek []).toList = [] := by kernel_rfl
    rw [e]
    cases hs2 : s.toList with
    | nil => rw [hs2] at hs; cases hs
    | cons a b => rfl
theorem Sk.opt_no {r : Rd α} {s : ByteArray} {z : Nat} (h : Sk l n bad r) (hs : (s.toList == []) = false) (hb : isB l n s = false) : Sk l n bad (thenOpt r s z) ∧ ∀ m x, thenOpt r s z = .ok m x → x = z := by
  cases bad with
  | true =>
    rw [h.isBad]
    exact ⟨⟨h.1, rfl, rfl⟩, fun m x e => by cases e⟩
  | false =>
    obtain ⟨x, rfl⟩ := h.isOk
    have e : thenOpt (Rd.ok (l.drop n) x) s z = .ok (l.drop n) z := by
      show opt s z (l.drop n) = _
      unfold opt
      rw [peek_drop s hs, hb]
      rfl
    rw [e]
    exact ⟨⟨h.1, rfl, rfl⟩, fun m x e => by cases e; rfl⟩
theorem Sk.opt_yes {r : Rd α} {s : ByteArray} {z : Nat} {r1 r2 : Rd Tok} (h : Sk l n bad r) (hs : (s.toList == []) = false) (hb : isB l n s = true) (h1 : thenTake r (isText s) = r1) (h2 : thenTake r1 isNumT = r2) (hk : Sk l n2 b2 r2) :
    Sk l n2 b2 (thenOpt r s z) ∧ ∀ m x, thenOpt r s z = .ok m x → x = (tokV r2).n := by
  cases bad with
  | true =>
    rw [h.isBad] at h1 ⊢
    subst h1 h2
    exact ⟨hk.of (fun m x e => by cases e) (fun m e => by cases e; rfl), fun m x e => by cases e⟩
  | false =>
    obtain ⟨x, rfl⟩ := h.isOk
    have e : thenOpt (Rd.ok (l.drop n) x) s z = (expect s (l.drop n)).bind fun l1 _ => (num l1).bind fun l2 t => .ok l2 t.n := by
      show opt s z (l.drop n) = _
      unfold opt
      rw [peek_drop s hs, hb]
      rfl
    have e1 : expect s (l.drop n) = r1 := h1
    rw [e, e1]
    cases r1 with
    | bad m => subst h2; exact ⟨hk.of (fun m x e => by cases e) (fun m e => by cases e; rfl), fun m x e => by cases e⟩
    | ok m1 t1 =>
      have e2 : num m1 = r2 := h2
      simp only [Rd.bind]
      rw [e2]
      cases r2 with
      | bad m => exact ⟨hk.of (fun m x e => by cases e) (fun m e => by cases e; rfl), fun m x e => by cases e⟩
      | ok m2 t2 => exact ⟨hk.of (fun m x e => by cases e; exact ⟨_, rfl⟩) (fun m e => by cases e), fun m x e => by cases e; rfl⟩
/-- The steps of a quorum, as rdQuo says them. -/
theorem sk_quo {n8 d u : Nat} {b8 : Bool} {c : Tok} {r2 r3 r5 r6 r8 : Rd Tok} {r4 r7 : Rd Nat} (h2 : r2 = .ok (l.drop (n + 2)) c) (hc : take isCommand (l.drop (n + 1)) = .ok (l.drop (n + 2)) c)
    (h3 : thenTake r2 isNumT = r3) (h4 : thenOpt r3 wAfter 0 = r4) (h5 : thenTake r4 (isText wWithin) = r5) (h6 : thenTake r5 isNumT = r6) (h7 : thenOpt r6 wUses 1 = r7) (h8 : thenTake r7 (isText wSemi) = r8)
    (hd : ∀ m x, r4 = .ok m x → x = d) (hu : ∀ m x, r7 = .ok m x → x = u) (hk : Sk l n8 b8 r8) (st : St) :
    Sk l n8 b8 ((rdQuo (l.drop (n + 1))).bind fun r x => .ok r { st with quos := st.quos ++ [x] }) ∧
    (b8 = false → (rdQuo (l.drop (n + 1))).bind (fun r x => .ok r { st with quos := st.quos ++ [x] }) = .ok (l.drop n8) { st with quos := st.quos ++ [⟨commandN c.text, (tokV r3).n, d, (tokV r6).n, u⟩] }) := by
  subst h2
  unfold rdQuo expect
  rw [hc]
  simp only [Rd.bind]
  have key : ∀ {R : Rd St}, (∃ m, R = .bad m ∧ r8 = .bad m) → Sk l n8 b8 R ∧ (b8 = false → R = .ok (l.drop n8) { st with quos := st.quos ++ [⟨commandN c.text, (tokV r3).n, d, (tokV r6).n, u⟩] }) := fun {R} hR => by
    obtain ⟨m, rfl, e8⟩ := hR
    rw [e8] at hk
    refine ⟨hk.of (fun m x e => by cases e) (fun m e => by cases e; rfl), fun e => ?_⟩
    subst e
    obtain ⟨x, hx⟩ := hk.isOk
    cases hx
  have e3 : num (l.drop (n + 2)) = r3 := h3
  rw [e3]
  cases r3 with
  | bad m => subst h4 h5 h6 h7 h8; exact key ⟨m, rfl, rfl⟩
  | ok m3 t3 =>
    simp only []
    have e4 : opt wAfter 0 m3 = r4 := h4
    rw [e4]
    cases r4 with
    | bad m => subst h5 h6 h7 h8; exact key ⟨m, rfl, rfl⟩
    | ok m4 d4 =>
      obtain rfl := hd m4 d4 rfl
      simp only []
      have e5 : take (isText wWithin) m4 = r5 := h5
      rw [e5]
      cases r5 with
      | bad m => subst h6 h7 h8; exact key ⟨m, rfl, rfl⟩
      | ok m5 t5 =>
        simp only []
        have e6 : num m5 = r6 := h6
        rw [e6]
        cases r6 with
        | bad m => subst h7 h8; exact key ⟨m, rfl, rfl⟩
        | ok m6 t6 =>
          simp only []
          have e7 : opt wUses 1 m6 = r7 := h7
          rw [e7]
          cases r7 with
          | bad m => subst h8; exact key ⟨m, rfl, rfl⟩
          | ok m7 u7 =>
            obtain rfl := hu m7 u7 rfl
            simp only []
            have e8 : take (isText wSemi) m7 = r8 := h8
            rw [e8]
            cases r8 with
            | bad m => exact key ⟨m, rfl, rfl⟩
            | ok m8 t8 =>
              refine ⟨hk.of (fun m x e => by cases e; exact ⟨_, rfl⟩) (fun m e => by cases e), fun e => ?_⟩
              subst e
              obtain ⟨x, hx⟩ := hk.isOk
              cases hx
              rfl
end
end ParP
end Go.Proofs.YtemhiiignamkjaaDoor
namespace Go.Proofs.YtemhiiignamkjaaDoor
open Go.RowKit LexP ParP
attribute [local go_sem] Oper.semAt_some

set_option maxRecDepth 100000 in
set_option maxHeartbeats 12800000 in
theorem rquorum_any {w : World} {B g n : Nat} {tv nm : Value} {st : St} {l : List Tok} {t : Tok} (hP : RdIs w B g n false tv nm st) (hT : TkAt w B tv l) (hg : B ≤ g) (hl : l.length ≤ 5000) (hst : st.quos.length ≤ 5000)
    (ht : l[n]? = some t) (htu : isText wQuorum t = true) (hW : ∀ t ∈ l, 0 < commandN t.text → isWordT t = true) :
    Calls Tryd.prog 33 #[.pointer (some ⟨g, 0, none⟩)] w (RdPost w B g tv nm l ((rdQuo (l.drop (n + 1))).bind fun r x => .ok r { st with quos := st.quos ++ [x] })) := by
  obtain ⟨vt, vr, vq, va, vf, vs, vk, hP, hR⟩ := hP
  obtain ⟨F, hF⟩ : ∃ F, st.ruls.map PRul.a = F := ⟨_, rfl⟩
  obtain ⟨S, hS⟩ : ∃ F, st.ruls.map PRul.b = F := ⟨_, rfl⟩
  obtain ⟨K, hK⟩ : ∃ F, st.ruls.map PRul.kind = F := ⟨_, rfl⟩
  obtain ⟨P, hPP⟩ : ∃ F, st.typs.map PTyp.name = F := ⟨_, rfl⟩
  rw [hF, hS, hK, hPP] at hR
  have hFH := Lib.hid hF
  have hSH := Lib.hid hS
  have hKH := Lib.hid hK
  have hPH := Lib.hid hPP
  clear hF hS hK hPP
  have hgl := hP.lt
  have hnl : n ≤ l.length := Nat.le_of_lt (List.getElem?_eq_some_iff.1 ht).1
  have hl2 : l.length ≤ 1048576 := Nat.le_trans hl (by decide)
  have hBg : Hid (B ≤ w.heap.size) := Nat.le_trans hg (Nat.le_of_lt hgl)
  have HP := Lib.hid hP
  have HR := Lib.hid hR
  have HT := Lib.hid hT
  have htH := Lib.hid ht
  have htuH := Lib.hid htu
  have hgH := Lib.hid hg
  have hWH := Lib.hid hW
  have hlQ : Hid (st.quos.length + 1 ≤ 1000000) := Nat.le_trans (Nat.succ_le_succ hst) (by decide)
  clear hP hT hst hR ht htu hg hW
  obtain ⟨A, c, rfl, hT'⟩ := id HT.out
  clear hT'
  go_enter Tryd.func33, Tryd.ntmps33
  go_wp2_with fail
  refine (rsign_any w g B n false ⟨#[113, 117, 111, 114, 117, 109]⟩ (.slice A l.length c) nm vt vr vq va vf vs vk l (Rd.ok (l.drop n) ()) HP.out HT.out (Sk.start hnl ()) hl2).mono ?_
  rintro e w1 ⟨rfl, n1, b1, hk1, hb1, hG1⟩
  obtain ⟨hn1, hbb⟩ := Sk.eq ((Sk.start hnl ()).yes (p := isText wQuorum) htH.out htuH.out).1 hk1
  subst hbb
  have hn1H := Lib.hid hn1
  obtain ⟨r1, hr1⟩ : ∃ r, thenTake (Rd.ok (l.drop n) ()) (isText ⟨#[113, 117, 111, 114, 117, 109]⟩) = r := ⟨_, rfl⟩
  rw [hr1] at hk1
  have Er1 := Lib.hid hr1
  have K1 := Lib.hid hk1
  clear hr1
  have L1 : Hid (Below B w w1) := grown_below hG1 hgH.out hgl
  have HR1 := Lib.hid (HR.out.set HP.out (by kernel_rfl) hG1)
  have HP1 := Lib.hid hb1
  have HT1 := Lib.hid (HT.out.below L1.out)
  have hn1l : n1 ≤ l.length := hk1.1
  clear hk1 hb1 hG1 hn1 HP HR
  have y0 := HP1.out.cell 0
  have y1 := HP1.out.cell 1
  by_cases hlt : n1 < l.length
  case neg =>
    have d2 : decide ((l.length : Int) ≤ (n1 : Int)) = true := decide_eq_true (by omega)
    have d3 : decide (l.length ≤ n1) = true := decide_eq_true (by omega)
    have hE : Hid ((rdQuo (l.drop (n + 1))).bind (fun r x => .ok r { st with quos := st.quos ++ [x] }) = .bad (l.drop n1)) := by
      unfold Hid rdQuo
      rw [← hn1H.out, List.drop_eq_nil_of_le (Nat.le_of_not_lt hlt)]
      rfl
    clear hlt
    go_wp2_with fail
    go_quiet (fail)
    go_upto_region 2 with fail
    refine world_is (P := fun W => Code.wp _ _ _ _ W) (fun W2 hW9 => ?_)
    have hB9 : Below w1.heap.size w1 W2 := by rw [← hW9]; exact ⟨rfl, rfl, rfl, Nat.le_refl _, fun _ _ => rfl⟩
    have HP2 := Lib.hid (HP1.out.below hB9 HP1.out.lt)
    have L2 := Lib.hid (L1.out.trans (hB9.mono (Nat.le_trans hBg.out L1.out.size)))
    clear hW9 hB9 y0 y1
    have z2 := HP2.out.cell 2
    have f2 := HP2.out.frozen 2
    go_wp2_with fail
    go_end0
    have hk9 : Sk l n1 true ((rdQuo (l.drop (n + 1))).bind (fun r x => .ok r { st with quos := st.quos ++ [x] })) := by rw [hE.out]; exact sk_bad hn1l
    exact rdPost_sk (L2.out.setCell (p := ⟨g, 2, none⟩) hgH.out _) hk9 (fun _ => ⟨_, _, _, _, _, _, _, _, HP2.out.set_ 2 _⟩) (fun _ e => by cases e)
  case pos =>
  obtain ⟨T, hTn⟩ : ∃ T, l[n1]? = some T := ⟨_, List.getElem?_eq_getElem hlt⟩
  obtain ⟨b, o, rfl, hbB, k0, k1, k2, k3⟩ := HT1.out.at_ n1 T hTn
  have hTH := Lib.hid hTn
  have d2 : decide ((l.length : Int) ≤ (n1 : Int)) = false := decide_eq_false (by omega)
  have d3 : decide (l.length ≤ n1) = false := decide_eq_false (by omega)
  have q0 : (0 : Int) ≤ (n1 : Int) := by omega
  have q1 : (n1 : Int) < (l.length : Int) := by omega
  obtain ⟨cm, hcm⟩ : ∃ k, commandN T.text = k := ⟨_, rfl⟩
  have hcmH := Lib.hid hcm
  have hBw1 : Hid (B ≤ w1.heap.size) := Nat.le_trans hBg.out L1.out.size
  clear hTn hcm k0 k2 k3 hlt
  cases hz : ((cm : Int) == 0)
  case true =>
    have hcm0 : cm = 0 := by rw [beq_iff_eq] at hz; omega
    have hE : Hid ((rdQuo (l.drop (n + 1))).bind (fun r x => .ok r { st with quos := st.quos ++ [x] }) = .bad (l.drop n1)) := by
      unfold Hid rdQuo
      rw [← hn1H.out, take_drop_no (p := isCommand) (fun t ht => by rw [hTH.out] at ht; cases ht; unfold isCommand; rw [hcmH.out, hcm0]; rfl)]
      rfl
    clear hcm0
    have hgl1 := HP1.out.lt
    have hbl1 : b < w1.heap.size := Nat.lt_of_lt_of_le hbB hBw1.out
    go_upto_region 1 with fail
    go_region_held3 (fun w' => w'.cell? ⟨g, 0, none⟩ = some (.slice (some ⟨b, o, none⟩) l.length c) ∧ w'.cell? ⟨g, 1, none⟩ = some (.int .i64 n1) ∧ w'.cell? ⟨b, o + n1 * 4 + 1, none⟩ = some (.string T.text)) (go_keep)
      (first | (go_at_call 19; refine (rCommand_any _ _).mono ?_; rintro e w2 ⟨rfl, hB2⟩; rw [hcmH.out]; have x0 := (hB2.cell (p := ⟨g, 0, none⟩) hgl1).trans y0; have x1 := (hB2.cell (p := ⟨g, 1, none⟩) hgl1).trans y1; have x2 := (hB2.cell (p := ⟨b, o + n1 * 4 + 1, none⟩) hbl1).trans k1))
    have hB9 : Below w1.heap.size w1 w2 := ⟨hB2.os, hB2.tape, hB2.output, hB2.size, hB2.block⟩
    have HP2 := Lib.hid (HP1.out.below hB9 HP1.out.lt)
    have L2 := Lib.hid (L1.out.trans (hB9.mono (Nat.le_trans hBg.out L1.out.size)))
    clear hB9 hB2 y0 y1 x0 x1 x2 k1
    have z2 := HP2.out.cell 2
    have f2 := HP2.out.frozen 2
    go_wp2_with fail
    go_end0
    have hk9 : Sk l n1 true ((rdQuo (l.drop (n + 1))).bind (fun r x => .ok r { st with quos := st.quos ++ [x] })) := by rw [hE.out]; exact sk_bad hn1l
    exact rdPost_sk (L2.out.setCell (p := ⟨g, 2, none⟩) hgH.out _) hk9 (fun _ => ⟨_, _, _, _, _, _, _, _, HP2.out.set_ 2 _⟩) (fun _ e => by cases e)
  case false =>
    have hcm1 : 0 < cm := by rw [beq_eq_false_iff_ne] at hz; omega
    have hcw : isWordT T = true := hWH.out T (List.mem_iff_getElem?.2 ⟨_, hTH.out⟩) (by rw [hcmH.out]; exact hcm1)
    have hcc : Hid (take isCommand (l.drop (n + 1)) = .ok (l.drop (n1 + 1)) T) := by
      unfold Hid
      rw [← hn1H.out]
      exact take_drop_yes hTH.out (by unfold isCommand; rw [hcmH.out]; exact decide_eq_true hcm1)
    have hcwH := Lib.hid hcw
    have hcc2 : Hid (take isCommand (l.drop (n + 1)) = .ok (l.drop (n + 2)) T) := by have e2 := hn1H.out; subst e2; exact hcc.out
    clear hcm1 hcw hcc
    have hgl1 := HP1.out.lt
    have hbl1 : b < w1.heap.size := Nat.lt_of_lt_of_le hbB hBw1.out
    go_upto_region 1 with fail
    go_region_held3 (fun w' => w'.cell? ⟨g, 0, none⟩ = some (.slice (some ⟨b, o, none⟩) l.length c) ∧ w'.cell? ⟨g, 1, none⟩ = some (.int .i64 n1) ∧ w'.cell? ⟨b, o + n1 * 4 + 1, none⟩ = some (.string T.text)) (go_keep)
      (first | (go_at_call 19; refine (rCommand_any _ _).mono ?_; rintro e w2 ⟨rfl, hB2⟩; rw [hcmH.out]; have x0 := (hB2.cell (p := ⟨g, 0, none⟩) hgl1).trans y0; have x1 := (hB2.cell (p := ⟨g, 1, none⟩) hgl1).trans y1; have x2 := (hB2.cell (p := ⟨b, o + n1 * 4 + 1, none⟩) hbl1).trans k1))
    have hB9 : Below w1.heap.size w1 w2 := ⟨hB2.os, hB2.tape, hB2.output, hB2.size, hB2.block⟩
    have HP2 := Lib.hid (HP1.out.below hB9 HP1.out.lt)
    have HR2 := Lib.hid (HR1.out.below hB9)
    have L2 := Lib.hid (L1.out.trans (hB9.mono (Nat.le_trans hBg.out L1.out.size)))
    have HT2 := Lib.hid (HT.out.below L2.out)
    clear hB9 hB2 y0 y1 x0 x1 x2 k1
    go_wp2_with fail
    refine (rtoken_any w2 g B n1 1 false isWordT (fun _ => rfl) (.slice (some ⟨b, o, none⟩) l.length c) nm vt vr vq va vf vs vk l r1 HP2.out HT2.out K1.out hgH.out hl2).mono ?_
    rintro e w3 ⟨rfl, n3, b3, hk3, hb3, hG3⟩
    have hy := K1.out.yes (p := isWordT) hTH.out hcwH.out
    obtain ⟨hn3, hbb⟩ := Sk.eq hy.1 hk3
    subst hbb
    rw [hy.2]
    obtain ⟨r2, hr2⟩ : ∃ r, thenTake r1 isWordT = r := ⟨_, rfl⟩
    rw [hr2] at hk3
    have E2 : Hid (r2 = .ok (l.drop (n + 2)) T) := by
      unfold Hid
      rw [← hr2]
      have e1 : r1 = .ok (l.drop (n + 1)) t := by rw [← Er1.out]; exact take_drop_yes htH.out htuH.out
      rw [e1]
      have e2 := hn1H.out
      subst e2
      exact take_drop_yes hTH.out hcwH.out
    clear hy hn3 hr2
    have K3 := Lib.hid hk3
    have L3 : Hid (Below B w w3) := L2.out.trans (grown_below hG3 hgH.out HP2.out.lt)
    have HR3 := Lib.hid (HR2.out.set HP2.out (by kernel_rfl) hG3)
    have HP3 := Lib.hid hb3
    have HT3 := Lib.hid (HT2.out.below (grown_below hG3 hgH.out HP2.out.lt))
    clear hk3 hb3 hG3 HP2 HR2 HT2 L2
    unfold tokAgg
    have hfd := tok_text (T.kind : Int) T.text (T.n : Int) (T.pos : Int)
    go_wp2_with fail
    refine (rCommand_any T.text w3).mono ?_
    rintro e w4 ⟨rfl, hB4⟩
    rw [hcmH.out]
    clear hfd
    go_upto_region 4 with fail
    refine world_is (P := fun W => Code.wp _ _ _ _ W) (fun W4 hW9 => ?_)
    have hB9 : Below w3.heap.size w3 W4 := by rw [← hW9]; exact hB4.alloc hB4.size _
    have Q4 : Hid (Blk W4 w4.heap.size 55 #[.int .i64 (cm : Int), .int .i64 0, .int .i64 0, .int .i64 0, .int .i64 1]) := by unfold Hid; rw [← hW9]; exact Blk.new _ _ _
    have HP4 := Lib.hid (HP3.out.below hB9 HP3.out.lt)
    have HR4 := Lib.hid (HR3.out.below hB9)
    have L4 := Lib.hid (L3.out.trans (hB9.mono (Nat.le_trans hBg.out L3.out.size)))
    have HT4 := Lib.hid (HT3.out.below (hB9.mono (Nat.le_trans hBg.out L3.out.size)))
    have hBq : Hid (B ≤ w4.heap.size) := Nat.le_trans (Nat.le_trans hBg.out L3.out.size) hB4.size
    have hgq : w4.heap.size ≠ g := Nat.ne_of_gt (Nat.lt_of_lt_of_le HP3.out.lt hB4.size)
    have hAp := Lib.hid (HR3.out.fresh hB4.size)
    obtain ⟨aq, ea⟩ : ∃ a, w4.heap.size = a := ⟨_, rfl⟩
    rw [ea] at Q4 hBq hgq hAp ⊢
    obtain ⟨n4, hn9⟩ : ∃ n, n3 = n := ⟨_, rfl⟩
    obtain ⟨b4, hb9⟩ : ∃ b, false = b := ⟨_, rfl⟩
    have K4 := Lib.hid K3.out
    rw [hn9, hb9] at HP4 K4
    clear hW9 hB9 hB4 HP3 HR3 HT3 L3 K3 ea hn9 hb9
    go_wp2_with fail
    refine (rtoken_any W4 g B n4 2 b4 isNumT (fun _ => rfl) (.slice (some ⟨b, o, none⟩) l.length c) nm vt vr vq va vf vs vk l r2 HP4.out HT4.out K4.out hgH.out hl2).mono ?_
    rintro e w5 ⟨rfl, n5, b5, hk5, hb5, hG5⟩
    obtain ⟨r3, hr9⟩ : ∃ r, thenTake r2 isNumT = r := ⟨_, rfl⟩
    rw [hr9] at hk5 ⊢
    have Er3 := Lib.hid hr9
    clear hr9
    obtain ⟨t5, ht9⟩ : ∃ t, tokV r3 = t := ⟨_, rfl⟩
    rw [ht9]
    have Vr3 := Lib.hid ht9
    clear ht9
    have K5 := Lib.hid hk5
    have L5 : Hid (Below B w w5) := L4.out.trans (grown_below hG5 hgH.out HP4.out.lt)
    have HR5 := Lib.hid (HR4.out.set HP4.out (by kernel_rfl) hG5)
    have HP5 := Lib.hid hb5
    have HT5 := Lib.hid (HT4.out.below (grown_below hG5 hgH.out HP4.out.lt))
    have Q5 := Lib.hid (Q4.out.grown hG5 (fun e => hgq (by cases e; rfl)))
    clear hk5 hb5 hG5 HP4 HR4 HT4 L4 Q4
    unfold tokAgg
    have hfd := tok_n (t5.kind : Int) t5.text (t5.n : Int) (t5.pos : Int)
    have cc := Q5.out.cell 1
    have ff := Q5.out.frozen 1
    go_upto_region 5 with fail
    refine world_is (P := fun W => Code.wp _ _ _ _ W) (fun W5 hW9 => ?_)
    have hG9 : w5.grownBy W5 (some aq) := by rw [← hW9]; exact grown_ofSet _ _ _ _
    have Q6 : Hid (Blk W5 aq 55 #[.int .i64 (cm : Int), .int .i64 (t5.n : Int), .int .i64 0, .int .i64 0, .int .i64 1]) := by unfold Hid; rw [← hW9]; exact Q5.out.set_ 1 _
    have L6 : Hid (Below B w W5) := L5.out.trans (grown_below hG9 hBq.out Q5.out.lt)
    have HR6 := Lib.hid (HR5.out.other hAp.out hG9)
    have HP6 := Lib.hid (HP5.out.grown hG9 (fun e => hgq (by cases e; rfl)))
    have HT6 := Lib.hid (HT5.out.below (grown_below hG9 hBq.out Q5.out.lt))
    have K6 := Lib.hid K5.out
    obtain ⟨n6, hn9⟩ : ∃ n, n5 = n := ⟨_, rfl⟩
    obtain ⟨b6, hb9⟩ : ∃ n, b5 = n := ⟨_, rfl⟩
    rw [hn9, hb9] at HP6 K6
    clear hW9 hG9 hn9 hb9 cc ff hfd HP5 HR5 HT5 L5 Q5 K5
    go_upto_if 43 with (go_at_call 29; refine (ris_any W5 g B n6 b6 ⟨#[97, 102, 116, 101, 114]⟩ (.slice (some ⟨b, o, none⟩) l.length c) nm vt vr vq va vf vs vk l HP6.out HT6.out).mono ?_; rintro e w7 ⟨rfl, hB7⟩)
    have L7 := Lib.hid (L6.out.trans (hB7.mono (Nat.le_trans hBg.out L6.out.size)))
    have HR7 := Lib.hid (HR6.out.below hB7)
    have HT7 := Lib.hid (HT6.out.below (hB7.mono (Nat.le_trans hBg.out L6.out.size)))
    have Q7 := Lib.hid (Q6.out.below hB7 Q6.out.lt)
    have HP7 := Lib.hid (HP6.out.below hB7 HP6.out.lt)
    clear hB7 HP6 HR6 HT6 L6 Q6
    obtain ⟨z7, hz7⟩ : ∃ z, isB l n6 ⟨#[97, 102, 116, 101, 114]⟩ = z := ⟨_, rfl⟩
    rw [hz7]
    have Z7 := Lib.hid hz7
    have K7 := Lib.hid K6.out
    clear hz7 K6
    obtain ⟨n7, hn9⟩ : ∃ n, n6 = n := ⟨_, rfl⟩
    obtain ⟨b7, hb9⟩ : ∃ n, b6 = n := ⟨_, rfl⟩
    rw [hn9, hb9] at HP7 K7
    rw [hn9] at Z7
    clear hn9 hb9
    go_cut [] from 44 (fun wx => ∃ (n9 : Nat) (b9 : Bool) (d : Nat), Hid (Sk l n9 b9 (thenOpt r3 wAfter 0)) ∧ Hid (∀ m x, thenOpt r3 wAfter 0 = .ok m x → x = d) ∧ Hid (Blk wx g 71 #[(.slice (some ⟨b, o, none⟩) l.length c), .int .i64 (n9 : Int), .bool b9, nm, vt, vr, vq, va, vf, vs, vk]) ∧ Hid (RowsA wx B (rdRows vt vr vq va vf vs vk st.typs [] st.quos P F S K)) ∧ Hid (Blk wx aq 55 #[.int .i64 (cm : Int), .int .i64 (t5.n : Int), .int .i64 (d : Int), .int .i64 0, .int .i64 1]) ∧ Hid (Below B w wx))
    case first =>
      cases z7
      case false =>
        go_wp2_with fail
        go_meet
        exact ⟨n7, b7, 0, (K7.out.opt_no (by kernel_rfl) Z7.out).1, (K7.out.opt_no (by kernel_rfl) Z7.out).2, HP7.out, HR7.out, Q7.out, L7.out⟩
      case true =>
        have K0 := Lib.hid K7.out
        go_wp2_with fail
        refine (rsign_any w7 g B n7 b7 ⟨#[97, 102, 116, 101, 114]⟩ (.slice (some ⟨b, o, none⟩) l.length c) nm vt vr vq va vf vs vk l r3 HP7.out HT7.out K7.out hl2).mono ?_
        rintro e w8 ⟨rfl, n8, b8, hk8, hb8, hG8⟩
        obtain ⟨ra, hr9⟩ : ∃ r, thenTake r3 (isText ⟨#[97, 102, 116, 101, 114]⟩) = r := ⟨_, rfl⟩
        rw [hr9] at hk8
        have Era := Lib.hid hr9
        clear hr9
        have K8 := Lib.hid hk8
        have L8 : Hid (Below B w w8) := L7.out.trans (grown_below hG8 hgH.out HP7.out.lt)
        have HR8 := Lib.hid (HR7.out.set HP7.out (by kernel_rfl) hG8)
        have HP8 := Lib.hid hb8
        have HT8 := Lib.hid (HT7.out.below (grown_below hG8 hgH.out HP7.out.lt))
        have Q8 := Lib.hid (Q7.out.grown hG8 (fun e => hgq (by cases e; rfl)))
        clear hk8 hb8 hG8 HP7 HR7 HT7 L7 Q7
        go_wp2_with fail
        refine (rtoken_any w8 g B n8 2 b8 isNumT (fun _ => rfl) (.slice (some ⟨b, o, none⟩) l.length c) nm vt vr vq va vf vs vk l ra HP8.out HT8.out K8.out hgH.out hl2).mono ?_
        rintro e w9 ⟨rfl, n9, b9, hk9, hb9, hG9⟩
        obtain ⟨rb, hr9⟩ : ∃ r, thenTake ra isNumT = r := ⟨_, rfl⟩
        rw [hr9] at hk9 ⊢
        have Erb := Lib.hid hr9
        clear hr9
        obtain ⟨t9, ht9⟩ : ∃ t, tokV rb = t := ⟨_, rfl⟩
        rw [ht9]
        have Vrb := Lib.hid ht9
        clear ht9
        have K9 := Lib.hid hk9
        have L9 : Hid (Below B w w9) := L8.out.trans (grown_below hG9 hgH.out HP8.out.lt)
        have HR9 := Lib.hid (HR8.out.set HP8.out (by kernel_rfl) hG9)
        have HP9 := Lib.hid hb9
        have HT9 := Lib.hid (HT8.out.below (grown_below hG9 hgH.out HP8.out.lt))
        have Q9 := Lib.hid (Q8.out.grown hG9 (fun e => hgq (by cases e; rfl)))
        clear hk9 hb9 hG9 HP8 HR8 HT8 L8 Q8
        unfold tokAgg
        have hfd := tok_n (t9.kind : Int) t9.text (t9.n : Int) (t9.pos : Int)
        have cc := Q9.out.cell 2
        have ff := Q9.out.frozen 2
        go_wp2_with fail
        go_meet
        have hG9 : w9.grownBy (w9.setCell ⟨aq, 2, none⟩ (.int .i64 (t9.n : Int))) (some aq) := grown_ofSet _ _ _ _
        have hy := K0.out.opt_yes (z := 0) (by kernel_rfl) Z7.out Era.out Erb.out K9.out
        exact ⟨n9, b9, t9.n, hy.1, fun m x e => by rw [hy.2 m x e, Vrb.out], HP9.out.grown hG9 (fun e => hgq (by cases e; rfl)), HR9.out.other hAp.out hG9, Q9.out.set_ 2 _, L9.out.trans (grown_below hG9 hBq.out Q9.out.lt)⟩
    case rest =>
      obtain ⟨n10, b10, d1, K10, D10, HP10, HR10, Q10, L10⟩ := hcut
      have HT10 := Lib.hid (HT.out.below L10.out)
      obtain ⟨wa, rfl⟩ : ∃ x, x = wc := ⟨_, rfl⟩
      obtain ⟨r4, hr9⟩ : ∃ x, thenOpt r3 wAfter 0 = x := ⟨_, rfl⟩
      rw [hr9] at K10 D10
      have Er4 := Lib.hid hr9
      clear hr9
      go_wp2_with fail
      refine (rsign_any wa g B n10 b10 ⟨#[119, 105, 116, 104, 105, 110]⟩ (.slice (some ⟨b, o, none⟩) l.length c) nm vt vr vq va vf vs vk l r4 HP10.out HT10.out K10.out hl2).mono ?_
      rintro e w11 ⟨rfl, n11, b11, hk11, hb11, hG11⟩
      obtain ⟨r5, hr9⟩ : ∃ r, thenTake r4 (isText ⟨#[119, 105, 116, 104, 105, 110]⟩) = r := ⟨_, rfl⟩
      rw [hr9] at hk11
      have Er5 := Lib.hid hr9
      clear hr9
      have K11 := Lib.hid hk11
      have L11 : Hid (Below B w w11) := L10.out.trans (grown_below hG11 hgH.out HP10.out.lt)
      have HR11 := Lib.hid (HR10.out.set HP10.out (by kernel_rfl) hG11)
      have HP11 := Lib.hid hb11
      have HT11 := Lib.hid (HT10.out.below (grown_below hG11 hgH.out HP10.out.lt))
      have Q11 := Lib.hid (Q10.out.grown hG11 (fun e => hgq (by cases e; rfl)))
      clear hk11 hb11 hG11 HP10 HR10 HT10 L10 Q10
      go_wp2_with fail
      refine (rtoken_any w11 g B n11 2 b11 isNumT (fun _ => rfl) (.slice (some ⟨b, o, none⟩) l.length c) nm vt vr vq va vf vs vk l r5 HP11.out HT11.out K11.out hgH.out hl2).mono ?_
      rintro e w12 ⟨rfl, n12, b12, hk12, hb12, hG12⟩
      obtain ⟨r6, hr9⟩ : ∃ r, thenTake r5 isNumT = r := ⟨_, rfl⟩
      rw [hr9] at hk12 ⊢
      have Er6 := Lib.hid hr9
      clear hr9
      obtain ⟨t12, ht9⟩ : ∃ t, tokV r6 = t := ⟨_, rfl⟩
      rw [ht9]
      have Vr6 := Lib.hid ht9
      clear ht9
      have K12 := Lib.hid hk12
      have L12 : Hid (Below B w w12) := L11.out.trans (grown_below hG12 hgH.out HP11.out.lt)
      have HR12 := Lib.hid (HR11.out.set HP11.out (by kernel_rfl) hG12)
      have HP12 := Lib.hid hb12
      have HT12 := Lib.hid (HT11.out.below (grown_below hG12 hgH.out HP11.out.lt))
      have Q12 := Lib.hid (Q11.out.grown hG12 (fun e => hgq (by cases e; rfl)))
      clear hk12 hb12 hG12 HP11 HR11 HT11 L11 Q11
      unfold tokAgg
      have hfd := tok_n (t12.kind : Int) t12.text (t12.n : Int) (t12.pos : Int)
      have cc := Q12.out.cell 3
      have ff := Q12.out.frozen 3
      go_upto_region 10 with fail
      refine world_is (P := fun W => Code.wp _ _ _ _ W) (fun W12 hW9 => ?_)
      have hG9 : w12.grownBy W12 (some aq) := by rw [← hW9]; exact grown_ofSet _ _ _ _
      have Q13 : Hid (Blk W12 aq 55 #[.int .i64 (cm : Int), .int .i64 (t5.n : Int), .int .i64 (d1 : Int), .int .i64 (t12.n : Int), .int .i64 1]) := by unfold Hid; rw [← hW9]; exact Q12.out.set_ 3 _
      have L13 : Hid (Below B w W12) := L12.out.trans (grown_below hG9 hBq.out Q12.out.lt)
      have HR13 := Lib.hid (HR12.out.other hAp.out hG9)
      have HP13 := Lib.hid (HP12.out.grown hG9 (fun e => hgq (by cases e; rfl)))
      have HT13 := Lib.hid (HT12.out.below (grown_below hG9 hBq.out Q12.out.lt))
      have K13 := Lib.hid K12.out
      obtain ⟨n13, hn9⟩ : ∃ n, n12 = n := ⟨_, rfl⟩
      obtain ⟨b13, hb9⟩ : ∃ n, b12 = n := ⟨_, rfl⟩
      rw [hn9, hb9] at HP13 K13
      clear hW9 hG9 hn9 hb9 cc ff hfd HP12 HR12 HT12 L12 Q12 K12
      go_upto_if 57 with (go_at_call 29; refine (ris_any W12 g B n13 b13 ⟨#[117, 115, 101, 115]⟩ (.slice (some ⟨b, o, none⟩) l.length c) nm vt vr vq va vf vs vk l HP13.out HT13.out).mono ?_; rintro e w14 ⟨rfl, hB14⟩)
      have L14 := Lib.hid (L13.out.trans (hB14.mono (Nat.le_trans hBg.out L13.out.size)))
      have HR14 := Lib.hid (HR13.out.below hB14)
      have HT14 := Lib.hid (HT13.out.below (hB14.mono (Nat.le_trans hBg.out L13.out.size)))
      have Q14 := Lib.hid (Q13.out.below hB14 Q13.out.lt)
      have HP14 := Lib.hid (HP13.out.below hB14 HP13.out.lt)
      clear hB14 HP13 HR13 HT13 L13 Q13
      obtain ⟨z14, hz14⟩ : ∃ z, isB l n13 ⟨#[117, 115, 101, 115]⟩ = z := ⟨_, rfl⟩
      rw [hz14]
      have Z14 := Lib.hid hz14
      have K14 := Lib.hid K13.out
      clear hz14 K13
      obtain ⟨n14, hn9⟩ : ∃ n, n13 = n := ⟨_, rfl⟩
      obtain ⟨b14, hb9⟩ : ∃ n, b13 = n := ⟨_, rfl⟩
      rw [hn9, hb9] at HP14 K14
      rw [hn9] at Z14
      clear hn9 hb9
      go_cut [] from 58 (fun wx => ∃ (n9 : Nat) (b9 : Bool) (d : Nat), Hid (Sk l n9 b9 (thenOpt r6 wUses 1)) ∧ Hid (∀ m x, thenOpt r6 wUses 1 = .ok m x → x = d) ∧ Hid (Blk wx g 71 #[(.slice (some ⟨b, o, none⟩) l.length c), .int .i64 (n9 : Int), .bool b9, nm, vt, vr, vq, va, vf, vs, vk]) ∧ Hid (RowsA wx B (rdRows vt vr vq va vf vs vk st.typs [] st.quos P F S K)) ∧ Hid (Blk wx aq 55 #[.int .i64 (cm : Int), .int .i64 (t5.n : Int), .int .i64 (d1 : Int), .int .i64 (t12.n : Int), .int .i64 (d : Int)]) ∧ Hid (Below B w wx))
      case first =>
        cases z14
        case false =>
          go_wp2_with fail
          go_meet
          exact ⟨n14, b14, 1, (K14.out.opt_no (by kernel_rfl) Z14.out).1, (K14.out.opt_no (by kernel_rfl) Z14.out).2, HP14.out, HR14.out, Q14.out, L14.out⟩
        case true =>
          have K0 := Lib.hid K14.out
          go_wp2_with fail
          refine (rsign_any w14 g B n14 b14 ⟨#[117, 115, 101, 115]⟩ (.slice (some ⟨b, o, none⟩) l.length c) nm vt vr vq va vf vs vk l r6 HP14.out HT14.out K14.out hl2).mono ?_
          rintro e w15 ⟨rfl, n15, b15, hk15, hb15, hG15⟩
          obtain ⟨rc, hr9⟩ : ∃ r, thenTake r6 (isText ⟨#[117, 115, 101, 115]⟩) = r := ⟨_, rfl⟩
          rw [hr9] at hk15
          have Erc := Lib.hid hr9
          clear hr9
          have K15 := Lib.hid hk15
          have L15 : Hid (Below B w w15) := L14.out.trans (grown_below hG15 hgH.out HP14.out.lt)
          have HR15 := Lib.hid (HR14.out.set HP14.out (by kernel_rfl) hG15)
          have HP15 := Lib.hid hb15
          have HT15 := Lib.hid (HT14.out.below (grown_below hG15 hgH.out HP14.out.lt))
          have Q15 := Lib.hid (Q14.out.grown hG15 (fun e => hgq (by cases e; rfl)))
          clear hk15 hb15 hG15 HP14 HR14 HT14 L14 Q14
          go_wp2_with fail
          refine (rtoken_any w15 g B n15 2 b15 isNumT (fun _ => rfl) (.slice (some ⟨b, o, none⟩) l.length c) nm vt vr vq va vf vs vk l rc HP15.out HT15.out K15.out hgH.out hl2).mono ?_
          rintro e w16 ⟨rfl, n16, b16, hk16, hb16, hG16⟩
          obtain ⟨rd, hr9⟩ : ∃ r, thenTake rc isNumT = r := ⟨_, rfl⟩
          rw [hr9] at hk16 ⊢
          have Erd := Lib.hid hr9
          clear hr9
          obtain ⟨t16, ht9⟩ : ∃ t, tokV rd = t := ⟨_, rfl⟩
          rw [ht9]
          have Vrd := Lib.hid ht9
          clear ht9
          have K16 := Lib.hid hk16
          have L16 : Hid (Below B w w16) := L15.out.trans (grown_below hG16 hgH.out HP15.out.lt)
          have HR16 := Lib.hid (HR15.out.set HP15.out (by kernel_rfl) hG16)
          have HP16 := Lib.hid hb16
          have HT16 := Lib.hid (HT15.out.below (grown_below hG16 hgH.out HP15.out.lt))
          have Q16 := Lib.hid (Q15.out.grown hG16 (fun e => hgq (by cases e; rfl)))
          clear hk16 hb16 hG16 HP15 HR15 HT15 L15 Q15
          unfold tokAgg
          have hfd := tok_n (t16.kind : Int) t16.text (t16.n : Int) (t16.pos : Int)
          have cc := Q16.out.cell 4
          have ff := Q16.out.frozen 4
          go_wp2_with fail
          go_meet
          have hG9 : w16.grownBy (w16.setCell ⟨aq, 4, none⟩ (.int .i64 (t16.n : Int))) (some aq) := grown_ofSet _ _ _ _
          have hy := K0.out.opt_yes (z := 1) (by kernel_rfl) Z14.out Erc.out Erd.out K16.out
          exact ⟨n16, b16, t16.n, hy.1, fun m x e => by rw [hy.2 m x e, Vrd.out], HP16.out.grown hG9 (fun e => hgq (by cases e; rfl)), HR16.out.other hAp.out hG9, Q16.out.set_ 4 _, L16.out.trans (grown_below hG9 hBq.out Q16.out.lt)⟩
      case rest =>
        obtain ⟨n20, b20, d2, K20, D20, HP20, HR20, Q20, L20⟩ := hcut
        have HT20 := Lib.hid (HT.out.below L20.out)
        obtain ⟨we, rfl⟩ : ∃ x, x = wc := ⟨_, rfl⟩
        obtain ⟨r7, hr9⟩ : ∃ x, thenOpt r6 wUses 1 = x := ⟨_, rfl⟩
        rw [hr9] at K20 D20
        have Er7 := Lib.hid hr9
        clear hr9
        go_wp2_with fail
        refine (rsign_any we g B n20 b20 ⟨#[59]⟩ (.slice (some ⟨b, o, none⟩) l.length c) nm vt vr vq va vf vs vk l r7 HP20.out HT20.out K20.out hl2).mono ?_
        rintro e w21 ⟨rfl, n21, b21, hk21, hb21, hG21⟩
        obtain ⟨r8, hr9⟩ : ∃ r, thenTake r7 (isText ⟨#[59]⟩) = r := ⟨_, rfl⟩
        rw [hr9] at hk21
        have Er8 := Lib.hid hr9
        clear hr9
        have K21 := Lib.hid hk21
        have L21 : Hid (Below B w w21) := L20.out.trans (grown_below hG21 hgH.out HP20.out.lt)
        have HR21 := Lib.hid (HR20.out.set HP20.out (by kernel_rfl) hG21)
        have HP21 := Lib.hid hb21
        have HT21 := Lib.hid (HT20.out.below (grown_below hG21 hgH.out HP20.out.lt))
        have Q21 := Lib.hid (Q20.out.grown hG21 (fun e => hgq (by cases e; rfl)))
        clear hk21 hb21 hG21 HP20 HR20 HT20 L20 Q20
        obtain ⟨Aq, Cq, hv9⟩ := HR21.out.slice (i := 2) rfl
        dsimp only at hv9
        subst hv9
        go_upto_region 14 with fail
        refine Late.wp_region_late (S := fun w' => w'.cell? ⟨g, 6, none⟩ = some ((.slice Aq st.quos.length Cq)) ∧ w'.cell? ⟨aq, 0, none⟩ = some (.int .i64 (cm : Int)) ∧ w'.cell? ⟨aq, 1, none⟩ = some (.int .i64 (t5.n : Int)) ∧ w'.cell? ⟨aq, 2, none⟩ = some (.int .i64 (d1 : Int)) ∧ w'.cell? ⟨aq, 3, none⟩ = some (.int .i64 (t12.n : Int)) ∧ w'.cell? ⟨aq, 4, none⟩ = some (.int .i64 (d2 : Int))) [12] (by kernel_rfl) (⟨HP21.out.cell 6, Q21.out.cell 0, Q21.out.cell 1, Q21.out.cell 2, Q21.out.cell 3, Q21.out.cell 4⟩) (fun hHeld => ?_)
        refine' Late.wpAnyK_take (i := 0) (v := ?v0xp) rfl (by kernel_rfl) (by kernel_rfl) (by kernel_rfl) (by kernel_rfl) (by kernel_rfl) (fun _ _ _ h => h) (Or.inl ⟨by rfl, ?hy0xp⟩) hHeld ?rest0xp
        case hy0xp => intro w hSw; (try dsimp only at hSw); go_simp; all_goals with_reducible rfl
        try simp only [Act.put, List.setIfInBounds_toArray, List.set_cons_zero, List.set_cons_succ, List.getElem_toArray, List.getElem_cons_zero]
        refine' Late.wpAnyK_take (i := 1) (v := ?v1xp) rfl (by kernel_rfl) (by kernel_rfl) (by kernel_rfl) (by kernel_rfl) (by kernel_rfl) (fun _ _ _ h => h) (Or.inl ⟨by rfl, ?hy1xp⟩) hHeld ?rest1xp
        case hy1xp => intro w hSw; (try dsimp only at hSw); go_simp; all_goals with_reducible rfl
        try simp only [Act.put, List.setIfInBounds_toArray, List.set_cons_zero, List.set_cons_succ, List.getElem_toArray, List.getElem_cons_zero, List.getElem_cons_succ]
        refine' Late.wpAnyK_take (i := 2) (v := ?v2xp) rfl (by kernel_rfl) (by kernel_rfl) (by kernel_rfl) (by kernel_rfl) (by kernel_rfl) (fun _ _ _ h => h) (Or.inl ⟨by rfl, ?hy2xp⟩) hHeld ?rest2xp
        case hy2xp => intro w hSw; (try dsimp only at hSw); go_simp; all_goals with_reducible rfl
        try simp only [Act.put, List.setIfInBounds_toArray, List.set_cons_zero, List.set_cons_succ, List.getElem_toArray, List.getElem_cons_zero, List.getElem_cons_succ]
        refine' Late.wpAnyK_take (i := 3) (v := ?v3xp) rfl (by kernel_rfl) (by kernel_rfl) (by kernel_rfl) (by kernel_rfl) (by kernel_rfl) (fun _ _ _ h => h) (Or.inl ⟨by rfl, ?hy3xp⟩) hHeld ?rest3xp
        case hy3xp => intro w hSw; (try dsimp only at hSw); go_simp; all_goals with_reducible rfl
        try simp only [Act.put, List.setIfInBounds_toArray, List.set_cons_zero, List.set_cons_succ, List.getElem_toArray, List.getElem_cons_zero, List.getElem_cons_succ]
        refine' Late.wpAnyK_take (i := 4) (v := ?v4xp) rfl (by kernel_rfl) (by kernel_rfl) (by kernel_rfl) (by kernel_rfl) (by kernel_rfl) (fun _ _ _ h => h) (Or.inl ⟨by rfl, ?hy4xp⟩) hHeld ?rest4xp
        case hy4xp => intro w hSw; (try dsimp only at hSw); go_simp; all_goals with_reducible rfl
        try simp only [Act.put, List.setIfInBounds_toArray, List.set_cons_zero, List.set_cons_succ, List.getElem_toArray, List.getElem_cons_zero, List.getElem_cons_succ]
        refine' Late.wpAnyK_take (i := 5) (v := ?v5xp) rfl (by kernel_rfl) (by kernel_rfl) (by kernel_rfl) (by kernel_rfl) (by kernel_rfl) (fun _ _ _ h => h) (Or.inl ⟨by rfl, ?hy5xp⟩) hHeld ?rest5xp
        case hy5xp => intro w hSw; (try dsimp only at hSw); go_simp; all_goals with_reducible rfl
        try simp only [Act.put, List.setIfInBounds_toArray, List.set_cons_zero, List.set_cons_succ, List.getElem_toArray, List.getElem_cons_zero, List.getElem_cons_succ]
        refine' Late.wpAnyK_take (i := 6) (v := ?v6xp) rfl (by kernel_rfl) (by kernel_rfl) (by kernel_rfl) (by kernel_rfl) (by kernel_rfl) (fun _ _ _ h => h) (Or.inl ⟨by rfl, ?hy6xp⟩) hHeld ?rest6xp
        case hy6xp => intro w hSw; (try dsimp only at hSw); go_simp; all_goals with_reducible rfl
        try simp only [Act.put, List.setIfInBounds_toArray, List.set_cons_zero, List.set_cons_succ, List.getElem_toArray, List.getElem_cons_zero, List.getElem_cons_succ]
        refine Late.wpAnyK_ready (rs := [7]) (by kernel_rfl) (by simp) ?_
        refine Late.AllReadyK.cons rfl (fun KQ hKQ => ?_) Late.AllReadyK.nil
        go_simp
        refine world_is (P := fun W => KQ _ W) (fun x1 hw9 => ?_)
        have hB9 : Below w21.heap.size w21 x1 := by rw [← hw9]; first | exact (Below.refl _ _).alloc (Nat.le_refl _) _ | exact ((Below.refl _ _).alloc (Nat.le_refl _) _).drew | exact (Below.refl _ _).drew.alloc (Nat.le_refl _) _
        have Fx1 : Hid (Blk x1 w21.heap.size 55 #[.int .i64 (cm : Int), .int .i64 (t5.n : Int), .int .i64 (d1 : Int), .int .i64 (t12.n : Int), .int .i64 (d2 : Int)]) := by unfold Hid; rw [← hw9]; exact Blk.new _ _ _
        have Px1 : Hid (Blk x1 g 71 #[(.slice (some ⟨b, o, none⟩) l.length c), .int .i64 (n21 : Int), .bool b21, nm, vt, vr, .slice Aq st.quos.length Cq, va, vf, vs, vk]) := by unfold Hid; exact HP21.out.below hB9 HP21.out.lt
        have Rx1 : Hid (RowsA x1 B (rdRows vt vr (.slice Aq st.quos.length Cq) va vf vs vk st.typs [] st.quos P F S K)) := by unfold Hid; exact HR21.out.below hB9
        have E0x1 : Hid (Blk x1 aq 55 #[.int .i64 (cm : Int), .int .i64 (t5.n : Int), .int .i64 (d1 : Int), .int .i64 (t12.n : Int), .int .i64 (d2 : Int)]) := by unfold Hid; exact Q21.out.below hB9 Q21.out.lt
        have Lx1 : Hid (Below B w x1) := by unfold Hid; exact L21.out.trans (hB9.mono (Nat.le_trans hBg.out L21.out.size))
        clear hw9 hB9
        refine hKQ.out _ _ (⟨Px1.out.cell 6, E0x1.out.cell 0, E0x1.out.cell 1, E0x1.out.cell 2, E0x1.out.cell 3, E0x1.out.cell 4⟩) (fun hHeld2 => ?_)
        clear hKQ KQ hHeld
        have hHeld := hHeld2
        clear hHeld2
        try simp only [Act.put, List.setIfInBounds_toArray, List.set_cons_zero, List.set_cons_succ, List.getElem_toArray, List.getElem_cons_zero, List.getElem_cons_succ]
        refine Late.wpAnyK_ready (rs := [8]) (by kernel_rfl) (by simp) ?_
        refine Late.AllReadyK.cons rfl (fun KQ hKQ => ?_) Late.AllReadyK.nil
        refine wp_gcat_own 25 55 (.agg #[.int .i64 0, .int .i64 0, .int .i64 0, .int .i64 0, .int .i64 0]) 5 40 Tryd.underlying25 (by kernel_rfl) rfl (by decide) (by decide) _ _ rfl B (.slice Aq st.quos.length Cq) (st.quos.length) (quosC st.quos) rfl (Rx1.out.own 2 _ rfl) (w21.heap.size) 1 1 [.int .i64 (cm : Int), .int .i64 (t5.n : Int), .int .i64 (d1 : Int), .int .i64 (t12.n : Int), .int .i64 (d2 : Int)] rfl rfl Fx1.out (by intro u hu; simp only [List.mem_cons, List.not_mem_nil, or_false] at hu; rcases hu with rfl | rfl | rfl | rfl | rfl <;> rfl) hlQ.out (Nat.le_trans hBg.out Lx1.out.size) ?_
        intro vx2 x2 hrow9 hG9 hO9
        have Rx2 : Hid (RowsA x2 B (List.set (rdRows vt vr (.slice Aq st.quos.length Cq) va vf vs vk st.typs [] st.quos P F S K) 2 ⟨55, 5, vx2, st.quos.length + 1, quosC st.quos ++ [.int .i64 (cm : Int),.int .i64 (t5.n : Int),.int .i64 (d1 : Int),.int .i64 (t12.n : Int),.int .i64 (d2 : Int)]⟩)) := by unfold Hid; exact Rx1.out.push (i := 2) rfl hrow9 hG9 hO9
        have Px2 : Hid (Blk x2 g 71 #[(.slice (some ⟨b, o, none⟩) l.length c), .int .i64 (n21 : Int), .bool b21, nm, vt, vr, .slice Aq st.quos.length Cq, va, vf, vs, vk]) := by unfold Hid; exact Px1.out.grown hG9 (Ne.symm (Rx1.out.ne Px1.out (by kernel_rfl) 2 _ rfl))
        have E0x2 : Hid (Blk x2 aq 55 #[.int .i64 (cm : Int), .int .i64 (t5.n : Int), .int .i64 (d1 : Int), .int .i64 (t12.n : Int), .int .i64 (d2 : Int)]) := by unfold Hid; exact E0x1.out.grown hG9 (Ne.symm (hAp.out 2 _ rfl))
        have Lx2 : Hid (Below B w x2) := by unfold Hid; exact Lx1.out.grown hG9 (Nat.le_trans hBg.out Lx1.out.size) (fun j e => ((Rx1.out.own 2 _ rfl).lt j e).1)
        obtain ⟨Ax2, Cx2, hv9⟩ := Rx2.out.slice (i := 2) rfl
        dsimp only at hv9
        subst hv9
        clear hrow9 hG9 hO9
        refine hKQ.out _ _ (⟨Px2.out.cell 6, E0x2.out.cell 0, E0x2.out.cell 1, E0x2.out.cell 2, E0x2.out.cell 3, E0x2.out.cell 4⟩) (fun hHeld2 => ?_)
        clear hKQ KQ hHeld
        have hHeld := hHeld2
        clear hHeld2
        try simp only [Act.put, List.setIfInBounds_toArray, List.set_cons_zero, List.set_cons_succ, List.getElem_toArray, List.getElem_cons_zero, List.getElem_cons_succ]
        refine' Late.wpAnyK_take (i := 9) (v := ?v9xq) rfl (by kernel_rfl) (by kernel_rfl) (by kernel_rfl) (by kernel_rfl) (by kernel_rfl) (fun _ _ _ h => h) (Or.inl ⟨by rfl, ?hy9xq⟩) hHeld ?rest9xq
        case hy9xq => intro w hSw; (try dsimp only at hSw); go_simp; all_goals with_reducible rfl
        try simp only [Act.put, List.setIfInBounds_toArray, List.set_cons_zero, List.set_cons_succ, List.getElem_toArray, List.getElem_cons_zero, List.getElem_cons_succ]
        refine' Late.wpAnyK_take (i := 10) (v := ?v10xq) rfl (by kernel_rfl) (by kernel_rfl) (by kernel_rfl) (by kernel_rfl) (by kernel_rfl) (fun _ _ _ h => h) (Or.inl ⟨by rfl, ?hy10xq⟩) hHeld ?rest10xq
        case hy10xq => intro w hSw; (try dsimp only at hSw); go_simp; all_goals with_reducible rfl
        try simp only [Act.put, List.setIfInBounds_toArray, List.set_cons_zero, List.set_cons_succ, List.getElem_toArray, List.getElem_cons_zero, List.getElem_cons_succ]
        refine' Late.wpAnyK_take (i := 11) (v := ?v11xq) rfl (by kernel_rfl) (by kernel_rfl) (by kernel_rfl) (by kernel_rfl) (by kernel_rfl) (fun _ _ _ h => h) (Or.inl ⟨by rfl, ?hy11xq⟩) hHeld ?rest11xq
        case hy11xq => intro w hSw; (try dsimp only at hSw); go_simp; all_goals with_reducible rfl
        try simp only [Act.put, List.setIfInBounds_toArray, List.set_cons_zero, List.set_cons_succ, List.getElem_toArray, List.getElem_cons_zero, List.getElem_cons_succ]
        refine Late.wpAnyK_ready (rs := [12]) (by kernel_rfl) (by simp) ?_
        refine Late.AllReadyK.late rfl (by kernel_rfl) (fun KQ hKQ => ?_)
        have c9 : x2.cell? ⟨g, 6, none⟩ = some ((.slice Aq st.quos.length Cq)) := Px2.out.cell 6
        have f9 := Px2.out.frozen 6
        go_simp
        clear c9 f9
        refine world_is (P := fun W => KQ _ W) (fun x3 hw9 => ?_)
        have hG9 : x2.grownBy x3 (some g) := by rw [← hw9]; exact grown_ofSet _ _ _ _
        have Px3 : Hid (Blk x3 g 71 #[(.slice (some ⟨b, o, none⟩) l.length c), .int .i64 (n21 : Int), .bool b21, nm, vt, vr, (.slice Ax2 (st.quos.length + 1) Cx2), va, vf, vs, vk]) := by unfold Hid; rw [← hw9]; exact Px2.out.set_ 6 _
        have Rx3 : Hid (RowsA x3 B (rdRows vt vr (.slice Ax2 (st.quos.length + 1) Cx2) va vf vs vk st.typs [] (st.quos ++ [⟨cm, t5.n, d1, t12.n, d2⟩]) P F S K)) := by unfold Hid; exact (Rx2.out.set Px2.out (by kernel_rfl) hG9).cast (by simp [rdRows, quosC_snoc])
        have E0x3 : Hid (Blk x3 aq 55 #[.int .i64 (cm : Int), .int .i64 (t5.n : Int), .int .i64 (d1 : Int), .int .i64 (t12.n : Int), .int .i64 (d2 : Int)]) := by unfold Hid; exact E0x2.out.grown hG9 (by intro e9; cases e9; exact hgq rfl)
        have Lx3 : Hid (Below B w x3) := by unfold Hid; exact Lx2.out.trans (grown_below hG9 hgH.out Px2.out.lt)
        clear hw9 hG9
        refine hKQ.out _ _ ?_
        clear hKQ KQ
        try simp only [Act.put, List.setIfInBounds_toArray, List.set_cons_zero, List.set_cons_succ, List.getElem_toArray, List.getElem_cons_zero, List.getElem_cons_succ]
        refine Late.wpAnyK_done (by kernel_rfl) ?_ _
        go_wp2_with fail
        go_end0
        have hfin := sk_quo E2.out hcc2.out Er3.out Er4.out Er5.out Er6.out Er7.out Er8.out D10.out D20.out K21.out st
        refine rdPost_sk Lx3.out hfin.1 (fun e => ?_) (fun st2 e hst2 => ?_)
        · rw [e] at Px3
          exact ⟨_, _, _, _, _, _, _, _, Px3.out⟩
        · rw [hfin.2 e] at hst2
          cases hst2
          rw [e] at Px3
          refine ⟨_, _, _, _, _, _, _, Px3.out, Rx3.out.cast ?_⟩
          rw [← hFH.out, ← hSH.out, ← hKH.out, ← hPH.out, Vr3.out, Vr6.out, hcmH.out]
end Go.Proofs.YtemhiiignamkjaaDoor
