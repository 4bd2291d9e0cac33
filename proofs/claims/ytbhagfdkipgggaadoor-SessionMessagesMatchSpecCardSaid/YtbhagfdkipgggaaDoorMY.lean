/-
  Layer 29 (session), the specification: the opening, the code of a hello, the session key, Greet.
  Layer 29 (session), the specification: Accept.
-/
import Derived.Test.YtbhagfdkipgggaaDoorMQ
import Derived.Test.YtbhagfdkipgggaaDoorMX
import Derived.Test.YtbhagfdkipgggaaDoorMI
import Derived.Test.YtbhagfdkipgggaaDoorMB
import Derived.Test.YtbhagfdkipgggaaDoorMJ
namespace Go.Proofs.YtbhagfdkipgggaaDoor
open Go.RowKit Go.Shelf
attribute [local go_sem] Oper.semAt_some
theorem ropening_any (w : World) (s n : ByteArray) (role : Int) :
    Calls Tryd.prog 40 #[.string s, .int .i64 role, .string n] w fun e w' => e = .returned (.bool (decide (Opens s role n))) ∧ w = w' := by
  have HW : Hid (∀ (wx : World), Calls Tryd.prog 44 #[.int .i64 role, .int .i64 1, .int .i64 3] wx fun e w' => e = .returned (.bool (decide (1 ≤ role ∧ role ≤ 3))) ∧ wx = w') := fun wx => rwithin_any wx role 1 3
  by_cases h1 : s.size = 32
  · have e1 : ((s.size : Int) == 32) = true := by rw [h1]; rfl
    by_cases h2 : 1 ≤ role ∧ role ≤ 3
    · rw [decide_eq_true h2] at HW
      by_cases h4 : n.size = 16
      · have e4 : ((n.size : Int) == 16) = true := by rw [h4]; rfl
        rw [decide_eq_true (show Opens s role n from ⟨h1, h2.1, h2.2, h4⟩)]
        clear h1 h2 h4
        go_enter Tryd.func40, Tryd.ntmps40
        go_wp2_with (first | (go_at_call 44; refine (HW.out _).mono ?_; rintro e w1 ⟨rfl, rfl⟩) | fail)
        go_ret
        exact ⟨rfl, rfl⟩
      · have e4 : ((n.size : Int) == 16) = false := by rw [beq_eq_false_iff_ne]; omega
        rw [decide_eq_false (show ¬ Opens s role n from fun h => h4 h.2.2.2)]
        clear h1 h2 h4
        go_enter Tryd.func40, Tryd.ntmps40
        go_wp2_with (first | (go_at_call 44; refine (HW.out _).mono ?_; rintro e w1 ⟨rfl, rfl⟩) | fail)
        go_ret
        exact ⟨rfl, rfl⟩
    · rw [decide_eq_false h2] at HW
      rw [decide_eq_false (show ¬ Opens s role n from fun h => h2 ⟨h.2.1, h.2.2.1⟩)]
      clear h1 h2
      go_enter Tryd.func40, Tryd.ntmps40
      go_wp2_with (first | (go_at_call 44; refine (HW.out _).mono ?_; rintro e w1 ⟨rfl, rfl⟩) | fail)
      go_ret
      exact ⟨rfl, rfl⟩
  · have e1 : ((s.size : Int) == 32) = false := by rw [beq_eq_false_iff_ne]; omega
    rw [decide_eq_false (show ¬ Opens s role n from fun h => h1 h.1)]
    clear h1 HW
    go_enter Tryd.func40, Tryd.ntmps40
    go_wp2_with fail
    go_ret
    exact ⟨rfl, rfl⟩
set_option maxRecDepth 100000 in
set_option maxHeartbeats 1600000 in
theorem rcode_any (w : World) (s n : ByteArray) (role : Nat) (hr : role ≤ 3) (hs : s.size = 32) (hn : n.size = 16) (hK : KAt w 0) :
    Calls Tryd.prog 41 #[.string s, .int .i64 role, .string n] w fun e w' => e = .returned (.string (txt (helloL (bl s) role (bl n)))) ∧ Below w.heap.size w w' := by
  obtain ⟨D, hDe⟩ : ∃ D, txt (deriveL (bl s) sHello []) = D := ⟨_, rfl⟩
  have hDb : bl D = deriveL (bl s) sHello [] := by rw [← hDe]; rfl
  have hDs : D.size = 32 := by rw [← bl_len, hDb, deriveL_len]
  obtain ⟨X, hXe⟩ : ∃ X, txt (intsL [role] ++ bytesL (bl n)) = X := ⟨_, rfl⟩
  have hXb : bl X = intsL [role] ++ bytesL (bl n) := by rw [← hXe]; rfl
  have l1 := intsL_le [role]
  have l2 := bytesL_le (bl n)
  rw [bl_len] at l2
  have hXs : X.size ≤ 100 := by rw [← bl_len, hXb, List.length_append]; simp at l1; omega
  have HD : Hid (∀ wx, Below w.heap.size w wx → Calls Tryd.prog 67 #[.string s, .string ⟨#[104, 101, 108, 108, 111]⟩, .slice none 0 0] wx fun e w' => e = .returned (.string D) ∧ Below wx.heap.size wx w') := fun wx hB => by
    have h := rderive_any wx s ⟨#[104, 101, 108, 108, 111]⟩ none 0 0 [] rfl (by decide) (by intro x hx; cases hx) (.inl rfl) (hK.below hB) (by omega) (by decide)
    rw [← hDe]
    exact h
  have HI : Hid (Calls Tryd.prog 65 #[.slice (some ⟨w.heap.size, 0, none⟩) 1 1] (w.alloc (.cells #[.int .i64 (role : Int)] 3)) fun e w' => ∃ v, e = .returned v ∧ BRow w' w.heap.size v (intsL [role]) ∧ Below w.heap.size w w') := by
    have hB := (Below.refl w.heap.size w).alloc (Nat.le_refl _) (.cells #[.int .i64 (role : Int)] 3)
    refine (rints_any _ w.heap.size 0 1 1 [role] rfl (by decide) (by intro x hx; simp at hx; omega) (nats1 w role)).mono ?_
    rintro e w' ⟨v, rfl, hR, hB2⟩
    exact ⟨v, rfl, hR.more hB.size, hB.trans (hB2.mono hB.size)⟩
  have HM : Hid (∀ wx, Below w.heap.size w wx → Calls Tryd.prog 46 #[.string D, .string X] wx fun e w' => e = .returned (.string (txt (macL (bl D) (bl X)))) ∧ Below wx.heap.size wx w') := fun wx hB => rmac_any wx D X (by omega) (by omega) (hK.below hB)
  have hms : Hid ((txt (macL (bl D) (bl X))).size = 32) := by unfold Hid; rw [txt_size, macL_len]
  have hxt : Hid ((txt (macL (bl D) (bl X))).extract 0 16 = txt (helloL (bl s) role (bl n))) := by
    have h := txt_head (macL (bl D) (bl X)) 16
    unfold Hid helloL codeL
    rw [← hDb, ← hXb]
    exact h
  generalize txt (macL (bl D) (bl X)) = M at *
  have n2 : (16 : Int) ≤ (M.size : Int) := by have := hms.out; omega
  have hlen : Hid ((intsL [role]).length + (bytesL (bl n)).length < 100000000000) := by unfold Hid; simp at l1; omega
  have hnH := Lib.hid hn
  have hXeH := Lib.hid hXe
  clear hDe hDb hDs hXe hXb l1 l2 hXs hms hr hs hn hK
  go_enter Tryd.func41, Tryd.ntmps41
  go_upto_region 3 with (first
    | (go_at_call 65; refine HI.out.mono ?_; rintro e w1 ⟨v1, rfl, hR, hB⟩; have HR1 := Lib.hid hR; have HB1 := Lib.hid hB; clear hR hB)
    | (go_at_call 66; refine (rbytes_any w1 n (by have := hnH.out; omega)).mono ?_; rintro e w2 ⟨v2, rfl, hR, hB⟩; obtain ⟨g2, c2, rfl, hg2, hg2l⟩ := hR.slice (bytesL_ne (bl n)); have HR1b := Lib.hid (HR1.out.below hB); have HR2 := Lib.hid hR.bytesAt; have HB2 := Lib.hid (HB1.out.trans (hB.mono HB1.out.size)); clear hR hB hg2 hg2l)
    | (at_builtin; refine wp_cat rfl _ _ rfl w.heap.size v1 (intsL [role]) rfl HR1b.out g2 0 c2 (bytesL (bl n)) rfl HR2.out hlen.out HB2.out.size ?_; intro v3 w3 hP; have hcv : (convert 65 9 v3).run Tryd.prog w3 = .ok (.string (txt (intsL [role] ++ bytesL (bl n)))) w3 := conv_row hP.row; rw [hXeH.out] at hcv; have HR3 : Hid (∀ wx, Below w3.heap.size w3 wx → (convert 65 9 v3).run Tryd.prog wx = .ok (.string X) wx) := (fun wx hB => (by have h : (convert 65 9 v3).run Tryd.prog wx = .ok (.string (txt (intsL [role] ++ bytesL (bl n)))) wx := conv_row (hP.row.below hB); rw [hXeH.out] at h; exact h)); have HB3 := Lib.hid (hP.bel _ _ (Nat.le_refl _) HB2.out.size HB2.out); clear hP hcv)
    | fail)
  clear HI HR1 HR1b HR2
  have HB3d := Lib.hid HB3.out.drew
  refine wp_region_held_drew (S := (fun wx => (convert 65 9 v3).run Tryd.prog wx = .ok (.string X) wx)) (by kernel_rfl) (HR3.out _ (Below.refl _ w3).drew) (fun hHeld => ?_)
  refine' wpAnyH_take (i := 0) (v := ?v0) rfl (by kernel_rfl) (by kernel_rfl) (by kernel_rfl) (fun _ _ _ h => h) (Or.inl ⟨by go_simp, ?hy0⟩) hHeld ?rest0
  case hy0 =>
    intro w hSw
    try dsimp only at hSw
    go_simp
    all_goals with_reducible rfl
  try simp only [Act.put, List.setIfInBounds_toArray, List.set_cons_zero, List.set_cons_succ, List.getElem_toArray, List.getElem_cons_zero]
  refine' wpAnyH_take (i := 2) (v := ?v2) rfl (by kernel_rfl) (by kernel_rfl) (by kernel_rfl) (fun _ _ _ h => h) (Or.inl ⟨by go_simp, ?hy2⟩) hHeld ?rest2
  case hy2 =>
    intro w hSw
    try dsimp only at hSw
    go_simp
    all_goals with_reducible rfl
  try simp only [Act.put, List.setIfInBounds_toArray, List.set_cons_zero, List.set_cons_succ, List.getElem_toArray, List.getElem_cons_zero, List.getElem_cons_succ]
  refine' wpAnyH_take (i := 3) (v := ?v3) rfl (by kernel_rfl) (by kernel_rfl) (by kernel_rfl) (fun _ _ _ h => h) (Or.inl ⟨by go_simp, ?hy3⟩) hHeld ?rest3
  case hy3 =>
    intro w hSw
    try dsimp only at hSw
    go_simp
    all_goals with_reducible rfl
  try simp only [Act.put, List.setIfInBounds_toArray, List.set_cons_zero, List.set_cons_succ, List.getElem_toArray, List.getElem_cons_zero, List.getElem_cons_succ]
  refine wpAnyH_ready (rs := [1]) (by kernel_rfl) (by simp) ?_
  refine AllReadyH.cons rfl (fun K hK => ?_) AllReadyH.nil
  go_simp
  go_at_call 67
  refine (HD.out _ HB3d.out).mono ?_
  rintro e w4 ⟨rfl, hB⟩
  have HB4 := Lib.hid (HB3d.out.trans (hB.mono HB3d.out.size))
  have HC4 := Lib.hid ((Below.refl _ w3).drew.trans hB)
  clear hB
  go_wp2_with fail
  refine hK.out _ _ ?_ (fun hHeld2 => ?_)
  · exact HR3.out _ HC4.out
  clear hK K hHeld
  have hHeld := hHeld2
  clear hHeld2
  try simp only [Act.put, List.setIfInBounds_toArray, List.set_cons_zero, List.set_cons_succ, List.getElem_toArray, List.getElem_cons_zero, List.getElem_cons_succ]
  refine wpAnyH_ready (rs := [4]) (by kernel_rfl) (by simp) ?_
  refine AllReadyH.cons rfl (fun K hK => ?_) AllReadyH.nil
  go_simp
  go_at_call 46
  refine (HM.out _ HB4.out).mono ?_
  rintro e w5 ⟨rfl, hB⟩
  have HB5 := Lib.hid (HB4.out.trans (hB.mono HB4.out.size))
  have HC5 := Lib.hid (HC4.out.trans (hB.mono HC4.out.size))
  clear hB
  go_wp2_with fail
  refine hK.out _ _ ?_ (fun hHeld2 => ?_)
  · exact HR3.out _ HC5.out
  clear hK K hHeld
  have hHeld := hHeld2
  clear hHeld2
  try simp only [Act.put, List.setIfInBounds_toArray, List.set_cons_zero, List.set_cons_succ, List.getElem_toArray, List.getElem_cons_zero, List.getElem_cons_succ]
  refine' wpAnyH_take (i := 5) (v := ?v5) rfl (by kernel_rfl) (by kernel_rfl) (by kernel_rfl) (fun _ _ _ h => h) (Or.inl ⟨by go_simp, ?hy5⟩) hHeld ?rest5
  case hy5 =>
    intro w hSw
    try dsimp only at hSw
    go_simp
    all_goals with_reducible rfl
  try simp only [Act.put, List.setIfInBounds_toArray, List.set_cons_zero, List.set_cons_succ, List.getElem_toArray, List.getElem_cons_zero, List.getElem_cons_succ]
  refine' wpAnyH_take (i := 6) (v := ?v6) rfl (by kernel_rfl) (by kernel_rfl) (by kernel_rfl) (fun _ _ _ h => h) (Or.inl ⟨by go_simp, ?hy6⟩) hHeld ?rest6
  case hy6 =>
    intro w hSw
    try dsimp only at hSw
    go_simp
    all_goals with_reducible rfl
  try simp only [Act.put, List.setIfInBounds_toArray, List.set_cons_zero, List.set_cons_succ, List.getElem_toArray, List.getElem_cons_zero, List.getElem_cons_succ]
  refine wpAnyH_done (by kernel_rfl) ?_ _
  clear hHeld
  go_wp2_with fail
  go_ret
  exact ⟨by rw [← hxt.out]; rfl, HB5.out⟩
set_option maxRecDepth 100000 in
set_option maxHeartbeats 1600000 in
theorem rskey_any (w : World) (s n nonce tag : ByteArray) (r i : Nat) (hr : r ≤ 3) (hi : i ≤ 64) (hs : s.size = 32) (hn : n.size = 16) (hh : nonce.size = 16) (hK : KAt w 0) :
    Calls Tryd.prog 45 #[.string s, .agg #[.int .i64 (r : Int), .string nonce, .string tag], .int .i64 i, .string n] w fun e w' => e = .returned (.string (txt (skeyL (bl s) r i nonce n))) ∧ Below w.heap.size w w' := by
  obtain ⟨X, hX⟩ : ∃ X, txt (intsL [r, i]) = X := ⟨_, rfl⟩
  have hXs : X.size ≤ 27 := by rw [← hX, txt_size]; have := intsL_le [r, i]; simpa using this
  have HI : Hid (∀ wx, Calls Tryd.prog 65 #[.slice (some ⟨wx.heap.size, 0, none⟩) 2 2] (wx.alloc (.cells #[.int .i64 (r : Int), .int .i64 (i : Int)] 3)) fun e w' => ∃ v, e = .returned v ∧ (convert 65 9 v).run Tryd.prog w' = .ok (.string X) w' ∧ Below wx.heap.size wx w') := fun wx => by
    have hB := (Below.refl wx.heap.size wx).alloc (Nat.le_refl _) (.cells #[.int .i64 (r : Int), .int .i64 (i : Int)] 3)
    refine (rints_any _ wx.heap.size 0 2 2 [r, i] rfl (by decide) (by intro x hx; simp at hx; rcases hx with rfl | rfl <;> omega) (nats2 wx r i)).mono ?_
    rintro e w' ⟨v, rfl, hR, hB2⟩
    exact ⟨v, rfl, by rw [← hX]; exact conv_row hR, hB.trans (hB2.mono hB.size)⟩
  have HD : Hid (∀ wx, Below w.heap.size w wx → Calls Tryd.prog 67 #[.string s, .string ⟨#[115, 101, 115, 115, 105, 111, 110]⟩, .slice (some ⟨wx.heap.size, 0, none⟩) 3 3] (wx.alloc (.cells #[.string X, .string nonce, .string n] 9)) fun e w' => e = .returned (.string (txt (skeyL (bl s) r i nonce n))) ∧ Below wx.heap.size wx w') := fun wx hBx => by
    have hB := (Below.refl wx.heap.size wx).alloc (Nat.le_refl _) (.cells #[.string X, .string nonce, .string n] 9)
    have h := rderive_any (wx.alloc (.cells #[.string X, .string nonce, .string n] 9)) s ⟨#[115, 101, 115, 115, 105, 111, 110]⟩ (some ⟨wx.heap.size, 0, none⟩) 3 3 [X, nonce, n] rfl (by decide) (by intro x hx; simp at hx; rcases hx with rfl | rfl | rfl <;> omega) (lit_texts wx [X, nonce, n]) ((hK.below hBx).below hB) (by omega) (by decide)
    refine h.mono ?_
    rintro e w' ⟨he, hB2⟩
    refine ⟨?_, hB.trans (hB2.mono hB.size)⟩
    rw [he, ← hX]
    rfl
  generalize txt (skeyL (bl s) r i nonce n) = T at *
  clear hX hXs hr hi hs hn hh hK
  go_enter Tryd.func45, Tryd.ntmps45
  go_upto_region 1 with fail
  refine world_is (P := fun W => Code.wp _ _ _ _ W) (fun W1 hW1 => ?_)
  have HHB : Hid (Blk W1 w.heap.size 23 #[.int .i64 (r : Int), .string nonce, .string tag]) := by unfold Hid; rw [← hW1]; exact Blk.new w _ _
  have HBel : Hid (Below w.heap.size w W1) := by unfold Hid; rw [← hW1]; exact (Below.refl w.heap.size w).alloc (Nat.le_refl _) _
  clear hW1
  have c0 := HHB.out.cell 0
  go_wp2_with (first
    | (go_at_call 65; refine (HI.out W1).mono ?_; rintro e w2 ⟨v, rfl, hcv, hB⟩; have HH2 := Lib.hid (HHB.out.below hB HHB.out.lt); have c1 := HH2.out.cell 1; have HB2 := Lib.hid (HBel.out.trans (hB.mono HBel.out.size)); clear hB)
    | (go_at_call 67; refine (HD.out w2 HB2.out).mono ?_; rintro e w3 ⟨rfl, hB⟩; have HB3 := Lib.hid (HB2.out.trans (hB.mono HB2.out.size)); clear hB)
    | fail)
  go_ret
  exact ⟨rfl, HB3.out⟩
theorem rgreet_any (w : World) (s n : ByteArray) (role : Int) (hK : KAt w 0) :
    Calls Tryd.prog 12 #[.string s, .int .i64 role, .string n] w fun e w' => e = .returned (.tuple #[helV (greetP s role n).1, .int .i64 ((greetP s role n).2 : Nat)]) ∧ Below w.heap.size w w' := by
  have HO : Hid (∀ wx, Calls Tryd.prog 40 #[.string s, .int .i64 role, .string n] wx fun e w' => e = .returned (.bool (decide (Opens s role n))) ∧ wx = w') := fun wx => ropening_any wx s n role
  by_cases hO : Opens s role n
  · rw [decide_eq_true hO] at HO
    obtain ⟨h1, h2, h3, h4⟩ := hO
    obtain ⟨r, rfl⟩ : ∃ r : Nat, role = (r : Int) := ⟨role.toNat, by omega⟩
    have hg : greetP s (r : Int) n = (⟨(r : Int), n, txt (helloL (bl s) r (bl n))⟩, 0) := by
      unfold greetP
      rw [if_pos ⟨h1, h2, h3, h4⟩]
      rfl
    rw [hg]
    have HH : Hid (∀ wx, Below w.heap.size w wx → Calls Tryd.prog 41 #[.string s, .int .i64 r, .string n] wx fun e w' => e = .returned (.string (txt (helloL (bl s) r (bl n)))) ∧ Below wx.heap.size wx w') := fun wx hB => rcode_any wx s n r (by omega) h1 h4 (hK.below hB)
    clear hg hK
    generalize txt (helloL (bl s) r (bl n)) = T at *
    go_enter Tryd.func12, Tryd.ntmps12
    go_wp2_with (first
      | (go_at_call 40; refine (HO.out _).mono ?_; rintro e w1 ⟨rfl, rfl⟩)
      | (go_at_call 41; refine (HH.out _ ((Below.refl w.heap.size w).alloc (Nat.le_refl _) _)).mono ?_; rintro e w2 ⟨rfl, hB⟩; have hb2 := (Blk.new w 23 #[.int .i64 0, .string ⟨#[]⟩, .string ⟨#[]⟩]).below hB (by rw [World.size_alloc]; exact Nat.lt_succ_self _); have f0 := hb2.frozen 0; have f1 := hb2.frozen 1; have f2 := hb2.frozen 2; have z0 := hb2.cell 0; have z1 := hb2.cell 1; have z2 := hb2.cell 2; have hb2H := Lib.hid hb2; have HB2 := Lib.hid (((Below.refl w.heap.size w).alloc (Nat.le_refl _) _).trans (hB.mono (by rw [World.size_alloc]; exact Nat.le_succ _))); clear hb2 hB)
      | fail)
    have hL := ((hb2H.out.set_ 0 (.int .i64 (r : Int))).set_ 1 (.string n)).set_ 2 (.string T)
    have hBL := ((HB2.out.setCell (p := ⟨w.heap.size, 0, none⟩) (Nat.le_refl _) (.int .i64 (r : Int))).setCell (p := ⟨w.heap.size, 1, none⟩) (Nat.le_refl _) (.string n)).setCell (p := ⟨w.heap.size, 2, none⟩) (Nat.le_refl _) (.string T)
    exact bodyPost_ret (v := .tuple #[.agg #[.int .i64 (r : Int), .string n, .string T], .int .i64 0]) (results_ct (P := Tryd.prog) (p := 6) (q := 7) rfl _ _ w.heap.size 23 _ _ rfl hL Tryd.underlying23 rfl infoHel) rfl ⟨rfl, hBL⟩
  · have hg : greetP s role n = (noHel, 1) := by
      unfold greetP
      rw [if_neg hO]
    rw [hg]
    rw [decide_eq_false hO] at HO
    clear hg hK hO
    go_enter Tryd.func12, Tryd.ntmps12
    go_wp2_with (first
      | (go_at_call 40; refine (HO.out _).mono ?_; rintro e w1 ⟨rfl, rfl⟩)
      | fail)
    have hL := Blk.new w 23 #[.int .i64 0, .string ⟨#[]⟩, .string ⟨#[]⟩]
    have hBL := (Below.refl w.heap.size w).alloc (Nat.le_refl _) (.cells #[.int .i64 0, .string ⟨#[]⟩, .string ⟨#[]⟩] 23)
    exact bodyPost_ret (v := .tuple #[.agg #[.int .i64 0, .string ⟨#[]⟩, .string ⟨#[]⟩], .int .i64 1]) (results_ct (P := Tryd.prog) (p := 6) (q := 7) rfl _ _ w.heap.size 23 _ _ rfl hL Tryd.underlying23 rfl infoHel) rfl ⟨rfl, hBL⟩
end Go.Proofs.YtbhagfdkipgggaaDoor
namespace Go.Proofs.YtbhagfdkipgggaaDoor
open Go.RowKit Go.Shelf
attribute [local go_sem] Oper.semAt_some
def accC (r : Ses × Wel × Nat) : List Value := sesC r.1 ++ welC r.2.1 ++ [.int .i64 (r.2.2 : Nat)]
def accV (r : Ses × Wel × Nat) : Value := .agg (accC r).toArray
theorem accC_one (r : Ses × Wel × Nat) : ∀ v ∈ accC r, v.oneCell' = true := by
  intro v hv
  unfold accC sesC welC at hv
  simp only [List.cons_append, List.nil_append, List.mem_cons, List.not_mem_nil, or_false] at hv
  rcases hv with rfl | rfl | rfl | rfl | rfl | rfl | rfl | rfl | rfl | rfl | rfl <;> rfl
theorem infoAcc : (Tryd.prog.info? 36).map (·.size) = some 11 := by kernel_rfl
def zAcc : Array Value := #[.int .i64 0, .int .i64 0, .int .i64 0, .string ⟨#[]⟩, .int .i64 0, .int .i64 0, .int .u64 0, .int .i64 0, .string ⟨#[]⟩, .string ⟨#[]⟩, .int .i64 0]
theorem toList_ne {a b : ByteArray} (h : ¬ a = b) : (a.toList == b.toList) = false := by
  rw [beq_eq_false_iff_ne]
  intro e
  rw [ByteArray.toList_eq, ByteArray.toList_eq] at e
  exact h (ByteArray.ext (Array.ext' e))
theorem data_ne {a b : ByteArray} (h : ¬ a = b) : (a.data.toList == b.data.toList) = false := by
  rw [beq_eq_false_iff_ne]
  intro e
  exact h (ByteArray.ext (Array.ext' e))
theorem accept_bad (s : ByteArray) (h : Hel) (id : Int) (n : ByteArray) (hb : ¬ (Opens s h.role h.nonce ∧ 1 ≤ id ∧ id ≤ 64 ∧ n.size = 16)) : acceptP s h id n = (noSes, noWel, 1) := by
  unfold acceptP startP
  rw [if_neg hb]
  rfl
theorem accept_good (s : ByteArray) (r : Nat) (tag nonce : ByteArray) (i : Nat) (n : ByteArray) (h1 : s.size = 32) (h2 : 1 ≤ r) (h3 : r ≤ 3) (h4 : nonce.size = 16) (h5 : 1 ≤ i) (h6 : i ≤ 64) (h7 : n.size = 16) (hT : tag = txt (helloL (bl s) r (bl nonce))) :
    acceptP s ⟨(r : Int), nonce, tag⟩ (i : Int) n = (⟨(i : Int), (r : Int), 2, txt (skeyL (bl s) r i nonce n), 0, 0, 0⟩, ⟨(i : Int), n, txt (welcomeL (skeyL (bl s) r i nonce n))⟩, 0) := by
  have hst : startP s ⟨(r : Int), nonce, tag⟩ (i : Int) 2 n = (⟨(i : Int), (r : Int), 2, txt (skeyL (bl s) r i nonce n), 0, 0, 0⟩, txt (welcomeL (skeyL (bl s) r i nonce n)), 0) := by
    unfold startP
    rw [if_pos ⟨⟨h1, by dsimp only; omega, by dsimp only; omega, h4⟩, by omega, by omega, h7⟩]
    rfl
  unfold acceptP
  rw [hst]
  dsimp only
  rw [if_pos rfl, Int.toNat_natCast, if_pos hT]
theorem accept_tag (s : ByteArray) (r : Nat) (tag nonce : ByteArray) (i : Nat) (n : ByteArray) (hO : Opens s (r : Int) nonce ∧ 1 ≤ (i : Int) ∧ (i : Int) ≤ 64 ∧ n.size = 16) (hT : ¬ tag = txt (helloL (bl s) r (bl nonce))) :
    acceptP s ⟨(r : Int), nonce, tag⟩ (i : Int) n = (noSes, noWel, 8) := by
  have hst : startP s ⟨(r : Int), nonce, tag⟩ (i : Int) 2 n = (⟨(i : Int), (r : Int), 2, txt (skeyL (bl s) r i nonce n), 0, 0, 0⟩, txt (welcomeL (skeyL (bl s) r i nonce n)), 0) := by
    unfold startP
    rw [if_pos hO]
    rfl
  unfold acceptP
  rw [hst]
  dsimp only
  rw [if_pos rfl, Int.toNat_natCast, if_neg hT]
set_option maxRecDepth 100000 in
set_option maxHeartbeats 6400000 in
theorem raccept_any (w : World) (s n : ByteArray) (h : Hel) (id : Int) (hK : KAt w 0) :
    Calls Tryd.prog 14 #[.string s, helV h, .int .i64 id, .string n] w fun e w' => e = .returned (accV (acceptP s h id n)) ∧ Below w.heap.size w w' := by
  obtain ⟨role, nonce, tag⟩ := h
  have HO : Hid (∀ wx, Calls Tryd.prog 40 #[.string s, .int .i64 role, .string nonce] wx fun e w' => e = .returned (.bool (decide (Opens s role nonce))) ∧ wx = w') := fun wx => ropening_any wx s nonce role
  have HW : Hid (∀ (wx : World), Calls Tryd.prog 44 #[.int .i64 id, .int .i64 1, .int .i64 64] wx fun e w' => e = .returned (.bool (decide (1 ≤ id ∧ id ≤ 64))) ∧ wx = w') := fun wx => rwithin_any wx id 1 64
  by_cases hO : Opens s role nonce
  · rw [decide_eq_true hO] at HO
    by_cases h2 : 1 ≤ id ∧ id ≤ 64
    · rw [decide_eq_true h2] at HW
      by_cases h3 : n.size = 16
      · obtain ⟨hs, r1, r2, hns⟩ := hO
        obtain ⟨r, rfl⟩ : ∃ r : Nat, role = (r : Int) := ⟨role.toNat, by omega⟩
        obtain ⟨i, rfl⟩ : ∃ i : Nat, id = (i : Int) := ⟨id.toNat, by omega⟩
        have HC : Hid (∀ wx, Below w.heap.size w wx → Calls Tryd.prog 41 #[.string s, .int .i64 (r : Int), .string nonce] wx fun e w' => e = .returned (.string (txt (helloL (bl s) r (bl nonce)))) ∧ Below wx.heap.size wx w') := fun wx hB => rcode_any wx s nonce r (by omega) hs hns (hK.below hB)
        by_cases hT : tag = txt (helloL (bl s) r (bl nonce))
        · have hP := accept_good s r tag nonce i n hs (by omega) (by omega) hns (by omega) (by omega) h3 hT
          rw [hP]
          have q1 : tag = txt (helloL (bl s) r (bl nonce)) := hT
          rw [← hT] at HC
          clear q1 hT
          have HSK : Hid (∀ wx, Below w.heap.size w wx → Calls Tryd.prog 45 #[.string s, .agg #[.int .i64 (r : Int), .string nonce, .string tag], .int .i64 (i : Int), .string n] wx fun e w' => e = .returned (.string (txt (skeyL (bl s) r i nonce n))) ∧ Below wx.heap.size wx w') := fun wx hB => rskey_any wx s n nonce tag r i (by omega) (by omega) hs h3 hns (hK.below hB)
          obtain ⟨KS, hKe⟩ : ∃ K, txt (skeyL (bl s) r i nonce n) = K := ⟨_, rfl⟩
          have hKb : bl KS = skeyL (bl s) r i nonce n := by rw [← hKe]; rfl
          have hKs : KS.size = 32 := by rw [← bl_len, hKb]; exact deriveL_len _ _ _
          have HM : Hid (∀ wx, Below w.heap.size w wx → Calls Tryd.prog 46 #[.string KS, .string ⟨#[119, 101, 108, 99, 111, 109, 101]⟩] wx fun e w' => e = .returned (.string (txt (macL (bl KS) sWelcome))) ∧ Below wx.heap.size wx w') := fun wx hB => rmac_any wx KS ⟨#[119, 101, 108, 99, 111, 109, 101]⟩ (by omega) (by decide) (hK.below hB)
          have hms : Hid ((txt (macL (bl KS) sWelcome)).size = 32) := by unfold Hid; rw [txt_size, macL_len]
          obtain ⟨WT, hWT⟩ : ∃ T, txt (welcomeL (skeyL (bl s) r i nonce n)) = T := ⟨_, rfl⟩
          have hxt : Hid ((txt (macL (bl KS) sWelcome)).extract 0 16 = WT) := by
            have h := txt_head (macL (bl KS) sWelcome) 16
            unfold Hid
            rw [← hWT, ← hKb]
            exact h
          generalize txt (macL (bl KS) sWelcome) = M at *
          have n2 : (16 : Int) ≤ (M.size : Int) := by have := hms.out; omega
          rw [hKe] at HSK ⊢
          rw [hWT]
          have e4 : ((n.size : Int) != 16) = false := by rw [h3]; rfl
          have e5 : (tag.toList == tag.toList) = true := beq_self_eq_true _
          clear hP hK hs r1 r2 hns hKe hKb hKs hms hWT h2 h3
          unfold helV helC accV accC sesC welC
          dsimp only
          go_enter Tryd.func14, Tryd.ntmps14
          go_upto_region 1 with fail
          refine world_is (P := fun W => Code.wp _ _ _ _ W) (fun W1 hW1 => ?_)
          have HHB : Hid (Blk W1 w.heap.size 23 #[.int .i64 (r : Int), .string nonce, .string tag]) := by unfold Hid; rw [← hW1]; exact (Blk.new w _ _).alloc _
          have HR : Hid (Blk W1 (w.heap.size + 1) 36 zAcc) := by unfold Hid; rw [← hW1]; exact blk_new2 _ _ _ _
          have HBel : Hid (Below w.heap.size w W1) := by unfold Hid; rw [← hW1]; exact ((Below.refl w.heap.size w).alloc (Nat.le_refl _) _).alloc (by rw [World.size_alloc]; exact Nat.le_succ _) _
          clear hW1
          have c0 := HHB.out.cell 0
          have c1 := HHB.out.cell 1
          have HS : Hid (∀ wx, Below W1.heap.size W1 wx → wx.cell? ⟨w.heap.size, 0, none⟩ = some (.int .i64 (r : Int)) ∧ wx.cell? ⟨w.heap.size, 1, none⟩ = some (.string nonce) ∧ wx.cell? ⟨w.heap.size, 2, none⟩ = some (.string tag)) := fun wx hB => ⟨(HHB.out.below hB HHB.out.lt).cell 0, (HHB.out.below hB HHB.out.lt).cell 1, (HHB.out.below hB HHB.out.lt).cell 2⟩
          go_upto_region 4 with (first | (go_at_call 40; refine (HO.out _).mono ?_; rintro e w9 ⟨rfl, rfl⟩) | (go_at_call 44; refine (HW.out _).mono ?_; rintro e w9 ⟨rfl, rfl⟩) | fail)
          refine wp_region_held_drew (S := (fun wx => wx.cell? ⟨w.heap.size, 0, none⟩ = some (.int .i64 (r : Int)) ∧ wx.cell? ⟨w.heap.size, 1, none⟩ = some (.string nonce) ∧ wx.cell? ⟨w.heap.size, 2, none⟩ = some (.string tag))) (by kernel_rfl) (HS.out _ (Below.refl _ W1).drew) (fun hHeld => ?_)
          refine' wpAnyH_take (i := 0) (v := ?v0A) rfl (by kernel_rfl) (by kernel_rfl) (by kernel_rfl) (fun _ _ _ h => h) (Or.inl ⟨by rfl, ?hy0A⟩) hHeld ?rest0A
          case hy0A =>
            intro w hSw
            try dsimp only at hSw
            go_simp
            all_goals with_reducible rfl
          try simp only [Act.put, List.setIfInBounds_toArray, List.set_cons_zero, List.set_cons_succ, List.getElem_toArray, List.getElem_cons_zero]
          refine' wpAnyH_take (i := 1) (v := ?v1A) rfl (by kernel_rfl) (by kernel_rfl) (by kernel_rfl) (fun _ _ _ h => h) (Or.inl ⟨by rfl, ?hy1A⟩) hHeld ?rest1A
          case hy1A =>
            intro w hSw
            try dsimp only at hSw
            go_simp
            all_goals with_reducible rfl
          try simp only [Act.put, List.setIfInBounds_toArray, List.set_cons_zero, List.set_cons_succ, List.getElem_toArray, List.getElem_cons_zero, List.getElem_cons_succ]
          refine' wpAnyH_take (i := 2) (v := ?v2A) rfl (by kernel_rfl) (by kernel_rfl) (by kernel_rfl) (fun _ _ _ h => h) (Or.inl ⟨by rfl, ?hy2A⟩) hHeld ?rest2A
          case hy2A =>
            intro w hSw
            try dsimp only at hSw
            go_simp
            all_goals with_reducible rfl
          try simp only [Act.put, List.setIfInBounds_toArray, List.set_cons_zero, List.set_cons_succ, List.getElem_toArray, List.getElem_cons_zero, List.getElem_cons_succ]
          refine' wpAnyH_take (i := 3) (v := ?v3A) rfl (by kernel_rfl) (by kernel_rfl) (by kernel_rfl) (fun _ _ _ h => h) (Or.inl ⟨by rfl, ?hy3A⟩) hHeld ?rest3A
          case hy3A =>
            intro w hSw
            try dsimp only at hSw
            go_simp
            all_goals with_reducible rfl
          try simp only [Act.put, List.setIfInBounds_toArray, List.set_cons_zero, List.set_cons_succ, List.getElem_toArray, List.getElem_cons_zero, List.getElem_cons_succ]
          refine' wpAnyH_take (i := 4) (v := ?v4A) rfl (by kernel_rfl) (by kernel_rfl) (by kernel_rfl) (fun _ _ _ h => h) (Or.inl ⟨by rfl, ?hy4A⟩) hHeld ?rest4A
          case hy4A =>
            intro w hSw
            try dsimp only at hSw
            go_simp
            all_goals with_reducible rfl
          try simp only [Act.put, List.setIfInBounds_toArray, List.set_cons_zero, List.set_cons_succ, List.getElem_toArray, List.getElem_cons_zero, List.getElem_cons_succ]
          refine' wpAnyH_take (i := 5) (v := ?v5A) rfl (by kernel_rfl) (by kernel_rfl) (by kernel_rfl) (fun _ _ _ h => h) (Or.inl ⟨by rfl, ?hy5A⟩) hHeld ?rest5A
          case hy5A =>
            intro w hSw
            try dsimp only at hSw
            go_simp
            all_goals with_reducible rfl
          try simp only [Act.put, List.setIfInBounds_toArray, List.set_cons_zero, List.set_cons_succ, List.getElem_toArray, List.getElem_cons_zero, List.getElem_cons_succ]
          refine' wpAnyH_take (i := 6) (v := ?v6A) rfl (by kernel_rfl) (by kernel_rfl) (by kernel_rfl) (fun _ _ _ h => h) (Or.inl ⟨by rfl, ?hy6A⟩) hHeld ?rest6A
          case hy6A =>
            intro w hSw
            try dsimp only at hSw
            go_simp
            all_goals with_reducible rfl
          try simp only [Act.put, List.setIfInBounds_toArray, List.set_cons_zero, List.set_cons_succ, List.getElem_toArray, List.getElem_cons_zero, List.getElem_cons_succ]
          refine wpAnyH_ready (rs := [7]) (by kernel_rfl) (by simp) ?_
          refine AllReadyH.cons rfl (fun K hK => ?_) AllReadyH.nil
          go_simp
          go_at_call 41
          refine (HC.out _ HBel.out.drew).mono ?_
          rintro e w2 ⟨rfl, hB⟩
          have HBb := Lib.hid ((Below.refl W1.heap.size W1).drew.trans hB)
          clear hB
          go_wp2_with fail
          refine hK.out _ _ ?_ (fun hHeld2 => ?_)
          · exact HS.out _ HBb.out
          clear hK K hHeld
          have hHeld := hHeld2
          clear hHeld2
          try simp only [Act.put, List.setIfInBounds_toArray, List.set_cons_zero, List.set_cons_succ, List.getElem_toArray, List.getElem_cons_zero, List.getElem_cons_succ]
          refine' wpAnyH_take (i := 8) (v := ?v8A) rfl (by kernel_rfl) (by kernel_rfl) (by kernel_rfl) (fun _ _ _ h => h) (Or.inl ⟨by rfl, ?hy8A⟩) hHeld ?rest8A
          case hy8A =>
            intro w hSw
            try dsimp only at hSw
            go_simp
            all_goals with_reducible rfl
          try simp only [Act.put, List.setIfInBounds_toArray, List.set_cons_zero, List.set_cons_succ, List.getElem_toArray, List.getElem_cons_zero, List.getElem_cons_succ]
          refine wpAnyH_done (by kernel_rfl) ?_ _
          clear hHeld
          have HH2 := Lib.hid (HHB.out.below HBb.out HHB.out.lt)
          have HR2 := Lib.hid (HR.out.below HBb.out HR.out.lt)
          have HB2 := Lib.hid (HBel.out.trans (HBb.out.mono HBel.out.size))
          clear c0 c1 HS HHB HR HBel HBb
          have c0 := HH2.out.cell 0
          have c1 := HH2.out.cell 1
          have c2 := HH2.out.cell 2
          go_upto_region 8 with (first
            | (go_at_call 45; refine (HSK.out _ HB2.out).mono ?_; rintro e w5 ⟨rfl, hB⟩; have HH5 := Lib.hid (HH2.out.below hB HH2.out.lt); have HR5 := Lib.hid (HR2.out.below hB HR2.out.lt); have HB5 := Lib.hid (HB2.out.trans (hB.mono HB2.out.size)); have z0 := HH5.out.cell 0; clear hB)
            | fail)
          refine world_is (P := fun W => Code.wp _ _ _ _ W) (fun W7 hW7 => ?_)
          have HS5 : Hid (Blk W7 w5.heap.size 32 #[.int .i64 (i : Int), .int .i64 (r : Int), .int .i64 2, .string KS, .int .i64 0, .int .i64 0, .int .u64 0]) := by unfold Hid; rw [← hW7]; first | exact Blk.new w5 _ _ | exact blk7_same (Blk.new w5 _ _)
          have HR7 : Hid (Blk W7 (w.heap.size + 1) 36 zAcc) := by unfold Hid; rw [← hW7]; exact HR5.out.alloc _
          have HB7 : Hid (Below w.heap.size w W7) := by unfold Hid; rw [← hW7]; exact HB5.out.alloc HB5.out.size _
          clear hW7 c0 c1 c2 z0 HH2 HR2 HB2 HH5 HR5 HB5
          generalize w5.heap.size = gS at *
          have HS7 : Hid (∀ wx, Below W7.heap.size W7 wx → wx.cell? ⟨gS, 0, none⟩ = some (.int .i64 (i : Int)) ∧ wx.cell? ⟨gS, 1, none⟩ = some (.int .i64 (r : Int)) ∧ wx.cell? ⟨gS, 2, none⟩ = some (.int .i64 2) ∧ wx.cell? ⟨gS, 3, none⟩ = some (.string KS) ∧ wx.cell? ⟨gS, 4, none⟩ = some (.int .i64 0) ∧ wx.cell? ⟨gS, 5, none⟩ = some (.int .i64 0) ∧ wx.cell? ⟨gS, 6, none⟩ = some (.int .u64 0)) := fun wx hB => ⟨(HS5.out.below hB HS5.out.lt).cell 0, (HS5.out.below hB HS5.out.lt).cell 1, (HS5.out.below hB HS5.out.lt).cell 2, (HS5.out.below hB HS5.out.lt).cell 3, (HS5.out.below hB HS5.out.lt).cell 4, (HS5.out.below hB HS5.out.lt).cell 5, (HS5.out.below hB HS5.out.lt).cell 6⟩
          refine wp_region_last (S := (fun wx => wx.cell? ⟨gS, 0, none⟩ = some (.int .i64 (i : Int)) ∧ wx.cell? ⟨gS, 1, none⟩ = some (.int .i64 (r : Int)) ∧ wx.cell? ⟨gS, 2, none⟩ = some (.int .i64 2) ∧ wx.cell? ⟨gS, 3, none⟩ = some (.string KS) ∧ wx.cell? ⟨gS, 4, none⟩ = some (.int .i64 0) ∧ wx.cell? ⟨gS, 5, none⟩ = some (.int .i64 0) ∧ wx.cell? ⟨gS, 6, none⟩ = some (.int .u64 0))) 8 (by kernel_rfl) (HS7.out _ (Below.refl _ W7).drew) (fun hHeld => ?_)
          refine' wpAnyK_take (i := 0) (v := ?v0B) rfl (by kernel_rfl) (by kernel_rfl) (by kernel_rfl) (by kernel_rfl) (by kernel_rfl) (fun _ _ _ h => h) (Or.inl ⟨by rfl, ?hy0B⟩) hHeld ?rest0B
          case hy0B =>
            intro w hSw
            try dsimp only at hSw
            go_simp
            all_goals with_reducible rfl
          try simp only [Act.put, List.setIfInBounds_toArray, List.set_cons_zero, List.set_cons_succ, List.getElem_toArray, List.getElem_cons_zero]
          refine' wpAnyK_take (i := 1) (v := ?v1B) rfl (by kernel_rfl) (by kernel_rfl) (by kernel_rfl) (by kernel_rfl) (by kernel_rfl) (fun _ _ _ h => h) (Or.inl ⟨by rfl, ?hy1B⟩) hHeld ?rest1B
          case hy1B =>
            intro w hSw
            try dsimp only at hSw
            go_simp
            all_goals with_reducible rfl
          try simp only [Act.put, List.setIfInBounds_toArray, List.set_cons_zero, List.set_cons_succ, List.getElem_toArray, List.getElem_cons_zero, List.getElem_cons_succ]
          refine' wpAnyK_take (i := 2) (v := ?v2B) rfl (by kernel_rfl) (by kernel_rfl) (by kernel_rfl) (by kernel_rfl) (by kernel_rfl) (fun _ _ _ h => h) (Or.inl ⟨by rfl, ?hy2B⟩) hHeld ?rest2B
          case hy2B =>
            intro w hSw
            try dsimp only at hSw
            go_simp
            all_goals with_reducible rfl
          try simp only [Act.put, List.setIfInBounds_toArray, List.set_cons_zero, List.set_cons_succ, List.getElem_toArray, List.getElem_cons_zero, List.getElem_cons_succ]
          refine' wpAnyK_take (i := 3) (v := ?v3B) rfl (by kernel_rfl) (by kernel_rfl) (by kernel_rfl) (by kernel_rfl) (by kernel_rfl) (fun _ _ _ h => h) (Or.inl ⟨by rfl, ?hy3B⟩) hHeld ?rest3B
          case hy3B =>
            intro w hSw
            try dsimp only at hSw
            go_simp
            all_goals with_reducible rfl
          try simp only [Act.put, List.setIfInBounds_toArray, List.set_cons_zero, List.set_cons_succ, List.getElem_toArray, List.getElem_cons_zero, List.getElem_cons_succ]
          refine wpAnyK_ready (rs := [4]) (by kernel_rfl) (by simp) ?_
          refine AllReadyK.cons rfl (fun K hK => ?_) AllReadyK.nil
          go_simp
          go_at_call 46
          refine (HM.out _ HB7.out.drew).mono ?_
          rintro e w8 ⟨rfl, hB⟩
          have HB78 := Lib.hid ((Below.refl W7.heap.size W7).drew.trans hB)
          clear hB
          go_wp2_with fail
          refine hK.out _ _ ?_ (fun hHeld2 => ?_)
          · exact HS7.out _ HB78.out
          clear hK K hHeld
          have hHeld := hHeld2
          clear hHeld2
          try simp only [Act.put, List.setIfInBounds_toArray, List.set_cons_zero, List.set_cons_succ, List.getElem_toArray, List.getElem_cons_zero, List.getElem_cons_succ]
          refine' wpAnyK_take (i := 5) (v := ?v5B) rfl (by kernel_rfl) (by kernel_rfl) (by kernel_rfl) (by kernel_rfl) (by kernel_rfl) (fun _ _ _ h => h) (Or.inl ⟨by rfl, ?hy5B⟩) hHeld ?rest5B
          case hy5B =>
            intro w hSw
            try dsimp only at hSw
            go_simp
            all_goals with_reducible rfl
          try simp only [Act.put, List.setIfInBounds_toArray, List.set_cons_zero, List.set_cons_succ, List.getElem_toArray, List.getElem_cons_zero, List.getElem_cons_succ]
          refine' wpAnyK_take (i := 6) (v := ?v6B) rfl (by kernel_rfl) (by kernel_rfl) (by kernel_rfl) (by kernel_rfl) (by kernel_rfl) (fun _ _ _ h => h) (Or.inl ⟨by rfl, ?hy6B⟩) hHeld ?rest6B
          case hy6B =>
            intro w hSw
            try dsimp only at hSw
            go_simp
            all_goals with_reducible rfl
          try simp only [Act.put, List.setIfInBounds_toArray, List.set_cons_zero, List.set_cons_succ, List.getElem_toArray, List.getElem_cons_zero, List.getElem_cons_succ]
          refine' wpAnyK_take (i := 7) (v := ?v7B) rfl (by kernel_rfl) (by kernel_rfl) (by kernel_rfl) (by kernel_rfl) (by kernel_rfl) (fun _ _ _ h => h) (Or.inl ⟨by rfl, ?hy7B⟩) hHeld ?rest7B
          case hy7B =>
            intro w hSw
            try dsimp only at hSw
            go_simp
            all_goals with_reducible rfl
          try simp only [Act.put, List.setIfInBounds_toArray, List.set_cons_zero, List.set_cons_succ, List.getElem_toArray, List.getElem_cons_zero, List.getElem_cons_succ]
          refine wpAnyK_ready (rs := [8]) (by kernel_rfl) (by simp) ?_
          refine AllReadyK.last rfl (fun K hK => ?_)
          refine wp_store_mid 36 _ _ rfl (w.heap.size + 1) 0 #[.int .i64 (i : Int), .int .i64 (r : Int), .int .i64 2, .string KS, .int .i64 0, .int .i64 0, .int .u64 0, .int .i64 (i : Int), .string n, .string WT, .int .i64 0] rfl ?hs0 ?hs1 infoAcc (all_oneCell_toArray (accC_one (⟨(i : Int), (r : Int), 2, KS, 0, 0, 0⟩, ⟨(i : Int), n, WT⟩, 0))) ?hs2
          case hs0 => rw [← hxt.out]; rfl
          case hs1 => exact there_of_blk (o := 0) (HR7.out.below HB78.out HR7.out.lt) (Nat.le_refl _)
          case hs2 =>
          refine hK.out _ _ ?_
          clear hK K
          try simp only [Act.put, List.getElem_toArray, List.getElem_cons_zero, List.getElem_cons_succ]
          refine wpAnyK_done (by kernel_rfl) ?_ _
          clear hHeld
          go_wp2_with fail
          have hL := blk_setWhole (HR7.out.below HB78.out HR7.out.lt) (#[.int .i64 (i : Int), .int .i64 (r : Int), .int .i64 2, .string KS, .int .i64 0, .int .i64 0, .int .u64 0, .int .i64 (i : Int), .string n, .string WT, .int .i64 0] : Array Value).toList rfl
          have hBL := below_setCells (g := w.heap.size + 1) (Nat.le_succ _) (#[.int .i64 (i : Int), .int .i64 (r : Int), .int .i64 2, .string KS, .int .i64 0, .int .i64 0, .int .u64 0, .int .i64 (i : Int), .string n, .string WT, .int .i64 0] : Array Value).toList 0 _ (HB7.out.trans (HB78.out.mono HB7.out.size))
          exact bodyPost_ret (v := .agg #[.int .i64 (i : Int), .int .i64 (r : Int), .int .i64 2, .string KS, .int .i64 0, .int .i64 0, .int .u64 0, .int .i64 (i : Int), .string n, .string WT, .int .i64 0]) (results_c (P := Tryd.prog) rfl _ _ (w.heap.size + 1) 36 #[.int .i64 (i : Int), .int .i64 (r : Int), .int .i64 2, .string KS, .int .i64 0, .int .i64 0, .int .u64 0, .int .i64 (i : Int), .string n, .string WT, .int .i64 0] _ rfl hL Tryd.underlying36 rfl infoAcc) rfl ⟨rfl, hBL⟩
        · have hP := accept_tag s r tag nonce i n ⟨⟨hs, r1, r2, hns⟩, h2.1, h2.2, h3⟩ hT
          rw [hP]
          obtain ⟨T, hTe⟩ : ∃ T, txt (helloL (bl s) r (bl nonce)) = T := ⟨_, rfl⟩
          rw [hTe] at HC hT
          have e4 : ((n.size : Int) != 16) = false := by rw [h3]; rfl
          have e5 : (tag.toList == T.toList) = false := toList_ne hT
          have e6 : (tag.data.toList == T.data.toList) = false := data_ne hT
          clear hP hK hs r1 r2 hns hTe hT h2 h3
          unfold helV helC accV accC
          go_enter Tryd.func14, Tryd.ntmps14
          go_upto_region 1 with fail
          refine world_is (P := fun W => Code.wp _ _ _ _ W) (fun W1 hW1 => ?_)
          have HHB : Hid (Blk W1 w.heap.size 23 #[.int .i64 (r : Int), .string nonce, .string tag]) := by unfold Hid; rw [← hW1]; exact (Blk.new w _ _).alloc _
          have HR : Hid (Blk W1 (w.heap.size + 1) 36 zAcc) := by unfold Hid; rw [← hW1]; exact blk_new2 _ _ _ _
          have HBel : Hid (Below w.heap.size w W1) := by unfold Hid; rw [← hW1]; exact ((Below.refl w.heap.size w).alloc (Nat.le_refl _) _).alloc (by rw [World.size_alloc]; exact Nat.le_succ _) _
          clear hW1
          have c0 := HHB.out.cell 0
          have c1 := HHB.out.cell 1
          have HS : Hid (∀ wx, Below W1.heap.size W1 wx → wx.cell? ⟨w.heap.size, 0, none⟩ = some (.int .i64 (r : Int)) ∧ wx.cell? ⟨w.heap.size, 1, none⟩ = some (.string nonce) ∧ wx.cell? ⟨w.heap.size, 2, none⟩ = some (.string tag)) := fun wx hB => ⟨(HHB.out.below hB HHB.out.lt).cell 0, (HHB.out.below hB HHB.out.lt).cell 1, (HHB.out.below hB HHB.out.lt).cell 2⟩
          go_upto_region 4 with (first | (go_at_call 40; refine (HO.out _).mono ?_; rintro e w9 ⟨rfl, rfl⟩) | (go_at_call 44; refine (HW.out _).mono ?_; rintro e w9 ⟨rfl, rfl⟩) | fail)
          refine wp_region_held_drew (S := (fun wx => wx.cell? ⟨w.heap.size, 0, none⟩ = some (.int .i64 (r : Int)) ∧ wx.cell? ⟨w.heap.size, 1, none⟩ = some (.string nonce) ∧ wx.cell? ⟨w.heap.size, 2, none⟩ = some (.string tag))) (by kernel_rfl) (HS.out _ (Below.refl _ W1).drew) (fun hHeld => ?_)
          refine' wpAnyH_take (i := 0) (v := ?v0C) rfl (by kernel_rfl) (by kernel_rfl) (by kernel_rfl) (fun _ _ _ h => h) (Or.inl ⟨by rfl, ?hy0C⟩) hHeld ?rest0C
          case hy0C =>
            intro w hSw
            try dsimp only at hSw
            go_simp
            all_goals with_reducible rfl
          try simp only [Act.put, List.setIfInBounds_toArray, List.set_cons_zero, List.set_cons_succ, List.getElem_toArray, List.getElem_cons_zero]
          refine' wpAnyH_take (i := 1) (v := ?v1C) rfl (by kernel_rfl) (by kernel_rfl) (by kernel_rfl) (fun _ _ _ h => h) (Or.inl ⟨by rfl, ?hy1C⟩) hHeld ?rest1C
          case hy1C =>
            intro w hSw
            try dsimp only at hSw
            go_simp
            all_goals with_reducible rfl
          try simp only [Act.put, List.setIfInBounds_toArray, List.set_cons_zero, List.set_cons_succ, List.getElem_toArray, List.getElem_cons_zero, List.getElem_cons_succ]
          refine' wpAnyH_take (i := 2) (v := ?v2C) rfl (by kernel_rfl) (by kernel_rfl) (by kernel_rfl) (fun _ _ _ h => h) (Or.inl ⟨by rfl, ?hy2C⟩) hHeld ?rest2C
          case hy2C =>
            intro w hSw
            try dsimp only at hSw
            go_simp
            all_goals with_reducible rfl
          try simp only [Act.put, List.setIfInBounds_toArray, List.set_cons_zero, List.set_cons_succ, List.getElem_toArray, List.getElem_cons_zero, List.getElem_cons_succ]
          refine' wpAnyH_take (i := 3) (v := ?v3C) rfl (by kernel_rfl) (by kernel_rfl) (by kernel_rfl) (fun _ _ _ h => h) (Or.inl ⟨by rfl, ?hy3C⟩) hHeld ?rest3C
          case hy3C =>
            intro w hSw
            try dsimp only at hSw
            go_simp
            all_goals with_reducible rfl
          try simp only [Act.put, List.setIfInBounds_toArray, List.set_cons_zero, List.set_cons_succ, List.getElem_toArray, List.getElem_cons_zero, List.getElem_cons_succ]
          refine' wpAnyH_take (i := 4) (v := ?v4C) rfl (by kernel_rfl) (by kernel_rfl) (by kernel_rfl) (fun _ _ _ h => h) (Or.inl ⟨by rfl, ?hy4C⟩) hHeld ?rest4C
          case hy4C =>
            intro w hSw
            try dsimp only at hSw
            go_simp
            all_goals with_reducible rfl
          try simp only [Act.put, List.setIfInBounds_toArray, List.set_cons_zero, List.set_cons_succ, List.getElem_toArray, List.getElem_cons_zero, List.getElem_cons_succ]
          refine' wpAnyH_take (i := 5) (v := ?v5C) rfl (by kernel_rfl) (by kernel_rfl) (by kernel_rfl) (fun _ _ _ h => h) (Or.inl ⟨by rfl, ?hy5C⟩) hHeld ?rest5C
          case hy5C =>
            intro w hSw
            try dsimp only at hSw
            go_simp
            all_goals with_reducible rfl
          try simp only [Act.put, List.setIfInBounds_toArray, List.set_cons_zero, List.set_cons_succ, List.getElem_toArray, List.getElem_cons_zero, List.getElem_cons_succ]
          refine' wpAnyH_take (i := 6) (v := ?v6C) rfl (by kernel_rfl) (by kernel_rfl) (by kernel_rfl) (fun _ _ _ h => h) (Or.inl ⟨by rfl, ?hy6C⟩) hHeld ?rest6C
          case hy6C =>
            intro w hSw
            try dsimp only at hSw
            go_simp
            all_goals with_reducible rfl
          try simp only [Act.put, List.setIfInBounds_toArray, List.set_cons_zero, List.set_cons_succ, List.getElem_toArray, List.getElem_cons_zero, List.getElem_cons_succ]
          refine wpAnyH_ready (rs := [7]) (by kernel_rfl) (by simp) ?_
          refine AllReadyH.cons rfl (fun K hK => ?_) AllReadyH.nil
          go_simp
          go_at_call 41
          refine (HC.out _ HBel.out.drew).mono ?_
          rintro e w2 ⟨rfl, hB⟩
          have HBb := Lib.hid ((Below.refl W1.heap.size W1).drew.trans hB)
          clear hB
          go_wp2_with fail
          refine hK.out _ _ ?_ (fun hHeld2 => ?_)
          · exact HS.out _ HBb.out
          clear hK K hHeld
          have hHeld := hHeld2
          clear hHeld2
          try simp only [Act.put, List.setIfInBounds_toArray, List.set_cons_zero, List.set_cons_succ, List.getElem_toArray, List.getElem_cons_zero, List.getElem_cons_succ]
          refine' wpAnyH_take (i := 8) (v := ?v8C) rfl (by kernel_rfl) (by kernel_rfl) (by kernel_rfl) (fun _ _ _ h => h) (Or.inl ⟨by rfl, ?hy8C⟩) hHeld ?rest8C
          case hy8C =>
            intro w hSw
            try dsimp only at hSw
            go_simp
            all_goals with_reducible rfl
          try simp only [Act.put, List.setIfInBounds_toArray, List.set_cons_zero, List.set_cons_succ, List.getElem_toArray, List.getElem_cons_zero, List.getElem_cons_succ]
          refine wpAnyH_done (by kernel_rfl) ?_ _
          clear hHeld
          have HR2 := Lib.hid (HR.out.below HBb.out HR.out.lt)
          have HB2 := Lib.hid (HBel.out.trans (HBb.out.mono HBel.out.size))
          clear c0 c1 HS HHB HR HBel HBb
          go_wp2_with (first
            | (refine wpList_store_mid rfl 36 _ _ rfl (w.heap.size + 1) 0 #[.int .i64 0, .int .i64 0, .int .i64 0, .string ⟨#[]⟩, .int .i64 0, .int .i64 0, .int .u64 0, .int .i64 0, .string ⟨#[]⟩, .string ⟨#[]⟩, .int .i64 8] rfl rfl (there_of_blk (o := 0) HR2.out (Nat.le_refl _)) infoAcc (by kernel_rfl) ?_)
            | fail)
          have hL := blk_setWhole HR2.out (#[.int .i64 0, .int .i64 0, .int .i64 0, .string ⟨#[]⟩, .int .i64 0, .int .i64 0, .int .u64 0, .int .i64 0, .string ⟨#[]⟩, .string ⟨#[]⟩, .int .i64 8] : Array Value).toList rfl
          have hBL := below_setCells (g := w.heap.size + 1) (Nat.le_succ _) (#[.int .i64 0, .int .i64 0, .int .i64 0, .string ⟨#[]⟩, .int .i64 0, .int .i64 0, .int .u64 0, .int .i64 0, .string ⟨#[]⟩, .string ⟨#[]⟩, .int .i64 8] : Array Value).toList 0 _ HB2.out
          exact bodyPost_ret (v := .agg #[.int .i64 0, .int .i64 0, .int .i64 0, .string ⟨#[]⟩, .int .i64 0, .int .i64 0, .int .u64 0, .int .i64 0, .string ⟨#[]⟩, .string ⟨#[]⟩, .int .i64 8]) (results_c (P := Tryd.prog) rfl _ _ (w.heap.size + 1) 36 #[.int .i64 0, .int .i64 0, .int .i64 0, .string ⟨#[]⟩, .int .i64 0, .int .i64 0, .int .u64 0, .int .i64 0, .string ⟨#[]⟩, .string ⟨#[]⟩, .int .i64 8] _ rfl hL Tryd.underlying36 rfl infoAcc) rfl ⟨rfl, hBL⟩
      · have e4 : ((n.size : Int) != 16) = true := by rw [bne_iff_ne]; omega
        have hP : acceptP s ⟨role, nonce, tag⟩ id n = (noSes, noWel, 1) := accept_bad s ⟨role, nonce, tag⟩ id n (fun h => h3 h.2.2.2)
        rw [hP]
        clear hP hK
        unfold helV helC accV accC
        go_enter Tryd.func14, Tryd.ntmps14
        go_upto_region 1 with fail
        refine world_is (P := fun W => Code.wp _ _ _ _ W) (fun W1 hW1 => ?_)
        have HHB : Hid (Blk W1 w.heap.size 23 #[.int .i64 role, .string nonce, .string tag]) := by unfold Hid; rw [← hW1]; exact (Blk.new w _ _).alloc _
        have HR : Hid (Blk W1 (w.heap.size + 1) 36 zAcc) := by unfold Hid; rw [← hW1]; exact blk_new2 _ _ _ _
        have HBel : Hid (Below w.heap.size w W1) := by unfold Hid; rw [← hW1]; exact ((Below.refl w.heap.size w).alloc (Nat.le_refl _) _).alloc (by rw [World.size_alloc]; exact Nat.le_succ _) _
        clear hW1
        have c0 := HHB.out.cell 0
        have c1 := HHB.out.cell 1
        go_wp2_with (first
          | (go_at_call 40; refine (HO.out _).mono ?_; rintro e w9 ⟨rfl, rfl⟩)
          | (go_at_call 44; refine (HW.out _).mono ?_; rintro e w9 ⟨rfl, rfl⟩)
          | (refine wpList_store_mid rfl 36 _ _ rfl (w.heap.size + 1) 0 #[.int .i64 0, .int .i64 0, .int .i64 0, .string ⟨#[]⟩, .int .i64 0, .int .i64 0, .int .u64 0, .int .i64 0, .string ⟨#[]⟩, .string ⟨#[]⟩, .int .i64 1] rfl rfl (there_of_blk (o := 0) HR.out (Nat.le_refl _)) infoAcc (by kernel_rfl) ?_)
          | fail)
        have hL := blk_setWhole HR.out (#[.int .i64 0, .int .i64 0, .int .i64 0, .string ⟨#[]⟩, .int .i64 0, .int .i64 0, .int .u64 0, .int .i64 0, .string ⟨#[]⟩, .string ⟨#[]⟩, .int .i64 1] : Array Value).toList rfl
        have hBL := below_setCells (g := w.heap.size + 1) (Nat.le_succ _) (#[.int .i64 0, .int .i64 0, .int .i64 0, .string ⟨#[]⟩, .int .i64 0, .int .i64 0, .int .u64 0, .int .i64 0, .string ⟨#[]⟩, .string ⟨#[]⟩, .int .i64 1] : Array Value).toList 0 _ HBel.out
        exact bodyPost_ret (v := .agg #[.int .i64 0, .int .i64 0, .int .i64 0, .string ⟨#[]⟩, .int .i64 0, .int .i64 0, .int .u64 0, .int .i64 0, .string ⟨#[]⟩, .string ⟨#[]⟩, .int .i64 1]) (results_c (P := Tryd.prog) rfl _ _ (w.heap.size + 1) 36 #[.int .i64 0, .int .i64 0, .int .i64 0, .string ⟨#[]⟩, .int .i64 0, .int .i64 0, .int .u64 0, .int .i64 0, .string ⟨#[]⟩, .string ⟨#[]⟩, .int .i64 1] _ rfl hL Tryd.underlying36 rfl infoAcc) rfl ⟨rfl, hBL⟩
    · rw [decide_eq_false h2] at HW
      have hP : acceptP s ⟨role, nonce, tag⟩ id n = (noSes, noWel, 1) := accept_bad s ⟨role, nonce, tag⟩ id n (fun h => h2 ⟨h.2.1, h.2.2.1⟩)
      rw [hP]
      clear hP hK
      unfold helV helC accV accC
      go_enter Tryd.func14, Tryd.ntmps14
      go_upto_region 1 with fail
      refine world_is (P := fun W => Code.wp _ _ _ _ W) (fun W1 hW1 => ?_)
      have HHB : Hid (Blk W1 w.heap.size 23 #[.int .i64 role, .string nonce, .string tag]) := by unfold Hid; rw [← hW1]; exact (Blk.new w _ _).alloc _
      have HR : Hid (Blk W1 (w.heap.size + 1) 36 zAcc) := by unfold Hid; rw [← hW1]; exact blk_new2 _ _ _ _
      have HBel : Hid (Below w.heap.size w W1) := by unfold Hid; rw [← hW1]; exact ((Below.refl w.heap.size w).alloc (Nat.le_refl _) _).alloc (by rw [World.size_alloc]; exact Nat.le_succ _) _
      clear hW1
      have c0 := HHB.out.cell 0
      have c1 := HHB.out.cell 1
      go_wp2_with (first
        | (go_at_call 40; refine (HO.out _).mono ?_; rintro e w9 ⟨rfl, rfl⟩)
        | (go_at_call 44; refine (HW.out _).mono ?_; rintro e w9 ⟨rfl, rfl⟩)
        | (refine wpList_store_mid rfl 36 _ _ rfl (w.heap.size + 1) 0 #[.int .i64 0, .int .i64 0, .int .i64 0, .string ⟨#[]⟩, .int .i64 0, .int .i64 0, .int .u64 0, .int .i64 0, .string ⟨#[]⟩, .string ⟨#[]⟩, .int .i64 1] rfl rfl (there_of_blk (o := 0) HR.out (Nat.le_refl _)) infoAcc (by kernel_rfl) ?_)
        | fail)
      have hL := blk_setWhole HR.out (#[.int .i64 0, .int .i64 0, .int .i64 0, .string ⟨#[]⟩, .int .i64 0, .int .i64 0, .int .u64 0, .int .i64 0, .string ⟨#[]⟩, .string ⟨#[]⟩, .int .i64 1] : Array Value).toList rfl
      have hBL := below_setCells (g := w.heap.size + 1) (Nat.le_succ _) (#[.int .i64 0, .int .i64 0, .int .i64 0, .string ⟨#[]⟩, .int .i64 0, .int .i64 0, .int .u64 0, .int .i64 0, .string ⟨#[]⟩, .string ⟨#[]⟩, .int .i64 1] : Array Value).toList 0 _ HBel.out
      exact bodyPost_ret (v := .agg #[.int .i64 0, .int .i64 0, .int .i64 0, .string ⟨#[]⟩, .int .i64 0, .int .i64 0, .int .u64 0, .int .i64 0, .string ⟨#[]⟩, .string ⟨#[]⟩, .int .i64 1]) (results_c (P := Tryd.prog) rfl _ _ (w.heap.size + 1) 36 #[.int .i64 0, .int .i64 0, .int .i64 0, .string ⟨#[]⟩, .int .i64 0, .int .i64 0, .int .u64 0, .int .i64 0, .string ⟨#[]⟩, .string ⟨#[]⟩, .int .i64 1] _ rfl hL Tryd.underlying36 rfl infoAcc) rfl ⟨rfl, hBL⟩
  · rw [decide_eq_false hO] at HO
    have hP : acceptP s ⟨role, nonce, tag⟩ id n = (noSes, noWel, 1) := accept_bad s ⟨role, nonce, tag⟩ id n (fun h => hO h.1)
    rw [hP]
    clear hP hK
    unfold helV helC accV accC
    go_enter Tryd.func14, Tryd.ntmps14
    go_upto_region 1 with fail
    refine world_is (P := fun W => Code.wp _ _ _ _ W) (fun W1 hW1 => ?_)
    have HHB : Hid (Blk W1 w.heap.size 23 #[.int .i64 role, .string nonce, .string tag]) := by unfold Hid; rw [← hW1]; exact (Blk.new w _ _).alloc _
    have HR : Hid (Blk W1 (w.heap.size + 1) 36 zAcc) := by unfold Hid; rw [← hW1]; exact blk_new2 _ _ _ _
    have HBel : Hid (Below w.heap.size w W1) := by unfold Hid; rw [← hW1]; exact ((Below.refl w.heap.size w).alloc (Nat.le_refl _) _).alloc (by rw [World.size_alloc]; exact Nat.le_succ _) _
    clear hW1
    have c0 := HHB.out.cell 0
    have c1 := HHB.out.cell 1
    go_wp2_with (first
      | (go_at_call 40; refine (HO.out _).mono ?_; rintro e w9 ⟨rfl, rfl⟩)
      | (go_at_call 44; refine (HW.out _).mono ?_; rintro e w9 ⟨rfl, rfl⟩)
      | (refine wpList_store_mid rfl 36 _ _ rfl (w.heap.size + 1) 0 #[.int .i64 0, .int .i64 0, .int .i64 0, .string ⟨#[]⟩, .int .i64 0, .int .i64 0, .int .u64 0, .int .i64 0, .string ⟨#[]⟩, .string ⟨#[]⟩, .int .i64 1] rfl rfl (there_of_blk (o := 0) HR.out (Nat.le_refl _)) infoAcc (by kernel_rfl) ?_)
      | fail)
    have hL := blk_setWhole HR.out (#[.int .i64 0, .int .i64 0, .int .i64 0, .string ⟨#[]⟩, .int .i64 0, .int .i64 0, .int .u64 0, .int .i64 0, .string ⟨#[]⟩, .string ⟨#[]⟩, .int .i64 1] : Array Value).toList rfl
    have hBL := below_setCells (g := w.heap.size + 1) (Nat.le_succ _) (#[.int .i64 0, .int .i64 0, .int .i64 0, .string ⟨#[]⟩, .int .i64 0, .int .i64 0, .int .u64 0, .int .i64 0, .string ⟨#[]⟩, .string ⟨#[]⟩, .int .i64 1] : Array Value).toList 0 _ HBel.out
    exact bodyPost_ret (v := .agg #[.int .i64 0, .int .i64 0, .int .i64 0, .string ⟨#[]⟩, .int .i64 0, .int .i64 0, .int .u64 0, .int .i64 0, .string ⟨#[]⟩, .string ⟨#[]⟩, .int .i64 1]) (results_c (P := Tryd.prog) rfl _ _ (w.heap.size + 1) 36 #[.int .i64 0, .int .i64 0, .int .i64 0, .string ⟨#[]⟩, .int .i64 0, .int .i64 0, .int .u64 0, .int .i64 0, .string ⟨#[]⟩, .string ⟨#[]⟩, .int .i64 1] _ rfl hL Tryd.underlying36 rfl infoAcc) rfl ⟨rfl, hBL⟩
end Go.Proofs.YtbhagfdkipgggaaDoor
