/-
  Layer 25 (journal): a history's step.
-/
import Derived.Test.YtgdpgiegiacepaaDoorG19
namespace Go.Proofs.YtgdpgiegiacepaaDoor
open Go.RowKit Go.Shelf
open Sec (mostN countN)
attribute [local go_sem] Oper.semAt_some

theorem append_cases (h : Nat) (t : ByteArray) (J : Jrn) (M : List Sec) : ∃ (num er : Int) (J' : Jrn) (M' : List Sec), jappend h t J M = ((num, er), J', M') ∧ ((er = 15 ∨ er = 23) ∧ J'.l = J.l ∨ er = 0 ∧ num = (J.next : Int) ∧ J'.l = J.l ++ [(J.next, t)]) := by
  unfold jappend
  split
  · exact ⟨_, _, _, _, rfl, .inl ⟨.inr rfl, rfl⟩⟩
  split
  · exact ⟨_, _, _, _, rfl, .inl ⟨.inl rfl, rfl⟩⟩
  split
  · exact ⟨_, _, _, _, rfl, .inl ⟨.inr rfl, rfl⟩⟩
  · exact ⟨_, _, _, _, rfl, .inr ⟨rfl, rfl, rfl⟩⟩
theorem compact_cases (h : Nat) (t : ByteArray) (J : Jrn) (M : List Sec) : ∃ (num er : Int) (J' : Jrn) (M' : List Sec), jcompact h t J M = ((num, er), J', M') ∧ ((er = 15 ∨ er = 23) ∧ J'.l = J.l ∨ er = 0 ∧ num = (J.next : Int) ∧ J'.l = [(J.next, t)]) := by
  unfold jcompact
  split
  · exact ⟨_, _, _, _, rfl, .inl ⟨.inl rfl, rfl⟩⟩
  split
  · exact ⟨_, _, _, _, rfl, .inl ⟨.inr rfl, rfl⟩⟩
  · exact ⟨_, _, _, _, rfl, .inr ⟨rfl, rfl, rfl⟩⟩
theorem slice_full (w : World) (A : Option Addr) (L c : Nat) (h : (A = none ∧ c = 0 ∧ L = 0) ∨ ((∃ g, A = some ⟨g, 0, none⟩) ∧ L ≤ c)) (hL : c ≤ maxLen) :
    (Instr.slice 38 (.slice A L c) none (some (.int .i64 L)) (some (.int .i64 L))).run Tryd.prog w = .ok (.slice A L L) w := by
  unfold maxLen at hL
  rcases h with ⟨rfl, rfl, rfl⟩ | ⟨⟨g, rfl⟩, hc⟩
  · simp [go_sem]
  · simp [go_sem]
    omega
theorem row_at {w : World} {B : Nat} {A : Option Addr} {L c : Nat} {l : List ByteArray} (h : w.ownsRow B 9 1 (.slice A L c) L (strCells l)) {b : Addr} (hb : A = some b) {j : Nat} {u : Value} (hj : (strCells l)[j]? = some u) : w.cell? (b.add j) = some u := by
  subst hb
  rcases h.2 with ⟨h0, _⟩ | ⟨g, cap, cur, e, _⟩
  · cases h0
  · cases e
    have h1 := h.1
    have hl := (List.getElem?_eq_some_iff.1 hj).1
    rw [Addr.add_lit, Nat.zero_add, World.ownsRow.cellAt h j (by omega)]
    exact hj
/-- A step's box. -/
def StepBox (w : World) (xb : Nat) (kind n size fill : Int) (p : Value) : Prop := w.cell? ⟨xb, 0, none⟩ = some (.int .i64 kind) ∧ w.cell? ⟨xb, 1, none⟩ = some (.int .i64 n) ∧ w.cell? ⟨xb, 2, none⟩ = some (.int .i64 size) ∧ w.cell? ⟨xb, 3, none⟩ = some (.int .u8 fill) ∧ w.cell? ⟨xb, 4, none⟩ = some p
theorem stepBox_new (w : World) (kind n size fill : Int) (p : Value) : Blk (w.alloc (.cells #[.int .i64 kind, .int .i64 n, .int .i64 size, .int .u8 fill, p] 30)) w.heap.size 30 #[.int .i64 kind, .int .i64 n, .int .i64 size, .int .u8 fill, p] ∧ Below w.heap.size w (w.alloc (.cells #[.int .i64 kind, .int .i64 n, .int .i64 size, .int .u8 fill, p] 30)) :=
  ⟨Blk.new w _ _, (Below.refl _ w).alloc (Nat.le_refl _) _⟩
theorem stepBox_cells {w : World} {xb : Nat} {kind n size fill : Int} {p : Value} (h : Blk w xb 30 #[.int .i64 kind, .int .i64 n, .int .i64 size, .int .u8 fill, p]) : StepBox w xb kind n size fill p :=
  ⟨h.cell 0, h.cell 1, h.cell 2, h.cell 3, h.cell 4⟩
section
variable {W w w' : World} {a : DAt} {n k jb hb : Nat} {v u : Value} {J : Jrn} {D : Dev}
/-- What a step of a history leaves. -/
def HPost (W : World) (a : DAt) (n k jb hb : Nat) (e : Ending) (w' : World) : Prop :=
  ∃ (er : Int) (v' u' : Value) (J' : Jrn) (D' : Dev), e = .returned (.tuple #[.bool true, .int .i64 er]) ∧ (er = 0 ∨ er = 15 ∨ er = 23) ∧ Hid (JSt W w' a n (k + 1) jb v' J' D') ∧ Hid (HIs w' a hb (J'.l.map Prod.snd) (lastN J'.l) u')
set_option maxRecDepth 100000 in
set_option maxHeartbeats 4000000 in
theorem hput_other (h : JSt W w a n k jb v J D) (hh : HIs w a hb (J.l.map Prod.snd) (lastN J.l) u) (hk1 : k + 1 ≤ 100) (kind m size fill : Int) (A : Option Addr) (pn pc : Nat) (hk : kind ≠ 1 ∧ kind ≠ 2) :
    Calls Tryd.prog 18 #[.pointer (some ⟨hb, 0, none⟩), .pointer (some ⟨jb, 0, none⟩), .agg #[.int .i64 kind, .int .i64 m, .int .i64 size, .int .u8 fill, .slice A pn pc]] w (HPost W a n k jb hb) := by
  obtain ⟨hx, hB⟩ := stepBox_new w kind m size fill (.slice A pn pc)
  have H := Lib.hid ((h.on hB).more hk1)
  have HH := Lib.hid (hh.below hB)
  have b1 : (kind == 1) = false := beq_eq_false_iff_ne.2 hk.1
  have b2 : (kind == 2) = false := beq_eq_false_iff_ne.2 hk.2
  clear h hh hB hk
  unfold HPost
  go_enter Tryd.func18, Tryd.ntmps18
  go_wp2_with fail
  go_ret2
  exact ⟨0, v, u, J, D, rfl, .inl rfl, H, HH⟩
set_option maxRecDepth 100000 in
set_option maxHeartbeats 4000000 in
theorem hput_append (h : JSt W w a n k jb v J D) (hh : HIs w a hb (J.l.map Prod.snd) (lastN J.l) u) (hW : W.heap.size ≤ hb) (hk1 : k + 1 ≤ 100) (m size : Int) (fill : Nat) (hfill : fill < 256) (A : Option Addr) (pn pc : Nat) :
    Calls Tryd.prog 18 #[.pointer (some ⟨hb, 0, none⟩), .pointer (some ⟨jb, 0, none⟩), .agg #[.int .i64 1, .int .i64 m, .int .i64 size, .int .u8 fill, .slice A pn pc]] w (HPost W a n k jb hb) := by
  obtain ⟨hx, hB⟩ := stepBox_new w 1 m size fill (.slice A pn pc)
  have hxn : hb ≠ w.heap.size := fun e => by have := hh.blk.lt; omega
  have H := Lib.hid (h.on hB)
  have HH := Lib.hid (hh.below hB)
  have Hs := Lib.hid hB.size
  generalize hxb : w.heap.size = xb at *
  obtain ⟨t, ht⟩ : ∃ t, jtext fill (jlen size) = t := ⟨_, rfl⟩
  have HT := Lib.hid (fun wq => jText_any wq 1 m size fill hfill A pn pc)
  rw [ht] at HT
  have htl : t.size ≤ 8000 := by rw [← ht, jtext_size]; exact Nat.le_trans (jlen_le size) (by decide)
  clear h hh
  obtain ⟨num, er, J', M', hR, hcase⟩ := append_cases (n / 2) t J D.M
  have HX := Lib.hid hx
  obtain ⟨x0, x1, x2, x3, x4⟩ := stepBox_cells hx
  clear hx hB
  unfold HPost
  go_enter Tryd.func18, Tryd.ntmps18
  go_wp2_with fail
  refine (HT.out _).mono ?_
  rintro e w2 ⟨rfl, hB2⟩
  have H2 := Lib.hid (H.out.on hB2)
  have HH2 := Lib.hid (HH.out.below hB2)
  have HX2 := Lib.hid (HX.out.below hB2 HX.out.lt)
  have Hs2 := Lib.hid (Nat.le_trans Hs.out hB2.size)
  clear H HH HX Hs hB2 x0 x1 x2 x3 x4
  go_wp2_with fail
  refine (H2.out.append t htl hk1 hR).mono ?_
  rintro e w3 ⟨v', rfl, H3, hF⟩
  dsimp only at H3 ⊢
  have HH3 := Lib.hid (HH2.out.left H2.out.dev.dev H2.out.jrn hF.out)
  have HX3 : Hid (Blk w3 xb 30 #[.int .i64 1, .int .i64 m, .int .i64 size, .int .u8 fill, .slice A pn pc]) := (hF.out.blk H2.out.dev.dev H2.out.jrn HX2.out (fun e => by cases e) (fun e => by cases e) (fun e => by cases e) (fun e => by cases e) (fun e => by cases e)).trans HX2.out
  have Hs3 := Lib.hid (Nat.le_trans Hs2.out hF.out.size)
  have hlast : Hid (lastN J.l < J.next) := H2.out.inv.last
  have hJn : Hid (J.next ≤ 102) := by have := H2.out.next; unfold Hid; omega
  clear H2 HH2 HX2 Hs2 hF HT hR
  rcases hcase with ⟨her, hl⟩ | ⟨rfl, rfl, hl⟩
  · have b0 : (er == 0) = false := beq_eq_false_iff_ne.2 (by rcases her with rfl | rfl <;> decide)
    go_wp2_with fail
    go_ret2
    exact ⟨er, v', u, J', _, rfl, .inr her, H3, by unfold Hid; rw [hl]; exact HH3.out⟩
  · obtain ⟨i0, hi, hz0, hz1, hz2⟩ := info_parts infoString
    have hrow := HH3.out.row
    obtain ⟨L, hL⟩ : ∃ L, (J.l.map Prod.snd).length = L := ⟨_, rfl⟩
    obtain ⟨A2, c2, rfl, hnone, hcap⟩ : ∃ A2 c2, u = .slice A2 L c2 ∧ (A2 = none → L = 0 ∧ L = 0) ∧ Hid (((A2 = none ∧ c2 = 0 ∧ L = 0) ∨ ((∃ g, A2 = some ⟨g, 0, none⟩) ∧ L ≤ c2)) ∧ c2 ≤ maxLen) := by
      rw [hL] at hrow
      rcases hrow.2 with ⟨rfl, h0⟩ | ⟨g, cap, cur, rfl, _, _, hcap, hm, _⟩
      · exact ⟨none, 0, by rw [h0], fun _ => ⟨h0, h0⟩, .inl ⟨rfl, rfl, h0⟩, Nat.zero_le _⟩
      · exact ⟨_, cap, rfl, fun e => (by cases e), .inr ⟨⟨g, rfl⟩, hcap⟩, hm⟩
    have hsl := fun wx => slice_full wx A2 L c2 hcap.out.1 hcap.out.2
    have Hrow : Hid (w3.ownsRow 0 9 1 (.slice A2 L c2) L (strCells (J.l.map Prod.snd))) := by
      unfold Hid
      rw [hL] at hrow
      exact hrow
    have hlo : Hid ((strCells (J.l.map Prod.snd)).length = L * 1) := by
      unfold Hid
      rw [← hL]
      simp [strCells]
    have hlb : Hid (L + 1 ≤ maxLen ∧ (L + 1) * 16 ≤ 140737488355328) := by
      have h1 := H3.out.few
      have h2 := H3.out.k1
      rw [hl, List.length_append] at h1
      rw [List.length_map] at hL
      unfold Hid maxLen
      simp at h1
      omega
    have hbx : hb ≠ xb := hxn
    have y0 : w3.cell? ⟨hb, 0, none⟩ = some (.slice A2 L c2) := HH3.out.blk.cell 0
    obtain ⟨x0, x1, x2, x3, x4⟩ := stepBox_cells HX3.out
    clear hrow
    have hf1 : decide (J.next ≤ lastN J.l) = false := decide_eq_false (by have := hlast.out; omega)
    go_wp2_with fail
    refine wp_region_last (S := (fun w' => w'.cell? ⟨hb, 0, none⟩ = some (.slice A2 L c2) ∧ w'.cell? ⟨xb, 0, none⟩ = some (.int .i64 1) ∧ w'.cell? ⟨xb, 1, none⟩ = some (.int .i64 m) ∧ w'.cell? ⟨xb, 2, none⟩ = some (.int .i64 size) ∧ w'.cell? ⟨xb, 3, none⟩ = some (.int .u8 fill) ∧ w'.cell? ⟨xb, 4, none⟩ = some (.slice A pn pc))) 22 (by kernel_rfl) ⟨y0, x0, x1, x2, x3, x4⟩ (fun hHeld => ?_)
    refine' wpAnyK_take (i := 0) (v := ?v0) rfl (by kernel_rfl) (by kernel_rfl) (by kernel_rfl) (by kernel_rfl) (by kernel_rfl) (fun _ _ _ h => h) (Or.inl ⟨by rfl, ?hy0⟩) hHeld ?rest0
    case hy0 =>
      intro w hSw
      try dsimp only at hSw
      go_simp
      all_goals with_reducible rfl
    try simp only [Act.put, List.setIfInBounds_toArray]
    refine' wpAnyK_take (i := 1) (v := ?v1) rfl (by kernel_rfl) (by kernel_rfl) (by kernel_rfl) (by kernel_rfl) (by kernel_rfl) (fun _ _ _ h => h) (Or.inl ⟨by rfl, ?hy1⟩) hHeld ?rest1
    case hy1 =>
      intro w hSw
      try dsimp only at hSw
      go_simp
      all_goals with_reducible rfl
    try simp only [Act.put]
    refine' wpAnyK_take (i := 2) (v := ?v2) rfl (by kernel_rfl) (by kernel_rfl) (by kernel_rfl) (by kernel_rfl) (by kernel_rfl) (fun _ _ _ h => h) (Or.inl ⟨by rfl, ?hy2⟩) hHeld ?rest2
    case hy2 =>
      intro w hSw
      try dsimp only at hSw
      go_simp
      all_goals with_reducible rfl
    try simp only [Act.put]
    refine' wpAnyK_take (i := 3) (v := ?v3) rfl (by kernel_rfl) (by kernel_rfl) (by kernel_rfl) (by kernel_rfl) (by kernel_rfl) (fun _ _ _ h => h) (Or.inl ⟨by rfl, ?hy3⟩) hHeld ?rest3
    case hy3 =>
      intro w hSw
      try dsimp only at hSw
      go_simp
      all_goals with_reducible rfl
    try simp only [Act.put]
    refine' wpAnyK_take (i := 4) (v := ?v4) rfl (by kernel_rfl) (by kernel_rfl) (by kernel_rfl) (by kernel_rfl) (by kernel_rfl) (fun _ _ _ h => h) (Or.inl ⟨by rfl, ?hy4⟩) hHeld ?rest4
    case hy4 =>
      intro w hSw
      try dsimp only at hSw
      go_simp
      all_goals with_reducible rfl
    try simp only [Act.put]
    refine' wpAnyK_take (i := 5) (v := ?v5) rfl (by kernel_rfl) (by kernel_rfl) (by kernel_rfl) (by kernel_rfl) (by kernel_rfl) (fun _ _ _ h => h) (Or.inl ⟨by rfl, ?hy5⟩) hHeld ?rest5
    case hy5 =>
      intro w hSw
      try dsimp only at hSw
      go_simp
      all_goals with_reducible rfl
    try simp only [Act.put]
    refine' wpAnyK_take (i := 6) (v := ?v6) rfl (by kernel_rfl) (by kernel_rfl) (by kernel_rfl) (by kernel_rfl) (by kernel_rfl) (fun _ _ _ h => h) (Or.inl ⟨by rfl, ?hy6⟩) hHeld ?rest6
    case hy6 =>
      intro w hSw
      try dsimp only at hSw
      go_simp
      all_goals with_reducible rfl
    try simp only [Act.put]
    refine' wpAnyK_take (i := 7) (v := ?v7) rfl (by kernel_rfl) (by kernel_rfl) (by kernel_rfl) (by kernel_rfl) (by kernel_rfl) (fun _ _ _ h => h) (Or.inl ⟨by rfl, ?hy7⟩) hHeld ?rest7
    case hy7 =>
      intro w hSw
      try dsimp only at hSw
      go_simp
      all_goals with_reducible rfl
    try simp only [Act.put]
    refine' wpAnyK_take (i := 8) (v := ?v8) rfl (by kernel_rfl) (by kernel_rfl) (by kernel_rfl) (by kernel_rfl) (by kernel_rfl) (fun _ _ _ h => h) (Or.inl ⟨by rfl, ?hy8⟩) hHeld ?rest8
    case hy8 =>
      intro w hSw
      try dsimp only at hSw
      go_simp
      all_goals with_reducible rfl
    try simp only [Act.put]
    refine' wpAnyK_take (i := 9) (v := ?v9) rfl (by kernel_rfl) (by kernel_rfl) (by kernel_rfl) (by kernel_rfl) (by kernel_rfl) (fun _ _ _ h => h) (Or.inl ⟨by rfl, ?hy9⟩) hHeld ?rest9
    case hy9 =>
      intro w hSw
      try dsimp only at hSw
      go_simp
      all_goals with_reducible rfl
    try simp only [Act.put]
    refine' wpAnyK_take (i := 10) (v := ?v10) rfl (by kernel_rfl) (by kernel_rfl) (by kernel_rfl) (by kernel_rfl) (by kernel_rfl) (fun _ _ _ h => h) (Or.inl ⟨by rfl, ?hy10⟩) hHeld ?rest10
    case hy10 =>
      intro w hSw
      try dsimp only at hSw
      go_simp
      all_goals with_reducible rfl
    try simp only [Act.put]
    refine' wpAnyK_take (i := 11) (v := ?v11) rfl (by kernel_rfl) (by kernel_rfl) (by kernel_rfl) (by kernel_rfl) (by kernel_rfl) (fun _ _ _ h => h) (Or.inl ⟨by rfl, ?hy11⟩) hHeld ?rest11
    case hy11 =>
      intro w hSw
      try dsimp only at hSw
      go_simp
      all_goals with_reducible rfl
    try simp only [Act.put]
    refine' wpAnyK_take (i := 12) (v := ?v12) rfl (by kernel_rfl) (by kernel_rfl) (by kernel_rfl) (by kernel_rfl) (by kernel_rfl) (fun _ _ _ h => h) (Or.inl ⟨by rfl, ?hy12⟩) hHeld ?rest12
    case hy12 =>
      intro w hSw
      try dsimp only at hSw
      go_simp
      all_goals with_reducible rfl
    try simp only [Act.put]
    refine' wpAnyK_take (i := 13) (v := ?v13) rfl (by kernel_rfl) (by kernel_rfl) (by kernel_rfl) (by kernel_rfl) (by kernel_rfl) (fun _ _ _ h => h) (Or.inl ⟨by rfl, ?hy13⟩) hHeld ?rest13
    case hy13 =>
      intro w hSw
      try dsimp only at hSw
      go_simp
      all_goals with_reducible rfl
    try simp only [Act.put]
    refine' wpAnyK_take (i := 14) (v := ?v14) rfl (by kernel_rfl) (by kernel_rfl) (by kernel_rfl) (by kernel_rfl) (by kernel_rfl) (fun _ _ _ h => h) (Or.inl ⟨by rfl, ?hy14⟩) hHeld ?rest14
    case hy14 =>
      intro w hSw
      try dsimp only at hSw
      go_simp
      all_goals with_reducible rfl
    try simp only [Act.put]
    refine' wpAnyK_take (i := 15) (v := ?v15) rfl (by kernel_rfl) (by kernel_rfl) (by kernel_rfl) (by kernel_rfl) (by kernel_rfl) (fun _ _ _ h => h) (Or.inl ⟨by rfl, ?hy15⟩) hHeld ?rest15
    case hy15 =>
      intro w hSw
      try dsimp only at hSw
      go_simp
      all_goals with_reducible rfl
    try simp only [Act.put]
    refine' wpAnyK_take (i := 16) (v := ?v16) rfl (by kernel_rfl) (by kernel_rfl) (by kernel_rfl) (by kernel_rfl) (by kernel_rfl) (fun _ _ _ h => h) (Or.inl ⟨by rfl, ?hy16⟩) hHeld ?rest16
    case hy16 =>
      intro w hSw
      try dsimp only at hSw
      go_simp
      all_goals with_reducible rfl
    try simp only [Act.put]
    refine wpAnyK_ready (rs := [17]) (by kernel_rfl) (by simp) ?_
    refine AllReadyK.cons rfl (fun K hK => ?_) AllReadyK.nil
    go_simp
    go_at_call 8
    refine (jText_any _ 1 m size fill hfill A pn pc).mono ?_
    rintro e w5 ⟨rfl, hB5⟩
    rw [ht]
    have H5 := Lib.hid (H3.out.on ((Below.refl _ w3).drew.trans hB5))
    have HH5 := Lib.hid (HH3.out.below ((Below.refl _ w3).drew.trans hB5))
    have HX5 := Lib.hid (HX3.out.below ((Below.refl _ w3).drew.trans hB5) HX3.out.lt)
    have Hr5 := Lib.hid (ownsRow_below Hrow.out ((Below.refl _ w3).drew.trans hB5) (Nat.le_refl _))
    clear hB5
    go_wp2_with fail
    refine hK.out _ _ ?_ (fun hHeld2 => ?_)
    · exact ⟨HH5.out.blk.cell 0, stepBox_cells HX5.out⟩
    clear hK K hHeld
    have hHeld := hHeld2
    clear hHeld2
    try simp only [Act.put, List.setIfInBounds_toArray, List.set_cons_zero, List.set_cons_succ]
    refine wpAnyK_ready (rs := [18]) (by kernel_rfl) (by simp) ?_
    refine AllReadyK.cons rfl (fun K hK => ?_) AllReadyK.nil
    go_simp
    refine hK.out _ _ ?_ (fun hHeld2 => ?_)
    · exact ⟨(HH5.out.blk.alloc _).cell 0, stepBox_cells (HX5.out.alloc _)⟩
    clear hK K hHeld
    have hHeld := hHeld2
    clear hHeld2
    try simp only [Act.put, List.setIfInBounds_toArray, List.set_cons_zero, List.set_cons_succ]
    refine wpAnyK_ready (rs := [19]) (by kernel_rfl) (by simp) ?_
    refine AllReadyK.cons rfl (fun K hK => ?_) AllReadyK.nil
    refine step_append_grows _ (by rfl) _ _ 38 (by rfl) 9 i0 _ 1 16 Tryd.underlying38 hi hz0 hz1 hz2 rfl (by decide) A2 L L (strCells (J.l.map Prod.snd)) (by rfl) hnone hlo.out (fun b hb j u hj => row_at (Hr5.out.alloc _) hb hj) ⟨w5.heap.size, 0, none⟩ 1 1 [.string t] (by rfl) (by rfl) (news_cells (Blk.new w5 9 #[.string t])) (by simp [Value.oneCell']) (by omega) hlb.out.1 hlb.out.2 ?_
    intro v6 w6 hr6 hg6
    obtain ⟨A6, c6, rfl⟩ := Sec.ownsRow_slice hr6
    have hg56 := Lib.hid (grown_trans (grown_below ((Below.refl _ w5).alloc (Nat.le_refl _) (.cells #[.string t] 9)) (Nat.le_refl _) none) hg6)
    have Hh6 := Lib.hid (HH5.out.blk.grown hg56.out (by simp))
    have Hx6 := Lib.hid (HX5.out.grown hg56.out (by simp))
    have y6 : w6.cell? ⟨hb, 0, none⟩ = some (.slice A2 L c2) := Hh6.out.cell 0
    have f6 := Hh6.out.frozen 0
    have Hr6 := Lib.hid hr6
    clear hr6 hg6
    refine hK.out _ _ ?_ (fun hHeld2 => ?_)
    · exact ⟨y6, stepBox_cells Hx6.out⟩
    clear hK K hHeld
    have hHeld := hHeld2
    clear hHeld2
    try simp only [Act.put, List.setIfInBounds_toArray]
    refine' wpAnyK_take (i := 20) (v := ?v20) rfl (by kernel_rfl) (by kernel_rfl) (by kernel_rfl) (by kernel_rfl) (by kernel_rfl) (fun _ _ _ h => h) (Or.inl ⟨by rfl, ?hy20⟩) hHeld ?rest20
    case hy20 =>
      intro w hSw
      try dsimp only at hSw
      go_simp
      all_goals with_reducible rfl
    try simp only [Act.put]
    refine' wpAnyK_take (i := 21) (v := ?v21) rfl (by kernel_rfl) (by kernel_rfl) (by kernel_rfl) (by kernel_rfl) (by kernel_rfl) (fun _ _ _ h => h) (Or.inl ⟨by rfl, ?hy21⟩) hHeld ?rest21
    case hy21 =>
      intro w hSw
      try dsimp only at hSw
      go_simp
      all_goals with_reducible rfl
    try simp only [Act.put]
    refine wpAnyK_ready (rs := [22]) (by kernel_rfl) (by simp) ?_
    refine AllReadyK.last rfl (fun K hK => ?_)
    go_simp
    refine hK.out _ _ ?_
    clear hK K
    try simp only [Act.put, List.setIfInBounds_toArray, List.set_cons_zero, List.set_cons_succ]
    refine wpAnyK_done (by kernel_rfl) ?_ _
    clear hHeld
    have H6 := Lib.hid (H5.out.none hg56.out)
    have Hb7 : Hid (Blk (w6.setCell ⟨hb, 0, none⟩ (.slice A6 (L + 1) c6)) hb 42 #[.slice A6 (L + 1) c6, .int .i64 (lastN J.l : Int)]) := Hh6.out.set_ 0 (.slice A6 (L + 1) c6)
    have H7 := Lib.hid (H6.out.hist Hh6.out hW (by decide) (grown_set w6 hb 0 (.slice A6 (L + 1) c6)))
    have Hr7 : Hid ((w6.setCell ⟨hb, 0, none⟩ (.slice A6 (L + 1) c6)).ownsRow 0 9 1 (.slice A6 (L + 1) c6) (L + 1) (strCells (J.l.map Prod.snd ++ [t]))) := by
      have := ownsRow_more (Hr6.out.kept (grown_set w6 hb 0 (.slice A6 (L + 1) c6)) (.inr (own_blk_ne Hr6.out Hh6.out (by decide)))) (Nat.zero_le _)
      unfold Hid
      rw [strCells_snoc]
      exact this
    have Ho7 : Hid (∀ g, (Value.slice A6 (L + 1) c6).ownBlock = some g → g ≠ a.sb) := by
      intro g e
      have h1 := (Hr6.out.lt g e).1
      obtain ⟨_, q3⟩ := H5.out.dev.dev.sblk
      have h2 := q3.lt
      rw [World.size_alloc] at h1
      omega
    clear H5 HH5 HX5 Hr5 hg56 Hh6 Hx6 y6 f6 Hr6 H6 y0 x0 x1 x2 x3 x4 H3 HX3 HH3 hsl Hrow
    generalize (w6.setCell ⟨hb, 0, none⟩ (.slice A6 (L + 1) c6)) = w7 at *
    have y1 : w7.cell? ⟨hb, 1, none⟩ = some (.int .i64 (lastN J.l : Int)) := Hb7.out.cell 1
    have g1 := Hb7.out.frozen 1
    go_wp2_with fail
    go_ret2
    have e1 : J'.l.map Prod.snd = J.l.map Prod.snd ++ [t] := by rw [hl, List.map_append]; rfl
    have e2 : lastN J'.l = J.next := by rw [hl, lastN_snoc]
    have e3 : (J.l.map Prod.snd ++ [t]).length = L + 1 := by rw [List.length_append, hL]; rfl
    refine ⟨0, v', .slice A6 (L + 1) c6, J', _, rfl, .inl rfl, H7.out.hist Hb7.out hW (by decide) (grown_set w7 hb 1 _), ?_⟩
    unfold Hid
    rw [e1, e2]
    exact ⟨Hb7.out.set_ 1 _, by rw [e3]; exact Hr7.out.kept (grown_set w7 hb 1 _) (.inr (own_blk_ne Hr7.out Hb7.out (by decide))), Ho7.out⟩
end
end Go.Proofs.YtgdpgiegiacepaaDoor
