/-
  Layer 46 (script): encoded.
-/
import Derived.Test.YtldkfhimpkiigaaGreatDoorScrW8
namespace Go.Proofs.YtldkfhimpkiigaaGreatDoor
open Go.RowKit ScrP
attribute [local go_sem] Oper.semAt_some

theorem wp_lit_op {w0 : World} {o : Oper} {a : Act} {K : Act → World → Prop} {Q : Exit → Act → World → Prop} (d s : Operand) (ho : o.op = .call { callee := .builtin .append, args := #[d, s], argTypes := #[70, 70] }) (base : Nat) (v : Value) (l : List UInt8) (hd : a.eval d = v) (hrow : BRow w0 base v l)
    (n c : Nat) (xs : List UInt8) {vals : Array Value} (hval : vals = (xs.map byteV).toArray) (hn : xs.length = n) (hs : a.eval s = .slice (some ⟨w0.heap.size, 0, none⟩) n c) (hlen : l.length + n < 99999999999) (hb : base ≤ w0.heap.size)
    (h : ∀ v' w', Pushed w0 w' base v v' (l ++ xs) → K (a.put o.dst v') w') : o.wp Tryz.prog a (w0.alloc (.cells vals 5)) K Q := by
  subst hval hn
  refine wp_cat_op d s ho base v l hd (hrow.alloc _) w0.heap.size 0 c xs hs (brow_lit (base := w0.heap.size) w0 xs (Nat.le_refl _) (by unfold maxLen; omega)).bytesAt ?_ ?_ ?_
  · omega
  · rw [World.size_alloc]; omega
  · intro v' w' hP
    refine h v' w' ⟨hP.row, ?_, fun B w1 hB hb2 hBel => hP.bel B w1 hB (by rw [World.size_alloc]; omega) (hBel.alloc (Nat.le_trans hB hb2) _)⟩
    exact grown_tr (grownB ((Below.refl _ w0).alloc (Nat.le_refl _) _) (Nat.le_refl _) v.ownBlock) hP.grown
theorem hexB_len (l : List UInt8) : (hexB l).length = 2 * l.length := by
  unfold hexB
  induction l with
  | nil => rfl
  | cons a t ih => rw [List.flatMap_cons, List.length_append, ih, List.length_cons]; simp; omega
theorem hexB_snoc (l : List UInt8) (c : UInt8) : hexB (l ++ [c]) = hexB l ++ [hexD (c.toNat / 16), hexD (c.toNat % 16)] := by
  unfold hexB
  rw [List.flatMap_append]
  rfl
theorem str_index8 {s : ByteArray} {k : Nat} {c : UInt8} (h : s.data.toList[k]? = some c) (wx : World) : (Instr.index 9 (.string s) (.int .u8 (k : Int))).run Tryz.prog wx = .ok (.int .u8 (c.toNat : Int)) wx := by
  obtain ⟨h1, h2⟩ := List.getElem?_eq_some_iff.1 h
  have h3 : k < s.size := by rw [show s.size = s.data.toList.length from Array.length_toList.symm]; exact h1
  have h4 : s[k]'h3 = c := by
    show s.data[k] = c
    rw [← h2, Array.getElem_toList]
  have h5 : ¬ (s.size : Int) ≤ (k : Int) := by omega
  have h6 : ¬ (k : Int) < 0 := by omega
  have h7 : ¬ s.size ≤ k := by omega
  simp [Instr.index, run_underlying Tryz.underlying9, asIntOf, h3, h4]
theorem hex_at (k : Nat) (h : k < 16) (wx : World) : (Instr.index 9 (.string ⟨#[48, 49, 50, 51, 52, 53, 54, 55, 56, 57, 97, 98, 99, 100, 101, 102]⟩) (.int .u8 (k : Int))).run Tryz.prog wx = .ok (.int .u8 ((hexD k).toNat : Int)) wx := by
  have ht : ((List.range 16).all fun j => decide (hexT.data.toList[j]? = some (hexD j))) = true := by kernel_rfl
  exact str_index8 (s := hexT) (of_decide_eq_true (List.all_eq_true.1 ht k (List.mem_range.2 h))) wx
theorem hex_hi (c : UInt8) (wx : World) : (Instr.index 9 (.string ⟨#[48, 49, 50, 51, 52, 53, 54, 55, 56, 57, 97, 98, 99, 100, 101, 102]⟩) (.int .u8 ((c.toNat : Int) / 16))).run Tryz.prog wx = .ok (.int .u8 ((hexD (c.toNat / 16)).toNat : Int)) wx := by
  have h := hex_at (c.toNat / 16) (by have := c.toNat_lt; omega) wx
  rwa [show ((c.toNat / 16 : Nat) : Int) = (c.toNat : Int) / 16 by omega] at h
theorem and_tab (c : UInt8) : bits BinOp.and IntKind.u8 (c.toNat : Int) 15 = ((c.toNat % 16 : Nat) : Int) := by
  have h : ((List.range 256).all fun k => decide (bits BinOp.and IntKind.u8 (k : Int) 15 = ((k % 16 : Nat) : Int))) = true := by kernel_rfl
  exact of_decide_eq_true (List.all_eq_true.1 h c.toNat (List.mem_range.2 c.toNat_lt))
theorem hex_lo (c : UInt8) (wx : World) : (Instr.index 9 (.string ⟨#[48, 49, 50, 51, 52, 53, 54, 55, 56, 57, 97, 98, 99, 100, 101, 102]⟩) (.int .u8 (bits BinOp.and IntKind.u8 (c.toNat : Int) 15))).run Tryz.prog wx = .ok (.int .u8 ((hexD (c.toNat % 16)).toNat : Int)) wx := by
  rw [and_tab]
  exact hex_at (c.toNat % 16) (by omega) wx
def EncPost (s : ByteArray) (w : World) (e : Ending) (w' : World) : Prop := Below w.heap.size w w' ∧ ∃ t : ByteArray, e = .returned (.string t) ∧ t.data.toList = hexB s.data.toList
set_option maxRecDepth 100000000 in
set_option maxHeartbeats 4000000 in
theorem encoded_any (s : ByteArray) (w : World) (hs : s.size ≤ 100000000) : Calls Tryz.prog 45 #[.string s] w (EncPost s w) := by
  have hll : s.data.toList.length = s.size := Array.length_toList
  have hlH := Lib.hid hll
  obtain ⟨cc, w1, hcv, hba, hbel, hsz⟩ := conv_text w s
  obtain ⟨n, hn⟩ : ∃ n, s.size = n := ⟨_, rfl⟩
  have hnH := Lib.hid hn
  rw [hn] at hs hcv
  have hbaH := Lib.hid hba
  have L1 := Lib.hid hbel
  have hgl : Hid (w.heap.size < w1.heap.size) := by unfold Hid; omega
  obtain ⟨g, hg⟩ : ∃ g, w.heap.size = g := ⟨_, rfl⟩
  rw [hg] at hcv hbaH
  have hgH := Lib.hid hg
  clear hll hn hba hbel hsz hg
  go_enter Tryz.func45, Tryz.ntmps45
  go_wp2_with fail
  go_loopw [3, 5, 9] (fun v3 _ v9 wr => ∃ k : Nat, v9 = .int .i64 (k : Int) ∧ k ≤ n ∧ Hid (BRow wr w1.heap.size v3 (hexB (s.data.toList.take k))) ∧ Hid (Below w1.heap.size w1 wr)) (fun _ _ v9 _ => n - (intOf v9).toNat)
  case atStart => exact ⟨0, rfl, Nat.zero_le _, brow_nil _ _, Below.refl _ _⟩
  case round =>
  obtain ⟨k, rfl, hk, hR, hB⟩ := hrel
  obtain ⟨w3, hw3⟩ : ∃ x, x = wr := ⟨_, rfl⟩
  subst hw3
  by_cases hlt : k < n
  case neg =>
    have d1 : decide (k < n) = false := decide_eq_false hlt
    have d2 : decide ((k : Int) < (n : Int)) = false := decide_eq_false (by omega)
    have htk : s.data.toList.take k = s.data.toList := List.take_of_length_le (by rw [hlH.out, hnH.out]; omega)
    have hc1 := conv_row hR.out
    rw [htk] at hc1
    have hos : (⟨(hexB s.data.toList).toArray⟩ : ByteArray).data.toList = hexB s.data.toList := rfl
    obtain ⟨t, ht⟩ : ∃ t, (⟨(hexB s.data.toList).toArray⟩ : ByteArray) = t := ⟨_, rfl⟩
    rw [ht] at hc1 hos
    have htl := Lib.hid hos
    have hL := Lib.hid (L1.out.trans (hB.out.mono L1.out.size))
    clear hlt htk hos ht
    go_wp2_with fail
    go_ret
    exact ⟨hL.out, t, rfl, htl.out⟩
  case pos =>
    have d1 : decide (k < n) = true := decide_eq_true hlt
    have d2 : decide ((k : Int) < (n : Int)) = true := decide_eq_true (by omega)
    obtain ⟨c, hc⟩ : ∃ c, s.data.toList[k]? = some c := ⟨_, List.getElem?_eq_getElem (by rw [hlH.out, hnH.out]; exact hlt)⟩
    have c0 : w3.cell? ⟨g, k, none⟩ = some (.int .u8 (c.toNat : Int)) := by
      rw [hB.out.cell (p := ⟨g, k, none⟩) (by rw [← hgH.out]; exact hgl.out)]
      have h := hbaH.out.2 k c hc
      rwa [Nat.zero_add] at h
    have i1 := hex_hi c
    have i2 := hex_lo c
    have q0 : (0 : Int) ≤ (k : Int) := by omega
    have q1 : (k : Int) < (n : Int) := by omega
    have q2 : (n : Int) ≤ 100000000 := by omega
    have hsn : Hid (hexB (s.data.toList.take (k + 1)) = hexB (s.data.toList.take k) ++ [hexD (c.toNat / 16), hexD (c.toNat % 16)]) := by
      unfold Hid
      rw [List.take_add_one, hc]
      exact hexB_snoc _ _
    have hval : Hid (#[Value.int .u8 ((hexD (c.toNat / 16)).toNat : Int), .int .u8 ((hexD (c.toNat % 16)).toNat : Int)] = ([hexD (c.toNat / 16), hexD (c.toNat % 16)].map byteV).toArray) := rfl
    have hln : Hid ((hexB (s.data.toList.take k)).length + 2 < 99999999999) := by unfold Hid; rw [hexB_len, List.length_take]; omega
    have hRd : Hid (BRow w3.drew w1.heap.size u3 (hexB (s.data.toList.take k))) := hR.out.drewN 1
    have hBd := Lib.hid hB.out.drew
    have q3 : (0 : Int) ≤ (c.toNat : Int) := by omega
    have q4 : (c.toNat : Int) < 256 := by have := c.toNat_lt; omega
    have hltH := Lib.hid hlt
    clear hc hlt
    go_upto_region 5 with fail
    refine wp_region_held_drew (S := (fun _ => True)) (by kernel_rfl) trivial (fun hHeld => ?_)
    refine' wpAnyH_take (i := 0) (v := ?v0h) rfl (by kernel_rfl) (by kernel_rfl) (by kernel_rfl) (fun _ _ _ h => h) (Or.inl ⟨by rfl, ?hy0h⟩) hHeld ?rest0h
    case hy0h => intro w hSw; (try dsimp only at hSw); go_simp; all_goals with_reducible rfl
    try simp only [Act.put, List.setIfInBounds_toArray, List.set_cons_zero, List.set_cons_succ, List.getElem_toArray, List.getElem_cons_zero]
    refine' wpAnyH_take (i := 1) (v := ?v1h) rfl (by kernel_rfl) (by kernel_rfl) (by kernel_rfl) (fun _ _ _ h => h) (Or.inl ⟨by rfl, ?hy1h⟩) hHeld ?rest1h
    case hy1h => intro w hSw; (try dsimp only at hSw); go_simp; all_goals with_reducible rfl
    try simp only [Act.put, List.setIfInBounds_toArray, List.set_cons_zero, List.set_cons_succ, List.getElem_toArray, List.getElem_cons_zero, List.getElem_cons_succ]
    refine' wpAnyH_take (i := 2) (v := ?v2h) rfl (by kernel_rfl) (by kernel_rfl) (by kernel_rfl) (fun _ _ _ h => h) (Or.inl ⟨by rfl, ?hy2h⟩) hHeld ?rest2h
    case hy2h => intro w hSw; (try dsimp only at hSw); go_simp; all_goals with_reducible rfl
    try simp only [Act.put, List.setIfInBounds_toArray, List.set_cons_zero, List.set_cons_succ, List.getElem_toArray, List.getElem_cons_zero, List.getElem_cons_succ]
    refine' wpAnyH_take (i := 3) (v := ?v3h) rfl (by kernel_rfl) (by kernel_rfl) (by kernel_rfl) (fun _ _ _ h => h) (Or.inl ⟨by rfl, ?hy3h⟩) hHeld ?rest3h
    case hy3h => intro w hSw; (try dsimp only at hSw); go_simp; all_goals with_reducible rfl
    try simp only [Act.put, List.setIfInBounds_toArray, List.set_cons_zero, List.set_cons_succ, List.getElem_toArray, List.getElem_cons_zero, List.getElem_cons_succ]
    refine' wpAnyH_take (i := 4) (v := ?v4h) rfl (by kernel_rfl) (by kernel_rfl) (by kernel_rfl) (fun _ _ _ h => h) (Or.inl ⟨by rfl, ?hy4h⟩) hHeld ?rest4h
    case hy4h => intro w hSw; (try dsimp only at hSw); go_simp; all_goals with_reducible rfl
    try simp only [Act.put, List.setIfInBounds_toArray, List.set_cons_zero, List.set_cons_succ, List.getElem_toArray, List.getElem_cons_zero, List.getElem_cons_succ]
    refine' wpAnyH_take (i := 5) (v := ?v5h) rfl (by kernel_rfl) (by kernel_rfl) (by kernel_rfl) (fun _ _ _ h => h) (Or.inl ⟨by rfl, ?hy5h⟩) hHeld ?rest5h
    case hy5h => intro w hSw; (try dsimp only at hSw); go_simp; all_goals with_reducible rfl
    try simp only [Act.put, List.setIfInBounds_toArray, List.set_cons_zero, List.set_cons_succ, List.getElem_toArray, List.getElem_cons_zero, List.getElem_cons_succ]
    refine' wpAnyH_take (i := 6) (v := ?v6h) rfl (by kernel_rfl) (by kernel_rfl) (by kernel_rfl) (fun _ _ _ h => h) (Or.inl ⟨by rfl, ?hy6h⟩) hHeld ?rest6h
    case hy6h => intro w hSw; (try dsimp only at hSw); go_simp; all_goals with_reducible rfl
    try simp only [Act.put, List.setIfInBounds_toArray, List.set_cons_zero, List.set_cons_succ, List.getElem_toArray, List.getElem_cons_zero, List.getElem_cons_succ]
    refine wpAnyH_ready (rs := [7]) (by kernel_rfl) (by simp) ?_
    refine AllReadyH.cons rfl (fun K hK => ?_) AllReadyH.nil
    go_simp
    refine hK.out _ _ trivial (fun hHeld2 => ?_)
    clear hK K hHeld
    have hHeld := hHeld2
    clear hHeld2
    try simp only [Act.put, List.setIfInBounds_toArray, List.set_cons_zero, List.set_cons_succ, List.getElem_toArray, List.getElem_cons_zero, List.getElem_cons_succ]
    refine wpAnyH_ready (rs := [8]) (by kernel_rfl) (by simp) ?_
    refine AllReadyH.cons rfl (fun K hK => ?_) AllReadyH.nil
    refine wp_lit_op _ _ rfl w1.heap.size _ (hexB (s.data.toList.take k)) rfl hRd.out 2 2 [hexD (c.toNat / 16), hexD (c.toNat % 16)] hval.out rfl rfl hln.out hBd.out.size ?_
    intro v9 w9 hP9
    rw [← hsn.out] at hP9
    have HP9 := Lib.hid hP9
    clear hP9
    refine hK.out _ _ trivial (fun hHeld2 => ?_)
    clear hK K hHeld
    have hHeld := hHeld2
    clear hHeld2
    try simp only [Act.put, List.setIfInBounds_toArray, List.set_cons_zero, List.set_cons_succ, List.getElem_toArray, List.getElem_cons_zero, List.getElem_cons_succ]
    refine' wpAnyH_take (i := 9) (v := ?v9h) rfl (by kernel_rfl) (by kernel_rfl) (by kernel_rfl) (fun _ _ _ h => h) (Or.inl ⟨by rfl, ?hy9h⟩) hHeld ?rest9h
    case hy9h => intro w hSw; (try dsimp only at hSw); go_simp; all_goals with_reducible rfl
    try simp only [Act.put, List.setIfInBounds_toArray, List.set_cons_zero, List.set_cons_succ, List.getElem_toArray, List.getElem_cons_zero, List.getElem_cons_succ]
    refine wpAnyH_done (by kernel_rfl) ?_ _
    clear hHeld
    have hB9 := Lib.hid (HP9.out.bel _ _ (Nat.le_refl _) hBd.out.size hBd.out)
    go_wp2_with fail
    go_roundw
    case rel => exact ⟨k + 1, by go_num, hltH.out, HP9.out.row, hB9.out⟩
    case measure => have := hltH.out; simp [intOf]; omega
end Go.Proofs.YtldkfhimpkiigaaGreatDoor
