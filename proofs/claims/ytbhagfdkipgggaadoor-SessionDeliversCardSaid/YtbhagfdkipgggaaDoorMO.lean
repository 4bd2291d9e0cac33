/-
  Layer 29 (session): the table: Put, Remove, Free.
  Layer 29 (session): the table: Remove, Free.
-/
import Derived.Test.YtbhagfdkipgggaaDoorMN
namespace Go.Proofs.YtbhagfdkipgggaaDoor
open Go.RowKit Go.Shelf
attribute [local go_sem] Oper.semAt_some
theorem set_seven {X Y : List Value} (h : X.length = 7) (m : Nat) (v : Value) : (X ++ Y).set (7 + m) v = X ++ Y.set m v := by
  rw [List.set_append_right _ _ (by omega), h, Nat.add_sub_cancel_left]
theorem tab_set (s : Ses) : ∀ (L : List Ses) (k : Nat), k < L.length →
    (((((((tabC L).set (k * 7) (.int .i64 s.id)).set (k * 7 + 1) (.int .i64 s.role)).set (k * 7 + 2) (.int .i64 s.side)).set (k * 7 + 3) (.string s.key)).set (k * 7 + 4) (.int .i64 s.sent)).set (k * 7 + 5) (.int .i64 s.top)).set (k * 7 + 6) (.int .u64 (s.seen : Int)) = tabC (L.set k s)
  | a :: r, 0, _ => by
    rw [List.set_cons_zero, tabC_cons, tabC_cons]
    rfl
  | a :: r, k + 1, h => by
    have ih := tab_set s r k (by simpa using h)
    have h7 := sesC_seven a
    rw [List.set_cons_succ, tabC_cons, tabC_cons, ← ih]
    rw [show (k + 1) * 7 = 7 + k * 7 by omega]
    simp only [Nat.add_assoc, set_seven h7]
theorem row_lower {w : World} {b c : Nat} {v : Value} {n : Nat} {xs : List Value} {t : TypeId} (h : w.ownsRow b t 7 v n xs) (hc : c ≤ b) : w.ownsRow c t 7 v n xs := by
  refine ⟨h.1, ?_⟩
  rcases h.2 with h | ⟨g, cap, cur, h1, h2, h3⟩
  · exact .inl h
  · exact .inr ⟨g, cap, cur, h1, Nat.le_trans hc h2, h3⟩
theorem row_cells {w : World} {B g n cap : Nat} {xs : List Value} {t : TypeId} (h : w.ownsRow B t 7 (.slice (some ⟨g, 0, none⟩) n cap) n xs) : ∀ j u, xs[j]? = some u → w.cell? ⟨g, 0 + j, none⟩ = some u := fun j u hj => by have := h.cells (g := g) rfl j u hj; rw [Addr.add_lit] at this; exact this
theorem row_form {w : World} {B n : Nat} {v : Value} {xs : List Value} {t : TypeId} (h : w.ownsRow B t 7 v n xs) (h0 : 0 < n) : ∃ g cap, v = .slice (some ⟨g, 0, none⟩) n cap ∧ B ≤ g ∧ n ≤ cap ∧ g < w.heap.size := by
  rcases h.2 with ⟨_, h1⟩ | ⟨g, cap, cur, h1, h2, hg, h3, _⟩
  · omega
  · exact ⟨g, cap, h1, h2, h3, Blk.lt hg⟩
theorem row_grown {w0 w w' : World} {B : Nat} {v : Value} {n : Nat} {xs : List Value} {t : TypeId} (h : w.ownsRow B t 7 v n xs) (hw : B ≤ w0.heap.size) (hB : Below B w0 w) (hg : w.grownBy w' v.ownBlock) : Below B w0 w' := hB.grown hg (Nat.le_trans hw hB.size) (fun k e => (h.lt k e).1)
set_option maxRecDepth 100000 in
set_option maxHeartbeats 4000000 in
theorem tput_any (w : World) (v : Value) (L : List Ses) (s : Ses) (hT : TabAt w v L) (hs : s.Fits) (hN : L.length ≤ 1000) :
    Calls Tryd.prog 29 #[v, sesV s] w fun e w' => ∃ v', e = .returned (.tuple #[v', .int .i64 ((putP L s).2 : Nat)]) ∧ w'.ownsRow w.heap.size 32 7 v' (putP L s).1.length (tabC (putP L s).1) ∧ Below w.heap.size w w' := by
  have HPL : Hid (∀ wx, Below w.heap.size w wx → Calls Tryd.prog 54 #[v, .int .i64 s.id] wx fun e w' => e = .returned (.int .i64 (idxI (hasId s.id) L)) ∧ Below wx.heap.size wx w') := fun wx hB => place_any wx v L s.id (hT.below hB (Nat.le_refl _))
  have HV : Hid (∀ wx, Calls Tryd.prog 21 #[sesV s] wx fun e w' => e = .returned (.bool (validP s)) ∧ Below wx.heap.size wx w') := fun wx => valid_any wx s hs
  have HCL : Hid (∀ wx, Below w.heap.size w wx → Calls Tryd.prog 56 #[v] wx fun e w' => ∃ v', e = .returned v' ∧ w'.ownsRow wx.heap.size 32 7 v' L.length (tabC L) ∧ Below wx.heap.size wx w') := fun wx hB => clone_any wx v L (hT.below hB (Nat.le_refl _)) (by omega)
  have HIX : Hid (∀ wx, Below w.heap.size w wx → wx.cell? ⟨w.heap.size, 0, none⟩ = some (.int .i64 s.id) → w.heap.size < wx.heap.size → Calls Tryd.prog 57 #[v, .func (.func 58) #[] #[.pointer (some ⟨w.heap.size, 0, none⟩)]] wx fun e w' => e = .returned (.int .i64 (idxI (overId s.id) L)) ∧ Below wx.heap.size wx w') := fun wx hB hc hl => idx_put1 wx v L (hT.below hB (Nat.le_refl _)) w.heap.size s.id hc hl
  obtain ⟨A, c, rfl, hlc, hcm, _⟩ := hT
  unfold maxLen at hcm
  have HL := Lib.hid hlc
  by_cases hv : validP s = true
  · rw [hv] at HV
    rcases idx_cases (hasId s.id) L with ⟨hf, hi⟩ | ⟨k, x, hf, hi, hk, _⟩
    · rw [hi] at HPL
      by_cases h64 : 64 ≤ L.length
      · have hJ : putP L s = ([], 15) := by unfold putP; rw [if_pos hv, hf]; dsimp only; rw [if_pos h64]
        rw [hJ]
        clear hJ hf hi hv hs HCL HIX
        obtain ⟨id, role, side, key, sent, top, seen⟩ := s
        unfold sesV sesC at HV ⊢
        dsimp only at HV HPL ⊢
        go_enter Tryd.func29, Tryd.ntmps29
        go_upto_region 1 with fail
        refine world_is (P := fun W => Code.wp _ _ _ _ W) (fun Wa hWa => ?_)
        have HX0 : Hid (Blk Wa w.heap.size 32 #[.int .i64 id, .int .i64 role, .int .i64 side, .string key, .int .i64 sent, .int .i64 top, .int .u64 (seen : Int)]) := by unfold Hid; rw [← hWa]; exact Blk.new w _ _
        have HB0 : Hid (Below w.heap.size w Wa) := by unfold Hid; rw [← hWa]; exact (Below.refl w.heap.size w).alloc (Nat.le_refl _) _
        clear hWa
        have c0 := HX0.out.cell 0
        go_wp2_with (first
          | (go_at_call 21; refine ((HV.out _).mono ?_); rintro e w2 ⟨rfl, hB⟩; have HX2 := Lib.hid (HX1.out.below hB HX1.out.lt); have HB2 := Lib.hid (HB1.out.trans (hB.mono HB1.out.size)); clear hB)
          | (go_at_call 54; refine ((HPL.out _ HB0.out).mono ?_); rintro e w1 ⟨rfl, hB⟩; have HX1 := Lib.hid (HX0.out.below hB HX0.out.lt); have HB1 := Lib.hid (HB0.out.trans (hB.mono HB0.out.size)); clear hB; have d0 := HX1.out.cell 0; have d1 := HX1.out.cell 1; have d2 := HX1.out.cell 2; have d3 := HX1.out.cell 3; have d4 := HX1.out.cell 4; have d5 := HX1.out.cell 5; have d6 := HX1.out.cell 6)
          | fail)
        go_ret2
        exact ⟨_, rfl, World.ownsRow_nil _ _ _ _, HB2.out⟩
      · obtain ⟨at_, hat⟩ : ∃ at_, spotP L s.id = at_ := ⟨_, rfl⟩
        have hatl : at_ ≤ L.length := by rw [← hat]; exact spotP_le L s.id
        have hJ : putP L s = (L.take at_ ++ s :: L.drop at_, 0) := by unfold putP; rw [if_pos hv, hf]; dsimp only; rw [if_neg h64, hat]
        rw [hJ]
        dsimp only
        have hln : (L.take at_ ++ s :: L.drop at_).length = L.length + 1 := by simp; omega
        rw [hln]
        have hspot : (idxI (overId s.id) L = -1 ∧ at_ = L.length) ∨ idxI (overId s.id) L = (at_ : Int) := by
          unfold spotP at hat
          unfold idxI
          cases h : L.findIdx? (overId s.id) with
          | none => rw [h] at hat; exact .inl ⟨rfl, hat.symm⟩
          | some i => rw [h] at hat; exact .inr (by rw [← hat])
        have HIN : Hid (∀ (wx : World) (base : Nat) (v' : Value) (nb : Nat), wx.ownsRow base 32 7 v' L.length (tabC L) → base ≤ wx.heap.size → Blk wx nb 32 (sesC s).toArray → v'.ownBlock ≠ some nb → Calls Tryd.prog 59 #[v', .int .i64 at_, .slice (some ⟨nb, 0, none⟩) 1 1] wx fun e w' => ∃ v2, e = .returned v2 ∧ w'.ownsRow base 32 7 v2 (L.length + 1) (tabC (L.take at_ ++ s :: L.drop at_)) ∧ wx.grownBy w' v'.ownBlock) := fun wx base v' nb h1 h2 h3 h4 => insert_any wx base v' L at_ nb s h1 h2 hatl hN h3 h4
        generalize tabC (L.take at_ ++ s :: L.drop at_) = RES at *
        clear hJ hf hi hv hs hat hln
        obtain ⟨id, role, side, key, sent, top, seen⟩ := s
        unfold sesV sesC at HV
        unfold sesC at HIN
        unfold sesV sesC
        dsimp only at HV HPL HIX HIN hspot ⊢
        have q64 : decide ((64 : Int) ≤ (L.length : Int)) = false := decide_eq_false (by omega)
        rcases hspot with ⟨hsp, rfl⟩ | hsp
        · rw [hsp] at HIX
          clear hsp
          go_enter Tryd.func29, Tryd.ntmps29
          go_upto_region 1 with fail
          refine world_is (P := fun W => Code.wp _ _ _ _ W) (fun Wa hWa => ?_)
          have HX0 : Hid (Blk Wa w.heap.size 32 #[.int .i64 id, .int .i64 role, .int .i64 side, .string key, .int .i64 sent, .int .i64 top, .int .u64 (seen : Int)]) := by unfold Hid; rw [← hWa]; exact Blk.new w _ _
          have HB0 : Hid (Below w.heap.size w Wa) := by unfold Hid; rw [← hWa]; exact (Below.refl w.heap.size w).alloc (Nat.le_refl _) _
          clear hWa
          have c0 := HX0.out.cell 0
          go_wp2_with (first
            | (go_at_call 59; refine (HIN.out _ w.heap.size v3 w4.heap.size (HR4.out.alloc _) (Nat.le_trans HB4.out.size (by rw [World.size_alloc]; exact Nat.le_succ _)) (Blk.new w4 _ _) (fun e => absurd (HR4.out.lt _ e).2 (Nat.lt_irrefl _))).mono ?_; rintro e w5 ⟨v5, rfl, hR, hg⟩; have HR5 := Lib.hid hR; have HB5 := Lib.hid (row_grown (HR4.out.alloc (.cells #[.int .i64 id, .int .i64 role, .int .i64 side, .string key, .int .i64 sent, .int .i64 top, .int .u64 (seen : Int)] 32)) (Nat.le_refl _) (HB4.out.alloc HB4.out.size _) hg); clear hR hg)
            | (go_at_call 57; refine (HIX.out _ HB3.out (HX3.out.cell 0) HX3.out.lt).mono ?_; rintro e w4 ⟨rfl, hB⟩; have HX4 := Lib.hid (HX3.out.below hB HX3.out.lt); have HB4 := Lib.hid (HB3.out.trans (hB.mono HB3.out.size)); have HR4 := Lib.hid (ownsRow_below HR3.out hB (Nat.le_refl _)); clear hB; have e0 := HX4.out.cell 0; have e1 := HX4.out.cell 1; have e2 := HX4.out.cell 2; have e3 := HX4.out.cell 3; have e4 := HX4.out.cell 4; have e5 := HX4.out.cell 5; have e6 := HX4.out.cell 6)
            | (go_at_call 56; refine (HCL.out _ HB2.out).mono ?_; rintro e w3 ⟨v3, rfl, hR, hB⟩; have HX3 := Lib.hid (HX2.out.below hB HX2.out.lt); have HB3 := Lib.hid (HB2.out.trans (hB.mono HB2.out.size)); have HR3 := Lib.hid (row_lower hR HB2.out.size); clear hB hR; have c0 := HX3.out.cell 0)
            | (go_at_call 21; refine ((HV.out _).mono ?_); rintro e w2 ⟨rfl, hB⟩; have HX2 := Lib.hid (HX1.out.below hB HX1.out.lt); have HB2 := Lib.hid (HB1.out.trans (hB.mono HB1.out.size)); clear hB)
            | (go_at_call 54; refine ((HPL.out _ HB0.out).mono ?_); rintro e w1 ⟨rfl, hB⟩; have HX1 := Lib.hid (HX0.out.below hB HX0.out.lt); have HB1 := Lib.hid (HB0.out.trans (hB.mono HB0.out.size)); clear hB; have d0 := HX1.out.cell 0; have d1 := HX1.out.cell 1; have d2 := HX1.out.cell 2; have d3 := HX1.out.cell 3; have d4 := HX1.out.cell 4; have d5 := HX1.out.cell 5; have d6 := HX1.out.cell 6)
            | fail)
          go_ret2
          exact ⟨_, rfl, HR5.out, HB5.out⟩
        · rw [hsp] at HIX
          have q0 : decide ((at_ : Int) < 0) = false := decide_eq_false (by omega)
          clear hsp
          go_enter Tryd.func29, Tryd.ntmps29
          go_upto_region 1 with fail
          refine world_is (P := fun W => Code.wp _ _ _ _ W) (fun Wa hWa => ?_)
          have HX0 : Hid (Blk Wa w.heap.size 32 #[.int .i64 id, .int .i64 role, .int .i64 side, .string key, .int .i64 sent, .int .i64 top, .int .u64 (seen : Int)]) := by unfold Hid; rw [← hWa]; exact Blk.new w _ _
          have HB0 : Hid (Below w.heap.size w Wa) := by unfold Hid; rw [← hWa]; exact (Below.refl w.heap.size w).alloc (Nat.le_refl _) _
          clear hWa
          have c0 := HX0.out.cell 0
          go_wp2_with (first
            | (go_at_call 59; refine (HIN.out _ w.heap.size v3 w4.heap.size (HR4.out.alloc _) (Nat.le_trans HB4.out.size (by rw [World.size_alloc]; exact Nat.le_succ _)) (Blk.new w4 _ _) (fun e => absurd (HR4.out.lt _ e).2 (Nat.lt_irrefl _))).mono ?_; rintro e w5 ⟨v5, rfl, hR, hg⟩; have HR5 := Lib.hid hR; have HB5 := Lib.hid (row_grown (HR4.out.alloc (.cells #[.int .i64 id, .int .i64 role, .int .i64 side, .string key, .int .i64 sent, .int .i64 top, .int .u64 (seen : Int)] 32)) (Nat.le_refl _) (HB4.out.alloc HB4.out.size _) hg); clear hR hg)
            | (go_at_call 57; refine (HIX.out _ HB3.out (HX3.out.cell 0) HX3.out.lt).mono ?_; rintro e w4 ⟨rfl, hB⟩; have HX4 := Lib.hid (HX3.out.below hB HX3.out.lt); have HB4 := Lib.hid (HB3.out.trans (hB.mono HB3.out.size)); have HR4 := Lib.hid (ownsRow_below HR3.out hB (Nat.le_refl _)); clear hB; have e0 := HX4.out.cell 0; have e1 := HX4.out.cell 1; have e2 := HX4.out.cell 2; have e3 := HX4.out.cell 3; have e4 := HX4.out.cell 4; have e5 := HX4.out.cell 5; have e6 := HX4.out.cell 6)
            | (go_at_call 56; refine (HCL.out _ HB2.out).mono ?_; rintro e w3 ⟨v3, rfl, hR, hB⟩; have HX3 := Lib.hid (HX2.out.below hB HX2.out.lt); have HB3 := Lib.hid (HB2.out.trans (hB.mono HB2.out.size)); have HR3 := Lib.hid (row_lower hR HB2.out.size); clear hB hR; have c0 := HX3.out.cell 0)
            | (go_at_call 21; refine ((HV.out _).mono ?_); rintro e w2 ⟨rfl, hB⟩; have HX2 := Lib.hid (HX1.out.below hB HX1.out.lt); have HB2 := Lib.hid (HB1.out.trans (hB.mono HB1.out.size)); clear hB)
            | (go_at_call 54; refine ((HPL.out _ HB0.out).mono ?_); rintro e w1 ⟨rfl, hB⟩; have HX1 := Lib.hid (HX0.out.below hB HX0.out.lt); have HB1 := Lib.hid (HB0.out.trans (hB.mono HB0.out.size)); clear hB; have d0 := HX1.out.cell 0; have d1 := HX1.out.cell 1; have d2 := HX1.out.cell 2; have d3 := HX1.out.cell 3; have d4 := HX1.out.cell 4; have d5 := HX1.out.cell 5; have d6 := HX1.out.cell 6)
            | fail)
          go_ret2
          exact ⟨_, rfl, HR5.out, HB5.out⟩
    · rw [hi] at HPL
      have hkl := (List.getElem?_eq_some_iff.1 hk).1
      have hJ : putP L s = (L.set k s, 0) := by unfold putP; rw [if_pos hv, hf]
      rw [hJ]
      dsimp only
      rw [List.length_set, ← tab_set s L k hkl]
      have HK := Lib.hid hk
      have q0 : decide ((k : Int) < 0) = false := decide_eq_false (by omega)
      have q1 : decide ((0 : Int) ≤ (k : Int)) = true := decide_eq_true (by omega)
      clear hJ hf hi hv hs hk HIX
      obtain ⟨id, role, side, key, sent, top, seen⟩ := s
      unfold sesV sesC at HV
      unfold sesV sesC
      dsimp only at HV HPL ⊢
      go_enter Tryd.func29, Tryd.ntmps29
      go_upto_region 1 with fail
      refine world_is (P := fun W => Code.wp _ _ _ _ W) (fun Wa hWa => ?_)
      have HX0 : Hid (Blk Wa w.heap.size 32 #[.int .i64 id, .int .i64 role, .int .i64 side, .string key, .int .i64 sent, .int .i64 top, .int .u64 (seen : Int)]) := by unfold Hid; rw [← hWa]; exact Blk.new w _ _
      have HB0 : Hid (Below w.heap.size w Wa) := by unfold Hid; rw [← hWa]; exact (Below.refl w.heap.size w).alloc (Nat.le_refl _) _
      clear hWa
      have c0 := HX0.out.cell 0
      go_wp2_with (first
        | (go_at_call 21; refine ((HV.out _).mono ?_); rintro e w2 ⟨rfl, hB⟩; have HX2 := Lib.hid (HX1.out.below hB HX1.out.lt); have HB2 := Lib.hid (HB1.out.trans (hB.mono HB1.out.size)); clear hB)
        | (go_at_call 54; refine ((HPL.out _ HB0.out).mono ?_); rintro e w1 ⟨rfl, hB⟩; have HX1 := Lib.hid (HX0.out.below hB HX0.out.lt); have HB1 := Lib.hid (HB0.out.trans (hB.mono HB0.out.size)); clear hB; have d0 := HX1.out.cell 0; have d1 := HX1.out.cell 1; have d2 := HX1.out.cell 2; have d3 := HX1.out.cell 3; have d4 := HX1.out.cell 4; have d5 := HX1.out.cell 5; have d6 := HX1.out.cell 6)
        | fail)
      go_at_call 56
      refine (HCL.out _ HB2.out).mono ?_
      rintro e w3 ⟨v3, rfl, hR, hB⟩
      have HX3 := Lib.hid (HX2.out.below hB HX2.out.lt)
      have HB3 := Lib.hid (HB2.out.trans (hB.mono HB2.out.size))
      have hR3 := row_lower hR HB2.out.size
      obtain ⟨g3, cap3, rfl, hg3, hlc3, hgl3⟩ := row_form hR3 (Nat.lt_of_le_of_lt (Nat.zero_le _) hkl)
      have HG3 := Lib.hid hgl3
      clear hgl3
      have HR3 := Lib.hid hR3
      clear hB hR
      have e0 := HX3.out.cell 0
      have e1 := HX3.out.cell 1
      have e2 := HX3.out.cell 2
      have e3 := HX3.out.cell 3
      have e4 := HX3.out.cell 4
      have e5 := HX3.out.cell 5
      have e6 := HX3.out.cell 6
      obtain ⟨t0, t1, t2, t3, t4, t5, t6⟩ := tab_cells (w := w3) (b := g3) (o := 0) (L := L) (row_cells hR3) HK.out
      rw [Nat.zero_add] at t0 t1 t2 t3 t4 t5 t6
      have f0 := hR3.frozenAt (k * 7)
      have f1 := hR3.frozenAt (k * 7 + 1)
      have f2 := hR3.frozenAt (k * 7 + 2)
      have f3 := hR3.frozenAt (k * 7 + 3)
      have f4 := hR3.frozenAt (k * 7 + 4)
      have f5 := hR3.frozenAt (k * 7 + 5)
      have f6 := hR3.frozenAt (k * 7 + 6)
      clear hR3
      go_wp2_with fail
      go_ret2
      refine ⟨_, rfl, ?_, ?_⟩
      · exact (((((((HR3.out.stored _ _).1.stored _ _).1.stored _ _).1.stored _ _).1.stored _ _).1.stored _ _).1.stored _ _).1
      · exact (((((((HB3.out.setCell hg3 _).setCell hg3 _).setCell hg3 _).setCell hg3 _).setCell hg3 _).setCell hg3 _).setCell hg3 _)
  · have hv2 : validP s = false := by simpa using hv
    have hJ : putP L s = ([], 1) := by unfold putP; rw [if_neg hv]
    rw [hJ]
    rw [hv2] at HV
    clear hJ hv hv2 hs HCL HIX
    obtain ⟨id, role, side, key, sent, top, seen⟩ := s
    unfold sesV sesC at HV ⊢
    dsimp only at HV HPL ⊢
    go_enter Tryd.func29, Tryd.ntmps29
    go_upto_region 1 with fail
    refine world_is (P := fun W => Code.wp _ _ _ _ W) (fun Wa hWa => ?_)
    have HX0 : Hid (Blk Wa w.heap.size 32 #[.int .i64 id, .int .i64 role, .int .i64 side, .string key, .int .i64 sent, .int .i64 top, .int .u64 (seen : Int)]) := by unfold Hid; rw [← hWa]; exact Blk.new w _ _
    have HB0 : Hid (Below w.heap.size w Wa) := by unfold Hid; rw [← hWa]; exact (Below.refl w.heap.size w).alloc (Nat.le_refl _) _
    clear hWa
    have c0 := HX0.out.cell 0
    go_wp2_with (first
      | (go_at_call 21; refine ((HV.out _).mono ?_); rintro e w2 ⟨rfl, hB⟩; have HX2 := Lib.hid (HX1.out.below hB HX1.out.lt); have HB2 := Lib.hid (HB1.out.trans (hB.mono HB1.out.size)); clear hB)
      | (go_at_call 54; refine ((HPL.out _ HB0.out).mono ?_); rintro e w1 ⟨rfl, hB⟩; have HX1 := Lib.hid (HX0.out.below hB HX0.out.lt); have HB1 := Lib.hid (HB0.out.trans (hB.mono HB0.out.size)); clear hB; have d0 := HX1.out.cell 0; have d1 := HX1.out.cell 1; have d2 := HX1.out.cell 2; have d3 := HX1.out.cell 3; have d4 := HX1.out.cell 4; have d5 := HX1.out.cell 5; have d6 := HX1.out.cell 6)
      | fail)
    go_ret2
    exact ⟨_, rfl, World.ownsRow_nil _ _ _ _, HB2.out⟩
end Go.Proofs.YtbhagfdkipgggaaDoor
namespace Go.Proofs.YtbhagfdkipgggaaDoor
open Go.RowKit Go.Shelf
attribute [local go_sem] Oper.semAt_some
theorem wrap64_in (n : Int) (h : -9223372036854775808 ≤ n ∧ n ≤ 9223372036854775807) : wrap64 n = n := by unfold wrap64; omega
set_option maxRecDepth 100000 in
set_option maxHeartbeats 4000000 in
theorem tremove_any (w : World) (v : Value) (L : List Ses) (id : Int) (hT : TabAt w v L) (hN : L.length ≤ 1000) :
    Calls Tryd.prog 31 #[v, .int .i64 id] w fun e w' => ∃ v', e = .returned (.tuple #[v', .int .i64 ((removeP L id).2 : Nat)]) ∧ w'.ownsRow w.heap.size 32 7 v' (removeP L id).1.length (tabC (removeP L id).1) ∧ Below w.heap.size w w' := by
  have HPL : Hid (∀ wx, Below w.heap.size w wx → Calls Tryd.prog 54 #[v, .int .i64 id] wx fun e w' => e = .returned (.int .i64 (idxI (hasId id) L)) ∧ Below wx.heap.size wx w') := fun wx hB => place_any wx v L id (hT.below hB (Nat.le_refl _))
  have HCL : Hid (∀ wx, Below w.heap.size w wx → Calls Tryd.prog 56 #[v] wx fun e w' => ∃ v', e = .returned v' ∧ w'.ownsRow wx.heap.size 32 7 v' L.length (tabC L) ∧ Below wx.heap.size wx w') := fun wx hB => clone_any wx v L (hT.below hB (Nat.le_refl _)) (by omega)
  obtain ⟨A, c, rfl, hlc, hcm, _⟩ := hT
  unfold maxLen at hcm
  have HL := Lib.hid hlc
  have HB0 : Hid (Below w.heap.size w w) := Below.refl _ w
  rcases idx_cases (hasId id) L with ⟨hf, hi⟩ | ⟨k, x, hf, hi, hk, _⟩
  · rw [hi] at HPL
    have hJ : removeP L id = ([], 11) := by unfold removeP; rw [hf]
    rw [hJ]
    clear hJ hf hi HCL
    go_enter Tryd.func31, Tryd.ntmps31
    go_wp2_with (first
      | (go_at_call 54; refine ((HPL.out _ HB0.out).mono ?_); rintro e w1 ⟨rfl, hB⟩; have HB1 := Lib.hid (HB0.out.trans (hB.mono HB0.out.size)); clear hB)
      | fail)
    go_ret2
    exact ⟨_, rfl, World.ownsRow_nil _ _ _ _, HB1.out⟩
  · rw [hi] at HPL
    have hkl := (List.getElem?_eq_some_iff.1 hk).1
    have hJ : removeP L id = (L.take k ++ L.drop (k + 1), 0) := by unfold removeP; rw [hf]
    rw [hJ]
    dsimp only
    have hln : (L.take k ++ L.drop (k + 1)).length = L.length - 1 := by simp; omega
    rw [hln]
    have HDE : Hid (∀ (wx : World) (v' : Value), wx.ownsRow w.heap.size 32 7 v' L.length (tabC L) → Calls Tryd.prog 60 #[v', .int .i64 k, .int .i64 (wrap64 ((k : Int) + 1))] wx fun e w' => ∃ v2, e = .returned v2 ∧ w'.ownsRow w.heap.size 32 7 v2 (L.length - 1) (tabC (L.take k ++ L.drop (k + 1))) ∧ wx.grownBy w' v'.ownBlock) := by
      intro wx v' hR
      rcases hR.2 with ⟨_, h1⟩ | ⟨g, cap, cur, rfl, h2, hg, h3, h4, h5, h6⟩
      · omega
      · rw [show wrap64 ((k : Int) + 1) = (k : Int) + 1 from wrap64_in _ ⟨by omega, by omega⟩]
        exact delete_mid h2 hg rfl h3 h4 h5 h6 (by omega) hN
    generalize tabC (L.take k ++ L.drop (k + 1)) = RES at *
    have q0 : decide ((k : Int) < 0) = false := decide_eq_false (by omega)
    have HK := Lib.hid hkl
    clear hJ hf hi hk hkl hln
    go_enter Tryd.func31, Tryd.ntmps31
    go_wp2_with (first
      | (go_at_call 60; refine (HDE.out _ v2 HR2.out).mono ?_; rintro e w3 ⟨v3, rfl, hR, hg⟩; have HR3 := Lib.hid hR; have HB3 := Lib.hid (row_grown HR2.out (Nat.le_refl _) HB2.out hg); clear hR hg)
      | (go_at_call 56; refine (HCL.out _ HB1.out).mono ?_; rintro e w2 ⟨v2, rfl, hR, hB⟩; have HB2 := Lib.hid (HB1.out.trans (hB.mono HB1.out.size)); have HR2 := Lib.hid (row_lower hR HB1.out.size); clear hB hR)
      | (go_at_call 54; refine ((HPL.out _ HB0.out).mono ?_); rintro e w1 ⟨rfl, hB⟩; have HB1 := Lib.hid (HB0.out.trans (hB.mono HB0.out.size)); clear hB)
      | fail)
    go_ret2
    exact ⟨_, rfl, HR3.out, HB3.out⟩
theorem freeP_hit {L : List Ses} {m : Nat} (h1 : 1 ≤ m) (h2 : m ≤ 64) (hn : ∀ i, 1 ≤ i → i < m → 0 ≤ idxI (hasId (i : Int)) L) (hp : idxI (hasId (m : Int)) L < 0) : freeP L = ((m : Int), 0) := by
  have : (List.range 64).findIdx? (fun k : Nat => decide (idxI (hasId ((k : Int) + 1)) L < 0)) = some (m - 1) :=
    List.findIdx?_eq_some_iff_getElem.2 ⟨by simp; omega, by
      simp only [List.getElem_range, decide_eq_true_eq]
      rw [show ((m - 1 : Nat) : Int) + 1 = (m : Int) by omega]
      exact hp, fun j hj => by
      have := hn (j + 1) (by omega) (by omega)
      simp only [List.getElem_range, decide_eq_true_eq]
      rw [show ((j + 1 : Nat) : Int) = (j : Int) + 1 by omega] at this
      omega⟩
  unfold freeP
  rw [this]
  simp
  omega
theorem freeP_none {L : List Ses} (hn : ∀ i, 1 ≤ i → i < 65 → 0 ≤ idxI (hasId ((i : Nat) : Int)) L) : freeP L = (0, 15) := by
  have : (List.range 64).findIdx? (fun k : Nat => decide (idxI (hasId ((k : Int) + 1)) L < 0)) = none :=
    List.findIdx?_eq_none_iff.2 fun j hj => by
      have := hn (j + 1) (by omega) (by have := List.mem_range.1 hj; omega)
      rw [show ((j + 1 : Nat) : Int) = (j : Int) + 1 by omega] at this
      simp
      omega
  unfold freeP
  rw [this]
set_option maxRecDepth 100000 in
set_option maxHeartbeats 4000000 in
theorem tfree_any (w : World) (v : Value) (L : List Ses) (hT : TabAt w v L) :
    Calls Tryd.prog 33 #[v] w fun e w' => e = .returned (.tuple #[.int .i64 (freeP L).1, .int .i64 ((freeP L).2 : Nat)]) ∧ Below w.heap.size w w' := by
  have HPL : Hid (∀ (id : Int) wx, Below w.heap.size w wx → Calls Tryd.prog 54 #[v, .int .i64 id] wx fun e w' => e = .returned (.int .i64 (idxI (hasId id) L)) ∧ Below wx.heap.size wx w') := fun id wx hB => place_any wx v L id (hT.below hB (Nat.le_refl _))
  clear hT
  go_enter Tryd.func33, Tryd.ntmps33
  go_wp2_with fail
  go_loopw [4] (fun q wr => ∃ m : Nat, q = .int .i64 m ∧ Hid (1 ≤ m ∧ m ≤ 65) ∧ Hid (∀ i, 1 ≤ i → i < m → 0 ≤ idxI (hasId (i : Int)) L) ∧ Hid (Below w.heap.size w wr)) (fun q _ => 70 - (intOf q).toNat)
  case atStart => exact ⟨1, rfl, ⟨Nat.le_refl _, by decide⟩, (fun i h1 h2 => absurd h1 (by omega)), Below.refl _ w⟩
  case round =>
    obtain ⟨m, rfl, hm, hn, hB⟩ := hrel
    by_cases hlt : m ≤ 64
    · have d1 : decide (m ≤ 64) = true := decide_eq_true hlt
      have d2 : decide ((m : Int) ≤ 64) = true := decide_eq_true (by omega)
      have HP := Lib.hid (HPL.out (m : Int) _ hB.out)
      have hltH := Lib.hid hlt
      clear hlt
      rcases idx_cases (hasId (m : Int)) L with ⟨_, hi⟩ | ⟨k, x, _, hi, _, _⟩
      · rw [hi] at HP
        have hJ := Lib.hid (freeP_hit hm.out.1 hltH.out hn.out (by rw [hi]; decide))
        clear hi
        go_wp2_with (first | (go_at_call 54; refine (HP.out.mono ?_); rintro e w1 ⟨rfl, hB1⟩; have HB1 := Lib.hid (hB.out.trans (hB1.mono hB.out.size)); clear hB1) | fail)
        go_ret2
        rw [hJ.out]
        exact ⟨rfl, HB1.out⟩
      · rw [hi] at HP
        have hk0 := Lib.hid (hi ▸ Int.natCast_nonneg k : 0 ≤ idxI (hasId (m : Int)) L)
        clear hi
        have q0 : decide ((k : Int) < 0) = false := decide_eq_false (by omega)
        go_wp2_with (first | (go_at_call 54; refine (HP.out.mono ?_); rintro e w1 ⟨rfl, hB1⟩; have HB1 := Lib.hid (hB.out.trans (hB1.mono hB.out.size)); clear hB1) | fail)
        have hwk : wrap64 ((m : Int) + 1) = ((m + 1 : Nat) : Int) := by rw [Int.natCast_add]; exact wrap64_in _ ⟨by have := hltH.out; omega, by have := hltH.out; omega⟩
        rw [hwk]
        refine ⟨⟨m + 1, rfl, ⟨Nat.le_add_left _ _, Nat.succ_le_succ hltH.out⟩, fun i h1 h2 => ?_, HB1.out⟩, ?_⟩
        · rcases Nat.lt_succ_iff_lt_or_eq.1 h2 with h | h
          · exact hn.out i h1 h
          · rw [h]; exact hk0.out
        · have := hltH.out
          simp [intOf]
          omega
    · have d1 : decide (m ≤ 64) = false := decide_eq_false hlt
      have d2 : decide ((m : Int) ≤ 64) = false := decide_eq_false (by omega)
      have hJ := Lib.hid (freeP_none (L := L) (fun i h1 h2 => hn.out i h1 (by omega)))
      clear hlt
      go_wp2_with fail
      go_ret2
      rw [hJ.out]
      exact ⟨rfl, hB.out⟩
end Go.Proofs.YtbhagfdkipgggaaDoor
