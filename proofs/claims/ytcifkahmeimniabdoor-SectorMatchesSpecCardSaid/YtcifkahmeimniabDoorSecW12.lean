/-
  The walks of layer 24 (sector): the specification's Join.
-/
import Derived.Test.YtcifkahmeimniabDoorSecW11
namespace Go.Proofs.YtcifkahmeimniabDoor
open Go.RowKit Go.Shelf
attribute [local go_sem] Oper.semAt_some

def joinA (j : JoinedL) : Value := .agg #[.int .i64 j.number, .string ⟨j.text.toArray⟩, .int .i64 j.used, .int .i64 j.e]
theorem ropen_at {s : ByteArray} {N P L e : Int} {T : ByteArray} (h : openE s = (partVal N P L T, e)) (w : World) : Calls Tryd.prog 13 #[.string s] w fun e2 w' => e2 = .returned (.tuple #[.agg #[.int .i64 N, .int .i64 P, .int .i64 L, .string T], .int .i64 e]) ∧ Below w.heap.size w w' := by
  have := ropen_any s w
  rw [h] at this
  exact this
theorem below_grow {a W : World} (h : Below a.heap.size a W) (o : Obj) : Below a.heap.size a (W.alloc o) := h.alloc h.size o
theorem ret_agg {a b : Value} (h : a = b) : Ending.returned a = .returned b := by rw [h]
section
variable {w : World}
set_option maxRecDepth 100000 in
set_option maxHeartbeats 4000000 in
theorem rjoin_nil (A : Option Addr) (c : Nat) : Calls Tryd.prog 19 #[.slice A 0 c] w fun e w' => e = .returned (joinA ⟨0, [], 0, 11⟩) ∧ Below w.heap.size w w' := by
  go_enter Tryd.func19, Tryd.ntmps19
  go_wp2_with fail
  exact bodyPost_ret (v := .agg #[.int .i64 0, .string ⟨#[]⟩, .int .i64 0, .int .i64 11]) (results_c (P := Tryd.prog) (p := 2) rfl _ _ w.heap.size 38 #[.int .i64 0, .string ⟨#[]⟩, .int .i64 0, .int .i64 11] _ rfl (Blk.new w _ _) Tryd.underlying38 rfl (by kernel_rfl)) rfl ⟨rfl, (Below.refl _ _).alloc (Nat.le_refl _) _⟩
set_option maxRecDepth 100000 in
set_option maxHeartbeats 4000000 in
theorem rjoin_first (b o n c : Nat) (hn : 0 < n) (s0 : ByteArray) (hb : b < w.heap.size) (hc : w.cell? ⟨b, o, none⟩ = some (.string s0)) (N P L : Int) (T : ByteArray) (e : Int) (hO : openE s0 = (partVal N P L T, e)) (hbad : e ≠ 0 ∨ P ≠ 0) (hm : n ≤ maxLen) :
    Calls Tryd.prog 19 #[.slice (some ⟨b, o, none⟩) n c] w fun e w' => e = .returned (joinA ⟨0, [], 0, 11⟩) ∧ Below w.heap.size w w' := by
  unfold maxLen at hm
  have HO := fun w => Lib.hid (ropen_at hO w)
  have h0 : ((n : Int) == 0) = false := beq_f (by omega)
  by_cases he : e = 0
  · subst he
    have hP : (P != 0) = true := bne_t (by rcases hbad with h | h; exact absurd rfl h; exact h)
    clear hbad hO
    go_enter Tryd.func19, Tryd.ntmps19
    go_wp2_with (first | (go_at_call 13; refine (HO _).out.mono ?_; rintro e w1 ⟨rfl, hB⟩; have br := (Blk.new w 38 #[.int .i64 0, .string ⟨#[]⟩, .int .i64 0, .int .i64 0]).below hB (Blk.new w 38 #[.int .i64 0, .string ⟨#[]⟩, .int .i64 0, .int .i64 0]).lt; have r0 := br.cell 0; have r1 := br.cell 1; have r2 := br.cell 2; have r3 := br.cell 3; have rf0 := br.frozen 0; have rf1 := br.frozen 1; have rf2 := br.frozen 2; have rf3 := br.frozen 3; have hne1 : w.heap.size < w1.heap.size := br.lt; have hBx := (((Below.refl _ w).alloc (Nat.le_refl _) (.cells #[.int .i64 0, .string ⟨#[]⟩, .int .i64 0, .int .i64 0] 38)).trans (hB.mono (by simp)))))
    exact bodyPost_ret (v := .agg #[.int .i64 0, .string ⟨#[]⟩, .int .i64 0, .int .i64 11]) (results_c (P := Tryd.prog) (p := 2) rfl _ _ w.heap.size 38 #[.int .i64 0, .string ⟨#[]⟩, .int .i64 0, .int .i64 11] _ rfl (((((br.set_ 0 (.int .i64 0)).set_ 1 (.string ⟨#[]⟩)).set_ 2 (.int .i64 0)).set_ 3 (.int .i64 11)).alloc _) Tryd.underlying38 rfl (by kernel_rfl)) rfl ⟨rfl, below_grow ((((hBx.setCell (p := ⟨w.heap.size, 0, none⟩) (Nat.le_refl _) _).setCell (p := ⟨w.heap.size, 1, none⟩) (Nat.le_refl _) _).setCell (p := ⟨w.heap.size, 2, none⟩) (Nat.le_refl _) _).setCell (p := ⟨w.heap.size, 3, none⟩) (Nat.le_refl _) _) _⟩
  · have hE : (e != 0) = true := bne_t he
    clear hbad hO he
    go_enter Tryd.func19, Tryd.ntmps19
    go_wp2_with (first | (go_at_call 13; refine (HO _).out.mono ?_; rintro e w1 ⟨rfl, hB⟩; have br := (Blk.new w 38 #[.int .i64 0, .string ⟨#[]⟩, .int .i64 0, .int .i64 0]).below hB (Blk.new w 38 #[.int .i64 0, .string ⟨#[]⟩, .int .i64 0, .int .i64 0]).lt; have r0 := br.cell 0; have r1 := br.cell 1; have r2 := br.cell 2; have r3 := br.cell 3; have rf0 := br.frozen 0; have rf1 := br.frozen 1; have rf2 := br.frozen 2; have rf3 := br.frozen 3; have hne1 : w.heap.size < w1.heap.size := br.lt; have hBx := (((Below.refl _ w).alloc (Nat.le_refl _) (.cells #[.int .i64 0, .string ⟨#[]⟩, .int .i64 0, .int .i64 0] 38)).trans (hB.mono (by simp)))))
    exact bodyPost_ret (v := .agg #[.int .i64 0, .string ⟨#[]⟩, .int .i64 0, .int .i64 11]) (results_c (P := Tryd.prog) (p := 2) rfl _ _ w.heap.size 38 #[.int .i64 0, .string ⟨#[]⟩, .int .i64 0, .int .i64 11] _ rfl (((((br.set_ 0 (.int .i64 0)).set_ 1 (.string ⟨#[]⟩)).set_ 2 (.int .i64 0)).set_ 3 (.int .i64 11)).alloc _) Tryd.underlying38 rfl (by kernel_rfl)) rfl ⟨rfl, below_grow ((((hBx.setCell (p := ⟨w.heap.size, 0, none⟩) (Nat.le_refl _) _).setCell (p := ⟨w.heap.size, 1, none⟩) (Nat.le_refl _) _).setCell (p := ⟨w.heap.size, 2, none⟩) (Nat.le_refl _) _).setCell (p := ⟨w.heap.size, 3, none⟩) (Nat.le_refl _) _) _⟩

set_option maxRecDepth 100000 in
set_option maxHeartbeats 4000000 in
theorem rjoin_short (b o n c : Nat) (hn : 0 < n) (s0 : ByteArray) (hb : b < w.heap.size) (hc : w.cell? ⟨b, o, none⟩ = some (.string s0)) (N : Int) (L : Nat) (T : ByteArray) (hO : openE s0 = (partVal N 0 L T, 0)) (hL : L ≤ 8000) (hs : n < countN L) (hm : n ≤ maxLen) :
    Calls Tryd.prog 19 #[.slice (some ⟨b, o, none⟩) n c] w fun e w' => e = .returned (joinA ⟨0, [], 0, 7⟩) ∧ Below w.heap.size w w' := by
  unfold maxLen at hm
  have HO := fun w => Lib.hid (ropen_at hO w)
  have h0 : ((n : Int) == 0) = false := beq_f (by omega)
  have HC := fun w => Lib.hid (rcount_nat L hL w)
  generalize countN L = K at HC hs
  have d1 : decide (n < K) = true := decide_eq_true (by omega)
  clear hO
  go_enter Tryd.func19, Tryd.ntmps19
  go_wp2_with (first | (go_at_call 15; refine (HC _).out.mono ?_; rintro e w2 ⟨rfl, rfl⟩) | (go_at_call 13; refine (HO _).out.mono ?_; rintro e w1 ⟨rfl, hB⟩; have br := (Blk.new w 38 #[.int .i64 0, .string ⟨#[]⟩, .int .i64 0, .int .i64 0]).below hB (Blk.new w 38 #[.int .i64 0, .string ⟨#[]⟩, .int .i64 0, .int .i64 0]).lt; have r0 := br.cell 0; have r1 := br.cell 1; have r2 := br.cell 2; have r3 := br.cell 3; have rf0 := br.frozen 0; have rf1 := br.frozen 1; have rf2 := br.frozen 2; have rf3 := br.frozen 3; have hne1 : w.heap.size < w1.heap.size := br.lt; have hBx := (((Below.refl _ w).alloc (Nat.le_refl _) (.cells #[.int .i64 0, .string ⟨#[]⟩, .int .i64 0, .int .i64 0] 38)).trans (hB.mono (by simp)))))
  exact bodyPost_ret (v := .agg #[.int .i64 0, .string ⟨#[]⟩, .int .i64 0, .int .i64 7]) (results_c (P := Tryd.prog) (p := 2) rfl _ _ w.heap.size 38 #[.int .i64 0, .string ⟨#[]⟩, .int .i64 0, .int .i64 7] _ rfl (((((br.set_ 0 (.int .i64 0)).set_ 1 (.string ⟨#[]⟩)).set_ 2 (.int .i64 0)).set_ 3 (.int .i64 7)).alloc _) Tryd.underlying38 rfl (by kernel_rfl)) rfl ⟨rfl, below_grow ((((hBx.setCell (p := ⟨w.heap.size, 0, none⟩) (Nat.le_refl _) _).setCell (p := ⟨w.heap.size, 1, none⟩) (Nat.le_refl _) _).setCell (p := ⟨w.heap.size, 2, none⟩) (Nat.le_refl _) _).setCell (p := ⟨w.heap.size, 3, none⟩) (Nat.le_refl _) _) _⟩
set_option maxRecDepth 100000 in
set_option maxHeartbeats 4000000 in
theorem rjoin_loop (b o : Nat) (c : Nat) (l : List ByteArray) (s0 : ByteArray) (hc : w.cell? ⟨b, o, none⟩ = some (.string s0)) (N L : Nat) (T : ByteArray) (hO : openE s0 = (partVal N 0 L T, 0)) (hL : L ≤ 8000) (hN : N ≤ mostN) (hs : countN L ≤ l.length) (hcap : l.length ≤ c) (hm : c ≤ maxLen)
    (hb : b < w.heap.size) (hat : ∀ i t, l[i]? = some t → w.cell? ⟨b, o + i, none⟩ = some (.string t)) (j : JoinedL) (hj : j = match joinTo N L (l.map fun s => s.data.toList) (countN L) with | none => ⟨0, [], 0, 7⟩ | some t => ⟨N, t, countN L, 0⟩) :
    Calls Tryd.prog 19 #[.slice (some ⟨b, o, none⟩) l.length c] w fun e w' => e = .returned (joinA j) ∧ Below w.heap.size w w' := by
  unfold maxLen at hm
  have HO := fun w => Lib.hid (ropen_at hO w)
  have hp := count_pos L
  have h0 : ((l.length : Int) == 0) = false := beq_f (by omega)
  have HC := fun w => Lib.hid (rcount_nat L hL w)
  have hK182 : countN L ≤ 182 := by unfold countN; omega
  have Hat := Lib.hid hat
  have Hj := Lib.hid hj
  clear hat hj hO
  generalize countN L = K at HC hs Hj hp hK182
  have d1 : decide (l.length < K) = false := decide_eq_false (by omega)
  go_enter Tryd.func19, Tryd.ntmps19
  go_wp2_with (first | (go_at_call 13; refine (HO _).out.mono ?_; rintro e w1 ⟨rfl, hB⟩) | (go_at_call 15; refine (HC _).out.mono ?_; rintro e w2 ⟨rfl, rfl⟩))
  have br := ((Blk.new w 38 #[.int .i64 0, .string ⟨#[]⟩, .int .i64 0, .int .i64 0]).below hB (Blk.new w 38 #[.int .i64 0, .string ⟨#[]⟩, .int .i64 0, .int .i64 0]).lt).alloc (.cells #[.int .i64 N, .int .i64 0, .int .i64 L, .string T] 28)
  have hlw : w.heap.size < w1.heap.size := ((Blk.new w 38 #[.int .i64 0, .string ⟨#[]⟩, .int .i64 0, .int .i64 0]).below hB (Blk.new w 38 #[.int .i64 0, .string ⟨#[]⟩, .int .i64 0, .int .i64 0]).lt).lt
  have b6 := Blk.new w1 28 #[.int .i64 N, .int .i64 0, .int .i64 L, .string T]
  have hB0 : Below w.heap.size w (w1.alloc (.cells #[.int .i64 N, .int .i64 0, .int .i64 L, .string T] 28)) := below_grow (((Below.refl _ w).alloc (Nat.le_refl _) (.cells #[.int .i64 0, .string ⟨#[]⟩, .int .i64 0, .int .i64 0] 38)).trans (hB.mono (by simp))) _
  have hsz0 : (w1.alloc (.cells #[.int .i64 N, .int .i64 0, .int .i64 L, .string T] 28)).heap.size = w1.heap.size + 1 := by simp
  generalize w1.alloc (.cells #[.int .i64 N, .int .i64 0, .int .i64 L, .string T] 28) = W0 at br b6 hB0 hsz0 ⊢
  have HS0 := Lib.hid hsz0
  clear hsz0
  go_loopw [6, 7] (fun sv i wr => ∃ (k : Nat) (T : List UInt8), k ≤ K ∧ i = .int .i64 k ∧ sv = .string ⟨T.toArray⟩ ∧ T.length ≤ 44 * k ∧ joinTo N L (l.map fun s => s.data.toList) k = some T ∧ Below W0.heap.size W0 wr) (fun _ i _ => K - (intOf i).toNat)
  case atStart => exact ⟨0, [], Nat.zero_le _, rfl, rfl, Nat.zero_le _, rfl, Below.refl _ _⟩
  case round =>
    obtain ⟨k, T', hk, rfl, rfl, hTl, hJk, hBr⟩ := hrel
    have hsr := hBr.size
    have HJk := Lib.hid hJk
    clear hJk hc
    have b6r := b6.below hBr b6.lt
    have brr := br.below hBr br.lt
    have f0 := b6r.cell 0
    have f2 := b6r.cell 2
    have hlt6 := b6r.lt
    have hBw : Below w.heap.size w wr := hB0.trans (hBr.mono hB0.size)
    by_cases hkl : k < K
    · have hd : decide (k < K) = true := decide_eq_true hkl
      obtain ⟨s, hls⟩ : ∃ s, l[k]? = some s := ⟨_, List.getElem?_eq_getElem (by omega)⟩
      have hkl2 : (k : Int) < l.length := by omega
      have hk0 : (0 : Int) ≤ (k : Int) := by omega
      have hlk : (l.map fun s => s.data.toList)[k]? = some s.data.toList := by rw [List.getElem?_map, hls]; rfl
      have hck : wr.cell? ⟨b, o + k, none⟩ = some (.string s) := (hBw.cell (p := ⟨b, o + k, none⟩) hb).trans (Hat.out k s hls)
      have HLK := Lib.hid hlk
      clear hls
      rcases openE_cases s with ⟨⟨pn, pp, pl, pt⟩, hsz, hop, hE⟩ | ⟨hno, ev, hev, hE⟩
      · have HO2 := fun w => Lib.hid (ropen_at hE w)
        dsimp only at HO2
        have hfit : ∀ r, fitL N L k s.data.toList = r → r = if pn = N ∧ pp = k ∧ (pl : Int) = L - 44 * k then some pt else none := by
          rintro r rfl
          unfold fitL
          rw [if_pos (by rw [Array.length_toList]; exact hsz), hop]
        have HF := Lib.hid hfit
        have HOP := Lib.hid hop
        clear hfit hop hE
        by_cases x1 : pn = N
        · subst x1
          by_cases x2 : pp = k
          · subst x2
            by_cases x3 : (pl : Int) = L - 44 * pp
            · have d3 : ((pl : Int) != (L : Int) - 44 * (pp : Int)) = false := bne_f (by omega)
              have hpt : pt.length ≤ 44 := openL_text HOP.out
              have hJn : joinTo pn L (l.map fun s => s.data.toList) (pp + 1) = some (T' ++ pt) := by
                rw [joinTo, HJk.out]
                dsimp only
                rw [HLK.out]
                dsimp only
                rw [HF.out _ rfl, if_pos ⟨rfl, rfl, x3⟩]
              have HJn := Lib.hid hJn
              have hadd : ∀ w, (Op.stringOp .add ⟨T'.toArray⟩ ⟨pt.toArray⟩).run Tryd.prog w = .ok (.string ⟨(T' ++ pt).toArray⟩) w := fun w => by
                rw [run_string_add_sum w _ _ (by rw [mk_size, mk_size]; omega)]
                congr 2
              clear hJn x3
              go_wp2_with (first | (go_at_call 13; refine (HO2 _).out.mono ?_; rintro e w3 ⟨rfl, hB3⟩; have hBend : Below w.heap.size w w3 := hBw.trans (hB3.mono hBw.size); have g0 := (hB3.cell (p := ⟨w1.heap.size, 0, none⟩) hlt6).trans f0; have g2 := (hB3.cell (p := ⟨w1.heap.size, 2, none⟩) hlt6).trans f2; have hl3 : w1.heap.size < w3.heap.size := (by have := hB3.size; omega); have hn3 : w1.heap.size ≠ w3.heap.size := (by omega); have be := brr.below hB3 brr.lt; have hlr : w.heap.size < w3.heap.size := be.lt; have e0 := be.cell 0; have e1 := be.cell 1; have e2 := be.cell 2; have e3 := be.cell 3; have ef0 := be.frozen 0; have ef1 := be.frozen 1; have ef2 := be.frozen 2; have ef3 := be.frozen 3))
              have hBn : Below W0.heap.size W0 (w3.alloc (.cells #[.int .i64 pn, .int .i64 pp, .int .i64 pl, .string ⟨pt.toArray⟩] 28)) := below_grow (hBr.trans (hB3.mono hBr.size)) _
              go_roundw
              case rel => exact ⟨pp + 1, T' ++ pt, by omega, by go_num, rfl, by rw [List.length_append]; omega, HJn.out, hBn⟩
              case measure => simp [intOf]; omega
            · have d3 : ((pl : Int) != (L : Int) - 44 * (pp : Int)) = true := bne_t (by omega)
              have HJ := Lib.hid (joinBad Hj.out hlk (by rw [HF.out _ rfl, if_neg (fun h => x3 h.2.2)]) K hkl)
              go_wp2_with (first | (go_at_call 13; refine (HO2 _).out.mono ?_; rintro e w3 ⟨rfl, hB3⟩; have hBend : Below w.heap.size w w3 := hBw.trans (hB3.mono hBw.size); have g0 := (hB3.cell (p := ⟨w1.heap.size, 0, none⟩) hlt6).trans f0; have g2 := (hB3.cell (p := ⟨w1.heap.size, 2, none⟩) hlt6).trans f2; have hl3 : w1.heap.size < w3.heap.size := (by have := hB3.size; omega); have hn3 : w1.heap.size ≠ w3.heap.size := (by omega); have be := brr.below hB3 brr.lt; have hlr : w.heap.size < w3.heap.size := be.lt; have e0 := be.cell 0; have e1 := be.cell 1; have e2 := be.cell 2; have e3 := be.cell 3; have ef0 := be.frozen 0; have ef1 := be.frozen 1; have ef2 := be.frozen 2; have ef3 := be.frozen 3))
              exact bodyPost_ret (v := .agg #[.int .i64 0, .string ⟨#[]⟩, .int .i64 0, .int .i64 7]) (results_c (P := Tryd.prog) (p := 2) rfl _ _ w.heap.size 38 #[.int .i64 0, .string ⟨#[]⟩, .int .i64 0, .int .i64 7] _ rfl (((((be.set_ 0 (.int .i64 0)).set_ 1 (.string ⟨#[]⟩)).set_ 2 (.int .i64 0)).set_ 3 (.int .i64 7)).alloc _) Tryd.underlying38 rfl (by kernel_rfl)) rfl ⟨by rw [HJ.out]; rfl, below_grow ((((hBend.setCell (p := ⟨w.heap.size, 0, none⟩) (Nat.le_refl _) _).setCell (p := ⟨w.heap.size, 1, none⟩) (Nat.le_refl _) _).setCell (p := ⟨w.heap.size, 2, none⟩) (Nat.le_refl _) _).setCell (p := ⟨w.heap.size, 3, none⟩) (Nat.le_refl _) _) _⟩
          · have d2 : (pp != k) = true := by simpa using x2
            have d2' : ((pp : Int) != (k : Int)) = true := bne_t (by omega)
            have HJ := Lib.hid (joinBad Hj.out hlk (by rw [HF.out _ rfl, if_neg (fun h => x2 h.2.1)]) K hkl)
            go_wp2_with (first | (go_at_call 13; refine (HO2 _).out.mono ?_; rintro e w3 ⟨rfl, hB3⟩; have hBend : Below w.heap.size w w3 := hBw.trans (hB3.mono hBw.size); have g0 := (hB3.cell (p := ⟨w1.heap.size, 0, none⟩) hlt6).trans f0; have g2 := (hB3.cell (p := ⟨w1.heap.size, 2, none⟩) hlt6).trans f2; have hl3 : w1.heap.size < w3.heap.size := (by have := hB3.size; omega); have hn3 : w1.heap.size ≠ w3.heap.size := (by omega); have be := brr.below hB3 brr.lt; have hlr : w.heap.size < w3.heap.size := be.lt; have e0 := be.cell 0; have e1 := be.cell 1; have e2 := be.cell 2; have e3 := be.cell 3; have ef0 := be.frozen 0; have ef1 := be.frozen 1; have ef2 := be.frozen 2; have ef3 := be.frozen 3))
            exact bodyPost_ret (v := .agg #[.int .i64 0, .string ⟨#[]⟩, .int .i64 0, .int .i64 7]) (results_c (P := Tryd.prog) (p := 2) rfl _ _ w.heap.size 38 #[.int .i64 0, .string ⟨#[]⟩, .int .i64 0, .int .i64 7] _ rfl (((((be.set_ 0 (.int .i64 0)).set_ 1 (.string ⟨#[]⟩)).set_ 2 (.int .i64 0)).set_ 3 (.int .i64 7)).alloc _) Tryd.underlying38 rfl (by kernel_rfl)) rfl ⟨by rw [HJ.out]; rfl, below_grow ((((hBend.setCell (p := ⟨w.heap.size, 0, none⟩) (Nat.le_refl _) _).setCell (p := ⟨w.heap.size, 1, none⟩) (Nat.le_refl _) _).setCell (p := ⟨w.heap.size, 2, none⟩) (Nat.le_refl _) _).setCell (p := ⟨w.heap.size, 3, none⟩) (Nat.le_refl _) _) _⟩
        · have d1 : (pn != N) = true := by simpa using x1
          have d1' : ((pn : Int) != (N : Int)) = true := bne_t (by omega)
          have HJ := Lib.hid (joinBad Hj.out hlk (by rw [HF.out _ rfl, if_neg (fun h => x1 h.1)]) K hkl)
          go_wp2_with (first | (go_at_call 13; refine (HO2 _).out.mono ?_; rintro e w3 ⟨rfl, hB3⟩; have hBend : Below w.heap.size w w3 := hBw.trans (hB3.mono hBw.size); have g0 := (hB3.cell (p := ⟨w1.heap.size, 0, none⟩) hlt6).trans f0; have g2 := (hB3.cell (p := ⟨w1.heap.size, 2, none⟩) hlt6).trans f2; have hl3 : w1.heap.size < w3.heap.size := (by have := hB3.size; omega); have hn3 : w1.heap.size ≠ w3.heap.size := (by omega); have be := brr.below hB3 brr.lt; have hlr : w.heap.size < w3.heap.size := be.lt; have e0 := be.cell 0; have e1 := be.cell 1; have e2 := be.cell 2; have e3 := be.cell 3; have ef0 := be.frozen 0; have ef1 := be.frozen 1; have ef2 := be.frozen 2; have ef3 := be.frozen 3))
          exact bodyPost_ret (v := .agg #[.int .i64 0, .string ⟨#[]⟩, .int .i64 0, .int .i64 7]) (results_c (P := Tryd.prog) (p := 2) rfl _ _ w.heap.size 38 #[.int .i64 0, .string ⟨#[]⟩, .int .i64 0, .int .i64 7] _ rfl (((((be.set_ 0 (.int .i64 0)).set_ 1 (.string ⟨#[]⟩)).set_ 2 (.int .i64 0)).set_ 3 (.int .i64 7)).alloc _) Tryd.underlying38 rfl (by kernel_rfl)) rfl ⟨by rw [HJ.out]; rfl, below_grow ((((hBend.setCell (p := ⟨w.heap.size, 0, none⟩) (Nat.le_refl _) _).setCell (p := ⟨w.heap.size, 1, none⟩) (Nat.le_refl _) _).setCell (p := ⟨w.heap.size, 2, none⟩) (Nat.le_refl _) _).setCell (p := ⟨w.heap.size, 3, none⟩) (Nat.le_refl _) _) _⟩
      · have HO2 := fun w => Lib.hid (ropen_at hE w)
        have de : (ev != 0) = true := bne_t hev
        have hfit : fitL N L k s.data.toList = none := by
          unfold fitL
          rcases hno with h | h
          · rw [if_neg (by rw [Array.length_toList]; exact h)]
          · split
            · rw [h]
            · rfl
        have HF := Lib.hid hfit
        clear hfit hE hno hev
        have HJ := Lib.hid (joinBad Hj.out hlk HF.out K hkl)
        go_wp2_with (first | (go_at_call 13; refine (HO2 _).out.mono ?_; rintro e w3 ⟨rfl, hB3⟩; have hBend : Below w.heap.size w w3 := hBw.trans (hB3.mono hBw.size); have g0 := (hB3.cell (p := ⟨w1.heap.size, 0, none⟩) hlt6).trans f0; have g2 := (hB3.cell (p := ⟨w1.heap.size, 2, none⟩) hlt6).trans f2; have hl3 : w1.heap.size < w3.heap.size := (by have := hB3.size; omega); have hn3 : w1.heap.size ≠ w3.heap.size := (by omega); have be := brr.below hB3 brr.lt; have hlr : w.heap.size < w3.heap.size := be.lt; have e0 := be.cell 0; have e1 := be.cell 1; have e2 := be.cell 2; have e3 := be.cell 3; have ef0 := be.frozen 0; have ef1 := be.frozen 1; have ef2 := be.frozen 2; have ef3 := be.frozen 3))
        exact bodyPost_ret (v := .agg #[.int .i64 0, .string ⟨#[]⟩, .int .i64 0, .int .i64 7]) (results_c (P := Tryd.prog) (p := 2) rfl _ _ w.heap.size 38 #[.int .i64 0, .string ⟨#[]⟩, .int .i64 0, .int .i64 7] _ rfl (((((be.set_ 0 (.int .i64 0)).set_ 1 (.string ⟨#[]⟩)).set_ 2 (.int .i64 0)).set_ 3 (.int .i64 7)).alloc _) Tryd.underlying38 rfl (by kernel_rfl)) rfl ⟨by rw [HJ.out]; rfl, below_grow ((((hBend.setCell (p := ⟨w.heap.size, 0, none⟩) (Nat.le_refl _) _).setCell (p := ⟨w.heap.size, 1, none⟩) (Nat.le_refl _) _).setCell (p := ⟨w.heap.size, 2, none⟩) (Nat.le_refl _) _).setCell (p := ⟨w.heap.size, 3, none⟩) (Nat.le_refl _) _) _⟩
    · have hd : decide (k < K) = false := decide_eq_false hkl
      obtain rfl : k = K := by omega
      have hj2 : j = ⟨N, T', k, 0⟩ := by rw [Hj.out, HJk.out]
      have HJ2 := Lib.hid hj2
      clear hj2
      have e0 := brr.cell 0; have e1 := brr.cell 1; have e2 := brr.cell 2; have e3 := brr.cell 3; have ef0 := brr.frozen 0; have ef1 := brr.frozen 1; have ef2 := brr.frozen 2; have ef3 := brr.frozen 3
      go_wp2_with fail
      exact bodyPost_ret (v := .agg #[.int .i64 N, .string ⟨T'.toArray⟩, .int .i64 k, .int .i64 0]) (results_c (P := Tryd.prog) (p := 2) rfl _ _ w.heap.size 38 #[.int .i64 N, .string ⟨T'.toArray⟩, .int .i64 k, .int .i64 0] _ rfl ((((brr.set_ 0 (.int .i64 N)).set_ 1 (.string ⟨T'.toArray⟩)).set_ 2 (.int .i64 k)).set_ 3 (.int .i64 0)) Tryd.underlying38 rfl (by kernel_rfl)) rfl ⟨by rw [HJ2.out]; rfl, ((((hBw.setCell (p := ⟨w.heap.size, 0, none⟩) (Nat.le_refl _) _).setCell (p := ⟨w.heap.size, 1, none⟩) (Nat.le_refl _) _).setCell (p := ⟨w.heap.size, 2, none⟩) (Nat.le_refl _) _).setCell (p := ⟨w.heap.size, 3, none⟩) (Nat.le_refl _) _)⟩
end
end Go.Proofs.YtcifkahmeimniabDoor
