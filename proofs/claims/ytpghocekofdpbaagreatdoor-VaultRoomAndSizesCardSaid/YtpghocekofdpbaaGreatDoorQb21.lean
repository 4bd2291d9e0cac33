import Derived.Test.YtpghocekofdpbaaGreatDoorQb20
namespace Go.Proofs.YtpghocekofdpbaaGreatDoor.Sec
open Go.RowKit Go.Shelf
attribute [local go_sem] Oper.semAt_some
def StrsAt (w : World) (v : Value) (l : List ByteArray) : Prop :=
 ∃ A c, v = .slice A l.length c /\ l.length <= c /\ c <= maxLen /\ (0 < l.length -> ∃ b o, A = some ⟨b, o, none⟩ /\ b < w.heap.size /\ ∀ i t, l[i]? = some t -> w.cell? ⟨b, o + i, none⟩ = some (.string t))
def joinE (l : List ByteArray) : JoinedL := joinL (l.map fun s => s.data.toList)
def joinV (j : JoinedL) : Value := .tuple #[.int .i64 j.number, .string ⟨j.text.toArray⟩, .int .i64 j.used, .int .i64 j.e]
theorem results_tmp4 {fn : Func} {t u v x : Tmp} (h : fn.results = #[.tmp t, .tmp u, .tmp v, .tmp x]) (tmps : Array Value) (P : Program) (w : World) :
  (results fn tmps).run P w = .ok (.tuple #[tmps.getD t undef, tmps.getD u undef, tmps.getD v undef, tmps.getD x undef]) w := by
 simp [results, h]
theorem isBuilder_below {T e : TypeId} {B b : Nat} {bs : List Value} {w w' : World} (h : Lib.IsBuilder T e B b bs w) (hB : Below w.heap.size w w') : Lib.IsBuilder T e B b bs w' := by
 have key : ∀ p, Lib.BuilderAt T e B b p bs w -> Lib.BuilderAt T e B b p bs w' := fun p hp => by
  obtain ⟨h1, v, h2, h3, h4⟩ := hp
  exact ⟨h1, v, (hB.block b (Array.getElem?_eq_some_iff.1 h2).1).trans h2, ownsRow_below h3 hB (Nat.le_refl _), h4⟩
 rcases h with h | h
 ·exact .inl (key _ h)
 ·exact .inr (key _ h)
theorem openE_cases (s : ByteArray) : (∃ p, s.size = 64 /\ openL s.data.toList = some p /\ openE s = (partVal p.number p.part p.left ⟨p.text.toArray⟩, 0)) \/ ((s.size ≠ 64 \/ openL s.data.toList = none) /\ ∃ e, e ≠ 0 /\ openE s = (partVal 0 0 0 ⟨#[]⟩, e)) := by
 unfold openE
 by_cases hs : s.size = 64
 ·rw [if_pos hs]
  cases ho : openL s.data.toList with
  | none => exact .inr ⟨.inr rfl, 7, by decide, rfl⟩
  | some p => exact .inl ⟨p, hs, rfl, rfl⟩
 ·rw [if_neg hs]
  exact .inr ⟨.inl hs, 1, by decide, rfl⟩
theorem open_at {s : ByteArray} {N P L e : Int} {T : ByteArray} (h : openE s = (partVal N P L T, e)) (w : World) : Calls Tryz.prog 170 #[.string s] w fun e2 w' => e2 = .returned (.tuple #[.agg #[.int .i64 N, .int .i64 P, .int .i64 L, .string T], .int .i64 e]) /\ Below w.heap.size w w' := by
 have := open_any s w
 rw [h] at this
 exact this
section
variable {w : World}
set_option maxRecDepth 100000 in
set_option maxHeartbeats 4000000 in
theorem join_nil (A : Option Addr) (c : Nat) : Calls Tryz.prog 148 #[.slice A 0 c] w fun e w' => e = .returned (joinV ⟨0, [], 0, 11⟩) /\ Below w.heap.size w w' := by
 go_enter Tryz.func148, Tryz.ntmps148
 go_wp2_with fail
 exact bodyPost_ret (v := .tuple #[.int .i64 0, .string ⟨#[]⟩, .int .i64 0, .int .i64 11]) (results_tmp4 (t := 2) (u := 3) (v := 4) (x := 5) rfl _ _ _) rfl ⟨rfl, Below.refl _ _⟩
set_option maxRecDepth 100000 in
set_option maxHeartbeats 4000000 in
theorem join_first (b o n c : Nat) (hn : 0 < n) (s0 : ByteArray) (hc : w.cell? ⟨b, o, none⟩ = some (.string s0)) (N P L : Int) (T : ByteArray) (e : Int) (hO : openE s0 = (partVal N P L T, e)) (hbad : e ≠ 0 \/ P ≠ 0) (hm : n <= maxLen) :
  Calls Tryz.prog 148 #[.slice (some ⟨b, o, none⟩) n c] w fun e w' => e = .returned (joinV ⟨0, [], 0, 11⟩) /\ Below w.heap.size w w' := by
 unfold maxLen at hm
 have HO := fun w => Lib.hid (open_at hO w)
 have h0 : ((n : Int) == 0) = false := beq_f (by omega)
 by_cases he : e = 0
 ·subst he
  have hP : (P != 0) = true := bne_t (by rcases hbad with h | h; exact absurd rfl h; exact h)
  clear hbad hO
  go_enter Tryz.func148, Tryz.ntmps148
  go_wp2_with (first | (go_at_call 170; refine (HO _).out.mono ?_; rintro e w1 ⟨rfl, hB⟩))
  exact bodyPost_ret (v := .tuple #[.int .i64 0, .string ⟨#[]⟩, .int .i64 0, .int .i64 11]) (results_tmp4 (t := 2) (u := 3) (v := 4) (x := 5) rfl _ _ _) rfl ⟨rfl, hB.alloc hB.size _⟩
 ·have hE : (e != 0) = true := bne_t he
  clear hbad hO he
  go_enter Tryz.func148, Tryz.ntmps148
  go_wp2_with (first | (go_at_call 170; refine (HO _).out.mono ?_; rintro e w1 ⟨rfl, hB⟩))
  exact bodyPost_ret (v := .tuple #[.int .i64 0, .string ⟨#[]⟩, .int .i64 0, .int .i64 11]) (results_tmp4 (t := 2) (u := 3) (v := 4) (x := 5) rfl _ _ _) rfl ⟨rfl, hB.alloc hB.size _⟩
set_option maxRecDepth 100000 in
set_option maxHeartbeats 4000000 in
theorem join_short (b o n c : Nat) (hn : 0 < n) (s0 : ByteArray) (hc : w.cell? ⟨b, o, none⟩ = some (.string s0)) (N : Int) (L : Nat) (T : ByteArray) (hO : openE s0 = (partVal N 0 L T, 0)) (hL : L <= 8000) (hs : n < countN L) (hm : n <= maxLen) :
  Calls Tryz.prog 148 #[.slice (some ⟨b, o, none⟩) n c] w fun e w' => e = .returned (joinV ⟨0, [], 0, 7⟩) /\ Below w.heap.size w w' := by
 unfold maxLen at hm
 have HO := fun w => Lib.hid (open_at hO w)
 have h0 : ((n : Int) == 0) = false := beq_f (by omega)
 have HC := fun w => Lib.hid (count_nat L hL w)
 generalize countN L = K at HC hs
 have d1 : decide ((n : Int) < K) = true := decide_eq_true (by omega)
 clear hO
 go_enter Tryz.func148, Tryz.ntmps148
 go_wp2_with (first | (go_at_call 170; refine (HO _).out.mono ?_; rintro e w1 ⟨rfl, hB⟩) | (go_at_call 39; refine (HC _).out.mono ?_; rintro e w2 ⟨rfl, rfl⟩))
 exact bodyPost_ret (v := .tuple #[.int .i64 0, .string ⟨#[]⟩, .int .i64 0, .int .i64 7]) (results_tmp4 (t := 2) (u := 3) (v := 4) (x := 5) rfl _ _ _) rfl ⟨rfl, hB.alloc hB.size _⟩
theorem joinTo_succ_none {number left0 : Nat} {l : List (List UInt8)} {k : Nat} {s : List UInt8} (hs : l[k]? = some s) (h : fitL number left0 k s = none) : ∀ K, k < K -> joinTo number left0 l K = none
 | 0, h0 => by omega
 | K + 1, h0 => by
  rw [joinTo]
  by_cases e : k < K
  ·rw [joinTo_succ_none hs h K e]
  ·have : K = k := by omega
   subst this
   split
   ·rfl
   ·rw [hs]
    dsimp only
    rw [h]
theorem openL_text {s : List UInt8} {p : PartL} (h : openL s = some p) : p.text.length <= 44 := by
 unfold openL at h
 split at h
 ·cases h
  exact Nat.le_trans (List.length_take_le _ _) (by omega)
 ·cases h
theorem mk_size (l : List UInt8) : (⟨l.toArray⟩ : ByteArray).size = l.length := by simp [ByteArray.size]
theorem joinBad {N L : Nat} {ls : List (List UInt8)} {K0 : Nat} {j : JoinedL} (hj : j = match joinTo N L ls K0 with | none => ⟨0, [], 0, 7⟩ | some t => ⟨N, t, K0, 0⟩) {k : Nat} {s : List UInt8} (hs : ls[k]? = some s) (hf : fitL N L k s = none) (_K : Nat) (hk : k < K0) : j = ⟨0, [], 0, 7⟩ := by
 rw [hj, joinTo_succ_none hs hf K0 hk]
set_option maxRecDepth 100000 in
set_option maxHeartbeats 4000000 in
theorem join_loop (b o : Nat) (c : Nat) (l : List ByteArray) (s0 : ByteArray) (hc : w.cell? ⟨b, o, none⟩ = some (.string s0)) (N L : Nat) (T : ByteArray) (hO : openE s0 = (partVal N 0 L T, 0)) (hL : L <= 8000) (hN : N <= mostN) (hs : countN L <= l.length) (hcap : l.length <= c) (_hm : c <= maxLen)
  (hb : b < w.heap.size) (hat : ∀ i t, l[i]? = some t -> w.cell? ⟨b, o + i, none⟩ = some (.string t)) (j : JoinedL) (hj : j = match joinTo N L (l.map fun s => s.data.toList) (countN L) with | none => ⟨0, [], 0, 7⟩ | some t => ⟨N, t, countN L, 0⟩) :
  Calls Tryz.prog 148 #[.slice (some ⟨b, o, none⟩) l.length c] w fun e w' => e = .returned (joinV j) /\ Below w.heap.size w w' := by
 unfold maxLen at _hm
 have HO := fun w => Lib.hid (open_at hO w)
 have hp := count_pos L
 have h0 : ((l.length : Int) == 0) = false := beq_f (by omega)
 have HC := fun w => Lib.hid (count_nat L hL w)
 have hK182 : countN L <= 182 := by unfold countN; omega
 have Hat := Lib.hid hat
 have Hj := Lib.hid hj
 clear hat hj hO
 generalize countN L = K at HC hs Hj hp hK182
 have d1 : decide (l.length < K) = false := decide_eq_false (by omega)
 go_enter Tryz.func148, Tryz.ntmps148
 go_wp2_with (first | (go_at_call 170; refine (HO _).out.mono ?_; rintro e w1 ⟨rfl, hB⟩) | (go_at_call 39; refine (HC _).out.mono ?_; rintro e w2 ⟨rfl, rfl⟩))
 have hsz1 := hB.size
 have b6 := (Blk.new w1 235 #[.int .i64 N, .int .i64 0, .int .i64 L, .string T]).alloc (.cells #[.pointer none, .slice none 0 0] 188)
 have hbl := Lib.fresh_isBuilder 188 5 (w1.alloc (.cells #[.int .i64 N, .int .i64 0, .int .i64 L, .string T] 235))
 have hB0 : Below w.heap.size w ((w1.alloc (.cells #[.int .i64 N, .int .i64 0, .int .i64 L, .string T] 235)).alloc (.cells #[.pointer none, .slice none 0 0] 188)) := (hB.alloc hsz1 _).alloc (by simp; omega) _
 have hsz0 : ((w1.alloc (.cells #[.int .i64 N, .int .i64 0, .int .i64 L, .string T] 235)).alloc (.cells #[.pointer none, .slice none 0 0] 188)).heap.size = w1.heap.size + 1 + 1 := by simp
 rw [World.size_alloc] at hbl
 generalize (w1.alloc (.cells #[.int .i64 N, .int .i64 0, .int .i64 L, .string T] 235)).alloc (.cells #[.pointer none, .slice none 0 0] 188) = W0 at b6 hbl hB0 hsz0 ⊢
 have HS0 := Lib.hid hsz0
 clear hsz0
 go_loopw [42] (fun i wr => ∃ (k : Nat) (T : List UInt8), k <= K /\ i = .int .i64 k /\ T.length <= 44 * k /\ joinTo N L (l.map fun s => s.data.toList) k = some T /\ Lib.IsBuilder 188 5 (w1.heap.size + 1) (w1.heap.size + 1) (bytesC T) wr /\ Below (w1.heap.size + 1) W0 wr) (fun i _ => K - (intOf i).toNat)
 case atStart => exact ⟨0, [], Nat.zero_le _, rfl, Nat.zero_le _, rfl, hbl, Below.refl _ _⟩
 case round =>
  obtain ⟨k, T', hk, rfl, hTl, hJk, hIB, hBr⟩ := hrel
  have hsr := hBr.size
  have HJk := Lib.hid hJk
  clear hJk hc hbl
  have b6r := b6.below hBr (Nat.lt_succ_self _)
  have f0 := b6r.cell 0
  have f2 := b6r.cell 2
  have hlt6 := b6r.lt
  have hBw : Below w.heap.size w wr := hB0.trans (hBr.mono (by omega))
  by_cases hkl : k < K
  ·obtain ⟨s, hls⟩ : ∃ s, l[k]? = some s := ⟨_, List.getElem?_eq_getElem (by omega)⟩
   have hlk : (l.map fun s => s.data.toList)[k]? = some s.data.toList := by rw [List.getElem?_map, hls]; rfl
   have hck : wr.cell? ⟨b, o + k, none⟩ = some (.string s) := (hBw.cell (p := ⟨b, o + k, none⟩) hb).trans (Hat.out k s hls)
   have HLK := Lib.hid hlk
   clear hls
   rcases openE_cases s with ⟨⟨pn, pp, pl, pt⟩, hsz, hop, hE⟩ | ⟨hno, ev, hev, hE⟩
   ·have HO2 := fun w => Lib.hid (open_at hE w)
    dsimp only at HO2
    have hfit : ∀ r, fitL N L k s.data.toList = r -> r = if pn = N /\ pp = k /\ (pl : Int) = L - 44 * k then some pt else none := by
     rintro r rfl
     unfold fitL
     rw [if_pos (by rw [Array.length_toList]; exact hsz), hop]
    have HF := Lib.hid hfit
    have HOP := Lib.hid hop
    clear hfit hop hE
    by_cases x1 : pn = N
    ·subst x1
     by_cases x2 : pp = k
     ·subst x2
      by_cases x3 : (pl : Int) = L - 44 * pp
      ·have d3 : ((pl : Int) != (L : Int) - (pp : Int) * 44) = false := bne_f (by omega)
       have hpt : pt.length <= 44 := openL_text HOP.out
       have hJn : joinTo pn L (l.map fun s => s.data.toList) (pp + 1) = some (T' ++ pt) := by
        rw [joinTo, HJk.out]
        dsimp only
        rw [HLK.out]
        dsimp only
        rw [HF.out _ rfl, if_pos ⟨rfl, rfl, x3⟩]
       have HJn := Lib.hid hJn
       clear hJn x3
       go_wp2_with (first | (go_at_call 170; refine (HO2 _).out.mono ?_; rintro e w3 ⟨rfl, hB3⟩; have hBend : Below w.heap.size w (w3.alloc (.cells #[.int .i64 pn, .int .i64 pp, .int .i64 pl, .string ⟨pt.toArray⟩] 235)) := ((hBw.trans (hB3.mono hBw.size)).alloc (by have := hB3.size; have := hBw.size; omega) _); have g0 := (hB3.cell (p := ⟨w1.heap.size, 0, none⟩) hlt6).trans f0; have g2 := (hB3.cell (p := ⟨w1.heap.size, 2, none⟩) hlt6).trans f2; have hl3 : w1.heap.size < w3.heap.size := (by have := hB3.size; omega); have hn3 : w1.heap.size ≠ w3.heap.size := (by omega); have hIB4 := isBuilder_below (isBuilder_below hIB hB3) ((Below.refl _ w3).alloc (Nat.le_refl _) (.cells #[.int .i64 pn, .int .i64 pp, .int .i64 pl, .string ⟨pt.toArray⟩] 235))) | (go_at_call 132; refine (writeS_any (w1.heap.size + 1) (w1.heap.size + 1) (bytesC T') ⟨pt.toArray⟩ _ hIB4 (by rw [bytesC_len, mk_size]; omega) (by rw [World.size_alloc]; omega)).mono ?_; rintro e w5 ⟨rfl, hIB5, hB5⟩))
       have hIB6 : Lib.IsBuilder 188 5 (w1.heap.size + 1) (w1.heap.size + 1) (bytesC (T' ++ pt)) w5 := by
        rw [bytesC_app]
        exact .inr hIB5
       have hBn : Below (w1.heap.size + 1) W0 w5 := ((hBr.trans (hB3.mono (by omega))).alloc (by have := hB3.size; omega) _).trans hB5
       clear hIB5 hIB4 hIB
       go_roundw
       case rel => exact ⟨pp + 1, T' ++ pt, by omega, by go_num, by rw [List.length_append]; omega, HJn.out, hIB6, hBn⟩
       case measure => simp [intOf]; omega
      ·have d3 : ((pl : Int) != (L : Int) - (pp : Int) * 44) = true := bne_t (by omega)
       have HJ := Lib.hid (joinBad Hj.out hlk (by rw [HF.out _ rfl, if_neg (fun h => x3 h.2.2)]) K hkl)
       go_wp2_with (first | (go_at_call 170; refine (HO2 _).out.mono ?_; rintro e w3 ⟨rfl, hB3⟩; have hBend : Below w.heap.size w (w3.alloc (.cells #[.int .i64 pn, .int .i64 pp, .int .i64 pl, .string ⟨pt.toArray⟩] 235)) := ((hBw.trans (hB3.mono hBw.size)).alloc (by have := hB3.size; have := hBw.size; omega) _); have g0 := (hB3.cell (p := ⟨w1.heap.size, 0, none⟩) hlt6).trans f0; have g2 := (hB3.cell (p := ⟨w1.heap.size, 2, none⟩) hlt6).trans f2; have hl3 : w1.heap.size < w3.heap.size := (by have := hB3.size; omega); have hn3 : w1.heap.size ≠ w3.heap.size := (by omega)))
       exact bodyPost_ret (v := .tuple #[.int .i64 0, .string ⟨#[]⟩, .int .i64 0, .int .i64 7]) (results_tmp4 (t := 2) (u := 3) (v := 4) (x := 5) rfl _ _ _) rfl ⟨by rw [HJ.out]; rfl, hBend⟩
     ·have d2 : (pp != k) = true := by simpa using x2
      have d2' : ((pp : Int) != (k : Int)) = true := bne_t (by omega)
      have HJ := Lib.hid (joinBad Hj.out hlk (by rw [HF.out _ rfl, if_neg (fun h => x2 h.2.1)]) K hkl)
      go_wp2_with (first | (go_at_call 170; refine (HO2 _).out.mono ?_; rintro e w3 ⟨rfl, hB3⟩; have hBend : Below w.heap.size w (w3.alloc (.cells #[.int .i64 pn, .int .i64 pp, .int .i64 pl, .string ⟨pt.toArray⟩] 235)) := ((hBw.trans (hB3.mono hBw.size)).alloc (by have := hB3.size; have := hBw.size; omega) _); have g0 := (hB3.cell (p := ⟨w1.heap.size, 0, none⟩) hlt6).trans f0; have g2 := (hB3.cell (p := ⟨w1.heap.size, 2, none⟩) hlt6).trans f2; have hl3 : w1.heap.size < w3.heap.size := (by have := hB3.size; omega); have hn3 : w1.heap.size ≠ w3.heap.size := (by omega)))
      exact bodyPost_ret (v := .tuple #[.int .i64 0, .string ⟨#[]⟩, .int .i64 0, .int .i64 7]) (results_tmp4 (t := 2) (u := 3) (v := 4) (x := 5) rfl _ _ _) rfl ⟨by rw [HJ.out]; rfl, hBend⟩
    ·have d1 : (pn != N) = true := by simpa using x1
     have d1' : ((pn : Int) != (N : Int)) = true := bne_t (by omega)
     have HJ := Lib.hid (joinBad Hj.out hlk (by rw [HF.out _ rfl, if_neg (fun h => x1 h.1)]) K hkl)
     go_wp2_with (first | (go_at_call 170; refine (HO2 _).out.mono ?_; rintro e w3 ⟨rfl, hB3⟩; have hBend : Below w.heap.size w (w3.alloc (.cells #[.int .i64 pn, .int .i64 pp, .int .i64 pl, .string ⟨pt.toArray⟩] 235)) := ((hBw.trans (hB3.mono hBw.size)).alloc (by have := hB3.size; have := hBw.size; omega) _); have g0 := (hB3.cell (p := ⟨w1.heap.size, 0, none⟩) hlt6).trans f0; have g2 := (hB3.cell (p := ⟨w1.heap.size, 2, none⟩) hlt6).trans f2; have hl3 : w1.heap.size < w3.heap.size := (by have := hB3.size; omega); have hn3 : w1.heap.size ≠ w3.heap.size := (by omega)))
     exact bodyPost_ret (v := .tuple #[.int .i64 0, .string ⟨#[]⟩, .int .i64 0, .int .i64 7]) (results_tmp4 (t := 2) (u := 3) (v := 4) (x := 5) rfl _ _ _) rfl ⟨by rw [HJ.out]; rfl, hBend⟩
   ·have HO2 := fun w => Lib.hid (open_at hE w)
    have de : (ev != 0) = true := bne_t hev
    have hfit : fitL N L k s.data.toList = none := by
     unfold fitL
     rcases hno with h | h
     ·rw [if_neg (by rw [Array.length_toList]; exact h)]
     ·split
      ·rw [h]
      ·rfl
    have HF := Lib.hid hfit
    clear hfit hE hno hev
    have HJ := Lib.hid (joinBad Hj.out hlk HF.out K hkl)
    go_wp2_with (first | (go_at_call 170; refine (HO2 _).out.mono ?_; rintro e w3 ⟨rfl, hB3⟩; have hBend : Below w.heap.size w (w3.alloc (.cells #[.int .i64 0, .int .i64 0, .int .i64 0, .string ⟨#[]⟩] 235)) := ((hBw.trans (hB3.mono hBw.size)).alloc (by have := hB3.size; have := hBw.size; omega) _); have g0 := (hB3.cell (p := ⟨w1.heap.size, 0, none⟩) hlt6).trans f0; have g2 := (hB3.cell (p := ⟨w1.heap.size, 2, none⟩) hlt6).trans f2; have hl3 : w1.heap.size < w3.heap.size := (by have := hB3.size; omega); have hn3 : w1.heap.size ≠ w3.heap.size := (by omega)))
    exact bodyPost_ret (v := .tuple #[.int .i64 0, .string ⟨#[]⟩, .int .i64 0, .int .i64 7]) (results_tmp4 (t := 2) (u := 3) (v := 4) (x := 5) rfl _ _ _) rfl ⟨by rw [HJ.out]; rfl, hBend⟩
  ·obtain rfl : k = K := by omega
   have hIBd := isBuilder_below hIB (Below.refl _ wr).drew
   have HS := Lib.hid (Tryz.Builder_String_any (w1.heap.size + 1) (w1.heap.size + 1) T' wr.drew hIBd (by show _ <= wr.heap.size; omega))
   have hj2 : j = ⟨N, T', k, 0⟩ := by rw [Hj.out, HJk.out]
   have HJ2 := Lib.hid hj2
   clear hj2 hIBd hIB
   go_wp2_with fail
   go_region_held3 (fun w' => w'.cell? ⟨w1.heap.size, 0, none⟩ = some (.int .i64 N)) (go_keep)
    (first
    | (go_at_call 134; refine HS.out.mono ?_; rintro e w5 ⟨rfl, hB5⟩; have y0 := (hB5.cell (p := ⟨w1.heap.size, 0, none⟩) (Nat.lt_succ_self _)).trans f0))
   have hBe : Below w.heap.size w w5 := hBw.drew.trans (hB5.mono (by omega))
   go_wp2_with fail
   exact bodyPost_ret (v := .tuple #[.int .i64 N, .string ⟨T'.toArray⟩, .int .i64 k, .int .i64 0]) (results_tmp4 (t := 2) (u := 3) (v := 4) (x := 5) rfl _ _ _) rfl ⟨by rw [HJ2.out]; rfl, hBe⟩
end
end Go.Proofs.YtpghocekofdpbaaGreatDoor.Sec
namespace Go.Proofs.YtpghocekofdpbaaGreatDoor.Sec
open Go.RowKit Go.Shelf
attribute [local go_sem] Oper.semAt_some
theorem openL_facts {s : List UInt8} {p : PartL} (h : openL s = some p) : p.left <= 8000 /\ p.number <= mostN /\ 1 <= p.number := by
 unfold openL at h
 split at h
 ·rename_i hc
  cases h
  exact ⟨by have := hc.2.2.2.1; dsimp only; omega, hc.2.2.1, hc.2.1⟩
 ·cases h
theorem Join_any {w : World} {v : Value} {l : List ByteArray} (h : StrsAt w v l) :
  Calls Tryz.prog 148 #[v] w fun e w' => e = .returned (joinV (joinE l)) /\ Below w.heap.size w w' := by
 obtain ⟨A, c, rfl, hc, hm, hat⟩ := h
 cases l with
 | nil => exact join_nil A c
 | cons s0 r =>
  obtain ⟨b, o, rfl, hb, hcell⟩ := hat (by simp)
  have hc0 : w.cell? ⟨b, o, none⟩ = some (.string s0) := hcell 0 s0 rfl
  have hlen : (s0 :: r).length <= maxLen := Nat.le_trans hc hm
  rcases openE_cases s0 with ⟨p, hsz, hop, hE⟩ | ⟨hno, ev, hev, hE⟩
  ·obtain ⟨f1, f2, f3⟩ := openL_facts hop
   have hsz' : s0.data.toList.length = 64 := by rw [Array.length_toList]; exact hsz
   by_cases hp : p.part = 0
   ·have hE' : openE s0 = (partVal p.number 0 p.left ⟨p.text.toArray⟩, 0) := by rw [hE, hp]; rfl
    by_cases hs : (s0 :: r).length < countN p.left
    ·have hj : joinE (s0 :: r) = ⟨0, [], 0, 7⟩ := by
      unfold joinE joinL
      rw [List.map_cons]
      dsimp only
      rw [if_pos hsz', hop]
      dsimp only
      rw [if_pos hp, if_pos (by simpa using hs)]
     rw [hj]
     exact join_short b o _ c (by simp) s0 hc0 p.number p.left _ hE' f1 hs hlen
    ·refine join_loop b o c (s0 :: r) s0 hc0 p.number p.left _ hE' f1 f2 (by omega) hc hm hb hcell _ ?_
     unfold joinE joinL
     rw [List.map_cons]
     dsimp only
     rw [if_pos hsz', hop]
     dsimp only
     rw [if_pos hp, if_neg (by simpa using hs)]
     rfl
   ·have hj : joinE (s0 :: r) = ⟨0, [], 0, 11⟩ := by
     unfold joinE joinL
     rw [List.map_cons]
     dsimp only
     rw [if_pos hsz', hop]
     dsimp only
     rw [if_neg hp]
    rw [hj]
    exact join_first b o _ c (by simp) s0 hc0 p.number p.part p.left _ 0 hE (.inr (by omega)) hlen
  ·have hj : joinE (s0 :: r) = ⟨0, [], 0, 11⟩ := by
    unfold joinE joinL
    rw [List.map_cons]
    dsimp only
    rcases hno with h | h
    ·rw [if_neg (by rw [Array.length_toList]; exact h)]
    ·rw [h]
     split <;> rfl
   rw [hj]
   exact join_first b o _ c (by simp) s0 hc0 0 0 0 _ ev hE (.inl hev) hlen
theorem rcount_any (n : Int) (w : World) : Calls Tryz.prog 40 #[.int .i64 n] w fun e w' => e = .returned (.int .i64 (countZ n)) /\ w = w' := by
 by_cases h0 : n < 0
 ·go_enter Tryz.func40, Tryz.ntmps40
  go_wp2_with fail
  go_ret
  exact ⟨ret_int (by unfold countZ; rw [if_neg (by omega)]), rfl⟩
 ·by_cases h1 : 8000 < n
  ·go_enter Tryz.func40, Tryz.ntmps40
   go_wp2_with fail
   go_ret
   exact ⟨ret_int (by unfold countZ; rw [if_neg (by omega)]), rfl⟩
  ·have h2 : 0 <= n := by omega
   have h3 : n <= 8000 := by omega
   go_enter Tryz.func40, Tryz.ntmps40
   go_wp2_with fail
   all_goals go_ret
   all_goals exact ⟨ret_int (by unfold countZ countN; rw [if_pos ⟨h2, h3⟩]; omega), rfl⟩
end Go.Proofs.YtpghocekofdpbaaGreatDoor.Sec
