/-
  The walks of layer 24 (sector): Join.
  The walks of layer 24 (sector): Join at every list; the specification's Count, put, get, Same.
  A range over a function whose rounds may leave, the iterator reading memory that the rounds may write and making memory between two rounds: one law for the caller. (After Derived/RangeFuncNested.lean's law, with the iterator's own view of memory, 'G', in place of what a round keeps, and with what the iterator says of a value in memory, 'Nx'.)
  Layer 25 (journal): the records of a bank, one by one.
  Layer 25 (journal): the maker of the records' iterator.
-/
import Derived.Test.YtgdpgiegiacepaaDoorG12
import Derived.Test.YtgdpgiegiacepaaDoorProg
import Derived.RangeFuncNested
import Derived.RangeFuncBound
import Derived.RangeFuncCalls
import Derived.RangeFuncLeaves
import Derived.Test.YtgdpgiegiacepaaDoorG14
import Derived.Test.YtgdpgiegiacepaaDoorG10
import Derived.Shelf.Abstract
import Derived.Shelf.RegionOpen
import Derived.OwnWalkIn
import Derived.TacticsInMore
import Derived.LoopNIn
import Derived.LoopIn
namespace Go.Proofs.YtgdpgiegiacepaaDoor.Sec
open Go.RowKit Go.Shelf
attribute [local go_sem] Oper.semAt_some

/-- A list of texts in memory, wherever it lies. -/
def StrsAt (w : World) (v : Value) (l : List ByteArray) : Prop :=
  ∃ A c, v = .slice A l.length c ∧ l.length ≤ c ∧ c ≤ maxLen ∧ (0 < l.length → ∃ b o, A = some ⟨b, o, none⟩ ∧ b < w.heap.size ∧ ∀ i t, l[i]? = some t → w.cell? ⟨b, o + i, none⟩ = some (.string t))
theorem StrsAt.below {w w' : World} {v : Value} {l : List ByteArray} {B : Nat} (h : StrsAt w v l) (hB : Below B w w') (hw : w.heap.size ≤ B) : StrsAt w' v l := by
  obtain ⟨A, c, h1, h2, h3, h4⟩ := h
  refine ⟨A, c, h1, h2, h3, fun h0 => ?_⟩
  obtain ⟨b, o, h5, h6, h7⟩ := h4 h0
  exact ⟨b, o, h5, Nat.lt_of_lt_of_le h6 hB.size, fun i t ht => (hB.cell (p := ⟨b, o + i, none⟩) (show b < B by omega)).trans (h7 i t ht)⟩
theorem strsAt_of_row {w : World} {base : Nat} {v : Value} {l : List ByteArray} (h : w.ownsRow base 9 1 v l.length (strCells l)) : StrsAt w v l := by
  rcases h.2 with ⟨rfl, h0⟩ | ⟨g, cap, cur, rfl, _, hg, hnc, hcm, hcs, ht⟩
  · exact ⟨none, 0, by rw [h0], by omega, Nat.zero_le _, fun h1 => by omega⟩
  · refine ⟨_, cap, rfl, hnc, hcm, fun _ => ⟨g, 0, rfl, Blk.lt hg, fun i t hi => ?_⟩⟩
    have := h.cells (g := g) rfl i (.string t) (by unfold strCells; rw [List.getElem?_map, hi]; rfl)
    rw [Nat.zero_add]
    rw [Addr.add_lit, Nat.zero_add] at this
    exact this
/-- What Join answers. -/
def joinE (l : List ByteArray) : JoinedL := joinL (l.map fun s => s.data.toList)
def joinV (j : JoinedL) : Value := .tuple #[.int .i64 j.number, .string ⟨j.text.toArray⟩, .int .i64 j.used, .int .i64 j.e]
theorem results_tmp4 {fn : Func} {t u v x : Tmp} (h : fn.results = #[.tmp t, .tmp u, .tmp v, .tmp x]) (tmps : Array Value) (P : Program) (w : World) :
    (results fn tmps).run P w = .ok (.tuple #[tmps.getD t undef, tmps.getD u undef, tmps.getD v undef, tmps.getD x undef]) w := by
  simp [results, h]

theorem isBuilder_below {T e : TypeId} {B b : Nat} {bs : List Value} {w w' : World} (h : Lib.IsBuilder T e B b bs w) (hB : Below w.heap.size w w') : Lib.IsBuilder T e B b bs w' := by
  have key : ∀ p, Lib.BuilderAt T e B b p bs w → Lib.BuilderAt T e B b p bs w' := fun p hp => by
    obtain ⟨h1, v, h2, h3, h4⟩ := hp
    exact ⟨h1, v, (hB.block b (Array.getElem?_eq_some_iff.1 h2).1).trans h2, ownsRow_below h3 hB (Nat.le_refl _), h4⟩
  rcases h with h | h
  · exact .inl (key _ h)
  · exact .inr (key _ h)

/-- How Open answers: a part, or an error. -/
theorem openE_cases (s : ByteArray) : (∃ p, s.size = 64 ∧ openL s.data.toList = some p ∧ openE s = (partVal p.number p.part p.left ⟨p.text.toArray⟩, 0)) ∨ ((s.size ≠ 64 ∨ openL s.data.toList = none) ∧ ∃ e, e ≠ 0 ∧ openE s = (partVal 0 0 0 ⟨#[]⟩, e)) := by
  unfold openE
  by_cases hs : s.size = 64
  · rw [if_pos hs]
    cases ho : openL s.data.toList with
    | none => exact .inr ⟨.inr rfl, 7, by decide, rfl⟩
    | some p => exact .inl ⟨p, hs, rfl, rfl⟩
  · rw [if_neg hs]
    exact .inr ⟨.inl hs, 1, by decide, rfl⟩

theorem open_at {s : ByteArray} {N P L e : Int} {T : ByteArray} (h : openE s = (partVal N P L T, e)) (w : World) : Calls Tryd.prog 70 #[.string s] w fun e2 w' => e2 = .returned (.tuple #[.agg #[.int .i64 N, .int .i64 P, .int .i64 L, .string T], .int .i64 e]) ∧ Below w.heap.size w w' := by
  have := open_any s w
  rw [h] at this
  exact this
section
variable {w : World}
set_option maxRecDepth 100000 in
set_option maxHeartbeats 4000000 in
theorem join_nil (A : Option Addr) (c : Nat) : Calls Tryd.prog 55 #[.slice A 0 c] w fun e w' => e = .returned (joinV ⟨0, [], 0, 11⟩) ∧ Below w.heap.size w w' := by
  go_enter Tryd.func55, Tryd.ntmps55
  go_wp2_with fail
  exact bodyPost_ret (v := .tuple #[.int .i64 0, .string ⟨#[]⟩, .int .i64 0, .int .i64 11]) (results_tmp4 (t := 2) (u := 3) (v := 4) (x := 5) rfl _ _ _) rfl ⟨rfl, Below.refl _ _⟩
set_option maxRecDepth 100000 in
set_option maxHeartbeats 4000000 in
theorem join_first (b o n c : Nat) (hn : 0 < n) (s0 : ByteArray) (hc : w.cell? ⟨b, o, none⟩ = some (.string s0)) (N P L : Int) (T : ByteArray) (e : Int) (hO : openE s0 = (partVal N P L T, e)) (hbad : e ≠ 0 ∨ P ≠ 0) (hm : n ≤ maxLen) :
    Calls Tryd.prog 55 #[.slice (some ⟨b, o, none⟩) n c] w fun e w' => e = .returned (joinV ⟨0, [], 0, 11⟩) ∧ Below w.heap.size w w' := by
  unfold maxLen at hm
  have HO := fun w => Lib.hid (open_at hO w)
  have h0 : ((n : Int) == 0) = false := beq_f (by omega)
  by_cases he : e = 0
  · subst he
    have hP : (P != 0) = true := bne_t (by rcases hbad with h | h; exact absurd rfl h; exact h)
    clear hbad hO
    go_enter Tryd.func55, Tryd.ntmps55
    go_wp2_with (first | (go_at_call 70; refine (HO _).out.mono ?_; rintro e w1 ⟨rfl, hB⟩))
    exact bodyPost_ret (v := .tuple #[.int .i64 0, .string ⟨#[]⟩, .int .i64 0, .int .i64 11]) (results_tmp4 (t := 2) (u := 3) (v := 4) (x := 5) rfl _ _ _) rfl ⟨rfl, hB.alloc hB.size _⟩
  · have hE : (e != 0) = true := bne_t he
    clear hbad hO he
    go_enter Tryd.func55, Tryd.ntmps55
    go_wp2_with (first | (go_at_call 70; refine (HO _).out.mono ?_; rintro e w1 ⟨rfl, hB⟩))
    exact bodyPost_ret (v := .tuple #[.int .i64 0, .string ⟨#[]⟩, .int .i64 0, .int .i64 11]) (results_tmp4 (t := 2) (u := 3) (v := 4) (x := 5) rfl _ _ _) rfl ⟨rfl, hB.alloc hB.size _⟩

set_option maxRecDepth 100000 in
set_option maxHeartbeats 4000000 in
theorem join_short (b o n c : Nat) (hn : 0 < n) (s0 : ByteArray) (hc : w.cell? ⟨b, o, none⟩ = some (.string s0)) (N : Int) (L : Nat) (T : ByteArray) (hO : openE s0 = (partVal N 0 L T, 0)) (hL : L ≤ 8000) (hs : n < countN L) (hm : n ≤ maxLen) :
    Calls Tryd.prog 55 #[.slice (some ⟨b, o, none⟩) n c] w fun e w' => e = .returned (joinV ⟨0, [], 0, 7⟩) ∧ Below w.heap.size w w' := by
  unfold maxLen at hm
  have HO := fun w => Lib.hid (open_at hO w)
  have h0 : ((n : Int) == 0) = false := beq_f (by omega)
  have HC := fun w => Lib.hid (count_nat L hL w)
  generalize countN L = K at HC hs
  have d1 : decide ((n : Int) < K) = true := decide_eq_true (by omega)
  clear hO
  go_enter Tryd.func55, Tryd.ntmps55
  go_wp2_with (first | (go_at_call 70; refine (HO _).out.mono ?_; rintro e w1 ⟨rfl, hB⟩) | (go_at_call 24; refine (HC _).out.mono ?_; rintro e w2 ⟨rfl, rfl⟩))
  exact bodyPost_ret (v := .tuple #[.int .i64 0, .string ⟨#[]⟩, .int .i64 0, .int .i64 7]) (results_tmp4 (t := 2) (u := 3) (v := 4) (x := 5) rfl _ _ _) rfl ⟨rfl, hB.alloc hB.size _⟩

theorem joinTo_succ_none {number left0 : Nat} {l : List (List UInt8)} {k : Nat} {s : List UInt8} (hs : l[k]? = some s) (h : fitL number left0 k s = none) : ∀ K, k < K → joinTo number left0 l K = none
  | 0, h0 => by omega
  | K + 1, h0 => by
    rw [joinTo]
    by_cases e : k < K
    · rw [joinTo_succ_none hs h K e]
    · have : K = k := by omega
      subst this
      split
      · rfl
      · rw [hs]
        dsimp only
        rw [h]
theorem openL_text {s : List UInt8} {p : PartL} (h : openL s = some p) : p.text.length ≤ 44 := by
  unfold openL at h
  split at h
  · cases h
    exact Nat.le_trans (List.length_take_le _ _) (by omega)
  · cases h
theorem mk_size (l : List UInt8) : (⟨l.toArray⟩ : ByteArray).size = l.length := by simp [ByteArray.size]
theorem joinBad {N L : Nat} {ls : List (List UInt8)} {K0 : Nat} {j : JoinedL} (hj : j = match joinTo N L ls K0 with | none => ⟨0, [], 0, 7⟩ | some t => ⟨N, t, K0, 0⟩) {k : Nat} {s : List UInt8} (hs : ls[k]? = some s) (hf : fitL N L k s = none) (_K : Nat) (hk : k < K0) : j = ⟨0, [], 0, 7⟩ := by
  rw [hj, joinTo_succ_none hs hf K0 hk]
set_option maxRecDepth 100000 in
set_option maxHeartbeats 4000000 in
theorem join_loop (b o : Nat) (c : Nat) (l : List ByteArray) (s0 : ByteArray) (hc : w.cell? ⟨b, o, none⟩ = some (.string s0)) (N L : Nat) (T : ByteArray) (hO : openE s0 = (partVal N 0 L T, 0)) (hL : L ≤ 8000) (hN : N ≤ mostN) (hs : countN L ≤ l.length) (hcap : l.length ≤ c) (_hm : c ≤ maxLen)
    (hb : b < w.heap.size) (hat : ∀ i t, l[i]? = some t → w.cell? ⟨b, o + i, none⟩ = some (.string t)) (j : JoinedL) (hj : j = match joinTo N L (l.map fun s => s.data.toList) (countN L) with | none => ⟨0, [], 0, 7⟩ | some t => ⟨N, t, countN L, 0⟩) :
    Calls Tryd.prog 55 #[.slice (some ⟨b, o, none⟩) l.length c] w fun e w' => e = .returned (joinV j) ∧ Below w.heap.size w w' := by
  unfold maxLen at _hm
  have HO := fun w => Lib.hid (open_at hO w)
  have hp := count_pos L
  have h0 : ((l.length : Int) == 0) = false := beq_f (by omega)
  have HC := fun w => Lib.hid (count_nat L hL w)
  have hK182 : countN L ≤ 182 := by unfold countN; omega
  have Hat := Lib.hid hat
  have Hj := Lib.hid hj
  clear hat hj hO
  generalize countN L = K at HC hs Hj hp hK182
  have d1 : decide (l.length < K) = false := decide_eq_false (by omega)
  go_enter Tryd.func55, Tryd.ntmps55
  go_wp2_with (first | (go_at_call 70; refine (HO _).out.mono ?_; rintro e w1 ⟨rfl, hB⟩) | (go_at_call 24; refine (HC _).out.mono ?_; rintro e w2 ⟨rfl, rfl⟩))
  have hsz1 := hB.size
  have b6 := (Blk.new w1 126 #[.int .i64 N, .int .i64 0, .int .i64 L, .string T]).alloc (.cells #[.pointer none, .slice none 0 0] 84)
  have hbl := Lib.fresh_isBuilder 84 5 (w1.alloc (.cells #[.int .i64 N, .int .i64 0, .int .i64 L, .string T] 126))
  have hB0 : Below w.heap.size w ((w1.alloc (.cells #[.int .i64 N, .int .i64 0, .int .i64 L, .string T] 126)).alloc (.cells #[.pointer none, .slice none 0 0] 84)) := (hB.alloc hsz1 _).alloc (by simp; omega) _
  have hsz0 : ((w1.alloc (.cells #[.int .i64 N, .int .i64 0, .int .i64 L, .string T] 126)).alloc (.cells #[.pointer none, .slice none 0 0] 84)).heap.size = w1.heap.size + 1 + 1 := by simp
  rw [World.size_alloc] at hbl
  generalize (w1.alloc (.cells #[.int .i64 N, .int .i64 0, .int .i64 L, .string T] 126)).alloc (.cells #[.pointer none, .slice none 0 0] 84) = W0 at b6 hbl hB0 hsz0 ⊢
  have HS0 := Lib.hid hsz0
  clear hsz0
  go_loopw [42] (fun i wr => ∃ (k : Nat) (T : List UInt8), k ≤ K ∧ i = .int .i64 k ∧ T.length ≤ 44 * k ∧ joinTo N L (l.map fun s => s.data.toList) k = some T ∧ Lib.IsBuilder 84 5 (w1.heap.size + 1) (w1.heap.size + 1) (bytesC T) wr ∧ Below (w1.heap.size + 1) W0 wr) (fun i _ => K - (intOf i).toNat)
  case atStart => exact ⟨0, [], Nat.zero_le _, rfl, Nat.zero_le _, rfl, hbl, Below.refl _ _⟩
  case round =>
    obtain ⟨k, T', hk, rfl, hTl, hJk, hIB, hBr⟩ := hrel
    have hsr := hBr.size
    have HJk := Lib.hid hJk
    clear hJk hc hbl
    have b6r := b6.below hBr (Nat.lt_succ_self _)
    have f0 := b6r.cell 0
    have f2 := b6r.cell 2
    have hlt6 := b6r.lt
    have hBw : Below w.heap.size w wr := hB0.trans (hBr.mono (by omega))
    by_cases hkl : k < K
    · obtain ⟨s, hls⟩ : ∃ s, l[k]? = some s := ⟨_, List.getElem?_eq_getElem (by omega)⟩
      have hlk : (l.map fun s => s.data.toList)[k]? = some s.data.toList := by rw [List.getElem?_map, hls]; rfl
      have hck : wr.cell? ⟨b, o + k, none⟩ = some (.string s) := (hBw.cell (p := ⟨b, o + k, none⟩) hb).trans (Hat.out k s hls)
      have HLK := Lib.hid hlk
      clear hls
      rcases openE_cases s with ⟨⟨pn, pp, pl, pt⟩, hsz, hop, hE⟩ | ⟨hno, ev, hev, hE⟩
      · have HO2 := fun w => Lib.hid (open_at hE w)
        dsimp only at HO2
        have hfit : ∀ r, fitL N L k s.data.toList = r → r = if pn = N ∧ pp = k ∧ (pl : Int) = L - 44 * k then some pt else none := by
          rintro r rfl
          unfold fitL
          rw [if_pos (by rw [Array.length_toList]; exact hsz), hop]
        have HF := Lib.hid hfit
        have HOP := Lib.hid hop
        clear hfit hop hE
        by_cases x1 : pn = N
        · subst x1
          by_cases x2 : pp = k
          · subst x2
            by_cases x3 : (pl : Int) = L - 44 * pp
            · have d3 : ((pl : Int) != (L : Int) - (pp : Int) * 44) = false := bne_f (by omega)
              have hpt : pt.length ≤ 44 := openL_text HOP.out
              have hJn : joinTo pn L (l.map fun s => s.data.toList) (pp + 1) = some (T' ++ pt) := by
                rw [joinTo, HJk.out]
                dsimp only
                rw [HLK.out]
                dsimp only
                rw [HF.out _ rfl, if_pos ⟨rfl, rfl, x3⟩]
              have HJn := Lib.hid hJn
              clear hJn x3
              go_wp2_with (first | (go_at_call 70; refine (HO2 _).out.mono ?_; rintro e w3 ⟨rfl, hB3⟩; have hBend : Below w.heap.size w (w3.alloc (.cells #[.int .i64 pn, .int .i64 pp, .int .i64 pl, .string ⟨pt.toArray⟩] 126)) := ((hBw.trans (hB3.mono hBw.size)).alloc (by have := hB3.size; have := hBw.size; omega) _); have g0 := (hB3.cell (p := ⟨w1.heap.size, 0, none⟩) hlt6).trans f0; have g2 := (hB3.cell (p := ⟨w1.heap.size, 2, none⟩) hlt6).trans f2; have hl3 : w1.heap.size < w3.heap.size := (by have := hB3.size; omega); have hn3 : w1.heap.size ≠ w3.heap.size := (by omega); have hIB4 := isBuilder_below (isBuilder_below hIB hB3) ((Below.refl _ w3).alloc (Nat.le_refl _) (.cells #[.int .i64 pn, .int .i64 pp, .int .i64 pl, .string ⟨pt.toArray⟩] 126))) | (go_at_call 38; refine (writeS_any (w1.heap.size + 1) (w1.heap.size + 1) (bytesC T') ⟨pt.toArray⟩ _ hIB4 (by rw [bytesC_len, mk_size]; omega) (by rw [World.size_alloc]; omega)).mono ?_; rintro e w5 ⟨rfl, hIB5, hB5⟩))
              have hIB6 : Lib.IsBuilder 84 5 (w1.heap.size + 1) (w1.heap.size + 1) (bytesC (T' ++ pt)) w5 := by
                rw [bytesC_app]
                exact .inr hIB5
              have hBn : Below (w1.heap.size + 1) W0 w5 := ((hBr.trans (hB3.mono (by omega))).alloc (by have := hB3.size; omega) _).trans hB5
              clear hIB5 hIB4 hIB
              go_roundw
              case rel => exact ⟨pp + 1, T' ++ pt, by omega, by go_num, by rw [List.length_append]; omega, HJn.out, hIB6, hBn⟩
              case measure => simp [intOf]; omega
            · have d3 : ((pl : Int) != (L : Int) - (pp : Int) * 44) = true := bne_t (by omega)
              have HJ := Lib.hid (joinBad Hj.out hlk (by rw [HF.out _ rfl, if_neg (fun h => x3 h.2.2)]) K hkl)
              go_wp2_with (first | (go_at_call 70; refine (HO2 _).out.mono ?_; rintro e w3 ⟨rfl, hB3⟩; have hBend : Below w.heap.size w (w3.alloc (.cells #[.int .i64 pn, .int .i64 pp, .int .i64 pl, .string ⟨pt.toArray⟩] 126)) := ((hBw.trans (hB3.mono hBw.size)).alloc (by have := hB3.size; have := hBw.size; omega) _); have g0 := (hB3.cell (p := ⟨w1.heap.size, 0, none⟩) hlt6).trans f0; have g2 := (hB3.cell (p := ⟨w1.heap.size, 2, none⟩) hlt6).trans f2; have hl3 : w1.heap.size < w3.heap.size := (by have := hB3.size; omega); have hn3 : w1.heap.size ≠ w3.heap.size := (by omega)))
              exact bodyPost_ret (v := .tuple #[.int .i64 0, .string ⟨#[]⟩, .int .i64 0, .int .i64 7]) (results_tmp4 (t := 2) (u := 3) (v := 4) (x := 5) rfl _ _ _) rfl ⟨by rw [HJ.out]; rfl, hBend⟩
          · have d2 : (pp != k) = true := by simpa using x2
            have d2' : ((pp : Int) != (k : Int)) = true := bne_t (by omega)
            have HJ := Lib.hid (joinBad Hj.out hlk (by rw [HF.out _ rfl, if_neg (fun h => x2 h.2.1)]) K hkl)
            go_wp2_with (first | (go_at_call 70; refine (HO2 _).out.mono ?_; rintro e w3 ⟨rfl, hB3⟩; have hBend : Below w.heap.size w (w3.alloc (.cells #[.int .i64 pn, .int .i64 pp, .int .i64 pl, .string ⟨pt.toArray⟩] 126)) := ((hBw.trans (hB3.mono hBw.size)).alloc (by have := hB3.size; have := hBw.size; omega) _); have g0 := (hB3.cell (p := ⟨w1.heap.size, 0, none⟩) hlt6).trans f0; have g2 := (hB3.cell (p := ⟨w1.heap.size, 2, none⟩) hlt6).trans f2; have hl3 : w1.heap.size < w3.heap.size := (by have := hB3.size; omega); have hn3 : w1.heap.size ≠ w3.heap.size := (by omega)))
            exact bodyPost_ret (v := .tuple #[.int .i64 0, .string ⟨#[]⟩, .int .i64 0, .int .i64 7]) (results_tmp4 (t := 2) (u := 3) (v := 4) (x := 5) rfl _ _ _) rfl ⟨by rw [HJ.out]; rfl, hBend⟩
        · have d1 : (pn != N) = true := by simpa using x1
          have d1' : ((pn : Int) != (N : Int)) = true := bne_t (by omega)
          have HJ := Lib.hid (joinBad Hj.out hlk (by rw [HF.out _ rfl, if_neg (fun h => x1 h.1)]) K hkl)
          go_wp2_with (first | (go_at_call 70; refine (HO2 _).out.mono ?_; rintro e w3 ⟨rfl, hB3⟩; have hBend : Below w.heap.size w (w3.alloc (.cells #[.int .i64 pn, .int .i64 pp, .int .i64 pl, .string ⟨pt.toArray⟩] 126)) := ((hBw.trans (hB3.mono hBw.size)).alloc (by have := hB3.size; have := hBw.size; omega) _); have g0 := (hB3.cell (p := ⟨w1.heap.size, 0, none⟩) hlt6).trans f0; have g2 := (hB3.cell (p := ⟨w1.heap.size, 2, none⟩) hlt6).trans f2; have hl3 : w1.heap.size < w3.heap.size := (by have := hB3.size; omega); have hn3 : w1.heap.size ≠ w3.heap.size := (by omega)))
          exact bodyPost_ret (v := .tuple #[.int .i64 0, .string ⟨#[]⟩, .int .i64 0, .int .i64 7]) (results_tmp4 (t := 2) (u := 3) (v := 4) (x := 5) rfl _ _ _) rfl ⟨by rw [HJ.out]; rfl, hBend⟩
      · have HO2 := fun w => Lib.hid (open_at hE w)
        have de : (ev != 0) = true := bne_t hev
        have hfit : fitL N L k s.data.toList = none := by
          unfold fitL
          rcases hno with h | h
          · rw [if_neg (by rw [Array.length_toList]; exact h)]
          · split
            · rw [h]
            · rfl
        have HF := Lib.hid hfit
        clear hfit hE hno hev
        have HJ := Lib.hid (joinBad Hj.out hlk HF.out K hkl)
        go_wp2_with (first | (go_at_call 70; refine (HO2 _).out.mono ?_; rintro e w3 ⟨rfl, hB3⟩; have hBend : Below w.heap.size w (w3.alloc (.cells #[.int .i64 0, .int .i64 0, .int .i64 0, .string ⟨#[]⟩] 126)) := ((hBw.trans (hB3.mono hBw.size)).alloc (by have := hB3.size; have := hBw.size; omega) _); have g0 := (hB3.cell (p := ⟨w1.heap.size, 0, none⟩) hlt6).trans f0; have g2 := (hB3.cell (p := ⟨w1.heap.size, 2, none⟩) hlt6).trans f2; have hl3 : w1.heap.size < w3.heap.size := (by have := hB3.size; omega); have hn3 : w1.heap.size ≠ w3.heap.size := (by omega)))
        exact bodyPost_ret (v := .tuple #[.int .i64 0, .string ⟨#[]⟩, .int .i64 0, .int .i64 7]) (results_tmp4 (t := 2) (u := 3) (v := 4) (x := 5) rfl _ _ _) rfl ⟨by rw [HJ.out]; rfl, hBend⟩
    · obtain rfl : k = K := by omega
      have hIBd := isBuilder_below hIB (Below.refl _ wr).drew
      have HS := Lib.hid (Tryd.Builder_String_any (w1.heap.size + 1) (w1.heap.size + 1) T' wr.drew hIBd (by show _ ≤ wr.heap.size; omega))
      have hj2 : j = ⟨N, T', k, 0⟩ := by rw [Hj.out, HJk.out]
      have HJ2 := Lib.hid hj2
      clear hj2 hIBd hIB
      go_wp2_with fail
      go_region_held3 (fun w' => w'.cell? ⟨w1.heap.size, 0, none⟩ = some (.int .i64 N)) (go_keep)
        (first
        | (go_at_call 40; refine HS.out.mono ?_; rintro e w5 ⟨rfl, hB5⟩; have y0 := (hB5.cell (p := ⟨w1.heap.size, 0, none⟩) (Nat.lt_succ_self _)).trans f0))
      have hBe : Below w.heap.size w w5 := hBw.drew.trans (hB5.mono (by omega))
      go_wp2_with fail
      exact bodyPost_ret (v := .tuple #[.int .i64 N, .string ⟨T'.toArray⟩, .int .i64 k, .int .i64 0]) (results_tmp4 (t := 2) (u := 3) (v := 4) (x := 5) rfl _ _ _) rfl ⟨by rw [HJ2.out]; rfl, hBe⟩
end
end Go.Proofs.YtgdpgiegiacepaaDoor.Sec
namespace Go.Proofs.YtgdpgiegiacepaaDoor.Sec
open Go.RowKit Go.Shelf
attribute [local go_sem] Oper.semAt_some

theorem openL_facts {s : List UInt8} {p : PartL} (h : openL s = some p) : p.left ≤ 8000 ∧ p.number ≤ mostN ∧ 1 ≤ p.number := by
  unfold openL at h
  split at h
  · rename_i hc
    cases h
    exact ⟨by have := hc.2.2.2.1; dsimp only; omega, hc.2.2.1, hc.2.1⟩
  · cases h
theorem Join_any {w : World} {v : Value} {l : List ByteArray} (h : StrsAt w v l) :
    Calls Tryd.prog 55 #[v] w fun e w' => e = .returned (joinV (joinE l)) ∧ Below w.heap.size w w' := by
  obtain ⟨A, c, rfl, hc, hm, hat⟩ := h
  cases l with
  | nil => exact join_nil A c
  | cons s0 r =>
    obtain ⟨b, o, rfl, hb, hcell⟩ := hat (by simp)
    have hc0 : w.cell? ⟨b, o, none⟩ = some (.string s0) := hcell 0 s0 rfl
    have hlen : (s0 :: r).length ≤ maxLen := Nat.le_trans hc hm
    rcases openE_cases s0 with ⟨p, hsz, hop, hE⟩ | ⟨hno, ev, hev, hE⟩
    · obtain ⟨f1, f2, f3⟩ := openL_facts hop
      have hsz' : s0.data.toList.length = 64 := by rw [Array.length_toList]; exact hsz
      by_cases hp : p.part = 0
      · have hE' : openE s0 = (partVal p.number 0 p.left ⟨p.text.toArray⟩, 0) := by rw [hE, hp]; rfl
        by_cases hs : (s0 :: r).length < countN p.left
        · have hj : joinE (s0 :: r) = ⟨0, [], 0, 7⟩ := by
            unfold joinE joinL
            rw [List.map_cons]
            dsimp only
            rw [if_pos hsz', hop]
            dsimp only
            rw [if_pos hp, if_pos (by simpa using hs)]
          rw [hj]
          exact join_short b o _ c (by simp) s0 hc0 p.number p.left _ hE' f1 hs hlen
        · refine join_loop b o c (s0 :: r) s0 hc0 p.number p.left _ hE' f1 f2 (by omega) hc hm hb hcell _ ?_
          unfold joinE joinL
          rw [List.map_cons]
          dsimp only
          rw [if_pos hsz', hop]
          dsimp only
          rw [if_pos hp, if_neg (by simpa using hs)]
          rfl
      · have hj : joinE (s0 :: r) = ⟨0, [], 0, 11⟩ := by
          unfold joinE joinL
          rw [List.map_cons]
          dsimp only
          rw [if_pos hsz', hop]
          dsimp only
          rw [if_neg hp]
        rw [hj]
        exact join_first b o _ c (by simp) s0 hc0 p.number p.part p.left _ 0 hE (.inr (by omega)) hlen
    · have hj : joinE (s0 :: r) = ⟨0, [], 0, 11⟩ := by
        unfold joinE joinL
        rw [List.map_cons]
        dsimp only
        rcases hno with h | h
        · rw [if_neg (by rw [Array.length_toList]; exact h)]
        · rw [h]
          split <;> rfl
      rw [hj]
      exact join_first b o _ c (by simp) s0 hc0 0 0 0 _ ev hE (.inl hev) hlen

/-! ### The specification -/
/-- The specification's number in some bytes. -/
def getZ (l : List UInt8) : Int := if getL l ≤ mostN then getL l else -1
theorem getL_split : ∀ (j : Nat) (l : List UInt8), j ≤ l.length → getL l = getL (l.take j) + 256 ^ j * getL (l.drop j)
  | 0, l, _ => by simp [getL]
  | j + 1, [], h => by simp at h
  | j + 1, b :: l, h => by
    have := getL_split j l (by simpa using h)
    rw [List.take_succ_cons, List.drop_succ_cons, getL, getL, this, Nat.mul_add, Nat.pow_succ, Nat.mul_comm (256 ^ j) 256, Nat.mul_assoc, Nat.add_assoc]
theorem drop_step {l : List UInt8} {j : Nat} {b : UInt8} (h : l[j]? = some b) : getL (l.drop j) = b.toNat + 256 * getL (l.drop (j + 1)) := by
  rw [List.drop_eq_getElem_cons (List.getElem?_eq_some_iff.1 h).1, getL, (List.getElem?_eq_some_iff.1 h).2]
end Go.Proofs.YtgdpgiegiacepaaDoor.Sec
namespace Go.Proofs.YtgdpgiegiacepaaDoor
open Go.RowKit

/-- The iterator's contract: it sees memory as G says, asks for the rounds that Nx allows, and ends with S, unless a round has left. -/
def SeqSteps {α : Type} (F : Fence) (n : Nat) (P : Program) (g : Nat) (lb : Array Value) (encs : α → Array Value) (G : List α → World → Prop) (Nx : List α → α → World → Prop) (S : List α → Prop) : Prop :=
  ∀ (l : Nat) (J Jx : List α → World → Prop) (W : World), (∀ pre W1, J pre W1 → G pre W1) →
    (∀ pre W1 W2, J pre W1 → Below W1.heap.size W1 W2 → J pre W2) → (∀ pre W1 W2, Jx pre W1 → Below W1.heap.size W1 W2 → Jx pre W2) →
    (∀ pre x W1, J pre W1 → Nx pre x W1 → YieldAt F (n - 1) P l (encs x) W1 fun e W' => (e = .returned (.bool true) ∧ J (pre ++ [x]) W') ∨ (e = .returned (.bool false) ∧ Jx (pre ++ [x]) W')) →
    J [] W →
    CallsIn F n P g (#[.func (.yield l) #[] #[]] ++ lb) W fun e W' => (∃ v, e = .returned v) ∧ ((∃ xs, S xs ∧ J xs W') ∨ ∃ xs, Jx xs W')

/-- How the body of a round ends. -/
def goesOr {α : Type} (I : List α → World → Prop) (Ix : Code → List α → World → Prop) (xs : List α) (W : World) : Exit → Act → World → Prop
  | .normal, _, W' => KeepsOthers W W' ∧ I xs W'
  | .ret, _, W' => KeepsOthers W W' ∧ Ix .ret xs W'
  | .exit id, _, W' => KeepsOthers W W' ∧ Ix (.exit id) xs W'
  | .goto t, _, W' => KeepsOthers W W' ∧ Ix (.goto t) xs W'
  | .panic _, _, _ => False
  | .outgrown, _, _ => False

variable {F : Fence} {n : Nat} {P : Program}

theorem wpIn_rangeFunc_steps {α : Type} {g : Operand} {ps : Array Tmp} {assign body : Code} {Q : Exit → Act → World → Prop} {a : Act} {w : World}
    (hro : F.round = none) (h1 : 1 ≤ n) {gf : Nat} {lb : Array Value} (hg : a.eval g = .func (.func gf) #[] lb) (hFg : F.fn gf) (eg : ∀ args w, (callFunc gf args).run P w = .ok (.enter gf args) w)
    {encs : α → Array Value} {G : List α → World → Prop} {Nx : List α → α → World → Prop} {S : List α → Prop} (hseq : SeqSteps F (n - 1) P gf lb encs G Nx S)
    (hps : ∀ x, (encs x).size = ps.size)
    (I : List α → World → Prop) (Ix : Code → List α → World → Prop) (hI : OwnFrom w.heap.size I) (hIx : ∀ c, OwnFrom w.heap.size (Ix c)) (hG : ∀ pre W1, I pre W1 → G pre W1) (hN : ∀ pre x, OwnFrom w.heap.size (fun (_ : Unit) W => Nx pre x W)) (h0 : I [] w) (a₁ : α → Act)
    (hassign : ∀ (l : Nat) (x : α) (W : World) (K : Act → World → Prop), K (a₁ x) W →
      assign.wpIn (F.inRound l) (n - 1 - 1) P (Exit.then K (fun _ _ _ => False)) { tmps := (ps.zip (encs x)).foldl (fun t (p, v) => t.setIfInBounds p v) a.tmps, defers := [] } W)
    (hbody : ∀ (l : Nat) (pre : List α) (x : α) (W : World), I pre W → Nx pre x W → body.wpIn (F.inRound l) (n - 1 - 1) P (goesOr I Ix (pre ++ [x]) W) (a₁ x) W)
    (hdone : ∀ (D : Nat) (xs : List α) (W : World), w.heap.size ≤ D → S xs → I xs W → W.heap[D]? = some (.deferred (some [])) → Q .normal { a with defers := { target := .collected D, args := #[] } :: a.defers } W)
    (hstop : ∀ (D : Nat) (c : Code) (pre : List α) (W : World), w.heap.size ≤ D → Ix c pre W → W.heap[D]? = some (.deferred (some [])) → c.wpIn F n P Q { a with defers := { target := .collected D, args := #[] } :: a.defers } W) :
    (Code.rangeFunc g ps assign body).wpIn F n P Q a w := by
  refine wpIn_rangeFunc ?_
  intro fn hfn
  rw [hro]
  obtain ⟨rec, hrec⟩ : ∃ rec : LoopState → Option Code → Loop, rec = fun st pe => { state := st, pending := pe, fn, tmps := a.tmps, params := ps, assign, body, defers := w.heap.size } := ⟨_, rfl⟩
  obtain ⟨W1, hW1⟩ : ∃ W1, (w.alloc (.deferred (some []))).alloc (.loop (rec .ready none)) = W1 := ⟨_, rfl⟩
  have hL1 : W1.heap[w.heap.size + 1]? = some (.loop (rec .ready none)) := by
    rw [← hW1]; have := World.alloc_heap_new (w.alloc (.deferred (some []))) (.loop (rec .ready none)); rwa [World.size_alloc] at this
  have hK1 : W1.heap[w.heap.size]? = some (.deferred (some [])) := by
    rw [← hW1]; exact (Below.heap_alloc _ _ _ (by simp)).trans (World.alloc_heap_new w _)
  have hI1 : I [] W1 := by rw [← hW1]; exact hI.alloc _ (hI.alloc _ h0)
  have bel : ∀ {A B : World}, Below A.heap.size A B → A.grownBy B none := fun hB => ⟨hB.os, hB.tape, hB.output, hB.size, fun k hk _ => hB.block k hk⟩
  refine ⟨w.heap.size + 1, [{ target := .collected w.heap.size, args := #[] }], W1, { target := .fn (.func gf) lb, args := #[.func (.yield (w.heap.size + 1)) #[] #[]] }, W1, gf,
    #[.func (.yield (w.heap.size + 1)) #[] #[]] ++ lb, W1, ?_, ?_, ?_, ?_, fun _ => h1, ?_⟩
  · rw [← hW1, hrec]; exact run_enterLoop_outer _ _ _ _ _
  · simp only [resolve, hg]
    simp [go_sem]
  · intro f' hf'; simp [Target.leads] at hf'; subst hf'; exact hFg
  · simp [invoke, go_sem, eg]
  · refine (hseq (w.heap.size + 1)
      (fun pre W => I pre W ∧ W.heap[w.heap.size + 1]? = some (.loop (rec .ready none)) ∧ W.heap[w.heap.size]? = some (.deferred (some [])))
      (fun pre W => ∃ c, Ix c pre W ∧ W.heap[w.heap.size + 1]? = some (.loop (rec .done (some c))) ∧ W.heap[w.heap.size]? = some (.deferred (some [])))
      W1 (fun pre W hJ => hG pre W hJ.1)
      (fun pre A B hJ hB => ⟨hI pre A B none hJ.1 (bel hB) (fun _ e => by cases e), (hB.block _ (Array.getElem?_eq_some_iff.1 hJ.2.1).1).trans hJ.2.1, (hB.block _ (Array.getElem?_eq_some_iff.1 hJ.2.2).1).trans hJ.2.2⟩)
      (fun pre A B hJ hB => by
        obtain ⟨c, hc, hl, hk⟩ := hJ
        exact ⟨c, hIx c pre A B none hc (bel hB) (fun _ e => by cases e), (hB.block _ (Array.getElem?_eq_some_iff.1 hl).1).trans hl, (hB.block _ (Array.getElem?_eq_some_iff.1 hk).1).trans hk⟩)
      ?_ ⟨hI1, hL1, hK1⟩).mono ?_
    · -- ONE ROUND
      rintro pre x W ⟨hi, hl, hk⟩ hnx
      have hlt : w.heap.size + 1 < W.heap.size := (Array.getElem?_eq_some_iff.1 hl).1
      have hy := run_yield (P := P) (args := encs x) hl (by rw [hrec]; exact hps x)
      rw [hrec] at hy
      refine ⟨fn, _, assign, body, hy, roundIn_of_wpIn hfn (hassign _ x W _ ⟨_, run_beginRound hl (by rw [hrec]), ?_⟩)⟩
      have hl2 : (W.putObj (w.heap.size + 1) (.loop { rec .ready none with state := .busy })).heap[w.heap.size + 1]? = some (.loop { rec .ready none with state := .busy }) := World.putObj_heap_same hlt
      have hk2 : (W.putObj (w.heap.size + 1) (.loop { rec .ready none with state := .busy })).heap[w.heap.size]? = some (.deferred (some [])) := (World.putObj_heap_other (by omega)).trans hk
      refine wpIn_mono (hbody _ pre x _ (hI.putObj _ hi (by omega) hl rfl) ((hN pre x).putObj (s := ()) _ hnx (by omega) hl rfl)) ?_
      have fin : ∀ (jump : Option Code) (W3 : World), KeepsOthers (W.putObj (w.heap.size + 1) (.loop { rec .ready none with state := .busy })) W3 →
          (Instr.endRound (w.heap.size + 1) jump).run P W3 = .ok (.bool jump.isNone) (W3.putObj (w.heap.size + 1) (.loop (rec (if jump.isNone then .ready else .done) jump))) ∧
          W3.heap[w.heap.size + 1]? = some (.loop { rec .ready none with state := .busy }) ∧
          (W3.putObj (w.heap.size + 1) (.loop (rec (if jump.isNone then .ready else .done) jump))).heap[w.heap.size + 1]? = some (.loop (rec (if jump.isNone then .ready else .done) jump)) ∧
          (W3.putObj (w.heap.size + 1) (.loop (rec (if jump.isNone then .ready else .done) jump))).heap[w.heap.size]? = some (.deferred (some [])) := fun jump W3 hk3 => by
        have hl3 := hk3.same _ _ hl2 rfl
        have := run_endRound (P := P) jump hl3
        rw [hrec] at this ⊢
        exact ⟨this, by rw [hrec] at hl3; exact hl3, World.putObj_heap_same (Array.getElem?_eq_some_iff.1 hl3).1, (World.putObj_heap_other (by omega)).trans (hk3.same _ _ hk2 rfl)⟩
      rintro e a3 W3 hp
      cases e with
      | normal =>
        obtain ⟨hk3, hi3⟩ := hp
        obtain ⟨hr, hl3, hl4, hk4⟩ := fin none W3 hk3
        exact ⟨_, _, hr, .inl ⟨rfl, hI.putObj _ hi3 (by omega) hl3 rfl, hl4, hk4⟩⟩
      | ret =>
        obtain ⟨hk3, hi3⟩ := hp
        obtain ⟨hr, hl3, hl4, hk4⟩ := fin (some .ret) W3 hk3
        exact ⟨_, _, hr, .inr ⟨rfl, .ret, (hIx _).putObj _ hi3 (by omega) hl3 rfl, hl4, hk4⟩⟩
      | exit id =>
        obtain ⟨hk3, hi3⟩ := hp
        obtain ⟨hr, hl3, hl4, hk4⟩ := fin (some (.exit id)) W3 hk3
        exact ⟨_, _, hr, .inr ⟨rfl, .exit id, (hIx _).putObj _ hi3 (by omega) hl3 rfl, hl4, hk4⟩⟩
      | goto t =>
        obtain ⟨hk3, hi3⟩ := hp
        obtain ⟨hr, hl3, hl4, hk4⟩ := fin (some (.goto t)) W3 hk3
        exact ⟨_, _, hr, .inr ⟨rfl, .goto t, (hIx _).putObj _ hi3 (by omega) hl3 rfl, hl4, hk4⟩⟩
      | panic ch => exact hp.elim
      | outgrown => exact hp.elim
    · -- BEHIND THE ITERATOR
      rintro e W2 ⟨⟨v, rfl⟩, (⟨xs, hS, hi, hl, hk⟩ | ⟨pre, c, hi, hl, hk⟩)⟩
      · exact ⟨none, _, by have := run_endLoop (P := P) hl (by rw [hrec]; simp); rw [hrec] at this; exact this, hdone _ xs _ (Nat.le_refl _) hS (hI.putObj _ hi (by omega) hl rfl) ((World.putObj_heap_other (by omega)).trans hk)⟩
      · exact ⟨some c, _, by have := run_endLoop (P := P) hl (by rw [hrec]; simp); rw [hrec] at this; exact this, hstop _ c pre _ (Nat.le_refl _) ((hIx c).putObj _ hi (by omega) hl rfl) ((World.putObj_heap_other (by omega)).trans hk)⟩
end Go.Proofs.YtgdpgiegiacepaaDoor
namespace Go.Proofs.YtgdpgiegiacepaaDoor
open Go.RowKit Go.Shelf
open Sec (joinL joinE joinV StrsAt)
attribute [local go_sem] Oper.semAt_some

/-- The sectors' texts, as lists of bytes. -/
def rowsOf (l : List ByteArray) : Rows8 := l.map fun s => s.data.toList
/-- A record as the iterator yields it. -/
def recV (x : Nat × Nat × List UInt8) : Array Value := #[.int .i64 (x.1 : Int), .agg #[.int .i64 (x.2.1 : Int), .string ⟨x.2.2.toArray⟩]]
/-- Texts at a place of a block. -/
def RowAt (W : World) (g o c : Nat) (l : List ByteArray) : Prop := g < W.heap.size ∧ l.length ≤ c ∧ c ≤ maxLen ∧ ∀ i t, l[i]? = some t → W.cell? ⟨g, o + i, none⟩ = some (.string t)
theorem RowAt.below {W W' : World} {g o c : Nat} {l : List ByteArray} (h : RowAt W g o c l) (hB : Below W.heap.size W W') : RowAt W' g o c l :=
  ⟨Nat.lt_of_lt_of_le h.1 hB.size, h.2.1, h.2.2.1, fun i t ht => (hB.cell (p := ⟨g, o + i, none⟩) h.1).trans (h.2.2.2 i t ht)⟩
theorem RowAt.strs {W : World} {g o c u : Nat} {l : List ByteArray} (h : RowAt W g o c l) (hu : u < l.length) : StrsAt W (.slice (some ⟨g, o + u, none⟩) (l.length - u) (c - u)) (l.drop u) := by
  obtain ⟨h1, h2, h3, h4⟩ := h
  refine ⟨_, c - u, by rw [List.length_drop], by rw [List.length_drop]; omega, by omega, fun _ => ⟨g, o + u, rfl, h1, fun i t ht => ?_⟩⟩
  rw [List.getElem?_drop] at ht
  rw [Nat.add_assoc]
  exact h4 _ t ht
theorem rows_drop (l : List ByteArray) (u : Nat) : joinE (l.drop u) = joinL ((rowsOf l).drop u) := by
  unfold joinE rowsOf
  rw [List.map_drop]
theorem slice_from (g o c n u : Nat) (hu : u < n) (hc : n ≤ c) (w : World) : (Instr.slice 38 (.slice (some ⟨g, o, none⟩) n c) (some (.int .i64 (u : Int))) none none).run Tryd.prog w = .ok (.slice (some ⟨g, o + u, none⟩) (n - u) (c - u)) w := by
  have e1 : ¬ n < u := by omega
  have e2 : ¬ c < u := by omega
  have e3 : u ≤ n := by omega
  have e4 : ¬ c = u := by omega
  simp [go_sem, e3, e4]
/-- What the iterator sees. -/
def SeesBank (bb g o c : Nat) (l : List ByteArray) (_pre : List (Nat × Nat × List UInt8)) (W : World) : Prop :=
  Blk W bb 38 #[.slice (some ⟨g, o, none⟩) l.length c] ∧ RowAt W g o c l
set_option maxRecDepth 100000 in
set_option maxHeartbeats 4000000 in
theorem jrecords1_seq (m : Nat) (hm : 1 ≤ m) (bb g o c : Nat) (l : List ByteArray) (hl : l.length ≤ 4096) :
    SeqSteps Fence.wide m Tryd.prog 54 #[.pointer (some ⟨bb, 0, none⟩)] recV (SeesBank bb g o c l) (fun pre x _ => (recs (rowsOf l))[pre.length]? = some x) (fun xs => xs = recs (rowsOf l)) := by
  intro lv J Jx W hG hJ hJx hY h0
  have HG := Lib.hid hG
  have HJ := Lib.hid hJ
  have HJx := Lib.hid hJx
  have HY := Lib.hid hY
  clear hG hJ hJx hY
  have hlr : (rowsOf l).length = l.length := List.length_map ..
  refine callsIn_of_wp Tryd.func54 rfl trivial ?_ rfl
  simp only [Tryd.ntmps54, List.size_toArray, List.length_cons, List.length_nil, Nat.reduceAdd, Nat.reduceSub, Array.replicate_succ, Array.replicate_zero, List.push_toArray, List.append_toArray, List.nil_append, List.cons_append]
  gi_wp2_with fail
  gi_loopw [3, 4] (fun a b wr => ∃ (u la : Nat) (pre : List (Nat × Nat × List UInt8)), a = .int .i64 u ∧ b = .int .i64 la ∧ Hid (Path (rowsOf l) 0 0 pre u la) ∧ J pre wr) (fun a _ _ => l.length - (intOf a).toNat)
  case atStart => exact ⟨0, 0, [], rfl, rfl, .nil _ _, h0⟩
  case round =>
    obtain ⟨u, la, pre, rfl, rfl, hp, hJk⟩ := hrel
    obtain ⟨hbb, hrow⟩ := HG.out pre wr hJk
    have c1 : wr.cell? ⟨bb, 0, none⟩ = some (.slice (some ⟨g, o, none⟩) l.length c) := hbb.cell 0
    have hul : u ≤ l.length := by have := path_to hp.out; rw [hlr] at this; omega
    by_cases hlt : u < l.length
    · have hd1 : decide (u < l.length) = true := decide_eq_true hlt
      have hsl := fun wx => slice_from g o c l.length u hlt hrow.2.1 wx
      have hjn := Sec.Join_any (hrow.strs hlt)
      rw [rows_drop] at hjn
      have hus := fun h => join_used (l := (rowsOf l).drop u) h
      rw [List.length_drop, hlr] at hus
      have hra : Hid (recAt (rowsOf l) u la = if (joinL ((rowsOf l).drop u)).e = 0 ∧ la < (joinL ((rowsOf l).drop u)).number then some (u + (joinL ((rowsOf l).drop u)).used, (joinL ((rowsOf l).drop u)).number, (joinL ((rowsOf l).drop u)).text) else none) := by
        unfold Hid recAt
        by_cases hc : (joinL ((rowsOf l).drop u)).e = 0 ∧ la < (joinL ((rowsOf l).drop u)).number
        · rw [if_pos hc, if_pos ⟨by rw [hlr]; exact hlt, hc⟩]
        · rw [if_neg hc, if_neg (fun k => hc k.2)]
      generalize joinL ((rowsOf l).drop u) = R at hjn hus hra
      obtain ⟨N, T, U, E⟩ := R
      have HJn := Lib.hid (callsIn_wide (n := m - 1) |>.2 hjn)
      unfold joinV at HJn
      dsimp only at hus hra HJn
      clear hjn hrow hbb
      by_cases he : E = 0
      · subst he
        have hus2 := hus rfl
        by_cases hla : la < N
        · obtain ⟨z, hz⟩ : ∃ z, u + U = z := ⟨_, rfl⟩
          have hx : recAt (rowsOf l) u la = some (z, N, T) := by rw [hra.out, if_pos ⟨rfl, hla⟩, hz]
          have hnx := Lib.hid (recs_next hp.out hx)
          have hpn := Lib.hid (path_snoc hp.out hx)
          have dn : decide ((N : Int) ≤ (la : Int)) = false := decide_eq_false (by omega)
          have dn' : decide (N ≤ la) = false := decide_eq_false (by omega)
          have du : decide ((U : Int) < 1) = false := decide_eq_false (by omega)
          have du' : decide (U < 1) = false := decide_eq_false (by omega)
          have hwu : wrap64 ((u : Int) + (U : Int)) = (z : Int) := by rw [← hz]; exact wrap_sum (by omega)
          have Hz := Lib.hid (And.intro hz hus2)
          clear hz
          clear hx hra hus hus2 hla
          gi_wp2_with (refine ⟨trivial, ?_⟩; gi_at_call 55; refine HJn.out.mono ?_; rintro e w2 ⟨rfl, hB2⟩; obtain ⟨fn, tmps, assign, body, hy, hR⟩ := HY.out pre (z, N, T) w2 (HJ.out pre wr w2 hJk hB2) hnx.out; have HR := Lib.hid hR; clear hR; dsimp only [recV] at hy)
          refine HR.out.mono ?_
          rintro e W' (⟨rfl, hJ'⟩ | ⟨rfl, hJ'⟩)
          · gi_wp2
            go_roundw
            case rel => exact ⟨z, N, _, by go_num, rfl, hpn.out, hJ'⟩
            case measure => have := Hz.out; simp [intOf]; omega
          · gi_wp2
            (try simp only [Exit.inBlock, Exit.then])
            refine bodyPost_ret (results_none rfl _ _ _) rfl ?_
            exact ⟨⟨_, rfl⟩, .inr ⟨_, hJ'⟩⟩
        · have hend : recAt (rowsOf l) u la = none := by rw [hra.out, if_neg (fun k => hla k.2)]
          have hre := Lib.hid (recs_end hp.out hend)
          have dn : decide ((N : Int) ≤ (la : Int)) = true := decide_eq_true (by omega)
          have dn' : decide (N ≤ la) = true := decide_eq_true (by omega)
          clear hend hra hus hus2 hla
          gi_wp2_with (refine ⟨trivial, ?_⟩; gi_at_call 55; refine HJn.out.mono ?_; rintro e w2 ⟨rfl, hB2⟩)
          (try simp only [Exit.inBlock, Exit.then])
          refine bodyPost_ret (results_none rfl _ _ _) rfl ?_
          exact ⟨⟨_, rfl⟩, .inl ⟨_, hre.out.symm, HJ.out pre wr w2 hJk hB2⟩⟩
      · have hend : recAt (rowsOf l) u la = none := by rw [hra.out, if_neg (fun k => he k.1)]
        have hre := Lib.hid (recs_end hp.out hend)
        have de : (E == 0) = false := by simpa using he
        have df : (E != 0) = true := by simpa using he
        clear hend hra hus
        gi_wp2_with (refine ⟨trivial, ?_⟩; gi_at_call 55; refine HJn.out.mono ?_; rintro e w2 ⟨rfl, hB2⟩)
        (try simp only [Exit.inBlock, Exit.then])
        refine bodyPost_ret (results_none rfl _ _ _) rfl ?_
        exact ⟨⟨_, rfl⟩, .inl ⟨_, hre.out.symm, HJ.out pre wr w2 hJk hB2⟩⟩
    · have hd1 : decide (u < l.length) = false := decide_eq_false hlt
      have hend : recAt (rowsOf l) u la = none := by
        unfold recAt
        rw [if_neg (fun k => hlt (by rw [← hlr]; exact k.1))]
      have hre := recs_end hp.out hend
      gi_wp2_with fail
      go_end0
      exact ⟨⟨_, rfl⟩, .inl ⟨_, hre.symm, hJk⟩⟩
end Go.Proofs.YtgdpgiegiacepaaDoor
namespace Go.Proofs.YtgdpgiegiacepaaDoor
open Go.RowKit Go.Shelf
attribute [local go_sem] Oper.semAt_some

set_option maxRecDepth 100000 in
set_option maxHeartbeats 1600000 in
theorem jrecords_any (w : World) (A : Option Addr) (n c : Nat) : Calls Tryd.prog 33 #[.slice A n c] w fun e w' => e = .returned (.func (.func 54) #[] #[.pointer (some ⟨w.heap.size, 0, none⟩)]) ∧ Blk w' w.heap.size 38 #[.slice A n c] ∧ Below w.heap.size w w' := by
  go_enter Tryd.func33, Tryd.ntmps33
  go_wp2_with fail
  go_ret
  exact ⟨rfl, Blk.new _ _ _, (Below.refl _ _).alloc (Nat.le_refl _) _⟩
end Go.Proofs.YtgdpgiegiacepaaDoor
