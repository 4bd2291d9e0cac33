/-
  Layer 25 (journal): Records.
  Layer 25 (journal): Numbers.
  A range over a function whose rounds make a variable of their own in memory (RangeSteps' law, the round's beginning made freer); and a drawn region inside a round, by a plain walk of its operations.
-/
import Derived.Test.YtgdpgiegiacepaaDoorG15
import Derived.Deep.RegionHeld
import Derived.OrdersIn
namespace Go.Proofs.YtgdpgiegiacepaaDoor
open Go.RowKit Go.Shelf
attribute [local go_sem] Oper.semAt_some

theorem entCells_at : ∀ (l : List (Nat × ByteArray)) (k : Nat) (e : Nat × ByteArray), l[k]? = some e → (entCells l)[k * 2]? = some (.int .i64 (e.1 : Int)) ∧ (entCells l)[k * 2 + 1]? = some (.string e.2)
  | [], k, e, h => by simp at h
  | x :: r, 0, e, h => by
    simp at h
    subst h
    exact ⟨rfl, rfl⟩
  | x :: r, k + 1, e, h => by
    have ih := entCells_at r k e (by simpa using h)
    have e1 : entCells (x :: r) = .int .i64 (x.1 : Int) :: .string x.2 :: entCells r := rfl
    rw [e1, show (k + 1) * 2 = k * 2 + 1 + 1 by omega, show k * 2 + 1 + 1 + 1 = (k * 2 + 1) + 1 + 1 by omega]
    simpa using ih
section
variable {w : World} {a : DAt} {jb h : Nat} {J : Jrn} {v : Value}
set_option maxRecDepth 100000 in
set_option maxHeartbeats 4000000 in
theorem jRecords_any (kj : JIs w jb a h J v) (hN : J.l.length ≤ 1048576) :
    Calls Tryd.prog 15 #[.pointer (some ⟨jb, 0, none⟩)] w fun e w' => ∃ u, e = .returned u ∧ NewTexts w w' u (J.l.map Prod.snd) := by
  obtain ⟨i0, hi, hz0, hz1, hz2⟩ := info_parts infoString
  obtain ⟨L, hL⟩ : ∃ L, J.l = L := ⟨_, rfl⟩
  have hrow := kj.row
  rw [hL] at hN hrow ⊢
  obtain ⟨A, c, rfl⟩ := Sec.ownsRow_slice hrow
  have c5 : w.cell? ⟨jb, 5, none⟩ = some (.slice A L.length c) := kj.blk.cell 5
  have Hr := Lib.hid hrow
  have Hjb := Lib.hid kj.lt
  clear kj hrow hL
  go_enter Tryd.func15, Tryd.ntmps15
  go_wp2_with fail
  go_loopw [3, 11] (fun u i wr => ∃ (k : Nat) (u0 : Value), u0 = u ∧ k ≤ L.length ∧ i = .int .i64 k ∧ wr.ownsRow w.heap.size 9 1 u0 k (strCells ((L.map Prod.snd).take k)) ∧ (u0 = .slice none 0 0 ↔ k = 0) ∧ Below w.heap.size w wr) (fun _ i _ => L.length - (intOf i).toNat)
  case atStart => exact ⟨0, _, rfl, Nat.zero_le _, rfl, World.ownsRow_nil _ _ _ _, by simp, Below.refl _ _⟩
  case round =>
    obtain ⟨k, u, rfl, hk, rfl, hown, hnil, hB⟩ := hrel
    have hBs := hB.size
    have hwk : wrap64 ((k : Int) + 1) = (k : Int) + 1 := by unfold wrap64; omega
    by_cases hkl : k < L.length
    · have hd1 : decide (k < L.length) = true := decide_eq_true hkl
      obtain ⟨e, he⟩ : ∃ e, L[k]? = some e := ⟨_, List.getElem?_eq_getElem hkl⟩
      obtain ⟨g, rfl⟩ : ∃ g, A = some ⟨g, 0, none⟩ := by
        rcases Hr.out.2 with ⟨_, h1⟩ | ⟨g, _, _, h0, _⟩
        · omega
        · cases h0; exact ⟨g, rfl⟩
      obtain ⟨q0, q1⟩ := entCells_at L k e he
      have hrw := ownsRow_below Hr.out hB (Nat.le_refl _)
      have y0 : wr.cell? ⟨g, k * 2, none⟩ = some (.int .i64 (e.1 : Int)) := (World.ownsRow.cellAt hrw (k * 2) (by omega)).trans q0
      have y1 : wr.cell? ⟨g, k * 2 + 1, none⟩ = some (.string e.2) := (World.ownsRow.cellAt hrw (k * 2 + 1) (by omega)).trans q1
      have hle : Hid (k + 1 ≤ maxLen) := by unfold Hid maxLen; omega
      have htk : Hid ((L.map Prod.snd).take (k + 1) = (L.map Prod.snd).take k ++ [e.2]) := by
        unfold Hid
        rw [List.take_add_one]; simp [he]
      clear he q0 q1 hrw
      go_wp2_with (at_builtin; refine wpList_append_own _ rfl _ _ 38 rfl w.heap.size 9 i0 _ 1 16 Tryd.underlying38 hi hz0 hz1 hz2 rfl (by decide) _ k (strCells ((L.map Prod.snd).take k)) rfl ((hown.alloc _).alloc _) ⟨wr.heap.size + 1, 0, none⟩ 1 1 [.string e.2] rfl rfl ?c1 ?c2 ?c3 ?c4 ?c5 ?_)
      case c1 =>
        have := news_cells (Blk.new (wr.alloc (.cells #[.int .i64 (e.1 : Int), .string e.2] 62)) 9 #[.string e.2])
        rw [World.size_alloc] at this
        exact this
      case c2 => simp [Value.oneCell']
      case c3 => exact hle.out
      case c4 => omega
      case c5 => simp; omega
      intro v' w3 hown3 hg3 hn3
      have hB3 : Below w.heap.size w w3 := (((hB.alloc (by omega) _).alloc (by simp; omega) _)).grown hg3 (by simp; omega) (fun g e => (hown.lt g e).1)
      have hnil3 : v' = .slice none 0 0 ↔ k + 1 = 0 := ⟨fun e => (hn3 e).elim, fun e => by omega⟩
      have hown4 : w3.ownsRow w.heap.size 9 1 v' (k + 1) (strCells ((L.map Prod.snd).take (k + 1))) := by
        rw [htk.out, strCells_snoc]; exact hown3
      clear hg3 hn3 hown3 hown hnil
      go_wp2_with fail
      go_roundw
      case rel => exact ⟨k + 1, _, rfl, by omega, by go_num, hown4, hnil3, hB3⟩
      case measure => exact meas_up hkl
    · obtain rfl : k = L.length := by omega
      have hd1 : decide (L.length < L.length) = false := decide_eq_false hkl
      go_wp2_with fail
      go_ret
      have hn4 := hnil.trans (show L.length = 0 ↔ L.map Prod.snd = [] by simp)
      rw [List.take_of_length_le (by simp)] at hown
      exact ⟨_, rfl, by simpa using hown, hn4, hB⟩
end
end Go.Proofs.YtgdpgiegiacepaaDoor
namespace Go.Proofs.YtgdpgiegiacepaaDoor
open Go.RowKit Go.Shelf
attribute [local go_sem] Oper.semAt_some

section
variable {w : World} {a : DAt} {jb h : Nat} {J : Jrn} {v : Value}
set_option maxRecDepth 100000 in
set_option maxHeartbeats 4000000 in
theorem jNumbers_any (kj : JIs w jb a h J v) (hN : J.l.length ≤ 1048576) :
    Calls Tryd.prog 23 #[.pointer (some ⟨jb, 0, none⟩)] w fun e w' => ∃ u, e = .returned u ∧ NewInts w w' u (J.l.map Prod.fst) := by
  obtain ⟨i0, hi, hz0, hz1, hz2⟩ := info_parts infoInt
  obtain ⟨L, hL⟩ : ∃ L, J.l = L := ⟨_, rfl⟩
  have hrow := kj.row
  rw [hL] at hN hrow ⊢
  obtain ⟨A, c, rfl⟩ := Sec.ownsRow_slice hrow
  have c5 : w.cell? ⟨jb, 5, none⟩ = some (.slice A L.length c) := kj.blk.cell 5
  have Hr := Lib.hid hrow
  have Hjb := Lib.hid kj.lt
  clear kj hrow hL
  go_enter Tryd.func23, Tryd.ntmps23
  go_wp2_with fail
  go_loopw [3, 11] (fun u i wr => ∃ (k : Nat) (u0 : Value), u0 = u ∧ k ≤ L.length ∧ i = .int .i64 k ∧ wr.ownsRow w.heap.size 3 1 u0 k (intCells ((L.map Prod.fst).take k)) ∧ (u0 = .slice none 0 0 ↔ k = 0) ∧ Below w.heap.size w wr) (fun _ i _ => L.length - (intOf i).toNat)
  case atStart => exact ⟨0, _, rfl, Nat.zero_le _, rfl, World.ownsRow_nil _ _ _ _, by simp, Below.refl _ _⟩
  case round =>
    obtain ⟨k, u, rfl, hk, rfl, hown, hnil, hB⟩ := hrel
    have hBs := hB.size
    have hwk : wrap64 ((k : Int) + 1) = (k : Int) + 1 := by unfold wrap64; omega
    by_cases hkl : k < L.length
    · have hd1 : decide (k < L.length) = true := decide_eq_true hkl
      obtain ⟨e, he⟩ : ∃ e, L[k]? = some e := ⟨_, List.getElem?_eq_getElem hkl⟩
      obtain ⟨g, rfl⟩ : ∃ g, A = some ⟨g, 0, none⟩ := by
        rcases Hr.out.2 with ⟨_, h1⟩ | ⟨g, _, _, h0, _⟩
        · omega
        · cases h0; exact ⟨g, rfl⟩
      obtain ⟨q0, q1⟩ := entCells_at L k e he
      have hrw := ownsRow_below Hr.out hB (Nat.le_refl _)
      have y0 : wr.cell? ⟨g, k * 2, none⟩ = some (.int .i64 (e.1 : Int)) := (World.ownsRow.cellAt hrw (k * 2) (by omega)).trans q0
      have y1 : wr.cell? ⟨g, k * 2 + 1, none⟩ = some (.string e.2) := (World.ownsRow.cellAt hrw (k * 2 + 1) (by omega)).trans q1
      have hle : Hid (k + 1 ≤ maxLen) := by unfold Hid maxLen; omega
      have htk : Hid ((L.map Prod.fst).take (k + 1) = (L.map Prod.fst).take k ++ [e.1]) := by
        unfold Hid
        rw [List.take_add_one]; simp [he]
      clear he q0 q1 hrw
      go_wp2_with (at_builtin; refine wpList_append_own _ rfl _ _ 28 rfl w.heap.size 3 i0 _ 1 8 Tryd.underlying28 hi hz0 hz1 hz2 rfl (by decide) _ k (intCells ((L.map Prod.fst).take k)) rfl ((hown.alloc _).alloc _) ⟨wr.heap.size + 1, 0, none⟩ 1 1 [.int .i64 (e.1 : Int)] rfl rfl ?c1 ?c2 ?c3 ?c4 ?c5 ?_)
      case c1 =>
        have := news_cells (Blk.new (wr.alloc (.cells #[.int .i64 (e.1 : Int), .string e.2] 62)) 3 #[.int .i64 (e.1 : Int)])
        rw [World.size_alloc] at this
        exact this
      case c2 => simp [Value.oneCell']
      case c3 => exact hle.out
      case c4 => omega
      case c5 => simp; omega
      intro v' w3 hown3 hg3 hn3
      have hB3 : Below w.heap.size w w3 := (((hB.alloc (by omega) _).alloc (by simp; omega) _)).grown hg3 (by simp; omega) (fun g e => (hown.lt g e).1)
      have hnil3 : v' = .slice none 0 0 ↔ k + 1 = 0 := ⟨fun e => (hn3 e).elim, fun e => by omega⟩
      have hown4 : w3.ownsRow w.heap.size 3 1 v' (k + 1) (intCells ((L.map Prod.fst).take (k + 1))) := by
        rw [htk.out, intCells_snoc]; exact hown3
      clear hg3 hn3 hown3 hown hnil
      go_wp2_with fail
      go_roundw
      case rel => exact ⟨k + 1, _, rfl, by omega, by go_num, hown4, hnil3, hB3⟩
      case measure => exact meas_up hkl
    · obtain rfl : k = L.length := by omega
      have hd1 : decide (L.length < L.length) = false := decide_eq_false hkl
      go_wp2_with fail
      go_ret
      have hn4 := hnil.trans (show L.length = 0 ↔ L.map Prod.fst = [] by simp)
      rw [List.take_of_length_le (by simp)] at hown
      exact ⟨_, rfl, by simpa using hown, hn4, hB⟩
end
end Go.Proofs.YtgdpgiegiacepaaDoor
namespace Go.Proofs.YtgdpgiegiacepaaDoor
open Go.RowKit
section
variable {F : Fence} {n : Nat} {P : Program}
theorem wpIn_rangeFunc_steps2 {α : Type} {g : Operand} {ps : Array Tmp} {assign body : Code} {Q : Exit → Act → World → Prop} {a : Act} {w : World}
    (hro : F.round = none) (h1 : 1 ≤ n) {gf : Nat} {lb : Array Value} (hg : a.eval g = .func (.func gf) #[] lb) (hFg : F.fn gf) (eg : ∀ args w, (callFunc gf args).run P w = .ok (.enter gf args) w)
    {encs : α → Array Value} {G : List α → World → Prop} {Nx : List α → α → World → Prop} {S : List α → Prop} (hseq : SeqSteps F (n - 1) P gf lb encs G Nx S)
    (hps : ∀ x, (encs x).size = ps.size)
    (I : List α → World → Prop) (Ix : Code → List α → World → Prop) (hI : OwnFrom w.heap.size I) (hIx : ∀ c, OwnFrom w.heap.size (Ix c)) (hG : ∀ pre W1, I pre W1 → G pre W1) (hN : ∀ pre x, OwnFrom w.heap.size (fun (_ : Unit) W => Nx pre x W)) (h0 : I [] w) (As : List α → α → Act → World → Prop) (hAs : ∀ pre x a₁, OwnFrom w.heap.size (fun (_ : Unit) W => As pre x a₁ W))
    (hassign : ∀ (l : Nat) (pre : List α) (x : α) (W : World) (K : Act → World → Prop), w.heap.size ≤ W.heap.size → I pre W → (∀ a₁ W1, As pre x a₁ W1 → Below W.heap.size W W1 → K a₁ W1) →
      assign.wpIn (F.inRound l) (n - 1 - 1) P (Exit.then K (fun _ _ _ => False)) { tmps := (ps.zip (encs x)).foldl (fun t (p, v) => t.setIfInBounds p v) a.tmps, defers := [] } W)
    (hbody : ∀ (l : Nat) (pre : List α) (x : α) (a₁ : Act) (W : World), w.heap.size ≤ W.heap.size → I pre W → Nx pre x W → As pre x a₁ W → body.wpIn (F.inRound l) (n - 1 - 1) P (goesOr I Ix (pre ++ [x]) W) a₁ W)
    (hdone : ∀ (D : Nat) (xs : List α) (W : World), w.heap.size ≤ D → S xs → I xs W → W.heap[D]? = some (.deferred (some [])) → Q .normal { a with defers := { target := .collected D, args := #[] } :: a.defers } W)
    (hstop : ∀ (D : Nat) (c : Code) (pre : List α) (W : World), w.heap.size ≤ D → Ix c pre W → W.heap[D]? = some (.deferred (some [])) → c.wpIn F n P Q { a with defers := { target := .collected D, args := #[] } :: a.defers } W) :
    (Code.rangeFunc g ps assign body).wpIn F n P Q a w := by
  refine wpIn_rangeFunc ?_
  intro fn hfn
  rw [hro]
  obtain ⟨rec, hrec⟩ : ∃ rec : LoopState → Option Code → Loop, rec = fun st pe => { state := st, pending := pe, fn, tmps := a.tmps, params := ps, assign, body, defers := w.heap.size } := ⟨_, rfl⟩
  obtain ⟨W1, hW1⟩ : ∃ W1, (w.alloc (.deferred (some []))).alloc (.loop (rec .ready none)) = W1 := ⟨_, rfl⟩
  have hL1 : W1.heap[w.heap.size + 1]? = some (.loop (rec .ready none)) := by
    rw [← hW1]; have := World.alloc_heap_new (w.alloc (.deferred (some []))) (.loop (rec .ready none)); rwa [World.size_alloc] at this
  have hK1 : W1.heap[w.heap.size]? = some (.deferred (some [])) := by
    rw [← hW1]; exact (Below.heap_alloc _ _ _ (by simp)).trans (World.alloc_heap_new w _)
  have hI1 : I [] W1 := by rw [← hW1]; exact hI.alloc _ (hI.alloc _ h0)
  have bel : ∀ {A B : World}, Below A.heap.size A B → A.grownBy B none := fun hB => ⟨hB.os, hB.tape, hB.output, hB.size, fun k hk _ => hB.block k hk⟩
  refine ⟨w.heap.size + 1, [{ target := .collected w.heap.size, args := #[] }], W1, { target := .fn (.func gf) lb, args := #[.func (.yield (w.heap.size + 1)) #[] #[]] }, W1, gf,
    #[.func (.yield (w.heap.size + 1)) #[] #[]] ++ lb, W1, ?_, ?_, ?_, ?_, fun _ => h1, ?_⟩
  · rw [← hW1, hrec]; exact run_enterLoop_outer _ _ _ _ _
  · simp only [resolve, hg]
    simp [go_sem]
  · intro f' hf'; simp [Target.leads] at hf'; subst hf'; exact hFg
  · simp [invoke, go_sem, eg]
  · refine (hseq (w.heap.size + 1)
      (fun pre W => I pre W ∧ W.heap[w.heap.size + 1]? = some (.loop (rec .ready none)) ∧ W.heap[w.heap.size]? = some (.deferred (some [])))
      (fun pre W => ∃ c, Ix c pre W ∧ W.heap[w.heap.size + 1]? = some (.loop (rec .done (some c))) ∧ W.heap[w.heap.size]? = some (.deferred (some [])))
      W1 (fun pre W hJ => hG pre W hJ.1)
      (fun pre A B hJ hB => ⟨hI pre A B none hJ.1 (bel hB) (fun _ e => by cases e), (hB.block _ (Array.getElem?_eq_some_iff.1 hJ.2.1).1).trans hJ.2.1, (hB.block _ (Array.getElem?_eq_some_iff.1 hJ.2.2).1).trans hJ.2.2⟩)
      (fun pre A B hJ hB => by
        obtain ⟨c, hc, hl, hk⟩ := hJ
        exact ⟨c, hIx c pre A B none hc (bel hB) (fun _ e => by cases e), (hB.block _ (Array.getElem?_eq_some_iff.1 hl).1).trans hl, (hB.block _ (Array.getElem?_eq_some_iff.1 hk).1).trans hk⟩)
      ?_ ⟨hI1, hL1, hK1⟩).mono ?_
    · -- ONE ROUND
      rintro pre x W ⟨hi, hl, hk⟩ hnx
      have hlt : w.heap.size + 1 < W.heap.size := (Array.getElem?_eq_some_iff.1 hl).1
      have hy := run_yield (P := P) (args := encs x) hl (by rw [hrec]; exact hps x)
      rw [hrec] at hy
      refine ⟨fn, _, assign, body, hy, roundIn_of_wpIn hfn (hassign _ pre x W _ (by omega) hi (fun a₁ Wa hAa hBa => ?_))⟩
      have hla := (hBa.block _ hlt).trans hl
      have hka := (hBa.block _ (Array.getElem?_eq_some_iff.1 hk).1).trans hk
      have hia := hI pre W Wa none hi (bel hBa) (fun _ e => by cases e)
      have hna := hN pre x () W Wa none hnx (bel hBa) (fun _ e => by cases e)
      have hlta : w.heap.size + 1 < Wa.heap.size := (Array.getElem?_eq_some_iff.1 hla).1
      refine ⟨_, run_beginRound hla (by rw [hrec]), ?_⟩
      have hl2 : (Wa.putObj (w.heap.size + 1) (.loop { rec .ready none with state := .busy })).heap[w.heap.size + 1]? = some (.loop { rec .ready none with state := .busy }) := World.putObj_heap_same hlta
      have hk2 : (Wa.putObj (w.heap.size + 1) (.loop { rec .ready none with state := .busy })).heap[w.heap.size]? = some (.deferred (some [])) := (World.putObj_heap_other (by omega)).trans hka
      have hsz : w.heap.size ≤ (Wa.putObj (w.heap.size + 1) (.loop { rec .ready none with state := .busy })).heap.size := Nat.le_of_lt (Array.getElem?_eq_some_iff.1 hk2).1
      refine wpIn_mono (hbody _ pre x a₁ _ hsz (hI.putObj _ hia (by omega) hla rfl) ((hN pre x).putObj (s := ()) _ hna (by omega) hla rfl) ((hAs pre x a₁).putObj (s := ()) _ hAa (by omega) hla rfl)) ?_
      have fin : ∀ (jump : Option Code) (W3 : World), KeepsOthers (Wa.putObj (w.heap.size + 1) (.loop { rec .ready none with state := .busy })) W3 →
          (Instr.endRound (w.heap.size + 1) jump).run P W3 = .ok (.bool jump.isNone) (W3.putObj (w.heap.size + 1) (.loop (rec (if jump.isNone then .ready else .done) jump))) ∧
          W3.heap[w.heap.size + 1]? = some (.loop { rec .ready none with state := .busy }) ∧
          (W3.putObj (w.heap.size + 1) (.loop (rec (if jump.isNone then .ready else .done) jump))).heap[w.heap.size + 1]? = some (.loop (rec (if jump.isNone then .ready else .done) jump)) ∧
          (W3.putObj (w.heap.size + 1) (.loop (rec (if jump.isNone then .ready else .done) jump))).heap[w.heap.size]? = some (.deferred (some [])) := fun jump W3 hk3 => by
        have hl3 := hk3.same _ _ hl2 rfl
        have := run_endRound (P := P) jump hl3
        rw [hrec] at this ⊢
        exact ⟨this, by rw [hrec] at hl3; exact hl3, World.putObj_heap_same (Array.getElem?_eq_some_iff.1 hl3).1, (World.putObj_heap_other (by omega)).trans (hk3.same _ _ hk2 rfl)⟩
      rintro e a3 W3 hp
      cases e with
      | normal =>
        obtain ⟨hk3, hi3⟩ := hp
        obtain ⟨hr, hl3, hl4, hk4⟩ := fin none W3 hk3
        exact ⟨_, _, hr, .inl ⟨rfl, hI.putObj _ hi3 (by omega) hl3 rfl, hl4, hk4⟩⟩
      | ret =>
        obtain ⟨hk3, hi3⟩ := hp
        obtain ⟨hr, hl3, hl4, hk4⟩ := fin (some .ret) W3 hk3
        exact ⟨_, _, hr, .inr ⟨rfl, .ret, (hIx _).putObj _ hi3 (by omega) hl3 rfl, hl4, hk4⟩⟩
      | exit id =>
        obtain ⟨hk3, hi3⟩ := hp
        obtain ⟨hr, hl3, hl4, hk4⟩ := fin (some (.exit id)) W3 hk3
        exact ⟨_, _, hr, .inr ⟨rfl, .exit id, (hIx _).putObj _ hi3 (by omega) hl3 rfl, hl4, hk4⟩⟩
      | goto t =>
        obtain ⟨hk3, hi3⟩ := hp
        obtain ⟨hr, hl3, hl4, hk4⟩ := fin (some (.goto t)) W3 hk3
        exact ⟨_, _, hr, .inr ⟨rfl, .goto t, (hIx _).putObj _ hi3 (by omega) hl3 rfl, hl4, hk4⟩⟩
      | panic ch => exact hp.elim
      | outgrown => exact hp.elim
    · -- BEHIND THE ITERATOR
      rintro e W2 ⟨⟨v, rfl⟩, (⟨xs, hS, hi, hl, hk⟩ | ⟨pre, c, hi, hl, hk⟩)⟩
      · exact ⟨none, _, by have := run_endLoop (P := P) hl (by rw [hrec]; simp); rw [hrec] at this; exact this, hdone _ xs _ (Nat.le_refl _) hS (hI.putObj _ hi (by omega) hl rfl) ((World.putObj_heap_other (by omega)).trans hk)⟩
      · exact ⟨some c, _, by have := run_endLoop (P := P) hl (by rw [hrec]; simp); rw [hrec] at this; exact this, hstop _ c pre _ (Nat.le_refl _) ((hIx c).putObj _ hi (by omega) hl rfl) ((World.putObj_heap_other (by omega)).trans hk)⟩
end

section
variable {P : Program} {ops : Array Oper} {Q : Exit → Act → World → Prop} {l n : Nat} {md : Region.Mode}
/-- No operation of the region is a defer. -/
def noDefer (ops : Array Oper) : Bool := ops.toList.all fun o => match o.op with | .defer _ => false | _ => true
theorem noDefer_at (h : noDefer ops = true) {i : Nat} {o : Oper} (hi : ops[i]? = some o) : ∀ c, o.op ≠ .defer c := by
  intro c e
  have hm : o ∈ ops.toList := by
    rw [← Array.getElem?_toList] at hi
    exact List.mem_of_getElem? hi
  have := List.all_eq_true.1 h o hm
  rw [e] at this
  cases this
theorem rowsIn_of {row : String} {args : Array Value} {w : World} {R : Value → World → Prop} {m : Nat} (h : Rows P row args w R) : RowsIn (Fence.wide.inRound l) m P row args w R :=
  fun c cs _ => let ⟨v, w', r, s⟩ := h c cs; ⟨v, w', r, stepsIn_wide.2 s⟩
theorem wpOp_round (hd : noDefer ops = true) (hQ : ¬ LetsOut Q) {i : Nat} {K K' : Act → World → Prop} {a : Act} {w : World} (hk : ∀ a w, K a w → K' a w) (h : wpOp P ops Q i K a w) : wpOpIn (Fence.wide.inRound l) n P ops Q i K' a w := by
  unfold wpOp at h
  unfold wpOpIn
  cases ho : ops[i]? with
  | none =>
    simp only [ho] at h ⊢
    exact hk _ _ h
  | some o =>
    simp only [ho] at h ⊢
    by_cases hw : Region.wanted o (yielded ops a.tmps) = true
    · rw [if_pos hw] at h ⊢
      have h := h.resolve_right (fun k => hQ k.2)
      refine ⟨fun _ _ => trivial, ?_⟩
      rw [Oper.semAt_eq _ _ _ (noDefer_at hd ho)]
      unfold Oper.wp at h
      generalize (execOp a.eval o).run P w = r at h ⊢
      cases r with
      | ok x w' =>
        cases x with
        | value v => exact hk _ _ h
        | skip => exact hk _ _ h
        | defer d => exact hk _ _ h
        | enter f args =>
          refine ⟨fun k => by simp [Fence.wide] at k, CallsIn.inRound l (callsIn_wide.2 (Calls.mono h ?_))⟩
          rintro e w'' he
          cases e <;> first | exact hk _ _ he | exact he
        | row r args => exact ⟨fun k => by simp [Fence.wide] at k, (rowsIn_of h).mono (fun _ _ he => hk _ _ he)⟩
        | _ => exact h.elim
      | halt x w' => cases x <;> exact h
    · rw [if_neg hw] at h ⊢
      exact ⟨fun _ _ => trivial, hk _ _ h⟩
theorem wpAny_round (hd : noDefer ops = true) (hQ : ¬ LetsOut Q) : ∀ (fuel : Nat) (listed : Array Bool) (a : Act) (w : World), wpAny P md ops Q fuel listed a w → wpAnyIn (Fence.wide.inRound l) n P md ops Q fuel listed a w
  | 0, _, _, _, h => h
  | fuel + 1, _, _, _, h => ⟨h.1, fun i hi => wpOp_round hd hQ (fun a w => wpAny_round hd hQ fuel _ a w) (h.2 i hi)⟩
/-- A drawn region in a round, walked by OrdersHeld's moves. -/
theorem region_round {S : World → Prop} {id : Nat} {a : Act} {w : World} (hm : P.follows .mixedOrders = true) (hd : noDefer ops = true) (hQ : ¬ LetsOut Q) (hS : S w.drew)
    (h : S w.drew → wpAnyH P .any ops Q S ops.size (Array.replicate ops.size false) a w.drew) : (Code.region id ops true).wpIn (Fence.wide.inRound l) n P Q a w :=
  wpIn_region_any hm (wpAny_round hd hQ _ _ _ _ (wpAny_of_held _ _ _ _ (h hS)))
end
end Go.Proofs.YtgdpgiegiacepaaDoor
