/-
  The walks of layer 24 (sector): Count, Pack and Open at every argument.
  Layer 25 (journal): the journal in memory; put.
  Layer 25 (journal): the sectors of a record are read again; put.
  Layer 23 (device): Clone.
-/
import Derived.Test.YtgdpgiegiacepaaDoorG11
import Derived.Test.YtgdpgiegiacepaaDoorJsW5
import Derived.Test.YtgdpgiegiacepaaDoorG10
import Derived.Test.YtgdpgiegiacepaaDoorG7
import Derived.Deep.RegionHeld3
namespace Go.Proofs.YtgdpgiegiacepaaDoor.Sec
open Go.RowKit Go.Shelf
attribute [local go_sem] Oper.semAt_some

/-- What Open answers. -/
def openE (s : ByteArray) : Value × Int :=
  if s.size = 64 then
    match openL s.data.toList with
    | some p => (partVal p.number p.part p.left ⟨p.text.toArray⟩, 0)
    | none => (partVal 0 0 0 ⟨#[]⟩, 7)
  else (partVal 0 0 0 ⟨#[]⟩, 1)
theorem ext_list (s : ByteArray) (a b : Nat) : (s.extract a b).data.toList = (s.data.toList.drop a).take (b - a) := by
  rw [ByteArray.data_extract, Array.toList_extract, List.extract_eq_take_drop]
theorem toList_data (s : ByteArray) : s.toList = s.data.toList := ByteArray.toList_eq s
theorem ext_mk (s : ByteArray) (a b : Nat) : s.extract a b = ⟨((s.data.toList.drop a).take (b - a)).toArray⟩ := by
  rw [← ext_list]
theorem openL_ok {s : ByteArray} {N P L : Nat} (h : Cut s N P L) : openL s.data.toList = if okB s N P L = true then some ⟨N, P, L, ((s.extract 12 56).extract 0 (min L 44)).data.toList⟩ else none := by
  have hsz : s.data.toList.length = 64 := by rw [Array.length_toList]; exact h.size
  have e1 : s.data.toList.take 8 = (s.extract 0 8).data.toList := by rw [ext_list]; rfl
  have e2 : s.data.toList.drop 56 = (s.extract 56 64).data.toList := by rw [ext_list, List.take_of_length_le (by rw [List.length_drop]; omega)]
  have e3 : (s.data.toList.drop 8).take 2 = (s.extract 8 10).data.toList := by rw [ext_list]
  have e4 : (s.data.toList.drop 10).take 2 = (s.extract 10 12).data.toList := by rw [ext_list]
  have e5 : (s.data.toList.drop (12 + min L 44)).take (44 - min L 44) = ((s.extract 12 56).extract (min L 44) 44).data.toList := by
    rw [ext_list, ext_list, List.drop_take, List.drop_drop, List.take_take]
    congr 1
    omega
  have e6 : (s.data.toList.drop 12).take (min L 44) = ((s.extract 12 56).extract 0 (min L 44)).data.toList := by
    rw [ext_list, ext_list, List.drop_zero, List.take_take]
    congr 1
    omega
  unfold openL
  rw [e1, e2, e3, e4, h.num, h.part, h.left, e5, e6]
  unfold okB
  rw [toList_data, toList_data]
  have hiff : ((s.extract 0 8).data.toList = (s.extract 56 64).data.toList ∧ 1 ≤ N ∧ N ≤ mostN ∧ 44 * P + L ≤ 8000 ∧ (0 < P → 0 < L) ∧ (((s.extract 12 56).extract (min L 44) 44).data.toList.all fun x => x == 0) = true) ↔
      (((s.extract 0 8).data.toList == (s.extract 56 64).data.toList) && (decide (1 ≤ N) && (decide (N ≤ mostN) && (decide (P * 44 + L ≤ 8000) && ((decide (P = 0) || decide (0 < L)) && ((s.extract 12 56).extract (min L 44) 44).data.toList.all (· == 0)))))) = true := by
    simp only [Bool.and_eq_true, Bool.or_eq_true, decide_eq_true_eq, beq_iff_eq]
    constructor
    · rintro ⟨a, b, c, d, e, f⟩
      exact ⟨a, b, c, by omega, by omega, f⟩
    · rintro ⟨a, b, c, d, e, f⟩
      exact ⟨a, b, c, by omega, by omega, f⟩
  by_cases hc : (s.extract 0 8).data.toList = (s.extract 56 64).data.toList ∧ 1 ≤ N ∧ N ≤ mostN ∧ 44 * P + L ≤ 8000 ∧ (0 < P → 0 < L) ∧ (((s.extract 12 56).extract (min L 44) 44).data.toList.all fun x => x == 0) = true
  · rw [if_pos hc, if_pos (hiff.1 hc)]
  · rw [if_neg hc, if_neg (fun h => hc (hiff.2 h))]
theorem cut_of {s : ByteArray} (hs : s.size = 64) : ∃ N P L, Cut s N P L := ⟨getL (s.extract 0 8).data.toList, getL (s.extract 8 10).data.toList, getL (s.extract 10 12).data.toList, hs, rfl, rfl, rfl⟩
theorem open_any (s : ByteArray) (w : World) : Calls Tryd.prog 70 #[.string s] w fun e w' => e = .returned (.tuple #[(openE s).1, .int .i64 (openE s).2]) ∧ Below w.heap.size w w' := by
  unfold openE
  by_cases hs : s.size = 64
  · rw [if_pos hs]
    obtain ⟨N, P, L, hc⟩ := cut_of hs
    rw [openL_ok hc]
    refine (open_x s N P L hc w).mono ?_
    rintro e w' ⟨rfl, hB⟩
    refine ⟨?_, hB⟩
    unfold openA openB
    split <;> rfl
  · rw [if_neg hs]
    exact open_size s w hs

/-- What Pack answers. -/
def packE (number : Int) (rec : ByteArray) : List ByteArray × Int :=
  if number < 1 ∨ 4611686018427387904 < number then ([], 1) else if 8000 < rec.size then ([], 2) else ((List.range (countN rec.size)).map (secText number.toNat rec), 0)
theorem newTexts_nil {w w' : World} (h : Below w.heap.size w w') : NewTexts w w' (.slice none 0 0) [] := ⟨World.ownsRow_nil _ _ _ _, by simp, h⟩
set_option maxRecDepth 100000 in
set_option maxHeartbeats 4000000 in
theorem pack_any (w : World) (number : Int) (rec : ByteArray) :
    Calls Tryd.prog 43 #[.int .i64 number, .string rec] w fun e w' => ∃ v, e = .returned (.tuple #[v, .int .i64 (packE number rec).2]) ∧ NewTexts w w' v (packE number rec).1 := by
  unfold packE
  by_cases h1 : number < 1
  · rw [if_pos (.inl h1)]
    have d1 : decide (number < 1) = true := decide_eq_true h1
    go_enter Tryd.func43, Tryd.ntmps43
    go_wp2_with fail
    exact bodyPost_ret (v := .tuple #[.slice none 0 0, .int .i64 1]) (results_list (p := 4) (q := 5) rfl _ _ w.heap.size (.slice none 0 0) rfl ((Blk.new w 38 #[.slice none 0 0]).cell 0)) rfl ⟨_, rfl, newTexts_nil ((Below.refl _ _).alloc (Nat.le_refl _) _)⟩
  have d1 : decide (number < 1) = false := decide_eq_false h1
  by_cases h2 : 4611686018427387904 < number
  · rw [if_pos (.inr h2)]
    have d2 : decide (4611686018427387904 < number) = true := decide_eq_true h2
    go_enter Tryd.func43, Tryd.ntmps43
    go_wp2_with fail
    exact bodyPost_ret (v := .tuple #[.slice none 0 0, .int .i64 1]) (results_list (p := 4) (q := 5) rfl _ _ w.heap.size (.slice none 0 0) rfl ((Blk.new w 38 #[.slice none 0 0]).cell 0)) rfl ⟨_, rfl, newTexts_nil ((Below.refl _ _).alloc (Nat.le_refl _) _)⟩
  have d2 : decide (4611686018427387904 < number) = false := decide_eq_false h2
  rw [if_neg (by omega)]
  by_cases h3 : 8000 < rec.size
  · rw [if_pos h3]
    have d3 : decide (8000 < (rec.size : Int)) = true := decide_eq_true (by omega)
    go_enter Tryd.func43, Tryd.ntmps43
    go_wp2_with fail
    exact bodyPost_ret (v := .tuple #[.slice none 0 0, .int .i64 2]) (results_list (p := 4) (q := 5) rfl _ _ w.heap.size (.slice none 0 0) rfl ((Blk.new w 38 #[.slice none 0 0]).cell 0)) rfl ⟨_, rfl, newTexts_nil ((Below.refl _ _).alloc (Nat.le_refl _) _)⟩
  · rw [if_neg h3]
    obtain ⟨n, rfl⟩ := Int.eq_ofNat_of_zero_le (show 0 ≤ number by omega)
    have := pack_in w n rec (by omega) (by unfold mostN; omega) (by omega)
    simpa using this
end Go.Proofs.YtgdpgiegiacepaaDoor.Sec
namespace Go.Proofs.YtgdpgiegiacepaaDoor
open Go.RowKit Go.Shelf
attribute [local go_sem] Oper.semAt_some

section
variable {d b g sb sc fb fc : Nat} {D : Dev}
/-- A store into a block of another kind leaves the device. -/
theorem isDev_past {W W' : World} {k : Nat} {t : TypeId} {cs : Array Value} (h : IsDev W d b g sb sc fb fc D) (hk : Blk W k t cs) (ht : t ≠ 68 ∧ t ≠ 101 ∧ t ≠ 9 ∧ t ≠ 4 ∧ t ≠ 118) (hg : W.grownBy W' (some k)) : IsDev W' d b g sb sc fb fc D := by
  obtain ⟨cap, cur, m1, m2, _⟩ := h.mem.body
  obtain ⟨t1, t2, t3, t4, t5⟩ := ht
  refine ⟨h.blk.grown hg (fun e => hk.ne_ h.blk t1 (by cases e; rfl)), h.mem.grown hg (fun e => hk.ne_ m1 t5 (by cases e; rfl)) (fun e => hk.ne_ m2 t2 (by cases e; rfl)), ?_, ?_⟩
  · exact h.srow.kept hg (.inr (own_blk_ne h.srow hk (Ne.symm t3)))
  · exact h.frow.kept hg (.inr (own_blk_ne h.frow hk (Ne.symm t4)))
end
/-- The entries, as cells. -/
def entCells (l : List (Nat × ByteArray)) : List Value := l.flatMap fun e => [.int .i64 (e.1 : Int), .string e.2]
/-- The journal in memory. -/
structure JIs (w : World) (jb : Nat) (a : DAt) (h : Nat) (J : Jrn) (v : Value) : Prop where
  blk : Blk w jb 57 #[.pointer (some ⟨a.d, 0, none⟩), .int .i64 h, .int .i64 J.bank, .int .i64 J.used, .int .i64 J.next, v, .bool J.spoiled, .bool false]
  row : w.ownsRow 0 62 2 v J.l.length (entCells J.l)
/-- What a call on the journal leaves. -/
structure JLeft (w w' : World) (a : DAt) (jb : Nat) : Prop where
  os : w'.os = w.os
  tape : w'.tape = w.tape
  output : w'.output = w.output
  size : w.heap.size ≤ w'.heap.size
  rest : ∀ k, k < w.heap.size → k ≠ a.d → k ≠ a.g → k ≠ a.sb → k ≠ a.fb → k ≠ jb → w'.heap[k]? = w.heap[k]?
section
variable {w w' w2 : World} {a : DAt} {D : Dev} {jb h : Nat} {J : Jrn} {v : Value}
theorem JLeft.refl (w : World) : JLeft w w a jb := ⟨rfl, rfl, rfl, Nat.le_refl _, fun _ _ _ _ _ _ _ => rfl⟩
theorem JLeft.trans (h : JLeft w w' a jb) (k : JLeft w' w2 a jb) : JLeft w w2 a jb :=
  ⟨k.os.trans h.os, k.tape.trans h.tape, k.output.trans h.output, Nat.le_trans h.size k.size, fun j hj h1 h2 h3 h4 h5 => (k.rest j (Nat.lt_of_lt_of_le hj h.size) h1 h2 h3 h4 h5).trans (h.rest j hj h1 h2 h3 h4 h5)⟩
theorem JLeft.ofD (h : DLeft w w' a) : JLeft w w' a jb := ⟨h.os, h.tape, h.output, h.size, fun k hk h1 h2 h3 h4 _ => h.rest k hk h1 h2 h3 h4⟩
theorem JLeft.ofBelow (h : Below w.heap.size w w') : JLeft w w' a jb := JLeft.ofD (DLeft.ofBelow h)
theorem JLeft.set (h : JLeft w w' a jb) (i : Nat) (u : Value) : JLeft w (w'.setCell ⟨jb, i, none⟩ u) a jb :=
  ⟨h.os, h.tape, h.output, by have := h.size; simpa [World.setCell] using this, fun j hj h1 h2 h3 h4 h5 => (Below.heap_setCell w' ⟨jb, i, none⟩ u j (fun e => h5 e)).trans (h.rest j hj h1 h2 h3 h4 h5)⟩
/-- A block that was made behind w is written. -/
theorem JLeft.setNew (h : JLeft w w' a jb) {k : Nat} (hk : w.heap.size ≤ k) (i : Nat) (u : Value) : JLeft w (w'.setCell ⟨k, i, none⟩ u) a jb :=
  ⟨h.os, h.tape, h.output, by have := h.size; simpa [World.setCell] using this, fun j hj h1 h2 h3 h4 h5 => (Below.heap_setCell w' ⟨k, i, none⟩ u j (fun e => by have : j = k := e; omega)).trans (h.rest j hj h1 h2 h3 h4 h5)⟩
theorem JIs.left (k : JIs w jb a h J v) (hd : DevIs w a D) (hF : DLeft w w' a) : JIs w' jb a h J v :=
  ⟨hF.box hd k.blk (by decide), ownsRow_same k.row (fun j cs hk hb => hF.blk hd hb (fun e => by cases e) (fun e => by cases e) (fun e => by cases e) (fun e => by cases e))⟩
theorem JIs.below (k : JIs w jb a h J v) (hB : Below w.heap.size w w') : JIs w' jb a h J v := ⟨k.blk.below hB k.blk.lt, ownsRow_below k.row hB (Nat.le_refl _)⟩
theorem JIs.lt (k : JIs w jb a h J v) : jb < w.heap.size := k.blk.lt
/-- The journal's own block is written. -/
theorem JIs.next_ (k : JIs w jb a h J v) (m : Nat) : JIs (w.setCell ⟨jb, 4, none⟩ (.int .i64 m)) jb a h { J with next := m } v :=
  ⟨k.blk.set_ 4 _, k.row.kept (grown_set _ _ _ _) (.inr (own_blk_ne k.row k.blk (by decide)))⟩
theorem JIs.dev (k : JIs w jb a h J v) (hd : DevIs w a D) (i : Nat) (u : Value) : DevIs (w.setCell ⟨jb, i, none⟩ u) a D :=
  isDev_past hd k.blk (by decide) (grown_set _ _ _ _)
end
end Go.Proofs.YtgdpgiegiacepaaDoor
namespace Go.Proofs.YtgdpgiegiacepaaDoor
open Go.RowKit Go.Shelf
attribute [local go_sem] Oper.semAt_some

section
variable {w w' : World} {a : DAt} {D : Dev} {l : List ByteArray} {v : Value}
set_option maxRecDepth 100000 in
set_option maxHeartbeats 4000000 in
theorem each_read (h : DevIs w a D) (hu : DUp D) (hc : Clean D.M) (jx jb wb lb ab o : Nat) (cs : Array Value) (hlb : Blk w lb 38 #[v]) (hab : Blk w ab 3 #[.int .i64 o]) (hjx : Blk w jx 25 #[.pointer (some ⟨jb, 0, none⟩)]) (hjb : Blk w jb 57 cs) (hjd : cs[0]? = some (.pointer (some ⟨a.d, 0, none⟩)))
    (hwb : Blk w wb 4 #[.bool false]) (hI : Img w v l a) (hb : o + l.length ≤ D.M.length) (hD : D.M.length ≤ 1048576) (hoff : wb ≠ a.d ∧ wb ≠ a.b ∧ wb ≠ a.g ∧ wb ≠ a.sb ∧ wb ≠ a.fb) (hvw : v.ownBlock ≠ some wb) :
    Calls Tryd.prog 44 #[.func (.func 47) #[] #[.pointer (some ⟨jx, 0, none⟩), .pointer (some ⟨wb, 0, none⟩)], .pointer (some ⟨lb, 0, none⟩), .pointer (some ⟨ab, 0, none⟩)] w fun e w' => e = .returned (.int .i64 0) ∧ Blk w' wb 4 #[.bool (badM l o D.M l.length)] ∧ w.grownBy w' (some wb) := by
  obtain ⟨A, n, c, rfl⟩ := hI.slice
  have hn : n = l.length := by
    rcases hI.texts.2 with ⟨h0, h1⟩ | ⟨_, _, _, h0, _⟩
    · cases h0; exact h1.symm
    · cases h0; rfl
  subst hn
  have n1 : some lb ≠ some wb := fun e => hwb.ne_ hlb (by decide) (by cases e; rfl)
  have n2 : some ab ≠ some wb := fun e => hwb.ne_ hab (by decide) (by cases e; rfl)
  have n3 : some jx ≠ some wb := fun e => hwb.ne_ hjx (by decide) (by cases e; rfl)
  have n4 : some jb ≠ some wb := fun e => hwb.ne_ hjb (by decide) (by cases e; rfl)
  have HI := Lib.hid hI
  have Hb := Lib.hid (And.intro hb hD)
  have Hu := Lib.hid hu
  have Hc := Lib.hid hc
  have H := Lib.hid h
  have HL := Lib.hid hlb
  have HA := Lib.hid hab
  have HX := Lib.hid hjx
  have HJ := Lib.hid hjb
  have HW := Lib.hid hwb
  have x1 := hlb.cell 0
  clear h hu hc hlb hI hb hD hab hjx hjb hwb
  go_enter Tryd.func44, Tryd.ntmps44
  go_wp2_with fail
  go_loopw [10] (fun i wr => ∃ k : Nat, k ≤ l.length ∧ i = .int .i64 k ∧ Hid (w.grownBy wr (some wb)) ∧ Hid (Blk wr wb 4 #[.bool (badM l o D.M k)])) (fun i _ => l.length - (intOf i).toNat)
  case atStart => exact ⟨0, Nat.zero_le _, rfl, grown_refl _ _, HW.out⟩
  case round =>
    obtain ⟨k, hk, rfl, hg, hw⟩ := hrel
    have hwk : wrap64 ((k : Int) + 1) = (k : Int) + 1 := by have := Hb.out; unfold wrap64; omega
    have hwo : wrap64 ((o : Int) + (k : Int)) = (o + k : Nat) := by have := Hb.out; unfold wrap64; omega
    by_cases hkl : k < l.length
    · have Hkl := Lib.hid hkl
      have hd1 : decide (k < l.length) = true := decide_eq_true hkl
      obtain ⟨s, hs⟩ : ∃ s, l[k]? = some s := ⟨_, List.getElem?_eq_getElem hkl⟩
      obtain ⟨x, hx⟩ : ∃ x, D.M[o + k]? = some x := ⟨_, List.getElem?_eq_getElem (by have := Hb.out; omega)⟩
      have hI2 := HI.out.off hg.out hvw
      obtain ⟨g, rfl⟩ : ∃ g, A = some ⟨g, 0, none⟩ := by
        rcases hI2.texts.2 with ⟨_, h1⟩ | ⟨g, _, _, h0, _⟩
        · omega
        · cases h0; exact ⟨g, rfl⟩
      have cs2 := hI2.cell hs
      have ca := (HA.out.grown hg.out n2).cell 0
      have hjc : wr.cell? ⟨jb, 0, none⟩ = some (.pointer (some ⟨a.d, 0, none⟩)) := ((HJ.out.grown hg.out n4).cell 0).trans hjd
      have hp := Lib.hid (put2_any (H.out.off hg.out hoff) Hu.out (o + k) x hx (Hc.out x (List.mem_of_getElem? hx)) s jx jb wb _ (HX.out.grown hg.out n3) hjc hw.out)
      have hnx : Hid (Blk (wr.setCell ⟨wb, 0, none⟩ (.bool (badM l o D.M k || !(x.now.toList == s.toList)))) wb 4 #[.bool (badM l o D.M (k + 1))]) := by
        unfold Hid
        rw [badM_succ l o D.M k x s hx hs, ← ByteArray.toList_eq, ← ByteArray.toList_eq]
        exact hw.out.set_ 0 _
      clear hs hx hI2 hjc hkl
      go_wp2_with (first | (go_at_call 47; refine hp.out.mono ?_; rintro e w1 ⟨rfl, rfl⟩))
      go_roundw
      case rel => exact ⟨k + 1, Hkl.out, by go_num, grown_trans hg.out (grown_set _ _ _ _), hnx.out⟩
      case measure => rw [hwk]; exact meas_up Hkl.out
    · obtain rfl : k = l.length := by omega
      have hd1 : decide (l.length < l.length) = false := decide_eq_false hkl
      clear hkl
      go_wp2_with fail
      go_ret
      exact ⟨rfl, hw.out, hg.out⟩
end
end Go.Proofs.YtgdpgiegiacepaaDoor
namespace Go.Proofs.YtgdpgiegiacepaaDoor
open Go.RowKit Go.Shelf
attribute [local go_sem] Oper.semAt_some

section
variable {w : World} {a : DAt} {D : Dev}
theorem DevIs.sizes (h : DevIs w a D) : a.d < w.heap.size ∧ a.g < w.heap.size ∧ a.sb < w.heap.size ∧ a.fb < w.heap.size := by
  obtain ⟨_, q2⟩ := h.gblk
  obtain ⟨_, q3⟩ := h.sblk
  obtain ⟨_, q4⟩ := h.fblk
  exact ⟨h.blk.lt, q2.lt, q3.lt, q4.lt⟩
theorem ownsRow_zero {w : World} {base : Nat} {e : TypeId} {size : Nat} {v : Value} {n : Nat} {xs : List Value} (h : w.ownsRow base e size v n xs) : w.ownsRow 0 e size v n xs := by
  refine ⟨h.1, ?_⟩
  rcases h.2 with h2 | ⟨g, cap, cur, hv, hg, r⟩
  · exact .inl h2
  · exact .inr ⟨g, cap, cur, hv, Nat.zero_le _, r⟩
theorem one_str (l : List ByteArray) : ∀ u ∈ strCells l, u.oneCell' = true := by
  intro u hu
  obtain ⟨t, _, rfl⟩ := List.mem_map.1 hu
  rfl
theorem one_bool (l : List Bool) : ∀ u ∈ boolCells l, u.oneCell' = true := by
  intro u hu
  obtain ⟨t, _, rfl⟩ := List.mem_map.1 hu
  rfl
end
end Go.Proofs.YtgdpgiegiacepaaDoor
