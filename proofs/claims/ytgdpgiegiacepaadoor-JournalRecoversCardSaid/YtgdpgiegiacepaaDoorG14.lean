/-
  Layer 25 (journal): Append, where a record is written.
  Layer 25 (journal): Append by the plain function; Compact.
  Layer 25 (journal): the number in eight bytes.
-/
import Derived.Test.YtgdpgiegiacepaaDoorG13
namespace Go.Proofs.YtgdpgiegiacepaaDoor
open Go.RowKit Go.Shelf
open Sec (countN mostN countZ)
attribute [local go_sem] Oper.semAt_some

theorem ownsRow_more {w : World} {B base : Nat} {e : TypeId} {size n : Nat} {v : Value} {xs : List Value} (h : w.ownsRow B e size v n xs) (hle : base ≤ B) : w.ownsRow base e size v n xs := by
  refine ⟨h.1, ?_⟩
  rcases h.2 with h2 | ⟨g, cap, cur, hv, hg, r⟩
  · exact .inl h2
  · exact .inr ⟨g, cap, cur, hv, Nat.le_trans hle hg, r⟩
theorem entCells_snoc (l : List (Nat × ByteArray)) (n : Nat) (t : ByteArray) : entCells (l ++ [(n, t)]) = entCells l ++ [.int .i64 (n : Int), .string t] := by
  simp [entCells]
theorem entCells_len (l : List (Nat × ByteArray)) : (entCells l).length = l.length * 2 := by
  induction l with
  | nil => rfl
  | cons x r ih =>
    show (_ :: _ :: entCells r).length = _
    simp [ih]
    omega
theorem wrap_small {m : Nat} (h : m ≤ 1048576) : wrap64 (m : Int) = (m : Int) := by
  unfold wrap64
  omega
theorem wrap_sum {x y : Nat} (h : x + y ≤ 1048576) : wrap64 ((x : Int) + (y : Int)) = ((x + y : Nat) : Int) := by
  unfold wrap64
  omega
section
variable {w w' : World} {a : DAt} {D : Dev} {jb h : Nat} {J : Jrn} {v : Value}
theorem JIs.spoil (k : JIs w jb a h J v) (b : Bool) : JIs (w.setCell ⟨jb, 6, none⟩ (.bool b)) jb a h { J with spoiled := b } v :=
  ⟨k.blk.set_ 6 _, k.row.kept (grown_set _ _ _ _) (.inr (own_blk_ne k.row k.blk (by decide)))⟩
/-- The records' row anew, and what is used. -/
theorem JIs.more {w2 : World} {v2 : Value} {n C : Nat} {t : ByteArray} (k : JIs w jb a h J v) (hg : w.grownBy w2 none) (hr : w2.ownsRow w.heap.size 62 2 v2 (J.l.length + 1) (entCells J.l ++ [.int .i64 (n : Int), .string t])) :
    JIs ((w2.setCell ⟨jb, 5, none⟩ v2).setCell ⟨jb, 3, none⟩ (.int .i64 ((J.used + C : Nat) : Int))) jb a h { J with l := J.l ++ [(n, t)], used := J.used + C } v2 := by
  have hb := k.blk.grown hg (by simp)
  have hb5 := hb.set_ 5 v2
  refine ⟨hb5.set_ 3 _, ?_⟩
  have h1 := hr.kept (grown_set w2 jb 5 v2) (.inr (own_blk_ne hr hb (by decide)))
  have h2 := h1.kept (grown_set _ jb 3 (.int .i64 ((J.used + C : Nat) : Int))) (.inr (own_blk_ne h1 hb5 (by decide)))
  have h3 := ownsRow_more h2 (Nat.zero_le _)
  rw [← entCells_snoc] at h3
  have e : (J.l ++ [(n, t)]).length = J.l.length + 1 := by simp
  show World.ownsRow _ 0 62 2 v2 (J.l ++ [(n, t)]).length _
  rw [e]
  exact h3
theorem dev_none (hd : DevIs w a D) (hg : w.grownBy w' none) : DevIs w' a D := by
  obtain ⟨_, q1⟩ := hd.mblk
  exact ⟨hd.blk.grown hg (by simp), hd.mem.grown hg (by simp) (by simp), hd.srow.kept hg (.inr (by simp [Value.ownBlock])), hd.frow.kept hg (.inr (by simp [Value.ownBlock]))⟩
set_option maxRecDepth 100000 in
set_option maxHeartbeats 4000000 in
theorem append_put (hd : DevIs w a D) (hup : DUp D) (hf : Fine D.M) (hc : Clean D.M) (hj : JIs w jb a h J v) (t : ByteArray) (hN : 1 ≤ J.next ∧ J.next ≤ mostN) (ht : t.size ≤ 8000) (hs : J.spoiled = false) (hh : h ≤ 4096) (hu : J.used + countN t.size ≤ h) (_hbk : J.bank ≤ 1) (hb : J.bank * h + h ≤ D.M.length) (hD : D.M.length ≤ 4096)
    (hll : J.l.length ≤ 1048576) :
    Calls Tryd.prog 11 #[.pointer (some ⟨jb, 0, none⟩), .string t] w (JPost w a D jb h (if badM (packB J.next t) (J.bank * h + J.used) (putM (packB J.next t) (J.bank * h + J.used) D.M) (countN t.size) = true then ((0, 23), { J with next := J.next + 1, spoiled := true }, putM (packB J.next t) (J.bank * h + J.used) D.M)
      else ((J.next, 0), ⟨J.bank, J.used + countN t.size, J.next + 1, J.l ++ [(J.next, t)], false⟩, putM (packB J.next t) (J.bank * h + J.used) D.M))) := by
  have hcc := Sec.count_any (t.size : Int) w
  rw [countZ_good t ht] at hcc
  have hcp := Sec.count_pos t.size
  obtain ⟨mm, hmm⟩ : ∃ mm, J.bank * h = mm := ⟨_, rfl⟩
  have hmz : (J.bank : Int) * (h : Int) = (mm : Int) := by rw [← hmm]; push_cast; rfl
  rw [hmm] at hb ⊢
  clear hmm _hbk
  have hsum : mm + J.used ≤ 1048576 := by clear hN; omega
  have Hwo := Lib.hid (wrap_sum hsum)
  have d2 : decide (4611686018427387904 < (J.next : Int)) = false := by
    have h1 := hN.2
    have hm : mostN = 4611686018427387904 := rfl
    clear hb hu hh hcc hcp hmz
    exact decide_eq_false (by omega)
  have hN2 := Lib.hid hN
  clear hN
  have HP : Hid (∀ wq, Below w.heap.size w wq → Calls Tryd.prog 25 #[.pointer (some ⟨jb, 0, none⟩), .int .i64 ((mm + J.used : Nat) : Int), .string t] wq fun e w' => e = .returned (.tuple #[.int .i64 (if badM (packB J.next t) (mm + J.used) (putM (packB J.next t) (mm + J.used) D.M) (countN t.size) = true then 0 else (J.next : Int)), .int .i64 (if badM (packB J.next t) (mm + J.used) (putM (packB J.next t) (mm + J.used) D.M) (countN t.size) = true then 23 else 0)]) ∧ DevIs w' a { D with M := putM (packB J.next t) (mm + J.used) D.M } ∧ JIs w' jb a h { J with next := J.next + 1 } v ∧ JLeft wq w' a jb) := by
    intro wq hB
    exact jput_any (hd.below hB) hup hf hc (hj.below hB) (mm + J.used) t hN2.out ht (by omega) hD
  generalize hbd : badM (packB J.next t) (mm + J.used) (putM (packB J.next t) (mm + J.used) D.M) (countN t.size) = bad at HP ⊢
  obtain ⟨rn, hrn⟩ : ∃ rn : Int, (if bad = true then 0 else (J.next : Int)) = rn := ⟨_, rfl⟩
  obtain ⟨re, hre⟩ : ∃ re : Int, (if bad = true then 23 else 0) = re := ⟨_, rfl⟩
  rw [hrn, hre] at HP
  clear hbd
  have Hrn := Lib.hid hrn
  have Hre := Lib.hid hre
  clear hrn hre
  have HR := Lib.hid (jRoom_any hj (by omega) (by omega : h ≤ 1048576))
  obtain ⟨C, hC⟩ : ∃ C, countN t.size = C := ⟨_, rfl⟩
  rw [hC] at hcc hu ⊢
  have Hwu' := wrap_sum (x := J.used) (y := C) (Nat.le_trans hu (Nat.le_trans hh (by decide)))
  have Hwu := Lib.hid Hwu'
  clear Hwu'
  have HC := Lib.hid hcc
  obtain ⟨r, hr⟩ : ∃ r, h - J.used = r := ⟨_, rfl⟩
  rw [hr] at HR
  have d3 : decide (r < C) = false := decide_eq_false (by omega)
  have d3' : decide ((r : Int) < (C : Int)) = false := decide_eq_false (by omega)
  have hmle : mm ≤ 1048576 := by omega
  obtain ⟨o, ho⟩ : ∃ o, mm + J.used = o := ⟨_, rfl⟩
  rw [ho] at HP Hwo ⊢
  generalize putM (packB J.next t) o D.M = M2 at HP ⊢
  obtain ⟨c0, c1, c2, c3, c4, c5, c6, c7⟩ := hj.cells
  rw [hs] at c6
  have d1 : decide (8000 < (t.size : Int)) = false := decide_eq_false (by omega)
  have HJ := Lib.hid hj
  have Hs := Lib.hid hs
  have Hll := Lib.hid hll
  clear hd hup hf hc hj hN2 ht hs hll hr hC hu hh hcc hcp hb hD ho hsum
  unfold JPost
  have hwo := Hwo.out
  have hwu := Hwu.out
  have hwm : wrap64 ((J.bank : Int) * (h : Int)) = (mm : Int) := by
    rw [hmz]
    exact wrap_small hmle
  clear Hwo Hwu
  have hwz : IntKind.i64.wrap (IntKind.i64.wrap ((J.bank : Int) * (h : Int)) + (J.used : Int)) = (o : Int) := by
    have e : ∀ x : Int, IntKind.i64.wrap x = wrap64 x := fun x => by rw [IntKind.wrap_i64, wrap64]
    rw [e, e, hwm, hwo]
  clear hmz hmle
  go_enter Tryd.func11, Tryd.ntmps11
  go_wp2_with (first | (go_at_call 24; refine HC.out.mono ?_; rintro e w1 ⟨rfl, rfl⟩) | (go_at_call 9; refine HR.out.mono ?_; rintro e w2 ⟨rfl, hB⟩))
  obtain ⟨b0, b1, b2, b3, b4, b5, b6, b7⟩ := (HJ.out.below hB).cells
  go_region_held3 (fun w' => w'.cell? ⟨jb, 2, none⟩ = some (.int .i64 J.bank) ∧ w'.cell? ⟨jb, 1, none⟩ = some (.int .i64 h) ∧ w'.cell? ⟨jb, 3, none⟩ = some (.int .i64 J.used)) (go_keep)
    (first | (go_at_call 25; refine (HP.out _ hB.drew).mono ?_; rintro e w3 ⟨rfl, hd3, hj3, hF3⟩; obtain ⟨e0, e1, e2, e3, e4, e5, e6, e7⟩ := hj3.cells))
  have f6 := hj3.blk.frozen 6
  rw [Hs.out] at e6
  have HB2 := Lib.hid hB
  clear b0 b1 b2 b3 b4 b5 b6 b7 c0 c1 c2 c3 c4 c5 c6 c7 HP HR HC hB
  cases bad with
  | true =>
    have hrn := Hrn.out
    have hre := Hre.out
    rw [if_pos rfl] at hrn hre
    subst hrn hre
    go_wp2_with fail
    go_ret2
    exact ⟨rfl, hj3.dev hd3 6 _, ⟨v, hj3.spoil true⟩, (JLeft.ofBelow HB2.out.drew).trans (hF3.set 6 _)⟩
  | false =>
    have hrn := Hrn.out
    have hre := Hre.out
    rw [if_neg (by decide)] at hrn hre
    subst hrn hre
    obtain ⟨i0, hi, hz0, hz1, hz2⟩ := info_parts infoEnt
    obtain ⟨A, c, rfl, hnone, hcap⟩ : ∃ A c, v = .slice A J.l.length c ∧ (A = none → J.l.length = 0 ∧ J.l.length = 0) ∧ Hid ((A = none ∧ c = 0 ∧ J.l.length = 0) ∨ ((∃ g, A = some ⟨g, 0, none⟩) ∧ J.l.length ≤ c)) := by
      rcases hj3.row.2 with ⟨rfl, h0⟩ | ⟨g, cap, cur, rfl, _, _, hcap, _⟩
      · exact ⟨none, 0, by rw [show J.l.length = 0 from h0], fun _ => ⟨h0, h0⟩, .inl ⟨rfl, rfl, h0⟩⟩
      · exact ⟨_, cap, rfl, fun e => (by cases e), .inr ⟨⟨g, rfl⟩, hcap⟩⟩
    have hcl : Hid (Calls Tryd.prog 26 #[.slice A J.l.length c] w3 fun e w' => e = .returned (.slice A J.l.length J.l.length) ∧ w3 = w') := by
      unfold Hid
      rcases hcap.out with ⟨rfl, rfl, h0⟩ | ⟨⟨g, rfl⟩, hc⟩
      · rw [h0]; exact clip_nil w3
      · exact clip_some w3 g _ _ hc
    have hold : Hid (∀ b, A = some b → ∀ j u, (entCells J.l)[j]? = some u → (w3.alloc (.cells #[.int .i64 (J.next : Int), .string t] 62)).cell? (b.add j) = some u) := by
      intro b hb j u hju
      subst hb
      rcases hcap.out with ⟨h0, _⟩ | ⟨⟨g, hg⟩, hc⟩
      · cases h0
      · cases hg
        have hjl : j < J.l.length * 2 := by rw [← entCells_len]; exact (List.getElem?_eq_some_iff.1 hju).1
        rw [Addr.add_lit, Nat.zero_add, World.ownsRow.cellAt (hj3.row.alloc _) j hjl]
        exact hju
    have hlo : Hid ((entCells J.l).length = J.l.length * 2) := entCells_len J.l
    have hlb : Hid (J.l.length + 1 ≤ maxLen ∧ (J.l.length + 1) * 24 ≤ 140737488355328) := by have := Hll.out; unfold Hid maxLen; omega
    have f5 := hj3.blk.frozen 5
    have f3 := hj3.blk.frozen 3
    have Hj3 := Lib.hid hj3
    have Hd3 := Lib.hid hd3
    have HF3 := Lib.hid hF3
    clear hj3 hd3 hF3
    go_wp2_with (first | (go_at_call 26; refine hcl.out.mono ?_; rintro e w4 ⟨rfl, rfl⟩) | (at_builtin; refine wpList_append_grows _ rfl _ _ 55 rfl 62 i0 _ 2 24 Tryd.underlying55 hi hz0 hz1 hz2 rfl (by decide) A J.l.length J.l.length (entCells J.l) rfl hnone ?c1 ?c2 ⟨w3.heap.size, 0, none⟩ 1 1 [.int .i64 (J.next : Int), .string t] rfl rfl ?c3 ?c4 ?c5 ?c6 ?c7 ?_))
    case c1 => exact hlo.out
    case c2 => exact hold.out
    case c3 => exact news_cells (Blk.new w3 62 #[.int .i64 (J.next : Int), .string t])
    case c4 => simp [Value.oneCell']
    case c5 => omega
    case c6 => exact hlb.out.1
    case c7 => exact hlb.out.2
    intro v5 w5 hr5 hg5
    obtain ⟨A5, c5', rfl⟩ := Sec.ownsRow_slice hr5
    have hg35 : w3.grownBy w5 none := grown_trans (grown_below ((Below.refl _ w3).alloc (Nat.le_refl _) _) (Nat.le_refl _) none) hg5
    have hb5 := Hj3.out.blk.grown hg35 (by simp)
    have y3 : w5.cell? ⟨jb, 3, none⟩ = some (.int .i64 (J.used : Int)) := hb5.cell 3
    have y5 : w5.cell? ⟨jb, 5, none⟩ = some (.slice A J.l.length c) := hb5.cell 5
    have g3 := hb5.frozen 3
    have g5 := hb5.frozen 5
    have hmo := Lib.hid (JIs.more (n := J.next) (C := C) (t := t) Hj3.out hg35 (ownsRow_more hr5 (by simp)))
    have hde := Lib.hid (dev_none Hd3.out hg35)
    have hsz := Lib.hid hg35
    clear hr5 hg5 hb5 hg35
    go_wp2_with fail
    go_ret2
    have h1 := hmo.out
    have hb5 := Hj3.out.blk.grown hsz.out (by simp)
    have hf : JLeft w3 w5 a jb := ⟨hsz.out.os, hsz.out.tape, hsz.out.output, hsz.out.size, fun k hk _ _ _ _ _ => hsz.out.block k hk (by simp)⟩
    have hd5 : DevIs (w5.setCell ⟨jb, 5, none⟩ (.slice A5 (J.l.length + 1) c5')) a { D with M := M2 } := isDev_past hde.out hb5 (by decide) (grown_set _ _ _ _)
    have hd6 : DevIs ((w5.setCell ⟨jb, 5, none⟩ (.slice A5 (J.l.length + 1) c5')).setCell ⟨jb, 3, none⟩ (.int .i64 ((J.used + C : Nat) : Int))) a { D with M := M2 } := isDev_past hd5 (hb5.set_ 5 _) (by decide) (grown_set _ _ _ _)
    have hq1 : JLeft w w2.drew a jb := JLeft.ofBelow HB2.out.drew
    have hq2 : JLeft w w3 a jb := hq1.trans HF3.out
    have hq3 : JLeft w3 ((w5.setCell ⟨jb, 5, none⟩ (.slice A5 (J.l.length + 1) c5')).setCell ⟨jb, 3, none⟩ (.int .i64 ((J.used + C : Nat) : Int))) a jb := (hf.set 5 _).set 3 _
    refine ⟨rfl, hd6, ⟨.slice A5 (J.l.length + 1) c5', ?_⟩, hq2.trans hq3⟩
    have e : (⟨J.bank, J.used + C, J.next + 1, J.l ++ [(J.next, t)], J.spoiled⟩ : Jrn) = ⟨J.bank, J.used + C, J.next + 1, J.l ++ [(J.next, t)], false⟩ := by rw [Hs.out]
    rw [← e]
    exact h1
end
end Go.Proofs.YtgdpgiegiacepaaDoor
namespace Go.Proofs.YtgdpgiegiacepaaDoor
open Go.RowKit Go.Shelf
open Sec (countN mostN countZ)
attribute [local go_sem] Oper.semAt_some

section
variable {w w' : World} {a : DAt} {D : Dev} {jb h : Nat} {J : Jrn} {v : Value}
theorem jappend_any (hd : DevIs w a D) (hup : DUp D) (hf : Fine D.M) (hc : Clean D.M) (hj : JIs w jb a h J v) (t : ByteArray) (hN : 1 ≤ J.next ∧ J.next ≤ mostN) (ht : t.size ≤ 8000) (hh : h ≤ 4096) (hu : J.used ≤ h) (hbk : J.bank ≤ 1) (hb : J.bank * h + h ≤ D.M.length) (hD : D.M.length ≤ 4096) (hll : J.l.length ≤ 1048576) :
    Calls Tryd.prog 11 #[.pointer (some ⟨jb, 0, none⟩), .string t] w (JPost w a D jb h (jappend h t J D.M)) := by
  unfold jappend
  by_cases hs : J.spoiled = true
  · rw [if_pos hs]
    exact append_spoiled hd hj t hN.2 ht hs
  · rw [if_neg hs]
    have hs' : J.spoiled = false := by simpa using hs
    by_cases hfl : h < J.used + countN t.size
    · rw [if_pos hfl]
      exact append_full hd hj t hN.2 ht hs' hu (Nat.le_trans hh (by decide)) hfl
    · rw [if_neg hfl]
      exact append_put hd hup hf hc hj t hN ht hs' hh (Nat.le_of_not_lt hfl) hbk hb hD hll
set_option maxRecDepth 100000 in
set_option maxHeartbeats 4000000 in
theorem compact_full (hd : DevIs w a D) (hj : JIs w jb a h J v) (t : ByteArray) (hN : J.next ≤ mostN) (ht : t.size ≤ 8000) (hf : h < countN t.size) :
    Calls Tryd.prog 12 #[.pointer (some ⟨jb, 0, none⟩), .string t] w (JPost w a D jb h ((0, 15), J, D.M)) := by
  have hcc := Sec.count_any (t.size : Int) w
  rw [countZ_good t ht] at hcc
  obtain ⟨C, hC⟩ : ∃ C, countN t.size = C := ⟨_, rfl⟩
  rw [hC] at hcc hf
  have HC := Lib.hid hcc
  have d3 : decide (h < C) = true := decide_eq_true hf
  have d3' : decide ((h : Int) < (C : Int)) = true := decide_eq_true (by omega)
  obtain ⟨c0, c1, c2, c3, c4, c5, c6, c7⟩ := hj.cells
  have hm : mostN = 4611686018427387904 := rfl
  have d1 : decide (8000 < (t.size : Int)) = false := decide_eq_false (by omega)
  have d2 : decide (4611686018427387904 < (J.next : Int)) = false := decide_eq_false (by omega)
  have H := Lib.hid hd
  have HJ := Lib.hid hj
  clear hd hj hN ht hm hf hC hcc
  unfold JPost
  go_enter Tryd.func12, Tryd.ntmps12
  go_wp2_with (first | (go_at_call 24; refine HC.out.mono ?_; rintro e w1 ⟨rfl, rfl⟩))
  go_ret2
  exact ⟨v, rfl, H.out, HJ.out, JLeft.refl _⟩
/-- One record, and what is used. -/
theorem JIs.fresh {b C n : Nat} {t : ByteArray} (k : JIs w jb a h J v) :
    JIs (((((w.alloc (.cells #[.int .i64 (n : Int), .string t] 62)).setCell ⟨jb, 2, none⟩ (.int .i64 (b : Int))).setCell ⟨jb, 3, none⟩ (.int .i64 (C : Int))).setCell ⟨jb, 5, none⟩ (.slice (some ⟨w.heap.size, 0, none⟩) 1 1)).setCell ⟨jb, 6, none⟩ (.bool false)) jb a h ⟨b, C, J.next, [(n, t)], false⟩ (.slice (some ⟨w.heap.size, 0, none⟩) 1 1) := by
  have hb := k.blk.alloc (.cells #[.int .i64 (n : Int), .string t] 62)
  have hr : (w.alloc (.cells #[.int .i64 (n : Int), .string t] 62)).ownsRow 0 62 2 (.slice (some ⟨w.heap.size, 0, none⟩) 1 1) 1 [.int .i64 (n : Int), .string t] :=
    ⟨rfl, .inr ⟨w.heap.size, 1, #[.int .i64 (n : Int), .string t], rfl, Nat.zero_le _, Blk.new w _ _, Nat.le_refl _, by unfold maxLen; omega, rfl, rfl⟩⟩
  have b2 := hb.set_ 2 (.int .i64 (b : Int))
  have b3 := b2.set_ 3 (.int .i64 (C : Int))
  have b5 := b3.set_ 5 (.slice (some ⟨w.heap.size, 0, none⟩) 1 1)
  have r2 := hr.kept (grown_set _ jb 2 (.int .i64 (b : Int))) (.inr (own_blk_ne hr hb (by decide)))
  have r3 := r2.kept (grown_set _ jb 3 (.int .i64 (C : Int))) (.inr (own_blk_ne r2 b2 (by decide)))
  have r5 := r3.kept (grown_set _ jb 5 (.slice (some ⟨w.heap.size, 0, none⟩) 1 1)) (.inr (own_blk_ne r3 b3 (by decide)))
  have r6 := r5.kept (grown_set _ jb 6 (.bool false)) (.inr (own_blk_ne r5 b5 (by decide)))
  exact ⟨b5.set_ 6 _, r6⟩
set_option maxRecDepth 100000 in
set_option maxHeartbeats 4000000 in
theorem compact_put (hd : DevIs w a D) (hup : DUp D) (hf : Fine D.M) (hc : Clean D.M) (hj : JIs w jb a h J v) (t : ByteArray) (hN : 1 ≤ J.next ∧ J.next ≤ mostN) (ht : t.size ≤ 8000) (hh : h ≤ 4096) (hu : countN t.size ≤ h) (hbk : J.bank ≤ 1) (hb : (1 - J.bank) * h + h ≤ D.M.length) (hD : D.M.length ≤ 4096) :
    Calls Tryd.prog 12 #[.pointer (some ⟨jb, 0, none⟩), .string t] w (JPost w a D jb h (if badM (packB J.next t) ((1 - J.bank) * h) (putM (packB J.next t) ((1 - J.bank) * h) D.M) (countN t.size) = true then ((0, 23), { J with next := J.next + 1 }, putM (packB J.next t) ((1 - J.bank) * h) D.M)
      else ((J.next, 0), ⟨1 - J.bank, countN t.size, J.next + 1, [(J.next, t)], false⟩, putM (packB J.next t) ((1 - J.bank) * h) D.M))) := by
  have hcc := Sec.count_any (t.size : Int) w
  rw [countZ_good t ht] at hcc
  obtain ⟨bq, hbq⟩ : ∃ bq, 1 - J.bank = bq := ⟨_, rfl⟩
  have hbz : (1 : Int) - (J.bank : Int) = (bq : Int) := by omega
  have hbq1 : bq ≤ 1048576 := by omega
  rw [hbq] at hb ⊢
  obtain ⟨mm, hmm⟩ : ∃ mm, bq * h = mm := ⟨_, rfl⟩
  have hmz : (bq : Int) * (h : Int) = (mm : Int) := by rw [← hmm]; push_cast; rfl
  rw [hmm] at hb ⊢
  clear hmm hbk hbq
  have d2 : decide (4611686018427387904 < (J.next : Int)) = false := by
    have h1 := hN.2
    have hm : mostN = 4611686018427387904 := rfl
    clear hb hu hh hcc hmz hbz
    exact decide_eq_false (by omega)
  have hN2 := Lib.hid hN
  clear hN
  have hmle : mm ≤ 1048576 := by omega
  have HP : Hid (∀ wq, Below w.heap.size w wq → Calls Tryd.prog 25 #[.pointer (some ⟨jb, 0, none⟩), .int .i64 (mm : Int), .string t] wq fun e w' => e = .returned (.tuple #[.int .i64 (if badM (packB J.next t) mm (putM (packB J.next t) mm D.M) (countN t.size) = true then 0 else (J.next : Int)), .int .i64 (if badM (packB J.next t) mm (putM (packB J.next t) mm D.M) (countN t.size) = true then 23 else 0)]) ∧ DevIs w' a { D with M := putM (packB J.next t) mm D.M } ∧ JIs w' jb a h { J with next := J.next + 1 } v ∧ JLeft wq w' a jb) := by
    intro wq hB
    exact jput_any (hd.below hB) hup hf hc (hj.below hB) mm t hN2.out ht (by omega) hD
  generalize hbd : badM (packB J.next t) mm (putM (packB J.next t) mm D.M) (countN t.size) = bad at HP ⊢
  obtain ⟨rn, hrn⟩ : ∃ rn : Int, (if bad = true then 0 else (J.next : Int)) = rn := ⟨_, rfl⟩
  obtain ⟨re, hre⟩ : ∃ re : Int, (if bad = true then 23 else 0) = re := ⟨_, rfl⟩
  rw [hrn, hre] at HP
  clear hbd
  have Hrn := Lib.hid hrn
  have Hre := Lib.hid hre
  clear hrn hre
  obtain ⟨C, hC⟩ : ∃ C, countN t.size = C := ⟨_, rfl⟩
  rw [hC] at hcc hu ⊢
  have HC := Lib.hid hcc
  have d3 : decide (h < C) = false := decide_eq_false (by omega)
  have d3' : decide ((h : Int) < (C : Int)) = false := decide_eq_false (by omega)
  generalize putM (packB J.next t) mm D.M = M2 at HP ⊢
  obtain ⟨c0, c1, c2, c3, c4, c5, c6, c7⟩ := hj.cells
  have d1 : decide (8000 < (t.size : Int)) = false := decide_eq_false (by omega)
  have HJ := Lib.hid hj
  clear hd hup hf hc hj hN2 ht hC hu hh hcc hb hD
  have hwb : wrap64 ((1 : Int) - (J.bank : Int)) = (bq : Int) := by
    rw [hbz]
    exact wrap_small hbq1
  have hwm : wrap64 ((bq : Int) * (h : Int)) = (mm : Int) := by
    rw [hmz]
    exact wrap_small hmle
  have hwz : IntKind.i64.wrap (IntKind.i64.wrap ((1 : Int) - (J.bank : Int)) * (h : Int)) = (mm : Int) := by
    have e : ∀ x : Int, IntKind.i64.wrap x = wrap64 x := fun x => by rw [IntKind.wrap_i64, wrap64]
    rw [e, e, hwb, hwm]
  clear hmz hmle hbz hbq1
  unfold JPost
  go_enter Tryd.func12, Tryd.ntmps12
  go_wp2_with (first | (go_at_call 24; refine HC.out.mono ?_; rintro e w1 ⟨rfl, rfl⟩))
  go_region_held3 (fun w' => w'.cell? ⟨jb, 2, none⟩ = some (.int .i64 J.bank) ∧ w'.cell? ⟨jb, 1, none⟩ = some (.int .i64 h)) (go_keep)
    (first | (go_at_call 25; refine (HP.out _ (Below.refl _ w).drew).mono ?_; rintro e w3 ⟨rfl, hd3, hj3, hF3⟩; obtain ⟨e0, e1, e2, e3, e4, e5, e6, e7⟩ := hj3.cells))
  have HF3 : Hid (JLeft w w3 a jb) := (JLeft.ofBelow (Below.refl _ w).drew).trans hF3
  clear c0 c1 c2 c3 c4 c5 c6 c7 HP HC hF3
  cases bad with
  | true =>
    have hrn := Hrn.out
    have hre := Hre.out
    rw [if_pos rfl] at hrn hre
    subst hrn hre
    go_wp2_with fail
    go_ret2
    exact ⟨rfl, hd3, ⟨v, hj3⟩, HF3.out⟩
  | false =>
    have hrn := Hrn.out
    have hre := Hre.out
    rw [if_neg (by decide)] at hrn hre
    subst hrn hre
    have hbl := hj3.blk
    obtain ⟨w4, hw4⟩ : ∃ w4, w3.alloc (.cells #[.int .i64 (J.next : Int), .string t] 62) = w4 := ⟨_, rfl⟩
    have hb4 := hbl.alloc (.cells #[.int .i64 (J.next : Int), .string t] 62)
    rw [hw4] at hb4
    have y2 : w4.cell? ⟨jb, 2, none⟩ = some (.int .i64 (J.bank : Int)) := hb4.cell 2
    have y3 : w4.cell? ⟨jb, 3, none⟩ = some (.int .i64 (J.used : Int)) := hb4.cell 3
    have y5 : w4.cell? ⟨jb, 5, none⟩ = some v := hb4.cell 5
    have y6 : w4.cell? ⟨jb, 6, none⟩ = some (.bool J.spoiled) := hb4.cell 6
    have g2 := hb4.frozen 2
    have g3 := hb4.frozen 3
    have g5 := hb4.frozen 5
    have g6 := hb4.frozen 6
    have hfin : Hid (DevIs ((((w4.setCell ⟨jb, 2, none⟩ (.int .i64 (bq : Int))).setCell ⟨jb, 3, none⟩ (.int .i64 (C : Int))).setCell ⟨jb, 5, none⟩ (.slice (some ⟨w3.heap.size, 0, none⟩) 1 1)).setCell ⟨jb, 6, none⟩ (.bool false)) a { D with M := M2 } ∧
        JIs ((((w4.setCell ⟨jb, 2, none⟩ (.int .i64 (bq : Int))).setCell ⟨jb, 3, none⟩ (.int .i64 (C : Int))).setCell ⟨jb, 5, none⟩ (.slice (some ⟨w3.heap.size, 0, none⟩) 1 1)).setCell ⟨jb, 6, none⟩ (.bool false)) jb a h ⟨bq, C, J.next + 1, [(J.next, t)], false⟩ (.slice (some ⟨w3.heap.size, 0, none⟩) 1 1) ∧
        JLeft w ((((w4.setCell ⟨jb, 2, none⟩ (.int .i64 (bq : Int))).setCell ⟨jb, 3, none⟩ (.int .i64 (C : Int))).setCell ⟨jb, 5, none⟩ (.slice (some ⟨w3.heap.size, 0, none⟩) 1 1)).setCell ⟨jb, 6, none⟩ (.bool false)) a jb) := by
      rw [← hw4]
      have hB : Below w3.heap.size w3 (w3.alloc (.cells #[.int .i64 (J.next : Int), .string t] 62)) := (Below.refl _ w3).alloc (Nat.le_refl _) _
      have hb0 := hbl.alloc (.cells #[.int .i64 (J.next : Int), .string t] 62)
      have d0 : DevIs (w3.alloc (.cells #[.int .i64 (J.next : Int), .string t] 62)) a { D with M := M2 } := hd3.below hB
      have q2 := hb0.set_ 2 (.int .i64 (bq : Int))
      have q3 := q2.set_ 3 (.int .i64 (C : Int))
      have q5 := q3.set_ 5 (.slice (some ⟨w3.heap.size, 0, none⟩) 1 1)
      have d2 : DevIs _ a { D with M := M2 } := isDev_past d0 hb0 (by decide) (grown_set _ jb 2 (.int .i64 (bq : Int)))
      have d3 : DevIs _ a { D with M := M2 } := isDev_past d2 q2 (by decide) (grown_set _ jb 3 (.int .i64 (C : Int)))
      have d5 : DevIs _ a { D with M := M2 } := isDev_past d3 q3 (by decide) (grown_set _ jb 5 (.slice (some ⟨w3.heap.size, 0, none⟩) 1 1))
      have d6 : DevIs _ a { D with M := M2 } := isDev_past d5 q5 (by decide) (grown_set _ jb 6 (.bool false))
      exact ⟨d6, hj3.fresh, HF3.out.trans (((((JLeft.ofBelow hB).set 2 _).set 3 _).set 5 _).set 6 _)⟩
    clear hbl hb4 hj3 hd3 HF3
    go_wp2_with fail
    go_ret2
    exact ⟨rfl, hfin.out.1, ⟨_, hfin.out.2.1⟩, hfin.out.2.2⟩
theorem jcompact_any (hd : DevIs w a D) (hup : DUp D) (hf : Fine D.M) (hc : Clean D.M) (hj : JIs w jb a h J v) (t : ByteArray) (hN : 1 ≤ J.next ∧ J.next ≤ mostN) (ht : t.size ≤ 8000) (hh : h ≤ 4096) (hbk : J.bank ≤ 1) (hb : (1 - J.bank) * h + h ≤ D.M.length) (hD : D.M.length ≤ 4096) :
    Calls Tryd.prog 12 #[.pointer (some ⟨jb, 0, none⟩), .string t] w (JPost w a D jb h (jcompact h t J D.M)) := by
  unfold jcompact
  by_cases hfl : h < countN t.size
  · rw [if_pos hfl]
    exact compact_full hd hj t hN.2 ht hfl
  · rw [if_neg hfl]
    exact compact_put hd hup hf hc hj t hN ht hh (Nat.le_of_not_lt hfl) hbk hb hD
end
end Go.Proofs.YtgdpgiegiacepaaDoor
namespace Go.Proofs.YtgdpgiegiacepaaDoor
open Go.RowKit Go.Shelf
open Sec (getL get_lt u64_small)
attribute [local go_sem] Oper.semAt_some

theorem or_low (G b : Nat) (hb : b < 256) (hG : G < 72057594037927936) : bits .or .u64 ((G : Int) * 256) (IntKind.u64.wrap (b : Int)) = ((b + 256 * G : Nat) : Int) := by
  rw [u64_small b (by omega), show (G : Int) * 256 = ((G * 256 : Nat) : Int) by simp, u64_or_nat _ _ (by omega) (by omega)]
  congr 1
  have h := Nat.two_pow_add_eq_or_of_lt (i := 8) (b := b) (by omega) G
  have e : 2 ^ 8 * G = G * 256 := by omega
  rw [e] at h
  omega
theorem getL_drop (l : List UInt8) (k : Nat) (hk : k < l.length) : getL (l.drop k) = l[k].toNat + 256 * getL (l.drop (k + 1)) := by
  rw [List.drop_eq_getElem_cons hk]
  rfl
set_option maxHeartbeats 4000000 in
set_option maxRecDepth 100000 in
theorem jnumber_any (w : World) (s : ByteArray) (hs : s.size ≤ 8) :
    Calls Tryd.prog 31 #[.string s] w fun e w' => e = .returned (.int .u64 (getL s.data.toList : Nat)) ∧ w = w' := by
  have hlen : s.data.toList.length = s.size := Array.length_toList ..
  have hw0 : wrap64 ((s.size : Int) - 1) = (s.size : Int) - 1 := by unfold wrap64; omega
  go_enter Tryd.func31, Tryd.ntmps31
  go_wp2_with fail
  go_loopw [3, 4] (fun g i wr => ∃ k : Nat, k ≤ s.size ∧ i = .int .i64 ((k : Int) - 1) ∧ g = .int .u64 (getL (s.data.toList.drop k) : Nat) ∧ wr = w) (fun _ i _ => (intOf i + 1).toNat)
  case atStart => exact ⟨s.size, Nat.le_refl _, by trivial, by rw [List.drop_of_length_le (by omega)]; rfl, rfl⟩
  case round =>
    obtain ⟨k, hk, rfl, rfl, rfl⟩ := hrel
    cases k with
    | zero =>
      go_wp2_with fail
      go_ret
      exact ⟨rfl, rfl⟩
    | succ k =>
      have hkl : k < s.size := by omega
      have hkz : ((k + 1 : Nat) : Int) - 1 = (k : Int) := by omega
      have hwk : wrap64 ((k : Int) - 1) = (k : Int) - 1 := by unfold wrap64; omega
      have hd := getL_drop s.data.toList k (by omega)
      have hb : s.data.toList[k].toNat < 256 := UInt8.toNat_lt _
      have hG := get_lt (s.data.toList.drop (k + 1))
      have hGl : (s.data.toList.drop (k + 1)).length ≤ 7 := by rw [List.length_drop]; omega
      have hG2 : getL (s.data.toList.drop (k + 1)) < 72057594037927936 := Nat.lt_of_lt_of_le hG (by
        have := Nat.pow_le_pow_right (n := 256) (by decide) hGl
        exact this)
      have e : s.data.toList[k] = s[k] := rfl
      rw [e] at hd hb
      generalize getL (s.data.toList.drop (k + 1)) = G at hd hG2 ⊢
      have ho := or_low G s[k].toNat hb hG2
      have Hd := Lib.hid hd
      rw [hkz]
      clear hd hG hGl hb
      go_wp2_with fail
      go_roundw
      case rel => exact ⟨k, by omega, by go_num, by rw [Hd.out]; simp, by trivial⟩
      case measure => simp [intOf]
end Go.Proofs.YtgdpgiegiacepaaDoor
