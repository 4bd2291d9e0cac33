/-
  Layer 25 (journal): the text of a step.
  Layer 25 (journal): a device and its journal behind the arguments, as the laws carry them; what each call makes of them.
-/
import Derived.Test.YtgdpgiegiacepaaDoorJouW17
import Derived.Deep.OwnRows
import Derived.Test.YtgdpgiegiacepaaDoorG10
import Derived.Test.YtgdpgiegiacepaaDoorG16
import Derived.Test.YtgdpgiegiacepaaDoorG8
namespace Go.Proofs.YtgdpgiegiacepaaDoor
open Go.RowKit Go.Shelf
attribute [local go_sem] Oper.semAt_some

/-- The text of a step. -/
def jtext (fill N : Nat) : ByteArray := ⟨((List.range N).map fun i => UInt8.ofNat (fill + i % 7)).toArray⟩
def jlen (size : Int) : Nat := (max 0 (min size 400)).toNat
theorem jtext_size (fill N : Nat) : (jtext fill N).size = N := by
  unfold jtext
  show (List.toArray _).size = N
  simp
theorem jlen_le (size : Int) : jlen size ≤ 400 := by unfold jlen; omega
theorem infoU8 : (Tryd.prog.info? 5).map (fun i => (i.zero, i.size, i.bytes)) = some (some (.int .u8 0), 1, 1) := by kernel_rfl
/-- The first k bytes written. -/
def TextRow (W : World) (g fill N k : Nat) : Prop := ∃ cs : Array Value, Blk W g 5 cs ∧ cs.size = N ∧ ∀ j, j < N → cs[j]? = some (if j < k then .int .u8 (((fill : Int) + (j : Int) % 7) % 256) else .int .u8 0)
theorem textRow_set {W : World} {g fill N k : Nat} (h : TextRow W g fill N k) (hk : k < N) : TextRow (W.setCell ⟨g, k, none⟩ (.int .u8 (((fill : Int) + (k : Int) % 7) % 256))) g fill N (k + 1) := by
  obtain ⟨cs, h1, h2, h3⟩ := h
  refine ⟨_, h1.set_ k _, by simp [h2], fun j hj => ?_⟩
  rw [Array.getElem?_setIfInBounds]
  by_cases e : k = j
  · subst e
    rw [if_pos rfl, if_pos (by omega), if_pos (by omega)]
  · rw [if_neg e, h3 j hj]
    by_cases e2 : j < k
    · rw [if_pos e2, if_pos (by omega)]
    · rw [if_neg e2, if_neg (by omega)]
theorem textRow_conv {W : World} {g fill N cap : Nat} (h : TextRow W g fill N N) : (convert 54 9 (.slice (some ⟨g, 0, none⟩) N cap)).run Tryd.prog W = .ok (.string (jtext fill N)) W := by
  obtain ⟨cs, h1, h2, h3⟩ := h
  have hc := run_convert_bytes_back (P := Tryd.prog) W 54 9 5 ⟨g, 0, none⟩ cap ((List.range N).map fun i => UInt8.ofNat (fill + i % 7)) Tryd.underlying54 Tryd.underlying5 Tryd.underlying9 (fun j hj => by
    have hj' : j < N := by simpa using hj
    have e := h3 j hj'
    rw [if_pos hj'] at e
    rw [Addr.add_lit, Nat.zero_add, h1.cell j, e]
    simp)
  rw [List.length_map, List.length_range] at hc
  exact hc
set_option maxRecDepth 100000 in
set_option maxHeartbeats 1600000 in
theorem jText_any (w : World) (kind n size : Int) (fill : Nat) (_hfill : fill < 256) (A : Option Addr) (m c : Nat) :
    Calls Tryd.prog 8 #[.agg #[.int .i64 kind, .int .i64 n, .int .i64 size, .int .u8 fill, .slice A m c]] w fun e w' => e = .returned (.string (jtext fill (jlen size))) ∧ Below w.heap.size w w' := by
  obtain ⟨N, hN⟩ : ∃ N, jlen size = N := ⟨_, rfl⟩
  have hNl : N ≤ 400 := by rw [← hN]; exact jlen_le size
  have hmx : max 0 (min size 400) = (N : Int) := by rw [← hN]; unfold jlen; omega
  rw [hN]
  have k1 : ∀ wx, (Instr.makeSlice 54 (.int .i64 N) (.int .i64 N)).run Tryd.prog wx = .ok (.slice (some ⟨wx.heap.size, 0, none⟩) N N) (wx.alloc (.cells (madeCells #[.int .u8 0] N) 5)) := fun wx => run_make_row' 54 5 (.int .u8 0) 1 Tryd.underlying54 infoU8 rfl .i64 .i64 N (by omega) (by omega) wx
  have hb := Blk.new w 30 #[.int .i64 kind, .int .i64 n, .int .i64 size, .int .u8 fill, .slice A m c]
  clear hN
  go_enter Tryd.func8, Tryd.ntmps8
  go_wp2_with fail
  have hT0 : Hid (TextRow ((w.alloc (.cells #[.int .i64 kind, .int .i64 n, .int .i64 size, .int .u8 fill, .slice A m c] 30)).alloc (.cells (madeCells #[.int .u8 0] N) 5)) (w.heap.size + 1) fill N 0) := by
    have hn := Blk.new (w.alloc (.cells #[.int .i64 kind, .int .i64 n, .int .i64 size, .int .u8 fill, .slice A m c] 30)) 5 (madeCells #[.int .u8 0] N)
    rw [World.size_alloc] at hn
    exact ⟨_, hn, by simp [madeCells], fun j hj => by simp [madeCells, hj, Nat.mod_one]⟩
  have hbx := hb.alloc (.cells (madeCells #[.int .u8 0] N) 5)
  have hB0 : Below w.heap.size w ((w.alloc (.cells #[.int .i64 kind, .int .i64 n, .int .i64 size, .int .u8 fill, .slice A m c] 30)).alloc (.cells (madeCells #[.int .u8 0] N) 5)) :=
    ((Below.refl _ w).alloc (Nat.le_refl _) _).alloc (by simp) _
  clear k1 hb hmx
  generalize ((w.alloc (.cells #[.int .i64 kind, .int .i64 n, .int .i64 size, .int .u8 fill, .slice A m c] 30)).alloc (.cells (madeCells #[.int .u8 0] N) 5)) = w0 at *
  go_loopw [4] (fun i wr => ∃ k : Nat, k ≤ N ∧ i = .int .i64 k ∧ Hid (TextRow wr (w.heap.size + 1) fill N k) ∧ Hid (Blk wr w.heap.size 30 #[.int .i64 kind, .int .i64 n, .int .i64 size, .int .u8 fill, .slice A m c]) ∧ Hid (Below w.heap.size w wr)) (fun i _ => N - (intOf i).toNat)
  case atStart => exact ⟨0, Nat.zero_le _, rfl, hT0, hbx, hB0⟩
  case round =>
    obtain ⟨k, hk, rfl, hT, hX, hB⟩ := hrel
    by_cases hkl : k < N
    · have hd : decide (k < N) = true := decide_eq_true hkl
      have c3 : wr.cell? ⟨w.heap.size, 3, none⟩ = some (.int .u8 fill) := hX.out.cell 3
      have hcx : wr.cell? ⟨w.heap.size + 1, k, none⟩ = some (.int .u8 0) := by
        obtain ⟨cs, h1, h2, h3⟩ := hT.out
        rw [h1.cell k, h3 k hkl, if_neg (Nat.lt_irrefl k)]
      have hfz : wr.frozen? ⟨w.heap.size + 1, k, none⟩ = false := by
        obtain ⟨cs, h1, h2, h3⟩ := hT.out
        exact h1.frozen k
      have hTn := Lib.hid (textRow_set hT.out hkl)
      have hXn : Hid (Blk (wr.setCell ⟨w.heap.size + 1, k, none⟩ (.int .u8 (((fill : Int) + (k : Int) % 7) % 256))) w.heap.size 30 #[.int .i64 kind, .int .i64 n, .int .i64 size, .int .u8 fill, .slice A m c]) := hX.out.grown (grown_set wr (w.heap.size + 1) k _) (by simp)
      have hBn : Hid (Below w.heap.size w (wr.setCell ⟨w.heap.size + 1, k, none⟩ (.int .u8 (((fill : Int) + (k : Int) % 7) % 256)))) := hB.out.setCell (p := ⟨w.heap.size + 1, k, none⟩) (by show _ ≤ w.heap.size + 1; omega) _
      have hmeas : Hid (N - (k + 1) < N - k) := by unfold Hid; omega
      go_wp2_with fail
      go_roundw
      case rel => exact ⟨k + 1, hkl, by go_num, hTn, hXn, hBn⟩
      case measure => simp [intOf]; omega
    · obtain rfl : k = N := by omega
      have hd : decide (k < k) = false := decide_eq_false (Nat.lt_irrefl k)
      have hcv := fun cap => textRow_conv (cap := cap) hT.out
      have hcv2 := hcv k
      clear hcv
      go_wp2_with fail
      go_ret
      exact ⟨rfl, hB.out⟩
end Go.Proofs.YtgdpgiegiacepaaDoor
namespace Go.Proofs.YtgdpgiegiacepaaDoor
open Go.RowKit Go.Shelf
open Sec (mostN countN)

/-- The text of a step. -/
def JStep.text (o : JStep) : ByteArray := jtext o.fill (jlen o.size)
theorem JStep.text_le (o : JStep) : o.text.size ≤ 400 := by
  unfold JStep.text
  rw [jtext_size]
  exact jlen_le _
/-- A device of n sectors with its journal behind the arguments' world W; at most k calls have been made on it. -/
structure JSt (W w : World) (a : DAt) (n k : Nat) (jb : Nat) (v : Value) (J : Jrn) (D : Dev) : Prop where
  dev : MDev W w a D
  jrn : JIs w jb a (n / 2) J v
  up : DUp D
  inv : JInv (n / 2) J D.M
  low : Low ((nowL D.M).take (2 * (n / 2))) J.next
  at_ : W.heap.size ≤ jb
  len : D.M.length = n
  n1 : 2 ≤ n ∧ n ≤ 40
  next : J.next ≤ k + 1
  few : J.l.length ≤ k
  k1 : k ≤ 100
section
variable {W w w' : World} {a : DAt} {n k jb : Nat} {v : Value} {J : Jrn} {D : Dev}
theorem JLeft.below {B : Nat} {w0 : World} (hF : JLeft w w' a jb) (hB : Below B w0 w) (h0 : B ≤ w.heap.size) (h1 : B ≤ a.d) (h2 : B ≤ a.g) (h3 : B ≤ a.sb) (h4 : B ≤ a.fb) (h5 : B ≤ jb) : Below B w0 w' :=
  ⟨hF.os.trans hB.os, hF.tape.trans hB.tape, hF.output.trans hB.output, Nat.le_trans hB.size hF.size, fun j hj => (hF.rest j (Nat.lt_of_lt_of_le hj h0) (by omega) (by omega) (by omega) (by omega) (by omega)).trans (hB.block j hj)⟩
theorem JSt.bel (h : JSt W w a n k jb v J D) : Below W.heap.size W w := h.dev.bel
theorem JSt.on (h : JSt W w a n k jb v J D) (hB : Below w.heap.size w w') : JSt W w' a n k jb v J D :=
  ⟨h.dev.on hB, h.jrn.below hB, h.up, h.inv, h.low, h.at_, h.len, h.n1, h.next, h.few, h.k1⟩
theorem JSt.more (h : JSt W w a n k jb v J D) (hk : k + 1 ≤ 100) : JSt W w a n (k + 1) jb v J D :=
  ⟨h.dev, h.jrn, h.up, h.inv, h.low, h.at_, h.len, h.n1, Nat.le_succ_of_le h.next, Nat.le_succ_of_le h.few, hk⟩
theorem JSt.half (h : JSt W w a n k jb v J D) : n / 2 ≤ 4096 ∧ 1 ≤ n / 2 := by have := h.n1; omega
theorem JSt.mostly (h : JSt W w a n k jb v J D) : 1 ≤ J.next ∧ J.next ≤ mostN := by
  have h1 := h.inv.next
  have h2 := h.next
  have h3 := h.k1
  unfold Sec.mostN
  omega
theorem JSt.bank (h : JSt W w a n k jb v J D) : J.bank ≤ 1 := by rcases h.inv.bank with e | e <;> omega
theorem JSt.to {J' : Jrn} {M' : List Sec} {v' : Value} (h : JSt W w a n k jb v J D) (hd : DevIs w' a { D with M := M' }) (hj : JIs w' jb a (n / 2) J' v') (hF : JLeft w w' a jb) (hi : JInv (n / 2) J' M') (hl : Low ((nowL M').take (2 * (n / 2))) J'.next) (hM : M'.length = D.M.length) (hn : J'.next ≤ J.next + 1) (hf : J'.l.length ≤ J.l.length + 1) (hk : k + 1 ≤ 100) : JSt W w' a n (k + 1) jb v' J' { D with M := M' } := by
  have h1 := h.next
  have h2 := h.few
  exact ⟨⟨hd, hF.below h.dev.bel h.dev.bel.size h.dev.hd h.dev.hg h.dev.hsb h.dev.hfb h.at_, h.dev.hd, h.dev.hg, h.dev.hsb, h.dev.hfb⟩, hj, ⟨h.up.down, h.up.left⟩, hi, hl, h.at_, hM.trans h.len, h.n1, by omega, by omega, hk⟩
/-- Append, Compact. -/
theorem JSt.append (h : JSt W w a n k jb v J D) (t : ByteArray) (ht : t.size ≤ 8000) (hk : k + 1 ≤ 100) {R : (Int × Int) × Jrn × List Sec} (hR : jappend (n / 2) t J D.M = R) :
    Calls Tryd.prog 11 #[.pointer (some ⟨jb, 0, none⟩), .string t] w fun e w' => ∃ v', e = .returned (.tuple #[.int .i64 R.1.1, .int .i64 R.1.2]) ∧ Hid (JSt W w' a n (k + 1) jb v' R.2.1 { D with M := R.2.2 }) ∧ Hid (JLeft w w' a jb) := by
  subst hR
  have hN := h.mostly
  obtain ⟨hh, h1⟩ := h.half
  refine (jappend_any h.dev.dev h.up h.inv.fine h.inv.clean h.jrn t hN ht hh h.inv.used h.bank h.inv.banks.1 (by rw [h.len]; have := h.n1; omega) (by have := h.few; have := h.k1; omega)).mono ?_
  rintro e w' ⟨v', rfl, hd, hj, hF⟩
  exact ⟨v', rfl, h.to hd hj hF (append_inv h.inv hN.2 ht) (append_low h.inv hN.2 h.low) append_len append_few.2 append_few.1 hk, hF⟩
theorem JSt.compact (h : JSt W w a n k jb v J D) (t : ByteArray) (ht : t.size ≤ 8000) (hk : k + 1 ≤ 100) {R : (Int × Int) × Jrn × List Sec} (hR : jcompact (n / 2) t J D.M = R) :
    Calls Tryd.prog 12 #[.pointer (some ⟨jb, 0, none⟩), .string t] w fun e w' => ∃ v', e = .returned (.tuple #[.int .i64 R.1.1, .int .i64 R.1.2]) ∧ Hid (JSt W w' a n (k + 1) jb v' R.2.1 { D with M := R.2.2 }) ∧ Hid (JLeft w w' a jb) := by
  subst hR
  have hN := h.mostly
  obtain ⟨hh, h1⟩ := h.half
  refine (jcompact_any h.dev.dev h.up h.inv.fine h.inv.clean h.jrn t hN ht hh h.bank h.inv.banks.2 (by rw [h.len]; have := h.n1; omega)).mono ?_
  rintro e w' ⟨v', rfl, hd, hj, hF⟩
  exact ⟨v', rfl, h.to hd hj hF (compact_inv h.inv hN.2 ht) (compact_low h.inv hN.2 h.low) compact_len compact_few.2 compact_few.1 hk, hF⟩
theorem JSt.room (h : JSt W w a n k jb v J D) : Calls Tryd.prog 9 #[.pointer (some ⟨jb, 0, none⟩)] w fun e w' => e = .returned (.int .i64 ((n / 2 - J.used : Nat) : Int)) ∧ Hid (JSt W w' a n k jb v J D) ∧ Hid (Below w.heap.size w w') := by
  refine (jRoom_any h.jrn h.inv.used (by have := h.half; omega)).mono ?_
  rintro e w' ⟨rfl, hB⟩
  exact ⟨rfl, h.on hB, hB⟩
theorem JSt.nextNo (h : JSt W w a n k jb v J D) : Calls Tryd.prog 10 #[.pointer (some ⟨jb, 0, none⟩)] w fun e w' => e = .returned (.int .i64 (J.next : Int)) ∧ w = w' := jNext_any h.jrn
theorem JSt.bankNo (h : JSt W w a n k jb v J D) : Calls Tryd.prog 14 #[.pointer (some ⟨jb, 0, none⟩)] w fun e w' => e = .returned (.int .i64 (J.bank : Int)) ∧ w = w' := jBank_any h.jrn
theorem JSt.records (h : JSt W w a n k jb v J D) : Calls Tryd.prog 15 #[.pointer (some ⟨jb, 0, none⟩)] w fun e w' => ∃ u, e = .returned u ∧ Hid (NewTexts w w' u (J.l.map Prod.snd)) ∧ Hid (JSt W w' a n k jb v J D) := by
  refine (jRecords_any h.jrn (by have := h.few; have := h.k1; omega)).mono ?_
  rintro e w' ⟨u, rfl, hT⟩
  exact ⟨u, rfl, hT, h.on hT.2.2⟩
theorem JSt.numbers (h : JSt W w a n k jb v J D) : Calls Tryd.prog 23 #[.pointer (some ⟨jb, 0, none⟩)] w fun e w' => ∃ u, e = .returned u ∧ Hid (NewInts w w' u (J.l.map Prod.fst)) ∧ Hid (JSt W w' a n k jb v J D) := by
  refine (jNumbers_any h.jrn (by have := h.few; have := h.k1; omega)).mono ?_
  rintro e w' ⟨u, rfl, hT⟩
  exact ⟨u, rfl, hT, h.on hT.2.2⟩
/-- Wear. -/
def jwear (i : Int) (D : Dev) : Dev := { D with M := if isAt D.M i then upd Sec.wear D.M i else D.M }
theorem JSt.wear (h : JSt W w a n k jb v J D) (i : Int) : Calls Tryd.prog 13 #[.pointer (some ⟨a.d, 0, none⟩), .int .i64 i] w fun e w' => ∃ x : Int, e = .returned (.int .i64 x) ∧ Hid (JSt W w' a n k jb v J (jwear i D)) ∧ Hid (DLeft w w' a) := by
  refine (dWear_any h.dev.dev i).mono ?_
  rintro e w' ⟨rfl, h1, hF⟩
  have hF' : DLeft w w' a := hF
  have hd : MDev W w' a (jwear i D) := h.dev.next hF' h1
  have hj := h.jrn.left h.dev.dev hF'
  refine ⟨_, rfl, ?_, hF'⟩
  have e : jwear i D = { D with M := if isAt D.M i then upd Sec.wear D.M i else D.M } := rfl
  rw [e] at hd ⊢
  by_cases hi : isAt D.M i
  · rw [if_pos hi] at hd ⊢
    obtain ⟨m, rfl⟩ := Int.eq_ofNat_of_zero_le hi.1
    exact ⟨hd, hj, ⟨h.up.down, h.up.left⟩, wear_inv h.inv m, by show Low ((nowL (upd Sec.wear D.M m)).take _) _; rw [wear_now]; exact h.low, h.at_, by show (upd Sec.wear D.M _).length = n; rw [upd_len]; exact h.len, h.n1, h.next, h.few, h.k1⟩
  · rw [if_neg hi] at hd ⊢
    exact ⟨hd, hj, ⟨h.up.down, h.up.left⟩, h.inv, h.low, h.at_, h.len, h.n1, h.next, h.few, h.k1⟩
/-- Mount, on a device that is up and clean, changes nothing. -/
theorem jmount_any (hd : MDev W w a D) (hup : DUp D) (hf : Fine D.M) (hc : Clean D.M) (hN : D.M.length ≤ 1048576) (pv : Value) (P : List Int) (hP : IntsAt W pv P) :
    Calls Tryd.prog 16 #[.pointer (some ⟨a.d, 0, none⟩), pv] w fun e w' => e = .returned (.tuple #[]) ∧ MDev W w' a D ∧ DLeft w w' a := by
  obtain ⟨pb, po, hr2, hpg, hpl, hcc⟩ := jpicks_rest hP hd.bel hd.dev.mem.ne hd.dev.mem.lt.1 hd.hg
  refine (dMount_any hd.dev hf hN pv P pb po hr2 hpg hcc).mono ?_
  rintro e w' ⟨rfl, h1, h2⟩
  have h2' : DLeft w w' a := h2
  refine ⟨rfl, hd.next h2' ?_, h2'⟩
  have e : ({ D with M := doneM (pick P) D.M (idxs Sec.dirty D.M), down := false, left := -1 } : Dev) = D := by
    rw [cut_none P hc]
    obtain ⟨b1, b2, b3, b4, b5, b6, b7⟩ := D
    have q1 := hup.down
    have q2 := hup.left
    dsimp only at q1 q2
    rw [q1, q2]
  rw [e] at h1
  exact h1
theorem JSt.mount (h : JSt W w a n k jb v J D) (pv : Value) (P : List Int) (hP : IntsAt W pv P) : Calls Tryd.prog 16 #[.pointer (some ⟨a.d, 0, none⟩), pv] w fun e w' => e = .returned (.tuple #[]) ∧ Hid (JSt W w' a n k jb v J D) ∧ Hid (DLeft w w' a) := by
  refine (jmount_any h.dev h.up h.inv.fine h.inv.clean (by rw [h.len]; have := h.n1; omega) pv P hP).mono ?_
  rintro e w' ⟨rfl, h1, h2⟩
  exact ⟨rfl, ⟨h1, h.jrn.left h.dev.dev h2, h.up, h.inv, h.low, h.at_, h.len, h.n1, h.next, h.few, h.k1⟩, h2⟩
/-- Open, once more: another journal that finds the same. -/
theorem JSt.open_ (h : JSt W w a n k jb v J D) : Calls Tryd.prog 17 #[.pointer (some ⟨a.d, 0, none⟩)] w fun e w' => ∃ jc u, e = .returned (.tuple #[.pointer (some ⟨jc, 0, none⟩), .int .i64 0]) ∧ Hid (JSt W w' a n k jc u (jopen (n / 2) D.M) D) ∧ Hid (Below w.heap.size w w') := by
  obtain ⟨hh, h1⟩ := h.half
  refine (jOpen_good h.dev.dev h.up h.inv.fine h.inv.clean (n / 2) (by rw [h.len]) h1 (by rw [h.len]; have := h.n1; omega)).mono ?_
  rintro e w' ⟨jc, u, hjc, rfl, hj, hB⟩
  have e2 := jopen_eq h.inv
  have hl : (jopen (n / 2) D.M).l = J.l := by rw [e2]
  have hn := open_low h.inv h.low
  refine ⟨jc, u, rfl, ⟨h.dev.on hB, hj, h.up, open_inv h.inv, open_ends_low h.mostly.2 h.low, Nat.le_trans h.bel.size hjc, h.len, h.n1, Nat.le_trans hn h.next, by rw [hl]; exact h.few, h.k1⟩, hB⟩
end
end Go.Proofs.YtgdpgiegiacepaaDoor
