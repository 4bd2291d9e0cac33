/-
  Layer 25 (journal): the sectors of a record are written, and read again.
  Layer 24 (sector): strings.Builder's copyCheck and WriteString over this dump, by the walks of the shelf's contracts. (The shelf's laying refuses this dump: its copyCheck bears a statement that the loader refuses.)
  The walks of layer 24 (sector): Pack.
-/
import Derived.Test.YtgdpgiegiacepaaDoorG10
import Derived.Test.YtgdpgiegiacepaaDoorG7
import Derived.Test.YtgdpgiegiacepaaDoorG9
import Derived.Test.YtgdpgiegiacepaaDoorShelf
import Derived.Lib.Builder
import Derived.Lib.AppendStr
import Derived.Lib.UnsafeStr
import Derived.Lib.MakeNoZero
import Derived.Lib.Strings
import Derived.Laws.Externs
import Derived.Laws.BitsLemmas
import Derived.Test.YtgdpgiegiacepaaDoorJsW2
import Derived.RangeFuncBox
namespace Go.Proofs.YtgdpgiegiacepaaDoor
open Go.RowKit Go.Shelf
attribute [local go_sem] Oper.semAt_some

/-- A device that is up for good. -/
structure DUp (D : Dev) : Prop where
  down : D.down = false
  left : D.left = -1
theorem DUp.le {D : Dev} (h : DUp D) : -1 ≤ D.left ∧ D.left ≤ 9223372036854775807 := by rw [h.left]; decide
theorem dstep_good (D : Dev) (F : Dev → Dev) (h : DUp D) (c : Int) (hc : c = 0) : D.dstep c F = (0, F D) := by
  subst hc
  have hl := h.left
  unfold Dev.dstep
  rw [if_neg (by rw [h.down]; decide), if_neg (by decide), if_neg (by rw [hl]; decide), hl]
  have : ({ D with left := max (-1 - 1) (-1) } : Dev) = D := by
    obtain ⟨a1, a2, a3, a4, a5, a6, a7⟩ := D
    dsimp only at hl ⊢
    subst hl
    rfl
  rw [this]
theorem text_eq {x y : ByteArray} (h : x = y) : (x.toList == y.toList) = true := by rw [h]; exact beq_self_eq_true _
theorem meas_up {s k : Nat} (h : k < s) : s - (intOf (.int .i64 ((k : Int) + 1))).toNat < s - (intOf (.int .i64 (k : Int))).toNat := by
  simp [intOf]
  omega
section
variable {w w' : World} {a : DAt} {D : Dev} {l : List ByteArray} {v : Value}
theorem Img.cell {g c m k : Nat} {t : ByteArray} (h : Img w (.slice (some ⟨g, 0, none⟩) m c) l a) (ht : l[k]? = some t) : w.cell? ⟨g, k, none⟩ = some (.string t) := by
  have hk := (List.getElem?_eq_some_iff.1 ht).1
  have hm : m = l.length := by
    rcases h.texts.2 with ⟨h0, _⟩ | ⟨_, _, _, h0, _⟩
    · cases h0
    · cases h0; rfl
  subst hm
  rw [World.ownsRow.cellAt h.texts k (by omega)]
  simp [strCells, ht]
theorem dwrite_good (h : DevIs w a D) (hu : DUp D) (i : Nat) (hi : i < D.M.length) (t : ByteArray) (ht : t.size = 64) :
    Calls Tryd.prog 45 #[.pointer (some ⟨a.d, 0, none⟩), .int .i64 i, .string t] w fun e w' => e = .returned (.int .i64 0) ∧ DevIs w' a { D with M := upd (fun s => s.write t) D.M i } ∧ DLeft w w' a := by
  have hc : chk (isAt D.M (i : Int) ∧ t.size = 64) = 0 := by
    unfold chk
    rw [if_pos ⟨⟨by omega, by omega⟩, ht⟩]
  have h1 := dWrite_any h hu.le i t
  rw [dstep_good D _ hu _ hc] at h1
  exact h1
theorem dread_good (h : DevIs w a D) (hu : DUp D) (i : Nat) (x : Sec) (hx : D.M[i]? = some x) (hc : x.dirty = false) :
    Calls Tryd.prog 30 #[.pointer (some ⟨a.d, 0, none⟩), .int .i64 i] w fun e w' => e = .returned (.tuple #[.string x.now, .int .i64 0]) ∧ w = w' := by
  have hj := (List.getElem?_eq_some_iff.1 hx).1
  have hi : isAt D.M (i : Int) := ⟨by omega, by omega⟩
  have e1 : (if D.down = true then (⟨#[]⟩ : ByteArray) else if isAt D.M (i : Int) then (D.M.getD (i : Int).toNat default).seen else ⟨#[]⟩) = x.now := by
    rw [if_neg (by rw [hu.down]; decide), if_pos hi, Int.toNat_natCast, List.getD_eq_getElem?_getD, hx]
    show x.seen = x.now
    unfold Sec.seen
    rw [hc]
    rfl
  have e2 : (if D.down = true then (14 : Int) else if isAt D.M (i : Int) then 0 else 1) = 0 := by
    rw [if_neg (by rw [hu.down]; decide), if_pos hi]
  have h1 := dRead_any h i
  rw [e1, e2] at h1
  exact h1
/-- A box of the call's own, of a type that no device has. -/
theorem DLeft.box (hF : DLeft w w' a) (h : DevIs w a D) {k : Nat} {t : TypeId} {cs : Array Value} (hk : Blk w k t cs) (ht : t ≠ 68 ∧ t ≠ 101 ∧ t ≠ 9 ∧ t ≠ 4) : Blk w' k t cs :=
  (hF.blk h hk (fun e => absurd e ht.1) (fun e => absurd e ht.2.1) (fun e => absurd e ht.2.2.1) (fun e => absurd e ht.2.2.2)).trans hk
set_option maxRecDepth 100000 in
set_option maxHeartbeats 4000000 in
theorem each_write (h : DevIs w a D) (hu : DUp D) (lb ab o : Nat) (hlb : Blk w lb 38 #[v]) (hab : Blk w ab 3 #[.int .i64 o]) (hI : Img w v l a) (hl : ∀ s ∈ l, s.size = 64) (hb : o + l.length ≤ D.M.length) (hD : D.M.length ≤ 1048576) :
    Calls Tryd.prog 44 #[.func (.func 45) #[.pointer (some ⟨a.d, 0, none⟩)] #[], .pointer (some ⟨lb, 0, none⟩), .pointer (some ⟨ab, 0, none⟩)] w fun e w' => e = .returned (.int .i64 0) ∧ DevIs w' a { D with M := wrL l o D.M } ∧ DLeft w w' a := by
  obtain ⟨A, n, c, rfl⟩ := hI.slice
  have hn : n = l.length := by
    rcases hI.texts.2 with ⟨h0, h1⟩ | ⟨_, _, _, h0, _⟩
    · cases h0; exact h1.symm
    · cases h0; rfl
  subst hn
  have HI := Lib.hid hI
  have Hl := Lib.hid hl
  have Hb := Lib.hid (And.intro hb hD)
  have Hu := Lib.hid hu
  have H := Lib.hid h
  have HL := Lib.hid hlb
  have HA := Lib.hid hab
  have x1 := hlb.cell 0
  clear h hu hlb hI hl hb hD hab
  go_enter Tryd.func44, Tryd.ntmps44
  go_wp2_with fail
  go_loopw [10] (fun i wr => ∃ k : Nat, k ≤ l.length ∧ i = .int .i64 k ∧ Hid (DevIs wr a { D with M := wrL (l.take k) o D.M }) ∧ Hid (DLeft w wr a)) (fun i _ => l.length - (intOf i).toNat)
  case atStart => exact ⟨0, Nat.zero_le _, rfl, H.out, DLeft.refl _⟩
  case round =>
    obtain ⟨k, hk, rfl, hd, hF⟩ := hrel
    have hwk : wrap64 ((k : Int) + 1) = (k : Int) + 1 := by have := Hb.out; unfold wrap64; omega
    have hwo : wrap64 ((o : Int) + (k : Int)) = (o + k : Nat) := by have := Hb.out; unfold wrap64; omega
    by_cases hkl : k < l.length
    · have Hkl := Lib.hid hkl
      have hd1 : decide (k < l.length) = true := decide_eq_true hkl
      obtain ⟨s, hs⟩ : ∃ s, l[k]? = some s := ⟨_, List.getElem?_eq_getElem hkl⟩
      have hI2 := hF.out.img H.out HI.out
      obtain ⟨g, rfl⟩ : ∃ g, A = some ⟨g, 0, none⟩ := by
        rcases hI2.texts.2 with ⟨_, h1⟩ | ⟨g, _, _, h0, _⟩
        · omega
        · cases h0; exact ⟨g, rfl⟩
      have cs := hI2.cell hs
      have ca := (hF.out.box H.out HA.out (by decide)).cell 0
      have hup : DUp { D with M := wrL (l.take k) o D.M } := ⟨Hu.out.down, Hu.out.left⟩
      have hwt := Lib.hid (dwrite_good hd.out hup (o + k) (by show _ < (wrL (l.take k) o D.M).length; rw [wrL_len]; have := Hb.out; omega) s (Hl.out s (List.mem_of_getElem? hs)))
      have hnx : Hid (upd (fun x => x.write s) (wrL (l.take k) o D.M) ((o + k : Nat) : Int) = wrL (l.take (k + 1)) o D.M) := by
        have e : l.take (k + 1) = l.take k ++ [s] := by rw [List.take_add_one, hs]; rfl
        unfold Hid
        rw [e, wrL_snoc, List.length_take, Nat.min_eq_left (by omega)]
      clear hs hI2 hup hkl
      go_wp2_with (first | (go_at_call 45; refine hwt.out.mono ?_; rintro e w1 ⟨rfl, h1, h2⟩))
      go_roundw
      case rel => exact ⟨k + 1, Hkl.out, by go_num, by rw [← hnx.out]; exact h1, hF.out.trans h2⟩
      case measure => rw [hwk]; exact meas_up Hkl.out
    · obtain rfl : k = l.length := by omega
      have hd1 : decide (l.length < l.length) = false := decide_eq_false hkl
      have hfin := hd.out
      rw [List.take_length] at hfin
      have Hfin := Lib.hid hfin
      clear hkl hfin hd
      go_wp2_with fail
      go_ret
      exact ⟨rfl, Hfin.out, hF.out⟩
/-- Another block of the call's own is written. -/
theorem DevIs.off (h : DevIs w a D) {k : Nat} (hg : w.grownBy w' (some k)) (hk : k ≠ a.d ∧ k ≠ a.b ∧ k ≠ a.g ∧ k ≠ a.sb ∧ k ≠ a.fb) : DevIs w' a D := by
  obtain ⟨k1, k2, k3, k4, k5⟩ := hk
  exact ⟨h.blk.grown hg (fun e => k1 (by cases e; rfl)), h.mem.grown hg (fun e => k2 (by cases e; rfl)) (fun e => k3 (by cases e; rfl)), h.srow.kept hg (.inr (fun e => k4 (by cases e; rfl))), h.frow.kept hg (.inr (fun e => k5 (by cases e; rfl)))⟩
theorem Img.off {k : Nat} (h : Img w v l a) (hg : w.grownBy w' (some k)) (hk : v.ownBlock ≠ some k) : Img w' v l a := by
  refine ⟨World.ownsRow.kept h.texts hg ?_, h.own⟩
  cases hv : v.ownBlock with
  | none => exact .inl rfl
  | some j => exact .inr (fun e => hk (by rw [hv]; exact e))
set_option maxRecDepth 100000 in
set_option maxHeartbeats 4000000 in
theorem put2_any (h : DevIs w a D) (hu : DUp D) (i : Nat) (x : Sec) (hx : D.M[i]? = some x) (hc : x.dirty = false) (s : ByteArray) (jx jb wb : Nat) (b : Bool) (hjx : Blk w jx 25 #[.pointer (some ⟨jb, 0, none⟩)]) (hjd : w.cell? ⟨jb, 0, none⟩ = some (.pointer (some ⟨a.d, 0, none⟩))) (hwb : Blk w wb 4 #[.bool b]) :
    Calls Tryd.prog 47 #[.int .i64 i, .string s, .pointer (some ⟨jx, 0, none⟩), .pointer (some ⟨wb, 0, none⟩)] w fun e w' => e = .returned (.int .i64 0) ∧ w' = w.setCell ⟨wb, 0, none⟩ (.bool (b || !(x.now.toList == s.toList))) := by
  have HR := Lib.hid (dread_good h hu i x hx hc)
  have x1 := hjx.cell 0
  have x2 := hwb.cell 0
  have x3 := hwb.frozen 0
  clear h hu hx hc hjx hwb
  cases b with
  | true =>
    go_enter Tryd.func47, Tryd.ntmps47
    go_wp2_with (first | (go_at_call 30; refine HR.out.mono ?_; rintro e w1 ⟨rfl, rfl⟩))
    go_ret
    exact ⟨rfl, rfl⟩
  | false =>
    go_enter Tryd.func47, Tryd.ntmps47
    go_wp2_with (first | (go_at_call 30; refine HR.out.mono ?_; rintro e w1 ⟨rfl, rfl⟩))
    go_ret
    exact ⟨rfl, by simp⟩
end
end Go.Proofs.YtgdpgiegiacepaaDoor
namespace Go.Proofs.YtgdpgiegiacepaaDoor.Sec
open Go.Shelf Go.RowKit

theorem sizeBuilder : (Tryd.prog.info? 84).map (·.size) = some 2 := by kernel_rfl
theorem liesBuilder : liesAt Tryd.prog Tryd.prog.depth 84 (2 / Tryd.prog.cellsOf 84) 0 84 1 = true := by kernel_rfl

set_option maxHeartbeats 1000000 in
set_option maxRecDepth 100000 in
theorem copyCheck_used (b : Nat) (w : World) (h0 : w.cell? ⟨b, 0, none⟩ = some (.pointer (some ⟨b, 0, none⟩))) :
    Calls Tryd.prog 59 #[.pointer (some ⟨b, 0, none⟩)] w fun e w' => e = .returned (.tuple #[]) ∧ w' = w := by
  obtain ⟨j, hj, _⟩ := Option.map_eq_some_iff.1 sizeBuilder
  go_enter Tryd.func59, Tryd.ntmps59
  go_wp2
  rw [Lib.run_neq_ptr_same w _ Tryd.underlying82 hj]
  go_wp2
  go_end0
  exact ⟨rfl, rfl⟩
set_option maxHeartbeats 1000000 in
set_option maxRecDepth 100000 in
theorem copyCheck_fresh (b : Nat) (w : World) (h0 : w.cell? ⟨b, 0, none⟩ = some (.pointer none)) (hsh : w.shape? b = some (84, 2)) (hfz : w.frozen? ⟨b, 0, none⟩ = false) :
    Calls Tryd.prog 59 #[.pointer (some ⟨b, 0, none⟩)] w fun e w' => e = .returned (.tuple #[]) ∧ w' = w.setCell ⟨b, 0, none⟩ (.pointer (some ⟨b, 0, none⟩)) := by
  obtain ⟨j, hj, hjs⟩ := Option.map_eq_some_iff.1 sizeBuilder
  go_enter Tryd.func59, Tryd.ntmps59
  go_wp2
  rw [Lib.run_to_unsafe w ⟨b, 0, none⟩ Tryd.underlying82 Tryd.underlying129 hj (by rw [hjs]; decide) hsh (Nat.zero_lt_succ 1)]
  simp only [Result.andThen]
  rw [Oper.upon_value]
  go_wp2
  rw [run_callFunc_extern Tryd.func71 (by kernel_rfl) (by kernel_rfl) (by kernel_rfl) (e := Extern.AbiNoEscape.same) (by kernel_rfl)]
  rw [Lib.run_noEscape]
  simp only [Result.andThen]
  rw [Oper.upon_value]
  go_wp2
  rw [Lib.run_from_unsafe w ⟨b, 0, none⟩ Tryd.underlying129 Tryd.underlying82 hj hsh liesBuilder]
  simp only [Result.andThen]
  rw [Oper.upon_value]
  go_wp2
  go_end0
  exact ⟨rfl, rfl⟩
theorem copyCheck_any (B b : Nat) (bs : List Value) (w : World) (h : Lib.IsBuilder 84 5 B b bs w) :
    Calls Tryd.prog 59 #[.pointer (some ⟨b, 0, none⟩)] w fun e w' => e = .returned (.tuple #[]) ∧ (Lib.BuilderAt 84 5 B b (.pointer (some ⟨b, 0, none⟩)) bs w' ∧ Below B w w') := by
  rcases h with h | h
  · refine (copyCheck_fresh b w h.cell0 h.shape h.frozen0).mono ?_
    rintro e w' ⟨rfl, rfl⟩
    exact ⟨rfl, h.used _, (Below.refl B w).setCell (p := ⟨b, 0, none⟩) h.1 _⟩
  · refine (copyCheck_used b w h.cell0).mono ?_
    rintro e w' ⟨rfl, rfl⟩
    exact ⟨rfl, h, Below.refl B _⟩
set_option maxHeartbeats 1000000 in
set_option maxRecDepth 100000 in
theorem writeS_any (B b : Nat) (bs : List Value) (s : ByteArray) (w : World) (h : Lib.IsBuilder 84 5 B b bs w) (hlen : bs.length + s.size ≤ 140737488355328) (hBw : B ≤ w.heap.size) :
    Calls Tryd.prog 38 #[.pointer (some ⟨b, 0, none⟩), .string s] w fun e w' => e = .returned (.tuple #[.int .i64 s.size, .nilIface]) ∧ (Lib.BuilderAt 84 5 B b (.pointer (some ⟨b, 0, none⟩)) (bs ++ Lib.strCells s) w' ∧ Below B w w') := by
  obtain ⟨i0, hi, hz0, hz1, hz2⟩ := info_parts infoU8
  go_enter Tryd.func38, Tryd.ntmps38
  go_wp2_with (first | (go_at_call 59; refine (copyCheck_any B b bs _ h).mono ?_; rintro e w1 ⟨rfl, h1, hb1⟩; obtain ⟨hB, v, hbk, hown, hne⟩ := h1; have c0 : w1.cell? ⟨b, 0, none⟩ = some (.pointer (some ⟨b, 0, none⟩)) := (by rw [Lib.cell_of_heap hbk]; rfl); have c1 : w1.cell? ⟨b, 1, none⟩ = some v := (by rw [Lib.cell_of_heap hbk]; rfl)) | (at_builtin; refine Lib.wpList_append_own_string _ rfl _ _ 54 9 rfl B 5 i0 Tryd.underlying54 Tryd.underlying9 hi hz0 hz1 hz2 _ _ _ rfl hown s rfl ?c3 ?c4 ?c5 ?_))
  case c3 => unfold maxLen; omega
  case c4 => omega
  case c5 => have := hb1.size; omega
  intro v' w2 hown' hgrow _
  have hlt : b < w1.heap.size := by
    rcases Nat.lt_or_ge b w1.heap.size with h' | h'
    · exact h'
    · simp [Array.getElem?_eq_none h'] at hbk
  have hb2 : w2.heap[b]? = some (.cells #[.pointer (some ⟨b, 0, none⟩), v] 84 (0, 0)) := by
    rw [hgrow.block b hlt (fun e => hne e.symm)]
    exact hbk
  have d0 : w2.cell? ⟨b, 0, none⟩ = some (.pointer (some ⟨b, 0, none⟩)) := by rw [Lib.cell_of_heap hb2]; rfl
  have d1 : w2.cell? ⟨b, 1, none⟩ = some v := by rw [Lib.cell_of_heap hb2]; rfl
  have f1 : w2.frozen? ⟨b, 1, none⟩ = false := Lib.frozen_of_heap hb2 1
  obtain ⟨ao, n', cap, rfl⟩ : ∃ ao n' cap, v' = .slice ao n' cap := by
    rcases hown'.2 with ⟨hv, _⟩ | ⟨g, cap, cur, hv, _⟩
    · exact ⟨_, _, _, hv⟩
    · exact ⟨_, _, _, hv⟩
  go_wp2
  go_ret2
  refine ⟨rfl, ?_, ?_⟩
  · exact Lib.BuilderAt.put (T := 84) (e := 5) hB hb2 (bs' := bs ++ Lib.strCells s) (by simpa [Lib.strCells_length] using hown') (by decide)
  · exact (hb1.grown hgrow (by have := hb1.size; omega) (fun k hk => (hown.lt k hk).1)).setCell (p := ⟨b, 1, none⟩) hB _
end Go.Proofs.YtgdpgiegiacepaaDoor.Sec
namespace Go.Proofs.YtgdpgiegiacepaaDoor.Sec
open Go.RowKit Go.Shelf
attribute [local go_sem] Oper.semAt_some

/-- Texts as cells. -/
def strCells (l : List ByteArray) : List Value := l.map Value.string
theorem strCells_snoc (l : List ByteArray) (x : ByteArray) : strCells (l ++ [x]) = strCells l ++ [.string x] := by simp [strCells]
theorem strCells_len (l : List ByteArray) : (strCells l).length = l.length := by simp [strCells]
theorem infoString : (Tryd.prog.info? 9).map (fun i => (i.zero, i.size, i.bytes)) = some (some (.string ⟨#[]⟩), 1, 16) := by kernel_rfl
/-- A fresh list of texts. -/
def NewTexts (w w' : World) (v : Value) (l : List ByteArray) : Prop := w'.ownsRow w.heap.size 9 1 v l.length (strCells l) ∧ (v = .slice none 0 0 ↔ l = []) ∧ Below w.heap.size w w'

theorem sectors_any (w : World) (number : Int) (rec : ByteArray) : Calls Tryd.prog 63 #[.int .i64 number, .string rec] w fun e w' =>
    e = .returned (.func (.func 73) #[] #[.pointer (some ⟨w.heap.size + 1, 0, none⟩), .pointer (some ⟨w.heap.size, 0, none⟩)]) ∧ w' = (w.alloc (.cells #[.int .i64 number] 3)).alloc (.cells #[.string rec] 9) := by
  go_enter Tryd.func63, Tryd.ntmps63
  go_wp2_with fail
  go_ret
  exact ⟨rfl, rfl⟩

theorem ownsRow_mono {w : World} {base base' : Nat} {e : TypeId} {size : Nat} {v : Value} {n : Nat} {xs : List Value} (h : w.ownsRow base e size v n xs) (hb : base' ≤ base) : w.ownsRow base' e size v n xs := by
  refine ⟨h.1, ?_⟩
  rcases h.2 with h2 | ⟨g, cap, cur, hv, hg, r⟩
  · exact .inl h2
  · exact .inr ⟨g, cap, cur, hv, Nat.le_trans hb hg, r⟩
/-- A box lies on behind an append into another one. -/
theorem boxed_past {W w1 : World} {B B' : Nat} {t : TypeId} {u v : Value} {tmp : Obj} (h : Boxed W B' t u) (hnv : some B' ≠ v.ownBlock)
    (hgrow : (W.alloc tmp).grownBy w1 v.ownBlock) (hne : B' ≠ B) (v' : Value) : Boxed (w1.setCell ⟨B, 0, none⟩ v') B' t u :=
  ((h.alloc tmp).kept hgrow hnv).kept (grownBy_setCell' w1 B v') (fun e => hne (by cases e; rfl))
/-- What Pack's loop keeps. -/
def Packing (w : World) (number : Nat) (rec : ByteArray) (pre : List Nat) (W : World) : Prop :=
  (∃ v, Boxed W w.heap.size 38 v ∧ W.ownsRow (w.heap.size + 3) 9 1 v pre.length (strCells (pre.map (secText number rec))) ∧ (v = .slice none 0 0 ↔ pre = [])) ∧
    Boxed W (w.heap.size + 1) 3 (.int .i64 number) ∧ Boxed W (w.heap.size + 1 + 1) 9 (.string rec) ∧ Below w.heap.size w W
theorem packing_own (w : World) (number : Nat) (rec : ByteArray) : OwnFrom (w.heap.size + 3) (Packing w number rec) := by
  rintro pre W W' row ⟨⟨v, h1, h2, h3⟩, h4, h5, h7⟩ hgr hr
  refine ⟨⟨v, h1.kept hgr ?_, h2.kept hgr ?_, h3⟩, h4.kept hgr ?_, h5.kept hgr ?_, h7.grown hgr h7.size ?_⟩
  · intro e; have := (hr _ e.symm).1; omega
  · rcases h2.2 with ⟨rfl, _⟩ | ⟨g, cap, cur, rfl, _, hgb, _⟩
    · exact .inl rfl
    · refine .inr fun e' => ?_
      obtain ⟨o, ho, hc⟩ := (hr g (by simpa [Value.ownBlock] using e'.symm)).2
      rw [hgb] at ho; cases ho; cases hc
  · intro e; have := (hr _ e.symm).1; omega
  · intro e; have := (hr _ e.symm).1; omega
  · intro j e; have := (hr j e).1; omega
theorem packing_sees (w : World) (number : Nat) (rec : ByteArray) (pre : List Nat) (W : World) (h : Packing w number rec pre W) : SeesRec (w.heap.size + 1 + 1) (w.heap.size + 1) number rec W := ⟨h.2.2.1.cell, h.2.1.cell⟩

/-- A list in a cell and a number, as results. -/
theorem results_list {fn : Func} {p q : Tmp} (h : fn.results = #[.cell p 38, .tmp q]) (tmps : Array Value) (w : World) (g : Nat) (v : Value) (hp : tmps.getD p undef = .pointer (some ⟨g, 0, none⟩)) (hc : w.cell? ⟨g, 0, none⟩ = some v) :
    (results fn tmps).run Tryd.prog w = .ok (.tuple #[v, tmps.getD q undef]) w := by
  rw [results_cell_tmp h, hp]
  simp [loadVar, asAddr, go_sem, hc]
set_option maxRecDepth 100000 in
set_option maxHeartbeats 4000000 in
theorem pack_in (w : World) (number : Nat) (rec : ByteArray) (h1 : 1 ≤ number) (h2 : number ≤ mostN) (hr : rec.size ≤ 8000) :
    Calls Tryd.prog 43 #[.int .i64 number, .string rec] w fun e w' => ∃ v, e = .returned (.tuple #[v, .int .i64 0]) ∧ NewTexts w w' v ((List.range (countN rec.size)).map (secText number rec)) := by
  obtain ⟨i0, hi, hz0, hz1, hz2⟩ := info_parts infoString
  have d1 : decide ((number : Int) < 1) = false := decide_eq_false (by omega)
  have d2 : decide (4611686018427387904 < (number : Int)) = false := decide_eq_false (by unfold mostN at h2; omega)
  have d3 : decide (8000 < (rec.size : Int)) = false := decide_eq_false (by omega)
  refine (callsIn_wide (n := 4)).1 ?_
  refine callsIn_of_wp_marks Tryd.func43 rfl trivial ?_ rfl
  simp only [Tryd.ntmps43, List.size_toArray, List.length_cons, List.length_nil, Nat.reduceAdd, Nat.reduceSub, Array.replicate_succ, Array.replicate_zero, List.push_toArray, List.append_toArray, List.nil_append, List.cons_append]
  gi_wp2_with (refine ⟨trivial, ?_⟩; gi_at_call 63; refine (callsIn_wide.2 (sectors_any _ _ _)).mono ?_; rintro e w' ⟨rfl, rfl⟩)
  have bO := Boxed.new w 38 (.slice none 0 0)
  have bM := Boxed.new (w.alloc (.cells #[.slice none 0 0] 38)) 3 (.int .i64 number)
  have bI := Boxed.new ((w.alloc (.cells #[.slice none 0 0] 38)).alloc (.cells #[.int .i64 number] 3)) 9 (.string rec)
  rw [World.size_alloc] at bM
  rw [World.size_alloc, World.size_alloc] at bI
  have bO3 := (bO.alloc (.cells #[.int .i64 number] 3)).alloc (.cells #[.string rec] 9)
  have bM3 := bM.alloc (.cells #[.string rec] 9)
  obtain ⟨w0, hw0⟩ : ∃ w0, ((w.alloc (.cells #[.slice none 0 0] 38)).alloc (.cells #[.int .i64 number] 3)).alloc (.cells #[.string rec] 9) = w0 := ⟨_, rfl⟩
  have hs0 : w0.heap.size = w.heap.size + 3 := by rw [← hw0]; simp
  have hB0 : Below w.heap.size w w0 := by rw [← hw0]; exact (((Below.refl _ w).alloc (Nat.le_refl _) _).alloc (by simp) _).alloc (by simp; omega) _
  rw [hw0] at bO3 bM3 bI
  rw [hw0]
  have hN182 : countN rec.size ≤ 182 := by unfold countN; omega
  refine wpIn_rangeFunc_makes rfl (by decide) (gf := 73) (lb := #[.pointer (some ⟨w.heap.size + 1 + 1, 0, none⟩), .pointer (some ⟨w.heap.size + 1, 0, none⟩)]) rfl trivial (enters_of Tryd.func73 (by kernel_rfl) rfl)
    (sectors_seq 3 (by decide) (w.heap.size + 1 + 1) (w.heap.size + 1) number rec h1 h2 hr) (fun _ => rfl)
    (Packing w number rec) (hs0 ▸ packing_own w number rec) (packing_sees w number rec)
    ⟨⟨_, bO3, World.ownsRow_nil _ _ _ _, by simp⟩, bM3, bI, hB0⟩
    (fun i => { tmps := #[.int .i64 number, .string rec, undef, undef, .pointer (some ⟨w.heap.size, 0, none⟩), .int .i64 0, .string (secText number rec i), .bool false, .int .i64 number, .bool false, .bool false, .int .i64 number, .bool false, .bool false, .bool false, .string rec, .int .i64 rec.size, .bool false, .int .i64 number, .string rec,
      .func (.func 73) #[] #[.pointer (some ⟨w.heap.size + 1 + 1, 0, none⟩), .pointer (some ⟨w.heap.size + 1, 0, none⟩)], .string (secText number rec i), undef, undef, undef, undef, undef], defers := [] }) ?assign ?body ?done
  case assign =>
    intro l x W K hK
    gi_wp2
    exact hK
  case body =>
    rintro l pre x W ⟨⟨v, hv, hrow, hnil⟩, hm, hi', hB⟩ ⟨hx, hpre⟩
    have hpl : pre.length = x := by rw [hpre, List.length_range]
    have hc := hv.cell
    clear hpre
    obtain ⟨tx, htx⟩ : ∃ tx, secText number rec x = tx := ⟨_, rfl⟩
    have HTX := Lib.hid htx
    rw [htx]
    clear htx
    have hWs := hi'.lt
    have hn2 : some (w.heap.size + 1 + 1) ≠ v.ownBlock := fun e => by have := (hrow.lt _ e.symm).1; omega
    have hn1 : some (w.heap.size + 1) ≠ v.ownBlock := fun e => by have := (hrow.lt _ e.symm).1; omega
    have hlen : pre.length + 1 ≤ 1000 := by omega
    have HPL := Lib.hid hpl
    clear hpl
    gi_wp2_with (gi_at_builtin; refine wpListIn_append_own _ rfl _ _ 38 rfl (w.heap.size + 3) 9 i0 (.string ⟨#[]⟩) 1 16 Tryd.underlying38 hi hz0 hz1 hz2 rfl (by decide) _ _ _ rfl (hrow.alloc _) ⟨W.heap.size, 0, none⟩ 1 1 [.string tx] rfl rfl (cell_one_new _ _ _) (by simp [Value.oneCell']) (by unfold maxLen; omega) (by omega) (by simp; omega) ?_; intro v' w1 hown' hgrow _; obtain ⟨g', cap', rfl⟩ := ownsRow_succ hown'; obtain ⟨hv1, hv2, _, hk2, hb2⟩ := hv.appended (by decide) (ownsRow_mono hrow (Nat.le_add_right _ 3)) hB.size (Nat.le_refl _) (ownsRow_mono hown' (Nat.le_add_right _ 3)) hgrow; have hr2 := hown'.kept (grownBy_setCell' w1 w.heap.size (.slice (some ⟨g', 0, none⟩) (pre.length + 1) cap')) (.inr (hv1.not_row (by decide) hown').symm); have hm1 := boxed_past hm hn1 hgrow (by omega : w.heap.size + 1 ≠ w.heap.size) (.slice (some ⟨g', 0, none⟩) (pre.length + 1) cap'); have hi1 := boxed_past hi' hn2 hgrow (by omega : w.heap.size + 1 + 1 ≠ w.heap.size) (.slice (some ⟨g', 0, none⟩) (pre.length + 1) cap'); have hc1 := hv1.cell; have hf1 := hv1.frozen)
    refine ⟨hk2, ⟨_, hv2, ?_, by simp⟩, hm1, hi1, hB.trans hb2⟩
    rw [List.length_append, List.map_append, List.map_cons, List.map_nil, HTX.out, strCells_snoc]
    exact hr2
  case done =>
    rintro D xs W hD rfl ⟨⟨v, hv, hrow, hnil⟩, hm, hi', hB⟩ hK
    obtain ⟨A, c, rfl⟩ := ownsRow_slice hrow
    have hc := hv.cell
    have hf := hv.frozen
    gi_wp2
    have hlen : (List.range (countN rec.size)).length = countN rec.size := List.length_range
    have hK2 : (W.setCell ⟨w.heap.size, 0, none⟩ (.slice A (List.range (countN rec.size)).length c)).heap[D]? = some (.deferred (some [])) := (KeepsOthers.setCell _ _ _).same D _ hK rfl
    have hB2 := hB.setCell (p := ⟨w.heap.size, 0, none⟩) (Nat.le_refl _) (.slice A (List.range (countN rec.size)).length c)
    have hr2 := hrow.kept (grownBy_setCell' W w.heap.size (.slice A (List.range (countN rec.size)).length c)) (.inr (hv.not_row (by decide) hrow).symm)
    have hv2 := hv.set (.slice A (List.range (countN rec.size)).length c)
    rw [hlen] at hK2 hB2 hr2 hv2 hnil
    refine ⟨by simp, .inl ⟨_, _, rfl, run_takeDeferred hK2, ?_⟩⟩
    refine ⟨_, results_list (p := 4) (q := 5) rfl _ _ w.heap.size _ rfl (cell_kept hv2.cell (grownBy_putObj' _ D (.deferred none)) (fun r e => by cases e; exact ⟨_, hK2, rfl⟩)), _, rfl, ?_, ?_, ?_⟩
    · rw [List.length_map, hlen]
      exact ownsRow_putObj (ownsRow_mono hr2 (Nat.le_add_right _ 3)) _ hK2 rfl
    · rw [hnil]; simp
    · exact hB2.trans (belowK_b (w := w) (Nat.le_refl _) _ D _ _ (by omega) hK2 rfl rfl)
end Go.Proofs.YtgdpgiegiacepaaDoor.Sec
