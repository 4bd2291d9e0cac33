/-
  Layer 23 (device): what an operation does to the slots; the slots that the law wants.
-/
import Derived.Test.YtcifkahmeimniaaDevL0
import Derived.Laws.IdiomStrings
namespace Go.Proofs.Ytcifkahmeimniaa
open Go.RowKit Go.Shelf

theorem dstep_cases (D : Dev) (c : Int) (F : Dev → Dev) : ((D.dstep c F).1 = 0 ∧ c = 0 ∧ (D.dstep c F).2 = F { D with left := max (D.left - 1) (-1) }) ∨ ((D.dstep c F).1 ≠ 0 ∧ (D.dstep c F).2.slots = D.slots) := by
  unfold Dev.dstep
  split
  · exact .inr ⟨by show (14 : Int) ≠ 0; decide, rfl⟩
  · split
    · rename_i h; exact .inr ⟨h, rfl⟩
    · rename_i hc
      split
      · exact .inr ⟨by show (14 : Int) ≠ 0; decide, rfl⟩
      · exact .inl ⟨rfl, by omega, rfl⟩
theorem dstep_keep (D : Dev) (c : Int) (F : Dev → Dev) (hF : ∀ D : Dev, (F D).slots = D.slots) : (D.dstep c F).2.slots = D.slots := by
  rcases dstep_cases D c F with ⟨_, _, h⟩ | ⟨_, h⟩
  · rw [h, hF]
  · exact h
/-- The slots behind an operation. -/
def slotsNext (o : DOp) (e : Int) (l : List ByteArray) : List ByteArray :=
  if o.kind = 5 ∧ e = 0 then l.set o.a.toNat (dtext o.fill o.short 32) else if o.kind = 11 then List.replicate l.length zero32 else l
theorem dplay_slots (o : DOp) (D : Dev) (I : List ByteArray) : (dplay o D I).2.1.slots = slotsNext o (dplay o D I).1.e D.slots ∧ (o.kind = 5 → (dplay o D I).1.e = 0 → inS D.slots o.a ∧ (dtext o.fill o.short 32).size = 32) := by
  unfold slotsNext
  by_cases k5 : o.kind = 5
  · unfold dplay
    rw [k5, if_neg (by decide), if_neg (by decide), if_neg (by decide), if_neg (by decide), if_pos rfl]
    rcases dstep_cases D (chk (inS D.slots o.a ∧ (dtext o.fill o.short 32).size = 32)) (fun D => { D with slots := D.slots.set o.a.toNat (dtext o.fill o.short 32) }) with ⟨h1, h2, h3⟩ | ⟨h1, h2⟩
    · refine ⟨?_, fun _ _ => chk_zero h2⟩
      show (D.dstep _ _).2.slots = _
      rw [if_pos ⟨rfl, h1⟩, h3]
    · refine ⟨?_, fun _ e => absurd e h1⟩
      show (D.dstep _ _).2.slots = _
      rw [if_neg (fun e => h1 e.2), if_neg (by decide), h2]
  · rw [if_neg (fun e => k5 e.1)]
    refine ⟨?_, fun e => absurd e k5⟩
    by_cases k11 : o.kind = 11
    · rw [if_pos k11]
      unfold dplay
      rw [k11, if_neg (by decide), if_neg (by decide), if_neg (by decide), if_neg (by decide), if_neg (by decide), if_neg (by decide), if_neg (by decide), if_neg (by decide), if_neg (by decide), if_neg (by decide), if_pos rfl]
    · rw [if_neg k11]
      unfold dplay
      by_cases k1 : o.kind = 1
      · rw [if_pos k1]
      rw [if_neg k1]
      by_cases k2 : o.kind = 2
      · rw [if_pos k2]; exact dstep_keep _ _ _ (fun _ => rfl)
      rw [if_neg k2]
      by_cases k3 : o.kind = 3
      · rw [if_pos k3]; exact dstep_keep _ _ _ (fun _ => rfl)
      rw [if_neg k3]
      by_cases k4 : o.kind = 4
      · rw [if_pos k4]
      rw [if_neg k4, if_neg k5]
      by_cases k6 : o.kind = 6
      · rw [if_pos k6]; exact dstep_keep _ _ _ (fun _ => rfl)
      rw [if_neg k6]
      by_cases k7 : o.kind = 7
      · rw [if_pos k7]; exact dstep_keep _ _ _ (fun _ => rfl)
      rw [if_neg k7]
      by_cases k8 : o.kind = 8
      · rw [if_pos k8]; split <;> rfl
      rw [if_neg k8]
      by_cases k9 : o.kind = 9
      · rw [if_pos k9]
      rw [if_neg k9]
      by_cases k10 : o.kind = 10
      · rw [if_pos k10]
      rw [if_neg k10, if_neg k11]
      by_cases k12 : o.kind = 12
      · rw [if_pos k12]
      rw [if_neg k12]
      by_cases k13 : o.kind = 13
      · rw [if_pos k13]
      rw [if_neg k13]
      by_cases k14 : o.kind = 14
      · rw [if_pos k14]
      rw [if_neg k14]
      by_cases k15 : o.kind = 15
      · rw [if_pos k15]
      rw [if_neg k15]

/-- A row of texts that lies whole in a block. -/
def Whole (w : World) (g : Nat) (l : List ByteArray) : Prop := Blk w g 9 (strCells l).toArray
section
variable {w w' : World} {g : Nat} {l : List ByteArray}
theorem Whole.cell (h : Whole w g l) {i : Nat} {t : ByteArray} (ht : l[i]? = some t) : w.cell? ⟨g, i, none⟩ = some (.string t) := by
  rw [Blk.cell h]
  simp [strCells, ht]
theorem Whole.set (h : Whole w g l) (i : Nat) (t : ByteArray) : Whole (w.setCell ⟨g, i, none⟩ (.string t)) g (l.set i t) := by
  have h1 := Blk.set_ h i (.string t)
  unfold Whole
  have e : (strCells (l.set i t)).toArray = (strCells l).toArray.setIfInBounds i (.string t) := by
    simp [strCells, List.map_set]
  rw [e]
  exact h1
/-- The six cells of an operation among the arguments. -/
def SixAt (w : World) (b o : Nat) (x0 x1 x2 x3 x4 x5 : Value) : Prop := w.cell? ⟨b, o, none⟩ = some x0 ∧ w.cell? ⟨b, o + 1, none⟩ = some x1 ∧ w.cell? ⟨b, o + 2, none⟩ = some x2 ∧ w.cell? ⟨b, o + 3, none⟩ = some x3 ∧ w.cell? ⟨b, o + 4, none⟩ = some x4 ∧ w.cell? ⟨b, o + 5, none⟩ = some x5
theorem SixAt.below {b o : Nat} {x0 x1 x2 x3 x4 x5 : Value} (h : SixAt w b o x0 x1 x2 x3 x4 x5) (hB : Below w.heap.size w w') (hb : b < w.heap.size) : SixAt w' b o x0 x1 x2 x3 x4 x5 := by
  obtain ⟨h0, h1, h2, h3, h4, h5⟩ := h
  exact ⟨(hB.cell (p := ⟨b, o, none⟩) hb).trans h0, (hB.cell (p := ⟨b, o + 1, none⟩) hb).trans h1, (hB.cell (p := ⟨b, o + 2, none⟩) hb).trans h2, (hB.cell (p := ⟨b, o + 3, none⟩) hb).trans h3, (hB.cell (p := ⟨b, o + 4, none⟩) hb).trans h4, (hB.cell (p := ⟨b, o + 5, none⟩) hb).trans h5⟩
theorem SixAt.set {b o : Nat} {x0 x1 x2 x3 x4 x5 : Value} (h : SixAt w b o x0 x1 x2 x3 x4 x5) (hb : b < w.heap.size) {k : Nat} (hk : k ≠ b) (i : Nat) (v : Value) : SixAt (w.setCell ⟨k, i, none⟩ v) b o x0 x1 x2 x3 x4 x5 := by
  obtain ⟨h0, h1, h2, h3, h4, h5⟩ := h
  have hg := grown_set w k i v
  have hne : ∀ j, some (⟨b, j, none⟩ : Addr).block ≠ some k := fun j e => hk (by cases e; rfl)
  exact ⟨hg.cell h0 (hne _), hg.cell h1 (hne _), hg.cell h2 (hne _), hg.cell h3 (hne _), hg.cell h4 (hne _), hg.cell h5 (hne _)⟩
/-- 32 zero bytes, as cells. -/
def zcells : Array Value := Array.replicate 32 (.int .u8 0)
theorem make32 (w : World) : (Instr.makeSlice 42 (.int .i64 32) (.int .i64 32)).run Try.prog w = .ok (.slice (some ⟨w.heap.size, 0, none⟩) 32 32) (w.alloc (.cells zcells 5)) := by kernel_rfl
theorem conv32 (w : World) : (convert 42 9 (.slice (some ⟨w.heap.size, 0, none⟩) 32 32)).run Try.prog (w.alloc (.cells zcells 5)) = .ok (.string zero32) (w.alloc (.cells zcells 5)) := by
  have h := run_convert_bytes_back (P := Try.prog) (w.alloc (.cells zcells 5)) 42 9 5 ⟨w.heap.size, 0, none⟩ 32 (List.replicate 32 (0 : UInt8)) Try.underlying42 Try.underlying5 Try.underlying9 (fun j hj => by
    have hb := (Blk.new w 5 zcells).cell j
    have e : (⟨w.heap.size, 0, none⟩ : Addr).add j = ⟨w.heap.size, j, none⟩ := by
      simp [Addr.add]; intro e; exact e.symm
    rw [e, hb]
    have hj' : j < 32 := by simpa using hj
    rw [List.getElem_replicate]
    have hz : zcells[j]? = some (.int .u8 0) := by
      unfold zcells
      rw [Array.getElem?_replicate, if_pos hj']
    rw [hz]
    rfl)
  exact h
theorem made_whole {s : Nat} (w : World) : Whole (w.alloc (.cells (madeCells #[.string ⟨#[]⟩] s) 9)) w.heap.size (List.replicate s ⟨#[]⟩) := by
  have h := Blk.new w 9 (madeCells #[.string ⟨#[]⟩] s)
  have e : (strCells (List.replicate s (⟨#[]⟩ : ByteArray))).toArray = madeCells #[.string ⟨#[]⟩] s := by
    apply Array.ext'
    rw [made_list]
    simp [strCells]
  unfold Whole
  rw [e]
  exact h
end
end Go.Proofs.Ytcifkahmeimniaa
