import Derived.Test.YtpghocekofdpbaaGreatDoorQb11
import Derived.Test.YtpghocekofdpbaaGreatDoorQb08
import Derived.ProofKit
import Derived.Deep.Slices
import Derived.Deep.RegionHeld3
import Derived.Deep.OwnRows
namespace Go.Proofs.YtpghocekofdpbaaGreatDoor
open Go.RowKit Go.Shelf
theorem ownsRow_same {w w' : World} {base : Nat} {e : TypeId} {size : Nat} {v : Value} {n : Nat} {xs : List Value} (h : w.ownsRow base e size v n xs) (hk : ∀ k cs, v.ownBlock = some k -> Blk w k e cs -> w'.heap[k]? = w.heap[k]?) : w'.ownsRow base e size v n xs := by
 obtain ⟨h1, h2⟩ := h
 refine ⟨h1, ?_⟩
 rcases h2 with h2 | ⟨g, cap, cur, hv, hg, hh, r⟩
 ·exact Or.inl h2
 ·exact Or.inr ⟨g, cap, cur, hv, hg, (hk g cur (by rw [hv]; rfl) hh).trans hh, r⟩
theorem ownsRow_blk {w : World} {base : Nat} {e : TypeId} {size k n c : Nat} {xs : List Value} (h : w.ownsRow base e size (.slice (some ⟨k, 0, none⟩) n c) n xs) : ∃ cur, Blk w k e cur := by
 rcases h.2 with ⟨h0, _⟩ | ⟨g, cap, cur, hv, _, hh, _⟩
 ·cases h0
 ·cases hv
  exact ⟨cur, hh⟩
structure DAt where
 d : Nat
 b : Nat
 g : Nat
 sb : Nat
 sc : Nat
 fb : Nat
 fc : Nat
def DevIs (w : World) (a : DAt) (D : Dev) : Prop := IsDev w a.d a.b a.g a.sb a.sc a.fb a.fc D
def DLeft (w w' : World) (a : DAt) : Prop := DFr w w' a.d a.g a.sb a.fb
section
variable {W w w' w2 : World} {a c : DAt} {D E : Dev}
theorem DevIs.gblk (h : DevIs w a D) : ∃ cs, Blk w a.g 139 cs := by
 obtain ⟨_, cur, _, h2, _⟩ := h.mem.body
 exact ⟨cur, h2⟩
theorem DevIs.mblk (h : DevIs w a D) : ∃ cs, Blk w a.b 137 cs := by
 obtain ⟨_, cur, h2, _⟩ := h.mem.body
 exact ⟨_, h2⟩
theorem DevIs.sblk (h : DevIs w a D) : ∃ cs, Blk w a.sb 9 cs := ownsRow_blk h.srow
theorem DevIs.fblk (h : DevIs w a D) : ∃ cs, Blk w a.fb 4 cs := ownsRow_blk h.frow
theorem DLeft.blk (hF : DLeft w w' a) (h : DevIs w a D) {k : Nat} {t : TypeId} {cs : Array Value} (hk : Blk w k t cs) (h1 : t = 89 -> k ≠ a.d) (h2 : t = 139 -> k ≠ a.g) (h3 : t = 9 -> k ≠ a.sb) (h4 : t = 4 -> k ≠ a.fb) : w'.heap[k]? = w.heap[k]? := by
 obtain ⟨_, q2⟩ := h.gblk
 obtain ⟨_, q3⟩ := h.sblk
 obtain ⟨_, q4⟩ := h.fblk
 refine hF.rest k hk.lt ?_ ?_ ?_ ?_
 ·by_cases e : t = 89
  ·exact h1 e
  ·exact hk.ne_ h.blk e
 ·by_cases e : t = 139
  ·exact h2 e
  ·exact hk.ne_ q2 e
 ·by_cases e : t = 9
  ·exact h3 e
  ·exact hk.ne_ q3 e
 ·by_cases e : t = 4
  ·exact h4 e
  ·exact hk.ne_ q4 e
structure Img (w : World) (v : Value) (I : List ByteArray) (a : DAt) : Prop where
 texts : Texts w v I
 own : ∀ k, v.ownBlock = some k -> k ≠ a.sb
theorem Img.slice {v : Value} {I : List ByteArray} (h : Img w v I a) : ∃ A n c, v = .slice A n c := by
 obtain ⟨A, c, e, _⟩ := h.texts.parts
 exact ⟨A, _, c, e⟩
theorem DLeft.img {v : Value} {I : List ByteArray} (hF : DLeft w w' a) (h : DevIs w a D) (k : Img w v I a) : Img w' v I a :=
 ⟨ownsRow_same k.texts (fun j cs e hj => hF.blk h hj (fun e => by cases e) (fun e => by cases e) (fun _ => k.own j e) (fun e => by cases e)), k.own⟩
theorem Img.below {v : Value} {I : List ByteArray} (h : Img w v I a) (hB : Below w.heap.size w w') : Img w' v I a := ⟨ownsRow_below h.texts hB (Nat.le_refl _), h.own⟩
theorem DevIs.below (h : DevIs w a D) (hB : Below w.heap.size w w') : DevIs w' a D := IsDev.below h hB
theorem DLeft.refl (w : World) : DLeft w w a := DFr.refl w
theorem DLeft.trans (h : DLeft w w' a) (k : DLeft w' w2 a) : DLeft w w2 a := DFr.trans (w' := w') h k
theorem DLeft.ofBelow (hB : Below w.heap.size w w') : DLeft w w' a := DFr.ofBelow hB
end
end Go.Proofs.YtpghocekofdpbaaGreatDoor
namespace Go.Proofs.YtpghocekofdpbaaGreatDoor
open Go.ChangeShapes Go.WideShapes Go.ChangeAt Go.RowKit Go.Deep
theorem Tryz.own : ownKnob Tryz.prog.godebug = none := by kernel_rfl
theorem Tryz.laidOut : laidOutB Tryz.prog = true := by kernel_rfl
theorem cellsInt : Tryz.prog.cellsOf 3 = 1 := by kernel_rfl
theorem cellsInts : Tryz.prog.cellsOf 30 = 1 := by kernel_rfl
theorem cellsU8 : Tryz.prog.cellsOf 5 = 1 := by kernel_rfl
theorem cell_spot {w : World} {a : Addr} {v : Value} (h : w.cell? a = some v) : a = ⟨a.block, a.off, none⟩ /\ a.block < w.heap.size := by
 obtain ⟨b, o, sp⟩ := a
 unfold World.cell? at h
 split at h
 ·rename_i c e f hh
  split at h
  ·cases h
  ·rename_i hsp
   have hs : sp = none := by
    cases sp with
    | none => rfl
    | some x => simp at hsp
   exact ⟨by rw [hs], (Array.getElem?_eq_some_iff.1 hh).1⟩
 ·cases h
section
variable {H : Type} {enc : TypeId × Value -> H} {w : World} {base : Nat} {spare : Nat -> Bool} {held : Bool}
theorem u8_nat {a : Int} (h : (Lit.int .u8 a).wf = true) : ∃ n : Nat, a = n /\ n < 256 := by
 simp [Lit.wf, IntKind.min, IntKind.max, IntKind.signed, IntKind.bits] at h
 exact ⟨a.toNat, by omega, by omega⟩
theorem i64_in {a : Int} (h : (Lit.int .i64 a).wf = true) : -9223372036854775808 <= a /\ a <= 9223372036854775807 := by
 simp [Lit.wf, IntKind.min, IntKind.max, IntKind.signed, IntKind.bits] at h
 omega
theorem open_ints {m : Nat} {cs : List Value} {x : DataW H × List MemPlace} (h : DataW.trod enc Tryz.prog w base spare held m 30 cs = some x) :
  ∃ (pv : Value) (P : List Int), cs = [pv] /\ IntsAt w pv P := by
 rcases open_slice1 Tryz.underlying30 cellsInt h with ⟨rfl, _⟩ | ⟨a, len, cap, m', n, V, D, Pl, rfl, _, hl, hm, hmm, _, hx⟩
 ·exact ⟨_, [], rfl, none, 0, rfl, Nat.le_refl _, Nat.zero_le _, fun h => absurd h (by simp)⟩
 ·have hml : len <= m' := by
   cases hsp : spare a.block with
   | true => rw [hmm, hsp]; simpa using hl
   | false => rw [hmm, hsp]; simp
  obtain ⟨T, hT⟩ := choose_lt (α := Int) (n := len) (p := fun i T => w.cell? (a.add i) = some (.int .i64 T)) (fun i hi => by
   obtain ⟨h1, h2⟩ := hx i (by omega)
   obtain ⟨k, hk, _, _⟩ := DataW.trod_int Tryz.underlying3 h2
   simp at hk
   exact ⟨k, by rw [h1, hk]⟩)
  have hlen : ((List.range len).map T).length = len := by rw [List.length_map, List.length_range]
  refine ⟨_, (List.range len).map T, rfl, some a, cap, by rw [hlen], by rw [hlen]; exact hl, hm, fun h0 => ?_⟩
  rw [hlen] at h0
  have h00 := hT 0 h0
  have ha0 : a.add 0 = a := by simp [Addr.add]
  rw [ha0] at h00
  obtain ⟨ha, hbl⟩ := cell_spot h00
  refine ⟨a.block, a.off, by rw [<- ha], hbl, fun i y hy => ?_⟩
  rw [List.getElem?_map] at hy
  obtain ⟨i', hi', rfl⟩ := Option.map_eq_some_iff.1 hy
  have hil : i < len := by have := (List.getElem?_eq_some_iff.1 hi').1; simpa using this
  have : i' = i := by rw [List.getElem?_range hil] at hi'; cases hi'; rfl
  subst this
  have := hT i' hil
  rw [ha, Addr.add_lit] at this
  exact this
end
end Go.Proofs.YtpghocekofdpbaaGreatDoor
namespace Go.Proofs.YtpghocekofdpbaaGreatDoor
open Go.RowKit Go.Shelf
attribute [local go_sem] Oper.semAt_some
section
variable {w : World} {a : DAt} {D : Dev}
theorem DevIs.sizes (h : DevIs w a D) : a.d < w.heap.size /\ a.g < w.heap.size /\ a.sb < w.heap.size /\ a.fb < w.heap.size := by
 obtain ⟨_, q2⟩ := h.gblk
 obtain ⟨_, q3⟩ := h.sblk
 obtain ⟨_, q4⟩ := h.fblk
 exact ⟨h.blk.lt, q2.lt, q3.lt, q4.lt⟩
end
end Go.Proofs.YtpghocekofdpbaaGreatDoor
namespace Go.Proofs.YtpghocekofdpbaaGreatDoor
open Go.RowKit Go.Shelf
attribute [local go_sem] Oper.semAt_some
set_option maxRecDepth 100000 in
set_option maxHeartbeats 1600000 in
theorem dNew_bad (w : World) (x y z : Int) (h : ¬ (1 <= x /\ x <= 4096 /\ 1 <= y /\ y <= 16 /\ 1 <= z /\ z <= 16)) :
  Calls Tryz.prog 45 #[.int .i64 x, .int .i64 y, .int .i64 z] w fun e w' => e = .returned (.tuple #[.pointer none, .int .i64 1]) /\ Below w.heap.size w w' := by
 by_cases hx : x < 1 \/ 4096 < x
 ·have HM := Lib.hid (New_bad w x hx)
  clear h hx
  go_enter Tryz.func45, Tryz.ntmps45
  go_wp2_with (go_at_call 82; refine HM.out.mono ?_; rintro e w1 ⟨rfl, rfl⟩)
  go_ret2
  exact ⟨rfl, Below.refl _ _⟩
 ·obtain ⟨n, rfl⟩ := Int.eq_ofNat_of_zero_le (show 0 <= x by omega)
  have HM := Lib.hid (New_ok w n (by omega) (by omega))
  by_cases h1 : min y z < 1
  ·have d1 : decide (min y z < 1) = true := decide_eq_true h1
   clear h hx h1
   go_enter Tryz.func45, Tryz.ntmps45
   go_wp2_with (go_at_call 82; refine HM.out.mono ?_; rintro e w1 ⟨b, g, rfl, l1, l2, hM, hB⟩)
   go_ret2
   exact ⟨rfl, hB⟩
  ·have d1 : decide (min y z < 1) = false := decide_eq_false h1
   have d2 : decide (16 < max y z) = true := decide_eq_true (by omega)
   clear h hx h1
   go_enter Tryz.func45, Tryz.ntmps45
   go_wp2_with (go_at_call 82; refine HM.out.mono ?_; rintro e w1 ⟨b, g, rfl, l1, l2, hM, hB⟩)
   go_ret2
   exact ⟨rfl, hB⟩
theorem made_list (z : Value) (n : Nat) : (madeCells #[z] n).toList = List.replicate n z := by
 unfold madeCells
 rw [Array.toList_map, Array.toList_range, List.eq_replicate_iff]
 refine ⟨by simp, fun b hb => ?_⟩
 obtain ⟨i, _, rfl⟩ := List.mem_map.1 hb
 simp [Nat.mod_one]
theorem made_row {w : World} {g n : Nat} {e : TypeId} (z : Value) (h : Blk w g e (madeCells #[z] n)) (hn : n <= 16) : w.ownsRow 0 e 1 (.slice (some ⟨g, 0, none⟩) n n) n (List.replicate n z) := by
 refine ⟨by simp, .inr ⟨g, n, _, rfl, Nat.zero_le _, h, Nat.le_refl _, by unfold maxLen; omega, ?_, ?_⟩⟩
 ·rw [size_madeCells, Nat.mul_one]
 ·rw [made_list, Nat.mul_one, List.take_of_length_le (by simp)]
def rawDev (n s f : Nat) : Dev := ⟨List.replicate s ⟨#[]⟩, List.replicate f false, 0, 0, List.replicate n Sec.blank, false, -1⟩
theorem raw_fresh (n s f : Nat) : { rawDev n s f with slots := List.replicate (rawDev n s f).slots.length zero32 } = freshDev n s f := by
 unfold rawDev freshDev
 simp
theorem raw_dev {w : World} {a : DAt} {n s f : Nat} (hs : s <= 16) (hf : f <= 16) (hM : PMem w a.b a.g (List.replicate n Sec.blank)) (e1 : a.sc = s) (e2 : a.fc = f)
  (hb : Blk w a.d 89 #[.slice (some ⟨a.sb, 0, none⟩) s s, .slice (some ⟨a.fb, 0, none⟩) f f, .int .i64 0, .int .i64 0, .pointer (some ⟨a.b, 0, none⟩), .bool false, .int .i64 (-1)])
  (h1 : Blk w a.sb 9 (madeCells #[.string ⟨#[]⟩] s)) (h2 : Blk w a.fb 4 (madeCells #[.bool false] f)) : DevIs w a (rawDev n s f) := by
 obtain ⟨d, b, g, sb, sc, fb, fc⟩ := a
 dsimp only at *
 subst e1
 subst e2
 have r1 := made_row _ h1 hs
 have r2 := made_row _ h2 hf
 refine ⟨?_, hM, ?_, ?_⟩
 ·simpa [rawDev] using hb
 ·simpa [rawDev, strCells] using r1
 ·simpa [rawDev, boolCells] using r2
set_option maxRecDepth 100000 in
set_option maxHeartbeats 4000000 in
theorem dNew_ok (w : World) (n s f : Nat) (hn : 1 <= n /\ n <= 4096) (hs : 1 <= s /\ s <= 16) (hf : 1 <= f /\ f <= 16) :
  Calls Tryz.prog 45 #[.int .i64 n, .int .i64 s, .int .i64 f] w fun e w' => ∃ a : DAt, e = .returned (.tuple #[.pointer (some ⟨a.d, 0, none⟩), .int .i64 0]) /\ DevIs w' a (freshDev n s f) /\ (w.heap.size <= a.d /\ w.heap.size <= a.g /\ w.heap.size <= a.sb /\ w.heap.size <= a.fb) /\ Below w.heap.size w w' := by
 have HM := Lib.hid (New_ok w n hn.1 hn.2)
 have d1 : decide (min (s : Int) f < 1) = false := decide_eq_false (by omega)
 have d2 : decide (16 < max (s : Int) f) = false := decide_eq_false (by omega)
 have k1 : ∀ wx, (Instr.makeSlice 35 (.int .i64 s) (.int .i64 s)).run Tryz.prog wx = .ok (.slice (some ⟨wx.heap.size, 0, none⟩) s s) (wx.alloc (.cells (madeCells #[.string ⟨#[]⟩] s) 9)) := fun wx => run_make_row' 35 9 _ 16 Tryz.underlying35 infoString rfl .i64 .i64 s (by omega) (by omega) wx
 have k2 : ∀ wx, (Instr.makeSlice 84 (.int .i64 f) (.int .i64 f)).run Tryz.prog wx = .ok (.slice (some ⟨wx.heap.size, 0, none⟩) f f) (wx.alloc (.cells (madeCells #[.bool false] f) 4)) := fun wx => run_make_row' 84 4 _ 1 Tryz.underlying84 infoBool rfl .i64 .i64 f (by omega) (by omega) wx
 have Hn := Lib.hid (And.intro hn (And.intro hs hf))
 clear hn hs hf
 go_enter Tryz.func45, Tryz.ntmps45
 go_wp2_with (go_at_call 82; refine HM.out.mono ?_; rintro e w1 ⟨b, g, rfl, l1, l2, hM, hB⟩)
 go_region
 ·have hk0 := Blk.new w1 89 #[.slice (some ⟨w1.heap.size + 1, 0, none⟩) s s, .slice (some ⟨w1.heap.size + 1 + 1, 0, none⟩) f f, .int .i64 0, .int .i64 0, .pointer (some ⟨b, 0, none⟩), .bool false, .int .i64 (-1)]
  have hs0 : (w1.alloc (.cells #[.slice (some ⟨w1.heap.size + 1, 0, none⟩) s s, .slice (some ⟨w1.heap.size + 1 + 1, 0, none⟩) f f, .int .i64 0, .int .i64 0, .pointer (some ⟨b, 0, none⟩), .bool false, .int .i64 (-1)] 89)).heap.size = w1.heap.size + 1 := by simp
  have hB0 : Below w1.heap.size w1 (w1.alloc (.cells #[.slice (some ⟨w1.heap.size + 1, 0, none⟩) s s, .slice (some ⟨w1.heap.size + 1 + 1, 0, none⟩) f f, .int .i64 0, .int .i64 0, .pointer (some ⟨b, 0, none⟩), .bool false, .int .i64 (-1)] 89)) := (Below.refl _ _).alloc (Nat.le_refl _) _
  generalize w1.alloc (.cells #[.slice (some ⟨w1.heap.size + 1, 0, none⟩) s s, .slice (some ⟨w1.heap.size + 1 + 1, 0, none⟩) f f, .int .i64 0, .int .i64 0, .pointer (some ⟨b, 0, none⟩), .bool false, .int .i64 (-1)] 89) = w2 at hk0 hs0 hB0 ⊢
  have hk1 := Blk.new w2 9 (madeCells #[.string ⟨#[]⟩] s)
  have hs1 : (w2.alloc (.cells (madeCells #[.string ⟨#[]⟩] s) 9)).heap.size = w1.heap.size + 1 + 1 := by simp [hs0]
  have hB1 := hB0.alloc (by omega) (.cells (madeCells #[.string ⟨#[]⟩] s) 9)
  have hk0 := hk0.alloc (.cells (madeCells #[.string ⟨#[]⟩] s) 9)
  generalize w2.alloc (.cells (madeCells #[.string ⟨#[]⟩] s) 9) = w3 at hk0 hk1 hs1 hB1 ⊢
  have hk2 := Blk.new w3 4 (madeCells #[.bool false] f)
  have hB2 := (hB1.alloc (by omega) (.cells (madeCells #[.bool false] f) 4)).drew
  have hk0 := (hk0.alloc (.cells (madeCells #[.bool false] f) 4)).drew
  have hk1 := (hk1.alloc (.cells (madeCells #[.bool false] f) 4)).drew
  have hk2 := hk2.drew
  generalize (w3.alloc (.cells (madeCells #[.bool false] f) 4)).drew = w4 at hk0 hk1 hk2 hB2 ⊢
  rw [hs0] at hk1
  rw [hs1] at hk2
  have hsz := hB.size
  have hD : DevIs w4 ⟨w1.heap.size, b, g, w1.heap.size + 1, s, w1.heap.size + 1 + 1, f⟩ (rawDev n s f) := raw_dev Hn.out.2.1.2 Hn.out.2.2.2 (hM.below hB2 hM.lt.1 hM.lt.2) rfl rfl hk0 hk1 hk2
  have HBB := Lib.hid (hB.trans (hB2.mono hsz))
  have HBt := Lib.hid (dBattery_any hD (by unfold rawDev; dsimp only; rw [List.length_replicate]; have := Hn.out.2.1.2; omega))
  have Hsz := Lib.hid hsz
  clear hk0 hk1 hk2 hs0 hs1 hB0 hB1 hB2 hM hB k1 k2
  go_wp2_with (first | (go_at_call 54; refine HBt.out.mono ?_; rintro e w5 ⟨rfl, hE, hF⟩))
  go_ret2
  rw [raw_fresh] at hE
  have := Hsz.out
  exact ⟨⟨w1.heap.size, b, g, w1.heap.size + 1, s, w1.heap.size + 1 + 1, f⟩, rfl, hE, ⟨this, l2, by dsimp only; omega, by dsimp only; omega⟩, DFr.below hF HBB.out HBB.out.size this l2 (by omega) (by omega)⟩
 ·have hk0 := Blk.new w1 89 #[.slice (some ⟨w1.heap.size + 1 + 1, 0, none⟩) s s, .slice (some ⟨w1.heap.size + 1, 0, none⟩) f f, .int .i64 0, .int .i64 0, .pointer (some ⟨b, 0, none⟩), .bool false, .int .i64 (-1)]
  have hs0 : (w1.alloc (.cells #[.slice (some ⟨w1.heap.size + 1 + 1, 0, none⟩) s s, .slice (some ⟨w1.heap.size + 1, 0, none⟩) f f, .int .i64 0, .int .i64 0, .pointer (some ⟨b, 0, none⟩), .bool false, .int .i64 (-1)] 89)).heap.size = w1.heap.size + 1 := by simp
  have hB0 : Below w1.heap.size w1 (w1.alloc (.cells #[.slice (some ⟨w1.heap.size + 1 + 1, 0, none⟩) s s, .slice (some ⟨w1.heap.size + 1, 0, none⟩) f f, .int .i64 0, .int .i64 0, .pointer (some ⟨b, 0, none⟩), .bool false, .int .i64 (-1)] 89)) := (Below.refl _ _).alloc (Nat.le_refl _) _
  generalize w1.alloc (.cells #[.slice (some ⟨w1.heap.size + 1 + 1, 0, none⟩) s s, .slice (some ⟨w1.heap.size + 1, 0, none⟩) f f, .int .i64 0, .int .i64 0, .pointer (some ⟨b, 0, none⟩), .bool false, .int .i64 (-1)] 89) = w2 at hk0 hs0 hB0 ⊢
  have hk1 := Blk.new w2 4 (madeCells #[.bool false] f)
  have hs1 : (w2.alloc (.cells (madeCells #[.bool false] f) 4)).heap.size = w1.heap.size + 1 + 1 := by simp [hs0]
  have hB1 := hB0.alloc (by omega) (.cells (madeCells #[.bool false] f) 4)
  have hk0 := hk0.alloc (.cells (madeCells #[.bool false] f) 4)
  generalize w2.alloc (.cells (madeCells #[.bool false] f) 4) = w3 at hk0 hk1 hs1 hB1 ⊢
  have hk2 := Blk.new w3 9 (madeCells #[.string ⟨#[]⟩] s)
  have hB2 := (hB1.alloc (by omega) (.cells (madeCells #[.string ⟨#[]⟩] s) 9)).drew
  have hk0 := (hk0.alloc (.cells (madeCells #[.string ⟨#[]⟩] s) 9)).drew
  have hk1 := (hk1.alloc (.cells (madeCells #[.string ⟨#[]⟩] s) 9)).drew
  have hk2 := hk2.drew
  generalize (w3.alloc (.cells (madeCells #[.string ⟨#[]⟩] s) 9)).drew = w4 at hk0 hk1 hk2 hB2 ⊢
  rw [hs0] at hk1
  rw [hs1] at hk2
  have hsz := hB.size
  have hD : DevIs w4 ⟨w1.heap.size, b, g, w1.heap.size + 1 + 1, s, w1.heap.size + 1, f⟩ (rawDev n s f) := raw_dev Hn.out.2.1.2 Hn.out.2.2.2 (hM.below hB2 hM.lt.1 hM.lt.2) rfl rfl hk0 hk2 hk1
  have HBB := Lib.hid (hB.trans (hB2.mono hsz))
  have HBt := Lib.hid (dBattery_any hD (by unfold rawDev; dsimp only; rw [List.length_replicate]; have := Hn.out.2.1.2; omega))
  have Hsz := Lib.hid hsz
  clear hk0 hk1 hk2 hs0 hs1 hB0 hB1 hB2 hM hB k1 k2
  go_wp2_with (first | (go_at_call 54; refine HBt.out.mono ?_; rintro e w5 ⟨rfl, hE, hF⟩))
  go_ret2
  rw [raw_fresh] at hE
  have := Hsz.out
  exact ⟨⟨w1.heap.size, b, g, w1.heap.size + 1 + 1, s, w1.heap.size + 1, f⟩, rfl, hE, ⟨this, l2, by dsimp only; omega, by dsimp only; omega⟩, DFr.below hF HBB.out HBB.out.size this l2 (by omega) (by omega)⟩
end Go.Proofs.YtpghocekofdpbaaGreatDoor
