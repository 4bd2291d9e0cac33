/-
  Layer 22 (memory): one player alone, behind the arguments' world.
-/
import Derived.Test.YtgieiehpnjhkoaaMemL1
import Derived.Test.YtgieiehpnjhkoaaMemQ1
namespace Go.Proofs.Ytgieiehpnjhkoaa
open Go.RowKit Go.Shelf

def Uno (W w : World) (p b g : Nat) (s : St) : Prop :=
  ∃ v, IsPl 42 70 68 w p b g v s ∧ Below W.heap.size W w ∧ (∀ k, v.ownBlock = some k → W.heap.size ≤ k) ∧ W.heap.size ≤ p ∧ W.heap.size ≤ g

section
variable {W w w' : World} {p b g n k : Nat} {s : St}
theorem Duo.uno {r rb rg : Nat} {s2 : St} (hl : Lies W p g r rg) (h : Duo W w p b g r rb rg s s2) : Uno W w p b g s := by
  obtain ⟨v, rv, h1, _, h3, h4, _⟩ := h
  exact ⟨v, h1, h3, h4, hl.hp, hl.hg⟩
theorem uno_start (h1 : 1 ≤ n) (h2 : n ≤ 64) :
    Calls Try.prog 11 #[.int .i64 n] W fun e w' => ∃ p r b g, e = .returned (.tuple #[.pointer (some ⟨p, 0, none⟩), .pointer (some ⟨r, 0, none⟩), .bool true]) ∧ Hid (Uno W w' p b g (startSt n)) := by
  refine (duo_start (W := W) h1 h2).mono ?_
  rintro e w' ⟨p, r, b, g, rb, rg, rfl, hl, hd⟩
  exact ⟨p, r, b, g, rfl, hd.out.uno hl.out⟩
theorem Uno.on (h : Uno W w p b g s) (hB : Below w.heap.size w w') : Uno W w' p b g s := by
  obtain ⟨v, h1, h2, h3⟩ := h
  exact ⟨v, h1.below hB, h2.trans (hB.mono h2.size), h3⟩
theorem Uno.bel (h : Uno W w p b g s) : Below W.heap.size W w := by obtain ⟨_, _, h2, _⟩ := h; exact h2
theorem Uno.cell (h : Uno W w p b g s) : w.cell? ⟨p, 0, none⟩ = some (.pointer (some ⟨b, 0, none⟩)) := by obtain ⟨_, h1, _⟩ := h; exact h1.blk.cell 0
theorem Uno.mem (h : Uno W w p b g s) : PMem w b g s.M := by obtain ⟨_, h1, _⟩ := h; exact h1.mem
theorem Uno.turn {M2 : List Sec} (h : Uno W w p b g s) (hM : PMem w' b g M2) (hg : w.grownBy w' (some g)) : Uno W w' p b g { s with M := M2 } := by
  obtain ⟨v, h1, h2, h3, h4, h5⟩ := h
  exact ⟨v, h1.turn hg hM (by decide) (by decide) (by decide), h2.grown hg h2.size (fun k e => by cases e; exact h5), h3, h4, h5⟩
theorem uno_play (h : Uno W w p b g s) (hs : Sound n k s) (hn : n ≤ 64) (hk : k ≤ 4096) (o : PlainOp) (x : Value) (hx : OpOk W o x) {er : Int} {t : St} (ht : step o s = (er, t)) :
    Calls Try.prog 13 #[.pointer (some ⟨p, 0, none⟩), x] w fun e w' => e = .returned (.int .i64 er) ∧ Hid (Uno W w' p b g t) ∧ ∀ t j cs, t ≠ 42 → t ≠ 68 → t ≠ 54 → Blk w j t cs → Blk w' j t cs := by
  obtain ⟨v, h1, hB, hv, hp, hg⟩ := h
  refine (play_any hB h1 hs (by omega) hk o x hx hg).mono ?_
  rintro e w' ⟨rfl, v', h1', hF⟩
  rw [ht] at h1'
  refine ⟨by rw [ht], ⟨v', h1', hF.below hB hB.size hp hg hv, ?_, hp, hg⟩, fun t j cs q1 q2 q3 hj => hF.blk h1 hj (.inl q1) (.inl q2) q3⟩
  intro k hk
  rcases hF.own k hk with h3 | h3
  · exact hv k h3
  · exact Nat.le_trans hB.size h3
theorem uno_flush (h : Uno W w p b g s) (hs : Sound n k s) (hn : n ≤ 64) :
    Calls Try.prog 20 #[.pointer (some ⟨b, 0, none⟩)] w fun e w' => e = .returned (.tuple #[]) ∧ Hid (Uno W w' p b g { s with M := s.M.map Sec.flushed }) ∧ Hid (w.grownBy w' (some g)) := by
  refine (Flush_any h.mem hs.fine (by rw [hs.len]; omega)).mono ?_
  rintro e w' ⟨rfl, hM, hg⟩
  rw [flush_map hs.fine] at hM
  exact ⟨rfl, h.turn hM hg, hg⟩
theorem uno_cut (h : Uno W w p b g s) (hs : Sound n k s) (hn : n ≤ 64) (v : Value) (P : List Int) (hP : IntsAt W v P) :
    Calls Try.prog 21 #[.pointer (some ⟨b, 0, none⟩), v] w fun e w' => e = .returned (.tuple #[]) ∧ Hid (Uno W w' p b g { s with M := doneM (pick P) s.M (idxs Sec.dirty s.M) }) ∧ Hid (w.grownBy w' (some g)) := by
  have hm := h.mem
  have hg0 : W.heap.size ≤ g := by obtain ⟨_, _, _, _, _, h5⟩ := h; exact h5
  obtain ⟨pb, po, hr, hpg, _, hc⟩ := picks_rest hP h.bel hm.ne hm.lt.1 hg0
  refine (Cut_any hm hs.fine (by rw [hs.len]; omega) v P pb po hr hpg hc).mono ?_
  rintro e w' ⟨rfl, hM, hg⟩
  exact ⟨rfl, h.turn hM hg, hg⟩
theorem uno_wear_in (h : Uno W w p b g s) {i : Int} (hi : isAt s.M i) :
    Calls Try.prog 24 #[.pointer (some ⟨b, 0, none⟩), .int .i64 i] w fun e w' => e = .returned (.int .i64 0) ∧ Hid (Uno W w' p b g { s with M := upd Sec.wear s.M i }) := by
  refine (wear_any h.mem i).mono ?_
  rintro e w' ⟨rfl, hM, hg⟩
  rw [if_pos hi] at hM
  exact ⟨by unfold errOf; rw [if_pos hi], h.turn hM hg⟩
theorem uno_wear_out (h : Uno W w p b g s) {i : Int} (hi : ¬ isAt s.M i) :
    Calls Try.prog 24 #[.pointer (some ⟨b, 0, none⟩), .int .i64 i] w fun e w' => e = .returned (.int .i64 1) ∧ Hid (Below W.heap.size W w') := by
  refine (wear_any h.mem i).mono ?_
  rintro e w' ⟨rfl, hM, hg⟩
  rw [if_neg hi] at hM
  exact ⟨by unfold errOf; rw [if_neg hi], (h.turn hM hg).bel⟩
theorem uno_read (h : Uno W w p b g s) {i : Int} {t : ByteArray} {er : Int} (ht : readT s.M i = t) (he : readE s.M i = er) :
    Calls Try.prog 18 #[.pointer (some ⟨b, 0, none⟩), .int .i64 i] w fun e w' => e = .returned (.tuple #[.string t, .int .i64 er]) ∧ w = w' := by
  rw [← ht, ← he]
  exact Read_any h.mem i
theorem read_at {M : List Sec} {j : Nat} {x : Sec} (h : M[j]? = some x) : readT M j = x.seen ∧ readE M j = 0 := by
  have hj := (List.getElem?_eq_some_iff.1 h).1
  have hi : isAt M (j : Int) := ⟨by omega, by omega⟩
  unfold readT readE
  rw [if_pos hi, if_pos hi]
  refine ⟨?_, rfl⟩
  rw [show ((j : Int)).toNat = j from rfl, List.getD, h]
  rfl
end
theorem Sound.flush {n k : Nat} {s : St} (h : Sound n k s) : Sound n k { s with M := s.M.map Sec.flushed } := by
  refine ⟨by simpa using h.len, ?_, h.imgs, h.each⟩
  intro x hx
  obtain ⟨y, hy, rfl⟩ := List.mem_map.1 hx
  obtain ⟨h1, h2, h3⟩ := h.fine y hy
  unfold Sec.flushed
  split
  · rename_i hd
    exact ⟨h3 hd, h1, fun e => by cases e⟩
  · exact ⟨h1, h2, h3⟩
theorem Sound.turn {n k : Nat} {s : St} {f : Sec → Sec} {i : Int} (h : Sound n k s) (hf : ∀ x : Sec, x.fine → (f x).fine) (hi : isAt s.M i) : Sound n k { s with M := upd f s.M i } :=
  ⟨(upd_len f s.M i).trans h.len, fine_upd h.fine hf hi, h.imgs, h.each⟩
end Go.Proofs.Ytgieiehpnjhkoaa
