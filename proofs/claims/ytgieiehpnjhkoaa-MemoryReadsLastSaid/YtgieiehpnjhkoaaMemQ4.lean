/-
  Layer 22 (memory), plain: what was written last; a map of texts.
-/
import Derived.Test.YtgieiehpnjhkoaaMemK4
import Derived.Maps.StringElems
namespace Go.Proofs.Ytgieiehpnjhkoaa
open Go.RowKit Go.Maps Go.Shelf

/-- The text that is wanted at a sector. -/
def wantAt (f : Int → Option ByteArray) (k : Int) : ByteArray := (f k).getD zeros
/-- Each sector shows what is wanted, and none is worn. -/
def Wants (M : List Sec) (f : Int → Option ByteArray) : Prop := ∀ (k : Nat) (x : Sec), M[k]? = some x → x.worn = false ∧ x.seen = wantAt f k

theorem wants_start (n : Nat) : Wants (startSt n).M (fun _ => none) := by
  intro k x hx
  have : x = Sec.blank := by
    have h := List.mem_of_getElem? hx
    exact List.eq_of_mem_replicate h
  rw [this]
  exact ⟨rfl, rfl⟩
theorem wants_flush {M : List Sec} {f : Int → Option ByteArray} (h : Wants M f) : Wants (M.map Sec.flushed) f := by
  intro k x hx
  rw [List.getElem?_map] at hx
  obtain ⟨y, hy, rfl⟩ := Option.map_eq_some_iff.1 hx
  obtain ⟨h1, h2⟩ := h k y hy
  unfold Sec.flushed
  unfold Sec.seen at h2 ⊢
  split
  · rename_i hd
    rw [if_pos hd] at h2
    exact ⟨h1, h2⟩
  · rename_i hd
    rw [if_neg hd] at h2
    exact ⟨h1, h2⟩
/-- The wanted texts behind one operation. -/
def wantNext (o : PlainOp) (er : Int) (f : Int → Option ByteArray) : Int → Option ByteArray :=
  if o.kind = 1 ∧ er = 0 then fun j => if o.i = j then some (textOf o.fill o.size) else f j else f
theorem wants_step {n k : Nat} {o : PlainOp} {s : St} {er : Int} {t : St} {f : Int → Option ByteArray} (hs : Sound n k s) (h : Wants s.M f) (ht : step o s = (er, t)) (hk : o.kind = 1 ∨ o.kind = 2) : Wants t.M (wantNext o er f) := by
  rcases hk with hk | hk
  · unfold step at ht
    rw [if_pos hk] at ht
    by_cases hin : isAt s.M o.i ∧ (textOf o.fill o.size).size = 64
    · rw [if_pos hin, if_pos hin] at ht
      cases ht
      unfold wantNext
      rw [if_pos ⟨hk, rfl⟩]
      obtain ⟨j, x, hj, hx, hup⟩ := isAt_get hin.1
      intro i y hy
      dsimp only at hy
      rw [hup] at hy
      unfold wantAt
      dsimp only
      by_cases hij : j = i
      · subst hij
        rw [List.getElem?_set_self (List.getElem?_eq_some_iff.1 hx).1] at hy
        cases hy
        obtain ⟨h1, _⟩ := h j x hx
        have hw : ¬ x.worn = true := by rw [h1]; decide
        unfold Sec.write
        rw [if_neg hw, hj, if_pos rfl]
        exact ⟨h1, rfl⟩
      · rw [List.getElem?_set_ne hij] at hy
        rw [hj, if_neg (by omega)]
        exact h i y hy
    · rw [if_neg hin, if_neg hin] at ht
      cases ht
      unfold wantNext
      rw [if_neg (fun e => absurd e.2 (by decide))]
      exact h
  · unfold step at ht
    rw [if_neg (by omega), if_pos hk] at ht
    cases ht
    unfold wantNext
    rw [if_neg (fun e => by omega)]
    dsimp only
    rw [flush_map hs.fine]
    exact wants_flush h
theorem wants_read {M : List Sec} {f : Int → Option ByteArray} (h : Wants M f) {k : Nat} (hk : k < M.length) : readT M k = wantAt f k ∧ readE M k = 0 := by
  have hx := List.getElem?_eq_getElem hk
  obtain ⟨h1, h2⟩ := read_at hx
  exact ⟨h1.trans (h k _ hx).2, h2⟩

/-- A map from numbers to texts, in memory. -/
def TxtMap (w : World) (mb N : Nat) (f : Int → Option ByteArray) : Prop :=
  ∃ D : DataW Unit, w.ownsMap Try.prog 3 (plainElem Try.prog 9) mb N D ∧ ∀ k : Int, has D (.int .i64 k) = (f k).isSome ∧ ∀ t, f k = some t → D.atKey (.int .i64 k) (.lit (.string [])) = .lit (.string (toL t))

theorem zeroS (w : World) : (zeroValue 9).run Try.prog w = .ok (.string ⟨#[]⟩) w := by kernel_rfl
set_option maxRecDepth 100000 in
theorem plainElem_str_inv {v : Value} {l : List UInt8} {ps : List MemPlace} (h : plainElem (H := Unit) Try.prog 9 v = some (.lit (.string l), ps)) : ∃ s, v = .string s ∧ toL s = l := by
  obtain ⟨s, rfl, e, _⟩ := plainElem_string_inv Try.underlying9 h
  simp only [Prod.mk.injEq, DataW.lit.injEq, Lit.string.injEq] at e
  exact ⟨s, rfl, e.1.symm⟩
section
variable {W w w' : World} {mb N : Nat} {f : Int → Option ByteArray}
theorem TxtMap.look (h : TxtMap w mb N f) {k : Int} (hk : (Lit.int .i64 k).wf = true) : (Instr.lookup 46 (.map (some mb)) (.int .i64 k) true).run Try.prog w = .ok (.tuple #[.string ((f k).getD ⟨#[]⟩), .bool (f k).isSome]) w := by
  obtain ⟨D, h1, h2⟩ := h
  obtain ⟨v, ps, hrun, hv⟩ := h1.look_ok lawInt Try.underlying46 (zeroS w) (plainElem_string (s := ⟨#[]⟩) Try.underlying9 (Nat.zero_le _)) (keyI hk)
  obtain ⟨h3, h4⟩ := h2 k
  have hv' : v = .string ((f k).getD ⟨#[]⟩) := by
    cases hf : f k with
    | some t =>
      have e := h4 t hf
      have e' : D.atKey (.int .i64 k) (.lit (.string (⟨#[]⟩ : ByteArray).data.toList)) = .lit (.string (toL t)) := e
      rw [e'] at hv
      obtain ⟨s, rfl, e2⟩ := plainElem_str_inv hv
      rw [toL_inj e2]
      rfl
    | none =>
      rw [hf] at h3
      rw [atKey_of_not_has h3] at hv
      obtain ⟨s, rfl, e2⟩ := plainElem_str_inv hv
      have : s = ⟨#[]⟩ := toL_inj (b := ⟨#[]⟩) e2
      rw [this]
      rfl
  rw [hrun, h3, hv']
theorem TxtMap.kept {row : Option Nat} (h : TxtMap w mb N f) (hg : w.grownBy w' row) (hne : some mb ≠ row) : TxtMap w' mb N f := by
  obtain ⟨D, h1, h2⟩ := h
  exact ⟨D, h1.kept hg hne, h2⟩
theorem TxtMap.below (h : TxtMap w mb N f) (hB : Below w.heap.size w w') : TxtMap w' mb N f := h.kept (grown_below hB (Nat.le_refl _) none) (by simp)
theorem TxtMap.ne {t : TypeId} {g : Nat} {cs : Array Value} (h : TxtMap w mb N f) (hg : Blk w g t cs) : mb ≠ g := by
  obtain ⟨D, ⟨es, clock, hb, _⟩, _⟩ := h
  intro e
  subst e
  have := hb.symm.trans hg
  simp at this
theorem txtMap_new (w : World) : TxtMap (w.alloc (.map #[] 0)) w.heap.size 0 (fun _ => none) := ⟨.map [], World.ownsMap_made _ _ _ _, fun _ => ⟨rfl, fun t e => by cases e⟩⟩
theorem TxtMap.mono (h : TxtMap w mb N f) {N' : Nat} (hn : N ≤ N') : TxtMap w mb N' f := by
  obtain ⟨D, h1, h2⟩ := h
  exact ⟨D, h1.mono hn, h2⟩
theorem txt_put {D : DataW Unit} (hD : IsMap D) (hat : ∀ k : Int, has D (.int .i64 k) = (f k).isSome ∧ ∀ t, f k = some t → D.atKey (.int .i64 k) (.lit (.string [])) = .lit (.string (toL t))) (i : Int) (s : ByteArray) :
    ∀ k : Int, has (D.put (.int .i64 i) (.lit (.string (toL s)))) (.int .i64 k) = ((fun j => if i = j then some s else f j) k).isSome ∧ ∀ t, (fun j => if i = j then some s else f j) k = some t → (D.put (.int .i64 i) (.lit (.string (toL s)))).atKey (.int .i64 k) (.lit (.string [])) = .lit (.string (toL t)) := by
  intro k
  dsimp only
  by_cases hk : i = k
  · subst hk
    rw [if_pos rfl]
    refine ⟨has_put_same hD (by trivial) _, fun t e => ?_⟩
    cases e
    exact atKey_put_same hD (by trivial) _ _
  · rw [if_neg hk]
    have hne : (Lit.int .i64 k) ≠ (Lit.int .i64 i) := fun e => by cases e; exact hk rfl
    obtain ⟨h1, h2⟩ := hat k
    refine ⟨(has_put_other hne _).trans h1, fun t e => ?_⟩
    rw [atKey_put_other hne]
    exact h2 t e
variable {p b g n k : Nat} {s : St}
/-- Maps lie on. -/
def KM (w w' : World) : Prop := ∀ mb N f, TxtMap w mb N f → TxtMap w' mb N f
theorem km_below (hB : Below w.heap.size w w') : KM w w' := fun _ _ _ h => h.below hB
theorem uno_play3 (h : Uno W w p b g s) (hs : Sound n k s) (hn : n ≤ 64) (hk : k ≤ 4096) (o : PlainOp) (x : Value) (hx : OpOk W o x) {er : Int} {t : St} (ht : step o s = (er, t)) :
    Calls Try.prog 13 #[.pointer (some ⟨p, 0, none⟩), x] w fun e w' => e = .returned (.int .i64 er) ∧ Hid (Uno W w' p b g t) ∧ (∀ t j cs, t ≠ 42 → t ≠ 68 → t ≠ 54 → Blk w j t cs → Blk w' j t cs) ∧ KM w w' := by
  obtain ⟨v, h1, hB, hv, hp, hg⟩ := h
  refine (play_any hB h1 hs (by omega) hk o x hx hg).mono ?_
  rintro e w' ⟨rfl, v', h1', hF⟩
  rw [ht] at h1'
  refine ⟨by rw [ht], ⟨v', h1', hF.below hB hB.size hp hg hv, ?_, hp, hg⟩, fun t j cs q1 q2 q3 hj => hF.blk h1 hj (.inl q1) (.inl q2) q3, ?_⟩
  · intro k hk
    rcases hF.own k hk with h3 | h3
    · exact hv k h3
    · exact Nat.le_trans hB.size h3
  · intro mb N f hm
    obtain ⟨cap, cur, _, hgb, _⟩ := h1.mem.body
    obtain ⟨vals, hr, _⟩ := h1.imgs
    have hm' := hm
    obtain ⟨D, ⟨es, clock, hb, hrest⟩, hat⟩ := hm
    refine ⟨D, ⟨es, clock, (hF.rest mb (Array.getElem?_eq_some_iff.1 hb).1 (hm'.ne h1.blk) (hm'.ne hgb) (fun e => ?_)).trans hb, hrest⟩, hat⟩
    rcases hr.2 with ⟨rfl, _⟩ | ⟨gb, cap, cur, rfl, _, hgb2, _⟩
    · simp [Value.ownBlock] at e
    · have : gb = mb := by simpa [Value.ownBlock] using e
      subst this
      exact hm'.ne hgb2 rfl
theorem Uno.tmapped (h : Uno W w p b g s) (hb : TxtMap w mb N f) (hg : w.grownBy w' (some mb)) (hW : W.heap.size ≤ mb) : Uno W w' p b g s := by
  obtain ⟨v, h1, h2, h3, h4, h5⟩ := h
  obtain ⟨cap, cur, hbb, hgb, _⟩ := h1.mem.body
  exact ⟨v, ⟨h1.blk.grown hg (fun e => hb.ne h1.blk (by cases e; rfl)), h1.mem.grown hg (fun e => hb.ne hbb (by cases e; rfl)) (fun e => hb.ne hgb (by cases e; rfl)), h1.imgs.kept hg (fun k t cs e hk => by cases e; exact absurd rfl (hb.ne hk))⟩,
    h2.grown hg h2.size (fun k e => by cases e; exact hW), h3, h4, h5⟩
theorem Uno.txtmap (h : Uno W w p b g s) (hb : TxtMap w mb N f) (hg : w.grownBy w' (some g)) : TxtMap w' mb N f := by
  obtain ⟨cap, cur, _, hgb, _⟩ := h.mem.body
  exact hb.kept hg (fun e => hb.ne hgb (by cases e; rfl))
end
end Go.Proofs.Ytgieiehpnjhkoaa
