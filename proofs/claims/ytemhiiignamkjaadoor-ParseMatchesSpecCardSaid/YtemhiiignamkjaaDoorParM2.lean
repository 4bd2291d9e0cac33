/-
  Layer 12 (parse), printing: a set of texts in memory (a map from texts to bools); a policy in memory, wherever it lies.
-/
import Derived.Test.YtemhiiignamkjaaDoorND
namespace Go.Proofs.YtemhiiignamkjaaDoor
open Go.RowKit Go.Maps LexP ParP
/-- A text stands in a list. -/
def memB (k : ByteArray) (l : List ByteArray) : Bool := l.any fun x => decide (x = k)
theorem memB_snoc (k s : ByteArray) (l : List ByteArray) : memB k (l ++ [s]) = (memB k l || decide (s = k)) := by simp [memB]
/-- A set of texts, in memory. -/
def SetMap (w : World) (mb N : Nat) (l : List ByteArray) : Prop :=
  ∃ D : DataW Unit, w.ownsMap Tryd.prog 9 (plainElem Tryd.prog 4) mb N D ∧ ∀ k : ByteArray, has D (.string k.data.toList) = memB k l ∧ (memB k l = true → D.atKey (.string k.data.toList) (.lit (.bool false)) = .lit (.bool true))
theorem zeroB (w : World) : (zeroValue 4).run Tryd.prog w = .ok (.bool false) w := by kernel_rfl
set_option maxRecDepth 100000 in
theorem plainElem_bool_inv {v : Value} {z : DataW Unit × List MemPlace} (h : plainElem Tryd.prog 4 v = some z) : ∃ a, v = .bool a ∧ z = (.lit (.bool a), []) := by
  unfold plainElem at h
  rw [Tryd.underlying4] at h
  cases v <;> simp only [reduceCtorEq] at h
  cases h
  exact ⟨_, rfl, rfl⟩
section
variable {w w' : World} {mb N : Nat} {l : List ByteArray}
theorem SetMap.look (h : SetMap w mb N l) {s : ByteArray} (hs : s.size ≤ maxLen) : (Instr.lookup 105 (.map (some mb)) (.string s) false).run Tryd.prog w = .ok (.bool (memB s l)) w := by
  obtain ⟨D, h1, h2⟩ := h
  obtain ⟨v, ps, hrun, hv⟩ := h1.lookup lawStr Tryd.underlying105 (zeroB w) (plainElem_bool Tryd.underlying4 false) (keyS hs)
  obtain ⟨h3, h4⟩ := h2 s
  have hv' : v = .bool (memB s l) := by
    cases hf : memB s l
    case true =>
      rw [h4 hf] at hv
      obtain ⟨c, rfl, hc⟩ := plainElem_bool_inv hv
      simp only [Prod.mk.injEq, DataW.lit.injEq, Lit.bool.injEq] at hc
      rw [← hc.1]
    case false =>
      rw [hf] at h3
      rw [atKey_of_not_has h3] at hv
      obtain ⟨c, rfl, hc⟩ := plainElem_bool_inv hv
      simp only [Prod.mk.injEq, DataW.lit.injEq, Lit.bool.injEq] at hc
      rw [← hc.1]
  rw [hrun, hv']
theorem SetMap.below (h : SetMap w mb N l) (hB : Below w.heap.size w w') : SetMap w' mb N l := by
  obtain ⟨D, h1, h2⟩ := h
  exact ⟨D, h1.kept (hgrownB hB (Nat.le_refl _) none) (by simp), h2⟩
theorem SetMap.lt (h : SetMap w mb N l) : mb < w.heap.size := by obtain ⟨D, h1, _⟩ := h; exact h1.lt
theorem SetMap.ne {t : TypeId} {g : Nat} {cs : Array Value} (h : SetMap w mb N l) (hg : Blk w g t cs) : mb ≠ g := by
  obtain ⟨D, ⟨es, clock, hb, _⟩, _⟩ := h
  intro e
  subst e
  have := hb.symm.trans hg
  simp at this
theorem setMap_new (w : World) : SetMap (w.alloc (.map #[] 0)) w.heap.size 0 [] := ⟨.map [], World.ownsMap_made _ _ _ _, fun _ => ⟨rfl, fun e => nomatch e⟩⟩
theorem SetMap.put (h : SetMap w mb N l) (hN : N < 1000000) {s : ByteArray} (hs : s.size ≤ maxLen) :
    ∃ w', (Instr.mapUpdate 105 (.map (some mb)) (.string s) (.bool true)).run Tryd.prog w = .ok () w' ∧ SetMap w' mb (N + 1) (l ++ [s]) ∧ w.grownBy w' (some mb) := by
  obtain ⟨D, h1, h2⟩ := h
  obtain ⟨w', hrun, r1, r2⟩ := h1.update lawStr Tryd.underlying105 (Nat.lt_trans hN (by unfold maxLen; decide)) (keyS hs) (plainElem_bool Tryd.underlying4 true)
  refine ⟨w', hrun, ⟨_, r1, fun k => ?_⟩, r2⟩
  by_cases hk : k = s
  · subst hk
    exact ⟨by rw [has_put_same h1.isMap (by trivial) _, memB_snoc]; simp, fun _ => atKey_put_same h1.isMap (by trivial) _ _⟩
  · have hne : (Lit.string k.data.toList) ≠ Lit.string s.data.toList := fun e => hk (ByteArray.ext (Array.ext' (by simpa using e)))
    obtain ⟨h3, h4⟩ := h2 k
    have e1 : memB k (l ++ [s]) = memB k l := by rw [memB_snoc, decide_eq_false (fun e => hk e.symm), Bool.or_false]
    refine ⟨?_, fun e => ?_⟩
    · rw [has_put_other hne _, h3, e1]
    · rw [atKey_put_other hne _ _]
      exact h4 (e1.symm.trans e)
end
/-- A row of cells, wherever it lies. -/
def RowAt (w : World) (B : Nat) (v : Value) (n : Nat) (cs : List Value) : Prop :=
  ∃ A c, v = .slice A n c ∧ (0 < n → ∃ b o, A = some ⟨b, o, none⟩ ∧ b < B ∧ ∀ j x, cs[j]? = some x → w.cell? ⟨b, o + j, none⟩ = some x)
theorem RowAt.below {w w' : World} {B : Nat} {v : Value} {n : Nat} {cs : List Value} (h : RowAt w B v n cs) (hb : Below B w w') : RowAt w' B v n cs := by
  obtain ⟨A, c, hv, h⟩ := h
  refine ⟨A, c, hv, fun hl => ?_⟩
  obtain ⟨b, o, hA, hbl, h⟩ := h hl
  exact ⟨b, o, hA, hbl, fun j x hx => (hb.cell (p := ⟨b, _, none⟩) hbl).trans (h j x hx)⟩
theorem rowAt_own {w : World} {base k n : Nat} {el : TypeId} {v : Value} {cs : List Value} (h : w.ownsRow base el k v n cs) : RowAt w w.heap.size v n cs := by
  obtain ⟨A, c, rfl⟩ := own_slice h
  refine ⟨A, c, rfl, fun hl => ?_⟩
  obtain ⟨g, rfl, _⟩ := own_none h hl
  refine ⟨g, 0, rfl, (h.lt g rfl).2, fun j x hx => ?_⟩
  have hc := h.cells (g := g) rfl j x hx
  rwa [Addr.add_lit] at hc
/-- A policy, wherever it lies. -/
def PolAt (w : World) (B : Nat) (v : Value) (p : Pol) : Prop :=
  ∃ vt vr vq, v = .agg #[.string p.name, vt, vr, vq] ∧ RowAt w B vt p.typs.length (typC p.typs) ∧ RowAt w B vr p.ruls.length (rulC p.ruls) ∧ RowAt w B vq p.quos.length (quoC p.quos)
theorem PolAt.below {w w' : World} {B : Nat} {v : Value} {p : Pol} (h : PolAt w B v p) (hb : Below B w w') : PolAt w' B v p := by
  obtain ⟨vt, vr, vq, hv, h1, h2, h3⟩ := h
  exact ⟨vt, vr, vq, hv, h1.below hb, h2.below hb, h3.below hb⟩
theorem polAt_own {w : World} {B : Nat} {v : Value} {p : Pol} (h : PolIs w B v p) : PolAt w w.heap.size v p := by
  obtain ⟨vt, vr, vq, hv, h1, h2, h3⟩ := h
  exact ⟨vt, vr, vq, hv, rowAt_own h1, rowAt_own h2, rowAt_own h3⟩
theorem typC_get (l : List Typ) (i : Nat) (t : Typ) (h : l[i]? = some t) :
    (typC l)[i * 3]? = some (.string t.name) ∧ (typC l)[i * 3 + 1]? = some (.int .i64 t.flags) ∧ (typC l)[i * 3 + 2]? = some (.int .i64 t.life) := by
  induction l generalizing i with
  | nil => cases h
  | cons a l ih =>
    have e : typC (a :: l) = [.string a.name, .int .i64 a.flags, .int .i64 a.life] ++ typC l := rfl
    cases i with
    | zero => cases h; exact ⟨rfl, rfl, rfl⟩
    | succ i =>
      obtain ⟨h0, h1, h2⟩ := ih i h
      rw [e, show (i + 1) * 3 = (i * 3) + 3 by omega, show i * 3 + 3 + 1 = (i * 3 + 1) + 3 by omega, show i * 3 + 3 + 2 = (i * 3 + 2) + 3 by omega]
      exact ⟨h0, h1, h2⟩
theorem rulC_get (l : List Rul) (i : Nat) (t : Rul) (h : l[i]? = some t) :
    (rulC l)[i * 3]? = some (.int .i64 t.kind) ∧ (rulC l)[i * 3 + 1]? = some (.int .i64 t.a) ∧ (rulC l)[i * 3 + 2]? = some (.int .i64 t.b) := by
  induction l generalizing i with
  | nil => cases h
  | cons a l ih =>
    have e : rulC (a :: l) = [.int .i64 a.kind, .int .i64 a.a, .int .i64 a.b] ++ rulC l := rfl
    cases i with
    | zero => cases h; exact ⟨rfl, rfl, rfl⟩
    | succ i =>
      obtain ⟨h0, h1, h2⟩ := ih i h
      rw [e, show (i + 1) * 3 = (i * 3) + 3 by omega, show i * 3 + 3 + 1 = (i * 3 + 1) + 3 by omega, show i * 3 + 3 + 2 = (i * 3 + 2) + 3 by omega]
      exact ⟨h0, h1, h2⟩
theorem quoC_get (l : List Quo) (i : Nat) (t : Quo) (h : l[i]? = some t) :
    (quoC l)[i * 5]? = some (.int .i64 t.cmd) ∧ (quoC l)[i * 5 + 1]? = some (.int .i64 t.count) ∧ (quoC l)[i * 5 + 2]? = some (.int .i64 t.delay) ∧ (quoC l)[i * 5 + 3]? = some (.int .i64 t.valid) ∧ (quoC l)[i * 5 + 4]? = some (.int .i64 t.uses) := by
  induction l generalizing i with
  | nil => cases h
  | cons a l ih =>
    have e : quoC (a :: l) = [.int .i64 a.cmd, .int .i64 a.count, .int .i64 a.delay, .int .i64 a.valid, .int .i64 a.uses] ++ quoC l := rfl
    cases i with
    | zero => cases h; exact ⟨rfl, rfl, rfl, rfl, rfl⟩
    | succ i =>
      obtain ⟨h0, h1, h2, h3, h4⟩ := ih i h
      rw [e, show (i + 1) * 5 = (i * 5) + 5 by omega, show i * 5 + 5 + 1 = (i * 5 + 1) + 5 by omega, show i * 5 + 5 + 2 = (i * 5 + 2) + 5 by omega, show i * 5 + 5 + 3 = (i * 5 + 3) + 5 by omega, show i * 5 + 5 + 4 = (i * 5 + 4) + 5 by omega]
      exact ⟨h0, h1, h2, h3, h4⟩
/-- The element of a row of types, and so on: where it lies. -/
theorem RowAt.typ {w : World} {B : Nat} {A : Option Addr} {c : Nat} {l : List Typ} (h : RowAt w B (.slice A l.length c) l.length (typC l)) (i : Nat) (t : Typ) (ht : l[i]? = some t) :
    ∃ b o, A = some ⟨b, o, none⟩ ∧ b < B ∧ w.cell? ⟨b, o + i * 3, none⟩ = some (.string t.name) ∧ w.cell? ⟨b, o + i * 3 + 1, none⟩ = some (.int .i64 t.flags) ∧ w.cell? ⟨b, o + i * 3 + 2, none⟩ = some (.int .i64 t.life) := by
  obtain ⟨A', c', hv, h⟩ := h
  cases hv
  obtain ⟨b, o, hA, hbl, h⟩ := h (Nat.lt_of_le_of_lt (Nat.zero_le i) (List.getElem?_eq_some_iff.1 ht).1)
  obtain ⟨h0, h1, h2⟩ := typC_get l i t ht
  exact ⟨b, o, hA, hbl, h _ _ h0, h _ _ h1, h _ _ h2⟩
theorem RowAt.rul {w : World} {B : Nat} {A : Option Addr} {c : Nat} {l : List Rul} (h : RowAt w B (.slice A l.length c) l.length (rulC l)) (i : Nat) (t : Rul) (ht : l[i]? = some t) :
    ∃ b o, A = some ⟨b, o, none⟩ ∧ b < B ∧ w.cell? ⟨b, o + i * 3, none⟩ = some (.int .i64 t.kind) ∧ w.cell? ⟨b, o + i * 3 + 1, none⟩ = some (.int .i64 t.a) ∧ w.cell? ⟨b, o + i * 3 + 2, none⟩ = some (.int .i64 t.b) := by
  obtain ⟨A', c', hv, h⟩ := h
  cases hv
  obtain ⟨b, o, hA, hbl, h⟩ := h (Nat.lt_of_le_of_lt (Nat.zero_le i) (List.getElem?_eq_some_iff.1 ht).1)
  obtain ⟨h0, h1, h2⟩ := rulC_get l i t ht
  exact ⟨b, o, hA, hbl, h _ _ h0, h _ _ h1, h _ _ h2⟩
theorem RowAt.quo {w : World} {B : Nat} {A : Option Addr} {c : Nat} {l : List Quo} (h : RowAt w B (.slice A l.length c) l.length (quoC l)) (i : Nat) (t : Quo) (ht : l[i]? = some t) :
    ∃ b o, A = some ⟨b, o, none⟩ ∧ b < B ∧ w.cell? ⟨b, o + i * 5, none⟩ = some (.int .i64 t.cmd) ∧ w.cell? ⟨b, o + i * 5 + 1, none⟩ = some (.int .i64 t.count) ∧ w.cell? ⟨b, o + i * 5 + 2, none⟩ = some (.int .i64 t.delay) ∧ w.cell? ⟨b, o + i * 5 + 3, none⟩ = some (.int .i64 t.valid) ∧ w.cell? ⟨b, o + i * 5 + 4, none⟩ = some (.int .i64 t.uses) := by
  obtain ⟨A', c', hv, h⟩ := h
  cases hv
  obtain ⟨b, o, hA, hbl, h⟩ := h (Nat.lt_of_le_of_lt (Nat.zero_le i) (List.getElem?_eq_some_iff.1 ht).1)
  obtain ⟨h0, h1, h2, h3, h4⟩ := quoC_get l i t ht
  exact ⟨b, o, hA, hbl, h _ _ h0, h _ _ h1, h _ _ h2, h _ _ h3, h _ _ h4⟩
end Go.Proofs.YtemhiiignamkjaaDoor
