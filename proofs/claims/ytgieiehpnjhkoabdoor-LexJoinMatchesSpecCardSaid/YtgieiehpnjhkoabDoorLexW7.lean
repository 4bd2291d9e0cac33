/-
  The walks over slices of tokens: the specification's Same, and both Joins.
-/
import Derived.Test.YtgieiehpnjhkoabDoorLexW5
namespace Go.Proofs.YtgieiehpnjhkoabDoor
open Go.RowKit LexP

/-- A token whatever its numbers. -/
structure GTok where
  kind : Int
  text : ByteArray
  n : Int
  pos : Int
def gtok (t : Tok) : GTok := ⟨t.kind, t.text, t.n, t.pos⟩

/-- A slice of tokens that reads as a list. -/
def ToksAt (w : World) (v : Value) (l : List GTok) : Prop :=
  ∃ A c, v = .slice A l.length c ∧ (0 < l.length → ∃ b o, A = some ⟨b, o, none⟩ ∧ b < w.heap.size ∧ ∀ i T, l[i]? = some T →
    w.cell? ⟨b, o + i * 4, none⟩ = some (.int .i64 T.kind) ∧ w.cell? ⟨b, o + i * 4 + 1, none⟩ = some (.string T.text) ∧ w.cell? ⟨b, o + i * 4 + 2, none⟩ = some (.int .i64 T.n) ∧ w.cell? ⟨b, o + i * 4 + 3, none⟩ = some (.int .i64 T.pos))

theorem ToksAt.below {w w' : World} {v : Value} {l : List GTok} (h : ToksAt w v l) (hb : Below w.heap.size w w') : ToksAt w' v l := by
  obtain ⟨A, c, hv, h⟩ := h
  refine ⟨A, c, hv, fun hl => ?_⟩
  obtain ⟨b, o, hA, hbl, h⟩ := h hl
  refine ⟨b, o, hA, by have := hb.size; omega, fun i T hT => ?_⟩
  obtain ⟨h0, h1, h2, h3⟩ := h i T hT
  exact ⟨(hb.cell (p := ⟨b, _, none⟩) hbl).trans h0, (hb.cell (p := ⟨b, _, none⟩) hbl).trans h1, (hb.cell (p := ⟨b, _, none⟩) hbl).trans h2, (hb.cell (p := ⟨b, _, none⟩) hbl).trans h3⟩

/-- Two lists are alike; with their indices if wh is true. -/
def alike (wh : Bool) : List GTok → List GTok → Prop
  | [], [] => True
  | a :: r, b :: s => (a.kind = b.kind ∧ a.text = b.text ∧ a.n = b.n ∧ (wh = true → a.pos = b.pos)) ∧ alike wh r s
  | _, _ => False

theorem alike_len {wh : Bool} : ∀ {l m : List GTok}, alike wh l m → l.length = m.length
  | [], [], _ => rfl
  | _ :: _, _ :: _, h => by simp [alike_len h.2]
theorem alike_at {wh : Bool} : ∀ {l m : List GTok} {i : Nat} {a b : GTok}, alike wh l m → l[i]? = some a → m[i]? = some b → a.kind = b.kind ∧ a.text = b.text ∧ a.n = b.n ∧ (wh = true → a.pos = b.pos)
  | _ :: _, _ :: _, 0, a, b, h, ha, hb => by simp at ha hb; subst ha hb; exact h.1
  | _ :: _, _ :: _, i + 1, a, b, h, ha, hb => alike_at h.2 (by simpa using ha) (by simpa using hb)

set_option maxHeartbeats 4000000 in
theorem Same_any (x y : Value) (l m : List GTok) (wh : Bool) (w : World) (hx : ToksAt w x l) (hy : ToksAt w y m) (ha : alike wh l m) (hs : l.length ≤ 1048576) :
    Calls Tryd.prog 12 #[x, y, .bool wh] w fun e w' => e = .returned (.bool true) ∧ ∃ n, w' = w.drewN n := by
  obtain ⟨A, c, rfl, hA⟩ := hx
  obtain ⟨B, d, rfl, hB⟩ := hy
  have hlen := alike_len ha
  rw [← hlen]
  have HA := Lib.hid hA
  have HB := Lib.hid hB
  have Hal := Lib.hid ha
  have Hlen := Lib.hid hlen
  clear hA hB ha hlen
  go_enter Tryd.func12, Tryd.ntmps12
  go_wp2_with fail
  go_loopw [7] (fun i wr => ∃ (k n : Nat), k ≤ l.length ∧ i = .int .i64 k ∧ wr = w.drewN n) (fun i _ => l.length - (intOf i).toNat)
  case atStart => exact ⟨0, 0, Nat.zero_le _, rfl, rfl⟩
  case round =>
    obtain ⟨k, n, hk, rfl, rfl⟩ := hrel
    by_cases hlt : k < l.length
    · obtain ⟨b, o, rfl, _, h1⟩ := HA.out (by omega)
      obtain ⟨b', o', rfl, _, h2⟩ := HB.out (by have := Hlen.out; omega)
      obtain ⟨p1, p2, p3, p4⟩ := h1 k _ (List.getElem?_eq_getElem hlt)
      obtain ⟨q1, q2, q3, q4⟩ := h2 k _ (List.getElem?_eq_getElem (by have := Hlen.out; omega))
      obtain ⟨e1, e2, e3, e4⟩ := alike_at Hal.out (List.getElem?_eq_getElem hlt) (List.getElem?_eq_getElem (by have := Hlen.out; omega))
      rw [← e1] at q1
      rw [← e2] at q2
      rw [← e3] at q3
      generalize l[k].kind = x1 at p1 q1
      generalize l[k].text = x2 at p2 q2
      generalize l[k].n = x3 at p3 q3
      cases wh with
      | true =>
        rw [← e4 rfl] at q4
        generalize l[k].pos = x4 at p4 q4
        clear h1 h2 e1 e2 e3 e4
        go_wp2_with fail
        go_quiet (fail)
        go_wp2_with fail
        go_roundw
        case rel => exact ⟨k + 1, _, by omega, by go_num, rfl⟩
        case measure => simp [intOf]; omega
      | false =>
        clear h1 h2 e1 e2 e3 e4
        go_wp2_with fail
        go_quiet (fail)
        go_wp2_with fail
        go_roundw
        case rel => exact ⟨k + 1, _, by omega, by go_num, rfl⟩
        case measure => simp [intOf]; omega
    · go_wp2_with fail
      go_ret
      exact ⟨rfl, n, rfl⟩
end Go.Proofs.YtgieiehpnjhkoabDoor
