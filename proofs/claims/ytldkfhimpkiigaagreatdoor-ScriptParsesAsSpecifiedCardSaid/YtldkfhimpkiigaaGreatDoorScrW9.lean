/-
  Layer 46 (script): literal; the words of a step (plain).
-/
import Derived.Test.YtldkfhimpkiigaaGreatDoorScrW8
import Derived.Laws.Concat
namespace Go.Proofs.YtldkfhimpkiigaaGreatDoor
open Go.RowKit ScrP
attribute [local go_sem] Oper.semAt_some

theorem app_list (a b : ByteArray) : (a ++ b).data.toList = a.data.toList ++ b.data.toList := by rw [ByteArray.data_append, Array.toList_append]
def LiteralPost (s : ByteArray) (w : World) (e : Ending) (w' : World) : Prop :=
  Below w.heap.size w w' ∧ ∃ (t : ByteArray) (b : Bool), e = .returned (.tuple #[.string t, .bool b]) ∧ b = (literalB s.data.toList).isSome ∧ (b = true → literalB s.data.toList = some t.data.toList) ∧ t.size ≤ s.size + 1
set_option maxRecDepth 100000000 in
set_option maxHeartbeats 4000000 in
theorem literal_any (s : ByteArray) (c : UInt8) (r : List UInt8) (hl : s.data.toList = c :: r) (w : World) (hs : s.size ≤ 100000000) : Calls Tryz.prog 79 #[.string s] w (LiteralPost s w) := by
  have hi := str_index (s := s) (k := 0) (c := c) (by rw [hl]; rfl)
  have hf := str_from s 1 (by rw [(ext_tail hl).2]; omega)
  obtain ⟨hx, hsz⟩ := ext_tail hl
  rw [hx] at hf
  have h0 : ((0 : Nat) : Int) = 0 := rfl
  have h1 : ((1 : Nat) : Int) = 1 := rfl
  rw [h0] at hi
  rw [h1] at hf
  have hlH := Lib.hid hl
  by_cases c64 : c = 64
  · have e4 : ((c.toNat : Int) == 64) = true := by rw [c64]; rfl
    have hF : Hid (literalB s.data.toList = some s.data.toList) := by unfold Hid literalB; rw [hl, c64]; rfl
    clear c64 hl hf hx hsz h0 h1
    go_enter Tryz.func79, Tryz.ntmps79
    go_wp2_with fail
    go_ret2
    exact ⟨Below.refl _ _, s, true, rfl, by rw [hF.out]; rfl, fun _ => hF.out, Nat.le_succ _⟩
  · have e4 : ((c.toNat : Int) == 64) = false := beq_eq_false_iff_ne.2 (fun h => c64 (UInt8.toNat_inj.1 (by have e : (64 : UInt8).toNat = 64 := rfl; omega)))
    have hF : Hid (literalB s.data.toList = (unhex r).map (61 :: ·)) := by
      unfold Hid literalB
      rw [hl, if_neg (by intro h; exact c64 (Option.some.inj h))]
      rfl
    obtain ⟨u, hu⟩ : ∃ u, (⟨r.toArray⟩ : ByteArray) = u := ⟨_, rfl⟩
    have hud : u.data.toList = r := by rw [← hu]
    have hus : u.size ≤ 100000000 ∧ u.size + 1 = s.size := by
      have : u.size = r.length := by rw [← hu]; show r.toArray.size = _; rw [List.size_toArray]
      omega
    rw [hu] at hf
    have HD := Lib.hid (decoded_any u w hus.1)
    unfold DecodedPost at HD
    rw [hud] at HD
    have husH := Lib.hid hus
    clear c64 hl hx hsz h0 h1 hu hud hus
    go_enter Tryz.func79, Tryz.ntmps79
    go_wp2_with fail
    refine HD.out.mono ?_
    rintro e w1 ⟨hB1, t, b, rfl, hb, ht, hts⟩
    have B1 := Lib.hid hB1
    have hbH := Lib.hid hb
    have htH := Lib.hid ht
    have htsH := Lib.hid hts
    obtain ⟨U, hU⟩ : ∃ U, (⟨#[61]⟩ : ByteArray) ++ t = U := ⟨_, rfl⟩
    have a1 : ∀ wx, (Op.stringOp .add ⟨#[61]⟩ t).run Tryz.prog wx = .ok (.string U) wx := fun wx => by
      rw [← hU]
      exact run_string_add_sum wx _ _ (by have := husH.out.1; show 1 + t.size ≤ _; omega)
    have hUd : Hid (U.data.toList = 61 :: t.data.toList) := by unfold Hid; rw [← hU, app_list]; rfl
    have hUs : Hid (U.size = t.size + 1) := by unfold Hid; rw [← hU, ByteArray.size_append]; show 1 + t.size = _; omega
    clear hU hB1 hb ht HD hts
    go_wp2_with fail
    go_ret2
    refine ⟨B1.out, U, b, rfl, ?_, fun e => ?_, ?_⟩
    · rw [hF.out, hbH.out]
      cases unhex r <;> rfl
    · rw [hF.out, htH.out e, hUd.out]
      rfl
    · rw [hUs.out]
      have := husH.out.2
      have := htsH.out
      omega
theorem isLit_dec {w : List UInt8} (h : isLit w = true) : decOk w = false := by
  cases e : decOk w with
  | false => rfl
  | true =>
    obtain ⟨⟨h1, _⟩, h2, _⟩ := decOk_iff.1 e
    cases w with
    | nil => cases h1
    | cons c r =>
      rw [List.all_cons, Bool.and_eq_true] at h2
      have hc := isD_iff.1 h2.1
      unfold isLit at h
      rw [Bool.or_eq_true] at h
      rcases h with h | h
      · have := beq_iff_eq.1 h
        have := Option.some.inj this
        rw [this] at hc
        exact absurd hc (by decide)
      · have := beq_iff_eq.1 h
        have := Option.some.inj this
        rw [this] at hc
        exact absurd hc (by decide)
/-- What the words behind the first give, once it is known which of them are arguments. -/
def restOf (ms : List (List UInt8)) (tx : List UInt8) : Option (List Int × List UInt8) := if ms.all decOk = true then some (ms.map fun w => (decVal w : Int), tx) else none
theorem rest_nil : restB [] = restOf [] [] := rfl
theorem rest_plain {l : List (List UInt8)} {u : List UInt8} (h : l.getLast? = some u) (hu : isLit u = false) : restB l = restOf l [] := by
  unfold restB restOf
  rw [h]
  dsimp only
  rw [hu, if_neg (by decide)]
theorem rest_some {l : List (List UInt8)} {u t : List UInt8} (h : l.getLast? = some u) (hu : isLit u = true) (ht : literalB u = some t) : restB l = restOf l.dropLast t := by
  unfold restB restOf
  rw [h]
  dsimp only
  rw [hu, if_pos rfl, ht]
theorem rest_none {l : List (List UInt8)} {u : List UInt8} (tx : List UInt8) (h : l.getLast? = some u) (hu : isLit u = true) (ht : literalB u = none) : restB l = restOf l tx := by
  unfold restB restOf
  rw [h]
  dsimp only
  rw [hu, if_pos rfl, ht]
  have hm : u ∈ l := List.mem_of_getLast? h
  have : l.all decOk = false := by
    rw [List.all_eq_false]
    exact ⟨u, hm, by rw [isLit_dec hu]; decide⟩
  rw [this, if_neg (by decide)]
theorem isLit_head {c : UInt8} {r : List UInt8} : isLit (c :: r) = (c == 64 || c == 61) := by
  unfold isLit
  rfl
end Go.Proofs.YtldkfhimpkiigaaGreatDoor
