/-
  slices.Grow of bytes, of no bytes.
  slices.Concat of bytes.
  Layer 29 (session) in plain words: the handshake.
  Layer 29 (session) in plain words: the window of received numbers.
-/
import Derived.Test.YtbhagfdkipgggaaDoorMG
import Derived.Test.YtbhagfdkipgggaaDoorAppendZ
namespace Go.Proofs.YtbhagfdkipgggaaDoor
open Go.RowKit Go.Shelf
attribute [local go_sem] Oper.semAt_some
theorem zeros_nil (w : World) (ty : TypeId) (k : Nat) (hk : 0 < k) (h : k ≤ 1000000) :
    ∃ g c w', (Builtin.append_ #[65, 3] ty #[.slice none 0 0, .int .i64 (k : Int)]).run Tryd.prog w = .ok (.slice (some ⟨g, 0, none⟩) k c) w' ∧ BRow w' w.heap.size (.slice (some ⟨g, 0, none⟩) 0 c) [] ∧ Below w.heap.size w w' ∧ k ≤ c := by
  obtain ⟨i0, hi, hz0, hz1, hz2⟩ := info_parts infoU8f
  have hr := Lib.run_append_grow_zeros (P := Tryd.prog) w 65 3 ty 5 i0 (.int .u8 0) .i64 .i64 Tryd.underlying65 Tryd.underlying3 hi hz0 none 0 0 [] (run_firstCells_none (P := Tryd.prog) (w := w.drew) i0.size 0 0 0) k hk (by rw [hz1]; decide) (by omega) (by omega) (by rw [hz2]; omega) (by rw [hz2]; exact growslice_fits (by omega) (by omega))
  rw [Nat.zero_add] at hr
  have hge := grownCap_ge w k 0 5
  have hcm2 : grownCap w k 0 5 ≤ maxLen := grownCap_le_maxLen w k 0 5 (by unfold maxLen; omega)
  refine ⟨_, _, _, hr, ⟨rfl, .inr ⟨w.heap.size, _, _, rfl, Nat.le_refl _, heap_alloc_new w.drew _, Nat.zero_le _, hcm2, ?_, ?_⟩⟩, ?_, hge⟩
  · have hz1 : (Value.int IntKind.u8 0).cells.size = 1 := rfl
    simp only [Array.size_append, List.size_toArray, size_zeroCells, hz1, List.length_nil]
    omega
  · rw [List.length_nil, Nat.zero_mul, List.take_zero]
    rfl
  · exact (Below.refl _ w).drew.alloc (Nat.le_refl _) _
theorem nil_slice0 (w : World) : (Instr.slice 65 (.slice none 0 0) none (some (.int .i64 0)) none).run Tryd.prog w = .ok (.slice none 0 0) w := by
  simp [go_sem]
theorem slice0 (w : World) (g k c : Nat) : (Instr.slice 65 (.slice (some ⟨g, 0, none⟩) k c) none (some (.int .i64 0)) none).run Tryd.prog w = .ok (.slice (some ⟨g, 0, none⟩) 0 c) w := by
  simp [go_sem]
theorem grow_any (w : World) (k : Nat) (hk : 0 < k) (h : k ≤ 1000000) :
    Calls Tryd.prog 100 #[.slice none 0 0, .int .i64 k] w fun e w' => ∃ v, e = .returned v ∧ BRow w' w.heap.size v [] ∧ Below w.heap.size w w' := by
  have d1 : decide ((0 : Int) < (k : Int)) = true := decide_eq_true (by omega)
  have d2 : decide (0 < k) = true := decide_eq_true hk
  have d3 : (0 : Int) < (k : Int) := by omega
  have d4 : ¬ (k : Int) < 0 := by omega
  have d5 : decide ((k : Int) < 0) = false := decide_eq_false d4
  obtain ⟨g, c, w', hr, hR, hB, _⟩ := zeros_nil w 65 k hk h
  have hrH := Lib.hid hr
  have hRH := Lib.hid hR
  have hBH := Lib.hid hB
  clear hr hR hB
  have s0 := nil_slice0
  have s1 := slice0
  go_enter Tryd.func100, Tryd.ntmps100
  go_wp2_with (at_builtin; refine wpList_append_run rfl _ _ _ _ rfl _ _ rfl rfl hrH.out ?_)
  go_ret
  exact ⟨_, rfl, hRH.out, hBH.out⟩
end Go.Proofs.YtbhagfdkipgggaaDoor
namespace Go.Proofs.YtbhagfdkipgggaaDoor
open Go.RowKit Go.Shelf
attribute [local go_sem] Oper.semAt_some
/-- Rows of bytes, as a call takes them. -/
def RowsAt (w : World) (g : Nat) (l : List (List UInt8)) : Prop := g < w.heap.size ∧ ∀ (i : Nat) (b : List UInt8), l[i]? = some b → ∃ gi oi ci, w.cell? ⟨g, i, none⟩ = some (.slice (some ⟨gi, oi, none⟩) b.length ci) ∧ BytesAt w gi oi b
theorem RowsAt.below {w w' : World} {g : Nat} {l : List (List UInt8)} (h : RowsAt w g l) (hB : Below w.heap.size w w') : RowsAt w' g l :=
  ⟨Nat.lt_of_lt_of_le h.1 hB.size, fun i b hb => by
    obtain ⟨gi, oi, ci, h1, h2⟩ := h.2 i b hb
    exact ⟨gi, oi, ci, (hB.cell (p := ⟨g, i, none⟩) h.1).trans h1, h2.below hB⟩⟩
theorem rows_index (w : World) (g n c t : Nat) (h : t < n) : (Instr.indexAt 112 (.slice (some ⟨g, 0, none⟩) n c) (.int .i64 t)).run Tryd.prog w = .ok (.pointer (some ⟨g, t, none⟩)) w := by
  have d1 : (0 : Int) ≤ (t : Int) := by omega
  have d2 : (t : Int) < (n : Int) := by omega
  simp [go_sem, d1, d2]
theorem flatten_snoc (l : List (List UInt8)) (t : Nat) (b : List UInt8) (h : l[t]? = some b) : (l.take (t + 1)).flatten = (l.take t).flatten ++ b := by
  rw [List.take_add_one, h, List.flatten_append]
  simp
theorem flatten_take_le (l : List (List UInt8)) (t : Nat) : (l.take t).flatten.length ≤ l.flatten.length := by
  have h := congrArg List.length (congrArg List.flatten (List.take_append_drop t l))
  rw [List.flatten_append, List.length_append] at h
  omega
set_option maxRecDepth 100000 in
set_option maxHeartbeats 1600000 in
theorem concat_any (w : World) (g n c : Nat) (l : List (List UInt8)) (hn : l.length = n) (hn2 : n ≤ 1000) (h1 : 0 < l.flatten.length) (h2 : l.flatten.length ≤ 1000000) (hA : RowsAt w g l) :
    Calls Tryd.prog 82 #[.slice (some ⟨g, 0, none⟩) n c] w fun e w' => ∃ v, e = .returned v ∧ BRow w' w.heap.size v l.flatten ∧ Below w.heap.size w w' := by
  have HA := Lib.hid hA
  have hnH := Lib.hid hn
  have h2H := Lib.hid h2
  have h1H := Lib.hid h1
  clear hA hn h2 h1
  go_enter Tryd.func82, Tryd.ntmps82
  go_wp2_with fail
  go_loopw [3, 11] (fun p q wr => ∃ t : Nat, q = .int .i64 t ∧ p = .int .i64 ((l.take t).flatten.length : Nat) ∧ Hid (t ≤ n) ∧ w = wr) (fun _ q _ => n - (intOf q).toNat)
  case atStart => exact ⟨0, rfl, by rw [List.take_zero]; rfl, Nat.zero_le _, rfl⟩
  case round =>
    obtain ⟨t, rfl, rfl, ht, rfl⟩ := hrel
    by_cases hlt : t < n
    · have d1 : decide (t < n) = true := decide_eq_true hlt
      have d2 : decide ((t : Int) < (n : Int)) = true := decide_eq_true (by omega)
      obtain ⟨b, hb⟩ : ∃ b, l[t]? = some b := ⟨_, List.getElem?_eq_getElem (by rw [hnH.out]; exact hlt)⟩
      obtain ⟨gi, oi, ci, hc, _⟩ := HA.out.2 t b hb
      have hix := fun wx => rows_index wx g n c t hlt
      have hsn := congrArg List.length (flatten_snoc l t b hb)
      rw [List.length_append] at hsn
      have hle := flatten_take_le l (t + 1)
      have hle2 := h2H.out
      have hsnH := Lib.hid hsn
      obtain ⟨m, hm⟩ : ∃ m, (l.take t).flatten.length = m := ⟨_, rfl⟩
      rw [hm] at hsn hsnH ⊢
      have e1 : wrap64 ((m : Int) + (b.length : Int)) = (m : Int) + (b.length : Int) := w64_sum m b.length (m + b.length) rfl (by omega)
      have e2 : decide ((m : Int) + (b.length : Int) < 0) = false := decide_eq_false (by omega)
      have e3 : ¬ (m : Int) + (b.length : Int) < 0 := by omega
      have e4 : wrap64 ((t : Int) + 1) = (t : Int) + 1 := w64_sum t 1 (t + 1) rfl (by omega)
      have hltH := Lib.hid hlt
      clear hb hsn hle hle2 hm
      go_wp2_with fail
      refine ⟨⟨t + 1, by go_num, by rw [hsnH.out]; go_num, hltH.out, trivial⟩, ?_⟩
      have := hltH.out
      simp [intOf]
      omega
    · have d1 : decide (t < n) = false := decide_eq_false hlt
      have d2 : decide ((t : Int) < (n : Int)) = false := decide_eq_false (by omega)
      have et : Hid ((l.take t).flatten.length = l.flatten.length) := by
        have e : t = n := Nat.le_antisymm ht (Nat.le_of_not_lt hlt)
        unfold Hid
        rw [e, ← hnH.out, List.take_length]
      obtain ⟨N, hN⟩ : ∃ N, l.flatten.length = N := ⟨_, rfl⟩
      rw [hN] at et h1H h2H
      have hNH := Lib.hid hN
      rw [et.out]
      have HG := Lib.hid (grow_any w N h1H.out h2H.out)
      clear hN
      go_upto_region 10 with (first | (go_at_call 100; refine HG.out.mono ?_; rintro e w1 ⟨v1, rfl, hR, hB⟩; have HR1 := Lib.hid hR; have HB1 := Lib.hid hB; clear hR hB) | fail)
      have hR0 : Hid (BRow w1 w.heap.size v1 (l.take 0).flatten) := by
        unfold Hid
        rw [List.take_zero]
        exact HR1.out
      clear HR1 HG
      go_wp2_with fail
      go_loopw [6, 27] (fun p q wr => ∃ i : Nat, q = .int .i64 i ∧ Hid (i ≤ n) ∧ Hid (BRow wr w.heap.size p (l.take i).flatten) ∧ Hid (Below w.heap.size w wr)) (fun _ q _ => n - (intOf q).toNat)
      case atStart => exact ⟨0, rfl, Nat.zero_le _, hR0, HB1⟩
      case round =>
        clear hR0 HB1 d1 d2 hlt ht
        obtain ⟨i, rfl, hi, hR, hB⟩ := hrel
        by_cases hlt : i < n
        · have d1 : decide (i < n) = true := decide_eq_true hlt
          have d2 : decide ((i : Int) < (n : Int)) = true := decide_eq_true (by omega)
          obtain ⟨b, hb⟩ : ∃ b, l[i]? = some b := ⟨_, List.getElem?_eq_getElem (by rw [hnH.out]; exact hlt)⟩
          have HAr := HA.out.below hB.out
          obtain ⟨gi, oi, ci, hc, hbb⟩ := (show RowsAt wr g l from ⟨Nat.lt_of_lt_of_le HA.out.1 hB.out.size, fun i b hb => by
            obtain ⟨gi, oi, ci, h1, h2⟩ := HA.out.2 i b hb
            exact ⟨gi, oi, ci, (hB.out.cell (p := ⟨g, i, none⟩) HA.out.1).trans h1, h2.below hB.out⟩⟩).2 i b hb
          have hix := fun wx => rows_index wx g n c i hlt
          have hsn := Lib.hid (flatten_snoc l i b hb)
          have hle := flatten_take_le l (i + 1)
          rw [hsn.out, List.length_append] at hle
          have hlen : Hid ((l.take i).flatten.length + b.length < 100000000000) := by unfold Hid; have := h2H.out; rw [← hNH.out] at this; omega
          have hbbH := Lib.hid hbb
          have hltH := Lib.hid hlt
          clear hb hle HAr hbb
          go_wp2_with (first
            | (at_builtin; refine wp_cat rfl _ _ rfl w.heap.size _ (l.take i).flatten rfl hR.out gi oi ci b rfl hbbH.out hlen.out hB.out.size ?_; intro v' w' hP; rw [← hsn.out] at hP; have hPH := Lib.hid hP; clear hP)
            | fail)
          refine ⟨⟨i + 1, by go_num, hltH.out, hPH.out.row, hPH.out.bel _ _ (Nat.le_refl _) hB.out.size hB.out⟩, ?_⟩
          have := hltH.out
          simp [intOf]
          omega
        · have d1 : decide (i < n) = false := decide_eq_false hlt
          have d2 : decide ((i : Int) < (n : Int)) = false := decide_eq_false (by omega)
          have ei : i = n := Nat.le_antisymm hi (Nat.le_of_not_lt hlt)
          have hRf : Hid (BRow wr w.heap.size u6 l.flatten) := by
            have h := hR.out
            rw [ei, ← hnH.out, List.take_length] at h
            exact h
          clear ei hlt
          go_wp2_with fail
          go_ret
          exact ⟨_, rfl, hRf.out, hB.out⟩
end Go.Proofs.YtbhagfdkipgggaaDoor
namespace Go.Proofs.YtbhagfdkipgggaaDoor
open Go.RowKit
def codeL (k b : List UInt8) : List UInt8 := (macL k b).take 16
theorem codeL_len (k b : List UInt8) : (codeL k b).length = 16 := by unfold codeL; rw [List.length_take, macL_len]; rfl
def sHello : List UInt8 := [104, 101, 108, 108, 111]
def sSession : List UInt8 := [115, 101, 115, 115, 105, 111, 110]
def sWelcome : List UInt8 := [119, 101, 108, 99, 111, 109, 101]
/-- The code of a hello. -/
def helloL (s : List UInt8) (role : Nat) (n : List UInt8) : List UInt8 := codeL (deriveL s sHello []) (intsL [role] ++ bytesL n)
/-- The key of a session. -/
def skeyL (s : List UInt8) (role id : Nat) (a b : ByteArray) : List UInt8 := deriveL s sSession [txt (intsL [role, id]), a, b]
def welcomeL (k : List UInt8) : List UInt8 := codeL k sWelcome
/-- Whether a secret, a role and a nonce are as they must be. -/
def Opens (s : ByteArray) (role : Int) (n : ByteArray) : Prop := s.size = 32 ∧ 1 ≤ role ∧ role ≤ 3 ∧ n.size = 16
instance (s : ByteArray) (role : Int) (n : ByteArray) : Decidable (Opens s role n) := by unfold Opens; infer_instance
structure Hel where
  role : Int
  nonce : ByteArray
  tag : ByteArray
deriving DecidableEq
structure Wel where
  sess : Int
  nonce : ByteArray
  tag : ByteArray
deriving DecidableEq
structure Ses where
  id : Int
  role : Int
  side : Int
  key : ByteArray
  sent : Int
  top : Int
  seen : Nat
deriving DecidableEq
structure Msg where
  sess : Int
  num : Int
  text : ByteArray
deriving DecidableEq
def noT : ByteArray := ⟨#[]⟩
def noHel : Hel := ⟨0, noT, noT⟩
def noWel : Wel := ⟨0, noT, noT⟩
def noSes : Ses := ⟨0, 0, 0, noT, 0, 0, 0⟩
def noMsg : Msg := ⟨0, 0, noT⟩
def helC (h : Hel) : List Value := [.int .i64 h.role, .string h.nonce, .string h.tag]
def welC (h : Wel) : List Value := [.int .i64 h.sess, .string h.nonce, .string h.tag]
def sesC (s : Ses) : List Value := [.int .i64 s.id, .int .i64 s.role, .int .i64 s.side, .string s.key, .int .i64 s.sent, .int .i64 s.top, .int .u64 (s.seen : Int)]
def msgC (m : Msg) : List Value := [.int .i64 m.sess, .int .i64 m.num, .string m.text]
def helV (h : Hel) : Value := .agg (helC h).toArray
def welV (h : Wel) : Value := .agg (welC h).toArray
def sesV (s : Ses) : Value := .agg (sesC s).toArray
def msgV (m : Msg) : Value := .agg (msgC m).toArray
/-- Greet. -/
def greetP (s : ByteArray) (role : Int) (n : ByteArray) : Hel × Nat := if Opens s role n then (⟨role, n, txt (helloL (bl s) role.toNat (bl n))⟩, 0) else (noHel, 1)
/-- What both ends start with: the session, the welcome's code, the error. -/
def startP (s : ByteArray) (h : Hel) (id side : Int) (n : ByteArray) : Ses × ByteArray × Nat :=
  if Opens s h.role h.nonce ∧ 1 ≤ id ∧ id ≤ 64 ∧ n.size = 16 then
    (⟨id, h.role, side, txt (skeyL (bl s) h.role.toNat id.toNat h.nonce n), 0, 0, 0⟩, txt (welcomeL (skeyL (bl s) h.role.toNat id.toNat h.nonce n)), 0)
  else (noSes, noT, 1)
def acceptP (s : ByteArray) (h : Hel) (id : Int) (n : ByteArray) : Ses × Wel × Nat :=
  let r := startP s h id 2 n
  if r.2.2 = 0 then (if h.tag = txt (helloL (bl s) h.role.toNat (bl h.nonce)) then (r.1, ⟨id, n, r.2.1⟩, 0) else (noSes, noWel, 8)) else (noSes, noWel, 1)
def joinP (s : ByteArray) (h : Hel) (w : Wel) : Ses × Nat :=
  let r := startP s h w.sess 1 w.nonce
  if r.2.2 = 0 then (if w.tag = r.2.1 then (r.1, 0) else (noSes, 8)) else (noSes, 1)
end Go.Proofs.YtbhagfdkipgggaaDoor
namespace Go.Proofs.YtbhagfdkipgggaaDoor
/-- A session as it lies in memory: integers of 64 bits, a window of 64 bits. -/
structure Ses.Fits (s : Ses) : Prop where
  id : -9223372036854775808 ≤ s.id ∧ s.id < 9223372036854775808
  role : -9223372036854775808 ≤ s.role ∧ s.role < 9223372036854775808
  side : -9223372036854775808 ≤ s.side ∧ s.side < 9223372036854775808
  sent : -9223372036854775808 ≤ s.sent ∧ s.sent < 9223372036854775808
  top : -9223372036854775808 ≤ s.top ∧ s.top < 9223372036854775808
  seen : s.seen < 18446744073709551616
  key : s.key.size < 10000000000
/-- Whether a number was seen. -/
def seenBit (s d : Nat) : Bool := decide (s / 2 ^ d % 2 = 1)
/-- Whether a number may still be received. -/
def freshP (s : Ses) (n : Int) : Bool :=
  decide (1 ≤ n ∧ n ≤ 4294967296) && (decide (s.top < n) || (decide (s.top - n < 64) && !seenBit s.seen (s.top - n).toNat))
def markP (s : Ses) (n : Int) : Ses :=
  if freshP s n then
    if s.top < n then { s with top := n, seen := if n - s.top < 64 then (s.seen * 2 ^ (n - s.top).toNat % 18446744073709551616) ||| 1 else 1 }
    else { s with seen := s.seen ||| 2 ^ (s.top - n).toNat }
  else s
/-- Whether a session is valid. -/
def validP (s : Ses) : Bool :=
  decide (1 ≤ s.id ∧ s.id ≤ 64 ∧ 1 ≤ s.role ∧ s.role ≤ 3) && decide ((s.side = 1 ∨ s.side = 2) ∧ s.key.size = 32) && decide (0 ≤ s.sent ∧ s.sent ≤ 4294967296 ∧ 0 ≤ s.top ∧ s.top ≤ 4294967296) &&
    (if s.top = 0 then decide (s.seen = 0) else (decide (64 ≤ s.top) || decide (s.seen / 2 ^ s.top.toNat = 0)) && decide (s.seen % 2 = 1))
end Go.Proofs.YtbhagfdkipgggaaDoor
