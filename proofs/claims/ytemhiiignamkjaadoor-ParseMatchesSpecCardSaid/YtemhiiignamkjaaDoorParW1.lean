/-
  Layer 12 (parse): the parser in memory; take and its closures.
-/
import Derived.Test.YtemhiiignamkjaaDoorParP1
import Derived.Test.YtemhiiignamkjaaDoorNB
import Derived.Lib.Hide
import Derived.Deep.RegionHeld3
import Derived.Deep.CutRange
import Derived.Deep.CutBlock
namespace Go.Proofs.YtemhiiignamkjaaDoor
open Go.RowKit LexP ParP
attribute [local go_sem] Oper.semAt_some

/-- Tokens that lie below block B. -/
def TkAt (w : World) (B : Nat) (v : Value) (l : List Tok) : Prop :=
  ∃ A c, v = .slice A l.length c ∧ (0 < l.length → ∃ b o, A = some ⟨b, o, none⟩ ∧ b < B ∧ ∀ i T, l[i]? = some T →
    w.cell? ⟨b, o + i * 4, none⟩ = some (.int .i64 T.kind) ∧ w.cell? ⟨b, o + i * 4 + 1, none⟩ = some (.string T.text) ∧ w.cell? ⟨b, o + i * 4 + 2, none⟩ = some (.int .i64 T.n) ∧ w.cell? ⟨b, o + i * 4 + 3, none⟩ = some (.int .i64 T.pos))
theorem TkAt.below {w w' : World} {B : Nat} {v : Value} {l : List Tok} (h : TkAt w B v l) (hb : Below B w w') : TkAt w' B v l := by
  obtain ⟨A, c, hv, h⟩ := h
  refine ⟨A, c, hv, fun hl => ?_⟩
  obtain ⟨b, o, hA, hbl, h⟩ := h hl
  refine ⟨b, o, hA, hbl, fun i T hT => ?_⟩
  obtain ⟨h0, h1, h2, h3⟩ := h i T hT
  exact ⟨(hb.cell (p := ⟨b, _, none⟩) hbl).trans h0, (hb.cell (p := ⟨b, _, none⟩) hbl).trans h1, (hb.cell (p := ⟨b, _, none⟩) hbl).trans h2, (hb.cell (p := ⟨b, _, none⟩) hbl).trans h3⟩
theorem grown_below {w w' : World} {g B : Nat} (h : w.grownBy w' (some g)) (hg : B ≤ g) (hgl : g < w.heap.size) : Below B w w' :=
  (Below.refl B w).grown h (by omega) (fun k e => by cases e; exact hg)
theorem grown_refl (w : World) (r : Option Nat) : w.grownBy w r := ⟨rfl, rfl, rfl, Nat.le_refl _, fun _ _ _ => rfl⟩
theorem grown_trans {a b c : World} {r : Option Nat} (h : a.grownBy b r) (k : b.grownBy c r) : a.grownBy c r :=
  ⟨k.os.trans h.os, k.tape.trans h.tape, k.output.trans h.output, Nat.le_trans h.size k.size, fun j hj hr => (k.block j (Nat.lt_of_lt_of_le hj h.size) hr).trans (h.block j hj hr)⟩
theorem grown_ofBelow {w w' : World} (h : Below w.heap.size w w') (r : Option Nat) : w.grownBy w' r := ⟨h.os, h.tape, h.output, h.size, fun k hk _ => h.block k hk⟩
theorem grown_ofSet (w : World) (g i : Nat) (u : Value) : w.grownBy (w.setCell ⟨g, i, none⟩ u) (some g) :=
  ⟨rfl, rfl, rfl, by simp [World.setCell], fun k _ hne => Below.heap_setCell _ _ _ _ (fun e => hne (by rw [e]))⟩
/-- The panic that a parser raises at a token. -/
def wrongP (n : Nat) : PanicEntry := { v := .iface 96 (.int .i64 n), recovered := false }

theorem nameC_any (T : Tok) (w : World) : Calls Tryd.prog 83 #[tokAgg T] w fun e w' => e = .returned (.bool (isWordT T)) ∧ Below w.heap.size w w' := by
  unfold tokAgg
  have hk : Hid (((T.kind : Int) == 1) = isWordT T) := by
    unfold Hid isWordT
    by_cases h : T.kind = 1
    · rw [h]; rfl
    · rw [beq_eq_false_iff_ne.2 h, beq_eq_false_iff_ne.2 (by omega)]
  go_enter Tryd.func83, Tryd.ntmps83
  go_wp2_with fail
  go_ret
  exact ⟨by rw [hk.out]; rfl, (Below.refl _ _).alloc (Nat.le_refl _) _⟩
theorem numberC_any (T : Tok) (w : World) : Calls Tryd.prog 91 #[tokAgg T] w fun e w' => e = .returned (.bool (isNumT T)) ∧ Below w.heap.size w w' := by
  unfold tokAgg
  have hk : Hid (((T.kind : Int) == 2) = isNumT T) := by
    unfold Hid isNumT
    by_cases h : T.kind = 2
    · rw [h]; rfl
    · rw [beq_eq_false_iff_ne.2 h, beq_eq_false_iff_ne.2 (by omega)]
  go_enter Tryd.func91, Tryd.ntmps91
  go_wp2_with fail
  go_ret
  exact ⟨by rw [hk.out]; rfl, (Below.refl _ _).alloc (Nat.le_refl _) _⟩
theorem expectC_any (T : Tok) (s : ByteArray) (g : Nat) (w : World) (hb : Blk w g 9 #[.string s]) : Calls Tryd.prog 82 #[tokAgg T, .pointer (some ⟨g, 0, none⟩)] w fun e w' => e = .returned (.bool (isText s T)) ∧ Below w.heap.size w w' := by
  unfold tokAgg
  have hc : w.cell? ⟨g, 0, none⟩ = some (.string s) := hb.cell 0
  have hgl := hb.lt
  have hne : g ≠ w.heap.size := Nat.ne_of_lt hgl
  go_enter Tryd.func82, Tryd.ntmps82
  go_wp2_with fail
  go_ret
  exact ⟨rfl, (Below.refl _ _).alloc (Nat.le_refl _) _⟩

/-- What take leaves: the next token is handed back, or the panic is raised. -/
def TakePost (w : World) (g : Nat) (cs : Array Value) (l : List Tok) (n : Nat) (p : Tok → Bool) (val : Tok → Value) (e : Ending) (w' : World) : Prop :=
  (∃ t, l[n]? = some t ∧ p t = true ∧ e = .returned (val t) ∧ Blk w' g 61 (cs.setIfInBounds 1 (.int .i64 ((n + 1 : Nat) : Int))) ∧ w.grownBy w' (some g)) ∨
  ((∀ t, l[n]? = some t → p t = false) ∧ e = .panicked [wrongP n] ∧ Blk w' g 61 cs ∧ w.grownBy w' (some g))

/-- The cells of a token that is there. -/
theorem TkAt.at_ {w : World} {B : Nat} {A : Option Addr} {c : Nat} {l : List Tok} (h : TkAt w B (.slice A l.length c) l) (i : Nat) (T : Tok) (hT : l[i]? = some T) :
    ∃ b o, A = some ⟨b, o, none⟩ ∧ b < B ∧ w.cell? ⟨b, o + i * 4, none⟩ = some (.int .i64 T.kind) ∧ w.cell? ⟨b, o + i * 4 + 1, none⟩ = some (.string T.text) ∧ w.cell? ⟨b, o + i * 4 + 2, none⟩ = some (.int .i64 T.n) ∧ w.cell? ⟨b, o + i * 4 + 3, none⟩ = some (.int .i64 T.pos) := by
  obtain ⟨A', c', hv, h⟩ := h
  cases hv
  obtain ⟨b, o, hA, hbl, h⟩ := h (Nat.lt_of_le_of_lt (Nat.zero_le i) (List.getElem?_eq_some_iff.1 hT).1)
  exact ⟨b, o, hA, hbl, h i T hT⟩
theorem world_is {P : World → Prop} {X : World} (h : ∀ W, X = W → P W) : P X := h X rfl
set_option maxRecDepth 100000 in
set_option maxHeartbeats 4000000 in
theorem take_name (w : World) (g B n : Nat) (tv c2 c3 c4 c5 c6 c7 : Value) (l : List Tok)
    (hb : Blk w g 61 #[tv, .int .i64 n, c2, c3, c4, c5, c6, c7]) (hT : TkAt w B tv l) (hg : B ≤ g) (hn : n ≤ l.length) (hl : l.length ≤ 1048576) :
    Calls Tryd.prog 80 #[.pointer (some ⟨g, 0, none⟩), .func (.func 83) #[] #[]] w (TakePost w g #[tv, .int .i64 n, c2, c3, c4, c5, c6, c7] l n isWordT tokAgg) := by
  have e0 : w.cell? ⟨g, 0, none⟩ = some tv := hb.cell 0
  have e1 : w.cell? ⟨g, 1, none⟩ = some (.int .i64 n) := hb.cell 1
  have hgl := hb.lt
  obtain ⟨A, c, rfl, hT'⟩ := id hT
  clear hT'
  by_cases hlt : n < l.length
  · obtain ⟨T, hTn⟩ : ∃ T, l[n]? = some T := ⟨_, List.getElem?_eq_getElem hlt⟩
    obtain ⟨b, o, rfl, hbB, k0, k1, k2, k3⟩ := hT.at_ n T hTn
    have hne : g ≠ w.heap.size := Nat.ne_of_lt hgl
    have d1 : ((n : Int) == (l.length : Int)) = false := beq_eq_false_iff_ne.2 (by omega)
    have d2 : decide ((n : Int) < (l.length : Int)) = true := decide_eq_true (by omega)
    have HB := Lib.hid hb
    have hnl : n + 1 ≤ l.length := hlt
    have hTnH := Lib.hid hTn
    clear hb hTn hT
    go_enter Tryd.func80, Tryd.ntmps80
    go_wp2_with fail
    refine world_is (P := fun W => Code.wp _ _ _ _ W) (fun W0 hW0 => ?_)
    have hB0 : Below w.heap.size w W0 := by rw [← hW0]; exact (Below.refl _ _).alloc (Nat.le_refl _) _
    have hR0 : Blk W0 w.heap.size 47 #[.int .i64 0, .string ⟨#[]⟩, .int .i64 0, .int .i64 0] := by rw [← hW0]; exact Blk.new _ _ _
    have hP0 : Blk W0 g 61 #[.slice (some ⟨b, o, none⟩) l.length c, .int .i64 n, c2, c3, c4, c5, c6, c7] := by rw [← hW0]; exact HB.out.alloc _
    have hbW : b < w.heap.size := Nat.lt_of_lt_of_le hbB (Nat.le_trans hg (Nat.le_of_lt hgl))
    have HB0 := Lib.hid hB0
    have hR0s := hR0.lt
    have HR0 := Lib.hid hR0
    have HP0 := Lib.hid hP0
    have y0 := (hB0.cell (p := ⟨g, 0, none⟩) hgl).trans e0
    have y1 := (hB0.cell (p := ⟨g, 1, none⟩) hgl).trans e1
    have z0 := (hB0.cell (p := ⟨b, o + n * 4, none⟩) hbW).trans k0
    have z1 := (hB0.cell (p := ⟨b, o + n * 4 + 1, none⟩) hbW).trans k1
    have z2 := (hB0.cell (p := ⟨b, o + n * 4 + 2, none⟩) hbW).trans k2
    have z3 := (hB0.cell (p := ⟨b, o + n * 4 + 3, none⟩) hbW).trans k3
    have hgl0 : g < W0.heap.size := Nat.lt_of_lt_of_le hgl hB0.size
    have hbW0 : b < W0.heap.size := Nat.lt_of_lt_of_le hbW hB0.size
    clear hW0 hR0 hP0 hB0 e0 e1 k0 k1 k2 k3
    go_region_held3 (fun w' => w'.cell? ⟨g, 0, none⟩ = some (.slice (some ⟨b, o, none⟩) l.length c) ∧ w'.cell? ⟨g, 1, none⟩ = some (.int .i64 n) ∧ w'.cell? ⟨b, o + n * 4, none⟩ = some (.int .i64 T.kind) ∧ w'.cell? ⟨b, o + n * 4 + 1, none⟩ = some (.string T.text) ∧ w'.cell? ⟨b, o + n * 4 + 2, none⟩ = some (.int .i64 T.n) ∧ w'.cell? ⟨b, o + n * 4 + 3, none⟩ = some (.int .i64 T.pos)) (go_keep)
      (first | (go_at_call 83; refine (nameC_any _ _).mono ?_; rintro e w1 ⟨rfl, hB1⟩; have x0 := (hB1.cell (p := ⟨g, 0, none⟩) hgl0).trans y0; have x1 := (hB1.cell (p := ⟨g, 1, none⟩) hgl0).trans y1; have x2 := (hB1.cell (p := ⟨b, o + n * 4, none⟩) hbW0).trans z0; have x3 := (hB1.cell (p := ⟨b, o + n * 4 + 1, none⟩) hbW0).trans z1; have x4 := (hB1.cell (p := ⟨b, o + n * 4 + 2, none⟩) hbW0).trans z2; have x5 := (hB1.cell (p := ⟨b, o + n * 4 + 3, none⟩) hbW0).trans z3))
    have hB1' : Below W0.heap.size W0 w1 := ⟨hB1.os, hB1.tape, hB1.output, hB1.size, hB1.block⟩
    have HP1 := Lib.hid (HP0.out.below hB1' hgl0)
    have HR1 := Lib.hid (HR0.out.below hB1' hR0s)
    have HB2 := Lib.hid (HB0.out.trans (hB1'.mono HB0.out.size))
    clear hB1 hB1' HP0 HR0 y0 y1 z0 z1 z2 z3
    cases hp : isWordT T
    case true =>
      have hf1 : w1.frozen? ⟨g, 1, none⟩ = false := HP1.out.frozen 1
      go_upto_region 4 with fail
      obtain ⟨m, hm⟩ : ∃ m, n + 1 = m := ⟨_, rfl⟩
      rw [show (n : Int) + 1 = (m : Int) from by rw [← hm]; rfl]
      refine world_is (P := fun W => Code.wp _ _ _ _ W) (fun W2 hW2 => ?_)
      have hP2 : Blk W2 g 61 #[.slice (some ⟨b, o, none⟩) l.length c, .int .i64 (m : Int), c2, c3, c4, c5, c6, c7] := by rw [← hW2]; exact HP1.out.set_ 1 _
      have hR2 : Blk W2 w.heap.size 47 #[.int .i64 0, .string ⟨#[]⟩, .int .i64 0, .int .i64 0] := by rw [← hW2]; exact HR1.out.other (a := ⟨g, 1, none⟩) (Ne.symm hne) _
      have hG2 : w.grownBy W2 (some g) := by rw [← hW2]; exact grown_trans (grown_ofBelow HB2.out _) (grown_ofSet _ _ _ _)
      have hBw : Below B w1 W2 := by rw [← hW2]; exact (Below.refl _ _).setCell (p := ⟨g, 1, none⟩) hg _
      have y0 : W2.cell? ⟨g, 0, none⟩ = some (.slice (some ⟨b, o, none⟩) l.length c) := hP2.cell 0
      have y1 : W2.cell? ⟨g, 1, none⟩ = some (.int .i64 (m : Int)) := hP2.cell 1
      have z0 : W2.cell? ⟨b, o + n * 4, none⟩ = some (.int .i64 T.kind) := (hBw.cell (p := ⟨b, _, none⟩) hbB).trans x2
      have z1 : W2.cell? ⟨b, o + n * 4 + 1, none⟩ = some (.string T.text) := (hBw.cell (p := ⟨b, _, none⟩) hbB).trans x3
      have z2 : W2.cell? ⟨b, o + n * 4 + 2, none⟩ = some (.int .i64 T.n) := (hBw.cell (p := ⟨b, _, none⟩) hbB).trans x4
      have z3 : W2.cell? ⟨b, o + n * 4 + 3, none⟩ = some (.int .i64 T.pos) := (hBw.cell (p := ⟨b, _, none⟩) hbB).trans x5
      have r0 : W2.cell? ⟨w.heap.size, 0, none⟩ = some (.int .i64 0) := hR2.cell 0
      have r1 : W2.cell? ⟨w.heap.size, 1, none⟩ = some (.string ⟨#[]⟩) := hR2.cell 1
      have r2 : W2.cell? ⟨w.heap.size, 2, none⟩ = some (.int .i64 0) := hR2.cell 2
      have r3 : W2.cell? ⟨w.heap.size, 3, none⟩ = some (.int .i64 0) := hR2.cell 3
      have f0 := hR2.frozen 0
      have f1 := hR2.frozen 1
      have f2 := hR2.frozen 2
      have f3 := hR2.frozen 3
      have hw2 : wrap64 ((m : Int) - 1) = (n : Int) := by rw [wrap64]; omega
      have hw3 : IntKind.i64.wrap ((m : Int) - 1) = (n : Int) := by rw [IntKind.wrap_i64]; omega
      have hmH := Lib.hid hm
      clear hm
      have hne2 : b ≠ w.heap.size := Nat.ne_of_lt hbW
      have hne3 : w.heap.size ≠ g := Ne.symm hne
      have hne4 : w.heap.size ≠ b := Ne.symm hne2
      have q0 : (0 : Int) ≤ (n : Int) := by omega
      have q1 : (n : Int) < (l.length : Int) := by omega
      have HP2 := Lib.hid hP2
      have HR2 := Lib.hid hR2
      have HG2 := Lib.hid hG2
      clear hW2 hP2 hR2 hG2 x0 x1 x2 x3 x4 x5 hf1 HP1 HR1 HB2 hBw
      go_region_held3 (fun w' => w'.cell? ⟨g, 0, none⟩ = some (.slice (some ⟨b, o, none⟩) l.length c) ∧ w'.cell? ⟨g, 1, none⟩ = some (.int .i64 (m : Int)) ∧ w'.cell? ⟨b, o + n * 4, none⟩ = some (.int .i64 T.kind) ∧ w'.cell? ⟨b, o + n * 4 + 1, none⟩ = some (.string T.text) ∧ w'.cell? ⟨b, o + n * 4 + 2, none⟩ = some (.int .i64 T.n) ∧ w'.cell? ⟨b, o + n * 4 + 3, none⟩ = some (.int .i64 T.pos)) (go_keep) (fail)
      refine world_is (P := fun W => Exit.then _ _ Exit.normal _ W) (fun W3 hW3 => ?_)
      have hR3 : Blk W3 w.heap.size 47 #[.int .i64 T.kind, .string T.text, .int .i64 T.n, .int .i64 T.pos] := by rw [← hW3]; exact ((((HR2.out.set_ 0 _).set_ 1 _).set_ 2 _).set_ 3 _).drew
      have hP3 : Blk W3 g 61 #[.slice (some ⟨b, o, none⟩) l.length c, .int .i64 (m : Int), c2, c3, c4, c5, c6, c7] := by
        rw [← hW3]
        exact ((((HP2.out.other (a := ⟨w.heap.size, 0, none⟩) hne _).other (a := ⟨w.heap.size, 1, none⟩) hne _).other (a := ⟨w.heap.size, 2, none⟩) hne _).other (a := ⟨w.heap.size, 3, none⟩) hne _).drew
      have hG3 : w.grownBy W3 (some g) := by
        rw [← hW3]
        have h0 := HG2.out
        refine ⟨h0.os, h0.tape, h0.output, by have := h0.size; simpa [World.setCell] using this, fun k hk hkr => ?_⟩
        have hkn : k ≠ w.heap.size := Nat.ne_of_lt hk
        refine (((Below.heap_setCell _ _ _ _ hkn).trans (Below.heap_setCell _ _ _ _ hkn)).trans ((Below.heap_setCell _ _ _ _ hkn).trans (Below.heap_setCell _ _ _ _ hkn))).trans (h0.block k hk hkr)
      clear hW3
      go_wp2_with fail
      refine bodyPost_ret (results_c (P := Tryd.prog) rfl _ _ w.heap.size 47 _ _ rfl hR3 Tryd.underlying47 rfl (by kernel_rfl)) rfl (.inl ⟨T, hTnH.out, hp, rfl, ?_, hG3⟩)
      have hm := hmH.out
      subst hm
      exact hP3
    case false =>
      go_wp2_with fail
      refine ⟨rfl, .inr ⟨fun t ht => ?_, rfl, HP1.out, grown_ofBelow HB2.out _⟩⟩
      rw [hTnH.out] at ht
      cases ht
      exact hp
  · have hnl : n = l.length := Nat.le_antisymm hn (Nat.le_of_not_lt hlt)
    have hnone : ∀ t, l[n]? = some t → isWordT t = false := fun t ht => absurd (List.getElem?_eq_some_iff.1 ht).1 hlt
    have d1 : ((n : Int) == (l.length : Int)) = true := beq_iff_eq.2 (by omega)
    have HB := Lib.hid hb
    have hno := Lib.hid hnone
    clear hb hT hnl hlt hnone
    go_enter Tryd.func80, Tryd.ntmps80
    go_wp2_with fail
    refine world_is (P := fun W => Code.wp _ _ _ _ W) (fun W0 hW0 => ?_)
    have hB0 : Below w.heap.size w W0 := by rw [← hW0]; exact (Below.refl _ _).alloc (Nat.le_refl _) _
    have hP0 : Blk W0 g 61 #[.slice A l.length c, .int .i64 n, c2, c3, c4, c5, c6, c7] := by rw [← hW0]; exact HB.out.alloc _
    have HB0 := Lib.hid hB0
    have HP0 := Lib.hid hP0
    have y0 := (hB0.cell (p := ⟨g, 0, none⟩) hgl).trans e0
    have y1 := (hB0.cell (p := ⟨g, 1, none⟩) hgl).trans e1
    clear hW0 hP0 hB0 e0 e1
    go_quiet (fail)
    go_wp2_with fail
    exact ⟨rfl, .inr ⟨hno.out, rfl, HP0.out.drewN _, grown_trans (grown_ofBelow HB0.out _) ⟨rfl, rfl, rfl, Nat.le_refl _, fun _ _ _ => rfl⟩⟩⟩
set_option maxRecDepth 100000 in
set_option maxHeartbeats 4000000 in
theorem take_number (w : World) (g B n : Nat) (tv c2 c3 c4 c5 c6 c7 : Value) (l : List Tok)
    (hb : Blk w g 61 #[tv, .int .i64 n, c2, c3, c4, c5, c6, c7]) (hT : TkAt w B tv l) (hg : B ≤ g) (hn : n ≤ l.length) (hl : l.length ≤ 1048576) :
    Calls Tryd.prog 80 #[.pointer (some ⟨g, 0, none⟩), .func (.func 91) #[] #[]] w (TakePost w g #[tv, .int .i64 n, c2, c3, c4, c5, c6, c7] l n isNumT tokAgg) := by
  have e0 : w.cell? ⟨g, 0, none⟩ = some tv := hb.cell 0
  have e1 : w.cell? ⟨g, 1, none⟩ = some (.int .i64 n) := hb.cell 1
  have hgl := hb.lt
  obtain ⟨A, c, rfl, hT'⟩ := id hT
  clear hT'
  by_cases hlt : n < l.length
  · obtain ⟨T, hTn⟩ : ∃ T, l[n]? = some T := ⟨_, List.getElem?_eq_getElem hlt⟩
    obtain ⟨b, o, rfl, hbB, k0, k1, k2, k3⟩ := hT.at_ n T hTn
    have hne : g ≠ w.heap.size := Nat.ne_of_lt hgl
    have d1 : ((n : Int) == (l.length : Int)) = false := beq_eq_false_iff_ne.2 (by omega)
    have d2 : decide ((n : Int) < (l.length : Int)) = true := decide_eq_true (by omega)
    have HB := Lib.hid hb
    have hnl : n + 1 ≤ l.length := hlt
    have hTnH := Lib.hid hTn
    clear hb hTn hT
    go_enter Tryd.func80, Tryd.ntmps80
    go_wp2_with fail
    refine world_is (P := fun W => Code.wp _ _ _ _ W) (fun W0 hW0 => ?_)
    have hB0 : Below w.heap.size w W0 := by rw [← hW0]; exact (Below.refl _ _).alloc (Nat.le_refl _) _
    have hR0 : Blk W0 w.heap.size 47 #[.int .i64 0, .string ⟨#[]⟩, .int .i64 0, .int .i64 0] := by rw [← hW0]; exact Blk.new _ _ _
    have hP0 : Blk W0 g 61 #[.slice (some ⟨b, o, none⟩) l.length c, .int .i64 n, c2, c3, c4, c5, c6, c7] := by rw [← hW0]; exact HB.out.alloc _
    have hbW : b < w.heap.size := Nat.lt_of_lt_of_le hbB (Nat.le_trans hg (Nat.le_of_lt hgl))
    have HB0 := Lib.hid hB0
    have hR0s := hR0.lt
    have HR0 := Lib.hid hR0
    have HP0 := Lib.hid hP0
    have y0 := (hB0.cell (p := ⟨g, 0, none⟩) hgl).trans e0
    have y1 := (hB0.cell (p := ⟨g, 1, none⟩) hgl).trans e1
    have z0 := (hB0.cell (p := ⟨b, o + n * 4, none⟩) hbW).trans k0
    have z1 := (hB0.cell (p := ⟨b, o + n * 4 + 1, none⟩) hbW).trans k1
    have z2 := (hB0.cell (p := ⟨b, o + n * 4 + 2, none⟩) hbW).trans k2
    have z3 := (hB0.cell (p := ⟨b, o + n * 4 + 3, none⟩) hbW).trans k3
    have hgl0 : g < W0.heap.size := Nat.lt_of_lt_of_le hgl hB0.size
    have hbW0 : b < W0.heap.size := Nat.lt_of_lt_of_le hbW hB0.size
    clear hW0 hR0 hP0 hB0 e0 e1 k0 k1 k2 k3
    go_region_held3 (fun w' => w'.cell? ⟨g, 0, none⟩ = some (.slice (some ⟨b, o, none⟩) l.length c) ∧ w'.cell? ⟨g, 1, none⟩ = some (.int .i64 n) ∧ w'.cell? ⟨b, o + n * 4, none⟩ = some (.int .i64 T.kind) ∧ w'.cell? ⟨b, o + n * 4 + 1, none⟩ = some (.string T.text) ∧ w'.cell? ⟨b, o + n * 4 + 2, none⟩ = some (.int .i64 T.n) ∧ w'.cell? ⟨b, o + n * 4 + 3, none⟩ = some (.int .i64 T.pos)) (go_keep)
      (first | (go_at_call 91; refine (numberC_any _ _).mono ?_; rintro e w1 ⟨rfl, hB1⟩; have x0 := (hB1.cell (p := ⟨g, 0, none⟩) hgl0).trans y0; have x1 := (hB1.cell (p := ⟨g, 1, none⟩) hgl0).trans y1; have x2 := (hB1.cell (p := ⟨b, o + n * 4, none⟩) hbW0).trans z0; have x3 := (hB1.cell (p := ⟨b, o + n * 4 + 1, none⟩) hbW0).trans z1; have x4 := (hB1.cell (p := ⟨b, o + n * 4 + 2, none⟩) hbW0).trans z2; have x5 := (hB1.cell (p := ⟨b, o + n * 4 + 3, none⟩) hbW0).trans z3))
    have hB1' : Below W0.heap.size W0 w1 := ⟨hB1.os, hB1.tape, hB1.output, hB1.size, hB1.block⟩
    have HP1 := Lib.hid (HP0.out.below hB1' hgl0)
    have HR1 := Lib.hid (HR0.out.below hB1' hR0s)
    have HB2 := Lib.hid (HB0.out.trans (hB1'.mono HB0.out.size))
    clear hB1 hB1' HP0 HR0 y0 y1 z0 z1 z2 z3
    cases hp : isNumT T
    case true =>
      have hf1 : w1.frozen? ⟨g, 1, none⟩ = false := HP1.out.frozen 1
      go_upto_region 4 with fail
      obtain ⟨m, hm⟩ : ∃ m, n + 1 = m := ⟨_, rfl⟩
      rw [show (n : Int) + 1 = (m : Int) from by rw [← hm]; rfl]
      refine world_is (P := fun W => Code.wp _ _ _ _ W) (fun W2 hW2 => ?_)
      have hP2 : Blk W2 g 61 #[.slice (some ⟨b, o, none⟩) l.length c, .int .i64 (m : Int), c2, c3, c4, c5, c6, c7] := by rw [← hW2]; exact HP1.out.set_ 1 _
      have hR2 : Blk W2 w.heap.size 47 #[.int .i64 0, .string ⟨#[]⟩, .int .i64 0, .int .i64 0] := by rw [← hW2]; exact HR1.out.other (a := ⟨g, 1, none⟩) (Ne.symm hne) _
      have hG2 : w.grownBy W2 (some g) := by rw [← hW2]; exact grown_trans (grown_ofBelow HB2.out _) (grown_ofSet _ _ _ _)
      have hBw : Below B w1 W2 := by rw [← hW2]; exact (Below.refl _ _).setCell (p := ⟨g, 1, none⟩) hg _
      have y0 : W2.cell? ⟨g, 0, none⟩ = some (.slice (some ⟨b, o, none⟩) l.length c) := hP2.cell 0
      have y1 : W2.cell? ⟨g, 1, none⟩ = some (.int .i64 (m : Int)) := hP2.cell 1
      have z0 : W2.cell? ⟨b, o + n * 4, none⟩ = some (.int .i64 T.kind) := (hBw.cell (p := ⟨b, _, none⟩) hbB).trans x2
      have z1 : W2.cell? ⟨b, o + n * 4 + 1, none⟩ = some (.string T.text) := (hBw.cell (p := ⟨b, _, none⟩) hbB).trans x3
      have z2 : W2.cell? ⟨b, o + n * 4 + 2, none⟩ = some (.int .i64 T.n) := (hBw.cell (p := ⟨b, _, none⟩) hbB).trans x4
      have z3 : W2.cell? ⟨b, o + n * 4 + 3, none⟩ = some (.int .i64 T.pos) := (hBw.cell (p := ⟨b, _, none⟩) hbB).trans x5
      have r0 : W2.cell? ⟨w.heap.size, 0, none⟩ = some (.int .i64 0) := hR2.cell 0
      have r1 : W2.cell? ⟨w.heap.size, 1, none⟩ = some (.string ⟨#[]⟩) := hR2.cell 1
      have r2 : W2.cell? ⟨w.heap.size, 2, none⟩ = some (.int .i64 0) := hR2.cell 2
      have r3 : W2.cell? ⟨w.heap.size, 3, none⟩ = some (.int .i64 0) := hR2.cell 3
      have f0 := hR2.frozen 0
      have f1 := hR2.frozen 1
      have f2 := hR2.frozen 2
      have f3 := hR2.frozen 3
      have hw2 : wrap64 ((m : Int) - 1) = (n : Int) := by rw [wrap64]; omega
      have hw3 : IntKind.i64.wrap ((m : Int) - 1) = (n : Int) := by rw [IntKind.wrap_i64]; omega
      have hmH := Lib.hid hm
      clear hm
      have hne2 : b ≠ w.heap.size := Nat.ne_of_lt hbW
      have hne3 : w.heap.size ≠ g := Ne.symm hne
      have hne4 : w.heap.size ≠ b := Ne.symm hne2
      have q0 : (0 : Int) ≤ (n : Int) := by omega
      have q1 : (n : Int) < (l.length : Int) := by omega
      have HP2 := Lib.hid hP2
      have HR2 := Lib.hid hR2
      have HG2 := Lib.hid hG2
      clear hW2 hP2 hR2 hG2 x0 x1 x2 x3 x4 x5 hf1 HP1 HR1 HB2 hBw
      go_region_held3 (fun w' => w'.cell? ⟨g, 0, none⟩ = some (.slice (some ⟨b, o, none⟩) l.length c) ∧ w'.cell? ⟨g, 1, none⟩ = some (.int .i64 (m : Int)) ∧ w'.cell? ⟨b, o + n * 4, none⟩ = some (.int .i64 T.kind) ∧ w'.cell? ⟨b, o + n * 4 + 1, none⟩ = some (.string T.text) ∧ w'.cell? ⟨b, o + n * 4 + 2, none⟩ = some (.int .i64 T.n) ∧ w'.cell? ⟨b, o + n * 4 + 3, none⟩ = some (.int .i64 T.pos)) (go_keep) (fail)
      refine world_is (P := fun W => Exit.then _ _ Exit.normal _ W) (fun W3 hW3 => ?_)
      have hR3 : Blk W3 w.heap.size 47 #[.int .i64 T.kind, .string T.text, .int .i64 T.n, .int .i64 T.pos] := by rw [← hW3]; exact ((((HR2.out.set_ 0 _).set_ 1 _).set_ 2 _).set_ 3 _).drew
      have hP3 : Blk W3 g 61 #[.slice (some ⟨b, o, none⟩) l.length c, .int .i64 (m : Int), c2, c3, c4, c5, c6, c7] := by
        rw [← hW3]
        exact ((((HP2.out.other (a := ⟨w.heap.size, 0, none⟩) hne _).other (a := ⟨w.heap.size, 1, none⟩) hne _).other (a := ⟨w.heap.size, 2, none⟩) hne _).other (a := ⟨w.heap.size, 3, none⟩) hne _).drew
      have hG3 : w.grownBy W3 (some g) := by
        rw [← hW3]
        have h0 := HG2.out
        refine ⟨h0.os, h0.tape, h0.output, by have := h0.size; simpa [World.setCell] using this, fun k hk hkr => ?_⟩
        have hkn : k ≠ w.heap.size := Nat.ne_of_lt hk
        refine (((Below.heap_setCell _ _ _ _ hkn).trans (Below.heap_setCell _ _ _ _ hkn)).trans ((Below.heap_setCell _ _ _ _ hkn).trans (Below.heap_setCell _ _ _ _ hkn))).trans (h0.block k hk hkr)
      clear hW3
      go_wp2_with fail
      refine bodyPost_ret (results_c (P := Tryd.prog) rfl _ _ w.heap.size 47 _ _ rfl hR3 Tryd.underlying47 rfl (by kernel_rfl)) rfl (.inl ⟨T, hTnH.out, hp, rfl, ?_, hG3⟩)
      have hm := hmH.out
      subst hm
      exact hP3
    case false =>
      go_wp2_with fail
      refine ⟨rfl, .inr ⟨fun t ht => ?_, rfl, HP1.out, grown_ofBelow HB2.out _⟩⟩
      rw [hTnH.out] at ht
      cases ht
      exact hp
  · have hnl : n = l.length := Nat.le_antisymm hn (Nat.le_of_not_lt hlt)
    have hnone : ∀ t, l[n]? = some t → isNumT t = false := fun t ht => absurd (List.getElem?_eq_some_iff.1 ht).1 hlt
    have d1 : ((n : Int) == (l.length : Int)) = true := beq_iff_eq.2 (by omega)
    have HB := Lib.hid hb
    have hno := Lib.hid hnone
    clear hb hT hnl hlt hnone
    go_enter Tryd.func80, Tryd.ntmps80
    go_wp2_with fail
    refine world_is (P := fun W => Code.wp _ _ _ _ W) (fun W0 hW0 => ?_)
    have hB0 : Below w.heap.size w W0 := by rw [← hW0]; exact (Below.refl _ _).alloc (Nat.le_refl _) _
    have hP0 : Blk W0 g 61 #[.slice A l.length c, .int .i64 n, c2, c3, c4, c5, c6, c7] := by rw [← hW0]; exact HB.out.alloc _
    have HB0 := Lib.hid hB0
    have HP0 := Lib.hid hP0
    have y0 := (hB0.cell (p := ⟨g, 0, none⟩) hgl).trans e0
    have y1 := (hB0.cell (p := ⟨g, 1, none⟩) hgl).trans e1
    clear hW0 hP0 hB0 e0 e1
    go_quiet (fail)
    go_wp2_with fail
    exact ⟨rfl, .inr ⟨hno.out, rfl, HP0.out.drewN _, grown_trans (grown_ofBelow HB0.out _) ⟨rfl, rfl, rfl, Nat.le_refl _, fun _ _ _ => rfl⟩⟩⟩
set_option maxRecDepth 100000 in
set_option maxHeartbeats 4000000 in
theorem take_text (w : World) (g B n : Nat) (q : Nat) (s : ByteArray) (tv c2 c3 c4 c5 c6 c7 : Value) (l : List Tok)
    (hb : Blk w g 61 #[tv, .int .i64 n, c2, c3, c4, c5, c6, c7]) (hq : Blk w q 9 #[.string s]) (hT : TkAt w B tv l) (hg : B ≤ g) (hn : n ≤ l.length) (hl : l.length ≤ 1048576) :
    Calls Tryd.prog 80 #[.pointer (some ⟨g, 0, none⟩), .func (.func 82) #[] #[.pointer (some ⟨q, 0, none⟩)]] w (TakePost w g #[tv, .int .i64 n, c2, c3, c4, c5, c6, c7] l n (isText s) tokAgg) := by
  have e0 : w.cell? ⟨g, 0, none⟩ = some tv := hb.cell 0
  have e1 : w.cell? ⟨g, 1, none⟩ = some (.int .i64 n) := hb.cell 1
  have hgl := hb.lt
  obtain ⟨A, c, rfl, hT'⟩ := id hT
  clear hT'
  by_cases hlt : n < l.length
  · obtain ⟨T, hTn⟩ : ∃ T, l[n]? = some T := ⟨_, List.getElem?_eq_getElem hlt⟩
    obtain ⟨b, o, rfl, hbB, k0, k1, k2, k3⟩ := hT.at_ n T hTn
    have hne : g ≠ w.heap.size := Nat.ne_of_lt hgl
    have d1 : ((n : Int) == (l.length : Int)) = false := beq_eq_false_iff_ne.2 (by omega)
    have d2 : decide ((n : Int) < (l.length : Int)) = true := decide_eq_true (by omega)
    have HB := Lib.hid hb
    have hnl : n + 1 ≤ l.length := hlt
    have hTnH := Lib.hid hTn
    clear hb hTn hT
    have hQ := Lib.hid hq
    clear hq
    go_enter Tryd.func80, Tryd.ntmps80
    go_wp2_with fail
    refine world_is (P := fun W => Code.wp _ _ _ _ W) (fun W0 hW0 => ?_)
    have hB0 : Below w.heap.size w W0 := by rw [← hW0]; exact (Below.refl _ _).alloc (Nat.le_refl _) _
    have hR0 : Blk W0 w.heap.size 47 #[.int .i64 0, .string ⟨#[]⟩, .int .i64 0, .int .i64 0] := by rw [← hW0]; exact Blk.new _ _ _
    have hP0 : Blk W0 g 61 #[.slice (some ⟨b, o, none⟩) l.length c, .int .i64 n, c2, c3, c4, c5, c6, c7] := by rw [← hW0]; exact HB.out.alloc _
    have hbW : b < w.heap.size := Nat.lt_of_lt_of_le hbB (Nat.le_trans hg (Nat.le_of_lt hgl))
    have HB0 := Lib.hid hB0
    have hR0s := hR0.lt
    have HR0 := Lib.hid hR0
    have HP0 := Lib.hid hP0
    have y0 := (hB0.cell (p := ⟨g, 0, none⟩) hgl).trans e0
    have y1 := (hB0.cell (p := ⟨g, 1, none⟩) hgl).trans e1
    have z0 := (hB0.cell (p := ⟨b, o + n * 4, none⟩) hbW).trans k0
    have z1 := (hB0.cell (p := ⟨b, o + n * 4 + 1, none⟩) hbW).trans k1
    have z2 := (hB0.cell (p := ⟨b, o + n * 4 + 2, none⟩) hbW).trans k2
    have z3 := (hB0.cell (p := ⟨b, o + n * 4 + 3, none⟩) hbW).trans k3
    have hgl0 : g < W0.heap.size := Nat.lt_of_lt_of_le hgl hB0.size
    have hbW0 : b < W0.heap.size := Nat.lt_of_lt_of_le hbW hB0.size
    have hQ0 := Lib.hid (show Blk W0 q 9 #[.string s] from by rw [← hW0]; exact hQ.out.alloc _)
    clear hW0 hR0 hP0 hB0 e0 e1 k0 k1 k2 k3
    go_region_held3 (fun w' => w'.cell? ⟨g, 0, none⟩ = some (.slice (some ⟨b, o, none⟩) l.length c) ∧ w'.cell? ⟨g, 1, none⟩ = some (.int .i64 n) ∧ w'.cell? ⟨b, o + n * 4, none⟩ = some (.int .i64 T.kind) ∧ w'.cell? ⟨b, o + n * 4 + 1, none⟩ = some (.string T.text) ∧ w'.cell? ⟨b, o + n * 4 + 2, none⟩ = some (.int .i64 T.n) ∧ w'.cell? ⟨b, o + n * 4 + 3, none⟩ = some (.int .i64 T.pos)) (go_keep)
      (first | (go_at_call 82; refine (expectC_any _ s q _ hQ0.out.drew).mono ?_; rintro e w1 ⟨rfl, hB1⟩; have x0 := (hB1.cell (p := ⟨g, 0, none⟩) hgl0).trans y0; have x1 := (hB1.cell (p := ⟨g, 1, none⟩) hgl0).trans y1; have x2 := (hB1.cell (p := ⟨b, o + n * 4, none⟩) hbW0).trans z0; have x3 := (hB1.cell (p := ⟨b, o + n * 4 + 1, none⟩) hbW0).trans z1; have x4 := (hB1.cell (p := ⟨b, o + n * 4 + 2, none⟩) hbW0).trans z2; have x5 := (hB1.cell (p := ⟨b, o + n * 4 + 3, none⟩) hbW0).trans z3))
    have hB1' : Below W0.heap.size W0 w1 := ⟨hB1.os, hB1.tape, hB1.output, hB1.size, hB1.block⟩
    have HP1 := Lib.hid (HP0.out.below hB1' hgl0)
    have HR1 := Lib.hid (HR0.out.below hB1' hR0s)
    have HB2 := Lib.hid (HB0.out.trans (hB1'.mono HB0.out.size))
    clear hB1 hB1' HP0 HR0 y0 y1 z0 z1 z2 z3
    cases hp : (isText s) T
    case true =>
      have hf1 : w1.frozen? ⟨g, 1, none⟩ = false := HP1.out.frozen 1
      go_upto_region 4 with fail
      obtain ⟨m, hm⟩ : ∃ m, n + 1 = m := ⟨_, rfl⟩
      rw [show (n : Int) + 1 = (m : Int) from by rw [← hm]; rfl]
      refine world_is (P := fun W => Code.wp _ _ _ _ W) (fun W2 hW2 => ?_)
      have hP2 : Blk W2 g 61 #[.slice (some ⟨b, o, none⟩) l.length c, .int .i64 (m : Int), c2, c3, c4, c5, c6, c7] := by rw [← hW2]; exact HP1.out.set_ 1 _
      have hR2 : Blk W2 w.heap.size 47 #[.int .i64 0, .string ⟨#[]⟩, .int .i64 0, .int .i64 0] := by rw [← hW2]; exact HR1.out.other (a := ⟨g, 1, none⟩) (Ne.symm hne) _
      have hG2 : w.grownBy W2 (some g) := by rw [← hW2]; exact grown_trans (grown_ofBelow HB2.out _) (grown_ofSet _ _ _ _)
      have hBw : Below B w1 W2 := by rw [← hW2]; exact (Below.refl _ _).setCell (p := ⟨g, 1, none⟩) hg _
      have y0 : W2.cell? ⟨g, 0, none⟩ = some (.slice (some ⟨b, o, none⟩) l.length c) := hP2.cell 0
      have y1 : W2.cell? ⟨g, 1, none⟩ = some (.int .i64 (m : Int)) := hP2.cell 1
      have z0 : W2.cell? ⟨b, o + n * 4, none⟩ = some (.int .i64 T.kind) := (hBw.cell (p := ⟨b, _, none⟩) hbB).trans x2
      have z1 : W2.cell? ⟨b, o + n * 4 + 1, none⟩ = some (.string T.text) := (hBw.cell (p := ⟨b, _, none⟩) hbB).trans x3
      have z2 : W2.cell? ⟨b, o + n * 4 + 2, none⟩ = some (.int .i64 T.n) := (hBw.cell (p := ⟨b, _, none⟩) hbB).trans x4
      have z3 : W2.cell? ⟨b, o + n * 4 + 3, none⟩ = some (.int .i64 T.pos) := (hBw.cell (p := ⟨b, _, none⟩) hbB).trans x5
      have r0 : W2.cell? ⟨w.heap.size, 0, none⟩ = some (.int .i64 0) := hR2.cell 0
      have r1 : W2.cell? ⟨w.heap.size, 1, none⟩ = some (.string ⟨#[]⟩) := hR2.cell 1
      have r2 : W2.cell? ⟨w.heap.size, 2, none⟩ = some (.int .i64 0) := hR2.cell 2
      have r3 : W2.cell? ⟨w.heap.size, 3, none⟩ = some (.int .i64 0) := hR2.cell 3
      have f0 := hR2.frozen 0
      have f1 := hR2.frozen 1
      have f2 := hR2.frozen 2
      have f3 := hR2.frozen 3
      have hw2 : wrap64 ((m : Int) - 1) = (n : Int) := by rw [wrap64]; omega
      have hw3 : IntKind.i64.wrap ((m : Int) - 1) = (n : Int) := by rw [IntKind.wrap_i64]; omega
      have hmH := Lib.hid hm
      clear hm
      have hne2 : b ≠ w.heap.size := Nat.ne_of_lt hbW
      have hne3 : w.heap.size ≠ g := Ne.symm hne
      have hne4 : w.heap.size ≠ b := Ne.symm hne2
      have q0 : (0 : Int) ≤ (n : Int) := by omega
      have q1 : (n : Int) < (l.length : Int) := by omega
      have HP2 := Lib.hid hP2
      have HR2 := Lib.hid hR2
      have HG2 := Lib.hid hG2
      clear hW2 hP2 hR2 hG2 x0 x1 x2 x3 x4 x5 hf1 HP1 HR1 HB2 hBw
      go_region_held3 (fun w' => w'.cell? ⟨g, 0, none⟩ = some (.slice (some ⟨b, o, none⟩) l.length c) ∧ w'.cell? ⟨g, 1, none⟩ = some (.int .i64 (m : Int)) ∧ w'.cell? ⟨b, o + n * 4, none⟩ = some (.int .i64 T.kind) ∧ w'.cell? ⟨b, o + n * 4 + 1, none⟩ = some (.string T.text) ∧ w'.cell? ⟨b, o + n * 4 + 2, none⟩ = some (.int .i64 T.n) ∧ w'.cell? ⟨b, o + n * 4 + 3, none⟩ = some (.int .i64 T.pos)) (go_keep) (fail)
      refine world_is (P := fun W => Exit.then _ _ Exit.normal _ W) (fun W3 hW3 => ?_)
      have hR3 : Blk W3 w.heap.size 47 #[.int .i64 T.kind, .string T.text, .int .i64 T.n, .int .i64 T.pos] := by rw [← hW3]; exact ((((HR2.out.set_ 0 _).set_ 1 _).set_ 2 _).set_ 3 _).drew
      have hP3 : Blk W3 g 61 #[.slice (some ⟨b, o, none⟩) l.length c, .int .i64 (m : Int), c2, c3, c4, c5, c6, c7] := by
        rw [← hW3]
        exact ((((HP2.out.other (a := ⟨w.heap.size, 0, none⟩) hne _).other (a := ⟨w.heap.size, 1, none⟩) hne _).other (a := ⟨w.heap.size, 2, none⟩) hne _).other (a := ⟨w.heap.size, 3, none⟩) hne _).drew
      have hG3 : w.grownBy W3 (some g) := by
        rw [← hW3]
        have h0 := HG2.out
        refine ⟨h0.os, h0.tape, h0.output, by have := h0.size; simpa [World.setCell] using this, fun k hk hkr => ?_⟩
        have hkn : k ≠ w.heap.size := Nat.ne_of_lt hk
        refine (((Below.heap_setCell _ _ _ _ hkn).trans (Below.heap_setCell _ _ _ _ hkn)).trans ((Below.heap_setCell _ _ _ _ hkn).trans (Below.heap_setCell _ _ _ _ hkn))).trans (h0.block k hk hkr)
      clear hW3
      go_wp2_with fail
      refine bodyPost_ret (results_c (P := Tryd.prog) rfl _ _ w.heap.size 47 _ _ rfl hR3 Tryd.underlying47 rfl (by kernel_rfl)) rfl (.inl ⟨T, hTnH.out, hp, rfl, ?_, hG3⟩)
      have hm := hmH.out
      subst hm
      exact hP3
    case false =>
      go_wp2_with fail
      refine ⟨rfl, .inr ⟨fun t ht => ?_, rfl, HP1.out, grown_ofBelow HB2.out _⟩⟩
      rw [hTnH.out] at ht
      cases ht
      exact hp
  · have hnl : n = l.length := Nat.le_antisymm hn (Nat.le_of_not_lt hlt)
    have hnone : ∀ t, l[n]? = some t → (isText s) t = false := fun t ht => absurd (List.getElem?_eq_some_iff.1 ht).1 hlt
    have d1 : ((n : Int) == (l.length : Int)) = true := beq_iff_eq.2 (by omega)
    have HB := Lib.hid hb
    have hno := Lib.hid hnone
    clear hb hT hnl hlt hnone
    go_enter Tryd.func80, Tryd.ntmps80
    go_wp2_with fail
    refine world_is (P := fun W => Code.wp _ _ _ _ W) (fun W0 hW0 => ?_)
    have hB0 : Below w.heap.size w W0 := by rw [← hW0]; exact (Below.refl _ _).alloc (Nat.le_refl _) _
    have hP0 : Blk W0 g 61 #[.slice A l.length c, .int .i64 n, c2, c3, c4, c5, c6, c7] := by rw [← hW0]; exact HB.out.alloc _
    have HB0 := Lib.hid hB0
    have HP0 := Lib.hid hP0
    have y0 := (hB0.cell (p := ⟨g, 0, none⟩) hgl).trans e0
    have y1 := (hB0.cell (p := ⟨g, 1, none⟩) hgl).trans e1
    clear hW0 hP0 hB0 e0 e1
    go_quiet (fail)
    go_wp2_with fail
    exact ⟨rfl, .inr ⟨hno.out, rfl, HP0.out.drewN _, grown_trans (grown_ofBelow HB0.out _) ⟨rfl, rfl, rfl, Nat.le_refl _, fun _ _ _ => rfl⟩⟩⟩
theorem peek_at {l : List Tok} {n : Nat} {t : Tok} (h : l[n]? = some t) : peek (l.drop n) = t.text := by
  obtain ⟨h1, h2⟩ := List.getElem?_eq_some_iff.1 h
  rw [List.drop_eq_getElem_cons h1, h2]
  rfl
theorem peek_end {l : List Tok} {n : Nat} (h : l.length ≤ n) : peek (l.drop n) = ⟨#[]⟩ := by
  rw [List.drop_eq_nil_of_le h]
  rfl
set_option maxHeartbeats 4000000 in
theorem peek_any (w : World) (g B n : Nat) (tv c2 c3 c4 c5 c6 c7 : Value) (l : List Tok)
    (hb : Blk w g 61 #[tv, .int .i64 n, c2, c3, c4, c5, c6, c7]) (hT : TkAt w B tv l) (_hl : l.length ≤ 1048576) :
    Calls Tryd.prog 59 #[.pointer (some ⟨g, 0, none⟩)] w fun e w' => e = .returned (.string (peek (l.drop n))) ∧ Below w.heap.size w w' := by
  have e0 : w.cell? ⟨g, 0, none⟩ = some tv := hb.cell 0
  have e1 : w.cell? ⟨g, 1, none⟩ = some (.int .i64 n) := hb.cell 1
  obtain ⟨A, c, rfl, hT'⟩ := id hT
  clear hT'
  by_cases hlt : n < l.length
  · obtain ⟨T, hTn⟩ : ∃ T, l[n]? = some T := ⟨_, List.getElem?_eq_getElem hlt⟩
    obtain ⟨b, o, rfl, hbB, k0, k1, k2, k3⟩ := hT.at_ n T hTn
    have d2 : decide ((n : Int) < (l.length : Int)) = true := decide_eq_true (by omega)
    have q0 : (0 : Int) ≤ (n : Int) := by omega
    have q1 : (n : Int) < (l.length : Int) := by omega
    have hpk : Hid (peek (l.drop n) = T.text) := peek_at hTn
    clear hb hT hTn hlt k0 k2 k3
    go_enter Tryd.func59, Tryd.ntmps59
    go_wp2_with fail
    go_quiet (fail)
    go_wp2_with fail
    go_quiet (fail)
    go_wp2_with fail
    go_ret
    exact ⟨by rw [hpk.out]; rfl, ⟨rfl, rfl, rfl, Nat.le_refl _, fun _ _ => rfl⟩⟩
  · have d2 : decide ((n : Int) < (l.length : Int)) = false := decide_eq_false (by omega)
    have d3 : decide (n < l.length) = false := decide_eq_false hlt
    have hpk : Hid (peek (l.drop n) = ⟨#[]⟩) := peek_end (Nat.le_of_not_lt hlt)
    clear hb hT hlt
    go_enter Tryd.func59, Tryd.ntmps59
    go_wp2_with fail
    go_quiet (fail)
    go_wp2_with fail
    go_ret
    exact ⟨by rw [hpk.out]; rfl, ⟨rfl, rfl, rfl, Nat.le_refl _, fun _ _ => rfl⟩⟩
set_option maxHeartbeats 4000000 in
theorem expect_any (w : World) (g B n : Nat) (s : ByteArray) (tv c2 c3 c4 c5 c6 c7 : Value) (l : List Tok)
    (hb : Blk w g 61 #[tv, .int .i64 n, c2, c3, c4, c5, c6, c7]) (hT : TkAt w B tv l) (hg : B ≤ g) (hn : n ≤ l.length) (hl : l.length ≤ 1048576) :
    Calls Tryd.prog 56 #[.pointer (some ⟨g, 0, none⟩), .string s] w (TakePost w g #[tv, .int .i64 n, c2, c3, c4, c5, c6, c7] l n (isText s) fun _ => .tuple #[]) := by
  have hgl := hb.lt
  have HTK := Lib.hid (fun W q (h1 : Blk W g 61 #[tv, .int .i64 n, c2, c3, c4, c5, c6, c7]) (h2 : Blk W q 9 #[.string s]) (h3 : TkAt W B tv l) => take_text W g B n q s tv c2 c3 c4 c5 c6 c7 l h1 h2 h3 hg hn hl)
  have HB := Lib.hid hb
  have HT := Lib.hid hT
  clear hb hT
  have hBg : Hid (B ≤ w.heap.size) := Nat.le_trans hg (Nat.le_of_lt hgl)
  go_enter Tryd.func56, Tryd.ntmps56
  go_wp2_with fail
  refine (HTK.out _ w.heap.size (HB.out.alloc _) (Blk.new _ _ _) (HT.out.below ((Below.refl B w).alloc hBg.out _))).mono ?_
  rintro e w1 (⟨t, ht, hp, rfl, hP, hG⟩ | ⟨hno, rfl, hP, hG⟩)
  · go_wp2_with fail
    go_end0
    exact .inl ⟨t, ht, hp, rfl, hP, grown_trans (grown_ofBelow ((Below.refl _ w).alloc (Nat.le_refl _) _) _) hG⟩
  · go_wp2_with fail
    exact ⟨rfl, .inr ⟨hno, rfl, hP, grown_trans (grown_ofBelow ((Below.refl _ w).alloc (Nat.le_refl _) _) _) hG⟩⟩
end Go.Proofs.YtemhiiignamkjaaDoor
