/-
  Layer 12 (parse), the specification's reader: a type in plain words.
  Layer 12 (parse), the specification's reader: the flags that were seen; a type's steps; find in a longer list.
  Layer 12 (parse), the specification's reader: one step on; find in a row of the call's own.
  Layer 12 (parse), the specification's Parse: the items, read one by one (plain words).
  Layer 12 (parse), the specification's Parse: the least index of a wrong name, step by step (plain words).
  Layer 12 (parse), the specification's Parse: elements of its rows; small words.
-/
import Derived.Test.YtemhiiignamkjaaDoorMY
namespace Go.Proofs.YtemhiiignamkjaaDoor
open Go.RowKit LexP ParP
namespace ParP
section
variable {l : List Tok} {n n' : Nat} {b b' : Bool} {fl lf : Nat} {lb : Bool} {rH : Rd Tok}
/-- What the words of a type give from where the reader stands. -/
def typFrom (r : Rd Tok) (fl lf : Nat) (lb : Bool) : Rd (Nat × Nat) := r.bind fun m _ => typLoop m fl lf lb
theorem typ_exit (hk : Sk l n b rH) (he : b = true ∨ isB l n wClose = true) (hk2 : Sk l n' b' (thenTake rH (isText wClose))) :
    Sk l n' b' (typFrom rH fl lf lb) ∧ (b' = false → typFrom rH fl lf lb = .ok (l.drop n') (fl, lf)) := by
  cases b with
  | true =>
    rw [hk.isBad] at hk2 ⊢
    refine ⟨hk2.of (fun m x e => by cases e) (fun m e => by cases e; rfl), fun e => ?_⟩
    subst e
    obtain ⟨x, hx⟩ := hk2.isOk
    cases hx
  | false =>
    have hB : isB l n wClose = true := by rcases he with h | h; cases h; exact h
    obtain ⟨t, ht, hp⟩ := isB_true hB
    obtain ⟨e1, e2⟩ := Sk.eq (hk.yes ht hp).1 hk2
    subst e1 e2
    obtain ⟨x, rfl⟩ := hk.isOk
    have e : typFrom (Rd.ok (l.drop n) x) fl lf lb = .ok (l.drop (n + 1)) (fl, lf) := by
      show typLoop (l.drop n) fl lf lb = _
      rw [drop_at_ ht, typLoop.eq_def]
      dsimp only
      rw [if_pos hp]
    rw [e]
    exact ⟨⟨lt_of_at ht, rfl, rfl⟩, fun _ => rfl⟩
theorem typ_end (hk : Sk l n false rH) (hn : l.length ≤ n) : typFrom rH fl lf lb = .bad (l.drop n) := by
  obtain ⟨x, rfl⟩ := hk.isOk
  show typLoop (l.drop n) fl lf lb = _
  rw [List.drop_eq_nil_of_le hn, typLoop.eq_def]
theorem typ_life {t : Tok} {r1 r2 r3 : Rd Tok} (hk : Sk l n false rH) (ht : l[n]? = some t) (hc : isText wClose t = false) (hl : isText wLife t = true) (hlb : lb = false) (h1 : thenTake rH (isText wLife) = r1) (h2 : thenTake r1 isNumT = r2) (h3 : thenTake r2 (isText wSemi) = r3) :
    typFrom rH fl lf lb = typFrom r3 fl (tokV r2).n true := by
  obtain ⟨x, rfl⟩ := hk.isOk
  subst hlb
  have e1 : r1 = .ok (l.drop (n + 1)) t := by rw [← h1]; exact take_drop_yes ht hl
  subst e1
  rw [show typFrom (Rd.ok (l.drop n) x) fl lf false = typLoop (l.drop n) fl lf false from rfl, drop_at_ ht, typLoop.eq_def]
  dsimp only
  rw [if_neg (by rw [hc]; decide), if_pos (by rw [hl]; rfl)]
  subst h2 h3
  unfold thenTake typFrom
  simp only [Rd.bind]
  cases hd : l.drop (n + 1) with
  | nil => rfl
  | cons u r2 =>
    simp only [take]
    cases hu : isNumT u with
    | false => rfl
    | true =>
      simp only [if_true, tokV]
      cases r2 with
      | nil => rfl
      | cons v r3 =>
        simp only []
        cases hv : isText wSemi v with
        | false => rfl
        | true => rfl
theorem typ_flag {t : Tok} {r1 r2 : Rd Tok} (hk : Sk l n false rH) (ht : l[n]? = some t) (hc : isText wClose t = false) (hl : (isText wLife t && !lb) = false) (hf : findW flagWords t.text < 7) (hb : fl.testBit (findW flagWords t.text) = false)
    (h1 : thenTake rH (isText t.text) = r1) (h2 : thenTake r1 (isText wSemi) = r2) : typFrom rH fl lf lb = typFrom r2 (fl + 2 ^ findW flagWords t.text) lf lb := by
  obtain ⟨x, rfl⟩ := hk.isOk
  have e1 : r1 = .ok (l.drop (n + 1)) t := by rw [← h1]; exact take_drop_yes ht (text_eq_iff.2 rfl)
  subst e1
  rw [show typFrom (Rd.ok (l.drop n) x) fl lf lb = typLoop (l.drop n) fl lf lb from rfl, drop_at_ ht, typLoop.eq_def]
  dsimp only
  rw [if_neg (by rw [hc]; decide), if_neg (by rw [hl]; decide), if_pos (by rw [hb, decide_eq_true hf]; rfl)]
  subst h2
  unfold thenTake typFrom
  simp only [Rd.bind]
  cases hd : l.drop (n + 1) with
  | nil => rfl
  | cons v r2 =>
    simp only [take]
    cases hv : isText wSemi v with
    | false => rfl
    | true => rfl
theorem typ_stop {t : Tok} (hk : Sk l n false rH) (ht : l[n]? = some t) (hc : isText wClose t = false) (hl : (isText wLife t && !lb) = false) (hf : ¬ findW flagWords t.text < 7 ∨ fl.testBit (findW flagWords t.text) = true) : typFrom rH fl lf lb = .bad (l.drop n) := by
  obtain ⟨x, rfl⟩ := hk.isOk
  show typLoop (l.drop n) fl lf lb = _
  rw [drop_at_ ht, typLoop.eq_def]
  dsimp only
  rw [if_neg (by rw [hc]; decide), if_neg (by rw [hl]; decide), if_neg]
  intro h
  rw [Bool.and_eq_true] at h
  rcases hf with hf | hf
  · exact hf (of_decide_eq_true h.1)
  · rw [hf] at h; cases h.2
end
end ParP
end Go.Proofs.YtemhiiignamkjaaDoor
namespace Go.Proofs.YtemhiiignamkjaaDoor
open Go.RowKit LexP ParP
attribute [local go_sem] Oper.semAt_some
namespace ParP
theorem findW_any (l : List ByteArray) (v : ByteArray) : decide (findW l v < l.length) = l.any fun x => x.toList == v.toList := by
  unfold findW
  rw [Bool.eq_iff_iff, decide_eq_true_iff, List.findIdx_lt_length, List.any_eq_true]
theorem findI_neg (l : List ByteArray) (v : ByteArray) : decide (0 ≤ findI l v) = l.any fun x => x.toList == v.toList := by
  rw [← findW_any]
  unfold findI
  by_cases h : findW l v < l.length
  · rw [if_pos h, decide_eq_true h, decide_eq_true (by omega)]
  · rw [if_neg h, decide_eq_false h]
    rfl
theorem bit_add {fl f g : Nat} (hf : fl < 128) (hk : f < 7) (hg : g < 7) (hb : fl.testBit f = false) : (fl + 2 ^ f).testBit g = (fl.testBit g || g == f) ∧ fl + 2 ^ f < 128 := by
  have h : ((List.range 128).all fun a => (List.range 7).all fun b => (List.range 7).all fun c => a.testBit b || (((a + 2 ^ b).testBit c == (a.testBit c || c == b)) && decide (a + 2 ^ b < 128))) = true := by kernel_rfl
  have h1 := List.all_eq_true.1 (List.all_eq_true.1 (List.all_eq_true.1 h fl (List.mem_range.2 hf)) f (List.mem_range.2 hk)) g (List.mem_range.2 hg)
  rw [hb, Bool.false_or, Bool.and_eq_true, beq_iff_eq] at h1
  exact ⟨h1.1, of_decide_eq_true h1.2⟩
theorem flag_words {f g : Nat} {u v : ByteArray} (hu : flagWords[f]? = some u) (hv : flagWords[g]? = some v) : (u.toList == v.toList) = (g == f) := by
  have h : ((List.range 7).all fun a => (List.range 7).all fun b => (match flagWords[a]?, flagWords[b]? with | some x, some y => x.toList == y.toList | _, _ => false) == (b == a)) = true := by kernel_rfl
  have hf : f < 7 := (List.getElem?_eq_some_iff.1 hu).1
  have hg : g < 7 := (List.getElem?_eq_some_iff.1 hv).1
  have h1 := List.all_eq_true.1 (List.all_eq_true.1 h f (List.mem_range.2 hf)) g (List.mem_range.2 hg)
  rw [hu, hv] at h1
  exact beq_iff_eq.1 h1
/-- The words that were seen are those of the flags. -/
def SeenOk (seen : List ByteArray) (fl : Nat) : Prop := fl < 128 ∧ ∀ f u, flagWords[f]? = some u → (seen.any fun x => x.toList == u.toList) = fl.testBit f
theorem seen_nil : SeenOk [] 0 := ⟨by decide, fun f u _ => by simp⟩
theorem SeenOk.snoc {seen : List ByteArray} {fl f : Nat} {u : ByteArray} (h : SeenOk seen fl) (hu : flagWords[f]? = some u) (hb : fl.testBit f = false) : SeenOk (seen ++ [u]) (fl + 2 ^ f) := by
  have hf : f < 7 := (List.getElem?_eq_some_iff.1 hu).1
  refine ⟨(bit_add h.1 hf hf hb).2, fun g v hv => ?_⟩
  have hg : g < 7 := (List.getElem?_eq_some_iff.1 hv).1
  rw [List.any_append, h.2 g v hv, (bit_add h.1 hf hg hb).1, ← flag_words hu hv]
  simp
/-- The steps of a type, as rdTyp says them. -/
theorem sk_typ {l : List Tok} {n n' : Nat} {b' : Bool} {r1 r2 r3 : Rd Tok} {R : Rd (Nat × Nat)} {fl lf : Nat} (h1 : thenTake (Rd.ok (l.drop n) ()) (isText wType) = r1) (h2 : thenTake r1 isWordT = r2) (h3 : thenTake r2 (isText wOpen) = r3)
    (hR : typFrom r3 0 0 false = R) (hk : Sk l n' b' R) (ho : b' = false → R = .ok (l.drop n') (fl, lf)) (st : St) :
    Sk l n' b' ((expect wType (l.drop n)).bind fun m _ => (rdTyp m).bind fun r x => .ok r { st with typs := st.typs ++ [x] }) ∧
    (b' = false → ((expect wType (l.drop n)).bind fun m _ => (rdTyp m).bind fun r x => .ok r { st with typs := st.typs ++ [x] }) = .ok (l.drop n') { st with typs := st.typs ++ [⟨tokV r2, fl, lf⟩] }) := by
  have key : ∀ {X : Rd St}, (∃ m, X = .bad m ∧ R = .bad m) → Sk l n' b' X ∧ (b' = false → X = .ok (l.drop n') { st with typs := st.typs ++ [⟨tokV r2, fl, lf⟩] }) := fun {X} hX => by
    obtain ⟨m, rfl, e8⟩ := hX
    rw [e8] at hk
    refine ⟨hk.of (fun m x e => by cases e) (fun m e => by cases e; rfl), fun e => ?_⟩
    subst e
    obtain ⟨x, hx⟩ := hk.isOk
    cases hx
  have e1 : expect wType (l.drop n) = r1 := h1
  rw [e1]
  cases r1 with
  | bad m => subst h2 h3 hR; exact key ⟨m, rfl, rfl⟩
  | ok m1 t1 =>
    simp only [Rd.bind]
    unfold rdTyp
    have e2 : word m1 = r2 := h2
    rw [e2]
    cases r2 with
    | bad m => subst h3 hR; exact key ⟨m, rfl, rfl⟩
    | ok m2 t2 =>
      simp only [Rd.bind]
      have e3 : expect wOpen m2 = r3 := h3
      rw [e3]
      cases r3 with
      | bad m => subst hR; exact key ⟨m, rfl, rfl⟩
      | ok m3 t3 =>
        simp only []
        have e4 : typLoop m3 0 0 false = R := hR
        rw [e4]
        cases R with
        | bad m => exact key ⟨m, rfl, rfl⟩
        | ok m4 x4 =>
          refine ⟨hk.of (fun m x e => by cases e; exact ⟨_, rfl⟩) (fun m e => by cases e), fun e => ?_⟩
          have := ho e
          cases this
          rfl
end ParP
-- find in a list of any size that fits
set_option maxRecDepth 100000 in
set_option maxHeartbeats 4000000 in
theorem rfind_more (w : World) (b o c : Nat) (zs : List ByteArray) (x : ByteArray) (hl : zs.length ≤ 100000) (hc : ∀ j z, zs[j]? = some z → w.cell? ⟨b, o + j, none⟩ = some (.string z)) :
    Calls Tryd.prog 30 #[.slice (some ⟨b, o, none⟩) zs.length c, .string x] w fun e w' => e = .returned (.int .i64 (findI zs x)) ∧ w' = w := by
  have HC := Lib.hid hc
  obtain ⟨n, hn⟩ : ∃ n, zs.length = n := ⟨_, rfl⟩
  have hnH := Lib.hid hn
  rw [hn] at hl ⊢
  clear hc hn
  go_enter Tryd.func30, Tryd.ntmps30
  go_wp2_with fail
  go_loopw [5] (fun v5 wr => ∃ i : Nat, v5 = .int .i64 i ∧ i ≤ n ∧ Hid (findW zs x = i + findW (zs.drop i) x) ∧ wr = w) (fun v5 _ => n - (intOf v5).toNat)
  case atStart => exact ⟨0, rfl, Nat.zero_le _, by unfold Hid; rw [List.drop_zero, Nat.zero_add], rfl⟩
  case round =>
  obtain ⟨i, rfl, hi, hE, hwr⟩ := hrel
  rw [hwr]
  clear hwr
  by_cases hlt : i < n
  · have d1 : decide (i < n) = true := decide_eq_true hlt
    have d2 : decide ((i : Int) < (n : Int)) = true := decide_eq_true (by omega)
    obtain ⟨z, hz⟩ : ∃ z, zs[i]? = some z := ⟨_, List.getElem?_eq_getElem (by rw [hnH.out]; exact hlt)⟩
    have k0 := HC.out i z hz
    have hstep : Hid (findW (zs.drop i) x = if (z.toList == x.toList) = true then 0 else findW (zs.drop (i + 1)) x + 1) := by
      obtain ⟨h1, h2⟩ := List.getElem?_eq_some_iff.1 hz
      unfold Hid
      rw [List.drop_eq_getElem_cons h1, h2, findW_cons]
    have q0 : (0 : Int) ≤ (i : Int) := by omega
    have q1 : (i : Int) < (n : Int) := by omega
    have hltH := Lib.hid hlt
    clear hz hlt
    cases hzx : (z.toList == x.toList)
    case true =>
      rw [hzx, if_pos rfl] at hstep
      have hR : Hid (findI zs x = (i : Int)) := by
        unfold Hid findI
        rw [hE.out, hstep.out, hnH.out, if_pos (by have := hltH.out; omega)]
        rfl
      go_wp2_with fail
      go_ret
      exact ⟨by rw [hR.out]; rfl, rfl⟩
    case false =>
      rw [hzx, if_neg (by decide)] at hstep
      have hne : ¬ z.toList = x.toList := beq_eq_false_iff_ne.1 hzx
      go_wp2_with fail
      go_roundw
      case rel => exact ⟨i + 1, by go_num, hltH.out, by unfold Hid; rw [hE.out, hstep.out]; omega, trivial⟩
      case measure => have := hltH.out; simp [intOf]; omega
  · have d1 : decide (i < n) = false := decide_eq_false hlt
    have d2 : decide ((i : Int) < (n : Int)) = false := decide_eq_false (by omega)
    have hR : Hid (findI zs x = -1) := by
      unfold Hid findI
      rw [hE.out, List.drop_eq_nil_of_le (by rw [hnH.out]; omega), hnH.out, if_neg (by omega)]
    clear hlt
    go_wp2_with fail
    go_ret
    exact ⟨by rw [hR.out]; rfl, rfl⟩
end Go.Proofs.YtemhiiignamkjaaDoor
namespace Go.Proofs.YtemhiiignamkjaaDoor
open Go.RowKit LexP ParP
attribute [local go_sem] Oper.semAt_some
namespace ParP
section
variable {α : Type} {l : List Tok} {n n' : Nat} {bad bad' : Bool} {p : Tok → Bool}
theorem Sk.next {r : Rd α} (h : Sk l n bad r) (h' : Sk l n' bad' (thenTake r p)) : n ≤ n' ∧ (bad' = false → n < n') := by
  cases bad with
  | true =>
    obtain ⟨e1, e2⟩ := Sk.eq h.stays.1 h'
    exact ⟨by omega, fun e => by rw [e2] at e; cases e⟩
  | false =>
    by_cases hp : ∃ t, l[n]? = some t ∧ p t = true
    · obtain ⟨t, ht, hp⟩ := hp
      obtain ⟨e1, e2⟩ := Sk.eq (h.yes ht hp).1 h'
      exact ⟨by omega, fun _ => by omega⟩
    · obtain ⟨e1, e2⟩ := Sk.eq (h.no (p := p) (fun t ht => by
        cases e : p t with
        | false => rfl
        | true => exact absurd ⟨t, ht, e⟩ hp)).1 h'
      exact ⟨by omega, fun e => by rw [e2] at e; cases e⟩
end
theorem flag_at {u : ByteArray} (h : findW flagWords u < 7) : flagWords[findW flagWords u]? = some u := by
  have hl : findW flagWords u < flagWords.length := h
  have h2 := List.findIdx_getElem (xs := flagWords) (p := fun x : ByteArray => x.toList == u.toList) (w := hl)
  rw [List.getElem?_eq_getElem hl]
  exact congrArg some (text_eq_iff.1 h2)
theorem flag_at' {u : ByteArray} {f : Nat} (h : findW flagWords u = f) (h7 : f < 7) : flagWords[f]? = some u := by
  rw [← h] at h7 ⊢
  exact flag_at h7
theorem life_list : wLife.toList = [108, 105, 102, 101] := by kernel_rfl
theorem flag_life_no {t : Tok} (h : isText wLife t = true) : ¬ findW flagWords t.text < 7 := by
  rw [show t.text = wLife from text_eq_iff.1 h]
  exact of_decide_eq_false (by kernel_rfl)
end ParP
theorem RowsA.apartOwn {w : World} {B B' k n : Nat} {L : List RowD} {t : TypeId} {v : Value} {xs : List Value} (h : RowsA w B L) (hW : w.ownsRow B' t k v n xs) (ht : (L.all fun r => r.el != t) = true) : ∀ (i : Nat) (r : RowD), L[i]? = some r → r.v.ownBlock = none ∨ r.v.ownBlock ≠ v.ownBlock := fun i r hr =>
  own_own_ne (h.own i r hr) hW (by
    have := List.all_eq_true.1 ht r (List.mem_iff_getElem?.2 ⟨i, hr⟩)
    simpa using this)
set_option maxRecDepth 100000 in
set_option maxHeartbeats 4000000 in
theorem rfind_zero (w : World) (A : Option Addr) (c : Nat) (x : ByteArray) :
    Calls Tryd.prog 30 #[.slice A 0 c, .string x] w fun e w' => e = .returned (.int .i64 (-1)) ∧ w' = w := by
  go_enter Tryd.func30, Tryd.ntmps30
  go_wp2_with fail
  go_loopw [5] (fun v5 wr => v5 = .int .i64 0 ∧ wr = w) (fun v5 _ => 0)
  case atStart => exact ⟨rfl, rfl⟩
  case round =>
  obtain ⟨rfl, hwr⟩ := hrel
  rw [hwr]
  clear hwr
  go_wp2_with fail
  go_ret
  exact ⟨rfl, rfl⟩
theorem rfind_own (w : World) (B : Nat) (v : Value) (zs : List ByteArray) (x : ByteArray) (hl : zs.length ≤ 100000) (h : w.ownsRow B 9 1 v zs.length (zs.map Value.string)) :
    Calls Tryd.prog 30 #[v, .string x] w fun e w' => e = .returned (.int .i64 (findI zs x)) ∧ w' = w := by
  obtain ⟨A, c, rfl, hA⟩ := rowAt_own h
  by_cases h0 : 0 < zs.length
  · obtain ⟨b, o, rfl, _, hc⟩ := hA h0
    exact rfind_more w b o c zs x hl fun j z hz => hc j _ (by rw [List.getElem?_map, hz]; rfl)
  · have e : zs = [] := List.eq_nil_of_length_eq_zero (by omega)
    subst e
    exact rfind_zero w A c x
end Go.Proofs.YtemhiiignamkjaaDoor
namespace Go.Proofs.YtemhiiignamkjaaDoor
open Go.RowKit LexP ParP
namespace ParP
theorem rule_at {u : ByteArray} {k : Nat} (h : findW ruleWords u = k) (hk : k < 5) : ruleWords[k]? = some u := by
  subst h
  have hl : findW ruleWords u < ruleWords.length := hk
  have h2 := List.findIdx_getElem (xs := ruleWords) (p := fun x : ByteArray => x.toList == u.toList) (w := hl)
  rw [List.getElem?_eq_getElem hl]
  exact congrArg some (text_eq_iff.1 h2)
theorem words7_rule {u : ByteArray} {k : Nat} (h : findW ruleWords u = k) (hk : k < 5) : findW words7 u = k + 2 := by
  have ha := rule_at h hk
  have ht : ((List.range 5).all fun k => match ruleWords[k]? with | some z => findW words7 z == k + 2 | none => false) = true := by kernel_rfl
  have h1 := List.all_eq_true.1 ht k (List.mem_range.2 hk)
  rw [ha] at h1
  exact beq_iff_eq.1 h1
theorem words7_quorum {t : Tok} (h : isText wQuorum t = true) : findW words7 t.text = 1 := by
  rw [show t.text = wQuorum from text_eq_iff.1 h]
  kernel_rfl
theorem words7_type {t : Tok} (h : isText wType t = true) : findW words7 t.text = 0 := by
  rw [show t.text = wType from text_eq_iff.1 h]
  kernel_rfl
theorem words7_none {t : Tok} (h1 : isText wType t = false) (h2 : isText wQuorum t = false) (h3 : ¬ findW ruleWords t.text < 5) : ¬ findW words7 t.text < 7 := by
  unfold words7
  rw [findW_cons, findW_cons, ← isText_comm, ← isText_comm, h1, h2, if_neg (by decide), if_neg (by decide)]
  omega
/-- One item, as a step of the items. -/
structure StepR (l : List Tok) (n : Nat) (st : St) (r : Rd St) : Prop where
  eq : itemsR (l.drop n) st = r.bind itemsR
  ok : ∀ m x, r = .ok m x → m.length < (l.drop n).length ∧ x.typs.length ≤ n + 1 ∧ x.ruls.length ≤ n + 1 ∧ x.quos.length ≤ n + 1
  bad : ∀ m, r = .bad m → m.length ≤ (l.drop n).length
section
variable {l : List Tok} {n k : Nat} {st : St} {t : Tok}
theorem step_item (ht : l[n]? = some t) (hc : isText wClose t = false) (h7 : findW words7 t.text = k) (hk : k < 7) (hs : st.typs.length ≤ n ∧ st.ruls.length ≤ n ∧ st.quos.length ≤ n) : StepR l n st (item (l.drop (n + 1)) st k) :=
  ⟨by rw [drop_at_ ht, itemsR_cons _ _ hc, h7, if_pos hk], fun m x h => ⟨by have := item_len h; rw [drop_at_ ht, List.length_cons]; omega, item_size h hs⟩, fun m h => by
    have := ((item_ls st k (l.drop (n + 1))).1.2 m h).length_le
    rw [drop_at_ ht, List.length_cons]
    omega⟩
theorem step_rule (ht : l[n]? = some t) (hc : isText wClose t = false) (h5 : findW ruleWords t.text = k) (hk : k < 5) (hs : st.typs.length ≤ n ∧ st.ruls.length ≤ n ∧ st.quos.length ≤ n) :
    StepR l n st ((rdRul (k + 1) (l.drop (n + 1))).bind fun r x => .ok r { st with ruls := st.ruls ++ [x] }) := by
  have h := step_item ht hc (words7_rule h5 hk) (by omega) hs
  unfold item at h
  rw [if_neg (by omega), if_neg (by omega)] at h
  exact h
theorem step_quorum (ht : l[n]? = some t) (hc : isText wClose t = false) (h5 : isText wQuorum t = true) (hs : st.typs.length ≤ n ∧ st.ruls.length ≤ n ∧ st.quos.length ≤ n) :
    StepR l n st ((rdQuo (l.drop (n + 1))).bind fun r x => .ok r { st with quos := st.quos ++ [x] }) := by
  have h := step_item ht hc (words7_quorum h5) (by omega) hs
  unfold item at h
  rw [if_neg (by omega), if_pos rfl] at h
  exact h
theorem step_kind (hc : isB l n wClose = false) (hq : isB l n wQuorum = false) (hr : ∀ t, l[n]? = some t → ¬ findW ruleWords t.text < 5) (hs : st.typs.length ≤ n ∧ st.ruls.length ≤ n ∧ st.quos.length ≤ n) :
    StepR l n st ((expect wType (l.drop n)).bind fun m _ => (rdTyp m).bind fun r x => .ok r { st with typs := st.typs ++ [x] }) := by
  cases ht : l[n]? with
  | none =>
    have e : l.drop n = [] := List.drop_eq_nil_of_le (by rw [List.getElem?_eq_none_iff] at ht; exact ht)
    rw [e]
    have er : (expect wType []).bind (fun m _ => (rdTyp m).bind fun r x => .ok r { st with typs := st.typs ++ [x] }) = .bad [] := rfl
    rw [er]
    exact ⟨by rw [e]; exact items_end _ _, fun m x h => (by cases h), fun m h => by cases h; exact Nat.zero_le _⟩
  | some t =>
    by_cases h1 : isText wType t = true
    · have h := step_item ht (isB_false hc t ht) (words7_type h1) (by omega) hs
      unfold item at h
      rw [if_pos rfl] at h
      have e : expect wType (l.drop n) = .ok (l.drop (n + 1)) t := take_drop_yes ht h1
      rw [e]
      exact h
    · have h1 : isText wType t = false := by simpa using h1
      have e : expect wType (l.drop n) = .bad (l.drop n) := take_drop_no fun u hu => by rw [ht] at hu; cases hu; exact h1
      rw [e]
      refine ⟨?_, fun m x h => (by cases h), fun m h => by cases h; exact Nat.le_refl _⟩
      show _ = Rd.bad (l.drop n)
      rw [drop_at_ ht, itemsR_cons _ _ (isB_false hc t ht), if_neg (words7_none h1 (isB_false hq t ht) (hr t ht))]
end
/-- What is left behind the items. -/
def polEnd (nm : Tok) (l4 : List Tok) (st : St) : Rd (Tok × St) := if l4.isEmpty then .ok [] (nm, st) else .bad l4
theorem pol_start {l : List Tok} {n : Nat} {b : Bool} {r1 r2 r3 : Rd Tok} (h1 : thenTake (Rd.ok l ()) (isText wPolicy) = r1) (h2 : thenTake r1 isWordT = r2) (h3 : thenTake r2 (isText wOpen) = r3) (hk : Sk l n b r3) :
    ∃ R, policy l = R.bind (polEnd (tokV r2)) ∧ (b = true → R = .bad (l.drop n)) ∧ (b = false → R = itemsR (l.drop n) ⟨[], [], []⟩) := by
  refine ⟨r3.bind fun m _ => itemsR m ⟨[], [], []⟩, ?_, fun e => ?_, fun e => ?_⟩
  · unfold policy
    have e1 : expect wPolicy l = r1 := h1
    rw [e1]
    cases r1 with
    | bad m => subst h2 h3; rfl
    | ok m1 t1 =>
      simp only [Rd.bind]
      have e2 : word m1 = r2 := h2
      rw [e2]
      cases r2 with
      | bad m => subst h3; rfl
      | ok m2 t2 =>
        simp only []
        have e3 : expect wOpen m2 = r3 := h3
        rw [e3]
        cases r3 with
        | bad m => rfl
        | ok m3 t3 => rfl
  · subst e
    rw [hk.isBad]
    rfl
  · subst e
    obtain ⟨x, hx⟩ := hk.isOk
    rw [hx]
    rfl
end ParP
/-- Where the specification's Parse stands among the items. -/
def MainR (w : World) (B g : Nat) (tv nm : Value) (l : List Tok) (R : Rd St) (n : Nat) (b : Bool) : Prop :=
  n ≤ l.length ∧ match b with
  | false => ∃ st, R = itemsR (l.drop n) st ∧ RdIs w B g n false tv nm st ∧ st.typs.length ≤ n ∧ st.ruls.length ≤ n ∧ st.quos.length ≤ n
  | true => R = .bad (l.drop n) ∧ ∃ c3 c4 c5 c6 c7 c8 c9 c10, Blk w g 71 #[tv, .int .i64 n, .bool true, c3, c4, c5, c6, c7, c8, c9, c10]
theorem main_step {w w' : World} {B g n : Nat} {tv nm : Value} {l : List Tok} {R : Rd St} {st : St} {r : Rd St} {e : Ending} (hn : n ≤ l.length) (hs : StepR l n st r) (hR : R = itemsR (l.drop n) st) (hp : RdPost w B g tv nm l r e w') :
    Below B w w' ∧ e = .returned (.tuple #[]) ∧ ∃ n' b', MainR w' B g tv nm l R n' b' ∧ n ≤ n' ∧ (b' = false → n < n') := by
  obtain ⟨hB, he, n', hn', h⟩ := hp
  refine ⟨hB, he, n', ?_⟩
  cases r with
  | ok rest st2 =>
    obtain ⟨h1, h2⟩ := h
    obtain ⟨a, b, c, d⟩ := hs.ok _ _ rfl
    rw [h1, List.length_drop, List.length_drop] at a
    have hlt : n < n' := by omega
    exact ⟨false, ⟨hn', st2, by rw [hR, hs.eq, h1]; rfl, h2, by omega, by omega, by omega⟩, Nat.le_of_lt hlt, fun _ => hlt⟩
  | bad rest =>
    obtain ⟨h1, h2⟩ := h
    have a := hs.bad _ rfl
    rw [h1, List.length_drop, List.length_drop] at a
    exact ⟨true, ⟨hn', by rw [hR, hs.eq, h1]; rfl, h2⟩, by omega, fun e => by cases e⟩
end Go.Proofs.YtemhiiignamkjaaDoor
namespace Go.Proofs.YtemhiiignamkjaaDoor
open Go.RowKit LexP ParP
namespace ParP
/-- The least index among tokens; -1: there are none. -/
def lz (l : List Tok) : Int := match least l with
  | none => -1
  | some m => (m : Int)
def wmin (z : Int) (p : Nat) : Int := if z < 0 ∨ (p : Int) < z then (p : Int) else z
theorem least_snoc (t : Tok) : ∀ l : List Tok, least (l ++ [t]) = some (match least l with | none => t.pos | some m => min m t.pos)
  | [] => rfl
  | a :: r => by
    have e : least (a :: (r ++ [t])) = some (match least (r ++ [t]) with | none => a.pos | some m => min a.pos m) := rfl
    rw [List.cons_append, e, least_snoc t r]
    show some (min a.pos _) = some (match some (match least r with | none => a.pos | some m => min a.pos m) with | none => t.pos | some m => min m t.pos)
    cases least r with
    | none => rfl
    | some m => exact congrArg some (Nat.min_assoc _ _ _).symm
theorem lz_snoc (l : List Tok) (t : Tok) : lz (l ++ [t]) = wmin (lz l) t.pos := by
  unfold lz wmin
  rw [least_snoc]
  cases least l with
  | none => exact (if_pos (.inl (by decide))).symm
  | some m =>
    show ((min m t.pos : Nat) : Int) = if (m : Int) < 0 ∨ (t.pos : Int) < (m : Int) then (t.pos : Int) else (m : Int)
    split <;> omega
theorem lz_neg (l : List Tok) : -1 ≤ lz l := by
  unfold lz
  split <;> omega
theorem wmin_comm {z : Int} (_hz : -1 ≤ z) (a b : Nat) : wmin (wmin z a) b = wmin (wmin z b) a := by
  unfold wmin
  by_cases h1 : z < 0 ∨ (a : Int) < z <;> by_cases h2 : z < 0 ∨ (b : Int) < z <;> simp only [h1, h2, if_true, if_false] <;> (try split) <;> (try split) <;> omega
theorem lz_le {l : List Tok} {N : Nat} (h : ∀ t ∈ l, t.pos ≤ N) : lz l ≤ N := by
  have key : ∀ l : List Tok, (∀ t ∈ l, t.pos ≤ N) → ∀ m, least l = some m → m ≤ N := by
    intro l
    induction l with
    | nil => intro _ m hm; cases hm
    | cons a r ih =>
      intro h m hm
      have ha := h a (List.mem_cons_self ..)
      have e : least (a :: r) = some (match least r with | none => a.pos | some m => min a.pos m) := rfl
      rw [e] at hm
      cases hr : least r with
      | none => rw [hr] at hm; cases hm; exact ha
      | some k => rw [hr] at hm; cases hm; exact Nat.le_trans (Nat.min_le_left _ _) ha
  unfold lz
  split
  · omega
  · next m hm => have := key l h m hm; omega
def namesL (ts : List PTyp) : List ByteArray := ts.map fun t => t.name.text
theorem namesL_typ (ts : List PTyp) : (ts.map PTyp.typ).map Typ.name = namesL ts := by
  unfold namesL
  rw [List.map_map]
  rfl
theorem namesL_len (ts : List PTyp) : (namesL ts).length = ts.length := by unfold namesL; rw [List.length_map]
theorem typIdx_findW (ts : List PTyp) (s : ByteArray) : typIdx ts s = findW (namesL ts) s := by
  unfold typIdx findW namesL
  rw [List.findIdx_map]
  rfl
theorem typ_round {ts : List PTyp} {i : Nat} {t : PTyp} (ht : ts[i]? = some t) : twice [] (ts.take (i + 1)) = twice [] (ts.take i) ++ (if findW (namesL ts) t.name.text < i then [t.name] else []) := by
  have hi := (List.getElem?_eq_some_iff.1 ht).1
  have e1 : ts.take (i + 1) = ts.take i ++ [t] := by rw [List.take_add_one, ht]; rfl
  rw [e1, twice_snoc, List.nil_append]
  congr 1
  have e2 : (nameAt (ts.take i) t.name.text).isSome = decide (findW (namesL ts) t.name.text < i) := by
    unfold nameAt
    have e3 : typIdx (ts.take i) t.name.text = min i (typIdx ts t.name.text) := List.findIdx_take
    rw [e3, List.length_take, ← typIdx_findW, Nat.min_eq_left (Nat.le_of_lt hi)]
    by_cases h : typIdx ts t.name.text < i
    · rw [if_pos (by omega), decide_eq_true h]; rfl
    · rw [if_neg (by omega), decide_eq_false h]; rfl
  rw [e2]
  by_cases h : findW (namesL ts) t.name.text < i
  · rw [if_pos h, decide_eq_true h, if_pos rfl]
  · rw [if_neg h, decide_eq_false h, if_neg (by decide)]
/-- The name of a type lies in the list of names, at its own place or ahead of it. -/
theorem typ_there {ts : List PTyp} {i : Nat} {t : PTyp} (ht : ts[i]? = some t) : findW (namesL ts) t.name.text ≤ i ∧ findI (namesL ts) t.name.text = (findW (namesL ts) t.name.text : Int) := by
  obtain ⟨hi, he⟩ := List.getElem?_eq_some_iff.1 ht
  have hl : i < (namesL ts).length := by rw [namesL_len]; exact hi
  have h1 : findW (namesL ts) t.name.text ≤ i := by
    refine Nat.le_of_not_lt fun h => ?_
    have := List.not_of_lt_findIdx h
    rw [show (namesL ts)[i] = t.name.text by simp [namesL, he]] at this
    simp at this
  refine ⟨h1, ?_⟩
  unfold findI
  exact if_pos (by omega)
def stepW (k : Int) (p : Nat) (z : Int) : Int := if k < 0 then wmin z p else z
theorem findI_neg_iff (ts : List PTyp) (s : ByteArray) : findI (namesL ts) s < 0 ↔ ¬ typIdx ts s < ts.length := by
  rw [typIdx_findW]
  unfold findI
  rw [namesL_len]
  split <;> omega
theorem rul_round (L : List Tok) (ts : List PTyp) (r : PRul) : lz (L ++ missing ts r) = stepW (findI (namesL ts) r.a.text) r.a.pos (stepW (findI (namesL ts) r.b.text) r.b.pos (lz L)) := by
  have ha := findI_neg_iff ts r.a.text
  have hb := findI_neg_iff ts r.b.text
  unfold missing stepW
  by_cases h1 : typIdx ts r.a.text < ts.length <;> by_cases h2 : typIdx ts r.b.text < ts.length
  · rw [if_pos h1, if_pos h2, if_neg (fun h => ha.1 h h1), if_neg (fun h => hb.1 h h2), List.append_nil, List.append_nil]
  · rw [if_pos h1, if_neg h2, if_neg (fun h => ha.1 h h1), if_pos (hb.2 h2), List.nil_append, lz_snoc]
  · rw [if_neg h1, if_pos h2, if_pos (ha.2 h1), if_neg (fun h => hb.1 h h2), List.append_nil, lz_snoc]
  · rw [if_neg h1, if_neg h2, if_pos (ha.2 h1), if_pos (hb.2 h2), ← List.append_assoc, lz_snoc, lz_snoc, wmin_comm (lz_neg L)]
/-- The rules as the specification has them after its loop. -/
def rulZ (ts : List PTyp) (r : PRul) : Rul := ⟨r.kind, findI (namesL ts) r.a.text, findI (namesL ts) r.b.text⟩
theorem rulZ_rul {st : St} (h : least (wrongs st) = none) : st.ruls.map (rulZ st.typs) = st.ruls.map (PRul.rul st.typs) := by
  have hw := (least_none _).1 h
  unfold wrongs at hw
  have h2 := (List.append_eq_nil_iff.1 hw).2
  refine List.map_congr_left fun r hr => ?_
  have hm : missing st.typs r = [] := (List.flatMap_eq_nil_iff.1 h2) r hr
  unfold missing at hm
  obtain ⟨ha, hb⟩ := List.append_eq_nil_iff.1 hm
  have ha : typIdx st.typs r.a.text < st.typs.length := by
    by_cases h : typIdx st.typs r.a.text < st.typs.length
    · exact h
    · rw [if_neg h] at ha; cases ha
  have hb : typIdx st.typs r.b.text < st.typs.length := by
    by_cases h : typIdx st.typs r.b.text < st.typs.length
    · exact h
    · rw [if_neg h] at hb; cases hb
  unfold rulZ PRul.rul findI
  rw [namesL_len, ← typIdx_findW, ← typIdx_findW, if_pos ha, if_pos hb]
end ParP
end Go.Proofs.YtemhiiignamkjaaDoor
namespace Go.Proofs.YtemhiiignamkjaaDoor
open Go.RowKit LexP ParP
theorem own_cell {w : World} {B n n' k c : Nat} {e : TypeId} {b o j : Nat} {x : Value} {xs : List Value} (h : w.ownsRow B e k (.slice (some ⟨b, o, none⟩) n c) n' xs) (hn : 0 < n') (hx : xs[j]? = some x) : w.cell? ⟨b, o + j, none⟩ = some x := by
  obtain ⟨A, c', hv, h⟩ := rowAt_own h
  cases hv
  obtain ⟨b', o', e', _, hc⟩ := h hn
  cases e'
  exact hc j x hx
theorem typs_at {w : World} {B : Nat} {v : Value} {ts : List PTyp} (h : w.ownsRow B 51 3 v ts.length (typsC ts)) : RowAt w w.heap.size v (ts.map PTyp.typ).length (typC (ts.map PTyp.typ)) := by
  rw [List.length_map, ← typsC_typC]
  exact rowAt_own h
theorem typ_at {w : World} {B c i : Nat} {A : Option Addr} {ts : List PTyp} {t : PTyp} (h : w.ownsRow B 51 3 (.slice A ts.length c) ts.length (typsC ts)) (ht : ts[i]? = some t) : ∃ b o, A = some ⟨b, o, none⟩ ∧ w.cell? ⟨b, o + i * 3, none⟩ = some (.string t.name.text) := by
  have h2 := typs_at h
  rw [show Value.slice A ts.length c = .slice A (ts.map PTyp.typ).length c by rw [List.length_map]] at h2
  obtain ⟨b, o, e, _, k, _⟩ := h2.typ i t.typ (by rw [List.getElem?_map, ht]; rfl)
  exact ⟨b, o, e, k⟩
theorem pos_get {l : List Tok} {j : Nat} {t : Tok} (h : l[j]? = some t) : (posC l)[j]? = some (.int .i64 t.pos) := by unfold posC; rw [List.getElem?_map, h]; rfl
theorem kin_get {l : List Nat} {j k : Nat} (h : l[j]? = some k) : (kinC l)[j]? = some (.int .i64 (k : Int)) := by unfold kinC; rw [List.getElem?_map, h]; rfl
theorem men_get (l : List Tok) (i : Nat) (t : Tok) (h : l[i]? = some t) : (menC l)[i * 2]? = some (.string t.text) ∧ (menC l)[i * 2 + 1]? = some (.int .i64 t.pos) := by
  induction l generalizing i with
  | nil => cases h
  | cons a l ih =>
    have e : menC (a :: l) = [.string a.text, .int .i64 a.pos] ++ menC l := rfl
    cases i with
    | zero => cases h; exact ⟨rfl, rfl⟩
    | succ i =>
      obtain ⟨h0, h1⟩ := ih i h
      rw [e, show (i + 1) * 2 = (i * 2) + 2 by omega, show i * 2 + 2 + 1 = (i * 2 + 1) + 2 by omega]
      exact ⟨h0, h1⟩
theorem pos_at {w : World} {B c : Nat} {A : Option Addr} {l : List Tok} {j : Nat} {t : Tok} (h : w.ownsRow B 3 1 (.slice A l.length c) l.length (posC l)) (ht : l[j]? = some t) : ∃ b o, A = some ⟨b, o, none⟩ ∧ w.cell? ⟨b, o + j, none⟩ = some (.int .i64 t.pos) := by
  obtain ⟨A', c', hv, h⟩ := rowAt_own h
  cases hv
  obtain ⟨b, o, e, _, hc⟩ := h (Nat.lt_of_le_of_lt (Nat.zero_le j) (List.getElem?_eq_some_iff.1 ht).1)
  exact ⟨b, o, e, hc j _ (pos_get ht)⟩
theorem kin_at {w : World} {B c : Nat} {A : Option Addr} {l : List Nat} {j k : Nat} (h : w.ownsRow B 3 1 (.slice A l.length c) l.length (kinC l)) (ht : l[j]? = some k) : ∃ b o, A = some ⟨b, o, none⟩ ∧ b < w.heap.size ∧ w.cell? ⟨b, o + j, none⟩ = some (.int .i64 (k : Int)) := by
  obtain ⟨A', c', hv, h⟩ := rowAt_own h
  cases hv
  obtain ⟨b, o, e, hb, hc⟩ := h (Nat.lt_of_le_of_lt (Nat.zero_le j) (List.getElem?_eq_some_iff.1 ht).1)
  exact ⟨b, o, e, hb, hc j _ (kin_get ht)⟩
theorem men_at {w : World} {B c : Nat} {A : Option Addr} {l : List Tok} {j : Nat} {t : Tok} (h : w.ownsRow B 80 2 (.slice A l.length c) l.length (menC l)) (ht : l[j]? = some t) : ∃ b o, A = some ⟨b, o, none⟩ ∧ b < w.heap.size ∧ w.cell? ⟨b, o + j * 2, none⟩ = some (.string t.text) ∧ w.cell? ⟨b, o + j * 2 + 1, none⟩ = some (.int .i64 t.pos) := by
  obtain ⟨A', c', hv, h⟩ := rowAt_own h
  cases hv
  obtain ⟨b, o, e, hb, hc⟩ := h (Nat.lt_of_le_of_lt (Nat.zero_le j) (List.getElem?_eq_some_iff.1 ht).1)
  obtain ⟨h0, h1⟩ := men_get l j t ht
  exact ⟨b, o, e, hb, hc _ _ h0, hc _ _ h1⟩
theorem rulC_snoc (l : List Rul) (r : Rul) : rulC (l ++ [r]) = rulC l ++ [.int .i64 r.kind, .int .i64 r.a, .int .i64 r.b] := by simp [rulC]
theorem take_more {α : Type} {l : List α} {j : Nat} {r : α} (h : l[j]? = some r) : l.take (j + 1) = l.take j ++ [r] := by rw [List.take_add_one, h]; rfl
theorem stepW_in {k z : Int} {p : Nat} (h1 : -1 ≤ z) (h2 : z ≤ 4000) (h3 : p ≤ 4000) : -1 ≤ stepW k p z ∧ stepW k p z ≤ 4000 := by
  unfold stepW wmin
  split
  · split <;> omega
  · omega
theorem stepW_yes {k z : Int} {p : Nat} (h : (decide (k < 0) && (decide (z < 0) || decide ((p : Int) < z))) = true) : stepW k p z = (p : Int) := by
  unfold stepW wmin
  simp only [Bool.and_eq_true, Bool.or_eq_true, decide_eq_true_eq] at h
  rw [if_pos h.1, if_pos h.2]
theorem stepW_no {k z : Int} {p : Nat} (h : (decide (k < 0) && (decide (z < 0) || decide ((p : Int) < z))) = false) : stepW k p z = z := by
  unfold stepW wmin
  simp only [Bool.and_eq_false_iff, Bool.or_eq_false_iff, decide_eq_false_iff_not] at h
  by_cases hk : k < 0
  · rw [if_pos hk]
    rcases h with h | h
    · exact absurd hk h
    · exact if_neg (fun e => e.elim h.1 h.2)
  · exact if_neg hk
theorem own6 {w : World} {B a : Nat} {e : TypeId} {k n : Nat} {v : Value} {xs : List Value} (h : w.ownsRow B e k v n xs) (ha : a < B) (u0 u1 u2 u3 u4 u5 : Value) : ((((((w.setCell ⟨a, 0, none⟩ u0).setCell ⟨a, 1, none⟩ u1).setCell ⟨a, 2, none⟩ u2).setCell ⟨a, 3, none⟩ u3).setCell ⟨a, 4, none⟩ u4).setCell ⟨a, 5, none⟩ u5).ownsRow B e k v n xs :=
  ownsRow_setCell_below (ownsRow_setCell_below (ownsRow_setCell_below (ownsRow_setCell_below (ownsRow_setCell_below (ownsRow_setCell_below h (a := ⟨a, 0, none⟩) ha _) (a := ⟨a, 1, none⟩) ha _) (a := ⟨a, 2, none⟩) ha _) (a := ⟨a, 3, none⟩) ha _) (a := ⟨a, 4, none⟩) ha _) (a := ⟨a, 5, none⟩) ha _
end Go.Proofs.YtemhiiignamkjaaDoor
