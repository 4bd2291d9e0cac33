/-
  Layer 25 (journal): a history: a step that appends or writes an image, and what is known of it afterwards.
  A region that draws its order, whose last operation writes what its loads read: the loads are taken first all the same, for the last one waits for them.
-/
import Derived.Test.YtgdpgiegiacepaaDoorJouB2
import Derived.ArgAppend
import Derived.Deep.RegionHeld3
namespace Go.Proofs.YtgdpgiegiacepaaDoor
open Go.RowKit Go.Shelf
open Sec (mostN countN)
attribute [local go_sem] Oper.semAt_some

/-- An append behind a slice that is full, at a step of a region that draws. -/
theorem step_append_grows {P : Program} (w : World) {ops : Array Oper} {o : Oper} {a : Act} {K : Act → World → Prop} {Q : Exit → Act → World → Prop} {E : Prop} (hgd : o.guard = none) (s x : Operand) (t : TypeId)
    (hop : o.op = .call { callee := .builtin .append, args := #[s, x], argTypes := #[t, t] })
    (e : TypeId) (i : TypeInfo) (z : Value) (size bytes : Nat) (h1 : P.underlying t = some (.slice e)) (h2 : P.info? e = some i) (h3 : i.zero = some z) (h4 : i.size = size) (h5 : i.bytes = bytes) (h6 : z.cells.size = size) (h7 : 0 < size)
    (ao : Option Addr) (n cap : Nat) (olds : List Value) (hs : a.eval s = .slice ao n cap) (hnone : ao = none → n = 0 ∧ cap = 0) (hlo : olds.length = n * size) (holds : ∀ b, ao = some b → ∀ j u, olds[j]? = some u → w.cell? (b.add j) = some u)
    (ad : Addr) (m c : Nat) (news : List Value) (hx : a.eval x = .slice (some ad) m c) (hn : news.length = m * size) (hc : ∀ j u, news[j]? = some u → w.cell? (ad.add j) = some u) (h1c : ∀ u ∈ news, u.oneCell' = true)
    (hfull : cap < n + m) (b1 : n + m ≤ maxLen) (b2 : (n + m) * bytes ≤ 140737488355328)
    (hK : ∀ v' w', w'.ownsRow w.heap.size e size v' (n + m) (olds ++ news) → w.grownBy w' none → K (a.put o.dst v') w') :
    if Region.wanted o (yielded ops a.tmps) = true then Oper.wp P o a w K Q else E := by
  have hw : Region.wanted o (yielded ops a.tmps) = true := by simp [Region.wanted, hgd]
  rw [if_pos hw]
  cases ao with
  | some b =>
    obtain ⟨v', w', hrun, r1, r2⟩ := run_append_arg_grows (P := P) w t o.type e i z size bytes h1 h2 h3 h4 h5 h6 h7 b n cap olds hlo (holds b rfl) ad m c news hn hc hfull b1 b2
    unfold Oper.wp
    simp [execOp, hop, resolve, invoke, builtin, hs, hx, hrun, Result.andThen]
    exact hK v' w' r1 r2
  | none =>
    obtain ⟨rfl, rfl⟩ := hnone rfl
    obtain rfl : olds = [] := List.eq_nil_of_length_eq_zero (by simpa using hlo)
    obtain ⟨v', w', hrun, r1, r2, _⟩ := run_append_own (P := P) w w.heap.size t o.type e i z size bytes h1 h2 h3 h4 h5 h6 h7 (.slice none 0 0) 0 [] (World.ownsRow_nil w _ e size) ad m c news hn hc h1c b1 b2 (Nat.le_refl _)
    unfold Oper.wp
    simp [execOp, hop, resolve, invoke, builtin, hs, hx, hrun, Result.andThen]
    exact hK v' w' r1 r2

/-- A history in memory. -/
structure HIs (w : World) (a : DAt) (hb : Nat) (l : List ByteArray) (last : Nat) (u : Value) : Prop where
  blk : Blk w hb 42 #[u, .int .i64 (last : Int)]
  row : w.ownsRow 0 9 1 u l.length (strCells l)
  own : ∀ g, u.ownBlock = some g → g ≠ a.sb
section
variable {W w w' : World} {a : DAt} {n k jb hb last : Nat} {v u : Value} {J : Jrn} {D : Dev} {l : List ByteArray}
theorem JLeft.blk {t : TypeId} {cs : Array Value} {m : Nat} (hF : JLeft w w' a jb) (h : DevIs w a D) (hj : JIs w jb a n J v) (hk : Blk w m t cs) (h1 : t = 68 → m ≠ a.d) (h2 : t = 101 → m ≠ a.g) (h3 : t = 9 → m ≠ a.sb) (h4 : t = 4 → m ≠ a.fb) (h5 : t = 57 → m ≠ jb) : w'.heap[m]? = w.heap[m]? := by
  obtain ⟨_, q2⟩ := h.gblk
  obtain ⟨_, q3⟩ := h.sblk
  obtain ⟨_, q4⟩ := h.fblk
  refine hF.rest m hk.lt ?_ ?_ ?_ ?_ ?_
  · by_cases e : t = 68
    · exact h1 e
    · exact hk.ne_ h.blk e
  · by_cases e : t = 101
    · exact h2 e
    · exact hk.ne_ q2 e
  · by_cases e : t = 9
    · exact h3 e
    · exact hk.ne_ q3 e
  · by_cases e : t = 4
    · exact h4 e
    · exact hk.ne_ q4 e
  · by_cases e : t = 57
    · exact h5 e
    · exact hk.ne_ hj.blk e
theorem HIs.left (k : HIs w a hb l last u) (hd : DevIs w a D) (hj : JIs w jb a n J v) (hF : JLeft w w' a jb) : HIs w' a hb l last u :=
  ⟨(hF.blk hd hj k.blk (fun e => by cases e) (fun e => by cases e) (fun e => by cases e) (fun e => by cases e) (fun e => by cases e)).trans k.blk, ownsRow_same k.row (fun j cs e hk => hF.blk hd hj hk (fun e => by cases e) (fun e => by cases e) (fun _ => k.own j e) (fun e => by cases e) (fun e => by cases e)), k.own⟩
theorem HIs.leftD (k : HIs w a hb l last u) (hd : DevIs w a D) (hF : DLeft w w' a) : HIs w' a hb l last u :=
  ⟨(hF.blk hd k.blk (fun e => by cases e) (fun e => by cases e) (fun e => by cases e) (fun e => by cases e)).trans k.blk, ownsRow_same k.row (fun j cs e hk => hF.blk hd hk (fun e => by cases e) (fun e => by cases e) (fun _ => k.own j e) (fun e => by cases e)), k.own⟩
theorem HIs.below (k : HIs w a hb l last u) (hB : Below w.heap.size w w') : HIs w' a hb l last u := ⟨k.blk.below hB k.blk.lt, ownsRow_below k.row hB (Nat.le_refl _), k.own⟩
theorem HIs.texts (k : HIs w a hb l last u) : TextsAt w u l := textsAt_row k.row
/-- Behind new blocks alone. -/
theorem JSt.none (h : JSt W w a n k jb v J D) (hg : w.grownBy w' Option.none) : JSt W w' a n k jb v J D :=
  ⟨⟨dev_none h.dev.dev hg, h.dev.bel.grown hg h.dev.bel.size (fun k e => by cases e), h.dev.hd, h.dev.hg, h.dev.hsb, h.dev.hfb⟩, ⟨h.jrn.blk.grown hg (by simp), h.jrn.row.kept hg (by cases hv : v.ownBlock with | none => exact .inl rfl | some q => exact .inr (by simp))⟩, h.up, h.inv, h.low, h.at_, h.len, h.n1, h.next, h.few, h.k1⟩
/-- The device and its journal lie apart from a history's block. -/
theorem JSt.hist {t : TypeId} {cs : Array Value} (h : JSt W w a n k jb v J D) (hk : Blk w hb t cs) (hW : W.heap.size ≤ hb) (ht : t ≠ 68 ∧ t ≠ 101 ∧ t ≠ 9 ∧ t ≠ 4 ∧ t ≠ 118 ∧ t ≠ 57 ∧ t ≠ 62) (hg : w.grownBy w' (some hb)) : JSt W w' a n k jb v J D := by
  obtain ⟨t1, t2, t3, t4, t5, t6, t7⟩ := ht
  refine ⟨⟨isDev_past h.dev.dev hk ⟨t1, t2, t3, t4, t5⟩ hg, h.dev.bel.grown hg h.dev.bel.size (fun k e => by cases e; exact hW), h.dev.hd, h.dev.hg, h.dev.hsb, h.dev.hfb⟩, ⟨h.jrn.blk.grown hg (fun e => hk.ne_ h.jrn.blk t6 (by cases e; rfl)), h.jrn.row.kept hg (.inr (own_blk_ne h.jrn.row hk (Ne.symm t7)))⟩, h.up, h.inv, h.low, h.at_, h.len, h.n1, h.next, h.few, h.k1⟩
end
end Go.Proofs.YtgdpgiegiacepaaDoor
namespace Go.Proofs.YtgdpgiegiacepaaDoor


section
variable {P : Program} {ops : Array Oper} {Q : Exit → Act → World → Prop} {md : Region.Mode} {S : World → Prop} {k : Nat}

/-- Whatever order is picked from here on; S holds behind every operation but number k. -/
def wpAnyK (P : Program) (md : Region.Mode) (ops : Array Oper) (Q : Exit → Act → World → Prop) (S : World → Prop) (k : Nat) : Nat → Array Bool → Act → World → Prop
  | 0, listed, a, w => Region.ready md ops listed = [] ∧ Q .normal a w
  | fuel + 1, listed, a, w =>
    (Region.ready md ops listed = [] → Q .normal a w) ∧
    ∀ i ∈ Region.ready md ops listed, wpOp P ops Q i (fun a' w' => (i ≠ k → S w') ∧ wpAnyK P md ops Q S k fuel (listed.setIfInBounds i true) a' w') a w
theorem wpAny_of_K : ∀ (fuel : Nat) (listed : Array Bool) (a : Act) (w : World), wpAnyK P md ops Q S k fuel listed a w → wpAny P md ops Q fuel listed a w
  | 0, _, _, _, h => h
  | fuel + 1, _, _, _, h => ⟨h.1, fun i hi => wpOp_mono (fun a' w' h' => wpAny_of_K fuel _ a' w' h'.2) (h.2 i hi)⟩
/-- What has come up has come up behind what it waits for. -/
def InOrder (md : Region.Mode) (ops : Array Oper) (listed : Array Bool) : Prop := ∀ (j : Nat) (o : Oper), ops[j]? = some o → listed.getD j false = true → ∀ e ∈ o.after, Region.binds md e = true → listed.getD e.on false = true
def inOrderB (md : Region.Mode) (ops : Array Oper) (listed : Array Bool) : Bool := (List.range ops.size).all fun j => match ops[j]? with
  | none => true
  | some o => !listed.getD j false || o.after.all fun e => !Region.binds md e || listed.getD e.on false
theorem inOrder_of {listed : Array Bool} (h : inOrderB md ops listed = true) : InOrder md ops listed := by
  intro j o ho hj e he hb
  unfold inOrderB at h
  rw [List.all_eq_true] at h
  have h1 := h j (List.mem_range.2 (Array.getElem?_eq_some_iff.1 ho).1)
  rw [ho] at h1
  simp only [hj, Bool.not_true, Bool.false_or] at h1
  have h2 := Array.all_eq_true_iff_forall_mem.1 h1 e he
  simpa [hb] using h2
theorem getD_false {listed : Array Bool} {j : Nat} (h : listed.getD j true = false) : listed.getD j false = false := by
  rcases Nat.lt_or_ge j listed.size with h' | h'
  · simp [h'] at h ⊢
    exact h
  · simp [Array.getElem?_eq_none h'] at h
theorem inOrder_set {listed : Array Bool} {i : Nat} (h : InOrder md ops listed) (hi : i ∈ Region.ready md ops listed) : InOrder md ops (listed.setIfInBounds i true) := by
  intro j o ho hj e he hb
  by_cases hji : i = j
  · subst hji
    obtain ⟨_, o', ho', hall⟩ := mem_ready.1 hi
    rw [ho] at ho'
    cases ho'
    exact getD_set_true (hall e he hb)
  · rw [getD_set_ne false hji] at hj
    exact getD_set_true (h j o ho hj e he hb)
/-- Number j waits for number i, by way of others. -/
def waits (md : Region.Mode) (ops : Array Oper) (i : Nat) : Nat → Nat → Bool
  | 0, _ => false
  | f + 1, j => match ops[j]? with
    | none => false
    | some o => o.after.any fun e => Region.binds md e && (e.on == i || waits md ops i f e.on)
theorem waits_listed {i : Nat} {listed : Array Bool} (h : InOrder md ops listed) : ∀ (f j : Nat), waits md ops i f j = true → (∀ o, ops[j]? = some o → ∀ e ∈ o.after, Region.binds md e = true → listed.getD e.on false = true) → listed.getD i false = true
  | 0, _, hw, _ => by cases hw
  | f + 1, j, hw, hd => by
    unfold waits at hw
    split at hw
    · cases hw
    · rename_i o ho
      obtain ⟨e, he, hc⟩ : ∃ e ∈ o.after, (Region.binds md e && (e.on == i || waits md ops i f e.on)) = true := by
        rw [← Array.any_toList, List.any_eq_true] at hw
        obtain ⟨e, he, hc⟩ := hw
        exact ⟨e, Array.mem_toList_iff.1 he, hc⟩
      simp only [Bool.and_eq_true, Bool.or_eq_true, beq_iff_eq] at hc
      obtain ⟨hb, h1 | h1⟩ := hc
      · have := hd o ho e he hb
        rw [h1] at this
        exact this
      · have hl := hd o ho e he hb
        exact waits_listed h f e.on h1 fun o' ho' e' he' hb' => h e.on o' ho' hl e' he' hb'

theorem wpAnyK_first {i : Nat} {oi : Oper} {v : Value} (hi : ops[i]? = some oi) (hsel : ∀ (j : Nat) (o : Oper) cs b, ops[j]? = some o → o.op ≠ .select cs b)
    (hQ : ∀ c a w, Q (.panic c) (a.put oi.dst v) w → Q (.panic c) a w) (f : Nat) (hk : waits md ops i f k = true) :
    ∀ (fuel : Nat) (listed : Array Bool) (a : Act) (w : World), InOrder md ops listed →
      (∀ j oj, ops[j]? = some oj → j ≠ i → listed.getD j true = false → (∀ e ∈ oj.after, Region.binds md e = true → e.on ≠ i) → oi.apart ops oj = true) →
      i ∈ Region.ready md ops listed → YieldsIf P ops S oi v a → S w → i ≠ k →
      wpAnyK P md ops Q S k fuel (listed.setIfInBounds i true) (a.put oi.dst v) w → wpAnyK P md ops Q S k (fuel + 1) listed a w := by
  intro fuel
  induction fuel with
  | zero =>
    intro listed a w _ _ hr hy hS hik H
    refine ⟨fun h => (by rw [h] at hr; cases hr), fun j hj => ?_⟩
    by_cases hji : j = i
    · subst hji; exact hy.wpOp hi hS ⟨fun _ => hS, H⟩
    · have := ready_mono hj hji
      rw [H.1] at this
      cases this
  | succ fuel ih =>
    intro listed a w hord hfree hr hy hS hik H
    refine ⟨fun h => (by rw [h] at hr; cases hr), fun j hj => ?_⟩
    by_cases hji : j = i
    · subst hji; exact hy.wpOp hi hS ⟨fun _ => hS, H⟩
    · have hjk : j ≠ k := by
        rintro rfl
        have h1 := waits_listed hord f j hk fun o ho e he hb => by
          obtain ⟨_, o', ho', hall⟩ := mem_ready.1 hj
          rw [ho] at ho'
          cases ho'
          exact hall e he hb
        rw [getD_false (mem_ready.1 hr).1] at h1
        cases h1
      have h1 := H.2 j (ready_mono hj hji)
      obtain ⟨hjun, oj, hoj, hall⟩ := mem_ready.1 hj
      have hnot : ∀ e ∈ oj.after, Region.binds md e = true → e.on ≠ i := fun e he hb heq => by
        have h1 := hall e he hb
        rw [heq, getD_false (mem_ready.1 hr).1] at h1
        cases h1
      have h2 := wpOp_putIf hoj (hfree j oj hoj hji hjun hnot) (fun cs b => hsel i oi cs b hi) (fun cs b => hsel j oj cs b hoj) hQ hy h1
      have hfree' : ∀ k ok, ops[k]? = some ok → k ≠ i → (listed.setIfInBounds j true).getD k true = false →
          (∀ e ∈ ok.after, Region.binds md e = true → e.on ≠ i) → oi.apart ops ok = true := fun k ok hk hki hun hno => by
        refine hfree k ok hk hki ?_ hno
        by_cases hjk : j = k
        · subst hjk; exact hjun
        · rw [getD_set_ne true hjk] at hun; exact hun
      refine wpOp_mono (fun a' w' h3 => ⟨h3.2.1, ih (listed.setIfInBounds j true) a' w' (inOrder_set hord hj) hfree' (ready_mono hr (Ne.symm hji)) h3.1 (h3.2.1 hjk) hik ?_⟩) h2
      rw [Array.setIfInBounds_comm _ _ hji]
      exact h3.2.2
/-- Take number i first: number k waits for it. -/
theorem wpAnyK_take {i : Nat} {oi : Oper} {v : Value} {fuel : Nat} {listed : Array Bool} {a : Act} {w : World} (hi : ops[i]? = some oi)
    (hs : Region.noSelect ops = true) (hf : Region.free md ops listed i = true) (hr : (Region.ready md ops listed).contains i = true) (ho : inOrderB md ops listed = true) (hk : (waits md ops i ops.size k && !(i == k)) = true)
    (hQ : ∀ c a w, Q (.panic c) (a.put oi.dst v) w → Q (.panic c) a w) (hy : YieldsIf P ops S oi v a) (hS : S w)
    (h : wpAnyK P md ops Q S k fuel (listed.setIfInBounds i true) (a.put oi.dst v) w) : wpAnyK P md ops Q S k (fuel + 1) listed a w := by
  simp only [Bool.and_eq_true, Bool.not_eq_true', beq_eq_false_iff_ne] at hk
  exact wpAnyK_first hi (Region.noSelect_spec hs) hQ ops.size hk.1 fuel listed a w (inOrder_of ho) (Region.free_spec hi hf) (by simpa using hr) hy hS hk.2 h
/-- Each of the operations 'rs' comes up next. -/
def AllReadyK (P : Program) (md : Region.Mode) (ops : Array Oper) (Q : Exit → Act → World → Prop) (S : World → Prop) (k fuel : Nat) (listed : Array Bool) (a : Act) (w : World) (rs : List Nat) : Prop :=
  ∀ i ∈ rs, wpOp P ops Q i (fun a' w' => (i ≠ k → S w') ∧ wpAnyK P md ops Q S k fuel (listed.setIfInBounds i true) a' w') a w
theorem AllReadyK.nil {fuel : Nat} {listed : Array Bool} {a : Act} {w : World} : AllReadyK P md ops Q S k fuel listed a w [] := fun _ h => by cases h
theorem AllReadyK.cons {fuel : Nat} {listed : Array Bool} {a : Act} {w : World} {i : Nat} {o : Oper} {rs : List Nat} (ho : ops[i]? = some o)
    (h : ∀ K' : Act → World → Prop, Shut (∀ a w, S w → (S w → wpAnyK P md ops Q S k fuel (listed.setIfInBounds i true) a w) → K' a w) → if Region.wanted o (yielded ops a.tmps) = true then Oper.wp P o a w K' Q else K' (a.put o.dst undef) w)
    (hs : AllReadyK P md ops Q S k fuel listed a w rs) : AllReadyK P md ops Q S k fuel listed a w (i :: rs) := fun j hj => by
  rcases List.mem_cons.1 hj with rfl | hj
  · exact wpOp_step ho (fun K' hK => h K' (fun a w hS hW => hK a w ⟨fun _ => hS, hW hS⟩))
  · exact hs j hj
/-- Number k itself. -/
theorem AllReadyK.last {fuel : Nat} {listed : Array Bool} {a : Act} {w : World} {o : Oper} (ho : ops[k]? = some o)
    (h : ∀ K' : Act → World → Prop, Shut (∀ a w, wpAnyK P md ops Q S k fuel (listed.setIfInBounds k true) a w → K' a w) → if Region.wanted o (yielded ops a.tmps) = true then Oper.wp P o a w K' Q else K' (a.put o.dst undef) w) :
    AllReadyK P md ops Q S k fuel listed a w [k] := fun j hj => by
  obtain rfl : j = k := by simpa using hj
  exact wpOp_step ho (fun K' hK => h K' (fun a w hW => hK a w ⟨fun e => absurd rfl e, hW⟩))
theorem wpAnyK_ready {rs : List Nat} {fuel : Nat} {listed : Array Bool} {a : Act} {w : World} (hr : Region.ready md ops listed = rs) (hne : rs ≠ [])
    (h : AllReadyK P md ops Q S k fuel listed a w rs) : wpAnyK P md ops Q S k (fuel + 1) listed a w := ⟨fun h0 => absurd (hr ▸ h0) hne, hr ▸ h⟩
theorem wpAnyK_done {listed : Array Bool} {a : Act} {w : World} (hr : Region.ready md ops listed = []) (h : Q .normal a w) :
    ∀ fuel, wpAnyK P md ops Q S k fuel listed a w
  | 0 => ⟨hr, h⟩
  | _ + 1 => ⟨fun _ => h, by rw [hr]; simp⟩
theorem wp_region_last {id : Nat} {a : Act} {w : World} (k : Nat) (hm : P.follows .mixedOrders = true) (hS : S w.drew)
    (h : S w.drew → wpAnyK P .any ops Q S k ops.size (Array.replicate ops.size false) a w.drew) : (Code.region id ops true).wp P Q a w :=
  wp_region_any hm (wpAny_of_K _ _ _ _ (h hS))
end
end Go.Proofs.YtgdpgiegiacepaaDoor
