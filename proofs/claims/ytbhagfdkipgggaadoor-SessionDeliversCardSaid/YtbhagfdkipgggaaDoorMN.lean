/-
  Layer 29 (session): the table: slices.Insert.
  Layer 29 (session): the table: slices.Insert in the middle.
  Layer 29 (session): the table: slices.Insert whole, slices.Delete.
-/
import Derived.Test.YtbhagfdkipgggaaDoorMM
import Derived.Test.YtbhagfdkipgggaaDoorCopyN
import Derived.Lib.Overlaps
import Derived.Lib.AppendZerosOnto
import Derived.Shelf.RegionOpenPlain
namespace Go.Proofs.YtbhagfdkipgggaaDoor
open Go.RowKit Go.Shelf
attribute [local go_sem] Oper.semAt_some
theorem rowA {cur T S : List Value} {a k N : Nat} (hT : T.length = N) (hS : S.length = k) (ha : a ≤ N) (hc : N + k ≤ cur.length) (ht : cur.take N = T) :
    ((cur.take (a + k) ++ T.drop a ++ cur.drop (a + k + (T.drop a).length)).take a ++ S ++ (cur.take (a + k) ++ T.drop a ++ cur.drop (a + k + (T.drop a).length)).drop (a + S.length)).take (N + k) = T.take a ++ S ++ T.drop a := by
  have hl : (cur.take (a + k)).length = a + k := by rw [List.length_take]; omega
  have e1 : (cur.take (a + k) ++ T.drop a ++ cur.drop (a + k + (T.drop a).length)).take a = T.take a := by
    rw [List.append_assoc, List.take_append_of_le_length (by omega), List.take_take, ← ht, List.take_take]
    congr 1
    omega
  have e2 : (cur.take (a + k) ++ T.drop a ++ cur.drop (a + k + (T.drop a).length)).drop (a + S.length) = T.drop a ++ cur.drop (a + k + (T.drop a).length) := by
    rw [hS, List.append_assoc]
    exact List.drop_left' hl
  rw [e1, e2, ← List.append_assoc]
  refine List.take_left' ?_
  simp only [List.length_append, List.length_take, List.length_drop]
  omega
theorem rowB {cur T S : List Value} {a k N : Nat} (hT : T.length = N) (hS : S.length = k) (ha : a ≤ N) (hc : N + k ≤ cur.length) (ht : cur.take a = T.take a) :
    ((cur.take a ++ S ++ cur.drop (a + S.length)).take (a + k) ++ T.drop a ++ (cur.take a ++ S ++ cur.drop (a + S.length)).drop (a + k + (T.drop a).length)).take (N + k) = T.take a ++ S ++ T.drop a := by
  have hl : (cur.take a ++ S).length = a + k := by rw [List.length_append, List.length_take]; omega
  have e1 : (cur.take a ++ S ++ cur.drop (a + S.length)).take (a + k) = T.take a ++ S := by
    rw [ht] at hl ⊢
    exact List.take_left' hl
  rw [e1]
  refine List.take_left' ?_
  simp only [List.length_append, List.length_take, List.length_drop]
  omega
theorem rowLenA {cur T S : List Value} {a k N : Nat} (hT : T.length = N) (_hS : S.length = k) (ha : a ≤ N) (hc : N + k ≤ cur.length) :
    (cur.take (a + k) ++ T.drop a ++ cur.drop (a + k + (T.drop a).length)).length = cur.length := by
  simp only [List.length_append, List.length_take, List.length_drop]
  omega
theorem rowLenB {cur S : List Value} {a : Nat} (hc : a + S.length ≤ cur.length) : (cur.take a ++ S ++ cur.drop (a + S.length)).length = cur.length := by
  simp only [List.length_append, List.length_take, List.length_drop]
  omega
theorem tab_insert (L : List Ses) (s : Ses) (i : Nat) : tabC (L.take i ++ s :: L.drop i) = (tabC L).take (i * 7) ++ sesC s ++ (tabC L).drop (i * 7) := by
  rw [tabC_app, tabC_cons, tabC_take, tabC_drop, List.append_assoc]
theorem sizeSes (w : World) : (Go.sizeOf 32).run Tryd.prog w = .ok 7 w := by
  obtain ⟨i0, hi, hz0, hz1, hz2⟩ := info_parts infoSes3
  simp [sizeOf, typeInfo, hi, hz1]
/-- copy of sessions into a row that is known whole. -/
theorem run_copy_tab (w : World) (ty : TypeId) (g o dLen dCap : Nat) (a : Addr) (sLen sCap : Nat) (cur : Array Value) (cs : List Value)
    (hg : w.heap[g]? = some (.cells cur 32 (0, 0))) (hn : cs.length = Nat.min sLen dLen * 7) (hsrc : ∀ j v, cs[j]? = some v → w.cell? (a.add j) = some v) (hfit : o + cs.length ≤ cur.size) (h1 : ∀ v ∈ cs, v.oneCell' = true) :
    (Builtin.copy_ #[55, 55] ty #[.slice (some ⟨g, o, none⟩) dLen dCap, .slice (some a) sLen sCap]).run Tryd.prog w =
      .ok (goInt (Nat.min sLen dLen)) (w.setRow g (cur.toList.take o ++ cs ++ cur.toList.drop (o + cs.length)).toArray) :=
  run_copy_rowN w 55 55 ty 32 7 g o dLen dCap a sLen sCap cur 32 cs Tryd.underlying55 (by kernel_rfl) hg hn hsrc hfit h1
theorem wpList_copy_is (w : World) {P : Program} {ops : Array Oper} {rest : List Oper} {o : Oper} {a : Act} {Q : Exit → Act → World → Prop} (hgd : o.guard = none) (d s : Operand) (t t' : TypeId)
    (ho : o.op = .call { callee := .builtin .copy, args := #[d, s], argTypes := #[t, t'] }) (v u : Value) (hd : a.eval d = v) (hs : a.eval s = u) {v' : Value} {w' : World}
    (hr : (Builtin.copy_ #[t, t'] o.type #[v, u]).run P w = .ok v' w') (h : wpList P ops Q rest (a.put o.dst v') w') : wpList P ops Q (o :: rest) a w := by
  refine wpList_plain hgd fun K hK => ?_
  unfold Oper.wp
  simp [execOp, ho, resolve, invoke, builtin, hd, hs, hr, Result.andThen]
  exact hK _ _ h
theorem step_copy_is {P : Program} {ops : Array Oper} {o : Oper} {a : Act} {w : World} {K : Act → World → Prop} {Q : Exit → Act → World → Prop} {E : Prop}
    (hg : o.guard = none) (d x : Operand) (dT sT : TypeId) (hop : o.op = Op.call { callee := Callee.builtin Builtin.copy, args := #[d, x], argTypes := #[dT, sT] })
    (v u : Value) (hd : a.eval d = v) (hx : a.eval x = u) {v' : Value} {w' : World} (hr : (Builtin.copy_ #[dT, sT] o.type #[v, u]).run P w = .ok v' w') (hK : K (a.put o.dst v') w') :
    if Region.wanted o (yielded ops a.tmps) = true then Oper.wp P o a w K Q else E := by
  have hw : Region.wanted o (yielded ops a.tmps) = true := by simp [Region.wanted, hg]
  rw [if_pos hw]
  unfold Oper.wp
  simp [execOp, hop, resolve, invoke, builtin, hd, hx, hr, Result.andThen]
  exact hK
section
variable {w : World} {base nb i : Nat} {L : List Ses} {s : Ses}
theorem news_src (hnb : Blk w nb 32 (sesC s).toArray) : ∀ j u, (sesC s)[j]? = some u → w.cell? ((⟨nb, 0, none⟩ : Addr).add j) = some u := fun j u hu => by
  rw [Addr.add_lit, Nat.zero_add, hnb.cell]
  simpa using hu
theorem sesC_one' (s : Ses) : ∀ u ∈ sesC s, u.oneCell' = true := by
  have h := tabC_one [s]
  rw [tabC_cons] at h
  intro u hu
  exact h u (List.mem_append_left _ hu)
set_option maxRecDepth 100000 in
set_option maxHeartbeats 4000000 in
theorem insert_end (v : Value) (hown : w.ownsRow base 32 7 v L.length (tabC L)) (hbase : base ≤ w.heap.size) (hN : L.length ≤ 1000) (hnb : Blk w nb 32 (sesC s).toArray) :
    Calls Tryd.prog 59 #[v, .int .i64 L.length, .slice (some ⟨nb, 0, none⟩) 1 1] w fun e w' => ∃ v', e = .returned v' ∧ w'.ownsRow base 32 7 v' (L.length + 1) (tabC L ++ sesC s) ∧ w.grownBy w' v.ownBlock := by
  obtain ⟨i0, hi, hz0, hz1, hz2⟩ := info_parts infoSes3
  have hle : Hid (L.length + 1 ≤ maxLen) := by unfold Hid maxLen; omega
  have Hown := Lib.hid hown
  have Hsrc := Lib.hid (news_src hnb)
  have H1 := Lib.hid (sesC_one' s)
  have HB := Lib.hid hbase
  have hby : Hid ((L.length + 1) * 64 ≤ 140737488355328) := by unfold Hid; omega
  have h := hown.2
  clear hown hnb hbase
  rcases h with ⟨rfl, hn⟩ | ⟨g, cap, cur, rfl, _, _, hcap, hcm, _, _⟩
  · have hn' : Hid (L.length = 0) := hn
    have e0 : ((L.length : Nat) : Int) = 0 := by omega
    rw [e0]
    clear hn e0
    go_enter Tryd.func59, Tryd.ntmps59
    go_wp2_with (at_builtin; refine wpList_append_own _ rfl _ _ 55 rfl base 32 i0 _ 7 64 Tryd.underlying55 hi hz0 hz1 hz2 rfl (by decide) _ L.length (tabC L) rfl Hown.out ⟨nb, 0, none⟩ 1 1 (sesC s) rfl rfl Hsrc.out H1.out hle.out hby.out HB.out ?_)
    intro v' w' hown hg _
    have Hown2 := Lib.hid hown
    have Hg := Lib.hid hg
    clear hown hg
    go_wp2_with fail
    go_ret
    exact ⟨_, rfl, Hown2.out, Hg.out⟩
  · unfold maxLen at hcm
    have key : Calls Tryd.prog 59 #[.slice (some ⟨g, 0, none⟩) L.length cap, .int .i64 L.length, .slice (some ⟨nb, 0, none⟩) 1 1] w fun e w' => ∃ v', e = .returned v' ∧ w'.ownsRow base 32 7 v' (L.length + 1) (tabC L ++ sesC s) ∧ w.grownBy w' (some g) := by
      by_cases hcn : cap = L.length
      · subst hcn
        go_enter Tryd.func59, Tryd.ntmps59
        go_wp2_with (at_builtin; refine wpList_append_own _ rfl _ _ 55 rfl base 32 i0 _ 7 64 Tryd.underlying55 hi hz0 hz1 hz2 rfl (by decide) _ L.length (tabC L) rfl Hown.out ⟨nb, 0, none⟩ 1 1 (sesC s) rfl rfl Hsrc.out H1.out hle.out hby.out HB.out ?_)
        intro v' w' hown hg _
        have Hown2 := Lib.hid hown
        have Hg := Lib.hid hg
        clear hown hg
        go_wp2_with fail
        go_ret
        exact ⟨_, rfl, Hown2.out, Hg.out⟩
      · go_enter Tryd.func59, Tryd.ntmps59
        go_wp2_with (at_builtin; refine wpList_append_own _ rfl _ _ 55 rfl base 32 i0 _ 7 64 Tryd.underlying55 hi hz0 hz1 hz2 rfl (by decide) _ L.length (tabC L) rfl Hown.out ⟨nb, 0, none⟩ 1 1 (sesC s) rfl rfl Hsrc.out H1.out hle.out hby.out HB.out ?_)
        intro v' w' hown hg _
        have Hown2 := Lib.hid hown
        have Hg := Lib.hid hg
        clear hown hg
        go_wp2_with fail
        go_ret
        exact ⟨_, rfl, Hown2.out, Hg.out⟩
    exact key
end
end Go.Proofs.YtbhagfdkipgggaaDoor
namespace Go.Proofs.YtbhagfdkipgggaaDoor
open Go.RowKit Go.Shelf
attribute [local go_sem] Oper.semAt_some
section
variable {w : World} {base nb i g cap : Nat} {L : List Ses} {s : Ses} {cur : Array Value}
set_option maxRecDepth 100000 in
set_option maxHeartbeats 4000000 in
theorem insert_room (hb : base ≤ g) (hg : w.heap[g]? = some (.cells cur 32 (0, 0))) (hc1 : L.length + 1 ≤ cap) (hc2 : cap ≤ maxLen) (hc3 : cur.size = cap * 7) (hc4 : cur.toList.take (L.length * 7) = tabC L)
    (hi : i < L.length) (hN : L.length ≤ 1000) (hnb : Blk w nb 32 (sesC s).toArray) (hne : nb ≠ g) :
    Calls Tryd.prog 59 #[.slice (some ⟨g, 0, none⟩) L.length cap, .int .i64 i, .slice (some ⟨nb, 0, none⟩) 1 1] w fun e w' => ∃ v', e = .returned v' ∧ w'.ownsRow base 32 7 v' (L.length + 1) (tabC (L.take i ++ s :: L.drop i)) ∧ w.grownBy w' (some g) := by
  have hTl := tabC_len L
  have hdl : ((tabC L).drop (i * 7)).length = (L.length - i) * 7 := by rw [List.length_drop, hTl, ← Nat.sub_mul]
  have hcl : cur.toList.length = cap * 7 := by rw [Array.length_toList, hc3]
  have hS := sesC_seven s
  have hNc : L.length * 7 + 7 ≤ cur.toList.length := by omega
  have hov : ∀ lb cb, (callFunc 79 #[.slice (some ⟨nb, 0, none⟩) 1 1, .slice (some ⟨g, (i + 1) * 7, none⟩) lb cb]).run Tryd.prog w = .ok (.value (.bool false)) w := fun lb cb => by
    rw [run_callFunc_extern Tryd.func79 (by kernel_rfl) (by kernel_rfl) (by kernel_rfl) (e := Extern.SlicesOverlaps.overlaps #[55, 55] #[4]) (by kernel_rfl),
      Lib.run_overlaps_apart w 55 4 32 Tryd.underlying55 7 sizeSes ⟨nb, 0, none⟩ ⟨g, (i + 1) * 7, none⟩ 1 1 lb cb hne 32 32 7 cur.size
        (by unfold Blk at hnb; simp [World.shape?, hnb, sesC]) (by simp [World.shape?, hg]) (by omega) (hnb.frozen 0) (hnb.frozen 7)]
    rfl
  obtain ⟨c1, hc1e⟩ : ∃ c1 : List Value, cur.toList.take (i * 7 + 7) ++ (tabC L).drop (i * 7) ++ cur.toList.drop (i * 7 + 7 + ((tabC L).drop (i * 7)).length) = c1 := ⟨_, rfl⟩
  have hc1l : c1.length = cap * 7 := by rw [← hc1e, rowLenA hTl hS (by omega) hNc, hcl]
  obtain ⟨c2, hc2e⟩ : ∃ c2 : List Value, c1.take (i * 7) ++ sesC s ++ c1.drop (i * 7 + (sesC s).length) = c2 := ⟨_, rfl⟩
  have hc2l : c2.length = cap * 7 := by rw [← hc2e, rowLenB (by omega), hc1l]
  have hres : c2.take ((L.length + 1) * 7) = tabC (L.take i ++ s :: L.drop i) := by
    rw [← hc2e, ← hc1e, tab_insert, show (L.length + 1) * 7 = L.length * 7 + 7 by omega]
    exact rowA hTl hS (by omega) hNc hc4
  have hcells : ∀ (W : World), W.heap[g]? = some (.cells cur 32 (0, 0)) → ∀ j v, ((tabC L).drop (i * 7))[j]? = some v → W.cell? ((⟨g, i * 7, none⟩ : Addr).add j) = some v := fun W hW j v hj => by
    have hlt := (List.getElem?_eq_some_iff.1 hj).1
    rw [List.getElem?_drop, ← hc4, List.getElem?_take_of_lt (by omega), Array.getElem?_toList] at hj
    rw [Addr.add_lit, Blk.cell (show Blk W g 32 cur from hW)]
    exact hj
  have hm1 : Nat.min (L.length + 1 - i) (L.length - i) = L.length - i := by
    show min (L.length + 1 - i) (L.length - i) = L.length - i
    omega
  have hm2 : Nat.min 1 (L.length + 1 - i) = 1 := by
    show min 1 (L.length + 1 - i) = 1
    omega
  have hcp1 : ∀ ty dc sc, (Builtin.copy_ #[55, 55] ty #[.slice (some ⟨g, (i + 1) * 7, none⟩) (L.length - i) dc, .slice (some ⟨g, i * 7, none⟩) (L.length + 1 - i) sc]).run Tryd.prog w.drew = .ok (goInt (Nat.min (L.length + 1 - i) (L.length - i))) (w.drew.setRow g c1.toArray) := fun ty dc sc => by
    rw [run_copy_tab w.drew ty g ((i + 1) * 7) _ dc ⟨g, i * 7, none⟩ _ sc cur ((tabC L).drop (i * 7)) hg (by rw [hdl, hm1]) (hcells w.drew hg) (by rw [hdl, hc3]; omega) (fun v hv => tabC_one L v (List.mem_of_mem_drop hv)), ← hc1e, show (i + 1) * 7 = i * 7 + 7 by omega]
  obtain ⟨W1, hW1⟩ : ∃ W1, w.drew.setRow g c1.toArray = W1 := ⟨_, rfl⟩
  have hB1 : Blk W1 g 32 c1.toArray := by rw [← hW1]; exact setRow_heap w.drew g cur _ 32 _ hg
  have hnb1 : Blk W1 nb 32 (sesC s).toArray := by rw [← hW1]; exact (setRow_other w.drew g nb _ hne).trans hnb
  have hcp2 : ∀ ty dc, (Builtin.copy_ #[55, 55] ty #[.slice (some ⟨g, i * 7, none⟩) (L.length + 1 - i) dc, .slice (some ⟨nb, 0, none⟩) 1 1]).run Tryd.prog W1 = .ok (goInt (Nat.min 1 (L.length + 1 - i))) (W1.setRow g c2.toArray) := fun ty dc => by
    rw [run_copy_tab W1 ty g (i * 7) _ dc ⟨nb, 0, none⟩ 1 1 c1.toArray (sesC s) hB1 (by rw [hS, hm2]) (news_src hnb1) (by rw [hS, List.size_toArray]; omega) (sesC_one' s), ← hc2e]
  obtain ⟨W2, hW2⟩ : ∃ W2, W1.setRow g c2.toArray = W2 := ⟨_, rfl⟩
  have hown : Hid (W2.ownsRow base 32 7 (.slice (some ⟨g, 0, none⟩) (L.length + 1) cap) (L.length + 1) (tabC (L.take i ++ s :: L.drop i)) ∧ w.grownBy W2 (some g)) := by
    refine ⟨⟨by rw [tabC_len]; simp; omega, .inr ⟨g, cap, c2.toArray, rfl, hb, by rw [← hW2]; exact setRow_heap W1 g c1.toArray _ 32 _ hB1, hc1, hc2, by rw [List.size_toArray, hc2l], hres⟩⟩, ?_⟩
    rw [← hW2, ← hW1]
    exact ⟨rfl, rfl, rfl, by simp, fun k _ hk => (setRow_other _ g k _ (fun e => hk (by rw [e]))).trans ((setRow_other _ g k _ (fun e => hk (by rw [e]))).trans rfl)⟩
  rw [hW1] at hcp1
  rw [hW2] at hcp2
  clear hm1 hm2 hW1 hW2 hB1 hnb1 hcells hres hc1e hc2e hc1l hc2l hTl hdl hcl hS hNc hg hc3 hc4 hnb
  unfold maxLen at hc2
  have hz1 : ¬ ((i : Int) = (L.length : Int)) := by omega
  have hw1 : IntKind.i64.wrap ((i : Int) + 1) = (i : Int) + 1 := by rw [IntKind.wrap_i64]; omega
  have hb1 : (0 : Int) ≤ (i : Int) + 1 := by omega
  have hin : i ≤ L.length := by omega
  have htn : ((i : Int) + 1).toNat = i + 1 := by omega
  have hb2 : ¬ (cap = i + 1) := by omega
  have hb3 : (i : Int) ≤ (L.length : Int) + 1 := by omega
  have hb4 : ¬ (cap = i) := by omega
  have mixed : Tryd.prog.follows .mixedOrders = true := by kernel_rfl
  go_enter Tryd.func59, Tryd.ntmps59
  go_wp2_with (simp only [hov])
  go_region_law_o (refine step_copy_is rfl _ _ 55 55 rfl _ _ (by simp [Act.eval, Act.put]) (by simp [Act.eval, Act.put]) (hcp1 _ _ _) ?_)
  go_wp2_with (at_builtin; refine wpList_copy_is _ rfl _ _ 55 55 rfl _ _ rfl rfl (hcp2 _ _) ?_)
  go_ret
  exact ⟨_, rfl, hown.out.1, hown.out.2⟩
set_option maxRecDepth 100000 in
set_option maxHeartbeats 4000000 in
theorem insert_grow (hbase : base ≤ w.heap.size) (hg : w.heap[g]? = some (.cells cur 32 (0, 0))) (hc3 : cur.size = L.length * 7) (hc4 : cur.toList.take (L.length * 7) = tabC L)
    (hi : i < L.length) (hN : L.length ≤ 1000) (hnb : Blk w nb 32 (sesC s).toArray) :
    Calls Tryd.prog 59 #[.slice (some ⟨g, 0, none⟩) L.length L.length, .int .i64 i, .slice (some ⟨nb, 0, none⟩) 1 1] w fun e w' => ∃ v', e = .returned v' ∧ w'.ownsRow base 32 7 v' (L.length + 1) (tabC (L.take i ++ s :: L.drop i)) ∧ w.grownBy w' (some g) := by
  obtain ⟨i0, hi0, hz0, hz1, hz2⟩ := info_parts infoSes3
  have hTl := tabC_len L
  have hdl : ((tabC L).drop (i * 7)).length = (L.length - i) * 7 := by rw [List.length_drop, hTl, ← Nat.sub_mul]
  have hS := sesC_seven s
  have hgb : Blk w g 32 cur := hg
  have hglt := hgb.lt
  have hnlt := hnb.lt
  have hold : ∀ j v, ((tabC L).take (i * 7))[j]? = some v → w.drew.cell? ((⟨g, 0, none⟩ : Addr).add j) = some v := fun j v hj => by
    have hlt := (List.getElem?_eq_some_iff.1 hj).1
    rw [List.length_take] at hlt
    rw [List.getElem?_take_of_lt (by omega), ← hc4, List.getElem?_take_of_lt (by omega), Array.getElem?_toList] at hj
    rw [Addr.add_lit, Nat.zero_add, hgb.drew.cell]
    exact hj
  have hfo := run_firstCells_some (P := Tryd.prog) w.drew i0.size i ⟨g, 0, none⟩ i L.length ((tabC L).take (i * 7)) (by rw [hz1, List.length_take]; omega) hold
  have hap := Lib.run_append_grow_zeros (P := Tryd.prog) w 55 3 55 32 i0 _ .i64 .i64 Tryd.underlying55 Tryd.underlying3 hi0 hz0 (some ⟨g, 0, none⟩) i L.length _ hfo (L.length + 1 - i) (by omega) (by omega) (by omega) (by omega) (by rw [hz2]; omega) (by rw [hz2]; exact growslice_fits (by omega) (by omega))
  rw [show i + (L.length + 1 - i) = L.length + 1 by omega] at hap
  have hge := grownCap_ge w (L.length + 1) L.length 32
  have hcm := grownCap_le_maxLen w (L.length + 1) L.length 32 (by unfold maxLen; omega)
  obtain ⟨cx, hcx⟩ : ∃ cx, grownCap w (L.length + 1) L.length 32 = cx := ⟨_, rfl⟩
  rw [hcx] at hap hge hcm
  obtain ⟨row, hrow⟩ : ∃ row : Array Value, ((tabC L).take (i * 7)).toArray ++ Builtin.zeroCells (Value.agg #[.int .i64 0, .int .i64 0, .int .i64 0, .string ⟨#[]⟩, .int .i64 0, .int .i64 0, .int .u64 0]).cells (L.length + 1 - i) ++ Builtin.zeroCells (Value.agg #[.int .i64 0, .int .i64 0, .int .i64 0, .string ⟨#[]⟩, .int .i64 0, .int .i64 0, .int .u64 0]).cells (cx - (L.length + 1)) = row := ⟨_, rfl⟩
  have hz7 : (Value.agg #[.int .i64 0, .int .i64 0, .int .i64 0, .string ⟨#[]⟩, .int .i64 0, .int .i64 0, .int .u64 0]).cells.size = 7 := rfl
  have hrs : row.size = cx * 7 := by
    rw [← hrow]
    simp only [Array.size_append, List.size_toArray, size_zeroCells, hz7, List.length_take]
    omega
  have hrt : row.toList.take (i * 7) = (tabC L).take (i * 7) := by
    rw [← hrow]
    simp only [Array.toList_append, List.append_assoc]
    exact List.take_left' (by rw [List.length_take]; omega)
  have hrl : row.toList.length = cx * 7 := by rw [Array.length_toList, hrs]
  rw [hrow] at hap
  obtain ⟨W0, hW0⟩ : ∃ W0, w.drew.alloc (.cells row 32) = W0 := ⟨_, rfl⟩
  rw [hW0] at hap
  have hB0 : Blk W0 w.heap.size 32 row := by rw [← hW0]; exact Blk.new w.drew _ _
  have hg0 : Blk W0 g 32 cur := by rw [← hW0]; exact hgb.drew.alloc _
  have hn0 : Blk W0 nb 32 (sesC s).toArray := by rw [← hW0]; exact hnb.drew.alloc _
  obtain ⟨c1, hc1e⟩ : ∃ c1 : List Value, row.toList.take (i * 7) ++ sesC s ++ row.toList.drop (i * 7 + (sesC s).length) = c1 := ⟨_, rfl⟩
  have hc1l : c1.length = cx * 7 := by rw [← hc1e, rowLenB (by omega), hrl]
  obtain ⟨c2, hc2e⟩ : ∃ c2 : List Value, c1.take (i * 7 + 7) ++ (tabC L).drop (i * 7) ++ c1.drop (i * 7 + 7 + ((tabC L).drop (i * 7)).length) = c2 := ⟨_, rfl⟩
  have hc2l : c2.length = cx * 7 := by rw [← hc2e, rowLenA hTl hS (by omega) (by omega), hc1l]
  have hres : c2.take ((L.length + 1) * 7) = tabC (L.take i ++ s :: L.drop i) := by
    rw [← hc2e, ← hc1e, tab_insert, show (L.length + 1) * 7 = L.length * 7 + 7 by omega]
    exact rowB hTl hS (by omega) (by omega) hrt
  have hm2 : Nat.min 1 (L.length + 1 - i) = 1 := by
    show min 1 (L.length + 1 - i) = 1
    omega
  have hm1 : Nat.min (L.length - i) (L.length - i) = L.length - i := Nat.min_self _
  have hcp1 : ∀ ty dc, (Builtin.copy_ #[55, 55] ty #[.slice (some ⟨w.heap.size, i * 7, none⟩) (L.length + 1 - i) dc, .slice (some ⟨nb, 0, none⟩) 1 1]).run Tryd.prog W0 = .ok (goInt (Nat.min 1 (L.length + 1 - i))) (W0.setRow w.heap.size c1.toArray) := fun ty dc => by
    rw [run_copy_tab W0 ty w.heap.size (i * 7) _ dc ⟨nb, 0, none⟩ 1 1 row (sesC s) hB0 (by rw [hS, hm2]) (news_src hn0) (by rw [hS, hrs]; omega) (sesC_one' s), ← hc1e]
  obtain ⟨W1, hW1⟩ : ∃ W1, W0.setRow w.heap.size c1.toArray = W1 := ⟨_, rfl⟩
  have hB1 : Blk W1 w.heap.size 32 c1.toArray := by rw [← hW1]; exact setRow_heap W0 w.heap.size row _ 32 _ hB0
  have hg1 : Blk W1 g 32 cur := by rw [← hW1]; exact (setRow_other W0 w.heap.size g _ (by omega)).trans hg0
  have hcells : ∀ j v, ((tabC L).drop (i * 7))[j]? = some v → W1.drew.cell? ((⟨g, i * 7, none⟩ : Addr).add j) = some v := fun j v hj => by
    have hlt := (List.getElem?_eq_some_iff.1 hj).1
    rw [List.getElem?_drop, ← hc4, List.getElem?_take_of_lt (by omega), Array.getElem?_toList] at hj
    rw [Addr.add_lit, hg1.drew.cell]
    exact hj
  have hcp2 : ∀ ty dc sc, (Builtin.copy_ #[55, 55] ty #[.slice (some ⟨w.heap.size, (i + 1) * 7, none⟩) (L.length - i) dc, .slice (some ⟨g, i * 7, none⟩) (L.length - i) sc]).run Tryd.prog W1.drew = .ok (goInt (Nat.min (L.length - i) (L.length - i))) (W1.drew.setRow w.heap.size c2.toArray) := fun ty dc sc => by
    rw [run_copy_tab W1.drew ty w.heap.size ((i + 1) * 7) _ dc ⟨g, i * 7, none⟩ _ sc c1.toArray ((tabC L).drop (i * 7)) hB1.drew (by rw [hdl, hm1]) hcells (by rw [hdl, List.size_toArray]; omega) (fun v hv => tabC_one L v (List.mem_of_mem_drop hv)), ← hc2e, show (i + 1) * 7 = i * 7 + 7 by omega]
  obtain ⟨W2, hW2⟩ : ∃ W2, W1.drew.setRow w.heap.size c2.toArray = W2 := ⟨_, rfl⟩
  have hown : Hid (W2.ownsRow base 32 7 (.slice (some ⟨w.heap.size, 0, none⟩) (L.length + 1) cx) (L.length + 1) (tabC (L.take i ++ s :: L.drop i)) ∧ w.grownBy W2 (some g)) := by
    refine ⟨⟨by rw [tabC_len]; simp; omega, .inr ⟨w.heap.size, cx, c2.toArray, rfl, hbase, by rw [← hW2]; exact setRow_heap W1.drew w.heap.size c1.toArray _ 32 _ hB1.drew, hge, hcm, by rw [List.size_toArray, hc2l], hres⟩⟩, ?_⟩
    rw [← hW2, ← hW1, ← hW0]
    exact ⟨rfl, rfl, rfl, by simp, fun k hk _ => (setRow_other _ _ k _ (by omega)).trans ((setRow_other _ _ k _ (by omega)).trans (heap_alloc_old w.drew _ hk))⟩
  rw [hW1] at hcp1
  rw [hW2] at hcp2
  have e1 : (L.length : Int) + 1 - (i : Int) = ((L.length + 1 - i : Nat) : Int) := by omega
  rw [← e1] at hap
  clear hm1 hm2 hW0 hW1 hW2 hB0 hB1 hg0 hg1 hn0 hcells hres hc1e hc2e hc1l hc2l hTl hdl hS hg hgb hc3 hc4 hnb hrow hrs hrt hrl hcx hfo hold hz7 hz0 hz1 hz2 hi0 e1 hglt hnlt hbase
  unfold maxLen at hcm
  have hz1 : ¬ ((i : Int) = (L.length : Int)) := by omega
  have hw1 : IntKind.i64.wrap ((i : Int) + 1) = (i : Int) + 1 := by rw [IntKind.wrap_i64]; omega
  have hb1 : (0 : Int) ≤ (i : Int) + 1 := by omega
  have hin : i ≤ L.length := by omega
  have htn : ((i : Int) + 1).toNat = i + 1 := by omega
  have hb2 : ¬ (cx = i + 1) := by omega
  have hb3 : (i : Int) ≤ (L.length : Int) + 1 := by omega
  have hb4 : ¬ (cx = i) := by omega
  have hb5 : ¬ (L.length = i) := by omega
  have hb6 : (i : Int) + 1 ≤ (L.length : Int) + 1 := by omega
  have mixed : Tryd.prog.follows .mixedOrders = true := by kernel_rfl
  go_enter Tryd.func59, Tryd.ntmps59
  go_wp2_with (at_builtin; first | (refine wpList_append_run rfl _ _ 55 3 rfl _ _ rfl rfl hap ?_) | (refine wpList_copy_is _ rfl _ _ 55 55 rfl _ _ rfl rfl (hcp1 _ _) ?_))
  go_region_law_o (refine step_copy_is rfl _ _ 55 55 rfl _ _ (by simp [Act.eval, Act.put]) (by simp [Act.eval, Act.put]) (hcp2 _ _ _) ?_)
  go_wp2_with fail
  go_ret
  exact ⟨_, rfl, hown.out.1, hown.out.2⟩
end
end Go.Proofs.YtbhagfdkipgggaaDoor
namespace Go.Proofs.YtbhagfdkipgggaaDoor
open Go.RowKit Go.Shelf
attribute [local go_sem] Oper.semAt_some
theorem insert_any (w : World) (base : Nat) (v : Value) (L : List Ses) (i nb : Nat) (s : Ses) (hown : w.ownsRow base 32 7 v L.length (tabC L)) (hbase : base ≤ w.heap.size) (hi : i ≤ L.length) (hN : L.length ≤ 1000)
    (hnb : Blk w nb 32 (sesC s).toArray) (hne : v.ownBlock ≠ some nb) :
    Calls Tryd.prog 59 #[v, .int .i64 i, .slice (some ⟨nb, 0, none⟩) 1 1] w fun e w' => ∃ v', e = .returned v' ∧ w'.ownsRow base 32 7 v' (L.length + 1) (tabC (L.take i ++ s :: L.drop i)) ∧ w.grownBy w' v.ownBlock := by
  by_cases h : i = L.length
  · subst h
    have e : tabC (L.take L.length ++ s :: L.drop L.length) = tabC L ++ sesC s := by rw [tab_insert, List.take_of_length_le (by rw [tabC_len]; exact Nat.le_refl _), List.drop_of_length_le (by rw [tabC_len]; exact Nat.le_refl _), List.append_nil]
    rw [e]
    exact insert_end v hown hbase hN hnb
  · rcases hown.2 with ⟨rfl, hn⟩ | ⟨g, cap, cur, rfl, hb, hg, hcap, hcm, hcs, ht⟩
    · omega
    · by_cases hr : L.length + 1 ≤ cap
      · exact insert_room hb hg hr hcm hcs ht (by omega) hN hnb (fun e => hne (by rw [e]; rfl))
      · obtain rfl : cap = L.length := by omega
        exact insert_grow hbase hg hcs ht (by omega) hN hnb
theorem wpList_clear_is (w : World) {P : Program} {ops : Array Oper} {rest : List Oper} {o : Oper} {a : Act} {Q : Exit → Act → World → Prop} (hgd : o.guard = none) (s : Operand) (t : TypeId)
    (ho : o.op = .call { callee := .builtin .clear, args := #[s], argTypes := #[t] }) (v : Value) (hs : a.eval s = v) {v' : Value} {w' : World}
    (hr : (Builtin.clear_ #[t] o.type #[v]).run P w = .ok v' w') (h : wpList P ops Q rest (a.put o.dst v') w') : wpList P ops Q (o :: rest) a w := by
  refine wpList_plain hgd fun K hK => ?_
  unfold Oper.wp
  simp [execOp, ho, resolve, invoke, builtin, hs, hr, Result.andThen]
  exact hK _ _ h
theorem step_append_is {P : Program} {ops : Array Oper} {o : Oper} {a : Act} {w : World} {K : Act → World → Prop} {Q : Exit → Act → World → Prop} {E : Prop}
    (hg : o.guard = none) (d x : Operand) (dT sT : TypeId) (hop : o.op = Op.call { callee := Callee.builtin Builtin.append, args := #[d, x], argTypes := #[dT, sT] })
    (v u : Value) (hd : a.eval d = v) (hx : a.eval x = u) {v' : Value} {w' : World} (hr : (Builtin.append_ #[dT, sT] o.type #[v, u]).run P w = .ok v' w') (hK : K (a.put o.dst v') w') :
    if Region.wanted o (yielded ops a.tmps) = true then Oper.wp P o a w K Q else E := by
  have hw : Region.wanted o (yielded ops a.tmps) = true := by simp [Region.wanted, hg]
  rw [if_pos hw]
  unfold Oper.wp
  simp [execOp, hop, resolve, invoke, builtin, hd, hx, hr, Result.andThen]
  exact hK
theorem run_clear_tab (w : World) (ty : TypeId) (g o cap : Nat) (cur : Array Value) (hg : w.heap[g]? = some (.cells cur 32 (0, 0))) (hfit : o + 7 ≤ cur.size) :
    (Builtin.clear_ #[55] ty #[.slice (some ⟨g, o, none⟩) 1 cap]).run Tryd.prog w = .ok (.tuple #[]) (w.setRow g (cur.toList.take o ++ sesC noSes ++ cur.toList.drop (o + 7)).toArray) := by
  obtain ⟨i0, hi0, hz0, hz1, hz2⟩ := info_parts infoSes3
  have hst := run_storeCells_at Tryd.prog g o 32 (sesC noSes) 0 cur w hg (by rw [sesC_seven]; exact hfit) (sesC_one' noSes)
  have hzc : (Builtin.zeroCells (Value.agg #[.int .i64 0, .int .i64 0, .int .i64 0, .string ⟨#[]⟩, .int .i64 0, .int .i64 0, .int .u64 0]).cells 1).toList = sesC noSes := by first | kernel_rfl | rfl
  have hl7 : (sesC noSes).length = 7 := rfl
  simp only [Nat.add_zero, hl7] at hst
  generalize hZ : (Value.agg #[.int .i64 0, .int .i64 0, .int .i64 0, .string ⟨#[]⟩, .int .i64 0, .int .i64 0, .int .u64 0]) = Z at hz0 hzc
  simp [Builtin.clear_, run_underlying Tryd.underlying55, zeroValue, typeInfo, hi0, hz0, hzc, hst]
section
variable {w : World} {base i n g cap : Nat} {L : List Ses} {cur : Array Value}
theorem tab_delete (L : List Ses) (i : Nat) : tabC (L.take i ++ L.drop (i + 1)) = (tabC L).take (i * 7) ++ (tabC L).drop ((i + 1) * 7) := by rw [tabC_app, tabC_take, tabC_drop]
set_option maxRecDepth 100000 in
set_option maxHeartbeats 4000000 in
theorem delete_mid (hb : base ≤ g) (hg : w.heap[g]? = some (.cells cur 32 (0, 0))) (hL : L.length = n) (hc1 : n ≤ cap) (hc2 : cap ≤ maxLen) (hc3 : cur.size = cap * 7) (hc4 : cur.toList.take (n * 7) = tabC L) (hi : i + 1 ≤ n) (hN : n ≤ 1000) :
    Calls Tryd.prog 60 #[.slice (some ⟨g, 0, none⟩) n cap, .int .i64 i, .int .i64 ((i : Int) + 1)] w fun e w' => ∃ v', e = .returned v' ∧ w'.ownsRow base 32 7 v' (n - 1) (tabC (L.take i ++ L.drop (i + 1))) ∧ w.grownBy w' (some g) := by
  obtain ⟨i0, hi0, hz0, hz1, hz2⟩ := info_parts infoSes3
  have hTl := tabC_len L
  rw [hL] at hTl
  have hcl : cur.toList.length = cap * 7 := by rw [Array.length_toList, hc3]
  have hdl : ((tabC L).drop ((i + 1) * 7)).length = (n - (i + 1)) * 7 := by rw [List.length_drop, hTl, ← Nat.sub_mul]
  have hcells : ∀ o2, (n = i + 1 ∨ o2 = (i + 1) * 7) → ∀ j v, ((tabC L).drop ((i + 1) * 7))[j]? = some v → w.drew.cell? ((⟨g, o2, none⟩ : Addr).add j) = some v := fun o2 ho j v hj => by
    have hlt := (List.getElem?_eq_some_iff.1 hj).1
    obtain rfl : o2 = (i + 1) * 7 := by omega
    rw [List.getElem?_drop, ← hc4, List.getElem?_take_of_lt (by omega), Array.getElem?_toList] at hj
    rw [Addr.add_lit, Blk.cell (show Blk w.drew g 32 cur from hg)]
    exact hj
  obtain ⟨c1, hc1e⟩ : ∃ c1 : List Value, cur.toList.take (i * 7) ++ (tabC L).drop ((i + 1) * 7) ++ cur.toList.drop (i * 7 + ((tabC L).drop ((i + 1) * 7)).length) = c1 := ⟨_, rfl⟩
  have hap : ∀ o2, (n = i + 1 ∨ o2 = (i + 1) * 7) → ∀ ty c, (Builtin.append_ #[55, 55] ty #[.slice (some ⟨g, 0, none⟩) i cap, .slice (some ⟨g, o2, none⟩) (n - (i + 1)) c]).run Tryd.prog w.drew = .ok (.slice (some ⟨g, 0, none⟩) (n - 1) cap) (w.drew.setRow g c1.toArray) := fun o2 ho ty c => by
    have h := run_append_room (P := Tryd.prog) w.drew 55 ty 32 i0 Tryd.underlying55 hi0 g i cap cur hg ⟨g, o2, none⟩ (n - (i + 1)) c ((tabC L).drop ((i + 1) * 7)) (by rw [hz1, hdl]) (hcells o2 ho) (fun v hv => tabC_one L v (List.mem_of_mem_drop hv)) (by omega) (by rw [hz1, hdl, hc3]; omega)
    rw [h, hz1, ← hc1e, show i + (n - (i + 1)) = n - 1 by omega]
  have hc1l : c1.length = cap * 7 := by rw [← hc1e, rowLenB (by omega), hcl]
  have hc1t : c1.take ((n - 1) * 7) = tabC (L.take i ++ L.drop (i + 1)) := by
    rw [← hc1e, tab_delete, ← hc4, List.take_take, show min (i * 7) (n * 7) = i * 7 by omega]
    rw [hc4]
    exact List.take_left' (by rw [List.length_append, hdl, List.length_take]; omega)
  obtain ⟨W1, hW1⟩ : ∃ W1, w.drew.setRow g c1.toArray = W1 := ⟨_, rfl⟩
  have hB1 : Blk W1 g 32 c1.toArray := by rw [← hW1]; exact setRow_heap w.drew g cur _ 32 _ hg
  obtain ⟨c2, hc2e⟩ : ∃ c2 : List Value, c1.take ((n - 1) * 7) ++ sesC noSes ++ c1.drop ((n - 1) * 7 + 7) = c2 := ⟨_, rfl⟩
  have hclr : ∀ ty c, (Builtin.clear_ #[55] ty #[.slice (some ⟨g, (n - 1) * 7, none⟩) (n - (n - 1)) c]).run Tryd.prog W1 = .ok (.tuple #[]) (W1.setRow g c2.toArray) := fun ty c => by
    rw [show n - (n - 1) = 1 by omega, run_clear_tab W1 ty g ((n - 1) * 7) c c1.toArray hB1 (by rw [List.size_toArray, hc1l]; omega), ← hc2e]
  have hc2l : c2.length = cap * 7 := by
    rw [← hc2e]
    have := rowLenB (cur := c1) (S := sesC noSes) (a := (n - 1) * 7) (by rw [sesC_seven, hc1l]; omega)
    rw [sesC_seven] at this
    rw [this, hc1l]
  obtain ⟨W2, hW2⟩ : ∃ W2, W1.setRow g c2.toArray = W2 := ⟨_, rfl⟩
  have hown : Hid (W2.ownsRow base 32 7 (.slice (some ⟨g, 0, none⟩) (n - 1) cap) (n - 1) (tabC (L.take i ++ L.drop (i + 1))) ∧ w.grownBy W2 (some g)) := by
    refine ⟨⟨by rw [tabC_len]; simp; omega, .inr ⟨g, cap, c2.toArray, rfl, hb, by rw [← hW2]; exact setRow_heap W1 g c1.toArray _ 32 _ hB1, by omega, hc2, by rw [List.size_toArray, hc2l], ?_⟩⟩, ?_⟩
    · rw [← hc2e, ← hc1t, List.append_assoc]
      exact List.take_left' (by rw [List.length_take, hc1l]; omega)
    · rw [← hW2, ← hW1]
      exact ⟨rfl, rfl, rfl, by simp, fun k _ hk => (setRow_other _ g k _ (fun e => hk (by rw [e]))).trans ((setRow_other _ g k _ (fun e => hk (by rw [e]))).trans rfl)⟩
  rw [hW1] at hap
  rw [hW2] at hclr
  clear hW1 hW2 hB1 hcells hc1e hc2e hc1l hc2l hc1t hTl hdl hcl hg hc3 hc4 hi0 hz0 hz1 hz2 hL
  unfold maxLen at hc2
  have hz1 : ¬ ((i : Int) = (i : Int) + 1) := by omega
  have hb1 : (0 : Int) ≤ (i : Int) + 1 := by omega
  have htn : ((i : Int) + 1).toNat = i + 1 := by omega
  have hb3 : (i : Int) ≤ (n : Int) := by omega
  have hb7 : (i : Int) + 1 ≤ (n : Int) := by omega
  have hb4 : ¬ (cap = i) := by omega
  have hb5 : ¬ (n = i) := by omega
  have hb6 : ¬ (cap = n - 1) := by omega
  have hb8 : i ≤ cap := by omega
  have mixed : Tryd.prog.follows .mixedOrders = true := by kernel_rfl
  by_cases hb2 : cap = i + 1
  · have hap2 := hap 0 (by omega)
    obtain rfl : n = i + 1 := by omega
    subst hb2
    clear hap hb6 hb4 hb5
    have hb4 : ¬ (i + 1 = i) := by omega
    have hb10 : (i : Int) ≤ (i : Int) + 1 := by omega
    rw [Nat.sub_self, Nat.add_sub_cancel] at hap2
    rw [Nat.add_sub_cancel, show i + 1 - i = 1 by omega] at hclr
    rw [Nat.add_sub_cancel] at hown
    go_enter Tryd.func60, Tryd.ntmps60
    go_wp2_with fail
    go_region_law (refine step_append_is (by rfl) _ _ 55 55 (by rfl) (.slice (some ⟨g, 0, none⟩) i (i + 1)) (.slice (some ⟨g, 0, none⟩) 0 0) (by rfl) (by rfl) (hap2 55 _) ?_)
    go_wp2_with (at_builtin; refine wpList_clear_is _ rfl _ 55 rfl _ rfl (hclr _ _) ?_)
    go_ret
    exact ⟨_, rfl, hown.out.1, hown.out.2⟩
  · have hap2 := hap _ (.inr rfl)
    clear hap
    go_enter Tryd.func60, Tryd.ntmps60
    go_wp2_with fail
    go_region_law (refine step_append_is (by rfl) _ _ 55 55 (by rfl) (.slice (some ⟨g, 0, none⟩) i cap) (.slice (some ⟨g, (i + 1) * 7, none⟩) (n - (i + 1)) (cap - (i + 1))) (by rfl) (by rfl) (hap2 55 _) ?_)
    go_wp2_with (at_builtin; refine wpList_clear_is _ rfl _ 55 rfl _ rfl (hclr _ _) ?_)
    go_ret
    exact ⟨_, rfl, hown.out.1, hown.out.2⟩
end
end Go.Proofs.YtbhagfdkipgggaaDoor
