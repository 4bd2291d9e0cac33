/-
  Layer 12 (parse): the reading of a policy: read, with its deferred closure.
-/
import Derived.Test.YtemhiiignamkjaaDoorParW5
import Derived.Test.YtemhiiignamkjaaDoorParP2
import Derived.Test.YtemhiiignamkjaaDoorParM
import Derived.Defers
import Derived.Recover
import Derived.Laws.Pointers
namespace Go.Proofs.YtemhiiignamkjaaDoor
open Go.RowKit LexP ParP
attribute [local go_sem] Oper.semAt_some

set_option maxRecDepth 100000 in
set_option maxHeartbeats 4000000 in
theorem catch_wrong (rb n : Nat) (x : Int) (older : List PanicEntry) (w : World) (hb : Blk w rb 3 #[.int .i64 x]) :
    CallsD Tryd.prog 52 #[.pointer (some ⟨rb, 0, none⟩)] (.panicking (wrongP n :: older)) w fun e u' w' =>
      e = .returned (.tuple #[]) ∧ u' = .panicking ({ wrongP n with recovered := true } :: older) ∧ w' = w.setCell ⟨rb, 0, none⟩ (.int .i64 n) := by
  have hc : w.cell? ⟨rb, 0, none⟩ = some (.int .i64 x) := hb.cell 0
  have hz := hb.frozen 0
  have hta : ∀ wx : World, (Instr.typeAssert (.iface 96 (.int .i64 n)) 20 96 true).run Tryd.prog wx = .ok (.tuple #[.int .i64 n, .bool true]) wx := fun _ => by kernel_rfl
  unfold wrongP
  refine callsD_of_wpS Tryd.func52 rfl fun c₀ cs hu => ?_
  simp only [Tryd.ntmps52, List.size_toArray, List.length_cons, List.length_nil, Nat.reduceAdd, Nat.reduceSub, Array.replicate_succ, Array.replicate_zero, List.push_toArray, List.append_toArray, List.nil_append, List.cons_append]
  apply wpS_seq
  apply wpS_region
  simp [wpOpsS, go_sem, recoverD, hu, Exit.thenS]
  refine wpS_of_wp ?_
  go_wp2_with fail
  simp [bodyPostS, results, Tryd.results52]

set_option maxRecDepth 100000 in
set_option maxHeartbeats 4000000 in
theorem catch_idle (p : Addr) (w : World) :
    CallsD Tryd.prog 52 #[.pointer (some p)] .returning w fun e u' w' => e = .returned (.tuple #[]) ∧ u' = .returning ∧ w' = w := by
  refine callsD_of_wpS Tryd.func52 rfl fun c₀ cs hu => ?_
  simp only [Tryd.ntmps52, List.size_toArray, List.length_cons, List.length_nil, Nat.reduceAdd, Nat.reduceSub, Array.replicate_succ, Array.replicate_zero, List.push_toArray, List.append_toArray, List.nil_append, List.cons_append]
  apply wpS_seq
  apply wpS_region
  simp [wpOpsS, go_sem, recoverD, hu, Exit.thenS]
  refine wpS_of_wp ?_
  go_wp2_with fail
  cases c₀
  simp_all [bodyPostS, results, Tryd.results52]
theorem wp_gcat_list {w : World} {ops : Array Oper} {rest : List Oper} {o : Oper} {a : Act} {Q : Exit → Act → World → Prop} (t el : TypeId) (z : Value) (k by' : Nat) (ht : Tryd.prog.underlying t = some (.slice el)) (hinfo : (Tryd.prog.info? el).map (fun i => (i.zero, i.size, i.bytes)) = some (some z, k, by')) (hzs : z.cells.size = k) (hk : 0 < k) (hby : by' ≤ 10000)
    (hgd : o.guard = none) (d s : Operand) (ho : o.op = .call { callee := .builtin .append, args := #[d, s], argTypes := #[t, t] }) (base : Nat) (v : Value) (n : Nat) (xs : List Value) (hd : a.eval d = v) (hrow : w.ownsRow base el k v n xs)
    (ad : Addr) (m c : Nat) (news : List Value) (hs : a.eval s = .slice (some ad) m c) (hl : news.length = m * k) (hnews : ∀ j u, news[j]? = some u → w.cell? (ad.add j) = some u) (h1 : ∀ u ∈ news, u.oneCell' = true) (hlen : n + m ≤ 1000000) (hb : base ≤ w.heap.size)
    (h : ∀ v' w', HPushed w w' base el k v v' (n + m) (xs ++ news) → wpList Tryd.prog ops Q rest (a.put o.dst v') w') : wpList Tryd.prog ops Q (o :: rest) a w := by
  obtain ⟨i0, hi, hz0, hz1, hz2⟩ := info_parts hinfo
  have hmul : (n + m) * by' ≤ 1000000 * 10000 := Nat.mul_le_mul hlen hby
  refine wpList_append_own w hgd d s t ho base el i0 z k by' ht hi hz0 hz1 hz2 hzs hk v n xs hd hrow ad m c news hs hl hnews h1 (by unfold maxLen; omega) (by omega) hb ?_
  intro v' w' h2 h3 _
  exact h v' w' ⟨h2, h3, fun B w0 hB hb2 hBel => hBel.grown h3 (Nat.le_trans hB hb2) (fun j e => Nat.le_trans hB (hrow.lt j e).1)⟩
/-- What read leaves. -/
def ReadPost (w : World) (B g : Nat) (tv : Value) (l : List Tok) (r : Rd (Tok × St)) (e : Ending) (w' : World) : Prop :=
  Below B w w' ∧ match r with
  | .ok _ x => e = .returned (.int .i64 (-1)) ∧ ∃ n vt vr vq vn ve, PIs w' B g n tv (.string x.1.text) vt vr vq vn ve x.2
  | .bad rest => ∃ n, n ≤ l.length ∧ rest = l.drop n ∧ e = .returned (.int .i64 n)
theorem PIs.apart_ty {w : World} {B g n c : Nat} {t : TypeId} {cs : Array Value} {tv nm vt vr vq vn ve : Value} {st : St} (h : PIs w B g n tv nm vt vr vq vn ve st) (hb : Blk w c t cs) (ht : t ≠ 51 ∧ t ≠ 53 ∧ t ≠ 55 ∧ t ≠ 47 ∧ t ≠ 101) : Apart c vt vr vq vn ve :=
  ⟨own_blk_ne h.rt hb (Ne.symm ht.1), own_blk_ne h.rr hb (Ne.symm ht.2.1), own_blk_ne h.rq hb (Ne.symm ht.2.2.1), own_blk_ne h.rn hb (Ne.symm ht.2.2.2.1), own_blk_ne h.re hb (Ne.symm ht.2.2.2.2)⟩
theorem own_lit {w : World} {B n : Nat} {el : TypeId} {k : Nat} {news : Array Value} (hB : B ≤ w.heap.size) (hs : news.size = n * k) (hm : n ≤ 1000) : (w.alloc (.cells news el)).ownsRow B el k (.slice (some ⟨w.heap.size, 0, none⟩) n n) n news.toList := by
  refine ⟨by rw [Array.length_toList]; exact hs, .inr ⟨w.heap.size, n, news, rfl, hB, heap_alloc_new w _, Nat.le_refl _, by unfold maxLen; omega, hs, ?_⟩⟩
  rw [← hs, ← Array.length_toList, List.take_length]
set_option maxRecDepth 100000 in
theorem door_bad {T : Array Value} {W : World} {rb n : Nat} {x : Int} {R : Ending → World → Prop} (hb : Blk W rb 3 #[.int .i64 x]) (hT : T[2]? = some (.pointer (some ⟨rb, 0, none⟩))) (hR : R (.returned (.int .i64 n)) (W.setCell ⟨rb, 0, none⟩ (.int .i64 n))) :
    bodyPostD Tryd.prog Tryd.f22 R (.panic [wrongP n]) { tmps := T, defers := [{ target := Target.fn (Fn.func 52) #[.pointer (some ⟨rb, 0, none⟩)], args := #[] }] } W := by
  refine leaves_cons (f := 52) (args := #[.pointer (some ⟨rb, 0, none⟩)]) (by simp) (by simp [go_sem]) ?_
  refine (catch_wrong rb n x [] _ hb).mono ?_
  rintro e u' w'' ⟨rfl, rfl, rfl⟩
  have hc : (W.setCell ⟨rb, 0, none⟩ (.int .i64 n)).cell? ⟨rb, 0, none⟩ = some (.int .i64 n) := (hb.set_ 0 (.int .i64 n)).cell 0
  simp [Leaves, settle, results, Tryd.results22, go_sem, hT, hc]
  exact hR
set_option maxRecDepth 100000 in
theorem door_ok {T : Array Value} {W : World} {rb : Nat} {x : Int} {R : Ending → World → Prop} (hb : Blk W rb 3 #[.int .i64 x]) (hT : T[2]? = some (.pointer (some ⟨rb, 0, none⟩))) (hR : R (.returned (.int .i64 x)) W) :
    bodyPostD Tryd.prog Tryd.f22 R .ret { tmps := T, defers := [{ target := Target.fn (Fn.func 52) #[.pointer (some ⟨rb, 0, none⟩)], args := #[] }] } W := by
  have hc : W.cell? ⟨rb, 0, none⟩ = some (.int .i64 x) := hb.cell 0
  refine leaves_cons (f := 52) (args := #[.pointer (some ⟨rb, 0, none⟩)]) (by simp) (by simp [go_sem]) ?_
  refine (catch_idle ⟨rb, 0, none⟩ _).mono ?_
  rintro e u' w'' ⟨rfl, rfl, rfl⟩
  simp [Leaves, settle, results, Tryd.results22, go_sem, hT, hc]
  exact hR
theorem PIs.named {w w' : World} {B g n m : Nat} {tv nm nm' vt vr vq vn ve : Value} {st : St} (h : PIs w B g n tv nm vt vr vq vn ve st) (hG : w.grownBy w' (some g)) (hb : Blk w' g 61 #[tv, .int .i64 m, nm', vt, vr, vq, vn, ve]) : PIs w' B g m tv nm' vt vr vq vn ve st :=
  ⟨hb, h.rt.kept hG (.inr (own_blk_ne h.rt h.blk (by decide))), h.rr.kept hG (.inr (own_blk_ne h.rr h.blk (by decide))), h.rq.kept hG (.inr (own_blk_ne h.rq h.blk (by decide))),
    h.rn.kept hG (.inr (own_blk_ne h.rn h.blk (by decide))), h.re.kept hG (.inr (own_blk_ne h.re h.blk (by decide)))⟩
theorem below_drewN {B : Nat} {a b : World} (h : Below B a b) (k : Nat) : Below B a (b.drewN k) := ⟨h.os, h.tape, h.output, h.size, h.block⟩
theorem grown_ofDrewN (w : World) (k : Nat) (r : Option Nat) : w.grownBy (w.drewN k) r := ⟨rfl, rfl, rfl, Nat.le_refl _, fun _ _ _ => rfl⟩
section
variable {w : World} {B g n kf : Nat} {z : Value} {tv nm vt vr vq vn ve : Value} {st : St} {l : List Tok}
theorem item_typ (hP : PIs w B g n tv nm vt vr vq vn ve st) (hT : TkAt w B tv l) (hTB : TabsAt w B) (hg : B ≤ g) (hn : n ≤ l.length) (hl : l.length ≤ 4000) (hst : st.typs.length ≤ 4000) :
    Calls Tryd.prog 53 #[.pointer (some ⟨g, 0, none⟩), z] w (ItemPost w B g tv nm vt vr vq vn ve l (item (l.drop n) st 0)) := by
  unfold item
  rw [if_pos rfl]
  exact typ_any hP hT hTB hg hn hl hst
theorem item_quo (hP : PIs w B g n tv nm vt vr vq vn ve st) (hT : TkAt w B tv l) (hTB : TabsAt w B) (hg : B ≤ g) (hn : n ≤ l.length) (hl : l.length ≤ 4000) (hst : st.quos.length ≤ 4000) :
    Calls Tryd.prog 54 #[.pointer (some ⟨g, 0, none⟩), z] w (ItemPost w B g tv nm vt vr vq vn ve l (item (l.drop n) st 1)) := by
  unfold item
  rw [if_neg (by decide), if_pos rfl]
  exact quorum_any hP hT hTB hg hn hl hst
theorem item_rul (hP : PIs w B g n tv nm vt vr vq vn ve st) (hT : TkAt w B tv l) (hg : B ≤ g) (hn : n ≤ l.length) (hl : l.length ≤ 4000) (hst : st.ruls.length ≤ 4000) (hk : 2 ≤ kf) :
    Calls Tryd.prog 55 #[.pointer (some ⟨g, 0, none⟩), .int .i64 ((kf - 1 : Nat) : Int)] w (ItemPost w B g tv nm vt vr vq vn ve l (item (l.drop n) st kf)) := by
  unfold item
  rw [if_neg (by omega), if_neg (by omega)]
  exact rule_any hP hT hg hn hl hst
end
theorem words_none : findW words7 ⟨#[]⟩ = 7 := by kernel_rfl
theorem peek_words {l : List Tok} {m : Nat} {u : ByteArray} (hu : peek (l.drop m) = u) (hk : findW words7 u < 7) : ∃ t, l[m]? = some t ∧ t.text = u := by
  by_cases hlt : m < l.length
  · have ht := List.getElem?_eq_getElem hlt
    exact ⟨_, ht, (peek_at ht).symm.trans hu⟩
  · rw [peek_end (Nat.le_of_not_lt hlt)] at hu
    rw [← hu, words_none] at hk
    omega
theorem items_stuck {l : List Tok} {n f : Nat} {u : ByteArray} {st : St} (hu : peek (l.drop n) = u) (hc : ∀ t, l[n]? = some t → isText wClose t = false) (hk : ¬ findW words7 u < 7) (hf : (l.drop n).length < f) : items f (l.drop n) st = .bad (l.drop n) := by
  by_cases hlt : n < l.length
  · have ht := List.getElem?_eq_getElem hlt
    rw [peek_at ht] at hu
    obtain ⟨f', rfl⟩ : ∃ k, f = k + 1 := ⟨f - 1, by omega⟩
    rw [drop_at_ ht, items_round _ _ _ _ (hc _ ht), hu, if_neg hk]
  · rw [List.drop_eq_nil_of_le (Nat.le_of_not_lt hlt), items_end]
theorem read_bad {w w' : World} {B g n rb : Nat} {tv : Value} {l : List Tok} {r : Rd (Tok × St)} (hB : Below B w w') (hr0 : B ≤ rb) (hn : n ≤ l.length) (hr : r = .bad (l.drop n)) : ReadPost w B g tv l r (.returned (.int .i64 n)) (w'.setCell ⟨rb, 0, none⟩ (.int .i64 n)) := by
  subst hr
  exact ⟨hB.setCell (p := ⟨rb, 0, none⟩) hr0 _, n, hn, rfl, rfl⟩
set_option maxRecDepth 100000 in
set_option maxHeartbeats 12800000 in
theorem read_any {w : World} {B g : Nat} {tv : Value} {l : List Tok} (hP : PIs w B g 0 tv (.string ⟨#[]⟩) (.slice none 0 0) (.slice none 0 0) (.slice none 0 0) (.slice none 0 0) (.slice none 0 0) ⟨[], [], []⟩) (hT : TkAt w B tv l) (hTB : TabsAt w B) (hg : B ≤ g) (hl : l.length ≤ 4000) :
    Calls Tryd.prog 22 #[.pointer (some ⟨g, 0, none⟩)] w (ReadPost w B g tv l (policy l)) := by
  have hgl := hP.blk.lt
  have hl2 : l.length ≤ 1048576 := Nat.le_trans hl (by decide)
  have hBg : Hid (B ≤ w.heap.size) := Nat.le_trans hg (Nat.le_of_lt hgl)
  have HP := Lib.hid hP
  have HT := Lib.hid hT
  have hmf : ∀ (fn : Fn) (first cap : Array Value) (w : World), (Instr.makeFunc fn first cap).run Tryd.prog w = .ok (.func fn first cap) w := fun _ _ _ _ => rfl
  clear hP hT
  go_enter_defers Tryd.func22, Tryd.ntmps22
  go_upto_region 2 with fail
  refine world_is (P := fun W => Code.wp _ _ _ _ W) (fun W0 hW0 => ?_)
  have hB0 : Below w.heap.size w W0 := by rw [← hW0]; exact (Below.refl _ _).alloc (Nat.le_refl _) _
  have R0 : Hid (Blk W0 w.heap.size 3 #[.int .i64 0]) := by unfold Hid; rw [← hW0]; exact Blk.new _ _ _
  have L0 : Hid (Below B w W0) := hB0.mono hBg.out
  have HP0 := Lib.hid (HP.out.below hB0)
  obtain ⟨rb, erb⟩ : ∃ a, w.heap.size = a := ⟨_, rfl⟩
  rw [erb] at R0 ⊢
  have hgr : g ≠ rb := by rw [← erb]; exact Nat.ne_of_lt hgl
  have hBr : B ≤ rb := by rw [← erb]; exact hBg.out
  have hBW0 : Hid (B ≤ W0.heap.size) := Nat.le_trans hBg.out L0.out.size
  obtain ⟨ub, uo, uc, y1, y2, y3⟩ := hTB.rules W0 L0.out
  have y1' : W0.cell? ⟨1, 0, none⟩ = some (.slice (some ⟨ub, uo, none⟩) 5 uc) := y1
  have hur : 1 < W0.heap.size := (hTB.rules W0 L0.out).lt
  have hcells : Hid (∀ (o : Obj) j u, (ruleWords.map Value.string)[j]? = some u → (W0.alloc o).cell? ((⟨ub, uo, none⟩ : Addr).add j) = some u) := fun o j u hj => by
    rw [List.getElem?_map, Option.map_eq_some_iff] at hj
    obtain ⟨z, hz, rfl⟩ := hj
    rw [Addr.add_lit]
    exact (((Below.refl W0.heap.size W0).alloc (Nat.le_refl _) o).cell (p := ⟨ub, uo + j, none⟩) y2).trans (y3 j z hz)
  have hone : Hid (∀ u ∈ ruleWords.map Value.string, u.oneCell' = true) := fun u hu => by
    obtain ⟨z, _, rfl⟩ := List.mem_map.1 hu
    rfl
  clear hW0 hB0 y1 y2 y3 erb
  go_upto_region 3 with (refine wp_gcat_list 75 9 (.string ⟨#[]⟩) 1 16 Tryd.underlying75 (by kernel_rfl) rfl (by decide) (by decide) rfl _ _ rfl B (.slice (some ⟨W0.heap.size, 0, none⟩) 2 2) 2 [.string ⟨#[116, 121, 112, 101]⟩, .string ⟨#[113, 117, 111, 114, 117, 109]⟩] rfl (own_lit hBW0.out rfl (by decide)) ⟨ub, uo, none⟩ 5 uc (ruleWords.map Value.string) rfl rfl (hcells.out _) hone.out (by decide) (by rw [World.size_alloc]; exact Nat.le_succ_of_le hBW0.out) ?_; intro v7 w7 hP7)
  obtain ⟨g7, C7, cur7, rfl, hB7, WB, ht7⟩ := own_form (own_cast hP7.row (show 7 = 2 + 5 from rfl) rfl) (by decide)
  have hcur : Hid (∀ (j : Nat) (z : ByteArray), words7[j]? = some z → cur7[j]? = some (Value.string z)) := fun j z hz => by
    have h1 : (cur7.toList.take (7 * 1))[j]? = some (Value.string z) := by
      rw [ht7]
      show (words7.map Value.string)[j]? = _
      rw [List.getElem?_map, hz]
      rfl
    have hj : j < 7 := (List.getElem?_eq_some_iff.1 hz).1
    rw [List.getElem?_take_of_lt (by omega), Array.getElem?_toList] at h1
    exact h1
  have hal : Below W0.heap.size W0 (W0.alloc (.cells #[.string ⟨#[116, 121, 112, 101]⟩, .string ⟨#[113, 117, 111, 114, 117, 109]⟩] 9)) := (Below.refl _ _).alloc (Nat.le_refl _) _
  have L7 : Hid (Below B w w7) := hP7.bel B w (Nat.le_refl _) (by rw [World.size_alloc]; exact Nat.le_succ_of_le hBW0.out) (L0.out.alloc hBW0.out _)
  have R7 : Hid (Blk w7 rb 3 #[.int .i64 0]) := (R0.out.alloc _).grown hP7.grown (fun e => Nat.ne_of_lt R0.out.lt (by cases e; rfl))
  have HP7 : Hid (PIs w7 B g 0 tv (.string ⟨#[]⟩) (.slice none 0 0) (.slice none 0 0) (.slice none 0 0) (.slice none 0 0) (.slice none 0 0) ⟨[], [], []⟩) :=
    (HP0.out.below hal).other hP7.grown (Nat.ne_of_lt HP0.out.blk.lt) (HP0.out.apart (Nat.le_refl _))
  have WB7 := Lib.hid WB
  have hg7 : Hid (g7 ≠ rb) := WB.ne_ R7.out (by decide)
  clear hP7 hal ht7 WB R0 L0 HP0 hcells hone y1' hur hBW0
  go_upto_region 4 with fail
  refine world_is (P := fun W => Code.wp _ _ _ _ W) (fun W1 hW1 => ?_)
  have hB1 : Below w7.heap.size w7 W1 := by rw [← hW1]; exact (Below.refl _ _).alloc (Nat.le_refl _) _
  have IB1 : Hid (Blk W1 w7.heap.size 77 #[.func (.func 53) #[.pointer (some ⟨g, 0, none⟩)] #[], .func (.func 54) #[.pointer (some ⟨g, 0, none⟩)] #[], .func (.func 55) #[.pointer (some ⟨g, 0, none⟩)] #[]]) := by unfold Hid; rw [← hW1]; exact Blk.new _ _ _
  have L1 := Lib.hid (L7.out.trans (hB1.mono (Nat.le_trans hBg.out L7.out.size)))
  have R1 := Lib.hid (R7.out.below hB1 R7.out.lt)
  have WB1 := Lib.hid (WB7.out.below hB1 WB7.out.lt)
  have HP1 := Lib.hid (HP7.out.below hB1)
  have HT1 := Lib.hid (HT.out.below L1.out)
  obtain ⟨gi, egi⟩ : ∃ a, w7.heap.size = a := ⟨_, rfl⟩
  rw [egi] at IB1 ⊢
  clear hW1 hB1 L7 R7 WB7 HP7 egi
  go_wp2_with fail
  refine (expect_any W1 g B 0 ⟨#[112, 111, 108, 105, 99, 121]⟩ tv (.string ⟨#[]⟩) (.slice none 0 0) (.slice none 0 0) (.slice none 0 0) (.slice none 0 0) (.slice none 0 0) l HP1.out.blk HT1.out hg (Nat.zero_le _) hl2).mono ?_
  rintro e w2 (⟨t2, ht2, hp2, rfl, hb2, hG2⟩ | ⟨hno, rfl, hb2, hG2⟩)
  case inr =>
    have R2 := Lib.hid (R1.out.grown hG2 (fun e => hgr (by cases e; rfl)))
    have L2 := Lib.hid (L1.out.trans (grown_below hG2 hg HP1.out.blk.lt))
    go_wp2_with fail
    exact door_bad R2.out rfl (read_bad L2.out hBr (Nat.zero_le _) (by unfold policy expect; rw [show take (isText wPolicy) l = .bad (l.drop 0) from take_drop_no (n := 0) (p := isText wPolicy) hno]; rfl))
  have E2 : Hid (expect wPolicy l = .ok (l.drop (0 + 1)) t2) := take_drop_yes (n := 0) (p := isText wPolicy) ht2 hp2
  have L2 := Lib.hid (L1.out.trans (grown_below hG2 hg HP1.out.blk.lt))
  have HP2 := Lib.hid (HP1.out.step (m := 0 + 1) hG2 hb2)
  have R2 := Lib.hid (R1.out.grown hG2 (fun e => hgr (by cases e; rfl)))
  have hWg : Hid (g7 ≠ g) := WB1.out.ne_ HP1.out.blk (by decide)
  have hIg : Hid (gi ≠ g) := IB1.out.ne_ HP1.out.blk (by decide)
  have WB2 := Lib.hid (WB1.out.grown hG2 (fun e => hWg.out (by cases e; rfl)))
  have IB2 := Lib.hid (IB1.out.grown hG2 (fun e => hIg.out (by cases e; rfl)))
  have HT2 := Lib.hid (HT.out.below L2.out)
  have hn1 := lt_of_at ht2
  clear hb2 hG2 ht2 hp2 L1 HP1 R1 WB1 IB1 HT1
  go_wp2_with fail
  refine (name_any HP2.out.blk HT2.out hg hn1 hl2).mono ?_
  rintro e w3 (⟨t3, ht3, hp3, rfl, hb3, hG3⟩ | ⟨hno, rfl, hb3, hG3⟩)
  case inr =>
    have R3 := Lib.hid (R2.out.grown hG3 (fun e => hgr (by cases e; rfl)))
    have L3 := Lib.hid (L2.out.trans (grown_below hG3 hg HP2.out.blk.lt))
    go_wp2_with fail
    exact door_bad R3.out rfl (read_bad L3.out hBr hn1 (by unfold policy; rw [E2.out]; simp only [Rd.bind]; unfold word; rw [take_drop_no (p := isWordT) hno]))
  have E3 : Hid (word (l.drop (0 + 1)) = .ok (l.drop (0 + 1 + 1)) t3) := take_drop_yes ht3 hp3
  have L3 := Lib.hid (L2.out.trans (grown_below hG3 hg HP2.out.blk.lt))
  have HP3 := Lib.hid (HP2.out.step (m := 0 + 1 + 1) hG3 hb3)
  have R3 := Lib.hid (R2.out.grown hG3 (fun e => hgr (by cases e; rfl)))
  have WB3 := Lib.hid (WB2.out.grown hG3 (fun e => hWg.out (by cases e; rfl)))
  have IB3 := Lib.hid (IB2.out.grown hG3 (fun e => hIg.out (by cases e; rfl)))
  have hn2 := lt_of_at ht3
  unfold tokAgg
  have hfd := tok_text (t3.kind : Int) t3.text (t3.n : Int) (t3.pos : Int)
  have nc : w3.cell? ⟨g, 2, none⟩ = some (.string ⟨#[]⟩) := HP3.out.blk.cell 2
  have nf := HP3.out.blk.frozen 2
  clear hb3 hG3 ht3 hp3 L2 HP2 R2 WB2 IB2 HT2
  go_upto_region 6 with fail
  refine world_is (P := fun W => Code.wp _ _ _ _ W) (fun W4 hW4 => ?_)
  have HP4 : Hid (PIs W4 B g (0 + 1 + 1) tv (.string t3.text) (.slice none 0 0) (.slice none 0 0) (.slice none 0 0) (.slice none 0 0) (.slice none 0 0) ⟨[], [], []⟩) := by unfold Hid; rw [← hW4]; exact HP3.out.named (grown_ofSet _ _ _ _) (HP3.out.blk.set_ 2 _)
  have R4 : Hid (Blk W4 rb 3 #[.int .i64 0]) := by unfold Hid; rw [← hW4]; exact R3.out.other (a := ⟨g, 2, none⟩) (Ne.symm hgr) _
  have WB4 : Hid (Blk W4 g7 9 cur7) := by unfold Hid; rw [← hW4]; exact WB3.out.other (a := ⟨g, 2, none⟩) hWg.out _
  have IB4 : Hid (Blk W4 gi 77 #[.func (.func 53) #[.pointer (some ⟨g, 0, none⟩)] #[], .func (.func 54) #[.pointer (some ⟨g, 0, none⟩)] #[], .func (.func 55) #[.pointer (some ⟨g, 0, none⟩)] #[]]) := by unfold Hid; rw [← hW4]; exact IB3.out.other (a := ⟨g, 2, none⟩) hIg.out _
  have L4 : Hid (Below B w W4) := by unfold Hid; rw [← hW4]; exact L3.out.setCell (p := ⟨g, 2, none⟩) hg _
  have HT4 := Lib.hid (HT.out.below L4.out)
  clear hW4 L3 HP3 R3 WB3 IB3 nc nf hfd
  go_wp2_with fail
  refine (expect_any W4 g B (0 + 1 + 1) ⟨#[123]⟩ tv (.string t3.text) (.slice none 0 0) (.slice none 0 0) (.slice none 0 0) (.slice none 0 0) (.slice none 0 0) l HP4.out.blk HT4.out hg hn2 hl2).mono ?_
  rintro e w5 (⟨t5, ht5, hp5, rfl, hb5, hG5⟩ | ⟨hno, rfl, hb5, hG5⟩)
  case inr =>
    have R5 := Lib.hid (R4.out.grown hG5 (fun e => hgr (by cases e; rfl)))
    have L5 := Lib.hid (L4.out.trans (grown_below hG5 hg HP4.out.blk.lt))
    go_wp2_with fail
    exact door_bad R5.out rfl (read_bad L5.out hBr hn2 (by unfold policy; rw [E2.out]; simp only [Rd.bind]; rw [E3.out]; simp only []; unfold expect; rw [take_drop_no (p := isText wOpen) hno]))
  have E5 : Hid (expect wOpen (l.drop (0 + 1 + 1)) = .ok (l.drop (0 + 1 + 1 + 1)) t5) := take_drop_yes ht5 hp5
  have L5 := Lib.hid (L4.out.trans (grown_below hG5 hg HP4.out.blk.lt))
  have HP5 := Lib.hid (HP4.out.step (m := 0 + 1 + 1 + 1) hG5 hb5)
  have R5 := Lib.hid (R4.out.grown hG5 (fun e => hgr (by cases e; rfl)))
  have WB5 := Lib.hid (WB4.out.grown hG5 (fun e => hWg.out (by cases e; rfl)))
  have IB5 := Lib.hid (IB4.out.grown hG5 (fun e => hIg.out (by cases e; rfl)))
  have hn3 := lt_of_at ht5
  obtain ⟨n0, hn0⟩ : ∃ k, 0 + 1 + 1 + 1 = k := ⟨_, rfl⟩
  have hbadE : Hid (∀ r, items ((l.drop n0).length + 1) (l.drop n0) ⟨[], [], []⟩ = .bad r → policy l = .bad r) := fun r h => by
    unfold policy
    rw [E2.out]
    simp only [Rd.bind]
    rw [E3.out]
    simp only []
    rw [E5.out]
    simp only []
    rw [hn0, h]
  have hokE : Hid (∀ r st, items ((l.drop n0).length + 1) (l.drop n0) ⟨[], [], []⟩ = .ok r st → policy l = if r.isEmpty then .ok [] (t3, st) else .bad r) := fun r st h => by
    unfold policy
    rw [E2.out]
    simp only [Rd.bind]
    rw [E3.out]
    simp only []
    rw [E5.out]
    simp only []
    rw [hn0, h]
  rw [hn0] at HP5 hn3
  have hfu : (l.drop n0).length < (l.drop n0).length + 1 := Nat.lt_succ_self _
  have hz : ([] : List PTyp).length ≤ n0 ∧ ([] : List PRul).length ≤ n0 ∧ ([] : List PQuo).length ≤ n0 := ⟨Nat.zero_le _, Nat.zero_le _, Nat.zero_le _⟩
  clear hb5 hG5 ht5 hp5 L4 HP4 R4 WB4 IB4 HT4 E2 E3 E5 hn0 hn1 hn2 hmf
  go_wp2_with fail
  go_loopw [] (fun wr => ∃ (n f : Nat) (st : St) (vt vr vq vn ve : Value), n ≤ l.length ∧ (l.drop n).length < f ∧ (st.typs.length ≤ n ∧ st.ruls.length ≤ n ∧ st.quos.length ≤ n) ∧ Hid (items ((l.drop n0).length + 1) (l.drop n0) ⟨[], [], []⟩ = items f (l.drop n) st) ∧ Hid (PIs wr B g n tv (.string t3.text) vt vr vq vn ve st) ∧ Hid (Blk wr rb 3 #[.int .i64 0]) ∧ Hid (Blk wr g7 9 cur7) ∧ Hid (Blk wr gi 77 #[.func (.func 53) #[.pointer (some ⟨g, 0, none⟩)] #[], .func (.func 54) #[.pointer (some ⟨g, 0, none⟩)] #[], .func (.func 55) #[.pointer (some ⟨g, 0, none⟩)] #[]]) ∧ Hid (Below B w wr)) (fun wr => l.length - (intOf ((wr.cell? ⟨g, 1, none⟩).getD undef)).toNat)
  case atStart => exact ⟨n0, _, _, _, _, _, _, _, hn3, hfu, hz, rfl, HP5, R5, WB5, IB5, L5⟩
  case round =>
    clear HP5 R5 WB5 IB5 L5 hn3 hfu hz
    obtain ⟨n, f, st, vt, vr, vq, vn, ve, hn, hf, hsz, HE, HPr, Rr, WBr, IBr, Lr⟩ := hrel
    have HTr := Lib.hid (HT.out.below Lr.out)
    have hmc : Hid (wr.cell? ⟨g, 1, none⟩ = some (.int .i64 n)) := HPr.out.blk.cell 1
    go_wp2_with fail
    refine (accept_any ⟨#[125]⟩ (by decide) HPr.out.blk HTr.out hn hl2).mono ?_
    rintro e w6 ⟨b, hbi, rfl, hb6, hG6⟩
    have L6 := Lib.hid (Lr.out.trans (grown_below hG6 hg HPr.out.blk.lt))
    have R6 := Lib.hid (Rr.out.grown hG6 (fun e => hgr (by cases e; rfl)))
    have WB6 := Lib.hid (WBr.out.grown hG6 (fun e => hWg.out (by cases e; rfl)))
    have IB6 := Lib.hid (IBr.out.grown hG6 (fun e => hIg.out (by cases e; rfl)))
    have HT6 := Lib.hid (HT.out.below L6.out)
    cases b
    case true =>
      obtain ⟨t6, ht6, hp6⟩ := hbi.1 rfl
      have HP6 := Lib.hid (show PIs w6 B g (n + 1) tv (.string t3.text) vt vr vq vn ve st from HPr.out.step hG6 hb6)
      have hn6 := lt_of_at ht6
      obtain ⟨f', rfl⟩ : ∃ k, f = k + 1 := ⟨f - 1, by omega⟩
      have hres := Lib.hid (hokE.out _ _ (HE.out.trans (by rw [drop_at_ ht6, items_close _ _ _ _ hp6])))
      obtain ⟨A, c, rfl, _⟩ := id HT.out
      have c0 : w6.cell? ⟨g, 0, none⟩ = some (.slice A l.length c) := HP6.out.blk.cell 0
      obtain ⟨m, hm⟩ : ∃ m, n + 1 = m := ⟨_, rfl⟩
      rw [hm] at HP6 hn6 hres
      have c1 : w6.cell? ⟨g, 1, none⟩ = some (.int .i64 m) := HP6.out.blk.cell 1
      have r0 : w6.cell? ⟨rb, 0, none⟩ = some (.int .i64 0) := R6.out.cell 0
      have f0 := R6.out.frozen 0
      clear hbi hb6 hG6 ht6 hp6 HE HPr Rr WBr IBr Lr HTr hbadE hokE hmc hm hsz hf
      by_cases hlt : m < l.length
      · have d1 : decide ((m : Int) < (l.length : Int)) = true := decide_eq_true (by omega)
        have d2 : decide (m < l.length) = true := decide_eq_true hlt
        have hpol : Hid (policy l = .bad (l.drop m)) := hres.out.trans (by rw [if_neg]; rw [List.isEmpty_iff]; intro h; have := congrArg List.length h; simp at this; omega)
        clear hlt hres
        go_upto_region 13 with fail
        go_quiet (fail)
        go_wp2_with fail
        exact door_ok (x := (m : Int)) (R6.out.set_ 0 _) rfl ⟨(Below.setCell (below_drewN L6.out _) (p := ⟨rb, 0, none⟩) hBr _), by rw [hpol.out]; exact ⟨m, hn6, rfl, rfl⟩⟩
      · have d1 : decide ((m : Int) < (l.length : Int)) = false := decide_eq_false (by omega)
        have d2 : decide (m < l.length) = false := decide_eq_false hlt
        have hpol : Hid (policy l = .ok [] (t3, st)) := hres.out.trans (by rw [List.drop_eq_nil_of_le (Nat.le_of_not_lt hlt)]; rfl)
        clear hlt hres
        go_upto_region 13 with fail
        go_quiet (fail)
        go_wp2_with fail
        exact door_ok (x := -1) (R6.out.set_ 0 _) rfl ⟨(Below.setCell (below_drewN L6.out _) (p := ⟨rb, 0, none⟩) hBr _), by rw [hpol.out]; exact ⟨rfl, m, vt, vr, vq, vn, ve, HP6.out.other (grown_trans (grown_ofDrewN _ _ _) (grown_ofSet _ rb 0 _)) hgr (HP6.out.apart_ty R6.out (by decide))⟩⟩
    case false =>
      have HP6 := Lib.hid (show PIs w6 B g n tv (.string t3.text) vt vr vq vn ve st from HPr.out.step hG6 hb6)
      have hncl : Hid (∀ t, l[n]? = some t → isText wClose t = false) := fun t ht => by
        cases h : isText wClose t
        · rfl
        · exact absurd (hbi.2 ⟨t, ht, h⟩) (by decide)
      obtain ⟨u, hu⟩ : ∃ u, peek (l.drop n) = u := ⟨_, rfl⟩
      have huH := Lib.hid hu
      clear hbi hb6 hG6 HPr Rr WBr IBr Lr HTr hu
      go_wp2_with fail
      refine (peek_any w6 g B n tv (.string t3.text) vt vr vq vn ve l HP6.out.blk HT6.out hl2).mono ?_
      rintro e w7 ⟨rfl, hB7'⟩
      rw [huH.out]
      have HP7 := Lib.hid (HP6.out.below hB7')
      have R7 := Lib.hid (R6.out.below hB7' R6.out.lt)
      have WB7 := Lib.hid (WB6.out.below hB7' WB6.out.lt)
      have IB7 := Lib.hid (IB6.out.below hB7' IB6.out.lt)
      have L7 := Lib.hid (L6.out.trans (hB7'.mono (Nat.le_trans hBg.out L6.out.size)))
      clear hB7' HP6 R6 WB6 IB6 L6 HT6
      go_wp2_with fail
      refine (indexS_any w7 g7 0 C7 words7 u (by decide) (fun j z hz => by rw [Nat.zero_add]; exact (WB7.out.cell j).trans (hcur.out j z hz))).mono ?_
      rintro e w8 ⟨rfl, rfl⟩
      by_cases hk7 : findW words7 u < 7
      · rw [if_pos (show findW words7 u < words7.length from hk7)]
        obtain ⟨t6, ht6, hut⟩ := peek_words huH.out hk7
        have hn1 := lt_of_at ht6
        obtain ⟨f', rfl⟩ : ∃ k, f = k + 1 := ⟨f - 1, by omega⟩
        obtain ⟨kf, hkf⟩ : ∃ k, findW words7 u = k := ⟨_, rfl⟩
        have hitk : Hid (items (f' + 1) (l.drop n) st = (item (l.drop (n + 1)) st kf).bind (items f')) := by
          unfold Hid
          rw [drop_at_ ht6, items_round _ _ _ _ (hncl.out _ ht6), hut, if_pos hk7, hkf]
        rw [hkf] at hk7 ⊢
        have c1 : w8.cell? ⟨g, 1, none⟩ = some (.int .i64 n) := HP7.out.blk.cell 1
        have f1 := HP7.out.blk.frozen 1
        have hkf0 : decide ((kf : Int) < 0) = false := decide_eq_false (by omega)
        have hnn4 : n ≤ 4000 := Nat.le_trans hn hl
        clear hkf ht6 hut hncl huH
        go_upto_region 12 with fail
        refine world_is (P := fun W => Code.wp _ _ _ _ W) (fun W9 hW9 => ?_)
        have HP9 : Hid (PIs W9 B g (n + 1) tv (.string t3.text) vt vr vq vn ve st) := by unfold Hid; rw [← hW9]; exact HP7.out.step (m := n + 1) (grown_ofSet _ _ _ _) (HP7.out.blk.set_ 1 _)
        have R9 : Hid (Blk W9 rb 3 #[.int .i64 0]) := by unfold Hid; rw [← hW9]; exact R7.out.other (a := ⟨g, 1, none⟩) (Ne.symm hgr) _
        have WB9 : Hid (Blk W9 g7 9 cur7) := by unfold Hid; rw [← hW9]; exact WB7.out.other (a := ⟨g, 1, none⟩) hWg.out _
        have IB9 : Hid (Blk W9 gi 77 #[.func (.func 53) #[.pointer (some ⟨g, 0, none⟩)] #[], .func (.func 54) #[.pointer (some ⟨g, 0, none⟩)] #[], .func (.func 55) #[.pointer (some ⟨g, 0, none⟩)] #[]]) := by unfold Hid; rw [← hW9]; exact IB7.out.other (a := ⟨g, 1, none⟩) hIg.out _
        have L9 : Hid (Below B w W9) := by unfold Hid; rw [← hW9]; exact L7.out.setCell (p := ⟨g, 1, none⟩) hg _
        have HT9 := Lib.hid (HT.out.below L9.out)
        have hA1 : Hid (Apart rb vt vr vq vn ve) := HP9.out.apart_ty R9.out (by decide)
        have hA2 : Hid (Apart g7 vt vr vq vn ve) := HP9.out.apart_ty WB9.out (by decide)
        have hA3 : Hid (Apart gi vt vr vq vn ve) := HP9.out.apart_ty IB9.out (by decide)
        have i0 : W9.cell? ⟨gi, 0, none⟩ = some (.func (.func 53) #[.pointer (some ⟨g, 0, none⟩)] #[]) := IB9.out.cell 0
        have i1 : W9.cell? ⟨gi, 1, none⟩ = some (.func (.func 54) #[.pointer (some ⟨g, 0, none⟩)] #[]) := IB9.out.cell 1
        have i2 : W9.cell? ⟨gi, 2, none⟩ = some (.func (.func 55) #[.pointer (some ⟨g, 0, none⟩)] #[]) := IB9.out.cell 2
        clear hW9 HP7 R7 WB7 IB7 L7 c1 f1
        rcases (show kf = 0 ∨ kf = 1 ∨ 2 ≤ kf by omega) with hc | hc | hc
        · have HC := Lib.hid (item_typ (z := .int .i64 (-1)) HP9.out HT9.out (hTB.below L9.out) hg hn1 hl (Nat.le_trans hsz.1 (Nat.le_trans hn hl)))
          obtain ⟨r, hr0⟩ : ∃ r, item (l.drop (n + 1)) st 0 = r := ⟨_, rfl⟩
          rw [hr0] at HC
          have hr := Lib.hid hr0
          have hit : Hid (items (f' + 1) (l.drop n) st = (item (l.drop (n + 1)) st 0).bind (items f')) := by have h := hitk.out; rw [hc] at h; exact h
          clear hr0 hitk hkf0 hk7
          subst hc
          have hmin : min (0 : Int) 2 = 0 := by decide
          go_wp2_with fail
          refine HC.out.mono ?_
          rintro e w10 ⟨hF, hm⟩
          have R10 := Lib.hid (hF.blk R9.out (Ne.symm hgr) hA1.out)
          have WB10 := Lib.hid (hF.blk WB9.out hWg.out hA2.out)
          have IB10 := Lib.hid (hF.blk IB9.out hIg.out hA3.out)
          have L10 := Lib.hid (L9.out.trans hF.bel)
          cases r
          case bad rest =>
            obtain ⟨n2, hn2, rfl, rfl⟩ := hm
            clear hF
            go_wp2_with fail
            exact door_bad R10.out rfl (read_bad L10.out hBr hn2 (hbadE.out _ (HE.out.trans (hit.out.trans (by rw [hr.out]; rfl)))))
          case ok rest st2 =>
            obtain ⟨rfl, n2, ut, ur, uq, un, ue, hn2, rfl, hP2⟩ := hm
            have HP10 := Lib.hid hP2
            have hlen2 := item_len hr.out
            rw [List.length_drop, List.length_drop] at hlen2
            have hnn : n + 1 ≤ n2 := by omega
            have hsz2 := item_size hr.out hsz
            have hE2 : Hid (items (f' + 1) (l.drop n) st = items f' (l.drop n2) st2) := hit.out.trans (by rw [hr.out]; rfl)
            have hf2 : (l.drop n2).length < f' := by rw [List.length_drop] at hf ⊢; omega
            have hsz3 : Hid (st2.typs.length ≤ n2 ∧ st2.ruls.length ≤ n2 ∧ st2.quos.length ≤ n2) := ⟨Nat.le_trans hsz2.1 hnn, Nat.le_trans hsz2.2.1 hnn, Nat.le_trans hsz2.2.2 hnn⟩
            have hnnH := Lib.hid hnn
            have hf2H := Lib.hid hf2
            have hn2H := Lib.hid hn2
            clear hF hP2 hlen2 hnn hsz2 hf2 hn2 hf hsz
            go_wp2_with fail
            go_roundw
            case rel => exact ⟨n2, f', st2, ut, ur, uq, un, ue, hn2H.out, hf2H.out, hsz3.out, HE.out.trans hE2.out, HP10, R10, WB10, IB10, L10⟩
            case measure =>
              have h1 := HP10.out.blk.cell 1
              have h2 := hnnH.out
              have h3 := hn2H.out
              rw [h1, hmc.out]
              show l.length - (intOf (.int .i64 (n2 : Int))).toNat < l.length - (intOf (.int .i64 (n : Int))).toNat
              simp only [intOf, Int.toNat_natCast]
              omega
        · have HC := Lib.hid (item_quo (z := .int .i64 0) HP9.out HT9.out (hTB.below L9.out) hg hn1 hl (Nat.le_trans hsz.2.2 (Nat.le_trans hn hl)))
          obtain ⟨r, hr0⟩ : ∃ r, item (l.drop (n + 1)) st 1 = r := ⟨_, rfl⟩
          rw [hr0] at HC
          have hr := Lib.hid hr0
          have hit : Hid (items (f' + 1) (l.drop n) st = (item (l.drop (n + 1)) st 1).bind (items f')) := by have h := hitk.out; rw [hc] at h; exact h
          clear hr0 hitk hkf0 hk7
          subst hc
          have hmin : min (1 : Int) 2 = 1 := by decide
          go_wp2_with fail
          refine HC.out.mono ?_
          rintro e w10 ⟨hF, hm⟩
          have R10 := Lib.hid (hF.blk R9.out (Ne.symm hgr) hA1.out)
          have WB10 := Lib.hid (hF.blk WB9.out hWg.out hA2.out)
          have IB10 := Lib.hid (hF.blk IB9.out hIg.out hA3.out)
          have L10 := Lib.hid (L9.out.trans hF.bel)
          cases r
          case bad rest =>
            obtain ⟨n2, hn2, rfl, rfl⟩ := hm
            clear hF
            go_wp2_with fail
            exact door_bad R10.out rfl (read_bad L10.out hBr hn2 (hbadE.out _ (HE.out.trans (hit.out.trans (by rw [hr.out]; rfl)))))
          case ok rest st2 =>
            obtain ⟨rfl, n2, ut, ur, uq, un, ue, hn2, rfl, hP2⟩ := hm
            have HP10 := Lib.hid hP2
            have hlen2 := item_len hr.out
            rw [List.length_drop, List.length_drop] at hlen2
            have hnn : n + 1 ≤ n2 := by omega
            have hsz2 := item_size hr.out hsz
            have hE2 : Hid (items (f' + 1) (l.drop n) st = items f' (l.drop n2) st2) := hit.out.trans (by rw [hr.out]; rfl)
            have hf2 : (l.drop n2).length < f' := by rw [List.length_drop] at hf ⊢; omega
            have hsz3 : Hid (st2.typs.length ≤ n2 ∧ st2.ruls.length ≤ n2 ∧ st2.quos.length ≤ n2) := ⟨Nat.le_trans hsz2.1 hnn, Nat.le_trans hsz2.2.1 hnn, Nat.le_trans hsz2.2.2 hnn⟩
            have hnnH := Lib.hid hnn
            have hf2H := Lib.hid hf2
            have hn2H := Lib.hid hn2
            clear hF hP2 hlen2 hnn hsz2 hf2 hn2 hf hsz
            go_wp2_with fail
            go_roundw
            case rel => exact ⟨n2, f', st2, ut, ur, uq, un, ue, hn2H.out, hf2H.out, hsz3.out, HE.out.trans hE2.out, HP10, R10, WB10, IB10, L10⟩
            case measure =>
              have h1 := HP10.out.blk.cell 1
              have h2 := hnnH.out
              have h3 := hn2H.out
              rw [h1, hmc.out]
              show l.length - (intOf (.int .i64 (n2 : Int))).toNat < l.length - (intOf (.int .i64 (n : Int))).toNat
              simp only [intOf, Int.toNat_natCast]
              omega
        · have HC := Lib.hid (item_rul (kf := kf) HP9.out HT9.out hg hn1 hl (Nat.le_trans hsz.2.1 (Nat.le_trans hn hl)) hc)
          obtain ⟨r, hr0⟩ : ∃ r, item (l.drop (n + 1)) st kf = r := ⟨_, rfl⟩
          rw [hr0] at HC
          have hr := Lib.hid hr0
          have hit : Hid (items (f' + 1) (l.drop n) st = (item (l.drop (n + 1)) st kf).bind (items f')) := hitk.out
          have hmin : min (kf : Int) 2 = 2 := by omega
          have hk1 : Hid ((kf : Int) - 1 = ((kf - 1 : Nat) : Int)) := by unfold Hid; omega
          have hcH := Lib.hid hc
          clear hr0 hc hitk
          go_wp2_with fail
          rw [hk1.out]
          refine HC.out.mono ?_
          rintro e w10 ⟨hF, hm⟩
          have R10 := Lib.hid (hF.blk R9.out (Ne.symm hgr) hA1.out)
          have WB10 := Lib.hid (hF.blk WB9.out hWg.out hA2.out)
          have IB10 := Lib.hid (hF.blk IB9.out hIg.out hA3.out)
          have L10 := Lib.hid (L9.out.trans hF.bel)
          cases r
          case bad rest =>
            obtain ⟨n2, hn2, rfl, rfl⟩ := hm
            clear hF
            go_wp2_with fail
            exact door_bad R10.out rfl (read_bad L10.out hBr hn2 (hbadE.out _ (HE.out.trans (hit.out.trans (by rw [hr.out]; rfl)))))
          case ok rest st2 =>
            obtain ⟨rfl, n2, ut, ur, uq, un, ue, hn2, rfl, hP2⟩ := hm
            have HP10 := Lib.hid hP2
            have hlen2 := item_len hr.out
            rw [List.length_drop, List.length_drop] at hlen2
            have hnn : n + 1 ≤ n2 := by omega
            have hsz2 := item_size hr.out hsz
            have hE2 : Hid (items (f' + 1) (l.drop n) st = items f' (l.drop n2) st2) := hit.out.trans (by rw [hr.out]; rfl)
            have hf2 : (l.drop n2).length < f' := by rw [List.length_drop] at hf ⊢; omega
            have hsz3 : Hid (st2.typs.length ≤ n2 ∧ st2.ruls.length ≤ n2 ∧ st2.quos.length ≤ n2) := ⟨Nat.le_trans hsz2.1 hnn, Nat.le_trans hsz2.2.1 hnn, Nat.le_trans hsz2.2.2 hnn⟩
            have hnnH := Lib.hid hnn
            have hf2H := Lib.hid hf2
            have hn2H := Lib.hid hn2
            clear hF hP2 hlen2 hnn hsz2 hf2 hn2 hf hsz
            go_wp2_with fail
            go_roundw
            case rel => exact ⟨n2, f', st2, ut, ur, uq, un, ue, hn2H.out, hf2H.out, hsz3.out, HE.out.trans hE2.out, HP10, R10, WB10, IB10, L10⟩
            case measure =>
              have h1 := HP10.out.blk.cell 1
              have h2 := hnnH.out
              have h3 := hn2H.out
              rw [h1, hmc.out]
              show l.length - (intOf (.int .i64 (n2 : Int))).toNat < l.length - (intOf (.int .i64 (n : Int))).toNat
              simp only [intOf, Int.toNat_natCast]
              omega
      · rw [if_neg (show ¬ findW words7 u < words7.length from hk7)]
        have c1 : w8.cell? ⟨g, 1, none⟩ = some (.int .i64 n) := HP7.out.blk.cell 1
        have hst : Hid (items f (l.drop n) st = .bad (l.drop n)) := items_stuck huH.out hncl.out hk7 hf
        go_wp2_with fail
        exact door_bad R7.out rfl (read_bad L7.out hBr hn (hbadE.out _ (HE.out.trans hst.out)))
end Go.Proofs.YtemhiiignamkjaaDoor
