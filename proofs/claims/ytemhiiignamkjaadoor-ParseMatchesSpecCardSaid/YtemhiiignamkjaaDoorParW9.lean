/-
  Layer 12 (parse): Parse.
-/
import Derived.Test.YtemhiiignamkjaaDoorParW6
import Derived.Test.YtemhiiignamkjaaDoorParW8
import Derived.Test.YtemhiiignamkjaaDoorNC
namespace Go.Proofs.YtemhiiignamkjaaDoor
open Go.RowKit LexP ParP
attribute [local go_sem] Oper.semAt_some

/-- The program's tables, whatever is done behind the world. -/
structure Tabs (w : World) : Prop where
  units : UnitsAt w
  flags : TabS w 0 flagWords
  rules : TabS w 1 ruleWords
  commands : TabS w 2 commandWords
theorem Tabs.below {w w' : World} (h : Tabs w) (hb : Below w.heap.size w w') : Tabs w' := ⟨h.units.below hb, h.flags.below hb, h.rules.below hb, h.commands.below hb⟩
theorem Tabs.at_ {w w' : World} (h : Tabs w) (hb : Below w.heap.size w w') : TabsAt w' w'.heap.size :=
  ⟨Nat.le_refl _, fun _ hv => (h.flags.below hb).below hv, fun _ hv => (h.rules.below hb).below hv, fun _ hv => (h.commands.below hb).below hv⟩
theorem Tabs.atB {w w' : World} {B : Nat} (h : Tabs w) (hb : Below w.heap.size w w') (hB : w.heap.size ≤ B) (hB' : B ≤ w'.heap.size) : TabsAt w' B :=
  ⟨hB', fun _ hv => h.flags.below (hb.trans (hv.mono hB)), fun _ hv => h.rules.below (hb.trans (hv.mono hB)), fun _ hv => h.commands.below (hb.trans (hv.mono hB))⟩
def typC (l : List Typ) : List Value := l.flatMap fun t => [.string t.name, .int .i64 t.flags, .int .i64 t.life]
def rulC (l : List Rul) : List Value := l.flatMap fun r => [.int .i64 r.kind, .int .i64 r.a, .int .i64 r.b]
def quoC (l : List Quo) : List Value := l.flatMap fun q => [.int .i64 q.cmd, .int .i64 q.count, .int .i64 q.delay, .int .i64 q.valid, .int .i64 q.uses]
theorem typsC_typC (l : List PTyp) : typsC l = typC (l.map PTyp.typ) := by unfold typsC typC; rw [List.flatMap_map]; rfl
theorem quosC_quoC (l : List PQuo) : quosC l = quoC (l.map PQuo.quo) := by unfold quosC quoC; rw [List.flatMap_map]; rfl
theorem rulsH_rulC (ts : List PTyp) (rs : List PRul) (h : rs.flatMap (missing ts) = []) : (rulsH ts rs (2 * rs.length)).map intV = rulC (rs.map (PRul.rul ts)) := by
  rw [rulsH_all ts rs _ rfl h, List.map_flatMap, rulC, List.flatMap_map]
  rfl
/-- A policy in rows of the call's own. -/
def PolIs (w : World) (B : Nat) (v : Value) (p : Pol) : Prop :=
  ∃ vt vr vq, v = .agg #[.string p.name, vt, vr, vq] ∧ w.ownsRow B 51 3 vt p.typs.length (typC p.typs) ∧ w.ownsRow B 53 3 vr p.ruls.length (rulC p.ruls) ∧ w.ownsRow B 55 5 vq p.quos.length (quoC p.quos)
theorem polIs_no (w : World) (B : Nat) : PolIs w B (.agg #[.string ⟨#[]⟩, .slice none 0 0, .slice none 0 0, .slice none 0 0]) noPol :=
  ⟨_, _, _, rfl, World.ownsRow_nil _ _ _ _, World.ownsRow_nil _ _ _ _, World.ownsRow_nil _ _ _ _⟩
/-- What Parse leaves. -/
def ParsePost (w : World) (o : Out) (e : Ending) (w' : World) : Prop :=
  ∃ v, e = .returned (.tuple #[v, .int .i64 o.pos, .int .i64 o.err]) ∧ PolIs w' w.heap.size v o.pol ∧ Below w.heap.size w w'
theorem results_ctt {P : Program} {fn : Func} {p q r : Tmp} {ty : TypeId} (h : fn.results = #[.cell p ty, .tmp q, .tmp r]) (tmps : Array Value) (w : World) (g : Nat) (t : TypeId) (cs : Array Value) (d : TypeDesc)
    (hp : tmps.getD p undef = .pointer (some ⟨g, 0, none⟩)) (hg : Blk w g t cs)
    (hu : P.underlying ty = some d) (hd : (match d with | .struct _ | .array _ _ => true | _ => false) = true) (hi : (P.info? ty).map (·.size) = some cs.size) :
    (results fn tmps).run P w = .ok (.tuple #[.agg cs, tmps.getD q undef, tmps.getD r undef]) w := by
  have hp' : tmps[p]?.getD undef = .pointer (some ⟨g, 0, none⟩) := by simpa using hp
  unfold Blk at hg
  simp [results, h, hp', asAddr, run_loadVar_row w g t ty cs (0, 0) d hg hu hd hi]
theorem tkAt_own {w : World} {base : Nat} {v : Value} {l : List Tok} (h : w.ownsRow base 47 4 v l.length (toksCells l)) : TkAt w w.heap.size v l := by
  obtain ⟨A, c, rfl⟩ := own_slice h
  refine ⟨A, c, rfl, fun hl => ?_⟩
  obtain ⟨g, rfl, _⟩ := own_none h hl
  refine ⟨g, 0, rfl, (h.lt g rfl).2, fun i T hT => ?_⟩
  obtain ⟨h0, h1, h2, h3⟩ := toksCells_get l i T hT
  have hc := h.cells (g := g) rfl
  have a0 := hc _ _ h0
  have a1 := hc _ _ h1
  have a2 := hc _ _ h2
  have a3 := hc _ _ h3
  rw [Addr.add_lit] at a0 a1 a2 a3
  simp only [Nat.zero_add] at a0 a1 a2 a3 ⊢
  exact ⟨a0, a1, a2, a3⟩

theorem twice_mem {l0 : List Tok} : ∀ (l b : List PTyp), (∀ t ∈ l, t.name ∈ l0) → ∀ x ∈ twice b l, x ∈ l0
  | [], b, _, x, hx => by cases hx
  | t :: l, b, h, x, hx => by
    unfold twice at hx
    rcases List.mem_append.1 hx with hx | hx
    · split at hx
      · simp at hx
        subst hx
        exact h t List.mem_cons_self
      · cases hx
    · exact twice_mem l _ (fun y hy => h y (List.mem_cons_of_mem _ hy)) x hx
theorem twice_len : ∀ (l b : List PTyp), (twice b l).length ≤ l.length
  | [], b => Nat.le_refl _
  | t :: l, b => by
    unfold twice
    rw [List.length_append]
    have := twice_len l (b ++ [t])
    split <;> simp <;> omega
theorem missing_len (ts : List PTyp) : ∀ rs : List PRul, (rs.flatMap (missing ts)).length ≤ 2 * rs.length
  | [] => Nat.le_refl _
  | r :: rs => by
    rw [List.flatMap_cons, List.length_append]
    have := missing_len ts rs
    have h : (missing ts r).length ≤ 2 := by
      unfold missing
      split <;> split <;> simp
    have e : 2 * (r :: rs).length = 2 * rs.length + 2 := rfl
    omega
theorem wrongs_len (st : St) : (wrongs st).length ≤ st.typs.length + 2 * st.ruls.length := by
  unfold wrongs
  rw [List.length_append]
  have h1 := twice_len st.typs []
  have h2 := missing_len st.typs st.ruls
  omega
theorem wrongs_mem {l : List Tok} {st : St} {n : Nat} (h : Among l st n) : ∀ t ∈ wrongs st, t ∈ l := by
  intro t ht
  unfold wrongs at ht
  rcases List.mem_append.1 ht with ht | ht
  · exact twice_mem _ _ h.typs t ht
  · obtain ⟨r, hr, hx⟩ := List.mem_flatMap.1 ht
    unfold missing at hx
    rcases List.mem_append.1 hx with hx | hx
    · split at hx
      · cases hx
      · simp at hx
        subst hx
        exact (h.ruls r hr).1
    · split at hx
      · cases hx
      · simp at hx
        subst hx
        exact (h.ruls r hr).2
set_option maxRecDepth 100000 in
set_option maxHeartbeats 12800000 in
theorem Parse_any (s : ByteArray) (w : World) (hs : s.size ≤ maxLen) (hW : Tabs w) : Calls Tryd.prog 10 #[.string s] w (ParsePost w (parse s)) := by
  have hTK := Lib.hid (fun wx (h : Below w.heap.size w wx) => Tokens_any s wx hs (hW.units.below h))
  have HW := Lib.hid hW
  have hs2 : s.size ≤ 9223372036854775807 := hs
  have hsH := Lib.hid hs
  clear hW hs
  go_enter Tryd.func10, Tryd.ntmps10
  go_upto_region 1 with fail
  refine world_is (P := fun W => Code.wp _ _ _ _ W) (fun W0 hW0 => ?_)
  have hB0 : Below w.heap.size w W0 := by rw [← hW0]; exact (Below.refl _ _).alloc (Nat.le_refl _) _
  have RA0 : Hid (Blk W0 w.heap.size 27 #[.string ⟨#[]⟩, .slice none 0 0, .slice none 0 0, .slice none 0 0]) := by unfold Hid; rw [← hW0]; exact Blk.new _ _ _
  have L0 := Lib.hid hB0
  obtain ⟨ra, era⟩ : ∃ x, w.heap.size = x := ⟨_, rfl⟩
  have hra : Hid (w.heap.size ≤ ra) := Nat.le_of_eq era
  rw [era] at RA0 ⊢
  clear hW0 hB0 era
  go_wp2_with fail
  refine (hTK.out _ L0.out).mono ?_
  rintro e w1 ⟨v, pos, err, rfl, hres, hB1⟩
  have RA1 := Lib.hid (RA0.out.below hB1 RA0.out.lt)
  have L1 := Lib.hid (L0.out.trans (hB1.mono L0.out.size))
  have r0 : w1.cell? ⟨ra, 0, none⟩ = some (.string ⟨#[]⟩) := RA1.out.cell 0
  have r1 : w1.cell? ⟨ra, 1, none⟩ = some (.slice none 0 0) := RA1.out.cell 1
  have r2 : w1.cell? ⟨ra, 2, none⟩ = some (.slice none 0 0) := RA1.out.cell 2
  have r3 : w1.cell? ⟨ra, 3, none⟩ = some (.slice none 0 0) := RA1.out.cell 3
  have f0 := RA1.out.frozen 0
  have f1 := RA1.out.frozen 1
  have f2 := RA1.out.frozen 2
  have f3 := RA1.out.frozen 3
  have hraW : Hid (ra < W0.heap.size) := RA0.out.lt
  clear hTK RA0 L0 hB1
  cases htk : tokens s with
  | err a0 e0 =>
    rw [htk] at hres
    obtain ⟨rfl, rfl, rfl⟩ := hres
    have hne := tokens_errs htk
    have d1 : (err != 0) = true := by simpa using hne
    have hP : Hid (parse s = ⟨noPol, a0, err⟩) := by unfold Hid parse; rw [htk]
    clear htk
    go_wp2_with fail
    rw [hP.out]
    exact bodyPost_ret (results_ctt (P := Tryd.prog) rfl _ _ ra 27 #[.string ⟨#[]⟩, .slice none 0 0, .slice none 0 0, .slice none 0 0] _ rfl ((((RA1.out.set_ 0 _).set_ 1 _).set_ 2 _).set_ 3 _) Tryd.underlying27 rfl (by kernel_rfl)) rfl ⟨_, rfl, polIs_no _ _, (((L1.out.setCell (p := ⟨ra, 0, none⟩) hra.out _).setCell (p := ⟨ra, 1, none⟩) hra.out _).setCell (p := ⟨ra, 2, none⟩) hra.out _).setCell (p := ⟨ra, 3, none⟩) hra.out _⟩
  | ok l =>
    rw [htk] at hres
    obtain ⟨rfl, rfl, hown⟩ := hres
    obtain ⟨hs4, hll, htx⟩ := tokens_facts htk
    have HTX := Lib.hid htx
    have hl4 : l.length ≤ 4000 := Nat.le_trans hll hs4
    have htkH := Lib.hid htk
    have T1 := Lib.hid (tkAt_own hown)
    obtain ⟨A, c, rfl⟩ := own_slice hown
    have hAr : Hid (∀ b o, A = some ⟨b, o, none⟩ → b ≠ ra ∧ ra ≠ b) := fun b o e => by
      subst e
      have h1 := (hown.lt b rfl).1
      have h2 := hraW.out
      exact ⟨by omega, by omega⟩
    clear htk hown htx hll
    go_upto_region 5 with fail
    refine world_is (P := fun W => Code.wp _ _ _ _ W) (fun W2 hW2 => ?_)
    have hB2 : Below w1.heap.size w1 W2 := by rw [← hW2]; exact (Below.refl _ _).alloc (Nat.le_refl _) _
    have PB2 : Hid (Blk W2 w1.heap.size 61 #[.slice A l.length c, .int .i64 ((0 : Nat) : Int), .string ⟨#[]⟩, .slice none 0 0, .slice none 0 0, .slice none 0 0, .slice none 0 0, .slice none 0 0]) := by unfold Hid; rw [← hW2]; exact Blk.new _ _ _
    have RA2 := Lib.hid (RA1.out.below hB2 RA1.out.lt)
    have L2 := Lib.hid (L1.out.trans (hB2.mono L1.out.size))
    have T2 := Lib.hid (T1.out.below hB2)
    have hgs : Hid (w.heap.size ≤ w1.heap.size) := L1.out.size
    have hrag : Hid (ra < w1.heap.size) := RA1.out.lt
    obtain ⟨g, eg⟩ : ∃ x, w1.heap.size = x := ⟨_, rfl⟩
    rw [eg] at PB2 T2 hgs hrag ⊢
    have TB2 : Hid (TabsAt W2 g) := HW.out.atB L2.out hgs.out (Nat.le_of_lt PB2.out.lt)
    have P2 : Hid (PIs W2 g g 0 (.slice A l.length c) (.string ⟨#[]⟩) (.slice none 0 0) (.slice none 0 0) (.slice none 0 0) (.slice none 0 0) (.slice none 0 0) ⟨[], [], []⟩) :=
      ⟨PB2.out, World.ownsRow_nil _ _ _ _, World.ownsRow_nil _ _ _ _, World.ownsRow_nil _ _ _ _, World.ownsRow_nil _ _ _ _, World.ownsRow_nil _ _ _ _⟩
    clear hW2 hB2 RA1 L1 T1 eg r0 r1 r2 r3 f0 f1 f2 f3
    go_wp2_with fail
    refine (read_any P2.out T2.out TB2.out (Nat.le_refl _) hl4).mono ?_
    rintro e w3 ⟨hB3, hm⟩
    have RA3 := Lib.hid (RA2.out.below hB3 hrag.out)
    have L3 := Lib.hid (L2.out.trans (hB3.mono hgs.out))
    have T3 := Lib.hid (T2.out.below hB3)
    have r0 : w3.cell? ⟨ra, 0, none⟩ = some (.string ⟨#[]⟩) := RA3.out.cell 0
    have r1 : w3.cell? ⟨ra, 1, none⟩ = some (.slice none 0 0) := RA3.out.cell 1
    have r2 : w3.cell? ⟨ra, 2, none⟩ = some (.slice none 0 0) := RA3.out.cell 2
    have r3 : w3.cell? ⟨ra, 3, none⟩ = some (.slice none 0 0) := RA3.out.cell 3
    have f0 := RA3.out.frozen 0
    have f1 := RA3.out.frozen 1
    have f2 := RA3.out.frozen 2
    have f3 := RA3.out.frozen 3
    clear hB3 RA2 L2 T2 P2 PB2 TB2
    cases hpol : policy l with
    | bad rest =>
      rw [hpol] at hm
      obtain ⟨n, hn, hrest, rfl⟩ := hm
      by_cases hnl : n = l.length
      · have d1 : ((n : Int) == (l.length : Int)) = true := beq_iff_eq.2 (by omega)
        have hP : Hid (parse s = ⟨noPol, s.size, 3⟩) := by
          unfold Hid parse
          rw [htkH.out]
          dsimp only
          rw [hpol, hrest, hnl, List.drop_length]
        have hnl2 := Lib.hid hnl
        clear hpol hrest hnl
        go_wp2_with fail
        rw [hP.out]
        exact bodyPost_ret (results_ctt (P := Tryd.prog) rfl _ _ ra 27 #[.string ⟨#[]⟩, .slice none 0 0, .slice none 0 0, .slice none 0 0] _ rfl ((((RA3.out.set_ 0 _).set_ 1 _).set_ 2 _).set_ 3 _) Tryd.underlying27 rfl (by kernel_rfl)) rfl ⟨_, rfl, polIs_no _ _, (((L3.out.setCell (p := ⟨ra, 0, none⟩) hra.out _).setCell (p := ⟨ra, 1, none⟩) hra.out _).setCell (p := ⟨ra, 2, none⟩) hra.out _).setCell (p := ⟨ra, 3, none⟩) hra.out _⟩
      · have d1 : ((n : Int) == (l.length : Int)) = false := beq_eq_false_iff_ne.2 (by omega)
        have d2 : decide ((0 : Int) ≤ (n : Int)) = true := decide_eq_true (by omega)
        obtain ⟨t, ht⟩ : ∃ t, l[n]? = some t := ⟨_, List.getElem?_eq_getElem (by omega)⟩
        have hP : Hid (parse s = ⟨noPol, t.pos, 3⟩) := by
          unfold Hid parse
          rw [htkH.out]
          dsimp only
          rw [hpol, hrest, drop_at_ ht]
        obtain ⟨b, o, rfl, hbB, k0, k1, k2, k3⟩ := T3.out.at_ n t ht
        obtain ⟨hbra, hrab⟩ := hAr.out b o rfl
        have q0 : (0 : Int) ≤ (n : Int) := by omega
        have q1 : (n : Int) < (l.length : Int) := by have := (List.getElem?_eq_some_iff.1 ht).1; omega
        clear hpol hrest ht k0 k1 k2
        go_upto_region 9 with fail
        go_region_held3 (fun w' => w'.cell? ⟨b, o + n * 4 + 3, none⟩ = some (.int .i64 t.pos)) (go_keep) (fail)
        refine world_is (P := fun W => Exit.then _ _ Exit.normal _ W) (fun W4 hW4 => ?_)
        have RA4 : Hid (Blk W4 ra 27 #[.string ⟨#[]⟩, .slice none 0 0, .slice none 0 0, .slice none 0 0]) := by unfold Hid; rw [← hW4]; exact ((((RA3.out.set_ 0 _).set_ 1 _).set_ 2 _).set_ 3 _).drew
        have L4 : Hid (Below w.heap.size w W4) := by unfold Hid; rw [← hW4]; exact ((((L3.out.setCell (p := ⟨ra, 0, none⟩) hra.out _).setCell (p := ⟨ra, 1, none⟩) hra.out _).setCell (p := ⟨ra, 2, none⟩) hra.out _).setCell (p := ⟨ra, 3, none⟩) hra.out _).drew
        clear hW4
        go_wp2_with fail
        rw [hP.out]
        exact bodyPost_ret (results_ctt (P := Tryd.prog) rfl _ _ ra 27 #[.string ⟨#[]⟩, .slice none 0 0, .slice none 0 0, .slice none 0 0] _ rfl RA4.out Tryd.underlying27 rfl (by kernel_rfl)) rfl ⟨_, rfl, polIs_no _ _, L4.out⟩
    | ok rest x =>
      obtain ⟨nm, st⟩ := x
      rw [hpol] at hm
      obtain ⟨rfl, n, vt, vr, vq, vn, ve, hPI⟩ := hm
      have hAm := policy_among hpol
      have P3 := Lib.hid hPI
      have hz : Hid ((∀ t ∈ st.typs, t.name.text.size ≤ 4000) ∧ ∀ r ∈ st.ruls, r.a.text.size ≤ 4000 ∧ r.b.text.size ≤ 4000) :=
        ⟨fun t ht => (HTX.out _ (hAm.typs t ht)).1, fun r hr => ⟨(HTX.out _ (hAm.ruls r hr).1).1, (HTX.out _ (hAm.ruls r hr).2).1⟩⟩
      have hwp : Hid (∀ t ∈ wrongs st, t.pos ≤ 4000) := fun t ht => (HTX.out t (wrongs_mem hAm t ht)).2
      have hpolH := Lib.hid hpol
      have hAmH := Lib.hid hAm
      have d1 : ((-1 : Int) == (l.length : Int)) = false := beq_eq_false_iff_ne.2 (by omega)
      have d2 : decide ((0 : Int) ≤ (-1 : Int)) = false := by decide
      clear hPI hAm hpol
      go_wp2_with fail
      refine (resolve_any P3.out (Nat.le_refl _) (Nat.le_trans hAmH.out.nt hl4) (Nat.le_trans hAmH.out.nr hl4) hz.out.1 hz.out.2).mono ?_
      rintro e w4 ⟨v, rfl, hrow, hB4, hbk, hrt, hrr, hrq⟩
      obtain ⟨Av, cv, rfl⟩ := own_slice hrow
      have RA4 := Lib.hid (RA3.out.below hB4 hrag.out)
      have L4 := Lib.hid (L3.out.trans (hB4.mono hgs.out))
      clear hB4 RA3 L3 T3 P3 r0 r1 r2 r3 f0 f1 f2 f3
      have r0 : w4.cell? ⟨ra, 0, none⟩ = some (.string ⟨#[]⟩) := RA4.out.cell 0
      have r1 : w4.cell? ⟨ra, 1, none⟩ = some (.slice none 0 0) := RA4.out.cell 1
      have r2 : w4.cell? ⟨ra, 2, none⟩ = some (.slice none 0 0) := RA4.out.cell 2
      have r3 : w4.cell? ⟨ra, 3, none⟩ = some (.slice none 0 0) := RA4.out.cell 3
      have f0 := RA4.out.frozen 0
      have f1 := RA4.out.frozen 1
      have f2 := RA4.out.frozen 2
      have f3 := RA4.out.frozen 3
      cases hw : wrongs st with
      | nil =>
        rw [hw] at hrow
        have hP : Hid (parse s = ⟨⟨nm.text, st.typs.map PTyp.typ, st.ruls.map (PRul.rul st.typs), st.quos.map PQuo.quo⟩, 0, 0⟩) := by
          unfold Hid parse
          rw [htkH.out]
          dsimp only
          rw [hpolH.out]
          dsimp only
          rw [hw]
          rfl
        have hmis : st.ruls.flatMap (missing st.typs) = [] := by
          unfold wrongs at hw
          exact (List.append_eq_nil_iff.1 hw).2
        have RT := Lib.hid hrt
        have RR := Lib.hid hrr
        have RQ := Lib.hid hrq
        have BK := Lib.hid hbk
        have hmisH := Lib.hid hmis
        have g2 : w4.cell? ⟨g, 2, none⟩ = some (.string nm.text) := hbk.cell 2
        have g3 : w4.cell? ⟨g, 3, none⟩ = some vt := hbk.cell 3
        have g4 : w4.cell? ⟨g, 4, none⟩ = some vr := hbk.cell 4
        have g5 : w4.cell? ⟨g, 5, none⟩ = some vq := hbk.cell 5
        have hgra : g ≠ ra := Ne.symm (Nat.ne_of_lt hrag.out)
        obtain ⟨At, ct, rfl⟩ := own_slice hrt
        obtain ⟨Ar, cr, rfl⟩ := own_slice hrr
        obtain ⟨Aq, cq, rfl⟩ := own_slice hrq
        clear hrt hrr hrq hbk hmis hw hrow
        go_wp2_with fail
        rw [hP.out]
        refine bodyPost_ret (results_ctt (P := Tryd.prog) rfl _ _ ra 27 #[.string nm.text, .slice At st.typs.length ct, .slice Ar st.ruls.length cr, .slice Aq st.quos.length cq] _ rfl ((((RA4.out.set_ 0 _).set_ 1 _).set_ 2 _).set_ 3 _) Tryd.underlying27 rfl (by kernel_rfl)) rfl ⟨_, rfl, ⟨_, _, _, rfl, ?_, ?_, ?_⟩, (((L4.out.setCell (p := ⟨ra, 0, none⟩) hra.out _).setCell (p := ⟨ra, 1, none⟩) hra.out _).setCell (p := ⟨ra, 2, none⟩) hra.out _).setCell (p := ⟨ra, 3, none⟩) hra.out _⟩
        · exact own_cast (own_more (ownsRow_setCell_ne (ownsRow_setCell_ne (ownsRow_setCell_ne (ownsRow_setCell_ne RT.out hrag.out 0 _) hrag.out 1 _) hrag.out 2 _) hrag.out 3 _) hgs.out) (by simp) (typsC_typC _).symm
        · exact own_cast (own_more (ownsRow_setCell_ne (ownsRow_setCell_ne (ownsRow_setCell_ne (ownsRow_setCell_ne RR.out hrag.out 0 _) hrag.out 1 _) hrag.out 2 _) hrag.out 3 _) hgs.out) (by simp) (rulsH_rulC _ _ hmisH.out).symm
        · exact own_cast (own_more (ownsRow_setCell_ne (ownsRow_setCell_ne (ownsRow_setCell_ne (ownsRow_setCell_ne RQ.out hrag.out 0 _) hrag.out 1 _) hrag.out 2 _) hrag.out 3 _) hgs.out) (by simp) (quosC_quoC _).symm
      | cons t0 r =>
        rw [hw] at hrow hwp
        have hP : Hid (parse s = ⟨noPol, (minTok t0 r).pos, 4⟩) := by
          unfold Hid parse
          rw [htkH.out]
          dsimp only
          rw [hpolH.out]
          dsimp only
          rw [hw, least_min]
        have hrl : r.length + 1 ≤ 100000 := by
          have h1 := wrongs_len st
          rw [hw] at h1
          have h2 := hAmH.out.nt
          have h3 := hAmH.out.nr
          simp only [List.length_cons] at h1
          omega
        obtain ⟨gv, hgv, _⟩ := own_none hrow (by simp)
        subst hgv
        have hgvl := (hrow.lt gv rfl).2
        have hcl := hrow.cells (g := gv) rfl
        have hMT := Lib.hid (minTok_any w4 gv 0 cv t0 r (by omega) (fun t ht => Nat.le_trans (hwp.out t ht) (by decide)) hgvl (fun i T hT => by
          obtain ⟨a0, a1, a2, a3⟩ := toksCells_get (t0 :: r) i T hT
          have b0 := hcl _ _ a0
          have b1 := hcl _ _ a1
          have b2 := hcl _ _ a2
          have b3 := hcl _ _ a3
          rw [Addr.add_lit] at b0 b1 b2 b3
          simp only [Nat.zero_add] at b0 b1 b2 b3 ⊢
          exact ⟨b0, b1, b2, b3⟩))
        obtain ⟨mt, hmt⟩ : ∃ m, minTok t0 r = m := ⟨_, rfl⟩
        rw [hmt] at hMT hP
        obtain ⟨K, hK⟩ : ∃ K, (t0 :: r).length = K := ⟨_, rfl⟩
        have hK1 : r.length + 1 = K := hK
        rw [hK1] at hMT
        rw [hK]
        have d3 : decide ((0 : Int) < (K : Int)) = true := decide_eq_true (by omega)
        have d4 : decide (0 < K) = true := decide_eq_true (by omega)
        have hK0 : 0 < K := by omega
        clear hrow hcl hw hrt hrr hrq hbk hmt hK1 hK hrl
        go_wp2_with fail
        refine hMT.out.mono ?_
        rintro e w5 ⟨rfl, hB5⟩
        unfold tokAgg
        have RA5 := Lib.hid (RA4.out.below hB5 RA4.out.lt)
        have L5 := Lib.hid (L4.out.trans (hB5.mono L4.out.size))
        clear r0 r1 r2 r3 f0 f1 f2 f3 RA4 L4 hB5 hMT
        go_upto_region 13 with fail
        refine world_is (P := fun W => Code.wp _ _ _ _ W) (fun W6 hW6 => ?_)
        have hB6 : Below w5.heap.size w5 W6 := by rw [← hW6]; exact (Below.refl _ _).alloc (Nat.le_refl _) _
        have MB6 : Hid (Blk W6 w5.heap.size 47 #[.int .i64 mt.kind, .string mt.text, .int .i64 mt.n, .int .i64 mt.pos]) := by unfold Hid; rw [← hW6]; exact Blk.new _ _ _
        have RA6 := Lib.hid (RA5.out.below hB6 RA5.out.lt)
        have L6 := Lib.hid (L5.out.trans (hB6.mono L5.out.size))
        obtain ⟨mb, emb⟩ : ∃ x, w5.heap.size = x := ⟨_, rfl⟩
        have hmr : mb ≠ ra := by rw [← emb]; exact Ne.symm (Nat.ne_of_lt RA5.out.lt)
        have hrm : ra ≠ mb := Ne.symm hmr
        rw [emb] at MB6 ⊢
        clear hW6 hB6 RA5 L5 emb
        have m3 : W6.cell? ⟨mb, 3, none⟩ = some (.int .i64 mt.pos) := MB6.out.cell 3
        have r0 : W6.cell? ⟨ra, 0, none⟩ = some (.string ⟨#[]⟩) := RA6.out.cell 0
        have r1 : W6.cell? ⟨ra, 1, none⟩ = some (.slice none 0 0) := RA6.out.cell 1
        have r2 : W6.cell? ⟨ra, 2, none⟩ = some (.slice none 0 0) := RA6.out.cell 2
        have r3 : W6.cell? ⟨ra, 3, none⟩ = some (.slice none 0 0) := RA6.out.cell 3
        have f0 := RA6.out.frozen 0
        have f1 := RA6.out.frozen 1
        have f2 := RA6.out.frozen 2
        have f3 := RA6.out.frozen 3
        go_region_held3 (fun w' => w'.cell? ⟨mb, 3, none⟩ = some (.int .i64 mt.pos)) (go_keep) (fail)
        refine world_is (P := fun W => Exit.then _ _ Exit.normal _ W) (fun W7 hW7 => ?_)
        have RA7 : Hid (Blk W7 ra 27 #[.string ⟨#[]⟩, .slice none 0 0, .slice none 0 0, .slice none 0 0]) := by unfold Hid; rw [← hW7]; exact ((((RA6.out.set_ 0 _).set_ 1 _).set_ 2 _).set_ 3 _).drew
        have L7 : Hid (Below w.heap.size w W7) := by unfold Hid; rw [← hW7]; exact ((((L6.out.setCell (p := ⟨ra, 0, none⟩) hra.out _).setCell (p := ⟨ra, 1, none⟩) hra.out _).setCell (p := ⟨ra, 2, none⟩) hra.out _).setCell (p := ⟨ra, 3, none⟩) hra.out _).drew
        clear hW7
        go_wp2_with fail
        rw [hP.out]
        exact bodyPost_ret (results_ctt (P := Tryd.prog) rfl _ _ ra 27 #[.string ⟨#[]⟩, .slice none 0 0, .slice none 0 0, .slice none 0 0] _ rfl RA7.out Tryd.underlying27 rfl (by kernel_rfl)) rfl ⟨_, rfl, polIs_no _ _, L7.out⟩
end Go.Proofs.YtemhiiignamkjaaDoor
