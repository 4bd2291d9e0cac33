/-
  What the rows of layer 12 hand the walks: the listed tables, policies as arguments; a world in which the listed variables are laid.
-/
import Derived.Test.YtemhiiignamkjaaDoorParL1
import Derived.Test.YtemhiiignamkjaaDoorTie
import Derived.ProofKit
import Derived.LaidMore
import Derived.Lay
import Derived.OpenShut
import Derived.SliceStrings
import Derived.ChangeSlices
import Derived.Deep.Slices
import Derived.Stop.Joined
import Derived.SevenTiedAt
namespace Go.Proofs.YtemhiiignamkjaaDoor
open Go.ChangeShapes Go.WideShapes Go.ChangeAt Go.RowKit Go.Deep LexP ParP

theorem Tryd.own : ownKnob Tryd.prog.godebug = none := by kernel_rfl
theorem Tryd.laidOut : laidOutB Tryd.prog = true := by kernel_rfl
/-- The list that the rows of this seat bear. -/
def laidP : List (String × DataW Unit) := [("math/bits.deBruijn32tab", Rows.laid_math_bits_deBruijn32tab), ("math/bits.deBruijn64tab", Rows.laid_math_bits_deBruijn64tab), ("internal/strconv.uint64pow10", Rows.laid_internal_strconv_uint64pow10), ("custody/lex.units", Rows.laid_custody_lex_units), ("custody/parse.flags", Rows.laid_custody_parse_flags), ("custody/parse.rules", Rows.laid_custody_parse_rules), ("custody/parse.commands", Rows.laid_custody_parse_commands)]
set_option maxRecDepth 100000 in
theorem laidP_met (os : Os) (args : Array Value) : laidMetH Tryd.prog laidP ((World.laidAll Tryd.prog os laidP).forCall (fun _ _ => 0) ⟨#[], args, []⟩).memory := by
  rw [MakeChecks.laidMetH_plain _ _ _ (by kernel_rfl)]
  exact laidMet_laidAll _ (by kernel_rfl) (by kernel_rfl)
/-- One listed variable. -/
def OneLaid (P : Program) (w : World) (n : String) (d : DataW Unit) : Prop :=
  ∃ g t cs fuel p, P.globalNamed n = some g ∧ (P.globals[g]?).map (·.type) = some t ∧ w.var? P n = some cs ∧ DataW.trod (fun _ => ()) P w 0 (fun _ => true) false fuel t cs.toList = some (d, p)
theorem laid_each {P : Program} {w : World} : ∀ {l : List (String × DataW Unit)} {ps : List MemPlace}, DataW.LaidVars P w l ps → ∀ x ∈ l, OneLaid P w x.1 x.2
  | [], _, _, x, hx => by cases hx
  | (n, d) :: r, ps, h, x, hx => by
    obtain ⟨g, t, cs, fuel, p, q, h1, h2, h3, h4, h5, _⟩ := h
    rcases List.mem_cons.1 hx with rfl | hx
    · exact ⟨g, t, cs, fuel, p, h1, h2, h3, h4⟩
    · exact laid_each h5 x hx
theorem laidP_each {W : World} (h : laidMetH Tryd.prog laidP W) : ∀ x ∈ laidP, OneLaid Tryd.prog W x.1 x.2 := by
  rw [MakeChecks.laidMetH_plain _ _ _ (by kernel_rfl)] at h
  obtain ⟨ps, h1, _⟩ := h
  exact laid_each h1
theorem cellsStr12 : Tryd.prog.cellsOf 9 = 1 := by kernel_rfl
theorem cellsInt12 : Tryd.prog.cellsOf 3 = 1 := by kernel_rfl
theorem cellsU812 : Tryd.prog.cellsOf 5 = 1 := by kernel_rfl
theorem cellsStrs12 : Tryd.prog.cellsOf 75 = 1 := by kernel_rfl
theorem cellsUnit12 : Tryd.prog.cellsOf 121 = 2 := by kernel_rfl
theorem cellsUnits12 : Tryd.prog.cellsOf 122 = 8 := by kernel_rfl
theorem cellsU6412 : Tryd.prog.cellsOf 125 = 1 := by kernel_rfl
theorem spot12 {w : World} {a : Addr} {v : Value} (h : w.cell? a = some v) : a = ⟨a.block, a.off, none⟩ ∧ a.block < w.heap.size := by
  obtain ⟨b, o, s⟩ := a
  unfold World.cell? at h
  split at h
  · rename_i hb
    refine ⟨?_, (Array.getElem?_eq_some_iff.1 hb).1⟩
    cases s with
    | none => rfl
    | some x => simp at h
  · cases h
theorem strs_inj {H : Type} : ∀ {l m : List ByteArray}, (strs l : List (DataW H)) = strs m → l = m
  | [], [], _ => rfl
  | [], _ :: _, h => by simp [strs] at h
  | _ :: _, [], h => by simp [strs] at h
  | a :: l, b :: m, h => by
    simp only [strs, List.map_cons, List.cons.injEq, DataW.lit.injEq, Lit.string.injEq] at h
    rw [show a = b from ByteArray.ext (Array.ext' h.1), strs_inj (H := H) (l := l) (m := m) h.2]
set_option maxRecDepth 100000 in
theorem tabS_laid {W : World} {n : String} {G : Nat} {zs : List ByteArray} (hg : Tryd.prog.globalNamed n = some G) (ht : (Tryd.prog.globals[G]?).map (·.type) = some 75) (hne : 0 < zs.length) (h : OneLaid Tryd.prog W n (.slice (strs zs) [])) : TabS W G zs := by
  obtain ⟨g, t, cs, fuel, p, h1, h2, h3, h4⟩ := h
  obtain rfl := Option.some.inj (hg.symm.trans h1)
  obtain rfl := Option.some.inj (ht.symm.trans h2)
  rcases open_strings Tryd.underlying75 Tryd.underlying9 cellsStr12 h4 with ⟨_, e⟩ | ⟨a, len, cap, ss, hcs, _, hl, hm, hss, e, hat, _⟩
  · cases e
  · simp only [Prod.mk.injEq, DataW.slice.injEq] at e
    obtain ⟨⟨e1, e2⟩, _⟩ := e
    have e1 := strs_inj e1
    simp only [if_true] at hss
    have hlen : len = zs.length := by rw [e1, List.length_take]; omega
    have h0 := hat 0 (by omega)
    have ha0 : a.add 0 = a := by simp [Addr.add]
    rw [ha0] at h0
    obtain ⟨ha, hbl⟩ := spot12 h0
    have hc := World.var?_cell hg h3 0
    have hc0 : cs[0]? = some (.slice (some a) len cap) := by
      rw [← Array.getElem?_toList, hcs]
      rfl
    rw [hc0, ha, hlen] at hc
    refine ⟨a.block, a.off, cap, hc, hbl, fun j z hz => ?_⟩
    have hj := (List.getElem?_eq_some_iff.1 hz).1
    have := hat j (by omega)
    rw [ha, Addr.add_lit] at this
    rw [this]
    rw [e1, List.getElem?_take, if_pos (by omega)] at hz
    rw [List.getD_eq_getElem?_getD, hz]
    rfl
section
variable {H : Type} {enc : TypeId × Value → H} {w : World} {base : Nat} {spare : Nat → Bool} {held : Bool}
set_option maxRecDepth 100000 in
theorem unit_cells12 {m : Nat} {cs : List Value} {x : DataW H × List MemPlace} {a b : Int} (h : DataW.trod enc Tryd.prog w base spare held m 121 cs = some x) (hx : x.1 = .agg [.lit (.int .u8 a), .lit (.int .i64 b)]) :
    cs = [.int .u8 a, .int .i64 b] := by
  obtain ⟨y0, y1, n, rfl, hl, h0, h1⟩ := trod_struct2 Tryd.underlying121 h
  rw [cellsUnit12] at hl
  obtain ⟨c0, c1, rfl⟩ : ∃ c0 c1, cs = [c0, c1] := by
    match cs, hl with
    | [c0, c1], _ => exact ⟨c0, c1, rfl⟩
  simp only [DataW.agg.injEq, List.cons.injEq, and_true] at hx
  dsimp only at h0 h1
  rw [cellsU812] at h0
  rw [cellsInt12] at h1
  obtain ⟨p, hp, rfl, _⟩ := DataW.trod_int Tryd.underlying5 h0
  obtain ⟨q, hq, rfl, _⟩ := DataW.trod_int Tryd.underlying3 h1
  simp at hp hq hx
  rw [hp, hq, hx.1, hx.2]
end
theorem gUnits12 : Tryd.prog.globalNamed "custody/lex.units" = some 3 := by kernel_rfl
theorem tUnits12 : (Tryd.prog.globals[3]?).map (·.type) = some 122 := by kernel_rfl
set_option maxRecDepth 100000 in
theorem units_laid {W : World} (h : OneLaid Tryd.prog W "custody/lex.units" Rows.laid_custody_lex_units) : UnitsAt W := by
  obtain ⟨g0, t0, cs0, f0, p0, hg0, ht0, hv0, hd0⟩ := h
  obtain rfl := Option.some.inj (gUnits12.symm.trans hg0)
  obtain rfl := Option.some.inj (tUnits12.symm.trans ht0)
  obtain ⟨xs, m1, rfl, hx1, hlen, hn3, hel⟩ := DataW.trod_array Tryd.underlying122 hd0
  rw [cellsUnits12] at hlen
  rw [cellsUnit12] at hel
  have e0 := hel 0 (by decide)
  have e1 := hel 1 (by decide)
  have e2 := hel 2 (by decide)
  have e3 := hel 3 (by decide)
  simp only [Prod.mk.injEq] at hx1
  obtain ⟨hx1, _⟩ := hx1
  unfold Rows.laid_custody_lex_units at hx1
  match xs, hn3, hx1, e0, e1, e2, e3 with
  | [x0, x1, x2, x3], _, hx1, e0, e1, e2, e3 =>
    simp only [List.map_cons, List.map_nil, DataW.agg.injEq, List.cons.injEq, and_true] at hx1
    obtain ⟨a0, a1, a2, a3⟩ := hx1
    have r0 := unit_cells12 e0 a0.symm
    have r1 := unit_cells12 e1 a1.symm
    have r2 := unit_cells12 e2 a2.symm
    have r3 := unit_cells12 e3 a3.symm
    have hcs : cs0.toList = [.int .u8 115, .int .i64 1, .int .u8 109, .int .i64 60, .int .u8 104, .int .i64 3600, .int .u8 100, .int .i64 86400] := by
      match hq : cs0.toList, hlen with
      | [b0, b1, b2, b3, b4, b5, b6, b7], _ =>
        rw [hq] at r0 r1 r2 r3
        simp at r0 r1 r2 r3
        rw [r0.1, r0.2, r1.1, r1.2, r2.1, r2.2, r3.1, r3.2]
    have hv := hv0
    unfold World.var? at hv
    rw [gUnits12] at hv
    simp only [Option.bind_some] at hv
    split at hv
    · rename_i c e fz hh
      have hc : c = cs0 := Option.some.inj hv
      refine ⟨e, fz, hh.trans ?_⟩
      rw [hc]
      have h8 : cs0 = #[.int .u8 115, .int .i64 1, .int .u8 109, .int .i64 60, .int .u8 104, .int .i64 3600, .int .u8 100, .int .i64 86400] := Array.ext' hcs
      rw [h8]
    · cases hv
theorem gPow12 : Tryd.prog.globalNamed "internal/strconv.uint64pow10" = some 4 := by kernel_rfl
set_option maxRecDepth 100000 in
theorem pow_laid {W : World} (h : OneLaid Tryd.prog W "internal/strconv.uint64pow10" Rows.laid_internal_strconv_uint64pow10) : PowAt W := by
  obtain ⟨g, t, cs, fuel, p, h1, h2, h3, h4⟩ := h
  obtain rfl := Option.some.inj (gPow12.symm.trans h1)
  refine Lib.tabBelow_of_tabIs ?_
  unfold Lib.TabIs
  obtain ⟨n, hn⟩ : ∃ n, Lib.pow10Tab.length = n := ⟨_, rfl⟩
  have e : (Rows.laid_internal_strconv_uint64pow10 : DataW Unit) = Lib.tabData .u64 Lib.pow10Tab := by kernel_rfl
  rw [e] at h4
  obtain rfl : 132 = t := Option.some.inj ((show (Tryd.prog.globals[4]?).map (·.type) = some 132 by kernel_rfl).symm.trans h2)
  rw [h3, ← Lib.cells_of_tab Tryd.underlying132 Tryd.underlying125 cellsU6412 (by kernel_rfl) h4]
theorem gFlags12 : Tryd.prog.globalNamed "custody/parse.flags" = some 0 := by kernel_rfl
theorem gRules12 : Tryd.prog.globalNamed "custody/parse.rules" = some 1 := by kernel_rfl
theorem gCommands12 : Tryd.prog.globalNamed "custody/parse.commands" = some 2 := by kernel_rfl
set_option maxRecDepth 100000 in
theorem tabs_laid {W : World} (h : laidMetH Tryd.prog laidP W) : Tabs W ∧ PowAt W := by
  have e := laidP_each h
  have ef : (Rows.laid_custody_parse_flags : DataW Unit) = .slice (strs flagWords) [] := by kernel_rfl
  have er : (Rows.laid_custody_parse_rules : DataW Unit) = .slice (strs ruleWords) [] := by kernel_rfl
  have ec : (Rows.laid_custody_parse_commands : DataW Unit) = .slice (strs commandWords) [] := by kernel_rfl
  have h2 := e ("internal/strconv.uint64pow10", Rows.laid_internal_strconv_uint64pow10) (by simp [laidP])
  have h3 := e ("custody/lex.units", Rows.laid_custody_lex_units) (by simp [laidP])
  have h4 := e ("custody/parse.flags", Rows.laid_custody_parse_flags) (by simp [laidP])
  have h5 := e ("custody/parse.rules", Rows.laid_custody_parse_rules) (by simp [laidP])
  have h6 := e ("custody/parse.commands", Rows.laid_custody_parse_commands) (by simp [laidP])
  dsimp only at h2 h3 h4 h5 h6
  rw [ef] at h4
  rw [er] at h5
  rw [ec] at h6
  exact ⟨⟨units_laid h3, tabS_laid gFlags12 (by kernel_rfl) (by decide) h4, tabS_laid gRules12 (by kernel_rfl) (by decide) h5, tabS_laid gCommands12 (by kernel_rfl) (by decide) h6⟩, pow_laid h2⟩
/-! Policies as arguments. -/
theorem flat_find {α : Type} {f : α → List Value} {k : Nat} (hk : 0 < k) (hf : ∀ a, (f a).length = k) : ∀ {l : List α} {j : Nat} {u : Value}, (l.flatMap f)[j]? = some u → ∃ s, l[j / k]? = some s ∧ (f s)[j % k]? = some u
  | [], j, u, h => by simp at h
  | a :: l, j, u, h => by
    rw [List.flatMap_cons] at h
    by_cases hj : j < k
    · rw [List.getElem?_append_left (by rw [hf]; exact hj)] at h
      rw [Nat.div_eq_of_lt hj, Nat.mod_eq_of_lt hj]
      exact ⟨a, rfl, h⟩
    · rw [List.getElem?_append_right (by rw [hf]; omega), hf] at h
      obtain ⟨s, h1, h2⟩ := flat_find hk hf h
      have e1 : j / k = (j - k) / k + 1 := by
        rw [Nat.div_eq_sub_div hk (by omega)]
      have e2 : j % k = (j - k) % k := Nat.mod_eq_sub_mod (by omega)
      rw [e1, e2]
      exact ⟨s, by rw [List.getElem?_cons_succ]; exact h1, h2⟩
set_option maxRecDepth 100000 in
theorem open_row {H : Type} {enc : TypeId × Value → H} {W : World} {held : Bool} {α : Type} [Inhabited α] {T e : TypeId} {k : Nat} {f : α → List Value} {ok : α → Prop} (hT : Tryd.prog.underlying T = some (.slice e)) (hk0 : 0 < k) (hk : Tryd.prog.cellsOf e = k) (hf : ∀ a, (f a).length = k)
    (hc : ∀ {m : Nat} {cs : List Value} {x : DataW H × List MemPlace}, DataW.trod enc Tryd.prog W 0 (fun _ => true) held m e cs = some x → ∃ a, cs = f a ∧ ok a) {fuel : Nat} {a0 : Option Addr} {len cap : Nat} {x : DataW H × List MemPlace}
    (h : DataW.trod enc Tryd.prog W 0 (fun _ => true) held fuel T [.slice a0 len cap] = some x) : ∃ l : List α, l.length = len ∧ (∀ a ∈ l, ok a) ∧ RowAt W W.heap.size (.slice a0 len cap) len (l.flatMap f) := by
  rcases open_slice hT h with ⟨hcs, _⟩ | ⟨a, len', cap', m, n, D, Pl, hcs, _, hl, hm, hmm, _, hx⟩
  · simp at hcs
    obtain ⟨rfl, rfl, rfl⟩ := hcs
    exact ⟨[], rfl, (fun a ha => by cases ha), none, 0, rfl, fun h => by cases h⟩
  · simp at hcs
    obtain ⟨rfl, rfl, rfl⟩ := hcs
    simp only [if_true] at hmm
    rw [hk] at hx
    obtain ⟨T, hT⟩ := choose_lt (α := α) (n := len) (p := fun i T => W.cells? 0 (a.add (i * k)) k = some (f T) ∧ ok T) (fun i hi => by
      obtain ⟨cs', h1, h2⟩ := hx i (by omega)
      obtain ⟨T, rfl, ho⟩ := hc h2
      exact ⟨T, h1, ho⟩)
    have hlen : ((List.range len).map T).length = len := by rw [List.length_map, List.length_range]
    have hat : ∀ i, i < len → ∀ j, j < k → W.cell? ((a.add (i * k)).add j) = (f (T i))[j]? := fun i hi j hj => (World.cells?_some (hT i hi).1).2.2 j hj
    refine ⟨(List.range len).map T, hlen, fun b hb => ?_, some a, cap, rfl, fun hl0 => ?_⟩
    · obtain ⟨i, hi, rfl⟩ := List.mem_map.1 hb
      exact (hT i (List.mem_range.1 hi)).2
    · have h00 := hat 0 hl0 0 hk0
      rw [Nat.zero_mul] at h00
      have ha0 : (a.add 0).add 0 = a := by simp [Addr.add]
      rw [ha0] at h00
      obtain ⟨v0, hv0⟩ : ∃ v, (f (T 0))[0]? = some v := ⟨_, List.getElem?_eq_getElem (by rw [hf]; exact hk0)⟩
      rw [hv0] at h00
      obtain ⟨ha, hbl⟩ := spot12 h00
      refine ⟨a.block, a.off, by rw [← ha], hbl, fun j u hj => ?_⟩
      obtain ⟨s, hs, hu⟩ := flat_find hk0 hf hj
      rw [List.getElem?_map] at hs
      obtain ⟨i', hi', e⟩ := Option.map_eq_some_iff.1 hs
      have hil : j / k < len := by have := (List.getElem?_eq_some_iff.1 hi').1; simpa using this
      rw [List.getElem?_range hil] at hi'
      cases hi'
      have := hat (j / k) hil (j % k) (Nat.mod_lt _ hk0)
      rw [ha, Addr.add_lit, Addr.add_lit, e, hu, Nat.add_assoc, show j / k * k + j % k = j by rw [Nat.mul_comm]; exact Nat.div_add_mod j k] at this
      exact this
theorem inI_of {z : Int} (h : (Lit.int .i64 z).wf = true) : InI z := by
  simp only [Lit.wf, Bool.and_eq_true, IntKind.min, IntKind.max] at h
  simp [IntKind.signed, IntKind.bits] at h
  unfold InI
  omega
theorem cellsType12 : Tryd.prog.cellsOf 51 = 3 := by kernel_rfl
theorem cellsRule12 : Tryd.prog.cellsOf 53 = 3 := by kernel_rfl
theorem cellsQuo12 : Tryd.prog.cellsOf 55 = 5 := by kernel_rfl
theorem cellsPol12 : Tryd.prog.cellsOf 27 = 4 := by kernel_rfl
theorem cellsTypes12 : Tryd.prog.cellsOf 23 = 1 := by kernel_rfl
theorem cellsRules12 : Tryd.prog.cellsOf 24 = 1 := by kernel_rfl
theorem cellsQuos12 : Tryd.prog.cellsOf 25 = 1 := by kernel_rfl
def typK (t : Typ) : List Value := [.string t.name, .int .i64 t.flags, .int .i64 t.life]
def rulK (r : Rul) : List Value := [.int .i64 r.kind, .int .i64 r.a, .int .i64 r.b]
def quoK (q : Quo) : List Value := [.int .i64 q.cmd, .int .i64 q.count, .int .i64 q.delay, .int .i64 q.valid, .int .i64 q.uses]
instance : Inhabited Typ := ⟨⟨⟨#[]⟩, 0, 0⟩⟩
instance : Inhabited Rul := ⟨⟨0, 0, 0⟩⟩
instance : Inhabited Quo := ⟨⟨0, 0, 0, 0, 0⟩⟩
section
variable {H : Type} {enc : TypeId × Value → H} {w : World} {base : Nat} {spare : Nat → Bool} {held : Bool}
set_option maxRecDepth 100000 in
theorem typ_cells {m : Nat} {cs : List Value} {x : DataW H × List MemPlace} (h : DataW.trod enc Tryd.prog w base spare held m 51 cs = some x) : ∃ t : Typ, cs = typK t ∧ t.name.size ≤ maxLen ∧ InI t.flags ∧ InI t.life := by
  obtain ⟨xs, n, _, _, hl, hlen, hf⟩ := DataW.trod_struct Tryd.underlying51 h
  rw [cellsType12] at hl
  have f0 : DataW.trod enc Tryd.prog w base spare held n 9 ((cs.drop 0).take (Tryd.prog.cellsOf 9)) = xs[0]? := hf 0 _ rfl
  have f1 : DataW.trod enc Tryd.prog w base spare held n 3 ((cs.drop 1).take (Tryd.prog.cellsOf 3)) = xs[1]? := hf 1 _ rfl
  have f2 : DataW.trod enc Tryd.prog w base spare held n 3 ((cs.drop 2).take (Tryd.prog.cellsOf 3)) = xs[2]? := hf 2 _ rfl
  rw [cellsStr12] at f0
  rw [cellsInt12] at f1 f2
  have hx : ∀ i, i < 3 → ∃ y, xs[i]? = some y := fun i hi => ⟨_, List.getElem?_eq_getElem (by rw [hlen]; exact hi)⟩
  obtain ⟨y0, e0⟩ := hx 0 (by decide)
  obtain ⟨y1, e1⟩ := hx 1 (by decide)
  obtain ⟨y2, e2⟩ := hx 2 (by decide)
  obtain ⟨a, ha, _, wa⟩ := DataW.trod_string Tryd.underlying9 (f0.trans e0)
  obtain ⟨b, hb, _, wb⟩ := DataW.trod_int Tryd.underlying3 (f1.trans e1)
  obtain ⟨c, hc, _, wc⟩ := DataW.trod_int Tryd.underlying3 (f2.trans e2)
  refine ⟨⟨a, b, c⟩, ?_, wa, inI_of wb, inI_of wc⟩
  match cs, hl with
  | [c0, c1, c2], _ =>
    simp at ha hb hc
    rw [ha, hb, hc]
    rfl
set_option maxRecDepth 100000 in
theorem rul_cells {m : Nat} {cs : List Value} {x : DataW H × List MemPlace} (h : DataW.trod enc Tryd.prog w base spare held m 53 cs = some x) : ∃ t : Rul, cs = rulK t ∧ InI t.kind ∧ InI t.a ∧ InI t.b := by
  obtain ⟨xs, n, _, _, hl, hlen, hf⟩ := DataW.trod_struct Tryd.underlying53 h
  rw [cellsRule12] at hl
  have f0 : DataW.trod enc Tryd.prog w base spare held n 3 ((cs.drop 0).take (Tryd.prog.cellsOf 3)) = xs[0]? := hf 0 _ rfl
  have f1 : DataW.trod enc Tryd.prog w base spare held n 3 ((cs.drop 1).take (Tryd.prog.cellsOf 3)) = xs[1]? := hf 1 _ rfl
  have f2 : DataW.trod enc Tryd.prog w base spare held n 3 ((cs.drop 2).take (Tryd.prog.cellsOf 3)) = xs[2]? := hf 2 _ rfl
  rw [cellsInt12] at f0 f1 f2
  have hx : ∀ i, i < 3 → ∃ y, xs[i]? = some y := fun i hi => ⟨_, List.getElem?_eq_getElem (by rw [hlen]; exact hi)⟩
  obtain ⟨y0, e0⟩ := hx 0 (by decide)
  obtain ⟨y1, e1⟩ := hx 1 (by decide)
  obtain ⟨y2, e2⟩ := hx 2 (by decide)
  obtain ⟨a, ha, _, wa⟩ := DataW.trod_int Tryd.underlying3 (f0.trans e0)
  obtain ⟨b, hb, _, wb⟩ := DataW.trod_int Tryd.underlying3 (f1.trans e1)
  obtain ⟨c, hc, _, wc⟩ := DataW.trod_int Tryd.underlying3 (f2.trans e2)
  refine ⟨⟨a, b, c⟩, ?_, inI_of wa, inI_of wb, inI_of wc⟩
  match cs, hl with
  | [c0, c1, c2], _ =>
    simp at ha hb hc
    rw [ha, hb, hc]
    rfl
set_option maxRecDepth 100000 in
theorem quo_cells {m : Nat} {cs : List Value} {x : DataW H × List MemPlace} (h : DataW.trod enc Tryd.prog w base spare held m 55 cs = some x) : ∃ t : Quo, cs = quoK t ∧ InI t.cmd ∧ InI t.count ∧ InI t.delay ∧ InI t.valid ∧ InI t.uses := by
  obtain ⟨xs, n, _, _, hl, hlen, hf⟩ := DataW.trod_struct Tryd.underlying55 h
  rw [cellsQuo12] at hl
  have f0 : DataW.trod enc Tryd.prog w base spare held n 3 ((cs.drop 0).take (Tryd.prog.cellsOf 3)) = xs[0]? := hf 0 _ rfl
  have f1 : DataW.trod enc Tryd.prog w base spare held n 3 ((cs.drop 1).take (Tryd.prog.cellsOf 3)) = xs[1]? := hf 1 _ rfl
  have f2 : DataW.trod enc Tryd.prog w base spare held n 3 ((cs.drop 2).take (Tryd.prog.cellsOf 3)) = xs[2]? := hf 2 _ rfl
  have f3 : DataW.trod enc Tryd.prog w base spare held n 3 ((cs.drop 3).take (Tryd.prog.cellsOf 3)) = xs[3]? := hf 3 _ rfl
  have f4 : DataW.trod enc Tryd.prog w base spare held n 3 ((cs.drop 4).take (Tryd.prog.cellsOf 3)) = xs[4]? := hf 4 _ rfl
  rw [cellsInt12] at f0 f1 f2 f3 f4
  have hx : ∀ i, i < 5 → ∃ y, xs[i]? = some y := fun i hi => ⟨_, List.getElem?_eq_getElem (by rw [hlen]; exact hi)⟩
  obtain ⟨y0, e0⟩ := hx 0 (by decide)
  obtain ⟨y1, e1⟩ := hx 1 (by decide)
  obtain ⟨y2, e2⟩ := hx 2 (by decide)
  obtain ⟨y3, e3⟩ := hx 3 (by decide)
  obtain ⟨y4, e4⟩ := hx 4 (by decide)
  obtain ⟨a, ha, _, wa⟩ := DataW.trod_int Tryd.underlying3 (f0.trans e0)
  obtain ⟨b, hb, _, wb⟩ := DataW.trod_int Tryd.underlying3 (f1.trans e1)
  obtain ⟨c, hc, _, wc⟩ := DataW.trod_int Tryd.underlying3 (f2.trans e2)
  obtain ⟨d, hd, _, wd⟩ := DataW.trod_int Tryd.underlying3 (f3.trans e3)
  obtain ⟨e, he, _, we⟩ := DataW.trod_int Tryd.underlying3 (f4.trans e4)
  refine ⟨⟨a, b, c, d, e⟩, ?_, inI_of wa, inI_of wb, inI_of wc, inI_of wd, inI_of we⟩
  match cs, hl with
  | [c0, c1, c2, c3, c4], _ =>
    simp at ha hb hc hd he
    rw [ha, hb, hc, hd, he]
    rfl
end
section
variable {H : Type} {enc : TypeId × Value → H} {W : World} {v : Value} {d : DataW H} {ps : List MemPlace} {base : Nat}
theorem trod_sliceval {T e : TypeId} {fuel : Nat} {cs : List Value} {x : DataW H × List MemPlace} {held : Bool} (hT : Tryd.prog.underlying T = some (.slice e)) (h : DataW.trod enc Tryd.prog W 0 (fun _ => true) held fuel T cs = some x) : ∃ a n c, cs = [.slice a n c] := by
  rcases open_slice hT h with ⟨hcs, _⟩ | ⟨a, len', cap', m, n, D, Pl, hcs, _⟩
  · exact ⟨_, _, _, hcs⟩
  · exact ⟨_, _, _, hcs⟩
set_option maxRecDepth 100000 in
/-- A policy that comes in as an argument. -/
theorem open_policy (hv : Value.okWide Tryd.prog W .any base 27 v) (h : DataW.Trod enc Tryd.prog W 0 (fun _ => true) true 27 v d ps) : ∃ p : Pol, PolAt W W.heap.size v p ∧ PolIn p := by
  obtain ⟨cs, rfl, hs⟩ := okWide_struct Tryd.underlying27 hv
  obtain ⟨fuel, hf⟩ := h
  have hcs : (Value.agg cs).cells.toList = cs.toList := by simp [Value.cells]
  rw [hcs] at hf
  obtain ⟨xs, n, _, _, hl, hlen, hf⟩ := DataW.trod_struct Tryd.underlying27 hf
  rw [cellsPol12] at hl
  have f0 : DataW.trod enc Tryd.prog W 0 (fun _ => true) true n 9 ((cs.toList.drop 0).take (Tryd.prog.cellsOf 9)) = xs[0]? := hf 0 _ rfl
  have f1 : DataW.trod enc Tryd.prog W 0 (fun _ => true) true n 23 ((cs.toList.drop 1).take (Tryd.prog.cellsOf 23)) = xs[1]? := hf 1 _ rfl
  have f2 : DataW.trod enc Tryd.prog W 0 (fun _ => true) true n 24 ((cs.toList.drop 2).take (Tryd.prog.cellsOf 24)) = xs[2]? := hf 2 _ rfl
  have f3 : DataW.trod enc Tryd.prog W 0 (fun _ => true) true n 25 ((cs.toList.drop 3).take (Tryd.prog.cellsOf 25)) = xs[3]? := hf 3 _ rfl
  rw [cellsStr12] at f0
  rw [cellsTypes12] at f1
  rw [cellsRules12] at f2
  rw [cellsQuos12] at f3
  have hx : ∀ i, i < 4 → ∃ y, xs[i]? = some y := fun i hi => ⟨_, List.getElem?_eq_getElem (by rw [hlen]; exact hi)⟩
  obtain ⟨y0, e0⟩ := hx 0 (by decide)
  obtain ⟨y1, e1⟩ := hx 1 (by decide)
  obtain ⟨y2, e2⟩ := hx 2 (by decide)
  obtain ⟨y3, e3⟩ := hx 3 (by decide)
  obtain ⟨l⟩ := cs
  have hl : l.length = 4 := hl
  match l, hl with
  | [c0, c1, c2, c3], _ =>
    have f0 := f0.trans e0
    have f1 := f1.trans e1
    have f2 := f2.trans e2
    have f3 := f3.trans e3
    have f0 : DataW.trod enc Tryd.prog W 0 (fun _ => true) true n 9 [c0] = some y0 := f0
    have f1 : DataW.trod enc Tryd.prog W 0 (fun _ => true) true n 23 [c1] = some y1 := f1
    have f2 : DataW.trod enc Tryd.prog W 0 (fun _ => true) true n 24 [c2] = some y2 := f2
    have f3 : DataW.trod enc Tryd.prog W 0 (fun _ => true) true n 25 [c3] = some y3 := f3
    obtain ⟨nm, hnm, _, wn⟩ := DataW.trod_string Tryd.underlying9 f0
    obtain ⟨ta, tn, tc, ht⟩ := trod_sliceval Tryd.underlying23 f1
    obtain ⟨ra, rn, rc, hr⟩ := trod_sliceval Tryd.underlying24 f2
    obtain ⟨qa, qn, qc, hq⟩ := trod_sliceval Tryd.underlying25 f3
    simp only [List.cons.injEq, and_true] at hnm ht hr hq
    subst hnm ht hr hq
    obtain ⟨lt, et, ot, rt⟩ := open_row (f := typK) (ok := fun t => t.name.size ≤ maxLen ∧ InI t.flags ∧ InI t.life) Tryd.underlying23 (by decide) cellsType12 (fun _ => rfl) typ_cells f1
    obtain ⟨lr, er, or_, rr⟩ := open_row (f := rulK) (ok := fun t => InI t.kind ∧ InI t.a ∧ InI t.b) Tryd.underlying24 (by decide) cellsRule12 (fun _ => rfl) rul_cells f2
    obtain ⟨lq, eq, oq, rq⟩ := open_row (f := quoK) (ok := fun t => InI t.cmd ∧ InI t.count ∧ InI t.delay ∧ InI t.valid ∧ InI t.uses) Tryd.underlying25 (by decide) cellsQuo12 (fun _ => rfl) quo_cells f3
    subst et er eq
    exact ⟨⟨nm, lt, lr, lq⟩, ⟨_, _, _, rfl, rt, rr, rq⟩, ⟨wn, ot, or_, oq⟩⟩
end
theorem trodAll_belowP {P : Program} (hl : laidOutB P = true) {H : Type} {enc : TypeId × Value → H} {W W' : World} (hb : Below W.heap.size W W') : ∀ {ts : List TypeId} {vs : List Value} {ds : List (DataW H)} {ps : List MemPlace}, (ts.all fun t => P.readableRec t && decide (t < P.types.size)) = true →
    DataW.TrodAll enc P W 0 (fun _ => true) true ts vs ds ps → (∀ x ∈ ps, x.block < W.heap.size) → DataW.TrodAll enc P W' 0 (fun b => decide (b < W.heap.size)) true ts vs ds ps := by
  intro ts
  induction ts with
  | nil =>
    intro vs ds ps _ h _
    obtain ⟨rfl, rfl, rfl⟩ := trodAll_nil h
    exact rfl
  | cons t ts ih =>
    intro vs ds ps ht h hlt
    obtain ⟨v, vs', d, ds', p, q, rfl, rfl, rfl, h0, h1⟩ := trodAll_cons h
    rw [List.all_cons, Bool.and_eq_true, Bool.and_eq_true] at ht
    exact trodAll_cons_mk (Below.trod hl ht.1.1 (of_decide_eq_true ht.1.2) h0 hb (fun x hx => hlt x (List.mem_append_left _ hx))) (ih ht.2 h1 (fun x hx => hlt x (List.mem_append_right _ hx)))
end Go.Proofs.YtemhiiignamkjaaDoor
