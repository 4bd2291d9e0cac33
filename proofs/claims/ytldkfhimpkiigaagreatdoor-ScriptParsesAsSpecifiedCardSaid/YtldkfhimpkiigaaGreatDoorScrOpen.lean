/-
  What the rows of layer 46 hand the walks: the listed variables, scripts as arguments; a world in which the listed variables are laid.
-/
import Derived.Test.YtldkfhimpkiigaaGreatDoorScrW14
import Derived.Test.YtldkfhimpkiigaaGreatDoorTie
import Derived.ProofKit
import Derived.LaidMore
import Derived.Lay
import Derived.OpenShut
import Derived.SliceStrings
import Derived.ChangeSlices
import Derived.Deep.Slices
import Derived.Stop.Joined
import Derived.SevenTiedAt
import Derived.HandedShaped
import Derived.Shelf.Vars
namespace Go.Proofs.YtldkfhimpkiigaaGreatDoor
open Go.ChangeShapes Go.WideShapes Go.ChangeAt Go.RowKit Go.Deep ScrP

theorem Tryz.own : ownKnob Tryz.prog.godebug = none := by kernel_rfl
theorem Tryz.laidOut : laidOutB Tryz.prog = true := by kernel_rfl
/-- The list that the rows of this seat bear. -/
def laidS : List (String × DataW Unit) := [("math/bits.deBruijn32tab", Rows.laid_math_bits_deBruijn32tab), ("math/bits.deBruijn64tab", Rows.laid_math_bits_deBruijn64tab), ("internal/strconv.uint64pow10", Rows.laid_internal_strconv_uint64pow10), ("unicode/utf8.acceptRanges", Rows.laid_unicode_utf8_acceptRanges), ("strconv.ErrRange", Rows.laid_strconv_ErrRange), ("strconv.ErrSyntax", Rows.laid_strconv_ErrSyntax), ("custody/script.rows", Rows.laid_custody_script_rows), ("unicode/utf8.first", Rows.laid_unicode_utf8_first)]
set_option maxRecDepth 100000 in
theorem laidS_met (os : Os) (args : Array Value) : laidMetH Tryz.prog laidS ((World.laidAll Tryz.prog os laidS).forCall (fun _ _ => 0) ⟨#[], args, []⟩).memory := by
  rw [MakeChecks.laidMetH_plain _ _ _ (by kernel_rfl)]
  exact laidMet_laidAll _ (by kernel_rfl) (by kernel_rfl)
/-- One listed variable. -/
def OneLaid (P : Program) (w : World) (n : String) (d : DataW Unit) : Prop :=
  ∃ g t cs fuel p, P.globalNamed n = some g ∧ (P.globals[g]?).map (·.type) = some t ∧ w.var? P n = some cs ∧ DataW.trod (fun _ => ()) P w 0 (fun _ => true) false fuel t cs.toList = some (d, p)
theorem laid_each {P : Program} {w : World} : ∀ {l : List (String × DataW Unit)} {ps : List MemPlace}, DataW.LaidVars P w l ps → ∀ x ∈ l, OneLaid P w x.1 x.2
  | [], _, _, x, hx => by cases hx
  | (n, d) :: r, ps, h, x, hx => by
    obtain ⟨g, t, cs, fuel, p, q, h1, h2, h3, h4, h5, _⟩ := h
    rcases List.mem_cons.1 hx with rfl | hx
    · exact ⟨g, t, cs, fuel, p, h1, h2, h3, h4⟩
    · exact laid_each h5 x hx
theorem laidS_each {W : World} (h : laidMetH Tryz.prog laidS W) : ∀ x ∈ laidS, OneLaid Tryz.prog W x.1 x.2 := by
  rw [MakeChecks.laidMetH_plain _ _ _ (by kernel_rfl)] at h
  obtain ⟨ps, h1, _⟩ := h
  exact laid_each h1
theorem cellsStr46 : Tryz.prog.cellsOf 9 = 1 := by kernel_rfl
theorem cellsInt46 : Tryz.prog.cellsOf 3 = 1 := by kernel_rfl
theorem cellsBool46 : Tryz.prog.cellsOf 4 = 1 := by kernel_rfl
theorem cellsU6446 : Tryz.prog.cellsOf 134 = 1 := by kernel_rfl
theorem cellsRow46 : Tryz.prog.cellsOf 58 = 4 := by kernel_rfl
theorem cellsRowsA46 : Tryz.prog.cellsOf 59 = 96 := by kernel_rfl
theorem cellsStep46 : Tryz.prog.cellsOf 53 = 3 := by kernel_rfl
theorem cellsScript46 : Tryz.prog.cellsOf 25 = 2 := by kernel_rfl
theorem cellsInts46 : Tryz.prog.cellsOf 51 = 1 := by kernel_rfl
theorem cellsStrs46 : Tryz.prog.cellsOf 22 = 1 := by kernel_rfl
theorem cellsSteps46 : Tryz.prog.cellsOf 23 = 1 := by kernel_rfl
theorem bytesInt46 : Tryz.prog.bytesOf 3 = 8 := by kernel_rfl
theorem bytesStr46 : Tryz.prog.bytesOf 9 = 16 := by kernel_rfl
theorem bytesStep46 : Tryz.prog.bytesOf 53 = 48 := by kernel_rfl
theorem spot46 {w : World} {a : Addr} {v : Value} (h : w.cell? a = some v) : a = ⟨a.block, a.off, none⟩ ∧ a.block < w.heap.size := by
  obtain ⟨b, o, s⟩ := a
  unfold World.cell? at h
  split at h
  · rename_i hb
    refine ⟨?_, (Array.getElem?_eq_some_iff.1 hb).1⟩
    cases s with
    | none => rfl
    | some x => simp at h
  · cases h
/-! The table of the kinds. -/
def rowData (r : KRow) : DataW Unit := .agg [.lit (.string r.name.data.toList), .lit (.int .i64 r.least), .lit (.int .i64 r.most), .lit (.bool r.text)]
theorem rows_data : (Rows.laid_custody_script_rows : DataW Unit) = .agg (krows.map rowData) := by kernel_rfl
theorem gRows_name : Tryz.prog.globalNamed "custody/script.rows" = some 0 := by kernel_rfl
theorem gRows_type : (Tryz.prog.globals[0]?).map (·.type) = some 59 := by kernel_rfl
section
variable {w : World} {base : Nat} {spare : Nat → Bool} {held : Bool}
set_option maxRecDepth 100000 in
theorem krow_cells {m : Nat} {cs : List Value} {x : DataW Unit × List MemPlace} {r : KRow} (h : DataW.trod (fun _ => ()) Tryz.prog w base spare held m 58 cs = some x) (hx : x.1 = rowData r) : cs = [.string r.name, .int .i64 (r.least : Int), .int .i64 (r.most : Int), .bool r.text] := by
  obtain ⟨xs, n, _, rfl, hl, hlen, hf⟩ := DataW.trod_struct Tryz.underlying58 h
  rw [cellsRow46] at hl
  have f0 : DataW.trod (fun _ => ()) Tryz.prog w base spare held n 9 ((cs.drop 0).take (Tryz.prog.cellsOf 9)) = xs[0]? := hf 0 _ rfl
  have f1 : DataW.trod (fun _ => ()) Tryz.prog w base spare held n 3 ((cs.drop 1).take (Tryz.prog.cellsOf 3)) = xs[1]? := hf 1 _ rfl
  have f2 : DataW.trod (fun _ => ()) Tryz.prog w base spare held n 3 ((cs.drop 2).take (Tryz.prog.cellsOf 3)) = xs[2]? := hf 2 _ rfl
  have f3 : DataW.trod (fun _ => ()) Tryz.prog w base spare held n 4 ((cs.drop 3).take (Tryz.prog.cellsOf 4)) = xs[3]? := hf 3 _ rfl
  rw [cellsStr46] at f0
  rw [cellsInt46] at f1 f2
  rw [cellsBool46] at f3
  have hlen : xs.length = 4 := hlen
  match xs, hlen with
  | [y0, y1, y2, y3], _ =>
    obtain ⟨a, ha, ea, _⟩ := DataW.trod_string Tryz.underlying9 f0
    obtain ⟨b, hb, eb, _⟩ := DataW.trod_int Tryz.underlying3 f1
    obtain ⟨c, hc, ec, _⟩ := DataW.trod_int Tryz.underlying3 f2
    obtain ⟨d, hd, ed⟩ := DataW.trod_bool Tryz.underlying4 f3
    unfold rowData at hx
    simp only [List.map_cons, List.map_nil, DataW.agg.injEq, List.cons.injEq, and_true, ea, eb, ec, ed, DataW.lit.injEq, Lit.string.injEq, Lit.int.injEq, Lit.bool.injEq, true_and] at hx
    obtain ⟨h1, h2, h3, h4⟩ := hx
    have h1 : a = r.name := ByteArray.ext (Array.ext' h1)
    subst h1 h2 h3 h4
    match cs, hl with
    | [c0, c1, c2, c3], _ =>
      simp at ha hb hc hd
      rw [ha, hb, hc, hd]
end
set_option maxRecDepth 100000 in
theorem ktab_laid {W : World} (h : OneLaid Tryz.prog W "custody/script.rows" Rows.laid_custody_script_rows) : KTab W := by
  obtain ⟨g, t, cs, fuel, p, h1, h2, h3, h4⟩ := h
  obtain rfl := Option.some.inj (gRows_name.symm.trans h1)
  obtain rfl := Option.some.inj (gRows_type.symm.trans h2)
  rw [rows_data] at h4
  obtain ⟨xs, m, _, hx, hl, hlen, hel⟩ := DataW.trod_array Tryz.underlying59 h4
  rw [cellsRowsA46] at hl
  rw [cellsRow46] at hel
  simp only [Prod.mk.injEq, DataW.agg.injEq] at hx
  obtain ⟨hx, _⟩ := hx
  have cell := World.var?_cell gRows_name h3
  have el : ∀ (k : Nat) (r : KRow), krows[k]? = some r → (cs.toList.drop (k * 4)).take 4 = [.string r.name, .int .i64 (r.least : Int), .int .i64 (r.most : Int), .bool r.text] := by
    intro k r hr
    have hk : k < 24 := (List.getElem?_eq_some_iff.1 hr).1
    have he := hel k hk
    rw [List.getElem?_eq_getElem (by omega : k < xs.length)] at he
    refine krow_cells he ?_
    have hm : (krows.map rowData)[k]? = (xs.map (·.1))[k]? := by rw [hx]
    rw [List.getElem?_map, List.getElem?_map, hr, List.getElem?_eq_getElem (by omega : k < xs.length)] at hm
    simp only [Option.map_some, Option.some.injEq] at hm
    exact hm.symm
  have at_ : ∀ (k : Nat) (r : KRow), krows[k]? = some r → ∀ j, j < 4 → cs[k * 4 + j]? = ([.string r.name, .int .i64 (r.least : Int), .int .i64 (r.most : Int), .bool r.text] : List Value)[j]? := by
    intro k r hr j hj
    rw [← el k r hr, List.getElem?_take, if_pos hj, List.getElem?_drop, Array.getElem?_toList]
  refine ⟨?_, fun k r hr => ?_⟩
  · have h0 := cell 0
    have := at_ 0 _ rfl 0 (by decide)
    rw [show 0 * 4 + 0 = 0 by rfl] at this
    rw [this] at h0
    exact (spot46 h0).2
  · refine ⟨?_, ?_, ?_, ?_⟩
    · rw [cell]; exact at_ k r hr 0 (by decide)
    · rw [cell]; exact at_ k r hr 1 (by decide)
    · rw [cell]; exact at_ k r hr 2 (by decide)
    · rw [cell]; exact at_ k r hr 3 (by decide)
theorem gPow46 : Tryz.prog.globalNamed "internal/strconv.uint64pow10" = some 6 := by kernel_rfl
set_option maxRecDepth 100000 in
theorem pow_laid {W : World} (h : OneLaid Tryz.prog W "internal/strconv.uint64pow10" Rows.laid_internal_strconv_uint64pow10) : Lib.TabBelow Tryz.prog W.heap.size W "internal/strconv.uint64pow10" .u64 Lib.pow10Tab := by
  obtain ⟨g, t, cs, fuel, p, h1, h2, h3, h4⟩ := h
  obtain rfl := Option.some.inj (gPow46.symm.trans h1)
  refine Lib.tabBelow_of_tabIs ?_
  unfold Lib.TabIs
  obtain ⟨n, hn⟩ : ∃ n, Lib.pow10Tab.length = n := ⟨_, rfl⟩
  have e : (Rows.laid_internal_strconv_uint64pow10 : DataW Unit) = Lib.tabData .u64 Lib.pow10Tab := by kernel_rfl
  rw [e] at h4
  obtain rfl : 150 = t := Option.some.inj ((show (Tryz.prog.globals[6]?).map (·.type) = some 150 by kernel_rfl).symm.trans h2)
  rw [h3, ← Lib.cells_of_tab Tryz.underlying150 Tryz.underlying134 cellsU6446 (by kernel_rfl) h4]
theorem trod_iface {P : Program} {w : World} {t : TypeId} {ms : Array (String × TypeId)} (ht : P.underlying t = some (.interface ms)) {fuel : Nat} {cs : List Value} {nm : String} {d : DataW Unit} {p : List MemPlace}
    (h : DataW.trod (fun _ => ()) P w 0 (fun _ => true) false fuel t cs = some (.iface nm d, p)) : ∃ u v, cs = [.iface u v] := by
  cases fuel with
  | zero => simp [DataW.trod] at h
  | succ n =>
    unfold DataW.trod at h
    rw [ht] at h
    split at h <;> simp_all
set_option maxRecDepth 100000 in
theorem err_laid {W : World} {n : String} {G : Nat} {nm : String} {d : DataW Unit} (hg : Tryz.prog.globalNamed n = some G) (ht : (Tryz.prog.globals[G]?).map (·.type) = some 74) (h : OneLaid Tryz.prog W n (.iface nm d)) : G < W.heap.size ∧ ∃ t p, W.cell? ⟨G, 0, none⟩ = some (.iface t p) := by
  obtain ⟨g, t, cs, fuel, p, h1, h2, h3, h4⟩ := h
  obtain rfl := Option.some.inj (hg.symm.trans h1)
  obtain rfl := Option.some.inj (ht.symm.trans h2)
  obtain ⟨u, v, hcs⟩ := trod_iface Tryz.underlying74 h4
  have h0 := World.var?_cell hg h3 0
  rw [← Array.getElem?_toList, hcs] at h0
  exact ⟨(spot46 h0).2, u, v, h0⟩
set_option maxRecDepth 100000 in
theorem lib_laid {W : World} (h : laidMetH Tryz.prog laidS W) (hs : W.ShapedOpen Tryz.prog) : KTab W ∧ LibAt W := by
  have e := laidS_each h
  have h2 := e ("internal/strconv.uint64pow10", Rows.laid_internal_strconv_uint64pow10) (by simp [laidS])
  have h3 := e ("strconv.ErrRange", Rows.laid_strconv_ErrRange) (by simp [laidS])
  have h4 := e ("strconv.ErrSyntax", Rows.laid_strconv_ErrSyntax) (by simp [laidS])
  have h5 := e ("custody/script.rows", Rows.laid_custody_script_rows) (by simp [laidS])
  dsimp only at h2 h3 h4 h5
  refine ⟨ktab_laid h5, pow_laid h2, err_laid (by kernel_rfl) (by kernel_rfl) h4, err_laid (by kernel_rfl) (by kernel_rfl) h3, ?_⟩
  obtain ⟨m, hm⟩ := cell_of_shapedOpen_int (g := 1) (t := 3) (zero := #[.int .i64 0]) hs (of_decide_eq_true (by kernel_rfl)) (by kernel_rfl) rfl (by kernel_rfl) (by kernel_rfl) Tryz.underlying3
  exact ⟨(spot46 hm).2, m, hm⟩
/-! Scripts as arguments. -/
/-- What the row says of the size of what comes in. -/
def Small {H : Type} (t : TypeId) (d : DataW H) : Prop := ∀ n ∈ DataW.weights Tryz.prog t d, n ≤ reachBytes
theorem weightsAll_mem {H : Type} {P : Program} {e : TypeId} {n : Nat} {d : DataW H} : ∀ {l : List (DataW H)}, d ∈ l → n ∈ d.weights P e → n ∈ DataW.weightsAll P e l
  | [], h, _ => by cases h
  | x :: l, h, hn => by
    unfold DataW.weightsAll
    rcases List.mem_cons.1 h with rfl | h
    · exact List.mem_append_left _ hn
    · exact List.mem_append_right _ (weightsAll_mem h hn)
theorem flat_find {α : Type} {f : α → List Value} {k : Nat} (hk : 0 < k) (hf : ∀ a, (f a).length = k) : ∀ {l : List α} {j : Nat} {u : Value}, (l.flatMap f)[j]? = some u → ∃ s, l[j / k]? = some s ∧ (f s)[j % k]? = some u
  | [], j, u, h => by simp at h
  | a :: l, j, u, h => by
    rw [List.flatMap_cons] at h
    by_cases hj : j < k
    · rw [List.getElem?_append_left (by rw [hf]; exact hj)] at h
      rw [Nat.div_eq_of_lt hj, Nat.mod_eq_of_lt hj]
      exact ⟨a, rfl, h⟩
    · rw [List.getElem?_append_right (by rw [hf]; omega), hf] at h
      obtain ⟨s, h1, h2⟩ := flat_find hk hf h
      have e1 : j / k = (j - k) / k + 1 := by
        rw [Nat.div_eq_sub_div hk (by omega)]
      have e2 : j % k = (j - k) % k := Nat.mod_eq_sub_mod (by omega)
      rw [e1, e2]
      exact ⟨s, by rw [List.getElem?_cons_succ]; exact h1, h2⟩
set_option maxRecDepth 100000 in
theorem open_rowS {H : Type} {enc : TypeId × Value → H} {W : World} {held : Bool} {α : Type} [Inhabited α] {T e : TypeId} {k : Nat} {f : α → List Value} {ok : α → Prop} (hT : Tryz.prog.underlying T = some (.slice e)) (hk0 : 0 < k) (hk : Tryz.prog.cellsOf e = k) (hf : ∀ a, (f a).length = k)
    (hc : ∀ {m : Nat} {cs : List Value} {x : DataW H × List MemPlace}, DataW.trod enc Tryz.prog W 0 (fun _ => true) held m e cs = some x → Small e x.1 → ∃ a, cs = f a ∧ ok a) {fuel : Nat} {a0 : Option Addr} {len cap : Nat} {x : DataW H × List MemPlace}
    (h : DataW.trod enc Tryz.prog W 0 (fun _ => true) held fuel T [.slice a0 len cap] = some x) (hw : Small T x.1) : ∃ l : List α, l.length = len ∧ len * Tryz.prog.bytesOf e ≤ reachBytes ∧ (∀ a ∈ l, ok a) ∧ RowAt W W.heap.size (.slice a0 len cap) len (l.flatMap f) := by
  rcases open_slice hT h with ⟨hcs, _⟩ | ⟨a, len', cap', m, n, D, Pl, hcs, _, hl, hm, hmm, hxx, hx⟩
  · simp at hcs
    obtain ⟨rfl, rfl, rfl⟩ := hcs
    exact ⟨[], rfl, by rw [Nat.zero_mul]; exact Nat.zero_le _, (fun a ha => by cases ha), none, 0, rfl, fun h => by cases h⟩
  · simp at hcs
    obtain ⟨rfl, rfl, rfl⟩ := hcs
    simp only [if_true] at hmm
    rw [hk] at hx
    subst hxx
    unfold Small at hw
    simp only [DataW.weights, hT, List.mem_cons, List.mem_append] at hw
    have hsz := hw _ (.inl rfl)
    rw [List.length_map, List.length_map, List.length_range, List.length_range] at hsz
    have hel : ∀ i, i < len → Small e (D i) := fun i hi n hn => hw n (.inr (.inl (weightsAll_mem (List.mem_map.2 ⟨i, List.mem_range.2 hi, rfl⟩) hn)))
    obtain ⟨T, hT⟩ := choose_lt (α := α) (n := len) (p := fun i T => W.cells? 0 (a.add (i * k)) k = some (f T) ∧ ok T) (fun i hi => by
      obtain ⟨cs', h1, h2⟩ := hx i (by omega)
      obtain ⟨T, rfl, ho⟩ := hc h2 (hel i hi)
      exact ⟨T, h1, ho⟩)
    have hlen : ((List.range len).map T).length = len := by rw [List.length_map, List.length_range]
    have hat : ∀ i, i < len → ∀ j, j < k → W.cell? ((a.add (i * k)).add j) = (f (T i))[j]? := fun i hi j hj => (World.cells?_some (hT i hi).1).2.2 j hj
    refine ⟨(List.range len).map T, hlen, Nat.le_trans (Nat.mul_le_mul_right _ (Nat.le_add_right _ _)) hsz, fun b hb => ?_, some a, cap, rfl, fun hl0 => ?_⟩
    · obtain ⟨i, hi, rfl⟩ := List.mem_map.1 hb
      exact (hT i (List.mem_range.1 hi)).2
    · have h00 := hat 0 hl0 0 hk0
      rw [Nat.zero_mul] at h00
      have ha0 : (a.add 0).add 0 = a := by simp [Addr.add]
      rw [ha0] at h00
      obtain ⟨v0, hv0⟩ : ∃ v, (f (T 0))[0]? = some v := ⟨_, List.getElem?_eq_getElem (by rw [hf]; exact hk0)⟩
      rw [hv0] at h00
      obtain ⟨ha, hbl⟩ := spot46 h00
      refine ⟨a.block, a.off, by rw [← ha], hbl, fun j u hj => ?_⟩
      obtain ⟨s, hs, hu⟩ := flat_find hk0 hf hj
      rw [List.getElem?_map] at hs
      obtain ⟨i', hi', e⟩ := Option.map_eq_some_iff.1 hs
      have hil : j / k < len := by have := (List.getElem?_eq_some_iff.1 hi').1; simpa using this
      rw [List.getElem?_range hil] at hi'
      cases hi'
      have := hat (j / k) hil (j % k) (Nat.mod_lt _ hk0)
      rw [ha, Addr.add_lit, Addr.add_lit, e, hu, Nat.add_assoc, show j / k * k + j % k = j by rw [Nat.mul_comm]; exact Nat.div_add_mod j k] at this
      exact this
theorem inI_of {z : Int} (h : (Lit.int .i64 z).wf = true) : InI z := by
  simp only [Lit.wf, Bool.and_eq_true, IntKind.min, IntKind.max] at h
  simp [IntKind.signed, IntKind.bits] at h
  unfold InI
  omega
theorem trod_sliceval {H : Type} {enc : TypeId × Value → H} {W : World} {T e : TypeId} {fuel : Nat} {cs : List Value} {x : DataW H × List MemPlace} {held : Bool} (hT : Tryz.prog.underlying T = some (.slice e)) (h : DataW.trod enc Tryz.prog W 0 (fun _ => true) held fuel T cs = some x) : ∃ a n c, cs = [.slice a n c] := by
  rcases open_slice hT h with ⟨hcs, _⟩ | ⟨a, len', cap', m, n, D, Pl, hcs, _⟩
  · exact ⟨_, _, _, hcs⟩
  · exact ⟨_, _, _, hcs⟩
instance : Inhabited ByteArray := ⟨⟨#[]⟩⟩
instance : Inhabited Stp := ⟨⟨0, [], ⟨#[]⟩⟩⟩
section
variable {H : Type} {enc : TypeId × Value → H} {W : World} {held : Bool}
theorem int_cells {m : Nat} {cs : List Value} {x : DataW H × List MemPlace} (h : DataW.trod enc Tryz.prog W 0 (fun _ => true) held m 3 cs = some x) : ∃ z : Int, cs = [.int .i64 z] ∧ InI z := by
  obtain ⟨b, hb, _, wb⟩ := DataW.trod_int Tryz.underlying3 h
  exact ⟨b, hb, inI_of wb⟩
theorem str_cells {m : Nat} {cs : List Value} {x : DataW H × List MemPlace} (h : DataW.trod enc Tryz.prog W 0 (fun _ => true) held m 9 cs = some x) (hw : Small 9 x.1) : ∃ t : ByteArray, cs = [.string t] ∧ t.size ≤ reachBytes := by
  obtain ⟨a, ha, ea, _⟩ := DataW.trod_string Tryz.underlying9 h
  subst ea
  refine ⟨a, ha, ?_⟩
  have := hw a.data.toList.length (by simp [DataW.weights])
  rwa [Array.length_toList] at this
def stpK (p : Stp × Value) : List Value := [.int .i64 p.1.kind, p.2, .string p.1.text]
theorem ints_flat (l : List Int) : (l.flatMap fun z => [Value.int .i64 z]) = intsC l := by
  induction l with
  | nil => rfl
  | cons a l ih => rw [List.flatMap_cons, ih]; rfl
theorem strs_flat (l : List ByteArray) : (l.flatMap fun z => [Value.string z]) = strsC l := by
  induction l with
  | nil => rfl
  | cons a l ih => rw [List.flatMap_cons, ih]; rfl
theorem steps_flat (l : List (Stp × Value)) : l.flatMap stpK = stepsC (l.map (·.1)) (l.map (·.2)) := by
  induction l with
  | nil => rfl
  | cons a l ih => rw [List.flatMap_cons, ih]; rfl
theorem each_small {ts : List TypeId} {ds : List (DataW H)} (h : ∀ n ∈ DataW.weightsEach Tryz.prog ts ds, n ≤ reachBytes) {j : Nat} {t : TypeId} {d : DataW H} (ht : ts[j]? = some t) (hd : ds[j]? = some d) : Small t d :=
  fun n hn => h n (DataW.weights_mem_each ht hd n hn)
set_option maxRecDepth 100000 in
theorem stp_cells {m : Nat} {cs : List Value} {x : DataW H × List MemPlace} (h : DataW.trod enc Tryz.prog W 0 (fun _ => true) held m 53 cs = some x) (hw : Small 53 x.1) :
    ∃ p : Stp × Value, cs = stpK p ∧ (StpIn p.1 ∧ RowAt W W.heap.size p.2 p.1.args.length (intsC p.1.args)) := by
  obtain ⟨xs, n, _, rfl, hl, hlen, hf⟩ := DataW.trod_struct Tryz.underlying53 h
  rw [cellsStep46] at hl
  have f0 : DataW.trod enc Tryz.prog W 0 (fun _ => true) held n 3 ((cs.drop 0).take (Tryz.prog.cellsOf 3)) = xs[0]? := hf 0 _ rfl
  have f1 : DataW.trod enc Tryz.prog W 0 (fun _ => true) held n 51 ((cs.drop 1).take (Tryz.prog.cellsOf 51)) = xs[1]? := hf 1 _ rfl
  have f2 : DataW.trod enc Tryz.prog W 0 (fun _ => true) held n 9 ((cs.drop 2).take (Tryz.prog.cellsOf 9)) = xs[2]? := hf 2 _ rfl
  rw [cellsInt46] at f0
  rw [cellsInts46] at f1
  rw [cellsStr46] at f2
  have hlen : xs.length = 3 := hlen
  match xs, hlen with
  | [y0, y1, y2], _ =>
    have hw2 : ∀ n ∈ DataW.weightsEach Tryz.prog [3, 51, 9] [y0.1, y1.1, y2.1], n ≤ reachBytes := by
      intro n hn
      refine hw n ?_
      simp only [DataW.weights, Tryz.underlying53]
      exact hn
    match cs, hl with
    | [c0, c1, c2], _ =>
      have f0 : DataW.trod enc Tryz.prog W 0 (fun _ => true) held n 3 [c0] = some y0 := f0
      have f1 : DataW.trod enc Tryz.prog W 0 (fun _ => true) held n 51 [c1] = some y1 := f1
      have f2 : DataW.trod enc Tryz.prog W 0 (fun _ => true) held n 9 [c2] = some y2 := f2
      obtain ⟨k, hk, ik⟩ := int_cells f0
      obtain ⟨t, ht, zt⟩ := str_cells f2 (each_small hw2 (j := 2) rfl rfl)
      obtain ⟨a, ln, c, hs⟩ := trod_sliceval Tryz.underlying51 f1
      simp only [List.cons.injEq, and_true] at hk ht hs
      subst hk ht hs
      obtain ⟨l, el, hz, oi, ra⟩ := open_rowS (f := fun z => [Value.int .i64 z]) (ok := InI) Tryz.underlying51 (by decide) cellsInt46 (fun _ => rfl) (fun h _ => int_cells h) f1 (each_small hw2 (j := 1) rfl rfl)
      rw [ints_flat] at ra
      rw [bytesInt46] at hz
      subst el
      have hz2 : l.length * 8 ≤ 140737488351232 := hz
      have zt2 : t.size ≤ 140737488351232 := zt
      exact ⟨(⟨k, l, t⟩, .slice a l.length c), rfl, ⟨ik, oi, show l.length ≤ _ by omega, show t.size ≤ _ by omega⟩, ra⟩
set_option maxRecDepth 100000 in
theorem scr_cells {m : Nat} {cs : List Value} {x : DataW H × List MemPlace} (h : DataW.trod enc Tryz.prog W 0 (fun _ => true) held m 25 cs = some x) (hw : Small 25 x.1) :
    ∃ s : Scr, ∃ c0 c1, cs = [c0, c1] ∧ ScrIn s ∧ ScrAt W W.heap.size (.agg #[c0, c1]) s := by
  obtain ⟨xs, n, _, rfl, hl, hlen, hf⟩ := DataW.trod_struct Tryz.underlying25 h
  rw [cellsScript46] at hl
  have f0 : DataW.trod enc Tryz.prog W 0 (fun _ => true) held n 22 ((cs.drop 0).take (Tryz.prog.cellsOf 22)) = xs[0]? := hf 0 _ rfl
  have f1 : DataW.trod enc Tryz.prog W 0 (fun _ => true) held n 23 ((cs.drop 1).take (Tryz.prog.cellsOf 23)) = xs[1]? := hf 1 _ rfl
  rw [cellsStrs46] at f0
  rw [cellsSteps46] at f1
  have hlen : xs.length = 2 := hlen
  match xs, hlen with
  | [y0, y1], _ =>
    have hw2 : ∀ n ∈ DataW.weightsEach Tryz.prog [22, 23] [y0.1, y1.1], n ≤ reachBytes := by
      intro n hn
      refine hw n ?_
      simp only [DataW.weights, Tryz.underlying25]
      exact hn
    match cs, hl with
    | [c0, c1], _ =>
      have f0 : DataW.trod enc Tryz.prog W 0 (fun _ => true) held n 22 [c0] = some y0 := f0
      have f1 : DataW.trod enc Tryz.prog W 0 (fun _ => true) held n 23 [c1] = some y1 := f1
      obtain ⟨a, ln, c, hs⟩ := trod_sliceval Tryz.underlying22 f0
      obtain ⟨a', ln', c', hs'⟩ := trod_sliceval Tryz.underlying23 f1
      simp only [List.cons.injEq, and_true] at hs hs'
      subst hs hs'
      obtain ⟨l, el, hz, oi, ra⟩ := open_rowS (f := fun z => [Value.string z]) (ok := fun t : ByteArray => t.size ≤ reachBytes) Tryz.underlying22 (by decide) cellsStr46 (fun _ => rfl) (fun h hw => str_cells h hw) f0 (each_small hw2 (j := 0) rfl rfl)
      obtain ⟨l', el', hz', oi', ra'⟩ := open_rowS (f := stpK) (ok := fun p => StpIn p.1 ∧ RowAt W W.heap.size p.2 p.1.args.length (intsC p.1.args)) Tryz.underlying23 (by decide) cellsStep46 (fun _ => rfl) (fun h hw => stp_cells h hw) f1 (each_small hw2 (j := 1) rfl rfl)
      rw [strs_flat] at ra
      rw [steps_flat] at ra'
      rw [bytesStr46] at hz
      rw [bytesStep46] at hz'
      subst el el'
      have hz2 : l.length * 16 ≤ 140737488351232 := hz
      have hz3 : l'.length * 48 ≤ 140737488351232 := hz'
      have hl1 : (l'.map (·.1)).length = l'.length := List.length_map ..
      refine ⟨⟨l, l'.map (·.1)⟩, _, _, rfl, ⟨show l.length ≤ _ by omega, by show (l'.map (·.1)).length ≤ _; rw [hl1]; omega, fun t ht => ?_, fun y hy => ?_⟩, _, _, rfl, ra, l'.map (·.2), by rw [List.length_map, List.length_map], ?_, fun i y u hy hu => ?_⟩
      · have : t.size ≤ 140737488351232 := oi t ht
        omega
      · obtain ⟨p, hp, rfl⟩ := List.mem_map.1 hy
        exact (oi' p hp).1
      · show RowAt W W.heap.size _ (l'.map (·.1)).length _
        rw [hl1]
        exact ra'
      · rw [List.getElem?_map] at hy hu
        obtain ⟨p, hp, rfl⟩ := Option.map_eq_some_iff.1 hy
        obtain ⟨q, hq, rfl⟩ := Option.map_eq_some_iff.1 hu
        rw [hp] at hq
        cases hq
        exact (oi' p (List.mem_of_getElem? hp)).2
end
section
variable {H : Type} {enc : TypeId × Value → H} {W : World} {v : Value} {d : DataW H} {ps : List MemPlace} {base : Nat}
set_option maxRecDepth 100000 in
/-- A script that comes in as an argument. -/
theorem open_script (hv : Value.okWide Tryz.prog W .any base 25 v) (h : DataW.Trod enc Tryz.prog W 0 (fun _ => true) true 25 v d ps) (hw : Small 25 d) : ∃ s : Scr, ScrAt W W.heap.size v s ∧ ScrIn s := by
  obtain ⟨cs, rfl, hs⟩ := okWide_struct Tryz.underlying25 hv
  obtain ⟨fuel, hf⟩ := h
  have hcs : (Value.agg cs).cells.toList = cs.toList := by simp [Value.cells]
  rw [hcs] at hf
  obtain ⟨s, c0, c1, e, hi, ha⟩ := scr_cells hf hw
  obtain ⟨l⟩ := cs
  have e : l = [c0, c1] := e
  subst e
  exact ⟨s, ha, hi⟩
set_option maxRecDepth 100000 in
theorem open_text (hv : Value.okWide Tryz.prog W .any base 9 v) (h : DataW.Trod enc Tryz.prog W 0 (fun _ => true) true 9 v d ps) (hw : Small 9 d) : ∃ t : ByteArray, v = .string t ∧ t.size ≤ 140737488351232 := by
  obtain ⟨s, rfl, ed, _, _⟩ := Go.ChangeMaps.open_string Tryz.underlying9 hv h
  subst ed
  have := hw s.data.toList.length (by simp [DataW.weights])
  rw [Array.length_toList] at this
  exact ⟨s, rfl, this⟩
set_option maxRecDepth 100000 in
theorem open_num (hv : Value.okWide Tryz.prog W .any base 3 v) (h : DataW.Trod enc Tryz.prog W 0 (fun _ => true) true 3 v d ps) : ∃ n : Int, v = .int .i64 n ∧ InI n := by
  obtain ⟨n, rfl⟩ := okWide_int Tryz.underlying3 hv
  obtain ⟨fuel, hf⟩ := h
  obtain ⟨k, hk, _, hz⟩ := DataW.trod_int Tryz.underlying3 hf
  simp [Value.cells] at hk
  subst hk
  exact ⟨n, rfl, inI_of hz⟩
end
theorem trodAll_belowP {P : Program} (hl : laidOutB P = true) {H : Type} {enc : TypeId × Value → H} {W W' : World} (hb : Below W.heap.size W W') : ∀ {ts : List TypeId} {vs : List Value} {ds : List (DataW H)} {ps : List MemPlace}, (ts.all fun t => P.readableRec t && decide (t < P.types.size)) = true →
    DataW.TrodAll enc P W 0 (fun _ => true) true ts vs ds ps → (∀ x ∈ ps, x.block < W.heap.size) → DataW.TrodAll enc P W' 0 (fun b => decide (b < W.heap.size)) true ts vs ds ps := by
  intro ts
  induction ts with
  | nil =>
    intro vs ds ps _ h _
    obtain ⟨rfl, rfl, rfl⟩ := trodAll_nil h
    exact rfl
  | cons t ts ih =>
    intro vs ds ps ht h hlt
    obtain ⟨v, vs', d, ds', p, q, rfl, rfl, rfl, h0, h1⟩ := trodAll_cons h
    rw [List.all_cons, Bool.and_eq_true, Bool.and_eq_true] at ht
    exact trodAll_cons_mk (Below.trod hl ht.1.1 (of_decide_eq_true ht.1.2) h0 hb (fun x hx => hlt x (List.mem_append_left _ hx))) (ih ht.2 h1 (fun x hx => hlt x (List.mem_append_right _ hx)))
/-- A law's contract gives its row: with the listed variables, the world's shape and the sizes at hand. -/
theorem change_and_shaped {H : Type} {enc : TypeId × Value → H} {a : Assume} {C : Checked} {os : Os} {f : FuncId} {fn : Func} {s : ChangeSpec} {conds : List PathCond} {apart fresh handsOn again : Bool} {X : World → Array Value → Prop}
    (hX : ∀ (w w' : World) (args : Array Value), w.heap = w'.heap → X w args → X w' args)
    (own : ownKnob C.prog.godebug = none) (started : os.Started) (noInit : C.prog.inits.idxOf? f = none) (hfn : C.prog.funcs[f]? = some fn)
    (witness : ∃ (w : World) (tape : Tape) (i : Input), w.os = os ∧ (w.forCall tape i).Shaped C.prog ∧ i.vars = [] ∧ Input.okWide C.prog (w.forCall tape i) .any w.heap.size f i ∧
      ((s.pre enc C.prog fn conds apart (w.forCall tape i).memory i.args ∧ X (w.forCall tape i).memory i.args) ∧ sizedMet enc C.prog fn (OpenSpec.ofChange s) apart (w.forCall tape i).memory i.args) ∧ a.holds C.prog (lone (Frame.enter C.prog f i.args .normal) [] (w.forCall tape i)))
    (contract : ∀ (W : World) (base : Nat) (args : Array Value) (ds gs : List (DataW H)) (before : List MemPlace),
      (∀ (j : Nat) t v, fn.params[j]? = some t → args[j]? = some v → Value.okWide C.prog W .any base t v) →
      DataW.Whole enc C.prog fn.params.toList s.vars apart W args.toList ds gs before →
      (DataW.weightsEach C.prog (fn.params.toList ++ s.plain.varTypes C.prog) (ds ++ gs)).all (· ≤ reachBytes) = true → X W args → W.ShapedOpen C.prog →
      Calls C.prog f args W fun e W' => ∃ v, e = .returned v ∧ s.post enc C.prog fn apart fresh handsOn again W args v W') :
    ReturnsInHanded a C os f .any (fun w args => (s.pre enc C.prog fn conds apart w args ∧ X w args) ∧ sizedMet enc C.prog fn (OpenSpec.ofChange s) apart w args) (s.post enc C.prog fn apart fresh handsOn again) := by
  refine returnsInHanded_of_calls own started noInit witness ?_
  intro w tape i _ hsh _ hok hpre _
  obtain ⟨_, _, _, fn', hfn', _, _, _, _, hval⟩ := hok
  obtain rfl : fn' = fn := Option.some.inj (hfn'.symm.trans hfn)
  obtain ⟨⟨⟨ds, gs, before, hw, _⟩, hx⟩, hz⟩ := hpre
  refine (contract (w.forCall tape i) w.heap.size i.args ds gs before hval (DataW.Whole.of_heap (w' := w.forCall tape i) (by rfl) hw) (hz.weights hw) (hX _ _ _ (by rfl) hx) hsh).mono fun e W' ⟨v, he, hp⟩ => ?_
  subst he
  exact ChangeSpec.post_blind hp
end Go.Proofs.YtldkfhimpkiigaaGreatDoor
