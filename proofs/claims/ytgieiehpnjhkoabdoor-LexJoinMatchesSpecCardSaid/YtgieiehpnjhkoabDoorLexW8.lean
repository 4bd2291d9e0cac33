/-
  The walks of both Joins of layer 11.
-/
import Derived.Test.YtgieiehpnjhkoabDoorLexW7
import Derived.Lib.Join
namespace Go.Proofs.YtgieiehpnjhkoabDoor
open Go.RowKit LexP

theorem strInfo : (Tryd.prog.info? 9).map (fun i => (i.zero, i.size, i.bytes)) = some (some (.string ⟨#[]⟩), 1, 16) := by kernel_rfl

/-- What Join makes of texts. -/
def joinT (l : List GTok) : List UInt8 := Lib.join (l.map (·.text.data.toList)) [32]

/-- The texts of the first k tokens, as values. -/
def txts (l : List GTok) (k : Nat) : List Value := (l.take k).map fun T => .string T.text
theorem txts_succ (l : List GTok) (k : Nat) (h : k < l.length) : txts l (k + 1) = txts l k ++ [.string l[k].text] := by
  unfold txts
  rw [List.take_add_one, List.getElem?_eq_getElem h, List.map_append]
  rfl
theorem txts_all (l : List GTok) : txts l l.length = (l.map (·.text)).map Value.string := by
  unfold txts
  rw [List.take_length, List.map_map]
  rfl
theorem joinT_texts (l : List GTok) : Lib.join ((l.map (·.text)).map (·.data.toList)) [32] = joinT l := by
  unfold joinT
  rw [List.map_map]
  rfl

theorem bs (s : ByteArray) : (⟨s.data.toList.toArray⟩ : ByteArray) = s := rfl

theorem sJoin_own (w : World) (B : Nat) (v : Value) (xs : List ByteArray) (sep : ByteArray) (h : w.ownsRow B 9 1 v xs.length (xs.map Value.string)) (hN : xs.length ≤ 140737488355328) (hlen : (Lib.join (xs.map (·.data.toList)) sep.data.toList).length ≤ 140737488355328) :
    Calls Tryd.prog 23 #[v, .string sep] w fun e w' => e = .returned (.string ⟨(Lib.join (xs.map (·.data.toList)) sep.data.toList).toArray⟩) ∧ Below w.heap.size w w' := by
  rcases Joins.ownsRow_forms h with ⟨rfl, h0⟩ | ⟨g, cap, rfl⟩
  · have : xs = [] := List.length_eq_zero_iff.1 h0
    subst this
    refine (Tryd.strings_Join_none none 0 sep w).mono fun e w' h => ?_
    obtain ⟨rfl, rfl⟩ := h
    exact ⟨rfl, Below.refl _ _⟩
  · have hlt := (h.lt g rfl).2
    have hcap : xs.length ≤ cap := by
      rcases h.2 with ⟨h1, _⟩ | ⟨g', cap', cur, hv, _, _, hc, _⟩
      · cases h1
      · cases hv; exact hc
    refine Tryd.strings_Join g 0 cap xs sep w (fun j x hj => ?_) hlt hN hcap hlen
    have := h.cells (g := g) rfl j (.string x) (by simp [hj])
    rwa [Addr.add_lit] at this

set_option maxHeartbeats 1000000 in
theorem Join_any (x : Value) (l : List GTok) (w : World) (hx : ToksAt w x l) (hs : l.length ≤ 1048576) (hj : (joinT l).length ≤ 140737488355328) :
    Calls Tryd.prog 15 #[x] w fun e w' => e = .returned (.string ⟨(joinT l).toArray⟩) ∧ Below w.heap.size w w' := by
  obtain ⟨i0, hi, hz0, hz1, hz2⟩ := info_parts strInfo
  obtain ⟨A, c, rfl, hA⟩ := hx
  have HA := Lib.hid hA
  have HJ := Lib.hid hj
  clear hA hj
  go_enter Tryd.func15, Tryd.ntmps15
  go_wp2_with fail
  go_loopw [3, 5, 8] (fun v _ i wr => ∃ k : Nat, k ≤ l.length ∧ i = .int .i64 k ∧ wr.ownsRow w.heap.size 9 1 v k (txts l k) ∧ Below w.heap.size w wr) (fun _ _ i _ => l.length - (intOf i).toNat)
  case atStart => exact ⟨0, Nat.zero_le _, rfl, World.ownsRow_nil _ _ _ _, Below.refl _ _⟩
  case round =>
    obtain ⟨k, hk, rfl, hown, hB⟩ := hrel
    have hBs := hB.size
    by_cases hlt : k < l.length
    · obtain ⟨b, o, rfl, hbl, h1⟩ := HA.out (by omega)
      obtain ⟨p1, p2, p3, p4⟩ := h1 k _ (List.getElem?_eq_getElem hlt)
      rw [← hB.cell (p := ⟨b, _, none⟩) hbl] at p1 p2 p3 p4
      have hsn := Lib.hid (txts_succ l k hlt)
      generalize l[k].kind = x1 at p1
      generalize l[k].text = x2 at p2 hsn
      generalize l[k].n = x3 at p3
      generalize l[k].pos = x4 at p4
      clear h1
      have hlen : Hid (k + 1 ≤ maxLen) := by unfold Hid maxLen; omega
      go_wp2_with (at_builtin; refine wpList_append_own _ rfl _ _ 47 rfl w.heap.size 9 i0 _ 1 16 Tryd.underlying47 hi hz0 hz1 hz2 rfl (by decide) _ k (txts l k) rfl ((hown.alloc _).alloc _) ⟨wr.heap.size + 1, 0, none⟩ 1 1 [.string x2] rfl rfl ?c1 ?c2 ?c3 ?c4 ?c5 ?_)
      case c1 =>
        have := news_cells (Blk.new (wr.alloc (.cells #[.int .i64 x1, .string x2, .int .i64 x3, .int .i64 x4] 36)) 9 #[.string x2])
        rw [World.size_alloc] at this
        exact this
      case c2 => simp [Value.oneCell']
      case c3 => exact hlen.out
      case c4 => omega
      case c5 => simp; omega
      intro v' w3 hown3 hg3 _
      have hB3 : Below w.heap.size w w3 := ((hB.alloc (by omega) _).alloc (by simp; omega) _).grown hg3 (by simp; omega) (fun g e => (hown.lt g e).1)
      clear hg3
      go_wp2_with fail
      go_roundw
      case rel => exact ⟨k + 1, by omega, by go_num, by rw [hsn.out]; exact hown3, hB3⟩
      case measure => simp [intOf]; omega
    · obtain rfl : k = l.length := by omega
      rw [txts_all] at hown
      have hj1 := HJ.out
      rw [← joinT_texts] at hj1
      have Hc := Lib.hid (sJoin_own wr w.heap.size u3 (l.map (·.text)) ⟨#[32]⟩ (by rw [List.length_map]; exact hown) (by rw [List.length_map]; omega) hj1)
      clear hj1
      go_wp2_with fail
      refine Hc.out.mono ?_
      rintro e w1 ⟨rfl, hb⟩
      go_wp2_with fail
      go_ret
      exact ⟨by rw [← joinT_texts, List.map_map]; rfl, hB.trans (hb.mono hBs)⟩

/-- Text put to text, as the specification does it. -/
def joinAcc : List GTok → Nat → List UInt8
  | _, 0 => []
  | l, k + 1 => (if 0 < k then joinAcc l k ++ [32] else joinAcc l k) ++ (l[k]?.map (·.text.data.toList)).getD []

theorem joinAcc_eq (l : List GTok) : ∀ k, k ≤ l.length → joinAcc l k = joinT (l.take k)
  | 0, _ => by simp [joinAcc, joinT, Lib.join]
  | k + 1, h => by
    have ih := joinAcc_eq l k (by omega)
    simp only [joinAcc, ih]
    rw [List.take_add_one, List.getElem?_eq_getElem (by omega)]
    simp only [joinT, Option.map_some, Option.getD_some, Option.toList_some, List.map_append, List.map_cons, List.map_nil]
    generalize l[k].text.data.toList = t
    generalize hk : (l.take k).map (fun x => x.text.data.toList) = ts
    have hkl : ts.length = k := by rw [← hk, List.length_map, List.length_take]; omega
    rcases ts with _ | ⟨a, r⟩
    · have hk0 : k = 0 := by simpa using hkl.symm
      subst hk0
      simp [Lib.join, List.intercalate]
    · have hk0 : 0 < k := by simp at hkl; omega
      rw [if_pos hk0, List.cons_append, Lib.join_cons, Lib.join_cons]
      simp [Lib.joinTail]

theorem joinAcc_mono (l : List GTok) : ∀ (k m : Nat), k ≤ m → (joinAcc l k).length ≤ (joinAcc l m).length := by
  intro k m h
  induction m with
  | zero => have : k = 0 := by omega
            subst this; exact Nat.le_refl _
  | succ m ih =>
    rcases Nat.lt_or_ge m k with hk | hk
    · have : k = m + 1 := by omega
      subst this; exact Nat.le_refl _
    · refine Nat.le_trans (ih hk) ?_
      simp only [joinAcc, List.length_append]
      split <;> simp <;> omega
theorem joinAcc_all (l : List GTok) : joinAcc l l.length = joinT l := by rw [joinAcc_eq l _ (Nat.le_refl _), List.take_length]

theorem str_app2 (x y : List UInt8) (t : ByteArray) : Value.string ((⟨x.toArray⟩ : ByteArray) ++ ⟨y.toArray⟩ ++ t) = .string ⟨((x ++ y) ++ t.data.toList).toArray⟩ := by
  congr 1
theorem str_app1 (x : List UInt8) (t : ByteArray) : Value.string ((⟨x.toArray⟩ : ByteArray) ++ t) = .string ⟨(x ++ t.data.toList).toArray⟩ := by
  congr 1

theorem ref_Join_any (x : Value) (l : List GTok) (w : World) (hx : ToksAt w x l) (hs : l.length ≤ 1048576) (hj : (joinT l).length ≤ 140737488355328) :
    Calls Tryd.prog 16 #[x] w fun e w' => e = .returned (.string ⟨(joinT l).toArray⟩) ∧ w = w' := by
  obtain ⟨A, c, rfl, hA⟩ := hx
  have HA := Lib.hid hA
  have HJ := Lib.hid hj
  clear hA hj
  go_enter Tryd.func16, Tryd.ntmps16
  go_wp2_with fail
  go_loop [3, 4] (fun v i => ∃ k : Nat, k ≤ l.length ∧ i = .int .i64 k ∧ v = .string ⟨(joinAcc l k).toArray⟩) (fun _ i => l.length - (intOf i).toNat)
  case atStart => exact ⟨0, Nat.zero_le _, rfl, rfl⟩
  case round =>
    obtain ⟨k, hk, rfl, rfl⟩ := hrel
    by_cases hlt : k < l.length
    · obtain ⟨b, o, rfl, hbl, h1⟩ := HA.out (by omega)
      obtain ⟨p1, p2, p3, p4⟩ := h1 k _ (List.getElem?_eq_getElem hlt)
      clear p1 p3 p4 h1
      have hbd : (joinAcc l (k + 1)).length ≤ 140737488355328 := by
        have h1 := joinAcc_mono l (k + 1) l.length (by omega)
        have h2 := HJ.out
        rw [joinAcc_all] at h1
        omega
      by_cases h0 : 0 < k
      · have hsn : Hid (joinAcc l (k + 1) = (joinAcc l k ++ [32]) ++ l[k].text.data.toList) := by
          unfold Hid; simp only [joinAcc]; rw [if_pos h0, List.getElem?_eq_getElem hlt]; rfl
        have hb2 : (joinAcc l k).length + 1 + l[k].text.size ≤ 140737488355328 := by
          rw [hsn.out, List.length_append, List.length_append, len_bytes] at hbd
          simpa using hbd
        generalize l[k].text = t at p2 hsn hb2
        clear hbd
        go_wp2_with fail
        go_round
        case rel => exact ⟨k + 1, by omega, by go_num, by rw [hsn.out]; exact str_app2 _ _ _⟩
        case measure => simp [intOf]; omega
      · obtain rfl : k = 0 := by omega
        have hsn : Hid (joinAcc l (0 + 1) = joinAcc l 0 ++ l[0].text.data.toList) := by
          unfold Hid; simp only [joinAcc]; rw [if_neg (by omega), List.getElem?_eq_getElem hlt]; rfl
        have hb2 : (joinAcc l 0).length + l[0].text.size ≤ 140737488355328 := by
          rw [hsn.out, List.length_append, len_bytes] at hbd; exact hbd
        generalize l[0].text = t at p2 hsn hb2
        clear hbd
        go_wp2_with fail
        go_round
        case rel => exact ⟨0 + 1, by omega, by go_num, by rw [hsn.out]; exact str_app1 _ _⟩
        case measure => simp [intOf]; omega
    · obtain rfl : k = l.length := by omega
      go_wp2_with fail
      go_ret
      exact ⟨by rw [← joinAcc_all]; rfl, rfl⟩
end Go.Proofs.YtgieiehpnjhkoabDoor
