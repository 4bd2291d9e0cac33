/-
  Layer 33 (zero): the order of the steps, wherever the power fails.
-/
import Derived.Test.YtgenifcikfbfhaaZerL2
import Derived.BigQuiet
import Derived.StillTailTactics
namespace Go.Proofs.Ytgenifcikfbfhaa
open Go.RowKit Go.Shelf
attribute [local go_sem] Oper.semAt_some

/-- Whether one of the first k texts has changed. -/
def chUp (I J : List ByteArray) (k : Nat) : Bool := (List.range k).any fun j => !((I.getD j zeros).toList == (J.getD j zeros).toList)
theorem chUp_succ (I J : List ByteArray) (k : Nat) (x y : ByteArray) (hx : I[k]? = some x) (hy : J[k]? = some y) : chUp I J (k + 1) = (chUp I J k || !(x.toList == y.toList)) := by
  have e1 : I.getD k zeros = x := by rw [List.getD_eq_getElem?_getD, hx]; rfl
  have e2 : J.getD k zeros = y := by rw [List.getD_eq_getElem?_getD, hy]; rfl
  show (List.range (k + 1)).any _ = _
  rw [List.range_succ, List.any_append, List.any_cons, List.any_nil, Bool.or_false, e1, e2]
  rfl
theorem chUp_same (I : List ByteArray) (k : Nat) : chUp I I k = false := by
  unfold chUp
  rw [List.any_eq_false]
  intro j _
  rw [beq_self_eq_true]
  decide
theorem zcv64_drew (w : World) : (convert 38 9 (.slice (some ⟨w.heap.size, 0, none⟩) 64 64)).run Try.prog (w.alloc (.cells zc64 5)).drew = .ok (.string zeros) (w.alloc (.cells zc64 5)).drew := zcv64 w.drew
theorem meas_up {s k : Nat} (h : k < s) : s - (intOf (.int .i64 ((k : Int) + 1))).toNat < s - (intOf (.int .i64 (k : Int))).toNat := by
  simp [intOf]
  omega
section
variable {W W1 w w' : World} {a : DAt} {n s f : Nat} {D : Dev} {v : Value} {I : List ByteArray}
theorem Img.cell {g c m k : Nat} {t : ByteArray} (h : Img w (.slice (some ⟨g, 0, none⟩) m c) I a) (ht : I[k]? = some t) : w.cell? ⟨g, k, none⟩ = some (.string t) := by
  have hk := (List.getElem?_eq_some_iff.1 ht).1
  have hm : m = I.length := by
    rcases h.texts.2 with ⟨h0, _⟩ | ⟨_, _, _, h0, _⟩
    · cases h0
    · cases h0; rfl
  subst hm
  rw [World.ownsRow.cellAt h.texts k (by omega)]
  simp [strCells, ht]
theorem NewTexts.slice (hT : NewTexts w w' v I) (h0 : 0 < I.length) : ∃ g c, v = .slice (some ⟨g, 0, none⟩) I.length c := by
  rcases hT.1.2 with ⟨_, h1⟩ | ⟨g, cap, cur, rfl, _⟩
  · omega
  · exact ⟨g, cap, rfl⟩
/-- A row that the call itself has made. -/
theorem Img.made {base : Nat} (h : w.ownsRow base 9 1 v I.length (strCells I)) (hb : a.sb < base) : Img w v I a :=
  ⟨ownsRow_more h (Nat.zero_le _), fun k e => by have := (h.lt k e).1; omega⟩
theorem zmount_clean (P : List Int) (D : Dev) : ∀ s ∈ (zmount P D).M, s.dirty = false := by
  intro s hs
  obtain ⟨k, hk⟩ := List.mem_iff_getElem?.1 hs
  have hk' : (doneM (pick P) D.M (idxs Sec.dirty D.M))[k]? = some s := hk
  have hkl : k < D.M.length := by have := (List.getElem?_eq_some_iff.1 hk').1; rw [doneM_len] at this; exact this
  rcases cut_get P (List.getElem?_eq_getElem hkl) with ⟨hd, hy⟩ | ⟨hd, n, hn, hy⟩
  · rw [hy] at hk'; cases hk'; exact hd
  · rw [hy] at hk'; cases hk'; exact settle_clean _ _
set_option maxRecDepth 100000 in
set_option maxHeartbeats 1600000 in
theorem order_bad (x y z t : Int) (A : Option Addr) (N c : Nat) (A' : Option Addr) (N' c' : Nat) (h : ¬ (1 ≤ x ∧ x ≤ 12 ∧ N ≤ 40 ∧ SizeFit x y z)) :
    Calls Try.prog 3 #[.agg #[.int .i64 x, .int .i64 y, .int .i64 z], .slice A N c, .int .i64 t, .slice A' N' c'] W fun e w' => e = .returned (.bool true) ∧ Below W.heap.size W w' := by
  obtain ⟨hk, hB⟩ := zbox W x y z
  have HB := Lib.hid hB
  have HD := Lib.hid (build_bad (W.alloc (.cells #[.int .i64 x, .int .i64 y, .int .i64 z] 23)) x y z A N c h)
  clear hk hB h
  go_enter Try.func3, Try.ntmps3
  go_wp2_with (first | (go_at_call 7; refine HD.out.mono ?_; rintro e w1 ⟨rfl, hB⟩; have HX := Lib.hid (HB.out.trans (hB.mono HB.out.size)); clear hB) | (go_at_call 8; refine (sanity_true _).mono ?_; rintro e w2 ⟨rfl, hB⟩; have HY := Lib.hid (HX.out.trans (hB.mono HX.out.size)); clear hB))
  go_ret
  exact ⟨rfl, HY.out⟩
set_option maxRecDepth 100000 in
set_option maxHeartbeats 8000000 in
theorem order_main (n s f : Nat) (hn : 1 ≤ n ∧ n ≤ 12) (hs : 1 ≤ s ∧ s ≤ 16) (hf : 1 ≤ f ∧ f ≤ 16) (t : Int) (ht : -9223372036854775808 ≤ t ∧ t ≤ 9223372036854775807) (v pv : Value) (ops : List DOp) (P : List Int) (hv : DOpsAt W v ops) (ho : OpsIn ops) (hN : ops.length ≤ 40) (hp : IntsAt W pv P) :
    Calls Try.prog 3 #[.agg #[.int .i64 n, .int .i64 s, .int .i64 f], v, .int .i64 t, pv] W fun e w' => e = .returned (.bool true) ∧ Below W.heap.size W w' := by
  obtain ⟨hk, hB⟩ := zbox W n s f
  obtain ⟨W1, hW1⟩ : ∃ W1, W.alloc (.cells #[.int .i64 n, .int .i64 s, .int .i64 f] 23) = W1 := ⟨_, rfl⟩
  rw [hW1] at hB hk
  have HD := Lib.hid (build_st W1 n s f hn hs hf v ops (hv.below hB) ho hN)
  have HP := Lib.hid (hp.below hB)
  obtain ⟨A, c, rfl, hvr⟩ := hv
  obtain ⟨A', c', rfl, hpr⟩ := hp
  clear hvr hpr
  have HB := Lib.hid hB
  have HK := Lib.hid hk
  have Hn := Lib.hid (And.intro hn (And.intro hs hf))
  have HT := Lib.hid ht
  have q0 := hk.cell 0
  have q1 := hk.cell 1
  have q2 := hk.cell 2
  clear hB hk ho hN hn hs hf
  by_cases ht0 : t < 0
  · have d2 : decide (t < 0) = true := decide_eq_true ht0
    clear ht ht0
    go_enter Try.func3, Try.ntmps3
    go_wp2_with (first | (go_at_call 7; refine HD.out.mono ?_; rintro e w1 ⟨a, D0, rfl, h0⟩) | (go_at_call 8; refine h0.out.sane.mono ?_; rintro e w7 ⟨rfl, hd2⟩))
    go_ret
    exact ⟨rfl, HB.out.trans (hd2.out.dev.bel.mono HB.out.size)⟩
  have d2 : decide (t < 0) = false := decide_eq_false ht0
  have Ht0 := Lib.hid ht0
  clear ht ht0
  obtain ⟨i0, hi, hz0, hz1, hz2⟩ := info_parts infoString
  have zk2 := zmk64
  have zk3 := zcv64
  have zk4 := zcv64_drew
  go_enter Try.func3, Try.ntmps3
  go_wp2_with fail
  refine HD.out.mono ?_
  rintro e w1 ⟨a, D0, rfl, h0⟩
  go_wp2_with fail
  refine h0.out.mount0.mono ?_
  rintro e w2 ⟨rfl, h1, _⟩
  obtain ⟨m1, m2⟩ := mounted [] D0
  have m3 := zmount_clean [] D0
  generalize zmount [] D0 = D1 at h1 m1 m2 m3
  go_wp2_with fail
  refine (h1.out.burned 0).mono ?_
  rintro e w3 ⟨rfl, rfl⟩
  cases hb0 : fuseB D1 0 with
  | true =>
    go_wp2_with (first | (go_at_call 8; refine h1.out.sane.mono ?_; rintro e w7 ⟨rfl, hd2⟩))
    go_ret
    exact ⟨rfl, HB.out.trans (hd2.out.dev.bel.mono HB.out.size)⟩
  | false =>
  go_wp2_with fail
  refine (h1.out.burned 1).mono ?_
  rintro e w3 ⟨rfl, rfl⟩
  cases hb1 : fuseB D1 1 with
  | true =>
    go_wp2_with (first | (go_at_call 8; refine h1.out.sane.mono ?_; rintro e w7 ⟨rfl, hd2⟩))
    go_ret
    exact ⟨rfl, HB.out.trans (hd2.out.dev.bel.mono HB.out.size)⟩
  | false =>
  obtain ⟨tn, htn⟩ : ∃ tn : Nat, t = tn := ⟨t.toNat, by have := Ht0.out; omega⟩
  have hord : Hid (ZOrd D1 (zmount P (zbegin (ztrip t D1)).2)) := by
    have h2 := zorder (ztrip t D1) P m1 h1.out.ok.fine m3 hb0 hb1 (by show 0 < D1.fuses.length; rw [h1.out.ok.fuses]; have := Hn.out.2.2; omega) tn (by show max t (-1) = _; omega)
    exact ⟨h2.len, h2.done, h2.not, h2.begun⟩
  have hdn := Lib.hid (And.intro m1 (And.intro h1.out.ok.slots h1.out.ok.M))
  clear hb0 hb1 m1 m2 m3 htn h0 HD
  go_wp2_with fail
  go_loopw [10, 11] (fun u i wr => ∃ (k : Nat) (u0 : Value), u0 = u ∧ k ≤ s ∧ i = .int .i64 k ∧ Hid (wr.ownsRow w2.heap.size 9 1 u0 k (strCells (D1.slots.take k))) ∧ Hid (Below w2.heap.size w2 wr)) (fun _ i _ => s - (intOf i).toNat)
  case atStart => exact ⟨0, _, rfl, Nat.zero_le _, rfl, World.ownsRow_nil _ _ _ _, Below.refl _ _⟩
  case round =>
    obtain ⟨k, u, rfl, hk, rfl, hown, hB⟩ := hrel
    have hwk : wrap64 ((k : Int) + 1) = (k : Int) + 1 := by have := Hn.out; unfold wrap64; omega
    have h2 := Lib.hid (h1.out.on hB.out)
    obtain ⟨r0, r1, r2⟩ := h2.out.box HK.out
    by_cases hkl : k < s
    · have Hkl := Lib.hid hkl
      have hd1 : decide (k < s) = true := decide_eq_true hkl
      obtain ⟨x, hx⟩ : ∃ x, D1.slots[k]? = some x := ⟨_, List.getElem?_eq_getElem (by rw [hdn.out.2.1]; exact hkl)⟩
      have hld : Hid (Calls Try.prog 11 #[.pointer (some ⟨a.d, 0, none⟩), .int .i64 k] wr fun e w' => e = .returned (.tuple #[.string x, .int .i64 0]) ∧ wr = w') := by
        have hk2 : inS D1.slots (k : Int) := ⟨by omega, by rw [hdn.out.2.1]; omega⟩
        have e1 : (if D1.down = true then (⟨#[]⟩ : ByteArray) else if inS D1.slots (k : Int) then D1.slots.getD (k : Int).toNat ⟨#[]⟩ else ⟨#[]⟩) = x := by
          rw [if_neg (by rw [hdn.out.1]; decide), if_pos hk2, Int.toNat_natCast, List.getD_eq_getElem?_getD, hx]
          rfl
        have e2 : (if D1.down = true then (14 : Int) else if inS D1.slots (k : Int) then 0 else 1) = 0 := by
          rw [if_neg (by rw [hdn.out.1]; decide), if_pos hk2]
        have := dLoad_any h2.out.dev.dev k
        rw [e1, e2] at this
        exact this
      have Hx := Lib.hid hx
      clear hkl hx
      go_wp2_with (first | (go_at_call 11; refine hld.out.mono ?_; rintro e w4 ⟨rfl, rfl⟩) | (at_builtin; refine wpList_append_own _ rfl _ _ 31 rfl w2.heap.size 9 i0 _ 1 16 Try.underlying31 hi hz0 hz1 hz2 rfl (by decide) _ k (strCells (D1.slots.take k)) rfl (hown.out.alloc _) ⟨wr.heap.size, 0, none⟩ 1 1 [.string x] rfl rfl ?c1 ?c2 ?c3 ?c4 ?c5 ?_))
      case c1 => exact news_cells (Blk.new wr 9 #[.string x])
      case c2 => simp [Value.oneCell']
      case c3 => have := Hn.out; unfold maxLen; omega
      case c4 => have := Hn.out; omega
      case c5 => have := hB.out.size; simp; omega
      intro v' w5 hown3 hg3 hn3
      have hB3 : Hid (Below w2.heap.size w2 w5) := (hB.out.alloc hB.out.size _).grown hg3 (by have := hB.out.size; simp; omega) (fun g e => (hown.out.lt g e).1)
      have hown4 : Hid (w5.ownsRow w2.heap.size 9 1 v' (k + 1) (strCells (D1.slots.take (k + 1)))) := by
        have e : D1.slots.take (k + 1) = D1.slots.take k ++ [x] := by
          rw [List.take_add_one, Hx.out]; rfl
        unfold Hid
        rw [e, strCells_snoc]; exact hown3
      clear hg3 hn3 hown3
      go_wp2_with fail
      go_roundw
      case rel => exact ⟨k + 1, _, rfl, Hkl.out, by go_num, hown4, hB3⟩
      case measure => rw [hwk]; exact meas_up Hkl.out
    · obtain rfl : k = s := by omega
      have hd1 : decide (k < k) = false := decide_eq_false hkl
      clear hkl
      have hI0 : Hid (Img wr u D1.slots a) := by
        have h3 := hown.out
        have h4 : k = D1.slots.length := hdn.out.2.1.symm
        rw [List.take_of_length_le (by omega), h4] at h3
        obtain ⟨_, q3⟩ := DevIs.sblk h1.out.dev.dev
        exact Img.made h3 q3.lt
      have h0r := hI0.out.texts
      obtain ⟨gs, cs, rfl⟩ : ∃ gs cs, u = .slice (some ⟨gs, 0, none⟩) k cs := by
        rcases hown.out.2 with ⟨_, h1⟩ | ⟨g, cap, cur, h, _⟩
        · have := Hn.out.2.1; omega
        · exact ⟨g, cap, h⟩
      clear hown h1 h0r
      go_wp2_with fail
      refine h2.out.image.mono ?_
      rintro e w4 ⟨vb, rfl, hTb, h3⟩
      obtain ⟨gb, cb, rfl⟩ := hTb.out.slice (by rw [List.length_map, hdn.out.2.2]; exact Hn.out.1.1)
      have hIb := Lib.hid (Img.fresh hTb.out h2.out.dev.dev)
      have hI1 := Lib.hid (hI0.out.below hTb.out.2.2)
      rw [List.length_map, hdn.out.2.2] at hIb ⊢
      clear hTb h2 hI0
      go_wp2_with fail
      refine (h3.out.trip t HT.out).mono ?_
      rintro e w5 ⟨rfl, h4, hF⟩
      have hIb1 := Lib.hid (DLeft.img hF.out h3.out.dev.dev hIb.out)
      have hI2 := Lib.hid (DLeft.img hF.out h3.out.dev.dev hI1.out)
      clear h3 hF hIb hI1
      go_wp2_with fail
      refine h4.out.begin_.mono ?_
      rintro e w6 ⟨rfl, h5, hF⟩
      have hIb2 := Lib.hid (DLeft.img hF.out h4.out.dev.dev hIb1.out)
      have hI3 := Lib.hid (DLeft.img hF.out h4.out.dev.dev hI2.out)
      clear h4 hF hIb1 hI2
      go_wp2_with fail
      refine (h5.out.mount _ P HP.out).mono ?_
      rintro e w7 ⟨rfl, h6, hF⟩
      have hIb3 := Lib.hid (DLeft.img hF.out h5.out.dev.dev hIb2.out)
      have hI4 := Lib.hid (DLeft.img hF.out h5.out.dev.dev hI3.out)
      have hdn2 : Hid ((zmount P (zbegin (ztrip t D1)).2).down = false ∧ (zmount P (zbegin (ztrip t D1)).2).slots.length = k ∧ (zmount P (zbegin (ztrip t D1)).2).M.length = n) := ⟨rfl, h6.out.ok.slots, h6.out.ok.M⟩
      generalize zmount P (zbegin (ztrip t D1)).2 = D2 at hord h6 hdn2
      clear h5 hF hIb2 hI3
      go_wp2_with fail
      refine h6.out.image.mono ?_
      rintro e w8 ⟨va, rfl, hTa, h7⟩
      obtain ⟨ga, ca, rfl⟩ := hTa.out.slice (by rw [List.length_map, hdn2.out.2.2]; exact Hn.out.1.1)
      have hIa := Lib.hid (Img.fresh hTa.out h6.out.dev.dev)
      have hIb4 := Lib.hid (hIb3.out.below hTa.out.2.2)
      have hI5 := Lib.hid (hI4.out.below hTa.out.2.2)
      rw [List.length_map, hdn2.out.2.2] at hIa ⊢
      obtain ⟨r0, r1, r2⟩ := h7.out.box HK.out
      clear hTa h6 hIb3 hI4
      go_wp2_with fail
      have hI1l : (D1.M.map Sec.now).length = n := by rw [List.length_map]; exact hdn.out.2.2
      have hI2l : (D2.M.map Sec.now).length = n := by rw [List.length_map]; exact hdn2.out.2.2
      obtain ⟨I1, hI1e⟩ : ∃ I1, D1.M.map Sec.now = I1 := ⟨_, rfl⟩
      obtain ⟨I2, hI2e⟩ : ∃ I2, D2.M.map Sec.now = I2 := ⟨_, rfl⟩
      have hzd : Hid (fuseB D2 1 = true → ∀ (j : Nat) (x y : ByteArray), I1[j]? = some x → I2[j]? = some y → y = x ∨ y = zeros) := by
        intro hb j x y hx hy
        rw [← hI1e, List.getElem?_map] at hx
        rw [← hI2e, List.getElem?_map] at hy
        obtain ⟨sx, hsx, rfl⟩ := Option.map_eq_some_iff.1 hx
        obtain ⟨sy, hsy, rfl⟩ := Option.map_eq_some_iff.1 hy
        exact (hord.out.done hb).2 j sx sy hsx hsy
      have hsame : Hid (D2.M = D1.M → I2 = I1) := fun e => by rw [← hI1e, ← hI2e, e]
      rw [hI1e] at hIb4 hI1l
      rw [hI2e] at hIa hI2l
      have Hlen := Lib.hid (And.intro hI1l hI2l)
      clear hI1l hI2l hI1e hI2e
      go_loopw [16, 17] (fun ch i wr => ∃ j : Nat, j ≤ n ∧ ch = .bool (chUp I1 I2 j) ∧ i = .int .i64 j ∧ Hid (Below w8.heap.size w8 wr)) (fun _ i _ => n - (intOf i).toNat)
      case atStart => exact ⟨0, Nat.zero_le _, rfl, rfl, Below.refl _ _⟩
      case round =>
        obtain ⟨j, hj, rfl, rfl, hB2⟩ := hrel
        have hwj : wrap64 ((j : Int) + 1) = (j : Int) + 1 := by have := Hn.out; unfold wrap64; omega
        by_cases hjl : j < n
        · have Hjl := Lib.hid hjl
          have hd2 : decide (j < n) = true := decide_eq_true hjl
          obtain ⟨x, hx⟩ : ∃ x, I1[j]? = some x := ⟨_, List.getElem?_eq_getElem (by rw [Hlen.out.1]; exact hjl)⟩
          obtain ⟨y, hy⟩ : ∃ y, I2[j]? = some y := ⟨_, List.getElem?_eq_getElem (by rw [Hlen.out.2]; exact hjl)⟩
          have cx := (hIb4.out.below hB2.out).cell hx
          have cy := (hIa.out.below hB2.out).cell hy
          have Hch := Lib.hid (chUp_succ I1 I2 j x y hx hy)
          have hyz : Hid (fuseB D2 1 = true → x ≠ y → y = zeros) := fun h1 h2 => (hzd.out h1 j x y hx hy).resolve_left (fun e => h2 e.symm)
          have HBW : Hid (∀ wq, Below w8.heap.size w8 wq → Calls Try.prog 10 #[.pointer (some ⟨a.d, 0, none⟩), .int .i64 1] wq fun e w' => e = .returned (.bool (fuseB D2 1)) ∧ wq = w') := fun wq hq => (h7.out.on hq).burned 1
          clear hx hy hd1
          by_cases hxy : x = y
          · have dx := text_eq hxy
            clear hxy hyz
            cases hfb : fuseB D2 1 with
            | true =>
              rw [hfb] at HBW
              cases hc : chUp I1 I2 j with
              | true =>
                go_wp2_with fail
                go_quiet (fail)
                have hB3 : Hid (Below w8.heap.size w8 (wr.drewN nq)) := below_drewN hB2.out nq
                have cx2 : (wr.drewN nq).cell? ⟨gb, j, none⟩ = some (.string x) := cx
                have cy2 : (wr.drewN nq).cell? ⟨ga, j, none⟩ = some (.string y) := cy
                clear cx cy hB2
                generalize wr.drewN nq = w9 at hB3 cx2 cy2 ⊢
                have HBn : ∀ q, Hid (Calls Try.prog 10 #[.pointer (some ⟨a.d, 0, none⟩), .int .i64 1] (w9.drewN q) fun e w' => e = .returned (.bool true) ∧ w9.drewN q = w') := fun q => HBW.out _ (below_drewN hB3.out q)
                go_wp2_with fail
                go_quiet ((go_at_call 10; exact Calls.quiet_of_same (((HBn _).out).mono fun e w' h => ⟨h.1, h.2.symm⟩)))
                have hB4 : Hid (Below w8.heap.size w8 (w9.drewN nq)) := below_drewN hB3.out nq
                clear cx2 cy2 HBn hB3
                generalize w9.drewN nq = w10 at hB4 ⊢
                go_wp2_with fail
                go_roundw
                case rel => exact ⟨j + 1, Hjl.out, by rw [Hch.out, hc, dx]; rfl, by go_num, hB4⟩
                case measure => rw [hwj]; exact meas_up Hjl.out
              | false =>
                go_wp2_with fail
                go_quiet (fail)
                have hB3 : Hid (Below w8.heap.size w8 (wr.drewN nq)) := below_drewN hB2.out nq
                have cx2 : (wr.drewN nq).cell? ⟨gb, j, none⟩ = some (.string x) := cx
                have cy2 : (wr.drewN nq).cell? ⟨ga, j, none⟩ = some (.string y) := cy
                clear cx cy hB2
                generalize wr.drewN nq = w9 at hB3 cx2 cy2 ⊢
                have HBn : ∀ q, Hid (Calls Try.prog 10 #[.pointer (some ⟨a.d, 0, none⟩), .int .i64 1] (w9.drewN q) fun e w' => e = .returned (.bool true) ∧ w9.drewN q = w') := fun q => HBW.out _ (below_drewN hB3.out q)
                go_wp2_with fail
                go_quiet ((go_at_call 10; exact Calls.quiet_of_same (((HBn _).out).mono fun e w' h => ⟨h.1, h.2.symm⟩)))
                have hB4 : Hid (Below w8.heap.size w8 (w9.drewN nq)) := below_drewN hB3.out nq
                clear cx2 cy2 HBn hB3
                generalize w9.drewN nq = w10 at hB4 ⊢
                go_wp2_with fail
                go_roundw
                case rel => exact ⟨j + 1, Hjl.out, by rw [Hch.out, hc, dx]; rfl, by go_num, hB4⟩
                case measure => rw [hwj]; exact meas_up Hjl.out
            | false =>
              rw [hfb] at HBW
              cases hc : chUp I1 I2 j with
              | true =>
                go_wp2_with fail
                go_quiet (fail)
                have hB3 : Hid (Below w8.heap.size w8 (wr.drewN nq)) := below_drewN hB2.out nq
                have cx2 : (wr.drewN nq).cell? ⟨gb, j, none⟩ = some (.string x) := cx
                have cy2 : (wr.drewN nq).cell? ⟨ga, j, none⟩ = some (.string y) := cy
                clear cx cy hB2
                generalize wr.drewN nq = w9 at hB3 cx2 cy2 ⊢
                have HBn : ∀ q, Hid (Calls Try.prog 10 #[.pointer (some ⟨a.d, 0, none⟩), .int .i64 1] (w9.drewN q) fun e w' => e = .returned (.bool false) ∧ w9.drewN q = w') := fun q => HBW.out _ (below_drewN hB3.out q)
                go_wp2_with fail
                go_quiet ((go_at_call 10; exact Calls.quiet_of_same (((HBn _).out).mono fun e w' h => ⟨h.1, h.2.symm⟩)))
                have hB4 : Hid (Below w8.heap.size w8 (w9.drewN nq)) := below_drewN hB3.out nq
                clear cx2 cy2 HBn hB3
                generalize w9.drewN nq = w10 at hB4 ⊢
                go_wp2_with fail
                go_roundw
                case rel => exact ⟨j + 1, Hjl.out, by rw [Hch.out, hc, dx]; rfl, by go_num, hB4⟩
                case measure => rw [hwj]; exact meas_up Hjl.out
              | false =>
                go_wp2_with fail
                go_quiet (fail)
                have hB3 : Hid (Below w8.heap.size w8 (wr.drewN nq)) := below_drewN hB2.out nq
                have cx2 : (wr.drewN nq).cell? ⟨gb, j, none⟩ = some (.string x) := cx
                have cy2 : (wr.drewN nq).cell? ⟨ga, j, none⟩ = some (.string y) := cy
                clear cx cy hB2
                generalize wr.drewN nq = w9 at hB3 cx2 cy2 ⊢
                have HBn : ∀ q, Hid (Calls Try.prog 10 #[.pointer (some ⟨a.d, 0, none⟩), .int .i64 1] (w9.drewN q) fun e w' => e = .returned (.bool false) ∧ w9.drewN q = w') := fun q => HBW.out _ (below_drewN hB3.out q)
                go_wp2_with fail
                go_quiet ((go_at_call 10; exact Calls.quiet_of_same (((HBn _).out).mono fun e w' h => ⟨h.1, h.2.symm⟩)))
                have hB4 : Hid (Below w8.heap.size w8 (w9.drewN nq)) := below_drewN hB3.out nq
                clear cx2 cy2 HBn hB3
                generalize w9.drewN nq = w10 at hB4 ⊢
                go_wp2_with fail
                go_roundw
                case rel => exact ⟨j + 1, Hjl.out, by rw [Hch.out, hc, dx]; rfl, by go_num, hB4⟩
                case measure => rw [hwj]; exact meas_up Hjl.out
          · have dx := text_ne hxy
            cases hfb : fuseB D2 1 with
            | true =>
              rw [hfb] at HBW
              obtain rfl := hyz.out hfb hxy
              have dz : (zeros.toList == zeros.toList) = true := text_eq rfl
              clear hxy hyz
              cases hc : chUp I1 I2 j with
              | true =>
                go_wp2_with fail
                go_quiet (fail)
                have hB3 : Hid (Below w8.heap.size w8 (wr.drewN nq)) := below_drewN hB2.out nq
                have cx2 : (wr.drewN nq).cell? ⟨gb, j, none⟩ = some (.string x) := cx
                have cy2 : (wr.drewN nq).cell? ⟨ga, j, none⟩ = some (.string zeros) := cy
                clear cx cy hB2
                generalize wr.drewN nq = w9 at hB3 cx2 cy2 ⊢
                have HBn : ∀ q, Hid (Calls Try.prog 10 #[.pointer (some ⟨a.d, 0, none⟩), .int .i64 1] (w9.drewN q) fun e w' => e = .returned (.bool true) ∧ w9.drewN q = w') := fun q => HBW.out _ (below_drewN hB3.out q)
                go_wp2_with fail
                have hHeld2 : Hid ((w9.drew.alloc (.cells zc64 5)).cell? ⟨gb, j, none⟩ = some (.string x) ∧ (w9.drew.alloc (.cells zc64 5)).cell? ⟨ga, j, none⟩ = some (.string zeros)) :=
                  ⟨((Below.refl w9.heap.size w9).drew.alloc (Nat.le_refl _) _).cell (p := ⟨gb, j, none⟩) (cell_spot cx2).2 |>.trans cx2, ((Below.refl w9.heap.size w9).drew.alloc (Nat.le_refl _) _).cell (p := ⟨ga, j, none⟩) (cell_spot cy2).2 |>.trans cy2⟩
                refine wp_region_held_drew (S := (fun w' => w'.cell? ⟨gb, j, none⟩ = some (.string x) ∧ w'.cell? ⟨ga, j, none⟩ = some (.string zeros))) (by kernel_rfl) ⟨cx2, cy2⟩ (fun hHeld => ?_)
                refine' wpAnyH_take (i := 0) (v := ?v0) rfl (by kernel_rfl) (by kernel_rfl) (by kernel_rfl) (fun _ _ _ h => h) (Or.inl ⟨by go_simp, ?hy0⟩) hHeld ?rest0
                case hy0 =>
                  intro w hSw
                  try dsimp only at hSw
                  go_simp
                  all_goals with_reducible rfl
                try simp only [Act.put, List.setIfInBounds_toArray]
                refine wpAnyH_ready (rs := [1]) (by kernel_rfl) (by simp) ?_
                refine AllReadyH.cons rfl (fun K hK => ?_) AllReadyH.nil
                go_simp
                go_at_call 10; refine (HBW.out _ hB3.out.drew).mono ?_; rintro e w11 ⟨rfl, rfl⟩
                go_wp2_with fail
                refine hK.out _ _ ?_ (fun hHeld => ?_)
                · exact hHeld
                clear hK K
                try simp only [Act.put, List.setIfInBounds_toArray, List.set_cons_zero, List.set_cons_succ]
                refine' wpAnyH_take (i := 2) (v := ?v2) rfl (by kernel_rfl) (by kernel_rfl) (by kernel_rfl) (fun _ _ _ h => h) (Or.inl ⟨by go_simp, ?hy2⟩) hHeld ?rest2
                case hy2 =>
                  intro w hSw
                  try dsimp only at hSw
                  go_simp
                  all_goals with_reducible rfl
                try simp only [Act.put, List.setIfInBounds_toArray]
                refine' wpAnyH_take (i := 3) (v := ?v3) rfl (by kernel_rfl) (by kernel_rfl) (by kernel_rfl) (fun _ _ _ h => h) (Or.inl ⟨by go_simp, ?hy3⟩) hHeld ?rest3
                case hy3 =>
                  intro w hSw
                  try dsimp only at hSw
                  go_simp
                  all_goals with_reducible rfl
                try simp only [Act.put]
                refine' wpAnyH_take (i := 4) (v := ?v4) rfl (by kernel_rfl) (by kernel_rfl) (by kernel_rfl) (fun _ _ _ h => h) (Or.inl ⟨by go_simp, ?hy4⟩) hHeld ?rest4
                case hy4 =>
                  intro w hSw
                  try dsimp only at hSw
                  go_simp
                  all_goals with_reducible rfl
                try simp only [Act.put]
                refine' wpAnyH_take (i := 5) (v := ?v5) rfl (by kernel_rfl) (by kernel_rfl) (by kernel_rfl) (fun _ _ _ h => h) (Or.inl ⟨by go_simp, ?hy5⟩) hHeld ?rest5
                case hy5 =>
                  intro w hSw
                  try dsimp only at hSw
                  go_simp
                  all_goals with_reducible rfl
                try simp only [Act.put]
                refine' wpAnyH_take (i := 6) (v := ?v6) rfl (by kernel_rfl) (by kernel_rfl) (by kernel_rfl) (fun _ _ _ h => h) (Or.inl ⟨by go_simp, ?hy6⟩) hHeld ?rest6
                case hy6 =>
                  intro w hSw
                  try dsimp only at hSw
                  go_simp
                  all_goals with_reducible rfl
                try simp only [Act.put]
                refine' wpAnyH_take (i := 7) (v := ?v7) rfl (by kernel_rfl) (by kernel_rfl) (by kernel_rfl) (fun _ _ _ h => h) (Or.inl ⟨by go_simp, ?hy7⟩) hHeld ?rest7
                case hy7 =>
                  intro w hSw
                  try dsimp only at hSw
                  go_simp
                  all_goals with_reducible rfl
                try simp only [Act.put]
                refine' wpAnyH_take (i := 8) (v := ?v8) rfl (by kernel_rfl) (by kernel_rfl) (by kernel_rfl) (fun _ _ _ h => h) (Or.inl ⟨by go_simp, ?hy8⟩) hHeld ?rest8
                case hy8 =>
                  intro w hSw
                  try dsimp only at hSw
                  go_simp
                  all_goals with_reducible rfl
                try simp only [Act.put]
                refine' wpAnyH_take (i := 9) (v := ?v9) rfl (by kernel_rfl) (by kernel_rfl) (by kernel_rfl) (fun _ _ _ h => h) (Or.inl ⟨by go_simp, ?hy9⟩) hHeld ?rest9
                case hy9 =>
                  intro w hSw
                  try dsimp only at hSw
                  go_simp
                  all_goals with_reducible rfl
                try simp only [Act.put]
                refine' wpAnyH_take (i := 10) (v := ?v10) rfl (by kernel_rfl) (by kernel_rfl) (by kernel_rfl) (fun _ _ _ h => h) (Or.inl ⟨by go_simp, ?hy10⟩) hHeld ?rest10
                case hy10 =>
                  intro w hSw
                  try dsimp only at hSw
                  go_simp
                  all_goals with_reducible rfl
                try simp only [Act.put]
                refine' wpAnyH_take (i := 11) (v := ?v11) rfl (by kernel_rfl) (by kernel_rfl) (by kernel_rfl) (fun _ _ _ h => h) (Or.inl ⟨by go_simp, ?hy11⟩) hHeld ?rest11
                case hy11 =>
                  intro w hSw
                  try dsimp only at hSw
                  go_simp
                  all_goals with_reducible rfl
                try simp only [Act.put]
                refine' wpAnyH_take (i := 12) (v := ?v12) rfl (by kernel_rfl) (by kernel_rfl) (by kernel_rfl) (fun _ _ _ h => h) (Or.inl ⟨by go_simp, ?hy12⟩) hHeld ?rest12
                case hy12 =>
                  intro w hSw
                  try dsimp only at hSw
                  go_simp
                  all_goals with_reducible rfl
                try simp only [Act.put]
                refine' wpAnyH_take (i := 13) (v := ?v13) rfl (by kernel_rfl) (by kernel_rfl) (by kernel_rfl) (fun _ _ _ h => h) (Or.inl ⟨by go_simp, ?hy13⟩) hHeld ?rest13
                case hy13 =>
                  intro w hSw
                  try dsimp only at hSw
                  go_simp
                  all_goals with_reducible rfl
                try simp only [Act.put]
                refine' wpAnyH_take (i := 14) (v := ?v14) rfl (by kernel_rfl) (by kernel_rfl) (by kernel_rfl) (fun _ _ _ h => h) (Or.inl ⟨by go_simp, ?hy14⟩) hHeld ?rest14
                case hy14 =>
                  intro w hSw
                  try dsimp only at hSw
                  go_simp
                  all_goals with_reducible rfl
                try simp only [Act.put]
                refine' wpAnyH_take (i := 15) (v := ?v15) rfl (by kernel_rfl) (by kernel_rfl) (by kernel_rfl) (fun _ _ _ h => h) (Or.inl ⟨by go_simp, ?hy15⟩) hHeld ?rest15
                case hy15 =>
                  intro w hSw
                  try dsimp only at hSw
                  go_simp
                  all_goals with_reducible rfl
                try simp only [Act.put]
                refine' wpAnyH_take (i := 16) (v := ?v16) rfl (by kernel_rfl) (by kernel_rfl) (by kernel_rfl) (fun _ _ _ h => h) (Or.inl ⟨by go_simp, ?hy16⟩) hHeld ?rest16
                case hy16 =>
                  intro w hSw
                  try dsimp only at hSw
                  go_simp
                  all_goals with_reducible rfl
                try simp only [Act.put]
                refine' wpAnyH_take (i := 17) (v := ?v17) rfl (by kernel_rfl) (by kernel_rfl) (by kernel_rfl) (fun _ _ _ h => h) (Or.inl ⟨by go_simp, ?hy17⟩) hHeld ?rest17
                case hy17 =>
                  intro w hSw
                  try dsimp only at hSw
                  go_simp
                  all_goals with_reducible rfl
                try simp only [Act.put]
                refine wpAnyH_ready (rs := [18]) (by kernel_rfl) (by simp) ?_
                refine AllReadyH.cons rfl (fun K hK => ?_) AllReadyH.nil
                go_simp
                refine hK.out _ _ ?_ (fun hHeld => ?_)
                · exact hHeld2.out
                clear hK K
                try simp only [Act.put, List.setIfInBounds_toArray, List.set_cons_zero, List.set_cons_succ]
                refine wpAnyH_ready (rs := [19]) (by kernel_rfl) (by simp) ?_
                refine AllReadyH.cons rfl (fun K hK => ?_) AllReadyH.nil
                go_simp
                refine hK.out _ _ ?_ (fun hHeld => ?_)
                · exact hHeld
                clear hK K
                try simp only [Act.put, List.setIfInBounds_toArray, List.set_cons_zero, List.set_cons_succ]
                refine' wpAnyH_take (i := 20) (v := ?v20) rfl (by kernel_rfl) (by kernel_rfl) (by kernel_rfl) (fun _ _ _ h => h) (Or.inl ⟨by go_simp, ?hy20⟩) hHeld ?rest20
                case hy20 =>
                  intro w hSw
                  try dsimp only at hSw
                  go_simp
                  all_goals with_reducible rfl
                try simp only [Act.put, List.setIfInBounds_toArray]
                refine' wpAnyH_take (i := 21) (v := ?v21) rfl (by kernel_rfl) (by kernel_rfl) (by kernel_rfl) (fun _ _ _ h => h) (Or.inl ⟨by go_simp, ?hy21⟩) hHeld ?rest21
                case hy21 =>
                  intro w hSw
                  try dsimp only at hSw
                  go_simp
                  all_goals with_reducible rfl
                try simp only [Act.put]
                refine wpAnyH_done (by kernel_rfl) ?_ _
                go_wp2_with fail
                go_roundw
                case rel => exact ⟨j + 1, Hjl.out, by rw [Hch.out, hc, dx]; rfl, by go_num, hB3.out.drew.alloc hB3.out.size _⟩
                case measure => rw [hwj]; exact meas_up Hjl.out
              | false =>
                go_wp2_with fail
                go_quiet (fail)
                have hB3 : Hid (Below w8.heap.size w8 (wr.drewN nq)) := below_drewN hB2.out nq
                have cx2 : (wr.drewN nq).cell? ⟨gb, j, none⟩ = some (.string x) := cx
                have cy2 : (wr.drewN nq).cell? ⟨ga, j, none⟩ = some (.string zeros) := cy
                clear cx cy hB2
                generalize wr.drewN nq = w9 at hB3 cx2 cy2 ⊢
                have HBn : ∀ q, Hid (Calls Try.prog 10 #[.pointer (some ⟨a.d, 0, none⟩), .int .i64 1] (w9.drewN q) fun e w' => e = .returned (.bool true) ∧ w9.drewN q = w') := fun q => HBW.out _ (below_drewN hB3.out q)
                go_wp2_with fail
                have hHeld2 : Hid ((w9.drew.alloc (.cells zc64 5)).cell? ⟨gb, j, none⟩ = some (.string x) ∧ (w9.drew.alloc (.cells zc64 5)).cell? ⟨ga, j, none⟩ = some (.string zeros)) :=
                  ⟨((Below.refl w9.heap.size w9).drew.alloc (Nat.le_refl _) _).cell (p := ⟨gb, j, none⟩) (cell_spot cx2).2 |>.trans cx2, ((Below.refl w9.heap.size w9).drew.alloc (Nat.le_refl _) _).cell (p := ⟨ga, j, none⟩) (cell_spot cy2).2 |>.trans cy2⟩
                refine wp_region_held_drew (S := (fun w' => w'.cell? ⟨gb, j, none⟩ = some (.string x) ∧ w'.cell? ⟨ga, j, none⟩ = some (.string zeros))) (by kernel_rfl) ⟨cx2, cy2⟩ (fun hHeld => ?_)
                refine' wpAnyH_take (i := 0) (v := ?vb0) rfl (by kernel_rfl) (by kernel_rfl) (by kernel_rfl) (fun _ _ _ h => h) (Or.inl ⟨by go_simp, ?hyb0⟩) hHeld ?restb0
                case hyb0 =>
                  intro w hSw
                  try dsimp only at hSw
                  go_simp
                  all_goals with_reducible rfl
                try simp only [Act.put, List.setIfInBounds_toArray]
                refine wpAnyH_ready (rs := [1]) (by kernel_rfl) (by simp) ?_
                refine AllReadyH.cons rfl (fun K hK => ?_) AllReadyH.nil
                go_simp
                go_at_call 10; refine (HBW.out _ hB3.out.drew).mono ?_; rintro e w11 ⟨rfl, rfl⟩
                go_wp2_with fail
                refine hK.out _ _ ?_ (fun hHeld => ?_)
                · exact hHeld
                clear hK K
                try simp only [Act.put, List.setIfInBounds_toArray, List.set_cons_zero, List.set_cons_succ]
                refine' wpAnyH_take (i := 2) (v := ?vb2) rfl (by kernel_rfl) (by kernel_rfl) (by kernel_rfl) (fun _ _ _ h => h) (Or.inl ⟨by go_simp, ?hyb2⟩) hHeld ?restb2
                case hyb2 =>
                  intro w hSw
                  try dsimp only at hSw
                  go_simp
                  all_goals with_reducible rfl
                try simp only [Act.put, List.setIfInBounds_toArray]
                refine' wpAnyH_take (i := 3) (v := ?vb3) rfl (by kernel_rfl) (by kernel_rfl) (by kernel_rfl) (fun _ _ _ h => h) (Or.inl ⟨by go_simp, ?hyb3⟩) hHeld ?restb3
                case hyb3 =>
                  intro w hSw
                  try dsimp only at hSw
                  go_simp
                  all_goals with_reducible rfl
                try simp only [Act.put]
                refine' wpAnyH_take (i := 4) (v := ?vb4) rfl (by kernel_rfl) (by kernel_rfl) (by kernel_rfl) (fun _ _ _ h => h) (Or.inl ⟨by go_simp, ?hyb4⟩) hHeld ?restb4
                case hyb4 =>
                  intro w hSw
                  try dsimp only at hSw
                  go_simp
                  all_goals with_reducible rfl
                try simp only [Act.put]
                refine' wpAnyH_take (i := 5) (v := ?vb5) rfl (by kernel_rfl) (by kernel_rfl) (by kernel_rfl) (fun _ _ _ h => h) (Or.inl ⟨by go_simp, ?hyb5⟩) hHeld ?restb5
                case hyb5 =>
                  intro w hSw
                  try dsimp only at hSw
                  go_simp
                  all_goals with_reducible rfl
                try simp only [Act.put]
                refine' wpAnyH_take (i := 6) (v := ?vb6) rfl (by kernel_rfl) (by kernel_rfl) (by kernel_rfl) (fun _ _ _ h => h) (Or.inl ⟨by go_simp, ?hyb6⟩) hHeld ?restb6
                case hyb6 =>
                  intro w hSw
                  try dsimp only at hSw
                  go_simp
                  all_goals with_reducible rfl
                try simp only [Act.put]
                refine' wpAnyH_take (i := 7) (v := ?vb7) rfl (by kernel_rfl) (by kernel_rfl) (by kernel_rfl) (fun _ _ _ h => h) (Or.inl ⟨by go_simp, ?hyb7⟩) hHeld ?restb7
                case hyb7 =>
                  intro w hSw
                  try dsimp only at hSw
                  go_simp
                  all_goals with_reducible rfl
                try simp only [Act.put]
                refine' wpAnyH_take (i := 8) (v := ?vb8) rfl (by kernel_rfl) (by kernel_rfl) (by kernel_rfl) (fun _ _ _ h => h) (Or.inl ⟨by go_simp, ?hyb8⟩) hHeld ?restb8
                case hyb8 =>
                  intro w hSw
                  try dsimp only at hSw
                  go_simp
                  all_goals with_reducible rfl
                try simp only [Act.put]
                refine' wpAnyH_take (i := 9) (v := ?vb9) rfl (by kernel_rfl) (by kernel_rfl) (by kernel_rfl) (fun _ _ _ h => h) (Or.inl ⟨by go_simp, ?hyb9⟩) hHeld ?restb9
                case hyb9 =>
                  intro w hSw
                  try dsimp only at hSw
                  go_simp
                  all_goals with_reducible rfl
                try simp only [Act.put]
                refine' wpAnyH_take (i := 10) (v := ?vb10) rfl (by kernel_rfl) (by kernel_rfl) (by kernel_rfl) (fun _ _ _ h => h) (Or.inl ⟨by go_simp, ?hyb10⟩) hHeld ?restb10
                case hyb10 =>
                  intro w hSw
                  try dsimp only at hSw
                  go_simp
                  all_goals with_reducible rfl
                try simp only [Act.put]
                refine' wpAnyH_take (i := 11) (v := ?vb11) rfl (by kernel_rfl) (by kernel_rfl) (by kernel_rfl) (fun _ _ _ h => h) (Or.inl ⟨by go_simp, ?hyb11⟩) hHeld ?restb11
                case hyb11 =>
                  intro w hSw
                  try dsimp only at hSw
                  go_simp
                  all_goals with_reducible rfl
                try simp only [Act.put]
                refine' wpAnyH_take (i := 12) (v := ?vb12) rfl (by kernel_rfl) (by kernel_rfl) (by kernel_rfl) (fun _ _ _ h => h) (Or.inl ⟨by go_simp, ?hyb12⟩) hHeld ?restb12
                case hyb12 =>
                  intro w hSw
                  try dsimp only at hSw
                  go_simp
                  all_goals with_reducible rfl
                try simp only [Act.put]
                refine' wpAnyH_take (i := 13) (v := ?vb13) rfl (by kernel_rfl) (by kernel_rfl) (by kernel_rfl) (fun _ _ _ h => h) (Or.inl ⟨by go_simp, ?hyb13⟩) hHeld ?restb13
                case hyb13 =>
                  intro w hSw
                  try dsimp only at hSw
                  go_simp
                  all_goals with_reducible rfl
                try simp only [Act.put]
                refine' wpAnyH_take (i := 14) (v := ?vb14) rfl (by kernel_rfl) (by kernel_rfl) (by kernel_rfl) (fun _ _ _ h => h) (Or.inl ⟨by go_simp, ?hyb14⟩) hHeld ?restb14
                case hyb14 =>
                  intro w hSw
                  try dsimp only at hSw
                  go_simp
                  all_goals with_reducible rfl
                try simp only [Act.put]
                refine' wpAnyH_take (i := 15) (v := ?vb15) rfl (by kernel_rfl) (by kernel_rfl) (by kernel_rfl) (fun _ _ _ h => h) (Or.inl ⟨by go_simp, ?hyb15⟩) hHeld ?restb15
                case hyb15 =>
                  intro w hSw
                  try dsimp only at hSw
                  go_simp
                  all_goals with_reducible rfl
                try simp only [Act.put]
                refine' wpAnyH_take (i := 16) (v := ?vb16) rfl (by kernel_rfl) (by kernel_rfl) (by kernel_rfl) (fun _ _ _ h => h) (Or.inl ⟨by go_simp, ?hyb16⟩) hHeld ?restb16
                case hyb16 =>
                  intro w hSw
                  try dsimp only at hSw
                  go_simp
                  all_goals with_reducible rfl
                try simp only [Act.put]
                refine' wpAnyH_take (i := 17) (v := ?vb17) rfl (by kernel_rfl) (by kernel_rfl) (by kernel_rfl) (fun _ _ _ h => h) (Or.inl ⟨by go_simp, ?hyb17⟩) hHeld ?restb17
                case hyb17 =>
                  intro w hSw
                  try dsimp only at hSw
                  go_simp
                  all_goals with_reducible rfl
                try simp only [Act.put]
                refine wpAnyH_ready (rs := [18]) (by kernel_rfl) (by simp) ?_
                refine AllReadyH.cons rfl (fun K hK => ?_) AllReadyH.nil
                go_simp
                refine hK.out _ _ ?_ (fun hHeld => ?_)
                · exact hHeld2.out
                clear hK K
                try simp only [Act.put, List.setIfInBounds_toArray, List.set_cons_zero, List.set_cons_succ]
                refine wpAnyH_ready (rs := [19]) (by kernel_rfl) (by simp) ?_
                refine AllReadyH.cons rfl (fun K hK => ?_) AllReadyH.nil
                go_simp
                refine hK.out _ _ ?_ (fun hHeld => ?_)
                · exact hHeld
                clear hK K
                try simp only [Act.put, List.setIfInBounds_toArray, List.set_cons_zero, List.set_cons_succ]
                refine' wpAnyH_take (i := 20) (v := ?vb20) rfl (by kernel_rfl) (by kernel_rfl) (by kernel_rfl) (fun _ _ _ h => h) (Or.inl ⟨by go_simp, ?hyb20⟩) hHeld ?restb20
                case hyb20 =>
                  intro w hSw
                  try dsimp only at hSw
                  go_simp
                  all_goals with_reducible rfl
                try simp only [Act.put, List.setIfInBounds_toArray]
                refine' wpAnyH_take (i := 21) (v := ?vb21) rfl (by kernel_rfl) (by kernel_rfl) (by kernel_rfl) (fun _ _ _ h => h) (Or.inl ⟨by go_simp, ?hyb21⟩) hHeld ?restb21
                case hyb21 =>
                  intro w hSw
                  try dsimp only at hSw
                  go_simp
                  all_goals with_reducible rfl
                try simp only [Act.put]
                refine wpAnyH_done (by kernel_rfl) ?_ _
                go_wp2_with fail
                go_roundw
                case rel => exact ⟨j + 1, Hjl.out, by rw [Hch.out, hc, dx]; rfl, by go_num, hB3.out.drew.alloc hB3.out.size _⟩
                case measure => rw [hwj]; exact meas_up Hjl.out
            | false =>
              rw [hfb] at HBW
              clear hxy hyz
              cases hc : chUp I1 I2 j with
              | true =>
                go_wp2_with fail
                go_quiet (fail)
                have hB3 : Hid (Below w8.heap.size w8 (wr.drewN nq)) := below_drewN hB2.out nq
                have cx2 : (wr.drewN nq).cell? ⟨gb, j, none⟩ = some (.string x) := cx
                have cy2 : (wr.drewN nq).cell? ⟨ga, j, none⟩ = some (.string y) := cy
                clear cx cy hB2
                generalize wr.drewN nq = w9 at hB3 cx2 cy2 ⊢
                have HBn : ∀ q, Hid (Calls Try.prog 10 #[.pointer (some ⟨a.d, 0, none⟩), .int .i64 1] (w9.drewN q) fun e w' => e = .returned (.bool false) ∧ w9.drewN q = w') := fun q => HBW.out _ (below_drewN hB3.out q)
                go_wp2_with fail
                go_quiet ((go_at_call 10; exact Calls.quiet_of_same (((HBn _).out).mono fun e w' h => ⟨h.1, h.2.symm⟩)))
                have hB4 : Hid (Below w8.heap.size w8 (w9.drewN nq)) := below_drewN hB3.out nq
                clear cx2 cy2 HBn hB3
                generalize w9.drewN nq = w10 at hB4 ⊢
                go_wp2_with fail
                go_roundw
                case rel => exact ⟨j + 1, Hjl.out, by rw [Hch.out, hc, dx]; rfl, by go_num, hB4⟩
                case measure => rw [hwj]; exact meas_up Hjl.out
              | false =>
                go_wp2_with fail
                go_quiet (fail)
                have hB3 : Hid (Below w8.heap.size w8 (wr.drewN nq)) := below_drewN hB2.out nq
                have cx2 : (wr.drewN nq).cell? ⟨gb, j, none⟩ = some (.string x) := cx
                have cy2 : (wr.drewN nq).cell? ⟨ga, j, none⟩ = some (.string y) := cy
                clear cx cy hB2
                generalize wr.drewN nq = w9 at hB3 cx2 cy2 ⊢
                have HBn : ∀ q, Hid (Calls Try.prog 10 #[.pointer (some ⟨a.d, 0, none⟩), .int .i64 1] (w9.drewN q) fun e w' => e = .returned (.bool false) ∧ w9.drewN q = w') := fun q => HBW.out _ (below_drewN hB3.out q)
                go_wp2_with fail
                go_quiet ((go_at_call 10; exact Calls.quiet_of_same (((HBn _).out).mono fun e w' h => ⟨h.1, h.2.symm⟩)))
                have hB4 : Hid (Below w8.heap.size w8 (w9.drewN nq)) := below_drewN hB3.out nq
                clear cx2 cy2 HBn hB3
                generalize w9.drewN nq = w10 at hB4 ⊢
                go_wp2_with fail
                go_roundw
                case rel => exact ⟨j + 1, Hjl.out, by rw [Hch.out, hc, dx]; rfl, by go_num, hB4⟩
                case measure => rw [hwj]; exact meas_up Hjl.out
        · obtain rfl : j = n := by omega
          have hd2 : decide (j < j) = false := decide_eq_false hjl
          clear hjl
          have h8 := Lib.hid (h7.out.on hB2.out)
          have hIs := Lib.hid (hI5.out.below hB2.out)
          cases hf0 : fuseB D2 0 with
          | false =>
            obtain ⟨hs1, hs2⟩ := hord.out.not hf0
            have hch : chUp I1 I2 j = false := by rw [hsame.out hs2]; exact chUp_same _ _
            rw [hch]
            have HB0 := h8.out.burned 0
            rw [hf0] at HB0
            have HB0' := Lib.hid HB0
            clear HB0 h7 hI5 hB2
            go_wp2_with fail
            refine HB0'.out.mono ?_
            rintro e w11 ⟨rfl, rfl⟩
            go_wp2_with fail
            go_loopw [18] (fun i wr2 => ∃ q : Nat, q ≤ k ∧ i = .int .i64 q ∧ Hid (Below wr.heap.size wr wr2)) (fun i _ => k - (intOf i).toNat)
            case atStart => exact ⟨0, Nat.zero_le _, rfl, Below.refl _ _⟩
            case round =>
              rename World => wr2
              obtain ⟨q, hq, rfl, hB5⟩ := hrel
              have hwq : wrap64 ((q : Int) + 1) = (q : Int) + 1 := by have := Hn.out; unfold wrap64; omega
              have h9 := Lib.hid (h8.out.on hB5.out)
              obtain ⟨r0, r1, r2⟩ := h9.out.box HK.out
              by_cases hql : q < k
              · have Hql := Lib.hid hql
                have hd3 : decide (q < k) = true := decide_eq_true hql
                obtain ⟨x, hx⟩ : ∃ x, D1.slots[q]? = some x := ⟨_, List.getElem?_eq_getElem (by rw [hdn.out.2.1]; exact hql)⟩
                have cx := (hIs.out.below hB5.out).cell hx
                have hld : Hid (Calls Try.prog 11 #[.pointer (some ⟨a.d, 0, none⟩), .int .i64 q] wr2 fun e w' => e = .returned (.tuple #[.string x, .int .i64 0]) ∧ wr2 = w') := by
                  have hk2 : inS D2.slots (q : Int) := ⟨by omega, by rw [hdn2.out.2.1]; omega⟩
                  have e1 : (if D2.down = true then (⟨#[]⟩ : ByteArray) else if inS D2.slots (q : Int) then D2.slots.getD (q : Int).toNat ⟨#[]⟩ else ⟨#[]⟩) = x := by
                    rw [if_neg (by rw [hdn2.out.1]; decide), if_pos hk2, Int.toNat_natCast, hs1, List.getD_eq_getElem?_getD, hx]
                    rfl
                  have e2 : (if D2.down = true then (14 : Int) else if inS D2.slots (q : Int) then 0 else 1) = 0 := by
                    rw [if_neg (by rw [hdn2.out.1]; decide), if_pos hk2]
                  have := dLoad_any h9.out.dev.dev q
                  rw [e1, e2] at this
                  exact this
                have dx : (x.toList == x.toList) = true := text_eq rfl
                clear hx
                go_wp2_with (first | (go_at_call 11; refine hld.out.mono ?_; rintro e w12 ⟨rfl, rfl⟩))
                go_roundw
                case rel => exact ⟨q + 1, Hql.out, by go_num, hB5⟩
                case measure => rw [hwq]; exact meas_up Hql.out
              · obtain rfl : q = k := by omega
                have hd3 : decide (q < q) = false := decide_eq_false hql
                clear hql
                go_wp2_with fail
                refine h9.out.sane.mono ?_
                rintro e w12 ⟨rfl, h10⟩
                go_wp2_with fail
                go_ret
                exact ⟨rfl, HB.out.trans (h10.out.dev.bel.mono HB.out.size)⟩
          | true =>
            have HB0 := h8.out.burned 0
            rw [hf0] at HB0
            have HB0' := Lib.hid HB0
            clear HB0 h7 hI5 hB2 hIs
            go_wp2_with fail
            refine HB0'.out.mono ?_
            rintro e w11 ⟨rfl, rfl⟩
            go_wp2_with fail
            refine h8.out.sane.mono ?_
            rintro e w12 ⟨rfl, h9⟩
            go_wp2_with fail
            refine h9.out.empty.mono ?_
            rintro e w13 ⟨re, rfl, her, h10⟩
            rcases hord.out.begun hf0 with hz | ⟨hz1, hz2⟩
            · have hre : re = true := her.out (fun t ht => by rw [hz] at ht; exact List.eq_of_mem_replicate ht)
              subst hre
              go_wp2_with fail
              go_ret
              exact ⟨rfl, HB.out.trans (h10.out.dev.bel.mono HB.out.size)⟩
            · have hch : chUp I1 I2 j = false := by rw [hsame.out hz1]; exact chUp_same _ _
              rw [hch]
              have HB1 := h10.out.burned 1
              rw [hz2] at HB1
              have HB1' := Lib.hid HB1
              clear HB1
              cases re with
              | true =>
                go_wp2_with fail
                go_ret
                exact ⟨rfl, HB.out.trans (h10.out.dev.bel.mono HB.out.size)⟩
              | false =>
                go_wp2_with fail
                refine HB1'.out.mono ?_
                rintro e w14 ⟨rfl, rfl⟩
                go_wp2_with fail
                go_ret
                exact ⟨rfl, HB.out.trans (h10.out.dev.bel.mono HB.out.size)⟩
/-- The whole. -/
theorem law_order (x y z t : Int) (ht : -9223372036854775808 ≤ t ∧ t ≤ 9223372036854775807) (v pv : Value) (ops : List DOp) (P : List Int) (hv : DOpsAt W v ops) (ho : OpsIn ops) (hp : IntsAt W pv P) :
    Calls Try.prog 3 #[.agg #[.int .i64 x, .int .i64 y, .int .i64 z], v, .int .i64 t, pv] W fun e w' => e = .returned (.bool true) ∧ Below W.heap.size W w' := by
  by_cases hz : 1 ≤ x ∧ x ≤ 12 ∧ ops.length ≤ 40 ∧ SizeFit x y z
  · obtain ⟨k1, k2, k3, h1, h2, h3, h4, h5, h6⟩ := hz
    obtain ⟨n, rfl⟩ := Int.eq_ofNat_of_zero_le (show 0 ≤ x by omega)
    obtain ⟨s, rfl⟩ := Int.eq_ofNat_of_zero_le (show 0 ≤ y by omega)
    obtain ⟨f, rfl⟩ := Int.eq_ofNat_of_zero_le (show 0 ≤ z by omega)
    exact order_main n s f ⟨by omega, by omega⟩ ⟨by omega, by omega⟩ ⟨by omega, by omega⟩ t ht v pv ops P hv ho k3 hp
  · obtain ⟨A, c, rfl, _⟩ := hv
    obtain ⟨A', c', rfl, _⟩ := hp
    exact order_bad x y z t A ops.length c A' P.length c' hz
end
end Go.Proofs.Ytgenifcikfbfhaa
