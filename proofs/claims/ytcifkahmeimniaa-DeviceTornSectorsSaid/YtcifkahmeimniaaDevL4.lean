/-
  Layer 23 (device): torn sectors.
-/
import Derived.Test.YtcifkahmeimniaaDevR1
namespace Go.Proofs.Ytcifkahmeimniaa
open Go.RowKit Go.Shelf
attribute [local go_sem] Oper.semAt_some

/-- A row of texts apart from the device. -/
structure TRow (w : World) (a : DAt) (A : Option Addr) (c b : Nat) (L : List ByteArray) : Prop where
  s : StrAt w A c b 0 L
  d : b ≠ a.d
  g : b ≠ a.g
  sb : b ≠ a.sb
  fb : b ≠ a.fb
section
variable {W w w' : World} {a : DAt} {A : Option Addr} {c b : Nat} {L : List ByteArray} {D : Dev}
theorem TRow.below (h : TRow w a A c b L) (hB : Below w.heap.size w w') : TRow w' a A c b L := ⟨h.s.below hB, h.d, h.g, h.sb, h.fb⟩
theorem TRow.left (h : TRow w a A c b L) (hF : DLeft w w' a) : TRow w' a A c b L :=
  ⟨⟨h.s.1, h.s.2.1, fun i t ht => by
    obtain ⟨e1, e2, e3⟩ := h.s.2.2 i t ht
    have e := hF.rest b e2 h.d h.g h.sb h.fb
    refine ⟨e1, Nat.lt_of_lt_of_le e2 hF.size, ?_⟩
    rw [← e3]
    unfold World.cell?
    dsimp only
    rw [e]⟩, h.d, h.g, h.sb, h.fb⟩
theorem TRow.grown {row : Option Nat} (h : TRow w a A c b L) (hg : w.grownBy w' row) (hb : ∀ k, row = some k → k ≠ b) : TRow w' a A c b L :=
  ⟨⟨h.s.1, h.s.2.1, fun i t ht => by
    obtain ⟨e1, e2, e3⟩ := h.s.2.2 i t ht
    exact ⟨e1, Nat.lt_of_lt_of_le e2 hg.size, hg.cell e3 (fun e => hb b e.symm rfl)⟩⟩, h.d, h.g, h.sb, h.fb⟩
theorem TRow.at (h : TRow w a A c b L) {i : Nat} {t : ByteArray} (ht : L[i]? = some t) : A = some ⟨b, 0, none⟩ ∧ w.cell? ⟨b, i, none⟩ = some (.string t) := by
  obtain ⟨e1, _, e3⟩ := h.s.2.2 i t ht
  rw [Nat.zero_add] at e3
  exact ⟨e1, e3⟩
theorem trow_new {w0 : World} {v : Value} (h : w.ownsRow w0.heap.size 9 1 v L.length (strCells L)) (hD : DevIs w0 a D) (h0 : 0 < L.length) : ∃ A c b, v = .slice A L.length c ∧ TRow w a A c b L ∧ w0.heap.size ≤ b := by
  obtain ⟨l1, l2, l3, l4⟩ := DevIs.sizes hD
  have h2 : Texts w v L := by
    refine ⟨h.1, ?_⟩
    rcases h.2 with h2 | ⟨g, cap, cur, hv, hg, r⟩
    · exact .inl h2
    · exact .inr ⟨g, cap, cur, hv, Nat.zero_le _, r⟩
  obtain ⟨A, c, b, rfl, hs⟩ := Texts.strAt h2
  obtain ⟨t, ht⟩ : ∃ t, L[0]? = some t := ⟨_, List.getElem?_eq_getElem h0⟩
  obtain ⟨rfl, _, _⟩ := hs.2.2 0 t ht
  have hb : w0.heap.size ≤ b := (h.lt b rfl).1
  exact ⟨_, c, b, rfl, ⟨hs, by omega, by omega, by omega, by omega⟩, hb⟩
theorem img_row (h : DevIs w a D) (hN : D.M.length ≤ 1048576) (hL : D.M.map Sec.now = L) {n : Nat} (hn : L.length = n) (h0 : 0 < n) :
    Calls Try.prog 18 #[.pointer (some ⟨a.d, 0, none⟩)] w fun e w' => ∃ A c b, e = .returned (.slice A n c) ∧ Hid (TRow w' a A c b L) ∧ Hid (Below w.heap.size w w') ∧ Hid (w.heap.size ≤ b) := by
  subst hL
  subst hn
  refine (dImage_any h hN).mono ?_
  rintro e w' ⟨v, rfl, hT⟩
  obtain ⟨A, c, b, rfl, h1, h2⟩ := trow_new hT.1 h h0
  exact ⟨A, c, b, rfl, h1, hT.2.2, h2⟩
end
/-- What Read shows of the sectors. -/
def shown (D : Dev) : List ByteArray := D.M.map fun s => if D.down then ⟨#[]⟩ else s.seen
/-- What the law looks at behind the failure of the power. -/
structure Tri (W w : World) (a : DAt) (x y z : Int) (E : Dev) (v : Value) (I : List ByteArray) (Ao : Option Addr) (co bo : Nat) (O : List ByteArray) (Af : Option Addr) (cf bf : Nat) (F : List ByteArray) (Aw : Option Addr) (cw bw : Nat) (R : List ByteArray) : Prop where
  l : LSt W w a x y z E v I
  o : TRow w a Ao co bo O
  f : TRow w a Af cf bf F
  w : TRow w a Aw cw bw R
theorem Tri.on {W w w' : World} {a : DAt} {x y z : Int} {E : Dev} {v : Value} {I : List ByteArray} {Ao : Option Addr} {co bo : Nat} {O : List ByteArray} {Af : Option Addr} {cf bf : Nat} {F : List ByteArray} {Aw : Option Addr} {cw bw : Nat} {R : List ByteArray} (h : Tri W w a x y z E v I Ao co bo O Af cf bf F Aw cw bw R) (hB : Below w.heap.size w w') : Tri W w' a x y z E v I Ao co bo O Af cf bf F Aw cw bw R :=
  ⟨h.l.on hB, h.o.below hB, h.f.below hB, h.w.below hB⟩
section
variable {W : World}
set_option maxRecDepth 100000 in
set_option maxHeartbeats 1600000 in
theorem torn_off (x y z : Int) (A : Option Addr) (N c : Nat) (A2 : Option Addr) (c2 : Nat) (P : List Int) (h : (decide (x ≤ 12) && decide ((N : Int) ≤ 60)) = false) :
    Calls Try.prog 5 #[.agg #[.int .i64 x, .int .i64 y, .int .i64 z], .slice A N c, .slice A2 P.length c2] W fun e w' => e = .returned (.bool true) ∧ Below W.heap.size W w' := by
  obtain ⟨hk, hB⟩ := box_new W x y z
  have HB : Hid (Boxed W _ x y z) := ⟨hk, hB⟩
  clear hk hB
  have Hh := Lib.hid h
  clear h
  go_enter Try.func5, Try.ntmps5
  go_wp2_with (first | (go_at_call 8; refine (sanity_true _).mono ?_; rintro e w1 ⟨rfl, hB⟩; have HX := Lib.hid (HB.out.on hB); obtain ⟨q0, q1, q2⟩ := HX.out.c; clear hB) | (go_at_call 9; refine (few_any _ x y z A N c).mono ?_; rw [Hh.out]; rintro e w2 ⟨rfl, hB⟩; have HY := Lib.hid (HX.out.on hB); obtain ⟨p0, p1, p2⟩ := HY.out.c; clear hB))
  go_ret
  exact ⟨rfl, HY.out.2⟩
set_option maxRecDepth 100000 in
set_option maxHeartbeats 1600000 in
theorem torn_long (x y z : Int) (A : Option Addr) (N c : Nat) (A2 : Option Addr) (c2 : Nat) (P : List Int) (h : (decide (x ≤ 12) && decide ((N : Int) ≤ 60)) = true) (hJ : 40 < P.length) :
    Calls Try.prog 5 #[.agg #[.int .i64 x, .int .i64 y, .int .i64 z], .slice A N c, .slice A2 P.length c2] W fun e w' => e = .returned (.bool true) ∧ Below W.heap.size W w' := by
  obtain ⟨hk, hB⟩ := box_new W x y z
  have HB : Hid (Boxed W _ x y z) := ⟨hk, hB⟩
  clear hk hB
  have Hh := Lib.hid h
  have d20 : decide (40 < (P.length : Int)) = true := decide_eq_true (by omega)
  clear h hJ
  go_enter Try.func5, Try.ntmps5
  go_wp2_with (first | (go_at_call 8; refine (sanity_true _).mono ?_; rintro e w1 ⟨rfl, hB⟩; have HX := Lib.hid (HB.out.on hB); obtain ⟨q0, q1, q2⟩ := HX.out.c; clear hB) | (go_at_call 9; refine (few_any _ x y z A N c).mono ?_; rw [Hh.out]; rintro e w2 ⟨rfl, hB⟩; have HY := Lib.hid (HX.out.on hB); obtain ⟨p0, p1, p2⟩ := HY.out.c; clear hB))
  go_ret
  exact ⟨rfl, HY.out.2⟩
set_option maxRecDepth 100000 in
set_option maxHeartbeats 1600000 in
theorem torn_bad (x y z : Int) (A : Option Addr) (N c : Nat) (A2 : Option Addr) (c2 : Nat) (P : List Int) (h : (decide (x ≤ 12) && decide ((N : Int) ≤ 60)) = true) (hJl : P.length ≤ 40) (hz : ¬ SizeOk x y z) :
    Calls Try.prog 5 #[.agg #[.int .i64 x, .int .i64 y, .int .i64 z], .slice A N c, .slice A2 P.length c2] W fun e w' => e = .returned (.bool true) ∧ Below W.heap.size W w' := by
  obtain ⟨hk, hB⟩ := box_new W x y z
  have HB : Hid (Boxed W _ x y z) := ⟨hk, hB⟩
  clear hk hB
  have Hh := Lib.hid h
  have Hz := Lib.hid hz
  have d20 : decide (40 < (P.length : Int)) = false := decide_eq_false (by omega)
  clear h hz
  go_enter Try.func5, Try.ntmps5
  go_wp2_with (first | (go_at_call 8; refine (sanity_true _).mono ?_; rintro e w1 ⟨rfl, hB⟩; have HX := Lib.hid (HB.out.on hB); obtain ⟨q0, q1, q2⟩ := HX.out.c; clear hB) | (go_at_call 9; refine (few_any _ x y z A N c).mono ?_; rw [Hh.out]; rintro e w2 ⟨rfl, hB⟩; have HY := Lib.hid (HX.out.on hB); obtain ⟨p0, p1, p2⟩ := HY.out.c; clear hB) | (go_at_call 10; refine (dNew_bad _ x y z Hz.out).mono ?_; rintro e w3 ⟨rfl, hB⟩; have HZ := Lib.hid (HY.out.on hB); clear hB))
  go_ret
  exact ⟨rfl, HZ.out.2⟩
set_option maxRecDepth 100000 in
set_option maxHeartbeats 4000000 in
theorem torn_loop (n s f : Nat) (hn : 1 ≤ n ∧ n ≤ 4096) (hs : 1 ≤ s ∧ s ≤ 16) (hf : 1 ≤ f ∧ f ≤ 16) (hx : (n : Int) ≤ 12) (v : Value) (ops : List DOp) (hv : DOpsAt W v ops) (ho : OpsIn ops) (hN : ops.length ≤ 60) (A2 : Option Addr) (c2 : Nat) (P : List Int) (hP : IntsAt W (.slice A2 P.length c2) P) (hJl : P.length ≤ 40) :
    Calls Try.prog 5 #[.agg #[.int .i64 n, .int .i64 s, .int .i64 f], v, .slice A2 P.length c2] W fun e w' => e = .returned (.bool true) ∧ Below W.heap.size W w' := by
  obtain ⟨A, c, rfl, hA⟩ := hv
  obtain ⟨hk, hB⟩ := box_new W n s f
  have HB : Hid (Boxed W _ n s f) := ⟨hk, hB⟩
  have Hn := Lib.hid (And.intro hn (And.intro hs hf))
  have HA := Lib.hid hA
  have Ho := Lib.hid ho
  have Hh : Hid ((decide ((n : Int) ≤ 12) && decide ((ops.length : Int) ≤ 60)) = true) := by
    unfold Hid
    rw [decide_eq_true hx, decide_eq_true (by omega : (ops.length : Int) ≤ 60)]
    rfl
  have HP := Lib.hid hP
  have d20 : decide (40 < (P.length : Int)) = false := decide_eq_false (by omega)
  clear hP hJl
  clear hk hB hA ho hx hn hs hf
  go_enter Try.func5, Try.ntmps5
  go_wp2_with (first | (go_at_call 8; refine (sanity_true _).mono ?_; rintro e w1 ⟨rfl, hB⟩; have HX := Lib.hid (HB.out.on hB); obtain ⟨q0, q1, q2⟩ := HX.out.c; clear hB) | (go_at_call 9; refine (few_any _ n s f A ops.length c).mono ?_; rw [Hh.out]; rintro e w2 ⟨rfl, hB⟩; have HY := Lib.hid (HX.out.on hB); obtain ⟨p0, p1, p2⟩ := HY.out.c; clear hB) | (go_at_call 10; refine (law_new W HY.out.2 HY.out.1 Hn.out.1 Hn.out.2.1 Hn.out.2.2).mono ?_; rintro e w3 ⟨a, rfl, hs, hfb⟩))
  obtain ⟨i0, hi, hz0, hz1, hz2⟩ := info_parts infoString
  have hu0 := hs
  clear hs hfb HX HY q0 q1 q2 p0 p1 p2
  go_loopw [10, 11] (fun v i wr => ∃ (k : Nat) (iA : Option Addr) (iN iC : Nat), k ≤ ops.length ∧ v = .slice iA iN iC ∧ i = .int .i64 k ∧ Hid (LSt W wr a n s f (dUpTo n s f ops k).1 (.slice iA iN iC) (dUpTo n s f ops k).2)) (fun _ i _ => ops.length - (intOf i).toNat)
  case atStart => exact ⟨0, none, 0, 0, Nat.zero_le _, rfl, rfl, hu0⟩
  case round =>
    obtain ⟨k, iA, iN, iC, hk, rfl, rfl, hu⟩ := hrel
    clear hu0
    by_cases hkl : k < ops.length
    · have hd1 : decide (k < ops.length) = true := decide_eq_true hkl
      obtain ⟨o, hk0⟩ : ∃ o, ops[k]? = some o := ⟨_, List.getElem?_eq_getElem hkl⟩
      obtain ⟨B, off, rfl, hbl, hat⟩ := HA.out (by omega)
      have Hat := Lib.hid (hat k o hk0)
      have Hbl := Lib.hid hbl
      obtain ⟨hDok, hIl⟩ := dUpTo_ok n s f ops Ho.out k hk
      have HD := Lib.hid hDok
      have HI := Lib.hid hIl
      have Hk := Lib.hid (dUpTo_succ n s f ops k o hk0)
      generalize (dUpTo n s f ops k).1 = D at hu HD Hk
      generalize (dUpTo n s f ops k).2 = I at hu HI Hk
      clear hDok hIl hat hk0
      obtain ⟨A1, n1, cc1, g0, g1, g2, g3, g4, g5, hok⟩ := Hat.out.below Hbl.out hu.out.dev.bel
      have Hok := Lib.hid hok
      obtain ⟨R, hR⟩ : ∃ R, dplay o D I = R := ⟨_, rfl⟩
      have HR := Lib.hid hR
      have hst := Lib.hid (hu.out.play HD.out Hn.out.1.2 Hn.out.2.1.2 HI.out o _ Hok.out HR.out)
      have Hk2 : Hid ((dUpTo n s f ops (k + 1)).1 = R.2.1 ∧ (dUpTo n s f ops (k + 1)).2 = R.2.2) := by
        have := Hk.out
        rw [HR.out] at this
        exact ⟨by rw [this], by rw [this]⟩
      have Hkl := Lib.hid hkl
      clear hok hR hkl
      go_wp2_with (first | (go_at_call 14; refine hst.out.mono ?_; rintro e w4 ⟨iA2, iN2, iC2, rfl, hl, hF, hv2⟩))
      have hl5 := Lib.hid (hl.out.on ((Below.refl _ w4).alloc (Nat.le_refl _) (.cells #[.string R.1.text, .int .i64 R.1.e] 36)))
      clear hl hF hst hv2
      generalize w4.alloc (.cells #[.string R.1.text, .int .i64 R.1.e] 36) = w5 at hl5 ⊢
      go_roundw
      case rel => exact ⟨k + 1, iA2, iN2, iC2, Hkl.out, rfl, by go_num, by rw [Hk2.out.1, Hk2.out.2]; exact hl5⟩
      case measure => have := Hkl.out; simp [intOf]; omega
    · have hd1 : decide (k < ops.length) = false := decide_eq_false hkl
      obtain ⟨hDok, _⟩ := dUpTo_ok n s f ops Ho.out k hk
      have HD := Lib.hid hDok
      generalize (dUpTo n s f ops k).1 = D at hu HD
      generalize (dUpTo n s f ops k).2 = I at hu
      obtain ⟨O, hO⟩ : ∃ O, D.M.map Sec.now = O := ⟨_, rfl⟩
      obtain ⟨F, hF⟩ : ∃ F, shown D = F := ⟨_, rfl⟩
      have HO := Lib.hid hO
      have HF := Lib.hid hF
      have HOl : Hid (O.length = n) := by unfold Hid; rw [← hO, List.length_map]; exact HD.out.M
      have HFl : Hid (F.length = n) := by unfold Hid; rw [← hF]; unfold shown; rw [List.length_map]; exact HD.out.M
      clear hDok hkl hk hO hF
      go_wp2_with fail
      refine (img_row hu.out.dev.dev (by have h1 := HD.out.M; have := Hn.out; omega) HO.out HOl.out (by have := Hn.out; omega)).mono ?_
      rintro e wb ⟨Ao, co, bo, rfl, ho5, hB5, _⟩
      have hl5 := Lib.hid (hu.out.on hB5.out)
      have hlb := hl5
      obtain ⟨base, hbase⟩ : ∃ base, wb.heap.size = base := ⟨_, rfl⟩
      have Hbase := Lib.hid hbase
      have Hbo : Hid (bo < base) := by
        rw [← hbase]
        obtain ⟨t, ht⟩ : ∃ t, O[0]? = some t := ⟨_, List.getElem?_eq_getElem (by rw [HOl.out]; have := Hn.out; omega)⟩
        exact (ho5.out.s.2.2 0 t ht).2.1
      have Hoff : Hid (∀ k, base ≤ k → Off W a (.slice iA iN iC) k) := by rw [← hbase]; exact hl5.out.off
      clear hu hB5
      go_wp2_with fail
      cases hdn : D.down with
      | true =>
        have Hdn : Hid (D.down = true) := hdn
        have HFk : Hid (∀ (k : Nat) (x : Sec), D.M[k]? = some x → F[k]? = some ((⟨#[]⟩ : ByteArray))) := fun k x hx => by
          rw [← HF.out]
          unfold shown
          rw [List.getElem?_map, hx, hdn]
          rfl
        have HRd : Hid (∀ (w : World) (k : Nat) (x : Sec), DevIs w a D → D.M[k]? = some x → Calls Try.prog 19 #[.pointer (some ⟨a.d, 0, none⟩), .int .i64 k] w fun e w' => e = .returned (.tuple #[.string ⟨#[]⟩, .int .i64 14]) ∧ w = w') := fun w k x h hx => by
          have h1 := dRead_any h (k : Int)
          rw [hdn] at h1
          exact h1
        have HUpd : Hid (∀ (w : World) , DevIs w a D → Calls Try.prog 20 #[.pointer (some ⟨a.d, 0, none⟩)] w fun e w' => e = .returned (.bool false) ∧ w = w') := fun w h => by
          have h1 := Up_any h
          rw [hdn] at h1
          exact h1
        clear hdn
        go_loopw [15, 16] (fun u i w2 => ∃ k : Nat, k ≤ n ∧ i = .int .i64 k ∧ Hid (w2.ownsRow base 9 1 u k (strCells (F.take k))) ∧ Hid (base ≤ w2.heap.size) ∧ Hid (LSt W w2 a n s f D (.slice iA iN iC) I) ∧ Hid (TRow w2 a Ao co bo O)) (fun _ i _ => n - (intOf i).toNat)
        case atStart => exact ⟨0, Nat.zero_le _, rfl, World.ownsRow_nil _ _ _ _, Nat.le_of_eq hbase.symm, hl5, ho5⟩
        case round =>
          obtain ⟨k, hk, rfl, hrow, hbs, hl, ho⟩ := hrel
          clear hl5 ho5 hbase
          by_cases hkl : k < n
          · have hd1 : decide (k < n) = true := decide_eq_true hkl
            obtain ⟨x, hx⟩ : ∃ x, D.M[k]? = some x := ⟨_, List.getElem?_eq_getElem (by rw [HD.out.M]; exact hkl)⟩
            have HRk := Lib.hid (HRd.out wr k x hl.out.dev.dev hx)
            have hFk : Hid (F.take (k + 1) = F.take k ++ [⟨#[]⟩]) := by
              unfold Hid
              rw [List.take_add_one, HFk.out k x hx]
              rfl
            
            have hlt := Lib.hid (And.intro hkl Hn.out.1.2)
            have hk4 : (k : Int) < 4096 := by have := hlt.out; omega
            clear hx hkl
            go_wp2_with (first | (go_at_call 19; refine HRk.out.mono ?_; rintro e wx ⟨rfl, rfl⟩) | (at_builtin; refine wpList_append_own _ rfl _ _ 31 rfl base 9 i0 _ 1 16 Try.underlying31 hi hz0 hz1 hz2 rfl (by decide) _ k (strCells (F.take k)) rfl (hrow.out.alloc _) ⟨wr.heap.size, 0, none⟩ 1 1 [.string ⟨#[]⟩] rfl rfl ?c1 ?c2 ?c3 ?c4 ?c5 ?_))
            case c1 => exact news_cells (Blk.new wr 9 #[.string ⟨#[]⟩])
            case c2 => simp [Value.oneCell']
            case c3 => have := hlt.out.2; unfold maxLen; omega
            case c4 => have := hlt.out.2; omega
            case c5 => have := hbs.out; simp; omega
            intro v' w' hown hg _
            have hl2 : Hid (LSt W w' a n s f D (.slice iA iN iC) I) := (hl.out.on ((Below.refl _ _).alloc (Nat.le_refl _) _)).grown hg (fun k e => Hoff.out k (hrow.out.lt k e).1)
            have ho2 : Hid (TRow w' a Ao co bo O) := (ho.out.below ((Below.refl _ _).alloc (Nat.le_refl _) _)).grown hg (fun k e => by have := (hrow.out.lt k e).1; have := Hbo.out; omega)
            have Hown : Hid (w'.ownsRow base 9 1 v' (k + 1) (strCells (F.take (k + 1)))) := by
              unfold Hid
              rw [hFk.out, strCells_snoc]
              exact hown
            have hbs3 : Hid (base ≤ w'.heap.size) := by
              have h1 := hg.size
              have h2 := hbs.out
              unfold Hid
              simp at h1
              omega
            clear hown hg hrow hl ho hbs
            go_wp2_with fail
            go_roundw
            case rel => exact ⟨k + 1, hlt.out.1, by go_num, Hown, hbs3, hl2, ho2⟩
            case measure => have := hlt.out.1; simp [intOf]; omega
          · obtain rfl : n = k := by omega
            have hd1 : decide (n < n) = false := decide_eq_false (by omega)
            have hF0 : F.take n = F := List.take_of_length_le (by rw [HFl.out]; exact Nat.le_refl _)
            have hrow2 := hrow.out
            rw [hF0, ← Hbase.out] at hrow2
            obtain ⟨Af, cf, bf, rfl, hf, _⟩ : ∃ A c b, u15 = .slice A n c ∧ TRow wr a A c b F ∧ wb.heap.size ≤ b := by
              have h1 := trow_new (w := wr) (w0 := wb) (v := u15) (L := F) (by rw [HFl.out]; exact hrow2) hlb.out.dev.dev (by rw [HFl.out]; have := Hn.out; omega)
              rw [HFl.out] at h1
              exact h1
            have hf5 := Lib.hid hf
            have HUk := Lib.hid (HUpd.out wr hl.out.dev.dev)
            obtain ⟨pb, po, hr2, hpg, hpl, hpc⟩ := picks_rest HP.out hl.out.dev.bel hl.out.dev.dev.mem.ne hl.out.dev.dev.mem.lt.1 hl.out.dev.hg
            have HMt := Lib.hid (dMount_any hl.out.dev.dev HD.out.fine (by have h1 := HD.out.M; have := Hn.out; omega) _ P pb po hr2 hpg hpc)
            obtain ⟨E, hEq⟩ : ∃ E, ({ D with M := doneM (pick P) D.M (idxs Sec.dirty D.M), down := false, left := -1 } : Dev) = E := ⟨_, rfl⟩
            rw [hEq] at HMt
            have HEM : Hid (E.M = doneM (pick P) D.M (idxs Sec.dirty D.M)) := by rw [← hEq]; rfl
            have HE : Hid (E.M.length = n ∧ Fine E.M) := by
              refine ⟨by rw [HEM.out, doneM_len]; exact HD.out.M, ?_⟩
              rw [HEM.out]
              exact fine_doneM HD.out.fine _ (pick_le _) _ _ rfl (fun i hi => idxs_at hi)
            have HEc : Hid (idxs Sec.dirty E.M = []) := by unfold Hid; rw [HEM.out]; exact cut_clean P
            obtain ⟨R, hR⟩ : ∃ R, E.M.map Sec.now = R := ⟨_, rfl⟩
            have HRR := Lib.hid hR
            have HRl : Hid (R.length = n) := by unfold Hid; rw [← hR, List.length_map]; exact HE.out.1
            clear hEq hR hF0 hrow hrow2 hf hr2 hpg hpl hpc hkl hk
            go_wp2_with fail
            refine HUk.out.mono ?_
            rintro e wu ⟨rfl, rfl⟩
            go_wp2_with fail
            refine HMt.out.mono ?_
            rintro e w6 ⟨rfl, hE, hF⟩
            have hl6 := Lib.hid (hl.out.next hF hE)
            have ho6 := Lib.hid (ho.out.left hF)
            have hf6 := Lib.hid (hf5.out.left hF)
            clear hE hF HMt hl ho hf5
            go_wp2_with fail
            refine (img_row hl6.out.dev.dev (by have h1 := HE.out.1; have := Hn.out; omega) HRR.out HRl.out (by have := Hn.out; omega)).mono ?_
            rintro e w7 ⟨Aw, cw, bw, rfl, hr7, hB7, _⟩
            have hl0 : Hid (Tri W w7 a n s f E (.slice iA iN iC) I Ao co bo O Af cf bf F Aw cw bw R) := ⟨hl6.out.on hB7.out, ho6.out.below hB7.out, hf6.out.below hB7.out, hr7.out⟩
            have hq0 := hl0.out.l.c.1
            have hnn : ((n : Int) != (n : Int)) = false := by simp
            clear hl6 ho6 hf6 hr7 hB7
            go_wp2_with fail
            go_loop [21] (fun i => i = .int .i64 0) (fun _ => 0)
            case atStart => rfl
            case round =>
              subst hrel
              have d0n : decide (0 < n) = true := decide_eq_true (by have := Hn.out; omega)
              have Hd0n := Lib.hid d0n
              have hl := hl0
              have HMn := Lib.hid (dMount_any hl.out.l.dev.dev HE.out.2 (by have h1 := HE.out.1; have := Hn.out; omega) (.slice none 0 0) [] a.b 0 ⟨none, 0, rfl, Nat.le_refl _, Nat.zero_le _, fun e => absurd e (by simp)⟩ hl.out.l.dev.dev.mem.ne (fun i x e => by simp at e))
              have HM2 : Hid (doneM (pick []) E.M (idxs Sec.dirty E.M) = E.M) := by
                unfold Hid
                rw [HEc.out, doneM_nil]
              rw [HM2.out] at HMn
              clear hl0
              go_wp2_with fail
              refine HMn.out.mono ?_
              rintro e wm ⟨rfl, hE3, hF3⟩
              have hl3 := Lib.hid (hl.out.l.next hF3 hE3)
              have hw3 := Lib.hid (hl.out.w.left hF3)
              clear hE3 hF3 HMn hl
              go_wp2_with fail
              refine (img_row hl3.out.dev.dev (by have h1 := HE.out.1; have := Hn.out; dsimp only; omega) HRR.out HRl.out (by have := Hn.out; omega)).mono ?_
              rintro e wi ⟨Ai, ci, bi, rfl, hr, hB, _⟩
              have hw4 := Lib.hid (hw3.out.below hB.out)
              have hb4 := Lib.hid (hl3.out.dev.on hB.out).bel
              have HSm : Hid (Calls Try.prog 21 #[.slice Aw n cw, .slice Ai n ci] wi fun e w' => e = .returned (.bool true) ∧ Below wi.heap.size wi w') := by
                have h1 := sameTexts_any wi Aw cw bw 0 R hw4.out.s Ai ci bi 0 R hr.out.s (by have := HRl.out; have := Hn.out; omega) (by have := HRl.out; have := Hn.out; omega)
                rw [decide_eq_true rfl, HRl.out] at h1
                exact h1
              clear hw3 hl3 hr hB
              go_wp2_with fail
              refine HSm.out.mono ?_
              rintro e wz ⟨rfl, hBz⟩
              have hbz := Lib.hid (hb4.out.trans (hBz.mono hb4.out.size))
              clear hBz
              go_wp2_with fail
              go_ret
              exact ⟨rfl, hbz.out⟩
      | false =>
        have Hdn : Hid (D.down = false) := hdn
        have HFk : Hid (∀ (k : Nat) (x : Sec), D.M[k]? = some x → F[k]? = some (x.seen)) := fun k x hx => by
          rw [← HF.out]
          unfold shown
          rw [List.getElem?_map, hx, hdn]
          rfl
        have HRd : Hid (∀ (w : World) (k : Nat) (x : Sec), DevIs w a D → D.M[k]? = some x → Calls Try.prog 19 #[.pointer (some ⟨a.d, 0, none⟩), .int .i64 k] w fun e w' => e = .returned (.tuple #[.string x.seen, .int .i64 0]) ∧ w = w') := fun w k x h hx => by
          have h1 := dRead_any h (k : Int)
          rw [hdn] at h1
          have hi : isAt D.M (k : Int) := ⟨by omega, by have := (List.getElem?_eq_some_iff.1 hx).1; omega⟩
          simp only [Bool.false_eq_true, if_false] at h1
          rw [if_pos hi, if_pos hi, Int.toNat_natCast, List.getD_eq_getElem?_getD, hx] at h1
          exact h1
        have HUpd : Hid (∀ (w : World) , DevIs w a D → Calls Try.prog 20 #[.pointer (some ⟨a.d, 0, none⟩)] w fun e w' => e = .returned (.bool true) ∧ w = w') := fun w h => by
          have h1 := Up_any h
          rw [hdn] at h1
          exact h1
        clear hdn
        go_loopw [15, 16] (fun u i w2 => ∃ k : Nat, k ≤ n ∧ i = .int .i64 k ∧ Hid (w2.ownsRow base 9 1 u k (strCells (F.take k))) ∧ Hid (base ≤ w2.heap.size) ∧ Hid (LSt W w2 a n s f D (.slice iA iN iC) I) ∧ Hid (TRow w2 a Ao co bo O)) (fun _ i _ => n - (intOf i).toNat)
        case atStart => exact ⟨0, Nat.zero_le _, rfl, World.ownsRow_nil _ _ _ _, Nat.le_of_eq hbase.symm, hl5, ho5⟩
        case round =>
          obtain ⟨k, hk, rfl, hrow, hbs, hl, ho⟩ := hrel
          clear hl5 ho5 hbase
          by_cases hkl : k < n
          · have hd1 : decide (k < n) = true := decide_eq_true hkl
            obtain ⟨x, hx⟩ : ∃ x, D.M[k]? = some x := ⟨_, List.getElem?_eq_getElem (by rw [HD.out.M]; exact hkl)⟩
            have HRk := Lib.hid (HRd.out wr k x hl.out.dev.dev hx)
            have hFk : Hid (F.take (k + 1) = F.take k ++ [x.seen]) := by
              unfold Hid
              rw [List.take_add_one, HFk.out k x hx]
              rfl
            generalize x.seen = xs at HRk hFk
            have hlt := Lib.hid (And.intro hkl Hn.out.1.2)
            have hk4 : (k : Int) < 4096 := by have := hlt.out; omega
            clear hx hkl
            go_wp2_with (first | (go_at_call 19; refine HRk.out.mono ?_; rintro e wx ⟨rfl, rfl⟩) | (at_builtin; refine wpList_append_own _ rfl _ _ 31 rfl base 9 i0 _ 1 16 Try.underlying31 hi hz0 hz1 hz2 rfl (by decide) _ k (strCells (F.take k)) rfl (hrow.out.alloc _) ⟨wr.heap.size, 0, none⟩ 1 1 [.string xs] rfl rfl ?c1 ?c2 ?c3 ?c4 ?c5 ?_))
            case c1 => exact news_cells (Blk.new wr 9 #[.string xs])
            case c2 => simp [Value.oneCell']
            case c3 => have := hlt.out.2; unfold maxLen; omega
            case c4 => have := hlt.out.2; omega
            case c5 => have := hbs.out; simp; omega
            intro v' w' hown hg _
            have hl2 : Hid (LSt W w' a n s f D (.slice iA iN iC) I) := (hl.out.on ((Below.refl _ _).alloc (Nat.le_refl _) _)).grown hg (fun k e => Hoff.out k (hrow.out.lt k e).1)
            have ho2 : Hid (TRow w' a Ao co bo O) := (ho.out.below ((Below.refl _ _).alloc (Nat.le_refl _) _)).grown hg (fun k e => by have := (hrow.out.lt k e).1; have := Hbo.out; omega)
            have Hown : Hid (w'.ownsRow base 9 1 v' (k + 1) (strCells (F.take (k + 1)))) := by
              unfold Hid
              rw [hFk.out, strCells_snoc]
              exact hown
            have hbs3 : Hid (base ≤ w'.heap.size) := by
              have h1 := hg.size
              have h2 := hbs.out
              unfold Hid
              simp at h1
              omega
            clear hown hg hrow hl ho hbs
            go_wp2_with fail
            go_roundw
            case rel => exact ⟨k + 1, hlt.out.1, by go_num, Hown, hbs3, hl2, ho2⟩
            case measure => have := hlt.out.1; simp [intOf]; omega
          · obtain rfl : n = k := by omega
            have hd1 : decide (n < n) = false := decide_eq_false (by omega)
            have hF0 : F.take n = F := List.take_of_length_le (by rw [HFl.out]; exact Nat.le_refl _)
            have hrow2 := hrow.out
            rw [hF0, ← Hbase.out] at hrow2
            obtain ⟨Af, cf, bf, rfl, hf, _⟩ : ∃ A c b, u15 = .slice A n c ∧ TRow wr a A c b F ∧ wb.heap.size ≤ b := by
              have h1 := trow_new (w := wr) (w0 := wb) (v := u15) (L := F) (by rw [HFl.out]; exact hrow2) hlb.out.dev.dev (by rw [HFl.out]; have := Hn.out; omega)
              rw [HFl.out] at h1
              exact h1
            have hf5 := Lib.hid hf
            have HUk := Lib.hid (HUpd.out wr hl.out.dev.dev)
            obtain ⟨pb, po, hr2, hpg, hpl, hpc⟩ := picks_rest HP.out hl.out.dev.bel hl.out.dev.dev.mem.ne hl.out.dev.dev.mem.lt.1 hl.out.dev.hg
            have HMt := Lib.hid (dMount_any hl.out.dev.dev HD.out.fine (by have h1 := HD.out.M; have := Hn.out; omega) _ P pb po hr2 hpg hpc)
            obtain ⟨E, hEq⟩ : ∃ E, ({ D with M := doneM (pick P) D.M (idxs Sec.dirty D.M), down := false, left := -1 } : Dev) = E := ⟨_, rfl⟩
            rw [hEq] at HMt
            have HEM : Hid (E.M = doneM (pick P) D.M (idxs Sec.dirty D.M)) := by rw [← hEq]; rfl
            have HE : Hid (E.M.length = n ∧ Fine E.M) := by
              refine ⟨by rw [HEM.out, doneM_len]; exact HD.out.M, ?_⟩
              rw [HEM.out]
              exact fine_doneM HD.out.fine _ (pick_le _) _ _ rfl (fun i hi => idxs_at hi)
            have HEc : Hid (idxs Sec.dirty E.M = []) := by unfold Hid; rw [HEM.out]; exact cut_clean P
            obtain ⟨R, hR⟩ : ∃ R, E.M.map Sec.now = R := ⟨_, rfl⟩
            have HRR := Lib.hid hR
            have HRl : Hid (R.length = n) := by unfold Hid; rw [← hR, List.length_map]; exact HE.out.1
            clear hEq hR hF0 hrow hrow2 hf hr2 hpg hpl hpc hkl hk
            go_wp2_with fail
            refine HUk.out.mono ?_
            rintro e wu ⟨rfl, rfl⟩
            go_wp2_with fail
            refine HMt.out.mono ?_
            rintro e w6 ⟨rfl, hE, hF⟩
            have hl6 := Lib.hid (hl.out.next hF hE)
            have ho6 := Lib.hid (ho.out.left hF)
            have hf6 := Lib.hid (hf5.out.left hF)
            clear hE hF HMt hl ho hf5
            go_wp2_with fail
            refine (img_row hl6.out.dev.dev (by have h1 := HE.out.1; have := Hn.out; omega) HRR.out HRl.out (by have := Hn.out; omega)).mono ?_
            rintro e w7 ⟨Aw, cw, bw, rfl, hr7, hB7, _⟩
            have hl0 : Hid (Tri W w7 a n s f E (.slice iA iN iC) I Ao co bo O Af cf bf F Aw cw bw R) := ⟨hl6.out.on hB7.out, ho6.out.below hB7.out, hf6.out.below hB7.out, hr7.out⟩
            have hq0 := hl0.out.l.c.1
            have hnn : ((n : Int) != (n : Int)) = false := by simp
            clear hl6 ho6 hf6 hr7 hB7
            go_wp2_with fail
            go_loopw [21] (fun i wr => ∃ k : Nat, k ≤ n ∧ i = .int .i64 k ∧ Hid (Tri W wr a n s f E (.slice iA iN iC) I Ao co bo O Af cf bf F Aw cw bw R)) (fun i _ => n - (intOf i).toNat)
            case atStart => exact ⟨0, Nat.zero_le _, rfl, hl0⟩
            case round =>
              obtain ⟨k, hk, rfl, hl⟩ := hrel
              clear hl0
              by_cases hkl : k < n
              · have hd1 : decide (k < n) = true := decide_eq_true hkl
                obtain ⟨x, hx⟩ : ∃ x, D.M[k]? = some x := ⟨_, List.getElem?_eq_getElem (by rw [HD.out.M]; exact hkl)⟩
                obtain ⟨y, m, hy, htorn, _⟩ := tear_plain HD.out.fine P hx
                have eO : O[k]? = some x.now := by rw [← HO.out, List.getElem?_map, hx]; rfl
                have eF : F[k]? = some x.seen := by
                  rw [← HF.out]
                  unfold shown
                  rw [List.getElem?_map, hx, Hdn.out]
                  rfl
                have eR : R[k]? = some y.now := by rw [← HRR.out, HEM.out, List.getElem?_map, hy]; rfl
                generalize x.now = old at htorn eO
                generalize x.seen = fr at htorn eF
                generalize y.now = nw at htorn eR
                clear hx hy
                obtain ⟨rfl, ca⟩ := hl.out.o.at eO
                obtain ⟨rfl, cf1⟩ := hl.out.f.at eF
                obtain ⟨rfl, cw1⟩ := hl.out.w.at eR
                have hso := htorn.sold
                have hsf := htorn.sfresh
                have hsn := htorn.snow
                have hn12 : n ≤ 4096 := by have := Hn.out; omega
                have HT := Lib.hid htorn
                have Hkl := Lib.hid hkl
                clear eO eF eR htorn
                go_wp2_with fail
                go_loopw [22] (fun i wq => ∃ (j q : Nat), j ≤ 64 ∧ i = .int .i64 j ∧ wq = wr.drewN q) (fun i _ => 64 - (intOf i).toNat)
                case atStart => exact ⟨0, 0, by omega, rfl, rfl⟩
                case round =>
                  obtain ⟨j, q, hj, rfl, rfl⟩ := hrel
                  by_cases hjl : j < 64
                  · have dj : decide ((j : Int) < 64) = true := decide_eq_true (by omega)
                    obtain ⟨bn, hbn, in1⟩ := idx_at nw (j := j) (by omega)
                    obtain ⟨bf, hbf, in2⟩ := idx_at fr (j := j) (by omega)
                    by_cases hb : bn = bf
                    · have db : ((bn.toNat : Int) == (bf.toNat : Int)) = true := by rw [hb]; simp
                      clear hbn hbf hb
                      go_wp2_with (first | go_quiet (fail))
                      go_roundw
                      case rel => exact ⟨j + 1, _, by omega, by go_num, rfl⟩
                      case measure => simp [intOf]; omega
                    · have db : ((bn.toNat : Int) == (bf.toNat : Int)) = false := by
                        refine beq_f (fun e => hb ?_)
                        exact UInt8.toNat_inj.1 (by omega)
                      have hmj : m ≤ j := by
                        rcases Nat.lt_or_ge j m with h | h
                        · have := HT.out.low j h
                          rw [hbn, hbf] at this
                          exact absurd (by simpa using this) hb
                        · exact h
                      have htl : nw.extract j 64 = old.extract j 64 := HT.out.tail hmj 64
                      clear hbn hbf hb hmj
                      go_wp2_with (first | go_quiet (fail))
                      go_roundw
                      case rel => exact ⟨k + 1, Hkl.out, by go_num, hl.out.on (below_drewN (Below.refl _ _) _)⟩
                      case measure => have := Hkl.out; simp [intOf]; omega
                  · obtain rfl : j = 64 := by omega
                    go_wp2_with (first | go_quiet (fail))
                    go_roundw
                    case rel => exact ⟨k + 1, Hkl.out, by go_num, hl.out.on (below_drewN (Below.refl _ _) _)⟩
                    case measure => have := Hkl.out; simp [intOf]; omega
              · have hd1 : decide (k < n) = false := decide_eq_false hkl
                have HMn := Lib.hid (dMount_any hl.out.l.dev.dev HE.out.2 (by have h1 := HE.out.1; have := Hn.out; omega) (.slice none 0 0) [] a.b 0 ⟨none, 0, rfl, Nat.le_refl _, Nat.zero_le _, fun e => absurd e (by simp)⟩ hl.out.l.dev.dev.mem.ne (fun i x e => by simp at e))
                have HM2 : Hid (doneM (pick []) E.M (idxs Sec.dirty E.M) = E.M) := by
                  unfold Hid
                  rw [HEc.out, doneM_nil]
                rw [HM2.out] at HMn
                clear hkl hk
                go_wp2_with fail
                refine HMn.out.mono ?_
                rintro e wm ⟨rfl, hE3, hF3⟩
                have hl3 := Lib.hid (hl.out.l.next hF3 hE3)
                have hw3 := Lib.hid (hl.out.w.left hF3)
                clear hE3 hF3 HMn hl
                go_wp2_with fail
                refine (img_row hl3.out.dev.dev (by have h1 := HE.out.1; have := Hn.out; dsimp only; omega) HRR.out HRl.out (by have := Hn.out; omega)).mono ?_
                rintro e wi ⟨Ai, ci, bi, rfl, hr, hB, _⟩
                have hw4 := Lib.hid (hw3.out.below hB.out)
                have hb4 := Lib.hid (hl3.out.dev.on hB.out).bel
                have HSm : Hid (Calls Try.prog 21 #[.slice Aw n cw, .slice Ai n ci] wi fun e w' => e = .returned (.bool true) ∧ Below wi.heap.size wi w') := by
                  have h1 := sameTexts_any wi Aw cw bw 0 R hw4.out.s Ai ci bi 0 R hr.out.s (by have := HRl.out; have := Hn.out; omega) (by have := HRl.out; have := Hn.out; omega)
                  rw [decide_eq_true rfl, HRl.out] at h1
                  exact h1
                clear hw3 hl3 hr hB
                go_wp2_with fail
                refine HSm.out.mono ?_
                rintro e wz ⟨rfl, hBz⟩
                have hbz := Lib.hid (hb4.out.trans (hBz.mono hb4.out.size))
                clear hBz
                go_wp2_with fail
                go_ret
                exact ⟨rfl, hbz.out⟩
/-- The whole. -/
theorem law_torn (x y z : Int) (v : Value) (ops : List DOp) (hv : DOpsAt W v ops) (ho : OpsIn ops) (A2 : Option Addr) (c2 : Nat) (P : List Int) (hP : IntsAt W (.slice A2 P.length c2) P) :
    Calls Try.prog 5 #[.agg #[.int .i64 x, .int .i64 y, .int .i64 z], v, .slice A2 P.length c2] W fun e w' => e = .returned (.bool true) ∧ Below W.heap.size W w' := by
  have hv0 := hv
  obtain ⟨A, c, rfl, _⟩ := hv
  cases h : (decide (x ≤ 12) && decide ((ops.length : Int) ≤ 60)) with
  | false => exact torn_off x y z A ops.length c A2 c2 P h
  | true =>
    by_cases h20' : 40 < P.length
    · exact torn_long x y z A ops.length c A2 c2 P h h20'
    have h20 : P.length ≤ 40 := by omega
    by_cases hz : SizeOk x y z
    · obtain ⟨h1, h2, h3, h4, h5, h6⟩ := hz
      obtain ⟨n, rfl⟩ := Int.eq_ofNat_of_zero_le (show 0 ≤ x by omega)
      obtain ⟨s, rfl⟩ := Int.eq_ofNat_of_zero_le (show 0 ≤ y by omega)
      obtain ⟨f, rfl⟩ := Int.eq_ofNat_of_zero_le (show 0 ≤ z by omega)
      have h7 := (Bool.and_eq_true _ _ ▸ h : _ ∧ _)
      have h8 := of_decide_eq_true h7.1
      have h9 := of_decide_eq_true h7.2
      exact torn_loop n s f ⟨by omega, by omega⟩ ⟨by omega, by omega⟩ ⟨by omega, by omega⟩ h8 _ ops hv0 ho (by omega) A2 c2 P hP h20
    · exact torn_bad x y z A ops.length c A2 c2 P h h20 hz
end
end Go.Proofs.Ytcifkahmeimniaa
