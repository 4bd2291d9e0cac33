/-
  Layer 33 (zero): one Resume for which the power lasts completes it.
-/
import Derived.Test.YtgenifcikfbfhaaZerP6
import Derived.Test.YtgenifcikfbfhaaZerR1
namespace Go.Proofs.Ytgenifcikfbfhaa
open Go.RowKit Go.Shelf
attribute [local go_sem] Oper.semAt_some

def m70 : ByteArray := dtext 70 false 64
def m75 : ByteArray := dtext 75 false 64
theorem m65_size : m65.size = 64 := by kernel_rfl
theorem m70_size : m70.size = 64 := by kernel_rfl
theorem m75_size : m75.size = 64 := by kernel_rfl
theorem m70_75 : m70 ≠ m75 := of_decide_eq_false (by kernel_rfl)
theorem z_text70 (w : World) : Calls Try.prog 24 #[.agg #[.int .i64 0, .int .i64 0, .int .i64 0, .int .u8 70, .bool false, .slice none 0 0], .int .i64 64] w fun e w' => e = .returned (.string m70) ∧ Below w.heap.size w w' :=
  dText_any w 0 0 0 70 64 false (by decide) (.inl rfl) none 0 0
theorem z_text75 (w : World) : Calls Try.prog 24 #[.agg #[.int .i64 0, .int .i64 0, .int .i64 0, .int .u8 75, .bool false, .slice none 0 0], .int .i64 64] w fun e w' => e = .returned (.string m75) ∧ Below w.heap.size w w' :=
  dText_any w 0 0 0 75 64 false (by decide) (.inl rfl) none 0 0
section
variable {W W1 w w' : World} {a : DAt} {n s f : Nat} {D : Dev}
theorem ZSt.write_worn (h : ZSt W w a n s f D) (hd : D.down = false) (hl : D.left = -1) (j : Nat) (hj : WornAt D.M j) (t : ByteArray) (ht : t.size = 64) :
    Calls Try.prog 23 #[.pointer (some ⟨a.d, 0, none⟩), .int .i64 j, .string t] w fun e w' => e = .returned (.int .i64 0) ∧ Hid (ZSt W w' a n s f D) ∧ Hid (DLeft w w' a) := by
  have e := zwrite_worn hd hl j hj t ht
  unfold zwrite at e
  have h1 := dWrite_any h.dev.dev h.ok.left j t
  rw [e] at h1
  refine h1.mono ?_
  rintro e w' ⟨rfl, h1, h2⟩
  exact ⟨rfl, h.next h2 h1 h.ok, h2⟩
theorem ZSt.write_first (h : ZSt W w a n s f D) (hd : D.down = false) (hl : D.left = -1) (t : ByteArray) (ht : t.size = 64) :
    Calls Try.prog 23 #[.pointer (some ⟨a.d, 0, none⟩), .int .i64 0, .string t] w fun e w' => ∃ r : Int, e = .returned (.int .i64 r) ∧ Hid (ZSt W w' a n s f (zwrite (0 : Nat) t D).2) ∧ Hid (DLeft w w' a) := by
  have h0 : 0 < D.M.length := by rw [h.ok.M]; have := h.n1; omega
  refine (dWrite_any h.dev.dev h.ok.left 0 t).mono ?_
  rintro e w' ⟨rfl, h1, h2⟩
  exact ⟨_, rfl, h.next h2 h1 (zwrite_ok h.ok 0 h0 hd hl t ht), h2⟩
theorem ZSt.read_worn (h : ZSt W w a n s f D) (hd : D.down = false) (j : Nat) (x : Sec) (hx : D.M[j]? = some x) (hc : x.dirty = false) :
    Calls Try.prog 25 #[.pointer (some ⟨a.d, 0, none⟩), .int .i64 j] w fun e w' => e = .returned (.tuple #[.string x.now, .int .i64 0]) ∧ w = w' := by
  have hj := (List.getElem?_eq_some_iff.1 hx).1
  have hi : isAt D.M (j : Int) := ⟨by omega, by omega⟩
  have e1 : (if D.down = true then (⟨#[]⟩ : ByteArray) else if isAt D.M (j : Int) then (D.M.getD (j : Int).toNat default).seen else ⟨#[]⟩) = x.now := by
    rw [if_neg (by rw [hd]; decide), if_pos hi, Int.toNat_natCast, List.getD_eq_getElem?_getD, hx]
    show x.seen = x.now
    unfold Sec.seen
    rw [hc]
    rfl
  have e2 : (if D.down = true then (14 : Int) else if isAt D.M (j : Int) then 0 else 1) = 0 := by
    rw [if_neg (by rw [hd]; decide), if_pos hi]
  have h1 := dRead_any h.dev.dev j
  rw [e1, e2] at h1
  exact h1
theorem ZSt.left (h : ZSt W w a n s f D) : Calls Try.prog 22 #[.pointer (some ⟨a.d, 0, none⟩)] w fun e w' => ∃ v, e = .returned v ∧ Hid (NewInts w w' v (leftL (D.M.map Sec.now))) ∧ Hid (ZSt W w' a n s f D) := by
  refine (zLeft_any h.dev.dev h.len (by rw [h.ok.M]; have := h.n1; omega)).mono ?_
  rintro e w' ⟨v, rfl, hT⟩
  exact ⟨v, rfl, hT, h.on hT.2.2⟩
/-- A row of numbers that the call has made. -/
def NumRow (w : World) (v : Value) (L : List Nat) : Prop := w.ownsRow 0 3 1 v L.length (intCells L)
theorem NumRow.left {v : Value} {L : List Nat} (h : NumRow w v L) (hF : DLeft w w' a) (hD : DevIs w a D) : NumRow w' v L :=
  ownsRow_same h (fun k cs hk hb => hF.blk hD hb (fun e => by cases e) (fun e => by cases e) (fun e => by cases e) (fun e => by cases e))
theorem NumRow.below {v : Value} {L : List Nat} (h : NumRow w v L) (hB : Below w.heap.size w w') : NumRow w' v L := ownsRow_below h hB (Nat.le_refl _)
theorem NumRow.slice {v : Value} {L : List Nat} (h : NumRow w v L) : ∃ A c, v = .slice A L.length c := by
  rcases h.2 with ⟨rfl, h0⟩ | ⟨g, cap, cur, rfl, _⟩
  · exact ⟨none, 0, by rw [h0]⟩
  · exact ⟨_, cap, rfl⟩
theorem NumRow.at_ {A : Option Addr} {m c k j : Nat} {L : List Nat} (h : NumRow w (.slice A m c) L) (hk : L[k]? = some j) : ∃ g, A = some ⟨g, 0, none⟩ := by
  have hl := (List.getElem?_eq_some_iff.1 hk).1
  rcases h.2 with ⟨_, h0⟩ | ⟨g, cap, cur, h1, _⟩
  · omega
  · cases h1
    exact ⟨g, rfl⟩
theorem NumRow.cell {g m c k j : Nat} {L : List Nat} (h : NumRow w (.slice (some ⟨g, 0, none⟩) m c) L) (hk : L[k]? = some j) : w.cell? ⟨g, k, none⟩ = some (.int .i64 j) := by
  have hl := (List.getElem?_eq_some_iff.1 hk).1
  have hm : m = L.length := by
    rcases h.2 with ⟨h0, _⟩ | ⟨_, _, _, h0, _⟩
    · cases h0
    · cases h0; rfl
  subst hm
  rw [World.ownsRow.cellAt h k (by omega)]
  simp [intCells, hk]
set_option maxRecDepth 100000 in
set_option maxHeartbeats 1600000 in
theorem completes_bad (x y z : Int) (A : Option Addr) (N c : Nat) (v2 v3 v4 : Value) (h : ¬ (1 ≤ x ∧ x ≤ 12 ∧ N ≤ 40 ∧ SizeFit x y z)) :
    Calls Try.prog 5 #[.agg #[.int .i64 x, .int .i64 y, .int .i64 z], .slice A N c, v2, v3, v4] W fun e w' => e = .returned (.bool true) ∧ Below W.heap.size W w' := by
  obtain ⟨hk, hB⟩ := zbox W x y z
  have HB := Lib.hid hB
  have HD := Lib.hid (build_bad (W.alloc (.cells #[.int .i64 x, .int .i64 y, .int .i64 z] 23)) x y z A N c h)
  clear hk hB h
  go_enter Try.func5, Try.ntmps5
  go_wp2_with (first | (go_at_call 7; refine HD.out.mono ?_; rintro e w1 ⟨rfl, hB⟩; have HX := Lib.hid (HB.out.trans (hB.mono HB.out.size)); clear hB) | (go_at_call 8; refine (sanity_true _).mono ?_; rintro e w2 ⟨rfl, hB⟩; have HY := Lib.hid (HX.out.trans (hB.mono HX.out.size)); clear hB))
  go_ret
  exact ⟨rfl, HY.out⟩
set_option maxRecDepth 100000 in
set_option maxHeartbeats 8000000 in
theorem completes_main (n s f : Nat) (hn : 1 ≤ n ∧ n ≤ 12) (hs : 1 ≤ s ∧ s ≤ 16) (hf : 1 ≤ f ∧ f ≤ 16) (v tv pv : Value) (ops : List DOp) (T P : List Int) (J : List ByteArray) (hv : DOpsAt W v ops) (ho : OpsIn ops) (hN : ops.length ≤ 40)
    (ht : IntsAt W tv T) (hti : ∀ (i : Nat) (y : Int), T[i]? = some y → -9223372036854775808 ≤ y ∧ y ≤ 9223372036854775807) (hp : IntsAt W pv P) (A4 : Option Addr) (c4 b4 o4 : Nat) (hJ : StrAt W A4 c4 b4 o4 J) (hb4 : b4 ≤ W.heap.size) :
    Calls Try.prog 5 #[.agg #[.int .i64 n, .int .i64 s, .int .i64 f], v, tv, pv, .slice A4 J.length c4] W fun e w' => e = .returned (.bool true) ∧ Below W.heap.size W w' := by
  obtain ⟨hk, hB⟩ := zbox W n s f
  obtain ⟨W1, hW1⟩ : ∃ W1, W.alloc (.cells #[.int .i64 n, .int .i64 s, .int .i64 f] 23) = W1 := ⟨_, rfl⟩
  have hs1 : W.heap.size < W1.heap.size := by rw [← hW1]; simp
  rw [hW1] at hB hk
  have HD := Lib.hid (build_st W1 n s f hn hs hf v ops (hv.below hB) ho hN)
  have HP := Lib.hid (hp.below hB)
  have HJ := Lib.hid (hJ.below hB)
  have Hb4 : Hid (b4 < W1.heap.size) := Nat.lt_of_le_of_lt hb4 hs1
  have ht1 := ht.below hB
  obtain ⟨A, c, rfl, hvr⟩ := hv
  obtain ⟨A', c', rfl, hpr⟩ := hp
  obtain ⟨A2, c2, rfl, hr1, hr2, hTc⟩ := ht1
  have HTc := Lib.hid hTc
  have Hti := Lib.hid hti
  have HB := Lib.hid hB
  have HK := Lib.hid hk
  have Hn := Lib.hid (And.intro hn (And.intro hs hf))
  have q0 := hk.cell 0
  have q1 := hk.cell 1
  have q2 := hk.cell 2
  clear hvr hpr hr1 hr2 hTc hti hB hk ho hN hn hs hf hJ hb4 hs1 ht
  by_cases hf2 : f < 2
  · have d1 : decide ((f : Int) < 2) = true := decide_eq_true (by omega)
    have d1' : decide (f < 2) = true := decide_eq_true hf2
    clear hf2
    go_enter Try.func5, Try.ntmps5
    go_wp2_with (first | (go_at_call 7; refine HD.out.mono ?_; rintro e w1 ⟨a, D0, rfl, h0⟩; obtain ⟨r0, r1, r2⟩ := h0.out.box HK.out) | (go_at_call 8; refine h0.out.sane.mono ?_; rintro e w7 ⟨rfl, hd2⟩))
    go_ret
    exact ⟨rfl, HB.out.trans (hd2.out.dev.bel.mono HB.out.size)⟩
  have d1 : decide ((f : Int) < 2) = false := decide_eq_false (by omega)
  have d1' : decide (f < 2) = false := decide_eq_false hf2
  by_cases hTl : 10 < T.length
  · have d2 : decide (10 < (T.length : Int)) = true := decide_eq_true (by omega)
    have d2' : decide (10 < T.length) = true := decide_eq_true hTl
    clear hf2 hTl
    go_enter Try.func5, Try.ntmps5
    go_wp2_with (first | (go_at_call 7; refine HD.out.mono ?_; rintro e w1 ⟨a, D0, rfl, h0⟩; obtain ⟨r0, r1, r2⟩ := h0.out.box HK.out) | (go_at_call 8; refine h0.out.sane.mono ?_; rintro e w7 ⟨rfl, hd2⟩))
    go_ret
    exact ⟨rfl, HB.out.trans (hd2.out.dev.bel.mono HB.out.size)⟩
  have d2 : decide (10 < (T.length : Int)) = false := decide_eq_false (by omega)
  have d2' : decide (10 < T.length) = false := decide_eq_false hTl
  have hw1 : wrap64 ((s : Int) + n) = (s : Int) + n := by have := Hn.out; unfold wrap64; omega
  have hw2 : wrap64 ((s : Int) + n + 2) = (s : Int) + n + 2 := by have := Hn.out; unfold wrap64; omega
  obtain ⟨N, hNN⟩ : ∃ N : Int, (s : Int) + n + 2 = N := ⟨_, rfl⟩
  have hNb : Hid (N = (s + n + 2 : Nat) ∧ -9223372036854775808 ≤ N ∧ N ≤ 9223372036854775807) := by have := Hn.out; unfold Hid; refine ⟨by omega, by omega, by omega⟩
  have Hf2 := Lib.hid hf2
  have HTl := Lib.hid hTl
  rw [hNN] at hw2
  clear hf2 hTl
  go_enter Try.func5, Try.ntmps5
  go_wp2_with fail
  refine HD.out.mono ?_
  rintro e w1 ⟨a, D0, rfl, h0⟩
  obtain ⟨r0, r1, r2⟩ := h0.out.box HK.out
  go_wp2_with fail
  refine (h0.out.mount _ P HP.out).mono ?_
  rintro e w2 ⟨rfl, h1, _⟩
  obtain ⟨m1, m2⟩ := mounted P D0
  generalize zmount P D0 = D1 at h1 m1 m2
  have hne : Hid (b4 ≠ a.g) := by unfold Hid; have := Hb4.out; have := h0.out.dev.hg; omega
  clear h0 HD r0 r1 r2
  go_wp2_with fail
  refine (h1.out.burned 1).mono ?_
  rintro e w3 ⟨rfl, rfl⟩
  cases hb : fuseB D1 1 with
  | true =>
    go_wp2_with fail
    refine h1.out.sane.mono ?_
    rintro e w4 ⟨rfl, h2⟩
    go_wp2_with fail
    go_ret
    exact ⟨rfl, HB.out.trans (h2.out.dev.bel.mono HB.out.size)⟩
  | false =>
  obtain ⟨g1, g2⟩ := go_first h1.out.ok (by have := Hf2.out; omega) m1 m2 hb
  have hbu := h1.out.burn 0 (by decide)
  rw [g1] at hbu
  have Hbu := Lib.hid hbu
  generalize (zburn 0 D1).2 = D2 at Hbu g2
  have hgo := Lib.hid g2
  clear m1 m2 hb g1 g2 hbu h1
  go_wp2_with fail
  refine Hbu.out.mono ?_
  rintro e w4 ⟨rfl, h2, _⟩
  go_wp2_with fail
  clear Hbu
  go_loopw [13] (fun i wr => ∃ (k : Nat) (D : Dev), k ≤ T.length ∧ i = .int .i64 k ∧ Hid (ZSt W1 wr a n s f D) ∧ Hid (ZGo D)) (fun i _ => T.length - (intOf i).toNat)
  case atStart => exact ⟨0, D2, Nat.zero_le _, rfl, h2, hgo⟩
  case round =>
    obtain ⟨k, D, hk, rfl, hd, hg⟩ := hrel
    clear h2 hgo
    have hwk : wrap64 ((k : Int) + 1) = (k : Int) + 1 := by have := HTl.out; unfold wrap64; omega
    by_cases hkl : k < T.length
    · have Hkl := Lib.hid hkl
      have hd1 : decide (k < T.length) = true := decide_eq_true hkl
      obtain ⟨x, hx⟩ : ∃ x, T[k]? = some x := ⟨_, List.getElem?_eq_getElem hkl⟩
      obtain ⟨tb, tf, rfl, htl, htc⟩ := HTc.out (by omega)
      have cx : wr.cell? ⟨tb, tf + k, none⟩ = some (.int .i64 x) := (hd.out.dev.bel.cell (p := ⟨tb, tf + k, none⟩) htl).trans (htc k x hx)
      have hxr := Hti.out k x hx
      have Hxr := Lib.hid hxr
      clear hx htc hxr
      obtain ⟨M3, hM3⟩ : ∃ M3, (k : Int).tmod 2 = M3 := ⟨_, rfl⟩
      go_wp2_with fail
      refine (hd.out.trip x Hxr.out).mono ?_
      rintro e w5 ⟨rfl, h3, _⟩
      by_cases h3z : M3 = 0
      · subst h3z
        have hgn := Lib.hid (hg.out.begin_ x P J)
        go_wp2_with fail
        refine h3.out.begin_.mono ?_
        rintro e w6 ⟨rfl, h4, _⟩
        generalize (zbegin (ztrip x D)).2 = D4 at h4 hgn
        go_wp2_with fail
        refine (h4.out.mount _ P HP.out).mono ?_
        rintro e w7 ⟨rfl, h5, _⟩
        generalize zmount P D4 = D5 at h5 hgn
        go_wp2_with fail
        refine (h5.out.restore A4 c4 b4 o4 J (HJ.out.below h5.out.dev.bel) hne.out).mono ?_
        rintro e w8 ⟨r, rfl, h6, _⟩
        generalize zrestore J D5 = D6 at h6 hgn
        obtain ⟨z, hz, hzn⟩ : ∃ z : Int, zstate D6 = z ∧ (z == 0) = false := ⟨_, rfl, by rcases hgn.out.state with e | e <;> rw [e] <;> decide⟩
        have hst := h6.out.state
        rw [hz] at hst
        have Hst := Lib.hid hst
        clear hst
        go_wp2_with fail
        refine Hst.out.mono ?_
        rintro e w9 ⟨rfl, rfl⟩
        go_wp2_with fail
        go_roundw
        case rel => exact ⟨k + 1, D6, Hkl.out, by go_num, h6, hgn⟩
        case measure => rw [hwk]; exact meas_up Hkl.out
      · have d3 : (M3 == 0) = false := by simpa using h3z
        have hgn := Lib.hid (hg.out.resume x P J)
        clear h3z
        go_wp2_with fail
        refine h3.out.resume.mono ?_
        rintro e w6 ⟨rfl, h4, _⟩
        generalize (zresume (ztrip x D)).2 = D4 at h4 hgn
        go_wp2_with fail
        refine (h4.out.mount _ P HP.out).mono ?_
        rintro e w7 ⟨rfl, h5, _⟩
        generalize zmount P D4 = D5 at h5 hgn
        go_wp2_with fail
        refine (h5.out.restore A4 c4 b4 o4 J (HJ.out.below h5.out.dev.bel) hne.out).mono ?_
        rintro e w8 ⟨r, rfl, h6, _⟩
        generalize zrestore J D5 = D6 at h6 hgn
        obtain ⟨z, hz, hzn⟩ : ∃ z : Int, zstate D6 = z ∧ (z == 0) = false := ⟨_, rfl, by rcases hgn.out.state with e | e <;> rw [e] <;> decide⟩
        have hst := h6.out.state
        rw [hz] at hst
        have Hst := Lib.hid hst
        clear hst
        go_wp2_with fail
        refine Hst.out.mono ?_
        rintro e w9 ⟨rfl, rfl⟩
        go_wp2_with fail
        go_roundw
        case rel => exact ⟨k + 1, D6, Hkl.out, by go_num, h6, hgn⟩
        case measure => rw [hwk]; exact meas_up Hkl.out
    · have hd1 : decide (k < T.length) = false := decide_eq_false hkl
      clear hkl hwk hk
      obtain ⟨E, hE, e1, e2, e3, e4, e5, e6⟩ := go_last hd.out.ok (by have := Hf2.out; omega) hg.out
      have HE5 := Lib.hid e5
      have HE6 := Lib.hid e6
      have HE := Lib.hid hE
      have He1 := Lib.hid e1
      have He := Lib.hid (And.intro e2 (And.intro e3 e4))
      clear e1 e2 e3 e4 e5 e6 hE
      rcases hg.out.state with hz | hz
      · obtain ⟨z1, z2⟩ := HE6.out hz
        have Hz1 := Lib.hid z1
        have Hz2 := Lib.hid z2
        have hst := hd.out.state
        rw [hz] at hst
        have Hst := Lib.hid hst
        clear z1 z2 hst HE6 hz
        go_wp2_with fail
        refine Hst.out.mono ?_
        rintro e w5 ⟨rfl, rfl⟩
        have hsp := hd.out.steps
        rw [Hz1.out] at hsp HE He1
        rw [← hNb.out.1] at hsp HE He1
        have Hsp := Lib.hid hsp
        clear hsp Hst
        go_wp2_with fail
        refine Hsp.out.mono ?_
        rintro e w6 ⟨rfl, h3, _⟩
        go_wp2_with fail
        refine (h3.out.trip N hNb.out.2).mono ?_
        rintro e w7 ⟨rfl, h4, _⟩
        have hre := h4.out.resume
        rw [He1.out] at hre
        have Hre := Lib.hid hre
        clear hre He1 h3 Hsp
        go_wp2_with fail
        refine Hre.out.mono ?_
        rintro e w8 ⟨rfl, h5, _⟩
        have htr := h5.out.trip (-1) (by decide)
        rw [HE.out] at htr
        have Htr := Lib.hid htr
        clear htr HE Hre h4
        go_wp2_with fail
        refine Htr.out.mono ?_
        rintro e w9 ⟨rfl, h6, _⟩
        have hst := h6.out.state
        rw [He.out.2.2] at hst
        have Hst := Lib.hid hst
        clear hst h5 Htr
        go_wp2_with fail
        refine Hst.out.mono ?_
        rintro e w10 ⟨rfl, rfl⟩
        go_wp2_with fail
        refine h6.out.empty.mono ?_
        rintro e w11 ⟨re, rfl, her, h7⟩
        have hre : re = true := her.out HE5.out
        subst hre
        obtain ⟨r0, r1, r2⟩ := h7.out.box HK.out
        have hNN2 : decide (N < N) = false := decide_eq_false (by omega)
        clear her HE5 Hst h6
        go_wp2_with fail
        refine h7.out.left.mono ?_
        rintro e w12 ⟨vL, rfl, hL, h8⟩
        have HL : Hid (NumRow w12 vL (leftL (E.M.map Sec.now))) := ownsRow_more hL.out.1 (Nat.zero_le _)
        have hLl : Hid ((leftL (E.M.map Sec.now)).length ≤ 12) := Nat.le_trans (leftUp_len _ _) (by rw [List.length_map, h7.out.ok.M]; exact Hn.out.1.2)
        generalize leftL (E.M.map Sec.now) = L at HL Hz2 hLl
        clear hL h7 r0 r1 r2
        obtain ⟨AL, cL, rfl⟩ := HL.out.slice
        go_wp2_with fail
        refine (z_text64 _).mono ?_
        rintro e w13 ⟨rfl, hB3⟩
        have h9 := Lib.hid (h8.out.on hB3)
        have HL2 := Lib.hid (HL.out.below hB3)
        clear hB3 h8 HL
        go_wp2_with fail
        refine (h9.out.write_first He.out.1 He.out.2.1 m65 m65_size).mono ?_
        rintro e w14 ⟨r, rfl, h10, hF⟩
        have HL3 := Lib.hid (HL2.out.left hF.out h9.out.dev.dev)
        have hwr : Hid ((zwrite (0 : Nat) m65 E).2.down = false ∧ (zwrite (0 : Nat) m65 E).2.left = -1 ∧ ∀ j ∈ L, WornAt (zwrite (0 : Nat) m65 E).2.M j) := by
          unfold Hid
          rw [zwrite_up He.out.1 He.out.2.1 0 (by rw [h9.out.ok.M]; have := Hn.out.1; omega) m65 m65_size]
          exact ⟨He.out.1, He.out.2.1, fun j hj => worn_keep (Hz2.out j hj) _ (by omega) _⟩
        generalize (zwrite (0 : Nat) m65 E).2 = F at h10 hwr
        clear hF HL2 h9 Hz2
        go_wp2_with fail
        go_loopw [18] (fun i wr2 => ∃ q : Nat, q ≤ L.length ∧ i = .int .i64 q ∧ Hid (ZSt W1 wr2 a n s f F) ∧ Hid (NumRow wr2 (.slice AL L.length cL) L)) (fun i _ => L.length - (intOf i).toNat)
        case atStart => exact ⟨0, Nat.zero_le _, rfl, h10, HL3⟩
        case round =>
          obtain ⟨q, hq, rfl, hd2, HLq⟩ := hrel
          clear h10 HL3
          have hwq : wrap64 ((q : Int) + 1) = (q : Int) + 1 := by have := hLl.out; unfold wrap64; omega
          by_cases hql : q < L.length
          · have Hql := Lib.hid hql
            have hd3 : decide (q < L.length) = true := decide_eq_true hql
            obtain ⟨j, hj⟩ : ∃ j, L[q]? = some j := ⟨_, List.getElem?_eq_getElem hql⟩
            have hw := hwr.out.2.2 j (List.mem_of_getElem? hj)
            have Hw := Lib.hid hw
            obtain ⟨x, hx, hx2, hx3⟩ := hw
            have hjn : j < n := by have := (List.getElem?_eq_some_iff.1 hx).1; rw [hd2.out.ok.M] at this; exact this
            have hjn' : decide (j < n) = true := decide_eq_true hjn
            have Hx := Lib.hid (And.intro hx hx3)
            have Hj := Lib.hid hj
            have hxi : Hid ((F.M.map Sec.now)[j]? = some x.now) := by unfold Hid; rw [List.getElem?_map, hx]; rfl
            obtain ⟨gL, rfl⟩ := HLq.out.at_ hj
            clear hx hx2 hx3 hj
            go_wp2_with fail
            refine hd2.out.image.mono ?_
            rintro e w15 ⟨vb, rfl, hT, h2⟩
            obtain ⟨gb, cb, rfl⟩ := hT.out.slice (by rw [List.length_map, hd2.out.ok.M]; exact Hn.out.1.1)
            have hIb := Lib.hid (Img.fresh hT.out hd2.out.dev.dev)
            have HL4 := Lib.hid (HLq.out.below hT.out.2.2)
            have hnl : (F.M.map Sec.now).length = n := by rw [List.length_map]; exact hd2.out.ok.M
            rw [hnl] at hIb ⊢
            clear hT hd2 HLq hnl
            go_wp2_with fail
            refine (z_text70 _).mono ?_
            rintro e w16 ⟨rfl, hB3⟩
            have h3 := Lib.hid (h2.out.on hB3)
            have HL5 := Lib.hid (HL4.out.below hB3)
            have hIc := Lib.hid (hIb.out.below hB3)
            have cj := HL5.out.cell Hj.out
            have cb2 := hIc.out.cell hxi.out
            clear hB3 h2 HL4 hIb
            by_cases hxt : x.now = m70
            · have dx := text_eq hxt
              have dy : (x.now.toList == m75.toList) = false := text_ne (fun e => m70_75 (hxt ▸ e))
              clear hxt
              go_wp2_with fail
              refine (z_text75 _).mono ?_
              rintro e w19 ⟨rfl, hB3⟩
              have h3 := Lib.hid (h3.out.on hB3)
              have HL5 := Lib.hid (HL5.out.below hB3)
              have cj := HL5.out.cell Hj.out
              clear hB3 cb2
              go_wp2_with fail
              refine (h3.out.write_worn hwr.out.1 hwr.out.2.1 j Hw.out m75 m75_size).mono ?_
              rintro e w17 ⟨rfl, h4, hF⟩
              have HL6 := Lib.hid (HL5.out.left hF.out h3.out.dev.dev)
              have cj := HL6.out.cell Hj.out
              clear hF h3 HL5
              go_wp2_with fail
              refine (h4.out.read_worn hwr.out.1 j x Hx.out.1 Hx.out.2).mono ?_
              rintro e w18 ⟨rfl, rfl⟩
              go_wp2_with fail
              go_roundw
              case rel => exact ⟨q + 1, Hql.out, by go_num, h4, HL6⟩
              case measure => rw [hwq]; exact meas_up Hql.out
            · have dx := text_ne hxt
              clear hxt
              go_wp2_with fail
              refine (h3.out.write_worn hwr.out.1 hwr.out.2.1 j Hw.out m70 m70_size).mono ?_
              rintro e w17 ⟨rfl, h4, hF⟩
              have HL6 := Lib.hid (HL5.out.left hF.out h3.out.dev.dev)
              have cj := HL6.out.cell Hj.out
              clear hF h3 HL5
              go_wp2_with fail
              refine (h4.out.read_worn hwr.out.1 j x Hx.out.1 Hx.out.2).mono ?_
              rintro e w18 ⟨rfl, rfl⟩
              go_wp2_with fail
              go_roundw
              case rel => exact ⟨q + 1, Hql.out, by go_num, h4, HL6⟩
              case measure => rw [hwq]; exact meas_up Hql.out
          · have hd3 : decide (q < L.length) = false := decide_eq_false hql
            clear hql
            go_wp2_with fail
            refine hd2.out.sane.mono ?_
            rintro e w15 ⟨rfl, h2⟩
            go_wp2_with fail
            go_ret
            exact ⟨rfl, HB.out.trans (h2.out.dev.bel.mono HB.out.size)⟩
      · have hst := hd.out.state
        rw [hz] at hst
        have Hst := Lib.hid hst
        clear hst HE6
        go_wp2_with fail
        refine Hst.out.mono ?_
        rintro e w5 ⟨rfl, rfl⟩
        have hzc : zcount D = 0 := by unfold zcount; rw [if_pos (by omega)]
        have hsp := hd.out.steps
        rw [hzc] at hsp HE He1
        have Hsp := Lib.hid hsp
        clear hsp Hst hz hzc
        go_wp2_with fail
        refine Hsp.out.mono ?_
        rintro e w6 ⟨rfl, h3, _⟩
        go_wp2_with fail
        refine (h3.out.trip 0 (by decide)).mono ?_
        rintro e w7 ⟨rfl, h4, _⟩
        have hre := h4.out.resume
        have He1' : (zresume (ztrip 0 D)).1 = 0 := He1.out
        rw [He1'] at hre
        have Hre := Lib.hid hre
        clear hre He1 He1' h3 Hsp
        go_wp2_with fail
        refine Hre.out.mono ?_
        rintro e w8 ⟨rfl, h5, _⟩
        have htr := h5.out.trip (-1) (by decide)
        have HE' : ztrip (-1) (zresume (ztrip 0 D)).2 = E := HE.out
        rw [HE'] at htr
        have Htr := Lib.hid htr
        clear htr HE HE' Hre h4
        go_wp2_with fail
        refine Htr.out.mono ?_
        rintro e w9 ⟨rfl, h6, _⟩
        have hst := h6.out.state
        rw [He.out.2.2] at hst
        have Hst := Lib.hid hst
        clear hst h5 Htr
        go_wp2_with fail
        refine Hst.out.mono ?_
        rintro e w10 ⟨rfl, rfl⟩
        go_wp2_with fail
        refine h6.out.empty.mono ?_
        rintro e w11 ⟨re, rfl, her, h7⟩
        have hre : re = true := her.out HE5.out
        subst hre
        clear her HE5 Hst h6
        go_wp2_with fail
        refine h7.out.sane.mono ?_
        rintro e w12 ⟨rfl, h8⟩
        go_wp2_with fail
        go_ret
        exact ⟨rfl, HB.out.trans (h8.out.dev.bel.mono HB.out.size)⟩
/-- The whole. -/
theorem law_completes (x y z : Int) (v tv pv : Value) (ops : List DOp) (T P : List Int) (hv : DOpsAt W v ops) (ho : OpsIn ops)
    (ht : IntsAt W tv T) (hti : ∀ (i : Nat) (y : Int), T[i]? = some y → -9223372036854775808 ≤ y ∧ y ≤ 9223372036854775807) (hp : IntsAt W pv P) (A4 : Option Addr) (c4 b4 o4 : Nat) (J : List ByteArray) (hJ : StrAt W A4 c4 b4 o4 J) (hb4 : b4 ≤ W.heap.size) :
    Calls Try.prog 5 #[.agg #[.int .i64 x, .int .i64 y, .int .i64 z], v, tv, pv, .slice A4 J.length c4] W fun e w' => e = .returned (.bool true) ∧ Below W.heap.size W w' := by
  by_cases hz : 1 ≤ x ∧ x ≤ 12 ∧ ops.length ≤ 40 ∧ SizeFit x y z
  · obtain ⟨k1, k2, k3, h1, h2, h3, h4, h5, h6⟩ := hz
    obtain ⟨n, rfl⟩ := Int.eq_ofNat_of_zero_le (show 0 ≤ x by omega)
    obtain ⟨s, rfl⟩ := Int.eq_ofNat_of_zero_le (show 0 ≤ y by omega)
    obtain ⟨f, rfl⟩ := Int.eq_ofNat_of_zero_le (show 0 ≤ z by omega)
    exact completes_main n s f ⟨by omega, by omega⟩ ⟨by omega, by omega⟩ ⟨by omega, by omega⟩ v tv pv ops T P J hv ho k3 ht hti hp A4 c4 b4 o4 hJ hb4
  · obtain ⟨A, c, rfl, _⟩ := hv
    exact completes_bad x y z A ops.length c tv pv (.slice A4 J.length c4) hz
end
end Go.Proofs.Ytgenifcikfbfhaa
