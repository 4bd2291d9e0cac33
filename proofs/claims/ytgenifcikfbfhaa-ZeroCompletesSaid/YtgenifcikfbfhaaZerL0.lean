/-
  Layer 33 (zero): a device behind the arguments, as the laws carry it; what each call makes of it.
-/
import Derived.Test.YtgenifcikfbfhaaZerB3
namespace Go.Proofs.Ytgenifcikfbfhaa
open Go.RowKit Go.Shelf

/-- Trip. -/
def ztrip (x : Int) (D : Dev) : Dev := { D with left := max x (-1) }
/-- Burn. -/
def zburn (i : Int) (D : Dev) : Int × Dev := D.dstep (chk (inS D.fuses i)) fun D => { D with fuses := D.fuses.set i.toNat true }
theorem zburn_zero (D : Dev) : zburn 0 D = D.dstep (chk (inS D.fuses (0 : Int))) fun D => { D with fuses := D.fuses.set 0 true } := rfl
/-- Write, Restore. -/
def zwrite (i : Int) (t : ByteArray) (D : Dev) : Int × Dev := D.dstep (chk (isAt D.M i ∧ t.size = 64)) fun D => { D with M := upd (fun s => s.write t) D.M i }
def zrestore (I : List ByteArray) (D : Dev) : Dev := { D with M := if loadErr I D.M then D.M else loadM I D.M }

/-- A device of n sectors, s slots and f fuses behind the arguments' world W. -/
structure ZSt (W w : World) (a : DAt) (n s f : Nat) (D : Dev) : Prop where
  dev : MDev W w a D
  ok : D.Ok n s f
  n1 : 1 ≤ n ∧ n ≤ 12
  s1 : 1 ≤ s ∧ s ≤ 16
  f1 : 1 ≤ f ∧ f ≤ 16
section
variable {W w w' : World} {a c : DAt} {D E : Dev} {n s f : Nat} {v : Value} {I : List ByteArray}
theorem ZSt.on (h : ZSt W w a n s f D) (hB : Below w.heap.size w w') : ZSt W w' a n s f D := ⟨h.dev.on hB, h.ok, h.n1, h.s1, h.f1⟩
theorem ZSt.next (h : ZSt W w a n s f D) (hF : DLeft w w' a) (hE : DevIs w' a E) (hok : E.Ok n s f) : ZSt W w' a n s f E := ⟨h.dev.next hF hE, hok, h.n1, h.s1, h.f1⟩
theorem ZSt.beside (h : ZSt W w a n s f D) (k : ZSt W w c n s f E) (hn : a.Apart c) (hF : DLeft w w' a) : ZSt W w' c n s f E := ⟨h.dev.beside k.dev hn hF, k.ok, k.n1, k.s1, k.f1⟩
theorem ZSt.len (h : ZSt W w a n s f D) : D.M.length ≤ 1048576 := by rw [h.ok.M]; have := h.n1; omega
theorem ztrip_ok (h : D.Ok n s f) (x : Int) (hx : -9223372036854775808 ≤ x ∧ x ≤ 9223372036854775807) : (ztrip x D).Ok n s f := dplay_ok h ⟨9, x, 0, 0, false, []⟩ hx []
theorem zmount_ok (h : D.Ok n s f) (P : List Int) : (zmount P D).Ok n s f := dplay_ok h ⟨10, 0, 0, 0, false, P⟩ (show (-9223372036854775808 : Int) ≤ 0 ∧ (0 : Int) ≤ 9223372036854775807 by decide) []
theorem zburn_ok (h : D.Ok n s f) (i : Int) (hi : -9223372036854775808 ≤ i ∧ i ≤ 9223372036854775807) : (zburn i D).2.Ok n s f := dplay_ok h ⟨6, i, 0, 0, false, []⟩ hi []
theorem zrestore_ok (h : D.Ok n s f) (I : List ByteArray) : (zrestore I D).Ok n s f := dplay_ok h ⟨15, 0, 0, 0, false, []⟩ (by decide) I

/-- The calls. -/
theorem ZSt.state (h : ZSt W w a n s f D) : Calls Try.prog 16 #[.pointer (some ⟨a.d, 0, none⟩)] w fun e w' => e = .returned (.int .i64 (zstate D)) ∧ w = w' := zState_any h.dev.dev
theorem ZSt.up (h : ZSt W w a n s f D) : Calls Try.prog 27 #[.pointer (some ⟨a.d, 0, none⟩)] w fun e w' => e = .returned (.bool (!D.down)) ∧ w = w' := Up_any h.dev.dev
theorem ZSt.burned (h : ZSt W w a n s f D) (i : Nat) : Calls Try.prog 10 #[.pointer (some ⟨a.d, 0, none⟩), .int .i64 i] w fun e w' => e = .returned (.bool (fuseB D i)) ∧ w = w' := by
  rw [← burned_fuse]
  exact dBurned_any h.dev.dev i
theorem ZSt.steps (h : ZSt W w a n s f D) : Calls Try.prog 21 #[.pointer (some ⟨a.d, 0, none⟩)] w fun e w' => e = .returned (.int .i64 (zcount D : Nat)) ∧ Hid (ZSt W w' a n s f D) ∧ Hid (DLeft w w' a) := by
  refine (zSteps_any h.dev.dev h.ok (by have := h.n1; omega) (by have := h.s1; omega)).mono ?_
  rintro e w' ⟨rfl, h1, h2⟩
  exact ⟨rfl, h.next h2 h1 h.ok, h2⟩
theorem ZSt.resume (h : ZSt W w a n s f D) : Calls Try.prog 18 #[.pointer (some ⟨a.d, 0, none⟩)] w fun e w' => e = .returned (.int .i64 (zresume D).1) ∧ Hid (ZSt W w' a n s f (zresume D).2) ∧ Hid (DLeft w w' a) := by
  refine (zResume_any h.dev.dev h.ok (by have := h.n1; omega) (by have := h.s1; omega)).mono ?_
  rintro e w' ⟨rfl, h1, h2⟩
  exact ⟨rfl, h.next h2 h1 (zresume_ok h.ok), h2⟩
theorem ZSt.begin_ (h : ZSt W w a n s f D) : Calls Try.prog 14 #[.pointer (some ⟨a.d, 0, none⟩)] w fun e w' => e = .returned (.int .i64 (zbegin D).1) ∧ Hid (ZSt W w' a n s f (zbegin D).2) ∧ Hid (DLeft w w' a) := by
  refine (zBegin_any h.dev.dev h.ok (by have := h.n1; omega) (by have := h.s1; omega)).mono ?_
  rintro e w' ⟨rfl, h1, h2⟩
  exact ⟨rfl, h.next h2 h1 (zbegin_ok h.ok), h2⟩
theorem ZSt.trip (h : ZSt W w a n s f D) (x : Int) (hx : -9223372036854775808 ≤ x ∧ x ≤ 9223372036854775807) : Calls Try.prog 13 #[.pointer (some ⟨a.d, 0, none⟩), .int .i64 x] w fun e w' => e = .returned (.tuple #[]) ∧ Hid (ZSt W w' a n s f (ztrip x D)) ∧ Hid (DLeft w w' a) := by
  refine (dTrip_any h.dev.dev x).mono ?_
  rintro e w' ⟨rfl, h1, h2⟩
  exact ⟨rfl, h.next h2 h1 (ztrip_ok h.ok x hx), h2⟩
theorem ZSt.mount (h : ZSt W w a n s f D) (pv : Value) (P : List Int) (hP : IntsAt W pv P) : Calls Try.prog 9 #[.pointer (some ⟨a.d, 0, none⟩), pv] w fun e w' => e = .returned (.tuple #[]) ∧ Hid (ZSt W w' a n s f (zmount P D)) ∧ Hid (DLeft w w' a) := by
  obtain ⟨pb, po, hr2, hpg, hpl, hc⟩ := picks_rest hP h.dev.bel h.dev.dev.mem.ne h.dev.dev.mem.lt.1 h.dev.hg
  refine (dMount_any h.dev.dev h.ok.fine h.len pv P pb po hr2 hpg hc).mono ?_
  rintro e w' ⟨rfl, h1, h2⟩
  exact ⟨rfl, h.next h2 h1 (zmount_ok h.ok P), h2⟩
theorem intsAt_nil (W : World) : IntsAt W (.slice none 0 0) [] := ⟨none, 0, rfl, Nat.le_refl _, Nat.zero_le _, fun e => absurd e (by simp)⟩
theorem ZSt.mount0 (h : ZSt W w a n s f D) : Calls Try.prog 9 #[.pointer (some ⟨a.d, 0, none⟩), .slice none 0 0] w fun e w' => e = .returned (.tuple #[]) ∧ Hid (ZSt W w' a n s f (zmount [] D)) ∧ Hid (DLeft w w' a) := h.mount _ [] (intsAt_nil W)
theorem ZSt.burn (h : ZSt W w a n s f D) (i : Int) (hi : -9223372036854775808 ≤ i ∧ i ≤ 9223372036854775807) : Calls Try.prog 19 #[.pointer (some ⟨a.d, 0, none⟩), .int .i64 i] w fun e w' => e = .returned (.int .i64 (zburn i D).1) ∧ Hid (ZSt W w' a n s f (zburn i D).2) ∧ Hid (DLeft w w' a) := by
  refine (dBurn_any h.dev.dev h.ok.left i).mono ?_
  rintro e w' ⟨rfl, h1, h2⟩
  exact ⟨rfl, h.next h2 h1 (zburn_ok h.ok i hi), h2⟩
theorem ZSt.image (h : ZSt W w a n s f D) : Calls Try.prog 12 #[.pointer (some ⟨a.d, 0, none⟩)] w fun e w' => ∃ v, e = .returned v ∧ Hid (NewTexts w w' v (D.M.map Sec.now)) ∧ Hid (ZSt W w' a n s f D) := by
  refine (dImage_any h.dev.dev h.len).mono ?_
  rintro e w' ⟨v, rfl, hT⟩
  exact ⟨v, rfl, hT, h.on hT.2.2⟩
theorem ZSt.empty (h : ZSt W w a n s f D) : Calls Try.prog 15 #[.pointer (some ⟨a.d, 0, none⟩)] w fun e w' => ∃ r : Bool, e = .returned (.bool r) ∧ Hid ((∀ t ∈ D.slots, t = zero32) → r = true) ∧ Hid (ZSt W w' a n s f D) := by
  refine (l33empty_any h.dev.dev).mono ?_
  rintro e w' ⟨r, rfl, h1, h2⟩
  exact ⟨r, rfl, h1, h.on h2⟩
theorem ZSt.clone (h : ZSt W w a n s f D) : Calls Try.prog 26 #[.pointer (some ⟨a.d, 0, none⟩)] w fun e w' => ∃ c : DAt, e = .returned (.pointer (some ⟨c.d, 0, none⟩)) ∧ Hid (ZSt W w' c n s f D) ∧ Hid (ZSt W w' a n s f D) ∧ Hid (c.Apart a) := by
  refine (dClone_any h.dev.dev h.len ⟨by rw [h.ok.slots]; have := h.s1; omega, by rw [h.ok.slots]; have := h.s1; omega⟩ ⟨by rw [h.ok.fuses]; have := h.f1; omega, by rw [h.ok.fuses]; have := h.f1; omega⟩).mono ?_
  rintro e w' ⟨c, rfl, h1, ⟨l1, l2, l3, l4⟩, hB⟩
  have hz := h.dev.bel.size
  exact ⟨c, rfl, ⟨⟨h1, h.dev.bel.trans (hB.mono hz), by omega, by omega, by omega, by omega⟩, h.ok, h.n1, h.s1, h.f1⟩, h.on hB, (DevIs.apart h.dev.dev l1 l2 l3 l4).symm⟩
theorem ZSt.sane (h : ZSt W w a n s f D) : Calls Try.prog 8 #[] w fun e w' => e = .returned (.bool true) ∧ Hid (ZSt W w' a n s f D) := by
  refine (sanity_true w).mono ?_
  rintro e w' ⟨rfl, hB⟩
  exact ⟨rfl, h.on hB⟩
/-- The size's box. -/
theorem zbox (W : World) (x y z : Int) : Blk (W.alloc (.cells #[.int .i64 x, .int .i64 y, .int .i64 z] 23)) W.heap.size 23 #[.int .i64 x, .int .i64 y, .int .i64 z] ∧ Below W.heap.size W (W.alloc (.cells #[.int .i64 x, .int .i64 y, .int .i64 z] 23)) :=
  ⟨Blk.new W _ _, (Below.refl _ _).alloc (Nat.le_refl _) _⟩
theorem build_st (w : World) (n s f : Nat) (hn : 1 ≤ n ∧ n ≤ 12) (hs : 1 ≤ s ∧ s ≤ 16) (hf : 1 ≤ f ∧ f ≤ 16) (v : Value) (ops : List DOp) (hv : DOpsAt w v ops) (ho : OpsIn ops) (hN : ops.length ≤ 40) :
    Calls Try.prog 7 #[.agg #[.int .i64 n, .int .i64 s, .int .i64 f], v] w fun e w' => ∃ a : DAt, ∃ D, e = .returned (.pointer (some ⟨a.d, 0, none⟩)) ∧ Hid (ZSt w w' a n s f D) := by
  refine (build_ok w n s f hn hs hf v ops hv ho hN).mono ?_
  rintro e w' ⟨a, rfl, h⟩
  exact ⟨a, _, rfl, h, (dUpTo_ok n s f ops ho _ (Nat.le_refl _)).1, hn, hs, hf⟩
theorem ZSt.play (h : ZSt W w a n s f D) (hI : Img w v I a) (hIl : I = [] ∨ I.length = n) (o : DOp) (ho : -9223372036854775808 ≤ o.a ∧ o.a ≤ 9223372036854775807) (u : Value) (hu : DOpOk W o u) {R : DRes × Dev × List ByteArray} (hR : dplay o D I = R) :
    Calls Try.prog 17 #[.pointer (some ⟨a.d, 0, none⟩), u, v] w fun e w' => ∃ A n' c, e = .returned (.slice A n' c) ∧ Hid (ZSt W w' a n s f R.2.1) ∧ Hid (Img w' (.slice A n' c) R.2.2 a) ∧ Hid (R.2.2 = [] ∨ R.2.2.length = n) ∧ Hid (DLeft w w' a) := by
  have h1 := dplay_ok h.ok o ho I
  have h2 := dplay_img (D := D) o I
  subst hR
  refine ((BSt.mk h.dev hI).play h.ok (by have := h.n1; omega) (by have := h.s1; omega) hIl o u hu rfl).mono ?_
  rintro e w' ⟨A, n', c, rfl, k1, k2⟩
  refine ⟨A, n', c, rfl, ⟨k1.out.dev, h1, h.n1, h.s1, h.f1⟩, k1.out.img, ?_, k2⟩
  unfold Hid
  rw [h2]
  split
  · right
    rw [List.length_map]
    exact h.ok.M
  · exact hIl
end
end Go.Proofs.Ytgenifcikfbfhaa
