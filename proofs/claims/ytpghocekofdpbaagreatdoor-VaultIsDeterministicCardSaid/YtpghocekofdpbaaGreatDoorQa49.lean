import Derived.Test.YtpghocekofdpbaaGreatDoorQa48
import Derived.Test.YtpghocekofdpbaaGreatDoorTie
import Derived.ProofKit
import Derived.LaidMore
import Derived.Lay
import Derived.OpenShut
import Derived.SliceStrings
import Derived.ChangeSlices
import Derived.Stop.Joined
import Derived.SevenTiedAt
import Derived.Test.YtpghocekofdpbaaGreatDoorQa13
namespace Go.Proofs.YtpghocekofdpbaaGreatDoor
open Go.ChangeShapes Go.WideShapes Go.ChangeAt Go.RowKit Go.Deep
def laid3 : List (String × DataW Unit) := [("custody/hash.constants", Rows.laid_custody_hash_constants), ("unicode/utf8.acceptRanges", Rows.laid_unicode_utf8_acceptRanges), ("unicode/utf8.first", Rows.laid_unicode_utf8_first)]
set_option maxRecDepth 100000 in
theorem laid3_met (os : Os) (args : Array Value) : laidMetH Tryz.prog laid3 ((World.laidAll Tryz.prog os laid3).forCall (fun _ _ => 0) ⟨#[], args, []⟩).memory := by
 rw [MakeChecks.laidMetH_plain _ _ _ (by kernel_rfl)]
 exact laidMet_laidAll _ (by kernel_rfl) (by kernel_rfl)
theorem gHash : Tryz.prog.globalNamed "custody/hash.constants" = some 1 := by kernel_rfl
theorem tHash : (Tryz.prog.globals[1]?).map (·.type) = some 166 := by kernel_rfl
theorem cellsA64 : Tryz.prog.cellsOf 166 = 64 := by kernel_rfl
theorem cellsU32 : Tryz.prog.cellsOf 112 = 1 := by kernel_rfl
def kData {H : Type} : DataW H := .agg (shaK.map fun k => .lit (.int .u32 (k.toNat : Int)))
theorem hash_kData : (Rows.laid_custody_hash_constants : DataW Unit) = kData := by kernel_rfl
section
variable {H : Type} {enc : TypeId × Value -> H} {w : World} {base : Nat} {spare : Nat -> Bool} {held : Bool}
theorem consts_cells {m : Nat} {cs : List Value} {x : DataW H × List MemPlace} (h : DataW.trod enc Tryz.prog w base spare held m 166 cs = some x) (hx : x.1 = kData) : cs = kV := by
 obtain ⟨xs, n, _, rfl, hl, hlen, hel⟩ := DataW.trod_array Tryz.underlying166 h
 rw [cellsA64] at hl
 rw [cellsU32] at hel
 unfold kData at hx
 dsimp only at hx
 simp only [DataW.agg.injEq] at hx
 apply List.ext_getElem
 ·rw [hl, kV_len]
 ·intro i h1 h2
  have hi : i < 64 := by omega
  have he := hel i hi
  rw [Nat.mul_one, List.getElem?_eq_getElem (by omega : i < xs.length)] at he
  obtain ⟨k, hk, hxk, _⟩ := DataW.trod_int Tryz.underlying112 he
  have hxi : (xs.map (·.1))[i]? = some (.lit (.int .u32 k)) := by
   rw [List.getElem?_map, List.getElem?_eq_getElem (by omega : i < xs.length), hxk]
   rfl
  rw [hx, List.getElem?_map, List.getElem?_eq_getElem (by rw [shaK_len]; exact hi)] at hxi
  simp only [Option.map_some, Option.some.injEq, DataW.lit.injEq, Lit.int.injEq, true_and] at hxi
  have hc : (cs.drop i).take 1 = [cs[i]] := by
   rw [List.drop_eq_getElem_cons h1]
   rfl
  rw [hc] at hk
  have hk2 := (List.cons.injEq _ _ _ _).mp hk |>.1
  rw [hk2, <- hxi]
  exact (List.getElem_map u32v (l := shaK) (h := h2)).symm
end
theorem consts_at {W : World} {cs0 : Array Value} {name : String} {g : Nat} (hg : Tryz.prog.globalNamed name = some g) (hv : W.var? Tryz.prog name = some cs0) (hcs : cs0.toList = kV) : KAt W g := by
 unfold World.var? at hv
 rw [hg] at hv
 simp only [Option.bind_some] at hv
 split at hv
 ·rename_i c e fz hh
  have hc : c = cs0 := Option.some.inj hv
  subst hc
  refine ⟨(Array.getElem?_eq_some_iff.1 hh).1, fun j v hj => ?_⟩
  rw [<- hcs] at hj
  simp only [World.cell?, hh]
  rw [Nat.zero_add, <- hj, Array.getElem?_toList]
  rfl
 ·cases hv
theorem kAt_of_laid3 {W : World} (h : laidMetH Tryz.prog laid3 W) : KAt W 1 := by
 rw [MakeChecks.laidMetH_plain _ _ _ (by kernel_rfl)] at h
 obtain ⟨ps, ⟨g0, t0, cs0, f0, p0, q0, hg0, ht0, hv0, hd0, _, _⟩, _, _⟩ := h
 obtain rfl := Option.some.inj (gHash.symm.trans hg0)
 obtain rfl := Option.some.inj (tHash.symm.trans ht0)
 exact consts_at gHash hv0 (consts_cells hd0 hash_kData)
set_option maxRecDepth 100000 in
theorem open_byteN {H : Type} {enc : TypeId × Value -> H} {W : World} {v : Value} {d : DataW H} {ps : List MemPlace} {base : Nat} (hv : Value.okWide Tryz.prog W .any base 5 v)
  (h : DataW.Trod enc Tryz.prog W 0 (fun _ => true) true 5 v d ps) : ∃ n : Nat, v = .int .u8 (n : Int) /\ n < 256 := by
 obtain ⟨n, rfl⟩ := okWide_int Tryz.underlying5 hv
 obtain ⟨fuel, hf⟩ := h
 obtain ⟨k, hk, _, hz⟩ := DataW.trod_int Tryz.underlying5 hf
 simp [Value.cells] at hk
 subst hk
 obtain ⟨m, rfl, hm⟩ := u8_nat hz
 exact ⟨m, rfl, hm⟩
set_option maxRecDepth 100000 in
theorem open_int64 {H : Type} {enc : TypeId × Value -> H} {W : World} {v : Value} {d : DataW H} {ps : List MemPlace} {base : Nat} (hv : Value.okWide Tryz.prog W .any base 3 v)
  (h : DataW.Trod enc Tryz.prog W 0 (fun _ => true) true 3 v d ps) : ∃ n : Int, v = .int .i64 n /\ -9223372036854775808 <= n /\ n < 9223372036854775808 := by
 obtain ⟨n, rfl⟩ := okWide_int Tryz.underlying3 hv
 obtain ⟨fuel, hf⟩ := h
 obtain ⟨k, hk, _, hz⟩ := DataW.trod_int Tryz.underlying3 hf
 simp [Value.cells] at hk
 subst hk
 refine ⟨n, rfl, ?_⟩
 simp only [Lit.wf, Bool.and_eq_true, IntKind.min, IntKind.max] at hz
 simp [IntKind.signed, IntKind.bits] at hz
 omega
theorem trodAll_below {P : Program} (hl : laidOutB P = true) {H : Type} {enc : TypeId × Value -> H} {W W' : World} (hb : Below W.heap.size W W') : ∀ {ts : List TypeId} {vs : List Value} {ds : List (DataW H)} {ps : List MemPlace}, (ts.all fun t => P.readableRec t && decide (t < P.types.size)) = true ->
  DataW.TrodAll enc P W 0 (fun _ => true) true ts vs ds ps -> (∀ x ∈ ps, x.block < W.heap.size) -> DataW.TrodAll enc P W' 0 (fun b => decide (b < W.heap.size)) true ts vs ds ps := by
 intro ts
 induction ts with
 | nil =>
  intro vs ds ps _ h _
  obtain ⟨rfl, rfl, rfl⟩ := trodAll_nil h
  exact rfl
 | cons t ts ih =>
  intro vs ds ps ht h hlt
  obtain ⟨v, vs', d, ds', p, q, rfl, rfl, rfl, h0, h1⟩ := trodAll_cons h
  rw [List.all_cons, Bool.and_eq_true, Bool.and_eq_true] at ht
  exact trodAll_cons_mk (Below.trod hl ht.1.1 (of_decide_eq_true ht.1.2) h0 hb (fun x hx => hlt x (List.mem_append_left _ hx))) (ih ht.2 h1 (fun x hx => hlt x (List.mem_append_right _ hx)))
end Go.Proofs.YtpghocekofdpbaaGreatDoor
namespace Go.Proofs.YtpghocekofdpbaaGreatDoor
open Go.RowKit Go.Shelf
attribute [local go_sem] Oper.semAt_some
structure VBack (B : Nat) (x : VAt) (u : Value) : Prop where
 d : B <= x.a.d
 g : B <= x.a.g
 sb : B <= x.a.sb
 fb : B <= x.a.fb
 jb : B <= x.jb
 vb : B <= x.vb
 u : ∀ k, u.ownBlock = some k -> B <= k
section
variable {W w w' w1 w2 : World} {x : VAt} {h b lo pb B : Nat} {V V' : Vlt} {D E : Dev} {p u p' u' : Value}
theorem VLeft.below {w0 : World} (hF : VLeft w w' x u) (hB : Below B w0 w) (h0 : B <= w.heap.size) (k : VBack B x u) : Below B w0 w' :=
 ⟨hF.os.trans hB.os, hF.tape.trans hB.tape, hF.output.trans hB.output, Nat.le_trans hB.size hF.size, fun j hj => (hF.rest j (Nat.lt_of_lt_of_le hj h0) (by have := k.d; omega) (by have := k.g; omega) (by have := k.sb; omega) (by have := k.fb; omega) (by have := k.jb; omega) (by have := k.vb; omega) (fun e => by have := k.u j e; omega)).trans (hB.block j hj)⟩
theorem VBack.later (k : VBack W.heap.size x u) (hW : W.heap.size <= w.heap.size) (hl : Later w p u p' u') : VBack W.heap.size { x with lo := lo } u' :=
 ⟨k.d, k.g, k.sb, k.fb, k.jb, k.vb, fun j e => (hl.own j e).elim (k.u j) (fun q => Nat.le_trans hW q)⟩
theorem kl_of {g : Nat} (hg : g = 1) (hK : KAt W g) (hB : Below W.heap.size W w) (k : VBack W.heap.size x u) : KL w x u := fun _ hF => by
 subst hg
 exact hK.below (hF.below hB hB.size k)
structure PSt (W w : World) (x : VAt) (pb h : Nat) (V : Vlt) (D : Dev) (b : Nat) (p u : Value) : Prop where
 vis : VIs w x h V D p u
 inv : VInv h V D b
 pl : Blk w pb 37 #[.pointer (some ⟨x.a.d, 0, none⟩), .pointer (some ⟨x.vb, 0, none⟩), .slice none 0 0]
 bel : Below W.heap.size W w
 back : VBack W.heap.size x u
 len : D.M.length <= 24
 half : D.M.length / 2 = h
 at_ : W.heap.size <= pb
theorem VPost.pre {r : VRes} {e : Ending} (hB : Below w.heap.size w w1) (hp : VPost w1 x h p u r e w') : VPost w x h p u r e w' := by
 obtain ⟨h1, h2, h3, h4⟩ := hp
 refine ⟨h1, (VLeft.ofBelow hB).trans h2, h3, fun V' e => ?_⟩
 obtain ⟨lo, p', u', k, hl⟩ := h4 V' e
 exact ⟨lo, p', u', k, hl.up hB.size⟩
theorem PSt.on (k : PSt W w x pb h V D b p u) (hB : Below w.heap.size w w') : PSt W w' x pb h V D b p u :=
 ⟨k.vis.below hB, k.inv, k.pl.below hB k.pl.lt, k.bel.trans (hB.mono k.bel.size), k.back, k.len, k.half, k.at_⟩
theorem PSt.next {r : VRes} {e : Ending} {c : Nat} (k : PSt W w x pb h V D b p u) (hp : VPost w x h p u r e w') (hV : r.2.1 = some V') (hi : VInv h V' r.2.2 c) (hl : r.2.2.M.length = D.M.length) : ∃ lo p' u', PSt W w' { x with lo := lo } pb h V' r.2.2 c p' u' /\ Later w p u p' u' := by
 obtain ⟨_, h2, h3, h4⟩ := hp
 obtain ⟨lo, p', u', kv, hla⟩ := h4 V' hV
 refine ⟨lo, p', u', ⟨kv, hi, ?_, h2.below k.bel k.bel.size k.back, k.back.later k.bel.size hla, by rw [hl]; exact k.len, by rw [hl]; exact k.half, k.at_⟩, hla⟩
 exact k.vis.box h2 k.pl (by decide)
theorem PSt.hh (k : PSt W w x pb h V D b p u) : h <= 12 := by have := k.len; have := k.half; omega
theorem PSt.few (k : PSt W w x pb h V D b p u) : V.J.l.length <= 1048576 /\ V.texts.length <= 1048576 := by
 have h1 := k.inv.jok.inv.few
 have h2 := k.hh
 obtain ⟨R, hR, _, _, e3⟩ := k.inv.read
 have h3 := readN_texts hR
 rw [e3] at h3
 omega
theorem PSt.commit (k : PSt W w x pb h V D b p u) (hb : b <= 255) (hK : KAt W 1) (t : ByteArray) (ht : t.size <= 7971) :
  Calls Tryz.prog 16 #[.pointer (some ⟨x.vb, 0, none⟩), .string t] w (VPost w x h p u (vcommit h V D t)) :=
 vcommit_any k.vis k.inv hb t ht (by have := k.len; omega) k.few.1 k.few.2 (kl_of rfl hK k.bel k.back)
theorem PSt.compact (k : PSt W w x pb h V D b p u) (hb : b < 255) (hK : KAt W 1) (t : ByteArray) (ht : t.size <= 7939) :
  Calls Tryz.prog 37 #[.pointer (some ⟨x.vb, 0, none⟩), .string t] w (VPost w x h p u (vcompact h V D t)) :=
 vcompact_any k.vis k.inv hb t ht (by have := k.len; omega) (kl_of rfl hK k.bel k.back)
theorem PSt.rekey (k : PSt W w x pb h V D b p u) (hb : b < 255) (hK : KAt W 1) (root t : ByteArray) (hr : root.size = 32 /\ root ≠ zero32) (ht : t.size <= 7939) :
  Calls Tryz.prog 25 #[.pointer (some ⟨x.vb, 0, none⟩), .string root, .string t] w (VPost w x h p u (vrekey h V D root t)) :=
 vrekey_any k.vis k.inv hb root t hr ht (by have := k.len; omega) (kl_of rfl hK k.bel k.back)
theorem vpost_box {r : VRes} {e : Ending} {j : Nat} {t : TypeId} {cs : Array Value} (k : VIs w x h V D p u) (hp : VPost w x h p u r e w') (hb : Blk w j t cs) (ht : t ≠ 89 /\ t ≠ 139 /\ t ≠ 9 /\ t ≠ 4 /\ t ≠ 126 /\ t ≠ 79) : Blk w' j t cs := k.box hp.2.1 hb ht
end
end Go.Proofs.YtpghocekofdpbaaGreatDoor
namespace Go.Proofs.YtpghocekofdpbaaGreatDoor
open Go.RowKit Go.Shelf
attribute [local go_sem] Oper.semAt_some
section
variable {W w w' w1 w2 : World} {x : VAt} {h b lo pb B : Nat} {V V' : Vlt} {D E : Dev} {p u p' u' : Value}
def ReadsP (pb xb vb : Nat) (kind n size f : Int) (s : Value) (W : World) : Prop :=
 W.cell? ⟨pb, 1, none⟩ = some (.pointer (some ⟨vb, 0, none⟩)) /\ W.cell? ⟨xb, 0, none⟩ = some (.int .i64 kind) /\ W.cell? ⟨xb, 1, none⟩ = some (.int .i64 n) /\ W.cell? ⟨xb, 2, none⟩ = some (.int .i64 size) /\ W.cell? ⟨xb, 3, none⟩ = some (.int .u8 f) /\ W.cell? ⟨xb, 4, none⟩ = some s
theorem readsP (hp : Blk w pb 37 #[.pointer (some ⟨x.a.d, 0, none⟩), .pointer (some ⟨x.vb, 0, none⟩), .slice none 0 0]) {xb : Nat} {kind n size f : Int} {s : Value} (hx : Blk w xb 32 #[.int .i64 kind, .int .i64 n, .int .i64 size, .int .u8 f, s]) : ReadsP pb xb x.vb kind n size f s w :=
 ⟨hp.cell 1, hx.cell 0, hx.cell 1, hx.cell 2, hx.cell 3, hx.cell 4⟩
set_option maxRecDepth 100000 in
set_option maxHeartbeats 8000000 in
theorem play_any (k : PSt W w x pb h V D b p u) (hb : b < 255) (hK : KAt W 1) (kind n size : Int) (f : Nat) (hf : f < 256) (hk : kind = 1 \/ kind = 2 \/ kind = 3) (A : Option Addr) (m c : Nat) :
  Calls Tryz.prog 20 #[.pointer (some ⟨pb, 0, none⟩), .agg #[.int .i64 kind, .int .i64 n, .int .i64 size, .int .u8 f, .slice A m c]] w (VPost w x h p u (vstep h V D ⟨kind, n, size, f⟩)) := by
 have hbx := Blk.new w 32 #[.int .i64 kind, .int .i64 n, .int .i64 size, .int .u8 f, .slice A m c]
 have hbl := (Below.refl w.heap.size w).alloc (Nat.le_refl _) (.cells #[.int .i64 kind, .int .i64 n, .int .i64 size, .int .u8 f, .slice A m c] 32)
 obtain ⟨T, hT⟩ : ∃ T, text26 f size = T := ⟨_, rfl⟩
 obtain ⟨R, hR⟩ : ∃ R, root26 f = R := ⟨_, rfl⟩
 have hTs : T.size <= 300 := by rw [<- hT, text26_size]; exact len26_le _
 have hRs : R.size = 32 /\ R ≠ zero32 := by rw [<- hR]; exact ⟨root26_size _, root26_ne _⟩
 have HT : Hid (∀ wx, Calls Tryz.prog 14 #[.agg #[.int .i64 kind, .int .i64 n, .int .i64 size, .int .u8 f, .slice A m c]] wx fun e w' => e = .returned (.string T) /\ Below wx.heap.size wx w') := fun wx => by rw [<- hT]; exact rText26_any wx kind n size f hf A m c
 have HRt : Hid (∀ wx, Calls Tryz.prog 26 #[.int .u8 f] wx fun e w' => e = .returned (.string R) /\ Below wx.heap.size wx w') := fun wx => by rw [<- hR]; exact rRoot_any wx f hf
 have HC : Hid (∀ wx, Below w.heap.size w wx -> Calls Tryz.prog 16 #[.pointer (some ⟨x.vb, 0, none⟩), .string T] wx (VPost wx x h p u (vcommit h V D T))) := fun wx hB => (k.on hB).commit (by omega) hK T (by omega)
 have HI : Hid (∀ wx, Below w.heap.size w wx -> Calls Tryz.prog 37 #[.pointer (some ⟨x.vb, 0, none⟩), .string T] wx (VPost wx x h p u (vcompact h V D T))) := fun wx hB => (k.on hB).compact hb hK T (by omega)
 have HK : Hid (∀ wx, Below w.heap.size w wx -> Calls Tryz.prog 25 #[.pointer (some ⟨x.vb, 0, none⟩), .string R, .string T] wx (VPost wx x h p u (vrekey h V D R T))) := fun wx hB => (k.on hB).rekey hb hK R T hRs (by omega)
 have hst : vstep h V D ⟨kind, n, size, f⟩ = if kind = 1 then vcommit h V D T else if kind = 2 then vcompact h V D T else vrekey h V D R T := by rw [<- hT, <- hR]; rfl
 rw [hst]
 have KK := Lib.hid k
 have hpl := k.pl
 have HP := Lib.hid hpl
 have y1 := hpl.cell 1
 have Hf := Lib.hid hf
 clear hst hT hR hTs hRs hb hK k hpl hf
 rcases hk with rfl | rfl | rfl
 ·rw [if_pos rfl]
  obtain ⟨RR, hRR⟩ : ∃ RR, vcommit h V D T = RR := ⟨_, rfl⟩
  rw [hRR] at HC ⊢
  clear hRR HI HK HRt y1
  go_enter Tryz.func20, Tryz.ntmps20
  go_upto_region 1 with fail
  obtain ⟨w0, hw0⟩ : ∃ w0 : World, w.alloc (.cells #[.int .i64 1, .int .i64 n, .int .i64 size, .int .u8 f, .slice A m c] 32) = w0 := ⟨_, rfl⟩
  rw [hw0] at hbx hbl ⊢
  obtain ⟨xb, hxb⟩ : ∃ xb, w.heap.size = xb := ⟨_, rfl⟩
  have HX : Hid (Blk w0 xb 32 #[.int .i64 1, .int .i64 n, .int .i64 size, .int .u8 f, .slice A m c]) := by rw [<- hxb]; exact hbx
  have HB0 := Lib.hid hbl
  have HP0 : Hid (Blk w0 pb 37 #[.pointer (some ⟨x.a.d, 0, none⟩), .pointer (some ⟨x.vb, 0, none⟩), .slice none 0 0]) := HP.out.below hbl HP.out.lt
  obtain ⟨x0, x1, x2, x3, x4, x5⟩ := readsP HP0.out HX.out
  have HBd : Hid (Below w0.heap.size w0 w0.drew) := (Below.refl _ _).drew
  try rw [hxb]
  clear hw0 hbx hbl hxb
  go_wp2_with fail
  go_region_held3 (fun W => W.cell? ⟨pb, 1, none⟩ = some (.pointer (some ⟨x.vb, 0, none⟩)) /\ W.cell? ⟨xb, 0, none⟩ = some (.int .i64 1) /\ W.cell? ⟨xb, 1, none⟩ = some (.int .i64 n) /\ W.cell? ⟨xb, 2, none⟩ = some (.int .i64 size) /\ W.cell? ⟨xb, 3, none⟩ = some (.int .u8 f) /\ W.cell? ⟨xb, 4, none⟩ = some (.slice A m c)) (go_keep) (first | (go_at_call 16; have hmk := HBwt; clear hmk; have HB2 := Lib.hid (HB0.out.trans (HBwt.out.mono HB0.out.size)); refine (HC.out _ HB2.out).mono ?_; intro e w2 hP; have he := hP.1; subst he; obtain ⟨z0, z1, z2, z3, z4, z5⟩ := readsP (vpost_box (KK.out.on HB2.out).vis hP (HP0.out.below HBwt.out HP0.out.lt) (by decide)) (vpost_box (KK.out.on HB2.out).vis hP (HX.out.below HBwt.out HX.out.lt) (by decide))) | (go_at_call 14; refine (HT.out _).mono ?_; rintro e wt ⟨rfl, hB⟩; have HBwt := Lib.hid (HBd.out.trans (hB.mono HBd.out.size)); obtain ⟨wty0, wty1, wty2, wty3, wty4, wty5⟩ := readsP (HP0.out.below HBwt.out HP0.out.lt) (HX.out.below HBwt.out HX.out.lt); clear hB))
  clear x0 x1 x2 x3 x4 x5
  go_wp2_with fail
  go_ret
  exact VPost.pre HB2.out hP
 ·rw [if_neg (show ¬ (2 : Int) = 1 by decide), if_pos rfl]
  obtain ⟨RR, hRR⟩ : ∃ RR, vcompact h V D T = RR := ⟨_, rfl⟩
  rw [hRR] at HI ⊢
  clear hRR HC HK HRt y1
  go_enter Tryz.func20, Tryz.ntmps20
  go_upto_region 1 with fail
  obtain ⟨w0, hw0⟩ : ∃ w0 : World, w.alloc (.cells #[.int .i64 2, .int .i64 n, .int .i64 size, .int .u8 f, .slice A m c] 32) = w0 := ⟨_, rfl⟩
  rw [hw0] at hbx hbl ⊢
  obtain ⟨xb, hxb⟩ : ∃ xb, w.heap.size = xb := ⟨_, rfl⟩
  have HX : Hid (Blk w0 xb 32 #[.int .i64 2, .int .i64 n, .int .i64 size, .int .u8 f, .slice A m c]) := by rw [<- hxb]; exact hbx
  have HB0 := Lib.hid hbl
  have HP0 : Hid (Blk w0 pb 37 #[.pointer (some ⟨x.a.d, 0, none⟩), .pointer (some ⟨x.vb, 0, none⟩), .slice none 0 0]) := HP.out.below hbl HP.out.lt
  obtain ⟨x0, x1, x2, x3, x4, x5⟩ := readsP HP0.out HX.out
  have HBd : Hid (Below w0.heap.size w0 w0.drew) := (Below.refl _ _).drew
  try rw [hxb]
  clear hw0 hbx hbl hxb
  go_wp2_with fail
  go_region_held3 (fun W => W.cell? ⟨pb, 1, none⟩ = some (.pointer (some ⟨x.vb, 0, none⟩)) /\ W.cell? ⟨xb, 0, none⟩ = some (.int .i64 2) /\ W.cell? ⟨xb, 1, none⟩ = some (.int .i64 n) /\ W.cell? ⟨xb, 2, none⟩ = some (.int .i64 size) /\ W.cell? ⟨xb, 3, none⟩ = some (.int .u8 f) /\ W.cell? ⟨xb, 4, none⟩ = some (.slice A m c)) (go_keep) (first | (go_at_call 37; have hmk := HBwt; clear hmk; have HB2 := Lib.hid (HB0.out.trans (HBwt.out.mono HB0.out.size)); refine (HI.out _ HB2.out).mono ?_; intro e w2 hP; have he := hP.1; subst he; obtain ⟨z0, z1, z2, z3, z4, z5⟩ := readsP (vpost_box (KK.out.on HB2.out).vis hP (HP0.out.below HBwt.out HP0.out.lt) (by decide)) (vpost_box (KK.out.on HB2.out).vis hP (HX.out.below HBwt.out HX.out.lt) (by decide))) | (go_at_call 14; refine (HT.out _).mono ?_; rintro e wt ⟨rfl, hB⟩; have HBwt := Lib.hid (HBd.out.trans (hB.mono HBd.out.size)); obtain ⟨wty0, wty1, wty2, wty3, wty4, wty5⟩ := readsP (HP0.out.below HBwt.out HP0.out.lt) (HX.out.below HBwt.out HX.out.lt); clear hB))
  clear x0 x1 x2 x3 x4 x5
  go_wp2_with fail
  go_ret
  exact VPost.pre HB2.out hP
 ·rw [if_neg (show ¬ (3 : Int) = 1 by decide), if_neg (show ¬ (3 : Int) = 2 by decide)]
  obtain ⟨RR, hRR⟩ : ∃ RR, vrekey h V D R T = RR := ⟨_, rfl⟩
  rw [hRR] at HK ⊢
  clear hRR HC HI y1
  go_enter Tryz.func20, Tryz.ntmps20
  go_upto_region 1 with fail
  obtain ⟨w0, hw0⟩ : ∃ w0 : World, w.alloc (.cells #[.int .i64 3, .int .i64 n, .int .i64 size, .int .u8 f, .slice A m c] 32) = w0 := ⟨_, rfl⟩
  rw [hw0] at hbx hbl ⊢
  obtain ⟨xb, hxb⟩ : ∃ xb, w.heap.size = xb := ⟨_, rfl⟩
  have HX : Hid (Blk w0 xb 32 #[.int .i64 3, .int .i64 n, .int .i64 size, .int .u8 f, .slice A m c]) := by rw [<- hxb]; exact hbx
  have HB0 := Lib.hid hbl
  have HP0 : Hid (Blk w0 pb 37 #[.pointer (some ⟨x.a.d, 0, none⟩), .pointer (some ⟨x.vb, 0, none⟩), .slice none 0 0]) := HP.out.below hbl HP.out.lt
  obtain ⟨x0, x1, x2, x3, x4, x5⟩ := readsP HP0.out HX.out
  have HBd : Hid (Below w0.heap.size w0 w0.drew) := (Below.refl _ _).drew
  try rw [hxb]
  clear hw0 hbx hbl hxb
  go_wp2_with fail
  go_region_held3 (fun W => W.cell? ⟨pb, 1, none⟩ = some (.pointer (some ⟨x.vb, 0, none⟩)) /\ W.cell? ⟨xb, 0, none⟩ = some (.int .i64 3) /\ W.cell? ⟨xb, 1, none⟩ = some (.int .i64 n) /\ W.cell? ⟨xb, 2, none⟩ = some (.int .i64 size) /\ W.cell? ⟨xb, 3, none⟩ = some (.int .u8 f) /\ W.cell? ⟨xb, 4, none⟩ = some (.slice A m c)) (go_keep) (first | (go_at_call 25; have hmk := HBwt; clear hmk; have HB2 := Lib.hid (HB0.out.trans (HBwt.out.mono HB0.out.size)); refine (HK.out _ HB2.out).mono ?_; intro e w2 hP; have he := hP.1; subst he; obtain ⟨z0, z1, z2, z3, z4, z5⟩ := readsP (vpost_box (KK.out.on HB2.out).vis hP (HP0.out.below HBwt.out HP0.out.lt) (by decide)) (vpost_box (KK.out.on HB2.out).vis hP (HX.out.below HBwt.out HX.out.lt) (by decide))) | (go_at_call 14; have hmk := HBwr; clear hmk; refine (HT.out _).mono ?_; rintro e wt ⟨rfl, hB⟩; have HBwt := Lib.hid (HBwr.out.trans (hB.mono HBwr.out.size)); obtain ⟨wty0, wty1, wty2, wty3, wty4, wty5⟩ := readsP (HP0.out.below HBwt.out HP0.out.lt) (HX.out.below HBwt.out HX.out.lt); clear hB) | (go_at_call 26; refine (HRt.out _).mono ?_; rintro e wr ⟨rfl, hB⟩; have HBwr := Lib.hid (HBd.out.trans (hB.mono HBd.out.size)); obtain ⟨wry0, wry1, wry2, wry3, wry4, wry5⟩ := readsP (HP0.out.below HBwr.out HP0.out.lt) (HX.out.below HBwr.out HX.out.lt); clear hB))
  clear x0 x1 x2 x3 x4 x5
  go_wp2_with fail
  go_ret
  exact VPost.pre HB2.out hP
end
end Go.Proofs.YtpghocekofdpbaaGreatDoor
namespace Go.Proofs.YtpghocekofdpbaaGreatDoor
open Go.RowKit Go.Shelf
attribute [local go_sem] Oper.semAt_some
def vnew (n f : Nat) : Vlt := ⟨jopen (n / 2) (List.replicate n Sec.blank), root26 f, zero32, none, []⟩
def dnew (n f : Nat) : Dev := { freshDev n 3 2 with slots := [root26 f, zero32, zero32] }
theorem fresh_slot (n f : Nat) : (freshDev n 3 2).slot (0, root26 f) = (0, dnew n f) := by
 unfold Dev.slot Dev.dstep
 rfl
theorem fresh_on (n : Nat) : DOn (freshDev n 3 2) := ⟨rfl, by show -1 <= (-1 : Int) /\ (-1 : Int) <= 9223372036854775807; decide⟩
theorem vnew_inv (n f : Nat) (h : 2 <= n) : VInv (n / 2) (vnew n f) (dnew n f) 1 := by
 have hi := fresh_inv n (n / 2) (by omega) (by omega)
 have hj := fresh_jok n (n / 2) (by omega) (by omega)
 refine ⟨⟨rfl, by show -1 <= (-1 : Int) /\ (-1 : Int) <= 9223372036854775807; decide⟩, hj.open_ (by decide), rfl, rfl, ⟨root26_size f, root26_ne f⟩, rd0, ?_, rfl, rfl, rfl⟩
 have hl := (open_finds hi).2.2
 show readV _ (jopen (n / 2) (List.replicate n Sec.blank)).l = _
 rw [hl]
 rfl
section
variable {w : World}
set_option maxRecDepth 100000 in
set_option maxHeartbeats 1600000 in
theorem jOpen_one {a : DAt} {D : Dev} (hd : DevIs w a D) (hn : D.M.length = 1) : Calls Tryz.prog 65 #[.pointer (some ⟨a.d, 0, none⟩)] w fun e w' => e = .returned (.tuple #[.pointer none, .int .i64 1]) /\ Below w.heap.size w w' := by
 have HS := Lib.hid (Sectors_any hd)
 rw [hn] at HS
 have hq : Int.tdiv ((1 : Nat) : Int) 2 = 0 := by decide
 clear hd hn
 go_enter Tryz.func65, Tryz.ntmps65
 go_wp2_with (first | (go_at_call 103; refine HS.out.mono ?_; rintro e w1 ⟨rfl, rfl⟩))
 have hJ0 : Hid (JO w (((w.alloc (.cells #[.pointer (some ⟨a.d, 0, none⟩), .int .i64 0, .int .i64 0, .int .i64 0, .int .i64 1, .slice none 0 0, .bool false, .bool false] 126)).alloc (.cells #[.pointer (some ⟨w.heap.size, 0, none⟩)] 76)).alloc (.cells #[.slice none 0 0] 35)) a 0 1 0 (.slice none 0 0) []) := by
  have b1 := (Below.refl _ w).alloc (Nat.le_refl _) (.cells #[.pointer (some ⟨a.d, 0, none⟩), .int .i64 0, .int .i64 0, .int .i64 0, .int .i64 1, .slice none 0 0, .bool false, .bool false] 126)
  have b2 := b1.alloc b1.size (.cells #[.pointer (some ⟨w.heap.size, 0, none⟩)] 76)
  have b3 := b2.alloc b2.size (.cells #[.slice none 0 0] 35)
  refine ⟨((Blk.new w _ _).alloc _).alloc _, ?_, ?_, World.ownsRow_nil _ _ _ _, b3⟩
  ·have := (Blk.new (w.alloc (.cells #[.pointer (some ⟨a.d, 0, none⟩), .int .i64 0, .int .i64 0, .int .i64 0, .int .i64 1, .slice none 0 0, .bool false, .bool false] 126)) 76 #[.pointer (some ⟨w.heap.size, 0, none⟩)]).alloc (.cells #[.slice none 0 0] 35)
   rw [World.size_alloc] at this
   exact this
  ·have := Blk.new ((w.alloc (.cells #[.pointer (some ⟨a.d, 0, none⟩), .int .i64 0, .int .i64 0, .int .i64 0, .int .i64 1, .slice none 0 0, .bool false, .bool false] 126)).alloc (.cells #[.pointer (some ⟨w.heap.size, 0, none⟩)] 76)) 35 #[.slice none 0 0]
   rw [World.size_alloc, World.size_alloc] at this
   exact this
 generalize (((w.alloc (.cells #[.pointer (some ⟨a.d, 0, none⟩), .int .i64 0, .int .i64 0, .int .i64 0, .int .i64 1, .slice none 0 0, .bool false, .bool false] 126)).alloc (.cells #[.pointer (some ⟨w.heap.size, 0, none⟩)] 76)).alloc (.cells #[.slice none 0 0] 35)) = w0 at *
 go_loopw [25] (fun i wr => i = .int .i64 0 /\ Hid (JO w wr a 0 1 0 (.slice none 0 0) [])) (fun _ _ => 0)
 case atStart => exact ⟨rfl, hJ0⟩
 case round =>
  obtain ⟨rfl, hJ⟩ := hrel
  have c1 := hJ.out.c.cell 0
  have c4 := hJ.out.j.cell 1
  go_wp2_with fail
  go_ret2
  exact ⟨rfl, hJ.out.b⟩
set_option maxRecDepth 100000 in
set_option maxHeartbeats 1600000 in
theorem vcreate_one {a : DAt} {D : Dev} (hd : DevIs w a D) (hn : D.M.length = 1) (hdn : D.down = false) (hs : D.slots = [zero32, zero32, zero32]) (root : ByteArray) : Calls Tryz.prog 46 #[.pointer (some ⟨a.d, 0, none⟩), .string root] w fun e w' => e = .returned (.tuple #[.pointer none, .int .i64 1]) /\ Below w.heap.size w w' := by
 have HV : Hid (Calls Tryz.prog 64 #[.pointer (some ⟨a.d, 0, none⟩)] w fun e w' => e = .returned (.tuple #[.agg #[.string zero32, .string zero32, .string zero32], .int .i64 0]) /\ Below w.heap.size w w') := values_good hd hdn hs
 have HO : Hid (∀ wx, Below w.heap.size w wx -> Calls Tryz.prog 65 #[.pointer (some ⟨a.d, 0, none⟩)] wx fun e w' => e = .returned (.tuple #[.pointer none, .int .i64 1]) /\ Below wx.heap.size wx w') := fun wx hB => jOpen_one (hd.below hB) hn
 obtain ⟨Z, hZ⟩ : ∃ Z, zero32 = Z := ⟨_, rfl⟩
 rw [hZ] at HV
 clear hd hn hdn hs hZ
 go_enter Tryz.func46, Tryz.ntmps46
 go_wp2_with (first
  | (go_at_call 64; refine HV.out.mono ?_; rintro e w1 ⟨rfl, hB1⟩; obtain ⟨wA, hwA⟩ : ∃ wA, w1.alloc (.cells #[.string Z, .string Z, .string Z] 96) = wA := ⟨_, rfl⟩; have HBA : Hid (Below w.heap.size w wA) := (by rw [<- hwA]; exact hB1.alloc hB1.size _); clear hB1)
  | (go_at_call 65; refine (HO.out _ HBA.out).mono ?_; rintro e w2 ⟨rfl, hB2⟩; have HB2 := Lib.hid hB2; clear hB2))
 go_ret2
 exact ⟨rfl, HBA.out.trans (HB2.out.mono HBA.out.size)⟩
set_option maxRecDepth 100000 in
set_option maxHeartbeats 1600000 in
theorem begin_bad (n : Int) (f : Nat) (hf : f < 256) (h : n < 2) : Calls Tryz.prog 13 #[.int .i64 n, .int .u8 f] w fun e w' => e = .returned (.tuple #[.pointer none, .bool false]) /\ Below w.heap.size w w' := by
 by_cases h1 : n < 1
 ·have HD := Lib.hid (dNew_bad w n 3 2 (by omega))
  clear h h1
  go_enter Tryz.func13, Tryz.ntmps13
  go_wp2_with (first | (go_at_call 45; refine HD.out.mono ?_; rintro e w1 ⟨rfl, hB⟩))
  go_ret2
  exact ⟨rfl, hB⟩
 ·obtain rfl : n = ((1 : Nat) : Int) := by omega
  have HD := Lib.hid (dNew_ok w 1 3 2 (by decide) (by decide) (by decide))
  have HR : Hid (∀ wx, Calls Tryz.prog 26 #[.int .u8 f] wx fun e w' => e = .returned (.string (root26 f)) /\ Below wx.heap.size wx w') := fun wx => rRoot_any wx f hf
  generalize root26 f = R at HR
  clear h h1 hf
  go_enter Tryz.func13, Tryz.ntmps13
  go_wp2_with (first
   | (go_at_call 45; refine HD.out.mono ?_; rintro e w1 ⟨a, rfl, hd, _, hB⟩; have HDv := Lib.hid hd; have HB1 := Lib.hid hB; clear hd hB)
   | (go_at_call 26; refine (HR.out _).mono ?_; rintro e w2 ⟨rfl, hB⟩; have HB2 := Lib.hid hB; clear hB)
   | (go_at_call 46; refine (vcreate_one (HDv.out.below HB2.out) rfl rfl rfl R).mono ?_; rintro e w3 ⟨rfl, hB⟩; have HB3 := Lib.hid hB; clear hB))
  go_ret2
  have h12 := HB1.out.trans (HB2.out.mono HB1.out.size)
  exact ⟨rfl, h12.trans (HB3.out.mono h12.size)⟩
structure Begun (W w w' : World) (h : Nat) (V : Vlt) (D : Dev) (x : VAt) (pb : Nat) (p u : Value) : Prop where
 st : PSt W w' x pb h V D 1 p u
 bel : Below w.heap.size w w'
 back : VBack w.heap.size x u
 at_ : w.heap.size <= pb
 none : p = .pointer none
set_option maxRecDepth 100000 in
set_option maxHeartbeats 1600000 in
theorem begin_ok {W : World} (hW : Below W.heap.size W w) (n f : Nat) (hn : 2 <= n /\ n <= 24) (hf : f < 256) : Calls Tryz.prog 13 #[.int .i64 n, .int .u8 f] w fun e w' => ∃ x pb p u, e = .returned (.tuple #[.pointer (some ⟨pb, 0, none⟩), .bool true]) /\ Begun W w w' (n / 2) (vnew n f) (dnew n f) x pb p u := by
 have HD := Lib.hid (dNew_ok w n 3 2 (by omega) (by decide) (by decide))
 have HR : Hid (∀ wx, Calls Tryz.prog 26 #[.int .u8 f] wx fun e w' => e = .returned (.string (root26 f)) /\ Below wx.heap.size wx w') := fun wx => rRoot_any wx f hf
 have hi := fresh_inv n (n / 2) (by omega) (by omega)
 have HC : Hid (∀ (wx : World) (a : DAt), DevIs wx a (freshDev n 3 2) -> Calls Tryz.prog 46 #[.pointer (some ⟨a.d, 0, none⟩), .string (root26 f)] wx fun e w' => VOpened wx a (n / 2) (0, some (vnew n f), dnew n f) e w') := fun wx a hd => by
  have hM : (freshDev n 3 2).M = List.replicate n Sec.blank := rfl
  have hlen : (freshDev n 3 2).M.length = n := List.length_replicate ..
  have h := vcreate_any hd (fresh_on n) (by rw [hM]; exact hi.fine) (by rw [hM]; exact hi.clean) (n / 2) (by rw [hlen]) (by omega) (by rw [hlen]; omega) rfl (root26 f) (root26_size f) (root26_ne f) (by rw [hM]; exact (open_finds hi).2.2)
  rw [fresh_slot, if_pos rfl] at h
  exact h
 have HI := Lib.hid (vnew_inv n f hn.1)
 have HL : Hid ((dnew n f).M.length = n) := List.length_replicate ..
 have Hn := Lib.hid hn
 have HW := Lib.hid hW
 have HT : Hid ((vnew n f).image = none /\ (vnew n f).texts = []) := ⟨rfl, rfl⟩
 generalize vnew n f = V at HC HI HT ⊢
 generalize dnew n f = D at HC HI HL ⊢
 generalize root26 f = R at HR HC
 clear hn hf hi hW
 go_enter Tryz.func13, Tryz.ntmps13
 go_wp2_with (first
  | (go_at_call 45; refine HD.out.mono ?_; rintro e w1 ⟨a, rfl, hd, hs, hB⟩; have HDv := Lib.hid hd; have HSz := Lib.hid hs; have HB1 := Lib.hid hB; clear hd hB hs)
  | (go_at_call 26; refine (HR.out _).mono ?_; rintro e w2 ⟨rfl, hB⟩; have HB2 := Lib.hid hB; clear hB))
 refine (HC.out _ a (HDv.out.below HB2.out)).mono ?_
 intro e w3 hO
 obtain ⟨hL, hd3, hor⟩ := hO
 rcases hor with ⟨h0, _⟩ | ⟨V1, x, p, u, hV1, hxa, rfl, hvis, hj, hv, hlo⟩
 ·cases h0
 ·cases hV1
  have hB12 := HB1.out.trans (HB2.out.mono HB1.out.size)
  have hB3 : Below w.heap.size w w3 := DFr.below hL hB12 hB12.size HSz.out.1 HSz.out.2.1 HSz.out.2.2.1 HSz.out.2.2.2
  have hs2 := hB12.size
  have hs3 := hB3.size
  have hbk : Hid (VBack w.heap.size x u) := ⟨by rw [hxa]; exact HSz.out.1, by rw [hxa]; exact HSz.out.2.1, by rw [hxa]; exact HSz.out.2.2.1, by rw [hxa]; exact HSz.out.2.2.2, Nat.le_trans hs2 hj, Nat.le_trans hs2 hv, fun k e => by have := (hvis.row.lt k e).1; omega⟩
  have hp0 : Hid (p = .pointer none) := by
   rcases hvis.img with ⟨_, e2⟩ | ⟨_, _, _, _, _, e1, _⟩
   ·exact e2
   ·rw [HT.out.1] at e1; cases e1
  have hB4 : Hid (Below w3.heap.size w3 (w3.alloc (.cells #[.pointer (some ⟨x.a.d, 0, none⟩), .pointer (some ⟨x.vb, 0, none⟩), .slice none 0 0] 37))) := (Below.refl _ _).alloc (Nat.le_refl _) _
  have hbp : Hid (Blk (w3.alloc (.cells #[.pointer (some ⟨x.a.d, 0, none⟩), .pointer (some ⟨x.vb, 0, none⟩), .slice none 0 0] 37)) w3.heap.size 37 #[.pointer (some ⟨x.a.d, 0, none⟩), .pointer (some ⟨x.vb, 0, none⟩), .slice none 0 0]) := Blk.new _ _ _
  have hWs := HW.out.size
  have hbW : Hid (VBack W.heap.size x u) := ⟨Nat.le_trans hWs hbk.out.d, Nat.le_trans hWs hbk.out.g, Nat.le_trans hWs hbk.out.sb, Nat.le_trans hWs hbk.out.fb, Nat.le_trans hWs hbk.out.jb, Nat.le_trans hWs hbk.out.vb, fun k e => Nat.le_trans hWs (hbk.out.u k e)⟩
  have Fin : Hid (Begun W w (w3.alloc (.cells #[.pointer (some ⟨x.a.d, 0, none⟩), .pointer (some ⟨x.vb, 0, none⟩), .slice none 0 0] 37)) (n / 2) V D x w3.heap.size p u) := by
   refine ⟨⟨hvis.below hB4.out, HI.out, hbp.out, ?_, hbW.out, by rw [HL.out]; exact Hn.out.2, by rw [HL.out], Nat.le_trans hWs hs3⟩, hB3.trans (hB4.out.mono hs3), hbk.out, hs3, hp0.out⟩
   have h3 := hB3.trans (hB4.out.mono hs3)
   exact HW.out.trans (h3.mono hWs)
  have Hxa := Lib.hid hxa
  clear hL hd3 hvis hj hv hlo hB12 hB3 hs2 hs3 hWs hxa
  go_wp2_with fail
  go_ret2
  refine ⟨x, _, p, u, rfl, ?_⟩
  rw [<- Hxa.out]
  exact Fin.out
end
end Go.Proofs.YtpghocekofdpbaaGreatDoor
