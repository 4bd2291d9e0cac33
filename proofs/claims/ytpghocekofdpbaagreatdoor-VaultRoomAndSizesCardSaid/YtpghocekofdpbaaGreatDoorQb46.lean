import Derived.Test.YtpghocekofdpbaaGreatDoorQb03
import Derived.Test.YtpghocekofdpbaaGreatDoorQb45
namespace Go.Proofs.YtpghocekofdpbaaGreatDoor
open Go.RowKit Go.Shelf
attribute [local go_sem] Oper.semAt_some
theorem openB_kind (root : ByteArray) (n : Nat) (b : ByteArray) : (openB root n b).kind = 0 \/ (openB root n b).kind = 82 \/ ((openB root n b).kind = 73 /\ (openB root n b).start.size = 32) := by
 unfold openB
 split
 ·generalize (openL (jkey root) (intL n) (bl b)).1 = l
  cases l with
  | nil => exact .inl rfl
  | cons c s =>
   rw [partL_cons]
   split
   ·exact .inr (.inl rfl)
   ·split
    ·rename_i h
     refine .inr (.inr ⟨rfl, ?_⟩)
     show (txt (s.take 32)).size = 32
     rw [txt_size, List.length_take]
     omega
    ·exact .inl rfl
 ·exact .inl rfl
theorem region_round_last {l n : Nat} {P : Program} {Q : Exit -> Act -> World -> Prop} {ops : Array Oper} {S : World -> Prop} {id : Nat} {a : Act} {w : World} (k : Nat) (hm : P.follows .mixedOrders = true) (hd : noDefer ops = true) (hQ : ¬ LetsOut Q) (hS : S w.drew)
  (h : S w.drew -> wpAnyK P .any ops Q S k ops.size (Array.replicate ops.size false) a w.drew) : (Code.region id ops true).wpIn (Fence.wide.inRound l) n P Q a w :=
 wpIn_region_any hm (wpAny_round hd hQ _ _ _ _ (wpAny_of_K _ _ _ _ (h hS)))
theorem texts_at {w1 : World} {b1 n c : Nat} {A : Option Addr} {l : List (Nat × ByteArray)} (h : w1.ownsRow b1 9 1 (.slice A n c) n (strCells (l.map Prod.snd))) (hn : l.length = n) : ∀ (k : Nat) (e : Nat × ByteArray), l[k]? = some e -> ∃ g, A = some ⟨g, 0, none⟩ /\ g < w1.heap.size /\ w1.cell? ⟨g, k, none⟩ = some (.string e.2) := by
 intro k e he
 have hk := (List.getElem?_eq_some_iff.1 he).1
 obtain ⟨g, c', cur, e1, hb, _⟩ := row_of h (by omega)
 cases e1
 refine ⟨g, rfl, hb.lt, ?_⟩
 rw [World.ownsRow.cellAt h k (by omega)]
 simp [strCells, he]
theorem ints_at {w1 : World} {b1 n c : Nat} {A : Option Addr} {l : List (Nat × ByteArray)} (h : w1.ownsRow b1 3 1 (.slice A n c) n (intCells (l.map Prod.fst))) (hn : l.length = n) : ∀ (k : Nat) (e : Nat × ByteArray), l[k]? = some e -> ∃ g, A = some ⟨g, 0, none⟩ /\ g < w1.heap.size /\ w1.cell? ⟨g, k, none⟩ = some (.int .i64 (e.1 : Int)) := by
 intro k e he
 have hk := (List.getElem?_eq_some_iff.1 he).1
 obtain ⟨g, c', cur, e1, hb, _⟩ := row_of h (by omega)
 cases e1
 refine ⟨g, rfl, hb.lt, ?_⟩
 rw [World.ownsRow.cellAt h k (by omega)]
 simp [intCells, he]
structure VOpened (w : World) (a : DAt) (h : Nat) (r : VRes) (e : Ending) (w' : World) : Prop where
 left : DLeft w w' a
 dev : DevIs w' a r.2.2
 out : (r.2.1 = none /\ e = .returned (.tuple #[.pointer none, .int .i64 r.1])) \/ ∃ V x p u, r.2.1 = some V /\ x.a = a /\ e = .returned (.tuple #[.pointer (some ⟨x.vb, 0, none⟩), .int .i64 r.1]) /\ VIs w' x h V r.2.2 p u /\ w.heap.size <= x.jb /\ w.heap.size <= x.vb /\ w.heap.size <= x.lo
theorem results_cc {fn : Func} {p q : Tmp} (h : fn.results = #[.cell p 34, .cell q 39]) (tmps : Array Value) (w : World) (g g' : Nat) (v v' : Value) (hp : tmps.getD p undef = .pointer (some ⟨g, 0, none⟩)) (hq : tmps.getD q undef = .pointer (some ⟨g', 0, none⟩)) (hc : w.cell? ⟨g, 0, none⟩ = some v) (hc' : w.cell? ⟨g', 0, none⟩ = some v') :
  (results fn tmps).run Tryz.prog w = .ok (.tuple #[v, v']) w := by
 have hp' : tmps[p]?.getD undef = .pointer (some ⟨g, 0, none⟩) := by simpa using hp
 have hq' : tmps[q]?.getD undef = .pointer (some ⟨g', 0, none⟩) := by simpa using hq
 simp [results, h, hp', hq', loadVar, asAddr, go_sem, hc, hc']
theorem meet_up3 {C G : Nat -> Nat -> World -> Prop} {R : Prop} (h : (∀ x y w, C x y w -> G x y w) -> R) (g : ∀ x y w, C x y w -> G x y w) : R := h g
theorem act_name {F : Fence} {n : Nat} {P : Program} {C : Code} {Q : Exit -> Act -> World -> Prop} {T : Array Value} {d : List Deferred} {w : World} (h : ∀ T', T' = T -> C.wpIn F n P Q ⟨T', d⟩ w) : C.wpIn F n P Q ⟨T, d⟩ w := h T rfl
section
variable {w : World} {a : DAt} {D : Dev}
set_option maxRecDepth 100000 in
set_option maxHeartbeats 8000000 in
theorem vopen_any (hd : DevIs w a D) (hon : DOn D) (hf : Fine D.M) (hcl : Clean D.M) (h : Nat) (hh : D.M.length / 2 = h) (h1 : 1 <= h) (hD : D.M.length <= 4096) {s0 s1 s2 root : ByteArray} {R : RdV} (hs : D.slots = [s0, s1, s2]) (h32 : s0.size = 32 /\ s2.size = 32) (hz : s0 ≠ zero32)
  (hro : rootOf s0 s2 (jopen h D.M).l = some root) (hrd : readV root (jopen h D.M).l = some R) (hbl : ∀ e ∈ (jopen h D.M).l, e.1 < 9223372036854775808 /\ e.2.size <= 1000000) (hll : (jopen h D.M).l.length <= 1048576) (hK : KAt w 1) :
  Calls Tryz.prog 29 #[.pointer (some ⟨a.d, 0, none⟩)] w fun e w' => VOpened w a h (vopen h D) e w' := by
 have HD := Lib.hid hd
 have HK := Lib.hid hK
 have HV : Hid (∀ wx, Below w.heap.size w wx -> Calls Tryz.prog 64 #[.pointer (some ⟨a.d, 0, none⟩)] wx fun e w' => e = .returned (.tuple #[.agg #[.string s0, .string s1, .string s2], .int .i64 0]) /\ Below wx.heap.size wx w') := fun wx hB => values_good (hd.below hB) hon.down hs
 have HO : Hid (∀ wx, Below w.heap.size w wx -> Calls Tryz.prog 65 #[.pointer (some ⟨a.d, 0, none⟩)] wx fun e w' => ∃ jb v, wx.heap.size <= jb /\ e = .returned (.tuple #[.pointer (some ⟨jb, 0, none⟩), .int .i64 0]) /\ JIs w' jb a h (jopen h D.M) v /\ Below wx.heap.size wx w') := fun wx hB => jOpen_good (hd.below hB) hon hf hcl h hh h1 hD
 obtain ⟨Z, hZ⟩ : ∃ Z, zero32 = Z := ⟨_, rfl⟩
 have HE : Hid (∀ wx, Calls Tryz.prog 61 #[] wx fun e w' => e = .returned (.string Z) /\ Below wx.heap.size wx w') := by rw [<- hZ]; exact Lib.hid vempty_any
 have hsz : (s0.toList == Z.toList) = false := by rw [<- hZ]; exact toList_ne hz
 obtain ⟨J, hJ⟩ : ∃ J, jopen h D.M = J := ⟨_, rfl⟩
 have HVo : Hid (∃ r, vopen h D = r) := ⟨_, rfl⟩
 obtain ⟨res, hres⟩ := HVo.out
 rw [hJ] at hro hrd hbl hll HO
 rw [hres]
 have Hres := Lib.hid hres
 have Hro := Lib.hid hro
 have Hrd := Lib.hid hrd
 have Hbl := Lib.hid hbl
 have Hll := Lib.hid hll
 have H32 := Lib.hid h32
 have Hon := Lib.hid hon
 have HJe := Lib.hid hJ
 have HZe := Lib.hid hZ
 have Hs := Lib.hid hs
 have HZn := Lib.hid hz
 clear hd hK hon hf hcl hh h1 hD hs h32 hz hro hrd hbl hll hres HVo hZ hJ
 refine (callsIn_wide (n := 4)).1 ?_
 refine callsIn_of_wp_marks Tryz.func29 rfl trivial ?_ rfl
 simp only [Tryz.ntmps29, List.size_toArray, List.length_cons, List.length_nil, Nat.reduceAdd, Nat.reduceSub, Array.replicate_succ, Array.replicate_zero, List.push_toArray, List.append_toArray, List.nil_append, List.cons_append]
 obtain ⟨wa, hwa⟩ : ∃ wa, (w.alloc (.cells #[.pointer none] 34)).alloc (.cells #[.int .i64 0] 39) = wa := ⟨_, rfl⟩
 have HBa : Hid (Below w.heap.size w wa) := by
  rw [<- hwa]
  exact ((Below.refl _ w).alloc (Nat.le_refl _) _).alloc ((Below.refl _ w).alloc (Nat.le_refl _) _).size _
 gi_wp2_with (first
  | (refine ⟨trivial, ?_⟩; gi_at_call 64; refine (callsIn_wide.2 (HV.out _ HBa.out)).mono ?_; rintro e w1 ⟨rfl, hB1⟩; have HB1 := Lib.hid hB1; clear hB1))
 have HAr : Hid (Blk (w1.alloc (.cells #[.string s0, .string s1, .string s2] 96)) w1.heap.size 96 #[.string s0, .string s1, .string s2]) := Blk.new _ _ _
 have HR2 : Hid (Blk (w1.alloc (.cells #[.string s0, .string s1, .string s2] 96)) w.heap.size 34 #[.pointer none] /\ Blk (w1.alloc (.cells #[.string s0, .string s1, .string s2] 96)) (w.heap.size + 1) 39 #[.int .i64 0]) := by
  have e1 : Blk wa w.heap.size 34 #[.pointer none] := by rw [<- hwa]; exact (Blk.new w _ _).alloc _
  have e2 : Blk wa (w.heap.size + 1) 39 #[.int .i64 0] := by
   rw [<- hwa]
   have := Blk.new (w.alloc (.cells #[.pointer none] 34)) 39 #[.int .i64 0]
   rw [World.size_alloc] at this
   exact this
  exact ⟨(e1.below HB1.out e1.lt).alloc _, (e2.below HB1.out e2.lt).alloc _⟩
 have HBA : Hid (Below w.heap.size w (w1.alloc (.cells #[.string s0, .string s1, .string s2] 96))) := (HBa.out.trans (HB1.out.mono HBa.out.size)).alloc (Nat.le_trans HBa.out.size HB1.out.size) _
 clear HB1 HBa hwa
 generalize w1.alloc (.cells #[.string s0, .string s1, .string s2] 96) = wA at *
 generalize w1.heap.size = ab at *
 have HS4 : Hid (∀ wx, Below wA.heap.size wA wx -> wx.cell? ⟨ab, 0, none⟩ = some (.string s0)) := fun wx hB => (HAr.out.below hB HAr.out.lt).cell 0
 refine wpIn_wide.2 ?_
 refine wp_region_noPanic ?_
 refine wp_region_held_drew (S := (fun W => W.cell? ⟨ab, 0, none⟩ = some (.string s0))) (by kernel_rfl) (HS4.out _ (Below.refl _ wA).drew) (fun hHeld => ?_)
 refine' tk 0 rfl hHeld ?_
 try simp only [sA, gA]
 refine' tk 1 rfl hHeld ?_
 try simp only [sA, gA]
 refine td 2 rfl (fun K hK => ?_)
 go_simp
 go_at_call 61
 refine (HE.out _).mono ?_
 rintro e2 w2 ⟨rfl, hB2⟩
 have HBA2 := Lib.hid ((Below.refl wA.heap.size wA).drew.trans (hB2.mono (Below.refl wA.heap.size wA).drew.size))
 have HS2 := Lib.hid (HS4.out w2 HBA2.out)
 clear hB2
 refine hK.out _ _ ?_ (fun hHeld2 => ?_)
 ·exact HS2.out
 clear hK K hHeld
 have hHeld := hHeld2
 clear hHeld2
 try simp only [sA, gA]
 refine' tk 3 rfl hHeld ?_
 try simp only [sA, gA]
 refine' tk 4 rfl hHeld ?_
 try simp only [sA, gA]
 refine tu 5 rfl hHeld ?_
 try simp only [sA, gA]
 refine tu 6 rfl hHeld ?_
 try simp only [sA, gA]
 refine tu 7 rfl hHeld ?_
 try simp only [sA, gA]
 refine tu 8 rfl hHeld ?_
 try simp only [sA, gA]
 refine' tk 9 rfl hHeld ?_
 try simp only [sA, gA]
 refine' tk 10 rfl hHeld ?_
 try simp only [sA, gA]
 refine wpAnyH_done (by kernel_rfl) ?_ _
 clear hHeld
 refine NoPanic.normal ?_
 have HB2 : Hid (Below w.heap.size w w2) := HBA.out.trans (HBA2.out.mono HBA.out.size)
 have HAr2 : Hid (Blk w2 ab 96 #[.string s0, .string s1, .string s2]) := HAr.out.below HBA2.out HAr.out.lt
 have HR22 : Hid (Blk w2 w.heap.size 34 #[.pointer none] /\ Blk w2 (w.heap.size + 1) 39 #[.int .i64 0]) := ⟨HR2.out.1.below HBA2.out HR2.out.1.lt, HR2.out.2.below HBA2.out HR2.out.2.lt⟩
 clear HS4 HS2 hsz HAr HR2 HBA HBA2
 obtain ⟨L, hL⟩ : ∃ L, J.l.length = L := ⟨_, rfl⟩
 have HL := Lib.hid hL
 clear hL
 gi_wp2_with (first
  | (refine ⟨trivial, ?_⟩; gi_at_call 65; refine (callsIn_wide.2 (HO.out w2 HB2.out)).mono ?_; rintro e w3 ⟨jb, vj, hjb, rfl, hjis, hB3⟩; have HJi := Lib.hid hjis; have HB3 := Lib.hid hB3; have Hjb := Lib.hid (Nat.le_trans HB2.out.size hjb); clear hjis hB3 hjb)
  | (refine ⟨trivial, ?_⟩; gi_at_call 66; refine (callsIn_wide.2 (jRecords_any HJi.out Hll.out)).mono ?_; rintro e w4 ⟨u4, rfl, h4, _, hB4⟩; rw [List.length_map, HL.out] at h4; obtain ⟨A4, c4, rfl⟩ := Sec.ownsRow_slice h4; have H4 := Lib.hid (And.intro h4 hB4); clear h4 hB4)
  | (refine ⟨trivial, ?_⟩; gi_at_call 67; refine (callsIn_wide.2 (jNumbers_any (HJi.out.below H4.out.2) Hll.out)).mono ?_; rintro e w5 ⟨u5, rfl, h5, _, hB5⟩; rw [List.length_map, HL.out] at h5; obtain ⟨A5, c5, rfl⟩ := Sec.ownsRow_slice h5; have H5 := Lib.hid (And.intro h5 hB5); have hA5 := ((HAr2.out.below HB3.out HAr2.out.lt).below H4.out.2 (HAr2.out.below HB3.out HAr2.out.lt).lt).below hB5 ((HAr2.out.below HB3.out HAr2.out.lt).below H4.out.2 (HAr2.out.below HB3.out HAr2.out.lt).lt).lt; obtain ⟨w6, hw6⟩ : ∃ w6, (w5.alloc (.cells #[.slice A4 L c4] 35)).alloc (.cells #[.slice A5 L c5] 30) = w6 := ⟨_, rfl⟩; have hA6 : Blk w6 ab 96 #[.string s0, .string s1, .string s2] := (by rw [<- hw6]; exact (hA5.alloc _).alloc _); have y0 : w6.cell? ⟨ab, 0, none⟩ = some (.string s0) := hA6.cell 0; have y2 : w6.cell? ⟨ab, 2, none⟩ = some (.string s2) := hA6.cell 2; have HA6 := Lib.hid hA6; clear hA5 hA6; clear h5 hB5))
 clear y0 y2
 have hsz6 : w6.heap.size = w5.heap.size + 1 + 1 := by rw [<- hw6]; simp
 have hB56 : Below w5.heap.size w5 w6 := by
  rw [<- hw6]
  exact ((Below.refl _ w5).alloc (Nat.le_refl _) _).alloc ((Below.refl _ w5).alloc (Nat.le_refl _) _).size _
 have hB46 : Below w4.heap.size w4 w6 := H5.out.2.trans (hB56.mono H5.out.2.size)
 have hB36 : Below w3.heap.size w3 w6 := H4.out.2.trans (hB46.mono H4.out.2.size)
 have HB6 : Hid (Below w.heap.size w w6) := HB2.out.trans ((HB3.out.trans (hB36.mono HB3.out.size)).mono HB2.out.size)
 have HJ6 : Hid (JIs w6 jb a h J vj) := HJi.out.below hB36
 have HR6 : Hid (Blk w6 w.heap.size 34 #[.pointer none] /\ Blk w6 (w.heap.size + 1) 39 #[.int .i64 0]) := by
  have hB26 : Below w2.heap.size w2 w6 := HB3.out.trans (hB36.mono HB3.out.size)
  exact ⟨HR22.out.1.below hB26 HR22.out.1.lt, HR22.out.2.below hB26 HR22.out.2.lt⟩
 have HRows : Hid (RowsB w6 w5.heap.size (w5.heap.size + 1) J.l) := by
  have e1 : Blk w6 w5.heap.size 35 #[.slice A4 L c4] := by rw [<- hw6]; exact (Blk.new w5 _ _).alloc _
  have e2 : Blk w6 (w5.heap.size + 1) 30 #[.slice A5 L c5] := by
   rw [<- hw6]
   have := Blk.new (w5.alloc (.cells #[.slice A4 L c4] 35)) 30 #[.slice A5 L c5]
   rw [World.size_alloc] at this
   exact this
  refine ⟨⟨A4, c4, by rw [HL.out]; exact e1, fun k e he => ?_⟩, ⟨A5, c5, by rw [HL.out]; exact e2, fun k e he => ?_⟩⟩
  ·obtain ⟨g, q1, q2, q3⟩ := texts_at H4.out.1 HL.out k e he
   exact ⟨g, q1, Nat.lt_of_lt_of_le q2 hB46.size, (hB46.cell (p := ⟨g, k, none⟩) q2).trans q3⟩
  ·obtain ⟨g, q1, q2, q3⟩ := ints_at H5.out.1 HL.out k e he
   exact ⟨g, q1, Nat.lt_of_lt_of_le q2 hB56.size, (hB56.cell (p := ⟨g, k, none⟩) q2).trans q3⟩
 clear hw6 hsz6 hB56 hB46 hB36 H4 H5 HB2 HR22 HAr2 HJi HB3
 generalize w5.heap.size = bx at *
 obtain ⟨nx, hnx⟩ : ∃ nx, bx + 1 = nx := ⟨_, rfl⟩
 rw [hnx] at HRows ⊢
 clear hnx
 have hB7 : Below w6.heap.size w6 (w6.alloc (.cells #[.string s0, .string s2] 9)) := (Below.refl _ w6).alloc (Nat.le_refl _) _
 have HRb : Hid (Blk (w6.alloc (.cells #[.string s0, .string s2] 9)) w6.heap.size 9 #[.string s0, .string s2]) := Blk.new _ _ _
 have HB7 : Hid (Below w.heap.size w (w6.alloc (.cells #[.string s0, .string s2] 9))) := HB6.out.trans (hB7.mono HB6.out.size)
 have HJ7 : Hid (JIs (w6.alloc (.cells #[.string s0, .string s2] 9)) jb a h J vj) := HJ6.out.below hB7
 have HA7 : Hid (Blk (w6.alloc (.cells #[.string s0, .string s2] 9)) ab 96 #[.string s0, .string s1, .string s2]) := HA6.out.below hB7 HA6.out.lt
 have HR7 : Hid (Blk (w6.alloc (.cells #[.string s0, .string s2] 9)) w.heap.size 34 #[.pointer none] /\ Blk (w6.alloc (.cells #[.string s0, .string s2] 9)) (w.heap.size + 1) 39 #[.int .i64 0]) := ⟨HR6.out.1.below hB7 HR6.out.1.lt, HR6.out.2.below hB7 HR6.out.2.lt⟩
 have HRo7 : Hid (RowsB (w6.alloc (.cells #[.string s0, .string s2] 9)) bx nx J.l) := HRows.out.below hB7
 clear hB7 HB6 HJ6 HA6 HR6 HRows
 generalize w6.alloc (.cells #[.string s0, .string s2] 9) = w7 at *
 generalize w6.heap.size = rb at *
 obtain ⟨q, hq, hqi, hqr⟩ : ∃ q : Nat, q < 2 /\ (if isRoot s0 J.l = true then (0 : Int) else if isRoot s2 J.l = true then 1 else -1) = (q : Int) /\ (#[Value.string s0, Value.string s2] : Array Value)[q]? = some (.string root) := by
  have hr := Hro.out
  unfold rootOf at hr
  by_cases h0 : isRoot s0 J.l = true
  ·rw [if_pos h0] at hr ⊢
   cases hr
   exact ⟨0, by decide, rfl, rfl⟩
  ·rw [if_neg h0] at hr ⊢
   by_cases h2 : isRoot s2 J.l = true
   ·rw [if_pos h2] at hr ⊢
    cases hr
    exact ⟨1, by decide, rfl, rfl⟩
   ·rw [if_neg h2] at hr
    cases hr
 refine ⟨trivial, ?_⟩
 gi_at_call 68
 refine (callsIn_wide.2 (vindex_any w7 rb bx nx s0 s2 _ _ HRb.out (fun wx hB => vopen1_any wx bx nx J.l s0 (by rw [H32.out.1]; decide) (HRo7.out.below hB) Hbl.out ((HK.out.below HB7.out).below hB)) (fun wx hB => vopen1_any wx bx nx J.l s2 (by rw [H32.out.2]; decide) (HRo7.out.below hB) Hbl.out ((HK.out.below HB7.out).below hB)))).mono ?_
 rintro e w8 ⟨rfl, hB8⟩
 rw [hqi]
 have Hqi := Lib.hid hqi
 have HB8 : Hid (Below w.heap.size w w8) := HB7.out.trans (hB8.mono HB7.out.size)
 have HJ8 : Hid (JIs w8 jb a h J vj) := HJ7.out.below hB8
 have HA8 : Hid (Blk w8 ab 96 #[.string s0, .string s1, .string s2]) := HA7.out.below hB8 HA7.out.lt
 have HR8 : Hid (Blk w8 w.heap.size 34 #[.pointer none] /\ Blk w8 (w.heap.size + 1) 39 #[.int .i64 0]) := ⟨HR7.out.1.below hB8 HR7.out.1.lt, HR7.out.2.below hB8 HR7.out.2.lt⟩
 have HRo8 : Hid (RowsB w8 bx nx J.l) := HRo7.out.below hB8
 have HRb8 : Hid (rb < w8.heap.size /\ w8.cell? ⟨rb, q, none⟩ = some (.string root)) := ⟨(HRb.out.below hB8 HRb.out.lt).lt, ((HRb.out.below hB8 HRb.out.lt).cell q).trans hqr⟩
 clear HB7 HJ7 HA7 HR7 HRo7 HRb hB8 hqi hqr
 have q0 : (q : Int) < 0 ↔ False := by constructor <;> intro hh <;> first | omega | exact hh.elim
 have d0 : decide ((q : Int) < 0) = false := decide_eq_false (by omega)
 have q1 : (0 : Int) <= (q : Int) := by omega
 have q2 : (q : Int) < 2 := by omega
 gi_wp2_with fail
 refine wpIn_wide.2 ?_
 refine wp_region_noPanic ?_
 have HS8 : Hid (∀ wx, Below w8.heap.size w8 wx -> wx.cell? ⟨rb, q, none⟩ = some (.string root)) := fun wx hB => (hB.cell (p := ⟨rb, q, none⟩) HRb8.out.1).trans HRb8.out.2
 refine' meet_up3 (C := fun vb tv W => Below w8.heap.size w8 W /\ Blk W vb 79 #[.pointer (some ⟨a.d, 0, none⟩), .pointer (some ⟨jb, 0, none⟩), .string root, .string Z, .pointer none, .slice none 0 0, .bool false] /\ Blk W tv 34 #[.pointer (some ⟨vb, 0, none⟩)] /\ w8.heap.size <= vb) (fun hgo => ?body) ?rest
 case body =>
  have HB0 : Hid (Below w8.heap.size w8 w8.drew) := (Below.refl _ w8).drew
  refine wp_region_held_drew (S := (fun W => W.cell? ⟨rb, q, none⟩ = some (.string root))) (by kernel_rfl) (HS8.out _ HB0.out) (fun hHeld => ?_)
  generalize w8.drew = w8d at *
  refine' tk 0 rfl hHeld ?_
  try simp only [sA, gA]
  refine' tk 1 rfl hHeld ?_
  try simp only [sA, gA]
  refine' tk 2 rfl hHeld ?_
  try simp only [sA, gA]
  refine' tk 3 rfl hHeld ?_
  try simp only [sA, gA]
  refine' tk 4 rfl hHeld ?_
  try simp only [sA, gA]
  refine' tk 5 rfl hHeld ?_
  try simp only [sA, gA]
  refine wpAnyH_ready (rs := [6, 9]) (by kernel_rfl) (by simp) ?_
  refine AllReadyH.cons rfl (fun K hK => ?_) (AllReadyH.cons rfl (fun K hK => ?_) AllReadyH.nil)
  ·go_simp
   go_at_call 61
   refine (HE.out _).mono ?_
   rintro e9 w9_1 ⟨rfl, hB9⟩
   have HB_1 := Lib.hid (HB0.out.trans (hB9.mono HB0.out.size))
   clear hB9
   refine hK.out _ _ ?_ (fun hHeld2 => ?_)
   ·exact HS8.out _ HB_1.out
   clear hK K hHeld
   have hHeld := hHeld2
   clear hHeld2
   try simp only [sA, gA]
   refine' tk 7 rfl hHeld ?_
   try simp only [sA, gA]
   refine wpAnyH_ready (rs := [8, 9]) (by kernel_rfl) (by simp) ?_
   refine AllReadyH.cons rfl (fun K hK => ?_) (AllReadyH.cons rfl (fun K hK => ?_) AllReadyH.nil)
   ·go_simp
    have HV_2 := Lib.hid (Blk.new w9_1 79 #[.pointer (some ⟨a.d, 0, none⟩), .pointer (some ⟨jb, 0, none⟩), .string root, .string Z, .pointer none, .slice none 0 0, .bool false])
    have HB_2 := Lib.hid (HB_1.out.alloc HB_1.out.size (.cells #[.pointer (some ⟨a.d, 0, none⟩), .pointer (some ⟨jb, 0, none⟩), .string root, .string Z, .pointer none, .slice none 0 0, .bool false] 79))
    have HL_2 := Lib.hid HB_1.out.size
    refine hK.out _ _ ?_ (fun hHeld2 => ?_)
    ·exact HS8.out _ HB_2.out
    clear hK K hHeld
    have hHeld := hHeld2
    clear hHeld2
    try simp only [sA, gA]
    generalize World.alloc w9_1 (.cells #[.pointer (some ⟨a.d, 0, none⟩), .pointer (some ⟨jb, 0, none⟩), .string root, .string Z, .pointer none, .slice none 0 0, .bool false] 79) = w9_2 at *
    generalize w9_1.heap.size = vb at *
    refine td 9 rfl (fun K hK => ?_)
    ·go_simp
     have HT_3 := Lib.hid (Blk.new w9_2 34 #[.pointer none])
     have HB_3 := Lib.hid (HB_2.out.alloc HB_2.out.size (.cells #[.pointer none] 34))
     have HL_3 := Lib.hid HB_2.out.size
     have HVo_3 := Lib.hid (HV_2.out.alloc (.cells #[.pointer none] 34))
     refine hK.out _ _ ?_ (fun hHeld2 => ?_)
     ·exact HS8.out _ HB_3.out
     clear hK K hHeld
     have hHeld := hHeld2
     clear hHeld2
     try simp only [sA, gA]
     generalize World.alloc w9_2 (.cells #[.pointer none] 34) = w9_3 at *
     generalize w9_2.heap.size = tv at *
     refine td 10 rfl (fun K hK => ?_)
     have ht0 := HT_3.out.frozen 0
     have hc0 : w9_3.cell? ⟨tv, 0, none⟩ = some (.pointer none) := HT_3.out.cell 0
     ·go_simp
      have HBs := Lib.hid (HB_3.out.setCell (p := ⟨tv, 0, none⟩) HL_3.out (.pointer (some ⟨vb, 0, none⟩)))
      have HVs := Lib.hid (HVo_3.out.grown (grown_set w9_3 tv 0 (.pointer (some ⟨vb, 0, none⟩))) (fun e => HVo_3.out.ne_ HT_3.out (by decide) (Option.some.inj e)))
      have HTs := Lib.hid (HT_3.out.set_ 0 (.pointer (some ⟨vb, 0, none⟩)))
      refine hK.out _ _ ?_ (fun hHeld2 => ?_)
      ·exact HS8.out _ HBs.out
      clear hK K hHeld hHeld2
      try simp only [sA, gA]
      refine wpAnyH_done (by kernel_rfl) ?_ _
      generalize World.setCell w9_3 ⟨tv, 0, none⟩ (.pointer (some ⟨vb, 0, none⟩)) = W9 at *
      exact hgo vb tv W9 ⟨HBs.out, HVs.out, HTs.out, HL_2.out⟩
   ·go_simp
    have HT_5 := Lib.hid (Blk.new w9_1 34 #[.pointer none])
    have HB_5 := Lib.hid (HB_1.out.alloc HB_1.out.size (.cells #[.pointer none] 34))
    have HL_5 := Lib.hid HB_1.out.size
    refine hK.out _ _ ?_ (fun hHeld2 => ?_)
    ·exact HS8.out _ HB_5.out
    clear hK K hHeld
    have hHeld := hHeld2
    clear hHeld2
    try simp only [sA, gA]
    generalize World.alloc w9_1 (.cells #[.pointer none] 34) = w9_5 at *
    generalize w9_1.heap.size = tv at *
    refine td 8 rfl (fun K hK => ?_)
    ·go_simp
     have HV_6 := Lib.hid (Blk.new w9_5 79 #[.pointer (some ⟨a.d, 0, none⟩), .pointer (some ⟨jb, 0, none⟩), .string root, .string Z, .pointer none, .slice none 0 0, .bool false])
     have HB_6 := Lib.hid (HB_5.out.alloc HB_5.out.size (.cells #[.pointer (some ⟨a.d, 0, none⟩), .pointer (some ⟨jb, 0, none⟩), .string root, .string Z, .pointer none, .slice none 0 0, .bool false] 79))
     have HL_6 := Lib.hid HB_5.out.size
     have HTo_6 := Lib.hid (HT_5.out.alloc (.cells #[.pointer (some ⟨a.d, 0, none⟩), .pointer (some ⟨jb, 0, none⟩), .string root, .string Z, .pointer none, .slice none 0 0, .bool false] 79))
     refine hK.out _ _ ?_ (fun hHeld2 => ?_)
     ·exact HS8.out _ HB_6.out
     clear hK K hHeld
     have hHeld := hHeld2
     clear hHeld2
     try simp only [sA, gA]
     generalize World.alloc w9_5 (.cells #[.pointer (some ⟨a.d, 0, none⟩), .pointer (some ⟨jb, 0, none⟩), .string root, .string Z, .pointer none, .slice none 0 0, .bool false] 79) = w9_6 at *
     generalize w9_5.heap.size = vb at *
     refine td 10 rfl (fun K hK => ?_)
     have ht0 := HTo_6.out.frozen 0
     have hc0 : w9_6.cell? ⟨tv, 0, none⟩ = some (.pointer none) := HTo_6.out.cell 0
     ·go_simp
      have HBs := Lib.hid (HB_6.out.setCell (p := ⟨tv, 0, none⟩) HL_5.out (.pointer (some ⟨vb, 0, none⟩)))
      have HVs := Lib.hid (HV_6.out.grown (grown_set w9_6 tv 0 (.pointer (some ⟨vb, 0, none⟩))) (fun e => HV_6.out.ne_ HTo_6.out (by decide) (Option.some.inj e)))
      have HTs := Lib.hid (HTo_6.out.set_ 0 (.pointer (some ⟨vb, 0, none⟩)))
      refine hK.out _ _ ?_ (fun hHeld2 => ?_)
      ·exact HS8.out _ HBs.out
      clear hK K hHeld hHeld2
      try simp only [sA, gA]
      refine wpAnyH_done (by kernel_rfl) ?_ _
      generalize World.setCell w9_6 ⟨tv, 0, none⟩ (.pointer (some ⟨vb, 0, none⟩)) = W9 at *
      exact hgo vb tv W9 ⟨HBs.out, HVs.out, HTs.out, HL_6.out⟩
  ·go_simp
   have HT_8 := Lib.hid (Blk.new w8d 34 #[.pointer none])
   have HB_8 := Lib.hid (HB0.out.alloc HB0.out.size (.cells #[.pointer none] 34))
   have HL_8 := Lib.hid HB0.out.size
   refine hK.out _ _ ?_ (fun hHeld2 => ?_)
   ·exact HS8.out _ HB_8.out
   clear hK K hHeld
   have hHeld := hHeld2
   clear hHeld2
   try simp only [sA, gA]
   generalize World.alloc w8d (.cells #[.pointer none] 34) = w9_8 at *
   generalize w8d.heap.size = tv at *
   refine td 6 rfl (fun K hK => ?_)
   ·go_simp
    go_at_call 61
    refine (HE.out _).mono ?_
    rintro e9 w9_9 ⟨rfl, hB9⟩
    have HB_9 := Lib.hid (HB_8.out.trans (hB9.mono HB_8.out.size))
    have HT_9 := Lib.hid (HT_8.out.below hB9 HT_8.out.lt)
    clear hB9
    refine hK.out _ _ ?_ (fun hHeld2 => ?_)
    ·exact HS8.out _ HB_9.out
    clear hK K hHeld
    have hHeld := hHeld2
    clear hHeld2
    try simp only [sA, gA]
    refine' tk 7 rfl hHeld ?_
    try simp only [sA, gA]
    refine td 8 rfl (fun K hK => ?_)
    ·go_simp
     have HV_10 := Lib.hid (Blk.new w9_9 79 #[.pointer (some ⟨a.d, 0, none⟩), .pointer (some ⟨jb, 0, none⟩), .string root, .string Z, .pointer none, .slice none 0 0, .bool false])
     have HB_10 := Lib.hid (HB_9.out.alloc HB_9.out.size (.cells #[.pointer (some ⟨a.d, 0, none⟩), .pointer (some ⟨jb, 0, none⟩), .string root, .string Z, .pointer none, .slice none 0 0, .bool false] 79))
     have HL_10 := Lib.hid HB_9.out.size
     have HTo_10 := Lib.hid (HT_9.out.alloc (.cells #[.pointer (some ⟨a.d, 0, none⟩), .pointer (some ⟨jb, 0, none⟩), .string root, .string Z, .pointer none, .slice none 0 0, .bool false] 79))
     refine hK.out _ _ ?_ (fun hHeld2 => ?_)
     ·exact HS8.out _ HB_10.out
     clear hK K hHeld
     have hHeld := hHeld2
     clear hHeld2
     try simp only [sA, gA]
     generalize World.alloc w9_9 (.cells #[.pointer (some ⟨a.d, 0, none⟩), .pointer (some ⟨jb, 0, none⟩), .string root, .string Z, .pointer none, .slice none 0 0, .bool false] 79) = w9_10 at *
     generalize w9_9.heap.size = vb at *
     refine td 10 rfl (fun K hK => ?_)
     have ht0 := HTo_10.out.frozen 0
     have hc0 : w9_10.cell? ⟨tv, 0, none⟩ = some (.pointer none) := HTo_10.out.cell 0
     ·go_simp
      have HBs := Lib.hid (HB_10.out.setCell (p := ⟨tv, 0, none⟩) HL_8.out (.pointer (some ⟨vb, 0, none⟩)))
      have HVs := Lib.hid (HV_10.out.grown (grown_set w9_10 tv 0 (.pointer (some ⟨vb, 0, none⟩))) (fun e => HV_10.out.ne_ HTo_10.out (by decide) (Option.some.inj e)))
      have HTs := Lib.hid (HTo_10.out.set_ 0 (.pointer (some ⟨vb, 0, none⟩)))
      refine hK.out _ _ ?_ (fun hHeld2 => ?_)
      ·exact HS8.out _ HBs.out
      clear hK K hHeld hHeld2
      try simp only [sA, gA]
      refine wpAnyH_done (by kernel_rfl) ?_ _
      generalize World.setCell w9_10 ⟨tv, 0, none⟩ (.pointer (some ⟨vb, 0, none⟩)) = W9 at *
      exact hgo vb tv W9 ⟨HBs.out, HVs.out, HTs.out, HL_10.out⟩
 rintro vb tv w9 ⟨hB9, hV9, hT9, hvz⟩
 refine NoPanic.normal ?_
 clear HS8
 obtain ⟨w10, hw10⟩ : ∃ w10, w9.alloc (.cells #[.string ⟨#[]⟩] 9) = w10 := ⟨_, rfl⟩
 have hB10 : Below w9.heap.size w9 w10 := by rw [<- hw10]; exact (Below.refl _ w9).alloc (Nat.le_refl _) _
 have hbf : Blk w10 w9.heap.size 9 #[.string ⟨#[]⟩] := by rw [<- hw10]; exact Blk.new _ _ _
 have hv10 := hV9.below hB10 hV9.lt
 have ht10 := hT9.below hB10 hT9.lt
 have hs10 : w10.heap.size = w9.heap.size + 1 := by rw [<- hw10]; simp
 have y1 : (w9.alloc (.cells #[.string ⟨#[]⟩] 9)).cell? ⟨tv, 0, none⟩ = some (.pointer (some ⟨vb, 0, none⟩)) := by rw [hw10]; exact ht10.cell 0
 have y2 : (w9.alloc (.cells #[.string ⟨#[]⟩] 9)).cell? ⟨vb, 2, none⟩ = some (.string root) := by rw [hw10]; exact hv10.cell 2
 have HW10 := Lib.hid hw10
 clear hw10
 have HX := Lib.hid (And.intro hB9 (And.intro hV9 (And.intro hT9 (And.intro hvz (And.intro hB10 (And.intro hbf (And.intro hv10 (And.intro ht10 hs10))))))))
 clear hB9 hV9 hT9 hvz hB10 hbf hv10 ht10 hs10
 gi_wp2_with (refine ⟨trivial, ?_⟩; gi_at_call 71; rw [HW10.out]; refine (callsIn_wide.2 (vparts_any w10 jb root)).mono ?_; rintro e w11 ⟨rfl, hw11⟩; have HW11 := Lib.hid hw11; clear hw11)
 obtain ⟨hB9, hV9, hT9, hvz, hB10, hbf, hv10, ht10, hs10⟩ := HX.out
 have hI0 : OpI w8 a.d jb vb tv w9.heap.size w10.heap.size (w10.heap.size + 1) root rd0 w11.heap.size (.pointer none) (.slice none 0 0) w11 := by
  have hw11 := HW11.out
  have hB11 : Below w10.heap.size w10 w11 := by
   rw [hw11]
   exact ((Below.refl _ w10).alloc (Nat.le_refl _) _).alloc ((Below.refl _ w10).alloc (Nat.le_refl _) _).size _
  have hs11 : w11.heap.size = w10.heap.size + 1 + 1 := by rw [hw11]; simp
  have hj : Blk w11 w10.heap.size 76 #[.pointer (some ⟨jb, 0, none⟩)] := by rw [hw11]; exact (Blk.new w10 _ _).alloc _
  have hr : Blk w11 (w10.heap.size + 1) 9 #[.string root] := by
   rw [hw11]
   have := Blk.new (w10.alloc (.cells #[.pointer (some ⟨jb, 0, none⟩)] 76)) 9 #[.string root]
   rw [World.size_alloc] at this
   exact this
  have hz9 := hB9.size
  have e0 : rd0.chain = Z := HZe.out
  refine ⟨hB9.trans ((hB10.trans (hB11.mono hB10.size)).mono hz9), ⟨hvz, hz9⟩, ht10.below hB11 ht10.lt, hj, hr, hbf.below hB11 hbf.lt, by rw [e0]; exact hv10.below hB11 hv10.lt, .inl ⟨rfl, rfl⟩, World.ownsRow_nil _ _ _ _, fun _ => rfl, ⟨by omega, by omega, by omega, Nat.le_refl _, by omega⟩⟩
 clear HW10 y1 y2 HX HW11 hB9 hV9 hT9 hvz hB10 hbf hv10 ht10 hs10
 have HI0 := Lib.hid hI0
 clear hI0
 generalize w9.heap.size = bf at *
 generalize w10.heap.size + 1 = rx at *
 generalize w10.heap.size = jx at *
 have hrz : root.size = 32 := by
  have hr := Hro.out
  unfold rootOf at hr
  split at hr
  ·cases hr; exact H32.out.1
  ·split at hr
   ·cases hr; exact H32.out.2
   ·cases hr
 have Hrz := Lib.hid hrz
 have hIw : w8.heap.size <= w11.heap.size := HI0.out.b.size
 refine act_name (fun T hT => ?_)
 have HT := Lib.hid hT
 refine wpIn_rangeFunc_keep (Ws := WsO vb bf) rfl (by decide) (gf := 110) (lb := #[.pointer (some ⟨jx, 0, none⟩), .pointer (some ⟨rx, 0, none⟩)]) (by rw [hT]; rfl) trivial (enters_of Tryz.func110 (by kernel_rfl) rfl)
  (vparts1_seq (WsO vb bf) jx rx jb h a J root Hll.out hrz Hbl.out) (fun _ => rfl)
  (fun pre W => ∃ R0 lo p u, readN root J.l pre.length = some R0 /\ OpI w8 a.d jb vb tv bf jx rx root R0 lo p u W) (fun _ _ _ => False) ?own (fun _ _ _ _ _ h _ _ => h) ?hws ?hwl ?hg (fun pre x _ W W' row h hg hr => h) ⟨rd0, _, _, _, rfl, HI0.out⟩
  (fun pre x a₁ W => ∃ k, a₁ = { tmps := (((T.setIfInBounds 73 (.int .i64 (x.1 : Int))).setIfInBounds 74 (partV x.2)).setIfInBounds 13 (.int .i64 (x.1 : Int))).setIfInBounds 14 (.pointer (some ⟨k, 0, none⟩)), defers := [] } /\ Blk W k 104 (partC x.2) /\ w8.heap.size <= k) ?has ?assign ?body ?done ?stop
 case own =>
  rintro pre W W' row ⟨R0, lo, p, u, h1, h2⟩ hg hr
  exact ⟨R0, lo, p, u, h1, h2.grown hg (fun r e => ⟨Nat.le_trans hIw (hr r e).1, (hr r e).2⟩)⟩
 case hws =>
  rintro pre A B row ⟨R0, lo, p, u, h1, h2⟩ hg hr k hk
  refine WsO.of_cell ?_ hk
  exact ((h2.vbB.grown hg (blk_row h2.vbB (fun r e => (hr r e).2))).cell 5).trans (h2.vbB.cell 5).symm
 case hwl =>
  rintro pre A k ⟨R0, lo, p, u, h1, h2⟩ (rfl | rfl | ⟨u', e1, e2⟩)
  ·exact h2.vbB.lt
  ·exact h2.bfB.lt
  ·rw [h2.vbB.cell 5] at e1
   cases e1
   exact (h2.row.lt _ e2).2
 case hg =>
  rintro pre W1 ⟨R0, lo, p, u, h1, h2⟩
  exact ⟨h2.jxB, h2.rxB, ⟨vj, HJ8.out.below h2.b⟩, (HK.out.below HB8.out).below h2.b⟩
 case has =>
  rintro pre x a₁ _ W W' row ⟨k, e, hk, hz⟩ hg hr
  exact ⟨k, e, hk.grown hg (blk_row hk (fun r e => (hr r e).2)), hz⟩
 case assign =>
  rintro lv pre ⟨z, P⟩ W K hW ⟨R0, lo, p, u, h1, h2⟩ hK
  have HK2 := Lib.hid hK
  have hz2 := h2.b.size
  have Hz2 := Lib.hid hz2
  clear hK h1 h2 hz2
  subst hT
  dsimp only [partE, partV, partC]
  gi_wp2
  exact HK2.out _ _ ⟨W.heap.size, rfl, Blk.new _ _ _, Hz2.out⟩ ((Below.refl _ _).alloc (Nat.le_refl _) _)
 case body =>
  obtain ⟨i0, hi, hz0, hz1, hz2⟩ := info_parts infoString
  rintro lv pre x _ W hW ⟨R0, lo, p, u, hR0, hI⟩ ⟨e, he, rfl⟩ ⟨k, rfl, hk, hkz⟩
  have hlen : pre.length < J.l.length := (List.getElem?_eq_some_iff.1 he).1
  obtain ⟨R1, hR1⟩ : ∃ R1, readN root J.l (pre.length + 1) = some R1 := by
   cases hq : readN root J.l (pre.length + 1) with
   | some R1 => exact ⟨R1, rfl⟩
   | none =>
    have h1 := Hrd.out
    have h2 := readN_none hq J.l.length (by omega)
    unfold readV at h1
    rw [h2] at h1
    cases h1
  have hstep := readN_succ hR0 he
  rw [hR1] at hstep
  have hbe := Hbl.out e (List.mem_of_getElem? he)
  have hczz : R0.chain.size = 32 := readN_size hR0
  have hpsz : (openB root e.1 e.2).kind = 73 -> (openB root e.1 e.2).start.size = 32 := fun h => by rcases openB_kind root e.1 e.2 with h1 | h1 | ⟨h1, h2⟩ <;> first | exact h2 | (rw [h1] at h; cases h)
  have hmx : Hid (R0.texts.length + 1 <= maxLen /\ R0.texts.length <= 1048576) := by
   have h1 := readN_texts hR0
   have h2 := Hll.out
   unfold Hid maxLen
   omega
  obtain ⟨Ab, cb, b1, b2⟩ := HRo8.out.b
  obtain ⟨An, cn, n1, n2⟩ := HRo8.out.n
  obtain ⟨gb, rfl, gbl, gbc⟩ := b2 _ e he
  obtain ⟨gn, rfl, gnl, gnc⟩ := n2 _ e he
  rw [HL.out] at b1 n1
  obtain ⟨pl, hpl⟩ : ∃ pl, pre.length = pl := ⟨_, rfl⟩
  rw [HL.out, hpl] at hlen
  rw [hpl] at gbc gnc hR1 hstep
  have HS25 : Hid (∀ (R' : RdV) (lo' : Nat) (p' u' : Value) (W' : World), OpI w8 a.d jb vb tv bf jx rx root R' lo' p' u' W' -> ∀ {c0 : ByteArray}, R'.chain = c0 -> W'.cell? ⟨tv, 0, none⟩ = some (.pointer (some ⟨vb, 0, none⟩)) /\ W'.cell? ⟨vb, 3, none⟩ = some (.string c0) /\ W'.cell? ⟨nx, 0, none⟩ = some (.slice (some ⟨gn, 0, none⟩) L cn) /\ W'.cell? ⟨gn, pl, none⟩ = some (.int .i64 (e.1 : Int)) /\ W'.cell? ⟨bx, 0, none⟩ = some (.slice (some ⟨gb, 0, none⟩) L cb) /\ W'.cell? ⟨gb, pl, none⟩ = some (.string e.2)) :=
   fun R' lo' p' u' W' q c0 hc => ⟨q.tvB.cell 0, by rw [<- hc]; exact q.vbB.cell 3, (n1.below q.b n1.lt).cell 0, (q.b.cell (p := ⟨gn, pl, none⟩) gnl).trans gnc, (b1.below q.b b1.lt).cell 0, (q.b.cell (p := ⟨gb, pl, none⟩) gbl).trans gbc⟩
  have HLk : Hid (∀ (R' : RdV) (lo' : Nat) (p' u' : Value) (W' : World), OpI w8 a.d jb vb tv bf jx rx root R' lo' p' u' W' -> ∀ c0 : ByteArray, c0.size = 32 -> Calls Tryz.prog 11 #[.string c0, .int .i64 (e.1 : Int), .string e.2] W' fun e' w' => e' = .returned (.string (linkB c0 e.1 e.2)) /\ Below W'.heap.size W' w') :=
   fun R' lo' p' u' W' q c0 hc => vlink_any W' c0 e.2 e.1 hbe.1 (by rw [hc]; decide) hbe.2 ((HK.out.below HB8.out).below q.b)
  subst hT
  simp only [List.setIfInBounds_toArray, List.set_cons_zero, List.set_cons_succ]
  have hi1 : (0 : Int) <= (pl : Int) := by omega
  have hi2 : (pl : Int) < (L : Int) := by omega
  rw [hpl]
  unfold rdStep at hstep
  obtain ⟨P, hP⟩ : ∃ P, openB root e.1 e.2 = P := ⟨_, rfl⟩
  rw [hP] at hstep hpsz hk ⊢
  obtain ⟨kd, ps, pt⟩ := P
  have x0 : W.cell? ⟨k, 0, none⟩ = some (.int .u8 (kd : Int)) := hk.cell 0
  by_cases hbad : kd = 0 \/ (kd = 73 /\ decide (pl = 0) = false)
  ·rw [if_pos hbad] at hstep
   cases hstep
  rw [if_neg hbad] at hstep
  by_cases h73 : kd = 73
  ·rw [if_pos h73] at hstep
   have hRe : R1 = ⟨linkB ps e.1 e.2, ps, some pt, R0.texts⟩ := Option.some.inj hstep
   have hp0 : pl = 0 := by
    by_cases h : pl = 0
    ·exact h
    ·exact absurd (.inr ⟨h73, decide_eq_false h⟩) hbad
   have hps := hpsz h73
   have hpe : pre = [] := List.eq_nil_of_length_eq_zero (hpl.trans hp0)
   have htx : R0.texts = [] := by
    have := hR0
    rw [hpe] at this
    cases this
    rfl
   subst h73
   have hpn : ¬ (0 : Int) < (pl : Int) := by omega
   have hpd : decide ((0 : Int) < (pl : Int)) = false := decide_eq_false hpn
   clear hp0 hpe
   have x0 : W.cell? ⟨k, 0, none⟩ = some (.int .u8 73) := x0
   clear hstep hbad
   gi_wp2_with fail
   refine region_round (S := (fun W => W.cell? ⟨tv, 0, none⟩ = some (.pointer (some ⟨vb, 0, none⟩)) /\ W.cell? ⟨k, 1, none⟩ = some (.string ps))) (by kernel_rfl) (by kernel_rfl) (by rintro ⟨a, w, h⟩; exact h) ⟨hI.drew.tvB.cell 0, hk.drew.cell 1⟩ (fun hHeld => ?_)
   refine' tk 0 rfl hHeld ?_
   try simp only [sA, gA]
   refine' tk 1 rfl hHeld ?_
   try simp only [sA, gA]
   refine' tk 2 rfl hHeld ?_
   try simp only [sA, gA]
   refine' tk 3 rfl hHeld ?_
   try simp only [sA, gA]
   refine' tk 4 rfl hHeld ?_
   try simp only [sA, gA]
   refine' tk 5 rfl hHeld ?_
   try simp only [sA, gA]
   refine' tk 6 rfl hHeld ?_
   try simp only [sA, gA]
   have hId := hI.drew
   have rd0' := Rnd.drew (vb := vb) (bf := bf) W
   have hkd := hk.drew
   clear hI hk
   generalize W.drew = Wd at *
   have g0 : Wd.cell? ⟨vb, 3, none⟩ = some (.string R0.chain) := hId.vbB.cell 3
   have g1 := hId.vbB.frozen 3
   have hI2 := hId.setC ps
   have rd1 := rd0'.trans (Rnd.set (bf := bf) hId.vbB (i := 3) (by decide) (.string ps))
   have hk2 := hkd.grown (grown_set Wd vb 3 (.string ps)) (fun e => hkd.ne_ hId.vbB (by decide) (Option.some.inj e))
   refine td 7 rfl (fun K hK => ?_)
   go_simp
   refine hK.out _ _ ⟨hI2.tvB.cell 0, hk2.cell 1⟩ (fun hHeld2 => ?_)
   clear hK K hHeld g0 g1
   have hHeld := hHeld2
   clear hHeld2
   try simp only [sA, gA]
   generalize Wd.setCell ⟨vb, 3, none⟩ (.string ps) = We at *
   refine' tk 8 rfl hHeld ?_
   try simp only [sA, gA]
   refine' tk 9 rfl hHeld ?_
   try simp only [sA, gA]
   have g0 : We.cell? ⟨vb, 4, none⟩ = some p := hI2.vbB.cell 4
   have g1 := hI2.vbB.frozen 4
   have hI3 := hI2.setI htx hk2 hkz
   have rd2 := rd1.trans (Rnd.set (bf := bf) hI2.vbB (i := 4) (by decide) (.pointer (some ⟨k, 2, none⟩)))
   have hk3 := hk2.grown (grown_set We vb 4 (.pointer (some ⟨k, 2, none⟩))) (fun e => hk2.ne_ hI2.vbB (by decide) (Option.some.inj e))
   refine td 10 rfl (fun K hK => ?_)
   go_simp
   refine hK.out _ _ ⟨hI3.tvB.cell 0, hk3.cell 1⟩ (fun hHeld2 => ?_)
   clear hK K hHeld g0 g1 hHeld2
   try simp only [sA, gA]
   refine wpAnyH_done (by kernel_rfl) ?_ _
   obtain ⟨c0, hc0⟩ : ∃ c0, ps = c0 := ⟨_, rfl⟩
   obtain ⟨b0, hb0⟩ : ∃ b0, R0.before = b0 := ⟨_, rfl⟩
   have hJ := hI3
   have hrd := rd2
   clear hI3 rd2 hI2 rd1 hId rd0' hk3 hk2 hkd x0
   have hcz : c0.size = 32 := by rw [<- hc0]; exact hps
   rw [hc0] at hRe
   generalize World.setCell We _ _ = Wf at *
   gi_wp2_with fail
   refine region_round_last (S := (fun W => W.cell? ⟨tv, 0, none⟩ = some (.pointer (some ⟨vb, 0, none⟩)) /\ W.cell? ⟨vb, 3, none⟩ = some (.string c0) /\ W.cell? ⟨nx, 0, none⟩ = some (.slice (some ⟨gn, 0, none⟩) L cn) /\ W.cell? ⟨gn, pl, none⟩ = some (.int .i64 (e.1 : Int)) /\ W.cell? ⟨bx, 0, none⟩ = some (.slice (some ⟨gb, 0, none⟩) L cb) /\ W.cell? ⟨gb, pl, none⟩ = some (.string e.2))) 21 (by kernel_rfl) (by kernel_rfl) (by rintro ⟨a, w, h⟩; exact h) (HS25.out _ _ _ _ _ hJ.drew hc0) (fun hHeld => ?_)
   refine' wkt (i := 0) (v := ?v0p) rfl (Or.inl ⟨by go_simp, ?hy0p⟩) hHeld ?rest0p
   case hy0p =>
    intro w hSw
    try dsimp only at hSw
    go_simp
    all_goals with_reducible rfl
   try simp only [sA, gA]
   refine' wkt (i := 1) (v := ?v1p) rfl (Or.inl ⟨by go_simp, ?hy1p⟩) hHeld ?rest1p
   case hy1p =>
    intro w hSw
    try dsimp only at hSw
    go_simp
    all_goals with_reducible rfl
   try simp only [sA, gA]
   refine' wkt (i := 2) (v := ?v2p) rfl (Or.inl ⟨by go_simp, ?hy2p⟩) hHeld ?rest2p
   case hy2p =>
    intro w hSw
    try dsimp only at hSw
    go_simp
    all_goals with_reducible rfl
   try simp only [sA, gA]
   refine' wkt (i := 3) (v := ?v3p) rfl (Or.inl ⟨by go_simp, ?hy3p⟩) hHeld ?rest3p
   case hy3p =>
    intro w hSw
    try dsimp only at hSw
    go_simp
    all_goals with_reducible rfl
   try simp only [sA, gA]
   refine' wkt (i := 4) (v := ?v4p) rfl (Or.inl ⟨by go_simp, ?hy4p⟩) hHeld ?rest4p
   case hy4p =>
    intro w hSw
    try dsimp only at hSw
    go_simp
    all_goals with_reducible rfl
   try simp only [sA, gA]
   refine' wkt (i := 5) (v := ?v5p) rfl (Or.inl ⟨by go_simp, ?hy5p⟩) hHeld ?rest5p
   case hy5p =>
    intro w hSw
    try dsimp only at hSw
    go_simp
    all_goals with_reducible rfl
   try simp only [sA, gA]
   refine' wkt (i := 6) (v := ?v6p) rfl (Or.inl ⟨by go_simp, ?hy6p⟩) hHeld ?rest6p
   case hy6p =>
    intro w hSw
    try dsimp only at hSw
    go_simp
    all_goals with_reducible rfl
   try simp only [sA, gA]
   refine' wkt (i := 7) (v := ?v7p) rfl (Or.inl ⟨by go_simp, ?hy7p⟩) hHeld ?rest7p
   case hy7p =>
    intro w hSw
    try dsimp only at hSw
    go_simp
    all_goals with_reducible rfl
   try simp only [sA, gA]
   refine' wkt (i := 8) (v := ?v8p) rfl (Or.inl ⟨by go_simp, ?hy8p⟩) hHeld ?rest8p
   case hy8p =>
    intro w hSw
    try dsimp only at hSw
    go_simp
    all_goals with_reducible rfl
   try simp only [sA, gA]
   refine' wkt (i := 9) (v := ?v9p) rfl (Or.inl ⟨by go_simp, ?hy9p⟩) hHeld ?rest9p
   case hy9p =>
    intro w hSw
    try dsimp only at hSw
    go_simp
    all_goals with_reducible rfl
   try simp only [sA, gA]
   refine' wkt (i := 10) (v := ?v10p) rfl (Or.inl ⟨by go_simp, ?hy10p⟩) hHeld ?rest10p
   case hy10p =>
    intro w hSw
    try dsimp only at hSw
    go_simp
    all_goals with_reducible rfl
   try simp only [sA, gA]
   refine' wkt (i := 11) (v := ?v11p) rfl (Or.inl ⟨by go_simp, ?hy11p⟩) hHeld ?rest11p
   case hy11p =>
    intro w hSw
    try dsimp only at hSw
    go_simp
    all_goals with_reducible rfl
   try simp only [sA, gA]
   refine' wkt (i := 12) (v := ?v12p) rfl (Or.inl ⟨by go_simp, ?hy12p⟩) hHeld ?rest12p
   case hy12p =>
    intro w hSw
    try dsimp only at hSw
    go_simp
    all_goals with_reducible rfl
   try simp only [sA, gA]
   refine' wkt (i := 13) (v := ?v13p) rfl (Or.inl ⟨by go_simp, ?hy13p⟩) hHeld ?rest13p
   case hy13p =>
    intro w hSw
    try dsimp only at hSw
    go_simp
    all_goals with_reducible rfl
   try simp only [sA, gA]
   refine' wkt (i := 14) (v := ?v14p) rfl (Or.inl ⟨by go_simp, ?hy14p⟩) hHeld ?rest14p
   case hy14p =>
    intro w hSw
    try dsimp only at hSw
    go_simp
    all_goals with_reducible rfl
   try simp only [sA, gA]
   refine' wkt (i := 15) (v := ?v15p) rfl (Or.inl ⟨by go_simp, ?hy15p⟩) hHeld ?rest15p
   case hy15p =>
    intro w hSw
    try dsimp only at hSw
    go_simp
    all_goals with_reducible rfl
   try simp only [sA, gA]
   refine' wkt (i := 16) (v := ?v16p) rfl (Or.inl ⟨by go_simp, ?hy16p⟩) hHeld ?rest16p
   case hy16p =>
    intro w hSw
    try dsimp only at hSw
    go_simp
    all_goals with_reducible rfl
   try simp only [sA, gA]
   have hJd := hJ.drew
   have rdd := hrd.trans (Rnd.drew _)
   clear hJ hrd
   generalize World.drew _ = Wd at *
   refine wpAnyK_ready (rs := [17]) (by kernel_rfl) (by simp) ?_
   refine AllReadyK.cons rfl (fun K hK => ?_) AllReadyK.nil
   ·go_simp
    go_at_call 11
    refine (HLk.out _ _ _ _ _ hJd c0 hcz).mono ?_
    rintro e9 w5 ⟨rfl, hB9⟩
    have hJ5 := hJd.below hB9
    have rd5 := rdd.trans (Rnd.below hJd.vbB.lt hB9)
    refine hK.out _ _ (HS25.out _ _ _ _ _ hJ5 hc0) (fun hHeld2 => ?_)
    clear hK K hHeld
    have hHeld := hHeld2
    clear hHeld2
    try simp only [sA, gA]
    have k0 : w5.cell? ⟨bf, 0, none⟩ = some (.string b0) := by rw [<- hb0]; exact hJ5.bfB.cell 0
    have k1 := hJ5.bfB.frozen 0
    have hJ6 := hJ5.setB c0
    have rd6 := rd5.trans (Rnd.setB hJ5.ne hJ5.vbB.lt 0 (.string c0))
    refine wpAnyK_ready (rs := [18]) (by kernel_rfl) (by simp) ?_
    refine AllReadyK.cons rfl (fun K hK => ?_) AllReadyK.nil
    go_simp
    refine hK.out _ _ (HS25.out _ _ _ _ _ hJ6 hc0) (fun hHeld2 => ?_)
    clear hK K hHeld k0 k1
    have hHeld := hHeld2
    clear hHeld2
    try simp only [sA, gA]
    generalize w5.setCell ⟨bf, 0, none⟩ (.string c0) = w6 at *
    refine' wkt (i := 19) (v := ?v19px) rfl (Or.inl ⟨by go_simp, ?hy19px⟩) hHeld ?rest19px
    case hy19px =>
     intro w hSw
     try dsimp only at hSw
     go_simp
     all_goals with_reducible rfl
    try simp only [sA, gA]
    refine' wkt (i := 20) (v := ?v20px) rfl (Or.inl ⟨by go_simp, ?hy20px⟩) hHeld ?rest20px
    case hy20px =>
     intro w hSw
     try dsimp only at hSw
     go_simp
     all_goals with_reducible rfl
    try simp only [sA, gA]
    have g0 : w6.cell? ⟨vb, 3, none⟩ = some (.string c0) := by rw [<- hc0]; exact hJ6.vbB.cell 3
    have g1 := hJ6.vbB.frozen 3
    refine wpAnyK_ready (rs := [21]) (by kernel_rfl) (by simp) ?_
    refine AllReadyK.last rfl (fun K hK => ?_)
    go_simp
    refine hK.out _ _ ?_
    clear hK K hHeld g0 g1
    try simp only [sA, gA]
    refine wpAnyK_done (by kernel_rfl) ?_ _
    have hfin := hJ6.setC (linkB c0 e.1 e.2)
    have rfin := rd6.trans (Rnd.set (bf := bf) hJ6.vbB (i := 3) (by decide) (.string (linkB c0 e.1 e.2)))
    exact ⟨rfin.o, rfin.c, rfin.s, _, _, _, _, by rw [List.length_append, hpl]; exact hR1, by rw [hRe]; exact hfin⟩
  ·rw [if_neg h73] at hstep
   have hRe : R1 = ⟨linkB R0.chain e.1 e.2, R0.chain, R0.image, R0.texts ++ [pt]⟩ := Option.some.inj hstep
   obtain rfl : kd = 82 := by
    have := openB_kind root e.1 e.2
    rw [hP] at this
    rcases this with h | h | ⟨h, _⟩
    ·exact absurd (.inl h) hbad
    ·exact h
    ·exact absurd h h73
   have x0 : W.cell? ⟨k, 0, none⟩ = some (.int .u8 82) := x0
   clear hstep hbad h73
   gi_wp2_with fail
   refine region_round_last (S := (fun W => W.cell? ⟨tv, 0, none⟩ = some (.pointer (some ⟨vb, 0, none⟩)) /\ W.cell? ⟨vb, 5, none⟩ = some u /\ W.cell? ⟨k, 2, none⟩ = some (.string pt))) 11 (by kernel_rfl) (by kernel_rfl) (by rintro ⟨a, w, h⟩; exact h) ⟨hI.drew.tvB.cell 0, hI.drew.vbB.cell 5, hk.drew.cell 2⟩ (fun hHeld => ?_)
   refine' wkt (i := 0) (v := ?v0t) rfl (Or.inl ⟨by go_simp, ?hy0t⟩) hHeld ?rest0t
   case hy0t =>
    intro w hSw
    try dsimp only at hSw
    go_simp
    all_goals with_reducible rfl
   try simp only [sA, gA]
   refine' wkt (i := 1) (v := ?v1t) rfl (Or.inl ⟨by go_simp, ?hy1t⟩) hHeld ?rest1t
   case hy1t =>
    intro w hSw
    try dsimp only at hSw
    go_simp
    all_goals with_reducible rfl
   try simp only [sA, gA]
   refine' wkt (i := 2) (v := ?v2t) rfl (Or.inl ⟨by go_simp, ?hy2t⟩) hHeld ?rest2t
   case hy2t =>
    intro w hSw
    try dsimp only at hSw
    go_simp
    all_goals with_reducible rfl
   try simp only [sA, gA]
   refine' wkt (i := 3) (v := ?v3t) rfl (Or.inl ⟨by go_simp, ?hy3t⟩) hHeld ?rest3t
   case hy3t =>
    intro w hSw
    try dsimp only at hSw
    go_simp
    all_goals with_reducible rfl
   try simp only [sA, gA]
   refine' wkt (i := 4) (v := ?v4t) rfl (Or.inl ⟨by go_simp, ?hy4t⟩) hHeld ?rest4t
   case hy4t =>
    intro w hSw
    try dsimp only at hSw
    go_simp
    all_goals with_reducible rfl
   try simp only [sA, gA]
   refine' wkt (i := 5) (v := ?v5t) rfl (Or.inl ⟨by go_simp, ?hy5t⟩) hHeld ?rest5t
   case hy5t =>
    intro w hSw
    try dsimp only at hSw
    go_simp
    all_goals with_reducible rfl
   try simp only [sA, gA]
   refine' wkt (i := 6) (v := ?v6t) rfl (Or.inl ⟨by go_simp, ?hy6t⟩) hHeld ?rest6t
   case hy6t =>
    intro w hSw
    try dsimp only at hSw
    go_simp
    all_goals with_reducible rfl
   try simp only [sA, gA]
   have hId := hI.drew
   have rd0' := Rnd.drew (vb := vb) (bf := bf) W
   have hkd := hk.drew
   clear hI hk
   generalize W.drew = Wd at *
   have hBe : Below Wd.heap.size Wd (Wd.alloc (.cells #[.string pt] 9)) := (Below.refl _ Wd).alloc (Nat.le_refl _) _
   have hn0 := Blk.new Wd 9 #[.string pt]
   have hIe := hId.below hBe
   have hke := hkd.below hBe hkd.lt
   have hse : (Wd.alloc (.cells #[.string pt] 9)).heap.size = Wd.heap.size + 1 := by simp
   refine wpAnyK_ready (rs := [7]) (by kernel_rfl) (by simp) ?_
   refine AllReadyK.cons rfl (fun K hK => ?_) AllReadyK.nil
   go_simp
   refine hK.out _ _ ⟨hIe.tvB.cell 0, hIe.vbB.cell 5, hke.cell 2⟩ (fun hHeld2 => ?_)
   clear hK K hHeld
   have hHeld := hHeld2
   clear hHeld2
   try simp only [sA, gA]
   generalize hWe : Wd.alloc (.cells #[.string pt] 9) = We at *
   refine wpAnyK_ready (rs := [8]) (by kernel_rfl) (by simp) ?_
   refine AllReadyK.cons rfl (fun K hK => ?_) AllReadyK.nil
   refine step_append_lies _ (by rfl) _ _ _ (by rfl) lo 9 i0 _ 1 16 Tryz.underlying35 hi hz0 hz1 hz2 rfl (by decide) u R0.texts.length (strCells R0.texts) (by rfl) hIe.row ⟨Wd.heap.size, 0, none⟩ 1 1 [.string pt] (by rfl) (by rfl) (fun j v hv => World.news_of_block hn0 j v hv) (by simp [Value.oneCell']) (by omega) hmx.out.1 (by have := hmx.out.2; omega) hIe.lows.2.2.2.1 (Wd.heap.size + 1) hse ?_
   intro g2 cap w4 hown4 hgrow4 hgo4 _
   obtain ⟨q0, q1, q2, q3⟩ := hId.app hBe hown4 hgrow4
   have rd1 := rd0'.trans (hId.rndApp (n := R0.texts.length + 1) (c := cap) hBe hgrow4 (hgo4.imp id (fun e => by omega)))
   have hk4 := hke.grown hgrow4 (fun e => own_blk_ne q0.row hke (by decide) e.symm)
   refine hK.out _ _ ⟨q2.cell 0, q1.cell 5, hk4.cell 2⟩ (fun hHeld2 => ?_)
   clear hK K hHeld hown4 hgrow4 hgo4
   have hHeld := hHeld2
   clear hHeld2
   try simp only [sA, gA]
   refine' wkt (i := 9) (v := ?v9t) rfl (Or.inl ⟨by go_simp, ?hy9t⟩) hHeld ?rest9t
   case hy9t =>
    intro w hSw
    try dsimp only at hSw
    go_simp
    all_goals with_reducible rfl
   try simp only [sA, gA]
   refine' wkt (i := 10) (v := ?v10t) rfl (Or.inl ⟨by go_simp, ?hy10t⟩) hHeld ?rest10t
   case hy10t =>
    intro w hSw
    try dsimp only at hSw
    go_simp
    all_goals with_reducible rfl
   try simp only [sA, gA]
   have g0 : w4.cell? ⟨vb, 5, none⟩ = some u := q1.cell 5
   have g1 := q1.frozen 5
   have hk5 := hk4.grown (grown_set w4 vb 5 (.slice (some ⟨g2, 0, none⟩) (R0.texts.length + 1) cap)) (fun e => hk4.ne_ q1 (by decide) (Option.some.inj e))
   refine wpAnyK_ready (rs := [11]) (by kernel_rfl) (by simp) ?_
   refine AllReadyK.last rfl (fun K hK => ?_)
   go_simp
   refine hK.out _ _ ?_
   clear hK K hHeld g0 g1
   try simp only [sA, gA]
   refine wpAnyK_done (by kernel_rfl) ?_ _
   obtain ⟨c0, hc0⟩ : ∃ c0, R0.chain = c0 := ⟨_, rfl⟩
   obtain ⟨b0, hb0⟩ : ∃ b0, R0.before = b0 := ⟨_, rfl⟩
   rw [hc0] at hRe hczz
   have hcz := hczz
   have hJ := q3
   have hrd := rd1
   clear q0 q1 q2 q3 rd1 hId rd0' hk5 hk4 hke hkd x0 hIe hn0 hBe hWe
   generalize World.setCell w4 _ _ = Wf at *
   gi_wp2_with fail
   refine region_round_last (S := (fun W => W.cell? ⟨tv, 0, none⟩ = some (.pointer (some ⟨vb, 0, none⟩)) /\ W.cell? ⟨vb, 3, none⟩ = some (.string c0) /\ W.cell? ⟨nx, 0, none⟩ = some (.slice (some ⟨gn, 0, none⟩) L cn) /\ W.cell? ⟨gn, pl, none⟩ = some (.int .i64 (e.1 : Int)) /\ W.cell? ⟨bx, 0, none⟩ = some (.slice (some ⟨gb, 0, none⟩) L cb) /\ W.cell? ⟨gb, pl, none⟩ = some (.string e.2))) 21 (by kernel_rfl) (by kernel_rfl) (by rintro ⟨a, w, h⟩; exact h) (HS25.out _ _ _ _ _ hJ.drew hc0) (fun hHeld => ?_)
   refine' wkt (i := 0) (v := ?v0s) rfl (Or.inl ⟨by go_simp, ?hy0s⟩) hHeld ?rest0s
   case hy0s =>
    intro w hSw
    try dsimp only at hSw
    go_simp
    all_goals with_reducible rfl
   try simp only [sA, gA]
   refine' wkt (i := 1) (v := ?v1s) rfl (Or.inl ⟨by go_simp, ?hy1s⟩) hHeld ?rest1s
   case hy1s =>
    intro w hSw
    try dsimp only at hSw
    go_simp
    all_goals with_reducible rfl
   try simp only [sA, gA]
   refine' wkt (i := 2) (v := ?v2s) rfl (Or.inl ⟨by go_simp, ?hy2s⟩) hHeld ?rest2s
   case hy2s =>
    intro w hSw
    try dsimp only at hSw
    go_simp
    all_goals with_reducible rfl
   try simp only [sA, gA]
   refine' wkt (i := 3) (v := ?v3s) rfl (Or.inl ⟨by go_simp, ?hy3s⟩) hHeld ?rest3s
   case hy3s =>
    intro w hSw
    try dsimp only at hSw
    go_simp
    all_goals with_reducible rfl
   try simp only [sA, gA]
   refine' wkt (i := 4) (v := ?v4s) rfl (Or.inl ⟨by go_simp, ?hy4s⟩) hHeld ?rest4s
   case hy4s =>
    intro w hSw
    try dsimp only at hSw
    go_simp
    all_goals with_reducible rfl
   try simp only [sA, gA]
   refine' wkt (i := 5) (v := ?v5s) rfl (Or.inl ⟨by go_simp, ?hy5s⟩) hHeld ?rest5s
   case hy5s =>
    intro w hSw
    try dsimp only at hSw
    go_simp
    all_goals with_reducible rfl
   try simp only [sA, gA]
   refine' wkt (i := 6) (v := ?v6s) rfl (Or.inl ⟨by go_simp, ?hy6s⟩) hHeld ?rest6s
   case hy6s =>
    intro w hSw
    try dsimp only at hSw
    go_simp
    all_goals with_reducible rfl
   try simp only [sA, gA]
   refine' wkt (i := 7) (v := ?v7s) rfl (Or.inl ⟨by go_simp, ?hy7s⟩) hHeld ?rest7s
   case hy7s =>
    intro w hSw
    try dsimp only at hSw
    go_simp
    all_goals with_reducible rfl
   try simp only [sA, gA]
   refine' wkt (i := 8) (v := ?v8s) rfl (Or.inl ⟨by go_simp, ?hy8s⟩) hHeld ?rest8s
   case hy8s =>
    intro w hSw
    try dsimp only at hSw
    go_simp
    all_goals with_reducible rfl
   try simp only [sA, gA]
   refine' wkt (i := 9) (v := ?v9s) rfl (Or.inl ⟨by go_simp, ?hy9s⟩) hHeld ?rest9s
   case hy9s =>
    intro w hSw
    try dsimp only at hSw
    go_simp
    all_goals with_reducible rfl
   try simp only [sA, gA]
   refine' wkt (i := 10) (v := ?v10s) rfl (Or.inl ⟨by go_simp, ?hy10s⟩) hHeld ?rest10s
   case hy10s =>
    intro w hSw
    try dsimp only at hSw
    go_simp
    all_goals with_reducible rfl
   try simp only [sA, gA]
   refine' wkt (i := 11) (v := ?v11s) rfl (Or.inl ⟨by go_simp, ?hy11s⟩) hHeld ?rest11s
   case hy11s =>
    intro w hSw
    try dsimp only at hSw
    go_simp
    all_goals with_reducible rfl
   try simp only [sA, gA]
   refine' wkt (i := 12) (v := ?v12s) rfl (Or.inl ⟨by go_simp, ?hy12s⟩) hHeld ?rest12s
   case hy12s =>
    intro w hSw
    try dsimp only at hSw
    go_simp
    all_goals with_reducible rfl
   try simp only [sA, gA]
   refine' wkt (i := 13) (v := ?v13s) rfl (Or.inl ⟨by go_simp, ?hy13s⟩) hHeld ?rest13s
   case hy13s =>
    intro w hSw
    try dsimp only at hSw
    go_simp
    all_goals with_reducible rfl
   try simp only [sA, gA]
   refine' wkt (i := 14) (v := ?v14s) rfl (Or.inl ⟨by go_simp, ?hy14s⟩) hHeld ?rest14s
   case hy14s =>
    intro w hSw
    try dsimp only at hSw
    go_simp
    all_goals with_reducible rfl
   try simp only [sA, gA]
   refine' wkt (i := 15) (v := ?v15s) rfl (Or.inl ⟨by go_simp, ?hy15s⟩) hHeld ?rest15s
   case hy15s =>
    intro w hSw
    try dsimp only at hSw
    go_simp
    all_goals with_reducible rfl
   try simp only [sA, gA]
   refine' wkt (i := 16) (v := ?v16s) rfl (Or.inl ⟨by go_simp, ?hy16s⟩) hHeld ?rest16s
   case hy16s =>
    intro w hSw
    try dsimp only at hSw
    go_simp
    all_goals with_reducible rfl
   try simp only [sA, gA]
   have hJd := hJ.drew
   have rdd := hrd.trans (Rnd.drew _)
   clear hJ hrd
   generalize World.drew _ = Wd at *
   refine wpAnyK_ready (rs := [17]) (by kernel_rfl) (by simp) ?_
   refine AllReadyK.cons rfl (fun K hK => ?_) AllReadyK.nil
   ·go_simp
    go_at_call 11
    refine (HLk.out _ _ _ _ _ hJd c0 hcz).mono ?_
    rintro e9 w5 ⟨rfl, hB9⟩
    have hJ5 := hJd.below hB9
    have rd5 := rdd.trans (Rnd.below hJd.vbB.lt hB9)
    refine hK.out _ _ (HS25.out _ _ _ _ _ hJ5 hc0) (fun hHeld2 => ?_)
    clear hK K hHeld
    have hHeld := hHeld2
    clear hHeld2
    try simp only [sA, gA]
    have k0 : w5.cell? ⟨bf, 0, none⟩ = some (.string b0) := by rw [<- hb0]; exact hJ5.bfB.cell 0
    have k1 := hJ5.bfB.frozen 0
    have hJ6 := hJ5.setB c0
    have rd6 := rd5.trans (Rnd.setB hJ5.ne hJ5.vbB.lt 0 (.string c0))
    refine wpAnyK_ready (rs := [18]) (by kernel_rfl) (by simp) ?_
    refine AllReadyK.cons rfl (fun K hK => ?_) AllReadyK.nil
    go_simp
    refine hK.out _ _ (HS25.out _ _ _ _ _ hJ6 hc0) (fun hHeld2 => ?_)
    clear hK K hHeld k0 k1
    have hHeld := hHeld2
    clear hHeld2
    try simp only [sA, gA]
    generalize w5.setCell ⟨bf, 0, none⟩ (.string c0) = w6 at *
    refine' wkt (i := 19) (v := ?v19sx) rfl (Or.inl ⟨by go_simp, ?hy19sx⟩) hHeld ?rest19sx
    case hy19sx =>
     intro w hSw
     try dsimp only at hSw
     go_simp
     all_goals with_reducible rfl
    try simp only [sA, gA]
    refine' wkt (i := 20) (v := ?v20sx) rfl (Or.inl ⟨by go_simp, ?hy20sx⟩) hHeld ?rest20sx
    case hy20sx =>
     intro w hSw
     try dsimp only at hSw
     go_simp
     all_goals with_reducible rfl
    try simp only [sA, gA]
    have g0 : w6.cell? ⟨vb, 3, none⟩ = some (.string c0) := by rw [<- hc0]; exact hJ6.vbB.cell 3
    have g1 := hJ6.vbB.frozen 3
    refine wpAnyK_ready (rs := [21]) (by kernel_rfl) (by simp) ?_
    refine AllReadyK.last rfl (fun K hK => ?_)
    go_simp
    refine hK.out _ _ ?_
    clear hK K hHeld g0 g1
    try simp only [sA, gA]
    refine wpAnyK_done (by kernel_rfl) ?_ _
    have hfin := hJ6.setC (linkB c0 e.1 e.2)
    have rfin := rd6.trans (Rnd.set (bf := bf) hJ6.vbB (i := 3) (by decide) (.string (linkB c0 e.1 e.2)))
    exact ⟨rfin.o, rfin.c, rfin.s, _, _, _, _, by rw [List.length_append, hpl]; exact hR1, by rw [hRe]; exact hfin⟩
 case done =>
  rintro E xs W hE hxs ⟨R0, lo, p, u, hR0, hI⟩ hKd
  obtain rfl : R0 = R := by
   have h1 := Hrd.out
   unfold readV at h1
   rw [hxs] at hR0
   rw [hR0] at h1
   exact Option.some.inj h1
  subst hT
  obtain ⟨Ab, cb, b1, _⟩ := HRo8.out.b
  have hczz : R0.chain.size = 32 := readN_size hR0
  rw [HL.out] at b1
  have hab := HA8.out.below hI.b HA8.out.lt
  have hbx := b1.below hI.b b1.lt
  obtain ⟨NL, hNL⟩ : ∃ NL, needed D.slots [(0, root), (1, R0.chain), (2, zero32)] = NL := ⟨_, rfl⟩
  have Hvo : Hid (vopen h D = if s1 ≠ R0.chain /\ (J.l = [] \/ s1 ≠ R0.before) then (9, none, D) else if (dstores NL D).1 = 0 then (0, some ⟨J, root, R0.chain, R0.image, R0.texts⟩, (dstores NL D).2) else (14, none, (dstores NL D).2)) := by
   have hNL' : needed [s0, s1, s2] [(0, root), (1, R0.chain), (2, zero32)] = NL := by rw [<- Hs.out]; exact hNL
   unfold Hid vopen
   rw [Hs.out, HJe.out]
   have g0 : ([s0, s1, s2] : List ByteArray).getD 0 ⟨#[]⟩ = s0 := rfl
   have g1 : ([s0, s1, s2] : List ByteArray).getD 1 ⟨#[]⟩ = s1 := rfl
   have g2 : ([s0, s1, s2] : List ByteArray).getD 2 ⟨#[]⟩ = s2 := rfl
   rw [g0, g1, g2, if_neg (fun e => HZn.out e.1), Hro.out]
   dsimp only
   rw [Hrd.out]
   dsimp only
   rw [hNL']
  have hrE : w.heap.size <= E := Nat.le_trans HB8.out.size (Nat.le_trans hIw hE)
  obtain ⟨c0, hc0⟩ : ∃ c0, R0.chain = c0 := ⟨_, rfl⟩
  obtain ⟨b0, hb0⟩ : ∃ b0, R0.before = b0 := ⟨_, rfl⟩
  have HS26 : Hid (W.drew.cell? ⟨ab, 1, none⟩ = some (.string s1) /\ W.drew.cell? ⟨tv, 0, none⟩ = some (.pointer (some ⟨vb, 0, none⟩)) /\ W.drew.cell? ⟨vb, 3, none⟩ = some (.string c0) /\ W.drew.cell? ⟨bx, 0, none⟩ = some (.slice Ab L cb) /\ W.drew.cell? ⟨bf, 0, none⟩ = some (.string b0)) :=
   ⟨hab.drew.cell 1, hI.drew.tvB.cell 0, by rw [<- hc0]; exact hI.drew.vbB.cell 3, hbx.drew.cell 0, by rw [<- hb0]; exact hI.drew.bfB.cell 0⟩
  have hBW : Below w.heap.size w W := HB8.out.trans (hI.b.mono HB8.out.size)
  have hlw : w.heap.size <= w8.heap.size := HB8.out.size
  have hlo := hI.lows
  have hsb : a.sb < w.heap.size := by
   obtain ⟨_, q⟩ := HD.out.sblk
   exact q.lt
  have hvis : VIs W.drew ⟨a, jb, vb, lo⟩ h ⟨J, root, R0.chain, R0.image, R0.texts⟩ D p u := by
   refine ⟨(HD.out.below hBW).below (Below.refl _ _).drew, ⟨vj, (HJ8.out.below hI.b).below (Below.refl _ _).drew⟩, hI.drew.vbB, ?_, hI.drew.row, by show a.sb < lo; omega, fun g i e => ?_, hI.drew.lows.2.2.2.1⟩
   ·rcases hI.drew.img with e | ⟨g, P, e1, e2, e3, e4, e5⟩
    ·exact .inl e
    ·exact .inr ⟨g, 2, P.text, 104, partC P, e2, e1, e3, rfl, .inr rfl, by show g ≠ a.sb; omega⟩
   ·rcases hI.img with e1 | ⟨g', P, e1, e2, e3, e4, e5⟩
    ·rw [e1.2] at e; cases e
    ·rw [e1] at e
     cases e
     exact e4
  have HVis := Lib.hid hvis
  have HTv := Lib.hid hI.drew.tvB
  have HRr : Hid (Blk W.drew w.heap.size 34 #[.pointer none] /\ Blk W.drew (w.heap.size + 1) 39 #[.int .i64 0]) := ⟨(HR8.out.1.below hI.b HR8.out.1.lt).drew, (HR8.out.2.below hI.b HR8.out.2.lt).drew⟩
  have HSto := Lib.hid (vstoreO_any (nd := ndO [s0, s1, s2]) (lx := ab) hvis Hon.out (by rw [Hs.out]; rfl) hrz hczz rfl (fun w2 hF => hvis.box hF hab.drew (by decide)))
  have hnl : ([(0, root), (1, R0.chain), (2, zero32)].filter fun y => ndO [s0, s1, s2] y.1 y.2) = NL := by rw [<- hNL, Hs.out]; rfl
  dsimp only at HSto
  rw [hnl] at HSto
  have Hlo : Hid (w.heap.size <= jb /\ w.heap.size <= vb /\ w.heap.size <= lo) := ⟨Hjb.out, Nat.le_trans hlw hI.z.1, Nat.le_trans hlw hI.lows.2.2.1⟩
  have HKd : Hid (W.drew.heap[E]? = some (.deferred (some []))) := hKd
  have HBd : Hid (Below w.heap.size w W.drew) := hBW.drew
  clear hvis hab hbx b1 hnl hBW hlo
  have hLJ : L = 0 ↔ J.l = [] := by rw [<- HL.out]; exact List.length_eq_zero_iff
  by_cases h1 : s1 = c0
  ·have d1 : (s1.toList == c0.toList) = true := by rw [h1]; exact beq_self_eq_true _
   have d2 : (s1.toList != c0.toList) = false := by show (!(s1.toList == c0.toList)) = false; rw [d1]; rfl
   have HSt : Hid (¬ (s1 ≠ R0.chain /\ (J.l = [] \/ s1 ≠ R0.before))) := fun e => e.1 (by rw [hc0]; exact h1)
   clear hLJ h1
   gi_wp2_with fail
   refine wpIn_wide.2 ?_
   refine wp_region_noPanic ?_
   refine wp_region_held_drew (S := (fun Wx => Wx.cell? ⟨ab, 1, none⟩ = some (.string s1) /\ Wx.cell? ⟨tv, 0, none⟩ = some (.pointer (some ⟨vb, 0, none⟩)) /\ Wx.cell? ⟨vb, 3, none⟩ = some (.string c0) /\ Wx.cell? ⟨bx, 0, none⟩ = some (.slice Ab L cb) /\ Wx.cell? ⟨bf, 0, none⟩ = some (.string b0))) (by kernel_rfl) HS26.out (fun hHeld => ?_)
   refine' tk 0 rfl hHeld ?_
   try simp only [sA, gA]
   refine' tk 1 rfl hHeld ?_
   try simp only [sA, gA]
   refine' tk 2 rfl hHeld ?_
   try simp only [sA, gA]
   refine' tk 3 rfl hHeld ?_
   try simp only [sA, gA]
   refine' tk 4 rfl hHeld ?_
   try simp only [sA, gA]
   refine' tk 5 rfl hHeld ?_
   try simp only [sA, gA]
   refine' tk 6 rfl hHeld ?_
   try simp only [sA, gA]
   refine' tk 7 rfl hHeld ?_
   try simp only [sA, gA]
   refine tu 8 rfl hHeld ?_
   try simp only [sA, gA]
   refine tu 9 rfl hHeld ?_
   try simp only [sA, gA]
   refine tu 10 rfl hHeld ?_
   try simp only [sA, gA]
   refine tu 11 rfl hHeld ?_
   try simp only [sA, gA]
   refine tu 12 rfl hHeld ?_
   try simp only [sA, gA]
   refine tu 13 rfl hHeld ?_
   try simp only [sA, gA]
   refine tu 14 rfl hHeld ?_
   try simp only [sA, gA]
   refine tu 15 rfl hHeld ?_
   try simp only [sA, gA]
   refine tu 16 rfl hHeld ?_
   try simp only [sA, gA]
   refine' tk 17 rfl hHeld ?_
   try simp only [sA, gA]
   refine wpAnyH_done (by kernel_rfl) ?_ _
   clear hHeld hI hKd HS26
   generalize W.drew = Wd at *
   refine NoPanic.normal ?_
   have hcl : res = (if (dstores NL D).1 = 0 then (0, some ⟨J, root, R0.chain, R0.image, R0.texts⟩, (dstores NL D).2) else (14, none, (dstores NL D).2)) := by rw [<- Hres.out, Hvo.out]; exact if_neg HSt.out
   have Hcl := Lib.hid hcl
   have y1 : Wd.cell? ⟨tv, 0, none⟩ = some (.pointer (some ⟨vb, 0, none⟩)) := HTv.out.cell 0
   clear hcl
   gi_wp2_with fail
   refine ⟨trivial, ?_⟩
   gi_at_call 59
   refine (callsIn_wide.2 HSto.out).mono ?_
   rintro e w12 ⟨rfl, hF12, hd12, hv12⟩
   have HP := Lib.hid (And.intro hF12 (And.intro hd12 hv12))
   clear hF12 hd12 hv12
   have y1 : w12.cell? ⟨tv, 0, none⟩ = some (.pointer (some ⟨vb, 0, none⟩)) := (HVis.out.box HP.out.1 HTv.out (by decide)).cell 0
   have h2 := HVis.out.box HP.out.1 HRr.out.1 (by decide)
   have h3 := HVis.out.box HP.out.1 HRr.out.2 (by decide)
   have y2 : w12.cell? ⟨w.heap.size, 0, none⟩ = some (.pointer none) := h2.cell 0
   have y3 : w12.cell? ⟨w.heap.size + 1, 0, none⟩ = some (.int .i64 0) := h3.cell 0
   have z2 := h2.frozen 0
   have z3 := h3.frozen 0
   have k0 : w12.heap[E]? = some (.deferred (some [])) := HVis.out.other HP.out.1 HKd.out rfl
   have hL12 : DLeft w w12 a := by
    have hF := HP.out.1
    have hB := HBd.out
    obtain ⟨l1, l2, l3⟩ := Hlo.out
    exact ⟨hF.os.trans hB.os, hF.tape.trans hB.tape, hF.output.trans hB.output, Nat.le_trans hB.size hF.size, fun j hj e1 e2 e3 e4 => (hF.rest j (Nat.lt_of_lt_of_le hj hB.size) e1 e2 e3 e4 (by show j ≠ jb; omega) (by show j ≠ vb; omega) (fun e => by have := (HVis.out.row.lt j e).1; have : lo <= j := this; omega)).trans (hB.block j hj)⟩
   have hsc : (dstores NL D).1 = 0 \/ (dstores NL D).1 = 14 := (stores_cases NL D Hon.out).imp (fun q => q.1) (fun q => q.1)
   have HH := Lib.hid (And.intro h2 (And.intro h3 (And.intro k0 hL12)))
   clear h2 h3 k0 hL12 HSto
   generalize dstores NL D = rD at *
   obtain ⟨rc, D1⟩ := rD
   dsimp only at hsc HP Hcl ⊢
   rcases hsc with rfl | rfl
   ·have hcl : Hid (res = (0, some ⟨J, root, R0.chain, R0.image, R0.texts⟩, D1)) := Hcl.out.trans (if_pos rfl)
    obtain ⟨k1, k2, k3, k4, k5, k6⟩ := open_end (w := w) (n2 := .pointer (some ⟨vb, 0, none⟩)) (n3 := .int .i64 0) HH.out.2.2.2 HP.out.2.1 HH.out.1 HH.out.2.1 (Nat.le_refl _) (Nat.le_succ _) hrE HH.out.2.2.1
    have k7 := k6 (HP.out.2.2 rfl)
    have HKs := Lib.hid (And.intro k1 (And.intro k2 (And.intro k3 (And.intro k4 (And.intro k5 k7)))))
    clear k1 k2 k3 k4 k5 k6 k7 Hcl HP HVis
    gi_wp2
    refine ⟨by simp, .inl ⟨_, _, rfl, run_takeDeferred HKs.out.1, ?_⟩⟩
    refine ⟨_, results_cc rfl _ _ _ _ _ _ rfl rfl HKs.out.2.1 HKs.out.2.2.1, ?_⟩
    rw [hcl.out]
    exact ⟨HKs.out.2.2.2.1, HKs.out.2.2.2.2.1, .inr ⟨_, _, _, _, rfl, rfl, rfl, HKs.out.2.2.2.2.2, Hlo.out.1, Hlo.out.2.1, Hlo.out.2.2⟩⟩
   ·have hcl : Hid (res = (14, none, D1)) := Hcl.out.trans (if_neg (by decide))
    obtain ⟨k1, k2, k3, k4, k5, k6⟩ := open_end (w := w) (n2 := .pointer none) (n3 := .int .i64 14) HH.out.2.2.2 HP.out.2.1 HH.out.1 HH.out.2.1 (Nat.le_refl _) (Nat.le_succ _) hrE HH.out.2.2.1
    have HKs := Lib.hid (And.intro k1 (And.intro k2 (And.intro k3 (And.intro k4 k5))))
    clear k1 k2 k3 k4 k5 k6 Hcl HP HVis
    gi_wp2
    refine ⟨by simp, .inl ⟨_, _, rfl, run_takeDeferred HKs.out.1, ?_⟩⟩
    refine ⟨_, results_cc rfl _ _ _ _ _ _ rfl rfl HKs.out.2.1 HKs.out.2.2.1, ?_⟩
    rw [hcl.out]
    exact ⟨HKs.out.2.2.2.1, HKs.out.2.2.2.2, .inl ⟨rfl, rfl⟩⟩
  ·have d1 : (s1.toList == c0.toList) = false := toList_ne h1
   have d2 : (s1.toList != c0.toList) = true := by show (!(s1.toList == c0.toList)) = true; rw [d1]; rfl
   by_cases hL0 : L = 0
   ·have HSt : Hid (s1 ≠ R0.chain /\ (J.l = [] \/ s1 ≠ R0.before)) := ⟨by rw [hc0]; exact h1, .inl (hLJ.1 hL0)⟩
    clear hLJ h1
    have l1 : (L : Int) = 0 := by omega
    have l2 : decide ((L : Int) = 0) = true := decide_eq_true l1
    gi_wp2_with fail
    refine wpIn_wide.2 ?_
    refine wp_region_noPanic ?_
    refine wp_region_held_drew (S := (fun Wx => Wx.cell? ⟨ab, 1, none⟩ = some (.string s1) /\ Wx.cell? ⟨tv, 0, none⟩ = some (.pointer (some ⟨vb, 0, none⟩)) /\ Wx.cell? ⟨vb, 3, none⟩ = some (.string c0) /\ Wx.cell? ⟨bx, 0, none⟩ = some (.slice Ab L cb) /\ Wx.cell? ⟨bf, 0, none⟩ = some (.string b0))) (by kernel_rfl) HS26.out (fun hHeld => ?_)
    refine' tk 0 rfl hHeld ?_
    try simp only [sA, gA]
    refine' tk 1 rfl hHeld ?_
    try simp only [sA, gA]
    refine' tk 2 rfl hHeld ?_
    try simp only [sA, gA]
    refine' tk 3 rfl hHeld ?_
    try simp only [sA, gA]
    refine' tk 4 rfl hHeld ?_
    try simp only [sA, gA]
    refine' tk 5 rfl hHeld ?_
    try simp only [sA, gA]
    refine' tk 6 rfl hHeld ?_
    try simp only [sA, gA]
    refine' tk 7 rfl hHeld ?_
    try simp only [sA, gA]
    refine' tk 8 rfl hHeld ?_
    try simp only [sA, gA]
    refine' tk 9 rfl hHeld ?_
    try simp only [sA, gA]
    refine' tk 10 rfl hHeld ?_
    try simp only [sA, gA]
    refine' tk 11 rfl hHeld ?_
    try simp only [sA, gA]
    refine tu 12 rfl hHeld ?_
    try simp only [sA, gA]
    refine tu 13 rfl hHeld ?_
    try simp only [sA, gA]
    refine tu 14 rfl hHeld ?_
    try simp only [sA, gA]
    refine tu 15 rfl hHeld ?_
    try simp only [sA, gA]
    refine' tk 16 rfl hHeld ?_
    try simp only [sA, gA]
    refine' tk 17 rfl hHeld ?_
    try simp only [sA, gA]
    refine wpAnyH_done (by kernel_rfl) ?_ _
    clear hHeld hI hKd HS26
    generalize W.drew = Wd at *
    refine NoPanic.normal ?_
    have hcl : res = (9, none, D) := by rw [<- Hres.out, Hvo.out]; exact if_pos HSt.out
    have h2 := HRr.out.1
    have h3 := HRr.out.2
    have y2 : Wd.cell? ⟨w.heap.size, 0, none⟩ = some (.pointer none) := h2.cell 0
    have y3 : Wd.cell? ⟨w.heap.size + 1, 0, none⟩ = some (.int .i64 0) := h3.cell 0
    have z2 := h2.frozen 0
    have z3 := h3.frozen 0
    obtain ⟨k1, k2, k3, k4, k5, _⟩ := open_end (w := w) (n2 := .pointer none) (n3 := .int .i64 9) (DLeft.ofBelow HBd.out) (HD.out.below HBd.out) h2 h3 (Nat.le_refl _) (Nat.le_succ _) hrE HKd.out
    have HKs := Lib.hid (And.intro k1 (And.intro k2 (And.intro k3 (And.intro k4 k5))))
    clear k1 k2 k3 k4 k5 h2 h3
    gi_wp2
    refine ⟨by simp, .inl ⟨_, _, rfl, run_takeDeferred HKs.out.1, ?_⟩⟩
    refine ⟨_, results_cc rfl _ _ _ _ _ _ rfl rfl HKs.out.2.1 HKs.out.2.2.1, ?_⟩
    rw [hcl]
    exact ⟨HKs.out.2.2.2.1, HKs.out.2.2.2.2, .inl ⟨rfl, rfl⟩⟩
   ·have l1 : ¬ (L : Int) = 0 := by omega
    have l2 : decide ((L : Int) = 0) = false := decide_eq_false l1
    by_cases h2 : s1 = b0
    ·have d3 : (s1.toList == b0.toList) = true := by rw [h2]; exact beq_self_eq_true _
     have d4 : (s1.toList != b0.toList) = false := by show (!(s1.toList == b0.toList)) = false; rw [d3]; rfl
     have HSt : Hid (¬ (s1 ≠ R0.chain /\ (J.l = [] \/ s1 ≠ R0.before))) := fun e => e.2.elim (fun q => hL0 (hLJ.2 q)) (fun q => q (by rw [hb0]; exact h2))
     clear hLJ h1 h2
     gi_wp2_with fail
     refine wpIn_wide.2 ?_
     refine wp_region_noPanic ?_
     refine wp_region_held_drew (S := (fun Wx => Wx.cell? ⟨ab, 1, none⟩ = some (.string s1) /\ Wx.cell? ⟨tv, 0, none⟩ = some (.pointer (some ⟨vb, 0, none⟩)) /\ Wx.cell? ⟨vb, 3, none⟩ = some (.string c0) /\ Wx.cell? ⟨bx, 0, none⟩ = some (.slice Ab L cb) /\ Wx.cell? ⟨bf, 0, none⟩ = some (.string b0))) (by kernel_rfl) HS26.out (fun hHeld => ?_)
     refine' tk 0 rfl hHeld ?_
     try simp only [sA, gA]
     refine' tk 1 rfl hHeld ?_
     try simp only [sA, gA]
     refine' tk 2 rfl hHeld ?_
     try simp only [sA, gA]
     refine' tk 3 rfl hHeld ?_
     try simp only [sA, gA]
     refine' tk 4 rfl hHeld ?_
     try simp only [sA, gA]
     refine' tk 5 rfl hHeld ?_
     try simp only [sA, gA]
     refine' tk 6 rfl hHeld ?_
     try simp only [sA, gA]
     refine' tk 7 rfl hHeld ?_
     try simp only [sA, gA]
     refine' tk 8 rfl hHeld ?_
     try simp only [sA, gA]
     refine' tk 9 rfl hHeld ?_
     try simp only [sA, gA]
     refine' tk 10 rfl hHeld ?_
     try simp only [sA, gA]
     refine' tk 11 rfl hHeld ?_
     try simp only [sA, gA]
     refine' tk 12 rfl hHeld ?_
     try simp only [sA, gA]
     refine' tk 13 rfl hHeld ?_
     try simp only [sA, gA]
     refine' tk 14 rfl hHeld ?_
     try simp only [sA, gA]
     refine' tk 15 rfl hHeld ?_
     try simp only [sA, gA]
     refine' tk 16 rfl hHeld ?_
     try simp only [sA, gA]
     refine' tk 17 rfl hHeld ?_
     try simp only [sA, gA]
     refine wpAnyH_done (by kernel_rfl) ?_ _
     clear hHeld hI hKd HS26
     generalize W.drew = Wd at *
     refine NoPanic.normal ?_
     have hcl : res = (if (dstores NL D).1 = 0 then (0, some ⟨J, root, R0.chain, R0.image, R0.texts⟩, (dstores NL D).2) else (14, none, (dstores NL D).2)) := by rw [<- Hres.out, Hvo.out]; exact if_neg HSt.out
     have Hcl := Lib.hid hcl
     have y1 : Wd.cell? ⟨tv, 0, none⟩ = some (.pointer (some ⟨vb, 0, none⟩)) := HTv.out.cell 0
     clear hcl
     gi_wp2_with fail
     refine ⟨trivial, ?_⟩
     gi_at_call 59
     refine (callsIn_wide.2 HSto.out).mono ?_
     rintro e w12 ⟨rfl, hF12, hd12, hv12⟩
     have HP := Lib.hid (And.intro hF12 (And.intro hd12 hv12))
     clear hF12 hd12 hv12
     have y1 : w12.cell? ⟨tv, 0, none⟩ = some (.pointer (some ⟨vb, 0, none⟩)) := (HVis.out.box HP.out.1 HTv.out (by decide)).cell 0
     have h2 := HVis.out.box HP.out.1 HRr.out.1 (by decide)
     have h3 := HVis.out.box HP.out.1 HRr.out.2 (by decide)
     have y2 : w12.cell? ⟨w.heap.size, 0, none⟩ = some (.pointer none) := h2.cell 0
     have y3 : w12.cell? ⟨w.heap.size + 1, 0, none⟩ = some (.int .i64 0) := h3.cell 0
     have z2 := h2.frozen 0
     have z3 := h3.frozen 0
     have k0 : w12.heap[E]? = some (.deferred (some [])) := HVis.out.other HP.out.1 HKd.out rfl
     have hL12 : DLeft w w12 a := by
      have hF := HP.out.1
      have hB := HBd.out
      obtain ⟨l1, l2, l3⟩ := Hlo.out
      exact ⟨hF.os.trans hB.os, hF.tape.trans hB.tape, hF.output.trans hB.output, Nat.le_trans hB.size hF.size, fun j hj e1 e2 e3 e4 => (hF.rest j (Nat.lt_of_lt_of_le hj hB.size) e1 e2 e3 e4 (by show j ≠ jb; omega) (by show j ≠ vb; omega) (fun e => by have := (HVis.out.row.lt j e).1; have : lo <= j := this; omega)).trans (hB.block j hj)⟩
     have hsc : (dstores NL D).1 = 0 \/ (dstores NL D).1 = 14 := (stores_cases NL D Hon.out).imp (fun q => q.1) (fun q => q.1)
     have HH := Lib.hid (And.intro h2 (And.intro h3 (And.intro k0 hL12)))
     clear h2 h3 k0 hL12 HSto
     generalize dstores NL D = rD at *
     obtain ⟨rc, D1⟩ := rD
     dsimp only at hsc HP Hcl ⊢
     rcases hsc with rfl | rfl
     ·have hcl : Hid (res = (0, some ⟨J, root, R0.chain, R0.image, R0.texts⟩, D1)) := Hcl.out.trans (if_pos rfl)
      obtain ⟨k1, k2, k3, k4, k5, k6⟩ := open_end (w := w) (n2 := .pointer (some ⟨vb, 0, none⟩)) (n3 := .int .i64 0) HH.out.2.2.2 HP.out.2.1 HH.out.1 HH.out.2.1 (Nat.le_refl _) (Nat.le_succ _) hrE HH.out.2.2.1
      have k7 := k6 (HP.out.2.2 rfl)
      have HKs := Lib.hid (And.intro k1 (And.intro k2 (And.intro k3 (And.intro k4 (And.intro k5 k7)))))
      clear k1 k2 k3 k4 k5 k6 k7 Hcl HP HVis
      gi_wp2
      refine ⟨by simp, .inl ⟨_, _, rfl, run_takeDeferred HKs.out.1, ?_⟩⟩
      refine ⟨_, results_cc rfl _ _ _ _ _ _ rfl rfl HKs.out.2.1 HKs.out.2.2.1, ?_⟩
      rw [hcl.out]
      exact ⟨HKs.out.2.2.2.1, HKs.out.2.2.2.2.1, .inr ⟨_, _, _, _, rfl, rfl, rfl, HKs.out.2.2.2.2.2, Hlo.out.1, Hlo.out.2.1, Hlo.out.2.2⟩⟩
     ·have hcl : Hid (res = (14, none, D1)) := Hcl.out.trans (if_neg (by decide))
      obtain ⟨k1, k2, k3, k4, k5, k6⟩ := open_end (w := w) (n2 := .pointer none) (n3 := .int .i64 14) HH.out.2.2.2 HP.out.2.1 HH.out.1 HH.out.2.1 (Nat.le_refl _) (Nat.le_succ _) hrE HH.out.2.2.1
      have HKs := Lib.hid (And.intro k1 (And.intro k2 (And.intro k3 (And.intro k4 k5))))
      clear k1 k2 k3 k4 k5 k6 Hcl HP HVis
      gi_wp2
      refine ⟨by simp, .inl ⟨_, _, rfl, run_takeDeferred HKs.out.1, ?_⟩⟩
      refine ⟨_, results_cc rfl _ _ _ _ _ _ rfl rfl HKs.out.2.1 HKs.out.2.2.1, ?_⟩
      rw [hcl.out]
      exact ⟨HKs.out.2.2.2.1, HKs.out.2.2.2.2, .inl ⟨rfl, rfl⟩⟩
    ·have d3 : (s1.toList == b0.toList) = false := toList_ne h2
     have d4 : (s1.toList != b0.toList) = true := by show (!(s1.toList == b0.toList)) = true; rw [d3]; rfl
     have HSt : Hid (s1 ≠ R0.chain /\ (J.l = [] \/ s1 ≠ R0.before)) := ⟨by rw [hc0]; exact h1, .inr (by rw [hb0]; exact h2)⟩
     clear hLJ h1 h2
     gi_wp2_with fail
     refine wpIn_wide.2 ?_
     refine wp_region_noPanic ?_
     refine wp_region_held_drew (S := (fun Wx => Wx.cell? ⟨ab, 1, none⟩ = some (.string s1) /\ Wx.cell? ⟨tv, 0, none⟩ = some (.pointer (some ⟨vb, 0, none⟩)) /\ Wx.cell? ⟨vb, 3, none⟩ = some (.string c0) /\ Wx.cell? ⟨bx, 0, none⟩ = some (.slice Ab L cb) /\ Wx.cell? ⟨bf, 0, none⟩ = some (.string b0))) (by kernel_rfl) HS26.out (fun hHeld => ?_)
     refine' tk 0 rfl hHeld ?_
     try simp only [sA, gA]
     refine' tk 1 rfl hHeld ?_
     try simp only [sA, gA]
     refine' tk 2 rfl hHeld ?_
     try simp only [sA, gA]
     refine' tk 3 rfl hHeld ?_
     try simp only [sA, gA]
     refine' tk 4 rfl hHeld ?_
     try simp only [sA, gA]
     refine' tk 5 rfl hHeld ?_
     try simp only [sA, gA]
     refine' tk 6 rfl hHeld ?_
     try simp only [sA, gA]
     refine' tk 7 rfl hHeld ?_
     try simp only [sA, gA]
     refine' tk 8 rfl hHeld ?_
     try simp only [sA, gA]
     refine' tk 9 rfl hHeld ?_
     try simp only [sA, gA]
     refine' tk 10 rfl hHeld ?_
     try simp only [sA, gA]
     refine' tk 11 rfl hHeld ?_
     try simp only [sA, gA]
     refine' tk 12 rfl hHeld ?_
     try simp only [sA, gA]
     refine' tk 13 rfl hHeld ?_
     try simp only [sA, gA]
     refine' tk 14 rfl hHeld ?_
     try simp only [sA, gA]
     refine' tk 15 rfl hHeld ?_
     try simp only [sA, gA]
     refine' tk 16 rfl hHeld ?_
     try simp only [sA, gA]
     refine' tk 17 rfl hHeld ?_
     try simp only [sA, gA]
     refine wpAnyH_done (by kernel_rfl) ?_ _
     clear hHeld hI hKd HS26
     generalize W.drew = Wd at *
     refine NoPanic.normal ?_
     have hcl : res = (9, none, D) := by rw [<- Hres.out, Hvo.out]; exact if_pos HSt.out
     have h2 := HRr.out.1
     have h3 := HRr.out.2
     have y2 : Wd.cell? ⟨w.heap.size, 0, none⟩ = some (.pointer none) := h2.cell 0
     have y3 : Wd.cell? ⟨w.heap.size + 1, 0, none⟩ = some (.int .i64 0) := h3.cell 0
     have z2 := h2.frozen 0
     have z3 := h3.frozen 0
     obtain ⟨k1, k2, k3, k4, k5, _⟩ := open_end (w := w) (n2 := .pointer none) (n3 := .int .i64 9) (DLeft.ofBelow HBd.out) (HD.out.below HBd.out) h2 h3 (Nat.le_refl _) (Nat.le_succ _) hrE HKd.out
     have HKs := Lib.hid (And.intro k1 (And.intro k2 (And.intro k3 (And.intro k4 k5))))
     clear k1 k2 k3 k4 k5 h2 h3
     gi_wp2
     refine ⟨by simp, .inl ⟨_, _, rfl, run_takeDeferred HKs.out.1, ?_⟩⟩
     refine ⟨_, results_cc rfl _ _ _ _ _ _ rfl rfl HKs.out.2.1 HKs.out.2.2.1, ?_⟩
     rw [hcl]
     exact ⟨HKs.out.2.2.2.1, HKs.out.2.2.2.2, .inl ⟨rfl, rfl⟩⟩
 case stop =>
  rintro E c pre W hE hx
  exact hx.elim
end
end Go.Proofs.YtpghocekofdpbaaGreatDoor
