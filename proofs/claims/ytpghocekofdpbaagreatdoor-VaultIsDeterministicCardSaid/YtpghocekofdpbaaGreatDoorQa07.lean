import Derived.Test.YtpghocekofdpbaaGreatDoorQa06
import Derived.Laws.OwnMore
import Derived.StillTailTactics
namespace Go.Proofs.YtpghocekofdpbaaGreatDoor
open Go.RowKit Go.Shelf
attribute [local go_sem] Oper.semAt_some
def Texts (w : World) (v : Value) (I : List ByteArray) : Prop := w.ownsRow 0 9 1 v I.length (strCells I)
theorem Texts.parts {w : World} {v : Value} {I : List ByteArray} (h : Texts w v I) : ∃ A c, v = .slice A I.length c /\ I.length <= c /\ c <= maxLen /\ ∀ i t, I[i]? = some t -> ∃ gb cs, A = some ⟨gb, 0, none⟩ /\ Blk w gb 9 cs /\ w.cell? ⟨gb, i, none⟩ = some (.string t) := by
 have h' := h
 rcases h.2 with ⟨rfl, h0⟩ | ⟨gb, cap, cur, rfl, _, hb, h1, h2, _, _⟩
 ·exact ⟨none, 0, by rw [h0], by omega, by unfold maxLen; omega, fun i t hi => by rw [List.eq_nil_of_length_eq_zero h0] at hi; simp at hi⟩
 ·refine ⟨_, cap, rfl, h1, h2, fun i t hi => ⟨gb, cur, rfl, hb, ?_⟩⟩
  rw [h'.cellAt i (by have := (List.getElem?_eq_some_iff.1 hi).1; omega)]
  simp [strCells, hi]
theorem Load1_any (w : World) (t : ByteArray) : Calls Tryz.prog 92 #[.string t] w fun e w' => e = .returned (.bool ((t.size : Int) != 64)) /\ w = w' := by
 go_enter Tryz.func92, Tryz.ntmps92
 go_wp2_with fail
 go_ret
 exact ⟨rfl, rfl⟩
def wrongs (I : List ByteArray) : Bool := I.any fun t => (t.size : Int) != 64
set_option maxHeartbeats 4000000 in
theorem IndexF_any (w : World) (v : Value) (I : List ByteArray) (h : Texts w v I) (_hN : I.length <= 1099511627776) :
  Calls Tryz.prog 68 #[v, .func (.func 92) #[] #[]] w fun e w' => (∃ r : Int, e = .returned (.int .i64 r) /\ (decide (r >= 0)) = wrongs I) /\ w = w' := by
 obtain ⟨A, c, rfl, hc1, hc2, hc3⟩ := h.parts
 unfold maxLen at hc2
 have H3 := Lib.hid hc3
 clear hc3
 go_enter Tryz.func68, Tryz.ntmps68
 go_wp2_with fail
 go_loop [5, 8] (fun _ a => ∃ k : Nat, k <= I.length /\ a = .int .i64 k /\ Hid (wrongs (I.take k) = false)) (fun _ a => I.length - (intOf a).toNat)
 case atStart => exact ⟨0, Nat.zero_le _, rfl, rfl⟩
 case round =>
  obtain ⟨k, hk, rfl, hw⟩ := hrel
  by_cases hkl : k < I.length
  ·obtain ⟨t, hs⟩ : ∃ t, I[k]? = some t := ⟨_, List.getElem?_eq_getElem hkl⟩
   obtain ⟨gb, cs, rfl, hb, hc⟩ := H3.out k t hs
   have hw1 : Hid (wrongs (I.take (k + 1)) = ((t.size : Int) != 64)) := by
    unfold Hid; rw [List.take_add_one, hs]; unfold wrongs at *; rw [List.any_append, hw.out]; simp
   have hw2 : Hid (((t.size : Int) != 64) = true -> wrongs I = true) := by
    intro e
    unfold wrongs
    exact List.any_eq_true.2 ⟨t, List.mem_of_getElem? hs, e⟩
   clear hs hb
   cases hq : ((t.size : Int) != 64)
   ·have HC := Lib.hid (Load1_any w t)
    rw [hq] at HC hw1
    clear hq
    go_wp2_with fail
    refine HC.out.mono ?_
    rintro e w' ⟨rfl, rfl⟩
    go_wp2_with fail
    go_round
    case rel => exact ⟨k + 1, by omega, by go_num, hw1⟩
    case measure => simp [intOf]; omega
   ·have HC := Lib.hid (Load1_any w t)
    rw [hq] at HC
    clear hw1
    go_wp2_with fail
    refine HC.out.mono ?_
    rintro e w' ⟨rfl, rfl⟩
    go_wp2_with fail
    go_ret
    exact ⟨⟨_, rfl, by rw [hw2.out hq]; simp⟩, rfl⟩
  ·obtain rfl : k = I.length := by omega
   rw [List.take_length] at hw
   go_wp2_with fail
   go_ret
   exact ⟨⟨_, rfl, by rw [hw.out]; simp⟩, rfl⟩
theorem Contains_any (w : World) (v : Value) (I : List ByteArray) (h : Texts w v I) (hN : I.length <= 1099511627776) :
  Calls Tryz.prog 93 #[v, .func (.func 92) #[] #[]] w fun e w' => e = .returned (.bool (wrongs I)) /\ w = w' := by
 have HC := Lib.hid (IndexF_any w v I h hN)
 obtain ⟨A, c, rfl, _⟩ := h.parts
 clear h
 go_enter Tryz.func93, Tryz.ntmps93
 go_wp2_with (go_at_call 68; refine HC.out.mono ?_; rintro e w' ⟨⟨r, rfl, hr⟩, rfl⟩)
 go_ret
 exact ⟨by rw [<- hr]; rfl, rfl⟩
def loadM (I : List ByteArray) (M : List Sec) : List Sec := List.zipWith (fun t s => (⟨t, t, ⟨#[]⟩, false, s.worn⟩ : Sec)) I M
def loadTo (I : List ByteArray) (M : List Sec) (k : Nat) : List Sec := loadM (I.take k) (M.take k) ++ M.drop k
theorem loadTo_zero (I : List ByteArray) (M : List Sec) : loadTo I M 0 = M := by simp [loadTo, loadM]
theorem loadTo_end (I : List ByteArray) (M : List Sec) (h : I.length = M.length) : loadTo I M M.length = loadM I M := by
 unfold loadTo
 rw [List.take_of_length_le (by omega), List.take_length, List.drop_length, List.append_nil]
theorem loadM_len (I : List ByteArray) (M : List Sec) (h : I.length = M.length) : (loadM I M).length = M.length := by simp [loadM, h]
theorem loadTo_len (I : List ByteArray) (M : List Sec) (k : Nat) (h : I.length = M.length) (hk : k <= M.length) : (loadTo I M k).length = M.length := by
 simp [loadTo, loadM]; omega
theorem loadTo_at (I : List ByteArray) (M : List Sec) (k : Nat) (h : I.length = M.length) (hk : k < M.length) : (loadTo I M k)[k]? = M[k]? := by
 unfold loadTo
 rw [List.getElem?_append_right (by simp [loadM]; omega)]
 simp [loadM]
 congr 1
 omega
theorem loadTo_succ (I : List ByteArray) (M : List Sec) (k : Nat) (t : ByteArray) (s : Sec) (h : I.length = M.length) (ht : I[k]? = some t) (hs : M[k]? = some s) :
  loadTo I M (k + 1) = (loadTo I M k).set k ⟨t, t, ⟨#[]⟩, false, s.worn⟩ := by
 have hk := (List.getElem?_eq_some_iff.1 hs).1
 have e1 : (loadM (I.take k) (M.take k)).length = k := by simp [loadM]; omega
 unfold loadTo
 rw [List.set_append_right _ _ (by omega), e1, Nat.sub_self, List.take_add_one, List.take_add_one, ht, hs]
 have e2 : M.drop k = s :: M.drop (k + 1) := by
  rw [List.drop_eq_getElem_cons hk]; congr 1
  rw [List.getElem?_eq_getElem hk] at hs; exact Option.some.inj hs
 rw [e2]
 unfold loadM
 rw [Option.toList_some, Option.toList_some, List.zipWith_append (by simp; omega)]
 simp
def loadErr (I : List ByteArray) (M : List Sec) : Bool := (I.length : Int) != M.length || wrongs I
theorem store5 {tM tS : TypeId} {w : World} {b g : Nat} {M : List Sec} (h : IsMem tM tS w b g M) {i : Nat} {s : Sec} (hs : M[i]? = some s) (s' : Sec) :
  IsMem tM tS (((((w.setCell ⟨g, i * 5, none⟩ (.string s'.now)).setCell ⟨g, i * 5 + 1, none⟩ (.string s'.before)).setCell ⟨g, i * 5 + 2, none⟩ (.string s'.fresh)).setCell ⟨g, i * 5 + 3, none⟩ (.bool s'.dirty)).setCell ⟨g, i * 5 + 4, none⟩ (.bool s'.worn)) b g (M.set i s') := by
 obtain ⟨now, before, fresh, dirty, worn⟩ := s
 obtain ⟨now', before', fresh', dirty', worn'⟩ := s'
 have hi := (List.getElem?_eq_some_iff.1 hs).1
 have g1 := h.store (i := i) (j := 0) (s' := ⟨now', before, fresh, dirty, worn⟩) (v := .string now') hs (by omega) rfl
 have g2 := g1.store (i := i) (j := 1) (s := ⟨now', before, fresh, dirty, worn⟩) (s' := ⟨now', before', fresh, dirty, worn⟩) (v := .string before') (List.getElem?_set_self hi) (by omega) rfl
 have g3 := g2.store (i := i) (j := 2) (s := ⟨now', before', fresh, dirty, worn⟩) (s' := ⟨now', before', fresh', dirty, worn⟩) (v := .string fresh') (List.getElem?_set_self (by simpa using hi)) (by omega) rfl
 have g4 := g3.store (i := i) (j := 3) (s := ⟨now', before', fresh', dirty, worn⟩) (s' := ⟨now', before', fresh', dirty', worn⟩) (v := .bool dirty') (List.getElem?_set_self (by simpa using hi)) (by omega) rfl
 have g5 := g4.store (i := i) (j := 4) (s := ⟨now', before', fresh', dirty', worn⟩) (s' := ⟨now', before', fresh', dirty', worn'⟩) (v := .bool worn') (List.getElem?_set_self (by simpa using hi)) (by omega) rfl
 simpa [List.set_set] using g5
theorem grown_five {w w2 : World} {g : Nat} (h : w.grownBy w2 (some g)) (i1 i2 i3 i4 i5 : Nat) (v1 v2 v3 v4 v5 : Value) :
  w.grownBy (((((w2.setCell ⟨g, i1, none⟩ v1).setCell ⟨g, i2, none⟩ v2).setCell ⟨g, i3, none⟩ v3).setCell ⟨g, i4, none⟩ v4).setCell ⟨g, i5, none⟩ v5) (some g) :=
 grown_trans (grown_trans (grown_trans (grown_trans (grown_trans h (grown_set _ _ _ _)) (grown_set _ _ _ _)) (grown_set _ _ _ _)) (grown_set _ _ _ _)) (grown_set _ _ _ _)
section
variable {w : World} {b g : Nat} {M : List Sec}
set_option maxRecDepth 100000 in
set_option maxHeartbeats 4000000 in
theorem Load_any (h : PMem w b g M) (v : Value) (I : List ByteArray) (hv : Texts w v I) (hN : I.length <= 1048576) :
  Calls Tryz.prog 56 #[.pointer (some ⟨b, 0, none⟩), v] w fun e w' => e = .returned (.int .i64 (if loadErr I M then 1 else 0)) /\ PMem w' b g (if loadErr I M then M else loadM I M) /\ w.grownBy w' (some g) := by
 have HC := Lib.hid (Contains_any w v I hv (by omega))
 obtain ⟨A, c, rfl, hc1, hc2, hc3⟩ := hv.parts
 obtain ⟨cap, hc, hcap, hm⟩ := h.head
 unfold maxLen at hm hc2
 have H3 := Lib.hid hc3
 clear hc3 hv
 have hne : ∀ {gb cs}, Blk w gb 9 cs -> gb ≠ g := by
  obtain ⟨_, cur, _, hbg, _⟩ := h.body
  exact fun hb => hb.ne_ hbg (by decide)
 have HM := Lib.hid h
 clear h
 cases hq : ((I.length : Int) != M.length)
 ·have hl : I.length = M.length := by have : (I.length : Int) = M.length := (by simpa using hq); omega
  cases hw : wrongs I
  ·rw [hw] at HC
   have e : loadErr I M = false := by unfold loadErr; rw [hq, hw]; rfl
   rw [e]
   have Hl := Lib.hid hl
   clear e hl hw
   go_enter Tryz.func56, Tryz.ntmps56
   go_wp2_with (go_at_call 93; refine HC.out.mono ?_; rintro e w' ⟨rfl, rfl⟩)
   go_loopw [6, 7, 23] (fun _ _ a wr => ∃ k : Nat, k <= M.length /\ a = .int .i64 k /\ PMem wr b g (loadTo I M k) /\ w.grownBy wr (some g)) (fun _ _ a _ => M.length - (intOf a).toNat)
   case atStart => exact ⟨0, Nat.zero_le _, rfl, by rw [loadTo_zero]; exact HM.out, grown_refl _ _⟩
   case round =>
    obtain ⟨k, hk, rfl, hM, hg⟩ := hrel
    have hlen := loadTo_len I M k Hl.out hk
    have HL2 := Lib.hid Hl.out
    by_cases hkl : k < M.length
    ·obtain ⟨t, ht⟩ : ∃ t, I[k]? = some t := ⟨_, List.getElem?_eq_getElem (by have := Hl.out; omega)⟩
     obtain ⟨s, hs⟩ : ∃ s, M[k]? = some s := ⟨_, List.getElem?_eq_getElem hkl⟩
     obtain ⟨gb, cs, rfl, hb, hct⟩ := H3.out k t ht
     have hng := hne hb
     have hct1 := hg.cell hct (by simp; exact hng)
     have hs1 : (loadTo I M k)[k]? = some s := by rw [loadTo_at I M k Hl.out hkl, hs]
     obtain ⟨c0, c1, c2, c3, c4⟩ := hM.sec hs1
     obtain ⟨cap1, hc', hcap', hm'⟩ := hM.head
     rw [hlen] at hc' hcap'
     unfold maxLen at hm'
     have hfr := hM.frozen
     have Hs1 := Lib.hid hs1
     have Hsu := Lib.hid (loadTo_succ I M k t s Hl.out ht hs)
     clear hs1 ht hs hlen hct
     have hkI : k < I.length := by have := Hl.out; omega
     go_wp2_with fail
     go_still_tail 17, (by kernel_rfl)
     change wpList _ _ _ _ _ wr.drew
     have hM2 : PMem wr.drew b g (loadTo I M k) := hM.grown (grown_drewN wr 1 none) (by simp) (by simp)
     have hg2 : w.grownBy wr.drew (some g) := grown_trans hg (grown_drewN wr 1 _)
     clear c0 c1 c2 c3 c4 hct1 hc' hfr hM hg
     generalize wr.drew = w2 at hM2 hg2 ⊢
     clear wr
     obtain ⟨c0, c1, c2, c3, c4⟩ := hM2.sec Hs1.out
     have hfr := hM2.frozen
     obtain ⟨cap2, hc', _⟩ := hM2.head
     rw [loadTo_len I M k Hl.out hk] at hc'
     go_wp2_with fail
     go_roundw
     case rel => exact ⟨k + 1, by omega, by go_num, by rw [Hsu.out]; exact store5 hM2 Hs1.out ⟨t, t, ⟨#[]⟩, false, s.worn⟩, grown_five hg2 _ _ _ _ _ _ _ _ _ _⟩
     case measure => simp [intOf]; omega
    ·obtain rfl : k = M.length := by omega
     rw [loadTo_end I M Hl.out] at hM
     have hnl : ¬ M.length < I.length := by have := Hl.out; omega
     go_wp2_with fail
     go_ret
     exact ⟨rfl, hM, hg⟩
  ·rw [hw] at HC
   have e : loadErr I M = true := by unfold loadErr; rw [hq, hw]; rfl
   rw [e]
   clear e hl hw
   go_enter Tryz.func56, Tryz.ntmps56
   go_wp2_with (go_at_call 93; refine HC.out.mono ?_; rintro e w' ⟨rfl, rfl⟩)
   go_ret
   exact ⟨rfl, HM.out, grown_refl _ _⟩
 ·have e : loadErr I M = true := by unfold loadErr; rw [hq]; rfl
  rw [e]
  clear e
  go_enter Tryz.func56, Tryz.ntmps56
  go_wp2_with fail
  go_ret
  exact ⟨rfl, HM.out, grown_refl _ _⟩
end
end Go.Proofs.YtpghocekofdpbaaGreatDoor
namespace Go.Proofs.YtpghocekofdpbaaGreatDoor
open Go.RowKit Go.Shelf
attribute [local go_sem] Oper.semAt_some
theorem infoSec : (Tryz.prog.info? 139).map (fun i => (i.zero, i.size, i.bytes)) = some (some (.agg #[.string ⟨#[]⟩, .string ⟨#[]⟩, .string ⟨#[]⟩, .bool false, .bool false]), 5, 56) := by kernel_rfl
section
variable {tM tS : TypeId} {w w' : World} {b g : Nat} {M : List Sec}
theorem isMem_of_row {base : Nat} {v : Value} (hp : 0 < M.length) (hv : w.ownsRow base tS 5 v M.length (memCells M)) (hb : Blk w b tM #[v]) (ht : tM ≠ tS) : ∃ g, base <= g /\ IsMem tM tS w b g M := by
 rcases hv.2 with ⟨_, h0⟩ | ⟨g, cap, cur, rfl, h1, h2, h3, h4, h5, h6⟩
 ·omega
 ·exact ⟨g, h1, hb.ne_ h2 ht, hp, cap, cur, hb, h2, h3, h4, h5, h6⟩
end
section
variable {w : World} {b g : Nat} {M : List Sec}
theorem secCells_one (s : Sec) : ∀ u ∈ secCells s, u.oneCell' = true := by
 intro u hu
 simp [secCells] at hu
 rcases hu with rfl | rfl | rfl | rfl | rfl <;> rfl
theorem memCells_one (M : List Sec) : ∀ u ∈ memCells M, u.oneCell' = true := by
 intro u hu
 simp only [memCells, List.mem_flatMap] at hu
 obtain ⟨s, _, hs⟩ := hu
 exact secCells_one s u hs
end
end Go.Proofs.YtpghocekofdpbaaGreatDoor
