import Derived.Test.YtpghocekofdpbaaGreatDoorQb27
import Derived.Test.YtpghocekofdpbaaGreatDoorQb25
import Derived.Test.YtpghocekofdpbaaGreatDoorQb00
import Derived.Test.YtpghocekofdpbaaGreatDoorQb03
import Derived.Test.YtpghocekofdpbaaGreatDoorQb26
namespace Go.Proofs.YtpghocekofdpbaaGreatDoor
open Go.RowKit Go.Shelf
attribute [local go_sem] Oper.semAt_some
def z32 : Array Value := Array.replicate 32 (.int .u8 0)
def padTo (k : Nat) : List UInt8 := 128 :: List.replicate k 0
theorem padTo_len (k : Nat) : (padTo k).length = k + 1 := by unfold padTo; rw [List.length_cons, List.length_replicate]
theorem padTo_succ (k : Nat) : padTo (k + 1) = padTo k ++ [0] := by unfold padTo; rw [List.replicate_succ', List.cons_append]
theorem blk_new2 (w : World) (o : Obj) (t : TypeId) (cs : Array Value) : Blk ((w.alloc o).alloc (.cells cs t)) (w.heap.size + 1) t cs := by
 have bk := Blk.new (w.alloc o) t cs
 rw [World.size_alloc] at bk
 exact bk
def rowLen : Value -> Nat
 | .slice _ n _ => n
 | _ => 0
theorem pad_slice {w : World} {base : Nat} {v : Value} {j : Nat} (h : BRow w base v (padTo j)) : ∃ A c, v = .slice A (j + 1) c := by
 obtain ⟨A, c, e⟩ := h.any
 rw [padTo_len] at e
 exact ⟨A, c, e⟩
theorem pad_slice2 {w : World} {base : Nat} {v : Value} {p : List UInt8} {q n i : Nat} (h : BRow w base v (p ++ (be64 q).take (i + 1))) (hn : (p ++ (be64 q).take i).length = n + i) (hi : i < 8) : ∃ A c, v = .slice A (n + (i + 1)) c := by
 obtain ⟨A, c, e⟩ := h.any
 rw [List.length_append, List.length_take, be64_len] at e hn
 exact ⟨A, c, by rw [e]; congr 1; omega⟩
theorem infoA32b : (Tryz.prog.info? 109).map (·.size) = some 32 := by kernel_rfl
theorem infoA32b1 : ∃ a, Tryz.prog.info? 109 = some a /\ a.size = 32 := Option.map_eq_some_iff.1 infoA32b
theorem digest_at (s : S8) (t : Nat) (h : t < 32) : (digest s)[t]? = some (UInt8.ofNat ((s.get (t / 4)).toNat / 2 ^ (24 - 8 * (t % 4)))) := by
 unfold digest
 rw [List.getElem?_map, List.getElem?_range h]
 rfl
theorem byte_val (n k : Nat) : Value.int IntKind.u8 ((n : Int) / 2 ^ k % 256) = byteV (UInt8.ofNat (n / 2 ^ k)) := by
 unfold byteV
 rw [<- byte_of (n / 2 ^ k), Int.natCast_ediv, Int.natCast_pow]
 rfl
structure SumAt0 (w0 wr : World) (g : Nat) (s : S8) (k : List UInt8) (N : Nat) : Prop where
 st : Blk wr g 116 (strL s k N).toArray
 res : ∃ cs, Blk wr (g + 1) 109 cs /\ cs.size = 32
 bel : Below w0.heap.size w0 wr
set_option maxRecDepth 100000 in
set_option maxHeartbeats 1600000 in
theorem stsum_any (w : World) (m : List UInt8) (s : S8) (k : List UInt8) (hS : StrOf iv m s k) (hK : KAt w 1) (hlen : m.length < 100000000000) :
  Calls Tryz.prog 78 #[.agg (strL s k m.length).toArray] w fun e w' => e = .returned (.agg ((sumL m).map byteV).toArray) /\ Below w.heap.size w w' := by
 obtain ⟨N, hN⟩ : ∃ N, m.length = N := ⟨_, rfl⟩
 rw [hN] at hlen ⊢
 have q0 : IntKind.u64.wrap (8 * (N : Int)) = ((8 * N : Nat) : Int) := u64_is (8 * N) (by omega)
 go_enter Tryz.func78, Tryz.ntmps78
 go_upto_region 1 with fail
 refine world_is (P := fun W => Code.wp _ _ _ _ W) (fun W2 hW2 => ?_)
 have hA : Hid (SumAt0 w W2 w.heap.size s k N) := by
  have b1 := (Below.refl _ w).alloc (Nat.le_refl _) (Obj.cells (strL s k N).toArray 116)
  have hres : ∃ cs, Blk W2 (w.heap.size + 1) 109 cs /\ cs.size = 32 := by rw [<- hW2]; exact ⟨z32, blk_new2 _ _ _ _, rfl⟩
  refine ⟨?_, hres, ?_⟩
  ·rw [<- hW2]; exact (Blk.new w _ _).alloc _
  ·rw [<- hW2]; exact b1.alloc b1.size _
 have hsz : W2.heap.size = w.heap.size + 2 := by rw [<- hW2]; simp
 clear hW2
 have cn := str_n hA.out.st (n := N) hS.len
 have hrow := brow_lit (base := W2.heap.size) W2 [128] (Nat.le_refl _) (by decide)
 go_wp2_with fail
 have hlenH := Lib.hid hlen
 have hSH := Lib.hid hS
 have hKH := Lib.hid hK
 have hNH := Lib.hid hN
 have hszH := Lib.hid hsz
 rw [hsz] at hrow
 have hR0 : Hid (BRow (W2.alloc (Obj.cells #[Value.int IntKind.u8 128] 5)) (w.heap.size + 2) (.slice (some ⟨w.heap.size + 2, 0, none⟩) (0 + 1) 1) (padTo 0)) := hrow
 have hB0 : Hid (Below (w.heap.size + 2) W2 (W2.alloc (Obj.cells #[Value.int IntKind.u8 128] 5))) := (Below.refl _ W2).alloc (Nat.le_of_eq hsz.symm) _
 clear hlen hS hK hN hrow
 go_loopw [4] (fun v wr => ∃ j A c, v = .slice A (j + 1) c /\ Hid (j <= zerosOf N) /\ Hid (BRow wr (w.heap.size + 2) v (padTo j)) /\ Hid (Below (w.heap.size + 2) W2 wr)) (fun v _ => 70 - rowLen v)
 case atStart => exact ⟨0, _, _, rfl, Nat.zero_le _, hR0, hB0⟩
 case round =>
  clear hR0 hB0
  obtain ⟨j, A, c, rfl, hj, hR, hB⟩ := hrel
  have cn1 : wr.cell? ⟨w.heap.size, 72, none⟩ = some (.int .u64 (N : Int)) := by rw [hB.out.cell (p := ⟨w.heap.size, 72, none⟩) (by show w.heap.size < w.heap.size + 2; omega)]; exact cn
  have q1 : wrap64 (N : Int) = (N : Int) := w64_is N (by have := hlenH.out; omega)
  obtain ⟨T, hT⟩ : ∃ T, N + (j + 1) = T := ⟨_, rfl⟩
  have hz : j <= 63 := Nat.le_trans hj (by unfold zerosOf; omega)
  have q2 : wrap64 ((N : Int) + ((j : Int) + 1)) = (T : Int) := w64_sum N (j + 1) T hT (by have := hlenH.out; omega)
  obtain ⟨r, hr⟩ : ∃ r, T % 64 = r := ⟨_, rfl⟩
  have q3 : (T : Int) % 64 = (r : Int) := by omega
  by_cases hlt : j < zerosOf N
  ·have q4 : ¬ r = 56 := by
    have := zerosOf_first N j hlt
    omega
   have q5 : ((r : Int) == 56) = false := by rw [beq_eq_false_iff_ne]; omega
   have hltH := Lib.hid hlt
   have hsz2 := Lib.hid (Nat.le_trans (Nat.le_of_eq hszH.out.symm) hB.out.size)
   clear hT hr hlt cn
   have hln : (padTo j).length < 99999999999 := by rw [padTo_len]; omega
   go_wp2_with (at_builtin; refine wp_push rfl _ _ rfl (w.heap.size + 2) _ (padTo j) rfl hR.out 1 0 rfl rfl hln hsz2.out ?_; intro v' w' hP; rw [<- padTo_succ] at hP; obtain ⟨A2, c2, rfl⟩ := pad_slice hP.row)
   have hB2 := hP.bel _ _ (Nat.le_refl _) hsz2.out hB.out
   refine ⟨⟨j + 1, A2, c2, rfl, hltH.out, hP.row, hB2⟩, ?_⟩
   show 70 - (j + 1 + 1) < 70 - (j + 1)
   omega
  ·have q4 : r = 56 := by
    have := zerosOf_ends N
    have h2 : j = zerosOf N := Nat.le_antisymm hj (Nat.le_of_not_lt hlt)
    rw [h2] at hT
    omega
   have q5 : ((r : Int) == 56) = true := by rw [q4]; rfl
   have hjz : Hid (j = zerosOf N) := Nat.le_antisymm hj (Nat.le_of_not_lt hlt)
   clear hT hr cn hlt
   go_wp2_with fail
   have hR1 : Hid (BRow wr (w.heap.size + 2) (Value.slice A (j + 1) c) (padTo (zerosOf N) ++ (be64 (8 * N)).take 0)) := by
    have h := hR.out
    rw [hjz.out] at h ⊢
    unfold Hid
    rw [List.take_zero, List.append_nil]
    exact h
   have hB1 := hB
   clear hR hB q1 q2 q3 q4 q5 cn1 hj hz
   go_loopw [4, 23] (fun p q wr => ∃ i A c, p = .slice A (j + 1 + i) c /\ q = .int .i64 i /\ Hid (i <= 8) /\ Hid (BRow wr (w.heap.size + 2) p (padTo (zerosOf N) ++ (be64 (8 * N)).take i)) /\ Hid (Below (w.heap.size + 2) W2 wr)) (fun _ q _ => 8 - (intOf q).toNat)
   case atStart => exact ⟨0, A, c, rfl, rfl, Nat.zero_le _, hR1, hB1⟩
   case round =>
    clear hR1 hB1
    obtain ⟨i, A, c, rfl, rfl, hi, hR, hB⟩ := hrel
    by_cases hlt : i < 8
    ·have d1 : decide (i < 8) = true := decide_eq_true hlt
     have d2 : decide ((i : Int) < 8) = true := decide_eq_true (by omega)
     have hv := byte_of (8 * N / 2 ^ (56 - 8 * i))
     have hv2 : Value.int IntKind.u8 (8 * (N : Int) / 2 ^ (56 - 8 * i) % 256) = byteV (UInt8.ofNat (8 * N / 2 ^ (56 - 8 * i))) := by
      unfold byteV
      rw [<- hv, Int.natCast_ediv, Int.natCast_mul, Int.natCast_pow]
      rfl
     have hsn := be64_snoc (8 * N) i hlt
     obtain ⟨bx, hbx⟩ : ∃ bx, UInt8.ofNat (8 * N / 2 ^ (56 - 8 * i)) = bx := ⟨_, rfl⟩
     rw [hbx] at hv2 hsn
     have hv2H := Lib.hid hv2
     have hsnH := Lib.hid hsn
     clear hv hv2 hsn hbx
     have hltH := Lib.hid hlt
     have hsz2 := Lib.hid (Nat.le_trans (Nat.le_of_eq hszH.out.symm) hB.out.size)
     have hln : (padTo (zerosOf N) ++ (be64 (8 * N)).take i).length = j + 1 + i := by rw [List.length_append, padTo_len, List.length_take, be64_len, hjz.out]; omega
     have hln2 : Hid ((padTo (zerosOf N) ++ (be64 (8 * N)).take i).length < 99999999999) := by unfold Hid; rw [hln]; have := hjz.out; unfold zerosOf at this; omega
     have hln3 := Lib.hid hln
     clear hln
     go_wp2_with (at_builtin; refine wp_push rfl _ _ rfl (w.heap.size + 2) _ (padTo (zerosOf N) ++ (be64 (8 * N)).take i) rfl hR.out 1 bx hv2H.out rfl hln2.out hsz2.out ?_; intro v' w' hP; rw [List.append_assoc, <- hsnH.out] at hP; obtain ⟨A2, c2, rfl⟩ := pad_slice2 hP.row hln3.out hltH.out)
     have hB2 := hP.bel _ _ (Nat.le_refl _) hsz2.out hB.out
     have hr2 := hP.row
     refine ⟨⟨i + 1, A2, c2, rfl, by go_num, hltH.out, hr2, hB2⟩, ?_⟩
     have := hltH.out
     simp [intOf]
     omega
    ·have d1 : decide (i < 8) = false := decide_eq_false hlt
     have d2 : decide ((i : Int) < 8) = false := decide_eq_false (by omega)
     have hrow : BRow wr (w.heap.size + 2) (.slice A (j + 1 + i) c) (padL N) := by
      have h := hR.out
      have h8 : i = 8 := Nat.le_antisymm hi (Nat.le_of_not_lt hlt)
      have e : (be64 (8 * N)).take i = be64 (8 * N) := List.take_of_length_le (by rw [be64_len, h8]; exact Nat.le_refl _)
      rw [e] at h
      unfold padL
      rw [Nat.mod_eq_of_lt (by have := hlenH.out; omega)]
      exact h
     have hcv := conv_row hrow
     obtain ⟨P, hP⟩ : ∃ P : ByteArray, (⟨(padL N).toArray⟩ : ByteArray) = P := ⟨_, rfl⟩
     have hPb : bl P = padL N := by rw [<- hP]; unfold bl; rfl
     have hPs : P.size = zerosOf N + 9 := by rw [<- bl_len, hPb, padL_len]
     rw [hP] at hcv
     have hst := hA.out.st.below hB.out (by omega)
     have hBw : Below w.heap.size w wr := hA.out.bel.trans (hB.out.mono (by omega))
     have HADD := add_any wr m s k P hSH.out (KAt.below hKH.out hBw) (by rw [hNH.out, hPs]; have := hlenH.out; unfold zerosOf; omega)
     rw [hNH.out, hPb] at HADD
     have HADDH := Lib.hid HADD
     have hrg := range_of_blk hst
     have hi1 : Hid ((Tryz.prog.info? 116).map (·.size) = some (strL s k N).length) := by unfold Hid; rw [strL_len, hSH.out.len]; exact infoStr
     have hstH := Lib.hid hst
     have hBwH := Lib.hid hBw
     clear hlt hrow hP HADD hst hBw hPs
     go_upto_region 11 with (first | (refine wpList_load_mid rfl 116 _ rfl w.heap.size 0 rfl (strL s k N) _ hrg Tryz.underlying116 rfl hi1.out ?_) | (go_at_call 77; refine HADDH.out.mono ?_; rintro e w3 ⟨s2, k2, rfl, hS2, hB3⟩) | (refine wpList_store_mid rfl 116 _ _ rfl w.heap.size 0 (strL s2 k2 (N + P.size)).toArray rfl rfl ?hAA ?hBB ?hCC ?_) | fail)
     case hAA => rw [str_size _ _ _ hS2.len]; exact there_of_blk (o := 0) (n := 73) (hstH.out.below hB3 hstH.out.lt) (by rw [str_size _ _ _ hSH.out.len]; exact Nat.le_refl _)
     case hBB => rw [str_size _ _ _ hS2.len]; exact infoStr
     case hCC => exact all_oneCell_toArray (strL_one _ _ _)
     have hres := hA.out.res
     have hst4 := blk_setWhole (hstH.out.below hB3 hstH.out.lt) (strL s2 k2 (N + P.size)) (by rw [strL_len, hS2.len, str_size _ _ _ hSH.out.len])
     have hg4 : wr.grownBy (w3.setCells w.heap.size 0 (strL s2 k2 (N + P.size))) (some w.heap.size) := grown_tr (grownB hB3 (Nat.le_refl _) _) (setCells_grown w.heap.size _ 0 w3)
     have hB4 := below_setCells (g := w.heap.size) (Nat.le_refl _) (strL s2 k2 (N + P.size)) 0 _ (hBwH.out.trans (hB3.mono hBwH.out.size))
     have hres4 : ∃ cs, Blk (w3.setCells w.heap.size 0 (strL s2 k2 (N + P.size))) (w.heap.size + 1) 109 cs /\ cs.size = 32 := by
      obtain ⟨cs, h1, h2⟩ := hA.out.res
      exact ⟨cs, (h1.below hB.out (by omega)).grown hg4 (by simp), h2⟩
     have hs2 : Hid (s2 = sumS m) := sum_of_stream (by rw [hNH.out]; exact hS2)
     have hk2 := hS2.len
     generalize w3.setCells w.heap.size 0 (strL s2 k2 (N + P.size)) = W4 at *
     try simp only [Act.put]
     clear hg4 hres hrg hcv hB3
     go_upto_region 12 with fail
     refine world_is (P := fun W => Code.wp _ _ _ _ W) (fun W5 hW5 => ?_)
     have hlt4 := hst4.lt
     obtain ⟨rs, hr4, hr4s⟩ := hres4
     have hO5 : Hid (OutAt W5 W4.heap.size 109 (digest s2) 32 0) := by unfold Hid; rw [<- hW5]; exact Blk.new W4 _ _
     have hst5 : Hid (Blk W5 w.heap.size 116 (strL s2 k2 (N + P.size)).toArray) := by unfold Hid; rw [<- hW5]; exact hst4.alloc _
     have hr5 : Hid (Blk W5 (w.heap.size + 1) 109 rs) := by unfold Hid; rw [<- hW5]; exact hr4.alloc _
     have hr5s := Lib.hid hr4s
     have hB5 : Hid (Below w.heap.size w W5) := by unfold Hid; rw [<- hW5]; exact hB4.alloc hB4.size _
     have hltr := Lib.hid hr4.lt
     have hlts := Lib.hid hlt4
     have hdl := Lib.hid (digest_len s2)
     obtain ⟨ob, hob⟩ : ∃ ob, W4.heap.size = ob := ⟨_, rfl⟩
     unfold Hid at hltr hlts
     rw [hob] at hO5 hltr hlts ⊢
     have hne1 : w.heap.size ≠ ob := Nat.ne_of_lt hlts
     have hne2 := Lib.hid (Nat.ne_of_lt hltr)
     have hge := Lib.hid (Nat.le_of_lt hlts)
     clear hW5 hst4 hr4 hB4 hlt4 hob hltr hlts hr4s
     go_wp2_with fail
     go_loopw [40] (fun q wr => ∃ t : Nat, q = .int .i64 t /\ Hid (t <= 32) /\ Hid (OutAt wr ob 109 (digest s2) 32 t) /\ Hid (Blk wr w.heap.size 116 (strL s2 k2 (N + P.size)).toArray) /\ Hid (Blk wr (w.heap.size + 1) 109 rs) /\ Hid (Below w.heap.size w wr)) (fun q _ => 32 - (intOf q).toNat)
     case atStart => exact ⟨0, rfl, Nat.zero_le _, hO5, hst5, hr5, hB5⟩
     case round =>
      clear hO5 hst5 hr5 hB5
      obtain ⟨t, rfl, ht, hO, hst, hr, hB⟩ := hrel
      by_cases hlt : t < 32
      ·have d1 : decide (t < 32) = true := decide_eq_true hlt
       have d2 : decide ((t : Int) < 32) = true := decide_eq_true (by omega)
       obtain ⟨a, ha⟩ : ∃ a, t / 4 = a := ⟨_, rfl⟩
       obtain ⟨b, hb⟩ : ∃ b, t % 4 = b := ⟨_, rfl⟩
       have z1 : (t : Int) / 4 = (a : Int) := by omega
       have z2 : (t : Int) % 4 = (b : Int) := by omega
       have z3 : a < 8 := by omega
       have z4 : b < 4 := by omega
       have z5 : (a : Int) < 8 := by omega
       have z6 : (b : Int) < 4 := by omega
       have cw := str_word hst.out a z3
       have hfz := Blk.frozen hO.out t
       obtain ⟨oc, hoc⟩ : ∃ oc, wr.cell? ⟨ob, t, none⟩ = some oc := by
        have := Blk.cell hO.out t
        rw [this]
        exact ⟨_, Array.getElem?_eq_getElem (by rw [outAt_size hdl.out ht]; exact hlt)⟩
       have hx := digest_at s2 t hlt
       rw [ha, hb] at hx
       have hv := byte_val (s2.get a).toNat (24 - 8 * b)
       have hxH := Lib.hid hx
       have hvH := Lib.hid hv
       have hltH := Lib.hid hlt
       clear hx hv ha hb
       go_wp2_with fail
       refine ⟨⟨t + 1, by go_num, hltH.out, ?_, ?_, ?_, ?_⟩, ?_⟩
       ·unfold Hid
        rw [hvH.out]
        exact OutAt.set_ hO.out hdl.out hltH.out _ hxH.out
       ·exact Blk.grown hst.out (grown_set' _ _ _ _) (by simpa using hne1)
       ·exact Blk.grown hr.out (grown_set' _ _ _ _) (by simpa using hne2.out)
       ·exact Below.setCell (p := ⟨ob, t, none⟩) hB.out hge.out _
       ·have := hltH.out
        simp [intOf]
        omega
      ·have d1 : decide (t < 32) = false := decide_eq_false hlt
       have d2 : decide ((t : Int) < 32) = false := decide_eq_false (by omega)
       have e32 : t = 32 := Nat.le_antisymm ht (Nat.le_of_not_lt hlt)
       have hO2 : Hid (Blk wr ob 109 ((digest s2).map byteV).toArray) := by
        have h := hO.out
        rw [e32] at h
        exact OutAt.done h hdl.out
       have hlD : Hid (((digest s2).map byteV).length = 32) := by unfold Hid; rw [List.length_map]; exact hdl.out
       have hoD : Hid (∀ v ∈ (digest s2).map byteV, v.oneCell' = true) := byteV_one _
       have hfin : Hid ((sumL m).map byteV = (digest s2).map byteV) := by unfold Hid sumL; rw [hs2.out]
       generalize (digest s2).map byteV = D at *
       have hrgO := range_of_blk hO2.out
       clear hO e32 hlt ht hst
       go_wp2_with (first | (refine wpList_load_mid rfl 109 _ rfl ob 0 rfl D _ hrgO Tryz.underlying109 rfl ?hI1 ?_) | (refine wpList_store_mid rfl 109 _ _ rfl (w.heap.size + 1) 0 D.toArray rfl rfl ?hI2 ?hI3 ?hI4 ?_) | fail)
       case hI1 => rw [hlD.out]; exact infoA32b1
       case hI2 => rw [hlD.out]; exact there_of_blk (o := 0) hr.out (by rw [hr5s.out]; exact Nat.le_refl _)
       case hI3 => rw [hlD.out]; exact infoA32b1
       case hI4 => exact hoD.out
       have hL := blk_setWhole hr.out D (by rw [hlD.out, hr5s.out])
       have hBL := below_setCells (g := w.heap.size + 1) (Nat.le_succ _) D 0 _ hB.out
       rw [hfin.out]
       exact bodyPost_ret (results_c (P := Tryz.prog) rfl _ _ (w.heap.size + 1) 109 D.toArray _ rfl hL Tryz.underlying109 rfl (by rw [List.size_toArray, hlD.out]; exact infoA32b)) rfl ⟨rfl, hBL⟩
end Go.Proofs.YtpghocekofdpbaaGreatDoor
namespace Go.Proofs.YtpghocekofdpbaaGreatDoor
open Go.RowKit Go.Shelf
attribute [local go_sem] Oper.semAt_some
theorem conv_bytes {w : World} {g o c : Nat} {l : List UInt8} (h : BytesAt w g o l) : (convert 66 9 (.slice (some ⟨g, o, none⟩) l.length c)).run Tryz.prog w = .ok (.string ⟨l.toArray⟩) w :=
 run_convert_bytes_back (P := Tryz.prog) w 66 9 5 ⟨g, o, none⟩ c l Tryz.underlying66 Tryz.underlying5 Tryz.underlying9 (fun j hj => by
  have := h.2 j l[j] (List.getElem?_eq_getElem hj)
  rw [show (⟨g, o, none⟩ : Addr).add j = ⟨g, o + j, none⟩ from Addr.add_mid g o j]
  exact this)
theorem bytesAt_set {w : World} {g o : Nat} {l : List UInt8} (h : BytesAt w g o l) {ob : Nat} (hne : g ≠ ob) (vs : List Value) : BytesAt (w.setCells ob 0 vs) g o l := by
 have hg := setCells_grown ob vs 0 w
 refine ⟨Nat.lt_of_lt_of_le h.1 hg.size, fun i x hx => ?_⟩
 exact hg.cell (h.2 i x hx) (fun e => hne (by cases e; rfl))
set_option maxRecDepth 100000 in
set_option maxHeartbeats 1600000 in
theorem sum_any (w : World) (bb bo c L : Nat) (b : List UInt8) (hL : b.length = L) (hb : BytesAt w bb bo b) (hK : KAt w 1) (hlen : L < 100000000000) :
  Calls Tryz.prog 74 #[.slice (some ⟨bb, bo, none⟩) L c] w fun e w' => e = .returned (.agg ((sumL b).map byteV).toArray) /\ Below w.heap.size w w' := by
 go_enter Tryz.func74, Tryz.ntmps74
 go_upto_region 1 with fail
 refine world_is (P := fun W => Code.wp _ _ _ _ W) (fun W1 hW1 => ?_)
 have HB1 : Hid (Below w.heap.size w W1) := by unfold Hid; rw [<- hW1]; exact (Below.refl _ w).alloc (Nat.le_refl _) _
 have HR : Hid (Blk W1 w.heap.size 109 z32) := by unfold Hid; rw [<- hW1]; exact Blk.new w _ _
 clear hW1
 obtain ⟨X, hX⟩ : ∃ X : ByteArray, (⟨b.toArray⟩ : ByteArray) = X := ⟨_, rfl⟩
 have hXb : bl X = b := by rw [<- hX]; unfold bl; rfl
 have hXs : X.size = L := by rw [<- bl_len, hXb, hL]
 have hb1 := hb.below HB1.out
 have hne : bb ≠ w.heap.size := Nat.ne_of_lt hb.1
 have CV : Hid (∀ wx, Below W1.heap.size W1 wx -> (convert 66 9 (.slice (some ⟨bb, bo, none⟩) L c)).run Tryz.prog wx = .ok (.string X) wx) := fun wx hB => by
  rw [<- hL, <- hX]
  exact conv_bytes (hb1.below hB)
 have CV2 : Hid (∀ wx, Below W1.heap.size W1 wx -> (convert 66 9 (.slice (some ⟨bb, bo, none⟩) L c)).run Tryz.prog (wx.setCells w.heap.size 0 ((sumL b).map byteV).toArray.toList) = .ok (.string X) (wx.setCells w.heap.size 0 ((sumL b).map byteV).toArray.toList)) := fun wx hB => by
  rw [<- hL, <- hX]
  exact conv_bytes (bytesAt_set (hb1.below hB) hne _)
 have HADD : Hid (∀ wx, Below W1.heap.size W1 wx -> Calls Tryz.prog 77 #[.agg (strL iv (List.replicate 64 0) 0).toArray, .string X] wx fun e w' => ∃ s2 k2, e = .returned (.agg (strL s2 k2 L).toArray) /\ StrOf iv b s2 k2 /\ Below wx.heap.size wx w') := fun wx hB => by
  have h := add_any wx [] iv (List.replicate 64 0) X (strOf_start iv _ (List.length_replicate ..)) ((KAt.below hK HB1.out).below hB) (by rw [hXs]; simp; omega)
  rw [hXs, hXb, List.nil_append, List.length_nil, Nat.zero_add] at h
  exact h
 have HSUM : Hid (∀ wx s2 k2, Below W1.heap.size W1 wx -> StrOf iv b s2 k2 -> Calls Tryz.prog 78 #[.agg (strL s2 k2 L).toArray] wx fun e w' => e = .returned (.agg ((sumL b).map byteV).toArray) /\ Below wx.heap.size wx w') := fun wx s2 k2 hB hS => by
  have h := stsum_any wx b s2 k2 hS ((KAt.below hK HB1.out).below hB) (by rw [hL]; exact hlen)
  rw [hL] at h
  exact h
 have HLD : Hid (((sumL b).map byteV).length = 32) := by unfold Hid sumL; rw [List.length_map, digest_len]
 clear hX hXb hXs hb1 hb hK hne
 refine wp_region_held_drew (S := (fun w' => (convert 66 9 (.slice (some ⟨bb, bo, none⟩) L c)).run Tryz.prog w' = .ok (.string X) w')) (by kernel_rfl) (CV.out _ (Below.refl _ W1).drew) (fun hHeld => ?_)
 refine' tk 1 rfl hHeld ?_
 try simp only [Act.put, zq]
 refine' tk 2 rfl hHeld ?_
 try simp only [Act.put, zq]
 refine td 0 rfl (fun K hK => ?_)
 go_simp
 go_at_call 76
 refine (begin_any _).mono ?_
 rintro e w2 ⟨rfl, hB2⟩
 have HB2 := Lib.hid ((Below.refl _ W1).drew.trans hB2)
 clear hB2
 go_wp2_with fail
 refine hK.out _ _ ?_ (fun hHeld2 => ?_)
 ·exact CV.out _ HB2.out
 clear hK K hHeld
 have hHeld := hHeld2
 clear hHeld2
 try simp only [Act.put, zq]
 refine td 3 rfl (fun K hK => ?_)
 go_simp
 go_at_call 77
 refine (HADD.out _ (HB2.out)).mono ?_
 rintro e w3 ⟨s2, k2, rfl, hS2, hB3⟩
 have HB3 := Lib.hid (HB2.out.trans (hB3.mono HB2.out.size))
 have HS2 := Lib.hid hS2
 clear hB3 hS2
 go_wp2_with fail
 refine hK.out _ _ ?_ (fun hHeld2 => ?_)
 ·exact CV.out _ HB3.out
 clear hK K hHeld
 have hHeld := hHeld2
 clear hHeld2
 try simp only [Act.put, zq]
 refine td 4 rfl (fun K hK => ?_)
 go_simp
 go_at_call 78
 refine (HSUM.out _ s2 k2 HB3.out HS2.out).mono ?_
 rintro e w4 ⟨rfl, hB4⟩
 have HB4 := Lib.hid (HB3.out.trans (hB4.mono HB3.out.size))
 clear hB4
 go_wp2_with fail
 refine hK.out _ _ ?_ (fun hHeld2 => ?_)
 ·exact CV.out _ HB4.out
 clear hK K hHeld
 have hHeld := hHeld2
 clear hHeld2
 try simp only [Act.put, zq]
 refine td 5 rfl (fun K hK => ?_)
 refine wp_store_mid 109 _ _ rfl w.heap.size 0 ((sumL b).map byteV).toArray rfl rfl ?ht1 ?ht2 ?ht3 ?ht4
 case ht1 => exact there_of_blk (o := 0) (HR.out.below HB4.out HR.out.lt) (by rw [List.size_toArray, HLD.out]; exact Nat.le_refl _)
 case ht2 => rw [List.size_toArray, HLD.out]; exact infoA32b
 case ht3 => exact all_oneCell_toArray (byteV_one _)
 case ht4 =>
 refine hK.out _ _ ?_ (fun hHeld2 => ?_)
 ·exact CV2.out _ HB4.out
 clear hK K hHeld
 have hHeld := hHeld2
 clear hHeld2
 try simp only [Act.put, zq]
 refine wpAnyH_done (by kernel_rfl) ?_ _
 clear hHeld
 have hL2 := blk_setWhole (HR.out.below HB4.out HR.out.lt) ((sumL b).map byteV) (by rw [HLD.out]; rfl)
 have hBL := below_setCells (g := w.heap.size) (Nat.le_refl _) ((sumL b).map byteV) 0 _ (HB1.out.trans (HB4.out.mono HB1.out.size))
 go_wp2_with fail
 exact bodyPost_ret (results_c (P := Tryz.prog) rfl _ _ w.heap.size 109 ((sumL b).map byteV).toArray _ rfl hL2 Tryz.underlying109 rfl (by rw [List.size_toArray, HLD.out]; exact infoA32b)) rfl ⟨rfl, hBL⟩
end Go.Proofs.YtpghocekofdpbaaGreatDoor
namespace Go.Proofs.YtpghocekofdpbaaGreatDoor
open Go.RowKit Go.Shelf
attribute [local go_sem] Oper.semAt_some
def bxor (x y : UInt8) : UInt8 := x ^^^ y
theorem b_xor_fin (x y : UInt8) : bits .xor .u8 (x.toNat : Int) (y.toNat : Int) = ((bxor x y).toNat : Int) := by
 unfold bxor
 rw [UInt8.toNat_xor]
 exact u8_xor_nat _ _ x.toNat_lt y.toNat_lt
def z64b : List Value := List.replicate 64 (.int .u8 0)
def key64 (k : List UInt8) : List UInt8 := k ++ List.replicate (64 - k.length) 0
theorem key64_len (k : List UInt8) (h : k.length <= 64) : (key64 k).length = 64 := by unfold key64; rw [List.length_append, List.length_replicate]; omega
def padK (k : List UInt8) (c : UInt8) : List UInt8 := (key64 k).map fun x => bxor x c
def TurnAt (w : World) (g : Nat) (t : TypeId) (L1 L2 : List UInt8) (i : Nat) : Prop := Blk w g t ((L1.take i ++ L2.drop i).map byteV).toArray
theorem TurnAt.set_ {w : World} {g : Nat} {t : TypeId} {L1 L2 : List UInt8} {i : Nat} (h : TurnAt w g t L1 L2 i) (hl : L1.length = L2.length) (x : UInt8) (hx : L1[i]? = some x) : TurnAt (w.setCell ⟨g, i, none⟩ (byteV x)) g t L1 L2 (i + 1) := by
 have hi : i < L1.length := (List.getElem?_eq_some_iff.1 hx).1
 have h1 := Blk.set_ h i (byteV x)
 have e : ((L1.take i ++ L2.drop i).map byteV).toArray.setIfInBounds i (byteV x) = ((L1.take (i + 1) ++ L2.drop (i + 1)).map byteV).toArray := by
  have hl2 : ((L1.take i).map byteV).length = i := by rw [List.length_map, List.length_take]; omega
  rw [List.setIfInBounds_toArray, List.map_append, List.set_append_right _ _ (Nat.le_of_eq hl2), hl2, Nat.sub_self, List.drop_eq_getElem_cons (by omega : i < L2.length), List.map_cons, List.set_cons_zero, List.take_add_one, hx, List.map_append, List.map_append, List.append_assoc]
  rfl
 rw [e] at h1
 exact h1
theorem TurnAt.cell {w : World} {g : Nat} {t : TypeId} {L1 L2 : List UInt8} {i : Nat} (h : TurnAt w g t L1 L2 i) (hl : L1.length = L2.length) (x : UInt8) (hx : L2[i]? = some x) : w.cell? ⟨g, i, none⟩ = some (byteV x) := by
 have hi : i < L2.length := (List.getElem?_eq_some_iff.1 hx).1
 rw [Blk.cell h, List.getElem?_toArray, List.getElem?_map, List.getElem?_append_right (by rw [List.length_take]; omega), List.length_take, Nat.min_eq_left (by omega), Nat.sub_self, List.getElem?_drop, Nat.add_zero, hx]
 rfl
theorem TurnAt.done {w : World} {g : Nat} {t : TypeId} {L1 L2 : List UInt8} {n : Nat} (h : TurnAt w g t L1 L2 n) (h1 : L1.length = n) (h2 : L2.length = n) : Blk w g t (L1.map byteV).toArray := by
 unfold TurnAt at h
 rw [List.take_of_length_le (Nat.le_of_eq h1), List.drop_of_length_le (Nat.le_of_eq h2), List.append_nil] at h
 exact h
theorem blk_bytes {w : World} {g : Nat} {t : TypeId} {L : List UInt8} (h : Blk w g t (L.map byteV).toArray) : BytesAt w g 0 L :=
 ⟨h.lt, fun i x hx => by rw [Nat.zero_add, h.cell, List.getElem?_toArray, List.getElem?_map, hx]; rfl⟩
theorem wp_copy_text {P : Program} {op : Oper} {a : Act} {w : World} {K : Act -> World -> Prop} {Q : Exit -> Act -> World -> Prop} {d s : Operand} (dT sT : TypeId)
  (ho : op.op = .call { callee := .builtin .copy, args := #[d, s], argTypes := #[dT, sT] }) (elem : TypeId) (size : Nat) (hu : P.underlying dT = some (.slice elem)) (hsz : (P.info? elem).map (·.size) = some size)
  (g off dLen dCap : Nat) (b : ByteArray) (hd : a.eval d = .slice (some ⟨g, off, none⟩) dLen dCap) (hs : a.eval s = .string b)
  (cur : Array Value) (t : TypeId) (cs : List Value) (hcs : List.take (Nat.min b.size dLen) (List.map (fun b : UInt8 => Value.int .u8 (b.toNat : Int)) b.data.toList) = cs) (hg : w.heap[g]? = some (.cells cur t (0, 0)))
  (hfit : off + cs.length <= cur.size) (h1 : ∀ v ∈ cs, v.oneCell' = true)
  (h : K (a.put op.dst (goInt (Nat.min b.size dLen))) (w.setRow g (cur.toList.take off ++ cs ++ cur.toList.drop (off + cs.length)).toArray)) : op.wp P a w K Q := by
 have hrun := run_copy_text (P := P) w dT sT op.type elem size g off dLen dCap b cur t cs hu hsz hcs hg hfit h1
 unfold Oper.wp
 simp [execOp, ho, resolve, invoke, builtin, hd, hs, hrun, Result.andThen]
 simp at h
 exact h
theorem key_kept {w : World} {x : ByteArray} {kb g : Nat} {cs : Array Value} (h : w.cell? ⟨kb, 0, none⟩ = some (.string x)) (hne : kb ≠ g) : (w.setRow g cs).cell? ⟨kb, 0, none⟩ = some (.string x) := by
 rw [cell_setRow_other _ _ _ _ hne]
 exact h
set_option maxRecDepth 100000 in
set_option maxHeartbeats 1600000 in
theorem mac1_any (w : World) (kb : Nat) (x : ByteArray) (c : UInt8) (hx : x.size <= 64) (hk : w.cell? ⟨kb, 0, none⟩ = some (.string x)) (hkl : kb < w.heap.size) :
  Calls Tryz.prog 75 #[.int .u8 (c.toNat : Int), .pointer (some ⟨kb, 0, none⟩)] w fun e w' => e = .returned (.string ⟨(padK (bl x) c).toArray⟩) /\ Below w.heap.size w w' := by
 go_enter Tryz.func75, Tryz.ntmps75
 go_upto_region 2 with fail
 refine world_is (P := fun W => Code.wp _ _ _ _ W) (fun W1 hW1 => ?_)
 have HBel : Hid (Below w.heap.size w W1) := by unfold Hid; rw [<- hW1]; exact (Below.refl _ w).alloc (Nat.le_refl _) _
 have HB : Hid (Blk W1 w.heap.size 111 z64b.toArray) := by unfold Hid; rw [<- hW1]; exact Blk.new w _ _
 have Hk : Hid (W1.cell? ⟨kb, 0, none⟩ = some (.string x)) := by unfold Hid; rw [HBel.out.cell (p := ⟨kb, 0, none⟩) hkl]; exact hk
 have hkb : kb ≠ w.heap.size := Nat.ne_of_lt hkl
 clear hW1 hk hkl
 refine wp_region_held_drew (S := (fun w' => w'.cell? ⟨kb, 0, none⟩ = some (.string x))) (by kernel_rfl) Hk.out (fun hHeld => ?_)
 refine' tk 0 rfl hHeld ?_
 try simp only [sA, gA]
 refine' tk 1 rfl hHeld ?_
 try simp only [sA, gA]
 refine td 2 rfl (fun K hK => ?_)
 refine wp_copy_text _ _ rfl 5 1 Tryz.underlying66 infoU8 w.heap.size 0 64 64 x rfl rfl z64b.toArray 111 ((bl x).map byteV) ?hc1 (HB.out.drew) ?hc2 (byteV_one _) ?hc3
 case hc1 => rw [List.take_of_length_le (by rw [List.length_map]; show (bl x).length <= min x.size 64; rw [bl_len]; omega)]; rfl
 case hc2 => rw [List.length_map, bl_len]; show 0 + x.size <= 64; omega
 case hc3 =>
 refine hK.out _ _ ?_ (fun hHeld2 => ?_)
 ·exact key_kept Hk.out hkb
 clear hK K hHeld
 have hHeld := hHeld2
 clear hHeld2
 try simp only [sA, gA]
 refine wpAnyH_done (by kernel_rfl) ?_ _
 clear hHeld
 have HB2 : Hid (TurnAt (W1.drew.setRow w.heap.size (List.take 0 z64b ++ List.map byteV (bl x) ++ List.drop (0 + (List.map byteV (bl x)).length) z64b).toArray) w.heap.size 111 (padK (bl x) c) (key64 (bl x)) 0) := by
  have h := setRow_heap W1.drew w.heap.size _ (List.take 0 z64b ++ List.map byteV (bl x) ++ List.drop (0 + (List.map byteV (bl x)).length) z64b).toArray _ _ HB.out.drew
  have e : List.take 0 z64b ++ List.map byteV (bl x) ++ List.drop (0 + (List.map byteV (bl x)).length) z64b = ((padK (bl x) c).take 0 ++ (key64 (bl x)).drop 0).map byteV := by
   unfold key64 z64b
   rw [List.take_zero, List.take_zero, List.drop_zero, List.nil_append, List.nil_append, Nat.zero_add, List.length_map, List.drop_replicate, List.map_append, List.map_replicate]
   rfl
  rw [e] at h ⊢
  exact h
 have HBel2 : Hid (Below w.heap.size w (W1.drew.setRow w.heap.size (List.take 0 z64b ++ List.map byteV (bl x) ++ List.drop (0 + (List.map byteV (bl x)).length) z64b).toArray)) := below_setRow HBel.out.drew (Nat.le_refl _) _
 generalize W1.drew.setRow w.heap.size (List.take 0 z64b ++ List.map byteV (bl x) ++ List.drop (0 + (List.map byteV (bl x)).length) z64b).toArray = W2 at *
 have hl2 : Hid ((key64 (bl x)).length = 64) := key64_len _ (by rw [bl_len]; exact hx)
 have hl1 : Hid ((padK (bl x) c).length = 64) := by unfold Hid padK; rw [List.length_map]; exact hl2.out
 have hat : Hid (∀ i y, (key64 (bl x))[i]? = some y -> (padK (bl x) c)[i]? = some (bxor y c)) := fun i y h => by unfold padK; rw [List.getElem?_map, h]; rfl
 generalize hL1 : padK (bl x) c = L1 at *
 have hL1H := Lib.hid hL1
 clear hL1
 generalize key64 (bl x) = L2 at *
 clear HB HBel Hk hx
 go_wp2_with fail
 go_loopw [9] (fun q wr => ∃ t : Nat, q = .int .i64 t /\ Hid (t <= 64) /\ Hid (TurnAt wr w.heap.size 111 L1 L2 t) /\ Hid (Below w.heap.size w wr)) (fun q _ => 64 - (intOf q).toNat)
 case atStart => exact ⟨0, rfl, Nat.zero_le _, HB2, HBel2⟩
 case round =>
  clear HB2 HBel2
  obtain ⟨t, rfl, ht, hT, hB⟩ := hrel
  by_cases hlt : t < 64
  ·have d1 : decide (t < 64) = true := decide_eq_true hlt
   have d2 : decide ((t : Int) < 64) = true := decide_eq_true (by omega)
   obtain ⟨y, hy⟩ : ∃ y, L2[t]? = some y := ⟨_, List.getElem?_eq_getElem (by rw [hl2.out]; exact hlt)⟩
   have cy : wr.cell? ⟨w.heap.size, t, none⟩ = some (.int .u8 (y.toNat : Int)) := hT.out.cell (by rw [hl1.out, hl2.out]) y hy
   have fy := Blk.frozen hT.out t
   have hxy := b_xor_fin y c
   have hT2 := Lib.hid (hT.out.set_ (by rw [hl1.out, hl2.out]) (bxor y c) (hat.out t y hy))
   have hB2 := Lib.hid (hB.out.setCell (p := ⟨w.heap.size, t, none⟩) (Nat.le_refl _) (byteV (bxor y c)))
   have hltH := Lib.hid hlt
   clear hy
   go_wp2_with fail
   refine ⟨⟨t + 1, by go_num, hltH.out, hT2, hB2⟩, ?_⟩
   have := hltH.out
   simp [intOf]
   omega
  ·have d1 : decide (t < 64) = false := decide_eq_false hlt
   have d2 : decide ((t : Int) < 64) = false := decide_eq_false (by omega)
   have e64 : t = 64 := Nat.le_antisymm ht (Nat.le_of_not_lt hlt)
   have hcv : (convert 66 9 (.slice (some ⟨w.heap.size, 0, none⟩) 64 64)).run Tryz.prog wr = .ok (.string ⟨L1.toArray⟩) wr := by
    have h := hT.out
    rw [e64] at h
    have h2 := conv_bytes (c := 64) (blk_bytes (h.done hl1.out hl2.out))
    rw [hl1.out] at h2
    exact h2
   clear e64 hlt
   go_wp2_with fail
   go_ret
   exact ⟨by rw [hL1H.out]; rfl, hB.out⟩
end Go.Proofs.YtpghocekofdpbaaGreatDoor
