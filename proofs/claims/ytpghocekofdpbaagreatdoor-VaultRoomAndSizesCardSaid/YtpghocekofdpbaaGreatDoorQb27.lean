import Derived.Test.YtpghocekofdpbaaGreatDoorQb03
import Derived.Test.YtpghocekofdpbaaGreatDoorQb25
import Derived.Deep.CutRange
import Derived.Deep.CutBlock
import Derived.Test.YtpghocekofdpbaaGreatDoorQb26
import Derived.Laws.AppendOwn
import Derived.Laws.OwnMore
import Derived.Lib.AppendStr
import Derived.Lib.ConvBytes
import Derived.Lib.AtoiErrMem
import Derived.Laws.IdiomStrings
import Derived.Below
import Derived.OwnWalk
namespace Go.Proofs.YtpghocekofdpbaaGreatDoor
open Go.RowKit Go.Shelf
attribute [local go_sem] Oper.semAt_some
def bl (x : ByteArray) : List UInt8 := x.data.toList
theorem bl_len (x : ByteArray) : (bl x).length = x.size := by
 unfold bl
 rw [Array.length_toList]
 rfl
theorem bl_extract (y : ByteArray) (a : Nat) (_h : a <= y.size) : bl (y.extract a y.size) = (bl y).drop a := by
 unfold bl
 rw [ByteArray.data_extract, Array.toList_extract, List.extract_eq_take_drop, List.take_of_length_le]
 rw [List.length_drop, Array.length_toList]
 exact Nat.le_refl _
def textLen : Value -> Nat
 | .string y => y.size
 | _ => 0
structure AddAt (w wr : World) (m l : List UInt8) (d : Nat) : Prop where
 ex : ∃ s k, Blk wr w.heap.size 116 (strL s k (m.length + d)).toArray /\ StrOf iv (m ++ l.take d) s k
 fr : ∃ cs, Blk wr (w.heap.size + 1) 116 cs /\ cs.size = 73
 bel : Below w.heap.size w wr
theorem text_eqS {x y : ByteArray} (h : x = y) : (x.toList == y.toList) = true := by rw [h]; exact beq_self_eq_true _
theorem text_ne {x y : ByteArray} (h : x ≠ y) : (x.toList == y.toList) = false := by
 rw [beq_eq_false_iff_ne, ByteArray.toList_eq, ByteArray.toList_eq]
 exact fun e => h (by apply ByteArray.ext; exact Array.ext' e)
theorem byteV_one (l : List UInt8) : ∀ v ∈ l.map byteV, v.oneCell' = true := by
 intro v hv
 obtain ⟨x, _, rfl⟩ := List.mem_map.1 hv
 rfl
theorem take_min {α : Type} (l : List α) (a : Nat) : l.take (min l.length a) = l.take a := by
 rcases Nat.le_total l.length a with h | h
 ·rw [Nat.min_eq_left h, List.take_length, List.take_of_length_le h]
 ·rw [Nat.min_eq_right h]
theorem infoU8 : (Tryz.prog.info? 5).map (·.size) = some 1 := by kernel_rfl
theorem wp_copy_str {w : World} {ops : Array Oper} {rest : List Oper} {op : Oper} {a : Act} {Q : Exit -> Act -> World -> Prop} (hgd : op.guard = none) (d s : Operand)
  (ho : op.op = .call { callee := .builtin .copy, args := #[d, s], argTypes := #[66, 9] }) (g o : Nat) (y : ByteArray) (st : S8) (k : List UInt8) (n kk : Nat) (hd : a.eval d = .slice (some ⟨g, 8 + o, none⟩) (64 - o) (64 - o)) (hs : a.eval s = .string y)
  (hB : Blk w g 116 (strL st k n).toArray) (hk : k.length = 64) (hole : o < 64) (hkk : Nat.min y.size (64 - o) = kk)
  (h : ∀ W2 : World, Blk W2 g 116 (strL st (k.take o ++ (bl y).take kk ++ k.drop (o + kk)) n).toArray -> w.grownBy W2 (some g) -> (∀ B w0, B <= g -> Below B w0 w -> Below B w0 W2) -> wpList Tryz.prog ops Q rest (a.put op.dst (goInt kk)) W2) : wpList Tryz.prog ops Q (op :: rest) a w := by
 have hlen : ((bl y).take kk).length = kk := by
  rw [List.length_take, bl_len, <- hkk]
  show min (min y.size (64 - o)) y.size = min y.size (64 - o)
  omega
 have hle : o + kk <= 64 := by
  have : kk <= 64 - o := by rw [<- hkk]; exact Nat.min_le_right _ _
  omega
 refine wpList_copy_text hgd d s _ _ ho 5 1 Tryz.underlying66 infoU8 g (8 + o) (64 - o) (64 - o) y hd hs (strL st k n).toArray 116 (((bl y).take kk).map byteV) ?_ hB ?_ (byteV_one _) ?_
 ·rw [hkk, List.map_take]
  rfl
 ·rw [List.length_map, hlen, str_size _ _ _ hk]
  omega
 ·rw [hkk]
  have hc := str_copy hB ((bl y).take kk) o hk (by rw [hlen]; exact hle)
  rw [hlen] at hc
  exact h _ hc ⟨rfl, rfl, rfl, by simp, fun j _ hne => setRow_other _ _ _ _ (fun e => hne (by rw [e]))⟩ (fun B w0 hBg hb => below_setRow hb hBg _)
theorem cut_len (k l : List UInt8) {o kk n : Nat} (hk : k.length = 64) (h : o + kk <= 64) (hl : Nat.min n (64 - o) = kk) (hn : l.length = n) : (k.take o ++ l.take kk ++ k.drop (o + kk)).length = 64 := by
 have : kk <= n := by rw [<- hl]; exact Nat.min_le_left _ _
 rw [List.length_append, List.length_append, List.length_take, List.length_take, List.length_drop]
 omega
theorem u64_is (n : Nat) (h : n < 18446744073709551616) : IntKind.u64.wrap (n : Int) = (n : Int) := by rw [IntKind.wrap_u64]; omega
theorem w64_is (n : Nat) (h : n < 9223372036854775808) : wrap64 (n : Int) = (n : Int) := by unfold wrap64; omega
theorem w64_sum (a b n : Nat) (h : a + b = n) (hn : n < 9223372036854775808) : wrap64 ((a : Int) + (b : Int)) = (n : Int) := by
 rw [<- w64_is n hn, <- h]
 rfl
theorem int_ne (a b : Nat) (h : ¬ a + b = 64) : ((a : Int) + (b : Int) == 64) = false := by
 rw [beq_eq_false_iff_ne]
 omega
theorem taken_more (m l t : List UInt8) (d kk : Nat) (ht : t = (l.drop d).take kk) : m ++ l.take d ++ t = m ++ l.take (d + kk) := by
 rw [ht, List.append_assoc, List.take_add]
theorem taken_len (l t : List UInt8) (d kk : Nat) (ht : t = (l.drop d).take kk) (hd : d + kk <= l.length) : t.length = kk := by
 rw [ht, List.length_take, List.length_drop]
 omega
theorem mlen (m l : List UInt8) (d N : Nat) (hd : d <= l.length) (hN : m.length + d = N) : (m ++ l.take d).length = N := by
 rw [List.length_append, List.length_take, Nat.min_eq_left hd]
 exact hN
theorem add_part {m l t : List UInt8} {s : S8} {k : List UInt8} {d kk N o : Nat} (h : StrOf iv (m ++ l.take d) s k) (hN : m.length + d = N) (ho : N % 64 = o) (ht : t = (l.drop d).take kk) (hd : d + kk <= l.length) (hl : o + kk <= 64) (hne : ¬ o + kk = 64) :
  StrOf iv (m ++ l.take (d + kk)) s (k.take o ++ t ++ k.drop (o + kk)) := by
 have e := mlen m l d N (by omega) hN
 have e2 := taken_len l t d kk ht hd
 have h2 := strOf_part (t := t) h (by rw [e, ho, e2]; omega)
 rw [e, ho, e2, taken_more m l t d kk ht] at h2
 exact h2
theorem add_full {m l t : List UInt8} {s : S8} {k : List UInt8} {d kk N o : Nat} (h : StrOf iv (m ++ l.take d) s k) (hN : m.length + d = N) (ho : N % 64 = o) (ht : t = (l.drop d).take kk) (hd : d + kk <= l.length) (hl : o + kk = 64) :
  StrOf iv (m ++ l.take (d + kk)) (scomp s (k.take o ++ t ++ k.drop (o + kk))) (k.take o ++ t ++ k.drop (o + kk)) := by
 have e := mlen m l d N (by omega) hN
 have e2 := taken_len l t d kk ht hd
 have hk := h.len
 have h2 := strOf_full (t := t) h (by rw [e, ho, e2]; exact hl)
 rw [e, ho, taken_more m l t d kk ht] at h2
 rw [hl, List.drop_of_length_le (by omega), List.append_nil]
 exact h2
theorem grownB {B : Nat} {w w' : World} (h : Below B w w') (hB : w.heap.size <= B) (row : Option Nat) : w.grownBy w' row :=
 ⟨h.os, h.tape, h.output, h.size, fun j hj _ => h.block j (Nat.lt_of_lt_of_le hj hB)⟩
theorem setCells_grown (g : Nat) : ∀ (vs : List Value) (o : Nat) (w : World), w.grownBy (w.setCells g o vs) (some g)
 | [], _, w => grownB (Below.refl _ w) (Nat.le_refl _) _
 | v :: r, o, w => grown_tr (grown_set' w g o v) (setCells_grown g r (o + 1) _)
theorem set8_grown (w : World) (g : Nat) (s : S8) : w.grownBy (set8 w g s) (some g) := setCells_grown g _ 0 w
theorem infoStr1 : ∃ a, Tryz.prog.info? 116 = some a /\ a.size = 8 + 64 + 1 := by
 obtain ⟨a, h1, h2⟩ := Option.map_eq_some_iff.1 infoStr
 exact ⟨a, h1, h2⟩
theorem strL_one (s : S8) (k : List UInt8) (n : Nat) : ∀ v ∈ strL s k n, v.oneCell' = true := by
 intro v hv
 rw [strL_eq] at hv
 rcases List.mem_append.1 hv with h | h
 ·rcases List.mem_append.1 h with h | h
  ·rw [show (s8V s).toList = [s.a, s.b, s.c, s.d, s.e, s.f, s.g, s.h].map u32v from rfl] at h
   obtain ⟨x, _, rfl⟩ := List.mem_map.1 h
   rfl
  ·obtain ⟨x, _, rfl⟩ := List.mem_map.1 h
   rfl
 ·rw [List.mem_singleton.1 h]
  rfl
set_option maxRecDepth 100000 in
set_option maxHeartbeats 1600000 in
theorem add_any (w : World) (m : List UInt8) (s : S8) (k : List UInt8) (x : ByteArray) (hS : StrOf iv m s k) (hK : KAt w 1) (hlen : m.length + x.size < 9223372036854775808) :
  Calls Tryz.prog 77 #[.agg (strL s k m.length).toArray, .string x] w fun e w' => ∃ s' k', e = .returned (.agg (strL s' k' (m.length + x.size)).toArray) /\ StrOf iv (m ++ bl x) s' k' /\ Below w.heap.size w w' := by
 go_enter Tryz.func77, Tryz.ntmps77
 go_wp2_with fail
 have hA0 : Hid (AddAt w ((w.alloc (Obj.cells (strL s k m.length).toArray 116)).alloc (Obj.cells Tryz.zeroCells116 116)) m (bl x) 0) := by
  have b1 := (Below.refl _ w).alloc (Nat.le_refl _) (Obj.cells (strL s k m.length).toArray 116)
  have bk := Blk.new (w.alloc (Obj.cells (strL s k m.length).toArray 116)) 116 Tryz.zeroCells116
  rw [World.size_alloc] at bk
  exact ⟨⟨s, k, (Blk.new w _ _).alloc _, by rw [List.take_zero, List.append_nil]; exact hS⟩, ⟨_, bk, zeroStr_size⟩, b1.alloc b1.size _⟩
 have hKH := Lib.hid hK
 have hlenH := Lib.hid hlen
 clear hS hK hlen
 go_loopw [1] (fun v wr => ∃ d y, v = .string y /\ Hid (d <= x.size) /\ Hid (bl y = (bl x).drop d) /\ Hid (AddAt w wr m (bl x) d)) (fun v _ => textLen v)
 case atStart => exact ⟨0, x, rfl, Nat.zero_le _, rfl, hA0⟩
 case round =>
  clear hA0
  obtain ⟨d, y, rfl, hd, hy, hA⟩ := hrel
  obtain ⟨⟨s1, k1, hB, hST⟩, ⟨cs, hR, hRs⟩, hBel⟩ := hA
  have hk64 := Lib.hid hST.len
  obtain ⟨N, hN⟩ : ∃ N, m.length + d = N := ⟨_, rfl⟩
  rw [hN] at hB
  by_cases h0 : y = ByteArray.empty
  ·have dx : y.toList.isEmpty = true := by rw [h0, ByteArray.toList_eq]; rfl
   have hsz73 : Hid ((strL s1 k1 N).toArray.size = 73) := str_size _ _ _ hk64.out
   have hrg := range_of_blk hB
   have hRe := there_of_blk (o := 0) (n := 73) hR (by omega)
   have hy0 : y.size = 0 := by rw [h0]; rfl
   clear h0
   go_wp2_with (first | (refine wpList_load_mid rfl 116 _ rfl w.heap.size 0 rfl (strL s1 k1 N) _ hrg Tryz.underlying116 rfl ?hsz ?_) | (refine wpList_store_mid rfl 116 _ _ rfl (w.heap.size + 1) 0 (strL s1 k1 N).toArray rfl rfl ?hAA ?hBB ?hCC ?_) | fail)
   case hsz => rw [strL_len, hk64.out]; exact infoStr1
   case hAA => rw [strL_len, hk64.out]; exact hRe
   case hBB => rw [strL_len, hk64.out]; exact infoStr1
   case hCC => exact strL_one _ _ _
   have hL := blk_setWhole hR (strL s1 k1 N) (by rw [strL_len, hk64.out, hRs])
   have hBL := below_setCells (g := w.heap.size + 1) (Nat.le_succ _) (strL s1 k1 N) 0 _ hBel
   have hdx : d = x.size := by
    have e := congrArg List.length hy
    rw [List.length_drop, bl_len, bl_len, hy0] at e
    have := hd
    unfold Hid at this
    omega
   exact bodyPost_ret (results_c (P := Tryz.prog) rfl _ _ (w.heap.size + 1) 116 (strL s1 k1 N).toArray _ rfl hL Tryz.underlying116 rfl (by rw [hsz73.out]; exact infoStr)) rfl ⟨s1, k1, by rw [<- hdx, hN], by rw [<- List.take_of_length_le (l := bl x) (i := d) (by rw [bl_len]; omega)]; exact hST, hBL⟩
  ·have dx : y.toList.isEmpty = false := by
    rw [ByteArray.toList_eq]
    cases e : y.data.toList with
    | nil => exact absurd (ByteArray.ext (Array.ext' e)) h0
    | cons _ _ => rfl
   have hpos : Hid (0 < y.size) := by
    unfold Hid
    rcases Nat.eq_zero_or_pos y.size with e | e
    ·exact absurd (ByteArray.ext (by apply Array.eq_empty_of_size_eq_zero; exact e)) h0
    ·exact e
   have cn := str_n hB hk64.out
   obtain ⟨o, ho⟩ : ∃ o, N % 64 = o := ⟨_, rfl⟩
   have hoH := Lib.hid ho
   have hole : o < 64 := by omega
   have o1 : (N : Int) % 64 = (o : Int) := by omega
   have o2 : (0 : Int) <= (o : Int) := by omega
   have o3 : (o : Int) <= 64 := by omega
   have o4 : wrap64 (o : Int) = (o : Int) := by unfold wrap64; omega
   obtain ⟨kk, hkk⟩ : ∃ kk, Nat.min y.size (64 - o) = kk := ⟨_, rfl⟩
   have hNH := Lib.hid hN
   have hk1 : kk <= y.size := by rw [<- hkk]; exact Nat.min_le_left _ _
   have hk2 : o + kk <= 64 := by
    have : kk <= 64 - o := by rw [<- hkk]; exact Nat.min_le_right _ _
    omega
   have hk3 : 0 < kk := by
    have := hpos.out
    rw [<- hkk]
    show 0 < min y.size (64 - o)
    omega
   have q1 : (0 : Int) <= (kk : Int) := by omega
   have q2 : (kk : Int) <= (y.size : Int) := by omega
   have hkx := Lib.hid (And.intro hk2 hk3)
   have hkk' := Lib.hid hkk
   have hole' := Lib.hid hole
   have hSH := Lib.hid hST
   have hRH := Lib.hid (And.intro hR hRs)
   have hBelH := Lib.hid hBel
   have hBH := Lib.hid hB
   have hNb : N + kk < 18446744073709551616 := by
    have h1 := hlenH.out
    have h2 := hy
    unfold Hid at h2
    have h3 := congrArg List.length h2
    rw [List.length_drop, bl_len, bl_len] at h3
    have h4 := hd
    unfold Hid at h4
    omega
   have q3 : IntKind.u64.wrap (kk : Int) = (kk : Int) := u64_is kk (by omega)
   have q4 : IntKind.u64.wrap ((N : Int) + (kk : Int)) = ((N + kk : Nat) : Int) := u64_is (N + kk) hNb
   have hd1 : Hid (d + kk <= x.size) := by
    have h2 := hy
    unfold Hid at h2
    have h3 := congrArg List.length h2
    rw [List.length_drop, bl_len, bl_len] at h3
    have h4 := hd
    unfold Hid at h4 ⊢
    omega
   have hy1 : Hid (bl (y.extract kk y.size) = (bl x).drop (d + kk)) := by
    have h2 := hy
    unfold Hid at h2 ⊢
    rw [bl_extract _ _ hk1, h2, List.drop_drop]
   have hyt : Hid ((bl y).take kk = (bl y).take (64 - o)) := by
    unfold Hid
    have e : kk = min (bl y).length (64 - o) := by rw [bl_len]; exact hkk.symm
    rw [e, take_min]
   have hms : Hid (textLen (Value.string (y.extract kk y.size)) < textLen (Value.string y)) := by
    unfold Hid textLen
    show (y.extract kk y.size).size < y.size
    rw [<- bl_len, bl_extract _ _ hk1, List.length_drop, bl_len]
    omega
   by_cases hfull : o + kk = 64
   ·have q5 : wrap64 ((o : Int) + (kk : Int)) = 64 := w64_sum o kk 64 hfull (by decide)
    have hfullH := Lib.hid hfull
    clear h0 hN ho hk1 hk2 hk3 hkk hole hST hR hRs hBel hB hNb hfull
    go_wp2_with (first | (refine wp_copy_str rfl _ _ rfl w.heap.size o y s1 k1 N kk rfl rfl hBH.out hk64.out hole'.out hkk'.out ?_; intro W2 hB2 hG2 hF2; have cn2 := str_n hB2 (cut_len k1 (bl y) hk64.out hkx.out.1 hkk'.out (bl_len y)); have fn2 := hB2.frozen 72; have hB2H := Lib.hid hB2; have hG2H := Lib.hid hG2; have hF2H := Lib.hid hF2; clear hB2 hG2 hF2 cn hBH) | fail)
    have hB3 := str_setn hB2H.out (cut_len k1 (bl y) hk64.out hkx.out.1 hkk'.out (bl_len y)) (N + kk)
    have hG3 := grown_tr hG2H.out (grown_set' W2 w.heap.size 72 (.int .u64 ((N + kk : Nat) : Int)))
    have hBel3 := (hF2H.out _ _ (Nat.le_refl _) hBelH.out).setCell (p := ⟨w.heap.size, 72, none⟩) (Nat.le_refl _) (.int .u64 ((N + kk : Nat) : Int))
    rw [Int.natCast_add] at hB3 hG3 hBel3
    generalize W2.setCell { block := w.heap.size, off := 72 } (Value.int IntKind.u64 (↑N + ↑kk)) = W3 at *
    have hlk2 := cut_len k1 (bl y) hk64.out hkx.out.1 hkk'.out (bl_len y)
    obtain ⟨k2, hk2⟩ : ∃ k2, k1.take o ++ (bl y).take kk ++ k1.drop (o + kk) = k2 := ⟨_, rfl⟩
    rw [hk2] at hB3 hlk2
    have v0 : W3.cell? ⟨w.heap.size, 0, none⟩ = some (u32v s1.a) := str_word hB3 0 (by decide)
    have v1 : W3.cell? ⟨w.heap.size, 1, none⟩ = some (u32v s1.b) := str_word hB3 1 (by decide)
    have v2 : W3.cell? ⟨w.heap.size, 2, none⟩ = some (u32v s1.c) := str_word hB3 2 (by decide)
    have v3 : W3.cell? ⟨w.heap.size, 3, none⟩ = some (u32v s1.d) := str_word hB3 3 (by decide)
    have v4 : W3.cell? ⟨w.heap.size, 4, none⟩ = some (u32v s1.e) := str_word hB3 4 (by decide)
    have v5 : W3.cell? ⟨w.heap.size, 5, none⟩ = some (u32v s1.f) := str_word hB3 5 (by decide)
    have v6 : W3.cell? ⟨w.heap.size, 6, none⟩ = some (u32v s1.g) := str_word hB3 6 (by decide)
    have v7 : W3.cell? ⟨w.heap.size, 7, none⟩ = some (u32v s1.h) := str_word hB3 7 (by decide)
    have HB3 := Lib.hid hB3
    have HBel3 := Lib.hid hBel3
    have HG3 := Lib.hid hG3
    have HL2 := Lib.hid hlk2
    have HK2 := Lib.hid hk2
    clear hB3 hBel3 hG3 hlk2 hk2 hB2H hG2H hF2H hBelH cn2 fn2
    have hnb := Lib.hid (World.new_ne W3 _ v0)
    obtain ⟨S, hS⟩ : ∃ S, scomp s1 k2 = S := ⟨_, rfl⟩
    have HC : Hid (Calls Tryz.prog 111 #[.agg #[u32v s1.a, u32v s1.b, u32v s1.c, u32v s1.d, u32v s1.e, u32v s1.f, u32v s1.g, u32v s1.h], .slice (some ⟨w.heap.size, 8, none⟩) 64 64] W3.drew fun e w' => e = .returned (.agg #[u32v S.a, u32v S.b, u32v S.c, u32v S.d, u32v S.e, u32v S.f, u32v S.g, u32v S.h]) /\ Below W3.drew.heap.size W3.drew w') := by
     have h := comp_any W3.drew s1 w.heap.size 8 64 k2 HL2.out (by decide) (str_bytes HB3.out.drew) (KAt.below hKH.out HBel3.out.drew)
     rw [hS] at h
     exact h
    have HS := Lib.hid hS
    clear hS
    refine wp_region_last (S := (fun w' => w'.cell? ⟨w.heap.size, 0, none⟩ = some (u32v s1.a) /\ w'.cell? ⟨w.heap.size, 1, none⟩ = some (u32v s1.b) /\ w'.cell? ⟨w.heap.size, 2, none⟩ = some (u32v s1.c) /\ w'.cell? ⟨w.heap.size, 3, none⟩ = some (u32v s1.d) /\ w'.cell? ⟨w.heap.size, 4, none⟩ = some (u32v s1.e) /\ w'.cell? ⟨w.heap.size, 5, none⟩ = some (u32v s1.f) /\ w'.cell? ⟨w.heap.size, 6, none⟩ = some (u32v s1.g) /\ w'.cell? ⟨w.heap.size, 7, none⟩ = some (u32v s1.h))) 6 (by kernel_rfl) ⟨v0, v1, v2, v3, v4, v5, v6, v7⟩ (fun hHeld => ?_)
    refine' wkt (i := 0) (v := ?v0) rfl (Or.inl ⟨by rfl, ?hy0⟩) hHeld ?rest0
    case hy0 => intro w hSw; (try dsimp only at hSw); go_simp; all_goals with_reducible rfl
    try simp only [sA, gA]
    refine' wkt (i := 1) (v := ?v1) rfl (Or.inl ⟨by rfl, ?hy1⟩) hHeld ?rest1
    case hy1 => intro w hSw; (try dsimp only at hSw); go_simp; all_goals with_reducible rfl
    try simp only [sA, gA]
    refine' wkt (i := 2) (v := ?v2) rfl (Or.inl ⟨by rfl, ?hy2⟩) hHeld ?rest2
    case hy2 => intro w hSw; (try dsimp only at hSw); go_simp; all_goals with_reducible rfl
    try simp only [sA, gA]
    refine' wkt (i := 3) (v := ?v3) rfl (Or.inl ⟨by rfl, ?hy3⟩) hHeld ?rest3
    case hy3 => intro w hSw; (try dsimp only at hSw); go_simp; all_goals with_reducible rfl
    try simp only [sA, gA]
    refine wpAnyK_ready (rs := [4]) (by kernel_rfl) (by simp) ?_
    refine AllReadyK.cons rfl (fun K hK => ?_) AllReadyK.nil
    go_simp
    go_at_call 111
    refine HC.out.mono ?_
    rintro e w4 ⟨rfl, hB4⟩
    have hb4 := HB3.out.drew.below hB4 HB3.out.lt
    have i0 := hb4.frozen 0
    have j0 : w4.cell? ⟨w.heap.size, 0, none⟩ = some (u32v s1.a) := str_word hb4 0 (by decide)
    have i1 := hb4.frozen 1
    have j1 : w4.cell? ⟨w.heap.size, 1, none⟩ = some (u32v s1.b) := str_word hb4 1 (by decide)
    have i2 := hb4.frozen 2
    have j2 : w4.cell? ⟨w.heap.size, 2, none⟩ = some (u32v s1.c) := str_word hb4 2 (by decide)
    have i3 := hb4.frozen 3
    have j3 : w4.cell? ⟨w.heap.size, 3, none⟩ = some (u32v s1.d) := str_word hb4 3 (by decide)
    have i4 := hb4.frozen 4
    have j4 : w4.cell? ⟨w.heap.size, 4, none⟩ = some (u32v s1.e) := str_word hb4 4 (by decide)
    have i5 := hb4.frozen 5
    have j5 : w4.cell? ⟨w.heap.size, 5, none⟩ = some (u32v s1.f) := str_word hb4 5 (by decide)
    have i6 := hb4.frozen 6
    have j6 : w4.cell? ⟨w.heap.size, 6, none⟩ = some (u32v s1.g) := str_word hb4 6 (by decide)
    have i7 := hb4.frozen 7
    have j7 : w4.cell? ⟨w.heap.size, 7, none⟩ = some (u32v s1.h) := str_word hb4 7 (by decide)
    have Hb4 := Lib.hid hb4
    have HB4 := Lib.hid (hB4)
    clear hb4 hB4
    go_wp2_with fail
    refine hK.out _ _ ?_ (fun hHeld2 => ?_)
    ·exact ⟨j0, j1, j2, j3, j4, j5, j6, j7⟩
    clear hK K hHeld
    have hHeld := hHeld2
    clear hHeld2
    try simp only [sA, gA]
    refine' wkt (i := 5) (v := ?v5) rfl (Or.inl ⟨by rfl, ?hy5⟩) hHeld ?rest5
    case hy5 => intro w hSw; (try dsimp only at hSw); go_simp; all_goals with_reducible rfl
    try simp only [sA, gA]
    refine wpAnyK_ready (rs := [6]) (by kernel_rfl) (by simp) ?_
    refine AllReadyK.last rfl (fun K hK => ?_)
    go_simp
    refine hK.out _ _ ?_
    clear hK K
    try simp only [sA, gA]
    refine wpAnyK_done (by kernel_rfl) ?_ _
    clear hHeld
    have hb5 := str_sets Hb4.out HL2.out S
    have hg5 : W3.drew.grownBy (set8 w4 w.heap.size S) (some w.heap.size) := grown_tr (grownB HB4.out (Nat.le_refl _) (some w.heap.size)) (set8_grown w4 w.heap.size S)
    have hbel5 := set8_below (g := w.heap.size) S (Nat.le_refl _) (HBel3.out.drew.trans (HB4.out.mono HBel3.out.size))
    have hr5 := (hRH.out.1.grown HG3.out (by simp)).drew.grown hg5 (by simp)
    have hfin := add_full hSH.out hNH.out hoH.out rfl (by rw [bl_len]; exact hd1) hfullH.out
    rw [<- hy, HK2.out, HS.out] at hfin
    have hA5 : Hid (AddAt w (set8 w4 w.heap.size S) m (bl x) (d + kk)) := by
     refine ⟨⟨S, k2, ?_, hfin⟩, ⟨_, hr5, hRH.out.2⟩, hbel5⟩
     rw [<- Nat.add_assoc, hNH.out]
     exact hb5
    clear hb5 hg5 hbel5 hr5 hfin
    go_wp2_with fail
    exact ⟨⟨d + kk, _, rfl, hd1, hy1, hA5⟩, hms⟩
   ·have q5 : wrap64 ((o : Int) + (kk : Int)) = ((o + kk : Nat) : Int) := w64_sum o kk (o + kk) rfl (Nat.lt_of_le_of_lt hkx.out.1 (by decide))
    have q6 : ((o : Int) + (kk : Int) == 64) = false := int_ne o kk hfull
    have hfullH := Lib.hid hfull
    clear h0 hN ho hk1 hk2 hk3 hkk hole hST hR hRs hBel hB hNb hfull
    go_wp2_with (first | (refine wp_copy_str rfl _ _ rfl w.heap.size o y s1 k1 N kk rfl rfl hBH.out hk64.out hole'.out hkk'.out ?_; intro W2 hB2 hG2 hF2; have cn2 := str_n hB2 (cut_len k1 (bl y) hk64.out hkx.out.1 hkk'.out (bl_len y)); have fn2 := hB2.frozen 72; have hB2H := Lib.hid hB2; have hG2H := Lib.hid hG2; have hF2H := Lib.hid hF2; clear hB2 hG2 hF2 cn hBH) | fail)
    have hB3 := str_setn hB2H.out (cut_len k1 (bl y) hk64.out hkx.out.1 hkk'.out (bl_len y)) (N + kk)
    have hG3 := grown_tr hG2H.out (grown_set' W2 w.heap.size 72 (.int .u64 ((N + kk : Nat) : Int)))
    have hBel3 := (hF2H.out _ _ (Nat.le_refl _) hBelH.out).setCell (p := ⟨w.heap.size, 72, none⟩) (Nat.le_refl _) (.int .u64 ((N + kk : Nat) : Int))
    have hr5 := hRH.out.1.grown hG3 (by simp)
    have hfin := add_part hSH.out hNH.out hoH.out rfl (by rw [bl_len]; exact hd1) hkx.out.1 hfullH.out
    rw [<- hy] at hfin
    refine ⟨⟨d + kk, _, rfl, hd1, hy1, ⟨⟨s1, _, ?_, hfin⟩, ⟨_, hr5, hRH.out.2⟩, hBel3⟩⟩, hms⟩
    rw [<- Nat.add_assoc, hNH.out]
    exact hB3
end Go.Proofs.YtpghocekofdpbaaGreatDoor
namespace Go.Proofs.YtpghocekofdpbaaGreatDoor
open Go.RowKit Go.Shelf
theorem infoU8f : (Tryz.prog.info? 5).map (fun i => (i.zero, i.size, i.bytes)) = some (some (.int .u8 0), 1, 1) := by kernel_rfl
def BRow (w : World) (base : Nat) (v : Value) (l : List UInt8) : Prop := w.ownsRow base 5 1 v l.length (l.map byteV)
section
variable {w w' : World} {base : Nat} {v : Value} {l : List UInt8}
theorem brow_nil (w : World) (base : Nat) : BRow w base (.slice none 0 0) [] := World.ownsRow_nil w base _ 1
theorem BRow.slice (h : BRow w base v l) (hl : l ≠ []) : ∃ g c, v = .slice (some ⟨g, 0, none⟩) l.length c /\ base <= g /\ g < w.heap.size := by
 rcases h.2 with ⟨_, h0⟩ | ⟨g, cap, cur, hv, hb, hg, _⟩
 ·exact absurd (List.eq_nil_of_length_eq_zero h0) hl
 ·exact ⟨g, cap, hv, hb, (Array.getElem?_eq_some_iff.1 hg).1⟩
theorem BRow.any (h : BRow w base v l) : ∃ A c, v = .slice A l.length c := by
 rcases h.2 with ⟨hv, h0⟩ | ⟨g, cap, cur, hv, _⟩
 ·exact ⟨none, 0, by rw [hv, h0]⟩
 ·exact ⟨_, _, hv⟩
theorem BRow.more {base' : Nat} (h : BRow w base v l) (hle : base' <= base) : BRow w base' v l := by
 refine ⟨h.1, ?_⟩
 rcases h.2 with h2 | ⟨g, cap, cur, hv, hg, r⟩
 ·exact .inl h2
 ·exact .inr ⟨g, cap, cur, hv, Nat.le_trans hle hg, r⟩
theorem BRow.alloc (h : BRow w base v l) (o : Obj) : BRow (w.alloc o) base v l := World.ownsRow.alloc h o
theorem BRow.kept {row : Option Nat} (h : BRow w base v l) (hg : w.grownBy w' row) (hne : v.ownBlock = none \/ v.ownBlock ≠ row) : BRow w' base v l := World.ownsRow.kept h hg hne
theorem BRow.below (h : BRow w base v l) (hB : Below w.heap.size w w') : BRow w' base v l :=
 h.kept (grownB hB (Nat.le_refl _) none) (by
  cases e : v.ownBlock with
  | none => exact .inl rfl
  | some k => exact .inr (by simp))
theorem BRow.cell {g n c : Nat} (h : BRow w base (.slice (some ⟨g, 0, none⟩) n c) l) (j : Nat) (x : UInt8) (hx : l[j]? = some x) : w.cell? ⟨g, j, none⟩ = some (byteV x) := by
 have := h.cells (g := g) rfl j (byteV x) (by rw [List.getElem?_map, hx]; rfl)
 rw [show (⟨g, j, none⟩ : Addr) = (⟨g, 0, none⟩ : Addr).add j by simp [Addr.add]]
 exact this
theorem BRow.bytesAt {g n c : Nat} (h : BRow w base (.slice (some ⟨g, 0, none⟩) n c) l) : BytesAt w g 0 l :=
 ⟨(h.lt g rfl).2, fun i x hx => by rw [Nat.zero_add]; exact h.cell i x hx⟩
theorem brow_lit (w : World) (l : List UInt8) (hb : base <= w.heap.size) (hm : l.length <= maxLen) : BRow (w.alloc (.cells (l.map byteV).toArray 5)) base (.slice (some ⟨w.heap.size, 0, none⟩) l.length l.length) l := by
 refine ⟨by simp, .inr ⟨w.heap.size, l.length, _, rfl, hb, heap_alloc_new w _, Nat.le_refl _, hm, by simp, ?_⟩⟩
 rw [Nat.mul_one, List.take_of_length_le (by simp)]
theorem conv_row (h : BRow w base v l) : (convert 66 9 v).run Tryz.prog w = .ok (.string ⟨l.toArray⟩) w := by
 rcases h.2 with ⟨hv, h0⟩ | ⟨g, cap, cur, hv, hb, hg, _⟩
 ·have e := List.eq_nil_of_length_eq_zero h0
  subst e hv
  have hc := run_convert_bytes_string (P := Tryz.prog) w 66 9 5 none 0 0 Tryz.underlying66 Tryz.underlying5 Tryz.underlying9
  rw [hc]
  rfl
 ·subst hv
  exact run_convert_bytes_back (P := Tryz.prog) w 66 9 5 ⟨g, 0, none⟩ cap l Tryz.underlying66 Tryz.underlying5 Tryz.underlying9 (fun j hj => by
   exact h.cells (g := g) rfl j (byteV l[j]) (by rw [List.getElem?_map, List.getElem?_eq_getElem hj]; rfl))
end
theorem wpList_append_run {P : Program} {w : World} {ops : Array Oper} {rest : List Oper} {o : Oper} {a : Act} {Q : Exit -> Act -> World -> Prop} (hgd : o.guard = none) (d s : Operand) (dT sT : TypeId)
  (ho : o.op = .call { callee := .builtin .append, args := #[d, s], argTypes := #[dT, sT] }) (x y : Value) (hd : a.eval d = x) (hs : a.eval s = y) {v' : Value} {w' : World}
  (hrun : (Builtin.append_ #[dT, sT] o.type #[x, y]).run P w = .ok v' w') (h : wpList P ops Q rest (a.put o.dst v') w') : wpList P ops Q (o :: rest) a w := by
 refine wpList_plain hgd fun K hK => ?_
 unfold Oper.wp
 simp [execOp, ho, resolve, invoke, builtin, hd, hs, hrun, Result.andThen]
 exact hK _ _ h
structure Pushed (w w' : World) (base : Nat) (v v' : Value) (l : List UInt8) : Prop where
 row : BRow w' base v' l
 grown : w.grownBy w' v.ownBlock
 bel : ∀ B w0, B <= base -> base <= w.heap.size -> Below B w0 w -> Below B w0 w'
section
variable {w : World} {ops : Array Oper} {rest : List Oper} {o : Oper} {a : Act} {Q : Exit -> Act -> World -> Prop}
theorem pushed_of {w' : World} {base : Nat} {v v' : Value} {l l' : List UInt8} (hrow : BRow w base v l) (h1 : BRow w' base v' l') (hg : w.grownBy w' v.ownBlock) : Pushed w w' base v v' l' :=
 ⟨h1, hg, fun _ _ hB hb h => h.grown hg (Nat.le_trans hB hb) (fun k e => Nat.le_trans hB (hrow.lt k e).1)⟩
theorem wp_cat (hgd : o.guard = none) (d s : Operand) (ho : o.op = .call { callee := .builtin .append, args := #[d, s], argTypes := #[66, 66] }) (base : Nat) (v : Value) (l : List UInt8) (hd : a.eval d = v) (hrow : BRow w base v l)
  (g off c : Nat) (m : List UInt8) (hs : a.eval s = .slice (some ⟨g, off, none⟩) m.length c) (hm : BytesAt w g off m) (hlen : l.length + m.length < 100000000000) (hb : base <= w.heap.size)
  (h : ∀ v' w', Pushed w w' base v v' (l ++ m) -> wpList Tryz.prog ops Q rest (a.put o.dst v') w') : wpList Tryz.prog ops Q (o :: rest) a w := by
 obtain ⟨i0, hi, hz0, hz1, hz2⟩ := info_parts infoU8f
 refine wpList_append_own w hgd d s 66 ho base 5 i0 (.int .u8 0) 1 1 Tryz.underlying66 hi hz0 hz1 hz2 rfl (by decide) v l.length (l.map byteV) hd hrow ⟨g, off, none⟩ m.length c (m.map byteV) hs (by simp) ?_ (byteV_one _) (by unfold maxLen; omega) (by omega) hb ?_
 ·intro j u hj
  rw [List.getElem?_map, Option.map_eq_some_iff] at hj
  obtain ⟨x, hx, rfl⟩ := hj
  rw [show (⟨g, off, none⟩ : Addr).add j = ⟨g, off + j, none⟩ by simp [Addr.add]]
  exact hm.2 j x hx
 ·intro v' w' h1 h2 _
  refine h v' w' (pushed_of hrow ?_ h2)
  unfold BRow
  rw [List.length_append, List.map_append]
  exact h1
theorem wp_push {w0 : World} (hgd : o.guard = none) (d s : Operand) (ho : o.op = .call { callee := .builtin .append, args := #[d, s], argTypes := #[66, 66] }) (base : Nat) (v : Value) (l : List UInt8) (hd : a.eval d = v) (hrow : BRow w0 base v l)
  (c : Nat) (x : UInt8) {val : Value} (hval : val = byteV x) (hs : a.eval s = .slice (some ⟨w0.heap.size, 0, none⟩) 1 c) (hlen : l.length < 99999999999) (hb : base <= w0.heap.size)
  (h : ∀ v' w', Pushed w0 w' base v v' (l ++ [x]) -> wpList Tryz.prog ops Q rest (a.put o.dst v') w') : wpList Tryz.prog ops Q (o :: rest) a (w0.alloc (.cells #[val] 5)) := by
 subst hval
 refine wp_cat hgd d s ho base v l hd (hrow.alloc _) w0.heap.size 0 c [x] hs (brow_lit (base := w0.heap.size) w0 [x] (Nat.le_refl _) (by simp [maxLen])).bytesAt ?_ ?_ ?_
 ·rw [show [x].length = 1 from rfl]; omega
 ·rw [World.size_alloc]; omega
 ·intro v' w' hP
  refine h v' w' ⟨hP.row, ?_, fun B w1 hB hb2 hBel => hP.bel B w1 hB (by rw [World.size_alloc]; omega) (hBel.alloc (Nat.le_trans hB hb2) _)⟩
  exact grown_tr (grownB ((Below.refl _ w0).alloc (Nat.le_refl _) _) (Nat.le_refl _) v.ownBlock) hP.grown
theorem wp_lit {w0 : World} (hgd : o.guard = none) (d s : Operand) (ho : o.op = .call { callee := .builtin .append, args := #[d, s], argTypes := #[66, 66] }) (base : Nat) (v : Value) (l : List UInt8) (hd : a.eval d = v) (hrow : BRow w0 base v l)
  (n c : Nat) (xs : List UInt8) {vals : Array Value} (hval : vals = (xs.map byteV).toArray) (hn : xs.length = n) (hs : a.eval s = .slice (some ⟨w0.heap.size, 0, none⟩) n c) (hlen : l.length + n < 99999999999) (hb : base <= w0.heap.size)
  (h : ∀ v' w', Pushed w0 w' base v v' (l ++ xs) -> wpList Tryz.prog ops Q rest (a.put o.dst v') w') : wpList Tryz.prog ops Q (o :: rest) a (w0.alloc (.cells vals 5)) := by
 subst hval hn
 refine wp_cat hgd d s ho base v l hd (hrow.alloc _) w0.heap.size 0 c xs hs (brow_lit (base := w0.heap.size) w0 xs (Nat.le_refl _) (by unfold maxLen; omega)).bytesAt ?_ ?_ ?_
 ·omega
 ·rw [World.size_alloc]; omega
 ·intro v' w' hP
  refine h v' w' ⟨hP.row, ?_, fun B w1 hB hb2 hBel => hP.bel B w1 hB (by rw [World.size_alloc]; omega) (hBel.alloc (Nat.le_trans hB hb2) _)⟩
  exact grown_tr (grownB ((Below.refl _ w0).alloc (Nat.le_refl _) _) (Nat.le_refl _) v.ownBlock) hP.grown
theorem wp_cat_text (hgd : o.guard = none) (d s : Operand) (ho : o.op = .call { callee := .builtin .append, args := #[d, s], argTypes := #[66, 9] }) (base : Nat) (v : Value) (l : List UInt8) (hd : a.eval d = v) (hrow : BRow w base v l)
  (x : ByteArray) (hs : a.eval s = .string x) (hlen : l.length + x.size < 100000000000) (hb : base <= w.heap.size)
  (h : ∀ v' w', Pushed w w' base v v' (l ++ bl x) -> wpList Tryz.prog ops Q rest (a.put o.dst v') w') : wpList Tryz.prog ops Q (o :: rest) a w := by
 obtain ⟨i0, hi, hz0, hz1, hz2⟩ := info_parts infoU8f
 obtain ⟨v', w', hr, h1, h2, _⟩ := Lib.run_append_own_string (P := Tryz.prog) w base 66 9 o.type 5 i0 Tryz.underlying66 Tryz.underlying9 hi hz0 hz1 hz2 v _ _ hrow x (by unfold maxLen; omega) (by omega) hb
 refine wpList_append_run hgd d s _ _ ho _ _ hd hs hr (h v' w' (pushed_of hrow ?_ h2))
 unfold BRow
 rw [List.length_append, List.map_append, bl_len]
 exact h1
end
def OutAt (w : World) (g : Nat) (t : TypeId) (L : List UInt8) (n i : Nat) : Prop := Blk w g t ((L.take i ++ List.replicate (n - i) 0).map byteV).toArray
theorem outAt_size {L : List UInt8} {n i : Nat} (hL : L.length = n) (hi : i <= n) : ((L.take i ++ List.replicate (n - i) 0).map byteV).toArray.size = n := by
 rw [List.size_toArray, List.length_map, List.length_append, List.length_take, List.length_replicate]
 omega
theorem OutAt.set_ {w : World} {g : Nat} {t : TypeId} {L : List UInt8} {n i : Nat} (h : OutAt w g t L n i) (hL : L.length = n) (hi : i < n) (x : UInt8) (hx : L[i]? = some x) : OutAt (w.setCell ⟨g, i, none⟩ (byteV x)) g t L n (i + 1) := by
 have h1 := Blk.set_ h i (byteV x)
 have e : ((L.take i ++ List.replicate (n - i) 0).map byteV).toArray.setIfInBounds i (byteV x) = ((L.take (i + 1) ++ List.replicate (n - (i + 1)) 0).map byteV).toArray := by
  have hl : ((L.take i).map byteV).length = i := by rw [List.length_map, List.length_take]; omega
  rw [List.setIfInBounds_toArray, List.map_append, List.set_append_right _ _ (Nat.le_of_eq hl), hl, Nat.sub_self, show n - i = (n - (i + 1)) + 1 by omega, List.replicate_succ, List.map_cons, List.set_cons_zero, List.take_add_one, hx, List.map_append, List.map_append, List.append_assoc]
  rfl
 rw [e] at h1
 exact h1
theorem OutAt.done {w : World} {g : Nat} {t : TypeId} {L : List UInt8} {n : Nat} (h : OutAt w g t L n n) (hL : L.length = n) : Blk w g t (L.map byteV).toArray := by
 unfold OutAt at h
 rw [List.take_of_length_le (Nat.le_of_eq hL), Nat.sub_self, List.replicate_zero, List.append_nil] at h
 exact h
theorem conv_text (w : World) (x : ByteArray) : ∃ c w', (convert 9 66 (.string x)).run Tryz.prog w = .ok (.slice (some ⟨w.heap.size, 0, none⟩) x.size c) w' /\ BytesAt w' w.heap.size 0 (bl x) /\ Below w.heap.size w w' /\ w'.heap.size = w.heap.size + 1 := by
 refine ⟨_, _, Lib.run_convert_string_bytes (P := Tryz.prog) w 9 66 5 x Tryz.underlying9 Tryz.underlying66 Tryz.underlying5, ⟨by rw [Lib.bytesWorld_size]; omega, fun i y hy => ?_⟩, Lib.bytesWorld_below _ _ _, Lib.bytesWorld_size _ _ _⟩
 have hi : i < x.size := by
  rw [<- bl_len]
  exact (List.getElem?_eq_some_iff.1 hy).1
 rw [Nat.zero_add, Lib.bytesWorld_cell w 5 x i hi, List.getD_eq_getElem?_getD]
 unfold bl at hy
 rw [hy]
 rfl
end Go.Proofs.YtpghocekofdpbaaGreatDoor
