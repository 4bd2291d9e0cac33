import Derived.Test.YtpghocekofdpbaaGreatDoorQb00
import Derived.Laws.BitsAllLaws
import Derived.IntWalk
import Derived.Lib.Hide
import Derived.Test.YtpghocekofdpbaaGreatDoorQb07
import Derived.Test.YtpghocekofdpbaaGreatDoorQb02
import Derived.Deep.MidRow
import Derived.OwnWalk
import Derived.BigQuiet
namespace Go.Proofs.YtpghocekofdpbaaGreatDoor
open Go.RowKit Go.Shelf
attribute [local go_sem] Oper.semAt_some
def wand (x y : UInt32) : UInt32 := x &&& y
def wor (x y : UInt32) : UInt32 := x ||| y
def wxor (x y : UInt32) : UInt32 := x ^^^ y
def wadd (x y : UInt32) : UInt32 := x + y
def wshl (x : UInt32) (s : Nat) : UInt32 := x <<< UInt32.ofNat s
def wshr (x : UInt32) (s : Nat) : UInt32 := x >>> UInt32.ofNat s
def wnot (x : UInt32) : UInt32 := ~~~x
abbrev u32v (x : UInt32) : Value := .int .u32 (x.toNat : Int)
theorem w_lt (x : UInt32) : x.toNat < 4294967296 := x.toNat_lt
theorem w_and (x y : UInt32) : bits .and .u32 (x.toNat : Int) (y.toNat : Int) = ((wand x y).toNat : Int) := by
 rw [u32_and_nat _ _ (w_lt x) (w_lt y)]
 unfold wand
 rw [UInt32.toNat_and]
theorem w_or (x y : UInt32) : bits .or .u32 (x.toNat : Int) (y.toNat : Int) = ((wor x y).toNat : Int) := by
 rw [u32_or_nat _ _ (w_lt x) (w_lt y)]
 unfold wor
 rw [UInt32.toNat_or]
theorem w_xor (x y : UInt32) : bits .xor .u32 (x.toNat : Int) (y.toNat : Int) = ((wxor x y).toNat : Int) := by
 rw [u32_xor_nat _ _ (w_lt x) (w_lt y)]
 unfold wxor
 rw [UInt32.toNat_xor]
theorem w_add (x y : UInt32) : IntKind.u32.wrap ((x.toNat : Int) + (y.toNat : Int)) = ((wadd x y).toNat : Int) := by
 unfold wadd
 rw [IntKind.wrap_u32', UInt32.toNat_add]
 omega
theorem w_add' (x y : UInt32) : ((x.toNat : Int) + (y.toNat : Int)) % 4294967296 = ((wadd x y).toNat : Int) := by
 rw [<- w_add, IntKind.wrap_u32']
theorem shl_nat (x : UInt32) (s : Nat) (hs : s < 32) : (wshl x s).toNat = x.toNat * 2 ^ s % 4294967296 := by
 unfold wshl
 rw [UInt32.toNat_shiftLeft, UInt32.toNat_ofNat', Nat.shiftLeft_eq]
 have e : s % 2 ^ 32 % 32 = s := by omega
 rw [e]
theorem shr_nat (x : UInt32) (s : Nat) (hs : s < 32) : (wshr x s).toNat = x.toNat / 2 ^ s := by
 unfold wshr
 rw [UInt32.toNat_shiftRight, UInt32.toNat_ofNat', Nat.shiftRight_eq_div_pow]
 have e : s % 2 ^ 32 % 32 = s := by omega
 rw [e]
theorem cast_pow (n : Nat) : (((2 : Nat) ^ n : Nat) : Int) = (2 : Int) ^ n := by simp
theorem shl_eq (x : UInt32) (s : Nat) (hs : s < 32) : (x.toNat : Int) * 2 ^ min s 32 % 4294967296 = ((wshl x s).toNat : Int) := by
 rw [shl_nat x s hs, Nat.min_eq_left (by omega), <- cast_pow, Int.natCast_emod, Int.natCast_mul]
 rfl
theorem shr_eq (x : UInt32) (s : Nat) (hs : s < 32) : (x.toNat : Int) / 2 ^ min s 32 = ((wshr x s).toNat : Int) := by
 rw [shr_nat x s hs, Nat.min_eq_left (by omega), <- cast_pow, Int.natCast_ediv]
def rotl (x : UInt32) (s : Nat) : UInt32 := wor (wshl x s) (wshr x (32 - s))
theorem low5 (k : Int) (s : Nat) (hs : k % 32 = s) : bits .and .u64 (IntKind.u64.wrap k) 31 = (s : Int) := by
 have hw : IntKind.u64.wrap k = k % 18446744073709551616 := by simp [IntKind.wrap, IntKind.bits, IntKind.signed]
 have h0 : 0 <= k % 18446744073709551616 := Int.emod_nonneg _ (by decide)
 have h1 : k % 18446744073709551616 < 18446744073709551616 := Int.emod_lt_of_pos _ (by decide)
 rw [hw, u64_and _ _ h0 h1 (by decide) (by decide)]
 show ((( (k % 18446744073709551616).toNat &&& 31 : Nat)) : Int) = _
 have := Nat.and_two_pow_sub_one_eq_mod (k % 18446744073709551616).toNat 5
 rw [show (31 : Nat) = 2 ^ 5 - 1 by rfl, this]
 omega
set_option maxRecDepth 100000 in
theorem rot_any (w : World) (x : UInt32) (k : Int) (s : Nat) (hs : k % 32 = s) (h1 : 1 <= s) (_h2 : s <= 31) :
  Calls Tryz.prog 171 #[u32v x, .int .i64 k] w fun e w' => e = .returned (u32v (rotl x s)) /\ w = w' := by
 have hq := low5 k s hs
 have hl := shl_eq x s (by omega)
 have hr := shr_eq x (32 - s) (by omega)
 have hsub : IntKind.u64.wrap (32 - (s : Int)) = ((32 - s : Nat) : Int) := by simp [IntKind.wrap, IntKind.bits, IntKind.signed]; omega
 have ho := w_or (wshl x s) (wshr x (32 - s))
 obtain ⟨t, ht⟩ : ∃ t, 32 - s = t := ⟨_, rfl⟩
 unfold rotl
 rw [ht] at hr hsub ho ⊢
 clear hs h1 _h2 ht
 go_enter Tryz.func171, Tryz.ntmps171
 go_wp2_with fail
 go_ret
 exact ⟨rfl, rfl⟩
attribute [local go_sem] w_xor
set_option maxRecDepth 100000 in
theorem mix_any (w : World) (x : UInt32) (i j k : Nat) (hi : 1 <= i /\ i <= 31) (hj : 1 <= j /\ j <= 31) (hk : 1 <= k /\ k <= 31) :
  Calls Tryz.prog 150 #[u32v x, .int .i64 i, .int .i64 j, .int .i64 k] w fun e w' => e = .returned (u32v (wxor (wxor (rotl x (32 - i)) (rotl x (32 - j))) (rotl x (32 - k)))) /\ w = w' := by
 have Hi := Lib.hid (rot_any w x (-(i : Int)) (32 - i) (by omega) (by omega) (by omega))
 have Hj := Lib.hid (rot_any w x (-(j : Int)) (32 - j) (by omega) (by omega) (by omega))
 have Hk := Lib.hid (rot_any w x (-(k : Int)) (32 - k) (by omega) (by omega) (by omega))
 have wi : wrap64 (-(i : Int)) = -(i : Int) := by unfold wrap64; omega
 have wj : wrap64 (-(j : Int)) = -(j : Int) := by unfold wrap64; omega
 have wk : wrap64 (-(k : Int)) = -(k : Int) := by unfold wrap64; omega
 clear hi hj hk
 go_enter Tryz.func150, Tryz.ntmps150
 go_wp2_with fail
 refine Hi.out.mono ?_
 rintro e w' ⟨rfl, rfl⟩
 go_wp2_with fail
 refine Hj.out.mono ?_
 rintro e w' ⟨rfl, rfl⟩
 go_wp2_with fail
 refine Hk.out.mono ?_
 rintro e w' ⟨rfl, rfl⟩
 go_wp2_with fail
 go_ret
 exact ⟨rfl, rfl⟩
end Go.Proofs.YtpghocekofdpbaaGreatDoor
namespace Go.Proofs.YtpghocekofdpbaaGreatDoor
def w8 (x : UInt8) : UInt32 := UInt32.ofNat x.toNat
theorem w8_nat (x : UInt8) : (w8 x).toNat = x.toNat := by
 unfold w8
 rw [UInt32.toNat_ofNat']
 have := x.toNat_lt
 omega
def word4 (l : List UInt8) : UInt32 := l.foldl (fun a x => wor (wshl a 8) (w8 x)) 0
def sg0 (x : UInt32) : UInt32 := wxor (wxor (rotl x 25) (rotl x 14)) (wshr x 3)
def sg1 (x : UInt32) : UInt32 := wxor (wxor (rotl x 15) (rotl x 13)) (wshr x 10)
def sched (b : List UInt8) : Nat -> List UInt32
 | 0 => []
 | t + 1 => sched b t ++ [if t < 16 then word4 ((b.drop (4 * t)).take 4) else wadd (wadd (wadd ((sched b t).getD (t - 16) 0) (sg0 ((sched b t).getD (t - 15) 0))) ((sched b t).getD (t - 7) 0)) (sg1 ((sched b t).getD (t - 2) 0))]
theorem sched_len (b : List UInt8) : ∀ t, (sched b t).length = t
 | 0 => rfl
 | t + 1 => by
  unfold sched
  rw [List.length_append, sched_len b t]
  rfl
theorem sched_old (b : List UInt8) (t : Nat) : ∀ u j, j < t -> t <= u -> (sched b u).getD j 0 = (sched b t).getD j 0
 | 0, j, h, h2 => by omega
 | u + 1, j, h, h2 => by
  by_cases e : t = u + 1
  ·rw [e]
  ·rw [<- sched_old b t u j h (by omega)]
   show (sched b u ++ _).getD j 0 = _
   rw [List.getD_eq_getElem?_getD, List.getD_eq_getElem?_getD, List.getElem?_append_left (by rw [sched_len]; omega), List.getD_eq_getElem?_getD]
def sw (b : List UInt8) (t : Nat) : UInt32 := (sched b 64).getD t 0
theorem sw_low (b : List UInt8) (t : Nat) (h : t < 16) : sw b t = word4 ((b.drop (4 * t)).take 4) := by
 unfold sw
 rw [sched_old b (t + 1) 64 t (by omega) (by omega)]
 show (sched b t ++ [_]).getD t 0 = _
 rw [List.getD_eq_getElem?_getD, List.getElem?_append_right (by rw [sched_len]; omega), sched_len, Nat.sub_self, if_pos h]
 rfl
theorem sw_high (b : List UInt8) (t : Nat) (h : 16 <= t) (h2 : t < 64) : sw b t = wadd (wadd (wadd (sw b (t - 16)) (sg0 (sw b (t - 15)))) (sw b (t - 7))) (sg1 (sw b (t - 2))) := by
 unfold sw
 rw [sched_old b (t + 1) 64 t (by omega) (by omega), sched_old b t 64 (t - 16) (by omega) (by omega), sched_old b t 64 (t - 15) (by omega) (by omega), sched_old b t 64 (t - 7) (by omega) (by omega), sched_old b t 64 (t - 2) (by omega) (by omega)]
 show (sched b t ++ [_]).getD t 0 = _
 rw [List.getD_eq_getElem?_getD, List.getElem?_append_right (by rw [sched_len]; omega), sched_len, Nat.sub_self, if_neg (by omega)]
 rfl
def schedV (b : List UInt8) : List Value := (List.range 64).map fun j => u32v (sw b j)
theorem schedV_len (b : List UInt8) : (schedV b).length = 64 := by simp [schedV]
theorem schedV_at (b : List UInt8) (j : Nat) (h : j < 64) : (schedV b)[j]? = some (u32v (sw b j)) := by
 unfold schedV
 rw [List.getElem?_map, List.getElem?_range h]
 rfl
end Go.Proofs.YtpghocekofdpbaaGreatDoor
namespace Go.Proofs.YtpghocekofdpbaaGreatDoor
def shaK : List UInt32 := [1116352408, 1899447441, 3049323471, 3921009573, 961987163, 1508970993, 2453635748, 2870763221, 3624381080, 310598401, 607225278, 1426881987, 1925078388, 2162078206, 2614888103, 3248222580, 3835390401, 4022224774, 264347078, 604807628, 770255983, 1249150122, 1555081692, 1996064986, 2554220882, 2821834349, 2952996808, 3210313671, 3336571891, 3584528711, 113926993, 338241895, 666307205, 773529912, 1294757372, 1396182291, 1695183700, 1986661051, 2177026350, 2456956037, 2730485921, 2820302411, 3259730800, 3345764771, 3516065817, 3600352804, 4094571909, 275423344, 430227734, 506948616, 659060556, 883997877, 958139571, 1322822218, 1537002063, 1747873779, 1955562222, 2024104815, 2227730452, 2361852424, 2428436474, 2756734187, 3204031479, 3329325298]
theorem shaK_len : shaK.length = 64 := by decide
def kAt (t : Nat) : UInt32 := shaK.getD t 0
def kV : List Value := shaK.map u32v
theorem kV_len : kV.length = 64 := by unfold kV; rw [List.length_map, shaK_len]
theorem kV_at (t : Nat) (h : t < 64) : kV[t]? = some (u32v (kAt t)) := by
 unfold kV kAt
 rw [List.getElem?_map, List.getD_eq_getElem?_getD, List.getElem?_eq_getElem (by rw [shaK_len]; exact h)]
 rfl
structure S8 where
 a : UInt32
 b : UInt32
 c : UInt32
 d : UInt32
 e : UInt32
 f : UInt32
 g : UInt32
 h : UInt32
def rx (s : S8) (k w : UInt32) : UInt32 := wadd (wadd (wadd (wadd s.h (wxor (wxor (rotl s.e 26) (rotl s.e 21)) (rotl s.e 7))) (wxor (wand s.e s.f) (wand (wnot s.e) s.g))) k) w
def ry (s : S8) : UInt32 := wadd (wxor (wxor (rotl s.a 30) (rotl s.a 19)) (rotl s.a 10)) (wxor (wxor (wand s.a s.b) (wand s.a s.c)) (wand s.b s.c))
def sround (s : S8) (k w : UInt32) : S8 := ⟨wadd (rx s k w) (ry s), s.a, s.b, s.c, wadd s.d (rx s k w), s.e, s.f, s.g⟩
def srounds (s : S8) (b : List UInt8) : Nat -> S8
 | 0 => s
 | t + 1 => sround (srounds s b t) (kAt t) (sw b t)
def sadd (s v : S8) : S8 := ⟨wadd s.a v.a, wadd s.b v.b, wadd s.c v.c, wadd s.d v.d, wadd s.e v.e, wadd s.f v.f, wadd s.g v.g, wadd s.h v.h⟩
def scomp (s : S8) (b : List UInt8) : S8 := sadd s (srounds s b 64)
def s8V (s : S8) : Array Value := #[u32v s.a, u32v s.b, u32v s.c, u32v s.d, u32v s.e, u32v s.f, u32v s.g, u32v s.h]
end Go.Proofs.YtpghocekofdpbaaGreatDoor
namespace Go.Proofs.YtpghocekofdpbaaGreatDoor
def sblocks (s : S8) : Nat -> List UInt8 -> S8
 | 0, _ => s
 | k + 1, b => sblocks (scomp s (b.take 64)) k (b.drop 64)
theorem sblocks_more (k : Nat) : ∀ (j : Nat) (s : S8) (b : List UInt8), sblocks s (j + k) b = sblocks (sblocks s j b) k (b.drop (64 * j)) := by
 intro j
 induction j with
 | zero => intro s b; rw [Nat.zero_add, Nat.mul_zero, List.drop_zero]; rfl
 | succ j ih =>
  intro s b
  rw [Nat.succ_add]
  show sblocks (scomp s (b.take 64)) (j + k) (b.drop 64) = sblocks (sblocks (scomp s (b.take 64)) j (b.drop 64)) k (b.drop (64 * (j + 1)))
  rw [ih, List.drop_drop, show 64 * (j + 1) = 64 + 64 * j by omega]
theorem sblocks_one (s : S8) (j : Nat) (b : List UInt8) : sblocks s (j + 1) b = scomp (sblocks s j b) ((b.drop (64 * j)).take 64) := by
 rw [sblocks_more 1 j s b]
 rfl
theorem sblocks_left (c : List UInt8) : ∀ (k : Nat) (s : S8) (b : List UInt8), 64 * k <= b.length -> sblocks s k (b ++ c) = sblocks s k b := by
 intro k
 induction k with
 | zero => intro s b _; rfl
 | succ k ih =>
  intro s b h
  show sblocks (scomp s ((b ++ c).take 64)) k ((b ++ c).drop 64) = sblocks (scomp s (b.take 64)) k (b.drop 64)
  rw [List.take_append_of_le_length (by omega), List.drop_append_of_le_length (by omega), ih _ _ (by rw [List.length_drop]; omega)]
def rest64 (b : List UInt8) : List UInt8 := b.drop (64 * (b.length / 64))
theorem rest64_len (b : List UInt8) : (rest64 b).length = b.length % 64 := by
 unfold rest64
 rw [List.length_drop]
 omega
structure StrOf (iv : S8) (m : List UInt8) (s : S8) (k : List UInt8) : Prop where
 st : s = sblocks iv (m.length / 64) m
 len : k.length = 64
 pre : k.take (m.length % 64) = rest64 m
theorem strOf_start (iv : S8) (k : List UInt8) (h : k.length = 64) : StrOf iv [] iv k := ⟨rfl, h, rfl⟩
theorem drop_rest (m t : List UInt8) : (m ++ t).drop (64 * (m.length / 64)) = rest64 m ++ t := by
 unfold rest64
 rw [List.drop_append_of_le_length (by omega)]
theorem strOf_part {iv : S8} {m : List UInt8} {s : S8} {k t : List UInt8} (h : StrOf iv m s k) (ht : m.length % 64 + t.length < 64) :
  StrOf iv (m ++ t) s (k.take (m.length % 64) ++ t ++ k.drop (m.length % 64 + t.length)) := by
 have hk := h.len
 have e1 : (m ++ t).length / 64 = m.length / 64 := by rw [List.length_append]; omega
 have e2 : (m ++ t).length % 64 = m.length % 64 + t.length := by rw [List.length_append]; omega
 have e3 : (k.take (m.length % 64) ++ t).length = m.length % 64 + t.length := by rw [List.length_append, List.length_take]; omega
 refine ⟨?_, ?_, ?_⟩
 ·rw [e1, sblocks_left t _ _ _ (by omega)]
  exact h.st
 ·rw [List.length_append, e3, List.length_drop]
  omega
 ·rw [e2, <- e3, List.take_left', h.pre]
  ·unfold rest64
   rw [e1, List.drop_append_of_le_length (by omega)]
  ·rfl
theorem strOf_full {iv : S8} {m : List UInt8} {s : S8} {k t : List UInt8} (h : StrOf iv m s k) (ht : m.length % 64 + t.length = 64) :
  StrOf iv (m ++ t) (scomp s (k.take (m.length % 64) ++ t)) (k.take (m.length % 64) ++ t) := by
 have hk := h.len
 have e1 : (m ++ t).length / 64 = m.length / 64 + 1 := by rw [List.length_append]; omega
 have e2 : (m ++ t).length % 64 = 0 := by rw [List.length_append]; omega
 have e3 : (k.take (m.length % 64) ++ t).length = 64 := by rw [List.length_append, List.length_take]; omega
 refine ⟨?_, e3, ?_⟩
 ·rw [e1, sblocks_one, sblocks_left t _ _ _ (by omega), drop_rest, <- h.pre, List.take_of_length_le (Nat.le_of_eq e3), <- h.st]
 ·rw [e2, List.take_zero]
  symm
  apply List.eq_nil_of_length_eq_zero
  rw [rest64_len, e2]
end Go.Proofs.YtpghocekofdpbaaGreatDoor
namespace Go.Proofs.YtpghocekofdpbaaGreatDoor
open Go.RowKit Go.Shelf
attribute [local go_sem] Oper.semAt_some w_xor w_or
def SchedAt (w : World) (m : Nat) (b : List UInt8) (t : Nat) (a : UInt32) : Prop := ∃ cs : Array Value, Blk w m 166 cs /\ cs.size = 64 /\ ∀ j, j < 64 -> cs[j]? = some (u32v (if j < t then sw b j else if j = t then a else 0))
theorem schedAt_cell {w : World} {m : Nat} {b : List UInt8} {t : Nat} {a : UInt32} (h : SchedAt w m b t a) (j : Nat) (hj : j < 64) : w.cell? ⟨m, j, none⟩ = some (u32v (if j < t then sw b j else if j = t then a else 0)) /\ w.frozen? ⟨m, j, none⟩ = false := by
 obtain ⟨cs, h1, h2, h3⟩ := h
 exact ⟨by rw [h1.cell j]; exact h3 j hj, h1.frozen j⟩
theorem schedAt_set {w : World} {m : Nat} {b : List UInt8} {t : Nat} {a c : UInt32} (h : SchedAt w m b t a) (ht : t < 64) : SchedAt (w.setCell ⟨m, t, none⟩ (u32v c)) m b t c := by
 obtain ⟨cs, h1, h2, h3⟩ := h
 refine ⟨_, h1.set_ t _, by simp [h2], fun j hj => ?_⟩
 rw [Array.getElem?_setIfInBounds]
 by_cases e : t = j
 ·subst e
  rw [if_pos rfl, if_pos (by omega), if_neg (by omega), if_pos rfl]
 ·rw [if_neg e, h3 j hj]
  by_cases e2 : j < t
  ·rw [if_pos e2, if_pos e2]
  ·rw [if_neg e2, if_neg e2, if_neg (fun h => e h.symm), if_neg (fun h => e h.symm)]
theorem schedAt_next {w : World} {m : Nat} {b : List UInt8} {t : Nat} (h : SchedAt w m b t (sw b t)) : SchedAt w m b (t + 1) 0 := by
 obtain ⟨cs, h1, h2, h3⟩ := h
 refine ⟨cs, h1, h2, fun j hj => ?_⟩
 rw [h3 j hj]
 by_cases e : j < t
 ·rw [if_pos e, if_pos (by omega)]
 ·by_cases e2 : j = t
  ·rw [if_neg e, if_pos e2, if_pos (by omega), e2]
  ·rw [if_neg e, if_neg e2, if_neg (by omega)]
   split <;> rfl
theorem schedAt_cs {w : World} {m : Nat} {b : List UInt8} (h : SchedAt w m b 64 0) : w.rangeAt m 0 (schedV b) := by
 obtain ⟨cs, h1, h2, h3⟩ := h
 intro j v hv
 have hj : j < 64 := by have := (List.getElem?_eq_some_iff.1 hv).1; rw [schedV_len] at this; exact this
 rw [schedV_at b j hj] at hv
 cases hv
 rw [Nat.zero_add, h1.cell j, h3 j hj, if_pos hj]
theorem grown_set' (w : World) (g k : Nat) (v : Value) : w.grownBy (w.setCell ⟨g, k, none⟩ v) (some g) :=
 ⟨rfl, rfl, rfl, by simp [World.setCell], fun j _ hne => Below.heap_setCell w ⟨g, k, none⟩ v j (fun e => hne (by rw [e]))⟩
def BytesAt (w : World) (bb bo : Nat) (b : List UInt8) : Prop := bb < w.heap.size /\ ∀ i x, b[i]? = some x -> w.cell? ⟨bb, bo + i, none⟩ = some (.int .u8 (x.toNat : Int))
theorem BytesAt.below {w w' : World} {bb bo : Nat} {b : List UInt8} (h : BytesAt w bb bo b) (hB : Below w.heap.size w w') : BytesAt w' bb bo b :=
 ⟨Nat.lt_of_lt_of_le h.1 hB.size, fun i x hx => (hB.cell (p := ⟨bb, bo + i, none⟩) h.1).trans (h.2 i x hx)⟩
theorem byte_word (x : UInt8) : IntKind.u32.wrap (x.toNat : Int) = ((w8 x).toNat : Int) := by
 rw [w8_nat, IntKind.wrap_u32']
 have := x.toNat_lt
 omega
theorem byte_word' (x : UInt8) : (x.toNat : Int) % 4294967296 = ((w8 x).toNat : Int) := by rw [<- byte_word, IntKind.wrap_u32']
theorem shl8 (a : UInt32) : (a.toNat : Int) * 256 % 4294967296 = ((wshl a 8).toNat : Int) := shl_eq a 8 (by decide)
theorem shr_lit3 (a : UInt32) : (a.toNat : Int) / 8 = ((wshr a 3).toNat : Int) := shr_eq a 3 (by decide)
theorem shr_lit10 (a : UInt32) : (a.toNat : Int) / 1024 = ((wshr a 10).toNat : Int) := shr_eq a 10 (by decide)
def z64 : Array Value := Array.replicate 64 (.int .u32 0)
theorem z64_at (j : Nat) (hj : j < 64) : z64[j]? = some (.int .u32 0) := by
 unfold z64
 rw [Array.getElem?_replicate, if_pos hj]
theorem bslice (g o c n u m : Nat) (hu : u < m) (hm : m <= n) (hc : n <= c) (w : World) : (Instr.slice 66 (.slice (some ⟨g, o, none⟩) n c) (some (.int .i64 (u : Int))) (some (.int .i64 (m : Int))) none).run Tryz.prog w = .ok (.slice (some ⟨g, o + u, none⟩) (m - u) (c - u)) w := by
 have e3 : u <= m := by omega
 have e4 : ¬ c = u := by omega
 have e6 : m <= c := by omega
 simp [go_sem, e3, e4, e6]
theorem below_drewN2 {B : Nat} {a w : World} (h : Below B a w) (n : Nat) : Below B a (w.drewN n) := ⟨h.os, h.tape, h.output, h.size, h.block⟩
theorem u32v_one (x : UInt32) : (u32v x).oneCell' = true := rfl
theorem infoA64 : (Tryz.prog.info? 166).map (·.size) = some 64 := by kernel_rfl
theorem four_bytes {b : List UInt8} (hl : b.length = 64) (t : Nat) (ht : t < 16) (k : Nat) (hk : k < 4) : ∃ x, b[4 * t + k]? = some x /\ ((b.drop (4 * t)).take (k + 1)) = ((b.drop (4 * t)).take k) ++ [x] := by
 have h1 : 4 * t + k < b.length := by omega
 refine ⟨b[4 * t + k], List.getElem?_eq_getElem h1, ?_⟩
 rw [List.take_add_one, List.getElem?_drop, List.getElem?_eq_getElem h1]
 rfl
set_option maxRecDepth 100000 in
set_option maxHeartbeats 1600000 in
theorem sched_any (w : World) (bb bo c : Nat) (b : List UInt8) (hl : b.length = 64) (hc : 64 <= c) (hb : BytesAt w bb bo b) :
  Calls Tryz.prog 149 #[.slice (some ⟨bb, bo, none⟩) 64 c] w fun e w' => e = .returned (.agg (schedV b).toArray) /\ Below w.heap.size w w' := by
 have hs1 : (w.alloc (.cells z64 166)).heap.size = w.heap.size + 1 := by simp
 have bk := Blk.new (w.alloc (.cells z64 166)) 166 z64
 rw [hs1] at bk
 have HR : Hid (Blk ((w.alloc (.cells z64 166)).alloc (.cells z64 166)) w.heap.size 166 z64) := (Blk.new w 166 z64).alloc _
 have HB : Hid (Below w.heap.size w ((w.alloc (.cells z64 166)).alloc (.cells z64 166))) := by
  have b1 := (Below.refl _ w).alloc (Nat.le_refl _) (.cells z64 166)
  exact b1.alloc b1.size _
 have HS : Hid (SchedAt ((w.alloc (.cells z64 166)).alloc (.cells z64 166)) (w.heap.size + 1) b 0 0) := ⟨_, bk, by rfl, fun j hj => by rw [z64_at j hj, if_neg (by omega)]; split <;> rfl⟩
 clear bk
 go_enter Tryz.func149, Tryz.ntmps149
 go_wp2_with fail
 have Hb := Lib.hid hb
 clear hb hs1
 go_loopw [11] (fun i wr => ∃ t : Nat, t <= 64 /\ i = .int .i64 t /\ Hid (SchedAt wr (w.heap.size + 1) b t 0) /\ Hid (∃ cs, Blk wr w.heap.size 166 cs /\ cs.size = 64) /\ Hid (Below w.heap.size w wr)) (fun i _ => 64 - (intOf i).toNat)
 case atStart => exact ⟨0, Nat.zero_le _, rfl, HS, ⟨_, HR.out, by rfl⟩, HB⟩
 case round =>
  obtain ⟨t, ht, rfl, hS, hR, hB⟩ := hrel
  have hB2 := hB
  by_cases h64 : t < 64
  ·have d64 : decide (t < 64) = true := decide_eq_true h64
   have d64' : decide ((t : Int) < 64) = true := decide_eq_true (by omega)
   by_cases h16 : t < 16
   ·have d16 : decide (t < 16) = true := decide_eq_true h16
    have d16' : decide ((t : Int) < 16) = true := decide_eq_true (by omega)
    have e1 : 0 <= 4 * (t : Int) + 4 /\ 4 * (t : Int) + 4 <= (c : Int) := by omega
    have e2 : ¬ c = 4 * t := by omega
    have H16 := Lib.hid h16
    clear h16
    go_wp2_with fail
    clear e1 e2
    go_loopw [24] (fun i wx => ∃ k : Nat, k <= 4 /\ i = .int .i64 k /\ Hid (SchedAt wx (w.heap.size + 1) b t (word4 (((b.drop (4 * t)).take 4).take k))) /\ Hid (∃ cs, Blk wx w.heap.size 166 cs /\ cs.size = 64) /\ Hid (Below w.heap.size w wx)) (fun i _ => 4 - (intOf i).toNat)
    case atStart => exact ⟨0, Nat.zero_le _, rfl, hS, hR, hB⟩
    case round =>
     clear hS hR hB hB2
     obtain ⟨k, hk, rfl, hS, hR, hB⟩ := hrel
     by_cases hk4 : k < 4
     ·have dk : decide ((k : Int) < 4) = true := decide_eq_true (by omega)
      obtain ⟨x, hx, hx2⟩ := four_bytes hl t H16.out k hk4
      have hx3 : Hid (word4 (((b.drop (4 * t)).take 4).take (k + 1)) = wor (wshl (word4 (((b.drop (4 * t)).take 4).take k)) 8) (w8 x)) := by
       unfold Hid
       rw [List.take_take, List.take_take, Nat.min_eq_left (by omega), Nat.min_eq_left (by omega), hx2]
       unfold word4
       rw [List.foldl_append]
       rfl
      have c1 : wr.cell? ⟨bb, bo + 4 * t + k, none⟩ = some (.int .u8 (x.toNat : Int)) := by
       have := (Hb.out.below hB.out).2 _ x hx
       rw [<- Nat.add_assoc] at this
       exact this
      obtain ⟨a, ha⟩ : ∃ a, word4 (((b.drop (4 * t)).take 4).take k) = a := ⟨_, rfl⟩
      rw [ha] at hS hx3
      obtain ⟨c2, f2⟩ := schedAt_cell hS.out t (by omega)
      rw [if_neg (Nat.lt_irrefl t), if_pos rfl] at c2
      have s8 := shl8 a
      have b8 := byte_word x
      have b8' := byte_word' x
      have hor := w_or (wshl a 8) (w8 x)
      have hSn := Lib.hid (schedAt_set (c := wor (wshl a 8) (w8 x)) hS.out h64)
      have hRn : Hid (∃ cs, Blk (wr.setCell ⟨w.heap.size + 1, t, none⟩ (u32v (wor (wshl a 8) (w8 x)))) w.heap.size 166 cs /\ cs.size = 64) := by
       obtain ⟨cs, h1, h2⟩ := hR.out
       exact ⟨cs, h1.grown (grown_set' wr (w.heap.size + 1) t _) (by simp), h2⟩
      have hBn : Hid (Below w.heap.size w (wr.setCell ⟨w.heap.size + 1, t, none⟩ (u32v (wor (wshl a 8) (w8 x))))) := hB.out.setCell (p := ⟨w.heap.size + 1, t, none⟩) (by show _ <= w.heap.size + 1; omega) _
      have hmeas : Hid (4 - (k + 1) < 4 - k) := by unfold Hid; omega
      clear hx hx2 hS hR hB ha
      have hk4' : ¬ 4 <= (k : Int) := by omega
      go_wp2_with fail
      go_roundw
      case rel => exact ⟨k + 1, by omega, by go_num, by unfold Hid; rw [hx3.out]; exact hSn.out, hRn, hBn⟩
      case measure => simp [intOf]; omega
     ·obtain rfl : k = 4 := by omega
      have dk : decide (((4 : Nat) : Int) < 4) = false := by decide
      have hSn : Hid (SchedAt wr (w.heap.size + 1) b (t + 1) 0) := by
       refine schedAt_next ?_
       have e := hS.out
       rw [List.take_take, Nat.min_self, <- sw_low b t H16.out] at e
       exact e
      clear hS
      go_wp2_with fail
      go_roundw
      case rel => exact ⟨t + 1, by omega, by go_num, hSn, hR, hB⟩
      case measure => simp [intOf]; omega
   ·have d16 : decide (t < 16) = false := decide_eq_false h16
    have d16' : decide ((t : Int) < 16) = false := decide_eq_false (by omega)
    obtain ⟨p, hp⟩ : ∃ p, p + 16 = t := ⟨t - 16, by omega⟩
    have r15 : (t : Int) - 15 = ((p + 1 : Nat) : Int) := by omega
    have r2 : (t : Int) - 2 = ((p + 14 : Nat) : Int) := by omega
    have r16 : (t : Int) - 16 = (p : Int) := by omega
    have r7 : (t : Int) - 7 = ((p + 9 : Nat) : Int) := by omega
    have y15 := (schedAt_cell hS.out (p + 1) (by omega)).1
    have y2 := (schedAt_cell hS.out (p + 14) (by omega)).1
    have y16 := (schedAt_cell hS.out p (by omega)).1
    have y7 := (schedAt_cell hS.out (p + 9) (by omega)).1
    obtain ⟨yt, ft⟩ := schedAt_cell hS.out t (by omega)
    rw [if_pos (by omega)] at y15 y2 y16 y7
    rw [if_neg (Nat.lt_irrefl t), if_pos rfl] at yt
    have hsw := Lib.hid (sw_high b t (by omega) h64)
    rw [show t - 16 = p by omega, show t - 15 = p + 1 by omega, show t - 7 = p + 9 by omega, show t - 2 = p + 14 by omega] at hsw
    generalize sw b (p + 1) = x15 at y15 hsw
    generalize sw b (p + 14) = x2 at y2 hsw
    generalize sw b p = x16 at y16 hsw
    generalize sw b (p + 9) = x7 at y7 hsw
    obtain ⟨p15, hp15⟩ : ∃ q, p + 1 = q := ⟨_, rfl⟩
    obtain ⟨p2, hp2⟩ : ∃ q, p + 14 = q := ⟨_, rfl⟩
    obtain ⟨p7, hp7⟩ : ∃ q, p + 9 = q := ⟨_, rfl⟩
    rw [hp15] at r15 y15
    rw [hp2] at r2 y2
    rw [hp7] at r7 y7
    have b15 : ¬ 64 <= (p15 : Int) := by omega
    have b2 : ¬ 64 <= (p2 : Int) := by omega
    have b16 : ¬ 64 <= (p : Int) := by omega
    have b7 : ¬ 64 <= (p7 : Int) := by omega
    have n15 : p15 < 64 := by omega
    have n2 : p2 < 64 := by omega
    have n16 : p < 64 := by omega
    have n7 : p7 < 64 := by omega
    clear hp hp15 hp2 hp7 h16
    have bt : ¬ 64 <= (t : Int) := by omega
    go_wp2_with (go_quiet (fail))
    have z16 : (wr.drewN nq).cell? ⟨w.heap.size + 1, p, none⟩ = some (u32v x16) := y16
    have z7 : (wr.drewN nq).cell? ⟨w.heap.size + 1, p7, none⟩ = some (u32v x7) := y7
    have zt : (wr.drewN nq).cell? ⟨w.heap.size + 1, t, none⟩ = some (u32v 0) := yt
    have zf : (wr.drewN nq).frozen? ⟨w.heap.size + 1, t, none⟩ = false := ft
    have hS2 : Hid (SchedAt (wr.drewN nq) (w.heap.size + 1) b t 0) := hS.out
    have hR2 : Hid (∃ cs, Blk (wr.drewN nq) w.heap.size 166 cs /\ cs.size = 64) := hR.out
    have hB3 : Hid (Below w.heap.size w (wr.drewN nq)) := below_drewN2 hB.out nq
    clear y15 y2 y16 y7 yt ft hS hR hB hB2
    generalize wr.drewN nq = wq at *
    refine (rot_any wq x15 (-7) 25 (by decide) (by decide) (by decide)).mono ?_
    rintro e w' ⟨rfl, rfl⟩
    go_wp2_with fail
    refine (rot_any wq x15 (-18) 14 (by decide) (by decide) (by decide)).mono ?_
    rintro e w' ⟨rfl, rfl⟩
    have s3 := shr_lit3 x15
    go_wp2_with fail
    refine (rot_any wq x2 (-17) 15 (by decide) (by decide) (by decide)).mono ?_
    rintro e w' ⟨rfl, rfl⟩
    clear s3
    go_wp2_with fail
    refine (rot_any wq x2 (-19) 13 (by decide) (by decide) (by decide)).mono ?_
    rintro e w' ⟨rfl, rfl⟩
    have s10 := shr_lit10 x2
    go_wp2_with fail
    clear s10
    have q1 : wxor (wxor (rotl x15 25) (rotl x15 14)) (wshr x15 3) = sg0 x15 := rfl
    have q2 : wxor (wxor (rotl x2 15) (rotl x2 13)) (wshr x2 10) = sg1 x2 := rfl
    rw [q1, q2]
    clear q1 q2
    generalize sg0 x15 = g0 at *
    generalize sg1 x2 = g1 at *
    have a1 := w_add x16 g0
    have a2 := w_add (wadd x16 g0) x7
    have a3 := w_add (wadd (wadd x16 g0) x7) g1
    have a1' := w_add' x16 g0
    have a2' := w_add' (wadd x16 g0) x7
    have a3' := w_add' (wadd (wadd x16 g0) x7) g1
    go_region
    clear a1 a2 a3 a1' a2' a3' z16 z7 zt zf
    have hSn : Hid (SchedAt (wq.setCell ⟨w.heap.size + 1, t, none⟩ (u32v (wadd (wadd (wadd x16 g0) x7) g1))).drew (w.heap.size + 1) b (t + 1) 0) := by
     have e := schedAt_set (c := wadd (wadd (wadd x16 g0) x7) g1) hS2.out h64
     rw [<- hsw.out] at e ⊢
     exact schedAt_next e
    have hRn : Hid (∃ cs, Blk (wq.setCell ⟨w.heap.size + 1, t, none⟩ (u32v (wadd (wadd (wadd x16 g0) x7) g1))).drew w.heap.size 166 cs /\ cs.size = 64) := by
     obtain ⟨cs, h1, h2⟩ := hR2.out
     exact ⟨cs, (h1.grown (grown_set' wq (w.heap.size + 1) t _) (by simp)).drew, h2⟩
    have hBn : Hid (Below w.heap.size w (wq.setCell ⟨w.heap.size + 1, t, none⟩ (u32v (wadd (wadd (wadd x16 g0) x7) g1))).drew) := (hB3.out.setCell (p := ⟨w.heap.size + 1, t, none⟩) (by show _ <= w.heap.size + 1; omega) _).drew
    go_wp2_with fail
    go_roundw
    case rel => exact ⟨t + 1, by omega, by go_num, hSn, hRn, hBn⟩
    case measure => simp [intOf]; omega
  ·obtain rfl : t = 64 := by omega
   have d64 : decide (((64 : Nat) : Int) < 64) = false := by decide
   have hld := Lib.hid (schedAt_cs hS.out)
   obtain ⟨cs, hb1, hb2⟩ := hR.out
   have hb3 := Lib.hid hb1
   have hb4 := Lib.hid hb2
   have hl64 := Lib.hid (schedV_len b)
   clear hR hS hb1 hb2
   go_wp2_with (first | (refine wpList_load_mid rfl 166 _ rfl (w.heap.size + 1) 0 rfl (schedV b) _ hld.out Tryz.underlying166 rfl (by rw [hl64.out]; exact infoA64) ?_) | (refine wpList_store_mid rfl 166 _ _ rfl w.heap.size 0 (schedV b).toArray rfl rfl (there_of_blk hb3.out (by rw [hb4.out, List.size_toArray, hl64.out]; omega)) (by rw [List.size_toArray, hl64.out]; exact infoA64) (oneCell_map _ _ (fun a => u32v_one _)) ?_))
   exact bodyPost_ret (results_c (P := Tryz.prog) rfl _ _ w.heap.size 166 (schedV b).toArray _ rfl (blk_setWhole hb3.out (schedV b) (by rw [hl64.out, hb4.out])) Tryz.underlying166 rfl (by rw [List.size_toArray, hl64.out]; exact infoA64)) rfl ⟨rfl, below_setCells (Nat.le_refl _) _ _ _ hB.out⟩
end Go.Proofs.YtpghocekofdpbaaGreatDoor
