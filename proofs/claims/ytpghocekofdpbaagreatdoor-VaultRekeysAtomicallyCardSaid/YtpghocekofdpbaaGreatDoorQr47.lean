import Derived.Test.YtpghocekofdpbaaGreatDoorQr27
namespace Go.Proofs.YtpghocekofdpbaaGreatDoor
theorem Qr (n t:Nat) (h:0<n/2^(8*t)):∀ j,t<j->t<uQ n j
 | 0,hj=>absurd hj (Nat.not_lt_zero _)
 | j+1,hj=>by
  unfold uQ;split
  ·exact hj
  ·rename_i hn;rcases Nat.lt_or_eq_of_le (Nat.le_of_lt_succ hj) with h1 | h1
   ·exact Qr n t h j h1
   ·rw[h1] at h;exact absurd h hn
theorem LC (n t:Nat) (h:n/2^(8*t)=0):∀ j,uQ n j<=t
 | 0=>iT _
 | j+1=>by
  unfold uQ;split
  ·rename_i hn;rcases Nat.lt_or_ge j t with h1 | h1
   ·exact h1
   ·have h2:n/2^(8*j)<=n/2^(8*t):=Nat.div_le_div_left (Nat.pow_le_pow_right (by decide) (Nat.mul_le_mul_left 8 h1)) (Nat.two_pow_pos _);omega
  ·exact LC n t h j
theorem agK (n t:Nat) (hn:n<9223372036854775808) (h:0<n/2^(8*t)):t<F8 n:=by
 refine Qr n t h 8 ?_;rcases Nat.lt_or_ge t 8 with h1 | h1
 ·exact h1
 ·have h2:n/2^(8*t)<=n/2^(8*8):=Nat.div_le_div_left (Nat.pow_le_pow_right (by decide) (Nat.mul_le_mul_left 8 h1)) (Nat.two_pow_pos _);have h3:n/2^(8*8)=0:=Nat.div_eq_of_lt (by omega);omega
theorem ad1 (n t:Nat) (h:n/2^(8*t)=0):F8 n<=t:=LC n t h 8
def zJ (n t:Nat):List UInt8:=(List.range t).map fun i=>UInt8.ofNat (n/2^(8*i))
theorem Qs (n t:Nat):(zJ n t).length=t:=by unfold zJ;rw[lq,List.length_range]
theorem Yx (n t:Nat):zJ n (t+1)=zJ n t++ [UInt8.ofNat (n/2^(8*t))]:=by
 unfold zJ;rw[List.range_succ,Gh];rfl
theorem abb (n k i:Nat) (h:i<k):(zJ n k)[i]? =some (UInt8.ofNat (n/2^(8*i))):=by
 unfold zJ;rw[sD,List.getElem?_range h];rfl
theorem abd (n t:Nat):n/2^(8*t)/256=n/2^(8*(t+1)):=by
 rw[Nat.div_div_eq_div_mul]
 congr 1
 rw[show 8*(t+1)=8*t+8 by omega,Nat.pow_add]
end Go.Proofs.YtpghocekofdpbaaGreatDoor
