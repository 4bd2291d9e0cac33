/-
  Tokens by a bound on the rounds, so that the kernel computes them.
-/
import Derived.Test.YtemhiiignamkjaaDoorMA
import Derived.KernelRfl
namespace Go.Proofs.YtemhiiignamkjaaDoor
open LexP

def scanF : Nat → ByteArray → Nat → List Tok → Res
  | 0, _, _, out => .ok out
  | f + 1, s, a, out =>
    if a < s.size then
      if (tokenL (s.data.toList.drop a)).2.1 = 0 then .err a 3
      else if 1099511627776 < (tokenL (s.data.toList.drop a)).2.2 then .err a 2
      else scanF f s (next s a) (out ++ [tokAt s a])
    else .ok out

theorem scan_fuel (s : ByteArray) : ∀ (f a : Nat) (out : List Tok), s.size - a < f → scan s a out = scanF f s a out
  | 0, _, _, h => by omega
  | f + 1, a, out, h => by
    simp only [scanF]
    by_cases h1 : a < s.size
    · rw [if_pos h1]
      by_cases h2 : (tokenL (s.data.toList.drop a)).2.1 = 0
      · rw [if_pos h2, scan_syntax _ _ _ h1 h2]
      · rw [if_neg h2]
        by_cases h3 : 1099511627776 < (tokenL (s.data.toList.drop a)).2.2
        · rw [if_pos h3, scan_limit _ _ _ h1 h2 h3]
        · rw [if_neg h3, scan_step _ _ _ h1 h2 h3]
          exact scan_fuel s f _ _ (by unfold next; omega)
    · rw [if_neg h1, scan_end _ _ _ (by omega)]

theorem tokens_fuel (s : ByteArray) (h : s.size ≤ 4000) : tokens s = scanF (s.size + 1) s (skipB false s.data.toList) [] := by
  unfold tokens
  rw [if_neg (by omega)]
  exact scan_fuel s _ _ _ (by omega)

end Go.Proofs.YtemhiiignamkjaaDoor
