import Derived.Test.YtpghocekofdpbaaGreatDoorQr15
import Derived.Test.YtpghocekofdpbaaGreatDoorQr11
namespace Go.Proofs.YtpghocekofdpbaaGreatDoor
open Go.RowKit Go.Shelf
attribute [local go_sem] Oper.semAt_some
structure DUp (D:Dev):Prop where
 down:D.down=false
 left:D.left= -1
theorem DUp.le {D:Dev} (h:DUp D): -1<=D.left/\D.left<=9223372036854775807:=by rw[h.left];decide
theorem vM {s k:Nat} (h:k<s):s-(intOf (.int .i64 ((k:Int)+1))).toNat<s-(intOf (.int .i64 (k:Int))).toNat:=by
 simp[intOf];omega
section
variable {w w':World} {a:nP} {D:Dev} {l:List ByteArray} {v:Value}
theorem OW.cell {g c m k:Nat} {t:ByteArray} (h:OW w (.slice (some ⟨g,0,none⟩) m c) l a) (ht:l[k]? =some t):w.cell? ⟨g,k,none⟩=some (.string t):=by
 have hk:=(List.getElem?_eq_some_iff.1 ht).1;have hm:m=l.length:=by
  rcases h.texts.2 with⟨h0,_⟩ | ⟨_,_,_,h0,_⟩
  ·cases h0
  ·cases h0;rfl
 subst hm;rw[World.ownsRow.cellAt h.texts k (by omega)];simp[strCells,ht]
theorem dJ.box (hF:dJ w w' a) (h:aO w a D) {k:Nat} {t:TypeId} {cs:Array Value} (hk:ak w k t cs) (ht:t≠89/\t≠139/\t≠9/\t≠4):ak w' k t cs:=
 (hF.blk h hk (fun e=>absurd e ht.1) (fun e=>absurd e ht.2.1) (fun e=>absurd e ht.2.2.1) (fun e=>absurd e ht.2.2.2)).trans hk
theorem aO.off (h:aO w a D) {k:Nat} (hg:w.grownBy w' (some k)) (hk:k≠a.d/\k≠a.b/\k≠a.g/\k≠a.sb/\k≠a.fb):aO w' a D:=by
 obtain⟨k1,k2,k3,k4,k5⟩:=hk;exact⟨h.blk.grown hg (fun e=>k1 (by cases e;rfl)),h.mem.grown hg (fun e=>k2 (by cases e;rfl)) (fun e=>k3 (by cases e;rfl)),h.lC.kept hg (.inr (fun e=>k4 (by cases e;rfl))),h.o7.kept hg (.inr (fun e=>k5 (by cases e;rfl)))⟩
theorem OW.off {k:Nat} (h:OW w v l a) (hg:w.grownBy w' (some k)) (hk:v.ownBlock≠some k):OW w' v l a:=by
 refine⟨World.ownsRow.kept h.texts hg ?_,h.own⟩;cases hv:v.ownBlock with
 | none=>exact .inl rfl
 | some j=>exact .inr (fun e=>hk (by rw[hv];exact e))
end
end Go.Proofs.YtpghocekofdpbaaGreatDoor
