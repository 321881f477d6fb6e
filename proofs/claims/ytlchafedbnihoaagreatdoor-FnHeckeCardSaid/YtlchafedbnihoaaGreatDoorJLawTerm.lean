/- The laws' own helpers over terms: pairs of lists of numbers. Condition: sizes up to 2^24. -/
import Derived.Test.YtlchafedbnihoaaGreatDoorJGOp
import Derived.StillTailTactics
namespace Go.Proofs.YtlchafedbnihoaaGreatDoor
open Go.RowKit
set_option maxRecDepth 20000
abbrev Trm:=List Int × List Int
def RTrm (S:Nat→Prop) (w:World) (r r':Value) (x:Trm):Prop:=RI S w r x.1∧RI S w r' x.2
abbrev RT (S:Nat→Prop):=RL2 (some 39) S (RTrm S)
def zNU (w:World) (r r':Value) (x:Trm):Prop:=RI0 w r x.1∧RI0 w r' x.2
abbrev RT0:=RL2 none Any zNU
theorem RT0.below {w w':World} {v:Value} {L:List Trm} (h:RT0 w v L) (hb:Below w.heap.size w w'):RT0 w' v L :=
 RL2.keep h (fun b _ hl=>hb.block b hl) (fun _ _ _ h=>⟨RI0.below h.1 hb,RI0.below h.2 hb⟩)
theorem RT.keep {S:Nat→Prop} {w w':World} {v:Value} {L:List Trm} (h:RT S w v L) (hb:∀b,S b→b<w.heap.size→w'.heap[b]? = w.heap[b]?):RT S w' v L :=
 RL2.keep h hb (fun _ _ _ h=>⟨RI.keep h.1 hb,RI.keep h.2 hb⟩)
theorem RT.below {S:Nat→Prop} {w w':World} {v:Value} {L:List Trm} (h:RT S w v L) (hb:Below w.heap.size w w'):RT S w' v L:=RT.keep h fun b _ hl=>hb.block b hl
theorem RT.drewN {S:Nat→Prop} {w:World} {v:Value} {L:List Trm} (h:RT S w v L) (n:Nat):RT S (w.drewN n) v L:=RT.keep h fun _ _ _=>rfl
theorem RT.any {S:Nat→Prop} {w:World} {v:Value} {L:List Trm} (h:RT S w v L):RT Any w v L:=RL2.mono h (fun _ _=>trivial) (fun _ _ _ h=>⟨RI.any h.1,RI.any h.2⟩)
theorem RT.old {S:Nat→Prop} {w:World} {v:Value} {L:List Trm} (h:RT S w v L):RT (Bt 0 w.heap.size) w v L:=RL2.old h (fun _ _ _ h=>⟨RI.old h.1,RI.old h.2⟩)
theorem RT.only {S S':Nat→Prop} {w w':World} {v:Value} {L:List Trm} (h:RT S w v L) (k:Only S' w w') (hd:∀b,S b→¬S' b):RT S w' v L:=RT.keep h fun b hs _=>k.block b (hd b hs)
theorem zE6.plain {w:World} {v:Value} {L:List Trm} (h:RL2 none Any zE6 w v L):RT0 w v L:=RL2.mono h (fun _ h=>h) (fun _ _ _ h=>⟨RIW.plain h.1,RIW.plain h.2⟩)
def zAF:List Trm→List (List Int)
 | []=>[]
 | x::L=>x.1::x.2::zAF L
theorem zBa (L:List Trm):(zAF L).length=L.length*2:=by
 induction L with
 | nil=>rfl
 | cons x L ih=>simp [zAF,ih]; omega
theorem zGw (L:List Trm):∀(j:Nat) (x:Trm),L[j]? = some x→(zAF L)[j*2]? = some x.1∧(zAF L)[j*2+1]? = some x.2:=by
 induction L with
 | nil=>intro j x h; simp at h
 | cons y L ih =>
  intro j x h;cases j with
  | zero=>simp at h; subst h; simp [zAF]
  | succ j =>
   simp at h;have:=ih j x h;rw [show (j+1)*2=j*2+1+1 by omega,show j*2+1+1+1=(j*2+1)+1+1 by omega];simpa [zAF] using this
def zAD (L:List Trm):Nat:=L.length+((zAF L).map List.length).sum
theorem zA6 {L:List Trm} {x:Trm} (h:x∈L):L.length+x.1.length+x.2.length≤zAD L:=by
 unfold zAD;have:x.1.length+x.2.length≤((zAF L).map List.length).sum:=by
  induction L with
  | nil=>cases h
  | cons y L ih =>
   rcases List.mem_cons.1 h with rfl | h
   ·simp only [zAF,List.map_cons,List.sum_cons]; omega
   ·have:=ih h; simp [zAF]; omega
 omega
abbrev FT (S:Nat→Prop) (w:World) (v:Value) (L:List Trm):Prop:=FC S 39 2 w v L.length (zAf (zAF L))
theorem FT.below {S:Nat→Prop} {w w':World} {v:Value} {L:List Trm} (h:FT S w v L) (hb:Below w.heap.size w w'):FT S w' v L:=FC.below h hb
theorem FT.only {S S':Nat→Prop} {w w':World} {v:Value} {L:List Trm} (h:FT S w v L) (k:Only S' w w') (hd:∀b,S b→¬S' b):FT S w' v L:=FC.only h k hd
theorem FT.read {S:Nat→Prop} {w:World} {v:Value} {L:List Trm} (h:FT S w v L):RT S w v L:=by
 obtain ⟨vs,h1,h2,h3,h4,_⟩:=h;have hlen:=h1.1;rcases h1.2 with ⟨rfl,h0⟩ | ⟨g,cap,cur,hv,_,hg,hc⟩
 ·have:L=[]:=List.eq_nil_of_length_eq_zero h0;subst this;exact RL2.nil _ _ (by unfold maxLen; omega)
 ·subst hv;refine ⟨_,_,rfl,⟨hc.1,hc.2.1⟩,.inr ⟨g,0,rfl,h3 g rfl,⟨cur,(0,0),hg⟩,fun j x hx=>?_⟩⟩;have hj:j<L.length:=by
   rcases Nat.lt_or_ge j L.length with h | h
   ·exact h
   ·rw [List.getElem?_eq_none h] at hx; cases hx
  obtain ⟨i1,i2⟩:=zGw L j x hx;have k1:=h1.cellAt (j*2) (by omega);have k2:=h1.cellAt (j*2+1) (by omega);rw [zNh (by omega)] at k1 k2;refine ⟨_,_,by rw [Nat.zero_add]; exact k1,by rw [Nat.zero_add]; exact k2,?_,?_⟩
  ·exact FI.reads (h4 (j*2) _ (.inl x.1) (by rw [zNh (by omega)]) (zBI i1))
  ·exact FI.reads (h4 (j*2+1) _ (.inl x.2) (by rw [zNh (by omega)]) (zBI i2))
theorem FT.any {S:Nat→Prop} {w:World} {v:Value} {L:List Trm} (h:FT S w v L):RT Any w v L:=RT.any h.read
end Go.Proofs.YtlchafedbnihoaaGreatDoor
