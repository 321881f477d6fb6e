/- Several rows of the call's own, known cell by cell: reading, storing, one row more. No condition. -/
import Derived.Test.YtphbichgpcicnaaGreatDoorJGHeap
namespace Go.Proofs.YtphbichgpcicnaaGreatDoor
open Go.RowKit
set_option maxRecDepth 20000
section
variable {A:Nat→Prop} {w0 w w':World} {Ps:List zAF}
theorem zMh {B:Nat} {e:TypeId} {n m cap:Nat} {a:Option Addr} {vs:List Value} (h:w.ownsRow B e 1 (.slice a n cap) m vs):n=m:=by
 rcases h.2 with ⟨hv,h0⟩ | ⟨_,_,_,hv,_⟩
 ·simp at hv; omega
 ·simp at hv; omega
theorem HSx.cellS {Z:Zl} {g n cap u k:Nat} {l:List Int} {x:Int} (h:HSx A w0 w Ps) (j:Nat) (hj:Ps[j]? = some (aRs Z)) (hz:Z[u]? = some (.slice (some ⟨g,0,none⟩) n cap,l)) (hx:l[k]? = some x) :
  w.cell? ⟨g,k,none⟩=some (.int .i64 x)∧w.frozen? ⟨g,k,none⟩=false:=by
 obtain ⟨F,hF,_⟩:=HSx.get h j hj;have hf:FI F w (.slice (some ⟨g,0,none⟩) n cap) l:=hF.1 _ (zWH hz);have hn:=zMh hf.1;have hk:=(zWI hx).1;exact ⟨hf.cell hx (by rw [<-hn] at hk; exact hk),hf.froz hn.symm k⟩
theorem HS.putS {Z:Zl} {g n cap u:Nat} {l:List Int} (h:HS w0 w Ps) (j:Nat) (hj:Ps[j]? = some (aRs Z)) (hz:Z[u]? = some (.slice (some ⟨g,0,none⟩) n cap,l)) (k:Nat) (x:Int) :
  HS w0 (w.setCell ⟨g,k,none⟩ (.int .i64 x)) (Ps.set j (aRs (Z.set u (.slice (some ⟨g,0,none⟩) n cap,l.set k x)))):=by
 have hsz:=zAI w ⟨g,k,none⟩ (.int .i64 x);have hu:=(zWI hz).1;obtain ⟨F0,hF0,hN0⟩:=h.get j hj;have hnew:w0.heap.size≤g:=(hN0 g ((hF0.1 _ (zWH hz)).2 g rfl)).1;refine h.upd j hj (zBs _) (h.bl.setCell hnew _) (by rw [hsz]; exact zWK _) fun F hF _=>⟨F,⟨fun y hy=>?_,?_⟩,fun _ hb=>.inl hb,fun b _ hb=>heap_setCell_other w ⟨g,k,none⟩ b _ (fun e2=>hb (by have e2:b=g:=e2; subst e2; exact (hF.1 _ (zWH hz)).2 b rfl))⟩
 ·obtain ⟨m,hm⟩:=List.getElem?_of_mem hy;by_cases e1:m=u
  ·subst e1;rw [List.getElem?_set_self hu] at hm;simp only [Option.some.injEq] at hm;subst hm;have hf:FI F w (.slice (some ⟨g,0,none⟩) n cap) l:=hF.1 _ (zWH hz);exact hf.put (zMh hf.1).symm k x
  ·rw [List.getElem?_set_ne (Ne.symm e1)] at hm;have h1:=hF.1 y (zWH hm);refine ⟨zAw h1.1 fun b hb=>heap_setCell_other w ⟨g,k,none⟩ b _ (fun e2=>?_),h1.2⟩;have e2:b=g:=e2;subst e2;have hp:=List.pairwise_iff_getElem.1 hF.2;obtain ⟨lm,em⟩:=zWI hm;obtain ⟨lu,eu⟩:=zWI hz;rcases Nat.lt_or_gt_of_ne e1 with h2 | h2
   ·have:=hp m u (by simpa using lm) (by simpa using lu) h2;simp only [List.getElem_map,em,eu] at this;exact this b hb rfl
   ·have:=hp u m (by simpa using lu) (by simpa using lm) h2;simp only [List.getElem_map,em,eu] at this;exact this b rfl hb
 ·have:(Z.set u (Value.slice (some ⟨g,0,none⟩) n cap,l.set k x)).map Prod.fst=Z.map Prod.fst:=by
   rw [List.map_set];refine List.ext_getElem? fun m=>?_;by_cases e1:m=u
   ·subst e1;rw [List.getElem?_set_self (by simpa using hu),List.getElem?_map,hz];rfl
   ·rw [List.getElem?_set_ne (Ne.symm e1)]
  rw [this];exact hF.2
end
end Go.Proofs.YtphbichgpcicnaaGreatDoor
