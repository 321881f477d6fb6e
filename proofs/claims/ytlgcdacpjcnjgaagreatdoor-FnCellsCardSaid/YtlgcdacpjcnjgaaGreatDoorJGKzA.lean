/- Several rows of the call's own, known cell by cell: reading, storing, one row more. No condition. -/
import Derived.Test.YtlgcdacpjcnjgaaGreatDoorJGKlP
namespace Go.Proofs.YtlgcdacpjcnjgaaGreatDoor
open Go.RowKit
set_option maxRecDepth 20000
abbrev Ml:=List (Value × List Value)
abbrev aVs (e:TypeId) (X:Ml):zAI:=fun F w=>(∀x∈X,w.ownsRow 0 e 1 x.1 x.2.length x.2∧∀b,x.1.ownBlock=some b→F b)∧(X.map Prod.fst).Pairwise zFO
theorem zLn (e:TypeId) (X:Ml):zAg (aVs e X):=fun _ _ _ h k=>⟨fun x hx=>⟨zAk (h.1 x hx).1 fun b hb=>k b ((h.1 x hx).2 b hb) ((h.1 x hx).1.lt b hb).2,(h.1 x hx).2⟩,h.2⟩
section
variable {A:Nat→Prop} {w0 w w':World} {Ps:List zAI}
theorem HSx.noVs (h:HSx A w0 w Ps) (e:TypeId):HSx A w0 w (Ps++[aVs e []]) :=
 h.add (Below.refl _ _) (zLn e []) (F:=NoB) ⟨fun x hx=>by simp at hx,List.Pairwise.nil⟩ (fun b hb=>hb.elim)
theorem HSx.moreVs {e:TypeId} {X:Ml} {r:Value} {vs:List Value} (h:HSx A w0 w Ps) (j k:Nat) (hjk:j≠k) (hj:Ps[j]? = some (aVs e X)) (hk:Ps[k]? = some (aV e r vs)) :
  HSx A w0 w ((Ps.set j (aVs e (X++[(r,vs)]))).set k zCI):=by
 refine h.join j k hjk hj hk (zLn _ _) fun F G hF hG hd=>⟨fun x hx=>?_,?_⟩
 ·rcases List.mem_append.1 hx with hx | hx
  ·exact ⟨(hF.1 x hx).1,fun b hb=>.inl ((hF.1 x hx).2 b hb)⟩
  ·simp only [List.mem_singleton] at hx;subst hx;exact ⟨hG.1,fun b hb=>.inr (hG.2 b hb)⟩
 ·rw [List.map_append,List.pairwise_append];refine ⟨hF.2,by simp,fun a ha b hb q hq hq'=>?_⟩;obtain ⟨z,hz,rfl⟩:=List.mem_map.1 ha;simp only [List.map_cons,List.map_nil,List.mem_singleton] at hb;subst hb;exact hd q ((hF.1 z hz).2 q hq) (hG.2 q hq')
theorem zFX {B:Nat} {e:TypeId} {n m cap:Nat} {a:Option Addr} {vs:List Value} (h:w.ownsRow B e 1 (.slice a n cap) m vs):n=m:=by
 rcases h.2 with ⟨hv,h0⟩ | ⟨_,_,_,hv,_⟩
 ·simp at hv; omega
 ·simp at hv; omega
theorem HSx.cellVs {e:TypeId} {X:Ml} {g n cap u k:Nat} {vs:List Value} {r:Value} (h:HSx A w0 w Ps) (j:Nat) (hj:Ps[j]? = some (aVs e X)) (hx:X[u]? = some (.slice (some ⟨g,0,none⟩) n cap,vs)) (hr:vs[k]? = some r) :
  w.cell? ⟨g,k,none⟩=some r∧w.frozen? ⟨g,k,none⟩=false:=by
 obtain ⟨F,hF,_⟩:=HSx.get h j hj;have hx:=hF.1 _ (zTF hx);have hk:=(zTG hr).1;have h1:w.ownsRow 0 e 1 (.slice (some ⟨g,0,none⟩) n cap) vs.length vs:=hx.1;have hn:=zFX h1;subst hn;exact ⟨by rw [h1.cellAt k (by omega)]; exact hr,h1.frozenAt k⟩
theorem HSx.formVs {e:TypeId} {X:Ml} {u:Nat} {x:Value × List Value} (h:HSx A w0 w Ps) (j:Nat) (hj:Ps[j]? = some (aVs e X)) (hx:X[u]? = some x):(∃a cap,x.1=.slice a x.2.length cap)∧(0<x.2.length→∃g cap,x.1=.slice (some ⟨g,0,none⟩) x.2.length cap):=by
 obtain ⟨F,hF,_⟩:=HSx.get h j hj;rcases (hF.1 _ (zTF hx)).1.2 with ⟨hv,h0⟩ | ⟨g,cap,cur,hv,_⟩
 ·exact ⟨⟨_,_,by rw [hv,h0]⟩,fun h=>by omega⟩
 ·exact ⟨⟨_,_,hv⟩,fun _=>⟨g,cap,hv⟩⟩
theorem HSx.putVs {e:TypeId} {X:Ml} {g n cap u:Nat} {vs:List Value} (h:HSx A w0 w Ps) (j:Nat) (hj:Ps[j]? = some (aVs e X)) (hx:X[u]? = some (.slice (some ⟨g,0,none⟩) n cap,vs)) (hnew:w0.heap.size≤g) (k:Nat) (r:Value) :
  HSx A w0 (w.setCell ⟨g,k,none⟩ r) (Ps.set j (aVs e (X.set u (.slice (some ⟨g,0,none⟩) n cap,vs.set k r)))):=by
 have hz:=zAM w ⟨g,k,none⟩ r;have hu:=(zTG hx).1;refine h.upd j hj (zLn _ _) (h.bl.setCell hnew _) (by rw [hz]; exact zTI _) fun F hF _=>⟨F,⟨fun x hx2=>?_,?_⟩,fun _ hb=>.inl hb,fun b _ hb=>heap_setCell_other w ⟨g,k,none⟩ b _ (fun e2=>hb (by have e2:b=g:=e2; subst e2; exact (hF.1 _ (zTF hx)).2 b rfl))⟩
 ·obtain ⟨m,hm⟩:=List.getElem?_of_mem hx2;by_cases e1:m=u
  ·subst e1;rw [List.getElem?_set_self hu] at hm;simp only [Option.some.injEq] at hm;subst hm;have h1:=(hF.1 _ (zTF hx)).1;have hn:=zFX h1;have h1:w.ownsRow 0 e 1 (.slice (some ⟨g,0,none⟩) n cap) vs.length vs:=h1;have hn:n=vs.length:=hn;subst hn;refine ⟨?_,(hF.1 _ (zTF hx)).2⟩;have:=(h1.stored k r).1;show World.ownsRow _ 0 e 1 (.slice (some ⟨g,0,none⟩) vs.length cap) (vs.set k r).length (vs.set k r);rw [List.length_set];exact this
  ·rw [List.getElem?_set_ne (Ne.symm e1)] at hm;have h1:=hF.1 x (zTF hm);refine ⟨zAk h1.1 fun b hb=>heap_setCell_other w ⟨g,k,none⟩ b _ (fun e2=>?_),h1.2⟩;have e2:b=g:=e2;subst e2;have hp:=List.pairwise_iff_getElem.1 hF.2;obtain ⟨lm,em⟩:=zTG hm;obtain ⟨lu,eu⟩:=zTG hx;rcases Nat.lt_or_gt_of_ne e1 with h2 | h2
   ·have:=hp m u (by simpa using lm) (by simpa using lu) h2;simp only [List.getElem_map,em,eu] at this;exact this b hb rfl
   ·have:=hp u m (by simpa using lu) (by simpa using lm) h2;simp only [List.getElem_map,em,eu] at this;exact this b rfl hb
 ·have:(X.set u (Value.slice (some ⟨g,0,none⟩) n cap,vs.set k r)).map Prod.fst=X.map Prod.fst:=by
   rw [List.map_set];refine List.ext_getElem? fun m=>?_;by_cases e1:m=u
   ·subst e1;rw [List.getElem?_set_self (by simpa using hu),List.getElem?_map,hx];rfl
   ·rw [List.getElem?_set_ne (Ne.symm e1)]
  rw [this];exact hF.2
theorem HS.newVs {w0 w:World} {Ps:List zAI} {e:TypeId} {X:Ml} (h:HS w0 w Ps) (j:Nat) (hj:Ps[j]? = some (aVs e X)) {u:Nat} {x:Value × List Value} (hx:X[u]? = some x):∀b,x.1.ownBlock=some b→w0.heap.size≤b:=by
 obtain ⟨F,hF,hn⟩:=h.get j hj;exact fun b hb=>(hn b ((hF.1 _ (zTF hx)).2 b hb)).1
theorem HSx.cellS {Z:Zl} {g n cap u k:Nat} {l:List Int} {x:Int} (h:HSx A w0 w Ps) (j:Nat) (hj:Ps[j]? = some (aRs Z)) (hz:Z[u]? = some (.slice (some ⟨g,0,none⟩) n cap,l)) (hx:l[k]? = some x) :
  w.cell? ⟨g,k,none⟩=some (.int .i64 x)∧w.frozen? ⟨g,k,none⟩=false:=by
 obtain ⟨F,hF,_⟩:=HSx.get h j hj;have hf:FI F w (.slice (some ⟨g,0,none⟩) n cap) l:=hF.1 _ (zTF hz);have hn:=zFX hf.1;have hk:=(zTG hx).1;exact ⟨hf.cell hx (by rw [<-hn] at hk; exact hk),hf.froz hn.symm k⟩
theorem HS.putS {Z:Zl} {g n cap u:Nat} {l:List Int} (h:HS w0 w Ps) (j:Nat) (hj:Ps[j]? = some (aRs Z)) (hz:Z[u]? = some (.slice (some ⟨g,0,none⟩) n cap,l)) (k:Nat) (x:Int) :
  HS w0 (w.setCell ⟨g,k,none⟩ (.int .i64 x)) (Ps.set j (aRs (Z.set u (.slice (some ⟨g,0,none⟩) n cap,l.set k x)))):=by
 have hsz:=zAM w ⟨g,k,none⟩ (.int .i64 x);have hu:=(zTG hz).1;obtain ⟨F0,hF0,hN0⟩:=h.get j hj;have hnew:w0.heap.size≤g:=(hN0 g ((hF0.1 _ (zTF hz)).2 g rfl)).1;refine h.upd j hj (zA7 _) (h.bl.setCell hnew _) (by rw [hsz]; exact zTI _) fun F hF _=>⟨F,⟨fun y hy=>?_,?_⟩,fun _ hb=>.inl hb,fun b _ hb=>heap_setCell_other w ⟨g,k,none⟩ b _ (fun e2=>hb (by have e2:b=g:=e2; subst e2; exact (hF.1 _ (zTF hz)).2 b rfl))⟩
 ·obtain ⟨m,hm⟩:=List.getElem?_of_mem hy;by_cases e1:m=u
  ·subst e1;rw [List.getElem?_set_self hu] at hm;simp only [Option.some.injEq] at hm;subst hm;have hf:FI F w (.slice (some ⟨g,0,none⟩) n cap) l:=hF.1 _ (zTF hz);exact hf.put (zFX hf.1).symm k x
  ·rw [List.getElem?_set_ne (Ne.symm e1)] at hm;have h1:=hF.1 y (zTF hm);refine ⟨zAk h1.1 fun b hb=>heap_setCell_other w ⟨g,k,none⟩ b _ (fun e2=>?_),h1.2⟩;have e2:b=g:=e2;subst e2;have hp:=List.pairwise_iff_getElem.1 hF.2;obtain ⟨lm,em⟩:=zTG hm;obtain ⟨lu,eu⟩:=zTG hz;rcases Nat.lt_or_gt_of_ne e1 with h2 | h2
   ·have:=hp m u (by simpa using lm) (by simpa using lu) h2;simp only [List.getElem_map,em,eu] at this;exact this b hb rfl
   ·have:=hp u m (by simpa using lu) (by simpa using lm) h2;simp only [List.getElem_map,em,eu] at this;exact this b rfl hb
 ·have:(Z.set u (Value.slice (some ⟨g,0,none⟩) n cap,l.set k x)).map Prod.fst=Z.map Prod.fst:=by
   rw [List.map_set];refine List.ext_getElem? fun m=>?_;by_cases e1:m=u
   ·subst e1;rw [List.getElem?_set_self (by simpa using hu),List.getElem?_map,hz];rfl
   ·rw [List.getElem?_set_ne (Ne.symm e1)]
  rw [this];exact hF.2
end
end Go.Proofs.YtlgcdacpjcnjgaaGreatDoor
namespace Go.Proofs.YtlgcdacpjcnjgaaGreatDoor
open Go.RowKit
set_option maxRecDepth 20000
abbrev RIII (S:Nat→Prop):=RL (some 24) S (RII S)
theorem RIII.keep {S:Nat→Prop} {w w':World} {v:Value} {L:List (List (List Int))} (h:RIII S w v L)
  (hb:∀b,S b→b<w.heap.size→w'.heap[b]? = w.heap[b]?):RIII S w' v L:=RL.keep h hb (fun _ _ h=>RII.keep h hb)
theorem RIII.below {S:Nat→Prop} {w w':World} {v:Value} {L:List (List (List Int))} (h:RIII S w v L) (hb:Below w.heap.size w w'):RIII S w' v L :=
 RIII.keep h fun b _ hl=>hb.block b hl
theorem RL.head {α:Type} {e:Option TypeId} {S:Nat→Prop} {R:World→Value→α→Prop} {w:World} {v:Value} {L:List α} (h:RL e S R w v L) (h0:0<L.length):∃b o cap,v=.slice (some ⟨b,o,none⟩) L.length cap:=by
 obtain ⟨a,cap,hv,_,h⟩:=h;rcases h with h | ⟨b,o,ha,_⟩
 ·subst h; simp at h0
 ·exact ⟨b,o,cap,by rw [hv,ha]⟩
theorem RL.get {α:Type} {e:Option TypeId} {S:Nat→Prop} {R:World→Value→α→Prop} {w:World} {b o n cap:Nat} {L:List α} (h:RL e S R w (.slice (some ⟨b,o,none⟩) n cap) L) {j:Nat} {x:α} (hx:L[j]? = some x) :
  ∃r,w.cell? ⟨b,o+j,none⟩=some r∧R w r x:=by
 obtain ⟨a,cap',hv,_,h⟩:=h;simp only [Value.slice.injEq] at hv;rcases h with h | ⟨b',o',ha,_,_,h⟩
 ·subst h; simp at hx
 ·have e:=hv.1.trans ha;simp only [Option.some.injEq,Addr.mk.injEq,and_true] at e;obtain ⟨rfl,rfl⟩:=e;exact h j x hx
theorem RII.get {S:Nat→Prop} {w:World} {b o n cap:Nat} {L:List (List Int)} (h:RII S w (.slice (some ⟨b,o,none⟩) n cap) L) {j:Nat} {x:List Int} (hx:L[j]? = some x) :
  ∃a c,w.cell? ⟨b,o+j,none⟩=some (.slice a x.length c)∧RI S w (.slice a x.length c) x:=by
 obtain ⟨r,h1,h2⟩:=RL.get h hx;obtain ⟨a,c,rfl⟩:=h2.form;exact ⟨a,c,h1,h2⟩
theorem RI.get {S:Nat→Prop} {w:World} {b o n cap:Nat} {L:List Int} (h:RI S w (.slice (some ⟨b,o,none⟩) n cap) L) {j:Nat} {x:Int} (hx:L[j]? = some x):w.cell? ⟨b,o+j,none⟩=some (.int .i64 x):=by
 obtain ⟨r,h1,h2⟩:=RL.get h hx;rw [h1]; exact congrArg some h2
theorem RIII.get {S:Nat→Prop} {w:World} {b o n cap:Nat} {L:List (List (List Int))} (h:RIII S w (.slice (some ⟨b,o,none⟩) n cap) L) {j:Nat} {x:List (List Int)} (hx:L[j]? = some x) :
  ∃a c,w.cell? ⟨b,o+j,none⟩=some (.slice a x.length c)∧RII S w (.slice a x.length c) x:=by
 obtain ⟨r,h1,h2⟩:=RL.get h hx;obtain ⟨a,c,rfl⟩:=h2.form;exact ⟨a,c,h1,h2⟩
abbrev Z3:=List (Value × List (List Int))
abbrev aR3 (Z:Z3):zAI:=fun F w=>∀x∈Z,RII F w x.1 x.2
theorem zPy (Z:Z3):zAg (aR3 Z):=fun _ _ _ h k x hx=>RII.keep (h x hx) k
section
variable {A:Nat→Prop} {w0 w w':World} {Ps:List zAI}
theorem HSx.noR3 (h:HSx A w0 w Ps):HSx A w0 w (Ps++[aR3 []]):=h.add (Below.refl _ _) (zPy []) (F:=NoB) (fun x hx=>by simp at hx) (fun b hb=>hb.elim)
theorem HSx.moreR3 {Z:Z3} {r:Value} {L:List (List Int)} (h:HSx A w0 w Ps) (j k:Nat) (hjk:j≠k) (hj:Ps[j]? = some (aR3 Z)) (hk:Ps[k]? = some (aF r L)) :
  HSx A w0 w ((Ps.set j (aR3 (Z++[(r,L)]))).set k zCI):=by
 refine h.join j k hjk hj hk (zPy _) fun F G hF hG hd x hx=>?_;rcases List.mem_append.1 hx with hx | hx
 ·exact RL.mono (hF x hx) (fun b hb=>.inl hb) (fun _ _ h=>RI.mono h (fun b hb=>.inl hb))
 ·rw [List.mem_singleton] at hx;subst hx;exact RL.mono (FII.read hG) (fun b hb=>.inr hb) (fun _ _ h=>RI.mono h (fun b hb=>.inr hb))
theorem HSx.read3 {v:Value} {Z:Z3} (h:HSx A w0 w Ps) (i j:Nat) (hi:Ps[i]? = some (aV 24 v (Z.map Prod.fst))) (hj:Ps[j]? = some (aR3 Z)):RIII Any w v (Z.map Prod.snd):=by
 obtain ⟨F,hF,_⟩:=HSx.get h i hi;obtain ⟨G,hG,_⟩:=HSx.get h j hj;refine RL.of_own hF.1 (by simp) (fun b _ _=>trivial) (fun m x r hx hr=>?_);rw [List.getElem?_map] at hr hx;obtain ⟨z,hz,rfl⟩:=Option.map_eq_some_iff.1 hr;rw [hz] at hx;simp only [Option.map_some,Option.some.injEq] at hx;subst hx;exact RII.any (hG z (zTF hz))
theorem zSO (h:HSx A w0 w Ps) (r:Value) {w1:World} (hw:w1=w.alloc (.cells #[r] 24)):HSx A w0 w1 (Ps++[aV 24 (.slice (some ⟨w.heap.size,0,none⟩) 1 1) [r]]):=by
 subst hw;refine h.add ((Below.refl _ _).alloc (zTI _) _) (st_V _ _ _) (F:=fun b=>b=w.heap.size) ⟨?_,fun b hb=>by simpa [Value.ownBlock] using hb.symm⟩ (fun b hb=>by subst hb; exact ⟨zTI _,by simp⟩);exact World.ownsRow_lit (base:=0) (e:=24) (size:=1) w #[r] 1 (Nat.zero_le _) (by unfold maxLen; omega) rfl
end
theorem zHc:(Tryz.prog.info? 24).map (fun i=>(i.zero,i.size,i.bytes))=some (some (.slice none 0 0),1,24):=by kernel_rfl
end Go.Proofs.YtlgcdacpjcnjgaaGreatDoor
namespace Go.Proofs.YtlgcdacpjcnjgaaGreatDoor
open Go.RowKit
set_option maxRecDepth 20000
set_option maxHeartbeats 8000000
theorem zRl {d:Int} (h:d % 2=0):(d.tmod 2 == 0)=true:=by
 obtain ⟨k,rfl⟩:=Int.dvd_of_emod_eq_zero h;simp
theorem zJf {d:Int} (h:¬d % 2=0):(d.tmod 2 == 0)=false:=by
 simp only [beq_eq_false_iff_ne,ne_eq];intro e;have:=Int.dvd_of_tmod_eq_zero e;omega
theorem zSo {d:Int} (h:d<0):(d-1).tdiv 2<0:=by
 have e:(d-1).tdiv 2 = -((1-d).tdiv 2):=by rw [<-Int.neg_tdiv]; congr 1; omega
 rw [e,Int.tdiv_eq_ediv_of_nonneg (by omega)];omega
theorem zI4 {S:Nat→Prop} {v:Value} {p:List Int} {w:World} (h:RI S w v p) {d:Int} (h1:-1000≤d) (h2:d≤1000) (hl:p.length≤16777216) :
  Calls Tryz.prog 94 #[v,.int .i64 d] w fun e w'=>e=.returned (.int .i64 (muS p d))∧∃m,w'=w.drewN m:=by
 obtain ⟨a,cap,rfl⟩:=h.form;have HR:Hid (muS p d=if d<0∨d % 2=0∨p.length≤((d-1) / 2).toNat then 0 else num p ((d-1) / 2).toNat):=zTD rfl;generalize muS p d=res at *;by_cases he:d % 2=0
 ·have HZ:Hid (res=0):=zTD (by rw [HR.out,if_pos (.inr (.inl he))]);obtain ⟨k,rfl⟩:=Int.dvd_of_emod_eq_zero he;clear HR he;go_enter Tryz.func94,Tryz.ntmps94
  go_wp2_with fail
  go_ret
  exact ⟨zAR HZ.out.symm,dr0⟩
 ·have e0:=zJf he;by_cases hn:d<0
  ·have HZ:Hid (res=0):=zTD (by rw [HR.out,if_pos (.inl hn)]);have i1:¬(p.length:Int)≤(d-1).tdiv 2:=by have:=zSo hn; omega
   clear HR;go_enter Tryz.func94,Tryz.ntmps94
   go_wp2_with fail
   go_ret
   exact ⟨zAR HZ.out.symm,dr0⟩
  ·obtain ⟨k,rfl⟩:∃k:Nat,d=2*(k:Int)+1:=⟨((d-1) / 2).toNat,by omega⟩;have e1:((2*(k:Int)+1-1) / 2).toNat=k:=by omega
   rw [e1] at HR;clear e1 hn he e0;have hk:k≤1000:=by omega
   have e0:((2*(k:Int)+1).tmod 2 == 0)=false:=zJf (by omega);have e2:(2*(k:Int)+1-1).tdiv 2=(k:Int):=by rw [Int.tdiv_eq_ediv_of_nonneg (by omega)]; omega
   have hn:¬(2*(k:Int)+1)<0:=by omega
   by_cases hp:p.length≤k
   ·have HZ:Hid (res=0):=zTD (by rw [HR.out,if_pos (.inr (.inr hp))]);have i1:(p.length:Int)≤(2*(k:Int)+1-1).tdiv 2:=by omega
    clear HR e2;go_enter Tryz.func94,Tryz.ntmps94
    go_wp2_with fail
    go_ret
    exact ⟨zAR HZ.out.symm,dr0⟩
   ·have HZ:Hid (res=num p k):=zTD (by rw [HR.out,if_neg (fun h=>h.elim (by omega) fun h=>h.elim (by omega) hp)]);have i1:¬(p.length:Int)≤(2*(k:Int)+1-1).tdiv 2:=by omega
    have i2:(k:Int)<(p.length:Int):=by omega
    obtain ⟨b,o,x,rfl,hc,hx⟩:=RI.at h (show k<p.length by omega);have HX:Hid (x=res):=zTD (by rw [HZ.out]; unfold num; rw [hx.out]; rfl);clear HR hx HZ;generalize p.length=m at *;go_enter Tryz.func94,Tryz.ntmps94
    go_wp2_with fail
    go_ret
    exact ⟨zAR HX.out,dr0⟩
theorem zKh {S:Nat→Prop} {v:Value} {p:List Int} {w:World} (h:RI S w v p) {d:Int} (h1:-1000≤d) (h2:d≤1000) (hl:p.length≤16777216) :
  Calls Tryz.prog 94 #[v,.int .i64 d] w fun e w'=>e=.returned (.int .i64 (muS p d))∧Below w.heap.size w w' :=
 (zI4 h h1 h2 hl).mono fun _ _ ⟨he,m,hw⟩=>⟨he,hw ▸ below_drewN (Below.refl _ _) m⟩
end Go.Proofs.YtlgcdacpjcnjgaaGreatDoor
