/- A term of an element, by the program and by the reference. Condition: sizes up to 2^24. -/
import Derived.Test.YtlchafedbnihoaaGreatDoorJGColl
namespace Go.Proofs.YtlchafedbnihoaaGreatDoor
open Go.RowKit
set_option maxRecDepth 20000
set_option maxHeartbeats 16000000
def zAd (c:List (List Int)) (l:List Int):List Trm:=if isWd c l then [(zAi c l,[1])] else []
theorem zGm (c:List (List Int)) (l:List Int):zAD (zAd c l)≤l.length+2:=by
 unfold zAd;have:=zDh c l;cases isWd c l <;> simp [zAD,zAF] <;> omega
theorem zI6 (x y:List Int):zAf (zAF [(x,y)])=[.inl x,.inl y]:=rfl
theorem FT.one {W w w':World} {u v:Value} {x y:List Int} (hu:FI (New W w) w u x) (hv:FI (New W w) w v y) (hd:∀b,u.ownBlock=some b→v.ownBlock≠some b) (hs:W.heap.size≤w.heap.size)
  (hw:w'=w.alloc (.cells #[u,v] 39)):FT (New W w') w' (.slice (some ⟨w.heap.size,0,none⟩) 1 1) [(x,y)]:=by
 have hb:Below w.heap.size w w':=by rw [hw]; exact (Below.refl _ w).alloc (zNl _) _
 have hu':=hu.grow hb;have hv':=hv.grow hb;have hrow:w'.ownsRow w.heap.size 39 2 (.slice (some ⟨w.heap.size,0,none⟩) 1 1) 1 [u,v]:=by
  rw [hw];exact World.ownsRow_lit (base:=w.heap.size) (e:=39) (size:=2) w #[u,v] 1 (zNl _) (by unfold maxLen; omega) rfl
 refine ⟨[u,v],zBp hrow (Nat.zero_le _),rfl,fun b hb'=>?_,fun j r z hr hz=>?_,fun i j r r' b hij hr hr' hb'=>?_⟩
 ·have:=hrow.lt b hb'; exact ⟨by omega,this.2⟩
 ·rw [zI6] at hz
  match j,hr,hz with
  | 0,hr,hz=>simp at hr hz; subst hr; subst hz; exact hu'
  | 1,hr,hz=>simp at hr hz; subst hr; subst hz; exact hv'
 ·match i,j,hr,hr' with
  | 0,0,_,_=>exact absurd rfl hij
  | 0,1,hr,hr'=>simp at hr hr'; subst hr; subst hr'; exact hd b hb'
  | 1,0,hr,hr'=>simp at hr hr'; subst hr; subst hr'; exact fun h=>hd b h hb'
  | 1,1,_,_=>exact absurd rfl hij
theorem zFi (w:World) (X:Obj):(w.alloc X).heap.size=w.heap.size+1:=by simp
theorem FI.lit1 {W w w':World} {x:Int} (hs:W.heap.size≤w.heap.size) (hw:w'=w.alloc (.cells #[.int .i64 x] 3)):FI (New W w') w' (.slice (some ⟨w.heap.size,0,none⟩) 1 1) [x]:=by
 subst hw;exact (FI.of_row (w:=w) (World.ownsRow_lit (base:=w.heap.size) (e:=3) (size:=1) w #[.int .i64 x] 1 (zNl _) (by unfold maxLen; omega) rfl) (zNl _) rfl rfl).mono (fun b hb=>⟨by have:=hb.1; omega,hb.2⟩)
theorem zFl {S S':Nat→Prop} {u v:Value} {c:List (List Int)} {l:List Int} {w:World} (h:RII S w u c) (h':RI S' w v l) (hl:total c≤16777216) (hl':l.length≤16777216) :
  Calls Tryz.prog 27 #[u,v] w fun e w'=>∃r,e=.returned (.tuple #[r,.bool (isWd c l)])∧FT (New w w') w' r (zAd c l)∧Below w.heap.size w w':=by
 have HY:Hid (isWd c l=true→zAd c l=[(zAi c l,[1])]):=zNg (fun h=>by unfold zAd; rw [if_pos h]);have HN:Hid (isWd c l=false→zAd c l=[]):=zNg (fun h=>by unfold zAd; rw [h]; rfl);go_enter Tryz.func27,Tryz.ntmps27
 go_wp2_with fail
 refine (zFy h h' hl hl').mono ?_;rintro e w3 ⟨r,rfl,f3,b3⟩;obtain ⟨a3,cap3,rfl⟩:=f3.form;generalize (zAi c l).length=n3 at *;cases hg:isWd c l
 ·have e0:=HN.out hg;go_wp2_with fail
  go_ret2
  rw [e0,hg];exact ⟨_,rfl,FC.of_row (w:=w) (World.ownsRow_lit (base:=w3.heap.size) (e:=39) (size:=2) w3 #[] 0 (zNl _) (by unfold maxLen; omega) rfl) b3.size rfl (fun j r x hr _=>by simp at hr),b3.alloc b3.size _⟩
 ·have e0:=HY.out hg;go_wp2_with fail
  go_ret2
  have f4:=FI.lit1 (W:=w) (w:=w3) (x:=1) b3.size rfl;have hd:∀b,(Value.slice a3 n3 cap3).ownBlock=some b→(Value.slice (some ⟨w3.heap.size,0,none⟩) 1 1).ownBlock≠some b:=fun b hb hb'=>by
   have:=(f3.2 b hb).2;simp [Value.ownBlock] at hb';omega
  have bb:=(Below.refl w3.heap.size w3).alloc (zNl _) (.cells #[.int .i64 1] 3);have f5:=FT.one (f3.grow bb) f4 hd (Nat.le_trans b3.size bb.size) rfl;rw [zFi] at f5;rw [e0,hg];exact ⟨_,rfl,f5,(zAA.step b3 bb).alloc (Nat.le_trans b3.size bb.size) _⟩
theorem zBr {S S':Nat→Prop} {u v:Value} {x y:List Int} {w:World} (h:RI S w u x) (h':RI S' w v y) (hl:x.length≤16777216) (hl':y.length≤16777216) :
  Calls Tryz.prog 47 #[u,v] w fun e w'=>∃p q,e=.returned (.agg #[p,q])∧FI (New w w') w' p x∧FI (New w w') w' q y∧(∀b,p.ownBlock=some b→q.ownBlock≠some b)∧Below w.heap.size w w':=by
 have h:=h.old;have h':=h'.old;obtain ⟨a,cap,rfl⟩:=h.form;obtain ⟨a',cap',rfl⟩:=h'.form;generalize hn:x.length=n at *;have HX:=zNg hn;generalize hn':y.length=n' at *;have HY:=zNg hn';clear hn hn';go_enter Tryz.func47,Tryz.ntmps47
 have HW:Hid True:=zNg trivial;have b1:Below w.heap.size w (w.alloc (.cells #[.slice none 0 0,.slice none 0 0] 39)):=(Below.refl _ w).alloc (zNl _) _;have z1:(w.alloc (.cells #[.slice none 0 0,.slice none 0 0] 39)).heap.size=w.heap.size+1:=zFi _ _;have c10:(w.alloc (.cells #[.slice none 0 0,.slice none 0 0] 39)).cell? ⟨w.heap.size,0,none⟩=some (.slice none 0 0):=by go_simp
 have c11:(w.alloc (.cells #[.slice none 0 0,.slice none 0 0] 39)).cell? ⟨w.heap.size,1,none⟩=some (.slice none 0 0):=by go_simp
 have f10:(w.alloc (.cells #[.slice none 0 0,.slice none 0 0] 39)).frozen? ⟨w.heap.size,0,none⟩=false:=by go_simp
 have f11:(w.alloc (.cells #[.slice none 0 0,.slice none 0 0] 39)).frozen? ⟨w.heap.size,1,none⟩=false:=by go_simp
 have hx1:=h.below b1;generalize hW1:w.alloc (.cells #[.slice none 0 0,.slice none 0 0] 39)=W1 at *;obtain ⟨f1,b2⟩:=zAa (W:=W1) (w:=W1) (Below.refl _ W1) rfl;rw [z1] at f1;go_wp2_with (at_builtin; go_must (refine zAG (W:=W1) rfl _ _ rfl rfl f1 b2 rfl (hx1.below b2) ?_ ?_))
 ·have:=HX.out; simp; omega
 ·intro p w2 f2 b3 _;have f2:FI (New W1 w2) w2 p x:=by first | exact f2 | (unfold New; rw [z1]; exact f2)
  have b3:Below W1.heap.size W1 w2:=by first | exact b3 | (rw [z1]; exact b3)
  have hy2:=(h'.below b1).below b3;obtain ⟨pa,pc,rfl⟩:=f2.form;rw [HX.out] at f2 ⊢;have c10:=(b3.cell (p:=⟨w.heap.size,0,none⟩) (by simp; omega)).trans c10;have c11:=(b3.cell (p:=⟨w.heap.size,1,none⟩) (by simp; omega)).trans c11;have f10:=(b3.frozen (p:=⟨w.heap.size,0,none⟩) (by simp; omega)).trans f10;have f11:=(b3.frozen (p:=⟨w.heap.size,1,none⟩) (by simp; omega)).trans f11;obtain ⟨f3,b4⟩:=zAa (W:=w2) (w:=w2) (Below.refl _ w2) rfl;go_wp2_with (at_builtin; go_must (refine zAG (W:=w2) rfl _ _ rfl rfl f3 b4 rfl (hy2.below b4) ?_ ?_))
  ·have:=HY.out; simp; omega
  ·intro q w3 f4 b5 _;have f4:FI (New w2 w3) w3 q y:=f4;obtain ⟨qa,qc,rfl⟩:=f4.form;rw [HY.out] at f4 ⊢;have f2:=f2.below b5;have z2:=b3.size;have c10:=(b5.cell (p:=⟨w.heap.size,0,none⟩) (by simp; omega)).trans c10;have c11:=(b5.cell (p:=⟨w.heap.size,1,none⟩) (by simp; omega)).trans c11;have f10:=(b5.frozen (p:=⟨w.heap.size,0,none⟩) (by simp; omega)).trans f10;have f11:=(b5.frozen (p:=⟨w.heap.size,1,none⟩) (by simp; omega)).trans f11;go_wp2_with fail
   have z3:=b5.size;refine bodyPost_ret (v:=.agg #[.slice pa n pc,.slice qa n' qc]) (by simp [results,Tryz.results47,go_sem,c10,c11]) rfl ⟨_,_,rfl,?_,?_,?_,?_⟩
   ·have g0:¬New W1 w2 w.heap.size:=fun hb=>by have:=hb.1; omega
    exact ((f2.set _ g0).set _ g0).mono (fun b hb=>⟨by have:=hb.1; omega,by simp only [zAw]; have:=hb.2; omega⟩)
   ·have g0:¬New w2 w3 w.heap.size:=fun hb=>by have:=hb.1; omega
    exact ((f4.set _ g0).set _ g0).mono (fun b hb=>⟨by have:=hb.1; omega,by simp only [zAw]; exact hb.2⟩)
   ·intro b hb hb';have h1:=(f2.2 b hb).2;have h2:=(f4.2 b hb').1;omega
   ·exact ((zAA.step b1 (zAA.step b3 b5)).setCell (by simp) _).setCell (by simp) _
theorem zDG {S S':Nat→Prop} {u v:Value} {c:List (List Int)} {l:List Int} {w:World} (h:RII S w u c) (h':RI S' w v l) (hl:total c≤16777216) (hl':l.length≤16777216) :
  Calls Tryz.prog 13 #[u,v] w fun e w'=>∃r,e=.returned (.tuple #[r,.bool (isWd c l)])∧FT (New w w') w' r (zAd c l)∧Below w.heap.size w w':=by
 have HY:Hid (isWd c l=true→zAd c l=[(zAi c l,[1])]):=zNg (fun h=>by unfold zAd; rw [if_pos h]);have HN:Hid (isWd c l=false→zAd c l=[]):=zNg (fun h=>by unfold zAd; rw [h]; rfl);have HL:=zNg (zDh c l);go_enter Tryz.func13,Tryz.ntmps13
 go_wp2_with fail
 refine (zCT h h' hl hl').mono ?_;rintro e w3 ⟨r,rfl,f3,b3⟩;cases hg:isWd c l
 ·have e0:=HN.out hg;go_wp2_with fail
  go_ret2
  rw [e0,hg];exact ⟨_,rfl,FC.of_row (w:=w) (World.ownsRow_lit (base:=w3.heap.size) (e:=39) (size:=2) w3 #[] 0 (zNl _) (by unfold maxLen; omega) rfl) b3.size rfl (fun j r x hr _=>by simp at hr),b3.alloc b3.size _⟩
 ·have E0:=zNg (HY.out hg);have HG:=zNg hg;go_wp2_with fail
  obtain ⟨w4,hw4⟩:∃w4,w4=w3.alloc (.cells #[.int .i64 1] 3):=⟨_,rfl⟩;have f4:=FI.lit1 (W:=w) (w:=w3) (x:=1) b3.size hw4;have b4:Below w3.heap.size w3 w4:=by rw [hw4]; exact (Below.refl w3.heap.size w3).alloc (zNl _) _
  rw [<-hw4];clear hw4;refine (zBr (f3.below b4).reads f4.reads (by have:=HL.out; omega) (by simp)).mono ?_;rintro e w5 ⟨p,q,rfl,f5,f6,hd,b5⟩;obtain ⟨pa,pc,rfl⟩:=f5.form;obtain ⟨qa,qc,rfl⟩:=f6.form;generalize (zAi c l).length=n3 at *;have b05:=zAA.step (zAA.step b3 b4) b5;have hs4:=Nat.le_trans b3.size b4.size;have f7:=FT.one (W:=w) (f5.mono (fun b hb=>⟨Nat.le_trans hs4 hb.1,hb.2⟩)) (f6.mono (fun b hb=>⟨Nat.le_trans hs4 hb.1,hb.2⟩)) hd b05.size rfl;go_wp2_with fail
  go_ret2
  rw [E0.out,HG.out];exact ⟨_,rfl,f7,b05.alloc b05.size _⟩
theorem zCu:(Tryz.prog.info? 39).map (fun i=>(i.zero,i.size,i.bytes))=some (some (.agg #[.slice none 0 0,.slice none 0 0]),2,48):=by kernel_rfl
theorem zCB:∀L M:List Trm,zAF (L++M)=zAF L++zAF M
 | [],M=>rfl
 | x::L,M=>by simp [zAF,zCB L M]
theorem zFG (L:List Trm) (x y:List Int):zAF (L++[(x,y)])=zAF L++[x,y]:=zCB L _
theorem FI.grownT {S:Nat→Prop} {w w':World} {v r:Value} {l:List Int} (h:FI S w r l) (hg:w.grownBy w' v.ownBlock) (ht:∀b,v.ownBlock=some b→∃cur,w.heap[b]? = some (.cells cur 39 (0,0))):FI S w' r l :=
 h.keep fun b hb=>hg.block b (h.1.lt b hb).2 (fun e=>by
  obtain ⟨c1,t1⟩:=ht b e.symm;obtain ⟨c2,t2⟩:=zAt h.1 hb;rw [t1] at t2;simp at t2)
section
variable {w:World} {ops:Array Oper} {rest:List Oper} {o:Oper} {a:Act} {Q:Exit→Act→World→Prop}
theorem zIt {W:World} {K:Act→World→Prop} (s x:Operand)
  (ho:o.op=.call { callee:=.builtin .append,args:=#[s,x],argTypes:=#[25,25] })
  {v:Value} {L:List Trm} {r1 r2:Value} {l1 l2:List Int} (hs:a.eval s=v) {M:Nat} (hf:FT (Bt W.heap.size M) w v L) (hWM:W.heap.size≤M) (hM:M≤w.heap.size) (hb:Below W.heap.size W w)
  {H:Nat} (hx:a.eval x=.slice (some ⟨H,0,none⟩) 1 1) (hc1:w.cell? ⟨H,0,none⟩=some r1) (hc2:w.cell? ⟨H,1,none⟩=some r2) (hr1:FI (Bt M w.heap.size) w r1 l1) (hr2:FI (Bt M w.heap.size) w r2 l2)
  (hap:∀b,r1.ownBlock=some b→r2.ownBlock≠some b) (hlen:L.length+1≤33554432)
  (h:∀v' w',FT (New W w') w' v' (L++[(l1,l2)])→Below W.heap.size W w'→w.grownBy w' v.ownBlock→K (a.put o.dst v') w'):o.wp Tryz.prog a w K Q:=by
 obtain ⟨i0,hi,hz0,hz1,hz2⟩:=info_parts zCu;obtain ⟨vs,hown,hvl,hS,hrs,hds⟩:=hf;have hvl':vs.length=L.length*2:=by rw [hvl]; simp [zBa]
 have hown':w.ownsRow W.heap.size 39 2 v L.length vs:=by
  refine ⟨hown.1,?_⟩;rcases hown.2 with h | ⟨g,cap,cur,hv,_,r⟩
  ·exact .inl h
  ·exact .inr ⟨g,cap,cur,hv,(hS g (by rw [hv]; rfl)).1,r⟩
 refine wp_append_own w s x 25 ho W.heap.size 39 i0 (.agg #[.slice none 0 0,.slice none 0 0]) 2 48 Tryz.underlying25 hi hz0 hz1 hz2 rfl (by decide) v L.length vs hs hown' ⟨H,0,none⟩ 1 1 [r1,r2] hx rfl ?_ ?_ ?_ ?_ hb.size ?_
 ·intro j u hj
  match j,hj with
  | 0,hj=>simp at hj; subst hj; simpa [Addr.add] using hc1
  | 1,hj=>simp at hj; subst hj; simpa [Addr.add] using hc2
 ·intro u hu;obtain ⟨_,_,e1⟩:=hr1.form;obtain ⟨_,_,e2⟩:=hr2.form;simp at hu;rcases hu with rfl | rfl
  ·rw [e1]; rfl
  ·rw [e2]; rfl
 ·unfold maxLen; omega
 ·omega
 ·intro v' w' h1 h2 _;have hb':Below W.heap.size W w':=hb.grown h2 hb.size (fun k hk=>(hS k hk).1);have hsz:w.heap.size≤w'.heap.size:=h2.size;have htag:∀b,v.ownBlock=some b→∃cur,w.heap[b]? = some (.cells cur 39 (0,0)):=fun b hb=>zAt hown hb;have hfl:=zBa L;have old:∀(j:Nat) (r':Value),vs[j]? = some r'→∃l',(zAF L)[j]? = some l'∧FI (Bt W.heap.size M) w r' l':=by
   intro j r' hr';have hj:j<(zAF L).length:=by
    rcases Nat.lt_or_ge j vs.length with h | h
    ·omega
    ·rw [List.getElem?_eq_none h] at hr'; cases hr'
   have hx:(zAf (zAF L))[j]? = some (.inl (zAF L)[j]):=zBI (by simp [hj]);exact ⟨(zAF L)[j],by simp [hj],hrs j r' _ hr' hx⟩
  have pos:∀(i:Nat) (r3:Value),(vs++[r1,r2])[i]? = some r3→(vs[i]? = some r3∧i<vs.length)∨(r3=r1∧i=vs.length)∨(r3=r2∧i=vs.length+1):=by
   intro i r3 hr3;rcases Nat.lt_or_ge i vs.length with h | h
   ·rw [List.getElem?_append_left h] at hr3; exact .inl ⟨hr3,h⟩
   ·rw [List.getElem?_append_right h] at hr3;rcases Nat.lt_or_ge (i-vs.length) 2 with h3 | h3
    ·rcases Nat.lt_or_ge (i-vs.length) 1 with h4 | h4
     ·rw [show i-vs.length=0 by omega] at hr3;simp at hr3;exact .inr (.inl ⟨hr3.symm,by omega⟩)
     ·rw [show i-vs.length=1 by omega] at hr3;simp at hr3;exact .inr (.inr ⟨hr3.symm,by omega⟩)
    ·rw [List.getElem?_eq_none (by simp; omega)] at hr3; cases hr3
  have inW:∀(r3:Value) (l3:List Int),FI (Bt M w.heap.size) w r3 l3→FI (New W w') w' r3 l3:=fun r3 l3 hr=>(hr.grownT h2 htag).mono (fun b hb=>⟨by have:=hb.1; omega,by have:=hb.2; omega⟩);refine h v' w' ⟨vs++[r1,r2],?_,?_,fun b hb=>?_,fun j r' x' hr' hx'=>?_,fun i j ra rb b hij hra hrb hb1=>?_⟩ hb' h2
  ·rw [List.length_append];exact zBp h1 (Nat.zero_le _)
  ·rw [zFG]; simp [zAf]; omega
  ·exact ⟨(h1.lt b hb).1,(h1.lt b hb).2⟩
  ·rw [zFG] at hx';rcases pos j r' hr' with ⟨p1,p2⟩ | ⟨p1,p2⟩ | ⟨p1,p2⟩
   ·obtain ⟨l',hl',hf'⟩:=old j r' p1;have e:(zAf (zAF L++[l1,l2]))[j]? = some (.inl l'):=zBI (by rw [List.getElem?_append_left (by omega)]; exact hl');rw [e] at hx'
    injection hx' with hx'
    subst hx';exact (hf'.grownT h2 htag).mono (fun b hb=>⟨hb.1,by have:=hb.2; omega⟩)
   ·have e:(zAf (zAF L++[l1,l2]))[j]? = some (.inl l1):=zBI (by rw [List.getElem?_append_right (by omega),show j-(zAF L).length=0 by omega]; rfl);rw [e] at hx'
    injection hx' with hx'
    subst hx' p1;exact inW _ _ hr1
   ·have e:(zAf (zAF L++[l1,l2]))[j]? = some (.inl l2):=zBI (by rw [List.getElem?_append_right (by omega),show j-(zAF L).length=1 by omega]; rfl);rw [e] at hx'
    injection hx' with hx'
    subst hx' p1;exact inW _ _ hr2
  ·have newO:∀{r3 r4:Value} {l3 l4:List Int},FI (Bt W.heap.size M) w r3 l3→FI (Bt M w.heap.size) w r4 l4→r3.ownBlock=some b→r4.ownBlock≠some b:=fun f3 f4 e3 e4=>by
    have g1:=(f3.2 b e3).2;have g2:=(f4.2 b e4).1;omega
   rcases pos i ra hra with ⟨a1,a2⟩ | ⟨a1,a2⟩ | ⟨a1,a2⟩ <;> rcases pos j rb hrb with ⟨c1,c2⟩ | ⟨c1,c2⟩ | ⟨c1,c2⟩
   ·exact hds i j ra rb b hij a1 c1 hb1
   ·obtain ⟨l',_,hf'⟩:=old i ra a1;rw [c1]; exact newO hf' hr1 hb1
   ·obtain ⟨l',_,hf'⟩:=old i ra a1;rw [c1]; exact newO hf' hr2 hb1
   ·obtain ⟨l',_,hf'⟩:=old j rb c1;rw [a1] at hb1;exact fun e=>newO hf' hr1 e hb1
   ·omega
   ·rw [c1]; rw [a1] at hb1; exact hap b hb1
   ·obtain ⟨l',_,hf'⟩:=old j rb c1;rw [a1] at hb1;exact fun e=>newO hf' hr2 e hb1
   ·rw [c1]; rw [a1] at hb1; exact fun e=>hap b e hb1
   ·omega
theorem zB1 {W:World} (hgd:o.guard=none) (s x:Operand)
  (ho:o.op=.call { callee:=.builtin .append,args:=#[s,x],argTypes:=#[25,25] })
  {v:Value} {L:List Trm} {r1 r2:Value} {l1 l2:List Int} (hs:a.eval s=v) {M:Nat} (hf:FT (Bt W.heap.size M) w v L) (hWM:W.heap.size≤M) (hM:M≤w.heap.size) (hb:Below W.heap.size W w)
  {H:Nat} (hx:a.eval x=.slice (some ⟨H,0,none⟩) 1 1) (hc1:w.cell? ⟨H,0,none⟩=some r1) (hc2:w.cell? ⟨H,1,none⟩=some r2) (hr1:FI (Bt M w.heap.size) w r1 l1) (hr2:FI (Bt M w.heap.size) w r2 l2)
  (hap:∀b,r1.ownBlock=some b→r2.ownBlock≠some b) (hlen:L.length+1≤33554432)
  (h:∀v' w',FT (New W w') w' v' (L++[(l1,l2)])→Below W.heap.size W w'→w.grownBy w' v.ownBlock→wpList Tryz.prog ops Q rest (a.put o.dst v') w'):wpList Tryz.prog ops Q (o::rest) a w :=
 wpList_plain hgd fun _ hK=>zIt s x ho hs hf hWM hM hb hx hc1 hc2 hr1 hr2 hap hlen (fun v' w' h1 h2 h3=>hK _ _ (h v' w' h1 h2 h3))
theorem zCH {W:World} {K:Act→World→Prop} {E:Prop} (hgd:o.guard=none) (s x:Operand)
  (ho:o.op=.call { callee:=.builtin .append,args:=#[s,x],argTypes:=#[25,25] })
  {v:Value} {L:List Trm} {r1 r2:Value} {l1 l2:List Int} (hs:a.eval s=v) {M:Nat} (hf:FT (Bt W.heap.size M) w v L) (hWM:W.heap.size≤M) (hM:M≤w.heap.size) (hb:Below W.heap.size W w)
  {H:Nat} (hx:a.eval x=.slice (some ⟨H,0,none⟩) 1 1) (hc1:w.cell? ⟨H,0,none⟩=some r1) (hc2:w.cell? ⟨H,1,none⟩=some r2) (hr1:FI (Bt M w.heap.size) w r1 l1) (hr2:FI (Bt M w.heap.size) w r2 l2)
  (hap:∀b,r1.ownBlock=some b→r2.ownBlock≠some b) (hlen:L.length+1≤33554432)
  (h:∀v' w',FT (New W w') w' v' (L++[(l1,l2)])→Below W.heap.size W w'→w.grownBy w' v.ownBlock→K (a.put o.dst v') w') :
  if Region.wanted o (yielded ops a.tmps)=true then Oper.wp Tryz.prog o a w K Q else E:=by
 have hw:Region.wanted o (yielded ops a.tmps)=true:=by simp [Region.wanted,hgd]
 rw [if_pos hw];exact zIt s x ho hs hf hWM hM hb hx hc1 hc2 hr1 hr2 hap hlen h
end
end Go.Proofs.YtlchafedbnihoaaGreatDoor
namespace Go.Proofs.YtlchafedbnihoaaGreatDoor
open Go.RowKit
set_option maxRecDepth 20000
set_option maxHeartbeats 16000000
theorem zBW {W w2 w3:World} {z p q:Value} {acc:List Trm} {x y:List Int} (hW:Below W.heap.size W w2) (hf:FT (New W w2) w2 z acc) (b3:Below w2.heap.size w2 w3) (f5:FI (New w2 w3) w3 p x) (f6:FI (New w2 w3) w3 q y) :
  FT (Bt W.heap.size w2.heap.size) (w3.alloc (.cells #[p,q] 39)) z acc∧FI (Bt w2.heap.size (w3.alloc (.cells #[p,q] 39)).heap.size) (w3.alloc (.cells #[p,q] 39)) p x ∧
  FI (Bt w2.heap.size (w3.alloc (.cells #[p,q] 39)).heap.size) (w3.alloc (.cells #[p,q] 39)) q y ∧
  Below W.heap.size W (w3.alloc (.cells #[p,q] 39))∧w2.heap.size≤(w3.alloc (.cells #[p,q] 39)).heap.size ∧
  (w3.alloc (.cells #[p,q] 39)).cell? ⟨w3.heap.size,0,none⟩=some p∧(w3.alloc (.cells #[p,q] 39)).cell? ⟨w3.heap.size,1,none⟩=some q:=by
 have b4:Below w3.heap.size w3 (w3.alloc (.cells #[p,q] 39)):=(Below.refl _ w3).alloc (zNl _) _;have b24:=zAA.step b3 b4;exact ⟨hf.below b24,f5.grow b4,f6.grow b4,zAA.step hW b24,b24.size,by go_simp,by go_simp⟩
theorem zFY {w w2:World} {z:Value} {acc:List Trm} {b:Nat} (hf:FT (New w w2) w2 z acc) (hb:b<w.heap.size):some b≠z.ownBlock:=fun e=>by
 obtain ⟨_,_,_,hS,_⟩:=hf;have:=(hS b e.symm).1;omega
theorem zEy {w p:List Int} (h:p.length=0):one1 w p=[]:=by unfold one1; rw [if_pos (List.eq_nil_of_length_eq_zero h)]
theorem zD7 {w p:List Int} (h:p.length≠0):one1 w p=[(w,p)]:=by unfold one1; rw [if_neg (fun e=>h (by rw [e]; rfl))]
theorem zCV {S S' S'':Nat→Prop} {v u z:Value} {L:List Trm} {wd p:List Int} {w:World} (h:RT S w v L) (hu:RI S' w u wd) (hz:RI S'' w z p)
  (hl:L.length≤1048576) (hi:∀t∈L,t.1.length≤1048576∧t.2.length≤1048576∧InI t.2) (hwd:wd.length≤1048576) (hp:p.length≤1048576) (hpi:InI p) :
  Calls Tryz.prog 53 #[v,u,z] w fun e w'=>∃r,e=.returned r∧FT (New w w') w' r (endP wd p (putF wd p L))∧Below w.heap.size w w':=by
 obtain ⟨a,cap,rfl⟩:=h.form;obtain ⟨au,cu,rfl⟩:=hu.form;obtain ⟨az,cz,rfl⟩:=hz.form;have HI:=zNg hi;have HPI:=zNg hpi;have HST:=zNg (fun (k:Nat) (t:Trm) (ht:L[k]? = some t)=>zKG (w:=wd) (p:=p) ht);have HLE:=zNg (zMP wd p L);have HN:Hid (putF wd p (L.take L.length)=putF wd p L):=zNg (by rw [List.take_of_length_le (zNl _)]);have H0:Hid (putF wd p (L.take 0)=([],false)):=zNg rfl;have HAL:=zNg (fun x:List Int=>zEM x p);generalize hm:L.length=m at *;have HM:=zNg hm;clear hm hi hpi;generalize hnu:wd.length=nu at *;generalize hnz:p.length=nz at *;have HNU:=zNg hnu;have HNZ:=zNg hnz;clear hnu hnz;go_enter Tryz.func53,Tryz.ntmps53
 go_wp2_with fail
 have f1:FT (New w (w.alloc (.cells #[] 39))) (w.alloc (.cells #[] 39)) (.slice (some ⟨w.heap.size,0,none⟩) 0 0) []:=FC.of_row (w:=w) (World.ownsRow_lit (base:=w.heap.size) (e:=39) (size:=2) w #[] 0 (zNl _) (by unfold maxLen; omega) rfl) (zNl _) rfl (fun j r x hr _=>by simp at hr);have b1:Below w.heap.size w (w.alloc (.cells #[] 39)):=(Below.refl _ w).alloc (zNl _) _;generalize w.alloc (.cells #[] 39)=w1 at *;go_loopw [7,8,9] (fun zz pl j wr=>∃(k:Nat) (zv:Value) (acc:List Trm) (bb:Bool),zv=zz∧k≤m∧j=.int .i64 k∧pl=.bool bb∧FT (New w wr) wr zv acc∧Hid (putF wd p (L.take k)=(acc,bb))∧Below w.heap.size w wr) (fun _ _ j _=>m-(intOf j).toNat)
 case atStart=>exact ⟨0,_,[],false,rfl,Nat.zero_le _,rfl,rfl,f1,H0,b1⟩
 case round =>
  obtain ⟨k,zv,acc,bb,rfl,hk,rfl,rfl,hf,HA,hb⟩:=hrel;by_cases h1:k<m
  ·obtain ⟨b,o,r,r',x,e8,hc,hc',⟨hr,hr'⟩,hx⟩:=h.at h1;subst e8;obtain ⟨ax,cx,rfl⟩:=hr.form;obtain ⟨ay,cy,rfl⟩:=hr'.form;have i1:(k:Int)<(m:Int):=by omega
   have lb0:b<w.heap.size:=zNk w _ hc;have hc0:=hc;have hc0':=hc';have hr0:=hr;have hr0':=hr';have hc:=(hb.cell (p:=⟨b,o+k*2,none⟩) lb0).trans hc;have hc':=(hb.cell (p:=⟨b,o+k*2+1,none⟩) lb0).trans hc';have hr:=hr.below hb;have hr':=hr'.below hb;obtain ⟨hx1,hx2,hx3⟩:=HI.out x (zNi hx.out);have hst:=HST.out k x hx.out;rw [HA.out] at hst;have hac:acc.length+2≤33554432:=by
    have:=HLE.out k;rw [HA.out] at this;simp at this;omega
   have HAC:=zNg hac;clear hac;unfold zBH at hst;have hub:=hu.below hb;have hzb:=hz.below hb;have HX3:=zNg hx3;have HXL:Hid ((addP x.2 p).length≤2097152):=zNg (by have:=HAL.out x.2; omega);clear hx3;generalize hcm:cmpW wd x.1=cm at *;have HCM:=zNg hcm;clear hcm;have hcmp:=fun wr' (hbb:Below wr.heap.size wr wr')=>zBd (hub.below hbb) (hr.below hbb) (by rw [HNU.out]; omega) (by omega);by_cases c0:cm=0
   ·rw [if_pos c0] at hst;have j2:(cm == 0)=true:=by simp [c0]
    have j1:¬cm<0:=by omega
    clear c0;go_wp2_with fail
    refine (hcmp _ (Below.refl _ wr)).mono ?_;rintro e w2 ⟨rfl,n2,e2⟩;have bd:Below wr.heap.size wr w2:=by rw [e2]; exact below_drewN (Below.refl _ wr) n2
    clear e2 hcmp;rw [HCM.out];have hf2:=hf.grow bd;have hb2:=zAA.step hb bd;clear hf hc hc' hr hr';have kc:=(hb2.cell (p:=⟨b,o+k*2+1,none⟩) lb0).trans hc0';go_wp2_with fail
    refine (zH0 (hr0'.below hb2) (hz.below hb2) HX3.out HPI.out (by omega) (by have:=HNZ.out; omega)).mono ?_;rintro e w4 ⟨rq,rfl,fq,bq⟩;obtain ⟨aq,cq,rfl⟩:=fq.form;have hxl:=HXL.out;have hf4:=hf2.grow bq;have hb4:=zAA.step hb2 bq;generalize hnq:(addP x.2 p).length=nq at *;by_cases hq:nq=0
    ·have HST2:=zNg hst;rw [zEy (by rw [hnq,hq]),List.append_nil] at HST2;have i5:¬(0:Int)<(nq:Int):=by omega
     clear hst hnq hq;go_wp2_with fail
     go_wp2_with fail
     go_roundw
     case rel=>exact ⟨k+1,_,_,_,rfl,by omega,by go_num,rfl,hf4,HST2,hb4⟩
     case measure=>simp [intOf]; omega
    ·have HST2:=zNg hst;rw [zD7 (by rw [hnq]; exact hq)] at HST2;have i5:(0:Int)<(nq:Int):=by omega
     have HNQ:=zNg hnq;clear hst hnq hq;go_wp2_with fail
     refine (zBr (hu.below hb4) fq.reads (by have:=HNU.out; omega) (by rw [HNQ.out]; omega)).mono ?_;rintro e w31 ⟨p1,q1,rfl,f51,f61,hd1,b31⟩;obtain ⟨pa1,pc1,e51⟩:=f51.form;obtain ⟨qa1,qc1,e61⟩:=f61.form
     skip
     subst e51 e61;have R1:=zNg (zBW hb4 hf4 b31 f51 f61);go_wp2_with (at_builtin; go_must (refine zB1 (W:=w) rfl _ _ rfl rfl R1.out.1 hb4.size R1.out.2.2.2.2.1 R1.out.2.2.2.1 rfl R1.out.2.2.2.2.2.1 R1.out.2.2.2.2.2.2 R1.out.2.1 R1.out.2.2.1 hd1 (by have:=HAC.out; simp; omega) ?_))
     intro v91 w91 f91 b91 g91;go_wp2_with fail
     go_roundw
     case rel=>exact ⟨k+1,_,_,_,rfl,by omega,by go_num,rfl,f91,HST2,b91⟩
     case measure=>simp [intOf]; omega
   ·rw [if_neg c0] at hst;have j2:(cm == 0)=false:=by simp [c0]
    by_cases c1:cm<0
    ·cases bb with
     | false =>
      rw [if_pos ⟨c1,rfl⟩] at hst;by_cases hq:nz=0
      ·have HST2:=zNg hst;rw [zEy (by rw [HNZ.out,hq]),List.append_nil] at HST2;have i5:¬(0:Int)<(nz:Int):=by omega
       clear hst hq c0;go_wp2_with fail
       refine (hcmp _ (Below.refl _ wr)).mono ?_;rintro e w2 ⟨rfl,n2,e2⟩;have bd:Below wr.heap.size wr w2:=by rw [e2]; exact below_drewN (Below.refl _ wr) n2
       clear e2 hcmp;rw [HCM.out];have hf2:=hf.grow bd;have hb2:=zAA.step hb bd;clear hf hc hc' hr hr';go_wp2_with fail
       have hlb1:b<_:=Nat.lt_of_lt_of_le lb0 hb2.size;have k01:=(hb2.cell (p:=⟨b,o+k*2,none⟩) lb0).trans hc0;have k11:=(hb2.cell (p:=⟨b,o+k*2+1,none⟩) lb0).trans hc0';have h1x1:=hr0.below hb2;have h2x1:=hr0'.below hb2;have hne1:=zFY hf2 lb0;have hfd1:=hf2.grow ((Below.refl _ _).drew);have hbd1:=hb2.drew;go_region_held3 (fun w'=>w'.cell? ⟨b,o+k*2,none⟩=some (.slice ax x.1.length cx)∧w'.cell? ⟨b,o+k*2+1,none⟩=some (.slice ay x.2.length cy)) (first | go_keep | exact ⟨(b31.cell (p:=⟨b,o+k*2,none⟩) hlb1).trans k01,(b31.cell (p:=⟨b,o+k*2+1,none⟩) hlb1).trans k11⟩ | exact ⟨g91.cell (zAT ((b31.cell (p:=⟨b,o+k*2,none⟩) hlb1).trans k01) _) hne1,g91.cell (zAT ((b31.cell (p:=⟨b,o+k*2+1,none⟩) hlb1).trans k11) _) hne1⟩) (first
        | (go_at_call 47; refine (zBr h1x1.drew h2x1.drew (by omega) (by omega)).mono ?_; rintro e w31 ⟨p1,q1,rfl,f51,f61,hd1,b31⟩; obtain ⟨pa1,pc1,rfl⟩:=f51.form; obtain ⟨qa1,qc1,rfl⟩:=f61.form; have R1:=zNg (zBW hbd1 hfd1 b31 f51 f61))
        | (refine zCH (W:=w) (by rfl) _ _ (by rfl) (by rfl) R1.out.1 hbd1.size R1.out.2.2.2.2.1 R1.out.2.2.2.1 (by rfl) R1.out.2.2.2.2.2.1 R1.out.2.2.2.2.2.2 R1.out.2.1 R1.out.2.2.1 hd1 (by have:=HAC.out; simp; omega) ?_; intro v91 w91 f91 b91 g91))
       go_wp2_with fail
       go_roundw
       case rel=>exact ⟨k+1,_,_,_,rfl,by omega,by go_num,rfl,f91,HST2,b91⟩
       case measure=>simp [intOf]; omega
      ·have HST2:=zNg hst;rw [zD7 (by rw [HNZ.out]; exact hq)] at HST2;have i5:(0:Int)<(nz:Int):=by omega
       clear hst hq c0;go_wp2_with fail
       refine (hcmp _ (Below.refl _ wr)).mono ?_;rintro e w2 ⟨rfl,n2,e2⟩;have bd:Below wr.heap.size wr w2:=by rw [e2]; exact below_drewN (Below.refl _ wr) n2
       clear e2 hcmp;rw [HCM.out];have hf2:=hf.grow bd;have hb2:=zAA.step hb bd;clear hf hc hc' hr hr';go_wp2_with fail
       refine (zBr (hu.below hb2) (hz.below hb2) (by have:=HNU.out; omega) (by have:=HNZ.out; omega)).mono ?_;rintro e w31 ⟨p1,q1,rfl,f51,f61,hd1,b31⟩;obtain ⟨pa1,pc1,e51⟩:=f51.form;obtain ⟨qa1,qc1,e61⟩:=f61.form
       skip
       subst e51 e61;have R1:=zNg (zBW hb2 hf2 b31 f51 f61);go_wp2_with (at_builtin; go_must (refine zB1 (W:=w) rfl _ _ rfl rfl R1.out.1 hb2.size R1.out.2.2.2.2.1 R1.out.2.2.2.1 rfl R1.out.2.2.2.2.2.1 R1.out.2.2.2.2.2.2 R1.out.2.1 R1.out.2.2.1 hd1 (by have:=HAC.out; simp; omega) ?_))
       intro v91 w91 f91 b91 g91;go_wp2_with fail
       have hlb2:b<_:=Nat.lt_of_lt_of_le lb0 b91.size;have k02:=(b91.cell (p:=⟨b,o+k*2,none⟩) lb0).trans hc0;have k12:=(b91.cell (p:=⟨b,o+k*2+1,none⟩) lb0).trans hc0';have h1x2:=hr0.below b91;have h2x2:=hr0'.below b91;have hne2:=zFY f91 lb0;have hfd2:=f91.grow ((Below.refl _ _).drew);have hbd2:=b91.drew;go_region_held3 (fun w'=>w'.cell? ⟨b,o+k*2,none⟩=some (.slice ax x.1.length cx)∧w'.cell? ⟨b,o+k*2+1,none⟩=some (.slice ay x.2.length cy)) (first | go_keep | exact ⟨(b32.cell (p:=⟨b,o+k*2,none⟩) hlb2).trans k02,(b32.cell (p:=⟨b,o+k*2+1,none⟩) hlb2).trans k12⟩ | exact ⟨g92.cell (zAT ((b32.cell (p:=⟨b,o+k*2,none⟩) hlb2).trans k02) _) hne2,g92.cell (zAT ((b32.cell (p:=⟨b,o+k*2+1,none⟩) hlb2).trans k12) _) hne2⟩) (first
        | (go_at_call 47; refine (zBr h1x2.drew h2x2.drew (by omega) (by omega)).mono ?_; rintro e w32 ⟨p2,q2,rfl,f52,f62,hd2,b32⟩; obtain ⟨pa2,pc2,rfl⟩:=f52.form; obtain ⟨qa2,qc2,rfl⟩:=f62.form; have R2:=zNg (zBW hbd2 hfd2 b32 f52 f62))
        | (refine zCH (W:=w) (by rfl) _ _ (by rfl) (by rfl) R2.out.1 hbd2.size R2.out.2.2.2.2.1 R2.out.2.2.2.1 (by rfl) R2.out.2.2.2.2.2.1 R2.out.2.2.2.2.2.2 R2.out.2.1 R2.out.2.2.1 hd2 (by have:=HAC.out; simp; omega) ?_; intro v92 w92 f92 b92 g92))
       go_wp2_with fail
       go_roundw
       case rel=>exact ⟨k+1,_,_,_,rfl,by omega,by go_num,rfl,f92,HST2,b92⟩
       case measure=>simp [intOf]; omega
     | true =>
      rw [if_neg (by simp)] at hst;have HST2:=zNg hst;clear hst c0;go_wp2_with fail
      refine (hcmp _ (Below.refl _ wr)).mono ?_;rintro e w2 ⟨rfl,n2,e2⟩;have bd:Below wr.heap.size wr w2:=by rw [e2]; exact below_drewN (Below.refl _ wr) n2
      clear e2 hcmp;rw [HCM.out];have hf2:=hf.grow bd;have hb2:=zAA.step hb bd;clear hf hc hc' hr hr';go_wp2_with fail
      have hlb1:b<_:=Nat.lt_of_lt_of_le lb0 hb2.size;have k01:=(hb2.cell (p:=⟨b,o+k*2,none⟩) lb0).trans hc0;have k11:=(hb2.cell (p:=⟨b,o+k*2+1,none⟩) lb0).trans hc0';have h1x1:=hr0.below hb2;have h2x1:=hr0'.below hb2;have hne1:=zFY hf2 lb0;have hfd1:=hf2.grow ((Below.refl _ _).drew);have hbd1:=hb2.drew;go_region_held3 (fun w'=>w'.cell? ⟨b,o+k*2,none⟩=some (.slice ax x.1.length cx)∧w'.cell? ⟨b,o+k*2+1,none⟩=some (.slice ay x.2.length cy)) (first | go_keep | exact ⟨(b31.cell (p:=⟨b,o+k*2,none⟩) hlb1).trans k01,(b31.cell (p:=⟨b,o+k*2+1,none⟩) hlb1).trans k11⟩ | exact ⟨g91.cell (zAT ((b31.cell (p:=⟨b,o+k*2,none⟩) hlb1).trans k01) _) hne1,g91.cell (zAT ((b31.cell (p:=⟨b,o+k*2+1,none⟩) hlb1).trans k11) _) hne1⟩) (first
       | (go_at_call 47; refine (zBr h1x1.drew h2x1.drew (by omega) (by omega)).mono ?_; rintro e w31 ⟨p1,q1,rfl,f51,f61,hd1,b31⟩; obtain ⟨pa1,pc1,rfl⟩:=f51.form; obtain ⟨qa1,qc1,rfl⟩:=f61.form; have R1:=zNg (zBW hbd1 hfd1 b31 f51 f61))
       | (refine zCH (W:=w) (by rfl) _ _ (by rfl) (by rfl) R1.out.1 hbd1.size R1.out.2.2.2.2.1 R1.out.2.2.2.1 (by rfl) R1.out.2.2.2.2.2.1 R1.out.2.2.2.2.2.2 R1.out.2.1 R1.out.2.2.1 hd1 (by have:=HAC.out; simp; omega) ?_; intro v91 w91 f91 b91 g91))
      go_wp2_with fail
      go_roundw
      case rel=>exact ⟨k+1,_,_,_,rfl,by omega,by go_num,rfl,f91,HST2,b91⟩
      case measure=>simp [intOf]; omega
    ·rw [if_neg (by omega)] at hst;have HST2:=zNg hst;clear hst c0;go_wp2_with fail
     refine (hcmp _ (Below.refl _ wr)).mono ?_;rintro e w2 ⟨rfl,n2,e2⟩;have bd:Below wr.heap.size wr w2:=by rw [e2]; exact below_drewN (Below.refl _ wr) n2
     clear e2 hcmp;rw [HCM.out];have hf2:=hf.grow bd;have hb2:=zAA.step hb bd;clear hf hc hc' hr hr';go_wp2_with fail
     have hlb1:b<_:=Nat.lt_of_lt_of_le lb0 hb2.size;have k01:=(hb2.cell (p:=⟨b,o+k*2,none⟩) lb0).trans hc0;have k11:=(hb2.cell (p:=⟨b,o+k*2+1,none⟩) lb0).trans hc0';have h1x1:=hr0.below hb2;have h2x1:=hr0'.below hb2;have hne1:=zFY hf2 lb0;have hfd1:=hf2.grow ((Below.refl _ _).drew);have hbd1:=hb2.drew;go_region_held3 (fun w'=>w'.cell? ⟨b,o+k*2,none⟩=some (.slice ax x.1.length cx)∧w'.cell? ⟨b,o+k*2+1,none⟩=some (.slice ay x.2.length cy)) (first | go_keep | exact ⟨(b31.cell (p:=⟨b,o+k*2,none⟩) hlb1).trans k01,(b31.cell (p:=⟨b,o+k*2+1,none⟩) hlb1).trans k11⟩ | exact ⟨g91.cell (zAT ((b31.cell (p:=⟨b,o+k*2,none⟩) hlb1).trans k01) _) hne1,g91.cell (zAT ((b31.cell (p:=⟨b,o+k*2+1,none⟩) hlb1).trans k11) _) hne1⟩) (first
      | (go_at_call 47; refine (zBr h1x1.drew h2x1.drew (by omega) (by omega)).mono ?_; rintro e w31 ⟨p1,q1,rfl,f51,f61,hd1,b31⟩; obtain ⟨pa1,pc1,rfl⟩:=f51.form; obtain ⟨qa1,qc1,rfl⟩:=f61.form; have R1:=zNg (zBW hbd1 hfd1 b31 f51 f61))
      | (refine zCH (W:=w) (by rfl) _ _ (by rfl) (by rfl) R1.out.1 hbd1.size R1.out.2.2.2.2.1 R1.out.2.2.2.1 (by rfl) R1.out.2.2.2.2.2.1 R1.out.2.2.2.2.2.2 R1.out.2.1 R1.out.2.2.1 hd1 (by have:=HAC.out; simp; omega) ?_; intro v91 w91 f91 b91 g91))
     go_wp2_with fail
     go_roundw
     case rel=>exact ⟨k+1,_,_,_,rfl,by omega,by go_num,rfl,f91,HST2,b91⟩
     case measure=>simp [intOf]; omega
  ·have hkm:k=m:=by omega
   have i1:¬(k:Int)<(m:Int):=by omega
   rw [hkm,HN.out] at HA;clear hkm;have hac:acc.length+2≤33554432:=by
    have:=HLE.out m;rw [HN.out,HA.out] at this;simp at this;omega
   have HAC:=zNg hac;clear hac;cases bb with
   | true =>
    have HE:Hid (endP wd p (putF wd p L)=acc):=zNg (by rw [HA.out]; rfl);go_wp2_with fail
    go_ret
    rw [HE.out];exact ⟨_,rfl,hf,hb⟩
   | false =>
    have HE:Hid (endP wd p (putF wd p L)=acc++one1 wd p):=zNg (by rw [HA.out]; rfl);by_cases hq:nz=0
    ·rw [zEy (by rw [HNZ.out,hq]),List.append_nil] at HE;have i5:¬(0:Int)<(nz:Int):=by omega
     clear hq;go_wp2_with fail
     go_ret
     rw [HE.out];exact ⟨_,rfl,hf,hb⟩
    ·rw [zD7 (by rw [HNZ.out]; exact hq)] at HE;have i5:(0:Int)<(nz:Int):=by omega
     clear hq;go_wp2_with fail
     refine (zBr (hu.below hb) (hz.below hb) (by have:=HNU.out; omega) (by have:=HNZ.out; omega)).mono ?_;rintro e w31 ⟨p1,q1,rfl,f51,f61,hd1,b31⟩;obtain ⟨pa1,pc1,e51⟩:=f51.form;obtain ⟨qa1,qc1,e61⟩:=f61.form
     skip
     subst e51 e61;have R1:=zNg (zBW hb hf b31 f51 f61);go_wp2_with (at_builtin; go_must (refine zB1 (W:=w) rfl _ _ rfl rfl R1.out.1 hb.size R1.out.2.2.2.2.1 R1.out.2.2.2.1 rfl R1.out.2.2.2.2.2.1 R1.out.2.2.2.2.2.2 R1.out.2.1 R1.out.2.2.1 hd1 (by have:=HAC.out; simp; omega) ?_))
     intro v91 w91 f91 b91 g91;go_wp2_with fail
     go_ret
     rw [HE.out];exact ⟨_,rfl,f91,b91⟩
end Go.Proofs.YtlchafedbnihoaaGreatDoor
