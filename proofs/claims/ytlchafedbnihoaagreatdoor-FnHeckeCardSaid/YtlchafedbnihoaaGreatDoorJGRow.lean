/- A row of terms of the call's own, put in order by exchanges. No condition. -/
import Derived.Test.YtlchafedbnihoaaGreatDoorJGMrg
import Derived.Test.YtlchafedbnihoaaGreatDoorJGDrA
namespace Go.Proofs.YtlchafedbnihoaaGreatDoor
open Go.RowKit
set_option maxRecDepth 20000
set_option maxHeartbeats 16000000
structure El where
 r:Value
 r':Value
 x:List Int
 y:List Int
def zAN:List El→List Value
 | []=>[]
 | e::L=>e.r::e.r'::zAN L
theorem zBs:∀L:List El,(zAN L).length=L.length*2
 | []=>rfl
 | e::L=>by simp [zAN,zBs L]; omega
theorem zE9:∀L M:List El,zAN (L++M)=zAN L++zAN M
 | [],M=>rfl
 | e::L,M=>by simp [zAN,zE9 L M]
theorem zC2:∀{L:List El} {j:Nat} {e:El},L[j]? = some e→(zAN L)[j*2]? = some e.r∧(zAN L)[j*2+1]? = some e.r'
 | [],_,_,h=>by simp at h
 | a::L,0,e,h=>by simp at h; subst h; simp [zAN]
 | a::L,j+1,e,h=>by
  have:=zC2 (L:=L) (j:=j) (by simpa using h);rw [show (j+1)*2=j*2+1+1 by omega,show j*2+1+1+1=(j*2+1)+1+1 by omega];simpa [zAN] using this
theorem zFA:∀(L:List El) (j:Nat) (e:El),((zAN L).set (j*2) e.r).set (j*2+1) e.r'=zAN (L.set j e)
 | [],j,e=>by simp [zAN]
 | a::L,0,e=>by simp [zAN]
 | a::L,j+1,e=>by
  have:=zFA L j e;rw [show (j+1)*2=j*2+1+1 by omega,show j*2+1+1+1=(j*2+1)+1+1 by omega];simpa [zAN] using this
def RowT (blk N cap:Nat) (W:World) (L:List El):Prop :=
 L.length=N∧W.ownsRow 0 39 2 (.slice (some ⟨blk,0,none⟩) N cap) N (zAN L)∧∀e∈L,RI (Off blk) W e.r e.x∧RI (Off blk) W e.r' e.y
section
variable {blk N cap:Nat} {W W':World} {L:List El}
theorem RowT.cell (h:RowT blk N cap W L) {j:Nat} {e:El} (hj:L[j]? = some e):W.cell? ⟨blk,j*2,none⟩=some e.r∧W.cell? ⟨blk,j*2+1,none⟩=some e.r':=by
 have hl:j<L.length:=(zNj hj).1;have:=h.1;have h0:=h.2.1.cellAt (j*2) (by omega);have h1:=h.2.1.cellAt (j*2+1) (by omega);obtain ⟨a,b⟩:=zC2 hj;exact ⟨h0.trans a,h1.trans b⟩
theorem RowT.froz (h:RowT blk N cap W L) (j:Nat):W.frozen? ⟨blk,j,none⟩=false:=h.2.1.frozenAt j
theorem RowT.reads (h:RowT blk N cap W L) {j:Nat} {e:El} (hj:L[j]? = some e):RI (Off blk) W e.r e.x∧RI (Off blk) W e.r' e.y:=h.2.2 e (zNi hj)
theorem RowT.forms (h:RowT blk N cap W L) {j:Nat} {e:El} (hj:L[j]? = some e):∃a n c a' n' c',e.r=.slice a n c∧e.r'=.slice a' n' c':=by
 obtain ⟨a,c,h1⟩:=(h.reads hj).1.form;obtain ⟨a',c',h2⟩:=(h.reads hj).2.form;exact ⟨a,_,c,a',_,c',h1,h2⟩
theorem RowT.below (h:RowT blk N cap W L) (hb:Below W.heap.size W W'):RowT blk N cap W' L :=
 ⟨h.1,zA4 h.2.1 (fun b hv=>hb.block b (h.2.1.lt b hv).2),fun e he=>⟨(h.2.2 e he).1.below hb,(h.2.2 e he).2.below hb⟩⟩
theorem RowT.drew (h:RowT blk N cap W L):RowT blk N cap W.drew L:=h.below (by exact (Below.refl _ W).drew)
theorem RowT.lt (h:RowT blk N cap W L):blk<W.heap.size:=(h.2.1.lt blk rfl).2
theorem RowT.put (h:RowT blk N cap W L) {j:Nat} {e:El} (he:RI (Off blk) W e.r e.x∧RI (Off blk) W e.r' e.y):RowT blk N cap ((W.setCell ⟨blk,j*2,none⟩ e.r).setCell ⟨blk,j*2+1,none⟩ e.r') (L.set j e) ∧
  W.grownBy ((W.setCell ⟨blk,j*2,none⟩ e.r).setCell ⟨blk,j*2+1,none⟩ e.r') (some blk):=by
 obtain ⟨a1,g1⟩:=h.2.1.stored (j*2) e.r;obtain ⟨a2,g2⟩:=a1.stored (j*2+1) e.r';have g:=Off.tr g1 g2;rw [zFA] at a2;refine ⟨⟨by simp [h.1],a2,fun f hf=>?_⟩,g⟩;rcases List.mem_or_eq_of_mem_set hf with h' | rfl
 ·exact ⟨Off.keepI (h.2.2 f h').1 g,Off.keepI (h.2.2 f h').2 g⟩
 ·exact ⟨Off.keepI he.1 g,Off.keepI he.2 g⟩
theorem RowT.swap (h:RowT blk N cap W L) {i j:Nat} {e f:El} (hi:L[i]? = some e) (hj:L[j]? = some f) :
  RowT blk N cap ((((W.setCell ⟨blk,i*2,none⟩ f.r).setCell ⟨blk,i*2+1,none⟩ f.r').setCell ⟨blk,j*2,none⟩ e.r).setCell ⟨blk,j*2+1,none⟩ e.r') ((L.set i f).set j e) ∧
  W.grownBy ((((W.setCell ⟨blk,i*2,none⟩ f.r).setCell ⟨blk,i*2+1,none⟩ f.r').setCell ⟨blk,j*2,none⟩ e.r).setCell ⟨blk,j*2+1,none⟩ e.r') (some blk):=by
 obtain ⟨h1,g1⟩:=h.put (j:=i) (h.reads hj);obtain ⟨h2,g2⟩:=h1.put (j:=j) (e:=e) ⟨Off.keepI (h.reads hi).1 g1,Off.keepI (h.reads hi).2 g1⟩;exact ⟨h2,Off.tr g1 g2⟩
end
open Mrg
theorem zJG {blk N cap:Nat} {A B C D E L:List El} {w:World} {fv:Value} {a b n:Nat} (h:RowT blk N cap w L) (hL:L=A++(B++(C++(D++E)))) (ha:A.length=a) (hb:A.length+B.length+C.length=b) (hn:B.length=n) (hBD:B.length=D.length) (hN:N≤1048576) :
  Calls Tryz.prog 147 #[.slice (some ⟨blk,0,none⟩) N cap,.int .i64 a,.int .i64 b,.int .i64 n,fv] w fun e w' =>
   e=.returned (.tuple #[])∧RowT blk N cap w' (A++(D++(C++(B++E))))∧w.grownBy w' (some blk):=by
 have HST:=zNg (fun k (hk:k<n)=>zLG (A:=A) (C:=C) (E:=E) (k:=k) hBD (by omega));rw [hb,ha] at HST;have hlen:=h.1;have h0:RowT blk N cap w (swK A B C D E 0):=by rw [zLH,<-hL]; exact h
 have HE:Hid (swK A B C D E n=A++(D++(C++(B++E)))):=zNg (by rw [<-hn]; exact zMj hBD);have hs1:a+n≤b∧b+n≤N:=by rw [hL] at hlen; simp at hlen; omega
 clear hL ha hb hn hBD h hlen;rw [<-HE.out];generalize swK A B C D E=K at *;obtain ⟨hs1,hs2⟩:=hs1;have mixed:Tryz.prog.follows .mixedOrders=true:=by kernel_rfl
 go_enter Tryz.func147,Tryz.ntmps147
 go_wp2_with fail
 go_loopw [10] (fun i wr=>∃k:Nat,k≤n∧i=.int .i64 k∧RowT blk N cap wr (K k)∧w.grownBy wr (some blk)) (fun i _=>n-(intOf i).toNat)
 case atStart=>exact ⟨0,Nat.zero_le _,rfl,h0,World.grownBy.refl _ _⟩
 case round =>
  obtain ⟨k,hk,rfl,hr,hg⟩:=hrel;by_cases h1:k<n
  ·have i1:(k:Int)<(n:Int):=by omega
   obtain ⟨x,y,hx,hy,hset⟩:=HST.out k h1;obtain ⟨ax,lx,qx,ax',lx',qx',ex,ex'⟩:=hr.forms hx;obtain ⟨ay,ly,qy,ay',ly',qy',ey,ey'⟩:=hr.forms hy;obtain ⟨cx,cx'⟩:=hr.cell hx;obtain ⟨cy,cy'⟩:=hr.cell hy;rw [ex] at cx;rw [ex'] at cx';rw [ey] at cy;rw [ey'] at cy';have f0:=hr.froz ((a+k)*2);have f1:=hr.froz ((a+k)*2+1);have f2:=hr.froz ((b+k)*2);have f3:=hr.froz ((b+k)*2+1);have e0:((a:Int)+(k:Int)).toNat=a+k:=by omega
   have e1:((b:Int)+(k:Int)).toNat=b+k:=by omega
   have hsw:=hr.swap hx hy;rw [hset] at hsw;rw [ex,ex',ey,ey'] at hsw;have HSW:=zNg hsw;clear hsw ex ex' ey ey';clear hx hy hset;go_wp2_with fail
   go_big_region_o
   go_wp2_with fail
   go_roundw
   case rel=>exact ⟨k+1,by omega,by go_num,HSW.out.1.drew,Off.tr hg (Off.drewG HSW.out.2)⟩
   case measure=>simp [intOf]; omega
  ·have hkn:k=n:=by omega
   have i1:¬(k:Int)<(n:Int):=by omega
   rw [hkn] at hr;clear hkn;go_wp2_with fail
   go_end0
   exact ⟨rfl,hr,hg⟩
theorem zDE {blk N cap:Nat} {A B C D E L:List El} {w:World} {fv:Value} {a b n:Int} (h:RowT blk N cap w L) (hL:L=A++(B++(C++(D++E)))) (ha:(A.length:Int)=a) (hb:(A.length:Int)+B.length+C.length=b) (hn:(B.length:Int)=n) (hBD:B.length=D.length) (hN:N≤1048576) :
  Calls Tryz.prog 147 #[.slice (some ⟨blk,0,none⟩) N cap,.int .i64 a,.int .i64 b,.int .i64 n,fv] w fun e w' =>
   e=.returned (.tuple #[])∧RowT blk N cap w' (A++(D++(C++(B++E))))∧w.grownBy w' (some blk):=by
 subst ha hb hn;have e:(A.length:Int)+B.length+C.length=((A.length+B.length+C.length:Nat):Int):=by omega
 rw [e];exact zJG h hL rfl rfl rfl hBD hN
theorem zIe {blk N cap:Nat} {A X Y Z L:List El} {w:World} {fv:Value} {a m b:Nat} (h:RowT blk N cap w L) (hL:L=A++(X++(Y++Z))) (ha:A.length=a) (hm:A.length+X.length=m) (hb:A.length+X.length+Y.length=b) (hX:0<X.length) (hY:0<Y.length) (hN:N≤1048576) :
  Calls Tryz.prog 140 #[.slice (some ⟨blk,0,none⟩) N cap,.int .i64 a,.int .i64 m,.int .i64 b,fv] w fun e w' =>
   e=.returned (.tuple #[])∧RowT blk N cap w' (A++(Y++(X++Z)))∧w.grownBy w' (some blk):=by
 have hlen:=h.1;have hbN:b≤N:=by rw [hL] at hlen; simp at hlen; omega
 have e1:(m:Int)-(a:Int)=((X.length:Nat):Int):=by omega
 have e2:(b:Int)-(m:Int)=((Y.length:Nat):Int):=by omega
 have HL:=zNg hL;have HM:=zNg hm;generalize hT:A++(Y++(X++Z))=T at *;have HT:=zNg hT;have hXN:X.length≤m:=by omega
 have hYN:Y.length≤N:=by omega
 have hmN:m≤N:=by omega
 generalize hxl:X.length=xl at *;generalize hyl:Y.length=yl at *;have HXL:=zNg hxl;have HYL:=zNg hyl;clear hxl hyl hL hT hm ha hb hlen;go_enter Tryz.func140,Tryz.ntmps140
 go_wp2_with fail
 go_loopw [10,11] (fun i j wr=>∃(p q:Nat) (A' P Q Z' L':List El),i=.int .i64 p∧j=.int .i64 q∧0<p∧0<q∧p≤m∧m+q≤N∧Hid (L'=A'++(P++(Q++Z')))∧Hid (P.length=p)∧Hid (Q.length=q)∧Hid (A'.length+P.length=m)∧Hid (A'++(Q++(P++Z'))=T)∧RowT blk N cap wr L'∧w.grownBy wr (some blk)) (fun i j _=>(intOf i).toNat+(intOf j).toNat)
 case atStart=>exact ⟨xl,yl,A,X,Y,Z,L,rfl,rfl,by omega,by omega,by omega,by omega,HL,HXL,HYL,zNg (by have:=HXL.out; have:=HM.out; omega),HT,h,World.grownBy.refl _ _⟩
 case round =>
  obtain ⟨p,q,A',P,Q,Z',L',rfl,rfl,hp,hq,hpm,hmq,HL',HP,HQ,HA,HT',hr,hg⟩:=hrel;by_cases hpq:p=q
  ·subst hpq;have i1:((p:Int) != (p:Int))=false:=by simp
   go_wp2_with fail
   refine (zDE (A:=A') (B:=P) (C:=[]) (D:=Q) (E:=Z') hr (by rw [HL'.out]; rfl) (by have:=HP.out; have:=HA.out; omega) (by have:=HP.out; have:=HA.out; simp; omega) (by rw [HP.out]) (by rw [HP.out,HQ.out]) hN).mono ?_;rintro e w1 ⟨rfl,hr1,hg1⟩;go_wp2_with fail
   go_end0
   refine ⟨rfl,?_,Off.tr hg hg1⟩;rw [<-HT'.out];exact hr1
  ·have i1:((p:Int) != (q:Int))=true:=by simp; omega
   by_cases hlt:q<p
   ·have i2:(q:Int)<(p:Int):=by omega
    have e0:P.take q++P.drop q=P:=List.take_append_drop q P;have l1:(P.take q).length=q:=by have:=HP.out; simp; omega
    have l2:(P.drop q).length=p-q:=by have:=HP.out; simp; omega
    generalize P.take q=P1 at *;generalize P.drop q=P2 at *;have H0:=zNg e0;have H1:=zNg l1;have H2:=zNg l2;clear e0 l1 l2;go_wp2_with fail
    refine (zDE (A:=A') (B:=P1) (C:=P2) (D:=Q) (E:=Z') hr (by rw [HL'.out,<-H0.out]; simp) (by have:=HP.out; have:=HA.out; omega) (by have:=H1.out; have:=H2.out; have:=HP.out; have:=HA.out; omega) (by rw [H1.out]) (by rw [H1.out,HQ.out]) hN).mono ?_;rintro e w1 ⟨rfl,hr1,hg1⟩;go_wp2_with fail
    go_roundw
    case rel=>exact ⟨p-q,q,A'++Q,P2,P1,Z',_,by go_num,rfl,by omega,hq,by omega,hmq,zNg rfl,H2,H1,zNg (by have:=H2.out; have:=HQ.out; have:=HP.out; have:=HA.out; simp; omega),zNg (by rw [<-HT'.out,<-H0.out]; simp),by simpa using hr1,Off.tr hg hg1⟩
    case measure=>simp [intOf]; omega
   ·have i2:¬(q:Int)<(p:Int):=by omega
    have e0:Q.take (q-p)++Q.drop (q-p)=Q:=List.take_append_drop _ Q;have l1:(Q.take (q-p)).length=q-p:=by have:=HQ.out; simp; omega
    have l2:(Q.drop (q-p)).length=p:=by have:=HQ.out; simp; omega
    generalize Q.take (q-p)=Q1 at *;generalize Q.drop (q-p)=Q2 at *;have H0:=zNg e0;have H1:=zNg l1;have H2:=zNg l2;clear e0 l1 l2;go_wp2_with fail
    refine (zDE (A:=A') (B:=P) (C:=Q1) (D:=Q2) (E:=Z') hr (by rw [HL'.out,<-H0.out]; simp) (by have:=HP.out; have:=HA.out; omega) (by have:=H1.out; have:=HP.out; have:=HA.out; omega) (by rw [HP.out]) (by rw [HP.out,H2.out]) hN).mono ?_;rintro e w1 ⟨rfl,hr1,hg1⟩;go_wp2_with fail
    go_roundw
    case rel=>exact ⟨p,q-p,A',Q2,Q1,P++Z',_,rfl,by go_num,hp,by omega,hpm,by omega,zNg rfl,H2,H1,zNg (by have:=H2.out; have:=HP.out; have:=HA.out; omega),zNg (by rw [<-HT'.out,<-H0.out]; simp),by simpa using hr1,Off.tr hg hg1⟩
    case measure=>simp [intOf]; omega
end Go.Proofs.YtlchafedbnihoaaGreatDoor
namespace Go.Proofs.YtlchafedbnihoaaGreatDoor
open Go.RowKit
open Mrg
set_option maxRecDepth 20000
set_option maxHeartbeats 16000000
theorem zGB:∀x y:List Int,cmpL y x = -cmpL x y
 | [],[]=>by simp [cmpL]
 | [],_::_=>by simp [cmpL]
 | _::_,[]=>by simp [cmpL]
 | a::x,b::y=>by
  have:=zGB x y;simp only [cmpL];rcases Int.lt_trichotomy a b with h | h | h
  ·rw [if_neg (by omega),if_pos h,if_pos h]; rfl
  ·subst h; rw [if_neg (by omega),if_neg (by omega),if_neg (by omega),if_neg (by omega)]; exact this
  ·rw [if_pos h,if_neg (by omega),if_pos h]
theorem zC4 (x y:List Int):cmpW y x = -cmpW x y:=by
 unfold cmpW;by_cases h:x.length=y.length
 ·rw [if_pos h,if_pos h.symm]; exact zGB x y
 ·rw [if_neg h,if_neg (fun e=>h e.symm)];by_cases h2:x.length<y.length
  ·rw [if_pos h2,if_neg (by omega)]; rfl
  ·rw [if_neg h2,if_pos (by omega)]
theorem zFD:∀{x y z:List Int},x.length=y.length→y.length=z.length→cmpL x y≤0→cmpL y z≤0→cmpL x z≤0
 | [],_,_,_,_,_,_=>by simp [cmpL]
 | a::x,b::y,c::z,h1,h2,h3,h4=>by
  have ih:=zFD (x:=x) (y:=y) (z:=z) (by simpa using h1) (by simpa using h2);simp only [cmpL] at h3 h4 ⊢;by_cases q1:a<b
  ·by_cases q2:b<c
   ·rw [if_pos (by omega)]; decide
   ·rw [if_neg q2] at h4;by_cases q3:c<b
    ·rw [if_pos q3] at h4; omega
    ·rw [if_pos (by omega)]; decide
  ·rw [if_neg q1] at h3;by_cases q0:b<a
   ·rw [if_pos q0] at h3; omega
   ·rw [if_neg q0] at h3;obtain rfl:a=b:=by omega
    by_cases q2:a<c
    ·rw [if_pos q2]; decide
    ·rw [if_neg q2] at h4 ⊢;by_cases q3:c<a
     ·rw [if_pos q3] at h4; omega
     ·rw [if_neg q3] at h4 ⊢;exact ih h3 h4
theorem zDY {x y z:List Int} (h1:cmpW x y≤0) (h2:cmpW y z≤0):cmpW x z≤0:=by
 unfold cmpW at *;by_cases a:x.length=y.length
 ·rw [if_pos a] at h1;by_cases b:y.length=z.length
  ·rw [if_pos b] at h2;rw [if_pos (a.trans b)];exact zFD a b h1 h2
  ·rw [if_neg b] at h2;rw [if_neg (by omega)];by_cases c:y.length<z.length
   ·rw [if_pos (by omega)]; decide
   ·rw [if_neg c] at h2; omega
 ·rw [if_neg a] at h1;by_cases a2:x.length<y.length
  ·by_cases b:y.length=z.length
   ·rw [if_neg (by omega),if_pos (by omega)]; decide
   ·rw [if_neg b] at h2;by_cases c:y.length<z.length
    ·rw [if_neg (by omega),if_pos (by omega)]; decide
    ·rw [if_neg c] at h2; omega
  ·rw [if_neg a2] at h1; omega
def leT (e f:El):Prop:=cmpW e.x f.x≤0
theorem zBm (a b c:El) (h1:leT a b) (h2:leT b c):leT a c:=zDY h1 h2
theorem zDM {e f:El} (h:¬cmpW e.x f.x<0):leT f e:=by unfold leT; rw [zC4]; omega
theorem zD5 {e f:El} (h:cmpW e.x f.x<0):leT e f:=by unfold leT; omega
def WdOk (L:List El):Prop:=∀e∈L,e.x.length≤16777216
theorem cmpT {S S':Nat→Prop} {W:World} {r1 r1' r2 r2':Value} {x y:List Int} (h:RI S W r1 x) (h':RI S' W r2 y) (hl:x.length≤16777216) (hl':y.length≤16777216) (h1:∃a n c,r1'=.slice a n c) (h2:∃a n c,r2'=.slice a n c) :
  Calls Tryz.prog 92 #[.agg #[r1,r1'],.agg #[r2,r2']] W fun e w'=>e=.returned (.int .i64 (cmpW x y))∧Below W.heap.size W w':=by
 obtain ⟨a1,n1,c1,rfl⟩:=h1;obtain ⟨a2,n2,c2,rfl⟩:=h2;obtain ⟨a3,c3,rfl⟩:=h.form;obtain ⟨a4,c4,rfl⟩:=h'.form;go_enter Tryz.func92,Tryz.ntmps92
 have bb:Below W.heap.size W ((W.alloc (.cells #[.slice a3 x.length c3,.slice a1 n1 c1] 39)).alloc (.cells #[.slice a4 y.length c4,.slice a2 n2 c2] 39)):=((Below.refl _ _).alloc (zNl _) _).alloc (by simp) _;go_wp2_with fail
 refine (zB3 (h.below bb) (h'.below bb) hl hl').mono ?_;rintro e w1 ⟨rfl,b1⟩;go_wp2_with fail
 go_ret
 exact ⟨rfl,zAA.step bb b1⟩
theorem RowT.wds {blk N cap:Nat} {W:World} {L:List El} {j:Nat} {e:El} (_:RowT blk N cap W L) (hw:WdOk L) (hj:L[j]? = some e):e.x.length≤16777216:=hw e (zNi hj)
theorem zAS {L M:List El} (h:WdOk L) (p:M.Perm L):WdOk M:=fun e he=>h e (p.mem_iff.1 he)
theorem zFL {blk N cap:Nat} {A M Z L:List El} {w:World} {a b:Nat} (h:RowT blk N cap w L) (hL:L=A++(M++Z)) (ha:A.length=a) (hb:A.length+M.length=b) (hN:N≤1048576) (hwd:WdOk L) :
  Calls Tryz.prog 131 #[.slice (some ⟨blk,0,none⟩) N cap,.int .i64 a,.int .i64 b,.func (.func 92) #[] #[]] w fun e w' =>
   e=.returned (.tuple #[])∧∃M',M'.Perm M∧Srt leT M'∧RowT blk N cap w' (A++(M'++Z))∧w.grownBy w' (some blk):=by
 have hlen:=h.1;have hbN:b≤N:=by rw [hL] at hlen; simp at hlen; omega
 have mixed:Tryz.prog.follows .mixedOrders=true:=by kernel_rfl
 subst hL;have HWD:=zNg hwd;have HA:=zNg ha;have HB:=zNg hb;have hab:a≤b:=by omega
 clear hwd ha hb hlen;go_enter Tryz.func131,Tryz.ntmps131
 go_wp2_with fail
 go_loopw [8] (fun iv wr=>∃(I:Nat) (P R:List El),iv=.int .i64 (I:Int)∧a+1≤I∧I≤b+1∧Hid (R≠[]→a+P.length=I)∧Hid (a+P.length≤I)∧Hid (P.length+R.length=M.length)∧Hid (Srt leT P)∧Hid ((P++R).Perm M)∧RowT blk N cap wr (A++(P++(R++Z)))∧w.grownBy wr (some blk)) (fun iv _=>b+1-(intOf iv).toNat)
 case atStart =>
  refine ⟨a+1,M.take 1,M.drop 1,by go_num,zNl _,by omega,zNg (fun hne=>?_),zNg ?_,zNg ?_,zNg ?_,zNg (by rw [List.take_append_drop]),?_,World.grownBy.refl _ _⟩
  ·cases M with
   | nil=>simp at hne
   | cons x M=>simp
  ·have:(M.take 1).length≤1:=by simp; omega
   omega
  ·simp; omega
  ·cases M with
   | nil=>simp
   | cons x M=>simp
  ·rw [<-List.append_assoc (M.take 1),List.take_append_drop]; exact h
 case round =>
  obtain ⟨I,P,R,rfl,hI1,hI2,HPR,HPI,HLN,HS,HPM,hr,hg⟩:=hrel;cases R with
  | nil =>
   have i1:¬(I:Int)<(b:Int):=by have h9:=HLN.out; have:=HA.out; have:=HB.out; have:=HPI.out; rw [List.length_nil] at h9; omega
   go_wp2_with fail
   go_end0
   exact ⟨rfl,P,by have:=HPM.out; rwa [List.append_nil] at this,HS.out,hr,hg⟩
  | cons x R =>
   have hPI:=HPR.out (by simp);have hIb:I<b:=by have h9:=HLN.out; have:=HA.out; have:=HB.out; rw [List.length_cons] at h9; omega
   have i1:(I:Int)<(b:Int):=by omega
   have HWL:Hid (WdOk (x::P)):=zNg (fun e he=>HWD.out e (by
    have hm:e∈M:=HPM.out.mem_iff.1 (by
     rcases List.mem_cons.1 he with rfl | he
     ·simp
     ·simp [he])
    simp [hm]))
   have h0:RowT blk N cap wr (A++(ins P (I-a) x++(R++Z))):=by
    rw [show I-a=P.length by omega,zDL];simpa using hr
   have HPI2:=zNg hPI;clear hr hPI;go_wp2_with fail
   go_loopw [9] (fun jv wr=>∃(J:Nat),jv=.int .i64 (J:Int)∧a≤J∧J≤I∧Hid (∀y,P[J-a]? = some y→leT x y)∧RowT blk N cap wr (A++(ins P (J-a) x++(R++Z)))∧w.grownBy wr (some blk)) (fun jv _=>(intOf jv).toNat)
   case atStart=>exact ⟨I,rfl,by omega,zNl _,zNg (fun y hy=>by rw [List.getElem?_eq_none (by have:=HPI2.out; omega)] at hy; cases hy),h0,hg⟩
   case round =>
    obtain ⟨J,rfl,hJ1,hJ2,HJ,hrj,hgj⟩:=hrel;have HEND:Hid ((J=a∨∃y,P[J-a-1]? = some y∧leT y x)→Srt leT (ins P (J-a) x)):=zNg (fun hc=>zFu zBm HS.out (by
     rcases hc with rfl | hc
     ·exact .inl (Nat.sub_self _)
     ·exact .inr hc) HJ.out)
    have HNEW:Hid (∀wr',RowT blk N cap wr' (A++(ins P (J-a) x++(R++Z)))→Srt leT (ins P (J-a) x)→w.grownBy wr' (some blk)→∃(I':Nat) (P' R':List El),Value.int IntKind.i64 ((I:Int)+1)=.int .i64 (I':Int)∧a+1≤I'∧I'≤b+1∧Hid (R'≠[]→a+P'.length=I')∧Hid (a+P'.length≤I')∧Hid (P'.length+R'.length=M.length)∧Hid (Srt leT P')∧Hid ((P'++R').Perm M)∧RowT blk N cap wr' (A++(P'++(R'++Z)))∧w.grownBy wr' (some blk)):=zNg (fun wr' q1 q2 q3=>by
     have hl:=zL9 P (J-a) x;have:=HPI2.out;refine ⟨I+1,ins P (J-a) x,R,by go_num,by omega,by omega,zNg (fun _=>by omega),zNg (by omega),zNg (by have h9:=HLN.out; rw [List.length_cons] at h9; omega),zNg q2,zNg ?_,q1,q3⟩;refine ((zEr P (J-a) x).append_right R).trans (List.Perm.trans ?_ HPM.out);simp only [List.cons_append];exact List.perm_middle.symm)
    by_cases hja:a<J
    ·obtain ⟨jp,rfl⟩:∃jp,J=jp+1:=⟨J-1,by omega⟩;have hvP:jp-a<P.length:=by have:=HPI2.out; omega
     obtain ⟨y,hy⟩:∃y,P[jp-a]? = some y:=⟨_,zNh hvP⟩;have hst:=zEs A (R++Z) (x:=x) hy;have e1:A.length+(jp-a)=jp:=by have:=HA.out; omega
     rw [e1,show jp-a+1=jp+1-a by omega] at hst;obtain ⟨_,_,_,hset,hgy,hgx⟩:=hst;obtain ⟨ax,lx,qx,ax',lx',qx',ex,ex'⟩:=hrj.forms hgx;obtain ⟨ay,ly,qy,ay',ly',qy',ey,ey'⟩:=hrj.forms hgy;obtain ⟨cx,cx'⟩:=hrj.cell hgx;obtain ⟨cy,cy'⟩:=hrj.cell hgy;have rx:=(hrj.reads hgx).1;have ry:=(hrj.reads hgy).1;rw [ex] at cx rx;rw [ex'] at cx';rw [ey] at cy ry;rw [ey'] at cy';have g0:=fun z:GW wr=>z.cell cx;have g1:=fun z:GW wr=>z.cell cx';have g2:=fun z:GW wr=>z.cell cy;have g3:=fun z:GW wr=>z.cell cy';have hwx:x.x.length≤16777216:=HWL.out x (by simp);have hwy:y.x.length≤16777216:=HWL.out y (by simp [zNi hy]);have jz:(jp:Int)+1<(N:Int):=by omega
     have jz1:(jp:Int)<(N:Int):=by omega
     have jza:(a:Int)<(jp:Int)+1:=by omega
     have p0:(0:Int)≤(jp:Int)+1:=by omega
     have e0:((jp:Int)+1).toNat=jp+1:=by omega
     have HROW:Hid (∀w8,Below wr.heap.size wr w8→RowT blk N cap w8 (A++(ins P (jp+1-a) x++(R++Z)))):=zNg (fun w8 hb=>hrj.below hb);have HGX:=zNg hgx;have HGY:=zNg hgy;have HSET:=zNg hset;have HY:=zNg hy;have HEX:=zNg (show x.r=_∧x.r'=_∧y.r=_∧y.r'=_ from ⟨ex,ex',ey,ey'⟩);clear hgx hgy hset hy ex ex' ey ey' cx cx' cy cy';by_cases hless:cmpW x.x y.x<0
     ·go_wp2_with fail
      refine zAK (by kernel_rfl) (by kernel_rfl) ?_
      repeat (go_big_quiet_step ((first | (rename_i z; go_at_call 92; exact Calls.grow z (cmpT (rx.below z.le) (ry.below z.le) hwx hwy ⟨_,_,_,rfl⟩ ⟨_,_,_,rfl⟩)))))
      refine wpQuiet_nil ?_;intro w8 hb8;have hr8:=HROW.out w8 hb8;obtain ⟨dx,dx'⟩:=hr8.cell HGX.out;obtain ⟨dy,dy'⟩:=hr8.cell HGY.out;have hsw:=hr8.swap HGX.out HGY.out;rw [HSET.out,HEX.out.1,HEX.out.2.1,HEX.out.2.2.1,HEX.out.2.2.2] at hsw;rw [HEX.out.1] at dx;rw [HEX.out.2.1] at dx';rw [HEX.out.2.2.1] at dy;rw [HEX.out.2.2.2] at dy';have f0:=hr8.froz (jp*2);have f1:=hr8.froz (jp*2+1);have f2:=hr8.froz ((jp+1)*2);have f3:=hr8.froz ((jp+1)*2+1);have HSW:=zNg hsw;have hless2:=decide_eq_true hless;have HB8:=zNg hb8;clear hr8 hsw hb8 g0 g1 g2 g3;go_wp2_with fail
      go_big_region_o
      go_wp2_with fail
      go_roundw
      case rel=>exact ⟨jp,by go_num,by omega,by omega,zNg (fun y' hy'=>by
       have:=HY.out;rw [hy'] at this;cases this;exact zD5 hless),HSW.out.1.drew,Off.tr (Off.tr hgj (Off.grown HB8.out)) (Off.drewG HSW.out.2)⟩
      case measure=>simp [intOf]
     ·have HS2:Hid (Srt leT (ins P (jp+1-a) x)):=zNg (HEND.out (.inr ⟨y,by rw [show jp+1-a-1=jp-a by omega]; exact HY.out,zDM hless⟩));have hless2:=decide_eq_false hless;go_wp2_with fail
      refine zAK (by kernel_rfl) (by kernel_rfl) ?_
      repeat (go_big_quiet_step ((first | (rename_i z; go_at_call 92; exact Calls.grow z (cmpT (rx.below z.le) (ry.below z.le) hwx hwy ⟨_,_,_,rfl⟩ ⟨_,_,_,rfl⟩)))))
      refine wpQuiet_nil ?_;intro w8 hb8;have HFIN:=zNg (HNEW.out w8 (HROW.out w8 hb8) HS2.out (Off.tr hgj (Off.grown hb8)));clear hb8 g0 g1 g2 g3;go_wp2_with fail
      go_roundw
      case rel=>exact HFIN.out
      case measure=>simp [intOf]; omega
    ·have hJa:J=a:=by omega
     have HS2:Hid (Srt leT (ins P (J-a) x)):=zNg (HEND.out (.inl hJa));have i2:decide ((a:Int)<(J:Int))=false:=decide_eq_false (by omega);have i3:decide (a<J)=false:=decide_eq_false (by omega);have HROW:Hid (∀w8,Below wr.heap.size wr w8→RowT blk N cap w8 (A++(ins P (J-a) x++(R++Z)))):=zNg (fun w8 hb=>hrj.below hb);clear hJa hja;go_wp2_with fail
     refine zAK (by kernel_rfl) (by kernel_rfl) ?_
     repeat (go_big_quiet_step ((first | (rename_i z; go_at_call 92; fail))))
     refine wpQuiet_nil ?_;intro w8 hb8;have HFIN:=zNg (HNEW.out w8 (HROW.out w8 hb8) HS2.out (Off.tr hgj (Off.grown hb8)));clear hb8;go_wp2_with fail
     go_roundw
     case rel=>exact HFIN.out
     case measure=>simp [intOf]; omega
end Go.Proofs.YtlchafedbnihoaaGreatDoor
