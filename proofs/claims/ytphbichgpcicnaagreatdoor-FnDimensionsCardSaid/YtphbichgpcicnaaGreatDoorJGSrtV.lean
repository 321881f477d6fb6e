/- A row of rows of the call's own, put in order by exchanges: their rows are only read. No condition. -/
import Derived.Test.YtphbichgpcicnaaGreatDoorJGMrg
import Derived.Test.YtphbichgpcicnaaGreatDoorJGDrA
namespace Go.Proofs.YtphbichgpcicnaaGreatDoor
open Go.RowKit
set_option maxRecDepth 20000
set_option maxHeartbeats 8000000
structure Ev where
 r:Value
 x:List Int
 k:Int
 p:Nat
def zCY (L:List Ev):List Value:=L.map Ev.r
def RowV (blk N cap:Nat) (W:World) (L:List Ev):Prop :=
 L.length=N∧W.ownsRow 0 28 1 (.slice (some ⟨blk,0,none⟩) N cap) N (zCY L)∧∀e∈L,RI (Off blk) W e.r e.x
section
variable {blk N cap:Nat} {W W':World} {L:List Ev}
theorem RowV.cell (h:RowV blk N cap W L) {j:Nat} {e:Ev} (hj:L[j]? = some e):W.cell? ⟨blk,j,none⟩=some e.r:=by
 have hl:j<L.length:=(zWI hj).1;have:=h.1;have h0:=h.2.1.cellAt j (by omega);exact h0.trans (by unfold zCY; rw [List.getElem?_map,hj]; rfl)
theorem RowV.froz (h:RowV blk N cap W L) (j:Nat):W.frozen? ⟨blk,j,none⟩=false:=h.2.1.frozenAt j
theorem RowV.reads (h:RowV blk N cap W L) {j:Nat} {e:Ev} (hj:L[j]? = some e):RI (Off blk) W e.r e.x:=h.2.2 e (zWH hj)
theorem RowV.forms (h:RowV blk N cap W L) {j:Nat} {e:Ev} (hj:L[j]? = some e):∃a n c,e.r=.slice a n c:=by
 obtain ⟨a,c,h1⟩:=(h.reads hj).form;exact ⟨a,_,c,h1⟩
theorem RowV.below (h:RowV blk N cap W L) (hb:Below W.heap.size W W'):RowV blk N cap W' L :=
 ⟨h.1,zAw h.2.1 (fun b hv=>hb.block b (h.2.1.lt b hv).2),fun e he=>(h.2.2 e he).below hb⟩
theorem RowV.drew (h:RowV blk N cap W L):RowV blk N cap W.drew L:=h.below (by exact (Below.refl _ W).drew)
theorem RowV.lt (h:RowV blk N cap W L):blk<W.heap.size:=(h.2.1.lt blk rfl).2
theorem RowV.put (h:RowV blk N cap W L) {j:Nat} {e:Ev} (he:RI (Off blk) W e.r e.x):RowV blk N cap (W.setCell ⟨blk,j,none⟩ e.r) (L.set j e) ∧
  W.grownBy (W.setCell ⟨blk,j,none⟩ e.r) (some blk):=by
 obtain ⟨a1,g⟩:=h.2.1.stored j e.r;refine ⟨⟨by simp [h.1],by unfold zCY at a1 ⊢; rw [List.map_set]; exact a1,fun f hf=>?_⟩,g⟩;rcases List.mem_or_eq_of_mem_set hf with h' | rfl
 ·exact Off.keepI (h.2.2 f h') g
 ·exact Off.keepI he g
theorem RowV.swap (h:RowV blk N cap W L) {i j:Nat} {e f:Ev} (hi:L[i]? = some e) (hj:L[j]? = some f) :
  RowV blk N cap ((W.setCell ⟨blk,i,none⟩ f.r).setCell ⟨blk,j,none⟩ e.r) ((L.set i f).set j e) ∧
  W.grownBy ((W.setCell ⟨blk,i,none⟩ f.r).setCell ⟨blk,j,none⟩ e.r) (some blk):=by
 obtain ⟨h1,g1⟩:=h.put (j:=i) (h.reads hj);obtain ⟨h2,g2⟩:=h1.put (j:=j) (e:=e) (Off.keepI (h.reads hi) g1);exact ⟨h2,Off.tr g1 g2⟩
end
open Mrg
theorem zOC {blk N cap:Nat} {A B C D E L:List Ev} {w:World} {fv:Value} {a b n:Nat} (h:RowV blk N cap w L) (hL:L=A++(B++(C++(D++E)))) (ha:A.length=a) (hb:A.length+B.length+C.length=b) (hn:B.length=n) (hBD:B.length=D.length) (hN:N≤1048576) :
  Calls Tryz.prog 214 #[.slice (some ⟨blk,0,none⟩) N cap,.int .i64 a,.int .i64 b,.int .i64 n,fv] w fun e w' =>
   e=.returned (.tuple #[])∧RowV blk N cap w' (A++(D++(C++(B++E))))∧w.grownBy w' (some blk):=by
 have HST:=zWF (fun k (hk:k<n)=>zR9 (A:=A) (C:=C) (E:=E) (k:=k) hBD (by omega));rw [hb,ha] at HST;have hlen:=h.1;have h0:RowV blk N cap w (swK A B C D E 0):=by rw [zSA,<-hL]; exact h
 have HE:Hid (swK A B C D E n=A++(D++(C++(B++E)))):=zWF (by rw [<-hn]; exact zUZ hBD);have hs1:a+n≤b∧b+n≤N:=by rw [hL] at hlen; simp at hlen; omega
 clear hL ha hb hn hBD h hlen;rw [<-HE.out];generalize swK A B C D E=K at *;obtain ⟨hs1,hs2⟩:=hs1;have mixed:Tryz.prog.follows .mixedOrders=true:=by kernel_rfl
 go_enter Tryz.func214,Tryz.ntmps214
 go_wp2_with fail
 go_loopw [10] (fun i wr=>∃k:Nat,k≤n∧i=.int .i64 k∧RowV blk N cap wr (K k)∧w.grownBy wr (some blk)) (fun i _=>n-(intOf i).toNat)
 case atStart=>exact ⟨0,Nat.zero_le _,rfl,h0,World.grownBy.refl _ _⟩
 case round =>
  obtain ⟨k,hk,rfl,hr,hg⟩:=hrel;by_cases h1:k<n
  ·have i1:(k:Int)<(n:Int):=by omega
   obtain ⟨x,y,hx,hy,hset⟩:=HST.out k h1;obtain ⟨ax,lx,qx,ex⟩:=hr.forms hx;obtain ⟨ay,ly,qy,ey⟩:=hr.forms hy;have cx:=hr.cell hx;have cy:=hr.cell hy;rw [ex] at cx;rw [ey] at cy;have f0:=hr.froz (a+k);have f2:=hr.froz (b+k);have e0:((a:Int)+(k:Int)).toNat=a+k:=by omega
   have e1:((b:Int)+(k:Int)).toNat=b+k:=by omega
   have hsw:=hr.swap hx hy;rw [hset] at hsw;rw [ex,ey] at hsw;have HSW:=zWF hsw;clear hsw ex ey;clear hx hy hset;go_wp2_with fail
   go_big_region_o
   go_wp2_with fail
   go_roundw
   case rel=>exact ⟨k+1,by omega,by go_num,HSW.out.1.drew,Off.tr hg (Off.drewG HSW.out.2)⟩
   case measure=>simp [intOf]; omega
  ·have hkn:k=n:=by omega
   have i1:¬(k:Int)<(n:Int):=by omega
   rw [hkn] at hr;clear hkn;go_wp2_with fail
   go_end0
   exact ⟨rfl,hr,hg⟩
theorem zEi {blk N cap:Nat} {A B C D E L:List Ev} {w:World} {fv:Value} {a b n:Int} (h:RowV blk N cap w L) (hL:L=A++(B++(C++(D++E)))) (ha:(A.length:Int)=a) (hb:(A.length:Int)+B.length+C.length=b) (hn:(B.length:Int)=n) (hBD:B.length=D.length) (hN:N≤1048576) :
  Calls Tryz.prog 214 #[.slice (some ⟨blk,0,none⟩) N cap,.int .i64 a,.int .i64 b,.int .i64 n,fv] w fun e w' =>
   e=.returned (.tuple #[])∧RowV blk N cap w' (A++(D++(C++(B++E))))∧w.grownBy w' (some blk):=by
 subst ha hb hn;have e:(A.length:Int)+B.length+C.length=((A.length+B.length+C.length:Nat):Int):=by omega
 rw [e];exact zOC h hL rfl rfl rfl hBD hN
theorem zUH {blk N cap:Nat} {A X Y Z L:List Ev} {w:World} {fv:Value} {a m b:Nat} (h:RowV blk N cap w L) (hL:L=A++(X++(Y++Z))) (ha:A.length=a) (hm:A.length+X.length=m) (hb:A.length+X.length+Y.length=b) (hX:0<X.length) (hY:0<Y.length) (hN:N≤1048576) :
  Calls Tryz.prog 202 #[.slice (some ⟨blk,0,none⟩) N cap,.int .i64 a,.int .i64 m,.int .i64 b,fv] w fun e w' =>
   e=.returned (.tuple #[])∧RowV blk N cap w' (A++(Y++(X++Z)))∧w.grownBy w' (some blk):=by
 have hlen:=h.1;have hbN:b≤N:=by rw [hL] at hlen; simp at hlen; omega
 have e1:(m:Int)-(a:Int)=((X.length:Nat):Int):=by omega
 have e2:(b:Int)-(m:Int)=((Y.length:Nat):Int):=by omega
 have HL:=zWF hL;have HM:=zWF hm;generalize hT:A++(Y++(X++Z))=T at *;have HT:=zWF hT;have hXN:X.length≤m:=by omega
 have hYN:Y.length≤N:=by omega
 have hmN:m≤N:=by omega
 generalize hxl:X.length=xl at *;generalize hyl:Y.length=yl at *;have HXL:=zWF hxl;have HYL:=zWF hyl;clear hxl hyl hL hT hm ha hb hlen;go_enter Tryz.func202,Tryz.ntmps202
 go_wp2_with fail
 go_loopw [10,11] (fun i j wr=>∃(p q:Nat) (A' P Q Z' L':List Ev),i=.int .i64 p∧j=.int .i64 q∧0<p∧0<q∧p≤m∧m+q≤N∧Hid (L'=A'++(P++(Q++Z')))∧Hid (P.length=p)∧Hid (Q.length=q)∧Hid (A'.length+P.length=m)∧Hid (A'++(Q++(P++Z'))=T)∧RowV blk N cap wr L'∧w.grownBy wr (some blk)) (fun i j _=>(intOf i).toNat+(intOf j).toNat)
 case atStart=>exact ⟨xl,yl,A,X,Y,Z,L,rfl,rfl,by omega,by omega,by omega,by omega,HL,HXL,HYL,zWF (by have:=HXL.out; have:=HM.out; omega),HT,h,World.grownBy.refl _ _⟩
 case round =>
  obtain ⟨p,q,A',P,Q,Z',L',rfl,rfl,hp,hq,hpm,hmq,HL',HP,HQ,HA,HT',hr,hg⟩:=hrel;by_cases hpq:p=q
  ·subst hpq;have i1:((p:Int) != (p:Int))=false:=by simp
   go_wp2_with fail
   refine (zEi (A:=A') (B:=P) (C:=[]) (D:=Q) (E:=Z') hr (by rw [HL'.out]; rfl) (by have:=HP.out; have:=HA.out; omega) (by have:=HP.out; have:=HA.out; simp; omega) (by rw [HP.out]) (by rw [HP.out,HQ.out]) hN).mono ?_;rintro e w1 ⟨rfl,hr1,hg1⟩;go_wp2_with fail
   go_end0
   refine ⟨rfl,?_,Off.tr hg hg1⟩;rw [<-HT'.out];exact hr1
  ·have i1:((p:Int) != (q:Int))=true:=by simp; omega
   by_cases hlt:q<p
   ·have i2:(q:Int)<(p:Int):=by omega
    have e0:P.take q++P.drop q=P:=List.take_append_drop q P;have l1:(P.take q).length=q:=by have:=HP.out; simp; omega
    have l2:(P.drop q).length=p-q:=by have:=HP.out; simp; omega
    generalize P.take q=P1 at *;generalize P.drop q=P2 at *;have H0:=zWF e0;have H1:=zWF l1;have H2:=zWF l2;clear e0 l1 l2;go_wp2_with fail
    refine (zEi (A:=A') (B:=P1) (C:=P2) (D:=Q) (E:=Z') hr (by rw [HL'.out,<-H0.out]; simp) (by have:=HP.out; have:=HA.out; omega) (by have:=H1.out; have:=H2.out; have:=HP.out; have:=HA.out; omega) (by rw [H1.out]) (by rw [H1.out,HQ.out]) hN).mono ?_;rintro e w1 ⟨rfl,hr1,hg1⟩;go_wp2_with fail
    go_roundw
    case rel=>exact ⟨p-q,q,A'++Q,P2,P1,Z',_,by go_num,rfl,by omega,hq,by omega,hmq,zWF rfl,H2,H1,zWF (by have:=H2.out; have:=HQ.out; have:=HP.out; have:=HA.out; simp; omega),zWF (by rw [<-HT'.out,<-H0.out]; simp),by simpa using hr1,Off.tr hg hg1⟩
    case measure=>simp [intOf]; omega
   ·have i2:¬(q:Int)<(p:Int):=by omega
    have e0:Q.take (q-p)++Q.drop (q-p)=Q:=List.take_append_drop _ Q;have l1:(Q.take (q-p)).length=q-p:=by have:=HQ.out; simp; omega
    have l2:(Q.drop (q-p)).length=p:=by have:=HQ.out; simp; omega
    generalize Q.take (q-p)=Q1 at *;generalize Q.drop (q-p)=Q2 at *;have H0:=zWF e0;have H1:=zWF l1;have H2:=zWF l2;clear e0 l1 l2;go_wp2_with fail
    refine (zEi (A:=A') (B:=P) (C:=Q1) (D:=Q2) (E:=Z') hr (by rw [HL'.out,<-H0.out]; simp) (by have:=HP.out; have:=HA.out; omega) (by have:=H1.out; have:=HP.out; have:=HA.out; omega) (by rw [HP.out]) (by rw [HP.out,H2.out]) hN).mono ?_;rintro e w1 ⟨rfl,hr1,hg1⟩;go_wp2_with fail
    go_roundw
    case rel=>exact ⟨p,q-p,A',Q2,Q1,P++Z',_,rfl,by go_num,hp,by omega,hpm,by omega,zWF rfl,H2,H1,zWF (by have:=H2.out; have:=HP.out; have:=HA.out; omega),zWF (by rw [<-HT'.out,<-H0.out]; simp),by simpa using hr1,Off.tr hg hg1⟩
    case measure=>simp [intOf]; omega
end Go.Proofs.YtphbichgpcicnaaGreatDoor
namespace Go.Proofs.YtphbichgpcicnaaGreatDoor
open Go.RowKit
open Mrg
set_option maxRecDepth 20000
set_option maxHeartbeats 8000000
def leV (e f:Ev):Prop:=e.k<f.k∨(e.k=f.k∧e.p≤f.p)
theorem zDS (a b c:Ev) (h1:leV a b) (h2:leV b c):leV a c:=by unfold leV at *; omega
theorem zMD {a b:Int}:cmp3 a b<0↔a<b:=by
 unfold cmp3;by_cases h:a<b
 ·rw [if_pos h]; omega
 ·rw [if_neg h];by_cases h2:b<a
  ·rw [if_pos h2]; omega
  ·rw [if_neg h2]; omega
theorem zGe {e f:Ev} (h:¬cmp3 e.k f.k<0) (hp:f.p≤e.p):leV f e:=by rw [zMD] at h; unfold leV; omega
theorem zHx {e f:Ev} (h:cmp3 e.k f.k<0):leV e f:=by rw [zMD] at h; unfold leV; omega
def OkV (OK:Ev→Prop) (L:List Ev):Prop:=∀e∈L,OK e
def zC8 (blk gc gv:Nat) (E:World→Prop) (OK:Ev→Prop):Prop :=
 (∀W W',E W→W.grownBy W' (some blk)→E W')∧∀(W:World) (r1 r2:Value) (x y:Ev),E W→OK x→OK y→RI (Off blk) W r1 x.x→RI (Off blk) W r2 y.x →
  Calls Tryz.prog 97 #[r1,r2,.pointer (some ⟨gc,0,none⟩),.pointer (some ⟨gv,0,none⟩)] W fun e w'=>e=.returned (.int .i64 (cmp3 x.k y.k))∧Below W.heap.size W w'
theorem zC8.bel {blk gc gv:Nat} {E:World→Prop} {OK:Ev→Prop} (h:zC8 blk gc gv E OK) {W W':World} (hE:E W) (hb:Below W.heap.size W W'):E W':=h.1 _ _ hE (Off.grown hb)
def zBV (a:Nat) (M:List Ev):Prop:=∀(i:Nat) (e:Ev),M[i]? = some e→e.p=a+i
theorem zTd {a:Nat} {M:List Ev} (h:zBV a M) (k:Nat):∀e∈M.take k,e.p<a+(M.take k).length:=fun e he=>by
 obtain ⟨i,hi⟩:=List.getElem?_of_mem he;have h1:=(zWI hi).1;rw [List.getElem?_take] at hi;split at hi
 ·have:=h i e hi; omega
 ·cases hi
theorem zTb {a:Nat} {M:List Ev} (h:zBV a M) (k:Nat):zBV (a+(M.take k).length) (M.drop k):=fun i e he=>by
 rw [List.getElem?_drop] at he;have h1:=(zWI he).1;have:=h _ e he;rw [List.length_take,this];omega
theorem zTc {a:Nat} {x:Ev} {R:List Ev} (h:zBV a (x::R)):zBV (a+1) R:=fun i e he=>by
 have:=h (i+1) e (by simpa using he);omega
theorem zVY {a q:Nat} {P:List Ev} {t:Nat} {x:Ev} (hP:∀e∈P,e.p<a+q) (hx:x.p=a+q) (hq:P.length=q):∀e∈ins P t x,e.p<a+(ins P t x).length:=fun e he=>by
 have:=(zFG P t x).mem_iff.1 he;rw [zMW];rcases List.mem_cons.1 this with rfl | h
 ·omega
 ·have:=hP e h; omega
theorem RowV.wds {OK:Ev→Prop} {blk N cap:Nat} {W:World} {L:List Ev} {j:Nat} {e:Ev} (_:RowV blk N cap W L) (hw:OkV OK L) (hj:L[j]? = some e):OK e:=hw e (zWH hj)
theorem zCN {OK:Ev→Prop} {L M:List Ev} (h:OkV OK L) (p:M.Perm L):OkV OK M:=fun e he=>h e (p.mem_iff.1 he)
theorem zHu {gc gv:Nat} {E:World→Prop} {OK:Ev→Prop} {blk N cap:Nat} {A M Z L:List Ev} {w:World} {a b:Nat} (HC:Hid (zC8 blk gc gv E OK)) (hE0:E w) (h:RowV blk N cap w L) (hL:L=A++(M++Z)) (ha:A.length=a) (hb:A.length+M.length=b) (hN:N≤1048576) (hwd:OkV OK L) (hex:zBV a M) :
  Calls Tryz.prog 170 #[.slice (some ⟨blk,0,none⟩) N cap,.int .i64 a,.int .i64 b,.func (.func 97) #[] #[.pointer (some ⟨gc,0,none⟩),.pointer (some ⟨gv,0,none⟩)]] w fun e w' =>
   e=.returned (.tuple #[])∧∃M',M'.Perm M∧Srt leV M'∧RowV blk N cap w' (A++(M'++Z))∧w.grownBy w' (some blk):=by
 have hlen:=h.1;have hbN:b≤N:=by rw [hL] at hlen; simp at hlen; omega
 have mixed:Tryz.prog.follows .mixedOrders=true:=by kernel_rfl
 subst hL;have HWD:=zWF hwd;have HEX0:=zWF hex;have HA:=zWF ha;have HB:=zWF hb;have hab:a≤b:=by omega
 clear hwd ha hb hlen hex;go_enter Tryz.func170,Tryz.ntmps170
 go_wp2_with fail
 go_loopw [8] (fun iv wr=>∃(I:Nat) (P R:List Ev),iv=.int .i64 (I:Int)∧a+1≤I∧I≤b+1∧Hid (R≠[]→a+P.length=I)∧Hid (a+P.length≤I)∧Hid (P.length+R.length=M.length)∧Hid (Srt leV P)∧Hid ((P++R).Perm M)∧Hid (∀e∈P,e.p<a+P.length)∧Hid (zBV (a+P.length) R)∧RowV blk N cap wr (A++(P++(R++Z)))∧w.grownBy wr (some blk)) (fun iv _=>b+1-(intOf iv).toNat)
 case atStart =>
  refine ⟨a+1,M.take 1,M.drop 1,by go_num,zWK _,by omega,zWF (fun hne=>?_),zWF ?_,zWF ?_,zWF ?_,zWF (by rw [List.take_append_drop]),zWF (zTd HEX0.out 1),zWF (zTb HEX0.out 1),?_,World.grownBy.refl _ _⟩
  ·cases M with
   | nil=>simp at hne
   | cons x M=>simp
  ·have:(M.take 1).length≤1:=by simp; omega
   omega
  ·simp; omega
  ·cases M with
   | nil=>simp
   | cons x M=>simp
  ·rw [<-List.append_assoc (M.take 1),List.take_append_drop]; exact h
 case round =>
  obtain ⟨I,P,R,rfl,hI1,hI2,HPR,HPI,HLN,HS,HPM,HPL,HRX,hr,hg⟩:=hrel;cases R with
  | nil =>
   have i1:¬(I:Int)<(b:Int):=by have h9:=HLN.out; have:=HA.out; have:=HB.out; have:=HPI.out; rw [List.length_nil] at h9; omega
   go_wp2_with fail
   go_end0
   exact ⟨rfl,P,by have:=HPM.out; rwa [List.append_nil] at this,HS.out,hr,hg⟩
  | cons x R =>
   have hPI:=HPR.out (by simp);have HXP:Hid (x.p=a+P.length):=zWF (HRX.out 0 x rfl);have hIb:I<b:=by have h9:=HLN.out; have:=HA.out; have:=HB.out; rw [List.length_cons] at h9; omega
   have i1:(I:Int)<(b:Int):=by omega
   have HWL:Hid (OkV OK (x::P)):=zWF (fun e he=>HWD.out e (by
    have hm:e∈M:=HPM.out.mem_iff.1 (by
     rcases List.mem_cons.1 he with rfl | he
     ·simp
     ·simp [he])
    simp [hm]))
   have h0:RowV blk N cap wr (A++(ins P (I-a) x++(R++Z))):=by
    rw [show I-a=P.length by omega,zEs];simpa using hr
   have HPI2:=zWF hPI;clear hr hPI;go_wp2_with fail
   go_loopw [9] (fun jv wr=>∃(J:Nat),jv=.int .i64 (J:Int)∧a≤J∧J≤I∧Hid (∀y,P[J-a]? = some y→leV x y)∧RowV blk N cap wr (A++(ins P (J-a) x++(R++Z)))∧w.grownBy wr (some blk)) (fun jv _=>(intOf jv).toNat)
   case atStart=>exact ⟨I,rfl,by omega,zWK _,zWF (fun y hy=>by rw [List.getElem?_eq_none (by have:=HPI2.out; omega)] at hy; cases hy),h0,hg⟩
   case round =>
    obtain ⟨J,rfl,hJ1,hJ2,HJ,hrj,hgj⟩:=hrel;have HEND:Hid ((J=a∨∃y,P[J-a-1]? = some y∧leV y x)→Srt leV (ins P (J-a) x)):=zWF (fun hc=>zId zDS HS.out (by
     rcases hc with rfl | hc
     ·exact .inl (Nat.sub_self _)
     ·exact .inr hc) HJ.out)
    have HNEW:Hid (∀wr',RowV blk N cap wr' (A++(ins P (J-a) x++(R++Z)))→Srt leV (ins P (J-a) x)→w.grownBy wr' (some blk)→∃(I':Nat) (P' R':List Ev),Value.int IntKind.i64 ((I:Int)+1)=.int .i64 (I':Int)∧a+1≤I'∧I'≤b+1∧Hid (R'≠[]→a+P'.length=I')∧Hid (a+P'.length≤I')∧Hid (P'.length+R'.length=M.length)∧Hid (Srt leV P')∧Hid ((P'++R').Perm M)∧Hid (∀e∈P',e.p<a+P'.length)∧Hid (zBV (a+P'.length) R')∧RowV blk N cap wr' (A++(P'++(R'++Z)))∧w.grownBy wr' (some blk)):=zWF (fun wr' q1 q2 q3=>by
     have hl:=zMW P (J-a) x;have:=HPI2.out;refine ⟨I+1,ins P (J-a) x,R,by go_num,by omega,by omega,zWF (fun _=>by omega),zWF (by omega),zWF (by have h9:=HLN.out; rw [List.length_cons] at h9; omega),zWF q2,zWF ?_,zWF (zVY HPL.out HXP.out rfl),zWF (by rw [hl]; exact zTc HRX.out),q1,q3⟩;refine ((zFG P (J-a) x).append_right R).trans (List.Perm.trans ?_ HPM.out);simp only [List.cons_append];exact List.perm_middle.symm)
    by_cases hja:a<J
    ·obtain ⟨jp,rfl⟩:∃jp,J=jp+1:=⟨J-1,by omega⟩;have hvP:jp-a<P.length:=by have:=HPI2.out; omega
     obtain ⟨y,hy⟩:∃y,P[jp-a]? = some y:=⟨_,zWG hvP⟩;have hst:=Mrg.zEG A (R++Z) (x:=x) hy;have e1:A.length+(jp-a)=jp:=by have:=HA.out; omega
     rw [e1,show jp-a+1=jp+1-a by omega] at hst;obtain ⟨_,_,_,hset,hgy,hgx⟩:=hst;obtain ⟨ax,lx,qx,ex⟩:=hrj.forms hgx;obtain ⟨ay,ly,qy,ey⟩:=hrj.forms hgy;have cx:=hrj.cell hgx;have cy:=hrj.cell hgy;have rx:=hrj.reads hgx;have ry:=hrj.reads hgy;rw [ex] at cx rx;rw [ey] at cy ry;have g0:=fun z:GW wr=>z.cell cx;have g2:=fun z:GW wr=>z.cell cy;have HE:=zWF (HC.out.1 _ _ hE0 hgj);have hwx:OK x:=HWL.out x (by simp);have hwy:OK y:=HWL.out y (by simp [zWH hy]);have jz:(jp:Int)+1<(N:Int):=by omega
     have jz1:(jp:Int)<(N:Int):=by omega
     have jza:(a:Int)<(jp:Int)+1:=by omega
     have p0:(0:Int)≤(jp:Int)+1:=by omega
     have e0:((jp:Int)+1).toNat=jp+1:=by omega
     have HROW:Hid (∀w8,Below wr.heap.size wr w8→RowV blk N cap w8 (A++(ins P (jp+1-a) x++(R++Z)))):=zWF (fun w8 hb=>hrj.below hb);have HGX:=zWF hgx;have HGY:=zWF hgy;have HSET:=zWF hset;have HY:=zWF hy;have HEX:=zWF (show x.r=_∧y.r=_ from ⟨ex,ey⟩);clear hgx hgy hset hy ex ey cx cy;by_cases hless:cmp3 x.k y.k<0
     ·go_wp2_with fail
      refine zAg (by kernel_rfl) (by kernel_rfl) ?_
      repeat (go_big_quiet_step ((first | (rename_i z; go_at_call 97; exact Calls.grow z (HC.out.2 _ _ _ x y (HC.out.bel HE.out z.le) hwx hwy (rx.below z.le) (ry.below z.le))))))
      refine wpQuiet_nil ?_;intro w8 hb8;have hr8:=HROW.out w8 hb8;have dx:=hr8.cell HGX.out;have dy:=hr8.cell HGY.out;have hsw:=hr8.swap HGX.out HGY.out;rw [HSET.out,HEX.out.1,HEX.out.2] at hsw;rw [HEX.out.1] at dx;rw [HEX.out.2] at dy;have f0:=hr8.froz jp;have f2:=hr8.froz (jp+1);have HSW:=zWF hsw;have hless2:=decide_eq_true hless;have HB8:=zWF hb8;clear hr8 hsw hb8 g0 g2;go_wp2_with fail
      go_big_region_o
      go_wp2_with fail
      go_roundw
      case rel=>exact ⟨jp,by go_num,by omega,by omega,zWF (fun y' hy'=>by
       have:=HY.out;rw [hy'] at this;cases this;exact zHx hless),HSW.out.1.drew,Off.tr (Off.tr hgj (Off.grown HB8.out)) (Off.drewG HSW.out.2)⟩
      case measure=>simp [intOf]
     ·have HS2:Hid (Srt leV (ins P (jp+1-a) x)):=zWF (HEND.out (.inr ⟨y,by rw [show jp+1-a-1=jp-a by omega]; exact HY.out,zGe hless (by have:=HPL.out y (zWH HY.out); have:=HXP.out; omega)⟩));have hless2:=decide_eq_false hless;go_wp2_with fail
      refine zAg (by kernel_rfl) (by kernel_rfl) ?_
      repeat (go_big_quiet_step ((first | (rename_i z; go_at_call 97; exact Calls.grow z (HC.out.2 _ _ _ x y (HC.out.bel HE.out z.le) hwx hwy (rx.below z.le) (ry.below z.le))))))
      refine wpQuiet_nil ?_;intro w8 hb8;have HFIN:=zWF (HNEW.out w8 (HROW.out w8 hb8) HS2.out (Off.tr hgj (Off.grown hb8)));clear hb8 g0 g2;go_wp2_with fail
      go_roundw
      case rel=>exact HFIN.out
      case measure=>simp [intOf]; omega
    ·have hJa:J=a:=by omega
     have HS2:Hid (Srt leV (ins P (J-a) x)):=zWF (HEND.out (.inl hJa));have i2:decide ((a:Int)<(J:Int))=false:=decide_eq_false (by omega);have i3:decide (a<J)=false:=decide_eq_false (by omega);have HROW:Hid (∀w8,Below wr.heap.size wr w8→RowV blk N cap w8 (A++(ins P (J-a) x++(R++Z)))):=zWF (fun w8 hb=>hrj.below hb);clear hJa hja;go_wp2_with fail
     refine zAg (by kernel_rfl) (by kernel_rfl) ?_
     repeat (go_big_quiet_step ((first | (rename_i z; go_at_call 97; fail))))
     refine wpQuiet_nil ?_;intro w8 hb8;have HFIN:=zWF (HNEW.out w8 (HROW.out w8 hb8) HS2.out (Off.tr hgj (Off.grown hb8)));clear hb8;go_wp2_with fail
     go_roundw
     case rel=>exact HFIN.out
     case measure=>simp [intOf]; omega
def SymV (gc gv:Nat) (E:World→Prop) (OK:Ev→Prop) (blk N cap n:Nat):Prop:=Hid (zC8 blk gc gv E OK)→∀{A X Y Z L:List Ev} {w:World} {a m b:Nat},E w→RowV blk N cap w L→L=A++(X++(Y++Z))→A.length=a→A.length+X.length=m→A.length+X.length+Y.length=b→0<X.length→0<Y.length→X.length+Y.length≤n→N≤1048576→OkV OK L→Srt leV X→Srt leV Y→(∀x∈X,∀y∈Y,x.p≤y.p) →
 Calls Tryz.prog 182 #[.slice (some ⟨blk,0,none⟩) N cap,.int .i64 a,.int .i64 m,.int .i64 b,.func (.func 97) #[] #[.pointer (some ⟨gc,0,none⟩),.pointer (some ⟨gv,0,none⟩)]] w fun e w' =>
  e=.returned (.tuple #[])∧∃M,M.Perm (X++Y)∧Srt leV M∧RowV blk N cap w' (A++(M++Z))∧w.grownBy w' (some blk)
theorem zCy {α:Type} (A Y Z:List α) {j:Nat} {y:α} (h:Y[j]? = some y):(A++(Y++Z))[A.length+j]? = some y:=by
 rw [List.getElem?_append_right (by omega),Nat.add_sub_cancel_left,List.getElem?_append_left (zWI h).1];exact h
theorem zQB {gc gv:Nat} {E:World→Prop} {OK:Ev→Prop} {blk N cap:Nat} {A Y Z L:List Ev} {x:Ev} {w:World} {a m b:Nat} (HC:Hid (zC8 blk gc gv E OK)) (hE0:E w) (h:RowV blk N cap w L) (hL:L=A++([x]++(Y++Z))) (ha:A.length=a) (hm:A.length+1=m) (hb:A.length+1+Y.length=b) (hN:N≤1048576) (hwd:OkV OK L) (hS:Srt leV Y) (hpl:∀y∈Y,x.p≤y.p) :
 Calls Tryz.prog 182 #[.slice (some ⟨blk,0,none⟩) N cap,.int .i64 a,.int .i64 m,.int .i64 b,.func (.func 97) #[] #[.pointer (some ⟨gc,0,none⟩),.pointer (some ⟨gv,0,none⟩)]] w fun e w' =>
  e=.returned (.tuple #[])∧∃M,M.Perm (x::Y)∧Srt leV M∧RowV blk N cap w' (A++(M++Z))∧w.grownBy w' (some blk):=by
 have hlen:=h.1;have hbN:b≤N:=by rw [hL] at hlen; simp at hlen; omega
 have mixed:Tryz.prog.follows .mixedOrders=true:=by kernel_rfl
 have HA:=zWF ha;have HB:=zWF hb;have HWD:=zWF hwd;have h0:RowV blk N cap w (A++(ins Y 0 x++Z)):=by rw [zFH]; simpa [hL] using h
 have HL:=zWF hL;have HSY:=zWF hS;have HPL:=zWF hpl;have HWL:Hid (OkV OK (A++(ins Y 0 x++Z))):=zWF (by rw [zFH]; simpa [hL] using hwd);have hm1:a+1≤m:=by omega
 have hm2:m≤a+1:=by omega
 have hab:m≤b:=by omega
 have i0:((m:Int)-(a:Int) == 1)=true:=by simp; omega
 clear ha hb hL hlen h hwd hS hpl hm;go_enter Tryz.func182,Tryz.ntmps182
 go_wp2_with fail
 go_loopw [10,11] (fun iv jv wr=>∃(I J:Nat),iv=.int .i64 (I:Int)∧jv=.int .i64 (J:Int)∧m≤I∧I≤J∧J≤b∧Hid (I=m∨∃y,Y[I-m-1]? = some y∧leV y x)∧Hid (∀y,Y[J-m]? = some y→leV x y)∧RowV blk N cap wr (A++(ins Y 0 x++Z))∧w.grownBy wr (some blk)) (fun iv jv _=>(intOf jv).toNat-(intOf iv).toNat)
 case atStart=>exact ⟨m,b,rfl,rfl,zWK _,hab,zWK _,zWF (.inl rfl),zWF (fun y hy=>by rw [List.getElem?_eq_none (by have:=HA.out; have:=HB.out; omega)] at hy; cases hy),h0,World.grownBy.refl _ _⟩
 case round =>
  obtain ⟨I,J,rfl,rfl,hI,hIJ,hJ,HI,HJ,hr,hg⟩:=hrel;by_cases hlt:I<J
  ·have i1:(I:Int)<(J:Int):=by omega
   obtain ⟨H,hH⟩:∃H:Nat,H=(I+J) / 2:=⟨_,rfl⟩;have hH1:((I:Int)+(J:Int)) / 2=(H:Int):=by omega
   have hH2:I≤H∧H<J:=by omega
   obtain ⟨v,hv⟩:∃v,H=m+v:=⟨H-m,by omega⟩;have hvY:v<Y.length:=by have:=HA.out; have:=HB.out; omega
   obtain ⟨y,hy⟩:∃y,Y[v]? = some y:=⟨_,zWG hvY⟩;have hgx:(A++(ins Y 0 x++Z))[a]? = some x:=by
    rw [zFH,<-HA.out];exact zCy A (x::Y) Z (j:=0) rfl
   have hgy:(A++(ins Y 0 x++Z))[H]? = some y:=by
    rw [zFH,show H=A.length+(v+1) by have:=HA.out; omega];exact zCy A (x::Y) Z (j:=v+1) hy
   obtain ⟨ax,lx,qx,ex⟩:=hr.forms hgx;have cx:=hr.cell hgx;have rx:=hr.reads hgx;have HE:=zWF (HC.out.1 _ _ hE0 hg);have hwx:OK x:=hr.wds HWL.out hgx;rw [ex] at cx rx;obtain ⟨ay,ly,qy,ey⟩:=hr.forms hgy;have cy:=hr.cell hgy;have ry:=hr.reads hgy;have hwy:OK y:=hr.wds HWL.out hgy;rw [ey] at cy ry;have g0:=fun z:GW wr=>z.cell cx;have g2:=fun z:GW wr=>z.cell cy;have jz:(H:Int)<(N:Int):=by omega
   have jz1:(a:Int)<(N:Int):=by omega
   have HY:=zWF hy;have HV:=zWF hv;have HROW:Hid (∀w8,Below wr.heap.size wr w8→RowV blk N cap w8 (A++(ins Y 0 x++Z))):=zWF (fun w8 hb=>hr.below hb);clear hgx hgy hy hv ex ey hH cx cy;by_cases hless:cmp3 y.k x.k<0
   ·have hless2:=decide_eq_true hless;go_wp2_with fail
    refine zAg (by kernel_rfl) (by kernel_rfl) ?_
    repeat (go_big_quiet_step ((first | (rename_i z; go_at_call 97; exact Calls.grow z (HC.out.2 _ _ _ y x (HC.out.bel HE.out z.le) hwy hwx (ry.below z.le) (rx.below z.le))))))
    refine wpQuiet_nil ?_;intro w8 hb8;have HR8:=zWF (HROW.out w8 hb8);have HG8:=zWF (Off.tr hg (Off.grown hb8));clear hb8 g0 g2;go_wp2_with fail
    go_roundw
    case rel=>exact ⟨H+1,J,by go_num,rfl,by omega,by omega,hJ,zWF (.inr ⟨y,by rw [show H+1-m-1=v by have:=HV.out; omega]; exact HY.out,zHx hless⟩),HJ,HR8.out,HG8.out⟩
    case measure=>simp [intOf]; omega
   ·have hless2:=decide_eq_false hless;go_wp2_with fail
    refine zAg (by kernel_rfl) (by kernel_rfl) ?_
    repeat (go_big_quiet_step ((first | (rename_i z; go_at_call 97; exact Calls.grow z (HC.out.2 _ _ _ y x (HC.out.bel HE.out z.le) hwy hwx (ry.below z.le) (rx.below z.le))))))
    refine wpQuiet_nil ?_;intro w8 hb8;have HR8:=zWF (HROW.out w8 hb8);have HG8:=zWF (Off.tr hg (Off.grown hb8));clear hb8 g0 g2;go_wp2_with fail
    go_roundw
    case rel=>exact ⟨I,H,rfl,rfl,hI,by omega,by omega,HI,zWF (fun y' hy'=>by
     rw [show H-m=v by have:=HV.out; omega,HY.out] at hy';cases hy';exact zGe (by omega) (HPL.out y (zWH HY.out))),HR8.out,HG8.out⟩
    case measure=>simp [intOf]; omega
  ·obtain rfl:I=J:=by omega
   have i1:¬(I:Int)<(I:Int):=by omega
   have HP:Hid (Srt leV (ins Y (I-m) x)):=zWF (zId zDS HSY.out (by
    rcases HI.out with h | h
    ·exact .inl (by omega)
    ·exact .inr h) HJ.out)
   have hsub:(I:Int)-1=((I-1:Nat):Int):=by omega
   have hYI:I-m≤Y.length:=by have:=HA.out; have:=HB.out; omega
   clear HI HJ;go_wp2_with fail
   go_loopw [13] (fun kv wr=>∃(t:Nat),kv=.int .i64 ((a:Int)+(t:Int))∧t≤I-m∧RowV blk N cap wr (A++(ins Y t x++Z))∧w.grownBy wr (some blk)) (fun kv _=>I-(intOf kv).toNat)
   case atStart=>exact ⟨0,by go_num,Nat.zero_le _,hr,hg⟩
   case round =>
    obtain ⟨t,rfl,ht,hr,hg⟩:=hrel;by_cases htI:t<I-m
    ·have i2:(a:Int)+(t:Int)<(I:Int)-1:=by omega
     obtain ⟨k,hk⟩:∃k,a+t=k:=⟨_,rfl⟩;have hk1:(a:Int)+(t:Int)=(k:Int):=by omega
     obtain ⟨y,hy⟩:∃y,Y[t]? = some y:=⟨_,zWG (by omega)⟩;have hst:=Mrg.zEG A Z (x:=x) hy;rw [HA.out,hk] at hst;obtain ⟨hgx,hgy,hset,_⟩:=hst;obtain ⟨ax,lx,qx,ex⟩:=hr.forms hgx;obtain ⟨ay,ly,qy,ey⟩:=hr.forms hgy;have dx:=hr.cell hgx;have dy:=hr.cell hgy;have hsw:=hr.swap hgx hgy;rw [hset,ex,ey] at hsw;rw [ex] at dx;rw [ey] at dy;have f0:=hr.froz k;have f2:=hr.froz (k+1);have HSW:=zWF hsw;have jz:(k:Int)+1<(N:Int):=by omega
     have jz1:(k:Int)<(N:Int):=by omega
     have i3:(k:Int)<(I:Int)-1:=by omega
     have p0:(0:Int)≤(k:Int)+1:=by omega
     have e0:((k:Int)+1).toNat=k+1:=by omega
     have HK:=zWF hk;clear hsw hgx hgy hset hy ex ey i2;rw [hk1];clear hk hk1;go_wp2_with fail
     go_big_region_o
     go_wp2_with fail
     go_roundw
     case rel=>exact ⟨t+1,by have:=HK.out; go_num,by omega,HSW.out.1.drew,Off.tr hg (Off.drewG HSW.out.2)⟩
     case measure=>have:=HK.out; simp [intOf]; omega
    ·have i2:¬(a:Int)+(t:Int)<(I:Int)-1:=by omega
     have HT:Hid (t=I-m):=zWF (by omega);rw [HT.out] at hr;go_wp2_with fail
     (try simp only [Exit.inBlock,Exit.then])
     refine bodyPost_ret (results_none rfl _ _ _) rfl ?_;exact ⟨rfl,_,zFG Y _ x,HP.out,hr,hg⟩
theorem zOD {gc gv:Nat} {E:World→Prop} {OK:Ev→Prop} {blk N cap:Nat} {A X Z L:List Ev} {y:Ev} {w:World} {a m b:Nat} (HC:Hid (zC8 blk gc gv E OK)) (hE0:E w) (h:RowV blk N cap w L) (hL:L=A++(X++([y]++Z))) (ha:A.length=a) (hm:A.length+X.length=m) (hb:A.length+X.length+1=b) (h2:2≤X.length) (hN:N≤1048576) (hwd:OkV OK L) (hS:Srt leV X) (hpl:∀x∈X,x.p≤y.p) :
 Calls Tryz.prog 182 #[.slice (some ⟨blk,0,none⟩) N cap,.int .i64 a,.int .i64 m,.int .i64 b,.func (.func 97) #[] #[.pointer (some ⟨gc,0,none⟩),.pointer (some ⟨gv,0,none⟩)]] w fun e w' =>
  e=.returned (.tuple #[])∧∃M,M.Perm (X++[y])∧Srt leV M∧RowV blk N cap w' (A++(M++Z))∧w.grownBy w' (some blk):=by
 have hlen:=h.1;have hbN:b≤N:=by rw [hL] at hlen; simp at hlen; omega
 have mixed:Tryz.prog.follows .mixedOrders=true:=by kernel_rfl
 have HA:=zWF ha;have HB:=zWF hm;have HWD:=zWF hwd;have h0:RowV blk N cap w (A++(ins X X.length y++Z)):=by rw [zEs]; simpa [hL] using h
 have HL:=zWF hL;have HSY:=zWF hS;have HPL:=zWF hpl;have HWL:Hid (OkV OK (A++(ins X X.length y++Z))):=zWF (by rw [zEs]; simpa [hL] using hwd);have hm1:a+2≤m:=by omega
 have hb1:m+1≤b:=by omega
 have hb2:b≤m+1:=by omega
 have i0:((m:Int)-(a:Int) == 1)=false:=by simp; omega
 have i0b:((b:Int)-(m:Int) == 1)=true:=by simp; omega
 clear ha hb hL hlen h hwd hS hpl hm h2;go_enter Tryz.func182,Tryz.ntmps182
 go_wp2_with fail
 go_loopw [14,15] (fun iv jv wr=>∃(I J:Nat),iv=.int .i64 (I:Int)∧jv=.int .i64 (J:Int)∧a≤I∧I≤J∧J≤m∧Hid (I=a∨∃x,X[I-a-1]? = some x∧leV x y)∧Hid (∀x,X[J-a]? = some x→leV y x)∧RowV blk N cap wr (A++(ins X X.length y++Z))∧w.grownBy wr (some blk)) (fun iv jv _=>(intOf jv).toNat-(intOf iv).toNat)
 case atStart=>exact ⟨a,m,rfl,rfl,zWK _,by omega,zWK _,zWF (.inl rfl),zWF (fun x hx=>by rw [List.getElem?_eq_none (by have:=HA.out; have:=HB.out; omega)] at hx; cases hx),h0,World.grownBy.refl _ _⟩
 case round =>
  obtain ⟨I,J,rfl,rfl,hI,hIJ,hJ,HI,HJ,hr,hg⟩:=hrel;by_cases hlt:I<J
  ·have i1:(I:Int)<(J:Int):=by omega
   obtain ⟨H,hH⟩:∃H:Nat,H=(I+J) / 2:=⟨_,rfl⟩;have hH1:((I:Int)+(J:Int)) / 2=(H:Int):=by omega
   have hH2:I≤H∧H<J:=by omega
   obtain ⟨v,hv⟩:∃v,H=a+v:=⟨H-a,by omega⟩;have hvX:v<X.length:=by have:=HA.out; have:=HB.out; omega
   obtain ⟨x,hx⟩:∃x,X[v]? = some x:=⟨_,zWG hvX⟩;have hgy:(A++(ins X X.length y++Z))[m]? = some y:=by
    rw [zEs,<-HB.out];exact zCy A (X++[y]) Z (j:=X.length) (by simp)
   have hgx:(A++(ins X X.length y++Z))[H]? = some x:=by
    rw [zEs,hv,<-HA.out];exact zCy A (X++[y]) Z (j:=v) (by rw [List.getElem?_append_left hvX]; exact hx)
   obtain ⟨ax,lx,qx,ex⟩:=hr.forms hgx;have cx:=hr.cell hgx;have rx:=hr.reads hgx;have HE:=zWF (HC.out.1 _ _ hE0 hg);have hwx:OK x:=hr.wds HWL.out hgx;rw [ex] at cx rx;obtain ⟨ay,ly,qy,ey⟩:=hr.forms hgy;have cy:=hr.cell hgy;have ry:=hr.reads hgy;have hwy:OK y:=hr.wds HWL.out hgy;rw [ey] at cy ry;have g0:=fun z:GW wr=>z.cell cx;have g2:=fun z:GW wr=>z.cell cy;have jz:(H:Int)<(N:Int):=by omega
   have jz1:(m:Int)<(N:Int):=by omega
   have HY:=zWF hx;have HV:=zWF hv;have HROW:Hid (∀w8,Below wr.heap.size wr w8→RowV blk N cap w8 (A++(ins X X.length y++Z))):=zWF (fun w8 hb=>hr.below hb);clear hgx hgy hx hv ex ey hH cx cy;by_cases hless:cmp3 y.k x.k<0
   ·have hless2:=decide_eq_true hless;go_wp2_with fail
    refine zAg (by kernel_rfl) (by kernel_rfl) ?_
    repeat (go_big_quiet_step ((first | (rename_i z; go_at_call 97; exact Calls.grow z (HC.out.2 _ _ _ y x (HC.out.bel HE.out z.le) hwy hwx (ry.below z.le) (rx.below z.le))))))
    refine wpQuiet_nil ?_;intro w8 hb8;have HR8:=zWF (HROW.out w8 hb8);have HG8:=zWF (Off.tr hg (Off.grown hb8));clear hb8 g0 g2;go_wp2_with fail
    go_roundw
    case rel=>exact ⟨I,H,rfl,rfl,hI,by omega,by omega,HI,zWF (fun x' hx'=>by
     rw [show H-a=v by have:=HV.out; omega,HY.out] at hx';cases hx';exact zHx hless),HR8.out,HG8.out⟩
    case measure=>simp [intOf]; omega
   ·have hless2:=decide_eq_false hless;go_wp2_with fail
    refine zAg (by kernel_rfl) (by kernel_rfl) ?_
    repeat (go_big_quiet_step ((first | (rename_i z; go_at_call 97; exact Calls.grow z (HC.out.2 _ _ _ y x (HC.out.bel HE.out z.le) hwy hwx (ry.below z.le) (rx.below z.le))))))
    refine wpQuiet_nil ?_;intro w8 hb8;have HR8:=zWF (HROW.out w8 hb8);have HG8:=zWF (Off.tr hg (Off.grown hb8));clear hb8 g0 g2;go_wp2_with fail
    go_roundw
    case rel=>exact ⟨H+1,J,by go_num,rfl,by omega,by omega,hJ,zWF (.inr ⟨x,by rw [show H+1-a-1=v by have:=HV.out; omega]; exact HY.out,zGe (by omega) (HPL.out x (zWH HY.out))⟩),HJ,HR8.out,HG8.out⟩
    case measure=>simp [intOf]; omega
  ·obtain rfl:I=J:=by omega
   have i1:¬(I:Int)<(I:Int):=by omega
   have HP:Hid (Srt leV (ins X (I-a) y)):=zWF (zId zDS HSY.out (by
    rcases HI.out with h | h
    ·exact .inl (by omega)
    ·exact .inr h) HJ.out)
   have hXm:X.length+a≤m∧m≤X.length+a:=by have:=HA.out; have:=HB.out; omega
   obtain ⟨hXm1,hXm2⟩:=hXm;clear HI HJ;go_wp2_with fail
   go_loopw [17] (fun kv wr=>∃(K:Nat),kv=.int .i64 (K:Int)∧I≤K∧K≤m∧RowV blk N cap wr (A++(ins X (K-a) y++Z))∧w.grownBy wr (some blk)) (fun kv _=>(intOf kv).toNat)
   case atStart=>exact ⟨m,rfl,by omega,zWK _,by rw [show m-a=X.length by omega]; exact hr,hg⟩
   case round =>
    obtain ⟨K,rfl,hK1,hK2,hr,hg⟩:=hrel;by_cases htI:I<K
    ·obtain ⟨k,rfl⟩:∃k,K=k+1:=⟨K-1,by omega⟩;have i2:(I:Int)<(k:Int)+1:=by omega
     obtain ⟨x,hx⟩:∃x,X[k-a]? = some x:=⟨_,zWG (by omega)⟩;have hst:=Mrg.zEG A Z (x:=y) hx;rw [show A.length+(k-a)=k by have:=HA.out; omega,show k-a+1=k+1-a by omega] at hst;obtain ⟨_,_,_,hset,hgx,hgy⟩:=hst;obtain ⟨ax,lx,qx,ex⟩:=hr.forms hgx;obtain ⟨ay,ly,qy,ey⟩:=hr.forms hgy;have dx:=hr.cell hgx;have dy:=hr.cell hgy;have hsw:=hr.swap hgy hgx;rw [hset,ex,ey] at hsw;rw [ex] at dx;rw [ey] at dy;have f0:=hr.froz k;have f2:=hr.froz (k+1);have HSW:=zWF hsw;have jz:(k:Int)+1<(N:Int):=by omega
     have jz1:(k:Int)<(N:Int):=by omega
     have p0:(0:Int)≤(k:Int)+1:=by omega
     have e0:((k:Int)+1).toNat=k+1:=by omega
     clear hsw hgx hgy hset hx ex ey;go_wp2_with fail
     go_big_region_o
     go_wp2_with fail
     go_roundw
     case rel=>exact ⟨k,by go_num,by omega,by omega,HSW.out.1.drew,Off.tr hg (Off.drewG HSW.out.2)⟩
     case measure=>simp [intOf]
    ·have i2:¬(I:Int)<(K:Int):=by omega
     have HT:Hid (K=I):=zWF (by omega);rw [HT.out] at hr;go_wp2_with fail
     (try simp only [Exit.inBlock,Exit.then])
     refine bodyPost_ret (results_none rfl _ _ _) rfl ?_;exact ⟨rfl,_,(zFG X _ y).trans (List.perm_append_comm (l₁:=[y])),HP.out,hr,hg⟩
theorem zBi {Y:List Ev} (h:Srt leV Y) {X:List Ev} (hx:X=[]):Srt leV (X++Y):=by subst hx; exact h
theorem zBc {X:List Ev} (h:Srt leV X) {Y:List Ev} (hy:Y=[]):Srt leV (X++Y):=by subst hy; rw [List.append_nil]; exact h
theorem zAm {X:List Ev} (h:X.length=0):X=[]:=List.eq_nil_of_length_eq_zero h
theorem zMi {X X1 X2 Y Y1 Y2:List Ev} (e:X1++X2=X) (f:Y1++Y2=Y) (h:∀x∈X,∀y∈Y,x.p≤y.p):∀x∈X1,∀y∈Y1,x.p≤y.p:=by subst e; subst f; exact fun x hx y hy=>h x (List.mem_append_left _ hx) y (List.mem_append_left _ hy)
theorem zGk {X X1 X2 Y Y1 Y2:List Ev} (e:X1++X2=X) (f:Y1++Y2=Y) (h:∀x∈X,∀y∈Y,x.p≤y.p):∀x∈X2,∀y∈Y2,x.p≤y.p:=by subst e; subst f; exact fun x hx y hy=>h x (List.mem_append_right _ hx) y (List.mem_append_right _ hy)
theorem zB4 {X X1 X2:List Ev} (e:X1++X2=X) (h:Srt leV X):Srt leV X1:=by subst e; exact (List.pairwise_append.1 h).1
theorem zAl {X X1 X2:List Ev} (e:X1++X2=X) (h:Srt leV X):Srt leV X2:=by subst e; exact (List.pairwise_append.1 h).2.1
theorem zJM {A Z X1 X2 Y1 Y2 M1:List Ev} (h:M1.Perm (X1++Y1)):(A++(M1++(X2++(Y2++Z)))).Perm (A++((X1++X2)++((Y1++Y2)++Z))):=by
 refine List.Perm.append_left A ?_;have e1:M1++(X2++(Y2++Z))=(M1++X2)++(Y2++Z):=by simp
 have e2:(X1++X2)++((Y1++Y2)++Z)=(X1++(X2++Y1))++(Y2++Z):=by simp
 rw [e1,e2];refine List.Perm.append_right _ ?_;refine (h.append_right X2).trans ?_;rw [List.append_assoc];exact List.Perm.append_left _ List.perm_append_comm
theorem zH5 {A Z X1 X2 Y1 Y2:List Ev}:(A++(X1++(Y1++(X2++(Y2++Z))))).Perm (A++((X1++X2)++((Y1++Y2)++Z))):=by
 have:=zJM (A:=A) (Z:=Z) (X1:=X1) (X2:=X2) (Y1:=Y1) (Y2:=Y2) (List.Perm.refl _);rwa [List.append_assoc X1] at this
theorem zDo {A Z X1 X2 Y1 Y2 M1:List Ev} (h:M1.Perm (X1++Y1)):((A++M1)++(X2++(Y2++Z))).Perm (A++((X1++X2)++((Y1++Y2)++Z))):=by
 rw [List.append_assoc A];exact zJM h
theorem zSD {gc gv:Nat} {E:World→Prop} {OK:Ev→Prop} {blk N cap n:Nat} (ih:SymV gc gv E OK blk N cap n) (HC:Hid (zC8 blk gc gv E OK)) {A X Y Z L:List Ev} {w:World} {a m b:Nat} (hE0:E w) (h:RowV blk N cap w L) (hL:L=A++(X++(Y++Z))) (ha:A.length=a) (hm:A.length+X.length=m) (hb:A.length+X.length+Y.length=b) (hX:2≤X.length) (hY:2≤Y.length) (hn:X.length+Y.length≤n+1) (hN:N≤1048576) (hwd:OkV OK L) (hSX:Srt leV X) (hSY:Srt leV Y) (hpl:∀x∈X,∀y∈Y,x.p≤y.p) :
 Calls Tryz.prog 182 #[.slice (some ⟨blk,0,none⟩) N cap,.int .i64 a,.int .i64 m,.int .i64 b,.func (.func 97) #[] #[.pointer (some ⟨gc,0,none⟩),.pointer (some ⟨gv,0,none⟩)]] w fun e w' =>
  e=.returned (.tuple #[])∧∃M,M.Perm (X++Y)∧Srt leV M∧RowV blk N cap w' (A++(M++Z))∧w.grownBy w' (some blk):=by
 have hlen:=h.1;have hbN:b≤N:=by rw [hL] at hlen; simp at hlen; omega
 have mixed:Tryz.prog.follows .mixedOrders=true:=by kernel_rfl
 have HA:=zWF ha;have HM:=zWF hm;have HB:=zWF hb;have HNN:=zWF hn;have HWD:=zWF hwd;have HL:=zWF hL;have HSX:=zWF hSX;have HSY:=zWF hSY;have HPL:=zWF hpl;have hm1:a+2≤m:=by omega
 have hb1:m+2≤b:=by omega
 have i0:((m:Int)-(a:Int) == 1)=false:=by simp; omega
 have i0b:((b:Int)-(m:Int) == 1)=false:=by simp; omega
 obtain ⟨D,hD⟩:∃D:Nat,D=(a+b) / 2:=⟨_,rfl⟩;have hD1:((a:Int)+(b:Int)) / 2=(D:Int):=by omega
 have hD2:2*D≤a+b:=by omega
 have hD3:a+b≤2*D+1:=by omega
 obtain ⟨E,hE⟩:∃E:Nat,E=D+m:=⟨_,rfl⟩;have hE1:(D:Int)+(m:Int)=(E:Int):=by omega
 have hE2:E≤D+m:=by omega
 have hE3:D+m≤E:=by omega
 obtain ⟨Q,hQ⟩:∃Q:Nat,Q=E-1:=⟨_,rfl⟩;have hQ1:(E:Int)-1=(Q:Int):=by omega
 have hQ2:Q+1≤E:=by omega
 have hQ3:E≤Q+1:=by omega
 clear hpl hD hE hQ ha hm hb hL hlen hwd hSX hSY hX hY hn;by_cases hmd:D<m;case' pos =>
  have k0:(D:Int)<(m:Int):=by omega
  obtain ⟨lo,hlo⟩:∃lo:Nat,lo=E-b:=⟨_,rfl⟩;obtain ⟨hi,hhi⟩:∃hi:Nat,hi=D:=⟨_,rfl⟩;have hlo1:(E:Int)-(b:Int)=(lo:Int):=by omega
  have HLO:Hid (lo=a∨E-lo=b):=zWF (.inr (by omega));have HHI:Hid (hi=m∨E-hi=m):=zWF (.inr (by omega));have HLH:=zWF (show (E:Int)-(b:Int)=(lo:Int)∧hi=D from ⟨by omega,hhi⟩)
 case' neg =>
  have k0:¬(D:Int)<(m:Int):=by omega
  obtain ⟨lo,hlo⟩:∃lo:Nat,lo=a:=⟨_,rfl⟩;obtain ⟨hi,hhi⟩:∃hi:Nat,hi=m:=⟨_,rfl⟩;have HLO:Hid (lo=a∨E-lo=b):=zWF (.inl hlo);have HHI:Hid (hi=m∨E-hi=m):=zWF (.inl hhi);have HLH:=zWF (show lo=a∧hi=m from ⟨by omega,hhi⟩)
 all_goals
  have b1:a≤lo:=by omega
  have b2:hi≤m:=by omega
  have b3:E≤b+lo:=by omega
  have b4:m+hi≤E:=by omega
  have b5:lo≤hi:=by omega
  have b6:hi≤D:=by omega
  clear hlo hhi;go_enter Tryz.func182,Tryz.ntmps182
  go_wp2_with fail
  go_loopw [20,21] (fun sv rv wr=>∃(s r:Nat),sv=.int .i64 (s:Int)∧rv=.int .i64 (r:Int)∧lo≤s∧s≤r∧r≤hi∧Hid (s=lo∨∃x y,X[s-1-a]? = some x∧Y[E-s-m]? = some y∧a+1≤s∧leV x y)∧Hid (r=hi∨∃x y,X[r-a]? = some x∧Y[E-1-r-m]? = some y∧m+r+1≤E∧leV y x)∧RowV blk N cap wr L∧w.grownBy wr (some blk)) (fun sv rv _=>(intOf rv).toNat-(intOf sv).toNat)
  case atStart=>exact ⟨lo,hi,by first | rfl | (rw [HLH.out.1]),by first | rfl | (rw [HLH.out.2]),zWK _,b5,zWK _,zWF (.inl rfl),zWF (.inl rfl),h,World.grownBy.refl _ _⟩
  case round =>
   obtain ⟨s,r,rfl,rfl,hs1,hs2,hs3,HS0,HR0,hr,hg⟩:=hrel;by_cases hlt:s<r
   ·have i1:(s:Int)<(r:Int):=by omega
    obtain ⟨C,hC⟩:∃C:Nat,C=(s+r) / 2:=⟨_,rfl⟩;have hC1:((s:Int)+(r:Int)) / 2=(C:Int):=by omega
    have hC2:s≤C∧C<r:=by omega
    obtain ⟨G,hG⟩:∃G:Nat,G=Q-C:=⟨_,rfl⟩;have hG1:(Q:Int)-(C:Int)=(G:Int):=by omega
    have hG2:m≤G∧G<b:=by omega
    obtain ⟨x,hx⟩:∃x,X[C-a]? = some x:=⟨_,zWG (by have:=HA.out; have:=HM.out; omega)⟩;obtain ⟨y,hy⟩:∃y,Y[G-m]? = some y:=⟨_,zWG (by have:=HA.out; have:=HM.out; have:=HB.out; omega)⟩;have hgx:L[C]? = some x:=by
     have:=zCy A X (Y++Z) hx;rw [show A.length+(C-a)=C by have:=HA.out; omega] at this;rw [HL.out]; exact this
    have hgy:L[G]? = some y:=by
     have:=zCy (A++X) Y Z hy;rw [List.length_append,show A.length+X.length+(G-m)=G by have:=HM.out; omega] at this;rw [HL.out]; simpa using this
    obtain ⟨ax,lx,qx,ex⟩:=hr.forms hgx;have cx:=hr.cell hgx;have rx:=hr.reads hgx;have HE:=zWF (HC.out.1 _ _ hE0 hg);have hwx:OK x:=hr.wds HWD.out hgx;rw [ex] at cx rx;obtain ⟨ay,ly,qy,ey⟩:=hr.forms hgy;have cy:=hr.cell hgy;have ry:=hr.reads hgy;have hwy:OK y:=hr.wds HWD.out hgy;rw [ey] at cy ry;have g0:=fun z:GW wr=>z.cell cx;have g2:=fun z:GW wr=>z.cell cy;have jz:(C:Int)<(N:Int):=by omega
    have jz1:(G:Int)<(N:Int):=by omega
    have HX:=zWF hx;have HY:=zWF hy;have HG:=zWF hG;have HROW:Hid (∀w8,Below wr.heap.size wr w8→RowV blk N cap w8 L):=zWF (fun w8 hb=>hr.below hb);obtain ⟨hC3,hC4⟩:=hC2;clear hgx hgy hx hy ex ey hC hG cx cy hG2;by_cases hless:cmp3 y.k x.k<0
    ·have hless2:=decide_eq_true hless;go_wp2_with fail
     refine zAg (by kernel_rfl) (by kernel_rfl) ?_
     repeat (go_big_quiet_step ((first | (rename_i z; go_at_call 97; exact Calls.grow z (HC.out.2 _ _ _ y x (HC.out.bel HE.out z.le) hwy hwx (ry.below z.le) (rx.below z.le))))))
     refine wpQuiet_nil ?_;intro w8 hb8;have HR8:=zWF (HROW.out w8 hb8);have HG8:=zWF (Off.tr hg (Off.grown hb8));clear hb8 g0 g2;go_wp2_with fail
     go_roundw
     case rel=>exact ⟨s,C,rfl,rfl,hs1,by omega,by omega,HS0,zWF (.inr ⟨x,y,HX.out,by rw [show E-1-C-m=G-m by have:=HG.out; omega]; exact HY.out,by omega,zHx hless⟩),HR8.out,HG8.out⟩
     case measure=>simp [intOf]; omega
    ·have hless2:=decide_eq_false hless;go_wp2_with fail
     refine zAg (by kernel_rfl) (by kernel_rfl) ?_
     repeat (go_big_quiet_step ((first | (rename_i z; go_at_call 97; exact Calls.grow z (HC.out.2 _ _ _ y x (HC.out.bel HE.out z.le) hwy hwx (ry.below z.le) (rx.below z.le))))))
     refine wpQuiet_nil ?_;intro w8 hb8;have HR8:=zWF (HROW.out w8 hb8);have HG8:=zWF (Off.tr hg (Off.grown hb8));clear hb8 g0 g2;go_wp2_with fail
     go_roundw
     case rel=>exact ⟨C+1,r,by go_num,rfl,by omega,by omega,hs3,zWF (.inr ⟨x,y,by rw [show C+1-1-a=C-a by omega]; exact HX.out,by rw [show E-(C+1)-m=G-m by have:=HG.out; omega]; exact HY.out,by omega,zGe (by omega) (HPL.out x (zWH HX.out) y (zWH HY.out))⟩),HR0,HR8.out,HG8.out⟩
     case measure=>simp [intOf]; omega
   ·obtain rfl:s=r:=by omega
    have i1:¬(s:Int)<(s:Int):=by omega
    obtain ⟨F,hF⟩:∃F:Nat,F=E-s:=⟨_,rfl⟩;have hF1:(E:Int)-(s:Int)=(F:Int):=by omega
    have hF2:m≤F∧F≤b:=by omega
    have hF3:F+s≤D+m:=by omega
    have hF4:D+m≤F+s:=by omega
    obtain ⟨hF5,hF6⟩:=hF2;have HXe:Hid (X.take (s-a)++X.drop (s-a)=X):=zWF (List.take_append_drop _ _);have HYe:Hid (Y.take (F-m)++Y.drop (F-m)=Y):=zWF (List.take_append_drop _ _);have HX1:Hid ((X.take (s-a)).length=s-a):=zWF (by have:=HA.out; have:=HM.out; simp; omega);have HX2:Hid ((X.drop (s-a)).length=m-s):=zWF (by have:=HA.out; have:=HM.out; simp; omega);have HY1:Hid ((Y.take (F-m)).length=F-m):=zWF (by have:=HA.out; have:=HM.out; have:=HB.out; simp; omega);have HY2:Hid ((Y.drop (F-m)).length=b-F):=zWF (by have:=HA.out; have:=HM.out; have:=HB.out; simp; omega);have H12:Hid (∀p∈X.take (s-a),∀q∈Y.drop (F-m),leV p q):=zWF (by
     rcases HS0.out with e | ⟨x,y,hx,hy,h1,hle⟩
     ·rcases HLO.out with e2 | e2
      ·rw [zAm (X:=X.take (s-a)) (by have:=HX1.out; omega)]; intro p hp; cases hp
      ·rw [zAm (X:=Y.drop (F-m)) (by have:=HY2.out; omega)]; intro p hp q hq; cases hq
     ·have:=zSZ zDS HSX.out HSY.out hx hy hle;rw [show s-1-a+1=s-a by omega,show E-s-m=F-m by omega] at this;exact this)
    have H21:Hid (∀p∈Y.take (F-m),∀q∈X.drop (s-a),leV p q):=zWF (by
     rcases HR0.out with e | ⟨x,y,hx,hy,h1,hle⟩
     ·rcases HHI.out with e2 | e2
      ·rw [zAm (X:=X.drop (s-a)) (by have:=HX2.out; omega)]; intro p hp q hq; cases hq
      ·rw [zAm (X:=Y.take (F-m)) (by have:=HY1.out; omega)]; intro p hp; cases hp
     ·have:=zSZ zDS HSY.out HSX.out hy hx hle;rw [show E-1-s-m+1=F-m by omega] at this;exact this)
    generalize X.take (s-a)=X1 at *;generalize X.drop (s-a)=X2 at *;generalize Y.take (F-m)=Y1 at *;generalize Y.drop (F-m)=Y2 at *;clear HS0 HR0 HLO HHI hF;by_cases hrot:s<m∧m<F
    ·have j0:(s:Int)<(m:Int):=by omega
     have j1:(m:Int)<(F:Int):=by omega
     go_wp2_with fail
     refine (zUH (A:=A++X1) (X:=X2) (Y:=Y1) (Z:=Y2++Z) hr (by rw [HL.out,<-HXe.out,<-HYe.out]; simp) (by rw [List.length_append]; have:=HX1.out; have:=HA.out; omega) (by rw [List.length_append]; have:=HX1.out; have:=HX2.out; have:=HA.out; omega) (by rw [List.length_append]; have:=HX1.out; have:=HX2.out; have:=HY1.out; have:=HA.out; omega) (by have:=HX2.out; omega) (by have:=HY1.out; omega) hN).mono ?_;rintro e w5 ⟨rfl,hr5,hg5⟩;have hr5':RowV blk N cap w5 (A++(X1++(Y1++(X2++(Y2++Z))))):=by simpa using hr5
     have hg5':=Off.tr hg hg5;clear hr5 hg5 j0 j1;by_cases hLf:a<s∧s<D
     ·have j2:(a:Int)<(s:Int):=by omega
      have j3:(s:Int)<(D:Int):=by omega
      go_wp2_with fail
      refine (ih (A:=A) (X:=X1) (Y:=Y1) (Z:=X2++(Y2++Z)) HC (HC.out.1 _ _ hE0 hg5') hr5' rfl HA.out (by have:=HX1.out; have:=HA.out; omega) (by have:=HX1.out; have:=HY1.out; have:=HA.out; omega) (by have:=HX1.out; omega) (by have:=HY1.out; omega) (by have:=HX1.out; have:=HY1.out; have:=HNN.out; have:=HA.out; have:=HM.out; have:=HB.out; omega) hN (zCN HWD.out (by rw [HL.out,<-HXe.out,<-HYe.out]; exact zH5)) (zB4 HXe.out HSX.out) (zB4 HYe.out HSY.out) (zMi HXe.out HYe.out HPL.out)).mono ?_;rintro e w6 ⟨rfl,M1,hP1,hS1,hr6,hg6⟩;have hr6':RowV blk N cap w6 ((A++M1)++(X2++(Y2++Z))):=by simpa using hr6
      have hg6':=Off.tr hg5' hg6;clear hr6 hg6 j2 j3;by_cases hR:D<F∧F<b
      ·have j4:(D:Int)<(F:Int):=by omega
       have j5:(F:Int)<(b:Int):=by omega
       go_wp2_with fail
       all_goals
        refine (ih (A:=A++M1) (X:=X2) (Y:=Y2) (Z:=Z) HC (HC.out.1 _ _ hE0 hg6') hr6' (by simp) (by rw [List.length_append,(hP1).length_eq,List.length_append]; have:=HX1.out; have:=HY1.out; have:=HA.out; omega) (by rw [List.length_append,(hP1).length_eq,List.length_append]; have:=HX1.out; have:=HY1.out; have:=HX2.out; have:=HA.out; omega) (by rw [List.length_append,(hP1).length_eq,List.length_append]; have:=HX1.out; have:=HY1.out; have:=HX2.out; have:=HY2.out; have:=HA.out; omega) (by have:=HX2.out; omega) (by have:=HY2.out; omega) (by have:=HX2.out; have:=HY2.out; have:=HNN.out; have:=HA.out; have:=HM.out; have:=HB.out; omega) hN (zCN HWD.out (by rw [HL.out,<-HXe.out,<-HYe.out]; exact zDo hP1)) (zAl HXe.out HSX.out) (zAl HYe.out HSY.out) (zGk HXe.out HYe.out HPL.out)).mono ?_;rintro e w7 ⟨rfl,M2,hP2,hS2,hr7,hg7⟩
        have hfin:=zDR (le:=leV) (X1:=X1) (X2:=X2) (Y1:=Y1) (Y2:=Y2) (M1:=M1) (M2:=M2) (by rw [HXe.out]; exact HSX.out) (by rw [HYe.out]; exact HSY.out) H12.out H21.out hP1 hP2 hS1 hS2;rw [HXe.out,HYe.out] at hfin;have HFIN:=zWF hfin;clear hfin;go_wp2_with fail
        all_goals first | go_end0 | ((try simp only [Exit.inBlock,Exit.then]); refine bodyPost_ret (results_none rfl _ _ _) rfl ?_)
        all_goals exact ⟨rfl,_,HFIN.out.2,HFIN.out.1,by simpa using hr7,(Off.tr hg6' hg7)⟩
      ·have HS2:Hid (Srt leV (X2++Y2)):=zWF (by
        by_cases hF:F<b
        ·exact zBi (zAl HYe.out HSY.out) (zAm (by have:=HX2.out; omega))
        ·exact zBc (zAl HXe.out HSX.out) (zAm (by have:=HY2.out; omega)))
       have HRow:=zWF hr6';have HG:=zWF hg6';rcases (show ((D:Int)<(F:Int)∧¬(F:Int)<(b:Int))∨¬(D:Int)<(F:Int) by omega) with ⟨j4,j5⟩ | j4;all_goals
        have hfin:=zDR (le:=leV) (X1:=X1) (X2:=X2) (Y1:=Y1) (Y2:=Y2) (M1:=M1) (M2:=(X2++Y2)) (by rw [HXe.out]; exact HSX.out) (by rw [HYe.out]; exact HSY.out) H12.out H21.out hP1 (List.Perm.refl _) hS1 HS2.out;rw [HXe.out,HYe.out] at hfin;have HFIN:=zWF hfin;clear hfin;go_wp2_with fail
        all_goals first | go_end0 | ((try simp only [Exit.inBlock,Exit.then]); refine bodyPost_ret (results_none rfl _ _ _) rfl ?_)
        all_goals exact ⟨rfl,_,HFIN.out.2,HFIN.out.1,by simpa using HRow.out,HG.out⟩
     ·have HS1:Hid (Srt leV (X1++Y1)):=zWF (by
       by_cases hF:a<s
       ·exact zBc (zB4 HXe.out HSX.out) (zAm (by have:=HY1.out; omega))
       ·exact zBi (zB4 HYe.out HSY.out) (zAm (by have:=HX1.out; omega)))
      have hr6':RowV blk N cap w5 ((A++(X1++Y1))++(X2++(Y2++Z))):=by simpa using hr5'
      have hg6':=hg5';rcases (show ((a:Int)<(s:Int)∧¬(s:Int)<(D:Int))∨¬(a:Int)<(s:Int) by omega) with ⟨j2,j3⟩ | j2;all_goals
       by_cases hR:D<F∧F<b
       ·have j4:(D:Int)<(F:Int):=by omega
        have j5:(F:Int)<(b:Int):=by omega
        go_wp2_with fail
        all_goals
         refine (ih (A:=A++(X1++Y1)) (X:=X2) (Y:=Y2) (Z:=Z) HC (HC.out.1 _ _ hE0 hg6') hr6' (by simp) (by rw [List.length_append,((List.Perm.refl _)).length_eq,List.length_append]; have:=HX1.out; have:=HY1.out; have:=HA.out; omega) (by rw [List.length_append,((List.Perm.refl _)).length_eq,List.length_append]; have:=HX1.out; have:=HY1.out; have:=HX2.out; have:=HA.out; omega) (by rw [List.length_append,((List.Perm.refl _)).length_eq,List.length_append]; have:=HX1.out; have:=HY1.out; have:=HX2.out; have:=HY2.out; have:=HA.out; omega) (by have:=HX2.out; omega) (by have:=HY2.out; omega) (by have:=HX2.out; have:=HY2.out; have:=HNN.out; have:=HA.out; have:=HM.out; have:=HB.out; omega) hN (zCN HWD.out (by rw [HL.out,<-HXe.out,<-HYe.out]; exact zDo (List.Perm.refl _))) (zAl HXe.out HSX.out) (zAl HYe.out HSY.out) (zGk HXe.out HYe.out HPL.out)).mono ?_
         rintro e w7 ⟨rfl,M2,hP2,hS2,hr7,hg7⟩;have hfin:=zDR (le:=leV) (X1:=X1) (X2:=X2) (Y1:=Y1) (Y2:=Y2) (M1:=(X1++Y1)) (M2:=M2) (by rw [HXe.out]; exact HSX.out) (by rw [HYe.out]; exact HSY.out) H12.out H21.out (List.Perm.refl _) hP2 HS1.out hS2;rw [HXe.out,HYe.out] at hfin;have HFIN:=zWF hfin;clear hfin;go_wp2_with fail
         all_goals first | go_end0 | ((try simp only [Exit.inBlock,Exit.then]); refine bodyPost_ret (results_none rfl _ _ _) rfl ?_)
         all_goals exact ⟨rfl,_,HFIN.out.2,HFIN.out.1,by simpa using hr7,(Off.tr hg6' hg7)⟩
       ·have HS2:Hid (Srt leV (X2++Y2)):=zWF (by
         by_cases hF:F<b
         ·exact zBi (zAl HYe.out HSY.out) (zAm (by have:=HX2.out; omega))
         ·exact zBc (zAl HXe.out HSX.out) (zAm (by have:=HY2.out; omega)))
        have HRow:=zWF hr6';have HG:=zWF hg6';rcases (show ((D:Int)<(F:Int)∧¬(F:Int)<(b:Int))∨¬(D:Int)<(F:Int) by omega) with ⟨j4,j5⟩ | j4;all_goals
         have hfin:=zDR (le:=leV) (X1:=X1) (X2:=X2) (Y1:=Y1) (Y2:=Y2) (M1:=(X1++Y1)) (M2:=(X2++Y2)) (by rw [HXe.out]; exact HSX.out) (by rw [HYe.out]; exact HSY.out) H12.out H21.out (List.Perm.refl _) (List.Perm.refl _) HS1.out HS2.out;rw [HXe.out,HYe.out] at hfin;have HFIN:=zWF hfin;clear hfin;go_wp2_with fail
         all_goals first | go_end0 | ((try simp only [Exit.inBlock,Exit.then]); refine bodyPost_ret (results_none rfl _ _ _) rfl ?_)
         all_goals exact ⟨rfl,_,HFIN.out.2,HFIN.out.1,by simpa using HRow.out,HG.out⟩
    ·have hr5':RowV blk N cap wr (A++(X1++(Y1++(X2++(Y2++Z))))):=by
      rw [HL.out,<-HXe.out,<-HYe.out] at hr;by_cases hF:s<m
      ·have e:=zAm (X:=Y1) (by have:=HY1.out; omega);rw [e] at hr ⊢;simpa using hr
      ·have e:=zAm (X:=X2) (by have:=HX2.out; omega);rw [e] at hr ⊢;simpa using hr
     rcases (show ((s:Int)<(m:Int)∧¬(m:Int)<(F:Int))∨¬(s:Int)<(m:Int) by omega) with ⟨j0,j1⟩ | j0;all_goals
      by_cases hLf:a<s∧s<D
      ·have j2:(a:Int)<(s:Int):=by omega
       have j3:(s:Int)<(D:Int):=by omega
       go_wp2_with fail
       refine (ih (A:=A) (X:=X1) (Y:=Y1) (Z:=X2++(Y2++Z)) HC (HC.out.1 _ _ hE0 hg) hr5' rfl HA.out (by have:=HX1.out; have:=HA.out; omega) (by have:=HX1.out; have:=HY1.out; have:=HA.out; omega) (by have:=HX1.out; omega) (by have:=HY1.out; omega) (by have:=HX1.out; have:=HY1.out; have:=HNN.out; have:=HA.out; have:=HM.out; have:=HB.out; omega) hN (zCN HWD.out (by rw [HL.out,<-HXe.out,<-HYe.out]; exact zH5)) (zB4 HXe.out HSX.out) (zB4 HYe.out HSY.out) (zMi HXe.out HYe.out HPL.out)).mono ?_;rintro e w6 ⟨rfl,M1,hP1,hS1,hr6,hg6⟩;have hr6':RowV blk N cap w6 ((A++M1)++(X2++(Y2++Z))):=by simpa using hr6
       have hg6':=Off.tr hg hg6;clear hr6 hg6 j2 j3;by_cases hR:D<F∧F<b
       ·have j4:(D:Int)<(F:Int):=by omega
        have j5:(F:Int)<(b:Int):=by omega
        go_wp2_with fail
        all_goals
         refine (ih (A:=A++M1) (X:=X2) (Y:=Y2) (Z:=Z) HC (HC.out.1 _ _ hE0 hg6') hr6' (by simp) (by rw [List.length_append,(hP1).length_eq,List.length_append]; have:=HX1.out; have:=HY1.out; have:=HA.out; omega) (by rw [List.length_append,(hP1).length_eq,List.length_append]; have:=HX1.out; have:=HY1.out; have:=HX2.out; have:=HA.out; omega) (by rw [List.length_append,(hP1).length_eq,List.length_append]; have:=HX1.out; have:=HY1.out; have:=HX2.out; have:=HY2.out; have:=HA.out; omega) (by have:=HX2.out; omega) (by have:=HY2.out; omega) (by have:=HX2.out; have:=HY2.out; have:=HNN.out; have:=HA.out; have:=HM.out; have:=HB.out; omega) hN (zCN HWD.out (by rw [HL.out,<-HXe.out,<-HYe.out]; exact zDo hP1)) (zAl HXe.out HSX.out) (zAl HYe.out HSY.out) (zGk HXe.out HYe.out HPL.out)).mono ?_;rintro e w7 ⟨rfl,M2,hP2,hS2,hr7,hg7⟩
         have hfin:=zDR (le:=leV) (X1:=X1) (X2:=X2) (Y1:=Y1) (Y2:=Y2) (M1:=M1) (M2:=M2) (by rw [HXe.out]; exact HSX.out) (by rw [HYe.out]; exact HSY.out) H12.out H21.out hP1 hP2 hS1 hS2;rw [HXe.out,HYe.out] at hfin;have HFIN:=zWF hfin;clear hfin;go_wp2_with fail
         all_goals first | go_end0 | ((try simp only [Exit.inBlock,Exit.then]); refine bodyPost_ret (results_none rfl _ _ _) rfl ?_)
         all_goals exact ⟨rfl,_,HFIN.out.2,HFIN.out.1,by simpa using hr7,(Off.tr hg6' hg7)⟩
       ·have HS2:Hid (Srt leV (X2++Y2)):=zWF (by
         by_cases hF:F<b
         ·exact zBi (zAl HYe.out HSY.out) (zAm (by have:=HX2.out; omega))
         ·exact zBc (zAl HXe.out HSX.out) (zAm (by have:=HY2.out; omega)))
        have HRow:=zWF hr6';have HG:=zWF hg6';rcases (show ((D:Int)<(F:Int)∧¬(F:Int)<(b:Int))∨¬(D:Int)<(F:Int) by omega) with ⟨j4,j5⟩ | j4;all_goals
         have hfin:=zDR (le:=leV) (X1:=X1) (X2:=X2) (Y1:=Y1) (Y2:=Y2) (M1:=M1) (M2:=(X2++Y2)) (by rw [HXe.out]; exact HSX.out) (by rw [HYe.out]; exact HSY.out) H12.out H21.out hP1 (List.Perm.refl _) hS1 HS2.out;rw [HXe.out,HYe.out] at hfin;have HFIN:=zWF hfin;clear hfin;go_wp2_with fail
         all_goals first | go_end0 | ((try simp only [Exit.inBlock,Exit.then]); refine bodyPost_ret (results_none rfl _ _ _) rfl ?_)
         all_goals exact ⟨rfl,_,HFIN.out.2,HFIN.out.1,by simpa using HRow.out,HG.out⟩
      ·have HS1:Hid (Srt leV (X1++Y1)):=zWF (by
        by_cases hF:a<s
        ·exact zBc (zB4 HXe.out HSX.out) (zAm (by have:=HY1.out; omega))
        ·exact zBi (zB4 HYe.out HSY.out) (zAm (by have:=HX1.out; omega)))
       have hr6':RowV blk N cap wr ((A++(X1++Y1))++(X2++(Y2++Z))):=by simpa using hr5'
       have hg6':=hg;rcases (show ((a:Int)<(s:Int)∧¬(s:Int)<(D:Int))∨¬(a:Int)<(s:Int) by omega) with ⟨j2,j3⟩ | j2;all_goals
        by_cases hR:D<F∧F<b
        ·have j4:(D:Int)<(F:Int):=by omega
         have j5:(F:Int)<(b:Int):=by omega
         go_wp2_with fail
         all_goals
          refine (ih (A:=A++(X1++Y1)) (X:=X2) (Y:=Y2) (Z:=Z) HC (HC.out.1 _ _ hE0 hg6') hr6' (by simp) (by rw [List.length_append,((List.Perm.refl _)).length_eq,List.length_append]; have:=HX1.out; have:=HY1.out; have:=HA.out; omega) (by rw [List.length_append,((List.Perm.refl _)).length_eq,List.length_append]; have:=HX1.out; have:=HY1.out; have:=HX2.out; have:=HA.out; omega) (by rw [List.length_append,((List.Perm.refl _)).length_eq,List.length_append]; have:=HX1.out; have:=HY1.out; have:=HX2.out; have:=HY2.out; have:=HA.out; omega) (by have:=HX2.out; omega) (by have:=HY2.out; omega) (by have:=HX2.out; have:=HY2.out; have:=HNN.out; have:=HA.out; have:=HM.out; have:=HB.out; omega) hN (zCN HWD.out (by rw [HL.out,<-HXe.out,<-HYe.out]; exact zDo (List.Perm.refl _))) (zAl HXe.out HSX.out) (zAl HYe.out HSY.out) (zGk HXe.out HYe.out HPL.out)).mono ?_
          rintro e w7 ⟨rfl,M2,hP2,hS2,hr7,hg7⟩;have hfin:=zDR (le:=leV) (X1:=X1) (X2:=X2) (Y1:=Y1) (Y2:=Y2) (M1:=(X1++Y1)) (M2:=M2) (by rw [HXe.out]; exact HSX.out) (by rw [HYe.out]; exact HSY.out) H12.out H21.out (List.Perm.refl _) hP2 HS1.out hS2;rw [HXe.out,HYe.out] at hfin;have HFIN:=zWF hfin;clear hfin;go_wp2_with fail
          all_goals first | go_end0 | ((try simp only [Exit.inBlock,Exit.then]); refine bodyPost_ret (results_none rfl _ _ _) rfl ?_)
          all_goals exact ⟨rfl,_,HFIN.out.2,HFIN.out.1,by simpa using hr7,(Off.tr hg6' hg7)⟩
        ·have HS2:Hid (Srt leV (X2++Y2)):=zWF (by
          by_cases hF:F<b
          ·exact zBi (zAl HYe.out HSY.out) (zAm (by have:=HX2.out; omega))
          ·exact zBc (zAl HXe.out HSX.out) (zAm (by have:=HY2.out; omega)))
         have HRow:=zWF hr6';have HG:=zWF hg6';rcases (show ((D:Int)<(F:Int)∧¬(F:Int)<(b:Int))∨¬(D:Int)<(F:Int) by omega) with ⟨j4,j5⟩ | j4;all_goals
          have hfin:=zDR (le:=leV) (X1:=X1) (X2:=X2) (Y1:=Y1) (Y2:=Y2) (M1:=(X1++Y1)) (M2:=(X2++Y2)) (by rw [HXe.out]; exact HSX.out) (by rw [HYe.out]; exact HSY.out) H12.out H21.out (List.Perm.refl _) (List.Perm.refl _) HS1.out HS2.out;rw [HXe.out,HYe.out] at hfin;have HFIN:=zWF hfin;clear hfin;go_wp2_with fail
          all_goals first | go_end0 | ((try simp only [Exit.inBlock,Exit.then]); refine bodyPost_ret (results_none rfl _ _ _) rfl ?_)
          all_goals exact ⟨rfl,_,HFIN.out.2,HFIN.out.1,by simpa using HRow.out,HG.out⟩
theorem zQD {gc gv:Nat} {E:World→Prop} {OK:Ev→Prop} {blk N cap:Nat}:SymV gc gv E OK blk N cap 0:=by
 intro HC A X Y Z L w a m b hE h hL ha hm hb hX hY hn;omega
theorem zQC {gc gv:Nat} {E:World→Prop} {OK:Ev→Prop} {blk N cap n:Nat} (ih:SymV gc gv E OK blk N cap n):SymV gc gv E OK blk N cap (n+1):=by
 intro HC A X Y Z L w a m b hE h hL ha hm hb hX hY hn hN hwd hSX hSY hpl;by_cases h1:X.length=1
 ·obtain ⟨x,rfl⟩:=List.length_eq_one_iff.1 h1;exact zQB HC hE h hL ha (by simpa using hm) (by simpa using hb) hN hwd hSY (fun y hy=>hpl x (List.mem_singleton.2 rfl) y hy)
 ·by_cases h2:Y.length=1
  ·obtain ⟨y,rfl⟩:=List.length_eq_one_iff.1 h2;exact zOD HC hE h hL ha hm (by simpa using hb) (by omega) hN hwd hSX (fun x hx=>hpl x hx y (List.mem_singleton.2 rfl))
  ·exact zSD ih HC hE h hL ha hm hb (by omega) (by omega) hn hN hwd hSX hSY hpl
theorem zHa {gc gv:Nat} {E:World→Prop} {OK:Ev→Prop} {blk N cap:Nat}:∀n,SymV gc gv E OK blk N cap n
 | 0=>zQD
 | n+1=>zQC (zHa n)
def Home (s a:Nat) (K:List Ev):Prop:=∀(i:Nat) (e:Ev),K[i]? = some e→e.p / s=(a+i) / s
theorem zKU (s a:Nat):Home s a []:=fun i e h=>by simp at h
theorem zTi {s a:Nat} {K:List Ev} (h:Home s a K):Home (2*s) a K:=fun i e he=>by
 rw [Nat.mul_comm,<-Nat.div_div_eq_div_mul,<-Nat.div_div_eq_div_mul,h i e he]
theorem zEF {s a:Nat} {P M:List Ev} (hP:Home s a P) (hM:Home s (a+P.length) M):Home s a (P++M):=fun i e he=>by
 rcases Nat.lt_or_ge i P.length with h | h
 ·rw [List.getElem?_append_left h] at he; exact hP i e he
 ·rw [List.getElem?_append_right h] at he;have:=hM _ e he;rwa [show a+P.length+(i-P.length)=a+i by omega] at this
theorem zF2 {s a:Nat} {K:List Ev} (h:Home s a K) (k:Nat):Home s a (K.take k):=fun i e he=>by
 rw [List.getElem?_take] at he;split at he
 ·exact h i e he
 ·cases he
theorem zF1 {s a:Nat} {K:List Ev} (h:Home s a K) (k:Nat):Home s (a+k) (K.drop k):=fun i e he=>by
 rw [List.getElem?_drop] at he;have:=h _ e he;rwa [show a+(k+i)=a+k+i by omega] at this
theorem zMS {s k:Nat} {X:List Ev} (h:Home s (k*s) X) (hs:0<s) (hl:X.length≤s):∀x∈X,k*s≤x.p∧x.p<k*s+s:=fun x hx=>by
 obtain ⟨i,hi⟩:=List.getElem?_of_mem hx;have h1:=(zWI hi).1;have h2:=h i x hi;rw [Nat.mul_comm k s,Nat.mul_add_div hs,Nat.div_eq_of_lt (show i<s by omega),Nat.add_zero] at h2;have h3:=Nat.div_add_mod x.p s;have h4:=Nat.mod_lt x.p hs;rw [h2,Nat.mul_comm] at h3;omega
theorem zMT {s k:Nat} {X:List Ev} (hs:0<s) (hl:X.length≤s) (h:∀x∈X,k*s≤x.p∧x.p<k*s+s):Home s (k*s) X:=fun i x hi=>by
 have h1:=(zWI hi).1;have h2:=h x (zWH hi);obtain ⟨d,hd⟩:∃d,x.p=k*s+d:=⟨x.p-k*s,by omega⟩;rw [hd,Nat.mul_comm k s,Nat.mul_add_div hs,Nat.mul_add_div hs,Nat.div_eq_of_lt (show i<s by omega),Nat.div_eq_of_lt (show d<s by omega)]
theorem zHr {s k:Nat} {M M':List Ev} (h:zBV (k*s) M) (hs:0<s) (hl:M.length≤s) (hp:M'.Perm M):Home s (k*s) M' :=
 zMT hs (by rw [hp.length_eq]; exact hl) fun x hx=>by
  obtain ⟨i,hi⟩:=List.getElem?_of_mem (hp.mem_iff.1 hx);have h1:=(zWI hi).1;have:=h i x hi;omega
theorem zNc {a:Nat} {M:List Ev} (h:zBV a M) (k:Nat):zBV a (M.take k):=fun i e he=>by
 rw [List.getElem?_take] at he;split at he
 ·exact h i e he
 ·cases he
theorem zNb {a:Nat} {M:List Ev} (h:zBV a M) (k:Nat):zBV (a+k) (M.drop k):=fun i e he=>by
 rw [List.getElem?_drop] at he;have:=h _ e he;omega
theorem zFF {s q:Nat} {X Y M:List Ev} (hs:0<s) (hX:Home s (2*q*s) X) (hY:Home s (2*q*s+s) Y) (hx:X.length=s) (hy:Y.length≤s) (hM:M.Perm (X++Y)) :
  Home (2*s) (q*(2*s)) M∧∀x∈X,∀y∈Y,x.p≤y.p:=by
 have a1:=zMS hX hs (by omega);have e1:2*q*s+s=(2*q+1)*s:=by rw [Nat.add_mul,Nat.one_mul]
 rw [e1] at hY;have a2:=zMS hY hs hy;rw [<-e1] at a2;have e2:q*(2*s)=2*q*s:=by rw [<-Nat.mul_assoc,Nat.mul_comm q 2]
 refine ⟨zMT (by omega) (by rw [hM.length_eq,List.length_append]; omega) fun x hx'=>?_,fun x hx' y hy'=>?_⟩
 ·rw [e2];rcases List.mem_append.1 (hM.mem_iff.1 hx') with h | h
  ·have:=a1 x h; omega
  ·have:=a2 x h; omega
 ·have:=a1 x hx';have:=a2 y hy';omega
theorem zUV {gc gv:Nat} {E:World→Prop} {OK:Ev→Prop} {blk N cap:Nat} {L:List Ev} {w:World} (HC:Hid (zC8 blk gc gv E OK)) (hE0:E w) (h:RowV blk N cap w L) (hN:N≤1048576) (hwd:OkV OK L) (hex:zBV 0 L) :
  Calls Tryz.prog 134 #[.slice (some ⟨blk,0,none⟩) N cap,.int .i64 N,.func (.func 97) #[] #[.pointer (some ⟨gc,0,none⟩),.pointer (some ⟨gv,0,none⟩)]] w fun e w' =>
   e=.returned (.tuple #[])∧∃M,M.Perm L∧Srt leV M∧RowV blk N cap w' M∧w.grownBy w' (some blk):=by
 have HWD:=zWF hwd;have HEX:=zWF hex;clear hwd hex;go_enter Tryz.func134,Tryz.ntmps134
 go_wp2_with fail
 go_loopw [7,8] (fun av bv wr=>∃(q A B:Nat) (P R:List Ev),av=.int .i64 (A:Int)∧bv=.int .i64 (B:Int)∧A≤N∧B≤A+20∧A+20≤B∧Hid (A=q*20)∧Hid (P.length=q*20)∧Hid (BS leV 20 P)∧Hid (Home 20 0 P)∧Hid (zBV (q*20) R)∧Hid ((P++R).Perm L)∧RowV blk N cap wr (P++R)∧w.grownBy wr (some blk)) (fun av _ _=>N+20-(intOf av).toNat)
 case atStart=>exact ⟨0,0,20,[],L,rfl,rfl,Nat.zero_le _,zWK _,zWK _,zWF rfl,zWF rfl,zWF (zOR 20),zWF (zKU 20 0),zWF (by simpa using HEX.out),zWF (List.Perm.refl _),h,World.grownBy.refl _ _⟩
 case round =>
  obtain ⟨q,A,B,P,R,rfl,rfl,hq,hB1,hB2,HQ,HP,HS,HHM,HXR,HPM,hr,hg⟩:=hrel;have HE1:=HC.out.1 _ _ hE0 hg;have HW:=zWF (zCN HWD.out HPM.out);have HLN:=zWF (show P.length+R.length=N by have:=hr.1; rwa [List.length_append] at this);by_cases hb:B≤N
  ·have i1:(B:Int)≤(N:Int):=by omega
   have HT:Hid (R.take 20++R.drop 20=R):=zWF (List.take_append_drop _ _);have HT1:Hid ((R.take 20).length=20):=zWF (by have:=HLN.out; have:=HP.out; have:=HQ.out; simp; omega);have HXM:Hid (zBV (q*20) (R.take 20)):=zWF (zNc HXR.out 20);have HXR2:Hid (zBV (q*20+20) (R.drop 20)):=zWF (zNb HXR.out 20);generalize R.take 20=M at *;generalize R.drop 20=R2 at *;go_wp2_with fail
   refine (zHu (A:=P) (M:=M) (Z:=R2) HC HE1 hr (by rw [HT.out]) (by rw [HP.out,HQ.out]) (by rw [HP.out,HT1.out]; have:=HQ.out; omega) hN HW.out (by rw [HQ.out]; exact HXM.out)).mono ?_;rintro e w1 ⟨rfl,M',hM1,hM2,hr1,hg1⟩;have hML:=hM1.length_eq;have HML:=zWF (hML.trans HT1.out);have HM1:=zWF hM1;clear hML hM1;go_wp2_with fail
   go_roundw
   case rel=>exact ⟨q+1,B,B+20,P++M',R2,rfl,by go_num,hb,zWK _,zWK _,zWF (by have:=HQ.out; omega),zWF (by rw [List.length_append,HP.out,HML.out]; omega),zWF (zEn HS.out HP.out hM2 (by rw [HML.out]; exact zWK _)),zWF (zEF HHM.out (by rw [Nat.zero_add,HP.out]; exact zHr HXM.out (by omega) (by rw [HT1.out]; exact zWK _) HM1.out)),zWF (by rw [Nat.add_mul,Nat.one_mul]; exact HXR2.out),zWF (by
    refine List.Perm.trans ?_ HPM.out;rw [List.append_assoc];refine List.Perm.append_left P ?_;rw [<-HT.out];exact HM1.out.append_right R2),by rw [List.append_assoc]; exact hr1,Off.tr hg hg1⟩
   case measure=>simp [intOf]; omega
  ·have i1:¬(B:Int)≤(N:Int):=by omega
   go_wp2_with fail
   refine (zHu (A:=P) (M:=R) (Z:=[]) HC HE1 hr (by rw [List.append_nil]) (by rw [HP.out,HQ.out]) (by rw [HLN.out]) hN HW.out (by rw [HQ.out]; exact HXR.out)).mono ?_;rintro e w1 ⟨rfl,M',hM1,hM2,hr1,hg1⟩;have HPM2:Hid ((P++M').Perm L):=zWF ((List.Perm.append_left P hM1).trans HPM.out);have HS1:Hid (BS leV 20 (P++M')):=zWF (zEn HS.out HP.out hM2 (by have:=hM1.length_eq; have:=HLN.out; have:=HP.out; have:=HQ.out; omega));have HH1:Hid (Home 20 0 (P++M')):=zWF (zEF HHM.out (by rw [Nat.zero_add,HP.out]; exact zHr HXR.out (by omega) (by have:=HLN.out; have:=HP.out; have:=HQ.out; omega) hM1));rw [List.append_nil] at hr1;have hg1:=Off.tr hg hg1;generalize P++M'=L1 at *;clear hr hM1 hM2 HPM HS HP HQ HW HLN HHM HXR HE1;go_wp2_with fail
   go_loopw [6] (fun sv wr=>∃(s:Nat) (K:List Ev),sv=.int .i64 (s:Int)∧20≤s∧s≤2*N+20∧Hid (BS leV s K)∧Hid (Home s 0 K)∧Hid (K.Perm L)∧RowV blk N cap wr K∧w.grownBy wr (some blk)) (fun sv _=>N-(intOf sv).toNat)
   case atStart=>exact ⟨20,L1,rfl,zWK _,by omega,HS1,HH1,HPM2,hr1,hg1⟩
   case round =>
    obtain ⟨s,K,rfl,hs1,hs2,HS,HHK,HPM,hr,hg⟩:=hrel;by_cases hsN:s<N
    ·have i2:(s:Int)<(N:Int):=by omega
     obtain ⟨T,hT⟩:∃T:Nat,T=2*s:=⟨_,rfl⟩;have hT1:2*(s:Int)=(T:Int):=by omega
     have hT2:(s:Int)*2=(T:Int):=by omega
     have hT3:T≤2*s:=by omega
     have hT4:2*s≤T:=by omega
     have HT:=zWF hT;clear hT;go_wp2_with fail
     go_loopw [7,8] (fun av bv wr=>∃(q A B:Nat) (P R:List Ev),av=.int .i64 (A:Int)∧bv=.int .i64 (B:Int)∧A≤N∧B≤A+T∧A+T≤B∧Hid (A=q*T)∧Hid (P.length=q*T)∧Hid (BS leV T P)∧Hid (BS leV s R)∧Hid (Home T 0 P)∧Hid (Home s (q*T) R)∧Hid ((P++R).Perm L)∧RowV blk N cap wr (P++R)∧w.grownBy wr (some blk)) (fun av _ _=>N+T-(intOf av).toNat)
     case atStart=>exact ⟨0,0,T,[],K,rfl,rfl,Nat.zero_le _,by omega,by omega,zWF (by omega),zWF (by rw [Nat.zero_mul]; rfl),zWF (zOR T),HS,zWF (zKU T 0),zWF (by rw [Nat.zero_mul]; exact HHK.out),HPM,hr,hg⟩
     case round =>
      obtain ⟨q,A,B,P,R,rfl,rfl,hq,hB1,hB2,HQ,HP,HS,HSR,HHP,HHR,HPM,hr,hg⟩:=hrel;have HE1:=HC.out.1 _ _ hE0 hg;have HQT:Hid (q*T=2*q*s):=zWF (by rw [HT.out,<-Nat.mul_assoc,Nat.mul_comm q 2]);have HW:=zWF (zCN HWD.out HPM.out);have HLN:=zWF (show P.length+R.length=N by have:=hr.1; rwa [List.length_append] at this);by_cases hb:B≤N
      ·have i3:(B:Int)≤(N:Int):=by omega
       obtain ⟨U,hU⟩:∃U:Nat,U=A+s:=⟨_,rfl⟩;have hAs:(A:Int)+(s:Int)=(U:Int):=by omega
       have HU:=zWF hU;clear hU;have HX:Hid (Srt leV (R.take s)):=zWF (zMA HSR.out);have HY:Hid (Srt leV ((R.drop s).take s)):=zWF (zIy HSR.out);have HR2:Hid (BS leV s (R.drop (2*s))):=zWF (zSu HSR.out 2);have HT0:Hid (R.take s++((R.drop s).take s++R.drop (2*s))=R):=zWF (by
        rw [show R.drop (2*s)=(R.drop s).drop s by rw [List.drop_drop]; congr 1; omega,List.take_append_drop,List.take_append_drop])
       have HX1:Hid ((R.take s).length=s):=zWF (by have:=HLN.out; have:=HP.out; have:=HQ.out; simp; omega);have HY1:Hid (((R.drop s).take s).length=s):=zWF (by have:=HLN.out; have:=HP.out; have:=HQ.out; simp; omega);have HHX:Hid (Home s (2*q*s) (R.take s)):=zWF (by rw [<-HQT.out]; exact zF2 HHR.out s);have HHY:Hid (Home s (2*q*s+s) ((R.drop s).take s)):=zWF (by rw [<-HQT.out]; exact zF2 (zF1 HHR.out s) s);have HHR2:Hid (Home s (q*T+T) (R.drop (2*s))):=zWF (by rw [<-HT.out]; exact zF1 HHR.out T);generalize R.take s=X at *;generalize (R.drop s).take s=Y at *;generalize R.drop (2*s)=R2 at *;go_wp2_with fail
       refine (zHa (N+N) (A:=P) (X:=X) (Y:=Y) (Z:=R2) HC HE1 hr (by rw [HT0.out]) (by rw [HP.out,HQ.out]) (by rw [HP.out,HX1.out,HU.out,HQ.out]) (by rw [HP.out,HX1.out,HY1.out]; have:=HQ.out; omega) (by rw [HX1.out]; omega) (by rw [HY1.out]; omega) (by rw [HX1.out,HY1.out]; omega) hN HW.out HX.out HY.out (zFF (by omega) HHX.out HHY.out HX1.out (by rw [HY1.out]; exact zWK _) (List.Perm.refl _)).2).mono ?_;rintro e w1 ⟨rfl,M',hM1,hM2,hr1,hg1⟩;have HML:Hid (M'.length=T):=zWF (by have:=hM1.length_eq; rw [List.length_append,HX1.out,HY1.out] at this; omega);have HM1:=zWF hM1;clear hM1;go_wp2_with fail
       go_roundw
       case rel=>exact ⟨q+1,B,B+T,P++M',R2,rfl,by go_num,hb,by omega,by omega,zWF (by have:=HQ.out; rw [Nat.add_mul,Nat.one_mul]; omega),zWF (by rw [List.length_append,HP.out,HML.out,Nat.add_mul,Nat.one_mul]),zWF (zEn HS.out HP.out hM2 (by rw [HML.out]; exact zWK _)),HR2,zWF (zEF HHP.out (by rw [Nat.zero_add,HP.out,HT.out]; exact (zFF (by omega) HHX.out HHY.out HX1.out (by rw [HY1.out]; exact zWK _) HM1.out).1)),zWF (by rw [Nat.add_mul,Nat.one_mul]; exact HHR2.out),zWF (by
        refine List.Perm.trans ?_ HPM.out;rw [List.append_assoc];refine List.Perm.append_left P ?_;rw [<-HT0.out,<-List.append_assoc X];exact HM1.out.append_right R2),by rw [List.append_assoc]; exact hr1,Off.tr hg hg1⟩
       case measure=>simp [intOf]; omega
      ·have i3:¬(B:Int)≤(N:Int):=by omega
       by_cases hm:A+s<N
       ·have i4:(A:Int)+(s:Int)<(N:Int):=by omega
        obtain ⟨U,hU⟩:∃U:Nat,U=A+s:=⟨_,rfl⟩;have hAs:(A:Int)+(s:Int)=(U:Int):=by omega
        have HU:=zWF hU;clear hU;have HX:Hid (Srt leV (R.take s)):=zWF (zMA HSR.out);have HY:Hid (Srt leV (R.drop s)):=zWF (by
         have:=zIy HSR.out;rwa [List.take_of_length_le (by have:=HLN.out; have:=HP.out; have:=HQ.out; simp; omega)] at this)
        have HT0:Hid (R.take s++R.drop s=R):=zWF (List.take_append_drop _ _);have HX1:Hid ((R.take s).length=s):=zWF (by have:=HLN.out; have:=HP.out; have:=HQ.out; simp; omega);have HY1:Hid ((R.drop s).length+(A+s)=N):=zWF (by have:=HLN.out; have:=HP.out; have:=HQ.out; simp; omega);have HHX:Hid (Home s (2*q*s) (R.take s)):=zWF (by rw [<-HQT.out]; exact zF2 HHR.out s);have HHY:Hid (Home s (2*q*s+s) (R.drop s)):=zWF (by rw [<-HQT.out]; exact zF1 HHR.out s);have HYS:Hid ((R.drop s).length≤s):=zWF (by have:=HLN.out; have:=HP.out; have:=HQ.out; simp; omega);generalize R.take s=X at *;generalize R.drop s=Y at *;go_wp2_with fail
        refine (zHa (N+N) (A:=P) (X:=X) (Y:=Y) (Z:=[]) HC HE1 hr (by rw [List.append_nil,HT0.out]) (by rw [HP.out,HQ.out]) (by rw [HP.out,HX1.out,HU.out,HQ.out]) (by rw [HP.out,HX1.out]; have:=HQ.out; have:=HY1.out; omega) (by rw [HX1.out]; omega) (by have:=HY1.out; omega) (by rw [HX1.out]; have:=HY1.out; omega) hN HW.out HX.out HY.out (zFF (by omega) HHX.out HHY.out HX1.out HYS.out (List.Perm.refl _)).2).mono ?_;rintro e w1 ⟨rfl,M',hM1,hM2,hr1,hg1⟩;have HBS:Hid (BS leV T (P++M')):=zWF (zEn HS.out HP.out hM2 (by have:=hM1.length_eq; rw [List.length_append,HX1.out] at this; have:=HY1.out; omega));have HPM2:Hid ((P++M').Perm L):=zWF ((List.Perm.append_left P (by rw [<-HT0.out]; exact hM1)).trans HPM.out)
        have HHN:Hid (Home T 0 (P++M')):=zWF (zEF HHP.out (by rw [Nat.zero_add,HP.out,HT.out]; exact (zFF (by omega) HHX.out HHY.out HX1.out HYS.out hM1).1));rw [List.append_nil] at hr1;clear hM1 hM2;go_wp2_with fail
        go_roundw
        case rel=>exact ⟨T,P++M',rfl,by omega,by omega,HBS,HHN,HPM2,hr1,Off.tr hg hg1⟩
        case measure=>simp [intOf]; omega
       ·have i4:¬(A:Int)+(s:Int)<(N:Int):=by omega
        have HBS:Hid (BS leV T (P++R)):=zWF (zEn HS.out HP.out (zOS HSR.out (by have:=HLN.out; have:=HP.out; have:=HQ.out; omega)) (by have:=HLN.out; have:=HP.out; have:=HQ.out; omega));go_wp2_with fail
        go_roundw
        case rel=>exact ⟨T,P++R,rfl,by omega,by omega,HBS,zWF (zEF HHP.out (by rw [Nat.zero_add,HP.out,HT.out]; rw [HT.out] at HHR; exact zTi HHR.out)),HPM,hr,hg⟩
        case measure=>simp [intOf]; omega
    ·have i2:¬(s:Int)<(N:Int):=by omega
     have HSRT:Hid (Srt leV K):=zWF (zOS HS.out (by have:=hr.1; omega));go_wp2_with fail
     go_end0
     exact ⟨rfl,K,HPM.out,HSRT.out,hr,hg⟩
theorem zLv {gc gv:Nat} {E:World→Prop} {OK:Ev→Prop} {blk N cap:Nat} {L:List Ev} {w:World} (HC:Hid (zC8 blk gc gv E OK)) (hE0:E w) (h:RowV blk N cap w L) (hN:N≤1048576) (hwd:OkV OK L) (hex:zBV 0 L) :
  Calls Tryz.prog 96 #[.slice (some ⟨blk,0,none⟩) N cap,.func (.func 97) #[] #[.pointer (some ⟨gc,0,none⟩),.pointer (some ⟨gv,0,none⟩)]] w fun e w' =>
   e=.returned (.tuple #[])∧∃M,M.Perm L∧Srt leV M∧RowV blk N cap w' M∧w.grownBy w' (some blk):=by
 have hc:=zUV HC hE0 h hN hwd hex;go_enter Tryz.func96,Tryz.ntmps96
 go_wp2_with fail
 refine hc.mono ?_;rintro e w1 ⟨rfl,hM⟩;go_wp2_with fail
 go_end0
 exact ⟨rfl,hM⟩
end Go.Proofs.YtphbichgpcicnaaGreatDoor
