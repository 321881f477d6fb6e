/- The polynomials of one element and all others from those of the lesser ones, by the reference. Condition: at most 24 elements. -/
import Derived.Test.YtlgcdacpjcnjgaaGreatDoorJGKzA
import Derived.Test.YtlgcdacpjcnjgaaGreatDoorJGMulP
import Derived.IntWalk
import Derived.Deep.RegionWith
namespace Go.Proofs.YtlgcdacpjcnjgaaGreatDoor
open Go.RowKit
set_option maxRecDepth 20000
set_option maxHeartbeats 8000000
theorem zCd {β:Type} (f:β→Nat→β) (b:β) (i:Nat):(List.range (i+1)).foldl f b=f ((List.range i).foldl f b) i:=by
 rw [List.range_succ,List.foldl_append]; rfl
structure NxIn (E:List (List Int)) (tab:Nat→Nat→Nat) (r:Nat) (T:List (List Int)) (R:List (List (List Int))) (n:Nat):Prop where
 tbk:TabOk E tab r
 rows:RowsOk E R n
 rl:R.length=n
 rr:∀k,k<n→∃L,R[k]? = some L∧L.length=E.length∧∀u,u<E.length→L[u]? = some (zAA R k u)
 tl:T.length=E.length
 tt:∀z i,z<E.length→i<r→∃row,T[z]? = some row∧row.length=r∧row[i]? = some (tab z i:Int)
 el:∀z,z<E.length→∃x,E[z]? = some x∧x.length=lenE E z
 hd:∀z,0<z→z<E.length→∃x,E[z]? = some x∧x[0]? = some (hdE E z:Int)∧x.length=lenE E z
theorem RII.cellLen {S:Nat→Prop} {w:World} {b o n cap:Nat} {E:List (List Int)} (h:RII S w (.slice (some ⟨b,o,none⟩) n cap) E) {j m:Nat} (hx:∃x,E[j]? = some x∧x.length=m) :
  ∃a c,w.cell? ⟨b,o+j,none⟩=some (.slice a m c):=by
 obtain ⟨x,hx,rfl⟩:=hx;obtain ⟨a,c,h1,_⟩:=RII.get h hx;exact ⟨a,c,h1⟩
theorem RII.cellInt {S:Nat→Prop} {w:World} {b o n cap:Nat} {T:List (List Int)} (h:RII S w (.slice (some ⟨b,o,none⟩) n cap) T) {z i m:Nat} {y:Int} (hx:∃row,T[z]? = some row∧row.length=m∧row[i]? = some y) :
  ∃b' o' c',w.cell? ⟨b,o+z,none⟩=some (.slice (some ⟨b',o',none⟩) m c')∧w.cell? ⟨b',o'+i,none⟩=some (.int .i64 y):=by
 obtain ⟨x,hx,rfl,hy⟩:=hx;obtain ⟨a,c,h1,h2⟩:=RII.get h hx;have h0:0<x.length:=by have:=(zTG hy).1; omega
 obtain ⟨b',o',c',e⟩:=RL.head h2 h0;rw [e] at h1 h2;exact ⟨b',o',c',h1,RI.get h2 hy⟩
theorem RIII.cellRow {S:Nat→Prop} {w:World} {b o n cap:Nat} {R:List (List (List Int))} (h:RIII S w (.slice (some ⟨b,o,none⟩) n cap) R) {k N:Nat} {P:Nat→List Int} (h0:0<N) (hx:∃L,R[k]? = some L∧L.length=N∧∀u,u<N→L[u]? = some (P u)) :
  ∃b' o' c',w.cell? ⟨b,o+k,none⟩=some (.slice (some ⟨b',o',none⟩) N c')∧∀u,u<N→∃a c,w.cell? ⟨b',o'+u,none⟩=some (.slice a (P u).length c)∧RI S w (.slice a (P u).length c) (P u):=by
 obtain ⟨L,hL,rfl,hu⟩:=hx;obtain ⟨a,c,h1,h2⟩:=RIII.get h hL;obtain ⟨b',o',c',e⟩:=RL.head h2 h0;rw [e] at h1 h2;exact ⟨b',o',c',h1,fun u hlt=>RII.get h2 (hu u hlt)⟩
theorem zO9 {S1 S2 S3:Nat→Prop} {vl vt vr:Value} {E T:List (List Int)} {R:List (List (List Int))} {tab:Nat→Nat→Nat} {r n:Nat} {w:World} (hE:RII S1 w vl E) (hT:RII S2 w vt T) (hR:RIII S3 w vr R) (I:NxIn E tab r T R n) (h0:0<n) (hn:n<E.length) :
  Calls Tryz.prog 148 #[vl,vt,vr,.int .i64 n] w fun e w'=>∃r,e=.returned r∧FII (New w w') w' r ((List.range E.length).map (zAz E tab (zAA R) n))∧Below w.heap.size w w':=by
 have mixed:Tryz.prog.follows .mixedOrders=true:=by kernel_rfl
 obtain ⟨bE,oE,cE,rfl⟩:=RL.head hE (by omega);obtain ⟨bT,oT,cT,rfl⟩:=RL.head hT (by have:=I.tl; omega);obtain ⟨bR,oR,cR,rfl⟩:=RL.head hR (by have:=I.rl; omega);obtain ⟨hs1,hk1⟩:=I.tbk.hd n h0 hn;have hkn:=I.tbk.k_lt h0 hn;obtain ⟨xn,hxn,hxs,hxl⟩:=I.hd n h0 hn;obtain ⟨an,cn,hcn,hrn⟩:=RII.get hE hxn;have hlp:0<xn.length:=by have:=(zTG hxs).1; omega
 obtain ⟨bn,on,cn',en⟩:=RL.head hrn hlp;rw [en] at hcn hrn;have hcs:w.cell? ⟨bn,on,none⟩=some (.int .i64 (hdE E n:Int)):=RI.get (j:=0) hrn hxs;obtain ⟨b2,o2,c2,ht1,ht2⟩:=RII.cellInt hT (I.tt n (hdE E n) hn hs1);rw [hxl] at hcn;have hcn:=zB9 hcn (.cells #[] 29);have hcs:=zB9 hcs (.cells #[] 29);have ht1:=zB9 ht1 (.cells #[] 29);have ht2:=zB9 ht2 (.cells #[] 29);clear hxs en hrn hxn hlp;have HT:=zTD (fun (wv:World) (hb:Below w.heap.size w wv) (u:Nat) (hu:u<E.length)=>RII.cellInt (hT.below hb) (I.tt u (hdE E n) hu hs1));have HEL:=zTD (fun (wv:World) (hb:Below w.heap.size w wv) (u:Nat) (hu:u<E.length)=>RII.cellLen (hE.below hb) (I.el u hu));have HRW:=zTD (fun (wv:World) (hb:Below w.heap.size w wv) (k:Nat) (hk:k<n)=>RIII.cellRow (hR.below hb) (show 0<E.length by omega) (I.rr k hk))
 have HLT:=zTD (fun (u:Nat) (hu:u<E.length)=>I.tbk.lt u (hdE E n) hu hs1);have HSR:=zTD (fun (z:Nat) (hz:z<tab n (hdE E n))=>I.tbk.srt z n (by omega) hn);have HDP:=zTD I.tbk.deep;have HRL:=zTD I.rows.len;have HRI:=zTD I.rows.ini;have HKZ:=zTD (fun (u:Nat) (p:List Int) (z:Nat) (hz:z<tab n (hdE E n)) (hp:Trd p∧InI p∧p.length≤lenE E n+1)=>zMg (k:=tab n (hdE E n)) (s:=hdE E n) (u:=u) I.tbk I.rows (I.tbk.srt z n (by omega) hn) hp);have HST:=zTD (fun (u:Nat)=>zGR (tab:=tab) I.rows (tab n (hdE E n)) (hdE E n) u);have HKE:Hid (lenE E (tab n (hdE E n))+1=lenE E n):=zTD hk1;have HNX:Hid (∀u,zAz E tab (zAA R) n u=(List.range (tab n (hdE E n))).foldl (klZ E tab (zAA R) n (tab n (hdE E n)) (hdE E n) u) (zAE E tab (zAA R) (tab n (hdE E n)) (hdE E n) u)):=zTD (fun _=>rfl)
 obtain ⟨w1,hw1⟩:∃w1,w1=w.alloc (.cells #[] 29):=⟨_,rfl⟩;have hs2:=(zAj (HS.nil (Below.refl _ w)) hw1).add (Below.refl _ _) (zA7 []) (F:=NoB) ⟨fun x hx=>by simp at hx,List.Pairwise.nil⟩ (fun b hb=>hb.elim);have hs2:HS w w1 [aV 29 (.slice (some ⟨w.heap.size,0,none⟩) 0 0) (([]:Zl).map Prod.fst),aRs []]:=hs2;have HW1:=zTD hw1;have HZ0:Hid (([]:Zl).map Prod.snd=(List.range 0).map (zAz E tab (zAA R) n)):=zTD rfl;have hdn:=HDP.out n;have hN24:=I.tbk.few;rw [I.tl,I.rl];clear hw1 hE hT hR I;generalize hs:hdE E n=s at *;generalize hk:tab n s=k at *;generalize hN:E.length=N at *;generalize hln:lenE E n=ln at *;have hnN:(n:Int)<(N:Int):=by omega
 have hsr:(s:Int)<(r:Int):=by omega
 have hlp:(0:Int)<(ln:Int):=by omega
 have hkN:k<N:=by omega
 have HN:=zTD hN;clear hs hk hN hxl;go_enter Tryz.func148,Tryz.ntmps148
 go_wp2_with fail
 rw [<-HW1.out];go_loopw [9,12] (fun oo uu wr=>∃(u:Nat) (vo:Value) (Z:Zl),vo=oo∧u≤N∧uu=.int .i64 u∧HS w wr [aV 29 vo (Z.map Prod.fst),aRs Z]∧Hid (Z.map Prod.snd=(List.range u).map (zAz E tab (zAA R) n))) (fun _ uu _=>N-(intOf uu).toNat)
 case atStart=>exact ⟨0,_,[],rfl,Nat.zero_le _,rfl,hs2,HZ0⟩
 case round =>
  clear hs2 HZ0 hcn hcs ht1 ht2;obtain ⟨u,vo,Z,rfl,hu,rfl,hs,HMZ⟩:=hrel;by_cases huN:u<N
  ·have i1:(u:Int)<(N:Int):=by omega
   have i2:(0:Int)≤(u:Int):=by omega
   have hxN:=HLT.out u huN;obtain ⟨b5,o5,c5,ht5,ht6⟩:=HT.out wr hs.bl u huN;have HXX:Hid (zAE E tab (zAA R) k s u=if lenE E (tab u s)<lenE E u then addP (zAA R k (tab u s)) (zAQ (zAA R k u) 1) else addP (zAQ (zAA R k (tab u s)) 1) (zAA R k u)):=zTD rfl;generalize tab u s=x at *;obtain ⟨ax,cx,hex⟩:=HEL.out wr hs.bl x hxN;obtain ⟨au,cu,heu⟩:=HEL.out wr hs.bl u huN;have hex:=zB9 hex (.cells #[] 3);have heu:=zB9 heu (.cells #[] 3);have i3:(x:Int)<(N:Int):=by omega
   have hLx:=HDP.out x;have hLu:=HDP.out u;generalize hlx:lenE E x=lx at *;generalize hlu:lenE E u=lu at *;have HLU:=zTD hlu;have HLX:=zTD hlx;clear hlx hlu;by_cases hlt:lx<lu
   ·have i4:(lx:Int)<(lu:Int):=by omega
    have HXS:Hid (zAE E tab (zAA R) k s u=addP (zAA R k x) (zAQ (zAA R k u) 1)):=zTD (by rw [HXX.out,if_pos hlt]);clear hlt HXX;go_wp2_with fail
    go_big_region_o
    have hs3:HS w (wr.alloc (.cells #[] 3)).drew [aV 29 vo (Z.map Prod.fst),aRs Z]:=HSx.drew (HSx.alloc hs _);clear hex heu hs ht5 ht6;generalize (wr.alloc (.cells #[] 3)).drew=w3 at *;go_wp2_with fail
    have hs4:HS w w3.drew [aV 29 vo (Z.map Prod.fst),aRs Z]:=HSx.drew hs3;obtain ⟨bk,ok,ck,hrk,hrow⟩:=HRW.out w3.drew hs4.bl k hkn;obtain ⟨a1,c1,hq1,hp1⟩:=hrow x hxN;obtain ⟨a2,c2,hq2,hp2⟩:=hrow u huN;have HI1:=zTD (HRI.out k x);have HI2:=zTD (HRI.out k u);have hl1:=HRL.out k x;have hl2:=HRL.out k u;have HKE1:=HKE.out;have hl1:(zAA R k x).length≤25:=by omega
    have hl2:(zAA R k u).length≤25:=by omega
    have HL1:=zTD hl1;have HL2:=zTD hl2;have hsh:=zDo hp2 1 (by decide) (by omega);have lk:=zTH _ _ hrk;have lk1:=zTH _ _ hq1;clear hrow hs3 HKE1;go_region_held3 (fun w'=>w'.cell? ⟨bR,oR+k,none⟩=some (.slice (some ⟨bk,ok,none⟩) N ck)∧w'.cell? ⟨bk,ok+x,none⟩=some (.slice a1 (zAA R k x).length c1)∧w'.cell? ⟨bk,ok+u,none⟩=some (.slice a2 (zAA R k u).length c2)) (first | go_keep | exact ⟨q4,q5,q6⟩ | exact ⟨q1,q2,q3⟩ | exact ⟨hrk,hq1,hq2⟩) (first
     | (go_at_call 179; refine hsh.mono ?_; rintro e w4 ⟨r4,rfl,f4,b4⟩; have q1:=(b4.cell (p:=⟨bR,oR+k,none⟩) lk).trans hrk; have q2:=(b4.cell (p:=⟨bk,ok+x,none⟩) lk1).trans hq1; have q3:=(b4.cell (p:=⟨bk,ok+u,none⟩) lk1).trans hq2; have had:=zGv (hp1.below b4) f4.reads HI1.out (zJR HI2.out 1) (by omega) (by have:=zBL (zAA R k u) 1; have:=HL2.out; omega))
     | (go_at_call 178; refine had.mono ?_; rintro e w5 ⟨r5,rfl,f5,b5⟩; have q4:=(b5.cell (p:=⟨bR,oR+k,none⟩) (zTH _ _ q1)).trans q1; have q5:=(b5.cell (p:=⟨bk,ok+x,none⟩) (zTH _ _ q2)).trans q2; have q6:=(b5.cell (p:=⟨bk,ok+u,none⟩) (zTH _ _ q3)).trans q3))
    have hs5:=HSx.addI (HSx.below hs4 b4) b5 f5;rw [<-HXS.out] at hs5;have hs5:HS w w5 [aV 29 vo (Z.map Prod.fst),aRs Z,aI r5 (zAE E tab (zAA R) k s u)]:=hs5;clear hs4 hrk hq1 hp1 hq2 hp2 q1 q2 q3 q4 q5 q6 f4 f5 b4 b5 had hsh lk lk1;have HOK0:Hid (Trd (zAE E tab (zAA R) k s u)∧InI (zAE E tab (zAA R) k s u)∧(zAE E tab (zAA R) k s u).length≤ln+1):=zTD (by have h1:=HST.out u; have h2:=HKE.out; exact ⟨h1.1,h1.2.1,by have:=h1.2.2; omega⟩);go_wp2_with fail
    go_loopw [14,15] (fun pp zz wr=>∃(z:Nat) (vp:Value),vp=pp∧z≤k∧zz=.int .i64 z∧HS w wr [aV 29 vo (Z.map Prod.fst),aRs Z,aI vp ((List.range z).foldl (klZ E tab (zAA R) n k s u) (zAE E tab (zAA R) k s u))]∧Hid (Trd ((List.range z).foldl (klZ E tab (zAA R) n k s u) (zAE E tab (zAA R) k s u))∧InI ((List.range z).foldl (klZ E tab (zAA R) n k s u) (zAE E tab (zAA R) k s u))∧((List.range z).foldl (klZ E tab (zAA R) n k s u) (zAE E tab (zAA R) k s u)).length≤ln+1)) (fun _ zz _=>k-(intOf zz).toNat)
    case atStart=>exact ⟨0,_,rfl,Nat.zero_le _,rfl,hs5,HOK0⟩
    case round =>
     clear hs5 HOK0;obtain ⟨z,vp,rfl,hz,rfl,hs,HOK⟩:=hrel;by_cases hzk:z<k
     ·have HSTP:=zTD (zCd (klZ E tab (zAA R) n k s u) (zAE E tab (zAA R) k s u) z);have HOK2:=zTD (HKZ.out u _ z hzk HOK.out);rw [<-HSTP.out] at HOK2;have HZD:Hid ((List.range (z+1)).foldl (klZ E tab (zAA R) n k s u) (zAE E tab (zAA R) k s u)=if muS (zAA R k z) ((lenE E k:Int)-lenE E z)≠0∧lenE E (tab z s)<lenE E z then subP ((List.range z).foldl (klZ E tab (zAA R) n k s u) (zAE E tab (zAA R) k s u)) (zAQ (mulP (zAA R z u) [muS (zAA R k z) ((lenE E k:Int)-lenE E z)]) ((lenE E n-lenE E z) / 2)) else (List.range z).foldl (klZ E tab (zAA R) n k s u) (zAE E tab (zAA R) k s u)):=zTD (by rw [HSTP.out]; rfl);clear HSTP;generalize (List.range z).foldl (klZ E tab (zAA R) n k s u) (zAE E tab (zAA R) k s u)=P at *;obtain ⟨P2,hP2⟩:∃P2,(List.range (z+1)).foldl (klZ E tab (zAA R) n k s u) (zAE E tab (zAA R) k s u)=P2:=⟨_,rfl⟩;have HP2:=zTD hP2
      rw [hP2] at HZD HOK2;clear hP2;have hzN:z<N:=by omega
      have z1:(z:Int)<(k:Int):=by omega
      have z2:(0:Int)≤(z:Int):=by omega
      have z3:(z:Int)<(N:Int):=by omega
      have z4:(z:Int)<(n:Int):=by omega
      have k3:(k:Int)<(N:Int):=by omega
      have hsd:HS w wr.drew [aV 29 vo (Z.map Prod.fst),aRs Z,aI vp P]:=HSx.drew hs;obtain ⟨bk,ok,ck,hrk,hrow⟩:=HRW.out wr.drew hsd.bl k hkn;obtain ⟨a1,c1,hq1,hp1⟩:=hrow z hzN;obtain ⟨ak,ck2,hek⟩:=HEL.out wr.drew hsd.bl k hkN;obtain ⟨az,cz,hez⟩:=HEL.out wr.drew hsd.bl z hzN;have hdk:=HDP.out k;have hdz:=HDP.out z;have hzln:=HSR.out z hzk;have HKE1:=HKE.out;have hl1:=HRL.out k z;have hl1:(zAA R k z).length≤25:=by omega
      rw [hln] at HZD;generalize hlk:lenE E k=lk at *;generalize hlz:lenE E z=lz at *;have HLZ:=zTD hlz;have HLK:=zTD hlk;have hmu:=zKh hp1 (d:=(lk:Int)-lz) (by omega) (by omega) (by omega);clear hlk hlz hrow hl1 hs;have hwr:IntKind.i64.wrap ((lk:Int)-lz)=(lk:Int)-lz:=IntWalk.i64_in _ (by omega);generalize muS (zAA R k z) ((lk:Int)-lz)=m at *;go_wp2_with fail
      go_region_held3 (fun w'=>w'.cell? ⟨bR,oR+k,none⟩=some (.slice (some ⟨bk,ok,none⟩) N ck)∧w'.cell? ⟨bk,ok+z,none⟩=some (.slice a1 (zAA R k z).length c1)∧w'.cell? ⟨bE,oE+k,none⟩=some (.slice ak lk ck2)∧w'.cell? ⟨bE,oE+z,none⟩=some (.slice az lz cz)) (first | go_keep | exact ⟨p1,p2,p3,p4⟩ | exact ⟨hrk,hq1,hek,hez⟩) (first | (go_at_call 94; refine hmu.mono ?_; rintro e w4 ⟨rfl,b4⟩; have p1:=(b4.cell (p:=⟨bR,oR+k,none⟩) (zTH _ _ hrk)).trans hrk; have p2:=(b4.cell (p:=⟨bk,ok+z,none⟩) (zTH _ _ hq1)).trans hq1; have p3:=(b4.cell (p:=⟨bE,oE+k,none⟩) (zTH _ _ hek)).trans hek; have p4:=(b4.cell (p:=⟨bE,oE+z,none⟩) (zTH _ _ hez)).trans hez))
      have hs4:HS w w4 [aV 29 vo (Z.map Prod.fst),aRs Z,aI vp P]:=HSx.below hsd b4;clear hmu hrk hq1 hp1 hek hez hsd hwr p1 p2 p3 p4 b4;have hs5:HS w w4.drew [aV 29 vo (Z.map Prod.fst),aRs Z,aI vp P]:=HSx.drew hs4;obtain ⟨b6,o6,c6,ht5,ht6⟩:=HT.out w4.drew hs5.bl z hzN;have hyN:=HLT.out z hzN;generalize hy:tab z s=y at *;have y3:(y:Int)<(N:Int):=by omega
      obtain ⟨ay,cy,hey⟩:=HEL.out w4.drew hs5.bl y hyN;obtain ⟨az,cz,hez⟩:=HEL.out w4.drew hs5.bl z hzN;rw [HLZ.out] at hez;have hdy:=HDP.out y;generalize hly:lenE E y=ly at *;clear hly hy;by_cases hc:m≠0∧ly<lz
      ·rw [if_pos hc] at HZD;have e0:(m != 0)=true:=by simp [hc.1]
       have e1:(ly:Int)<(lz:Int):=by omega
       clear hc;go_wp2_with fail
       go_big_region_o
       have hs6:HS w w4.drew.drew [aV 29 vo (Z.map Prod.fst),aRs Z,aI vp P]:=HSx.drew hs5;clear ht5 ht6 hey hez hs4;generalize w4.drew=w6 at *;obtain ⟨bz,oz,cz2,hrz,hrow⟩:=HRW.out w6.drew hs6.bl z (by omega);obtain ⟨a2,c2,hq2,hp2⟩:=hrow u huN;obtain ⟨an2,cn2,hen⟩:=HEL.out w6.drew hs6.bl n hn;obtain ⟨az,cz,hez⟩:=HEL.out w6.drew hs6.bl z hzN;rw [HLZ.out] at hez;rw [hln] at hen;have hl2:=HRL.out z u;rw [HLZ.out] at hl2;have HL2:=zTD (zDb (zAA R z u) m);obtain ⟨h2,hh2⟩:∃h2:Nat,(ln-lz) / 2=h2:=⟨_,rfl⟩;rw [hh2] at HZD;obtain ⟨w7,hw7⟩:∃w7,w7=(w6.alloc (.cells #[.int .i64 m] 3)).drew:=⟨_,rfl⟩;have hb7:Below w6.drew.heap.size w6.drew w7:=by rw [hw7]; exact (Below.refl _ w6.drew).alloc (zTI _) _
       have hon7:RI Any w7 (.slice (some ⟨w6.heap.size,0,none⟩) 1 1) [m]:=by rw [hw7]; exact (RI.one w6 m).drew
       have hmul:=zKj (hp2.below hb7) hon7 (by omega) (by simp);have hs7:=HSx.below hs6 hb7;have HP:=FI.reads (HS.I hs7 2 rfl);obtain ⟨hPt,hPi,hPl⟩:=HOK.out;have HPI:=zTD hPi;have hPl:P.length≤8388608:=by omega
       have krz:=(hb7.cell (p:=⟨bR,oR+z,none⟩) (zTH _ _ hrz)).trans hrz;have kq2:=(hb7.cell (p:=⟨bz,oz+u,none⟩) (zTH _ _ hq2)).trans hq2;have ken:=(hb7.cell (p:=⟨bE,oE+n,none⟩) (zTH _ _ hen)).trans hen;have kez:=(hb7.cell (p:=⟨bE,oE+z,none⟩) (zTH _ _ hez)).trans hez;have hwr3:IntKind.i64.wrap (h2:Int)=(h2:Int):=IntWalk.i64_in _ (by omega);have hwr2:((ln:Int)-lz).tdiv 2=(h2:Int):=by rw [Int.tdiv_eq_ediv_of_nonneg (by omega)]; omega
       have hwr1:IntKind.i64.wrap ((ln:Int)-lz)=(ln:Int)-lz:=IntWalk.i64_in _ (by omega);have hh60:h2≤60:=by omega
       have hwr4:((ln:Int)-lz) / 2=(h2:Int):=by omega
       clear hrow hh2 hPt hPi hb7 hs5 hp2 hs6;go_wp2_with fail
       rw [hw7] at krz kq2 ken kez;rw [hw7] at hmul;have HW7:=zTD hw7;clear hw7;go_region_held3 (fun w'=>w'.cell? ⟨bR,oR+z,none⟩=some (.slice (some ⟨bz,oz,none⟩) N cz2)∧w'.cell? ⟨bz,oz+u,none⟩=some (.slice a2 (zAA R z u).length c2)∧w'.cell? ⟨bE,oE+n,none⟩=some (.slice an2 ln cn2)∧w'.cell? ⟨bE,oE+z,none⟩=some (.slice az lz cz)) (first | go_keep | exact ⟨d1,d2,d3,d4⟩ | exact ⟨g1,g2,g3,g4⟩ | exact ⟨p1,p2,p3,p4⟩ | exact ⟨krz,kq2,ken,kez⟩ | exact ⟨hrz,hq2,hen,hez⟩) (first
        | (go_at_call 181; refine hmul.mono ?_; rintro e w8 ⟨r8,rfl,f8,b8⟩; have p1:=(b8.cell (p:=⟨bR,oR+z,none⟩) (zTH _ _ krz)).trans krz; have p2:=(b8.cell (p:=⟨bz,oz+u,none⟩) (zTH _ _ kq2)).trans kq2; have p3:=(b8.cell (p:=⟨bE,oE+n,none⟩) (zTH _ _ ken)).trans ken; have p4:=(b8.cell (p:=⟨bE,oE+z,none⟩) (zTH _ _ kez)).trans kez; have hsh:=zDo f8.reads h2 hh60 (by have:=HL2.out; omega))
        | (go_at_call 179; refine hsh.mono ?_; rintro e w9 ⟨r9,rfl,f9,b9⟩; have g1:=(b9.cell (p:=⟨bR,oR+z,none⟩) (zTH _ _ p1)).trans p1; have g2:=(b9.cell (p:=⟨bz,oz+u,none⟩) (zTH _ _ p2)).trans p2; have g3:=(b9.cell (p:=⟨bE,oE+n,none⟩) (zTH _ _ p3)).trans p3; have g4:=(b9.cell (p:=⟨bE,oE+z,none⟩) (zTH _ _ p4)).trans p4; rw [<-HW7.out] at b8; have hsu:=zK3 (HP.below (zAC.step b8 b9)) f9.reads HPI.out hPl (by have:=HL2.out; have:=zBL (mulP (zAA R z u) [m]) h2; omega))
        | (go_at_call 180; refine hsu.mono ?_; rintro e w10 ⟨r10,rfl,f10,b10⟩; have d1:=(b10.cell (p:=⟨bR,oR+z,none⟩) (zTH _ _ g1)).trans g1; have d2:=(b10.cell (p:=⟨bz,oz+u,none⟩) (zTH _ _ g2)).trans g2; have d3:=(b10.cell (p:=⟨bE,oE+n,none⟩) (zTH _ _ g3)).trans g3; have d4:=(b10.cell (p:=⟨bE,oE+z,none⟩) (zTH _ _ g4)).trans g4))
       have hs10:=HSx.addI (HSx.below (HSx.below hs7 b8) b9) b10 f10;rw [<-HZD] at hs10;have hs10:HS w w10 [aV 29 vo (Z.map Prod.fst),aRs Z,aI r10 P2]:=HSx.pick hs10 [0,1,3] (by decide);clear krz kq2 ken kez hrz hq2 hen hez p1 p2 p3 p4 g1 g2 g3 g4 d1 d2 d3 d4 hmul hsh hsu hs7 f8 f9 f10 b8 b9 b10 HP hwr1 hwr2 hwr3 hwr4 hon7;go_wp2_with fail
       go_roundw
       case rel=>exact ⟨z+1,r10,rfl,by omega,by go_num,by rw [HP2.out]; exact hs10,by rw [HP2.out]; exact HOK2⟩
       case measure=>simp [intOf]; omega
      ·rw [if_neg hc] at HZD;by_cases hm:m=0
       ·have e0:(m != 0)=false:=by simp [hm]
        clear hc hm;go_wp2_with fail
        go_big_region_o
        have hs6:HS w w4.drew [aV 29 vo (Z.map Prod.fst),aRs Z,aI vp P2]:=by rw [HZD]; exact hs5
        clear ht5 ht6 hey hez hs4 hs5;generalize w4.drew=w6 at *;go_wp2_with fail
        go_roundw
        case rel=>exact ⟨z+1,vp,rfl,by omega,by go_num,by rw [HP2.out]; exact hs6,by rw [HP2.out]; exact HOK2⟩
        case measure=>simp [intOf]; omega
       ·have e0:(m != 0)=true:=by simp [hm]
        have e1:¬(ly:Int)<(lz:Int):=fun h=>hc ⟨hm,by omega⟩;clear hc hm;go_wp2_with fail
        go_big_region_o
        have hs6:HS w w4.drew [aV 29 vo (Z.map Prod.fst),aRs Z,aI vp P2]:=by rw [HZD]; exact hs5
        clear ht5 ht6 hey hez hs4 hs5;generalize w4.drew=w6 at *;go_wp2_with fail
        go_roundw
        case rel=>exact ⟨z+1,vp,rfl,by omega,by go_num,by rw [HP2.out]; exact hs6,by rw [HP2.out]; exact HOK2⟩
        case measure=>simp [intOf]; omega
     ·have z1:¬(z:Int)<(k:Int):=by omega
      have hze:z=k:=by omega
      have HFIN:Hid ((List.range z).foldl (klZ E tab (zAA R) n k s u) (zAE E tab (zAA R) k s u)=zAz E tab (zAA R) n u):=zTD (by rw [hze,HNX.out]);rw [HFIN.out] at hs;have hql:=HOK.out.2.2;rw [HFIN.out] at hql;clear hze;obtain ⟨ap,cp,rfl⟩:=HS.formI hs 2 rfl;have HMZ2:Hid ((Z++[(Value.slice ap (zAz E tab (zAA R) n u).length cp,zAz E tab (zAA R) n u)]).map Prod.snd=(List.range (u+1)).map (zAz E tab (zAA R) n)):=zTD (by rw [List.map_append,HMZ.out,List.range_succ,List.map_append]; rfl);have HLN:Hid ((Z.map Prod.fst).length+1≤67108864):=zTD (by have:=congrArg List.length HMZ.out; simp at this; simp; omega);generalize zAz E tab (zAA R) n u=q at *;generalize hqn:q.length=qn at *;clear hqn;obtain ⟨w4,hw4⟩:∃w4,w4=wr.alloc (.cells #[.slice ap qn cp] 29):=⟨_,rfl⟩
      have hs4:HS w w4 [aV 29 vo (Z.map Prod.fst),aRs Z,aI (.slice ap qn cp) q]:=by rw [hw4]; exact HSx.alloc hs _
      have hc4:w4.cell? ⟨wr.heap.size,0,none⟩=some (.slice ap qn cp):=by rw [hw4]; go_simp
      have HW4:=zTD hw4;have HNV:=zTD (HS.newV hs4 0 rfl);clear hs hw4;go_wp2_with (at_builtin; go_must (rw [<-HW4.out]; refine zAH rfl _ _ rfl rfl hs4 0 rfl HNV.out rfl hc4 rfl HLN.out ?_))
      intro v5 w5 hs5 _;have hs6:=(HSx.moreS hs5 1 2 (by decide) rfl rfl (Z':=Z++[(.slice ap qn cp,q)]) (List.perm_append_singleton _ _)).pick [0,1] (by decide);have hs6:HS w w5 [aV 29 v5 ((Z++[(Value.slice ap qn cp,q)]).map Prod.fst),aRs (Z++[(Value.slice ap qn cp,q)])]:=by
       have e:(Z++[(Value.slice ap qn cp,q)]).map Prod.fst=Z.map Prod.fst++[Value.slice ap qn cp]:=by simp
       rw [e]; exact hs6
      generalize Z++[(Value.slice ap qn cp,q)]=Z2 at *;clear hs4 hs5 hc4;go_wp2_with fail
      go_roundw
      case rel=>exact ⟨u+1,v5,Z2,rfl,by omega,by go_num,hs6,HMZ2⟩
      case measure=>simp [intOf]; omega
   ·have i4:¬(lx:Int)<(lu:Int):=by omega
    have HXS:Hid (zAE E tab (zAA R) k s u=addP (zAQ (zAA R k x) 1) (zAA R k u)):=zTD (by rw [HXX.out,if_neg hlt]);clear hlt HXX;go_wp2_with fail
    go_big_region_o
    have hs3:HS w (wr.alloc (.cells #[] 3)).drew [aV 29 vo (Z.map Prod.fst),aRs Z]:=HSx.drew (HSx.alloc hs _);clear hex heu hs ht5 ht6;generalize (wr.alloc (.cells #[] 3)).drew=w3 at *;go_wp2_with fail
    have hs4:HS w w3.drew [aV 29 vo (Z.map Prod.fst),aRs Z]:=HSx.drew hs3;obtain ⟨bk,ok,ck,hrk,hrow⟩:=HRW.out w3.drew hs4.bl k hkn;obtain ⟨a1,c1,hq1,hp1⟩:=hrow x hxN;obtain ⟨a2,c2,hq2,hp2⟩:=hrow u huN;have HI1:=zTD (HRI.out k x);have HI2:=zTD (HRI.out k u);have hl1:=HRL.out k x;have hl2:=HRL.out k u;have HKE1:=HKE.out;have hl1:(zAA R k x).length≤25:=by omega
    have hl2:(zAA R k u).length≤25:=by omega
    have HL1:=zTD hl1;have HL2:=zTD hl2;have hsh:=zDo hp1 1 (by decide) (by omega);have lk:=zTH _ _ hrk;have lk1:=zTH _ _ hq1;clear hrow hs3 HKE1;go_region_held3 (fun w'=>w'.cell? ⟨bR,oR+k,none⟩=some (.slice (some ⟨bk,ok,none⟩) N ck)∧w'.cell? ⟨bk,ok+x,none⟩=some (.slice a1 (zAA R k x).length c1)∧w'.cell? ⟨bk,ok+u,none⟩=some (.slice a2 (zAA R k u).length c2)) (first | go_keep | exact ⟨q4,q5,q6⟩ | exact ⟨q1,q2,q3⟩ | exact ⟨hrk,hq1,hq2⟩) (first
     | (go_at_call 179; refine hsh.mono ?_; rintro e w4 ⟨r4,rfl,f4,b4⟩; have q1:=(b4.cell (p:=⟨bR,oR+k,none⟩) lk).trans hrk; have q2:=(b4.cell (p:=⟨bk,ok+x,none⟩) lk1).trans hq1; have q3:=(b4.cell (p:=⟨bk,ok+u,none⟩) lk1).trans hq2; have had:=zGv f4.reads (hp2.below b4) (zJR HI1.out 1) HI2.out (by have:=zBL (zAA R k x) 1; have:=HL1.out; omega) (by omega))
     | (go_at_call 178; refine had.mono ?_; rintro e w5 ⟨r5,rfl,f5,b5⟩; have q4:=(b5.cell (p:=⟨bR,oR+k,none⟩) (zTH _ _ q1)).trans q1; have q5:=(b5.cell (p:=⟨bk,ok+x,none⟩) (zTH _ _ q2)).trans q2; have q6:=(b5.cell (p:=⟨bk,ok+u,none⟩) (zTH _ _ q3)).trans q3))
    have hs5:=HSx.addI (HSx.below hs4 b4) b5 f5;rw [<-HXS.out] at hs5;have hs5:HS w w5 [aV 29 vo (Z.map Prod.fst),aRs Z,aI r5 (zAE E tab (zAA R) k s u)]:=hs5;clear hs4 hrk hq1 hp1 hq2 hp2 q1 q2 q3 q4 q5 q6 f4 f5 b4 b5 had hsh lk lk1;have HOK0:Hid (Trd (zAE E tab (zAA R) k s u)∧InI (zAE E tab (zAA R) k s u)∧(zAE E tab (zAA R) k s u).length≤ln+1):=zTD (by have h1:=HST.out u; have h2:=HKE.out; exact ⟨h1.1,h1.2.1,by have:=h1.2.2; omega⟩);go_wp2_with fail
    go_loopw [14,15] (fun pp zz wr=>∃(z:Nat) (vp:Value),vp=pp∧z≤k∧zz=.int .i64 z∧HS w wr [aV 29 vo (Z.map Prod.fst),aRs Z,aI vp ((List.range z).foldl (klZ E tab (zAA R) n k s u) (zAE E tab (zAA R) k s u))]∧Hid (Trd ((List.range z).foldl (klZ E tab (zAA R) n k s u) (zAE E tab (zAA R) k s u))∧InI ((List.range z).foldl (klZ E tab (zAA R) n k s u) (zAE E tab (zAA R) k s u))∧((List.range z).foldl (klZ E tab (zAA R) n k s u) (zAE E tab (zAA R) k s u)).length≤ln+1)) (fun _ zz _=>k-(intOf zz).toNat)
    case atStart=>exact ⟨0,_,rfl,Nat.zero_le _,rfl,hs5,HOK0⟩
    case round =>
     clear hs5 HOK0;obtain ⟨z,vp,rfl,hz,rfl,hs,HOK⟩:=hrel;by_cases hzk:z<k
     ·have HSTP:=zTD (zCd (klZ E tab (zAA R) n k s u) (zAE E tab (zAA R) k s u) z);have HOK2:=zTD (HKZ.out u _ z hzk HOK.out);rw [<-HSTP.out] at HOK2;have HZD:Hid ((List.range (z+1)).foldl (klZ E tab (zAA R) n k s u) (zAE E tab (zAA R) k s u)=if muS (zAA R k z) ((lenE E k:Int)-lenE E z)≠0∧lenE E (tab z s)<lenE E z then subP ((List.range z).foldl (klZ E tab (zAA R) n k s u) (zAE E tab (zAA R) k s u)) (zAQ (mulP (zAA R z u) [muS (zAA R k z) ((lenE E k:Int)-lenE E z)]) ((lenE E n-lenE E z) / 2)) else (List.range z).foldl (klZ E tab (zAA R) n k s u) (zAE E tab (zAA R) k s u)):=zTD (by rw [HSTP.out]; rfl);clear HSTP;generalize (List.range z).foldl (klZ E tab (zAA R) n k s u) (zAE E tab (zAA R) k s u)=P at *;obtain ⟨P2,hP2⟩:∃P2,(List.range (z+1)).foldl (klZ E tab (zAA R) n k s u) (zAE E tab (zAA R) k s u)=P2:=⟨_,rfl⟩;have HP2:=zTD hP2
      rw [hP2] at HZD HOK2;clear hP2;have hzN:z<N:=by omega
      have z1:(z:Int)<(k:Int):=by omega
      have z2:(0:Int)≤(z:Int):=by omega
      have z3:(z:Int)<(N:Int):=by omega
      have z4:(z:Int)<(n:Int):=by omega
      have k3:(k:Int)<(N:Int):=by omega
      have hsd:HS w wr.drew [aV 29 vo (Z.map Prod.fst),aRs Z,aI vp P]:=HSx.drew hs;obtain ⟨bk,ok,ck,hrk,hrow⟩:=HRW.out wr.drew hsd.bl k hkn;obtain ⟨a1,c1,hq1,hp1⟩:=hrow z hzN;obtain ⟨ak,ck2,hek⟩:=HEL.out wr.drew hsd.bl k hkN;obtain ⟨az,cz,hez⟩:=HEL.out wr.drew hsd.bl z hzN;have hdk:=HDP.out k;have hdz:=HDP.out z;have hzln:=HSR.out z hzk;have HKE1:=HKE.out;have hl1:=HRL.out k z;have hl1:(zAA R k z).length≤25:=by omega
      rw [hln] at HZD;generalize hlk:lenE E k=lk at *;generalize hlz:lenE E z=lz at *;have HLZ:=zTD hlz;have HLK:=zTD hlk;have hmu:=zKh hp1 (d:=(lk:Int)-lz) (by omega) (by omega) (by omega);clear hlk hlz hrow hl1 hs;have hwr:IntKind.i64.wrap ((lk:Int)-lz)=(lk:Int)-lz:=IntWalk.i64_in _ (by omega);generalize muS (zAA R k z) ((lk:Int)-lz)=m at *;go_wp2_with fail
      go_region_held3 (fun w'=>w'.cell? ⟨bR,oR+k,none⟩=some (.slice (some ⟨bk,ok,none⟩) N ck)∧w'.cell? ⟨bk,ok+z,none⟩=some (.slice a1 (zAA R k z).length c1)∧w'.cell? ⟨bE,oE+k,none⟩=some (.slice ak lk ck2)∧w'.cell? ⟨bE,oE+z,none⟩=some (.slice az lz cz)) (first | go_keep | exact ⟨p1,p2,p3,p4⟩ | exact ⟨hrk,hq1,hek,hez⟩) (first | (go_at_call 94; refine hmu.mono ?_; rintro e w4 ⟨rfl,b4⟩; have p1:=(b4.cell (p:=⟨bR,oR+k,none⟩) (zTH _ _ hrk)).trans hrk; have p2:=(b4.cell (p:=⟨bk,ok+z,none⟩) (zTH _ _ hq1)).trans hq1; have p3:=(b4.cell (p:=⟨bE,oE+k,none⟩) (zTH _ _ hek)).trans hek; have p4:=(b4.cell (p:=⟨bE,oE+z,none⟩) (zTH _ _ hez)).trans hez))
      have hs4:HS w w4 [aV 29 vo (Z.map Prod.fst),aRs Z,aI vp P]:=HSx.below hsd b4;clear hmu hrk hq1 hp1 hek hez hsd hwr p1 p2 p3 p4 b4;have hs5:HS w w4.drew [aV 29 vo (Z.map Prod.fst),aRs Z,aI vp P]:=HSx.drew hs4;obtain ⟨b6,o6,c6,ht5,ht6⟩:=HT.out w4.drew hs5.bl z hzN;have hyN:=HLT.out z hzN;generalize hy:tab z s=y at *;have y3:(y:Int)<(N:Int):=by omega
      obtain ⟨ay,cy,hey⟩:=HEL.out w4.drew hs5.bl y hyN;obtain ⟨az,cz,hez⟩:=HEL.out w4.drew hs5.bl z hzN;rw [HLZ.out] at hez;have hdy:=HDP.out y;generalize hly:lenE E y=ly at *;clear hly hy;by_cases hc:m≠0∧ly<lz
      ·rw [if_pos hc] at HZD;have e0:(m != 0)=true:=by simp [hc.1]
       have e1:(ly:Int)<(lz:Int):=by omega
       clear hc;go_wp2_with fail
       go_big_region_o
       have hs6:HS w w4.drew.drew [aV 29 vo (Z.map Prod.fst),aRs Z,aI vp P]:=HSx.drew hs5;clear ht5 ht6 hey hez hs4;generalize w4.drew=w6 at *;obtain ⟨bz,oz,cz2,hrz,hrow⟩:=HRW.out w6.drew hs6.bl z (by omega);obtain ⟨a2,c2,hq2,hp2⟩:=hrow u huN;obtain ⟨an2,cn2,hen⟩:=HEL.out w6.drew hs6.bl n hn;obtain ⟨az,cz,hez⟩:=HEL.out w6.drew hs6.bl z hzN;rw [HLZ.out] at hez;rw [hln] at hen;have hl2:=HRL.out z u;rw [HLZ.out] at hl2;have HL2:=zTD (zDb (zAA R z u) m);obtain ⟨h2,hh2⟩:∃h2:Nat,(ln-lz) / 2=h2:=⟨_,rfl⟩;rw [hh2] at HZD;obtain ⟨w7,hw7⟩:∃w7,w7=(w6.alloc (.cells #[.int .i64 m] 3)).drew:=⟨_,rfl⟩;have hb7:Below w6.drew.heap.size w6.drew w7:=by rw [hw7]; exact (Below.refl _ w6.drew).alloc (zTI _) _
       have hon7:RI Any w7 (.slice (some ⟨w6.heap.size,0,none⟩) 1 1) [m]:=by rw [hw7]; exact (RI.one w6 m).drew
       have hmul:=zKj (hp2.below hb7) hon7 (by omega) (by simp);have hs7:=HSx.below hs6 hb7;have HP:=FI.reads (HS.I hs7 2 rfl);obtain ⟨hPt,hPi,hPl⟩:=HOK.out;have HPI:=zTD hPi;have hPl:P.length≤8388608:=by omega
       have krz:=(hb7.cell (p:=⟨bR,oR+z,none⟩) (zTH _ _ hrz)).trans hrz;have kq2:=(hb7.cell (p:=⟨bz,oz+u,none⟩) (zTH _ _ hq2)).trans hq2;have ken:=(hb7.cell (p:=⟨bE,oE+n,none⟩) (zTH _ _ hen)).trans hen;have kez:=(hb7.cell (p:=⟨bE,oE+z,none⟩) (zTH _ _ hez)).trans hez;have hwr3:IntKind.i64.wrap (h2:Int)=(h2:Int):=IntWalk.i64_in _ (by omega);have hwr2:((ln:Int)-lz).tdiv 2=(h2:Int):=by rw [Int.tdiv_eq_ediv_of_nonneg (by omega)]; omega
       have hwr1:IntKind.i64.wrap ((ln:Int)-lz)=(ln:Int)-lz:=IntWalk.i64_in _ (by omega);have hh60:h2≤60:=by omega
       have hwr4:((ln:Int)-lz) / 2=(h2:Int):=by omega
       clear hrow hh2 hPt hPi hb7 hs5 hp2 hs6;go_wp2_with fail
       rw [hw7] at krz kq2 ken kez;rw [hw7] at hmul;have HW7:=zTD hw7;clear hw7;go_region_held3 (fun w'=>w'.cell? ⟨bR,oR+z,none⟩=some (.slice (some ⟨bz,oz,none⟩) N cz2)∧w'.cell? ⟨bz,oz+u,none⟩=some (.slice a2 (zAA R z u).length c2)∧w'.cell? ⟨bE,oE+n,none⟩=some (.slice an2 ln cn2)∧w'.cell? ⟨bE,oE+z,none⟩=some (.slice az lz cz)) (first | go_keep | exact ⟨d1,d2,d3,d4⟩ | exact ⟨g1,g2,g3,g4⟩ | exact ⟨p1,p2,p3,p4⟩ | exact ⟨krz,kq2,ken,kez⟩ | exact ⟨hrz,hq2,hen,hez⟩) (first
        | (go_at_call 181; refine hmul.mono ?_; rintro e w8 ⟨r8,rfl,f8,b8⟩; have p1:=(b8.cell (p:=⟨bR,oR+z,none⟩) (zTH _ _ krz)).trans krz; have p2:=(b8.cell (p:=⟨bz,oz+u,none⟩) (zTH _ _ kq2)).trans kq2; have p3:=(b8.cell (p:=⟨bE,oE+n,none⟩) (zTH _ _ ken)).trans ken; have p4:=(b8.cell (p:=⟨bE,oE+z,none⟩) (zTH _ _ kez)).trans kez; have hsh:=zDo f8.reads h2 hh60 (by have:=HL2.out; omega))
        | (go_at_call 179; refine hsh.mono ?_; rintro e w9 ⟨r9,rfl,f9,b9⟩; have g1:=(b9.cell (p:=⟨bR,oR+z,none⟩) (zTH _ _ p1)).trans p1; have g2:=(b9.cell (p:=⟨bz,oz+u,none⟩) (zTH _ _ p2)).trans p2; have g3:=(b9.cell (p:=⟨bE,oE+n,none⟩) (zTH _ _ p3)).trans p3; have g4:=(b9.cell (p:=⟨bE,oE+z,none⟩) (zTH _ _ p4)).trans p4; rw [<-HW7.out] at b8; have hsu:=zK3 (HP.below (zAC.step b8 b9)) f9.reads HPI.out hPl (by have:=HL2.out; have:=zBL (mulP (zAA R z u) [m]) h2; omega))
        | (go_at_call 180; refine hsu.mono ?_; rintro e w10 ⟨r10,rfl,f10,b10⟩; have d1:=(b10.cell (p:=⟨bR,oR+z,none⟩) (zTH _ _ g1)).trans g1; have d2:=(b10.cell (p:=⟨bz,oz+u,none⟩) (zTH _ _ g2)).trans g2; have d3:=(b10.cell (p:=⟨bE,oE+n,none⟩) (zTH _ _ g3)).trans g3; have d4:=(b10.cell (p:=⟨bE,oE+z,none⟩) (zTH _ _ g4)).trans g4))
       have hs10:=HSx.addI (HSx.below (HSx.below hs7 b8) b9) b10 f10;rw [<-HZD] at hs10;have hs10:HS w w10 [aV 29 vo (Z.map Prod.fst),aRs Z,aI r10 P2]:=HSx.pick hs10 [0,1,3] (by decide);clear krz kq2 ken kez hrz hq2 hen hez p1 p2 p3 p4 g1 g2 g3 g4 d1 d2 d3 d4 hmul hsh hsu hs7 f8 f9 f10 b8 b9 b10 HP hwr1 hwr2 hwr3 hwr4 hon7;go_wp2_with fail
       go_roundw
       case rel=>exact ⟨z+1,r10,rfl,by omega,by go_num,by rw [HP2.out]; exact hs10,by rw [HP2.out]; exact HOK2⟩
       case measure=>simp [intOf]; omega
      ·rw [if_neg hc] at HZD;by_cases hm:m=0
       ·have e0:(m != 0)=false:=by simp [hm]
        clear hc hm;go_wp2_with fail
        go_big_region_o
        have hs6:HS w w4.drew [aV 29 vo (Z.map Prod.fst),aRs Z,aI vp P2]:=by rw [HZD]; exact hs5
        clear ht5 ht6 hey hez hs4 hs5;generalize w4.drew=w6 at *;go_wp2_with fail
        go_roundw
        case rel=>exact ⟨z+1,vp,rfl,by omega,by go_num,by rw [HP2.out]; exact hs6,by rw [HP2.out]; exact HOK2⟩
        case measure=>simp [intOf]; omega
       ·have e0:(m != 0)=true:=by simp [hm]
        have e1:¬(ly:Int)<(lz:Int):=fun h=>hc ⟨hm,by omega⟩;clear hc hm;go_wp2_with fail
        go_big_region_o
        have hs6:HS w w4.drew [aV 29 vo (Z.map Prod.fst),aRs Z,aI vp P2]:=by rw [HZD]; exact hs5
        clear ht5 ht6 hey hez hs4 hs5;generalize w4.drew=w6 at *;go_wp2_with fail
        go_roundw
        case rel=>exact ⟨z+1,vp,rfl,by omega,by go_num,by rw [HP2.out]; exact hs6,by rw [HP2.out]; exact HOK2⟩
        case measure=>simp [intOf]; omega
     ·have z1:¬(z:Int)<(k:Int):=by omega
      have hze:z=k:=by omega
      have HFIN:Hid ((List.range z).foldl (klZ E tab (zAA R) n k s u) (zAE E tab (zAA R) k s u)=zAz E tab (zAA R) n u):=zTD (by rw [hze,HNX.out]);rw [HFIN.out] at hs;have hql:=HOK.out.2.2;rw [HFIN.out] at hql;clear hze;obtain ⟨ap,cp,rfl⟩:=HS.formI hs 2 rfl;have HMZ2:Hid ((Z++[(Value.slice ap (zAz E tab (zAA R) n u).length cp,zAz E tab (zAA R) n u)]).map Prod.snd=(List.range (u+1)).map (zAz E tab (zAA R) n)):=zTD (by rw [List.map_append,HMZ.out,List.range_succ,List.map_append]; rfl);have HLN:Hid ((Z.map Prod.fst).length+1≤67108864):=zTD (by have:=congrArg List.length HMZ.out; simp at this; simp; omega);generalize zAz E tab (zAA R) n u=q at *;generalize hqn:q.length=qn at *;clear hqn;obtain ⟨w4,hw4⟩:∃w4,w4=wr.alloc (.cells #[.slice ap qn cp] 29):=⟨_,rfl⟩
      have hs4:HS w w4 [aV 29 vo (Z.map Prod.fst),aRs Z,aI (.slice ap qn cp) q]:=by rw [hw4]; exact HSx.alloc hs _
      have hc4:w4.cell? ⟨wr.heap.size,0,none⟩=some (.slice ap qn cp):=by rw [hw4]; go_simp
      have HW4:=zTD hw4;have HNV:=zTD (HS.newV hs4 0 rfl);clear hs hw4;go_wp2_with (at_builtin; go_must (rw [<-HW4.out]; refine zAH rfl _ _ rfl rfl hs4 0 rfl HNV.out rfl hc4 rfl HLN.out ?_))
      intro v5 w5 hs5 _;have hs6:=(HSx.moreS hs5 1 2 (by decide) rfl rfl (Z':=Z++[(.slice ap qn cp,q)]) (List.perm_append_singleton _ _)).pick [0,1] (by decide);have hs6:HS w w5 [aV 29 v5 ((Z++[(Value.slice ap qn cp,q)]).map Prod.fst),aRs (Z++[(Value.slice ap qn cp,q)])]:=by
       have e:(Z++[(Value.slice ap qn cp,q)]).map Prod.fst=Z.map Prod.fst++[Value.slice ap qn cp]:=by simp
       rw [e]; exact hs6
      generalize Z++[(Value.slice ap qn cp,q)]=Z2 at *;clear hs4 hs5 hc4;go_wp2_with fail
      go_roundw
      case rel=>exact ⟨u+1,v5,Z2,rfl,by omega,by go_num,hs6,HMZ2⟩
      case measure=>simp [intOf]; omega
  ·have i1:¬(u:Int)<(N:Int):=by omega
   have hue:u=N:=by omega
   have hs7:HS w wr [aF vo (Z.map Prod.snd)]:=((HSx.shutF hs (Z:=Z) (v:=vo) 0 1 (by decide) rfl rfl).pick [0] (by decide));rw [HMZ.out,hue] at hs7;clear hs hue;go_wp2_with fail
   go_ret
   exact ⟨_,rfl,HS.F hs7 0 rfl,hs7.bl⟩
end Go.Proofs.YtlgcdacpjcnjgaaGreatDoor
