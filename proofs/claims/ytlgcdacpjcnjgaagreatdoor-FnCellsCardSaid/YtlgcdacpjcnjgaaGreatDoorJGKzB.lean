/- The table of the products of all elements with letters, by the reference. Condition: sizes up to 2^24. -/
import Derived.Test.YtlgcdacpjcnjgaaGreatDoorJGKlC
import Derived.Test.YtlgcdacpjcnjgaaGreatDoorJNxS
namespace Go.Proofs.YtlgcdacpjcnjgaaGreatDoor
open Go.RowKit
set_option maxRecDepth 20000
set_option maxHeartbeats 8000000
theorem zNf {S:Nat→Prop} {u:Value} {c:List (List Int)} {w:World} (h:RII S w u c) (hk:okK c=true) (hl:total c≤16777216) :
  Calls Tryz.prog 147 #[u] w fun e w'=>∃r,e=.returned r∧FII (New w w') w' r (tbL c)∧Below w.heap.size w w':=by
 have mixed:Tryz.prog.follows .mixedOrders=true:=by kernel_rfl
 have HELs:=fun (wv:World) (hb:Below w.heap.size w wv)=>zDW (h.below hb) hl;have K:=KlOk.of hk;have hok:=(zBl hk).2.2.2.2;have HR:Hid (elR c=elL c):=zTD (by unfold elR; rw [hok]; rfl);rw [hok,HR.out] at HELs;have HELs:=zTD HELs;have HTB:Hid (tbL c=(elL c).map fun x=>(List.range c.length).map fun (i:Nat)=>((idxE (elL c) (zAD c ((i:Int)::x)):Nat):Int)):=zTD rfl;have hc:=K.cart;have hfew:=K.few;have HX:=zTD (fun (x:List Int) (hx:x∈elL c)=>(K.nf x).1 hx);have HIN:=zTD (fun (x:List Int) (hx:Nf c x)=>(K.nf x).2 hx);have HLF:=zTD (fun (x:List Int) (hx:Nf c x) (i:Nat) (hi:i<c.length)=>zDM K.fin hx hi);have HNS:=zTD (fun (wv:World) (S9:Nat→Prop) (vv:Value) (x:List Int) (i:Nat) (hi:i<c.length) (hx:Nf c x) (hb:Below w.heap.size w wv) (hv:RI S9 wv vv ((i:Int)::x)) =>
  zEM (h.below hb) hv hc (fun y hy=>by exact (List.mem_cons.1 hy).elim (fun e=>by subst e; omega) (hx.lets y)) hl (by have:=hx.le; simp; omega))
 have hn4:=hc.le;obtain ⟨aa,ca,rfl⟩:=h.form;generalize hn:c.length=n at *;have HN:=zTD hn;clear hn hc hok h hk K;obtain ⟨w1,hw1⟩:∃w1,w1=w.alloc (.cells #[] 29):=⟨_,rfl⟩;have hs1:=(zAj (HS.nil (Below.refl _ w)) hw1).add (Below.refl _ _) (zA7 []) (F:=NoB) ⟨fun x hx=>by simp at hx,List.Pairwise.nil⟩ (fun b hb=>hb.elim);have hs1:HS w w1 [aV 29 (.slice (some ⟨w.heap.size,0,none⟩) 0 0) (([]:Zl).map Prod.fst),aRs []]:=hs1;have HW1:=zTD hw1;have hel:=HELs.out w1 hs1.bl;clear hw1;go_enter Tryz.func147,Tryz.ntmps147
 go_wp2_with fail
 rw [<-HW1.out];refine hel.mono ?_;rintro e w2 ⟨r2,rfl,f2,b2⟩;have hs2:=HSx.addF hs1 b2 f2;obtain ⟨ae,ce,rfl⟩:=f2.read.form;have hs2:HS w w2 [aV 29 (.slice (some ⟨w.heap.size,0,none⟩) 0 0) (([]:Zl).map Prod.fst),aRs [],aF (.slice ae (elL c).length ce) (elL c)]:=hs2;generalize hE:elL c=E at *;generalize hN:E.length=N at *;have HEN:=zTD hN;have HZ0:Hid (([]:Zl).map Prod.snd=(E.take 0).map fun x=>(List.range n).map fun (i:Nat)=>((idxE E (zAD c ((i:Int)::x)):Nat):Int)):=zTD rfl;clear hel hs1 f2 b2 hN hE;go_wp2_with fail
 go_loopw [3,6] (fun oo kk wr=>∃(k:Nat) (vo:Value) (Z:Zl),vo=oo∧k≤N∧kk=.int .i64 k∧HS w wr [aV 29 vo (Z.map Prod.fst),aRs Z,aF (.slice ae N ce) E]∧Hid (Z.map Prod.snd=(E.take k).map fun x=>(List.range n).map fun (i:Nat)=>((idxE E (zAD c ((i:Int)::x)):Nat):Int))) (fun _ kk _=>N-(intOf kk).toNat)
 case atStart=>exact ⟨0,_,[],rfl,Nat.zero_le _,rfl,hs2,HZ0⟩
 case round =>
  clear hs2 HZ0;obtain ⟨k,vo,Z,rfl,hk,rfl,hs,HMZ⟩:=hrel;by_cases hkN:k<N
  ·have i1:(k:Int)<(N:Int):=by omega
   obtain ⟨x,hx⟩:∃x,E[k]? = some x:=⟨_,zTE (by rw [HEN.out]; exact hkN)⟩;have HX1:=zTD hx;have HXN:=zTD (HX.out x (zTF hx));obtain ⟨w2,hw2⟩:∃w2,w2=wr.alloc (.cells #[] 3):=⟨_,rfl⟩;have fe:=zAN (Below.refl _ wr) hw2;have hs3:=HSx.addI hs fe.2 fe.1;have hs3:HS w w2 [aV 29 vo (Z.map Prod.fst),aRs Z,aF (.slice ae N ce) E,aI (.slice (some ⟨wr.heap.size,0,none⟩) 0 0) ((List.range 0).map fun (i:Nat)=>((idxE E (zAD c ((i:Int)::x)):Nat):Int))]:=hs3;have HW2:=zTD hw2;clear hx fe hw2 hs;go_wp2_with fail
   rw [<-HW2.out];go_loopw [7,8] (fun rr ii wr=>∃(i:Nat) (vi:Value),vi=rr∧i≤n∧ii=.int .i64 i∧HS w wr [aV 29 vo (Z.map Prod.fst),aRs Z,aF (.slice ae N ce) E,aI vi ((List.range i).map fun (i:Nat)=>((idxE E (zAD c ((i:Int)::x)):Nat):Int))]) (fun _ ii _=>n-(intOf ii).toNat)
   case atStart=>exact ⟨0,_,rfl,Nat.zero_le _,rfl,hs3⟩
   case round =>
    clear hs3;obtain ⟨i,vi,rfl,hi,rfl,hs⟩:=hrel;have HIL:Hid (((List.range i).map fun (i:Nat)=>((idxE E (zAD c ((i:Int)::x)):Nat):Int)).length=i):=zTD (by simp);have HNX:Hid ((List.range i).map (fun (i:Nat)=>((idxE E (zAD c ((i:Int)::x)):Nat):Int))++[((idxE E (zAD c ((i:Int)::x)):Nat):Int)]=(List.range (i+1)).map fun (i:Nat)=>((idxE E (zAD c ((i:Int)::x)):Nat):Int)):=zTD (by rw [List.range_succ,List.map_append]; rfl);by_cases hin:i<n
    ·have j1:(i:Int)<(n:Int):=by omega
     have j2:(0:Int)≤(k:Int):=by omega
     obtain ⟨w3,hw3⟩:∃w3,w3=wr.alloc (.cells #[.int .i64 i] 3):=⟨_,rfl⟩;have b3:Below wr.heap.size wr w3:=by rw [hw3]; exact (Below.refl _ _).alloc (zTI _) _
     have hon:RI Any w3 (.slice (some ⟨wr.heap.size,0,none⟩) 1 1) [(i:Int)]:=by rw [hw3]; exact RI.one wr i
     have hs4:=HSx.below hs b3;have hE4:=(HS.F hs4 2 rfl).read;obtain ⟨be,oe,re,xx,rfl,hce,hre,hxx⟩:=RII.at hE4 hkN;obtain rfl:xx=x:=by have:=hxx.out; rw [HX1.out] at this; exact (Option.some.inj this).symm
     have hx24:=HXN.out.le;have hcc:=zGJ hon hre (by simp) (by omega);obtain ⟨ax,cx,rfl⟩:=hre.form;have HW3:=zTD hw3;have hce':(wr.alloc (.cells #[.int .i64 i] 3)).cell? ⟨be,oe+k,none⟩=some (.slice ax xx.length cx):=by rw [<-hw3]; exact hce
     clear hce hxx hw3 b3 hon hs hre;go_wp2_with fail
     rw [<-HW3.out];refine hcc.mono ?_;rintro e w5 ⟨r5,rfl,f5,b5⟩;have hs5:=HSx.below hs4 b5;have hnm:=HNS.out w5 _ r5 xx i hin HXN.out hs5.bl f5.reads;clear hcc hs4 hce';go_wp2_with fail
     refine hnm.mono ?_;rintro e w6 ⟨r6,rfl,f6,b6⟩;have hs6:=HSx.below hs5 b6;have hlf:=HLF.out xx HXN.out i hin;have hix:=zHa (HS.F hs6 2 rfl).read f6.reads (HIN.out _ hlf.1) (fun y hy=>by have:=(HX.out y hy).le; omega) (by rw [HEN.out]; omega) (by have:=hlf.1.le; omega);clear hnm hs5 f5 b5 hlf;generalize idxE E (zAD c ((i:Int)::xx))=q at *;go_wp2_with fail
     refine hix.mono ?_;rintro e w7 ⟨rfl,m7,rfl⟩;have hs7:=HSx.drewN hs6 m7;have hs7:HS w (w6.drewN m7) [aV 29 vo (Z.map Prod.fst),aRs Z,aF (.slice (some ⟨be,oe,none⟩) N ce) E,aI vi ((List.range i).map fun (i:Nat)=>((idxE E (zAD c ((i:Int)::xx)):Nat):Int))]:=hs7;clear hs6 hix f6 b6;generalize w6.drewN m7=w7 at *;obtain ⟨w8,hw8⟩:∃w8,w8=w7.alloc (.cells #[.int .i64 q] 3):=⟨_,rfl⟩;have hs8:=hs7.alloc (.cells #[.int .i64 q] 3);rw [<-hw8] at hs8;have hc8:w8.cell? ⟨w7.heap.size,0,none⟩=some (.int .i64 q):=by rw [hw8]; go_simp
     have HW8:=zTD hw8;have HLN:Hid (((List.range i).map fun (i:Nat)=>((idxE E (zAD c ((i:Int)::xx)):Nat):Int)).length+1≤67108864):=zTD (by rw [HIL.out]; omega);clear hs7 hw8;go_wp2_with (at_builtin; go_must (rw [<-HW8.out]; refine zAd rfl _ _ rfl rfl hs8 3 rfl rfl hc8 HLN.out ?_))
     intro v9 w9 hs9;have hs9:HS w w9 [aV 29 vo (Z.map Prod.fst),aRs Z,aF (.slice (some ⟨be,oe,none⟩) N ce) E,aI v9 ((List.range (i+1)).map fun (i:Nat)=>((idxE E (zAD c ((i:Int)::xx)):Nat):Int))]:=by rw [<-HNX.out]; exact hs9
     clear hs8 hc8;go_wp2_with fail
     go_roundw
     case rel=>exact ⟨i+1,v9,rfl,by omega,by go_num,hs9⟩
     case measure=>simp [intOf]; omega
    ·have j1:¬(i:Int)<(n:Int):=by omega
     have hie:i=n:=by omega
     rw [hie] at hs HIL;clear hie;obtain ⟨ap,cp,rfl⟩:=HS.formI hs 3 rfl;have HMZ2:Hid ((Z++[(Value.slice ap n cp,(List.range n).map fun (i:Nat)=>((idxE E (zAD c ((i:Int)::x)):Nat):Int))]).map Prod.snd=(E.take (k+1)).map fun x=>(List.range n).map fun (i:Nat)=>((idxE E (zAD c ((i:Int)::x)):Nat):Int)):=zTD (by rw [List.map_append,HMZ.out,zAP HX1.out,List.map_append]; rfl);have HLN:Hid ((Z.map Prod.fst).length+1≤67108864):=zTD (by have:=congrArg List.length HMZ.out; simp at this; simp; omega);rw [HIL.out] at hs ⊢;generalize (List.range n).map (fun (i:Nat)=>((idxE E (zAD c ((i:Int)::x)):Nat):Int))=q at *;obtain ⟨w4,hw4⟩:∃w4,w4=wr.alloc (.cells #[.slice ap n cp] 29):=⟨_,rfl⟩;have hs4:HS w w4 [aV 29 vo (Z.map Prod.fst),aRs Z,aF (.slice ae N ce) E,aI (.slice ap n cp) q]:=by rw [hw4]; exact HSx.alloc hs _
     have hc4:w4.cell? ⟨wr.heap.size,0,none⟩=some (.slice ap n cp):=by rw [hw4]; go_simp
     have HW4:=zTD hw4;have HNV:=zTD (HS.newV hs4 0 rfl);clear hs hw4;go_wp2_with (at_builtin; go_must (rw [<-HW4.out]; refine zAH rfl _ _ rfl rfl hs4 0 rfl HNV.out rfl hc4 rfl HLN.out ?_))
     intro v5 w5 hs5 _;have hs6:=(HSx.moreS hs5 1 3 (by decide) rfl rfl (Z':=Z++[(.slice ap n cp,q)]) (List.perm_append_singleton _ _)).pick [0,1,2] (by decide);have hs6:HS w w5 [aV 29 v5 ((Z++[(Value.slice ap n cp,q)]).map Prod.fst),aRs (Z++[(Value.slice ap n cp,q)]),aF (.slice ae N ce) E]:=by
      have e:(Z++[(Value.slice ap n cp,q)]).map Prod.fst=Z.map Prod.fst++[Value.slice ap n cp]:=by simp
      rw [e]; exact hs6
     generalize Z++[(Value.slice ap n cp,q)]=Z2 at *;clear hs4 hs5 hc4;go_wp2_with fail
     go_roundw
     case rel=>exact ⟨k+1,v5,Z2,rfl,by omega,by go_num,hs6,HMZ2⟩
     case measure=>simp [intOf]; omega
  ·have i1:¬(k:Int)<(N:Int):=by omega
   have e:E.take k=E:=List.take_of_length_le (by rw [HEN.out]; omega);have hs7:HS w wr [aF vo (Z.map Prod.snd)]:=((HSx.shutF hs (Z:=Z) (v:=vo) 0 1 (by decide) rfl rfl).pick [0] (by decide));rw [HMZ.out,e,<-HTB.out] at hs7;clear hs e;go_wp2_with fail
   go_ret
   exact ⟨_,rfl,HS.F hs7 0 rfl,hs7.bl⟩
def kE (c:List (List Int)):List (List Int):=if okK c then elL c else []
theorem zHt {S:Nat→Prop} {u:Value} {c:List (List Int)} {w:World} (h:RII S w u c) (hl:total c≤16777216) :
  Calls Tryz.prog 37 #[u] w fun e w'=>∃r,e=.returned (.tuple #[r,.bool (okK c)])∧FII (New w w') w' r (kE c)∧Below w.heap.size w w':=by
 have hsz:=zF5 h hl;cases hok:okK c with
 | false =>
  have HR:Hid (kE c=[]):=zTD (by unfold kE; rw [hok]; rfl);have hno:=zSb hok;obtain ⟨aa,ca,rfl⟩:=h.form;clear hok h;generalize szC c=z at *;rcases hno with rfl | hno
  ·go_enter Tryz.func37,Tryz.ntmps37
   go_wp2_with fail
   refine hsz.mono ?_;rintro e w1 ⟨rfl,b1⟩;have hf:=FII.empty_of b1 (w1:=w1.alloc (.cells #[] 29)) rfl;clear hsz;go_wp2_with fail
   go_ret2
   exact ⟨_,rfl,by rw [HR.out]; exact hf.1,hf.2⟩
  ·have i1:(24:Int)<(z:Int):=by omega
   have i2:¬(z:Int)<1:=by omega
   go_enter Tryz.func37,Tryz.ntmps37
   go_wp2_with fail
   refine hsz.mono ?_;rintro e w1 ⟨rfl,b1⟩;have hf:=FII.empty_of b1 (w1:=w1.alloc (.cells #[] 29)) rfl;clear hsz;go_wp2_with fail
   go_ret2
   exact ⟨_,rfl,by rw [HR.out]; exact hf.1,hf.2⟩
 | true =>
  obtain ⟨h1,h2,h3,h4,_⟩:=zBl hok;have HR:Hid (kE c=elL c):=zTD (by unfold kE; rw [hok]; rfl);have hpos:=zK8 h2;rw [h4] at hsz;have hall:=fun (wv:World) (hb:Below w.heap.size w wv)=>zJ7 (h.below hb) h2 (by omega) hl;obtain ⟨aa,ca,rfl⟩:=h.form;have i1:¬(24:Int)<(szP c:Int):=by omega
  have i2:¬(szP c:Int)<1:=by omega
  clear hok h h1 h2 h4;generalize szP c=z at *;go_enter Tryz.func37,Tryz.ntmps37
  go_wp2_with fail
  refine hsz.mono ?_;rintro e w1 ⟨rfl,b1⟩;have hcall:=hall w1 b1;clear hsz hall;go_wp2_with fail
  refine hcall.mono ?_;rintro e w2 ⟨r2,rfl,f2,b2⟩;go_wp2_with fail
  go_ret2
  exact ⟨_,rfl,by rw [HR.out]; exact f2.mono (fun b hb=>⟨Nat.le_trans b1.size hb.1,hb.2⟩),zAC.step b1 b2⟩
theorem KlOk.next {c:List (List Int)} (K:KlOk c) {n:Nat} (hn:n<(elL c).length):NxIn (elL c) (tabE c (elL c)) c.length (tbL c) (rws (elL c) (tabE c (elL c)) n) n where
 tbk:=K.tab
 rows:=K.rows n (by omega)
 rl:=zCD _ _ n
 rr:=fun k hk=>⟨_,zG4 _ _ hk,by simp,fun u hu=>by rw [List.getElem?_map,List.getElem?_range hu]; rfl⟩
 tl:=by simp [tbL]
 tt:=fun z i hz hi=>K.trow hz hi
 el:=fun z hz=>by obtain ⟨x,h1,_,h2,_⟩:=K.at hz; exact ⟨x,h1,h2.symm⟩
 hd:=fun z h0 hz=>K.head hz h0
def row0 (N:Nat):List (List Int):=(List.range N).map fun u=>if u=0 then [1] else []
theorem zRM (E:List (List Int)) (tab:Nat→Nat→Nat):rws E tab 1=[row0 E.length]:=by
 unfold rws rws row0 rowS;simp
theorem zPQ (E:List (List Int)) (tab:Nat→Nat→Nat) {n:Nat} (h0:0<n):rws E tab (n+1)=rws E tab n++[(List.range E.length).map (zAz E tab (zAA (rws E tab n)) n)]:=by
 show rws E tab n++[(List.range E.length).map (rowS E tab (zAA (rws E tab n)) n)]=_;congr 3;funext u;unfold rowS;rw [if_neg (by omega)]
theorem zFw {A:Nat→Prop} {w0 w w1:World} {Ps:List zAI} (h:HSx A w0 w Ps) (x:Int) (hw:w1=w.alloc (.cells #[.int .i64 x] 3)):HSx A w0 w1 (Ps++[aI (.slice (some ⟨w.heap.size,0,none⟩) 1 1) [x]]):=by
 subst hw;refine h.add ((Below.refl _ _).alloc (zTI _) _) (st_I _ _) (F:=fun b=>b=w.heap.size) ⟨?_,fun b hb=>by simpa [Value.ownBlock] using hb.symm⟩ (fun b hb=>by subst hb; exact ⟨zTI _,by simp⟩);exact World.ownsRow_lit (base:=0) (e:=3) (size:=1) w #[.int .i64 x] 1 (Nat.zero_le _) (by unfold maxLen; omega) rfl
theorem zBe {A:Nat→Prop} {w0 w w1:World} {Ps:List zAI} (h:HSx A w0 w Ps) (hw:w1=w.alloc (.cells #[] 3)):HSx A w0 w1 (Ps++[aI (.slice (some ⟨w.heap.size,0,none⟩) 0 0) []]) :=
 HSx.addI h (zAN (Below.refl _ w) hw).2 (zAN (Below.refl _ w) hw).1
theorem zPO {S S':Nat→Prop} {u vl:Value} {c:List (List Int)} {w:World} {q:Nat} (h:RII S w u c) (hE:RII S' w vl (elL c)) (hk:okK c=true) (hq:q<(elL c).length) (hl:total c≤16777216) :
  Calls Tryz.prog 93 #[u,vl,.int .i64 q] w fun e w'=>∃r,e=.returned r∧RIII Any w' r (rws (elL c) (tabE c (elL c)) (q+1))∧Below w.heap.size w w':=by
 have mixed:Tryz.prog.follows .mixedOrders=true:=by kernel_rfl
 have htb:=zNf h hk hl;have K:=KlOk.of hk;have hfew:=K.few;have HNXT:=zTD (fun (n:Nat) (hn:n<(elL c).length)=>K.next hn);have HEL:=zTD (fun (wv:World) (hb:Below w.heap.size w wv)=>hE.below hb);have HONE:=zTD (zRM (elL c) (tabE c (elL c)));have HMORE:=zTD (fun (n:Nat) (h0:0<n)=>zPQ (elL c) (tabE c (elL c)) h0);have HRW:=zTD (zCD (elL c) (tabE c (elL c)));obtain ⟨aa,ca,rfl⟩:=h.form;obtain ⟨al,cl,rfl⟩:=hE.form;generalize elL c=E at *;generalize tabE c E=tab at *;generalize hN:E.length=N at *;have HN:=zTD hN;clear hN h hE K hk;go_enter Tryz.func93,Tryz.ntmps93
 go_wp2_with fail
 refine htb.mono ?_;rintro e w2 ⟨r2,rfl,f2,b2⟩;have hs2:=HSx.addF (HS.nil (Below.refl _ w)) b2 f2;obtain ⟨w3,hw3⟩:∃w3,w3=w2.alloc (.cells #[] 29):=⟨_,rfl⟩;have hs3:=(zAj hs2 hw3).add (Below.refl _ _) (zA7 []) (F:=NoB) ⟨fun x hx=>by simp at hx,List.Pairwise.nil⟩ (fun b hb=>hb.elim);have hs3:=HSx.pick hs3 [1,2,0] (by decide);have hs3:HS w w3 [aV 29 (.slice (some ⟨w2.heap.size,0,none⟩) 0 0) (([]:Zl).map Prod.fst),aRs [],aF r2 (tbL c)]:=hs3;have HW3:=zTD hw3;have HZ0:Hid (([]:Zl).map Prod.snd=(List.range 0).map fun u=>if u=0 then [(1:Int)] else []):=zTD rfl;obtain ⟨a2,c2,rfl⟩:=f2.read.form;clear htb f2 b2 hs2 hw3;go_wp2_with fail
 rw [<-HW3.out];go_loopw [8,9] (fun oo kk wr=>∃(k:Nat) (vo:Value) (Z:Zl),vo=oo∧k≤N∧kk=.int .i64 k∧HS w wr [aV 29 vo (Z.map Prod.fst),aRs Z,aF (.slice a2 (tbL c).length c2) (tbL c)]∧Hid (Z.map Prod.snd=(List.range k).map fun u=>if u=0 then [(1:Int)] else [])) (fun _ kk _=>N-(intOf kk).toNat)
 case atStart=>exact ⟨0,_,[],rfl,Nat.zero_le _,rfl,hs3,HZ0⟩
 case round =>
  clear hs3 HZ0;obtain ⟨k,vo,Z,rfl,hk,rfl,hs,HMZ⟩:=hrel;by_cases hkN:k<N
  ·have i1:(k:Int)<(N:Int):=by omega
   have HLN:Hid ((Z.map Prod.fst).length+1≤67108864):=zTD (by have:=congrArg List.length HMZ.out; simp at this; simp; omega);by_cases hk0:k=0
   ·have HK0:Hid ((if k=0 then [(1:Int)] else [])=[1]):=zTD (if_pos hk0);have e0:((k:Int) == 0)=true:=by simp [hk0]
    obtain ⟨w4,hw4⟩:∃w4,w4=wr.alloc (.cells #[] 3):=⟨_,rfl⟩;have hs4:=hs.alloc (.cells #[] 3);rw [<-hw4] at hs4;obtain ⟨w5,hw5⟩:∃w5,w5=w4.alloc (.cells #[.int .i64 1] 3):=⟨_,rfl⟩;have hs5:=zFw hs4 1 hw5;have hz4:w4.heap.size=wr.heap.size+1:=by rw [hw4]; simp
    rw [hz4] at hs5;rw [hw4] at hw5;have hs5:HS w w5 [aV 29 vo (Z.map Prod.fst),aRs Z,aF (.slice a2 (tbL c).length c2) (tbL c),aI (.slice (some ⟨wr.heap.size+1,0,none⟩) 1 1) [1]]:=hs5;clear hs hs4 hw4 hz4 hk0;have HMZ2:Hid ((Z++[(Value.slice (some ⟨wr.heap.size+1,0,none⟩) 1 1,[(1:Int)])]).map Prod.snd=(List.range (k+1)).map fun u=>if u=0 then [(1:Int)] else []):=zTD (by rw [List.map_append,HMZ.out,List.range_succ,List.map_append]; simp [HK0.out]);obtain ⟨w6,hw6⟩:∃w6,w6=w5.alloc (.cells #[Value.slice (some ⟨wr.heap.size+1,0,none⟩) 1 1] 29):=⟨_,rfl⟩;have hs6:HS w w6 [aV 29 vo (Z.map Prod.fst),aRs Z,aF (.slice a2 (tbL c).length c2) (tbL c),aI (Value.slice (some ⟨wr.heap.size+1,0,none⟩) 1 1) [(1:Int)]]:=by rw [hw6]; exact HSx.alloc hs5 _
    have hc6:w6.cell? ⟨w5.heap.size,0,none⟩=some (Value.slice (some ⟨wr.heap.size+1,0,none⟩) 1 1):=by rw [hw6]; go_simp
    have HW6:=zTD (show w6=_ by rw [hw6,hw5]);have HNV:=zTD (HS.newV hs6 0 rfl);have hone:(Value.slice (some ⟨wr.heap.size+1,0,none⟩) 1 1:Value).oneCell'=true:=rfl;clear hs5 hw6;have hz5:w5.heap.size=wr.heap.size+1+1:=by rw [hw5]; simp
    rw [hz5] at hc6;clear hw5 hz5;go_wp2_with (at_builtin; go_must (rw [<-HW6.out]; refine zAH rfl _ _ rfl rfl hs6 0 rfl HNV.out rfl hc6 hone HLN.out ?_))
    intro v7 w7 hs7 _;have hs8:=(HSx.moreS hs7 1 3 (by decide) rfl rfl (Z':=Z++[(Value.slice (some ⟨wr.heap.size+1,0,none⟩) 1 1,[(1:Int)])]) (List.perm_append_singleton _ _)).pick [0,1,2] (by decide);have hs8:HS w w7 [aV 29 v7 ((Z++[(Value.slice (some ⟨wr.heap.size+1,0,none⟩) 1 1,[(1:Int)])]).map Prod.fst),aRs (Z++[(Value.slice (some ⟨wr.heap.size+1,0,none⟩) 1 1,[(1:Int)])]),aF (.slice a2 (tbL c).length c2) (tbL c)]:=by
     have e:(Z++[(Value.slice (some ⟨wr.heap.size+1,0,none⟩) 1 1,[(1:Int)])]).map Prod.fst=Z.map Prod.fst++[Value.slice (some ⟨wr.heap.size+1,0,none⟩) 1 1]:=by simp
     rw [e]; exact hs8
    generalize Z++[(Value.slice (some ⟨wr.heap.size+1,0,none⟩) 1 1,[(1:Int)])]=Z2 at *;clear hs6 hs7 hc6;go_wp2_with fail
    go_roundw
    case rel=>exact ⟨k+1,v7,Z2,rfl,by omega,by go_num,hs8,HMZ2⟩
    case measure=>simp [intOf]; omega
   ·have HK0:Hid ((if k=0 then [(1:Int)] else [])=[]):=zTD (if_neg hk0);have e0:((k:Int) == 0)=false:=by simp [hk0]
    obtain ⟨w5,hw5⟩:∃w5,w5=wr.alloc (.cells #[] 3):=⟨_,rfl⟩;have hs5:=zBe hs hw5;have hs5:HS w w5 [aV 29 vo (Z.map Prod.fst),aRs Z,aF (.slice a2 (tbL c).length c2) (tbL c),aI (.slice (some ⟨wr.heap.size,0,none⟩) 0 0) []]:=hs5;clear hs hk0;have HMZ2:Hid ((Z++[(Value.slice (some ⟨wr.heap.size,0,none⟩) 0 0,([]:List Int))]).map Prod.snd=(List.range (k+1)).map fun u=>if u=0 then [(1:Int)] else []):=zTD (by rw [List.map_append,HMZ.out,List.range_succ,List.map_append]; simp [HK0.out]);obtain ⟨w6,hw6⟩:∃w6,w6=w5.alloc (.cells #[Value.slice (some ⟨wr.heap.size,0,none⟩) 0 0] 29):=⟨_,rfl⟩;have hs6:HS w w6 [aV 29 vo (Z.map Prod.fst),aRs Z,aF (.slice a2 (tbL c).length c2) (tbL c),aI (Value.slice (some ⟨wr.heap.size,0,none⟩) 0 0) ([]:List Int)]:=by rw [hw6]; exact HSx.alloc hs5 _
    have hc6:w6.cell? ⟨w5.heap.size,0,none⟩=some (Value.slice (some ⟨wr.heap.size,0,none⟩) 0 0):=by rw [hw6]; go_simp
    have HW6:=zTD (show w6=_ by rw [hw6,hw5]);have HNV:=zTD (HS.newV hs6 0 rfl);have hone:(Value.slice (some ⟨wr.heap.size,0,none⟩) 0 0:Value).oneCell'=true:=rfl;clear hs5 hw6;have hz5:w5.heap.size=wr.heap.size+1:=by rw [hw5]; simp
    rw [hz5] at hc6;clear hw5 hz5;go_wp2_with (at_builtin; go_must (rw [<-HW6.out]; refine zAH rfl _ _ rfl rfl hs6 0 rfl HNV.out rfl hc6 hone HLN.out ?_))
    intro v7 w7 hs7 _;have hs8:=(HSx.moreS hs7 1 3 (by decide) rfl rfl (Z':=Z++[(Value.slice (some ⟨wr.heap.size,0,none⟩) 0 0,([]:List Int))]) (List.perm_append_singleton _ _)).pick [0,1,2] (by decide);have hs8:HS w w7 [aV 29 v7 ((Z++[(Value.slice (some ⟨wr.heap.size,0,none⟩) 0 0,([]:List Int))]).map Prod.fst),aRs (Z++[(Value.slice (some ⟨wr.heap.size,0,none⟩) 0 0,([]:List Int))]),aF (.slice a2 (tbL c).length c2) (tbL c)]:=by
     have e:(Z++[(Value.slice (some ⟨wr.heap.size,0,none⟩) 0 0,([]:List Int))]).map Prod.fst=Z.map Prod.fst++[Value.slice (some ⟨wr.heap.size,0,none⟩) 0 0]:=by simp
     rw [e]; exact hs8
    generalize Z++[(Value.slice (some ⟨wr.heap.size,0,none⟩) 0 0,([]:List Int))]=Z2 at *;clear hs6 hs7 hc6;go_wp2_with fail
    go_roundw
    case rel=>exact ⟨k+1,v7,Z2,rfl,by omega,by go_num,hs8,HMZ2⟩
    case measure=>simp [intOf]; omega
  ·have i1:¬(k:Int)<(N:Int):=by omega
   have hke:k=N:=by omega
   have hs4:=(HSx.shutF hs (Z:=Z) (v:=vo) 0 1 (by decide) rfl rfl).pick [0,2] (by decide);have hrow:Z.map Prod.snd=row0 N:=by rw [HMZ.out,hke]; rfl
   have hs4:HS w wr [aF vo (row0 N),aF (.slice a2 (tbL c).length c2) (tbL c)]:=by rw [<-hrow]; exact hs4
   clear hs hke hrow HMZ;obtain ⟨af,cfx,rfl⟩:=(HS.F hs4 0 rfl).read.form;generalize hrn:(row0 N).length=rn at *;obtain ⟨w5,hw5⟩:∃w5,w5=wr.alloc (.cells #[.slice af rn cfx] 24):=⟨_,rfl⟩;have hs5:=(zSO hs4 (.slice af rn cfx) hw5).noR3;have hs6:=(HSx.moreR3 hs5 3 0 (by decide) rfl rfl).pick [2,3,1] (by decide);have hs6:HS w w5 [aV 24 (.slice (some ⟨wr.heap.size,0,none⟩) 1 1) (([(.slice af rn cfx,row0 N)]:Z3).map Prod.fst),aR3 [(.slice af rn cfx,row0 N)],aF (.slice a2 (tbL c).length c2) (tbL c)]:=hs6;have HW5:=zTD hw5;have H1:Hid (([(.slice af rn cfx,row0 N)]:Z3).map Prod.snd=rws E tab 1):=zTD (by rw [HONE.out]; rfl);clear hs4 hs5 hw5 hrn;go_wp2_with fail
   rw [<-HW5.out];generalize [(Value.slice af rn cfx,row0 N)]=Z at *;go_loopw [11,12] (fun oo nn wr=>∃(n:Nat) (vo:Value) (Z:Z3),vo=oo∧1≤n∧n≤q+1∧nn=.int .i64 n∧HS w wr [aV 24 vo (Z.map Prod.fst),aR3 Z,aF (.slice a2 (tbL c).length c2) (tbL c)]∧Hid (Z.map Prod.snd=rws E tab n)) (fun _ nn _=>q+1-(intOf nn).toNat)
   case atStart=>exact ⟨1,_,Z,rfl,zTI _,by omega,rfl,hs6,H1⟩
   case round =>
    clear hs6 H1;obtain ⟨n,vo,Z,rfl,h1n,hn,rfl,hs,HMZ⟩:=hrel;by_cases hnq:n≤q
    ·have j1:(n:Int)≤(q:Int):=by omega
     have hr3:=HSx.read3 hs 0 1 rfl rfl;rw [HMZ.out] at hr3;have hnx:=zO9 (HEL.out wr hs.bl) (HS.F hs 2 rfl).read hr3 (HNXT.out n (by omega)) (by omega) (by rw [HN.out]; omega);rw [HN.out] at hnx;have HMR:=zTD (HMORE.out n (by omega));clear hr3;generalize (List.range N).map (zAz E tab (zAA (rws E tab n)) n)=L at *;go_wp2_with fail
     refine hnx.mono ?_;rintro e w4 ⟨r4,rfl,f4,b4⟩;have hs4:=HSx.addF hs b4 f4;obtain ⟨af,cfx,rfl⟩:=f4.read.form;have HMZ2:Hid ((Z++[(Value.slice af L.length cfx,L)]).map Prod.snd=rws E tab (n+1)):=zTD (by rw [List.map_append,HMZ.out,HMR.out]; rfl);have HLN:Hid ((Z.map Prod.fst).length+1≤67108864):=zTD (by have:=congrArg List.length HMZ.out; rw [HRW.out] at this; simp at this; simp; omega);generalize hln:L.length=ln at *;obtain ⟨w5,hw5⟩:∃w5,w5=w4.alloc (.cells #[.slice af ln cfx] 24):=⟨_,rfl⟩;have hs5:HS w w5 [aV 24 vo (Z.map Prod.fst),aR3 Z,aF (.slice a2 (tbL c).length c2) (tbL c),aF (.slice af ln cfx) L]:=by rw [hw5]; exact HSx.alloc hs4 _
     have hc5:w5.cell? ⟨w4.heap.size,0,none⟩=some (.slice af ln cfx):=by rw [hw5]; go_simp
     have HW5:=zTD hw5;have HNV:=zTD (HS.newV hs5 0 rfl);have hone:(Value.slice af ln cfx).oneCell'=true:=rfl;clear hs4 hw5 hnx hs f4 b4 hln;go_wp2_with (at_builtin; go_must (rw [<-HW5.out]; refine zCg rfl _ _ Tryz.underlying67 zHc rfl (by decide) rfl rfl hs5 0 rfl HNV.out rfl hc5 hone HLN.out ?_))
     intro v6 w6 hs6 _;have hs7:=(HSx.moreR3 hs6 1 3 (by decide) rfl rfl).pick [0,1,2] (by decide);have hs7:HS w w6 [aV 24 v6 ((Z++[(Value.slice af ln cfx,L)]).map Prod.fst),aR3 (Z++[(Value.slice af ln cfx,L)]),aF (.slice a2 (tbL c).length c2) (tbL c)]:=by
      have e:(Z++[(Value.slice af ln cfx,L)]).map Prod.fst=Z.map Prod.fst++[Value.slice af ln cfx]:=by simp
      rw [e]; exact hs7
     generalize Z++[(Value.slice af ln cfx,L)]=Z2 at *;clear hs5 hs6 hc5;go_wp2_with fail
     go_roundw
     case rel=>exact ⟨n+1,v6,Z2,rfl,by omega,by omega,by go_num,hs7,HMZ2⟩
     case measure=>simp [intOf]; omega
    ·have j1:¬(n:Int)≤(q:Int):=by omega
     have hne:n=q+1:=by omega
     have hr3:=HSx.read3 hs 0 1 rfl rfl;rw [HMZ.out,hne] at hr3;have hbl:=hs.bl;clear hne hs;go_wp2_with fail
     go_ret
     exact ⟨_,rfl,hr3,hbl⟩
end Go.Proofs.YtlgcdacpjcnjgaaGreatDoor
