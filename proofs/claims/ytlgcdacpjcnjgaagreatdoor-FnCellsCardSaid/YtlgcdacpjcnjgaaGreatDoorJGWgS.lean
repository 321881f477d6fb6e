/- The coefficients of all pairs of elements, by the reference. Condition: sizes up to 2^24. -/
import Derived.Test.YtlgcdacpjcnjgaaGreatDoorJGWgP
import Derived.Test.YtlgcdacpjcnjgaaGreatDoorJGKzD
namespace Go.Proofs.YtlgcdacpjcnjgaaGreatDoor
open Go.RowKit
set_option maxRecDepth 20000
set_option maxHeartbeats 8000000
def muL (E:List (List Int)) (R:List (List (List Int))) (i:Nat):List Int:=(List.range E.length).map (mS E R i)
def muT (E:List (List Int)) (R:List (List (List Int))):List (List Int):=(List.range E.length).map (muL E R)
theorem RIII.poly {w:World} {bR oR cR N:Nat} {R:List (List (List Int))} (h:RIII Any w (.slice (some ⟨bR,oR,none⟩) N cR) R) {k i:Nat} (hk:R[k]? = some ((List.range N).map (zAA R k))) (hi:i<N) :
  ∃b o c a2 c2,w.cell? ⟨bR,oR+k,none⟩=some (.slice (some ⟨b,o,none⟩) N c)∧w.cell? ⟨b,o+i,none⟩=some (.slice a2 (zAA R k i).length c2)∧RI Any w (.slice a2 (zAA R k i).length c2) (zAA R k i):=by
 obtain ⟨a,c,h1,h2⟩:=RIII.get h hk;have hl:((List.range N).map (zAA R k)).length=N:=by simp
 obtain ⟨b,o,c',e⟩:=RL.head h2 (by rw [hl]; omega);rw [hl] at e h1 h2;simp only [Value.slice.injEq] at e;obtain ⟨rfl,_,rfl⟩:=e;obtain ⟨a2,c2,h3,h4⟩:=RII.get h2 (j:=i) (x:=zAA R k i) (by rw [List.getElem?_map,List.getElem?_range hi]; rfl);exact ⟨b,o,c,a2,c2,h1,h3,h4⟩
theorem zQx {S S':Nat→Prop} {u vl:Value} {c:List (List Int)} {w:World} (h:RII S w u c) (hE:RII S' w vl (elL c)) (hk:okK c=true) (hl:total c≤16777216) :
  Calls Tryz.prog 54 #[u,vl] w fun e w'=>∃r,e=.returned r∧FII (New w w') w' r (muT (elL c) (klT c))∧Below w.heap.size w w':=by
 have mixed:Tryz.prog.follows .mixedOrders=true:=by kernel_rfl
 have K:=KlOk.of hk;have hN0:=K.pos;have hN24:=K.few;obtain ⟨q,hq⟩:∃q,(elL c).length=q+1:=⟨(elL c).length-1,by omega⟩;have hrw:=zPO h hE hk (q:=q) (by omega) hl;rw [<-hq] at hrw;have hR:rws (elL c) (tabE c (elL c)) (elL c).length=klT c:=rfl;rw [hR] at hrw;have HROW:=zTD (fun (k:Nat) (hk:k<(elL c).length)=>zG4 (elL c) (tabE c (elL c)) (n:=k) (m:=(elL c).length) hk);rw [hR] at HROW;have HRO:Hid (RowsOk (elL c) (klT c) (elL c).length):=zTD (K.rows _ (zTI _));have HDP:=zTD K.tab.deep;have HLE:=zTD (fun (z:Nat) (hz:z<(elL c).length)=>(K.at hz));have HEB:=zTD (fun (wv:World) (hb:Below w.heap.size w wv)=>hE.below hb);obtain ⟨bE,oE,cE,rfl⟩:=RL.head hE hN0;obtain ⟨aa,ca,rfl⟩:=h.form;have hlR:(klT c).length=(elL c).length:=zCD _ _ _;generalize elL c=E at *;generalize klT c=R at *
 have HMT:Hid (muT E R=(List.range E.length).map (muL E R)):=zTD rfl;have HML:=zTD (fun (i:Nat)=>(show muL E R i=(List.range E.length).map (mS E R i) from rfl));generalize hN:E.length=N at *;have HN:=zTD hN;have hq1:(N:Int)-1=(q:Int):=by omega
 have hq2:IntKind.i64.wrap ((N:Int)-1)=(q:Int):=by rw [hq1]; exact IntWalk.i64_in _ (by omega)
 generalize c.length=cn at *;clear h hE hk K hR hN hq;go_enter Tryz.func54,Tryz.ntmps54
 go_wp2_with fail
 refine hrw.mono ?_;rintro e w1 ⟨r1,rfl,h3,b1⟩;obtain ⟨bR,oR,cR,rfl⟩:=RL.head h3 (by omega);rw [hlR] at h3 ⊢;have HB1:=zTD b1;have HR3:=zTD (fun (wv:World) (hb:Below w1.heap.size w1 wv)=>h3.below hb);have HE1:=zTD (fun (wv:World) (hb:Below w1.heap.size w1 wv)=>(HEB.out w1 b1).below hb);obtain ⟨w2,hw2⟩:∃w2,w2=w1.alloc (.cells #[] 29):=⟨_,rfl⟩;have hs2:=(zAj (HS.nil (Below.refl _ w1)) hw2).add (Below.refl _ _) (zA7 []) (F:=NoB) ⟨fun x hx=>by simp at hx,List.Pairwise.nil⟩ (fun b hb=>hb.elim);have hs2:HS w1 w2 [aV 29 (.slice (some ⟨w1.heap.size,0,none⟩) 0 0) (([]:Zl).map Prod.fst),aRs []]:=hs2;have HZ0:Hid (([]:Zl).map Prod.snd=(List.range 0).map (muL E R)):=zTD rfl;have HW2:=zTD hw2;clear hrw h3 hw2 b1 hlR HEB hq1 hq2;go_wp2_with fail
 rw [<-HW2.out];go_loopw [6,7] (fun oo ii wr=>∃(i:Nat) (vo:Value) (Z:Zl),vo=oo∧i≤N∧ii=.int .i64 i∧HS w1 wr [aV 29 vo (Z.map Prod.fst),aRs Z]∧Hid (Z.map Prod.snd=(List.range i).map (muL E R))) (fun _ ii _=>N-(intOf ii).toNat)
 case atStart=>exact ⟨0,_,[],rfl,Nat.zero_le _,rfl,hs2,HZ0⟩
 case round =>
  clear hs2 HZ0;obtain ⟨i,vo,Z,rfl,hiN,rfl,hs,HMZ⟩:=hrel;by_cases hi:i<N
  ·have i1:(i:Int)<(N:Int):=by omega
   have i0:(0:Int)≤(i:Int):=by omega
   obtain ⟨wo,hwo⟩:∃wo,wo=wr:=⟨_,rfl⟩;subst hwo;have hsO:HS w1 wo [aV 29 vo (Z.map Prod.fst),aRs Z]:=hs;obtain ⟨w3,hw3⟩:∃w3,w3=wo.alloc (.cells #[] 3):=⟨_,rfl⟩;have hs3:=zBe (HS.nil (Below.refl _ wo)) hw3;have hs3:HS wo w3 [aI (.slice (some ⟨wo.heap.size,0,none⟩) 0 0) ((List.range 0).map (mS E R i))]:=hs3;have HW3:=zTD hw3;have HSO:=zTD hsO;have HEi:=HLE.out i hi;obtain ⟨xi,hxi,_,hli,hli24⟩:=HEi;have HXI:=zTD hxi;have HLI:=zTD hli;clear hw3 hs hsO hxi hli;generalize hlE:lenE E i=li at *;have HLEI:=zTD hlE;clear hlE;go_wp2_with fail
   rw [<-HW3.out];go_loopw [8,9] (fun rr kk wr=>∃(k:Nat) (vi:Value),vi=rr∧k≤N∧kk=.int .i64 k∧HS wo wr [aI vi ((List.range k).map (mS E R i))]) (fun _ kk _=>N-(intOf kk).toNat)
   case atStart=>exact ⟨0,_,rfl,Nat.zero_le _,rfl,hs3⟩
   case round =>
    clear hs3;obtain ⟨k,vi,rfl,hkN,rfl,hs⟩:=hrel;have HIL:Hid (((List.range k).map (mS E R i)).length+1≤67108864):=zTD (by simp; omega);have HNX:Hid (((List.range k).map (mS E R i))++[mS E R i k]=(List.range (k+1)).map (mS E R i)):=zTD (by rw [List.range_succ,List.map_append]; rfl);by_cases hk:k<N
    ·have j1:(k:Int)<(N:Int):=by omega
     have j0:(0:Int)≤(k:Int):=by omega
     have hbo:=zAC.step HSO.out.bl hs.bl;obtain ⟨b1,o1,c1,a2,c2,k1,k2,hp⟩:=RIII.poly (HR3.out wr hbo) (HROW.out k hk) hi;obtain ⟨b3,o3,c3,a4,c4,k3,k4,hp'⟩:=RIII.poly (HR3.out wr hbo) (HROW.out i hi) hk;obtain ⟨a5,c5,k5⟩:=RII.cellLen (HE1.out wr hbo) (j:=i) (m:=li) ⟨xi,HXI.out,HLI.out.symm⟩;obtain ⟨xk,hxk,_,hlk,hlk24⟩:=HLE.out k hk;obtain ⟨a6,c6,k6⟩:=RII.cellLen (HE1.out wr hbo) (j:=k) (m:=lenE E k) ⟨xk,hxk,hlk.symm⟩;have hpl:=HRO.out.len k i;have hpl':=HRO.out.len i k;have hd1:=HDP.out k;have hd2:=HDP.out i;have HMS:Hid (mS E R i k=if lenE E k<li then muS (zAA R i k) ((li:Int)-lenE E k) else muS (zAA R k i) ((lenE E k:Int)-li)):=zTD (by rw [<-HLEI.out]; rfl);rw [HLEI.out] at hpl' hd2;generalize lenE E k=lk at *;generalize mS E R i k=ms at *;generalize zAA R k i=p1 at *;generalize zAA R i k=p2 at *;clear hxk hlk
     have ws1:IntKind.i64.wrap ((lk:Int)-(li:Int))=(lk:Int)-(li:Int):=IntWalk.i64_in _ (by omega);have ws2:IntKind.i64.wrap ((li:Int)-(lk:Int))=(li:Int)-(lk:Int):=IntWalk.i64_in _ (by omega);have g1:=fun z:GW wr=>z.cell k1;have g2:=fun z:GW wr=>z.cell k2;have g5:=fun z:GW wr=>z.cell k5;have g6:=fun z:GW wr=>z.cell k6;have HP1:=zTD (fun z:GW wr=>zI4 (hp.below z.le) (d:=(lk:Int)-li) (by omega) (by omega) (by omega));go_wp2_with fail
     refine zBT (by kernel_rfl) (by kernel_rfl) ?_
     repeat (go_big_quiet_step ((first | (rename_i z; go_at_call 94; exact Calls.grow_of (v:=.int .i64 (muS p1 ((lk:Int)-li))) (v':=.int .i64 (muS p1 ((lk:Int)-li))) z (Calls.quietly (HP1.out z)) rfl))))
     refine wpQuiet_nil ?_;intro w4 hb4;have hs4:=HSx.below hs hb4;have K5:=(hb4.cell (p:=⟨bE,oE+i,none⟩) (zTH _ _ k5)).trans k5;have K6:=(hb4.cell (p:=⟨bE,oE+k,none⟩) (zTH _ _ k6)).trans k6;have K3:=(hb4.cell (p:=⟨bR,oR+i,none⟩) (zTH _ _ k3)).trans k3;have K4:=(hb4.cell (p:=⟨b3,o3+k,none⟩) (zTH _ _ k4)).trans k4;have hp4:=hp'.below hb4;have g5:=fun z:GW w4=>z.cell K5;have g6:=fun z:GW w4=>z.cell K6;clear g1 g2 HP1 hs hb4 hp hp' k1 k2 k3 k4 k5 k6;go_wp2_with fail
     refine zBT (by kernel_rfl) (by kernel_rfl) ?_
     repeat (go_big_quiet_step (fail))
     refine wpQuiet_nil ?_;intro w5 hb5;have hs5:=HSx.below hs4 hb5;have K5':=(hb5.cell (p:=⟨bE,oE+i,none⟩) (zTH _ _ K5)).trans K5;have K6':=(hb5.cell (p:=⟨bE,oE+k,none⟩) (zTH _ _ K6)).trans K6;have K3':=(hb5.cell (p:=⟨bR,oR+i,none⟩) (zTH _ _ K3)).trans K3;have K4':=(hb5.cell (p:=⟨b3,o3+k,none⟩) (zTH _ _ K4)).trans K4;have hp5:=hp4.below hb5;clear g5 g6 hs4 hb5 K3 K4 K5 K6 hp4;by_cases hlt:lk<li
     ·have e0:(lk:Int)<(li:Int):=by omega
      have HM:=zTD (HMS.out.trans (if_pos hlt));have g3:=fun z:GW w5=>z.cell K3';have g4:=fun z:GW w5=>z.cell K4';have g5:=fun z:GW w5=>z.cell K5';have g6:=fun z:GW w5=>z.cell K6';have HP2:=zTD (fun z:GW w5=>zI4 (hp5.below z.le) (d:=(li:Int)-lk) (by omega) (by omega) (by omega));clear HMS hlt;go_wp2_with fail
      refine zBT (by kernel_rfl) (by kernel_rfl) ?_
      repeat (go_big_quiet_step ((first | (rename_i z; go_at_call 94; exact Calls.grow_of (v:=.int .i64 (muS p2 ((li:Int)-lk))) (v':=.int .i64 (muS p2 ((li:Int)-lk))) z (Calls.quietly (HP2.out z)) rfl))))
      refine wpQuiet_nil ?_;intro w6 hb6;have hs6:=HSx.below hs5 hb6;rw [<-HM.out];clear g3 g4 g5 g6 HP2 hs5 hb6 K3' K4' K5' K6' hp5 HM;obtain ⟨w7,hw7⟩:∃w7,w7=w6.alloc (.cells #[.int .i64 ms] 3):=⟨_,rfl⟩;have hs7:=HSx.alloc hs6 (.cells #[.int .i64 ms] 3);rw [<-hw7] at hs7;have hc7:w7.cell? ⟨w6.heap.size,0,none⟩=some (.int .i64 ms):=by rw [hw7]; go_simp
      have HW7:=zTD hw7;clear hw7 hs6;go_wp2_with (at_builtin; go_must (rw [<-HW7.out]; refine zAd rfl _ _ rfl rfl hs7 0 rfl rfl hc7 HIL.out ?_))
      intro v8 w8 hs8;have hs8:HS wo w8 [aI v8 ((List.range (k+1)).map (mS E R i))]:=by rw [<-HNX.out]; exact hs8
      clear hs7 hc7;go_wp2_with fail
      go_roundw
      case rel=>exact ⟨k+1,v8,rfl,by omega,by go_num,hs8⟩
      case measure=>simp [intOf]; omega
     ·have e0:¬(lk:Int)<(li:Int):=by omega
      have HM:=zTD (HMS.out.trans (if_neg hlt));rw [<-HM.out];clear HMS hlt K3' K4' K5' K6' hp5 HM;obtain ⟨w7,hw7⟩:∃w7,w7=w5.alloc (.cells #[.int .i64 ms] 3):=⟨_,rfl⟩;have hs7:=HSx.alloc hs5 (.cells #[.int .i64 ms] 3);rw [<-hw7] at hs7;have hc7:w7.cell? ⟨w5.heap.size,0,none⟩=some (.int .i64 ms):=by rw [hw7]; go_simp
      have HW7:=zTD hw7;clear hw7 hs5;go_wp2_with (at_builtin; go_must (rw [<-HW7.out]; refine zAd rfl _ _ rfl rfl hs7 0 rfl rfl hc7 HIL.out ?_))
      intro v8 w8 hs8;have hs8:HS wo w8 [aI v8 ((List.range (k+1)).map (mS E R i))]:=by rw [<-HNX.out]; exact hs8
      clear hs7 hc7;go_wp2_with fail
      go_roundw
      case rel=>exact ⟨k+1,v8,rfl,by omega,by go_num,hs8⟩
      case measure=>simp [intOf]; omega
    ·have j1:¬(k:Int)<(N:Int):=by omega
     have hkN2:k=N:=by omega
     have e9:(List.range k).map (mS E R i)=muL E R i:=by rw [HML.out,hkN2]
     rw [e9] at hs;clear hkN2 e9 HIL HNX;have HLL:Hid ((muL E R i).length=N):=zTD (by rw [HML.out]; simp);obtain ⟨ap,cp,ep⟩:=HS.formI hs 0 rfl;rw [HLL.out] at ep;subst ep;have HMZ2:Hid ((Z++[(Value.slice ap N cp,muL E R i)]).map Prod.snd=(List.range (i+1)).map (muL E R)):=zTD (by rw [List.map_append,HMZ.out,List.range_succ,List.map_append]; rfl);have HLN:Hid ((Z.map Prod.fst).length+1≤67108864):=zTD (by have:=congrArg List.length HMZ.out; simp at this; simp; omega);have hsA:=HSx.addI HSO.out hs.bl (HS.I hs 0 rfl);generalize muL E R i=qq at *;obtain ⟨w4,hw4⟩:∃w4,w4=wr.alloc (.cells #[.slice ap N cp] 29):=⟨_,rfl⟩;have hs4:HS w1 w4 [aV 29 vo (Z.map Prod.fst),aRs Z,aI (.slice ap N cp) qq]:=by rw [hw4]; exact HSx.alloc hsA _
     have hc4:w4.cell? ⟨wr.heap.size,0,none⟩=some (.slice ap N cp):=by rw [hw4]; go_simp
     have HW4:=zTD hw4;have HNV:=zTD (HS.newV hs4 0 rfl);clear hs hsA hw4;go_wp2_with (at_builtin; go_must (rw [<-HW4.out]; refine zAH rfl _ _ rfl rfl hs4 0 rfl HNV.out rfl hc4 rfl HLN.out ?_))
     intro v5 w5 hs5 _;have hs6:=(HSx.moreS hs5 1 2 (by decide) rfl rfl (Z':=Z++[(.slice ap N cp,qq)]) (List.perm_append_singleton _ _)).pick [0,1] (by decide);have hs6:HS w1 w5 [aV 29 v5 ((Z++[(Value.slice ap N cp,qq)]).map Prod.fst),aRs (Z++[(Value.slice ap N cp,qq)])]:=by
      have e:(Z++[(Value.slice ap N cp,qq)]).map Prod.fst=Z.map Prod.fst++[Value.slice ap N cp]:=by simp
      rw [e]; exact hs6
     generalize Z++[(Value.slice ap N cp,qq)]=Z2 at *;clear hs4 hs5 hc4;go_wp2_with fail
     go_roundw
     case rel=>exact ⟨i+1,v5,Z2,rfl,by omega,by go_num,hs6,HMZ2⟩
     case measure=>simp [intOf]; omega
  ·have i1:¬(i:Int)<(N:Int):=by omega
   have hiN2:i=N:=by omega
   rw [hiN2] at HMZ;have hs7:HS w1 wr [aF vo (Z.map Prod.snd)]:=((HSx.shutF hs (Z:=Z) (v:=vo) 0 1 (by decide) rfl rfl).pick [0] (by decide));have e9:(List.range N).map (muL E R)=muT E R:=by rw [HMT.out]
   rw [HMZ.out,e9] at hs7;clear hs e9 hiN2;go_wp2_with fail
   go_ret
   exact ⟨_,rfl,(HS.F hs7 0 rfl).mono (fun b hb=>⟨Nat.le_trans HB1.out.size hb.1,hb.2⟩),zAC.step HB1.out hs7.bl⟩
theorem zSZ {E:List (List Int)} {R:List (List (List Int))} {i k:Nat} (hi:i<E.length) (hk:k<E.length):(muT E R)[i]? = some (muL E R i)∧(muL E R i)[k]? = some (mS E R i k)∧(muL E R i).length=E.length:=by
 refine ⟨?_,?_,by simp [muL]⟩
 ·unfold muT; rw [List.getElem?_map,List.getElem?_range hi]; rfl
 ·unfold muL; rw [List.getElem?_map,List.getElem?_range hk]; rfl
theorem zBt {w w':World} (hb:Below w.heap.size w w') {b o:Nat} {v:Value} (h:w.cell? ⟨b,o,none⟩=some v):w'.cell? ⟨b,o,none⟩=some v:=(hb.cell (p:=⟨b,o,none⟩) (zTH _ _ h)).trans h
theorem zQl {c:List (List Int)} (K:KlOk c) {y:List Int} (hy:y∈elL c):isWd c y=true:=by
 have hN:=(K.nf y).1 hy;have h15:=zII K.fin (by have:=K.sz; omega) hN;unfold isWd;rw [zAS.2 K.cart,decide_eq_true h15,Bool.true_and,Bool.true_and,zCh];intro x hx;have:=hN.lets x hx;unfold ptB;exact zDK (by omega)
theorem zQq (c:List (List Int)) (x:List Int):(ldL c x).length≤c.length:=by
 unfold ldL;rw [List.length_map];have:=List.length_filter_le (fun s=>decide (num (zAF c x) s<0)) (List.range c.length);rwa [List.length_range] at this
theorem zNm {S:Nat→Prop} {x:Value} {c:List (List Int)} {w:World} (h:RII S w x c) (hl:total c≤16777216) :
  Calls Tryz.prog 18 #[x] w fun e w'=>∃r,e=.returned (.tuple #[r,.bool (okK c)])∧FA (New w w') w' r (wgR c)∧Below w.heap.size w w':=by
 have mixed:Tryz.prog.follows .mixedOrders=true:=by kernel_rfl
 have HRD:=zTD (fun (wv:World) (hb:Below w.heap.size w wv)=>zHt (h.below hb) hl);have HB:=zTD (fun (wv:World) (hb:Below w.heap.size w wv)=>h.below hb);obtain ⟨aa,ca,rfl⟩:=h.form;clear h;obtain ⟨w1,hw1⟩:∃w1,w1=w.alloc (.cells #[] 39):=⟨_,rfl⟩;have hs1:=zIm (HS.nil (Below.refl _ w)) hw1;have hs1:HS w w1 [aA (.slice (some ⟨w.heap.size,0,none⟩) 0 0) []]:=hs1;have hrd:=HRD.out w1 hs1.bl;have HW1:=zTD hw1;clear hw1 HRD;cases hk:okK c with
 | false =>
  have HR:Hid (wgR c=[]):=zTD (by unfold wgR; rw [hk]; rfl);rw [hk] at hrd;clear hk HB;go_enter Tryz.func18,Tryz.ntmps18
  go_wp2_with fail
  rw [<-HW1.out];refine hrd.mono ?_;rintro e w2 ⟨p,rfl,_,b2⟩;have hs2:=HSx.below hs1 b2;have hfa:=HS.Ar hs2 0 rfl;have hbl:=hs2.bl;clear hrd;go_wp2_with fail
  go_ret2
  exact ⟨_,rfl,by rw [HR.out]; exact hfa,hbl⟩
 | true =>
  have K:=KlOk.of hk;have HKE:Hid (kE c=elL c):=zTD (by unfold kE; rw [hk]; rfl);have HR:Hid (wgR c=wgL (elL c) (tabE c (elL c)) c.length (klT c) (elL c).length):=zTD (by unfold wgR; rw [if_pos hk]);have HMU:=zTD (fun (wv:World) (S9:Nat→Prop) (v:Value) (hb:Below w.heap.size w wv) (hv:RII S9 wv v (elL c))=>zQx (HB.out wv hb) hv hk hl);have HLD:=zTD (fun (wv:World) (S9:Nat→Prop) (v:Value) (y:List Int) (hb:Below w.heap.size w wv) (hy:y∈elL c) (hv:RI S9 wv v y)=>zEy (HB.out wv hb) hv (zQl K hy) K.cart hl);have HDB:=zTD (fun (i k:Nat) (hi:i<(elL c).length) (hk:k<(elL c).length)=>zSS K hi hk);have HIN:=zTD (fun (i k:Nat)=>(zS3 (elL c) (klT c) i k));have hN24:=K.few;have hr4:=K.cart.le;rw [hk,HKE.out] at hrd;have K0:=K;clear hk K HKE;have hN0:=K0.pos;have HLL4:=zTD (fun y=>zQq c y)
  have HGE:=zTD (fun (z:Nat) (hz:z<(elL c).length)=>K0.at hz);clear K0;generalize elL c=E at *;generalize klT c=R at *;generalize tabE c E=tab at *;generalize wgR c=res at *;generalize hr:c.length=r at *;clear hr;have HAT:=zTD (fun (i k:Nat) (hi:i<E.length) (hk:k<E.length)=>zSZ (E:=E) (R:=R) hi hk);have HML:Hid ((muT E R).length=E.length):=zTD (by simp [muT]);generalize hN:E.length=N at *;have HEN:=zTD hN;clear hN;go_enter Tryz.func18,Tryz.ntmps18
  go_wp2_with fail
  rw [<-HW1.out];refine hrd.mono ?_;rintro e w2 ⟨p,rfl,f2,b2⟩;have hs2:=HSx.addF hs1 b2 f2;obtain ⟨bE,oE,cE,eE⟩:=RL.head f2.read (by rw [HEN.out]; exact hN0);rw [HEN.out] at eE;subst eE;have hs2:HS w w2 [aA (.slice (some ⟨w.heap.size,0,none⟩) 0 0) [],aF (.slice (some ⟨bE,oE,none⟩) N cE) E]:=hs2;have hmu:=HMU.out w2 _ _ hs2.bl f2.read;clear hrd hs1 f2 b2 HMU;go_wp2_with fail
  refine hmu.mono ?_;rintro e w3 ⟨r3,rfl,f3,b3⟩;have hs3:=HSx.addF hs2 b3 f3;obtain ⟨bM,oM,cM,eM⟩:=RL.head f3.read (by rw [HML.out]; exact hN0);rw [HML.out] at eM;subst eM;have hs3:HS w w3 [aA (.slice (some ⟨w.heap.size,0,none⟩) 0 0) (wgL E tab r R 0),aF (.slice (some ⟨bE,oE,none⟩) N cE) E,aF (.slice (some ⟨bM,oM,none⟩) N cM) (muT E R)]:=hs3;clear hmu hs2 f3 b3;go_wp2_with fail
  go_loopw [4,8] (fun oo ii wr=>∃(i:Nat) (vo:Value),vo=oo∧i≤N∧ii=.int .i64 i∧HS w wr [aA vo (wgL E tab r R i),aF (.slice (some ⟨bE,oE,none⟩) N cE) E,aF (.slice (some ⟨bM,oM,none⟩) N cM) (muT E R)]) (fun _ ii _=>N-(intOf ii).toNat)
  case atStart=>exact ⟨0,_,rfl,Nat.zero_le _,rfl,hs3⟩
  case round =>
   clear hs3;obtain ⟨i,vo,rfl,hiN,rfl,hs⟩:=hrel;by_cases hi:i<N
   ·have i1:(i:Int)<(N:Int):=by omega
    have i0:(0:Int)≤(i:Int):=by omega
    have HLN:=zTD (zGB E tab r R i);have HLL:=zTD (zHD E tab r R i);have hs:HS w wr [aA vo (wgL E tab r R i++wgJ E tab r R i 0),aF (.slice (some ⟨bE,oE,none⟩) N cE) E,aF (.slice (some ⟨bM,oM,none⟩) N cM) (muT E R)]:=by
     have e:wgJ E tab r R i 0=[]:=rfl;rw [e,List.append_nil]; exact hs
    go_wp2_with fail
    go_loopw [4,9] (fun oo kk wr=>∃(k:Nat) (vo:Value),vo=oo∧k≤N∧kk=.int .i64 k∧HS w wr [aA vo (wgL E tab r R i++wgJ E tab r R i k),aF (.slice (some ⟨bE,oE,none⟩) N cE) E,aF (.slice (some ⟨bM,oM,none⟩) N cM) (muT E R)]) (fun _ kk _=>N-(intOf kk).toNat)
    case atStart=>exact ⟨0,_,rfl,Nat.zero_le _,rfl,hs⟩
    case round =>
     clear hs;obtain ⟨k,vo,rfl,hkN,rfl,hs⟩:=hrel;by_cases hk:k<N
     ·have j1:(k:Int)<(N:Int):=by omega
      have j0:(0:Int)≤(k:Int):=by omega
      obtain ⟨h1,h2,h3⟩:=HAT.out i k hi hk;obtain ⟨b4,o4,c4,k1,k2⟩:=RII.cellInt (HS.F hs 2 rfl).read (z:=i) (i:=k) (m:=N) (y:=mS E R i k) ⟨_,h1,h3,h2⟩;obtain ⟨xk,hxk,_,_,hk24⟩:=HGE.out k hk;obtain ⟨xi,hxi,_,_,hi24⟩:=HGE.out i hi;obtain ⟨a5,c5,k3,hr3⟩:=RII.get (HS.F hs 1 rfl).read hxk;obtain ⟨a6,c6,k4,hr4'⟩:=RII.get (HS.F hs 1 rfl).read hxi;have hbo:=hs.bl;have HK1:=zTD (fun (W:World) (hb:Below wr.heap.size wr W)=>HLD.out W _ _ xk (zAC.step hbo hb) (zTF hxk) (hr3.below hb));have HI1:=zTD (fun (W:World) (hb:Below wr.heap.size wr W)=>HLD.out W _ _ xi (zAC.step hbo hb) (zTF hxi) (hr4'.below hb));have hl1:=HLL4.out xk;have hl2:=HLL4.out xi;have hdb:=HDB.out i k hi hk;rw [zCS hxk,zCS hxi] at hdb;have hmi:=HIN.out i k;have HJN:Hid (wgJ E tab r R i (k+1)=wgJ E tab r R i k++wgA E tab r R i k):=zTD (zGA E tab r R i k)
      have HJL:=zTD (zHC E tab r R i k);have HA:Hid (wgA E tab r R i k=if mS E R i k≠0∧dB E tab r i k=true then [(i,k,mS E R i k)] else []):=zTD (by rw [<-hmi]; rfl);clear hxk hxi h1 h2 h3 hmi hr3 hr4';generalize mS E R i k=m at *;generalize xk.length=lk at *;generalize xi.length=li at *;generalize wgA E tab r R i k=AA at *;have bX:Below wr.heap.size wr wr.drew:=(Below.refl _ wr).drew;by_cases h0:m=0
      ·have HAE:Hid (AA=[]):=zTD (by rw [HA.out,if_neg (fun h=>h.1 h0)]);subst h0;have hs5:HS w wr [aA vo (wgL E tab r R i++wgJ E tab r R i (k+1)),aF (.slice (some ⟨bE,oE,none⟩) N cE) E,aF (.slice (some ⟨bM,oM,none⟩) N cM) (muT E R)]:=by rw [HJN.out,HAE.out,List.append_nil]; exact hs
       have g1:=fun z:GW wr=>z.cell k1;have g2:=fun z:GW wr=>z.cell k2;clear HA HAE HJN hs hdb HK1 HI1 k1 k2 k3 k4;go_wp2_with fail
       refine zBT (by kernel_rfl) (by kernel_rfl) ?_
       repeat (go_big_quiet_step (fail))
       refine wpQuiet_nil ?_;intro w6 hb6;have hs6:=HSx.below hs5 hb6;clear g1 g2 hs5 hb6;go_wp2_with fail
       go_roundw
       case rel=>exact ⟨k+1,vo,rfl,by omega,by go_num,hs6⟩
       case measure=>simp [intOf]; omega
      ·have e0:(m == 0)=false:=by rw [beq_eq_false_iff_ne]; exact h0
       have e1:(m != 0)=true:=by rw [bne,e0]; rfl
       have HHS:=zTD hs;clear hs;go_wp2_with fail
       go_region_held3 (fun w'=>w'.cell? ⟨bM,oM+i,none⟩=some (.slice (some ⟨b4,o4,none⟩) N c4)∧w'.cell? ⟨b4,o4+k,none⟩=some (.int .i64 m)∧w'.cell? ⟨bE,oE+k,none⟩=some (.slice a5 lk c5)∧w'.cell? ⟨bE,oE+i,none⟩=some (.slice a6 li c6)∧Below wr.heap.size wr w') (exact ⟨zBt (by assumption) k1,zBt (by assumption) k2,zBt (by assumption) k3,zBt (by assumption) k4,by assumption⟩) (first
        | (go_at_call 43; with_reducible refine (HK1.out _ (by assumption)).mono ?_; rintro e wu ⟨ru,rfl,fu,bu⟩; have fu:RI Any wu ru (ldL c xk):=fu.reads.any; have bX:Below wr.heap.size wr wu:=zAC.step (by assumption) bu; (first | have fv:=fv.below bu | skip))
        | (go_at_call 43; with_reducible refine (HI1.out _ (by assumption)).mono ?_; rintro e wu ⟨rv,rfl,fv,bu⟩; have fv:RI Any wu rv (ldL c xi):=fv.reads.any; have bX:Below wr.heap.size wr wu:=zAC.step (by assumption) bu; (first | have fu:=fu.below bu | skip))
        | (go_at_call 55; with_reducible refine (zLS fu fv (by omega) (by omega)).mono ?_; rintro e wu ⟨rfl,bu⟩; have bX:Below wr.heap.size wr wu:=zAC.step (by assumption) bu))
       all_goals
        have bY:Below wr.heap.size wr wu:=by assumption
        have hs6:=HSx.below HHS.out bY;have k1':=zBt bY k1;have k2':=zBt bY k2;clear HHS bY HK1 HI1 k1 k2 k3 k4 fu fv;try rw [hdb]
        cases hd:dB E tab r i k with
        | false =>
         have HAE:Hid (AA=[]):=zTD (by rw [HA.out,if_neg (fun h=>by rw [hd] at h; cases h.2)]);have hs7:HS w wu [aA vo (wgL E tab r R i++wgJ E tab r R i (k+1)),aF (.slice (some ⟨bE,oE,none⟩) N cE) E,aF (.slice (some ⟨bM,oM,none⟩) N cM) (muT E R)]:=by rw [HJN.out,HAE.out,List.append_nil]; exact hs6
         clear hd HA HAE hs6 HJN hdb;go_wp2_with fail
         go_roundw
         case rel=>exact ⟨k+1,vo,rfl,by omega,by go_num,hs7⟩
         case measure=>simp [intOf]; omega
        | true =>
         have HAE:Hid (AA=[(i,k,m)]):=zTD (by rw [HA.out,if_pos ⟨h0,hd⟩]);obtain ⟨w7,hw7⟩:∃w7,w7=wu.alloc (.cells #[.int .i64 i,.int .i64 k,.int .i64 m] 39):=⟨_,rfl⟩;have hs7:HS w w7 [aA vo (wgL E tab r R i++wgJ E tab r R i k),aF (.slice (some ⟨bE,oE,none⟩) N cE) E,aF (.slice (some ⟨bM,oM,none⟩) N cM) (muT E R)]:=by rw [hw7]; exact HSx.alloc hs6 _
         have hc70:w7.cell? ⟨wu.heap.size,0,none⟩=some (.int .i64 i):=by rw [hw7]; go_simp
         have hc71:w7.cell? ⟨wu.heap.size,1,none⟩=some (.int .i64 k):=by rw [hw7]; go_simp
         have hc72:w7.cell? ⟨wu.heap.size,2,none⟩=some (.int .i64 m):=by rw [hw7]; go_simp
         have HW7:=zTD hw7;have HLN7:Hid ((wgL E tab r R i++wgJ E tab r R i k).length+1≤67108864):=zTD (by
          rw [List.length_append];have h1:=HLL.out;have h2:=HJL.out;rw [HEN.out] at h1;have h3:i*N≤24*24:=Nat.mul_le_mul (by omega) (by omega);omega)
         clear hs6 hw7 hd HA hdb;go_wp2_with (at_builtin; go_must (rw [<-HW7.out]; refine zGs (y:=(i,k,m)) rfl _ _ rfl rfl hs7 0 rfl rfl hc70 hc71 hc72 HLN7.out ?_))
         intro v8 w8 hs8;have hs8:HS w w8 [aA v8 (wgL E tab r R i++wgJ E tab r R i (k+1)),aF (.slice (some ⟨bE,oE,none⟩) N cE) E,aF (.slice (some ⟨bM,oM,none⟩) N cM) (muT E R)]:=by rw [HJN.out,HAE.out]; exact (List.append_assoc _ _ _) ▸ hs8
         clear hs7 hc70 hc71 hc72 HAE HJN;go_wp2_with fail
         go_roundw
         case rel=>exact ⟨k+1,v8,rfl,by omega,by go_num,hs8⟩
         case measure=>simp [intOf]; omega
     ·have j1:¬(k:Int)<(N:Int):=by omega
      have hkN2:k=N:=by omega
      rw [hkN2] at hs;have hs:HS w wr [aA vo (wgL E tab r R (i+1)),aF (.slice (some ⟨bE,oE,none⟩) N cE) E,aF (.slice (some ⟨bM,oM,none⟩) N cM) (muT E R)]:=by rw [HLN.out,HEN.out]; exact hs
      clear hkN2;go_wp2_with fail
      go_roundw
      case rel=>exact ⟨i+1,vo,rfl,by omega,by go_num,hs⟩
      case measure=>simp [intOf]; omega
   ·have i1:¬(i:Int)<(N:Int):=by omega
    have hiN2:i=N:=by omega
    rw [hiN2,<-HR.out] at hs;have hfa:=HS.Ar hs 0 rfl;have hbl:=hs.bl;clear hiN2;go_wp2_with fail
    go_ret2
    exact ⟨_,rfl,hfa,hbl⟩
end Go.Proofs.YtlgcdacpjcnjgaaGreatDoor
