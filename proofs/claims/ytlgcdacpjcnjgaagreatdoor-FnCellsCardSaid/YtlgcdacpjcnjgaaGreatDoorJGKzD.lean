/- The elements of a small group, and the map of their places: by the program. Condition: sizes up to 2^24. -/
import Derived.Test.YtlgcdacpjcnjgaaGreatDoorJGFwd
import Derived.Test.YtlgcdacpjcnjgaaGreatDoorJGKzB
import Derived.Test.YtlgcdacpjcnjgaaGreatDoorJGKzC
namespace Go.Proofs.YtlgcdacpjcnjgaaGreatDoor
open Go.RowKit
set_option maxRecDepth 20000
set_option maxHeartbeats 8000000
theorem zQd {S:Nat→Prop} {u:Value} {c:List (List Int)} {w:World} (h:RII S w u c) (hm:HasM w) (hl:total c≤16777216) :
  Calls Tryz.prog 90 #[u,.int .i64 24] w fun e w'=>∃r,e=.returned (.tuple #[r,.bool (okK c)])∧(okK c=true→FII (New w w') w' r (elL c))∧Below w.heap.size w w':=by
 have mixed:Tryz.prog.follows .mixedOrders=true:=by kernel_rfl
 have hfi:=zDZ h hl;have HSZ:=zTD (fun (wv:World) (hb:Below w.heap.size w wv)=>zF4 (h.below hb) (hm.below hb) hl);have HEL:=zTD (fun (wv:World) (hb:Below w.heap.size w wv)=>zDV (h.below hb) (hm.below hb) hl);obtain ⟨aa,ca,rfl⟩:=h.form;clear h hm;cases hf:finB c with
 | false =>
  have HO:Hid (okK c=false):=zTD (by unfold okK; rw [hf]; rfl);rw [hf] at hfi;clear hf;go_enter Tryz.func90,Tryz.ntmps90
  go_wp2_with fail
  refine hfi.mono ?_;rintro e w1 ⟨rfl,b1⟩;clear hfi;go_wp2_with fail
  go_ret2
  exact ⟨_,by rw [HO.out]; rfl,fun h=>(by rw [HO.out] at h; cases h),b1⟩
 | true =>
  have hsz:szC c=szP c:=by unfold szC; rw [if_pos hf]
  rw [hf] at hfi;by_cases h24:szP c≤24
  ·have HO:Hid (okK c=true):=zTD (by unfold okK; rw [hf,decide_eq_true h24]; rfl);have HE:Hid (elR c=elL c):=zTD (by unfold elR; rw [(zBl HO.out).2.2.2.2]; rfl);rw [(zBl HO.out).2.2.2.2,HE.out] at HEL;rw [hsz] at HSZ;have i1:¬(24:Int)<(szP c:Int):=by omega
   generalize szP c=z at *;clear hf hsz h24;go_enter Tryz.func90,Tryz.ntmps90
   go_wp2_with fail
   refine hfi.mono ?_;rintro e w1 ⟨rfl,b1⟩;have hs:=HSZ.out w1 b1;clear hfi HSZ;go_wp2_with fail
   refine hs.mono ?_;rintro e w2 ⟨rfl,b2⟩;have hb2:=zAC.step b1 b2;have he:=HEL.out w2 hb2;clear hs b1 b2 HEL;go_wp2_with fail
   refine he.mono ?_;rintro e w3 ⟨r3,rfl,f3,b3⟩;clear he;go_wp2_with fail
   go_ret2
   exact ⟨_,by rw [HO.out]; rfl,fun _=>f3.mono (fun b hb=>⟨Nat.le_trans hb2.size hb.1,hb.2⟩),zAC.step hb2 b3⟩
  ·have HO:Hid (okK c=false):=zTD (by unfold okK; rw [hf,decide_eq_false h24]; rfl);rw [hsz] at HSZ;have i1:(24:Int)<(szP c:Int):=by omega
   generalize szP c=z at *;clear hf hsz h24;go_enter Tryz.func90,Tryz.ntmps90
   go_wp2_with fail
   refine hfi.mono ?_;rintro e w1 ⟨rfl,b1⟩;have hs:=HSZ.out w1 b1;clear hfi HSZ;go_wp2_with fail
   refine hs.mono ?_;rintro e w2 ⟨rfl,b2⟩;clear hs;go_wp2_with fail
   go_ret2
   exact ⟨_,by rw [HO.out]; rfl,fun h=>(by rw [HO.out] at h; cases h),zAC.step b1 b2⟩
def ixF (L:List (List Int)) (k:Nat):List Int→Value:=fun x=>.int .i64 (if x∈L.take k then (idxE L x:Int) else 0)
theorem zQp {L:List (List Int)} (hn:L.Nodup) {k:Nat} {x:List Int} (hx:L[k]? = some x):putM (ixF L k) x (.int .i64 k)=ixF L (k+1):=by
 funext y;unfold putM ixF;rw [zAP hx];by_cases h:y=x
 ·subst h;rw [if_pos rfl,if_pos (by simp),zIr hn hx]
 ·rw [if_neg h];simp [h]
theorem zEP {S:Nat→Prop} {u:Value} {L:List (List Int)} {w:World} (h:RII S w u L) (hn:L.Nodup) (hok:∀x∈L,OkW x∧x.length≤100) (hl:L.length≤1000) :
  Calls Tryz.prog 30 #[u] w fun e w'=>∃mb,e=.returned (.map (some mb))∧HS w w' [aM (.int .i64 0) mb L.length (ixF L L.length)]:=by
 have mixed:Tryz.prog.follows .mixedOrders=true:=by kernel_rfl
 have HB:=zTD (fun (wv:World) (hb:Below w.heap.size w wv)=>h.below hb);have HOK:=zTD hok;have HPUT:=zTD (fun (k:Nat) (x:List Int) (hx:L[k]? = some x)=>zQp hn hx);have HFIN:Hid (∀k,L.length≤k→ixF L k=ixF L L.length):=zTD (fun k hk=>by unfold ixF; rw [List.take_of_length_le hk,List.take_of_length_le (zTI _)]);obtain ⟨w1,hw1⟩:∃w1,w1=w.alloc (.map #[] 0):=⟨_,rfl⟩;have hs1:=HSx.newMap (HS.nil (Below.refl _ w)) (.int .i64 0) hw1;have e0:(fun _=>Value.int .i64 0)=ixF L 0:=by funext x; simp [ixF]
 rw [e0] at hs1;have hs1:HS w w1 [aM (.int .i64 0) w.heap.size 0 (ixF L 0)]:=hs1;have HW:=zTD hw1;obtain ⟨aa,ca,rfl⟩:=h.form;generalize hm:L.length=m at *;have HM:=zTD hm;clear hw1 h hok hn hm e0;go_enter Tryz.func30,Tryz.ntmps30
 go_wp2_with fail
 rw [run_makeMap,<-HW.out];go_wp2_with fail
 go_loopw [9] (fun kk wr=>∃k:Nat,k≤m∧kk=.int .i64 k∧HS w wr [aM (.int .i64 0) w.heap.size k (ixF L k)]) (fun kk _=>m-(intOf kk).toNat)
 case atStart=>exact ⟨0,Nat.zero_le _,rfl,hs1⟩
 case round =>
  clear hs1;obtain ⟨k,hk,rfl,hs⟩:=hrel;by_cases hkm:k<m
  ·have i1:(k:Int)<(m:Int):=by omega
   have i2:(0:Int)≤(k:Int):=by omega
   obtain ⟨b3,o3,r3,x,rfl,hc3,hr3,hx⟩:=RII.at (HB.out wr hs.bl) hkm;obtain ⟨hxo,hxl⟩:=HOK.out x (zTF hx.out);have HP:=zTD (HPUT.out k x hx.out);have hfw:=zCn hr3 hxo.inL (by omega);obtain ⟨a3,c3,rfl⟩:=hr3.form;have HXO:=zTD hxo;have HXL:=zTD hxl;clear hx hr3 hxo hxl;go_wp2_with fail
   refine hfw.mono ?_;rintro e w4 ⟨rfl,b4⟩;have hs4:=HSx.below hs b4;clear hfw hs b4 hc3;go_wp2_with (refine zID rfl _ _ _ rfl rfl hs4 0 rfl (zTI _) (by omega) Tryz.underlying49 HXO.out (by have:=HXL.out; omega) rfl rfl ?_)
   intro w5 hs5;have hs5:HS w w5 [aM (.int .i64 0) w.heap.size (k+1) (ixF L (k+1))]:=by rw [<-HP.out]; exact hs5
   clear hs4;go_wp2_with fail
   go_roundw
   case rel=>exact ⟨k+1,by omega,by go_num,hs5⟩
   case measure=>simp [intOf]; omega
  ·have i1:¬(k:Int)<(m:Int):=by omega
   have hke:k=m:=by omega
   rw [hke] at hs;clear hke;go_wp2_with fail
   go_ret
   exact ⟨_,rfl,hs⟩
theorem zGc {c:List (List Int)} {x:List Int} (h:Nf c x) (h4:c.length≤4):OkW x:=fun y hy=>by have:=h.lets y hy; omega
theorem zEb (w:World):(zeroValue 3).run Tryz.prog w=.ok (.int .i64 0) w:=by kernel_rfl
theorem zNe {S:Nat→Prop} {u:Value} {c:List (List Int)} {w:World} (h:RII S w u c) (hm:HasM w) (hk:okK c=true) (hl:total c≤16777216) :
  Calls Tryz.prog 91 #[u] w fun e w'=>∃r,e=.returned r∧FII (New w w') w' r (tbL c)∧Below w.heap.size w w':=by
 have mixed:Tryz.prog.follows .mixedOrders=true:=by kernel_rfl
 have K:=KlOk.of hk;have hok:=(zBl hk).2.2.2.2;have HR:Hid (elR c=elL c):=zTD (by unfold elR; rw [hok]; rfl);have HELs:=zTD (fun (wv:World) (hb:Below w.heap.size w wv)=>(show Calls Tryz.prog 68 #[u] wv fun e w'=>∃r,e=.returned r∧FII (New wv w') w' r (elL c)∧Below wv.heap.size wv w' from
  (zFe (h.below hb) (hm.below hb) hl).mono fun e w' he=>by
   have HRES:ElC c wv=fun e w'=>∃r,e=.returned r∧FII (New wv w') w' r (elR c)∧(elOk c=false→r=.slice none 0 0)∧Below wv.heap.size wv w':=rfl;rw [HRES] at he;obtain ⟨r,h1,h2,_,h4⟩:=he;exact ⟨r,h1,HR.out ▸ h2,h4⟩))
 have HTB:Hid (tbL c=(elL c).map fun x=>(List.range c.length).map fun (i:Nat)=>((idxE (elL c) (zAD c ((i:Int)::x)):Nat):Int)):=zTD rfl;have hc:=K.cart;have hfew:=K.few;have hn4:=hc.le;have HX:=zTD (fun (x:List Int) (hx:x∈elL c)=>(K.nf x).1 hx);have HIN:=zTD (fun (x:List Int) (hx:Nf c x)=>(K.nf x).2 hx);have HLF:=zTD (fun (x:List Int) (hx:Nf c x) (i:Nat) (hi:i<c.length)=>zDM K.fin hx hi);have HND:=zTD K.nod;have HOW:=zTD (fun (x:List Int) (hx:Nf c x)=>zGc hx hn4);have HRD:=zTD (fun (wv:World) (S9:Nat→Prop) (vv:Value) (x:List Int) (i:Nat) (hi:i<c.length) (hx:Nf c x) (hb:Below w.heap.size w wv) (hv:RI S9 wv vv ((i:Int)::x)) =>
  zFm (h.below hb) hv hc (fun y hy=>by exact (List.mem_cons.1 hy).elim (fun e=>by subst e; omega) (hx.lets y)) (by have:=hx.le; simp; omega))
 obtain ⟨aa,ca,rfl⟩:=h.form;generalize hn:c.length=n at *;have HN:=zTD hn;clear hn hc hok h hk K hm;obtain ⟨w1,hw1⟩:∃w1,w1=w.alloc (.cells #[] 29):=⟨_,rfl⟩;have hs1:=(zAj (HS.nil (Below.refl _ w)) hw1).add (Below.refl _ _) (zA7 []) (F:=NoB) ⟨fun x hx=>by simp at hx,List.Pairwise.nil⟩ (fun b hb=>hb.elim);have hs1:HS w w1 [aV 29 (.slice (some ⟨w.heap.size,0,none⟩) 0 0) (([]:Zl).map Prod.fst),aRs []]:=hs1;have HW1:=zTD hw1;have hel:=HELs.out w1 hs1.bl;clear hw1;go_enter Tryz.func91,Tryz.ntmps91
 go_wp2_with fail
 rw [<-HW1.out];refine hel.mono ?_;rintro e w2 ⟨r2,rfl,f2,b2⟩;have hs2:=HSx.addF hs1 b2 f2;have hpl:=zEP f2.any HND.out (fun x hx=>⟨HOW.out x (HX.out x hx),by have:=(HX.out x hx).le; omega⟩) (by omega);obtain ⟨ae,ce,rfl⟩:=f2.read.form;have hs2:HS w w2 [aV 29 (.slice (some ⟨w.heap.size,0,none⟩) 0 0) (([]:Zl).map Prod.fst),aRs [],aF (.slice ae (elL c).length ce) (elL c)]:=hs2;clear hel hs1 f2 b2;go_wp2_with fail
 refine hpl.mono ?_;rintro e w3 ⟨mb,rfl,hsm⟩;obtain ⟨F3,hF3,hN3⟩:=HSx.get hsm 0 rfl;have hs3:=HSx.add hs2 hsm.bl (st_M _ _ _ _) hF3 (fun b hb=>⟨(hN3 b hb).1.elim (fun h=>h.elim) id,(hN3 b hb).2⟩);have hs3:HS w w3 [aV 29 (.slice (some ⟨w.heap.size,0,none⟩) 0 0) (([]:Zl).map Prod.fst),aRs [],aF (.slice ae (elL c).length ce) (elL c),aM (.int .i64 0) mb (elL c).length (ixF (elL c) (elL c).length)]:=hs3;have HIF:Hid (∀x,x∈elL c→ixF (elL c) (elL c).length x=.int .i64 (idxE (elL c) x)):=zTD (fun x hx=>by unfold ixF; rw [List.take_of_length_le (zTI _),if_pos hx]);generalize hE:elL c=E at *;generalize hN:E.length=N at *;have HEN:=zTD hN;have HZ0:Hid (([]:Zl).map Prod.snd=(E.take 0).map fun x=>(List.range n).map fun (i:Nat)=>((idxE E (zAD c ((i:Int)::x)):Nat):Int)):=zTD rfl;clear hpl hs2 hsm hF3 hN3 hN hE;go_wp2_with fail
 go_loopw [3,17] (fun oo kk wr=>∃(k:Nat) (vo:Value) (Z:Zl),vo=oo∧k≤N∧kk=.int .i64 k∧HS w wr [aV 29 vo (Z.map Prod.fst),aRs Z,aF (.slice ae N ce) E,aM (.int .i64 0) mb N (ixF E N)]∧Hid (Z.map Prod.snd=(E.take k).map fun x=>(List.range n).map fun (i:Nat)=>((idxE E (zAD c ((i:Int)::x)):Nat):Int))) (fun _ kk _=>N-(intOf kk).toNat)
 case atStart=>exact ⟨0,_,[],rfl,Nat.zero_le _,rfl,hs3,HZ0⟩
 case round =>
  clear hs3 HZ0;obtain ⟨k,vo,Z,rfl,hk,rfl,hs,HMZ⟩:=hrel;by_cases hkN:k<N
  ·have i1:(k:Int)<(N:Int):=by omega
   have i0:(0:Int)≤(k:Int):=by omega
   obtain ⟨be,oe,re,x,rfl,hce,hre,hxx⟩:=RII.at (HS.F hs 2 rfl).read hkN;have HX1:=zTD hxx.out;have HXN:=zTD (HX.out x (zTF hxx.out));have hx24:=HXN.out.le;obtain ⟨ax,cx,rfl⟩:=hre.form;obtain ⟨wo,hwo⟩:∃wo,wo=wr:=⟨_,rfl⟩;subst hwo;have hsO:HS w wo [aV 29 vo (Z.map Prod.fst),aRs Z,aF (.slice (some ⟨be,oe,none⟩) N ce) E,aM (.int .i64 0) mb N (ixF E N)]:=hs;obtain ⟨w2,hw2⟩:∃w2,w2=wo.alloc (.cells #[] 3):=⟨_,rfl⟩;have hs3:=zBe (HS.nil (Below.refl _ wo)) hw2;have hs3:HS wo w2 [aI (.slice (some ⟨wo.heap.size,0,none⟩) 0 0) ((List.range 0).map fun (i:Nat)=>((idxE E (zAD c ((i:Int)::x)):Nat):Int))]:=hs3;have HW2:=zTD hw2;have HRE:=zTD hre;have HSO:=zTD hsO;generalize hxl:x.length=xl at *;have HXL:=zTD hxl;clear hxx hw2 hs hre hxl hsO;go_wp2_with fail
   rw [<-HW2.out];clear hce;go_loopw [8,24] (fun rr ii wr=>∃(i:Nat) (vi:Value),vi=rr∧i≤n∧ii=.int .i64 i∧HS wo wr [aI vi ((List.range i).map fun (i:Nat)=>((idxE E (zAD c ((i:Int)::x)):Nat):Int))]) (fun _ ii _=>n-(intOf ii).toNat)
   case atStart=>exact ⟨0,_,rfl,Nat.zero_le _,rfl,hs3⟩
   case round =>
    clear hs3;obtain ⟨i,vi,rfl,hi,rfl,hs⟩:=hrel;have HIL:Hid (((List.range i).map fun (i:Nat)=>((idxE E (zAD c ((i:Int)::x)):Nat):Int)).length=i):=zTD (by simp);have HNX:Hid (((List.range i).map fun (i:Nat)=>((idxE E (zAD c ((i:Int)::x)):Nat):Int))++[((idxE E (zAD c ((i:Int)::x)):Nat):Int)]=((List.range (i+1)).map fun (i:Nat)=>((idxE E (zAD c ((i:Int)::x)):Nat):Int))):=zTD (by rw [List.range_succ,List.map_append]; rfl);by_cases hin:i<n
    ·have j1:(i:Int)<(n:Int):=by omega
     obtain ⟨w4,hw4⟩:∃w4,w4=wr.alloc (.cells #[.int .i64 i] 3):=⟨_,rfl⟩;have hs4:=zFw (HS.nil (Below.refl _ wr)) (i:Int) hw4;have HF4:=zTD (HS.I hs4 0 rfl);have HB4:=zTD hs4.bl;have HRX:=zTD ((HRE.out.below hs.bl).below hs4.bl);have HW4:=zTD hw4;have HLN4:Hid ([(i:Int)].length+x.length≤67108864):=zTD (by rw [HXL.out]; simp; omega);clear hw4 hs4;go_wp2_with (at_builtin; go_must (rw [<-HW4.out]; refine zAL (W:=wr) rfl _ _ rfl rfl HF4.out HB4.out rfl HRX.out HLN4.out ?_))
     intro v5 w5 f5 b5 _;have f5:FI (New wr w5) w5 v5 ((i:Int)::x):=f5;have hs5:=HSx.below hs b5;have hrd:=HRD.out w5 _ v5 x i hin HXN.out (zAC.step HSO.out.bl hs5.bl) f5.reads;clear hs f5 b5 HW4 HF4 HB4 HRX HLN4;go_wp2_with fail
     refine hrd.mono ?_;rintro e w6 ⟨r6,rfl,f6,b6⟩;have hs6:=HSx.below hs5 b6;have hlf:=(HLF.out x HXN.out i hin).1;have hok:=HOW.out _ hlf;have hn24:=hlf.le;have hfw:=zCn f6.reads hok.inL (by omega);have HXI:Hid (ixF E N (zAD c ((i:Int)::x))=.int .i64 (idxE E (zAD c ((i:Int)::x)))):=zTD (HIF.out _ (HIN.out _ hlf));clear hrd hs5 b6 f6 hlf;generalize zAD c ((i:Int)::x)=y at *;go_wp2_with fail
     refine hfw.mono ?_;rintro e w7 ⟨rfl,b7⟩;have hs7:=HSx.below hs6 b7;have HOKY:=zTD hok;have HN24:Hid (y.length≤1048576):=zTD (by omega);have hsM:=HSx.below HSO.out hs7.bl;clear hfw hs6 b7 hok;generalize idxE E y=q at *;obtain ⟨w8,hw8⟩:∃w8,w8=w7.alloc (.cells #[.int .i64 q] 3):=⟨_,rfl⟩;have hs8:=hs7.alloc (.cells #[.int .i64 q] 3);rw [<-hw8] at hs8;have hs8:HS wo w8 [aI vi ((List.range i).map fun (i:Nat)=>((idxE E (zAD c ((i:Int)::x)):Nat):Int))]:=hs8;have hc8:w8.cell? ⟨w7.heap.size,0,none⟩=some (.int .i64 q):=by rw [hw8]; go_simp
     have HW8:=zTD hw8;have HLN:Hid (((List.range i).map fun (i:Nat)=>((idxE E (zAD c ((i:Int)::x)):Nat):Int)).length+1≤67108864):=zTD (by rw [HIL.out]; omega);clear hw8 hs7;go_wp2_with (first | ((refine zFM rfl _ _ rfl rfl hsM 3 rfl Tryz.underlying49 zEb HOKY.out HN24.out rfl ?_); rw [HXI.out]) | (at_builtin; go_must (rw [<-HW8.out]; refine zAd rfl _ _ rfl rfl hs8 0 rfl rfl hc8 HLN.out ?_)))
     intro v9 w9 hs9;have hs9:HS wo w9 [aI v9 ((List.range (i+1)).map fun (i:Nat)=>((idxE E (zAD c ((i:Int)::x)):Nat):Int))]:=by rw [<-HNX.out]; exact hs9
     clear hs8 hsM hc8;go_wp2_with fail
     go_roundw
     case rel=>exact ⟨i+1,v9,rfl,by omega,by go_num,hs9⟩
     case measure=>simp [intOf]; omega
    ·have j1:¬(i:Int)<(n:Int):=by omega
     have hie:i=n:=by omega
     rw [hie] at hs HIL;clear hie;obtain ⟨ap,cp,rfl⟩:=HS.formI hs 0 rfl;have HMZ2:Hid ((Z++[(Value.slice ap n cp,((List.range n).map fun (i:Nat)=>((idxE E (zAD c ((i:Int)::x)):Nat):Int)))]).map Prod.snd=(E.take (k+1)).map fun x=>(List.range n).map fun (i:Nat)=>((idxE E (zAD c ((i:Int)::x)):Nat):Int)):=zTD (by rw [List.map_append,HMZ.out,zAP HX1.out,List.map_append]; rfl);have HLN:Hid ((Z.map Prod.fst).length+1≤67108864):=zTD (by have:=congrArg List.length HMZ.out; simp at this; simp; omega);rw [HIL.out] at hs ⊢;have hsA:=HSx.addI HSO.out hs.bl (HS.I hs 0 rfl);generalize ((List.range n).map fun (i:Nat)=>((idxE E (zAD c ((i:Int)::x)):Nat):Int))=q at *;obtain ⟨w4,hw4⟩:∃w4,w4=wr.alloc (.cells #[.slice ap n cp] 29):=⟨_,rfl⟩
     have hs4:HS w w4 [aV 29 vo (Z.map Prod.fst),aRs Z,aF (.slice (some ⟨be,oe,none⟩) N ce) E,aM (.int .i64 0) mb N (ixF E N),aI (.slice ap n cp) q]:=by rw [hw4]; exact HSx.alloc hsA _
     have hc4:w4.cell? ⟨wr.heap.size,0,none⟩=some (.slice ap n cp):=by rw [hw4]; go_simp
     have HW4:=zTD hw4;have HNV:=zTD (HS.newV hs4 0 rfl);clear hs hsA hw4;go_wp2_with (at_builtin; go_must (rw [<-HW4.out]; refine zAH rfl _ _ rfl rfl hs4 0 rfl HNV.out rfl hc4 rfl HLN.out ?_))
     intro v5 w5 hs5 _;have hs6:=(HSx.moreS hs5 1 4 (by decide) rfl rfl (Z':=Z++[(.slice ap n cp,q)]) (List.perm_append_singleton _ _)).pick [0,1,2,3] (by decide);have hs6:HS w w5 [aV 29 v5 ((Z++[(Value.slice ap n cp,q)]).map Prod.fst),aRs (Z++[(Value.slice ap n cp,q)]),aF (.slice (some ⟨be,oe,none⟩) N ce) E,aM (.int .i64 0) mb N (ixF E N)]:=by
      have e:(Z++[(Value.slice ap n cp,q)]).map Prod.fst=Z.map Prod.fst++[Value.slice ap n cp]:=by simp
      rw [e]; exact hs6
     generalize Z++[(Value.slice ap n cp,q)]=Z2 at *;clear hs4 hs5 hc4;go_wp2_with fail
     go_roundw
     case rel=>exact ⟨k+1,v5,Z2,rfl,by omega,by go_num,hs6,HMZ2⟩
     case measure=>simp [intOf]; omega
  ·have i1:¬(k:Int)<(N:Int):=by omega
   have e:E.take k=E:=List.take_of_length_le (by rw [HEN.out]; omega);have hs7:HS w wr [aF vo (Z.map Prod.snd)]:=((HSx.shutF hs (Z:=Z) (v:=vo) 0 1 (by decide) rfl rfl).pick [0] (by decide));rw [HMZ.out,e,<-HTB.out] at hs7;clear hs e;go_wp2_with fail
   go_ret
   exact ⟨_,rfl,HS.F hs7 0 rfl,hs7.bl⟩
abbrev aK4 (b:Nat) (x0 x1 x2 x3:Value):zAI:=fun F w=>F b∧w.cell? ⟨b,0,none⟩=some x0∧w.cell? ⟨b,1,none⟩=some x1∧w.cell? ⟨b,2,none⟩=some x2∧w.cell? ⟨b,3,none⟩=some x3
theorem zDC {w w':World} {b o:Nat} {x:Value} (h:w.cell? ⟨b,o,none⟩=some x) (e:w'.heap[b]? = w.heap[b]?):w'.cell? ⟨b,o,none⟩=some x:=by
 unfold World.cell? at h ⊢;simp only at h ⊢;rw [e]; exact h
theorem zS7 (b:Nat) (x0 x1 x2 x3:Value):zAg (aK4 b x0 x1 x2 x3):=fun _ w _ h k=>by
 have e:=k b h.1 (zTH w _ h.2.1);exact ⟨h.1,zDC h.2.1 e,zDC h.2.2.1 e,zDC h.2.2.2.1 e,zDC h.2.2.2.2 e⟩
def zBR (N:Nat) (X:Ml) (Z:Zl) (P:Nat→Nat→List Int):Prop :=
 X.length=N∧(∀(u:Nat) (x:Value × List Value),X[u]? = some x→x.2.length=N)∧∀(u:Nat) (x:Value × List Value),X[u]? = some x→∀(v:Nat) (q:Value),x.2[v]? = some q→(q,P u v)∈Z∨(q=.slice none 0 0∧P u v=[])
theorem HSx.kz {A:Nat→Prop} {w0 w:World} {Ps:List zAI} {E T:List (List Int)} {tab:Nat→Nat→Nat} {r N g cE cT:Nat} {aE aT:Option Addr} {vp mv:Value} {X:Ml} {Z:Zl} {P:Nat→Nat→List Int}
  (h:HSx A w0 w Ps) (i0 i1 i2 i3 i4 i5:Nat) (h0:Ps[i0]? = some (aK4 g (.slice aE N cE) (.slice aT N cT) mv vp)) (h1:Ps[i1]? = some (aF (.slice aE N cE) E)) (h2:Ps[i2]? = some (aF (.slice aT N cT) T))
  (h3:Ps[i3]? = some (aV 24 vp (X.map Prod.fst))) (h4:Ps[i4]? = some (aVs 29 X)) (h5:Ps[i5]? = some (aRr Z)) (hL:zBR N X Z P) (hN:0<N) (hEN:E.length=N) (hTN:T.length=N)
  (hel:∀z,z<N→∃x,E[z]? = some x∧x.length=lenE E z) (hhd:∀z,0<z→z<N→∃x,E[z]? = some x∧x[0]? = some (hdE E z:Int)∧x.length=lenE E z)
  (htt:∀z i,z<N→i<r→∃row,T[z]? = some row∧row.length=r∧row[i]? = some (tab z i:Int)) :
  ∃bE oE bT oT bP cP,aE=some ⟨bE,oE,none⟩∧aT=some ⟨bT,oT,none⟩∧vp=.slice (some ⟨bP,0,none⟩) N cP∧KzW w g E tab r N bE oE cE bT oT cT mv bP 0 cP P:=by
 obtain ⟨F0,hC,_⟩:=HSx.get h i0 h0;obtain ⟨F1,hE,_⟩:=HSx.get h i1 h1;obtain ⟨F2,hT,_⟩:=HSx.get h i2 h2;have hE:=FII.any hE;have hT:=FII.any hT;obtain ⟨bE,oE,cE',eE⟩:=RL.head hE (by omega);obtain ⟨bT,oT,cT',eT⟩:=RL.head hT (by omega);simp only [Value.slice.injEq] at eE eT;obtain ⟨rfl,_,rfl⟩:=eE;obtain ⟨rfl,_,rfl⟩:=eT;obtain ⟨bP,cP,eP⟩:=(HSx.formV h i3 h3).2 (by rw [List.length_map,hL.1]; exact hN);rw [List.length_map,hL.1] at eP;subst eP;refine ⟨bE,oE,bT,oT,bP,cP,rfl,rfl,rfl,hC.2.1,hC.2.2.1,hC.2.2.2.1,hC.2.2.2.2,fun z hz=>RII.cellLen hE (hel z hz),fun z hz0 hz=>?_,fun z i hz hi=>RII.cellInt hT (htt z i hz hi),fun u hu=>?_⟩
 ·obtain ⟨x,hx,hx0,hxl⟩:=hhd z hz0 hz;obtain ⟨a,c,q1,q2⟩:=RII.get hE hx;have hxp:0<x.length:=(zTG hx0).1;obtain ⟨b,o,c',e⟩:=RL.head q2 hxp;rw [e] at q1 q2;exact ⟨b,o,c',by rw [<-hxl]; exact q1,RI.get (j:=0) q2 hx0⟩
 ·obtain ⟨x,hx⟩:∃x,X[u]? = some x:=⟨_,zTE (by rw [hL.1]; exact hu)⟩;have hxl:=hL.2.1 u x hx;obtain ⟨g2,c2,ex⟩:=(HSx.formVs h i4 h4 hx).2 (by rw [hxl]; exact hN);obtain ⟨vx,vs⟩:=x;have ex:vx=.slice (some ⟨g2,0,none⟩) vs.length c2:=ex;have hxl:vs.length=N:=hxl;subst ex;have hc:=(HSx.cellV h i3 h3 (j:=u) (r:=.slice (some ⟨g2,0,none⟩) vs.length c2) (by rw [List.getElem?_map,hx]; rfl)).1;rw [hxl] at hc;refine ⟨g2,0,c2,by rw [Nat.zero_add]; exact hc,fun v hv=>?_⟩;obtain ⟨q,hq⟩:∃q,vs[v]? = some q:=⟨_,zTE (by rw [hxl]; exact hv)⟩;have hcq:=(HSx.cellVs h i4 h4 hx hq).1;rw [Nat.zero_add];rcases hL.2.2 u _ hx v q hq with hz | ⟨rfl,hp⟩
  ·have hr:=(HSx.rowR h i5 h5 hz).any;have hr:RI Any w q (P u v):=hr;obtain ⟨a,c',e⟩:=hr.form;rw [e] at hcq hr;exact ⟨a,c',hcq,hr⟩
  ·rw [hp];exact ⟨none,0,hcq,RL.nil _ _ (by unfold maxLen; omega)⟩
def KzA (w:World) (g:Nat) (c:List (List Int)):Prop:=∃bE oE cE bT oT cT mb bP oP cP,KzW w g (elL c) (tabE c (elL c)) c.length (elL c).length bE oE cE bT oT cT (.map (some mb)) bP oP cP (fun u v=>zAA (klT c) v u) ∧
 aM (.int .i64 0) mb (elL c).length (ixF (elL c) (elL c).length) (fun b=>b=mb) w
theorem zPq {z:Value} {mb m:Nat} {f:List Int→Value} {F:Nat→Prop} {w:World} (h:aM z mb m f F w):mb<w.heap.size:=by
 obtain ⟨_,D,m',_,h3,_⟩:=h;obtain ⟨es,clock,hb,_⟩:=h3;exact (Array.getElem?_eq_some_iff.1 hb).1
theorem KzA.below {w w':World} {g:Nat} {c:List (List Int)} (h:KzA w g c) (hb:Below w.heap.size w w'):KzA w' g c:=by
 obtain ⟨bE,oE,cE,bT,oT,cT,mb,bP,oP,cP,K,M⟩:=h;exact ⟨bE,oE,cE,bT,oT,cT,mb,bP,oP,cP,K.below hb,st_M _ _ _ _ _ _ _ M fun b _ hl=>hb.block b hl⟩
def NewK (c:List (List Int)) (w:World) (e:Ending) (w':World):Prop:=∃p,e=.returned (.tuple #[p,.bool (okK c)])∧(okK c=true→∃g,p=.pointer (some ⟨g,0,none⟩)∧KzA w' g c)∧Below w.heap.size w w'
def zFP (mb:Nat) (f:List Int→Value) (w:World):Prop:=∃(m:Nat) (F:Nat→Prop),aM (.int .i64 0) mb m f F w
theorem zFP.below {w w':World} {mb:Nat} {f:List Int→Value} (h:zFP mb f w) (hb:Below w.heap.size w w'):zFP mb f w':=by
 obtain ⟨m,F,h⟩:=h;have hlt:=zPq h;obtain ⟨h1,h2⟩:=h;exact ⟨m,fun b=>b=mb,st_M _ _ _ _ _ _ _ (show aM (.int .i64 0) mb m f (fun b=>b=mb) w from ⟨rfl,h2⟩) fun b _ hl=>hb.block b hl⟩
theorem zFP.run {w:World} {mb:Nat} {f:List Int→Value} (h:zFP mb f w) {p:List Int} (hp:Hid (OkW p∧p.length≤1048576)) :
  (Go.Instr.lookup 49 (.map (some mb)) (.string (bs (zBI p))) false).run Tryz.prog w=.ok (f p) w:=by
 obtain ⟨m,F,h⟩:=h;have hs:HSx (fun _=>True) w w [aM (.int .i64 0) mb m f]:=by
  have h1:HSx (fun _=>True) w w []:=HSx.nil (Below.refl _ w);refine ⟨Below.refl _ w,fun _ b=>b=mb,fun i P hi=>?_,fun i j b hi hj hij=>?_⟩
  ·match i,hi with
   | 0,hi=>simp at hi; subst hi; exact ⟨st_M _ _ _ _,⟨rfl,h.2⟩,fun b hb=>⟨.inl trivial,by subst hb; exact zPq h⟩⟩
  ·simp at hi hj; omega
 exact hs.mapRun 0 rfl Tryz.underlying49 zEb hp.out.1 hp.out.2
section
attribute [local go_sem ↓] zFP.run
end
end Go.Proofs.YtlgcdacpjcnjgaaGreatDoor
