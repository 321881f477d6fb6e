/- The character of a representation: both sides. Condition: sizes up to 2^24. -/
import Derived.Test.YtallmimhfmaapaaGreatDoorCGMlG
import Derived.Test.YtallmimhfmaapaaGreatDoorCWsI
namespace Go.Proofs.YtallmimhfmaapaaGreatDoor
open Go.RowKit
set_option maxRecDepth 20000
set_option maxHeartbeats 8000000
theorem zQl {c:List (List Int)} {v x:List Int} (hok:dbOk c v=true) (hx:x∈wsR c v):zAh c x=true∧x.length=c.length:=by
 have hF:=zRN hok;unfold wsR at hx;rw [if_pos hok] at hx;cases hs:wsQ c v with
 | none=>rw [hs] at hx; simp [zAI] at hx
 | some s =>
  rw [hs,Option.getD_some] at hx;have h1:=zGw (zDK c v) (zEW c v) (dbR c v).length 0 (acc:=[]) (s:=s) rfl (Nat.zero_le _) (WsI.start c _) (by simp) (by rw [List.drop_zero]; exact hs);have hxs:=((zBL (n:=c.length) (q:=s) h1.1.len).2 x).1 hx;obtain ⟨j,u,_,hu,ho,hxo⟩:=h1.1.src x hxs;have hum:=zTa hu;obtain ⟨_,h2,_⟩:=zFh ho (zEW c v u hum);have hb:=(hF.bd hum).rch hF.fin (by omega) (h2 x hxo).2;refine ⟨?_,hb.1⟩;unfold zAh isW;rw [hF.fb,zAL.2 hF.fin.cart,hb.1];simp only [decide_true,Bool.true_and,Bool.and_true];refine zCq.2 fun y hy=>?_;obtain ⟨i,hi⟩:=List.getElem?_of_mem hy;have hil:=(zTb hi).1;have:=hb.num hF.fin (i:=i) (by rw [<-hb.1]; exact hil);rw [zAQ hi] at this;unfold wtB;exact zBX (by omega)
def chaB (c:List (List Int)) (v:List Int):Bool:=wsOk c v && mlOk c v
def chaF (c:List (List Int)) (v:List Int) (u:List Int):Wtd:=(u,zAY (dmL c u) (mlR c v))
def chaR (c:List (List Int)) (v:List Int):List Wtd:=if chaB c v=true then (wsR c v).map (chaF c v) else []
theorem zMl (c:List (List Int)) (v:List Int):zAF (chaR c v)≤1000:=by
 unfold chaR;split
 ·have:zAF ((wsR c v).map (chaF c v))=zAC (wsR c v):=by
   unfold zAF zAC;rw [List.length_map,List.map_map];rfl
  rw [this];exact zFx c v
 ·decide
def ChaC (c:List (List Int)) (v:List Int) (w:World) (e:Ending) (w':World):Prop:=∃r,e=.returned (.tuple #[r,.bool (chaB c v)])∧FW (New w w') w' r (chaR c v)∧Below w.heap.size w w'
theorem zSq {S S':Nat→Prop} {x1 x2:Value} {c:List (List Int)} {v:List Int} {w:World} (h:RII S w x1 c) (hv:RI S' w x2 v) (hl:zAC c≤16777216) (hl':v.length≤16777216) :
  Calls Tryz.prog 20 #[x1,x2] w (ChaC c v w):=by
 have HRES:Hid (ChaC c v w=fun e w'=>∃r,e=.returned (.tuple #[r,.bool (chaB c v)])∧FW (New w w') w' r (chaR c v)∧Below w.heap.size w w'):=zTY rfl;rw [HRES.out];have HNO:Hid (chaB c v=false→chaR c v=[]):=zTY (fun e=>by unfold chaR; rw [e]; rfl);have HOK:Hid (chaB c v=(wsOk c v && mlOk c v)):=zTY rfl;have HYES:Hid (chaB c v=true→chaR c v=(wsR c v).map (chaF c v)):=zTY (fun e=>by unfold chaR; rw [if_pos e]);have HDB:Hid (mlOk c v=true→∀x∈wsR c v,zAh c x=true∧x.length=c.length):=zTY (fun e x hx=>zQl (by unfold mlOk at e; rw [Bool.and_eq_true] at e; exact e.1) hx);generalize hok:chaB c v=ok at *;generalize hres:chaR c v=res at *;clear hok hres;have HT:=zTY (zIf c v);have HWT:=zTY (zFx c v);go_enter Tryz.func20,Tryz.ntmps20
 go_wp2_with fail
 obtain ⟨w1,hw1⟩:∃w1,w1=w.alloc (.cells #[] 52):=⟨_,rfl⟩;have hs1:HS w w1 [aW2 (.slice (some ⟨w.heap.size,0,none⟩) 0 0) [],aRs []]:=HSx.noRs (HSx.freshW2 (HSx.nil (Below.refl _ w)) hw1);rw [<-hw1];clear hw1;have HEMP:Hid (∀w2,HS w w2 [aW2 (.slice (some ⟨w.heap.size,0,none⟩) 0 0) [],aRs []]→FW (New w w2) w2 (.slice (some ⟨w.heap.size,0,none⟩) 0 0) []):=zTY (fun w2 h2=>HS.FW (HSx.shutW2 h2 0 1 (by omega) rfl rfl) 0 rfl);refine (zSi (h.below hs1.bl) (hv.below hs1.bl) hl hl').mono ?_;rintro e w2 ⟨r2,rfl,f2,b2⟩;have hs2:HS w w2 [aW2 (.slice (some ⟨w.heap.size,0,none⟩) 0 0) [],aRs [],aF r2 (wsR c v)]:=HSx.addF hs1 b2 f2;clear hs1 f2 b2;go_wp2_with fail
 refine (zRb (h.below hs2.bl) (hv.below hs2.bl) hl hl').mono ?_;rintro e w3 ⟨r3,rfl,f3,b3⟩;have hs3:HS w w3 [aW2 (.slice (some ⟨w.heap.size,0,none⟩) 0 0) [],aRs [],aF r2 (wsR c v),aFW r3 (mlR c v)]:=HSx.add hs2 b3 (zNK _ _) f3 (fun _ h=>h);clear hs2 f3 b3;by_cases hall:wsOk c v=true∧mlOk c v=true
 ·obtain ⟨h1,h2⟩:=hall;have e0:ok=true:=by rw [HOK.out,h1,h2]; rfl
  have HR:=zTY (HYES.out e0);have HWS:=zTY (HDB.out h2);rw [h1,h2];subst e0;clear h1 h2 HYES HNO HOK HDB HEMP;obtain ⟨a2,c2,rfl⟩:=(FII.read (HS.F hs3 2 rfl)).form;have hn0:(wsR c v).length≤16777216:=by have:=HWT.out; unfold zAC at this; omega
  generalize hn:(wsR c v).length=n at *;have HN:=zTY hn;clear hn;go_wp2_with fail
  go_loopw [6,11] (fun oo ii wv=>∃(k:Nat) (E:El2),k≤n∧ii=.int .i64 k∧Hid (E.map Prod.snd=((wsR c v).take k).map (chaF c v))∧HS w wv [aW2 oo E,aRs (E.map fun e=>(e.1,e.2.1)),aF (.slice a2 n c2) (wsR c v),aFW r3 (mlR c v)]) (fun _ ii _=>n-(intOf ii).toNat)
  case atStart=>exact ⟨0,[],Nat.zero_le _,rfl,zTY rfl,hs3⟩
  case round =>
   obtain ⟨k,E,hk,rfl,HE,hs⟩:=hrel;by_cases hkn:k<n
   ·have i2:(k:Int)<(n:Int):=by omega
    obtain ⟨g1,p1,y1,x,rfl,hcx,hyx,hx1⟩:=(FII.read (HS.F hs 2 rfl)).at hkn;have hxw:=HWS.out x (zTa hx1.out);have HXL:=zTY hxw.2;have HDM:Hid (dom1 c x=dmL c x):=zTY (by unfold dom1; rw [if_pos hxw.1]);have HST:Hid (((wsR c v).take k).map (chaF c v)++[(x,zAY (dmL c x) (mlR c v))]=((wsR c v).take (k+1)).map (chaF c v)):=zTY (by rw [zAE hx1.out,List.map_append]; rfl);have HEL:Hid (E.length≤16777216):=zTY (by
     have h2:=congrArg List.length HE.out;rw [List.length_map,List.length_map,List.length_take] at h2;omega)
    have HDL:Hid ((dmL c x).length≤16777216):=zTY (by unfold dmL; rw [zBv,HXL.out]; unfold zAC at hl; omega);have HXB:Hid (x.length≤16777216):=zTY (by rw [HXL.out]; unfold zAC at hl; omega);have l1:=zTc wr _ hcx;clear hxw hx1;obtain ⟨ax,cx,rfl⟩:=hyx.form;go_wp2_with fail
    refine (zCt (h.below hs.bl) hyx hl HXB.out).mono ?_;rintro e w4 ⟨r4,r5,rfl,f4,_,_,b4⟩;rw [HDM.out] at f4;have hs4:HS w w4 [aW2 u6 E,aRs (E.map fun e=>(e.1,e.2.1)),aF (.slice (some ⟨g1,p1,none⟩) n c2) (wsR c v),aFW r3 (mlR c v),aI r4 (dmL c x)]:=HSx.addI (HSx.below hs (Below.refl _ _)) b4 f4;have hcx4:=(b4.cell l1).trans hcx;have hyx4:=hyx.below b4;clear hs f4 hcx hyx;obtain ⟨f1,b1⟩:=zAO (w:=w4) (Below.refl _ w4) rfl;have hcx5:(w4.alloc (.cells #[] 3)).cell? ⟨g1,p1+k,none⟩=some (.slice ax x.length cx):=(b1.cell (Nat.lt_of_lt_of_le l1 b4.size)).trans hcx4;go_wp2_with (at_builtin; go_must (refine zAN (W:=w4) rfl _ _ rfl rfl f1 b1 rfl (hyx4.below b1) ?_ ?_))
    ·have:=HXB.out; simp; omega
    intro v2 wC f2 b2 _;have hs5:HS w wC [aW2 u6 E,aRs (E.map fun e=>(e.1,e.2.1)),aF (.slice (some ⟨g1,p1,none⟩) n c2) (wsR c v),aFW r3 (mlR c v),aI r4 (dmL c x),aI v2 x]:=HSx.addI hs4 b2 f2;go_wp2_with fail
    refine (zGG (FW.any (HS.FW hs5 3 rfl)) (HS.I hs5 4 rfl).reads (by have:=HT.out; omega) HDL.out).mono ?_;rintro e wD ⟨rfl,m3,hw3⟩;have hs6:HS w wD _:=HSx.below hs5 (zAS ⟨m3,hw3⟩);clear hw3 hs4 hs5;generalize zAY (dmL c x) (mlR c v)=q at *;obtain ⟨a2',c2',rfl⟩:=f2.form;have hsA:HS w (wD.alloc (.cells #[.slice a2' x.length c2',.int .i64 q] 52)) _:=HSx.alloc hs6 _;have hq:=HS.newW2 hsA 0 rfl;have hel:=HEL.out;go_wp2_with (at_builtin; go_must (refine zCT (r:=.slice a2' x.length c2') (q:=q) rfl _ _ rfl x rfl hsA 0 rfl hq rfl (by go_simp) (by go_simp) rfl (by omega) ?_))
    intro v5 wE hsB _;have hsC:HS w wE [aW2 v5 (E++[(.slice a2' x.length c2',(x,q))]),aRs (E.map fun e=>(e.1,e.2.1)),aF (.slice (some ⟨g1,p1,none⟩) n c2) (wsR c v),aFW r3 (mlR c v),aI r4 (dmL c x),aI (.slice a2' x.length c2') x]:=hsB;have hsD:=HSx.moreS (Z':=(E++[(Value.slice a2' x.length c2',(x,q))]).map fun e=>(e.1,e.2.1)) hsC 1 5 (by omega) rfl rfl (by rw [List.map_append]; exact List.perm_append_singleton _ _);have hsE:HS w wE [aW2 v5 (E++[(Value.slice a2' x.length c2',(x,q))]),aRs ((E++[(Value.slice a2' x.length c2',(x,q))]).map fun e=>(e.1,e.2.1)),aF (.slice (some ⟨g1,p1,none⟩) n c2) (wsR c v),aFW r3 (mlR c v)]:=HSx.pick hsD [0,1,2,3] (by decide);have HE1:Hid ((E++[(Value.slice a2' x.length c2',(x,q))]).map Prod.snd=((wsR c v).take (k+1)).map (chaF c v)):=zTY (by rw [List.map_append,HE.out,<-HST.out]; rfl)
    clear hsA hsB hsC hsD hs6 f2 b2;go_wp2_with fail
    go_roundw
    case rel=>exact ⟨k+1,_,by omega,by go_num,HE1,hsE⟩
    case measure=>simp [intOf]; omega
   ·have hk2:k=n:=by omega
    have i2:¬(k:Int)<(n:Int):=by omega
    have hfin:=HS.FW (HSx.shutW2 (HSx.pick hs [0,1] (by decide)) 0 1 (by omega) rfl rfl) 0 rfl;rw [HE.out,hk2,<-HN.out,List.take_length,<-HR.out] at hfin;have HFIN:=zTY hfin;have HBL:=zTY hs.bl;clear hfin hk2;go_wp2_with fail
    go_ret2
    exact ⟨_,rfl,HFIN.out,HBL.out⟩
 ·have e0:Hid (ok=false):=zTY (by
   rw [HOK.out];cases h1:wsOk c v
   ·rfl
   ·cases h2:mlOk c v
    ·rfl
    ·exact absurd ⟨h1,h2⟩ hall)
  have hfin:=HEMP.out w3 (HSx.pick hs3 [0,1] (by decide));rw [<-HNO.out e0.out] at hfin;have HFIN:=zTY hfin;have HBL:=zTY hs3.bl;clear hfin hall;cases hA:wsOk c v
  ·clear hA;go_wp2_with fail
   go_ret2
   exact ⟨_,by rw [e0.out]; rfl,HFIN.out,HBL.out⟩
  ·cases hB:mlOk c v
   ·clear hA hB;go_wp2_with fail
    go_ret2
    exact ⟨_,by rw [e0.out]; rfl,HFIN.out,HBL.out⟩
   ·have:=HOK.out;rw [hA,hB,e0.out] at this;cases this
theorem zSp {S S':Nat→Prop} {x1 x2:Value} {c:List (List Int)} {v:List Int} {w:World} (h:RII S w x1 c) (hv:RI S' w x2 v) (hl:zAC c≤16777216) (hl':v.length≤16777216) (hM:HasM w) :
  Calls Tryz.prog 21 #[x1,x2] w (ChaC c v w):=by
 have HRES:Hid (ChaC c v w=fun e w'=>∃r,e=.returned (.tuple #[r,.bool (chaB c v)])∧FW (New w w') w' r (chaR c v)∧Below w.heap.size w w'):=zTY rfl;rw [HRES.out];have HNO:Hid (chaB c v=false→chaR c v=[]):=zTY (fun e=>by unfold chaR; rw [e]; rfl);have HOK:Hid (chaB c v=(wsOk c v && mlOk c v)):=zTY rfl;have HYES:Hid (chaB c v=true→chaR c v=(wsR c v).map (chaF c v)):=zTY (fun e=>by unfold chaR; rw [if_pos e]);have HDB:Hid (mlOk c v=true→∀x∈wsR c v,zAh c x=true∧x.length=c.length):=zTY (fun e x hx=>zQl (by unfold mlOk at e; rw [Bool.and_eq_true] at e; exact e.1) hx);generalize hok:chaB c v=ok at *;generalize hres:chaR c v=res at *;clear hok hres;have HT:=zTY (zIf c v);have HWT:=zTY (zFx c v);go_enter Tryz.func21,Tryz.ntmps21
 go_wp2_with fail
 have HEMP:Hid (∀w1 w2,HS w w1 []→w2=w1.alloc (.cells #[] 52)→FW (New w w2) w2 (.slice (some ⟨w1.heap.size,0,none⟩) 0 0) []∧Below w.heap.size w w2):=zTY (fun w1 w2 h1 h2=>by
  have h3:=HSx.noRs (HSx.freshW2 h1 h2);exact ⟨HS.FW (HSx.shutW2 h3 0 1 (by omega) rfl rfl) 0 rfl,h3.bl⟩)
 refine (zSh h hv hl hl').mono ?_;rintro e w2 ⟨r2,rfl,f2,b2⟩;have hs2:HS w w2 [aF r2 (wsR c v)]:=HSx.addF (HSx.nil (Below.refl _ w)) b2 f2;clear f2 b2;go_wp2_with fail
 refine (zRa (h.below hs2.bl) (hv.below hs2.bl) hl hl' (hM.below hs2.bl)).mono ?_;rintro e w3 ⟨r3,rfl,f3,b3⟩;have hs3:HS w w3 [aF r2 (wsR c v),aFW r3 (mlR c v)]:=HSx.add hs2 b3 (zNK _ _) f3 (fun _ h=>h);clear hs2 f3 b3;by_cases hall:wsOk c v=true∧mlOk c v=true
 ·obtain ⟨h1,h2⟩:=hall;have e0:ok=true:=by rw [HOK.out,h1,h2]; rfl
  have HR:=zTY (HYES.out e0);have HWS:=zTY (HDB.out h2);rw [h1,h2];subst e0;clear h1 h2 HYES HNO HOK HDB HEMP;obtain ⟨Z,hZ,hs4⟩:=HSx.openF hs3 0 rfl;have hs4:HS w w3 [aV 23 r2 (Z.map Prod.fst),aFW r3 (mlR c v),aRs Z]:=hs4;have hn0:Z.length≤16777216:=by rw [<-List.length_map (f:=Prod.snd),hZ]; have:=HWT.out; unfold zAC at this; omega
  have HZ:=zTY hZ;obtain ⟨a2,c2,e2⟩:=(HSx.formV hs4 0 rfl).1;rw [List.length_map] at e2;subst e2;clear hs3 hZ;generalize hn:Z.length=n at *;have HN:=zTY hn;clear hn;go_wp2_with fail
  have hs5:HS w (w3.alloc (.cells #[] 52)) [aV 23 (.slice a2 n c2) (Z.map Prod.fst),aFW r3 (mlR c v),aRs Z,aW2 (.slice (some ⟨w3.heap.size,0,none⟩) 0 0) []]:=HSx.freshW2 hs4 rfl;clear hs4;generalize hw4:w3.alloc (.cells #[] 52)=w4 at *;clear hw4;go_loopw [10,37] (fun oo ii wv=>∃(k:Nat) (E:El2),k≤n∧ii=.int .i64 k∧Hid (E.map Prod.snd=((wsR c v).take k).map (chaF c v))∧Hid (E.map (fun e=>(e.1,e.2.1))=Z.take k)∧HS w wv [aV 23 (.slice a2 n c2) (Z.map Prod.fst),aFW r3 (mlR c v),aRs Z,aW2 oo E]) (fun _ ii _=>n-(intOf ii).toNat)
  case atStart=>exact ⟨0,[],Nat.zero_le _,rfl,zTY rfl,zTY rfl,hs5⟩
  case round =>
   obtain ⟨k,E,hk,rfl,HE,HY,hs⟩:=hrel;by_cases hkn:k<n
   ·have i2:(k:Int)<(n:Int):=by omega
    obtain ⟨⟨pr,x⟩,hpk⟩:∃p,Z[k]? = some p:=⟨_,zTZ (by rw [HN.out]; exact hkn)⟩;obtain ⟨gq,cq,e3⟩:=(HSx.formV hs 0 rfl).2 (by rw [List.length_map,HN.out]; omega)
    injection e3 with e3 e4 e6
    subst e3;clear e4 e6;have cm:=(hs.cellV 0 rfl (j:=k) (r:=pr) (by rw [List.getElem?_map,hpk]; rfl)).1;have rm:=hs.rowS 2 rfl (zTa hpk);have hx1:(wsR c v)[k]? = some x:=by rw [<-HZ.out,List.getElem?_map,hpk]; rfl
    have hxw:=HWS.out x (zTa hx1);have HXW:=zTY hxw;have HXL:=zTY hxw.2;have HST:Hid (((wsR c v).take k).map (chaF c v)++[(x,zAY (dmL c x) (mlR c v))]=((wsR c v).take (k+1)).map (chaF c v)):=zTY (by rw [zAE hx1,List.map_append]; rfl);have HEL:Hid (E.length≤16777216):=zTY (by
     have h2:=congrArg List.length HE.out;rw [List.length_map,List.length_map,List.length_take] at h2;omega)
    have HDL:Hid ((dmL c x).length≤16777216):=zTY (by unfold dmL; rw [zBv,HXL.out]; unfold zAC at hl; omega);obtain ⟨ap,cp,e5⟩:=rm.form;simp only at e5;rw [HXL.out] at e5;subst e5;simp only at rm;have HPK:=zTY hpk;obtain ⟨_,hcc,hcor,hdm⟩:=zBA hxw.1;clear hpk hx1 hxw;go_wp2_with fail
    refine (zE5 (h.below hs.bl) rm hcc (zDz hcor hcc) hdm).mono ?_;rintro e w5 ⟨r5,r6,rfl,f5,_,_,b5⟩;have hs6:HS w w5 [aV 23 (.slice (some ⟨gq,0,none⟩) n c2) (Z.map Prod.fst),aFW r3 (mlR c v),aRs Z,aW2 u10 E,aI r5 (dmL c x)]:=HSx.addI hs b5 f5;clear hs f5 b5 rm cm hcc hcor hdm;go_wp2_with fail
    refine (zK4 (FW.any (HS.FW hs6 1 rfl)) (HS.I hs6 4 rfl).reads (by have:=HT.out; omega) HDL.out).mono ?_;rintro e w6 ⟨rfl,b6⟩;have hs7:HS w w6 _:=HSx.below hs6 b6;clear hs6 b6;generalize zAY (dmL c x) (mlR c v)=q at *;have hsA:HS w (w6.alloc (.cells #[.slice ap c.length cp,.int .i64 q] 52)) _:=HSx.alloc hs7 _;have hq:=HS.newW2 hsA 3 rfl;have hel:=HEL.out;go_wp2_with (at_builtin; go_must (refine zCT (r:=.slice ap c.length cp) (q:=q) rfl _ _ rfl x rfl hsA 3 rfl hq rfl (by go_simp) (by go_simp) rfl (by omega) ?_))
    intro v5 wE hsB _;have hsC:HS w wE [aV 23 (.slice (some ⟨gq,0,none⟩) n c2) (Z.map Prod.fst),aFW r3 (mlR c v),aRs Z,aW2 v5 (E++[(.slice ap c.length cp,(x,q))]),aI r5 (dmL c x)]:=hsB;have hsD:HS w wE [aV 23 (.slice (some ⟨gq,0,none⟩) n c2) (Z.map Prod.fst),aFW r3 (mlR c v),aRs Z,aW2 v5 (E++[(.slice ap c.length cp,(x,q))])]:=HSx.pick hsC [0,1,2,3] (by decide);have HE1:Hid ((E++[(Value.slice ap c.length cp,(x,q))]).map Prod.snd=((wsR c v).take (k+1)).map (chaF c v)):=zTY (by rw [List.map_append,HE.out,<-HST.out]; rfl);have HY1:Hid ((E++[(Value.slice ap c.length cp,(x,q))]).map (fun e=>(e.1,e.2.1))=Z.take (k+1)):=zTY (by rw [List.map_append,HY.out,zAE HPK.out]; rfl);clear hsA hsB hsC hs7;go_wp2_with fail
    go_roundw
    case rel=>exact ⟨k+1,_,by omega,by go_num,HE1,HY1,hsD⟩
    case measure=>simp [intOf]; omega
   ·have hk2:k=n:=by omega
    have i2:¬(k:Int)<(n:Int):=by omega
    have hfin:=HS.FW (HSx.shutW2 (HSx.pick hs [3,2] (by decide)) 0 1 (by omega) rfl (by rw [HY.out,hk2,List.take_of_length_le (by rw [HN.out]; exact zTd _)]; rfl)) 0 rfl;rw [HE.out,hk2,List.take_of_length_le (by rw [<-HZ.out,List.length_map,HN.out]; exact zTd _),<-HR.out] at hfin;have HFIN:=zTY hfin;have HBL:=zTY hs.bl;clear hfin hk2;go_wp2_with fail
    go_ret2
    exact ⟨_,rfl,HFIN.out,HBL.out⟩
 ·have e0:Hid (ok=false):=zTY (by
   rw [HOK.out];cases h1:wsOk c v
   ·rfl
   ·cases h2:mlOk c v
    ·rfl
    ·exact absurd ⟨h1,h2⟩ hall)
  obtain ⟨hfw,hfb⟩:=HEMP.out w3 _ (HSx.pick hs3 [] (by decide)) rfl;rw [<-HNO.out e0.out] at hfw;have HFIN:=zTY hfw;have HBL:=zTY hfb;clear hfw hfb hall;cases hA:wsOk c v
  ·clear hA;go_wp2_with fail
   go_ret2
   exact ⟨_,by rw [e0.out]; rfl,HFIN.out,HBL.out⟩
  ·cases hB:mlOk c v
   ·clear hA hB;go_wp2_with fail
    go_ret2
    exact ⟨_,by rw [e0.out]; rfl,HFIN.out,HBL.out⟩
   ·have:=HOK.out;rw [hA,hB,e0.out] at this;cases this
theorem zQw {S S':Nat→Prop} {x1 x2:Value} {c:List (List Int)} {v:List Int} {w:World} (h:RII S w x1 c) (hv:RI S' w x2 v) (hl:zAC c≤16777216) (hl':v.length≤16777216) :
  Calls Tryz.prog 20 #[x1,x2] w fun e w'=>∃r,e=.returned (.tuple #[r,.bool (chaB c v)])∧FW (New w w') w' r (chaR c v)∧Below w.heap.size w w':=zSq h hv hl hl'
theorem zLc {S S':Nat→Prop} {x1 x2:Value} {c:List (List Int)} {v:List Int} {w:World} (h:RII S w x1 c) (hv:RI S' w x2 v) (hl:zAC c≤16777216) (hl':v.length≤16777216) (hM:HasM w) :
  Calls Tryz.prog 21 #[x1,x2] w fun e w'=>∃r,e=.returned (.tuple #[r,.bool (chaB c v)])∧FW (New w w') w' r (chaR c v)∧Below w.heap.size w w':=zSp h hv hl hl' hM
end Go.Proofs.YtallmimhfmaapaaGreatDoor
