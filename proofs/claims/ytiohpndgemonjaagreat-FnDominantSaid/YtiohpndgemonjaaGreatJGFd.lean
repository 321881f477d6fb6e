/- Helpers of the law of dominant weights: equal lists of rows, a row in a list, a reflected weight, the matrix of no points. Condition: sizes up to 2^24. -/
import Derived.Test.YtiohpndgemonjaaGreatJGDrD
import Derived.Test.YtiohpndgemonjaaGreatJGStb
import Derived.Test.YtiohpndgemonjaaGreatJGMlt
namespace Go.Proofs.YtiohpndgemonjaaGreat
open Go.RowKit
set_option maxRecDepth 20000
set_option maxHeartbeats 8000000
theorem zIa {c:List (List Int)} {j:Nat} {l:List Int} (h:c[j]? = some l):l.length≤total c:=by
 induction c generalizing j with
 | nil=>simp at h
 | cons x c ih =>
  have ht:total (x::c)=total c+x.length+1:=by simp [total]; omega
  cases j with
  | zero=>simp at h; subst h; omega
  | succ j=>have:=ih (j:=j) (by simpa using h); omega
theorem zJb {S S':Nat→Prop} {w:World} {u v:Value} {L L':List (List Int)} (h:RII S w u L) (h':RII S' w v L') (hl:total L≤16777216) :
  Calls Tryz.prog 32 #[u,v] w fun e w'=>e=.returned (.bool (decide (L=L')))∧Below w.heap.size w w':=by
 have hn0:L.length≤16777216:=by unfold total at hl; omega
 obtain ⟨a,cap,rfl⟩:=h.form;obtain ⟨a',cap',rfl⟩:=h'.form;by_cases hne:L.length=L'.length
 ·have i0:((L.length:Int) != (L'.length:Int))=false:=by simp; omega
  have HY:Hid ((∀j,j<L.length→L[j]? = L'[j]?)→L=L'):=zQe (fun k=>List.ext_getElem? fun j=>by
   rcases Nat.lt_or_ge j L.length with hj | hj
   ·exact k j hj
   ·rw [List.getElem?_eq_none hj,List.getElem?_eq_none (by omega)])
  have HN:Hid (∀(j:Nat) (x y:List Int),L[j]? = some x→L'[j]? = some y→x≠y→L≠L'):=zQe (fun j x y hx hy hxy e=>by subst e; rw [hx] at hy; cases hy; exact hxy rfl);have HT:=zQe (fun (j:Nat) (x:List Int) (hx:L[j]? = some x)=>Nat.le_trans (zIa hx) hl);rw [<-hne] at h' i0 ⊢;generalize L.length=n at *;clear hne hl;go_enter Tryz.func32,Tryz.ntmps32
  go_wp2_with fail
  go_loopw [5] (fun kk wr=>∃(k:Nat),k≤n∧kk=.int .i64 k∧Hid (∀j,j<k→L[j]? = L'[j]?)∧Below w.heap.size w wr) (fun kk _=>n-(intOf kk).toNat)
  case atStart=>exact ⟨0,Nat.zero_le _,rfl,zQe (fun j hj=>by omega),Below.refl _ _⟩
  case round =>
   obtain ⟨k,hk,rfl,HK,hb⟩:=hrel;by_cases hlt:k<n
   ·have i1:(k:Int)<(n:Int):=by omega
    obtain ⟨b,o,r,x,rfl,hc0,hx,hx0⟩:=(h.below hb.drew).at hlt;obtain ⟨b',o',r',y,rfl,hc1,hy,hy0⟩:=(h'.below hb.drew).at hlt;have HX:=zQe hx0.out;have HY2:=zQe hy0.out;have tx:=HT.out k x hx0.out;have hsi:=zEI hx hy tx;have l0:=zQi _ _ hc0;have l1:=zQi _ _ hc1;obtain ⟨a3,c3,rfl⟩:=hx.form;obtain ⟨a4,c4,rfl⟩:=hy.form;by_cases hxy:x=y
    ·rw [decide_eq_true hxy] at hsi;have HK2:Hid (∀j,j<k+1→L[j]? = L'[j]?):=zQe (fun j hj=>by
      rcases Nat.lt_or_ge j k with h1 | h1
      ·exact HK.out j h1
      ·obtain rfl:j=k:=by omega
       rw [HX.out,HY2.out,hxy])
     clear hxy hx hy hx0 hy0;generalize x.length=xn at *;generalize y.length=yn at *;go_wp2_with fail
     go_region_held3 (fun w'=>w'.cell? ⟨b,o+k,none⟩=some (.slice a3 xn c3)∧w'.cell? ⟨b',o'+k,none⟩=some (.slice a4 yn c4)) (first | go_keep | exact ⟨p1,p2⟩ | exact ⟨hc0,hc1⟩) ((go_at_call 8; refine hsi.mono ?_; rintro e w4 ⟨rfl,b4⟩; have p1:=(b4.cell (p:=⟨b,o+k,none⟩) l0).trans hc0; have p2:=(b4.cell (p:=⟨b',o'+k,none⟩) l1).trans hc1))
     have hb2:=zAA.step hb.drew b4;clear hsi hc0 hc1 p1 p2;go_wp2_with fail
     go_roundw
     case rel=>exact ⟨k+1,by omega,by go_num,HK2,hb2⟩
     case measure=>simp [intOf]; omega
    ·rw [decide_eq_false hxy] at hsi;have HF:=zQe (HN.out k x y HX.out HY2.out hxy);clear hxy hx hy hx0 hy0;generalize x.length=xn at *;generalize y.length=yn at *;go_wp2_with fail
     go_region_held3 (fun w'=>w'.cell? ⟨b,o+k,none⟩=some (.slice a3 xn c3)∧w'.cell? ⟨b',o'+k,none⟩=some (.slice a4 yn c4)) (first | go_keep | exact ⟨p1,p2⟩ | exact ⟨hc0,hc1⟩) ((go_at_call 8; refine hsi.mono ?_; rintro e w4 ⟨rfl,b4⟩; have p1:=(b4.cell (p:=⟨b,o+k,none⟩) l0).trans hc0; have p2:=(b4.cell (p:=⟨b',o'+k,none⟩) l1).trans hc1))
     have hb2:=zAA.step hb.drew b4;clear hsi hc0 hc1 p1 p2;go_wp2_with fail
     go_ret
     exact ⟨zAB (by simp [HF.out]),hb2⟩
   ·have i1:¬(k:Int)<(n:Int):=by omega
    have hkn:k=n:=by omega
    have HF:=zQe (HY.out (by rw [<-hkn]; exact HK.out));clear hkn;go_wp2_with fail
    go_ret
    exact ⟨zAB (by simp [HF.out]),hb⟩
 ·have i0:((L.length:Int) != (L'.length:Int))=true:=by simp; omega
  have HF:Hid (L≠L'):=zQe (fun e=>hne (congrArg List.length e));clear hne;generalize L.length=n at *;generalize L'.length=n' at *;go_enter Tryz.func32,Tryz.ntmps32
  go_wp2_with fail
  go_ret
  exact ⟨zAB (by simp [HF.out]),Below.refl _ _⟩
theorem zIT {S S':Nat→Prop} {w:World} {u v:Value} {L:List (List Int)} {q:List Int} (h:RII S w u L) (h':RI S' w v q) (hl:total L≤16777216) (hq:q∈L) :
  Calls Tryz.prog 17 #[u,v] w fun e w'=>e=.returned (.bool true)∧Below w.heap.size w w':=by
 obtain ⟨a,cap,rfl⟩:=h.form;have hn0:L.length≤16777216:=by unfold total at hl; omega
 obtain ⟨z,hz⟩:=List.getElem?_of_mem hq;have hzn:=(zQh hz).1;have HZ:=zQe hz;have HT:=zQe (fun (j:Nat) (x:List Int) (hx:L[j]? = some x)=>Nat.le_trans (zIa hx) hl);generalize L.length=n at *;clear hz hq hl;go_enter Tryz.func17,Tryz.ntmps17
 go_wp2_with fail
 go_loopw [5] (fun kk wr=>∃(k:Nat),k≤z∧kk=.int .i64 k∧Below w.heap.size w wr) (fun kk _=>n-(intOf kk).toNat)
 case atStart=>exact ⟨0,Nat.zero_le _,rfl,Below.refl _ _⟩
 case round =>
  obtain ⟨k,hk,rfl,hb⟩:=hrel;have i1:(k:Int)<(n:Int):=by omega
  obtain ⟨b,o,r,x,rfl,hc0,hx,hx0⟩:=(h.below hb).at (show k<n by omega);have HX:=zQe hx0.out;have tx:=HT.out k x hx0.out;go_wp2_with fail
  refine (zEI hx (h'.below hb) tx).mono ?_;rintro e w2 ⟨rfl,b2⟩;have hb2:=zAA.step hb b2;by_cases hxy:x=q
  ·rw [decide_eq_true hxy];clear hxy;go_wp2_with fail
   go_ret
   exact ⟨rfl,hb2⟩
  ·rw [decide_eq_false hxy];have hkz:k<z:=by
    rcases Nat.lt_or_ge k z with h1 | h1
    ·exact h1
    ·have h2:k=z:=by omega
     have h3:=HX.out;rw [h2,HZ.out] at h3;cases h3;exact absurd rfl hxy
   clear hxy;go_wp2_with fail
   go_roundw
   case rel=>exact ⟨k+1,by omega,by go_num,hb2⟩
   case measure=>simp [intOf]; omega
theorem zFK {S S':Nat→Prop} {u v:Value} {c:List (List Int)} {l:List Int} {w:World} (h:RII S w u c) (h':RI S' w v l) (hl:total c≤16777216) (hC:isC c=true) (hln:l.length=c.length) {i:Nat} (hi:i<c.length) :
  Calls Tryz.prog 12 #[u,.int .i64 i,v] w fun e w'=>∃r,e=.returned r∧FI (New w w') w' r (refl c i l)∧Below w.heap.size w w':=by
 have hcp:=zAM.1 hC;have h4:=hcp.le;obtain ⟨a,cap,rfl⟩:=h.form;obtain ⟨a',cap',rfl⟩:=h'.form;have HS:=zQe hcp.sq;have HL:=zQe hln;have HCS:=zQe (hC ▸ zAT h hl:Calls Tryz.prog 43 #[.slice a c.length cap] w fun e w'=>e=.returned (.bool true)∧∃m,w'=w.drewN m);rw [hln] at h' ⊢;clear hcp hC hln;generalize hn:c.length=n at *;have HN:=zQe hn;clear hn;have e0:((n:Int) != (n:Int))=false:=by simp
 have hw1:IntKind.i64.wrap ((n:Int)-1)=(n:Int)-1:=IntWalk.i64_in _ (by omega);have HQ:Hid (∀w':World,Calls Tryz.prog 44 #[.int .i64 (i:Int),.int .i64 0,.int .i64 ((n:Int)-1)] w' fun e w''=>e=.returned (.bool true)∧w''=w') :=
  zQe (fun w'=>(zBF i 0 ((n:Int)-1) w').mono fun e w'' ⟨h1,h2⟩=>⟨by rw [h1,zBU (by omega)],h2.symm⟩)
 go_enter Tryz.func12,Tryz.ntmps12
 go_wp2_with fail
 refine HCS.out.mono ?_;rintro e w1 ⟨rfl,hw2⟩;have b1:=zAO hw2;clear hw2;go_wp2_with fail
 refine (HQ.out _).mono ?_;rintro e w2 ⟨rfl,rfl⟩;go_wp2_with fail
 refine (zCo (h.below b1) (h'.below b1) i hi HS.out HL.out (by omega)).mono ?_;rintro e w3 ⟨r,rfl,f3,b3⟩;have b03:=zAA.step b1 b3;have hs:=b1.size;go_wp2_with fail
 go_ret
 exact ⟨_,rfl,f3.mono (fun b hb=>⟨by have:=hb.1; omega,hb.2⟩),b03⟩
theorem zHv {S S':Nat→Prop} {u v:Value} {c:List (List Int)} {w:World} (h:RII S w u c) (h':RI S' w v []) (hc:CartanP c) (hl:total c≤16777216) :
  Calls Tryz.prog 15 #[u,v] w fun e w'=>∃r,e=.returned (.tuple #[r,.bool false])∧Below w.heap.size w w':=by
 obtain ⟨a,cap,rfl⟩:=h.form;obtain ⟨a',cap',rfl⟩:=h'.form;have HC:=zQe hc;clear hc;have z0:(((0:Nat):Int) == 0)=true:=by simp
 go_enter Tryz.func15,Tryz.ntmps15
 go_wp2_with fail
 obtain ⟨w1,hw1⟩:∃w1,w1=w.alloc (.cells #[] 25):=⟨_,rfl⟩;have b1:Below w.heap.size w w1:=by rw [hw1]; exact (Below.refl _ w).alloc (zQj _) _
 rw [<-hw1];clear hw1;refine (zKL (h.below b1) (h'.below b1) HC.out hl (fun k x hx=>by simp at hx) (fun k x y hx _=>by simp at hx) (by simp)).mono ?_;rintro e w2 ⟨rfl,hw2⟩;have b2:=zAO hw2;have b02:=zAA.step b1 b2;clear hw2 b1 b2;go_wp2_with fail
 go_ret2
 exact ⟨_,rfl,b02⟩
theorem zFZ (c:List (List Int)) (v:List Int):∀w:List Int,act c w v=actN c (w.map Int.toNat) v
 | []=>rfl
 | i::w=>by
  show refl c i.toNat (act c w v)=refl c i.toNat (actN c (w.map Int.toNat) v);rw [zFZ c v w]
theorem zOh {c:List (List Int)} {l:List Int} (h:zAZ c l=true) (hn:(nf c 30 l).length≤15):zCj c (nf c 30 l) (dmL c l)=l:=by
 obtain ⟨hF,hc,hT,hD⟩:=zAf h;have hp:=zDr (zCZ hT hc) _ hD;have hln:l.length=c.length:=hD.1.len;have hw:isWd c (nf c 30 l)=true:=by
  unfold isWd;rw [zAM.2 hc,decide_eq_true hn,zCA.2 fun x hx=>by have:=hp x hx; unfold ptB; exact zBU (by omega)];rfl
 have hd:(dmL c l).length=c.length:=by unfold dmL; rw [zBv,hln]
 unfold zCj;rw [hw,decide_eq_true hd];show act c (nf c 30 l) (act c (nf c 30 l).reverse l)=l;rw [zFZ,zFZ,List.map_reverse];refine zC6 hT hc hD.1 fun i hi=>?_;obtain ⟨x,hx,rfl⟩:=List.mem_map.1 hi;have:=hp x hx;omega
theorem zOi {c:List (List Int)} (hc:CartanP c) {i j:Nat} (hi:i<c.length) (hj:j<c.length):-3≤ent c i j∧ent c i j≤2:=by
 have:=hc.ok i j hi hj;unfold okE at this;split at this
 ·simp at this; omega
 ·simp at this; omega
theorem zNB {c:List (List Int)} (hc:CartanP c) {i:Nat} (hi:i<c.length) {v:List Int} (hl:v.length=c.length) (hv:∀x∈v,-2≤x∧x≤2):∀x∈refl c i v,-20≤x∧x≤20:=fun x hx=>by
 obtain ⟨j,hj⟩:=List.getElem?_of_mem hx;have hjl:j<v.length:=by have:=(zQh hj).1; rwa [zAU] at this
 have hn:∀k,-2≤num v k∧num v k≤2:=fun k=>by
  unfold num;cases e:v[k]? with
  | none=>simp
  | some x=>exact hv x (zQg e)
 have e:=refl_num (c:=c) (i:=i) hjl;rw [zAe hj] at e;have h1:=hn i;have h2:=hn j;have h3:=zOi hc (show j<c.length by omega) hi;generalize ent c j i=q at *;generalize num v i=p at *;generalize num v j=y at *;have h4:q = -3∨q = -2∨q = -1∨q=0∨q=1∨q=2:=by omega
 clear hj hx hv hn;have hb:-6≤p*q∧p*q≤6:=by rcases h4 with rfl | rfl | rfl | rfl | rfl | rfl <;> omega
 generalize p*q=s at *;have e1:wrap64 s=s:=by unfold wrap64; omega
 have e2:wrap64 (y-s)=y-s:=by unfold wrap64; omega
 rw [e1,e2] at e;omega
theorem zOj {c:List (List Int)} {l:List Int} (h:zAZ c l=true) (hs:∀x∈l,-2≤x∧x≤2) {i:Nat} (hi:i<c.length):zAZ c (refl c i l)=true∧dom1 c (refl c i l)=dmL c l:=by
 obtain ⟨hF,hc,hT,hD⟩:=zAf h;have hln:l.length=c.length:=hD.1.len;have hsm:=zNB hc hi hln hs;have h1:zAZ c (refl c i l)=true:=by
  have h2:=h;unfold zAZ at h2 ⊢;rw [Bool.and_eq_true] at h2 ⊢;refine ⟨?_,h2.2⟩;unfold isW;rw [zAM.2 hc,decide_eq_true (show (refl c i l).length=c.length by rw [zAU,hln]),zCA.2 fun x hx=>by have:=hsm x hx; unfold wtB; exact zBU (by omega)];rfl
 refine ⟨h1,?_⟩;unfold dom1;rw [if_pos h1];exact zLq hT hc hD.1 hi
theorem zQB {c:List (List Int)} {l:List Int} (h:zAZ c l=true):dom (dmL c l)=true:=by
 obtain ⟨hF,hc,hT,hD⟩:=zAf h;exact zE4.2 (zBN.1 (zDM hT hc hD.1).1)
theorem zGe:∀(v:List Int) (k:Nat),zAH v k=((List.range v.length).filter fun i=>decide (num v i=0)).map fun i=>((k+i:Nat):Int)
 | [],k=>rfl
 | x::v,k=>by
  rw [List.length_cons,List.range_succ_eq_map,List.filter_cons];have h0:num (x::v) 0=x:=by simp [num]
  have h1:((List.range v.length).map Nat.succ).filter (fun i=>decide (num (x::v) i=0))=((List.range v.length).filter fun i=>decide (num v i=0)).map Nat.succ:=by
   rw [List.filter_map];congr 1
  rw [h0,h1];unfold zAH;rw [zGe v (k+1)];have h2:∀L:List Nat,(L.map Nat.succ).map (fun i=>((k+i:Nat):Int))=L.map fun i=>((k+1+i:Nat):Int):=fun L=>by
   rw [List.map_map];refine List.map_congr_left fun a _=>?_;simp only [Function.comp];omega
  by_cases hx:x=0
  ·simp only [hx,if_true,decide_true,List.map_cons,h2];simp
  ·simp only [hx,if_false,decide_false,h2];simp;intros;omega
theorem zHr {v:List Int} {n:Nat} (h:v.length=n):zAH v 0=(zA6 v n).map fun (i:Nat)=>(i:Int):=by
 rw [zGe,<-h];unfold zA6;simp
theorem zPS (c:List (List Int)) (S:List Nat):subL c (S.map fun (i:Nat)=>(i:Int))=Fin.sub c S:=by
 simp only [subL,rowL,Fin.sub,List.map_map];rfl
theorem zMP {n:Nat} {q:List (List Int)} (hq:∀x∈q,x.length=n) (hn:q.Nodup):(zAF q).length=q.length:=by
 obtain ⟨h1,h2⟩:=zA3 hq;have h3:(zAF q).Nodup:=by
  refine List.Pairwise.imp (fun {a b} h e=>?_) h1.srt;subst e;rw [zB0] at h;cases h
 have k1:=zBk hn (m:=zAF q) fun x hx=>(h2 x).2 hx;have k2:=zBk h3 (m:=q) fun x hx=>(h2 x).1 hx;omega
theorem zNA {c:List (List Int)} {l:List Int} (hk:obOk c l=true):zAZ c l=true∧l∈obR c l∧(obR c l).length≤200 ∧
  (zAH (dmL c l) 0=[]→(obR c l).length=szC c) ∧
  (zAH (dmL c l) 0≠[]→FinP (subL c (zAH (dmL c l) 0))∧(obR c l).length*szC (subL c (zAH (dmL c l) 0))=szC c):=by
 unfold obOk at hk;rw [Bool.and_eq_true] at hk;obtain ⟨h,hq⟩:=hk;obtain ⟨hF,hc,hT,hD⟩:=zAf h;obtain ⟨s,hs⟩:=Option.isSome_iff_exists.1 hq;have hv:=hD.1;obtain ⟨d1,d2⟩:=zDM hT hc hv;have hw:=d2.wt hT hc hv;have q1:QOk c (dmL c l) 0 [dmL c l]:=⟨zBs _,by simp,Nat.zero_le _,fun x hx=>by rw [List.mem_singleton] at hx; subst hx; exact Rch.refl c _,List.mem_singleton.2 rfl,fun j u hj=>by omega⟩;have hall:s.Nodup∧s.length≤200∧(∀x∈s,Rch c (dmL c l) x)∧l∈s:=by
  rcases zCh 201 0 _ q1 (by omega) with ⟨s',e',b1,b2,b3,b4,b5⟩ | ⟨e',_⟩
  ·have e2:some s=some s':=by rw [<-hs,<-e']; rfl
   cases e2;exact ⟨b1,b2,b3,zGY hT hc hw d1 b4 b5 _ ⟨hv,rfl⟩ (Rch.symm hT hc hv d2)⟩
  ·have e2:some s=none:=by rw [<-hs,<-e']; rfl
   cases e2
 obtain ⟨a1,a2,a3,a4⟩:=hall;have hsl:∀x∈s,x.length=c.length:=fun x hx=>((a3 x hx).wt hT hc hw).len;have e1:obR c l=zAF s:=by unfold obR; rw [if_pos h,hs]; rfl
 have e2:=zMP hsl a1;have e3:=zNb hF hv hs;have hfin:finB c=true:=by unfold zAZ at h; rw [Bool.and_eq_true] at h; exact h.2
 have e4:szC c=szP c:=by unfold szC; rw [if_pos hfin]
 have e5:zAH (dmL c l) 0=(zA6 (dmL c l) c.length).map fun (i:Nat)=>(i:Int):=zHr hw.len;rw [e1,e2,e4,e3,e5];refine ⟨h,(zA3 hsl).2 l |>.2 a4,by omega,fun hz=>?_,fun hz=>?_⟩
 ·have hz:zA6 (dmL c l) c.length=[]:=by simpa using hz
  rw [hz];show s.length=s.length*szQ (Fin.sub c []);rw [show szQ (Fin.sub c [])=1 from rfl,Nat.mul_one]
 ·have hz:zA6 (dmL c l) c.length≠[]:=fun e=>hz (by rw [e]; rfl);obtain ⟨q,q1,q2⟩:=zEM hF (dmL c l);have h0:1≤(zA6 (dmL c l) c.length).length:=by
   cases hh:zA6 (dmL c l) c.length with
   | nil=>exact absurd hh hz
   | cons a b=>simp
  have hFs:=zGy hF q1 q2 h0;rw [zPS];have hfb:finB (Fin.sub c (zA6 (dmL c l) c.length))=true:=by unfold finB; rw [zAM.2 hFs.cart,hFs.pos]; rfl
  refine ⟨hFs,?_⟩;unfold szC szQ;rw [if_pos hfb,if_neg (by rw [zB5]; omega)]
theorem zLT {n:Nat} (p:Nat→Bool):Asc (((List.range n).filter p).map fun (i:Nat)=>(i:Int)):=by
 have h:((List.range n).filter p).Pairwise (· < ·):=List.Pairwise.filter _ List.pairwise_lt_range;intro j x y hx hy;rw [List.getElem?_map] at hx hy;obtain ⟨a,ha,rfl⟩:=Option.map_eq_some_iff.1 hx;obtain ⟨b,hb,rfl⟩:=Option.map_eq_some_iff.1 hy;obtain ⟨h1,e1⟩:=zQh ha;obtain ⟨h2,e2⟩:=zQh hb;have:=List.pairwise_iff_getElem.1 h j (j+1) h1 h2 (by omega);rw [e1,e2] at this;omega
theorem zMs {c:List (List Int)} {v:List Int} (hv:v.length=c.length):Pts c.length (zAH v 0)∧Asc (zAH v 0):=by
 rw [zHr hv];refine ⟨fun j x hx=>?_,zLT _⟩;rw [List.getElem?_map] at hx;obtain ⟨a,ha,rfl⟩:=Option.map_eq_some_iff.1 hx;exact ⟨a,rfl,(zD9.1 (zQg ha)).1⟩
theorem zM9 {c:List (List Int)} {v:List Int} {x:List Int} (hx:x∈dbR c v):wbB c x v=true:=by
 have hd:dbC c v=true:=by
  cases e:dbC c v with
  | true=>rfl
  | false=>unfold dbR at hx; rw [e] at hx; simp at hx
 have h:=hd;unfold dbC at h;rw [Bool.and_eq_true,Bool.and_eq_true,decide_eq_true_eq] at h;obtain ⟨h4,hf,hl⟩:=h;have hF:=zDq hf;have hB:=zOY hF hd x hx;have hb:=hB.bd hF hl h4;have hwx:isW c x=true:=by
  unfold isW;rw [zAM.2 hF.cart,decide_eq_true hB.len,zCA.2 fun y hy=>by
   obtain ⟨k,hk⟩:=List.getElem?_of_mem hy;have h1:=hb.num hF (i:=k) (by have:=(zQh hk).1; have:=hB.len; omega);rw [zAe hk] at h1;unfold wtB; exact zBU (by omega)]
  rfl
 have hwv:isW c v=true:=by
  unfold isW;rw [zAM.2 hF.cart,decide_eq_true hl,zCA.2 fun y hy=>by
   obtain ⟨k,hk⟩:=List.getElem?_of_mem hy;have h1:=zKO h4 k;rw [zAe hk] at h1;unfold wtB; exact zBU (by omega)]
  rfl
 obtain ⟨m,hm,_⟩:=hB.lat;unfold wbB;rw [hwx,hwv,hf,zOp hF hm];rfl
end Go.Proofs.YtiohpndgemonjaaGreat
