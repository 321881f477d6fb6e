/- Polynomials without zeros at their end. Condition: at most 2^24 numbers. -/
import Derived.Laws.CopyOwn
import Derived.Handy
import Derived.Maps.OwnSet
import Derived.Maps.OwnOps
import Derived.DeepKeys4
import Derived.Test.YtlgcdacpjcnjgaaGreatDoorJGHeap
namespace Go.Proofs.YtlgcdacpjcnjgaaGreatDoor
open Go.RowKit
set_option maxRecDepth 20000
set_option maxHeartbeats 8000000
def zAl (p:List Int):Nat→Nat
 | 0=>0
 | n+1=>if num p n=0 then zAl p n else n+1
def trim (p:List Int):List Int:=p.take (zAl p p.length)
theorem zH5 (p:List Int):∀n,zAl p n≤n
 | 0=>zTI _
 | n+1=>by
  unfold zAl;have:=zH5 p n;split <;> omega
theorem zDO (p:List Int):(trim p).length≤p.length:=by unfold trim; simp; omega
theorem RI.take {S:Nat→Prop} {w:World} {a:Option Addr} {n cap k:Nat} {l:List Int} (h:RI S w (.slice a n cap) l) (hk:k≤n):RI S w (.slice a k cap) (l.take k):=by
 obtain ⟨a',cap',hv,hc,h⟩:=h;simp only [Value.slice.injEq] at hv;obtain ⟨rfl,rfl,rfl⟩:=hv;have hl:(l.take k).length=k:=by simp; omega
 refine ⟨a,cap,by rw [hl],⟨by omega,hc.2⟩,?_⟩;rcases h with h | ⟨b,o,ha,hs,ht,h⟩
 ·subst h; exact .inl (by simp)
 ·exact .inr ⟨b,o,ha,hs,ht,fun j x hx=>h j x (by rw [List.getElem?_take] at hx; split at hx <;> first | exact hx | cases hx)⟩
theorem zBm {S:Nat→Prop} {v:Value} {l:List Int} {w:World} (h:RI S w v l) (hl:l.length≤16777216) :
  Calls Tryz.prog 177 #[v] w fun e w'=>∃r,e=.returned r∧FI (New w w') w' r (trim l)∧Below w.heap.size w w':=by
 obtain ⟨a,cap,rfl⟩:=h.form;have HC:l.length≤cap:=by
  obtain ⟨_,_,hv,hc,_⟩:=h;simp only [Value.slice.injEq] at hv;obtain ⟨_,_,rfl⟩:=hv;exact hc.1
 have HR:Hid (l.take (zAl l l.length)=trim l):=zTD rfl;generalize hn:l.length=n at *;have HN:=zTD hn;clear hn;go_enter Tryz.func177,Tryz.ntmps177
 go_wp2_with fail
 go_loop [3] (fun j=>∃(k:Nat),k≤n∧j=.int .i64 k∧Hid (zAl l k=zAl l n)) (fun j=>(intOf j).toNat)
 case atStart=>exact ⟨n,zTI _,rfl,zTD rfl⟩
 case round =>
  obtain ⟨k,hk,rfl,HK⟩:=hrel;have fin:Hid (zAl l k=k)→Hid (trim l=l.take k∧(l.take k).length≤k):=fun e=>zTD ⟨by rw [<-HR.out,<-HK.out,e.out],by simp; omega⟩;have hcp:=h.take hk;have hkc:k≤cap:=by omega
  rcases k with _ | k
  ·have HF:=fin (zTD rfl);obtain ⟨f1,b1⟩:=zAN (w:=w) (Below.refl _ w) rfl;go_wp2_with (at_builtin; go_must (refine zAL (W:=w) rfl _ _ rfl rfl f1 b1 rfl (hcp.below b1) ?_ ?_))
   intro v1 w2 f2 b2 _;go_wp2_with fail
   go_ret
   rw [HF.out.1];exact ⟨_,rfl,f2,b2⟩
  ·obtain ⟨b,o,x,rfl,hc,hx⟩:=h.at (j:=k) (by omega);have e1:((k+1:Nat):Int)-1=(k:Int):=by omega
   by_cases hx0:x=0
   ·have HK2:Hid (zAl l k=zAl l n):=zTD (by rw [<-HK.out]; show _=if num l k=0 then zAl l k else k+1; rw [if_pos (by rw [zAx hx.out]; exact hx0)]);clear fin hcp;subst hx0;go_wp2_with fail
    go_round
    case rel=>exact ⟨k,by omega,by go_num,HK2⟩
    case measure=>simp [intOf]
   ·have HF:=fin (zTD (by show (if num l k=0 then zAl l k else k+1)=k+1; rw [if_neg (by rw [zAx hx.out]; exact hx0)]));clear fin;obtain ⟨f1,b1⟩:=zAN (w:=w) (Below.refl _ w) rfl;go_wp2_with (at_builtin; go_must (refine zAL (W:=w) rfl _ _ rfl rfl f1 b1 rfl (hcp.below b1) ?_ ?_))
    ·have:=HF.out.2; simp; omega
    ·intro v1 w2 f2 b2 _;go_wp2_with fail
     go_ret
     rw [HF.out.1];exact ⟨_,rfl,f2,b2⟩
theorem zCe {S:Nat→Prop} {v:Value} {l:List Int} {w:World} (h:RI S w v l) (hl:l.length≤16777216) :
  Calls Tryz.prog 198 #[v] w fun e w'=>∃r,e=.returned r∧FI (New w w') w' r (trim l)∧Below w.heap.size w w':=by
 obtain ⟨a,cap,rfl⟩:=h.form;have HC:l.length≤cap:=by
  obtain ⟨_,_,hv,hc,_⟩:=h;simp only [Value.slice.injEq] at hv;obtain ⟨_,_,rfl⟩:=hv;exact hc.1
 have HR:Hid (l.take (zAl l l.length)=trim l):=zTD rfl;generalize hn:l.length=n at *;have HN:=zTD hn;clear hn;go_enter Tryz.func198,Tryz.ntmps198
 go_wp2_with fail
 go_loop [3] (fun j=>∃(k:Nat),k≤n∧j=.int .i64 k∧Hid (zAl l k=zAl l n)) (fun j=>(intOf j).toNat)
 case atStart=>exact ⟨n,zTI _,rfl,zTD rfl⟩
 case round =>
  obtain ⟨k,hk,rfl,HK⟩:=hrel;have fin:Hid (zAl l k=k)→Hid (trim l=l.take k∧(l.take k).length≤k):=fun e=>zTD ⟨by rw [<-HR.out,<-HK.out,e.out],by simp; omega⟩;have hcp:=h.take hk;have hkc:k≤cap:=by omega
  rcases k with _ | k
  ·have HF:=fin (zTD rfl);obtain ⟨f1,b1⟩:=zAN (w:=w) (Below.refl _ w) rfl;go_wp2_with (at_builtin; go_must (refine zAL (W:=w) rfl _ _ rfl rfl f1 b1 rfl (hcp.below b1) ?_ ?_))
   intro v1 w2 f2 b2 _;go_wp2_with fail
   go_ret
   rw [HF.out.1];exact ⟨_,rfl,f2,b2⟩
  ·obtain ⟨b,o,x,rfl,hc,hx⟩:=h.at (j:=k) (by omega);have e1:((k+1:Nat):Int)-1=(k:Int):=by omega
   by_cases hx0:x=0
   ·have HK2:Hid (zAl l k=zAl l n):=zTD (by rw [<-HK.out]; show _=if num l k=0 then zAl l k else k+1; rw [if_pos (by rw [zAx hx.out]; exact hx0)]);clear fin hcp;subst hx0;go_wp2_with fail
    go_round
    case rel=>exact ⟨k,by omega,by go_num,HK2⟩
    case measure=>simp [intOf]
   ·have HF:=fin (zTD (by show (if num l k=0 then zAl l k else k+1)=k+1; rw [if_neg (by rw [zAx hx.out]; exact hx0)]));clear fin;obtain ⟨f1,b1⟩:=zAN (w:=w) (Below.refl _ w) rfl;go_wp2_with (at_builtin; go_must (refine zAL (W:=w) rfl _ _ rfl rfl f1 b1 rfl (hcp.below b1) ?_ ?_))
    ·have:=HF.out.2; simp; omega
    ·intro v1 w2 f2 b2 _;go_wp2_with fail
     go_ret
     rw [HF.out.1];exact ⟨_,rfl,f2,b2⟩
def zBC (a b:List Int) (n:Nat):List Int:=(List.range n).map fun k=>wrap64 (num a k+num b k)
def addP (a b:List Int):List Int:=trim (zBC a b (max a.length b.length))
theorem zEW (a b:List Int) (k:Nat):zBC a b (k+1)=zBC a b k++[wrap64 (num a k+num b k)]:=by simp [zBC,List.range_succ]
theorem zFG (a b:List Int) (k:Nat):(zBC a b k).length=k:=by simp [zBC]
theorem zBa {l:List Int} {k:Nat} (h:l.length≤k):num l k=0:=by simp [num,List.getElem?_eq_none h]
theorem zHG {x:Int} (h:-9223372036854775808≤x∧x≤9223372036854775807):wrap64 x=x:=by unfold wrap64; omega
def InI (l:List Int):Prop:=∀x∈l,-9223372036854775808≤x∧x≤9223372036854775807
theorem zGv {S S':Nat→Prop} {u v:Value} {l l':List Int} {w:World} (h:RI S w u l) (h':RI S' w v l') (hi:InI l) (hi':InI l') (hl:l.length≤8388608) (hl':l'.length≤8388608) :
  Calls Tryz.prog 178 #[u,v] w fun e w'=>∃r,e=.returned r∧FI (New w w') w' r (addP l l')∧Below w.heap.size w w':=by
 obtain ⟨a,cap,rfl⟩:=h.form;obtain ⟨a',cap',rfl⟩:=h'.form;have HR:Hid (trim (zBC l l' (max l.length l'.length))=addP l l'):=zTD rfl;have HB:Hid (∀(k:Nat) (x y:Int),l[k]? = some x→l'[k]? = some y→zBC l l' (k+1)=zBC l l' k++[wrap64 (x+y)]):=zTD (fun k x y hx hy=>by rw [zEW,zAx hx,zAx hy]);have HL:Hid (∀(k:Nat) (x:Int),l[k]? = some x→l'.length≤k→zBC l l' (k+1)=zBC l l' k++[x]):=zTD (fun k x hx hk=>by rw [zEW,zAx hx,zBa hk,Int.add_zero,zHG (hi x (zTF hx))]);have HRR:Hid (∀(k:Nat) (y:Int),l'[k]? = some y→l.length≤k→zBC l l' (k+1)=zBC l l' k++[y]):=zTD (fun k y hy hk=>by rw [zEW,zAx hy,zBa hk,Int.zero_add,zHG (hi' y (zTF hy))]);have HW:Hid (∀y∈l',-9223372036854775808≤y∧y≤9223372036854775807):=zTD hi';have HLEN:=zTD (zFG l l');have hm0:max l.length l'.length≤8388608:=by omega
 clear hi hi';generalize addP l l'=res at *;generalize hn:l.length=n at *;have HN:=zTD hn;clear hn;generalize hm:l'.length=m at *;have HM:=zTD hm;clear hm;go_enter Tryz.func178,Tryz.ntmps178
 go_wp2_with fail
 obtain ⟨w1,hw1⟩:∃w1,w1=w.alloc (.cells #[] 3):=⟨_,rfl⟩;obtain ⟨f1,b1⟩:=zAN (Below.refl _ w) hw1;rw [<-hw1];clear hw1;have f1:FI (New w w1) w1 (.slice (some ⟨w.heap.size,0,none⟩) 0 0) (zBC l l' 0):=f1;go_loopw [5,6] (fun zz j wr=>∃(k:Nat) (z:Value),z=zz∧k≤max n m∧j=.int .i64 k∧FI (New w wr) wr z (zBC l l' k)∧Below w.heap.size w wr) (fun _ j _=>max n m-(intOf j).toNat)
 case atStart=>exact ⟨0,_,rfl,Nat.zero_le _,rfl,f1,b1⟩
 case round =>
  obtain ⟨k,z,rfl,hk,rfl,hf,hb⟩:=hrel;have hal:=HLEN.out k;have HAL:=zTD hal;clear hal;by_cases h1:k<n
  ·obtain ⟨b,o,x,e8,hcx,hx⟩:=(h.below hb).at h1;subst e8;have i1:(k:Int)<(n:Int):=by omega
   by_cases h2:k<m
   ·obtain ⟨b2,o2,y,e9,hcy,hy⟩:=(h'.below hb).at h2;subst e9;have HST:=zTD (HB.out k x y hx.out hy.out);generalize zBC l l' k=A at *;have i2:(k:Int)<(m:Int):=by omega
    have bb:Below wr.heap.size wr (wr.alloc (.cells #[.int .i64 (wrap64 (x+y))] 3)):=(Below.refl _ _).alloc (zTI _) _;go_wp2_with (at_builtin; go_must (refine zAL (W:=w) rfl _ _ rfl rfl (hf.grow bb) (zAC.step hb bb) rfl (RI.one _ (wrap64 (x+y))) ?_ ?_))
    ·have:=HAL.out; simp; omega
    ·intro v7 w7 f7 b7 _;go_wp2_with fail
     go_roundw
     case rel=>exact ⟨k+1,_,rfl,by omega,by go_num,by rw [HST.out]; exact f7,b7⟩
     case measure=>simp [intOf]; omega
   ·have HST:=zTD (HL.out k x hx.out (by have:=HM.out; omega));generalize zBC l l' k=A at *;have i2:¬(k:Int)<(m:Int):=by omega
    have bb:Below wr.heap.size wr (wr.alloc (.cells #[.int .i64 x] 3)):=(Below.refl _ _).alloc (zTI _) _;go_wp2_with (at_builtin; go_must (refine zAL (W:=w) rfl _ _ rfl rfl (hf.grow bb) (zAC.step hb bb) rfl (RI.one _ x) ?_ ?_))
    ·have:=HAL.out; simp; omega
    ·intro v7 w7 f7 b7 _;go_wp2_with fail
     go_roundw
     case rel=>exact ⟨k+1,_,rfl,by omega,by go_num,by rw [HST.out]; exact f7,b7⟩
     case measure=>simp [intOf]; omega
  ·have i1:¬(k:Int)<(n:Int):=by omega
   by_cases h2:k<m
   ·obtain ⟨b2,o2,y,e9,hcy,hy⟩:=(h'.below hb).at h2;subst e9;have HST:=zTD (HRR.out k y hy.out (by have:=HN.out; omega));generalize zBC l l' k=A at *;have i2:(k:Int)<(m:Int):=by omega
    have hyb:=HW.out y (zTF hy.out);have bb:Below wr.heap.size wr (wr.alloc (.cells #[.int .i64 y] 3)):=(Below.refl _ _).alloc (zTI _) _;go_wp2_with (at_builtin; go_must (refine zAL (W:=w) rfl _ _ rfl rfl (hf.grow bb) (zAC.step hb bb) rfl (RI.one _ y) ?_ ?_))
    ·have:=HAL.out; simp; omega
    ·intro v7 w7 f7 b7 _;go_wp2_with fail
     go_roundw
     case rel=>exact ⟨k+1,_,rfl,by omega,by go_num,by rw [HST.out]; exact f7,b7⟩
     case measure=>simp [intOf]; omega
   ·have hkm:k=max n m:=by omega
    have i2:¬(k:Int)<(m:Int):=by omega
    rw [hkm] at hf;clear hkm;go_wp2_with fail
    refine (zCe hf.reads (by rw [HLEN.out]; omega)).mono ?_;rintro e w5 ⟨r5,rfl,f5,b5⟩;rw [HR.out] at f5;go_wp2_with fail
    go_ret
    exact ⟨_,rfl,f5.mono (fun b hb'=>⟨Nat.le_trans hb.size hb'.1,hb'.2⟩),zAC.step hb b5⟩
def negL (l:List Int):List Int:=l.map fun x=>wrap64 (-x)
def subP (a b:List Int):List Int:=addP a (negL b)
theorem zMv {l:List Int} {k:Nat} {x:Int} (h:l[k]? = some x):negL (l.take (k+1))=negL (l.take k)++[wrap64 (-x)]:=by rw [zAP h]; simp [negL]
theorem zJl (x:Int):-9223372036854775808≤wrap64 x∧wrap64 x≤9223372036854775807:=by unfold wrap64; omega
theorem zQy (l:List Int):InI (negL l):=fun x hx=>by
 obtain ⟨y,_,rfl⟩:=List.mem_map.1 hx;exact zJl _
theorem zEZ {l:List Int} {x:Int} (h:x∈trim l):x∈l:=List.mem_of_mem_take h
theorem zDu (a b:List Int):InI (addP a b):=fun x hx=>by
 obtain ⟨k,_,rfl⟩:=List.mem_map.1 (zEZ hx);exact zJl _
theorem zDv (a b:List Int):(addP a b).length≤max a.length b.length:=by
 have:=zDO (zBC a b (max a.length b.length));rw [zFG] at this;exact this
theorem zK3 {S S':Nat→Prop} {u v:Value} {l l':List Int} {w:World} (h:RI S w u l) (h':RI S' w v l') (hi:InI l) (hl:l.length≤8388608) (hl':l'.length≤8388608) :
  Calls Tryz.prog 180 #[u,v] w fun e w'=>∃r,e=.returned r∧FI (New w w') w' r (subP l l')∧Below w.heap.size w w':=by
 obtain ⟨a',cap',rfl⟩:=h'.form;have HI:=zTD hi;have HR:Hid (addP l (negL l')=subP l l'):=zTD rfl;have HN0:Hid (negL (l'.take 0)=[]):=zTD (by simp [negL]);have HNN:Hid (negL (l'.take l'.length)=negL l'):=zTD (by simp);have HNL:Hid (∀k,(negL (l'.take k)).length≤k):=zTD (fun k=>by simp [negL]; omega);have HLL:Hid ((negL l').length=l'.length):=zTD (by simp [negL]);generalize subP l l'=res at *;clear hi;generalize hm:l'.length=m at *;have HM:=zTD hm;clear hm;go_enter Tryz.func180,Tryz.ntmps180
 go_wp2_with fail
 obtain ⟨w1,hw1⟩:∃w1,w1=w.alloc (.cells #[] 3):=⟨_,rfl⟩;obtain ⟨f1,b1⟩:=zAN (Below.refl _ w) hw1;rw [<-hw1];clear hw1;rw [<-HN0.out] at f1;go_loopw [5,6] (fun zz j wr=>∃(k:Nat) (z:Value),z=zz∧k≤m∧j=.int .i64 k∧FI (New w wr) wr z (negL (l'.take k))∧Below w.heap.size w wr) (fun _ j _=>m-(intOf j).toNat)
 case atStart=>exact ⟨0,_,rfl,Nat.zero_le _,rfl,f1,b1⟩
 case round =>
  obtain ⟨k,z,rfl,hk,rfl,hf,hb⟩:=hrel;have hal:=HNL.out k;by_cases h1:k<m
  ·obtain ⟨b,o,x,e8,hcx,hx⟩:=(h'.below hb).at h1;subst e8;have i1:(k:Int)<(m:Int):=by omega
   have HST:=zTD (zMv hx.out);generalize negL (l'.take k)=A at *;have bb:Below wr.heap.size wr (wr.alloc (.cells #[.int .i64 (wrap64 (-x))] 3)):=(Below.refl _ _).alloc (zTI _) _;go_wp2_with (at_builtin; go_must (refine zAL (W:=w) rfl _ _ rfl rfl (hf.grow bb) (zAC.step hb bb) rfl (RI.one _ (wrap64 (-x))) ?_ ?_))
   ·simp; omega
   ·intro v7 w7 f7 b7 _;go_wp2_with fail
    go_roundw
    case rel=>exact ⟨k+1,_,rfl,by omega,by go_num,by rw [HST.out]; exact f7,b7⟩
    case measure=>simp [intOf]; omega
  ·have hkm:k=m:=by omega
   have i1:¬(k:Int)<(m:Int):=by omega
   rw [hkm,HNN.out] at hf;clear hkm;go_wp2_with fail
   refine (zGv (h.below hb) hf.reads HI.out (zQy l') hl (by rw [HLL.out]; exact hl')).mono ?_;rintro e w5 ⟨r5,rfl,f5,b5⟩;rw [HR.out] at f5;go_wp2_with fail
   go_ret
   exact ⟨_,rfl,f5.mono (fun b hb'=>⟨Nat.le_trans hb.size hb'.1,hb'.2⟩),zAC.step hb b5⟩
def zAQ (p:List Int) (k:Nat):List Int:=if p.length=0 then trim p else trim (List.replicate k 0++p)
theorem zDo {S:Nat→Prop} {v:Value} {l:List Int} {w:World} (h:RI S w v l) (k:Nat) (hk:k≤60) (hl:l.length≤8388608) :
  Calls Tryz.prog 179 #[v,.int .i64 k] w fun e w'=>∃r,e=.returned r∧FI (New w w') w' r (zAQ l k)∧Below w.heap.size w w':=by
 obtain ⟨a,cap,rfl⟩:=h.form;obtain ⟨i0,hi,hz0,hz1,hz2⟩:=info_parts zA8;have HLN:=zTD hl;by_cases h0:l.length=0
 ·have HR:Hid (trim l=zAQ l k):=zTD (by unfold zAQ; rw [if_pos h0]);have i1:((l.length:Int) == 0)=true:=beq_iff_eq.2 (by omega);have i2:¬(k:Int)<0:=by omega
  have i3:¬(60:Int)<(k:Int):=by omega
  clear h0;go_enter Tryz.func179,Tryz.ntmps179
  go_wp2_with fail
  refine (zCe h (by have:=HLN.out; omega)).mono ?_;rintro e w2 ⟨r2,rfl,f2,b2⟩;rw [HR.out] at f2;go_wp2_with fail
  go_ret
  exact ⟨_,rfl,f2,b2⟩
 ·have HR:Hid (trim (List.replicate k 0++l)=zAQ l k):=zTD (by unfold zAQ; rw [if_neg h0]);have i1:((l.length:Int) == 0)=false:=beq_eq_false_iff_ne.2 (by omega);have i2:¬(k:Int)<0:=by omega
  have i3:¬(60:Int)<(k:Int):=by omega
  clear h0;go_enter Tryz.func179,Tryz.ntmps179
  go_wp2_with (at_make; refine wpList_make_full _ rfl _ _ 29 rfl w.heap.size 3 i0 (.int .i64 0) 1 Tryz.underlying29 hi hz0 hz1 _ _ _ _ k rfl rfl rfl rfl ?hb ?hm ?hs ?_)
  case hb=>first | (rw [hz2]; omega) | omega
  case hm=>unfold maxLen; omega
  intro w1 hown hgr;have hb1:Below w.heap.size w w1:=(Below.refl _ w).grown hgr (zTI _) (by simp);have hf1:FI (New w w1) w1 (.slice (some ⟨w.heap.size,0,none⟩) k k) (List.replicate k 0):=FI.of_row hown (zTI _) (by simp) (by simp [toList_madeCells_one]);clear hgr hi hz0 hz1 hz2 hown;go_wp2_with (at_builtin; go_must (refine zAL (W:=w) rfl _ _ rfl rfl hf1 hb1 rfl (h.below hb1) ?_ ?_))
  ·have:=HLN.out; simp; omega
  ·intro v3 w3 f3 b3 _;go_wp2_with fail
   refine (zCe f3.reads (by have:=HLN.out; simp; omega)).mono ?_;rintro e w4 ⟨r4,rfl,f4,b4⟩;rw [HR.out] at f4;go_wp2_with fail
   go_ret
   exact ⟨_,rfl,f4.mono (fun b hb=>⟨Nat.le_trans b3.size hb.1,hb.2⟩),zAC.step b3 b4⟩
section
variable {w:World} {ops:Array Oper} {rest:List Oper} {o:Oper} {a:Act} {Q:Exit→Act→World→Prop}
theorem zCf {S:Nat→Prop} {W:World} (hgd:o.guard=none) (d s:Operand)
  (ho:o.op=.call { callee:=.builtin .copy,args:=#[d,s],argTypes:=#[29,29] })
  {g n cap:Nat} {L l2:List Int} (hd:a.eval d=.slice (some ⟨g,0,none⟩) n cap) (hf:FI (New W w) w (.slice (some ⟨g,0,none⟩) n cap) L) (hL:L.length=n) (hb:Below W.heap.size W w)
  {sa:Option Addr} {m c:Nat} (hx:a.eval s=.slice sa m c) (hr:RI S w (.slice sa m c) l2) (hmn:m≤n)
  (h:∀w',FI (New W w') w' (.slice (some ⟨g,0,none⟩) n cap) (l2++L.drop m)→Below W.heap.size W w'→wpList Tryz.prog ops Q rest (a.put o.dst (goInt m)) w'):wpList Tryz.prog ops Q (o::rest) a w:=by
 subst hL;obtain ⟨hown,hS⟩:=hf;obtain ⟨a',cap',hv,hcap,hcase⟩:=hr;simp only [Value.slice.injEq] at hv;obtain ⟨rfl,rfl,rfl⟩:=hv;have hSg:=hS g rfl;rcases hown.2 with ⟨hv,_⟩ | ⟨g',cap',cur,hv,_,hg,hnc,hcm,hcs,htake⟩
 ·cases hv
 ·simp only [Value.slice.injEq,Option.some.injEq,Addr.mk.injEq,and_true,true_and] at hv;obtain ⟨rfl,rfl⟩:=hv;have hcl:cur.toList.length=cap:=by simpa using hcs
  refine wpList_copy_splice (P:=Tryz.prog) (w:=w) hgd d s 29 29 ho 3 Tryz.underlying29 (by kernel_rfl) (some ⟨g,0,none⟩) sa L.length cap l2.length c hd hx g 0 cur.toList 3 (by simpa using hg) (l2.map (Value.int .i64)) (by rw [List.length_map]; exact (Nat.min_eq_left hmn).symm) (fun hp=>?_) (by simp; simp at hcl; omega) (fun v hv=>?_) g w (Below.refl _ _) (zTI _) (fun w' hg' hb'=>?_)
  ·rcases hcase with h0 | ⟨b,off,ha,_,_,hc⟩
   ·subst h0; simp at hp
   ·refine ⟨rfl,_,ha,fun j v hj=>?_⟩;rw [List.getElem?_map] at hj;obtain ⟨x,hx1,hx2⟩:=Option.map_eq_some_iff.1 hj;obtain ⟨r,h1,h2⟩:=hc j x hx1;have hadd:(⟨b,off,none⟩:Addr).add j=⟨b,off+j,none⟩:=by unfold Addr.add; split <;> simp_all
    rw [hadd,h1,<-hx2];exact congrArg some h2
  ·obtain ⟨x,_,rfl⟩:=List.mem_map.1 hv;rfl
  ·have e1:(l2.map (Value.int .i64)).length=l2.length:=by simp
   rw [e1];have hgs:g<w'.heap.size:=(Array.getElem?_eq_some_iff.1 hg'.out).1;have e0:(l2++L.drop l2.length).length=L.length:=by simp; omega
   refine h w' ⟨⟨?_,.inr ⟨g,cap,_,by rw [e0],Nat.zero_le _,hg'.out,?_,hcm,?_,?_⟩⟩,fun b hb2=>?_⟩ (hb.trans (hb'.mono hSg.1))
   ·rw [List.length_map,Nat.mul_one]
   ·simp; omega
   ·simp [splice]; simp at hcl; omega
   ·simp only [splice,List.take_zero,List.nil_append,Nat.zero_add,List.length_map];have e2:cur.toList=L.map (Value.int .i64)++cur.toList.drop L.length:=by
     rw [<-htake]; simp
    have e3:(l2++L.drop l2.length).length=L.length:=by simp; omega
    rw [e3,Nat.mul_one];have e4:cur.toList.drop l2.length=(L.map (Value.int .i64)).drop l2.length++cur.toList.drop L.length:=by
     conv=>lhs; rw [e2]
     rw [List.drop_append_of_le_length (by simp; omega)]
    rw [e4,<-List.append_assoc,List.take_append_of_le_length (by simp; omega)];rw [List.take_of_length_le (by simp; omega)];simp
   ·simp [Value.ownBlock] at hb2;subst hb2;exact ⟨hSg.1,hgs⟩
end
def midL (f:Int→Int→Int) (a b:List Int) (M k:Nat):List Int:=((List.range k).map fun j=>f (num a j) (num b j))++(a++List.replicate (M-a.length) 0).drop k
theorem zMn {f:Int→Int→Int} {a b:List Int} {M:Nat} (_h:a.length≤M):midL f a b M 0=a++(List.replicate M (0:Int)).drop a.length:=by simp [midL]
theorem zFz {f:Int→Int→Int} {a b:List Int} {M:Nat} (k:Nat) (h:a.length≤M∧k≤M):(midL f a b M k).length=M:=by simp [midL]; omega
theorem zKm {a:List Int} {M j:Nat} (hj:j<M) (h:a.length≤M):(a++List.replicate (M-a.length) 0)[j]? = some (num a j):=by
 rcases Nat.lt_or_ge j a.length with h1 | h1
 ·rw [List.getElem?_append_left h1]; simp [num,h1]
 ·rw [List.getElem?_append_right h1,zBa h1,List.getElem?_replicate,if_pos (by omega)]
theorem zHi {f:Int→Int→Int} {a b:List Int} {M k:Nat} {x y:Int} (hx:(midL f a b M k)[k]? = some x) (hy:b[k]? = some y) (h:a.length≤M∧b.length≤M):(midL f a b M k).set k (f x y)=midL f a b M (k+1):=by
 have hk:k<b.length:=(zTG hy).1;have hr:((List.range k).map fun j=>f (num a j) (num b j)).length=k:=by simp
 have hp:=zKm (a:=a) (M:=M) (j:=k) (by omega) h.1;unfold midL at hx ⊢;rw [List.getElem?_append_right (by rw [hr]; exact zTI _),hr,Nat.sub_self,List.getElem?_drop,Nat.add_zero,hp] at hx
 injection hx with hx
 subst hx;rw [List.set_append_right _ _ (by rw [hr]; exact zTI _),hr,Nat.sub_self,zAK hp,List.range_succ,List.map_append];simp [zAx hy]
theorem zJ6 {a b:List Int} (hi:InI a):trim (midL (fun x y=>wrap64 (x+y)) a b (max a.length b.length) b.length)=addP a b:=by
 unfold addP;congr 1;refine List.ext_getElem? fun j=>?_;rcases Nat.lt_or_ge j (max a.length b.length) with hj | hj
 ·have e:(zBC a b (max a.length b.length))[j]? = some (wrap64 (num a j+num b j)):=by simp [zBC,hj]
  rw [e];unfold midL;have hr:((List.range b.length).map fun j=>wrap64 (num a j+num b j)).length=b.length:=by simp
  rcases Nat.lt_or_ge j b.length with h1 | h1
  ·rw [List.getElem?_append_left (by rw [hr]; exact h1)]; simp [h1]
  ·rw [List.getElem?_append_right (by rw [hr]; exact h1),hr,List.getElem?_drop,show b.length+(j-b.length)=j by omega,zKm hj (by omega),zBa h1,Int.add_zero];have hja:j<a.length:=by omega
   have:num a j∈a:=by simp [num,hja]
   rw [zHG (hi _ this)]
 ·rw [List.getElem?_eq_none (by rw [zFz _ (by omega)]; exact hj),List.getElem?_eq_none (by rw [zFG]; exact hj)]
theorem zQ5 (b:List Int) (j:Nat):num (negL b) j=wrap64 (-(num b j)):=by
 unfold num negL;rw [List.getElem?_map];cases b[j]? with
 | none=>simp [wrap64]
 | some x=>simp
theorem zPo (x y:Int):wrap64 (x+wrap64 (-y))=wrap64 (x-y):=by unfold wrap64; omega
theorem zRV {a b:List Int} (hi:InI a):trim (midL (fun x y=>wrap64 (x-y)) a b (max a.length b.length) b.length)=subP a b:=by
 unfold subP;have hl:(negL b).length=b.length:=by simp [negL]
 rw [<-zJ6 hi,hl];congr 1;unfold midL;congr 1;refine List.map_congr_left fun j _=>?_;show wrap64 (num a j-num b j)=wrap64 (num a j+num (negL b) j);rw [zQ5,zPo]
theorem zJ5 {S S':Nat→Prop} {u v:Value} {l l':List Int} {w:World} (h:RI S w u l) (h':RI S' w v l') (hi:InI l) (hl:l.length≤8388608) (hl':l'.length≤8388608) :
  Calls Tryz.prog 143 #[u,v] w fun e w'=>∃r,e=.returned r∧FI (New w w') w' r (addP l l')∧Below w.heap.size w w':=by
 obtain ⟨a,cap,rfl⟩:=h.form;obtain ⟨a',cap',rfl⟩:=h'.form;obtain ⟨i0,hi0,hz0,hz1,hz2⟩:=info_parts zA8;have h':=h'.old;have HR:Hid (trim (midL (fun x y=>wrap64 (x+y)) l l' (max l.length l'.length) l'.length)=addP l l'):=zTD (zJ6 hi);have HS:Hid (∀(k:Nat) (x y:Int),(midL (fun x y=>wrap64 (x+y)) l l' (max l.length l'.length) k)[k]? = some x→l'[k]? = some y→(midL (fun x y=>wrap64 (x+y)) l l' (max l.length l'.length) k).set k ((fun x y=>wrap64 (x+y)) x y)=midL (fun x y=>wrap64 (x+y)) l l' (max l.length l'.length) (k+1)):=zTD (fun k x y hx hy=>zHi hx hy (by omega));have HL:Hid (∀k,k≤l'.length→(midL (fun x y=>wrap64 (x+y)) l l' (max l.length l'.length) k).length=max l.length l'.length):=zTD (fun k hk=>zFz k (by omega))
 have H0:Hid (l++(List.replicate (max l.length l'.length) (0:Int)).drop l.length=midL (fun x y=>wrap64 (x+y)) l l' (max l.length l'.length) 0):=zTD (zMn (by omega)).symm;have hmx:max l.length l'.length≤8388608:=by omega
 have hmx1:l.length≤max l.length l'.length:=Nat.le_max_left _ _;have hmx2:l'.length≤max l.length l'.length:=Nat.le_max_right _ _;have hcase:(l.length<l'.length∧max l.length l'.length=l'.length)∨(¬l.length<l'.length∧max l.length l'.length=l.length):=by omega
 generalize hM:max l.length l'.length=M at *;generalize midL (fun x y=>wrap64 (x+y)) l l' M=P at *;generalize addP l l'=res at *;clear hi;generalize hn:l.length=n at *;have HN:=zTD hn;clear hn;generalize hm:l'.length=m at *;have HM:=zTD hm;clear hm hM;rcases hcase with ⟨hc,hMe⟩ | ⟨hc,hMe⟩
 ·subst hMe;go_enter Tryz.func143,Tryz.ntmps143
  go_wp2_with (at_make; refine wpList_make_full _ rfl _ _ 29 rfl w.heap.size 3 i0 (.int .i64 0) 1 Tryz.underlying29 hi0 hz0 hz1 _ _ _ _ M rfl rfl rfl rfl ?hb ?hm ?hs ?_)
  case hb=>first | (rw [hz2]; omega) | omega
  case hm=>unfold maxLen; omega
  intro w1 hown hgr;have hb1:Below w.heap.size w w1:=(Below.refl _ w).grown hgr (zTI _) (by simp);have hf1:FI (New w w1) w1 (.slice (some ⟨w.heap.size,0,none⟩) M M) (List.replicate M 0):=FI.of_row hown (zTI _) (by simp) (by simp [toList_madeCells_one]);clear hgr hi0 hz0 hz1 hz2 hown;go_wp2_with (refine zCf (W:=w) rfl _ _ rfl rfl hf1 (by simp) hb1 rfl (h.below hb1) (by omega) ?_)
  intro w2 f2 b2;have h0:=H0.out;simp only [List.drop_replicate] at h0;rw [h0] at f2;clear h0;clear hf1 hb1;go_wp2_with fail
  go_loopw [19] (fun j wr=>∃k:Nat,k≤M∧j=.int .i64 k∧FI (New w wr) wr (.slice (some ⟨w.heap.size,0,none⟩) M M) (P k)∧Below w.heap.size w wr) (fun j _=>M-(intOf j).toNat)
  case atStart=>exact ⟨0,Nat.zero_le _,rfl,f2,b2⟩
  case round =>
   obtain ⟨k,hk,rfl,hf,hb⟩:=hrel;by_cases h1:k<M
   ·obtain ⟨b,o,y,e8,hcy,hy⟩:=(h'.below hb).at h1;have hPk:=HL.out k hk;have hkM:k<M:=by omega
    obtain ⟨b5,o5,x,e5,hcx,hx⟩:=RI.at hf.any hkM;simp only [Option.some.injEq,Addr.mk.injEq,and_true] at e5;obtain ⟨rfl,rfl⟩:=e5;rw [Nat.zero_add] at hcx;subst e8;have i1:(k:Int)<(M:Int):=by omega
    have hfr:=hf.froz hPk k;have hst:=hf.put hPk k (wrap64 (x+y));rw [show (P k).set k (wrap64 (x+y))=P (k+1) from HS.out k x y hx.out hy.out] at hst;go_wp2_with fail
    go_roundw
    case rel=>exact ⟨k+1,by omega,by go_num,hst.mono (fun b hb'=>⟨hb'.1,Nat.lt_of_lt_of_le hb'.2 ((Below.refl 0 wr).setCell (Nat.zero_le _) _).size⟩),hb.setCell (zTI _) _⟩
    case measure=>simp [intOf]; omega
   ·have hkm:k=M:=by omega
    have i1:¬(k:Int)<(M:Int):=by omega
    rw [hkm] at hf;clear hkm;go_wp2_with fail
    refine (zBm hf.reads (by rw [HL.out M (zTI _)]; omega)).mono ?_;rintro e w5 ⟨r5,rfl,f5,b5⟩;rw [HR.out] at f5;go_wp2_with fail
    go_ret
    exact ⟨_,rfl,f5.mono (fun b hb'=>⟨Nat.le_trans hb.size hb'.1,hb'.2⟩),zAC.step hb b5⟩
 ·subst hMe;go_enter Tryz.func143,Tryz.ntmps143
  go_wp2_with (at_make; refine wpList_make_full _ rfl _ _ 29 rfl w.heap.size 3 i0 (.int .i64 0) 1 Tryz.underlying29 hi0 hz0 hz1 _ _ _ _ M rfl rfl rfl rfl ?hb ?hm ?hs ?_)
  case hb=>first | (rw [hz2]; omega) | omega
  case hm=>unfold maxLen; omega
  intro w1 hown hgr;have hb1:Below w.heap.size w w1:=(Below.refl _ w).grown hgr (zTI _) (by simp);have hf1:FI (New w w1) w1 (.slice (some ⟨w.heap.size,0,none⟩) M M) (List.replicate M 0):=FI.of_row hown (zTI _) (by simp) (by simp [toList_madeCells_one]);clear hgr hi0 hz0 hz1 hz2 hown;go_wp2_with (refine zCf (W:=w) rfl _ _ rfl rfl hf1 (by simp) hb1 rfl (h.below hb1) (by omega) ?_)
  intro w2 f2 b2;have h0:=H0.out;simp only [List.drop_replicate,Nat.sub_self,List.replicate_zero,List.append_nil] at h0;rw [h0] at f2;clear h0;clear hf1 hb1;go_wp2_with fail
  go_loopw [19] (fun j wr=>∃k:Nat,k≤m∧j=.int .i64 k∧FI (New w wr) wr (.slice (some ⟨w.heap.size,0,none⟩) M M) (P k)∧Below w.heap.size w wr) (fun j _=>m-(intOf j).toNat)
  case atStart=>exact ⟨0,Nat.zero_le _,rfl,f2,b2⟩
  case round =>
   obtain ⟨k,hk,rfl,hf,hb⟩:=hrel;by_cases h1:k<m
   ·obtain ⟨b,o,y,e8,hcy,hy⟩:=(h'.below hb).at h1;have hPk:=HL.out k hk;have hkM:k<M:=by omega
    obtain ⟨b5,o5,x,e5,hcx,hx⟩:=RI.at hf.any hkM;simp only [Option.some.injEq,Addr.mk.injEq,and_true] at e5;obtain ⟨rfl,rfl⟩:=e5;rw [Nat.zero_add] at hcx;subst e8;have i1:(k:Int)<(m:Int):=by omega
    have hfr:=hf.froz hPk k;have hst:=hf.put hPk k (wrap64 (x+y));rw [show (P k).set k (wrap64 (x+y))=P (k+1) from HS.out k x y hx.out hy.out] at hst;go_wp2_with fail
    go_roundw
    case rel=>exact ⟨k+1,by omega,by go_num,hst.mono (fun b hb'=>⟨hb'.1,Nat.lt_of_lt_of_le hb'.2 ((Below.refl 0 wr).setCell (Nat.zero_le _) _).size⟩),hb.setCell (zTI _) _⟩
    case measure=>simp [intOf]; omega
   ·have hkm:k=m:=by omega
    have i1:¬(k:Int)<(m:Int):=by omega
    rw [hkm] at hf;clear hkm;go_wp2_with fail
    refine (zBm hf.reads (by rw [HL.out m (zTI _)]; omega)).mono ?_;rintro e w5 ⟨r5,rfl,f5,b5⟩;rw [HR.out] at f5;go_wp2_with fail
    go_ret
    exact ⟨_,rfl,f5.mono (fun b hb'=>⟨Nat.le_trans hb.size hb'.1,hb'.2⟩),zAC.step hb b5⟩
theorem zRU {S S':Nat→Prop} {u v:Value} {l l':List Int} {w:World} (h:RI S w u l) (h':RI S' w v l') (hi:InI l) (hl:l.length≤8388608) (hl':l'.length≤8388608) :
  Calls Tryz.prog 145 #[u,v] w fun e w'=>∃r,e=.returned r∧FI (New w w') w' r (subP l l')∧Below w.heap.size w w':=by
 obtain ⟨a,cap,rfl⟩:=h.form;obtain ⟨a',cap',rfl⟩:=h'.form;obtain ⟨i0,hi0,hz0,hz1,hz2⟩:=info_parts zA8;have h':=h'.old;have HR:Hid (trim (midL (fun x y=>wrap64 (x-y)) l l' (max l.length l'.length) l'.length)=subP l l'):=zTD (zRV hi);have HS:Hid (∀(k:Nat) (x y:Int),(midL (fun x y=>wrap64 (x-y)) l l' (max l.length l'.length) k)[k]? = some x→l'[k]? = some y→(midL (fun x y=>wrap64 (x-y)) l l' (max l.length l'.length) k).set k ((fun x y=>wrap64 (x-y)) x y)=midL (fun x y=>wrap64 (x-y)) l l' (max l.length l'.length) (k+1)):=zTD (fun k x y hx hy=>zHi hx hy (by omega));have HL:Hid (∀k,k≤l'.length→(midL (fun x y=>wrap64 (x-y)) l l' (max l.length l'.length) k).length=max l.length l'.length):=zTD (fun k hk=>zFz k (by omega))
 have H0:Hid (l++(List.replicate (max l.length l'.length) (0:Int)).drop l.length=midL (fun x y=>wrap64 (x-y)) l l' (max l.length l'.length) 0):=zTD (zMn (by omega)).symm;have hmx:max l.length l'.length≤8388608:=by omega
 have hmx1:l.length≤max l.length l'.length:=Nat.le_max_left _ _;have hmx2:l'.length≤max l.length l'.length:=Nat.le_max_right _ _;have hcase:(l.length<l'.length∧max l.length l'.length=l'.length)∨(¬l.length<l'.length∧max l.length l'.length=l.length):=by omega
 generalize hM:max l.length l'.length=M at *;generalize midL (fun x y=>wrap64 (x-y)) l l' M=P at *;generalize subP l l'=res at *;clear hi;generalize hn:l.length=n at *;have HN:=zTD hn;clear hn;generalize hm:l'.length=m at *;have HM:=zTD hm;clear hm hM;rcases hcase with ⟨hc,hMe⟩ | ⟨hc,hMe⟩
 ·subst hMe;go_enter Tryz.func145,Tryz.ntmps145
  go_wp2_with (at_make; refine wpList_make_full _ rfl _ _ 29 rfl w.heap.size 3 i0 (.int .i64 0) 1 Tryz.underlying29 hi0 hz0 hz1 _ _ _ _ M rfl rfl rfl rfl ?hb ?hm ?hs ?_)
  case hb=>first | (rw [hz2]; omega) | omega
  case hm=>unfold maxLen; omega
  intro w1 hown hgr;have hb1:Below w.heap.size w w1:=(Below.refl _ w).grown hgr (zTI _) (by simp);have hf1:FI (New w w1) w1 (.slice (some ⟨w.heap.size,0,none⟩) M M) (List.replicate M 0):=FI.of_row hown (zTI _) (by simp) (by simp [toList_madeCells_one]);clear hgr hi0 hz0 hz1 hz2 hown;go_wp2_with (refine zCf (W:=w) rfl _ _ rfl rfl hf1 (by simp) hb1 rfl (h.below hb1) (by omega) ?_)
  intro w2 f2 b2;have h0:=H0.out;simp only [List.drop_replicate] at h0;rw [h0] at f2;clear h0;clear hf1 hb1;go_wp2_with fail
  go_loopw [19] (fun j wr=>∃k:Nat,k≤M∧j=.int .i64 k∧FI (New w wr) wr (.slice (some ⟨w.heap.size,0,none⟩) M M) (P k)∧Below w.heap.size w wr) (fun j _=>M-(intOf j).toNat)
  case atStart=>exact ⟨0,Nat.zero_le _,rfl,f2,b2⟩
  case round =>
   obtain ⟨k,hk,rfl,hf,hb⟩:=hrel;by_cases h1:k<M
   ·obtain ⟨b,o,y,e8,hcy,hy⟩:=(h'.below hb).at h1;have hPk:=HL.out k hk;have hkM:k<M:=by omega
    obtain ⟨b5,o5,x,e5,hcx,hx⟩:=RI.at hf.any hkM;simp only [Option.some.injEq,Addr.mk.injEq,and_true] at e5;obtain ⟨rfl,rfl⟩:=e5;rw [Nat.zero_add] at hcx;subst e8;have i1:(k:Int)<(M:Int):=by omega
    have hfr:=hf.froz hPk k;have hst:=hf.put hPk k (wrap64 (x-y));rw [show (P k).set k (wrap64 (x-y))=P (k+1) from HS.out k x y hx.out hy.out] at hst;go_wp2_with fail
    go_roundw
    case rel=>exact ⟨k+1,by omega,by go_num,hst.mono (fun b hb'=>⟨hb'.1,Nat.lt_of_lt_of_le hb'.2 ((Below.refl 0 wr).setCell (Nat.zero_le _) _).size⟩),hb.setCell (zTI _) _⟩
    case measure=>simp [intOf]; omega
   ·have hkm:k=M:=by omega
    have i1:¬(k:Int)<(M:Int):=by omega
    rw [hkm] at hf;clear hkm;go_wp2_with fail
    refine (zBm hf.reads (by rw [HL.out M (zTI _)]; omega)).mono ?_;rintro e w5 ⟨r5,rfl,f5,b5⟩;rw [HR.out] at f5;go_wp2_with fail
    go_ret
    exact ⟨_,rfl,f5.mono (fun b hb'=>⟨Nat.le_trans hb.size hb'.1,hb'.2⟩),zAC.step hb b5⟩
 ·subst hMe;go_enter Tryz.func145,Tryz.ntmps145
  go_wp2_with (at_make; refine wpList_make_full _ rfl _ _ 29 rfl w.heap.size 3 i0 (.int .i64 0) 1 Tryz.underlying29 hi0 hz0 hz1 _ _ _ _ M rfl rfl rfl rfl ?hb ?hm ?hs ?_)
  case hb=>first | (rw [hz2]; omega) | omega
  case hm=>unfold maxLen; omega
  intro w1 hown hgr;have hb1:Below w.heap.size w w1:=(Below.refl _ w).grown hgr (zTI _) (by simp);have hf1:FI (New w w1) w1 (.slice (some ⟨w.heap.size,0,none⟩) M M) (List.replicate M 0):=FI.of_row hown (zTI _) (by simp) (by simp [toList_madeCells_one]);clear hgr hi0 hz0 hz1 hz2 hown;go_wp2_with (refine zCf (W:=w) rfl _ _ rfl rfl hf1 (by simp) hb1 rfl (h.below hb1) (by omega) ?_)
  intro w2 f2 b2;have h0:=H0.out;simp only [List.drop_replicate,Nat.sub_self,List.replicate_zero,List.append_nil] at h0;rw [h0] at f2;clear h0;clear hf1 hb1;go_wp2_with fail
  go_loopw [19] (fun j wr=>∃k:Nat,k≤m∧j=.int .i64 k∧FI (New w wr) wr (.slice (some ⟨w.heap.size,0,none⟩) M M) (P k)∧Below w.heap.size w wr) (fun j _=>m-(intOf j).toNat)
  case atStart=>exact ⟨0,Nat.zero_le _,rfl,f2,b2⟩
  case round =>
   obtain ⟨k,hk,rfl,hf,hb⟩:=hrel;by_cases h1:k<m
   ·obtain ⟨b,o,y,e8,hcy,hy⟩:=(h'.below hb).at h1;have hPk:=HL.out k hk;have hkM:k<M:=by omega
    obtain ⟨b5,o5,x,e5,hcx,hx⟩:=RI.at hf.any hkM;simp only [Option.some.injEq,Addr.mk.injEq,and_true] at e5;obtain ⟨rfl,rfl⟩:=e5;rw [Nat.zero_add] at hcx;subst e8;have i1:(k:Int)<(m:Int):=by omega
    have hfr:=hf.froz hPk k;have hst:=hf.put hPk k (wrap64 (x-y));rw [show (P k).set k (wrap64 (x-y))=P (k+1) from HS.out k x y hx.out hy.out] at hst;go_wp2_with fail
    go_roundw
    case rel=>exact ⟨k+1,by omega,by go_num,hst.mono (fun b hb'=>⟨hb'.1,Nat.lt_of_lt_of_le hb'.2 ((Below.refl 0 wr).setCell (Nat.zero_le _) _).size⟩),hb.setCell (zTI _) _⟩
    case measure=>simp [intOf]; omega
   ·have hkm:k=m:=by omega
    have i1:¬(k:Int)<(m:Int):=by omega
    rw [hkm] at hf;clear hkm;go_wp2_with fail
    refine (zBm hf.reads (by rw [HL.out m (zTI _)]; omega)).mono ?_;rintro e w5 ⟨r5,rfl,f5,b5⟩;rw [HR.out] at f5;go_wp2_with fail
    go_ret
    exact ⟨_,rfl,f5.mono (fun b hb'=>⟨Nat.le_trans hb.size hb'.1,hb'.2⟩),zAC.step hb b5⟩
end Go.Proofs.YtlgcdacpjcnjgaaGreatDoor
namespace Go.Proofs.YtlgcdacpjcnjgaaGreatDoor
open Go.RowKit
set_option maxRecDepth 20000
set_option maxHeartbeats 8000000
def bel (c:List (List Int)):List Int→List Int→Bool
 | mu,[]=>decide (zAJ mu=none)
 | mu,s::v=>decide ((nf c 30 mu).length≤v.length+1) && bel c (if num mu s.toNat<0 then refl c s.toNat mu else mu) v
theorem Im.part {c:List (List Int)} {mu:List Int} {w:List Nat} (hl:mu.length=c.length) (hw:Cox.Lets c.length w) (h:Cox.Part c.length (ent c) (num mu) w):∃m,m≤w.length∧Im c mu m:=by
 obtain ⟨x,hx,he⟩:=h;exact ⟨x.length,hx.length_le,hl,x,Cox.part_lets hw hx,rfl,fun k hk=>(he k hk).symm⟩
theorem Im.refl_num {c:List (List Int)} (hc:CartanP c) {mu:List Int} {m:Nat} (h:Im c mu m) (hm:m≤30) {i:Nat} (hi:i<c.length) {k:Nat} (hk:k<c.length):num (refl c i mu) k=Cox.sW (ent c) i (num mu) k:=by
 obtain ⟨hl,w,hw,hwl,hn⟩:=h;rw [zBS hc hl hw (by omega) hn hi hk];unfold Cox.sW;rw [hn k hk,hn i hi]
theorem zMy {c:List (List Int)} (hc:CartanP c) {mu:List Int} {m:Nat} (h:Im c mu m) (hm:m≤30):(nf c 30 mu).length≤m:=by
 rw [zD0 hc m h hm hm]; exact zLc hc m
theorem Im.num_ne {c:List (List Int)} (hc:CartanP c) {mu:List Int} {m:Nat} (h:Im c mu m) {i:Nat} (hi:i<c.length):num mu i≠0:=by
 have hl:mu.length=c.length:=h.1;exact h.ne hc (x:=num mu i) (by simp [num,hl,hi])
theorem zJC {c:List (List Int)} (hc:CartanP c):∀(m:Nat) {mu:List Int},Im c mu m→m≤30→Lets c.length (nf c 30 mu)
 | m,mu,h,hm=>by
  cases e:zAJ mu with
  | none=>rw [zC6 e]; intro x hx; simp at hx
  | some i =>
   obtain ⟨m',rfl,h1,h2⟩:=zCC hc h hm e;have ih:=zJC hc m' h1 (by omega);have hi:=zB1 e;have hl:mu.length=c.length:=h.1;rw [h2];intro x hx;rcases List.mem_cons.1 hx with rfl | hx
   ·omega
   ·exact ih x hx
theorem zSa {c:List (List Int)} (hc:CartanP c) {mu:List Int} {m:Nat} (h:Im c mu m) (hm:m≤28) {i:Nat} (hi:i<c.length):(num mu i<0→(nf c 30 (refl c i mu)).length<(nf c 30 mu).length)∧(¬num mu i<0→¬(nf c 30 (refl c i mu)).length<(nf c 30 mu).length):=by
 have key:∀{nu:List Int} {k:Nat},Im c nu k→k≤29→num nu i<0→(nf c 30 (refl c i nu)).length<(nf c 30 nu).length:=by
  intro nu k hk hk2 hneg;have hl:=zMy hc hk (by omega);have hlt:Lets c.length (nf c 30 nu):=zJC hc k hk (by omega);have him:=zAa hc hlt (by omega);rw [zBQ hc k hk hk2] at him;obtain ⟨m',h1,h2⟩:=him.back hc (by omega) (i:=i) (x:=num nu i) (by have:=hk.1; simp [num,this,hi]) hneg;have:=zMy hc h2 (by omega);omega
 refine ⟨key h (by omega),fun hn=>?_⟩;have h2:=h.step hc (by omega) hi;have h3:=key h2 (by omega) (by
  rw [h.refl_num hc (by omega) hi hi];unfold Cox.sW;rw [hc.car.diag i hi];have:=h.num_ne hc hi;omega)
 rw [h.turn_two hc (by omega) hi] at h3;omega
theorem zO8 (l:List Int):(negL l).length=l.length:=by simp [negL]
theorem zK2 (a b:List Int):(subP a b).length≤max a.length b.length:=by
 have:=zDv a (negL b);rw [zO8] at this;exact this
theorem zK1 (a b:List Int):InI (subP a b):=zDu a (negL b)
theorem zM7:InI [1]:=fun x hx=>by simp at hx; subst hx; exact ⟨by decide,by decide⟩
theorem zE2:InI []:=fun x hx=>by cases hx
def vec (l:List Int):Value:=.agg #[.int .i64 (num l 0),.int .i64 (num l 1),.int .i64 (num l 2),.int .i64 (num l 3)]
theorem zLm {l:List Int} (hl:l.length≤4):splice [Value.int .i64 0,.int .i64 0,.int .i64 0,.int .i64 0] 0 (l.map (Value.int .i64))=[.int .i64 (num l 0),.int .i64 (num l 1),.int .i64 (num l 2),.int .i64 (num l 3)]:=by
 rcases l with _ | ⟨a,_ | ⟨b,_ | ⟨c,_ | ⟨d,_ | ⟨e,l⟩⟩⟩⟩⟩ <;> simp [splice,num] at hl ⊢
theorem zFL {S:Nat→Prop} {v:Value} {l:List Int} {w:World} (h:RI S w v l) (hl:l.length≤4) :
  Calls Tryz.prog 165 #[v] w fun e w'=>e=.returned (vec l)∧Below w.heap.size w w':=by
 obtain ⟨a,cap,rfl⟩:=h.form;have HSP:=zTD (zLm hl);unfold vec;have HL:=zTD hl;go_enter Tryz.func165,Tryz.ntmps165
 have bw1:Below w.heap.size w ((w.alloc (Obj.cells #[Value.int IntKind.i64 0,Value.int IntKind.i64 0,Value.int IntKind.i64 0,Value.int IntKind.i64 0] 142)).alloc (Obj.cells #[Value.int IntKind.i64 0,Value.int IntKind.i64 0,Value.int IntKind.i64 0,Value.int IntKind.i64 0] 142)):=((Below.refl _ _).alloc (zTI _) _).alloc (by simp) _;go_wp2_with (refine wpList_copy_splice (P:=Tryz.prog) rfl _ _ 29 29 rfl 3 Tryz.underlying29 (by kernel_rfl) (some ⟨w.heap.size+1,0,none⟩) a 4 4 l.length cap rfl rfl (w.heap.size+1) 0 [.int .i64 0,.int .i64 0,.int .i64 0,.int .i64 0] 142 ?h0 (l.map (Value.int .i64)) ?hmin ?h1 ?hfit ?h2 (w.heap.size+1) _ (Below.refl _ _) (zTI _) ?h3)
 case h0 =>
  have:=heap_alloc_new (w.alloc (Obj.cells #[Value.int IntKind.i64 0,Value.int IntKind.i64 0,Value.int IntKind.i64 0,Value.int IntKind.i64 0] 142)) (Obj.cells #[Value.int IntKind.i64 0,Value.int IntKind.i64 0,Value.int IntKind.i64 0,Value.int IntKind.i64 0] 142);simpa using this
 case hmin=>have:=HL.out; rw [List.length_map]; exact (Nat.min_eq_left this).symm
 case hfit=>have:=HL.out; simp; omega
 case h1 =>
  intro hp;have h5:=h.below bw1;obtain ⟨a',cap',hv,_,hcase⟩:=h5;simp only [Value.slice.injEq] at hv;obtain ⟨rfl,_,rfl⟩:=hv;rcases hcase with h0 | ⟨b,off,ha,_,_,hc⟩
  ·subst h0; simp at hp
  ·refine ⟨_,ha,fun j v hj=>?_⟩;obtain ⟨r,h1,h2⟩:=hc j v hj;have hadd:(⟨b,off,none⟩:Addr).add j=⟨b,off+j,none⟩:=by unfold Addr.add; split <;> simp_all
   rw [hadd,h1];exact congrArg some h2
 case h2 =>
  intro v hv;first | (obtain ⟨x,_,rfl⟩:=List.mem_map.1 hv; rfl) | (obtain ⟨x,_,rfl⟩:=hv; rfl)
 case h3 =>
  intro w3 hg3 hb3;rw [HSP.out] at hg3;clear HSP HL;have b03:Below w.heap.size w w3:=bw1.trans (hb3.mono (Nat.le_succ _));have c0:w3.cell? ⟨w.heap.size+1,0,none⟩=some (.int .i64 (num l 0)):=by simp [World.cell?,hg3.out]
  have c1:w3.cell? ⟨w.heap.size+1,1,none⟩=some (.int .i64 (num l 1)):=by simp [World.cell?,hg3.out]
  have c2:w3.cell? ⟨w.heap.size+1,2,none⟩=some (.int .i64 (num l 2)):=by simp [World.cell?,hg3.out]
  have c3:w3.cell? ⟨w.heap.size+1,3,none⟩=some (.int .i64 (num l 3)):=by simp [World.cell?,hg3.out]
  have hs:=hb3.cell (p:=⟨w.heap.size,0,none⟩) (Nat.lt_succ_self _);have d0:w3.cell? ⟨w.heap.size,0,none⟩=some (.int .i64 0):=(hb3.cell (p:=⟨w.heap.size,0,none⟩) (Nat.lt_succ_self _)).trans (by go_simp);have d1:w3.cell? ⟨w.heap.size,1,none⟩=some (.int .i64 0):=(hb3.cell (p:=⟨w.heap.size,1,none⟩) (Nat.lt_succ_self _)).trans (by go_simp);have d2:w3.cell? ⟨w.heap.size,2,none⟩=some (.int .i64 0):=(hb3.cell (p:=⟨w.heap.size,2,none⟩) (Nat.lt_succ_self _)).trans (by go_simp);have d3:w3.cell? ⟨w.heap.size,3,none⟩=some (.int .i64 0):=(hb3.cell (p:=⟨w.heap.size,3,none⟩) (Nat.lt_succ_self _)).trans (by go_simp);have f0:w3.frozen? ⟨w.heap.size,0,none⟩=false:=(hb3.frozen (p:=⟨w.heap.size,0,none⟩) (Nat.lt_succ_self _)).trans (by go_simp)
  have f1:w3.frozen? ⟨w.heap.size,1,none⟩=false:=(hb3.frozen (p:=⟨w.heap.size,1,none⟩) (Nat.lt_succ_self _)).trans (by go_simp);have f2:w3.frozen? ⟨w.heap.size,2,none⟩=false:=(hb3.frozen (p:=⟨w.heap.size,2,none⟩) (Nat.lt_succ_self _)).trans (by go_simp);have f3:w3.frozen? ⟨w.heap.size,3,none⟩=false:=(hb3.frozen (p:=⟨w.heap.size,3,none⟩) (Nat.lt_succ_self _)).trans (by go_simp);clear hg3 hs hb3 bw1 h;generalize hN:w.heap.size=N at *;have HN:=zTD hN;clear hN;go_wp2_with fail
  have b4:Below N w ((((w3.setCell ⟨N,0,none⟩ (.int .i64 (num l 0))).setCell ⟨N,1,none⟩ (.int .i64 (num l 1))).setCell ⟨N,2,none⟩ (.int .i64 (num l 2))).setCell ⟨N,3,none⟩ (.int .i64 (num l 3))) :=
   (((b03.setCell (zTI _) _).setCell (zTI _) _).setCell (zTI _) _).setCell (zTI _) _
  have e0:((((w3.setCell ⟨N,0,none⟩ (.int .i64 (num l 0))).setCell ⟨N,1,none⟩ (.int .i64 (num l 1))).setCell ⟨N,2,none⟩ (.int .i64 (num l 2))).setCell ⟨N,3,none⟩ (.int .i64 (num l 3))).cell? ⟨N,0,none⟩=some (.int .i64 (num l 0)):=by
   rw [zAY _ _ _ _ _ (by decide),zAY _ _ _ _ _ (by decide),zAY _ _ _ _ _ (by decide),World.cell?_setCell_same' _ _ _ (by rw [d0]; rfl)]
  have e1:((((w3.setCell ⟨N,0,none⟩ (.int .i64 (num l 0))).setCell ⟨N,1,none⟩ (.int .i64 (num l 1))).setCell ⟨N,2,none⟩ (.int .i64 (num l 2))).setCell ⟨N,3,none⟩ (.int .i64 (num l 3))).cell? ⟨N,1,none⟩=some (.int .i64 (num l 1)):=by
   rw [zAY _ _ _ _ _ (by decide),zAY _ _ _ _ _ (by decide),World.cell?_setCell_same' _ _ _ (by rw [zAY _ _ _ _ _ (by decide),d1]; rfl)]
  have e2:((((w3.setCell ⟨N,0,none⟩ (.int .i64 (num l 0))).setCell ⟨N,1,none⟩ (.int .i64 (num l 1))).setCell ⟨N,2,none⟩ (.int .i64 (num l 2))).setCell ⟨N,3,none⟩ (.int .i64 (num l 3))).cell? ⟨N,2,none⟩=some (.int .i64 (num l 2)):=by
   rw [zAY _ _ _ _ _ (by decide),World.cell?_setCell_same' _ _ _ (by rw [zAY _ _ _ _ _ (by decide),zAY _ _ _ _ _ (by decide),d2]; rfl)]
  have e3:((((w3.setCell ⟨N,0,none⟩ (.int .i64 (num l 0))).setCell ⟨N,1,none⟩ (.int .i64 (num l 1))).setCell ⟨N,2,none⟩ (.int .i64 (num l 2))).setCell ⟨N,3,none⟩ (.int .i64 (num l 3))).cell? ⟨N,3,none⟩=some (.int .i64 (num l 3)):=by
   rw [World.cell?_setCell_same' _ _ _ (by rw [zAY _ _ _ _ _ (by decide),zAY _ _ _ _ _ (by decide),zAY _ _ _ _ _ (by decide),d3]; rfl)]
  generalize (((w3.setCell ⟨N,0,none⟩ (.int .i64 (num l 0))).setCell ⟨N,1,none⟩ (.int .i64 (num l 1))).setCell ⟨N,2,none⟩ (.int .i64 (num l 2))).setCell ⟨N,3,none⟩ (.int .i64 (num l 3))=w4 at *;have hn:=HN.out;subst hn;try simp only [Exit.inBlock,Exit.then]
  refine bodyPost_ret (v:=.agg #[.int .i64 (num l 0),.int .i64 (num l 1),.int .i64 (num l 2),.int .i64 (num l 3)]) (by simp [results,Tryz.results165,go_sem,e0,e1,e2,e3]) rfl ?_;exact ⟨rfl,b4⟩
theorem zGb {a:List Int} (h:InI a) (k:Nat):I64 (num a k):=by
 unfold num;cases e:a[k]? with
 | none=>decide
 | some x =>
  have:=h x (zTF e);exact Go.WalkArith.wf_i64 (by simp; omega)
theorem zPC {a a':List Int} (h:num a 0=num a' 0∧num a 1=num a' 1∧num a 2=num a' 2∧num a 3=num a' 3) (hl:a.length=a'.length) (h4:a.length≤4):a=a':=by
 obtain ⟨h0,h1,h2,h3⟩:=h;rcases a with _ | ⟨a,_ | ⟨b,_ | ⟨c,_ | ⟨d,_ | ⟨e,l⟩⟩⟩⟩⟩ <;> rcases a' with _ | ⟨a',_ | ⟨b',_ | ⟨c',_ | ⟨d',_ | ⟨e',l'⟩⟩⟩⟩⟩ <;> simp [num] at * <;> simp_all
def RD (v:Value):Option (DataW Value × List MemPlace):=some (.held v,[])
section
variable {w w':World}
end
end Go.Proofs.YtlgcdacpjcnjgaaGreatDoor
namespace Go.Proofs.YtlgcdacpjcnjgaaGreatDoor
open Go.RowKit
open Go.Maps (Keyed)
set_option maxRecDepth 20000
theorem zGQ:Keyed Tryz.prog 142:=Keyed.of_law (Go.deep_law_laid zKb (m:=5) (by decide) (k:=142) (of_decide_eq_true (by kernel_rfl)) (by kernel_rfl) (by kernel_rfl))
def zDE (a:List Int):Lit:=.string (keyBytes [.int .i64 (num a 0),.int .i64 (num a 1),.int .i64 (num a 2),.int .i64 (num a 3)])
theorem zEv {a:List Int} (ha:InI a):keyOf Tryz.prog 142 (vec a)=some (zDE a):=by
 have a0:=zGb ha 0;have a1:=zGb ha 1;have a2:=zGb ha 2;have a3:=zGb ha 3;unfold vec zDE;generalize num a 0=x0 at *;generalize num a 1=x1 at *;generalize num a 2=x2 at *;generalize num a 3=x3 at *;have cs1:Tryz.prog.cellsOf 142=4:=by kernel_rfl
 have cs0:Tryz.prog.cellsOf 3=1:=by kernel_rfl
 have hk:Tryz.prog.keyType 142=true:=by kernel_rfl
 obtain ⟨d,hd⟩:∃d,Tryz.prog.types.size+1=d+2:=⟨Tryz.prog.types.size-1,by have:1≤Tryz.prog.types.size:=of_decide_eq_true (by kernel_rfl); omega⟩;have h0:∀x:Int,I64 x→Tryz.prog.keyLits (d+1) 3 [.int .i64 x]=some [.int .i64 x]:=fun x hx=>by
  simp [Program.keyLits,Tryz.underlying3]; exact hx
 have h1:Tryz.prog.keyLits (d+2) 142 [.int .i64 x0,.int .i64 x1,.int .i64 x2,.int .i64 x3]=some [.int .i64 x0,.int .i64 x1,.int .i64 x2,.int .i64 x3]:=by
  unfold Program.keyLits;simp [Tryz.underlying142,cs1,cs0,show List.range 4=[0,1,2,3] from rfl,h0 _ a0,h0 _ a1,h0 _ a2,h0 _ a3]
 unfold keyOf;rw [hd];simp [Tryz.underlying142,hk,Value.formed,cs1,Value.cells,h1]
theorem zMe {a a':List Int} (ha:InI a) (ha':InI a') (h:zDE a=zDE a') (h1:a.length=a'.length) (h3:a.length≤4):a=a':=by
 have:=zGQ.inj (zEv ha) (by rw [h]; exact zEv ha');simp [vec] at this;exact zPC ⟨this.1,this.2.1,this.2.2.1,this.2.2.2⟩ h1 h3
def SetD (n:Nat) (L:List (List Int)) (D:DataW Value):Prop:=∀a:List Int,a.length=n→InI a→D.atKey (zDE a) (.held (.bool false))=.held (.bool (decide (a∈L)))
abbrev aS (t:TypeId) (mb n:Nat) (L:List (List Int)):zAI:=fun F w=>F mb∧∃D m,m≤L.length∧w.ownsMap Tryz.prog t RD mb m D∧SetD n L D
theorem st_S (t:TypeId) (mb n:Nat) (L:List (List Int)):zAg (aS t mb n L):=fun F w w' h k=>by
 obtain ⟨h1,D,m,h2,h3,h4⟩:=h;refine ⟨h1,D,m,h2,?_,h4⟩;obtain ⟨es,clock,hb,r⟩:=h3;exact ⟨es,clock,by rw [k mb h1 (Array.getElem?_eq_some_iff.1 hb).1]; exact hb,r⟩
section
variable {A:Nat→Prop} {w0 w w':World} {Ps:List zAI}
theorem SetD.empty (n:Nat):SetD n [] (.map []):=fun a _ _=>by simp [DataW.atKey]
theorem HSx.newSet (h:HSx A w0 w Ps) (t:TypeId) (n:Nat) {w1:World} (hw:w1=w.alloc (.map #[] 0)):HSx A w0 w1 (Ps++[aS t w.heap.size n []]):=by
 subst hw;exact h.add ((Below.refl _ _).alloc (zTI _) _) (st_S _ _ _ _) (F:=fun b=>b=w.heap.size) ⟨rfl,_,0,zTI _,World.ownsMap_made _ _ _ _,SetD.empty n⟩ (fun b hb=>by subst hb; exact ⟨zTI _,by simp⟩)
theorem SetD.put {n:Nat} {L:List (List Int)} {D:DataW Value} {p:List Int} (h:SetD n L D) (hm:Maps.IsMap D) (hk:WideAt.IsKeyLit (zDE p)) (hn:n≤4) (hp:p.length=n) (hpi:InI p):SetD n (L++[p]) (D.put (zDE p) (.held (.bool true))):=fun a ha hai=>by
 by_cases he:zDE a=zDE p
 ·have e:=zMe hai hpi he (by rw [ha,hp]) (by rw [ha]; exact hn);subst e;rw [Maps.atKey_put_same hm hk];simp
 ·rw [Maps.atKey_put_other he,h a ha hai];have:a≠p:=fun e=>he (by rw [e]);simp [this]
section
variable {ops:Array Oper} {rest:List Oper} {o:Oper} {a:Act} {Q:Exit→Act→World→Prop} {tm t mb n:Nat} {L:List (List Int)}
theorem zFN (hg:o.guard=none) (mo x:Operand) (hop:o.op=Op.lookup 145 mo x false) (hm:a.eval mo=.map (some mb)) (h:HSx A w0 w Ps) (i:Nat) (hi:Ps[i]? = some (aS 142 mb n L)) {p:List Int} (hp:p.length=n) (hpi:InI p) (hx:a.eval x=vec p)
  (k:wpList Tryz.prog ops Q rest (a.put o.dst (.bool (decide (p∈L)))) w):wpList Tryz.prog ops Q (o::rest) a w:=by
 obtain ⟨F,⟨_,D,m,_,hown,hD⟩,_⟩:=HSx.get h i hi;refine wpList_plain hg fun K' hK'=>?_;obtain ⟨v,ps,hrun,hv⟩:=hown.lookup zGQ Tryz.underlying145 (z:=.bool false) (by kernel_rfl) (zd:=.held (.bool false)) (zp:=[]) rfl (zEv hpi);rw [hD p hp hpi] at hv;simp only [RD,Option.some.injEq,Prod.mk.injEq,DataW.held.injEq] at hv;obtain ⟨rfl,_⟩:=hv;unfold Oper.wp;simp only [execOp,hop,hm,hx,Sem.run_bind,Sem.run_pure,Result.andThen_ok,hrun];exact hK' _ _ k
theorem zIF (hg:o.guard=none) (mo x:Operand) (hop:o.op=Op.lookup 145 mo x false) (hm:a.eval mo=.map (some mb)) (h:HSx A w0 w Ps) (i:Nat) (hi:Ps[i]? = some (aS 142 mb n L)) {p:List Int} (hp:p.length=n) (hpi:InI p) (hx:a.eval x=vec p) (hmem:Hid (p∈L))
  (k:wpList Tryz.prog ops Q rest (a.put o.dst (.bool true)) w):wpList Tryz.prog ops Q (o::rest) a w:=zFN hg mo x hop hm h i hi hp hpi hx (by rw [decide_eq_true hmem.out]; exact k)
theorem zJi (hg:o.guard=none) (mo x:Operand) (hop:o.op=Op.lookup 145 mo x false) (hm:a.eval mo=.map (some mb)) (h:HSx A w0 w Ps) (i:Nat) (hi:Ps[i]? = some (aS 142 mb n L)) {p:List Int} (hp:p.length=n) (hpi:InI p) (hx:a.eval x=vec p) (hmem:Hid (p∉L))
  (k:wpList Tryz.prog ops Q rest (a.put o.dst (.bool false)) w):wpList Tryz.prog ops Q (o::rest) a w:=zFN hg mo x hop hm h i hi hp hpi hx (by rw [decide_eq_false hmem.out]; exact k)
theorem zIE (hg:o.guard=none) (mo x y:Operand) (hop:o.op=Op.mapUpdate 145 mo x y) (hm:a.eval mo=.map (some mb)) (h:HSx A w0 w Ps) (i:Nat) (hi:Ps[i]? = some (aS 142 mb n L)) (hnew:w0.heap.size≤mb) (hn:n≤4) (hlen:L.length<67108864) {p:List Int} (hp:p.length=n) (hpi:InI p) (hx:a.eval x=vec p) (hy:a.eval y=.bool true)
  (k:∀w',HSx A w0 w' (Ps.set i (aS 142 mb n (L++[p])))→wpList Tryz.prog ops Q rest (a.put o.dst undef) w'):wpList Tryz.prog ops Q (o::rest) a w:=by
 obtain ⟨F,⟨_,D,m,hmL,hown,hD⟩,_⟩:=HSx.get h i hi;refine wpList_plain hg fun K' hK'=>?_;obtain ⟨w',hrun,ho,hgr⟩:=hown.update (val:=.bool true) (d:=.held (.bool true)) (ps:=[]) zGQ Tryz.underlying145 (by unfold maxLen; omega) (zEv hpi) rfl;have hk:=k w' (h.upd i hi (st_S _ _ _ _) (h.bl.grown hgr h.bl.size (fun b hb=>by simp only [Option.some.injEq] at hb; omega)) hgr.size fun F' hF' _=>⟨F',⟨hF'.1,_,m+1,by simp; omega,ho,hD.put hown.isMap (zGQ.key (zEv hpi)) hn hp hpi⟩,fun b hb=>.inl hb,fun b hl hb=>hgr.block b hl (fun e=>by simp only [Option.some.injEq] at e; subst e; exact hb hF'.1)⟩);unfold Oper.wp;simp only [execOp,hop,hm,hx,hy,Sem.run_bind,Sem.run_pure,Result.andThen_ok,hrun];exact hK' _ _ hk
end
end
end Go.Proofs.YtlgcdacpjcnjgaaGreatDoor
