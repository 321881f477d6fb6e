/- Polynomials without zeros at their end. Condition: at most 2^24 numbers. -/
import Derived.Test.YtlchafedbnihoaaGreatDoorJGOwn
import Derived.Laws.CopyOwn
namespace Go.Proofs.YtlchafedbnihoaaGreatDoor
open Go.RowKit
set_option maxRecDepth 20000
set_option maxHeartbeats 16000000
def zAR (p:List Int):Nat→Nat
 | 0=>0
 | n+1=>if num p n=0 then zAR p n else n+1
def trim (p:List Int):List Int:=p.take (zAR p p.length)
theorem zCg (p:List Int):∀n,zAR p n≤n
 | 0=>zNl _
 | n+1=>by
  unfold zAR;have:=zCg p n;split <;> omega
theorem zCX (p:List Int):(trim p).length≤p.length:=by unfold trim; simp; omega
theorem RI.take {S:Nat→Prop} {w:World} {a:Option Addr} {n cap k:Nat} {l:List Int} (h:RI S w (.slice a n cap) l) (hk:k≤n):RI S w (.slice a k cap) (l.take k):=by
 obtain ⟨a',cap',hv,hc,h⟩:=h;simp only [Value.slice.injEq] at hv;obtain ⟨rfl,rfl,rfl⟩:=hv;have hl:(l.take k).length=k:=by simp; omega
 refine ⟨a,cap,by rw [hl],⟨by omega,hc.2⟩,?_⟩;rcases h with h | ⟨b,o,ha,hs,ht,h⟩
 ·subst h; exact .inl (by simp)
 ·exact .inr ⟨b,o,ha,hs,ht,fun j x hx=>h j x (by rw [List.getElem?_take] at hx; split at hx <;> first | exact hx | cases hx)⟩
theorem zBC {S:Nat→Prop} {v:Value} {l:List Int} {w:World} (h:RI S w v l) (hl:l.length≤16777216) :
  Calls Tryz.prog 94 #[v] w fun e w'=>∃r,e=.returned r∧FI (New w w') w' r (trim l)∧Below w.heap.size w w':=by
 obtain ⟨a,cap,rfl⟩:=h.form;have HC:l.length≤cap:=by
  obtain ⟨_,_,hv,hc,_⟩:=h;simp only [Value.slice.injEq] at hv;obtain ⟨_,_,rfl⟩:=hv;exact hc.1
 have HR:Hid (l.take (zAR l l.length)=trim l):=zNg rfl;generalize hn:l.length=n at *;have HN:=zNg hn;clear hn;go_enter Tryz.func94,Tryz.ntmps94
 go_wp2_with fail
 go_loop [3] (fun j=>∃(k:Nat),k≤n∧j=.int .i64 k∧Hid (zAR l k=zAR l n)) (fun j=>(intOf j).toNat)
 case atStart=>exact ⟨n,zNl _,rfl,zNg rfl⟩
 case round =>
  obtain ⟨k,hk,rfl,HK⟩:=hrel;have fin:Hid (zAR l k=k)→Hid (trim l=l.take k∧(l.take k).length≤k):=fun e=>zNg ⟨by rw [<-HR.out,<-HK.out,e.out],by simp; omega⟩;have hcp:=h.take hk;have hkc:k≤cap:=by omega
  rcases k with _ | k
  ·have HF:=fin (zNg rfl);obtain ⟨f1,b1⟩:=zAa (w:=w) (Below.refl _ w) rfl;go_wp2_with (at_builtin; go_must (refine zAG (W:=w) rfl _ _ rfl rfl f1 b1 rfl (hcp.below b1) ?_ ?_))
   intro v1 w2 f2 b2 _;go_wp2_with fail
   go_ret
   rw [HF.out.1];exact ⟨_,rfl,f2,b2⟩
  ·obtain ⟨b,o,x,rfl,hc,hx⟩:=h.at (j:=k) (by omega);have e1:((k+1:Nat):Int)-1=(k:Int):=by omega
   by_cases hx0:x=0
   ·have HK2:Hid (zAR l k=zAR l n):=zNg (by rw [<-HK.out]; show _=if num l k=0 then zAR l k else k+1; rw [if_pos (by rw [zAv hx.out]; exact hx0)]);clear fin hcp;subst hx0;go_wp2_with fail
    go_round
    case rel=>exact ⟨k,by omega,by go_num,HK2⟩
    case measure=>simp [intOf]
   ·have HF:=fin (zNg (by show (if num l k=0 then zAR l k else k+1)=k+1; rw [if_neg (by rw [zAv hx.out]; exact hx0)]));clear fin;obtain ⟨f1,b1⟩:=zAa (w:=w) (Below.refl _ w) rfl;go_wp2_with (at_builtin; go_must (refine zAG (W:=w) rfl _ _ rfl rfl f1 b1 rfl (hcp.below b1) ?_ ?_))
    ·have:=HF.out.2; simp; omega
    ·intro v1 w2 f2 b2 _;go_wp2_with fail
     go_ret
     rw [HF.out.1];exact ⟨_,rfl,f2,b2⟩
theorem zBN {S:Nat→Prop} {v:Value} {l:List Int} {w:World} (h:RI S w v l) (hl:l.length≤16777216) :
  Calls Tryz.prog 87 #[v] w fun e w'=>∃r,e=.returned r∧FI (New w w') w' r (trim l)∧Below w.heap.size w w':=by
 obtain ⟨a,cap,rfl⟩:=h.form;have HC:l.length≤cap:=by
  obtain ⟨_,_,hv,hc,_⟩:=h;simp only [Value.slice.injEq] at hv;obtain ⟨_,_,rfl⟩:=hv;exact hc.1
 have HR:Hid (l.take (zAR l l.length)=trim l):=zNg rfl;generalize hn:l.length=n at *;have HN:=zNg hn;clear hn;go_enter Tryz.func87,Tryz.ntmps87
 go_wp2_with fail
 go_loop [3] (fun j=>∃(k:Nat),k≤n∧j=.int .i64 k∧Hid (zAR l k=zAR l n)) (fun j=>(intOf j).toNat)
 case atStart=>exact ⟨n,zNl _,rfl,zNg rfl⟩
 case round =>
  obtain ⟨k,hk,rfl,HK⟩:=hrel;have fin:Hid (zAR l k=k)→Hid (trim l=l.take k∧(l.take k).length≤k):=fun e=>zNg ⟨by rw [<-HR.out,<-HK.out,e.out],by simp; omega⟩;have hcp:=h.take hk;have hkc:k≤cap:=by omega
  rcases k with _ | k
  ·have HF:=fin (zNg rfl);obtain ⟨f1,b1⟩:=zAa (w:=w) (Below.refl _ w) rfl;go_wp2_with (at_builtin; go_must (refine zAG (W:=w) rfl _ _ rfl rfl f1 b1 rfl (hcp.below b1) ?_ ?_))
   intro v1 w2 f2 b2 _;go_wp2_with fail
   go_ret
   rw [HF.out.1];exact ⟨_,rfl,f2,b2⟩
  ·obtain ⟨b,o,x,rfl,hc,hx⟩:=h.at (j:=k) (by omega);have e1:((k+1:Nat):Int)-1=(k:Int):=by omega
   by_cases hx0:x=0
   ·have HK2:Hid (zAR l k=zAR l n):=zNg (by rw [<-HK.out]; show _=if num l k=0 then zAR l k else k+1; rw [if_pos (by rw [zAv hx.out]; exact hx0)]);clear fin hcp;subst hx0;go_wp2_with fail
    go_round
    case rel=>exact ⟨k,by omega,by go_num,HK2⟩
    case measure=>simp [intOf]
   ·have HF:=fin (zNg (by show (if num l k=0 then zAR l k else k+1)=k+1; rw [if_neg (by rw [zAv hx.out]; exact hx0)]));clear fin;obtain ⟨f1,b1⟩:=zAa (w:=w) (Below.refl _ w) rfl;go_wp2_with (at_builtin; go_must (refine zAG (W:=w) rfl _ _ rfl rfl f1 b1 rfl (hcp.below b1) ?_ ?_))
    ·have:=HF.out.2; simp; omega
    ·intro v1 w2 f2 b2 _;go_wp2_with fail
     go_ret
     rw [HF.out.1];exact ⟨_,rfl,f2,b2⟩
def isP (p:List Int):Bool:=decide (p.length≤61) && decide (zAR p p.length=p.length)
theorem zBg {S:Nat→Prop} {v:Value} {l:List Int} {w:World} (h:RI S w v l) (hl:l.length≤16777216) :
  Calls Tryz.prog 43 #[v] w fun e w'=>e=.returned (.bool (isP l))∧Below w.heap.size w w':=by
 obtain ⟨a,cap,rfl⟩:=h.form;have HT:Hid ((trim l).length=zAR l l.length):=zNg (by have:=zCg l l.length; simp [trim]; omega);have H0:Hid (¬l.length≤61→isP l=false):=zNg (fun h=>by simp [isP]; omega);have H1:Hid (l.length≤61→isP l=decide (zAR l l.length=l.length)):=zNg (fun h=>by simp [isP,h]);generalize isP l=res at *;generalize hn:l.length=n at *;have HN:=zNg hn;clear hn;generalize ht:zAR l n=t at *;clear ht;go_enter Tryz.func43,Tryz.ntmps43
 by_cases h61:n≤61
 ·have h61':(n:Int)≤61:=by omega
  go_wp2_with fail
  refine (zBN h (by rw [HN.out]; exact hl)).mono ?_;rintro e w2 ⟨r,rfl,f,b⟩;obtain ⟨a2,c2,rfl⟩:=f.form;rw [HT.out];by_cases htn:t=n
  ·have e0:Hid (res=true):=zNg (by rw [H1.out h61,htn]; simp);subst htn;go_wp2_with fail
   go_ret
   exact ⟨zAB (by rw [e0.out]),b⟩
  ·have e0:Hid (res=false):=zNg (by rw [H1.out h61]; simpa using htn);have htn':((t:Int) == (n:Int))=false:=by simp; omega
   go_wp2_with fail
   go_ret
   exact ⟨zAB (by rw [e0.out]),b⟩
 ·have h61':¬(n:Int)≤61:=by omega
  have e0:Hid (res=false):=zNg (H0.out h61);go_wp2_with fail
  go_ret
  exact ⟨zAB (by rw [e0.out]),Below.refl _ _⟩
theorem zBf {S:Nat→Prop} {v:Value} {l:List Int} {w:World} (h:RI S w v l) (hl:l.length≤16777216) :
  Calls Tryz.prog 40 #[v] w fun e w'=>e=.returned (.bool (isP l))∧∃m,w'=w.drewN m:=by
 obtain ⟨a,cap,rfl⟩:=h.form;have H0:Hid (¬l.length≤61→isP l=false):=zNg (fun h=>by simp [isP]; omega);have H1:Hid (l.length≤61→isP l=decide (zAR l l.length=l.length)):=zNg (fun h=>by simp [isP,h]);generalize isP l=res at *;generalize hn:l.length=n at *;have HN:=zNg hn;clear hn;go_enter Tryz.func40,Tryz.ntmps40
 by_cases h61:n≤61
 ·have h61':(n:Int)≤61:=by omega
  rcases n with _ | k
  ·have e0:Hid (res=true):=zNg (by rw [H1.out h61]; rfl);go_wp2_with fail
   go_ret
   exact ⟨zAB (by rw [e0.out]),dr0⟩
  ·obtain ⟨b,o,x,rfl,hc,hx⟩:=h.at (j:=k) (by omega);have e1:((k+1:Nat):Int)-1=(k:Int):=by omega
   have e2:((k:Int)+1 == 0)=false:=by simp; omega
   by_cases hx0:x=0
   ·have e0:Hid (res=false):=zNg (by
     rw [H1.out h61];have:zAR l (k+1)=zAR l k:=by show (if num l k=0 then zAR l k else k+1)=_; rw [if_pos (by rw [zAv hx.out]; exact hx0)]
     have h2:=zCg l k;simp; omega)
    subst hx0;go_wp2_with fail
    go_ret
    exact ⟨zAB (by rw [e0.out]),dr0⟩
   ·have e0:Hid (res=true):=zNg (by
     rw [H1.out h61];have:zAR l (k+1)=k+1:=by show (if num l k=0 then zAR l k else k+1)=_; rw [if_neg (by rw [zAv hx.out]; exact hx0)]
     simp [this])
    have hx2:(x != 0)=true:=by simpa using hx0
    go_wp2_with fail
    go_ret
    exact ⟨zAB (by rw [e0.out]),dr0⟩
 ·have h61':¬(n:Int)≤61:=by omega
  have e0:Hid (res=false):=zNg (H0.out h61);go_wp2_with fail
  go_ret
  exact ⟨zAB (by rw [e0.out]),dr0⟩
def zA7 (x:Int):List Int→Int
 | []=>0
 | y::ys=>wrap64 (wrap64 (zA7 x ys*x)+y)
theorem zI0 {x:Int} {l:List Int} {k:Nat} {y:Int} (h:l[k]? = some y):zA7 x (l.drop k)=wrap64 (wrap64 (zA7 x (l.drop (k+1))*x)+y):=by rw [zAJ h]; rfl
theorem zEk {S:Nat→Prop} {v:Value} {l:List Int} {w:World} (x:Int) (h:RI S w v l) (hl:l.length≤16777216) :
  Calls Tryz.prog 16 #[v,.int .i64 x] w fun e w'=>e=.returned (.int .i64 (zA7 x l))∧w=w':=by
 obtain ⟨a,cap,rfl⟩:=h.form;have HR0:Hid (zA7 x (l.drop l.length)=0):=zNg (by rw [List.drop_length]; rfl);have HR:Hid (zA7 x (l.drop 0)=zA7 x l):=zNg (by simp);generalize zA7 x l=res at *;generalize hn:l.length=n at *;have HN:=zNg hn;clear hn;go_enter Tryz.func16,Tryz.ntmps16
 go_wp2_with fail
 go_loop [5,6] (fun s j=>∃(k:Nat) (q:Int),k≤n∧j=.int .i64 ((k:Int)-1)∧s=.int .i64 q∧Hid (zA7 x (l.drop k)=q)) (fun _ j=>(intOf j+1).toNat)
 case atStart=>exact ⟨n,0,zNl _,rfl,rfl,HR0⟩
 case round =>
  obtain ⟨k,q,hk,rfl,rfl,HK⟩:=hrel;rcases k with _ | k
  ·have e0:Hid (q=res):=zNg (by rw [<-HK.out,HR.out]);go_wp2_with fail
   go_ret
   exact ⟨zAg e0.out,rfl⟩
  ·obtain ⟨b,o,y,e9,hcy,hy⟩:=h.at (j:=k) (by omega);subst e9;have e1:((k+1:Nat):Int)-1=(k:Int):=by omega
   rw [e1];have HK2:Hid (zA7 x (l.drop k)=wrap64 (wrap64 (q*x)+y)):=zNg (by rw [zI0 hy.out,HK.out]);go_wp2_with fail
   go_round
   case rel=>exact ⟨k,_,by omega,by go_num,rfl,by first | exact HK2 | (refine zNg ?_; rw [HK2.out]; simp only [IntWalk.i64_left]; rfl)⟩
   case measure=>simp [intOf]
def zA2 (a b:List Int) (n:Nat):List Int:=(List.range n).map fun k=>wrap64 (num a k+num b k)
def addP (a b:List Int):List Int:=trim (zA2 a b (max a.length b.length))
theorem zDo (a b:List Int) (k:Nat):zA2 a b (k+1)=zA2 a b k++[wrap64 (num a k+num b k)]:=by simp [zA2,List.range_succ]
theorem zEG (a b:List Int) (k:Nat):(zA2 a b k).length=k:=by simp [zA2]
theorem zBD {l:List Int} {k:Nat} (h:l.length≤k):num l k=0:=by simp [num,List.getElem?_eq_none h]
theorem zCI {x:Int} (h:-9223372036854775808≤x∧x≤9223372036854775807):wrap64 x=x:=by unfold wrap64; omega
def InI (l:List Int):Prop:=∀x∈l,-9223372036854775808≤x∧x≤9223372036854775807
theorem zH0 {S S':Nat→Prop} {u v:Value} {l l':List Int} {w:World} (h:RI S w u l) (h':RI S' w v l') (hi:InI l) (hi':InI l') (hl:l.length≤8388608) (hl':l'.length≤8388608) :
  Calls Tryz.prog 98 #[u,v] w fun e w'=>∃r,e=.returned r∧FI (New w w') w' r (addP l l')∧Below w.heap.size w w':=by
 obtain ⟨a,cap,rfl⟩:=h.form;obtain ⟨a',cap',rfl⟩:=h'.form;have HR:Hid (trim (zA2 l l' (max l.length l'.length))=addP l l'):=zNg rfl;have HB:Hid (∀(k:Nat) (x y:Int),l[k]? = some x→l'[k]? = some y→zA2 l l' (k+1)=zA2 l l' k++[wrap64 (x+y)]):=zNg (fun k x y hx hy=>by rw [zDo,zAv hx,zAv hy]);have HL:Hid (∀(k:Nat) (x:Int),l[k]? = some x→l'.length≤k→zA2 l l' (k+1)=zA2 l l' k++[x]):=zNg (fun k x hx hk=>by rw [zDo,zAv hx,zBD hk,Int.add_zero,zCI (hi x (zNi hx))]);have HRR:Hid (∀(k:Nat) (y:Int),l'[k]? = some y→l.length≤k→zA2 l l' (k+1)=zA2 l l' k++[y]):=zNg (fun k y hy hk=>by rw [zDo,zAv hy,zBD hk,Int.zero_add,zCI (hi' y (zNi hy))]);have HW:Hid (∀y∈l',-9223372036854775808≤y∧y≤9223372036854775807):=zNg hi';have HLEN:=zNg (zEG l l');have hm0:max l.length l'.length≤8388608:=by omega
 clear hi hi';generalize addP l l'=res at *;generalize hn:l.length=n at *;have HN:=zNg hn;clear hn;generalize hm:l'.length=m at *;have HM:=zNg hm;clear hm;go_enter Tryz.func98,Tryz.ntmps98
 go_wp2_with fail
 obtain ⟨w1,hw1⟩:∃w1,w1=w.alloc (.cells #[] 3):=⟨_,rfl⟩;obtain ⟨f1,b1⟩:=zAa (Below.refl _ w) hw1;rw [<-hw1];clear hw1;have f1:FI (New w w1) w1 (.slice (some ⟨w.heap.size,0,none⟩) 0 0) (zA2 l l' 0):=f1;go_loopw [5,6] (fun zz j wr=>∃(k:Nat) (z:Value),z=zz∧k≤max n m∧j=.int .i64 k∧FI (New w wr) wr z (zA2 l l' k)∧Below w.heap.size w wr) (fun _ j _=>max n m-(intOf j).toNat)
 case atStart=>exact ⟨0,_,rfl,Nat.zero_le _,rfl,f1,b1⟩
 case round =>
  obtain ⟨k,z,rfl,hk,rfl,hf,hb⟩:=hrel;have hal:=HLEN.out k;have HAL:=zNg hal;clear hal;by_cases h1:k<n
  ·obtain ⟨b,o,x,e8,hcx,hx⟩:=(h.below hb).at h1;subst e8;have i1:(k:Int)<(n:Int):=by omega
   by_cases h2:k<m
   ·obtain ⟨b2,o2,y,e9,hcy,hy⟩:=(h'.below hb).at h2;subst e9;have HST:=zNg (HB.out k x y hx.out hy.out);generalize zA2 l l' k=A at *;have i2:(k:Int)<(m:Int):=by omega
    have bb:Below wr.heap.size wr (wr.alloc (.cells #[.int .i64 (wrap64 (x+y))] 3)):=(Below.refl _ _).alloc (zNl _) _;go_wp2_with (at_builtin; go_must (refine zAG (W:=w) rfl _ _ rfl rfl (hf.grow bb) (zAA.step hb bb) rfl (RI.one _ (wrap64 (x+y))) ?_ ?_))
    ·have:=HAL.out; simp; omega
    ·intro v7 w7 f7 b7 _;go_wp2_with fail
     go_roundw
     case rel=>exact ⟨k+1,_,rfl,by omega,by go_num,by rw [HST.out]; exact f7,b7⟩
     case measure=>simp [intOf]; omega
   ·have HST:=zNg (HL.out k x hx.out (by have:=HM.out; omega));generalize zA2 l l' k=A at *;have i2:¬(k:Int)<(m:Int):=by omega
    have bb:Below wr.heap.size wr (wr.alloc (.cells #[.int .i64 x] 3)):=(Below.refl _ _).alloc (zNl _) _;go_wp2_with (at_builtin; go_must (refine zAG (W:=w) rfl _ _ rfl rfl (hf.grow bb) (zAA.step hb bb) rfl (RI.one _ x) ?_ ?_))
    ·have:=HAL.out; simp; omega
    ·intro v7 w7 f7 b7 _;go_wp2_with fail
     go_roundw
     case rel=>exact ⟨k+1,_,rfl,by omega,by go_num,by rw [HST.out]; exact f7,b7⟩
     case measure=>simp [intOf]; omega
  ·have i1:¬(k:Int)<(n:Int):=by omega
   by_cases h2:k<m
   ·obtain ⟨b2,o2,y,e9,hcy,hy⟩:=(h'.below hb).at h2;subst e9;have HST:=zNg (HRR.out k y hy.out (by have:=HN.out; omega));generalize zA2 l l' k=A at *;have i2:(k:Int)<(m:Int):=by omega
    have hyb:=HW.out y (zNi hy.out);have bb:Below wr.heap.size wr (wr.alloc (.cells #[.int .i64 y] 3)):=(Below.refl _ _).alloc (zNl _) _;go_wp2_with (at_builtin; go_must (refine zAG (W:=w) rfl _ _ rfl rfl (hf.grow bb) (zAA.step hb bb) rfl (RI.one _ y) ?_ ?_))
    ·have:=HAL.out; simp; omega
    ·intro v7 w7 f7 b7 _;go_wp2_with fail
     go_roundw
     case rel=>exact ⟨k+1,_,rfl,by omega,by go_num,by rw [HST.out]; exact f7,b7⟩
     case measure=>simp [intOf]; omega
   ·have hkm:k=max n m:=by omega
    have i2:¬(k:Int)<(m:Int):=by omega
    rw [hkm] at hf;clear hkm;go_wp2_with fail
    refine (zBN hf.reads (by rw [HLEN.out]; omega)).mono ?_;rintro e w5 ⟨r5,rfl,f5,b5⟩;rw [HR.out] at f5;go_wp2_with fail
    go_ret
    exact ⟨_,rfl,f5.mono (fun b hb'=>⟨Nat.le_trans hb.size hb'.1,hb'.2⟩),zAA.step hb b5⟩
def negL (l:List Int):List Int:=l.map fun x=>wrap64 (-x)
def subP (a b:List Int):List Int:=addP a (negL b)
theorem zJ0 {l:List Int} {k:Nat} {x:Int} (h:l[k]? = some x):negL (l.take (k+1))=negL (l.take k)++[wrap64 (-x)]:=by rw [zAV h]; simp [negL]
theorem zHo (x:Int):-9223372036854775808≤wrap64 x∧wrap64 x≤9223372036854775807:=by unfold wrap64; omega
theorem zMG (l:List Int):InI (negL l):=fun x hx=>by
 obtain ⟨y,_,rfl⟩:=List.mem_map.1 hx;exact zHo _
theorem zCY {l:List Int} {x:Int} (h:x∈trim l):x∈l:=List.mem_of_mem_take h
theorem zEL (a b:List Int):InI (addP a b):=fun x hx=>by
 obtain ⟨k,_,rfl⟩:=List.mem_map.1 (zCY hx);exact zHo _
theorem zEM (a b:List Int):(addP a b).length≤max a.length b.length:=by
 have:=zCX (zA2 a b (max a.length b.length));rw [zEG] at this;exact this
theorem zMh {S S':Nat→Prop} {u v:Value} {l l':List Int} {w:World} (h:RI S w u l) (h':RI S' w v l') (hi:InI l) (hl:l.length≤8388608) (hl':l'.length≤8388608) :
  Calls Tryz.prog 66 #[u,v] w fun e w'=>∃r,e=.returned r∧FI (New w w') w' r (subP l l')∧Below w.heap.size w w':=by
 obtain ⟨a',cap',rfl⟩:=h'.form;have HI:=zNg hi;have HR:Hid (addP l (negL l')=subP l l'):=zNg rfl;have HN0:Hid (negL (l'.take 0)=[]):=zNg (by simp [negL]);have HNN:Hid (negL (l'.take l'.length)=negL l'):=zNg (by simp);have HNL:Hid (∀k,(negL (l'.take k)).length≤k):=zNg (fun k=>by simp [negL]; omega);have HLL:Hid ((negL l').length=l'.length):=zNg (by simp [negL]);generalize subP l l'=res at *;clear hi;generalize hm:l'.length=m at *;have HM:=zNg hm;clear hm;go_enter Tryz.func66,Tryz.ntmps66
 go_wp2_with fail
 obtain ⟨w1,hw1⟩:∃w1,w1=w.alloc (.cells #[] 3):=⟨_,rfl⟩;obtain ⟨f1,b1⟩:=zAa (Below.refl _ w) hw1;rw [<-hw1];clear hw1;rw [<-HN0.out] at f1;go_loopw [5,6] (fun zz j wr=>∃(k:Nat) (z:Value),z=zz∧k≤m∧j=.int .i64 k∧FI (New w wr) wr z (negL (l'.take k))∧Below w.heap.size w wr) (fun _ j _=>m-(intOf j).toNat)
 case atStart=>exact ⟨0,_,rfl,Nat.zero_le _,rfl,f1,b1⟩
 case round =>
  obtain ⟨k,z,rfl,hk,rfl,hf,hb⟩:=hrel;have hal:=HNL.out k;by_cases h1:k<m
  ·obtain ⟨b,o,x,e8,hcx,hx⟩:=(h'.below hb).at h1;subst e8;have i1:(k:Int)<(m:Int):=by omega
   have HST:=zNg (zJ0 hx.out);generalize negL (l'.take k)=A at *;have bb:Below wr.heap.size wr (wr.alloc (.cells #[.int .i64 (wrap64 (-x))] 3)):=(Below.refl _ _).alloc (zNl _) _;go_wp2_with (at_builtin; go_must (refine zAG (W:=w) rfl _ _ rfl rfl (hf.grow bb) (zAA.step hb bb) rfl (RI.one _ (wrap64 (-x))) ?_ ?_))
   ·simp; omega
   ·intro v7 w7 f7 b7 _;go_wp2_with fail
    go_roundw
    case rel=>exact ⟨k+1,_,rfl,by omega,by go_num,by rw [HST.out]; exact f7,b7⟩
    case measure=>simp [intOf]; omega
  ·have hkm:k=m:=by omega
   have i1:¬(k:Int)<(m:Int):=by omega
   rw [hkm,HNN.out] at hf;clear hkm;go_wp2_with fail
   refine (zH0 (h.below hb) hf.reads HI.out (zMG l') hl (by rw [HLL.out]; exact hl')).mono ?_;rintro e w5 ⟨r5,rfl,f5,b5⟩;rw [HR.out] at f5;go_wp2_with fail
   go_ret
   exact ⟨_,rfl,f5.mono (fun b hb'=>⟨Nat.le_trans hb.size hb'.1,hb'.2⟩),zAA.step hb b5⟩
def zCy (p:List Int) (k:Nat):List Int:=if p.length=0 then trim p else trim (List.replicate k 0++p)
theorem zGV {S:Nat→Prop} {v:Value} {l:List Int} {w:World} (h:RI S w v l) (k:Nat) (hk:k≤60) (hl:l.length≤8388608) :
  Calls Tryz.prog 65 #[v,.int .i64 k] w fun e w'=>∃r,e=.returned r∧FI (New w w') w' r (zCy l k)∧Below w.heap.size w w':=by
 obtain ⟨a,cap,rfl⟩:=h.form;obtain ⟨i0,hi,hz0,hz1,hz2⟩:=info_parts zBK;have HLN:=zNg hl;by_cases h0:l.length=0
 ·have HR:Hid (trim l=zCy l k):=zNg (by unfold zCy; rw [if_pos h0]);have i1:((l.length:Int) == 0)=true:=beq_iff_eq.2 (by omega);have i2:¬(k:Int)<0:=by omega
  have i3:¬(60:Int)<(k:Int):=by omega
  clear h0;go_enter Tryz.func65,Tryz.ntmps65
  go_wp2_with fail
  refine (zBN h (by have:=HLN.out; omega)).mono ?_;rintro e w2 ⟨r2,rfl,f2,b2⟩;rw [HR.out] at f2;go_wp2_with fail
  go_ret
  exact ⟨_,rfl,f2,b2⟩
 ·have HR:Hid (trim (List.replicate k 0++l)=zCy l k):=zNg (by unfold zCy; rw [if_neg h0]);have i1:((l.length:Int) == 0)=false:=beq_eq_false_iff_ne.2 (by omega);have i2:¬(k:Int)<0:=by omega
  have i3:¬(60:Int)<(k:Int):=by omega
  clear h0;go_enter Tryz.func65,Tryz.ntmps65
  go_wp2_with (at_make; refine wpList_make_full _ rfl _ _ 33 rfl w.heap.size 3 i0 (.int .i64 0) 1 Tryz.underlying33 hi hz0 hz1 _ _ _ _ k rfl rfl rfl rfl ?hb ?hm ?hs ?_)
  case hb=>first | (rw [hz2]; omega) | omega
  case hm=>unfold maxLen; omega
  intro w1 hown hgr;have hb1:Below w.heap.size w w1:=(Below.refl _ w).grown hgr (zNl _) (by simp);have hf1:FI (New w w1) w1 (.slice (some ⟨w.heap.size,0,none⟩) k k) (List.replicate k 0):=FI.of_row hown (zNl _) (by simp) (by simp [toList_madeCells_one]);clear hgr hi hz0 hz1 hz2 hown;go_wp2_with (at_builtin; go_must (refine zAG (W:=w) rfl _ _ rfl rfl hf1 hb1 rfl (h.below hb1) ?_ ?_))
  ·have:=HLN.out; simp; omega
  ·intro v3 w3 f3 b3 _;go_wp2_with fail
   refine (zBN f3.reads (by have:=HLN.out; simp; omega)).mono ?_;rintro e w4 ⟨r4,rfl,f4,b4⟩;rw [HR.out] at f4;go_wp2_with fail
   go_ret
   exact ⟨_,rfl,f4.mono (fun b hb=>⟨Nat.le_trans b3.size hb.1,hb.2⟩),zAA.step b3 b4⟩
section
variable {w:World} {ops:Array Oper} {rest:List Oper} {o:Oper} {a:Act} {Q:Exit→Act→World→Prop}
theorem zCO {S:Nat→Prop} {W:World} (hgd:o.guard=none) (d s:Operand)
  (ho:o.op=.call { callee:=.builtin .copy,args:=#[d,s],argTypes:=#[33,33] })
  {g n cap:Nat} {L l2:List Int} (hd:a.eval d=.slice (some ⟨g,0,none⟩) n cap) (hf:FI (New W w) w (.slice (some ⟨g,0,none⟩) n cap) L) (hL:L.length=n) (hb:Below W.heap.size W w)
  {sa:Option Addr} {m c:Nat} (hx:a.eval s=.slice sa m c) (hr:RI S w (.slice sa m c) l2) (hmn:m≤n)
  (h:∀w',FI (New W w') w' (.slice (some ⟨g,0,none⟩) n cap) (l2++L.drop m)→Below W.heap.size W w'→wpList Tryz.prog ops Q rest (a.put o.dst (goInt m)) w'):wpList Tryz.prog ops Q (o::rest) a w:=by
 subst hL;obtain ⟨hown,hS⟩:=hf;obtain ⟨a',cap',hv,hcap,hcase⟩:=hr;simp only [Value.slice.injEq] at hv;obtain ⟨rfl,rfl,rfl⟩:=hv;have hSg:=hS g rfl;rcases hown.2 with ⟨hv,_⟩ | ⟨g',cap',cur,hv,_,hg,hnc,hcm,hcs,htake⟩
 ·cases hv
 ·simp only [Value.slice.injEq,Option.some.injEq,Addr.mk.injEq,and_true,true_and] at hv;obtain ⟨rfl,rfl⟩:=hv;have hcl:cur.toList.length=cap:=by simpa using hcs
  refine wpList_copy_splice (P:=Tryz.prog) (w:=w) hgd d s 33 33 ho 3 Tryz.underlying33 (by kernel_rfl) (some ⟨g,0,none⟩) sa L.length cap l2.length c hd hx g 0 cur.toList 3 (by simpa using hg) (l2.map (Value.int .i64)) (by rw [List.length_map]; exact (Nat.min_eq_left hmn).symm) (fun hp=>?_) (by simp; simp at hcl; omega) (fun v hv=>?_) g w (Below.refl _ _) (zNl _) (fun w' hg' hb'=>?_)
  ·rcases hcase with h0 | ⟨b,off,ha,_,_,hc⟩
   ·subst h0; simp at hp
   ·refine ⟨rfl,_,ha,fun j v hj=>?_⟩;rw [List.getElem?_map] at hj;obtain ⟨x,hx1,hx2⟩:=Option.map_eq_some_iff.1 hj;obtain ⟨r,h1,h2⟩:=hc j x hx1;have hadd:(⟨b,off,none⟩:Addr).add j=⟨b,off+j,none⟩:=by unfold Addr.add; split <;> simp_all
    rw [hadd,h1,<-hx2];exact congrArg some h2
  ·obtain ⟨x,_,rfl⟩:=List.mem_map.1 hv;rfl
  ·have e1:(l2.map (Value.int .i64)).length=l2.length:=by simp
   rw [e1];have hgs:g<w'.heap.size:=(Array.getElem?_eq_some_iff.1 hg'.out).1;have e0:(l2++L.drop l2.length).length=L.length:=by simp; omega
   refine h w' ⟨⟨?_,.inr ⟨g,cap,_,by rw [e0],Nat.zero_le _,hg'.out,?_,hcm,?_,?_⟩⟩,fun b hb2=>?_⟩ (hb.trans (hb'.mono hSg.1))
   ·rw [List.length_map,Nat.mul_one]
   ·simp; omega
   ·simp [splice]; simp at hcl; omega
   ·simp only [splice,List.take_zero,List.nil_append,Nat.zero_add,List.length_map];have e2:cur.toList=L.map (Value.int .i64)++cur.toList.drop L.length:=by
     rw [<-htake]; simp
    have e3:(l2++L.drop l2.length).length=L.length:=by simp; omega
    rw [e3,Nat.mul_one];have e4:cur.toList.drop l2.length=(L.map (Value.int .i64)).drop l2.length++cur.toList.drop L.length:=by
     conv=>lhs; rw [e2]
     rw [List.drop_append_of_le_length (by simp; omega)]
    rw [e4,<-List.append_assoc,List.take_append_of_le_length (by simp; omega)];rw [List.take_of_length_le (by simp; omega)];simp
   ·simp [Value.ownBlock] at hb2;subst hb2;exact ⟨hSg.1,hgs⟩
end
def midL (f:Int→Int→Int) (a b:List Int) (M k:Nat):List Int:=((List.range k).map fun j=>f (num a j) (num b j))++(a++List.replicate (M-a.length) 0).drop k
theorem zJv {f:Int→Int→Int} {a b:List Int} {M:Nat} (_h:a.length≤M):midL f a b M 0=a++(List.replicate M (0:Int)).drop a.length:=by simp [midL]
theorem zEw {f:Int→Int→Int} {a b:List Int} {M:Nat} (k:Nat) (h:a.length≤M∧k≤M):(midL f a b M k).length=M:=by simp [midL]; omega
theorem zIU {a:List Int} {M j:Nat} (hj:j<M) (h:a.length≤M):(a++List.replicate (M-a.length) 0)[j]? = some (num a j):=by
 rcases Nat.lt_or_ge j a.length with h1 | h1
 ·rw [List.getElem?_append_left h1]; simp [num,h1]
 ·rw [List.getElem?_append_right h1,zBD h1,List.getElem?_replicate,if_pos (by omega)]
theorem zGO {f:Int→Int→Int} {a b:List Int} {M k:Nat} {x y:Int} (hx:(midL f a b M k)[k]? = some x) (hy:b[k]? = some y) (h:a.length≤M∧b.length≤M):(midL f a b M k).set k (f x y)=midL f a b M (k+1):=by
 have hk:k<b.length:=(zNj hy).1;have hr:((List.range k).map fun j=>f (num a j) (num b j)).length=k:=by simp
 have hp:=zIU (a:=a) (M:=M) (j:=k) (by omega) h.1;unfold midL at hx ⊢;rw [List.getElem?_append_right (by rw [hr]; exact zNl _),hr,Nat.sub_self,List.getElem?_drop,Nat.add_zero,hp] at hx
 injection hx with hx
 subst hx;rw [List.set_append_right _ _ (by rw [hr]; exact zNl _),hr,Nat.sub_self,zAJ hp,List.range_succ,List.map_append];simp [zAv hy]
theorem zH1 {a b:List Int} (hi:InI a):trim (midL (fun x y=>wrap64 (x+y)) a b (max a.length b.length) b.length)=addP a b:=by
 unfold addP;congr 1;refine List.ext_getElem? fun j=>?_;rcases Nat.lt_or_ge j (max a.length b.length) with hj | hj
 ·have e:(zA2 a b (max a.length b.length))[j]? = some (wrap64 (num a j+num b j)):=by simp [zA2,hj]
  rw [e];unfold midL;have hr:((List.range b.length).map fun j=>wrap64 (num a j+num b j)).length=b.length:=by simp
  rcases Nat.lt_or_ge j b.length with h1 | h1
  ·rw [List.getElem?_append_left (by rw [hr]; exact h1)]; simp [h1]
  ·rw [List.getElem?_append_right (by rw [hr]; exact h1),hr,List.getElem?_drop,show b.length+(j-b.length)=j by omega,zIU hj (by omega),zBD h1,Int.add_zero];have hja:j<a.length:=by omega
   have:num a j∈a:=by simp [num,hja]
   rw [zCI (hi _ this)]
 ·rw [List.getElem?_eq_none (by rw [zEw _ (by omega)]; exact hj),List.getElem?_eq_none (by rw [zEG]; exact hj)]
theorem zMI (b:List Int) (j:Nat):num (negL b) j=wrap64 (-(num b j)):=by
 unfold num negL;rw [List.getElem?_map];cases b[j]? with
 | none=>simp [wrap64]
 | some x=>simp
theorem zLN (x y:Int):wrap64 (x+wrap64 (-y))=wrap64 (x-y):=by unfold wrap64; omega
theorem zMi {a b:List Int} (hi:InI a):trim (midL (fun x y=>wrap64 (x-y)) a b (max a.length b.length) b.length)=subP a b:=by
 unfold subP;have hl:(negL b).length=b.length:=by simp [negL]
 rw [<-zH1 hi,hl];congr 1;unfold midL;congr 1;refine List.map_congr_left fun j _=>?_;show wrap64 (num a j-num b j)=wrap64 (num a j+num (negL b) j);rw [zMI,zLN]
theorem zLc {S S':Nat→Prop} {u v:Value} {l l':List Int} {w:World} (h:RI S w u l) (h':RI S' w v l') (hi:InI l) (hl:l.length≤8388608) (hl':l'.length≤8388608) :
  Calls Tryz.prog 93 #[u,v] w fun e w'=>∃r,e=.returned r∧FI (New w w') w' r (addP l l')∧Below w.heap.size w w':=by
 obtain ⟨a,cap,rfl⟩:=h.form;obtain ⟨a',cap',rfl⟩:=h'.form;obtain ⟨i0,hi0,hz0,hz1,hz2⟩:=info_parts zBK;have h':=h'.old;have HR:Hid (trim (midL (fun x y=>wrap64 (x+y)) l l' (max l.length l'.length) l'.length)=addP l l'):=zNg (zH1 hi);have HS:Hid (∀(k:Nat) (x y:Int),(midL (fun x y=>wrap64 (x+y)) l l' (max l.length l'.length) k)[k]? = some x→l'[k]? = some y→(midL (fun x y=>wrap64 (x+y)) l l' (max l.length l'.length) k).set k ((fun x y=>wrap64 (x+y)) x y)=midL (fun x y=>wrap64 (x+y)) l l' (max l.length l'.length) (k+1)):=zNg (fun k x y hx hy=>zGO hx hy (by omega));have HL:Hid (∀k,k≤l'.length→(midL (fun x y=>wrap64 (x+y)) l l' (max l.length l'.length) k).length=max l.length l'.length):=zNg (fun k hk=>zEw k (by omega))
 have H0:Hid (l++(List.replicate (max l.length l'.length) (0:Int)).drop l.length=midL (fun x y=>wrap64 (x+y)) l l' (max l.length l'.length) 0):=zNg (zJv (by omega)).symm;have hmx:max l.length l'.length≤8388608:=by omega
 have hmx1:l.length≤max l.length l'.length:=Nat.le_max_left _ _;have hmx2:l'.length≤max l.length l'.length:=Nat.le_max_right _ _;have hcase:(l.length<l'.length∧max l.length l'.length=l'.length)∨(¬l.length<l'.length∧max l.length l'.length=l.length):=by omega
 generalize hM:max l.length l'.length=M at *;generalize midL (fun x y=>wrap64 (x+y)) l l' M=P at *;generalize addP l l'=res at *;clear hi;generalize hn:l.length=n at *;have HN:=zNg hn;clear hn;generalize hm:l'.length=m at *;have HM:=zNg hm;clear hm hM;rcases hcase with ⟨hc,hMe⟩ | ⟨hc,hMe⟩
 ·subst hMe;go_enter Tryz.func93,Tryz.ntmps93
  go_wp2_with (at_make; refine wpList_make_full _ rfl _ _ 33 rfl w.heap.size 3 i0 (.int .i64 0) 1 Tryz.underlying33 hi0 hz0 hz1 _ _ _ _ M rfl rfl rfl rfl ?hb ?hm ?hs ?_)
  case hb=>first | (rw [hz2]; omega) | omega
  case hm=>unfold maxLen; omega
  intro w1 hown hgr;have hb1:Below w.heap.size w w1:=(Below.refl _ w).grown hgr (zNl _) (by simp);have hf1:FI (New w w1) w1 (.slice (some ⟨w.heap.size,0,none⟩) M M) (List.replicate M 0):=FI.of_row hown (zNl _) (by simp) (by simp [toList_madeCells_one]);clear hgr hi0 hz0 hz1 hz2 hown;go_wp2_with (refine zCO (W:=w) rfl _ _ rfl rfl hf1 (by simp) hb1 rfl (h.below hb1) (by omega) ?_)
  intro w2 f2 b2;have h0:=H0.out;simp only [List.drop_replicate] at h0;rw [h0] at f2;clear h0;clear hf1 hb1;go_wp2_with fail
  go_loopw [19] (fun j wr=>∃k:Nat,k≤M∧j=.int .i64 k∧FI (New w wr) wr (.slice (some ⟨w.heap.size,0,none⟩) M M) (P k)∧Below w.heap.size w wr) (fun j _=>M-(intOf j).toNat)
  case atStart=>exact ⟨0,Nat.zero_le _,rfl,f2,b2⟩
  case round =>
   obtain ⟨k,hk,rfl,hf,hb⟩:=hrel;by_cases h1:k<M
   ·obtain ⟨b,o,y,e8,hcy,hy⟩:=(h'.below hb).at h1;have hPk:=HL.out k hk;have hkM:k<M:=by omega
    obtain ⟨b5,o5,x,e5,hcx,hx⟩:=RI.at hf.any hkM;simp only [Option.some.injEq,Addr.mk.injEq,and_true] at e5;obtain ⟨rfl,rfl⟩:=e5;rw [Nat.zero_add] at hcx;subst e8;have i1:(k:Int)<(M:Int):=by omega
    have hfr:=hf.froz hPk k;have hst:=hf.put hPk k (wrap64 (x+y));rw [show (P k).set k (wrap64 (x+y))=P (k+1) from HS.out k x y hx.out hy.out] at hst;go_wp2_with fail
    go_roundw
    case rel=>exact ⟨k+1,by omega,by go_num,hst.mono (fun b hb'=>⟨hb'.1,Nat.lt_of_lt_of_le hb'.2 ((Below.refl 0 wr).setCell (Nat.zero_le _) _).size⟩),hb.setCell (zNl _) _⟩
    case measure=>simp [intOf]; omega
   ·have hkm:k=M:=by omega
    have i1:¬(k:Int)<(M:Int):=by omega
    rw [hkm] at hf;clear hkm;go_wp2_with fail
    refine (zBC hf.reads (by rw [HL.out M (zNl _)]; omega)).mono ?_;rintro e w5 ⟨r5,rfl,f5,b5⟩;rw [HR.out] at f5;go_wp2_with fail
    go_ret
    exact ⟨_,rfl,f5.mono (fun b hb'=>⟨Nat.le_trans hb.size hb'.1,hb'.2⟩),zAA.step hb b5⟩
 ·subst hMe;go_enter Tryz.func93,Tryz.ntmps93
  go_wp2_with (at_make; refine wpList_make_full _ rfl _ _ 33 rfl w.heap.size 3 i0 (.int .i64 0) 1 Tryz.underlying33 hi0 hz0 hz1 _ _ _ _ M rfl rfl rfl rfl ?hb ?hm ?hs ?_)
  case hb=>first | (rw [hz2]; omega) | omega
  case hm=>unfold maxLen; omega
  intro w1 hown hgr;have hb1:Below w.heap.size w w1:=(Below.refl _ w).grown hgr (zNl _) (by simp);have hf1:FI (New w w1) w1 (.slice (some ⟨w.heap.size,0,none⟩) M M) (List.replicate M 0):=FI.of_row hown (zNl _) (by simp) (by simp [toList_madeCells_one]);clear hgr hi0 hz0 hz1 hz2 hown;go_wp2_with (refine zCO (W:=w) rfl _ _ rfl rfl hf1 (by simp) hb1 rfl (h.below hb1) (by omega) ?_)
  intro w2 f2 b2;have h0:=H0.out;simp only [List.drop_replicate,Nat.sub_self,List.replicate_zero,List.append_nil] at h0;rw [h0] at f2;clear h0;clear hf1 hb1;go_wp2_with fail
  go_loopw [19] (fun j wr=>∃k:Nat,k≤m∧j=.int .i64 k∧FI (New w wr) wr (.slice (some ⟨w.heap.size,0,none⟩) M M) (P k)∧Below w.heap.size w wr) (fun j _=>m-(intOf j).toNat)
  case atStart=>exact ⟨0,Nat.zero_le _,rfl,f2,b2⟩
  case round =>
   obtain ⟨k,hk,rfl,hf,hb⟩:=hrel;by_cases h1:k<m
   ·obtain ⟨b,o,y,e8,hcy,hy⟩:=(h'.below hb).at h1;have hPk:=HL.out k hk;have hkM:k<M:=by omega
    obtain ⟨b5,o5,x,e5,hcx,hx⟩:=RI.at hf.any hkM;simp only [Option.some.injEq,Addr.mk.injEq,and_true] at e5;obtain ⟨rfl,rfl⟩:=e5;rw [Nat.zero_add] at hcx;subst e8;have i1:(k:Int)<(m:Int):=by omega
    have hfr:=hf.froz hPk k;have hst:=hf.put hPk k (wrap64 (x+y));rw [show (P k).set k (wrap64 (x+y))=P (k+1) from HS.out k x y hx.out hy.out] at hst;go_wp2_with fail
    go_roundw
    case rel=>exact ⟨k+1,by omega,by go_num,hst.mono (fun b hb'=>⟨hb'.1,Nat.lt_of_lt_of_le hb'.2 ((Below.refl 0 wr).setCell (Nat.zero_le _) _).size⟩),hb.setCell (zNl _) _⟩
    case measure=>simp [intOf]; omega
   ·have hkm:k=m:=by omega
    have i1:¬(k:Int)<(m:Int):=by omega
    rw [hkm] at hf;clear hkm;go_wp2_with fail
    refine (zBC hf.reads (by rw [HL.out m (zNl _)]; omega)).mono ?_;rintro e w5 ⟨r5,rfl,f5,b5⟩;rw [HR.out] at f5;go_wp2_with fail
    go_ret
    exact ⟨_,rfl,f5.mono (fun b hb'=>⟨Nat.le_trans hb.size hb'.1,hb'.2⟩),zAA.step hb b5⟩
theorem zMg {S S':Nat→Prop} {u v:Value} {l l':List Int} {w:World} (h:RI S w u l) (h':RI S' w v l') (hi:InI l) (hl:l.length≤8388608) (hl':l'.length≤8388608) :
  Calls Tryz.prog 101 #[u,v] w fun e w'=>∃r,e=.returned r∧FI (New w w') w' r (subP l l')∧Below w.heap.size w w':=by
 obtain ⟨a,cap,rfl⟩:=h.form;obtain ⟨a',cap',rfl⟩:=h'.form;obtain ⟨i0,hi0,hz0,hz1,hz2⟩:=info_parts zBK;have h':=h'.old;have HR:Hid (trim (midL (fun x y=>wrap64 (x-y)) l l' (max l.length l'.length) l'.length)=subP l l'):=zNg (zMi hi);have HS:Hid (∀(k:Nat) (x y:Int),(midL (fun x y=>wrap64 (x-y)) l l' (max l.length l'.length) k)[k]? = some x→l'[k]? = some y→(midL (fun x y=>wrap64 (x-y)) l l' (max l.length l'.length) k).set k ((fun x y=>wrap64 (x-y)) x y)=midL (fun x y=>wrap64 (x-y)) l l' (max l.length l'.length) (k+1)):=zNg (fun k x y hx hy=>zGO hx hy (by omega));have HL:Hid (∀k,k≤l'.length→(midL (fun x y=>wrap64 (x-y)) l l' (max l.length l'.length) k).length=max l.length l'.length):=zNg (fun k hk=>zEw k (by omega))
 have H0:Hid (l++(List.replicate (max l.length l'.length) (0:Int)).drop l.length=midL (fun x y=>wrap64 (x-y)) l l' (max l.length l'.length) 0):=zNg (zJv (by omega)).symm;have hmx:max l.length l'.length≤8388608:=by omega
 have hmx1:l.length≤max l.length l'.length:=Nat.le_max_left _ _;have hmx2:l'.length≤max l.length l'.length:=Nat.le_max_right _ _;have hcase:(l.length<l'.length∧max l.length l'.length=l'.length)∨(¬l.length<l'.length∧max l.length l'.length=l.length):=by omega
 generalize hM:max l.length l'.length=M at *;generalize midL (fun x y=>wrap64 (x-y)) l l' M=P at *;generalize subP l l'=res at *;clear hi;generalize hn:l.length=n at *;have HN:=zNg hn;clear hn;generalize hm:l'.length=m at *;have HM:=zNg hm;clear hm hM;rcases hcase with ⟨hc,hMe⟩ | ⟨hc,hMe⟩
 ·subst hMe;go_enter Tryz.func101,Tryz.ntmps101
  go_wp2_with (at_make; refine wpList_make_full _ rfl _ _ 33 rfl w.heap.size 3 i0 (.int .i64 0) 1 Tryz.underlying33 hi0 hz0 hz1 _ _ _ _ M rfl rfl rfl rfl ?hb ?hm ?hs ?_)
  case hb=>first | (rw [hz2]; omega) | omega
  case hm=>unfold maxLen; omega
  intro w1 hown hgr;have hb1:Below w.heap.size w w1:=(Below.refl _ w).grown hgr (zNl _) (by simp);have hf1:FI (New w w1) w1 (.slice (some ⟨w.heap.size,0,none⟩) M M) (List.replicate M 0):=FI.of_row hown (zNl _) (by simp) (by simp [toList_madeCells_one]);clear hgr hi0 hz0 hz1 hz2 hown;go_wp2_with (refine zCO (W:=w) rfl _ _ rfl rfl hf1 (by simp) hb1 rfl (h.below hb1) (by omega) ?_)
  intro w2 f2 b2;have h0:=H0.out;simp only [List.drop_replicate] at h0;rw [h0] at f2;clear h0;clear hf1 hb1;go_wp2_with fail
  go_loopw [19] (fun j wr=>∃k:Nat,k≤M∧j=.int .i64 k∧FI (New w wr) wr (.slice (some ⟨w.heap.size,0,none⟩) M M) (P k)∧Below w.heap.size w wr) (fun j _=>M-(intOf j).toNat)
  case atStart=>exact ⟨0,Nat.zero_le _,rfl,f2,b2⟩
  case round =>
   obtain ⟨k,hk,rfl,hf,hb⟩:=hrel;by_cases h1:k<M
   ·obtain ⟨b,o,y,e8,hcy,hy⟩:=(h'.below hb).at h1;have hPk:=HL.out k hk;have hkM:k<M:=by omega
    obtain ⟨b5,o5,x,e5,hcx,hx⟩:=RI.at hf.any hkM;simp only [Option.some.injEq,Addr.mk.injEq,and_true] at e5;obtain ⟨rfl,rfl⟩:=e5;rw [Nat.zero_add] at hcx;subst e8;have i1:(k:Int)<(M:Int):=by omega
    have hfr:=hf.froz hPk k;have hst:=hf.put hPk k (wrap64 (x-y));rw [show (P k).set k (wrap64 (x-y))=P (k+1) from HS.out k x y hx.out hy.out] at hst;go_wp2_with fail
    go_roundw
    case rel=>exact ⟨k+1,by omega,by go_num,hst.mono (fun b hb'=>⟨hb'.1,Nat.lt_of_lt_of_le hb'.2 ((Below.refl 0 wr).setCell (Nat.zero_le _) _).size⟩),hb.setCell (zNl _) _⟩
    case measure=>simp [intOf]; omega
   ·have hkm:k=M:=by omega
    have i1:¬(k:Int)<(M:Int):=by omega
    rw [hkm] at hf;clear hkm;go_wp2_with fail
    refine (zBC hf.reads (by rw [HL.out M (zNl _)]; omega)).mono ?_;rintro e w5 ⟨r5,rfl,f5,b5⟩;rw [HR.out] at f5;go_wp2_with fail
    go_ret
    exact ⟨_,rfl,f5.mono (fun b hb'=>⟨Nat.le_trans hb.size hb'.1,hb'.2⟩),zAA.step hb b5⟩
 ·subst hMe;go_enter Tryz.func101,Tryz.ntmps101
  go_wp2_with (at_make; refine wpList_make_full _ rfl _ _ 33 rfl w.heap.size 3 i0 (.int .i64 0) 1 Tryz.underlying33 hi0 hz0 hz1 _ _ _ _ M rfl rfl rfl rfl ?hb ?hm ?hs ?_)
  case hb=>first | (rw [hz2]; omega) | omega
  case hm=>unfold maxLen; omega
  intro w1 hown hgr;have hb1:Below w.heap.size w w1:=(Below.refl _ w).grown hgr (zNl _) (by simp);have hf1:FI (New w w1) w1 (.slice (some ⟨w.heap.size,0,none⟩) M M) (List.replicate M 0):=FI.of_row hown (zNl _) (by simp) (by simp [toList_madeCells_one]);clear hgr hi0 hz0 hz1 hz2 hown;go_wp2_with (refine zCO (W:=w) rfl _ _ rfl rfl hf1 (by simp) hb1 rfl (h.below hb1) (by omega) ?_)
  intro w2 f2 b2;have h0:=H0.out;simp only [List.drop_replicate,Nat.sub_self,List.replicate_zero,List.append_nil] at h0;rw [h0] at f2;clear h0;clear hf1 hb1;go_wp2_with fail
  go_loopw [19] (fun j wr=>∃k:Nat,k≤m∧j=.int .i64 k∧FI (New w wr) wr (.slice (some ⟨w.heap.size,0,none⟩) M M) (P k)∧Below w.heap.size w wr) (fun j _=>m-(intOf j).toNat)
  case atStart=>exact ⟨0,Nat.zero_le _,rfl,f2,b2⟩
  case round =>
   obtain ⟨k,hk,rfl,hf,hb⟩:=hrel;by_cases h1:k<m
   ·obtain ⟨b,o,y,e8,hcy,hy⟩:=(h'.below hb).at h1;have hPk:=HL.out k hk;have hkM:k<M:=by omega
    obtain ⟨b5,o5,x,e5,hcx,hx⟩:=RI.at hf.any hkM;simp only [Option.some.injEq,Addr.mk.injEq,and_true] at e5;obtain ⟨rfl,rfl⟩:=e5;rw [Nat.zero_add] at hcx;subst e8;have i1:(k:Int)<(m:Int):=by omega
    have hfr:=hf.froz hPk k;have hst:=hf.put hPk k (wrap64 (x-y));rw [show (P k).set k (wrap64 (x-y))=P (k+1) from HS.out k x y hx.out hy.out] at hst;go_wp2_with fail
    go_roundw
    case rel=>exact ⟨k+1,by omega,by go_num,hst.mono (fun b hb'=>⟨hb'.1,Nat.lt_of_lt_of_le hb'.2 ((Below.refl 0 wr).setCell (Nat.zero_le _) _).size⟩),hb.setCell (zNl _) _⟩
    case measure=>simp [intOf]; omega
   ·have hkm:k=m:=by omega
    have i1:¬(k:Int)<(m:Int):=by omega
    rw [hkm] at hf;clear hkm;go_wp2_with fail
    refine (zBC hf.reads (by rw [HL.out m (zNl _)]; omega)).mono ?_;rintro e w5 ⟨r5,rfl,f5,b5⟩;rw [HR.out] at f5;go_wp2_with fail
    go_ret
    exact ⟨_,rfl,f5.mono (fun b hb'=>⟨Nat.le_trans hb.size hb'.1,hb'.2⟩),zAA.step hb b5⟩
end Go.Proofs.YtlchafedbnihoaaGreatDoor
