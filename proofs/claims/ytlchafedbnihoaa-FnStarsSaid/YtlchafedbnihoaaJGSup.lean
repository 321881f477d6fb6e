/- The letters of a word as a set, by the reference. Condition: at most 2^20 letters. -/
import Derived.Test.YtlchafedbnihoaaJGStar
namespace Go.Proofs.Ytlchafedbnihoaa
open Go.RowKit
set_option maxRecDepth 20000
set_option maxHeartbeats 8000000
def putR (x:Int):Bool→List Int→List Int
 | p,[]=>if p=true then [] else [x]
 | p,y::l=>if y=x then y::putR x true l else if x<y∧p=false then x::y::putR x true l else y::putR x p l
theorem zAn (x:Int):∀l:List Int,putR x true l=l
 | []=>rfl
 | y::l=>by
  unfold putR;by_cases h:y=x
  ·rw [if_pos h,zAn x l]
  ·rw [if_neg h,if_neg (by simp),zAn x l]
theorem zDg {x z:Int}:∀{l:List Int},z∈putR x false l↔z=x∨z∈l
 | []=>by simp [putR]
 | y::l=>by
  unfold putR;by_cases h:y=x
  ·rw [if_pos h,zAn,h]; simp
  ·rw [if_neg h];by_cases h2:x<y
   ·rw [if_pos ⟨h2,rfl⟩,zAn]; simp
   ·rw [if_neg (fun h=>h2 h.1),List.mem_cons,zDg (l:=l),List.mem_cons];exact ⟨fun h=>by rcases h with h | h | h <;> simp [h],fun h=>by rcases h with h | h | h <;> simp [h]⟩
theorem zE5 {x:Int}:∀{l:List Int},l.Pairwise (· < ·)→(putR x false l).Pairwise (· < ·)
 | [],_=>by simp [putR]
 | y::l,hs=>by
  have hc:=List.pairwise_cons.1 hs;unfold putR;by_cases h:y=x
  ·rw [if_pos h,zAn]; exact hs
  ·rw [if_neg h];by_cases h2:x<y
   ·rw [if_pos ⟨h2,rfl⟩,zAn];exact List.pairwise_cons.2 ⟨fun z hz=>by
     rcases List.mem_cons.1 hz with rfl | hz
     ·exact h2
     ·have:=hc.1 z hz; omega,hs⟩
   ·rw [if_neg (fun h=>h2 h.1)];refine List.pairwise_cons.2 ⟨fun z hz=>?_,zE5 hc.2⟩;rcases zDg.1 hz with rfl | hz
    ·omega
    ·exact hc.1 z hz
theorem zB9 (x:Int):∀(p:Bool) (l:List Int),(putR x p l).length≤l.length+1
 | true,[]=>by simp [putR]
 | false,[]=>by simp [putR]
 | p,y::l=>by
  unfold putR;have h1:=zB9 x true l;have h2:=zB9 x p l;rw [zAn] at h1;split
  ·rw [zAn]; simp
  ·split
   ·rw [zAn]; simp
   ·first | omega | (simp; omega)
def supL:List Int→List Int→List Int
 | o,[]=>o
 | o,x::w=>supL (putR x false o) w
theorem zF4:∀{w o:List Int},o.Pairwise (· < ·)→(supL o w).Pairwise (· < ·)∧∀z,z∈supL o w↔z∈o∨z∈w
 | [],o,h=>⟨h,fun z=>by simp [supL]⟩
 | x::w,o,h=>by
  obtain ⟨h1,h2⟩:=zF4 (w:=w) (zE5 (x:=x) h);refine ⟨h1,fun z=>?_⟩;show z∈supL (putR x false o) w↔_;rw [h2 z,zDg,List.mem_cons];exact ⟨fun h=>by rcases h with (h | h) | h <;> simp [h],fun h=>by rcases h with h | h | h <;> simp [h]⟩
theorem zFI:∀(w o:List Int),(supL o w).length≤o.length+w.length
 | [],_=>zJm _
 | x::w,o=>by
  have h1:=zFI w (putR x false o);have h2:=zB9 x false o;show (supL (putR x false o) w).length≤_;rw [List.length_cons]; omega
theorem zHJ {o w:List Int} {k:Nat} {x:Int} (h:w[k]? = some x):supL o (w.drop k)=supL (putR x false o) (w.drop (k+1)):=by
 rw [zAM h]; rfl
theorem zI4 {l:List Int} (h:l.Pairwise (· < ·)):Asc l:=fun j x y hx hy=>by
 obtain ⟨h1,rfl⟩:=zJk hx;obtain ⟨h2,rfl⟩:=zJk hy;exact List.pairwise_iff_getElem.1 h j (j+1) h1 h2 (by omega)
theorem zJO {n:Nat} {l:List Int} (h:Lets n l):Pts n l:=fun j x hx=>by
 have:=h x (zJj hx);exact ⟨x.toNat,by omega,by omega⟩
theorem zC8 (x:Int) (p:Bool) (y:Int) (l:List Int):putR x p (y::l)=if y=x then y::putR x true l else if x<y∧p=false then x::y::putR x true l else y::putR x p l:=by
 cases p <;> rfl
theorem zIe {x y:Int} {l:List Int} {k:Nat} {p:Bool} (hy:l[k]? = some y) (h:y=x):putR x p (l.drop k)=y::putR x true (l.drop (k+1)):=by
 rw [zAM hy,zC8,if_pos h]
theorem zIg {x y:Int} {l:List Int} {k:Nat} (hy:l[k]? = some y) (h:y≠x) (h2:x<y):putR x false (l.drop k)=x::y::putR x true (l.drop (k+1)):=by
 rw [zAM hy,zC8,if_neg h,if_pos ⟨h2,rfl⟩]
theorem zIf {x y:Int} {l:List Int} {k:Nat} {p:Bool} (hy:l[k]? = some y) (h:y≠x) (h2:¬(x<y∧p=false)):putR x p (l.drop k)=y::putR x p (l.drop (k+1)):=by
 rw [zAM hy,zC8,if_neg h,if_neg h2]
theorem zIh {S:Nat→Prop} {v:Value} {l:List Int} {x:Int} {w:World} (h:RI S w v l) (hl:l.length≤1048576) :
  Calls Try.prog 51 #[v,.int .i64 x] w fun e w'=>∃r,e=.returned r∧FI (New w w') w' r (putR x false l)∧Below w.heap.size w w':=by
 have HE:=zJh (fun (k:Nat) (y:Int) (p:Bool) (hy:l[k]? = some y) (h:y=x)=>zIe (p:=p) hy h);have HG:=zJh (fun (k:Nat) (y:Int) (hy:l[k]? = some y) (h:y≠x) (h2:x<y)=>zIg (x:=x) hy h h2);have HO:=zJh (fun (k:Nat) (y:Int) (p:Bool) (hy:l[k]? = some y) (h:y≠x) (h2:¬(x<y∧p=false))=>zIf (x:=x) (p:=p) hy h h2);have H0:Hid ([]++putR x false (l.drop 0)=putR x false l):=zJh (by simp);have HT:Hid (putR x true (l.drop l.length)=[]):=zJh (by rw [zAn]; simp);have HF:Hid (putR x false (l.drop l.length)=[x]):=zJh (by rw [List.drop_length]; rfl);have HL:Hid ((putR x false l).length≤l.length+1):=zJh (zB9 x false l);obtain ⟨av,cv,rfl⟩:=h.form;generalize hn:l.length=n at *;have HN:=zJh hn;clear hn;generalize putR x false l=res at *;go_enter Try.func51,Try.ntmps51
 go_wp2_with fail
 obtain ⟨w1,hw1⟩:∃w1,w1=w.alloc (.cells #[] 3):=⟨_,rfl⟩;obtain ⟨f1,b1⟩:=zAE (Below.refl _ w) hw1;rw [<-hw1];clear hw1;go_loopw [5,6,7] (fun oo pp ii wr=>∃(i:Nat) (p:Bool) (vo:Value) (o:List Int),vo=oo∧i≤n∧ii=.int .i64 i∧pp=.bool p∧FI (New w wr) wr vo o∧Hid (o++putR x p (l.drop i)=res)∧Below w.heap.size w wr) (fun _ _ ii _=>n-(intOf ii).toNat)
 case atStart=>exact ⟨0,false,_,[],rfl,Nat.zero_le _,rfl,rfl,f1,H0,b1⟩
 case round =>
  clear f1 b1 H0;obtain ⟨i,p,vo,o,rfl,hi,rfl,rfl,hf,HK,hb⟩:=hrel;have hol:o.length≤n+1:=by have h1:=HL.out; rw [<-HK.out,List.length_append] at h1; omega
  by_cases hin:i<n
  ·obtain ⟨b,q,y,rfl,hc,hy⟩:=(h.below hb).at hin;have i1:(i:Int)<(n:Int):=by omega
   have bb:∀(wv:World) (z:Int),Below wv.heap.size wv (wv.alloc (.cells #[.int .i64 z] 3)):=fun wv z=>(Below.refl _ wv).alloc (zJm _) _;by_cases e:y=x
   ·subst e;have e0:(y == y)=true:=beq_self_eq_true y;have HK2:Hid ((o++[y])++putR y true (l.drop (i+1))=res):=zJh (by rw [List.append_assoc,<-HK.out,HE.out i y p hy.out rfl]; rfl);have e3:¬y<y:=by omega
    go_wp2_with (at_builtin; go_must (refine zAG (W:=w) rfl _ _ rfl rfl (hf.grow (bb _ _)) (zAA.step hb (bb _ _)) rfl (RI.one _ y) ?_ ?_))
    ·first | omega | (simp; omega)
    ·intro v3 w3 f3 b3 _;go_wp2_with fail
     go_roundw
     case rel=>exact ⟨i+1,true,v3,o++[y],rfl,by omega,by go_num,rfl,f3,HK2,b3⟩
     case measure=>simp [intOf]; omega
   ·have e0:(y == x)=false:=beq_eq_false_iff_ne.2 e;by_cases hg:x<y
    ·cases p
     ·have HK2:Hid (((o++[x])++[y])++putR x true (l.drop (i+1))=res):=zJh (by rw [List.append_assoc,List.append_assoc,<-HK.out,HG.out i y hy.out e hg]; rfl);go_wp2_with (at_builtin; go_must (refine zAG (W:=w) rfl _ _ rfl rfl (hf.grow (bb _ _)) (zAA.step hb (bb _ _)) rfl (RI.one _ x) ?_ ?_))
      ·first | omega | (simp; omega)
      ·intro v3 w3 f3 b3 _;obtain ⟨b4,o4,y4,e4,hc4,hy4⟩:=(h.below b3).at hin;simp only [Option.some.injEq,Addr.mk.injEq,and_true] at e4;obtain ⟨e5,e6⟩:=e4;have ey:y4=y:=by have h1:=hy4.out; rw [hy.out] at h1; exact (Option.some.inj h1).symm
       subst e5 e6 ey;go_wp2_with (at_builtin; go_must (refine zAG (W:=w) rfl _ _ rfl rfl (f3.grow (bb _ _)) (zAA.step b3 (bb _ _)) rfl (RI.one _ y4) ?_ ?_))
       ·first | omega | (simp; omega)
       ·intro v5 w5 f5 b5 _;go_wp2_with fail
        go_roundw
        case rel=>exact ⟨i+1,true,v5,(o++[x])++[y4],rfl,by omega,by go_num,rfl,by rw [List.append_assoc]; exact f5,HK2,b5⟩
        case measure=>simp [intOf]; omega
     ·have HK2:Hid ((o++[y])++putR x true (l.drop (i+1))=res):=zJh (by rw [List.append_assoc,<-HK.out,HO.out i y true hy.out e (by simp)]; rfl);go_wp2_with (at_builtin; go_must (refine zAG (W:=w) rfl _ _ rfl rfl (hf.grow (bb _ _)) (zAA.step hb (bb _ _)) rfl (RI.one _ y) ?_ ?_))
      ·first | omega | (simp; omega)
      ·intro v3 w3 f3 b3 _;go_wp2_with fail
       go_roundw
       case rel=>exact ⟨i+1,true,v3,o++[y],rfl,by omega,by go_num,rfl,f3,HK2,b3⟩
       case measure=>simp [intOf]; omega
    ·have HK2:Hid ((o++[y])++putR x p (l.drop (i+1))=res):=zJh (by rw [List.append_assoc,<-HK.out,HO.out i y p hy.out e (fun h=>hg h.1)]; rfl);go_wp2_with (at_builtin; go_must (refine zAG (W:=w) rfl _ _ rfl rfl (hf.grow (bb _ _)) (zAA.step hb (bb _ _)) rfl (RI.one _ y) ?_ ?_))
     ·first | omega | (simp; omega)
     ·intro v3 w3 f3 b3 _;go_wp2_with fail
      go_roundw
      case rel=>exact ⟨i+1,p,v3,o++[y],rfl,by omega,by go_num,rfl,f3,HK2,b3⟩
      case measure=>simp [intOf]; omega
  ·have i1:¬(i:Int)<(n:Int):=by omega
   have hin2:i=n:=by omega
   have bb:∀(wv:World) (z:Int),Below wv.heap.size wv (wv.alloc (.cells #[.int .i64 z] 3)):=fun wv z=>(Below.refl _ wv).alloc (zJm _) _;cases p
   ·have HK2:Hid (o++[x]=res):=zJh (by rw [<-HK.out,hin2,HF.out]);clear hin2;go_wp2_with (at_builtin; go_must (refine zAG (W:=w) rfl _ _ rfl rfl (hf.grow (bb _ _)) (zAA.step hb (bb _ _)) rfl (RI.one _ x) ?_ ?_))
    ·first | omega | (simp; omega)
    ·intro v3 w3 f3 b3 _;go_wp2_with fail
     go_ret
     exact ⟨_,rfl,by rw [<-HK2.out]; exact f3,b3⟩
   ·have HK2:Hid (o=res):=zJh (by rw [<-HK.out,hin2,HT.out,List.append_nil]);clear hin2;go_wp2_with fail
    go_ret
    exact ⟨_,rfl,by rw [<-HK2.out]; exact hf,hb⟩
theorem zFW {S:Nat→Prop} {v:Value} {l:List Int} {w:World} (h:RI S w v l) (hl:l.length≤1000) :
  Calls Try.prog 19 #[v] w fun e w'=>∃r,e=.returned r∧FI (New w w') w' r (supL [] l)∧Below w.heap.size w w':=by
 have H0:Hid (supL [] (l.drop 0)=supL [] l):=zJh (by simp);have HE:Hid (∀o,supL o (l.drop l.length)=o):=zJh (fun o=>by rw [List.drop_length]; rfl);have HS:=zJh (fun (o:List Int) (k:Nat) (x:Int) (hx:l[k]? = some x)=>zHJ (o:=o) hx);have HPL:=zJh (fun (o:List Int) (x:Int)=>zB9 x false o);obtain ⟨av,cv,rfl⟩:=h.form;generalize hn:l.length=n at *;clear hn;generalize supL [] l=res at *;go_enter Try.func19,Try.ntmps19
 go_wp2_with fail
 obtain ⟨w1,hw1⟩:∃w1,w1=w.alloc (.cells #[] 3):=⟨_,rfl⟩;obtain ⟨f1,b1⟩:=zAE (Below.refl _ w) hw1;rw [<-hw1];clear hw1;go_loopw [3,4] (fun oo ii wr=>∃(i:Nat) (vo:Value) (o:List Int),vo=oo∧i≤n∧ii=.int .i64 i∧FI (New w wr) wr vo o∧o.length≤i∧Hid (supL o (l.drop i)=res)∧Below w.heap.size w wr) (fun _ ii _=>n-(intOf ii).toNat)
 case atStart=>exact ⟨0,_,[],rfl,Nat.zero_le _,rfl,f1,zJm _,H0,b1⟩
 case round =>
  clear f1 b1 H0;obtain ⟨i,vo,o,rfl,hi,rfl,hf,hol,HK,hb⟩:=hrel;by_cases hin:i<n
  ·obtain ⟨b,q,y,rfl,hc,hy⟩:=(h.below hb).at hin;have i1:(i:Int)<(n:Int):=by omega
   have HK2:Hid (supL (putR y false o) (l.drop (i+1))=res):=zJh ((HS.out o i y hy.out).symm.trans HK.out);have hpl:=HPL.out o y;go_wp2_with fail
   refine (zIh (x:=y) hf.reads (by omega)).mono ?_;rintro e w3 ⟨r3,rfl,f3,b3⟩;have f3':=f3.mono (fun b hb'=>⟨Nat.le_trans hb.size hb'.1,hb'.2⟩:∀b,New wr w3 b→New w w3 b);go_wp2_with fail
   go_roundw
   case rel=>exact ⟨i+1,r3,_,rfl,by omega,by go_num,f3',by omega,HK2,zAA.step hb b3⟩
   case measure=>simp [intOf]; omega
  ·have i1:¬(i:Int)<(n:Int):=by omega
   have HK2:Hid (o=res):=zJh (by rw [<-HK.out,show i=n by omega,HE.out]);go_wp2_with fail
   go_ret
   exact ⟨_,rfl,by rw [<-HK2.out]; exact hf,hb⟩
def SetP (c:List (List Int)) (l:List Int):Prop:=Pts c.length l∧Asc l∧CartanP c
def zDm (n:Nat) (l:List Int) (j:Nat):Prop:=∀x,l[j]? = some x→(0≤x∧x<(n:Int))∧∀i,j=i+1→∀y,l[i]? = some y→y<x
theorem zIq {c:List (List Int)} {l:List Int} (h:∀j,j<l.length→zDm c.length l j):isC c=true↔SetP c l:=by
 rw [zAR];refine ⟨fun hc=>⟨fun j x hx=>?_,fun j x y hx hy=>?_,hc⟩,fun h=>h.2.2⟩
 ·have:=(h j (zJk hx).1 x hx).1;exact ⟨x.toNat,by omega,by omega⟩
 ·exact (h (j+1) (zJk hy).1 y hy).2 j rfl x hx
theorem zIr {c:List (List Int)} {l:List Int} {j:Nat} {x:Int} (hx:l[j]? = some x) (h:¬((0≤x∧x<(c.length:Int))∧∀i,j=i+1→∀y,l[i]? = some y→y<x)):¬SetP c l:=fun hs=>h (by
 obtain ⟨i,rfl,hi⟩:=hs.1 j x hx;refine ⟨⟨by omega,by omega⟩,fun q hq y hy=>?_⟩;subst hq;exact hs.2.1 q y _ hy hx)
theorem zIM {x a b:Int} (h:¬(a≤x∧x≤b)):inR x a b=false:=by
 unfold inR;cases e:(decide (a≤x) && decide (x≤b))
 ·rfl
 ·rw [Bool.and_eq_true,decide_eq_true_eq,decide_eq_true_eq] at e; exact absurd e h
theorem zJS {S S':Nat→Prop} {u v:Value} {c:List (List Int)} {l:List Int} {w:World} (h:RII S w u c) (h':RI S' w v l) (hc:c.length≤16) (hl:total c≤16777216) (hl':l.length≤1048576) :
  Calls Try.prog 48 #[u,v] w fun e w'=>∃bq,e=.returned (.bool bq)∧(bq=true↔SetP c l)∧∃m,w'=w.drewN m:=by
 obtain ⟨a,cap,rfl⟩:=h.form;obtain ⟨a',cap',rfl⟩:=h'.form;have HY:=zJh (zIq (c:=c) (l:=l));have HN:=zJh (fun (j:Nat) (x:Int) (hx:l[j]? = some x)=>zIr (c:=c) hx);generalize SetP c l=P at *;generalize hn:c.length=n at *;clear hn;generalize hm:l.length=m at *;clear hm;go_enter Try.func48,Try.ntmps48
 go_wp2_with fail
 go_loopw [5] (fun j wr=>∃(k:Nat),k≤m∧j=.int .i64 k∧Hid (∀q,q<k→zDm n l q)∧Hid (∃d,wr=w.drewN d)) (fun j _=>m-(intOf j).toNat)
 case atStart=>exact ⟨0,Nat.zero_le _,rfl,zJh (fun q hq=>by omega),zJh dr0⟩
 case round =>
  obtain ⟨k,hk,rfl,HK,HW⟩:=hrel;have hb:Below w.heap.size w wr:=by obtain ⟨d,rfl⟩:=HW.out; exact below_drewN (Below.refl _ w) d
  by_cases hlt:k<m
  ·obtain ⟨b,o,x,rfl,hcx,hx⟩:=(h'.below hb).at hlt;have i1:(k:Int)<(m:Int):=by omega
   have hw1:IntKind.i64.wrap ((n:Int)-1)=(n:Int)-1:=IntWalk.i64_in _ (by omega);by_cases hin:0≤x∧x≤(n:Int)-1
   ·have HQ:Hid (∀w':World,Calls Try.prog 39 #[.int .i64 x,.int .i64 0,.int .i64 ((n:Int)-1)] w' fun e w''=>e=.returned (.bool true)∧w''=w') :=
     zJh (fun w'=>(zBS x 0 ((n:Int)-1) w').mono fun e w'' ⟨h1,h2⟩=>⟨by rw [h1,zDD hin],h2.symm⟩)
    rcases k with _ | k
    ·have e0:decide ((0:Int)<0)=false:=by decide
     have HK2:Hid (∀q,q<1→zDm n l q):=zJh (fun q hq x' hx'=>by
      obtain rfl:q=0:=by omega
      have:x'=x:=by have h1:=hx.out; rw [hx'] at h1; exact Option.some.inj h1
      subst this;exact ⟨⟨hin.1,by omega⟩,fun i hi=>by omega⟩)
     rw [show (((0:Nat):Int))=0 from rfl];rw [Nat.add_zero] at hcx;go_wp2_with fail
     go_quiet ((go_at_call 39; exact Calls.quiet_of_same (HQ.out _)))
     clear hw1;go_wp2_with fail
     go_roundw
     case rel=>exact ⟨1,by omega,by go_num,HK2,zJh (by obtain ⟨d,rfl⟩:=HW.out; exact ⟨d+nq,by simp⟩)⟩
     case measure=>simp [intOf]; omega
    ·obtain ⟨b2,o2,y,e2,hcy,hy⟩:=(h'.below hb).at (j:=k) (by omega);simp only [Option.some.injEq,Addr.mk.injEq,and_true] at e2;obtain ⟨rfl,rfl⟩:=e2;have e0:decide ((0:Int)<(k:Int)+1)=true:=decide_eq_true (by omega);have j1:IntKind.i64.wrap ((k:Int)+1-1)=(k:Int):=(IntWalk.i64_in _ (by omega)).trans (by omega);have j2:(0:Int)≤(k:Int):=by omega
     have j3:(k:Int)<(m:Int):=by omega
     have j4:((k:Int)).toNat=k:=by omega
     by_cases hlt2:y<x
     ·have HK2:Hid (∀q,q<k+1+1→zDm n l q):=zJh (fun q hq=>by
       rcases Nat.lt_or_ge q (k+1) with h1 | h1
       ·exact HK.out q h1
       ·obtain rfl:q=k+1:=by omega
        intro x' hx';have:x'=x:=by have h1:=hx.out; rw [hx'] at h1; exact Option.some.inj h1
        subst this;refine ⟨⟨hin.1,by omega⟩,fun i hi y' hy'=>?_⟩;obtain rfl:i=k:=by omega
        have:y'=y:=by have h1:=hy.out; rw [hy'] at h1; exact Option.some.inj h1
        omega)
      have e1:decide (x≤y)=false:=decide_eq_false (by omega);go_wp2_with fail
      go_quiet ((go_at_call 39; exact Calls.quiet_of_same (HQ.out _)))
      clear hw1 j1;go_wp2_with fail
      go_roundw
      case rel=>exact ⟨k+1+1,by omega,by go_num,HK2,zJh (by obtain ⟨d,rfl⟩:=HW.out; exact ⟨d+nq,by simp⟩)⟩
      case measure=>simp [intOf]; omega
     ·have HNO:Hid ¬P:=zJh (HN.out (k+1) x hx.out (fun h=>hlt2 (h.2 k rfl y hy.out)));have e1:decide (x≤y)=true:=decide_eq_true (by omega);go_wp2_with fail
      go_quiet ((go_at_call 39; exact Calls.quiet_of_same (HQ.out _)))
      clear hw1 j1;go_wp2_with fail
      go_ret
      refine ⟨_,rfl,⟨fun h=>Bool.noConfusion h,fun h=>absurd h HNO.out⟩,?_⟩;obtain ⟨d,rfl⟩:=HW.out;exact ⟨d+nq,by simp⟩
   ·have HQ:Hid (∀w':World,Calls Try.prog 39 #[.int .i64 x,.int .i64 0,.int .i64 ((n:Int)-1)] w' fun e w''=>e=.returned (.bool false)∧w''=w') :=
     zJh (fun w'=>(zBS x 0 ((n:Int)-1) w').mono fun e w'' ⟨h1,h2⟩=>⟨by rw [h1,zIM hin],h2.symm⟩)
    have HNO:Hid ¬P:=zJh (HN.out k x hx.out (fun h=>hin ⟨h.1.1,by have:=h.1.2; omega⟩));go_wp2_with fail
    go_quiet ((go_at_call 39; exact Calls.quiet_of_same (HQ.out _)))
    clear hw1;go_wp2_with fail
    go_ret
    refine ⟨_,rfl,⟨fun h=>Bool.noConfusion h,fun h=>absurd h HNO.out⟩,?_⟩;obtain ⟨d,rfl⟩:=HW.out;exact ⟨d+nq,by simp⟩
  ·have i1:¬(k:Int)<(m:Int):=by omega
   have h2:=h.below hb;have HPF:Hid (isC c=true↔P):=zJh (HY.out (fun j hj=>HK.out j (by omega)));go_wp2_with fail
   refine (zAg h2 hl).mono ?_;rintro e w5 ⟨rfl,hw5⟩;go_wp2_with fail
   go_ret
   refine ⟨_,rfl,HPF.out,?_⟩;obtain ⟨d,rfl⟩:=HW.out;obtain ⟨d',rfl⟩:=hw5;exact ⟨d+d',by simp⟩
def lonB (c:List (List Int)) (J:List Int):Bool:=decide (J.length=0) || finB (subL c J)
def lonV (c:List (List Int)) (J:List Int):List Int:=if J.length=0 then [] else (zAT (subL c J)).map fun i=>J[i.toNat]?.getD 0
theorem zHP (c:List (List Int)) {J:List Int} (h:J.length≤16):total (subL c J)≤16777216:=by
 have:∀l:List Int,total (l.map fun i=>rowL c i J)≤l.length*J.length+l.length:=fun l=>by
  induction l with
  | nil=>simp [total]
  | cons x l ih =>
   simp only [total,List.map_cons,List.foldr_cons,List.sum_cons,List.length_cons] at *;have:(rowL c x J).length=J.length:=by simp [rowL]
   rw [Nat.succ_mul];omega
 have h1:=this J;have h2:=Nat.mul_le_mul h h;unfold subL;omega
theorem zCq {S S':Nat→Prop} {u v:Value} {c:List (List Int)} {l:List Int} {w:World} (h:RII S w u c) (h':RI S' w v l) (hc:c.length≤16) (hl:total c≤16777216) (hl':l.length≤16) :
  Calls Try.prog 18 #[u,v] w fun e w'=>∃r bq,e=.returned (.tuple #[r,.bool (bq && lonB c l)])∧(bq=true↔SetP c l)∧FI (New w w') w' r (if (bq && lonB c l)=true then lonV c l else [])∧Below w.heap.size w w':=by
 obtain ⟨a',cap',rfl⟩:=h'.form;have HB:Hid (lonB c l=(decide (l.length=0) || finB (subL c l))):=zJh rfl;have HV:Hid (lonV c l=if l.length=0 then [] else (zAT (subL c l)).map fun i=>l[i.toNat]?.getD 0):=zJh rfl;generalize lonB c l=lb at *;generalize lonV c l=lv at *;have HP:=zJh (fun (w1:World) (b1:Below w.heap.size w w1) (hp:SetP c l) (h0:1≤l.length)=>zCr (h.below b1) (h'.below b1) hp.2.2 hl hp.1 hp.2.1 h0 (by omega));have HTS:=zJh (zHP c hl');have HLS:Hid (∀x∈zAT (subL c l),finB (subL c l)=true→0≤x∧x<(l.length:Int)):=zJh (fun x hx hf=>by
  have hp:=zCS hf;obtain ⟨h1,h2⟩:=hp.long;have:=zCU (zCR hp.cart) _ ⟨h1,by omega⟩ x hx;rwa [show (subL c l).length=l.length by simp [subL]] at this)
 have HL24:Hid (finB (subL c l)=true→(zAT (subL c l)).length≤24):=zJh (fun hf=>(zCS hf).long.2);have hset:=zJS h h' hc hl (by omega);have HH:=zJh h;have HH':=zJh h';go_enter Try.func18,Try.ntmps18
 go_wp2_with fail
 refine hset.mono ?_;rintro e w1 ⟨bq,rfl,hbq,hw1⟩;have b1:=zAH hw1;clear hw1 hset;cases bq
 ·go_wp2_with fail
  obtain ⟨f1,b2⟩:=zAE (w:=w1) b1 rfl;go_ret2
  exact ⟨_,false,rfl,hbq,f1,b2⟩
 ·have HSP:=zJh (hbq.1 rfl);have HBQ:=zJh hbq;clear hbq;by_cases h0:l.length=0
  ·have i0:((l.length:Int) == 0)=true:=by simp [h0]
   have HBT:Hid (lb=true):=zJh (by rw [HB.out,decide_eq_true h0]; rfl);have HVT:Hid (lv=[]):=zJh (by rw [HV.out,if_pos h0]);clear HB HV;have hbt:=HBT.out;subst hbt;go_wp2_with fail
   obtain ⟨f1,b2⟩:=zAE (w:=w1) b1 rfl;go_ret2
   rw [<-HVT.out] at f1;first | exact ⟨_,rfl,HSP.out,f1,b2⟩ | exact ⟨_,true,rfl,⟨fun _=>HSP.out,fun _=>rfl⟩,f1,b2⟩
  ·have i0:((l.length:Int) == 0)=false:=by simp [h0]
   have HB2:Hid (lb=finB (subL c l)):=zJh (by rw [HB.out,decide_eq_false h0]; rfl);have HV2:Hid (lv=(zAT (subL c l)).map fun i=>l[i.toNat]?.getD 0):=zJh (by rw [HV.out,if_neg h0]);have h01:1≤l.length:=by omega
   clear HB HV h0;go_wp2_with fail
   refine (HP.out w1 b1 HSP.out h01).mono ?_;rintro e w2 ⟨r2,rfl,f2,b2⟩;have b02:=zAA.step b1 b2;go_wp2_with fail
   refine (zDM f2.reads HTS.out).mono ?_;rintro e w3 ⟨r3,rfl,f3,b3⟩;have b03:=zAA.step b02 b3;have f3:=f3.reads;clear f2 b2 b3 b1 b02;generalize subL c l=s at *;cases hF:finB s
   ·have HBT:Hid (lb=false):=zJh (by rw [HB2.out,hF]);clear HB2;have hbt:=HBT.out;subst hbt;go_wp2_with fail
    obtain ⟨f1,b2⟩:=zAE (w:=w3) b03 rfl;go_ret2
    first | exact ⟨_,rfl,HSP.out,f1,b2⟩ | exact ⟨_,true,rfl,⟨fun _=>HSP.out,fun _=>rfl⟩,f1,b2⟩
   ·have HBT:Hid (lb=true):=zJh (by rw [HB2.out,hF]);clear HB2;have hbt:=HBT.out;subst hbt;rw [hF,if_pos rfl] at f3;have HI:=zJh (fun x hx=>HLS.out x hx hF);have hg24:=HL24.out hF;clear hF HLS HL24;generalize zAT s=g at *;obtain ⟨a3,c3,rfl⟩:=f3.form;obtain ⟨M,hM⟩:∃M:Nat→List Int,∀k,M k=(g.take k).map fun i=>l[i.toNat]?.getD 0:=⟨_,fun _=>rfl⟩;have HM0:Hid (M 0=[]):=zJh (by rw [hM]; simp);have HMn:Hid (M g.length=lv):=zJh (by rw [hM,HV2.out,List.take_length]);have HMS:=zJh (fun (k:Nat) (x:Int) (hx:g[k]? = some x)=>(by rw [hM,hM,zBY hx]; simp:M (k+1)=M k++[l[x.toNat]?.getD 0]));have HML:Hid (∀k,(M k).length≤k):=zJh (fun k=>by rw [hM]; simp; omega);clear hM HV2;generalize hm:g.length=m at *;clear hm;have h'':=HH'.out;go_wp2_with fail
    obtain ⟨w4,hw4⟩:∃w4,w4=w3.alloc (.cells #[] 3):=⟨_,rfl⟩;obtain ⟨f4,b4⟩:=zAE (Below.refl _ w3) hw4;rw [<-hw4];clear hw4;rw [<-HM0.out] at f4;generalize hll:l.length=ll at *;clear hll;go_loopw [10,11] (fun oo ii wr=>∃(i:Nat) (vo:Value),vo=oo∧i≤m∧ii=.int .i64 i∧FI (New w3 wr) wr vo (M i)∧Below w3.heap.size w3 wr) (fun _ ii _=>m-(intOf ii).toNat)
    case atStart=>exact ⟨0,_,rfl,Nat.zero_le _,rfl,f4,b4⟩
    case round =>
     clear f4 b4;obtain ⟨i,vo,rfl,hi,rfl,hf,hb⟩:=hrel;have hml:=HML.out i;by_cases hin:i<m
     ·have i1:(i:Int)<(m:Int):=by omega
      obtain ⟨b,q,y,rfl,hc,hy⟩:=(f3.below hb).at hin;have hyl:=HI.out y (zJj hy.out);obtain ⟨k,rfl⟩:∃k:Nat,y=(k:Int):=⟨y.toNat,by omega⟩;obtain ⟨b2,q2,z,e2,hc2,hz⟩:=(h''.below (zAA.step b03 hb)).at (j:=k) (by omega);have HMT:Hid (M (i+1)=M i++[z]):=zJh (by rw [HMS.out i _ hy.out]; simp [hz.out]);have bb:∀(wv:World) (z:Int),Below wv.heap.size wv (wv.alloc (.cells #[.int .i64 z] 3)):=fun wv z=>(Below.refl _ wv).alloc (zJm _) _;have i2:(k:Int)<(ll:Int):=by omega
      have i3:(0:Int)≤(k:Int):=by omega
      subst e2;generalize M i=Mi at *;go_wp2_with (at_builtin; go_must (refine zAG (W:=w3) rfl _ _ rfl rfl (hf.grow (bb _ _)) (zAA.step hb (bb _ _)) rfl (RI.one _ z) ?_ ?_))
      ·first | omega | (simp; omega)
      ·intro v5 w5 f5 b5 _;go_wp2_with fail
       go_roundw
       case rel=>exact ⟨i+1,v5,rfl,by omega,by go_num,by rw [HMT.out]; exact f5,b5⟩
       case measure=>simp [intOf]; omega
     ·have i1:¬(i:Int)<(m:Int):=by omega
      have HE:Hid (M i=lv):=zJh (by rw [show i=m by omega]; exact HMn.out);go_wp2_with fail
      go_ret2
      have f9:FI (New w wr) wr vo lv:=by rw [<-HE.out]; exact hf.mono (fun b hb'=>⟨Nat.le_trans b03.size hb'.1,hb'.2⟩)
      first | exact ⟨_,rfl,HSP.out,f9,zAA.step b03 hb⟩ | exact ⟨_,true,rfl,⟨fun _=>HSP.out,fun _=>rfl⟩,f9,zAA.step b03 hb⟩ | exact ⟨_,.inr ⟨rfl,HSP.out,f9,zAA.step b03 hb⟩⟩
end Go.Proofs.Ytlchafedbnihoaa
