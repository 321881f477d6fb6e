/- 'append' to a slice of numbers whose block lies beyond a bound. Condition: at most 2^26 numbers. -/
import Derived.Test.YtlchafedbnihoaaGreatDoorJGFin
import Derived.Test.YtlchafedbnihoaaGreatDoorJGVec
namespace Go.Proofs.YtlchafedbnihoaaGreatDoor
open Go.RowKit
set_option maxRecDepth 20000
section
variable {w:World} {ops:Array Oper} {rest:List Oper} {o:Oper} {a:Act} {Q:Exit→Act→World→Prop}
theorem FI.of_rowB {w':World} {B:Nat} {v:Value} {l:List Int} {n:Nat} {xs:List Value} (h:w'.ownsRow B 3 1 v n xs) (hn:n=l.length) (hx:xs=l.map (Value.int .i64)):FI (Bt B w'.heap.size) w' v l:=by
 subst hn;subst hx;refine ⟨zBp h (Nat.zero_le _),fun b hb=>?_⟩;obtain ⟨h1,h2⟩:=h.lt b hb;exact ⟨h1,h2⟩
theorem zHy {S:Nat→Prop} {B:Nat} (hgd:o.guard=none) (s x:Operand)
  (ho:o.op=.call { callee:=.builtin .append,args:=#[s,x],argTypes:=#[33,33] })
  {v:Value} {l l2:List Int} (hs:a.eval s=v) (hf:FI (Bt B w.heap.size) w v l) (hB:B≤w.heap.size)
  {sa:Option Addr} {m c:Nat} (hx:a.eval x=.slice sa m c) (hr:RI S w (.slice sa m c) l2) (hlen:l.length+l2.length≤67108864)
  (h:∀v' w',FI (Bt B w'.heap.size) w' v' (l++l2)→Below B w w'→w.grownBy w' v.ownBlock→wpList Tryz.prog ops Q rest (a.put o.dst v') w'):wpList Tryz.prog ops Q (o::rest) a w:=by
 obtain ⟨i0,hi,hz0,hz1,hz2⟩:=info_parts zBK;obtain ⟨hown,hS⟩:=hf;obtain ⟨a',cap',hv,hcap,hcase⟩:=hr;simp only [Value.slice.injEq] at hv;obtain ⟨rfl,rfl,rfl⟩:=hv;have hown':w.ownsRow B 3 1 v l.length (l.map (Value.int .i64)):=by
  refine ⟨hown.1,?_⟩;rcases hown.2 with h | ⟨g,cap,cur,hv,_,r⟩
  ·exact .inl h
  ·exact .inr ⟨g,cap,cur,hv,(hS g (by rw [hv]; rfl)).1,r⟩
 have fin:∀v' w',w'.ownsRow B 3 1 v' (l.length+l2.length) (l.map (Value.int .i64)++l2.map (Value.int .i64))→w.grownBy w' v.ownBlock→wpList Tryz.prog ops Q rest (a.put o.dst v') w':=by
  intro v' w' h1 h2;have hb':Below B w w':=(Below.refl B w).grown h2 hB (fun k hk=>(hS k hk).1);exact h v' w' (FI.of_rowB h1 (by simp) (by simp)) hb' h2
 cases sa with
 | none =>
  have h0:l2=[]:=by
   rcases hcase with h | ⟨b,o,ha,_⟩
   ·exact h
   ·cases ha
  subst h0;have hrun:=zBj (w:=w) B 33 o.type 3 i0 1 Tryz.underlying33 hi v l.length c _ hown';have fin':=fin v w (by simpa using hown') (World.grownBy.refl _ _);clear fin h hS hown;refine wpList_plain hgd fun K hK=>?_;unfold Oper.wp;rw [show ([]:List Int).length=0 from rfl] at hx;simp [execOp,ho,resolve,invoke,builtin,hs,hx,hrun,Result.andThen];exact hK _ _ fin'
 | some ad =>
  refine wpList_append_own w hgd s x 33 ho B 3 i0 (.int .i64 0) 1 8 Tryz.underlying33 hi hz0 hz1 hz2 rfl (by decide) v l.length (l.map (Value.int .i64)) hs hown' ad l2.length c (l2.map (Value.int .i64)) hx (by simp) ?_ ?_ ?_ ?_ hB (fun v' w' h1 h2 _=>fin v' w' h1 h2)
  ·intro j u hj;rcases hcase with h | ⟨b,o,ha,_,_,hc⟩
   ·subst h; simp at hj
   ·simp only [Option.some.injEq] at ha;subst ha;rw [List.getElem?_map] at hj;obtain ⟨x,hx1,hx2⟩:=Option.map_eq_some_iff.1 hj;obtain ⟨r,h1,h2⟩:=hc j x hx1;have hadd:(⟨b,o,none⟩:Addr).add j=⟨b,o+j,none⟩:=by unfold Addr.add; split <;> simp_all
    rw [hadd,h1,<-hx2];exact congrArg some h2
  ·intro u hu;obtain ⟨x,_,rfl⟩:=List.mem_map.1 hu;rfl
  ·unfold maxLen; omega
  ·omega
end
end Go.Proofs.YtlchafedbnihoaaGreatDoor
namespace Go.Proofs.YtlchafedbnihoaaGreatDoor
open Go.RowKit
set_option maxRecDepth 20000
set_option maxHeartbeats 16000000
theorem zEZ {v:List Int} {k:Nat} {x:Int} (h:v[k]? = some x) (hx:¬x<0):zAL (v.drop k)=(zAL (v.drop (k+1))).map (· + 1):=by
 rw [zAJ h]; simp [zAL,hx]
theorem zFF {v:List Int} {k:Nat} {x:Int} (h:v[k]? = some x) (hx:x<0):zAL (v.drop k)=some 0:=by
 rw [zAJ h]; simp [zAL,hx]
def lenV:Value→Nat
 | .slice _ n _=>n
 | _=>0
def fd (v:List Int):Int:=match zAL v with
 | none=>-1
 | some i=>i
theorem zEl {S:Nat→Prop} {v:Value} {l:List Int} {w:World} (h:RI S w v l) (hl:l.length≤16777216) :
  Calls Tryz.prog 127 #[v] w fun e w'=>e=.returned (.int .i64 (fd l))∧w'=w:=by
 obtain ⟨a,cap,rfl⟩:=h.form;have HR:Hid ((zAL (l.drop 0)).map (· + 0)=zAL l):=zNg (by simp);have HE:Hid (zAL (l.drop l.length)=none):=zNg (by simp [zAL]);have HF:Hid (∀i,zAL l=some i→fd l=i):=zNg (by intro i h; simp [fd,h]);have HG:Hid (zAL l=none→fd l = -1):=zNg (by intro h; simp [fd,h]);generalize fd l=res at *;generalize hn:l.length=n at *;have HN:=zNg hn;clear hn;go_enter Tryz.func127,Tryz.ntmps127
 go_wp2_with fail
 go_loop [7] (fun j=>∃(k:Nat),k≤n∧j=.int .i64 k∧Hid ((zAL (l.drop k)).map (· + k)=zAL l)) (fun j=>n-(intOf j).toNat)
 case atStart=>exact ⟨0,Nat.zero_le _,rfl,HR⟩
 case round =>
  obtain ⟨k,hk,rfl,HK⟩:=hrel;by_cases hlt:k<n
  ·obtain ⟨b,o,x,rfl,hc,hx⟩:=h.at hlt;by_cases hx0:x<0
   ·have e0:Hid (res=(k:Int)):=zNg (HF.out k (by rw [<-HK.out,zFF hx.out hx0]; simp));go_wp2_with fail
    go_ret
    exact ⟨zAg e0.out.symm,rfl⟩
   ·have HK2:Hid ((zAL (l.drop (k+1))).map (· + (k+1))=zAL l):=zNg (by
     rw [<-HK.out,zEZ hx.out hx0,Option.map_map];congr 1;funext j;simp only [Function.comp_apply];omega)
    go_wp2_with fail
    go_round
    case rel=>exact ⟨k+1,by omega,by go_num,HK2⟩
    case measure=>simp [intOf]; omega
  ·have hkn:k=n:=by omega
   have e0:Hid (res = -1):=zNg (HG.out (by rw [<-HK.out,hkn,HE.out]; rfl));go_wp2_with fail
   go_ret
   exact ⟨zAg e0.out.symm,rfl⟩
theorem zJj {S S':Nat→Prop} {u v:Value} {c:List (List Int)} {l:List Int} {w:World} (h:RII S w u c) (h':RI S' w v l) (hc:CartanP c) (hle:Lets c.length l) (hl':l.length≤16777216) :
  Calls Tryz.prog 115 #[u,v] w fun e w'=>∃r,e=.returned r∧FI (New w w') w' r (zAs c l)∧Below w.heap.size w w':=by
 have hq:=hc.sq;have hn4:=hc.le;obtain ⟨a,cap,rfl⟩:=h.form;have HI:Hid (act c l (List.replicate c.length 1)=zAs c l):=zNg rfl;generalize hn:c.length=n at *;have HH:=zNg hq;have HLE:=zNg hle;clear hq hn hle;go_enter Tryz.func115,Tryz.ntmps115
 go_wp2_with fail
 refine (zLA n (by omega)).mono ?_;rintro e w2 ⟨r2,rfl,f2,b2⟩;go_wp2_with fail
 refine (zJO (h.below b2) (h'.below b2) f2.reads HH.out HLE.out (by simp) (by omega) hl').mono ?_;rintro e w3 ⟨r3,rfl,f3,b3⟩;go_wp2_with fail
 go_ret
 rw [<-HI.out];exact ⟨_,rfl,f3.mono (fun b hb=>⟨Nat.le_trans b2.size hb.1,hb.2⟩),zAA.step b2 b3⟩
theorem zI9 {S S':Nat→Prop} {u v:Value} {c:List (List Int)} {l:List Int} {w:World} {m:Nat} (h:RII S w u c) (h':RI S' w v l) (hc:CartanP c) (him:Im c l m) (hm:m≤30) :
  Calls Tryz.prog 114 #[u,v] w fun e w'=>∃r,e=.returned r∧FI (New w w') w' r (nf c 30 l)∧Below w.heap.size w w':=by
 have h:=h.old;have hn4:=hc.le;have hlen:=him.len;obtain ⟨a,cap,rfl⟩:=h.form;obtain ⟨a',cap',rfl⟩:=h'.form;have HQ:=zNg hc.sq;have HC:=zNg hc;have HIM:=zNg him;rw [hlen] at h' ⊢;have HN:=zNg hlen;clear hc him hlen;go_enter Tryz.func114,Tryz.ntmps114
 obtain ⟨f1,b1⟩:=zAa (w:=w) (Below.refl _ w) rfl;go_wp2_with (at_builtin; go_must (refine zAG (W:=w) rfl _ _ rfl rfl f1 b1 rfl (h'.below b1) ?_ ?_))
 ·have:=HN.out; simp; omega
 ·intro v1 w2 f2 b2 _;clear b1 f1 h';go_wp2_with fail
  obtain ⟨w3,hw3⟩:∃w3,w3=w2.alloc (.cells #[] 3):=⟨_,rfl⟩;obtain ⟨f3,b3⟩:=zAa (Below.refl _ w2) hw3;rw [<-hw3];clear hw3;have f2:=f2.below b3;have hD:∀b,Bt 0 w.heap.size b→¬New w w2 b:=fun b hb hb'=>by have:=hb.2; have:=hb'.1; omega
  have hD2:∀(W:World) b,Bt w2.heap.size W.heap.size b→¬New w w2 b:=fun W b hb hb'=>by have:=hb.1; have:=hb'.2; omega
  have b03:=zAA.step b2 b3;have hs2:w.heap.size≤w2.heap.size:=b2.size;have hs3:w2.heap.size≤w3.heap.size:=b3.size;have HR0:Hid ([]++nf c 30 l=nf c 30 l):=zNg rfl;go_loopw [5,6] (fun z y wr=>∃(acc x:List Int) (m:Nat),FI (New w w2) wr v1 x∧FI (Bt w2.heap.size wr.heap.size) wr z acc∧Hid (Im c x m)∧acc.length+m≤30∧Hid (acc++nf c 30 x=nf c 30 l)∧w2.heap.size≤wr.heap.size∧Below w.heap.size w wr) (fun z _ _=>31-lenV z)
  case atStart=>exact ⟨[],l,m,f2,f3,HIM,by simpa using hm,HR0,hs3,b03⟩
  case round =>
   obtain ⟨acc,x,m,hf,hz,HI,hlen,HR,hs,hb⟩:=hrel;have hxl:x.length=c.length:=HI.out.len;obtain ⟨az,capz,rfl⟩:=hz.form;go_wp2_with fail
   refine (zEl hf.reads (by omega)).mono ?_;rintro e w4 ⟨rfl,rfl⟩;cases e:zAL x with
   | none =>
    have e1:Hid (acc=nf c 30 l):=zNg (by rw [<-HR.out,zHM e,List.append_nil]);have e2:fd x = -1:=by unfold fd; rw [e]
    rw [e2];go_wp2_with fail
    go_ret
    rw [<-e1.out];exact ⟨_,rfl,hz.mono (fun b hb'=>⟨by have:=hb'.1; omega,hb'.2⟩),hb⟩
   | some i =>
    have e2:fd x=(i:Int):=by unfold fd; rw [e]
    have hi:i<c.length:=by have:=zC6 e; omega
    obtain ⟨m',hm',him',hnf⟩:=zEU HC.out HI.out (by omega) e;have HI2:=zNg him';have HR2:Hid ((acc++[(i:Int)])++nf c 30 (refl c i x)=nf c 30 l):=zNg (by rw [<-HR.out,hnf,List.append_assoc]; rfl);clear him' hnf;rw [e2];have bb:=(Below.refl w4.heap.size w4).alloc (zNl _) (.cells #[.int .i64 i] 3);have hz2:FI (Bt w2.heap.size (w4.alloc (.cells #[.int .i64 i] 3)).heap.size) (w4.alloc (.cells #[.int .i64 i] 3)) _ acc:=(hz.below bb).mono (fun b hb'=>⟨hb'.1,Nat.lt_of_lt_of_le hb'.2 bb.size⟩);have hi0:¬(i:Int)<0:=by omega
    go_wp2_with (at_builtin; go_must (refine zHy (B:=w2.heap.size) rfl _ _ rfl rfl hz2 (Nat.le_trans hs bb.size) rfl (RI.one w4 i) ?_ ?_))
    ·simp; omega
    ·intro v' w5 f5 b5 _;have b45:Below w2.heap.size w4 w5:=(bb.mono hs).trans b5;have hb5:Below w.heap.size w w5:=hb.trans (b45.mono hs2);have hf5:FI (New w w2) w5 v1 x:=hf.keep (fun b hb'=>b45.block b (hf.2 b hb').2);go_wp2_with fail
     refine (zDs (h.below hb5) hf5 hD i hi HQ.out hxl (by omega)).mono ?_;rintro e w6 ⟨rfl,f6,o6⟩;have f7:=f5.only o6 (hD2 w5);obtain ⟨a7,cap7,rfl⟩:=f7.form;go_wp2_with fail
     go_roundw
     case rel=>exact ⟨acc++[(i:Int)],refl c i x,m',f6,by rw [o6.size]; rw [List.length_append] at f7; exact f7,HI2,by simp; omega,HR2,by rw [o6.size]; exact Nat.le_trans hs b45.size,hb5.trans (o6.below (fun b hb'=>hb'.1))⟩
     case measure=>simp [lenV]; omega
theorem zDC {S S':Nat→Prop} {u v:Value} {c:List (List Int)} {l:List Int} {w:World} (h:RII S w u c) (h':RI S' w v l) (hc:CartanP c) (hle:Lets c.length l) (hl':l.length≤30) :
  Calls Tryz.prog 83 #[u,v] w fun e w'=>∃r,e=.returned r∧FI (New w w') w' r (zAQ c l)∧Below w.heap.size w w':=by
 have HI:Hid (nf c 30 (zAs c l)=zAQ c l):=zNg rfl;have HIM:=zNg (zB5 hc hle hl');have HC:=zNg hc;have HLE:=zNg hle;clear hc hle;go_enter Tryz.func83,Tryz.ntmps83
 go_wp2_with fail
 refine (zJj h h' HC.out HLE.out (by omega)).mono ?_;rintro e w2 ⟨r2,rfl,f2,b2⟩;go_wp2_with fail
 refine (zI9 (h.below b2) f2.reads HC.out HIM.out hl').mono ?_;rintro e w3 ⟨r3,rfl,f3,b3⟩;go_wp2_with fail
 go_ret
 rw [<-HI.out];exact ⟨_,rfl,f3.mono (fun b hb=>⟨Nat.le_trans b2.size hb.1,hb.2⟩),zAA.step b2 b3⟩
theorem zJk {S S':Nat→Prop} {u z:Value} {c:List (List Int)} {l:List Int} {w:World} (h:RII S w u c) (h':RI S' w z l) (hc:CartanP c) (hle:Lets c.length l) (hl:total c≤16777216) (hl':l.length≤16777216) :
  Calls Tryz.prog 103 #[u,z] w fun e w'=>∃r,e=.returned r∧FI (New w w') w' r (zAs c l)∧Below w.heap.size w w':=by
 have hcl:=hc.le;obtain ⟨a,cap,rfl⟩:=h.form;obtain ⟨a',cap',rfl⟩:=h'.form;have HA0:Hid (act c (l.drop l.length) (List.replicate c.length 1)=rho c):=zNg (by rw [zNK (zBL.2 hc)]; simp [act]);have HR:Hid (act c (l.drop 0) (List.replicate c.length 1)=zAs c l):=zNg (by simp [zAs]);have HSq:=zNg hc.sq;have HLE:=zNg hle;generalize hm:l.length=m at *;have HM:=zNg hm;clear hm hle;generalize hn:c.length=n at *;have HN:=zNg hn;clear hn hc;go_enter Tryz.func103,Tryz.ntmps103
 go_wp2_with fail
 refine (zKK h hl).mono ?_;rintro e w2 ⟨v1,rfl,f2,b2⟩;rw [<-HA0.out] at f2;go_wp2_with fail
 go_loopw [5,6] (fun z j wr=>∃(k:Nat),k≤m∧j=.int .i64 ((k:Int)-1)∧FI (New w wr) wr z (act c (l.drop k) (List.replicate n 1))∧Below w.heap.size w wr) (fun _ j _=>(intOf j+1).toNat)
 case atStart=>exact ⟨m,zNl _,by go_num,f2,b2⟩
 case round =>
  obtain ⟨k,hk,rfl,hf,hb⟩:=hrel;rcases k with _ | k
  ·go_wp2_with fail
   go_ret
   rw [<-HR.out];exact ⟨_,rfl,hf,hb⟩
  ·obtain ⟨b,o,x,rfl,hc,hx⟩:=((h'.below hb)).at (j:=k) (by omega);have e1:((k+1:Nat):Int)-1=(k:Int):=by omega
   rw [e1];obtain ⟨i,rfl,hi⟩:=zIK HLE.out hx.out;have hi:i<n:=hi;have hlen:(act c (l.drop (k+1)) (List.replicate n 1)).length=n:=by rw [zDV]; simp
   have HST:Hid (act c (l.drop k) (List.replicate n 1)=refl c i (act c (l.drop (k+1)) (List.replicate n 1))):=zNg (by rw [zGl hx.out]; rfl);go_wp2_with fail
   refine (zEd (h.below hb) hf.reads i hi HSq.out hlen (by omega)).mono ?_;rintro e w4 ⟨r,rfl,f4,b4⟩;go_wp2_with fail
   go_roundw
   case rel=>exact ⟨k,by omega,by go_num,by rw [HST.out]; exact f4.mono (fun b hb'=>⟨by have:=hb.size; have:=hb'.1; omega,hb'.2⟩),zAA.step hb b4⟩
   case measure=>simp [intOf]
theorem zKu {S S':Nat→Prop} {u v:Value} {c:List (List Int)} {l:List Int} {w:World} {m:Nat} (h:RII S w u c) (h':RI S' w v l) (hc:CartanP c) (him:Im c l m) (hm:m≤30) :
  Calls Tryz.prog 102 #[u,v] w fun e w'=>∃r,e=.returned r∧FI (New w w') w' r (nf c 30 l)∧Below w.heap.size w w':=by
 have hn4:=hc.le;have h':=h'.old;obtain ⟨a,cap,rfl⟩:=h.form;have HQ:=zNg hc.sq;have HC:=zNg hc;have HIM:=zNg him;have HR0:Hid ([]++nf c 30 l=nf c 30 l):=zNg rfl;clear hc him;go_enter Tryz.func102,Tryz.ntmps102
 go_wp2_with fail
 obtain ⟨w1,hw1⟩:∃w1,w1=w.alloc (.cells #[] 3):=⟨_,rfl⟩;obtain ⟨f1,b1⟩:=zAa (Below.refl _ w) hw1;rw [<-hw1];clear hw1;have h1:RI (fun b=>(Value.slice (some ⟨w.heap.size,0,none⟩) 0 0).ownBlock≠some b) w1 v l:=RL.mono (h'.below b1) (fun b hb e=>by have:=hb.2; simp [Value.ownBlock] at e; omega) (fun _ _ h=>h);go_loopw [1,5,6] (fun v z j wr=>∃(acc x:List Int) (m k:Nat),j=.int .i64 k∧k+m≤30∧acc.length=k∧RI (fun b=>z.ownBlock≠some b) wr v x∧FI (New w wr) wr z acc∧Hid (Im c x m)∧Hid (acc++nf c 30 x=nf c 30 l)∧Below w.heap.size w wr) (fun _ _ j _=>31-(intOf j).toNat)
 case atStart=>exact ⟨[],l,m,0,rfl,by omega,rfl,h1,f1,HIM,HR0,b1⟩
 case round =>
  obtain ⟨acc,x,m,k,rfl,hkm,hacc,hv,hz,HI,HR,hb⟩:=hrel;obtain ⟨av,capv,rfl⟩:=hv.form;have hxl:x.length=c.length:=HI.out.len;rw [hxl] at hv ⊢;have HF0:Hid ((zAL (x.drop 0)).map (· + 0)=zAL x):=zNg (by simp);have HE:Hid (zAL (x.drop c.length)=none):=zNg (by rw [<-hxl]; simp [zAL]);have HXL:=zNg hxl;clear hxl;go_wp2_with fail
  go_loop [7] (fun j=>∃(i:Nat),i≤c.length∧j=.int .i64 i∧Hid ((zAL (x.drop i)).map (· + i)=zAL x)) (fun j=>c.length-(intOf j).toNat)
  case atStart=>exact ⟨0,Nat.zero_le _,rfl,HF0⟩
  case round =>
   obtain ⟨i,hi,rfl,HK⟩:=hrel;by_cases hlt:i<c.length
   ·obtain ⟨b,o,y,rfl,hcy,hy⟩:=hv.at hlt;by_cases hy0:0<y
    ·have HK2:Hid ((zAL (x.drop (i+1))).map (· + (i+1))=zAL x):=zNg (by
      rw [<-HK.out,zEZ hy.out (by omega),Option.map_map];congr 1;funext j;simp only [Function.comp_apply];omega)
     go_wp2_with fail
     go_round
     case rel=>exact ⟨i+1,by omega,by go_num,HK2⟩
     case measure=>simp [intOf]; omega
    ·have hyn:y<0:=by
      have:=HI.out.ne HC.out (zNi hy.out);omega
     have e:zAL x=some i:=by rw [<-HK.out,zFF hy.out hyn]; simp
     obtain ⟨m',hm',him',hnf⟩:=zEU HC.out HI.out (by omega) e;have HI2:=zNg him';have HR2:Hid ((acc++[(i:Int)])++nf c 30 (refl c i x)=nf c 30 l):=zNg (by rw [<-HR.out,hnf,List.append_assoc]; rfl);clear him' hnf e;have hic:¬((i:Int)=(c.length:Int)):=by omega
     have bb:∀wr:World,Below wr.heap.size wr (wr.alloc (.cells #[.int .i64 i] 3)):=fun wr=>(Below.refl wr.heap.size wr).alloc (zNl _) _;go_wp2_with (at_builtin; go_must (refine zAG (W:=w) rfl _ _ rfl rfl (hz.grow (bb _)) (zAA.step hb (bb _)) rfl (RI.one _ i) ?_ ?_))
     ·omega
     ·intro v' w2 f3 b4 hg;have hsz:wr.heap.size≤w2.heap.size:=Nat.le_trans (bb wr).size hg.size;have hv2:RI Any w2 (.slice (some ⟨b,o,none⟩) c.length capv) x:=RI.any (RI.keep hv (fun d hd hl=>by
       rw [hg.block d (Nat.lt_of_lt_of_le hl (bb wr).size) (fun e=>hd e.symm)];exact (bb wr).block d hl))
      go_wp2_with fail
      refine (zEd (h.below b4) hv2 i hlt HQ.out HXL.out (by omega)).mono ?_;rintro e w4 ⟨r4,rfl,f4,b5⟩;have f5:=f3.grow b5;have hv4:RI (fun b=>v'.ownBlock≠some b) w4 r4 (refl c i x):=RL.mono f4.reads (fun b hb e=>by have:=(f3.2 b e).2; have:=hb.1; omega) (fun _ _ h=>h);go_wp2_with fail
      go_roundw
      case rel=>exact ⟨acc++[(i:Int)],refl c i x,m',k+1,by go_num,by omega,by simp; omega,hv4,f5,HI2,HR2,zAA.step b4 b5⟩
      case measure=>simp [intOf]; omega
   ·have hic:i=c.length:=by omega
    have e:zAL x=none:=by rw [<-HK.out,hic,HE.out]; rfl
    have e1:Hid (acc=nf c 30 l):=zNg (by rw [<-HR.out,zHM e,List.append_nil]);subst hic;go_wp2_with fail
    go_ret
    rw [<-e1.out];exact ⟨_,rfl,hz,hb⟩
theorem zDi {S S':Nat→Prop} {u v:Value} {c:List (List Int)} {l:List Int} {w:World} (h:RII S w u c) (h':RI S' w v l) (hc:CartanP c) (hle:Lets c.length l) (hl:total c≤16777216) (hl':l.length≤30) :
  Calls Tryz.prog 63 #[u,v] w fun e w'=>∃r,e=.returned r∧FI (New w w') w' r (zAQ c l)∧Below w.heap.size w w':=by
 have HI:Hid (nf c 30 (zAs c l)=zAQ c l):=zNg rfl;have HIM:=zNg (zB5 hc hle hl');have HC:=zNg hc;have HLE:=zNg hle;clear hc hle;go_enter Tryz.func63,Tryz.ntmps63
 go_wp2_with fail
 refine (zJk h h' HC.out HLE.out hl (by omega)).mono ?_;rintro e w2 ⟨r2,rfl,f2,b2⟩;go_wp2_with fail
 refine (zKu (h.below b2) f2.reads HC.out HIM.out hl').mono ?_;rintro e w3 ⟨r3,rfl,f3,b3⟩;go_wp2_with fail
 go_ret
 rw [<-HI.out];exact ⟨_,rfl,f3.mono (fun b hb=>⟨Nat.le_trans b2.size hb.1,hb.2⟩),zAA.step b2 b3⟩
def zAi (c:List (List Int)) (l:List Int):List Int:=if isWd c l then zAQ c l else []
theorem zDh (c:List (List Int)) (l:List Int):(zAi c l).length≤l.length:=by
 unfold zAi;cases h:isWd c l
 ·simp
 ·obtain ⟨h1,h2,h3⟩:=zBF h;exact zB6 (zBL.1 h1) h3 (by omega)
theorem zFy {S S':Nat→Prop} {u v:Value} {c:List (List Int)} {l:List Int} {w:World} (h:RII S w u c) (h':RI S' w v l) (hl:total c≤16777216) (hl':l.length≤16777216) :
  Calls Tryz.prog 68 #[u,v] w fun e w'=>∃r,e=.returned (.tuple #[r,.bool (isWd c l)])∧FI (New w w') w' r (zAi c l)∧Below w.heap.size w w':=by
 have HY:Hid (isWd c l=true→zAi c l=zAQ c l∧CartanP c∧Lets c.length l∧l.length≤30):=zNg (fun h=>by
  obtain ⟨h1,h2,h3⟩:=zBF h;exact ⟨by unfold zAi; rw [if_pos h],zBL.1 h1,h3,by omega⟩)
 have HN:Hid (isWd c l=false→zAi c l=[]):=zNg (fun h=>by unfold zAi; rw [h]; rfl);go_enter Tryz.func68,Tryz.ntmps68
 go_wp2_with fail
 refine (zFM h h' hl hl').mono ?_;rintro e w3 ⟨rfl,hw3⟩;have b3:=zAc hw3;clear hw3;cases hg:isWd c l
 ·have e0:=HN.out hg;go_wp2_with fail
  obtain ⟨f1,b1⟩:=zAa (w:=w3) b3 rfl;go_ret2
  rw [e0,hg];exact ⟨_,rfl,f1,b1⟩
 ·obtain ⟨e0,hC,hL,hlen⟩:=HY.out hg;have E0:=zNg e0;have HC:=zNg hC;have HL:=zNg hL;clear hC hL e0;go_wp2_with fail
  refine (zDC (h.below b3) (h'.below b3) HC.out HL.out hlen).mono ?_;rintro e w4 ⟨r4,rfl,f4,b4⟩;go_wp2_with fail
  go_ret2
  rw [E0.out,hg];exact ⟨_,rfl,f4.mono (fun b hb=>⟨Nat.le_trans b3.size hb.1,hb.2⟩),zAA.step b3 b4⟩
theorem zCT {S S':Nat→Prop} {u v:Value} {c:List (List Int)} {l:List Int} {w:World} (h:RII S w u c) (h':RI S' w v l) (hl:total c≤16777216) (hl':l.length≤16777216) :
  Calls Tryz.prog 46 #[u,v] w fun e w'=>∃r,e=.returned (.tuple #[r,.bool (isWd c l)])∧FI (New w w') w' r (zAi c l)∧Below w.heap.size w w':=by
 have HY:Hid (isWd c l=true→zAi c l=zAQ c l∧CartanP c∧Lets c.length l∧l.length≤30):=zNg (fun h=>by
  obtain ⟨h1,h2,h3⟩:=zBF h;exact ⟨by unfold zAi; rw [if_pos h],zBL.1 h1,h3,by omega⟩)
 have HN:Hid (isWd c l=false→zAi c l=[]):=zNg (fun h=>by unfold zAi; rw [h]; rfl);go_enter Tryz.func46,Tryz.ntmps46
 go_wp2_with fail
 refine (zI5 h h' hl hl').mono ?_;rintro e w3 ⟨rfl,hw3⟩;have b3:=zAc hw3;clear hw3;cases hg:isWd c l
 ·have e0:=HN.out hg;go_wp2_with fail
  obtain ⟨f1,b1⟩:=zAa (w:=w3) b3 rfl;go_ret2
  rw [e0,hg];exact ⟨_,rfl,f1,b1⟩
 ·obtain ⟨e0,hC,hL,hlen⟩:=HY.out hg;have E0:=zNg e0;have HC:=zNg hC;have HL:=zNg hL;clear hC hL e0;go_wp2_with fail
  refine (zDi (h.below b3) (h'.below b3) HC.out HL.out hl hlen).mono ?_;rintro e w4 ⟨r4,rfl,f4,b4⟩;go_wp2_with fail
  go_ret2
  rw [E0.out,hg];exact ⟨_,rfl,f4.mono (fun b hb=>⟨Nat.le_trans b3.size hb.1,hb.2⟩),zAA.step b3 b4⟩
end Go.Proofs.YtlchafedbnihoaaGreatDoor
