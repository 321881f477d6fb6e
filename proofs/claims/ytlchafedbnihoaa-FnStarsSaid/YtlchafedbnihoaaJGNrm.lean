/- 'append' to a slice of numbers whose block lies beyond a bound. Condition: at most 2^26 numbers. -/
import Derived.Test.YtlchafedbnihoaaJGFin
import Derived.Test.YtlchafedbnihoaaJGVec
namespace Go.Proofs.Ytlchafedbnihoaa
open Go.RowKit
set_option maxRecDepth 20000
section
variable {w:World} {ops:Array Oper} {rest:List Oper} {o:Oper} {a:Act} {Q:Exit→Act→World→Prop}
theorem FI.of_rowB {w':World} {B:Nat} {v:Value} {l:List Int} {n:Nat} {xs:List Value} (h:w'.ownsRow B 3 1 v n xs) (hn:n=l.length) (hx:xs=l.map (Value.int .i64)):FI (Bt B w'.heap.size) w' v l:=by
 subst hn;subst hx;refine ⟨zCi h (Nat.zero_le _),fun b hb=>?_⟩;obtain ⟨h1,h2⟩:=h.lt b hb;exact ⟨h1,h2⟩
theorem zCP {S:Nat→Prop} {B:Nat} (hgd:o.guard=none) (s x:Operand)
  (ho:o.op=.call { callee:=.builtin .append,args:=#[s,x],argTypes:=#[25,25] })
  {v:Value} {l l2:List Int} (hs:a.eval s=v) (hf:FI (Bt B w.heap.size) w v l) (hB:B≤w.heap.size)
  {sa:Option Addr} {m c:Nat} (hx:a.eval x=.slice sa m c) (hr:RI S w (.slice sa m c) l2) (hlen:l.length+l2.length≤67108864)
  (h:∀v' w',FI (Bt B w'.heap.size) w' v' (l++l2)→Below B w w'→w.grownBy w' v.ownBlock→wpList Try.prog ops Q rest (a.put o.dst v') w'):wpList Try.prog ops Q (o::rest) a w:=by
 obtain ⟨i0,hi,hz0,hz1,hz2⟩:=info_parts zBi;obtain ⟨hown,hS⟩:=hf;obtain ⟨a',cap',hv,hcap,hcase⟩:=hr;simp only [Value.slice.injEq] at hv;obtain ⟨rfl,rfl,rfl⟩:=hv;have hown':w.ownsRow B 3 1 v l.length (l.map (Value.int .i64)):=by
  refine ⟨hown.1,?_⟩;rcases hown.2 with h | ⟨g,cap,cur,hv,_,r⟩
  ·exact .inl h
  ·exact .inr ⟨g,cap,cur,hv,(hS g (by rw [hv]; rfl)).1,r⟩
 have fin:∀v' w',w'.ownsRow B 3 1 v' (l.length+l2.length) (l.map (Value.int .i64)++l2.map (Value.int .i64))→w.grownBy w' v.ownBlock→wpList Try.prog ops Q rest (a.put o.dst v') w':=by
  intro v' w' h1 h2;have hb':Below B w w':=(Below.refl B w).grown h2 hB (fun k hk=>(hS k hk).1);exact h v' w' (FI.of_rowB h1 (by simp) (by simp)) hb' h2
 cases sa with
 | none =>
  have h0:l2=[]:=by
   rcases hcase with h | ⟨b,o,ha,_⟩
   ·exact h
   ·cases ha
  subst h0;have hrun:=zBd (w:=w) B 25 o.type 3 i0 1 Try.underlying25 hi v l.length c _ hown';have fin':=fin v w (by simpa using hown') (World.grownBy.refl _ _);clear fin h hS hown;refine wpList_plain hgd fun K hK=>?_;unfold Oper.wp;rw [show ([]:List Int).length=0 from rfl] at hx;simp [execOp,ho,resolve,invoke,builtin,hs,hx,hrun,Result.andThen];exact hK _ _ fin'
 | some ad =>
  refine wpList_append_own w hgd s x 25 ho B 3 i0 (.int .i64 0) 1 8 Try.underlying25 hi hz0 hz1 hz2 rfl (by decide) v l.length (l.map (Value.int .i64)) hs hown' ad l2.length c (l2.map (Value.int .i64)) hx (by simp) ?_ ?_ ?_ ?_ hB (fun v' w' h1 h2 _=>fin v' w' h1 h2)
  ·intro j u hj;rcases hcase with h | ⟨b,o,ha,_,_,hc⟩
   ·subst h; simp at hj
   ·simp only [Option.some.injEq] at ha;subst ha;rw [List.getElem?_map] at hj;obtain ⟨x,hx1,hx2⟩:=Option.map_eq_some_iff.1 hj;obtain ⟨r,h1,h2⟩:=hc j x hx1;have hadd:(⟨b,o,none⟩:Addr).add j=⟨b,o+j,none⟩:=by unfold Addr.add; split <;> simp_all
    rw [hadd,h1,<-hx2];exact congrArg some h2
  ·intro u hu;obtain ⟨x,_,rfl⟩:=List.mem_map.1 hu;rfl
  ·unfold maxLen; omega
  ·omega
end
end Go.Proofs.Ytlchafedbnihoaa
namespace Go.Proofs.Ytlchafedbnihoaa
open Go.RowKit
set_option maxRecDepth 20000
set_option maxHeartbeats 8000000
theorem zDK {v:List Int} {k:Nat} {x:Int} (h:v[k]? = some x) (hx:¬x<0):zAF (v.drop k)=(zAF (v.drop (k+1))).map (· + 1):=by
 rw [zAM h]; simp [zAF,hx]
theorem zDr {v:List Int} {k:Nat} {x:Int} (h:v[k]? = some x) (hx:x<0):zAF (v.drop k)=some 0:=by
 rw [zAM h]; simp [zAF,hx]
def lenV:Value→Nat
 | .slice _ n _=>n
 | _=>0
def fd (v:List Int):Int:=match zAF v with
 | none=>-1
 | some i=>i
theorem zBR {S:Nat→Prop} {v:Value} {l:List Int} {w:World} (h:RI S w v l) (hl:l.length≤16777216) :
  Calls Try.prog 80 #[v] w fun e w'=>e=.returned (.int .i64 (fd l))∧w'=w:=by
 obtain ⟨a,cap,rfl⟩:=h.form;have HR:Hid ((zAF (l.drop 0)).map (· + 0)=zAF l):=zJh (by simp);have HE:Hid (zAF (l.drop l.length)=none):=zJh (by simp [zAF]);have HF:Hid (∀i,zAF l=some i→fd l=i):=zJh (by intro i h; simp [fd,h]);have HG:Hid (zAF l=none→fd l = -1):=zJh (by intro h; simp [fd,h]);generalize fd l=res at *;generalize hn:l.length=n at *;have HN:=zJh hn;clear hn;go_enter Try.func80,Try.ntmps80
 go_wp2_with fail
 go_loop [7] (fun j=>∃(k:Nat),k≤n∧j=.int .i64 k∧Hid ((zAF (l.drop k)).map (· + k)=zAF l)) (fun j=>n-(intOf j).toNat)
 case atStart=>exact ⟨0,Nat.zero_le _,rfl,HR⟩
 case round =>
  obtain ⟨k,hk,rfl,HK⟩:=hrel;by_cases hlt:k<n
  ·obtain ⟨b,o,x,rfl,hc,hx⟩:=h.at hlt;by_cases hx0:x<0
   ·have e0:Hid (res=(k:Int)):=zJh (HF.out k (by rw [<-HK.out,zDr hx.out hx0]; simp));go_wp2_with fail
    go_ret
    exact ⟨zAi e0.out.symm,rfl⟩
   ·have HK2:Hid ((zAF (l.drop (k+1))).map (· + (k+1))=zAF l):=zJh (by
     rw [<-HK.out,zDK hx.out hx0,Option.map_map];congr 1;funext j;simp only [Function.comp_apply];omega)
    go_wp2_with fail
    go_round
    case rel=>exact ⟨k+1,by omega,by go_num,HK2⟩
    case measure=>simp [intOf]; omega
  ·have hkn:k=n:=by omega
   have e0:Hid (res = -1):=zJh (HG.out (by rw [<-HK.out,hkn,HE.out]; rfl));go_wp2_with fail
   go_ret
   exact ⟨zAi e0.out.symm,rfl⟩
theorem zCD {S S':Nat→Prop} {u v:Value} {c:List (List Int)} {l:List Int} {w:World} (h:RII S w u c) (h':RI S' w v l) (hc:CartanP c) (hle:Lets c.length l) (hl':l.length≤16777216) :
  Calls Try.prog 64 #[u,v] w fun e w'=>∃r,e=.returned r∧FI (New w w') w' r (zAK c l)∧Below w.heap.size w w':=by
 have hq:=hc.sq;have hn4:=hc.le;obtain ⟨a,cap,rfl⟩:=h.form;have HI:Hid (act c l (List.replicate c.length 1)=zAK c l):=zJh rfl;generalize hn:c.length=n at *;have HH:=zJh hq;have HLE:=zJh hle;clear hq hn hle;go_enter Try.func64,Try.ntmps64
 go_wp2_with fail
 refine (zE3 n (by omega)).mono ?_;rintro e w2 ⟨r2,rfl,f2,b2⟩;go_wp2_with fail
 refine (zGX (h.below b2) (h'.below b2) f2.reads HH.out HLE.out (by simp) (by omega) hl').mono ?_;rintro e w3 ⟨r3,rfl,f3,b3⟩;go_wp2_with fail
 go_ret
 rw [<-HI.out];exact ⟨_,rfl,f3.mono (fun b hb=>⟨Nat.le_trans b2.size hb.1,hb.2⟩),zAA.step b2 b3⟩
theorem zGM {S S':Nat→Prop} {u v:Value} {c:List (List Int)} {l:List Int} {w:World} {m:Nat} (h:RII S w u c) (h':RI S' w v l) (hc:CartanP c) (him:Im c l m) (hm:m≤30) :
  Calls Try.prog 63 #[u,v] w fun e w'=>∃r,e=.returned r∧FI (New w w') w' r (nf c 30 l)∧Below w.heap.size w w':=by
 have h:=h.old;have hn4:=hc.le;have hlen:=him.len;obtain ⟨a,cap,rfl⟩:=h.form;obtain ⟨a',cap',rfl⟩:=h'.form;have HQ:=zJh hc.sq;have HC:=zJh hc;have HIM:=zJh him;rw [hlen] at h' ⊢;have HN:=zJh hlen;clear hc him hlen;go_enter Try.func63,Try.ntmps63
 obtain ⟨f1,b1⟩:=zAE (w:=w) (Below.refl _ w) rfl;go_wp2_with (at_builtin; go_must (refine zAG (W:=w) rfl _ _ rfl rfl f1 b1 rfl (h'.below b1) ?_ ?_))
 ·have:=HN.out; simp; omega
 ·intro v1 w2 f2 b2 _;clear b1 f1 h';go_wp2_with fail
  obtain ⟨w3,hw3⟩:∃w3,w3=w2.alloc (.cells #[] 3):=⟨_,rfl⟩;obtain ⟨f3,b3⟩:=zAE (Below.refl _ w2) hw3;rw [<-hw3];clear hw3;have f2:=f2.below b3;have hD:∀b,Bt 0 w.heap.size b→¬New w w2 b:=fun b hb hb'=>by have:=hb.2; have:=hb'.1; omega
  have hD2:∀(W:World) b,Bt w2.heap.size W.heap.size b→¬New w w2 b:=fun W b hb hb'=>by have:=hb.1; have:=hb'.2; omega
  have b03:=zAA.step b2 b3;have hs2:w.heap.size≤w2.heap.size:=b2.size;have hs3:w2.heap.size≤w3.heap.size:=b3.size;have HR0:Hid ([]++nf c 30 l=nf c 30 l):=zJh rfl;go_loopw [5,6] (fun z y wr=>∃(acc x:List Int) (m:Nat),FI (New w w2) wr v1 x∧FI (Bt w2.heap.size wr.heap.size) wr z acc∧Hid (Im c x m)∧acc.length+m≤30∧Hid (acc++nf c 30 x=nf c 30 l)∧w2.heap.size≤wr.heap.size∧Below w.heap.size w wr) (fun z _ _=>31-lenV z)
  case atStart=>exact ⟨[],l,m,f2,f3,HIM,by simpa using hm,HR0,hs3,b03⟩
  case round =>
   obtain ⟨acc,x,m,hf,hz,HI,hlen,HR,hs,hb⟩:=hrel;have hxl:x.length=c.length:=HI.out.len;obtain ⟨az,capz,rfl⟩:=hz.form;go_wp2_with fail
   refine (zBR hf.reads (by omega)).mono ?_;rintro e w4 ⟨rfl,rfl⟩;cases e:zAF x with
   | none =>
    have e1:Hid (acc=nf c 30 l):=zJh (by rw [<-HR.out,zC5 e,List.append_nil]);have e2:fd x = -1:=by unfold fd; rw [e]
    rw [e2];go_wp2_with fail
    go_ret
    rw [<-e1.out];exact ⟨_,rfl,hz.mono (fun b hb'=>⟨by have:=hb'.1; omega,hb'.2⟩),hb⟩
   | some i =>
    have e2:fd x=(i:Int):=by unfold fd; rw [e]
    have hi:i<c.length:=by have:=zBU e; omega
    obtain ⟨m',hm',him',hnf⟩:=zCV HC.out HI.out (by omega) e;have HI2:=zJh him';have HR2:Hid ((acc++[(i:Int)])++nf c 30 (refl c i x)=nf c 30 l):=zJh (by rw [<-HR.out,hnf,List.append_assoc]; rfl);clear him' hnf;rw [e2];have bb:=(Below.refl w4.heap.size w4).alloc (zJm _) (.cells #[.int .i64 i] 3);have hz2:FI (Bt w2.heap.size (w4.alloc (.cells #[.int .i64 i] 3)).heap.size) (w4.alloc (.cells #[.int .i64 i] 3)) _ acc:=(hz.below bb).mono (fun b hb'=>⟨hb'.1,Nat.lt_of_lt_of_le hb'.2 bb.size⟩);have hi0:¬(i:Int)<0:=by omega
    go_wp2_with (at_builtin; go_must (refine zCP (B:=w2.heap.size) rfl _ _ rfl rfl hz2 (Nat.le_trans hs bb.size) rfl (RI.one w4 i) ?_ ?_))
    ·simp; omega
    ·intro v' w5 f5 b5 _;have b45:Below w2.heap.size w4 w5:=(bb.mono hs).trans b5;have hb5:Below w.heap.size w w5:=hb.trans (b45.mono hs2);have hf5:FI (New w w2) w5 v1 x:=hf.keep (fun b hb'=>b45.block b (hf.2 b hb').2);go_wp2_with fail
     refine (zBP (h.below hb5) hf5 hD i hi HQ.out hxl (by omega)).mono ?_;rintro e w6 ⟨rfl,f6,o6⟩;have f7:=f5.only o6 (hD2 w5);obtain ⟨a7,cap7,rfl⟩:=f7.form;go_wp2_with fail
     go_roundw
     case rel=>exact ⟨acc++[(i:Int)],refl c i x,m',f6,by rw [o6.size]; rw [List.length_append] at f7; exact f7,HI2,by simp; omega,HR2,by rw [o6.size]; exact Nat.le_trans hs b45.size,hb5.trans (o6.below (fun b hb'=>hb'.1))⟩
     case measure=>simp [lenV]; omega
theorem zA1 {S S':Nat→Prop} {u v:Value} {c:List (List Int)} {l:List Int} {w:World} (h:RII S w u c) (h':RI S' w v l) (hc:CartanP c) (hle:Lets c.length l) (hl':l.length≤30) :
  Calls Try.prog 35 #[u,v] w fun e w'=>∃r,e=.returned r∧FI (New w w') w' r (zAB c l)∧Below w.heap.size w w':=by
 have HI:Hid (nf c 30 (zAK c l)=zAB c l):=zJh rfl;have HIM:=zJh (zAb hc hle hl');have HC:=zJh hc;have HLE:=zJh hle;clear hc hle;go_enter Try.func35,Try.ntmps35
 go_wp2_with fail
 refine (zCD h h' HC.out HLE.out (by omega)).mono ?_;rintro e w2 ⟨r2,rfl,f2,b2⟩;go_wp2_with fail
 refine (zGM (h.below b2) f2.reads HC.out HIM.out hl').mono ?_;rintro e w3 ⟨r3,rfl,f3,b3⟩;go_wp2_with fail
 go_ret
 rw [<-HI.out];exact ⟨_,rfl,f3.mono (fun b hb=>⟨Nat.le_trans b2.size hb.1,hb.2⟩),zAA.step b2 b3⟩
theorem zGl {S S':Nat→Prop} {u z:Value} {c:List (List Int)} {l:List Int} {w:World} (h:RII S w u c) (h':RI S' w z l) (hc:CartanP c) (hle:Lets c.length l) (hl:total c≤16777216) (hl':l.length≤16777216) :
  Calls Try.prog 72 #[u,z] w fun e w'=>∃r,e=.returned r∧FI (New w w') w' r (zAK c l)∧Below w.heap.size w w':=by
 have hcl:=hc.le;obtain ⟨a,cap,rfl⟩:=h.form;obtain ⟨a',cap',rfl⟩:=h'.form;have HA0:Hid (act c (l.drop l.length) (List.replicate c.length 1)=rho c):=zJh (by rw [zJP (zAR.2 hc)]; simp [act]);have HR:Hid (act c (l.drop 0) (List.replicate c.length 1)=zAK c l):=zJh (by simp [zAK]);have HSq:=zJh hc.sq;have HLE:=zJh hle;generalize hm:l.length=m at *;have HM:=zJh hm;clear hm hle;generalize hn:c.length=n at *;have HN:=zJh hn;clear hn hc;go_enter Try.func72,Try.ntmps72
 go_wp2_with fail
 refine (zG6 h hl).mono ?_;rintro e w2 ⟨v1,rfl,f2,b2⟩;rw [<-HA0.out] at f2;go_wp2_with fail
 go_loopw [5,6] (fun z j wr=>∃(k:Nat),k≤m∧j=.int .i64 ((k:Int)-1)∧FI (New w wr) wr z (act c (l.drop k) (List.replicate n 1))∧Below w.heap.size w wr) (fun _ j _=>(intOf j+1).toNat)
 case atStart=>exact ⟨m,zJm _,by go_num,f2,b2⟩
 case round =>
  obtain ⟨k,hk,rfl,hf,hb⟩:=hrel;rcases k with _ | k
  ·go_wp2_with fail
   go_ret
   rw [<-HR.out];exact ⟨_,rfl,hf,hb⟩
  ·obtain ⟨b,o,x,rfl,hc,hx⟩:=((h'.below hb)).at (j:=k) (by omega);have e1:((k+1:Nat):Int)-1=(k:Int):=by omega
   rw [e1];obtain ⟨i,rfl,hi⟩:=zBz HLE.out hx.out;have hi:i<n:=hi;have hlen:(act c (l.drop (k+1)) (List.replicate n 1)).length=n:=by rw [zCa]; simp
   have HST:Hid (act c (l.drop k) (List.replicate n 1)=refl c i (act c (l.drop (k+1)) (List.replicate n 1))):=zJh (by rw [zEc hx.out]; rfl);go_wp2_with fail
   refine (zDO (h.below hb) hf.reads i hi HSq.out hlen (by omega)).mono ?_;rintro e w4 ⟨r,rfl,f4,b4⟩;go_wp2_with fail
   go_roundw
   case rel=>exact ⟨k,by omega,by go_num,by rw [HST.out]; exact f4.mono (fun b hb'=>⟨by have:=hb.size; have:=hb'.1; omega,hb'.2⟩),zAA.step hb b4⟩
   case measure=>simp [intOf]
theorem zEo {S S':Nat→Prop} {u v:Value} {c:List (List Int)} {l:List Int} {w:World} {m:Nat} (h:RII S w u c) (h':RI S' w v l) (hc:CartanP c) (him:Im c l m) (hm:m≤30) :
  Calls Try.prog 71 #[u,v] w fun e w'=>∃r,e=.returned r∧FI (New w w') w' r (nf c 30 l)∧Below w.heap.size w w':=by
 have hn4:=hc.le;have h':=h'.old;obtain ⟨a,cap,rfl⟩:=h.form;have HQ:=zJh hc.sq;have HC:=zJh hc;have HIM:=zJh him;have HR0:Hid ([]++nf c 30 l=nf c 30 l):=zJh rfl;clear hc him;go_enter Try.func71,Try.ntmps71
 go_wp2_with fail
 obtain ⟨w1,hw1⟩:∃w1,w1=w.alloc (.cells #[] 3):=⟨_,rfl⟩;obtain ⟨f1,b1⟩:=zAE (Below.refl _ w) hw1;rw [<-hw1];clear hw1;have h1:RI (fun b=>(Value.slice (some ⟨w.heap.size,0,none⟩) 0 0).ownBlock≠some b) w1 v l:=RL.mono (h'.below b1) (fun b hb e=>by have:=hb.2; simp [Value.ownBlock] at e; omega) (fun _ _ h=>h);go_loopw [1,5,6] (fun v z j wr=>∃(acc x:List Int) (m k:Nat),j=.int .i64 k∧k+m≤30∧acc.length=k∧RI (fun b=>z.ownBlock≠some b) wr v x∧FI (New w wr) wr z acc∧Hid (Im c x m)∧Hid (acc++nf c 30 x=nf c 30 l)∧Below w.heap.size w wr) (fun _ _ j _=>31-(intOf j).toNat)
 case atStart=>exact ⟨[],l,m,0,rfl,by omega,rfl,h1,f1,HIM,HR0,b1⟩
 case round =>
  obtain ⟨acc,x,m,k,rfl,hkm,hacc,hv,hz,HI,HR,hb⟩:=hrel;obtain ⟨av,capv,rfl⟩:=hv.form;have hxl:x.length=c.length:=HI.out.len;rw [hxl] at hv ⊢;have HF0:Hid ((zAF (x.drop 0)).map (· + 0)=zAF x):=zJh (by simp);have HE:Hid (zAF (x.drop c.length)=none):=zJh (by rw [<-hxl]; simp [zAF]);have HXL:=zJh hxl;clear hxl;go_wp2_with fail
  go_loop [7] (fun j=>∃(i:Nat),i≤c.length∧j=.int .i64 i∧Hid ((zAF (x.drop i)).map (· + i)=zAF x)) (fun j=>c.length-(intOf j).toNat)
  case atStart=>exact ⟨0,Nat.zero_le _,rfl,HF0⟩
  case round =>
   obtain ⟨i,hi,rfl,HK⟩:=hrel;by_cases hlt:i<c.length
   ·obtain ⟨b,o,y,rfl,hcy,hy⟩:=hv.at hlt;by_cases hy0:0<y
    ·have HK2:Hid ((zAF (x.drop (i+1))).map (· + (i+1))=zAF x):=zJh (by
      rw [<-HK.out,zDK hy.out (by omega),Option.map_map];congr 1;funext j;simp only [Function.comp_apply];omega)
     go_wp2_with fail
     go_round
     case rel=>exact ⟨i+1,by omega,by go_num,HK2⟩
     case measure=>simp [intOf]; omega
    ·have hyn:y<0:=by
      have:=HI.out.ne HC.out (zJj hy.out);omega
     have e:zAF x=some i:=by rw [<-HK.out,zDr hy.out hyn]; simp
     obtain ⟨m',hm',him',hnf⟩:=zCV HC.out HI.out (by omega) e;have HI2:=zJh him';have HR2:Hid ((acc++[(i:Int)])++nf c 30 (refl c i x)=nf c 30 l):=zJh (by rw [<-HR.out,hnf,List.append_assoc]; rfl);clear him' hnf e;have hic:¬((i:Int)=(c.length:Int)):=by omega
     have bb:∀wr:World,Below wr.heap.size wr (wr.alloc (.cells #[.int .i64 i] 3)):=fun wr=>(Below.refl wr.heap.size wr).alloc (zJm _) _;go_wp2_with (at_builtin; go_must (refine zAG (W:=w) rfl _ _ rfl rfl (hz.grow (bb _)) (zAA.step hb (bb _)) rfl (RI.one _ i) ?_ ?_))
     ·omega
     ·intro v' w2 f3 b4 hg;have hsz:wr.heap.size≤w2.heap.size:=Nat.le_trans (bb wr).size hg.size;have hv2:RI Any w2 (.slice (some ⟨b,o,none⟩) c.length capv) x:=RI.any (RI.keep hv (fun d hd hl=>by
       rw [hg.block d (Nat.lt_of_lt_of_le hl (bb wr).size) (fun e=>hd e.symm)];exact (bb wr).block d hl))
      go_wp2_with fail
      refine (zDO (h.below b4) hv2 i hlt HQ.out HXL.out (by omega)).mono ?_;rintro e w4 ⟨r4,rfl,f4,b5⟩;have f5:=f3.grow b5;have hv4:RI (fun b=>v'.ownBlock≠some b) w4 r4 (refl c i x):=RL.mono f4.reads (fun b hb e=>by have:=(f3.2 b e).2; have:=hb.1; omega) (fun _ _ h=>h);go_wp2_with fail
      go_roundw
      case rel=>exact ⟨acc++[(i:Int)],refl c i x,m',k+1,by go_num,by omega,by simp; omega,hv4,f5,HI2,HR2,zAA.step b4 b5⟩
      case measure=>simp [intOf]; omega
   ·have hic:i=c.length:=by omega
    have e:zAF x=none:=by rw [<-HK.out,hic,HE.out]; rfl
    have e1:Hid (acc=nf c 30 l):=zJh (by rw [<-HR.out,zC5 e,List.append_nil]);subst hic;go_wp2_with fail
    go_ret
    rw [<-e1.out];exact ⟨_,rfl,hz,hb⟩
theorem zCg {S S':Nat→Prop} {u v:Value} {c:List (List Int)} {l:List Int} {w:World} (h:RII S w u c) (h':RI S' w v l) (hc:CartanP c) (hle:Lets c.length l) (hl:total c≤16777216) (hl':l.length≤30) :
  Calls Try.prog 47 #[u,v] w fun e w'=>∃r,e=.returned r∧FI (New w w') w' r (zAB c l)∧Below w.heap.size w w':=by
 have HI:Hid (nf c 30 (zAK c l)=zAB c l):=zJh rfl;have HIM:=zJh (zAb hc hle hl');have HC:=zJh hc;have HLE:=zJh hle;clear hc hle;go_enter Try.func47,Try.ntmps47
 go_wp2_with fail
 refine (zGl h h' HC.out HLE.out hl (by omega)).mono ?_;rintro e w2 ⟨r2,rfl,f2,b2⟩;go_wp2_with fail
 refine (zEo (h.below b2) f2.reads HC.out HIM.out hl').mono ?_;rintro e w3 ⟨r3,rfl,f3,b3⟩;go_wp2_with fail
 go_ret
 rw [<-HI.out];exact ⟨_,rfl,f3.mono (fun b hb=>⟨Nat.le_trans b2.size hb.1,hb.2⟩),zAA.step b2 b3⟩
def zBc (c:List (List Int)) (l:List Int):List Int:=if isWd c l then zAB c l else []
theorem zAe {S S':Nat→Prop} {u v:Value} {c:List (List Int)} {l:List Int} {w:World} (h:RII S w u c) (h':RI S' w v l) (hl:total c≤16777216) (hl':l.length≤16777216) :
  Calls Try.prog 17 #[u,v] w fun e w'=>∃r,e=.returned (.tuple #[r,.bool (isWd c l)])∧FI (New w w') w' r (zBc c l)∧Below w.heap.size w w':=by
 have HY:Hid (isWd c l=true→zBc c l=zAB c l∧CartanP c∧Lets c.length l∧l.length≤30):=zJh (fun h=>by
  obtain ⟨h1,h2,h3⟩:=zAw h;exact ⟨by unfold zBc; rw [if_pos h],zAR.1 h1,h3,by omega⟩)
 have HN:Hid (isWd c l=false→zBc c l=[]):=zJh (fun h=>by unfold zBc; rw [h]; rfl);go_enter Try.func17,Try.ntmps17
 go_wp2_with fail
 refine (zBG h h' hl hl').mono ?_;rintro e w3 ⟨rfl,hw3⟩;have b3:=zAH hw3;clear hw3;cases hg:isWd c l
 ·have e0:=HN.out hg;go_wp2_with fail
  obtain ⟨f1,b1⟩:=zAE (w:=w3) b3 rfl;go_ret2
  rw [e0,hg];exact ⟨_,rfl,f1,b1⟩
 ·obtain ⟨e0,hC,hL,hlen⟩:=HY.out hg;have E0:=zJh e0;have HC:=zJh hC;have HL:=zJh hL;clear hC hL e0;go_wp2_with fail
  refine (zCg (h.below b3) (h'.below b3) HC.out HL.out hl hlen).mono ?_;rintro e w4 ⟨r4,rfl,f4,b4⟩;go_wp2_with fail
  go_ret2
  rw [E0.out,hg];exact ⟨_,rfl,f4.mono (fun b hb=>⟨Nat.le_trans b3.size hb.1,hb.2⟩),zAA.step b3 b4⟩
end Go.Proofs.Ytlchafedbnihoaa
