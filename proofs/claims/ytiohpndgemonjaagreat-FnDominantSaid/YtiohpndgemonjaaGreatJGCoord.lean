/- Weights as multiples of simple roots, by the reference. Condition: a Cartan matrix; numbers up to 2000. -/
import Derived.Test.YtiohpndgemonjaaGreatJGStar
import Derived.Test.YtiohpndgemonjaaGreatJDom
import Derived.Test.YtiohpndgemonjaaGreatJGGt
namespace Go.Proofs.YtiohpndgemonjaaGreat
open Go.RowKit
set_option maxRecDepth 20000
set_option maxHeartbeats 8000000
theorem zM1 {S:Nat→Prop} {u:Value} {c:List (List Int)} {w:World} (h:RII S w u c) (hl:total c≤16777216) :
  Calls Tryz.prog 94 #[u] w fun e w'=>∃r,e=.returned r∧FII (New w w') w' r c∧Below w.heap.size w w':=by
 obtain ⟨a,cap,rfl⟩:=h.form;have hcl:c.length≤16777216:=by unfold total at hl; omega
 have HRW:Hid (∀r∈c,r.length≤16777216):=zQe (fun r hr=>by have:=zQH hr; omega);have HR:Hid (c.take c.length=c):=zQe (by simp);have HR0:Hid (c.take 0=[]):=zQe (by simp);generalize hn:c.length=n at *;have HN:=zQe hn;clear hn;go_enter Tryz.func94,Tryz.ntmps94
 go_wp2_with fail
 obtain ⟨w1,hw1⟩:∃w1,w1=w.alloc (.cells #[] 25):=⟨_,rfl⟩;obtain ⟨f1,b1⟩:=FII.empty_of (Below.refl _ w) hw1;rw [<-hw1];clear hw1;rw [<-HR0.out] at f1;go_loopw [3,4] (fun zz j wr=>∃(k:Nat) (z:Value),z=zz∧k≤n∧j=.int .i64 k∧FII (New w wr) wr z (c.take k)∧Below w.heap.size w wr) (fun _ j _=>n-(intOf j).toNat)
 case atStart=>exact ⟨0,_,rfl,Nat.zero_le _,rfl,f1,b1⟩
 case round =>
  obtain ⟨k,z,rfl,hk,rfl,hf,hb⟩:=hrel;by_cases hlt:k<n
  ·obtain ⟨b,o,r,l,rfl,hc,hr,hl1⟩:=(h.below hb).at hlt;obtain ⟨ar,cr,rfl⟩:=hr.form;have HST:Hid (c.take (k+1)=c.take k++[l]):=zQe (zAP hl1.out);have hll:=HRW.out l (zQg hl1.out);have HKL:Hid ((c.take k).length≤k):=zQe (by simp; omega);generalize c.take k=A at *;generalize hq:l.length=q at *;have i1:(k:Int)<(n:Int):=by omega
   obtain ⟨f2,b2⟩:=zAN (w:=wr) (Below.refl _ wr) rfl;have hc2:=(b2.cell (p:=⟨b,o+k,none⟩) (zQi wr _ hc)).trans hc;go_wp2_with (at_builtin; go_must (refine zAE (W:=wr) rfl _ _ rfl rfl f2 b2 rfl (hr.below b2) ?_ ?_))
   ·simp; omega
   ·intro v3 w3 f3 b3 _;obtain ⟨a3,c3,e3⟩:=f3.form;have e4:v3=.slice a3 q c3:=by rw [e3]; simp [hq]
    subst e4;clear e3;have bb:Below w3.heap.size w3 (w3.alloc (.cells #[.slice a3 q c3] 25)):=(Below.refl _ _).alloc (zQj _) _;have b13:=zAA.step b3 bb;have hcn:(w3.alloc (.cells #[.slice a3 q c3] 25)).cell? ⟨w3.heap.size,0,none⟩=some (.slice a3 q c3):=by go_simp
    have hf2:=hf.below b13;have hln:A.length+1≤67108864:=by have:=HKL.out; omega
    have f3':FI (Bt wr.heap.size (w3.alloc (.cells #[.slice a3 q c3] 25)).heap.size) (w3.alloc (.cells #[.slice a3 q c3] 25)) (.slice a3 q c3) l:=f3.grow bb;go_wp2_with (at_builtin; go_must (refine zJk (W:=w) (M:=wr.heap.size) rfl _ _ rfl rfl hf2 hb.size b13.size (zAA.step hb b13) rfl hcn f3' hln ?_))
    intro v5 w5 f5 b5 _;go_wp2_with fail
    go_roundw
    case rel=>exact ⟨k+1,_,rfl,by omega,by go_num,by rw [HST.out]; exact f5,b5⟩
    case measure=>simp [intOf]; omega
  ·have hkn:k=n:=by omega
   have i1:¬(k:Int)<(n:Int):=by omega
   rw [hkn,HR.out] at hf;clear hkn;go_wp2_with fail
   go_ret
   exact ⟨_,rfl,hf,hb⟩
def colM (c:List (List Int)) (i:Nat) (v:List Int):List (List Int):=List.zipWith (fun r x=>r.set i x) c v
def zBy (c:List (List Int)) (i:Nat) (v:List Int) (k:Nat):List (List Int):=colM (c.take k) i v++c.drop k
def zAK (c:List (List Int)) (v:List Int) (i:Nat):Int:=Fin.det c.length (colM c i v)
def zBf (c:List (List Int)) (v:List Int):Nat→List Int
 | 0=>[]
 | k+1=>zBf c v k++[zAK c v k]
theorem zA7 (c:List (List Int)) (v:List Int):∀k,(zBf c v k).length=k
 | 0=>rfl
 | k+1=>by simp [zBf,zA7 c v k]
theorem zDX (c:List (List Int)) (v:List Int):∀(k j:Nat),j<k→(zBf c v k)[j]? = some (zAK c v j)
 | 0,j,h=>by omega
 | k+1,j,h=>by
  simp only [zBf];rcases Nat.lt_or_ge j k with h1 | h1
  ·rw [List.getElem?_append_left (by rw [zA7]; exact h1)];exact zDX c v k j h1
  ·have:j=k:=by omega
   subst this;rw [List.getElem?_append_right (by rw [zA7]; exact zQj _),zA7];simp
theorem zDw {α β γ:Type} (f:α→β→γ):∀(l:List α) (l':List β) (k:Nat),l'.length=l.length→(List.zipWith f (l.take k) l').length=min k l.length
 | l,l',k,h=>by simp; omega
theorem zLe (c:List (List Int)) (i:Nat) (v:List Int) (k:Nat) (h:v.length=c.length):(zBy c i v k).length=c.length:=by
 unfold zBy colM;rw [List.length_append,zDw _ _ _ _ h];simp; omega
theorem zM0 {c:List (List Int)} {i:Nat} {v:List Int} {k:Nat} {r:List Int} (h:v.length=c.length) (hr:c[k]? = some r):(zBy c i v k)[k]? = some r:=by
 have hk:k<c.length:=(zQh hr).1;unfold zBy colM;rw [List.getElem?_append_right (by rw [zDw _ _ _ _ h]; omega),zDw _ _ _ _ h,List.getElem?_drop,show k+(k-min k c.length)=k by omega];exact hr
theorem zKo {c:List (List Int)} {i:Nat} {v:List Int} {k:Nat} {r:List Int} {x:Int} (h:v.length=c.length) (hr:c[k]? = some r) (hx:v[k]? = some x):(zBy c i v k).set k (r.set i x)=zBy c i v (k+1):=by
 have hk:k<c.length:=(zQh hr).1;refine List.ext_getElem? fun p=>?_;unfold zBy colM;have z1:=zDw (fun (r:List Int) (x:Int)=>r.set i x) c v k h;have z2:=zDw (fun (r:List Int) (x:Int)=>r.set i x) c v (k+1) h;by_cases hp:p=k
 ·subst hp;rw [List.getElem?_set_self (by rw [List.length_append,z1]; simp; omega),List.getElem?_append_left (by rw [z2]; omega),List.getElem?_zipWith,List.getElem?_take_of_lt (by omega),hr,hx]
 ·rw [List.getElem?_set_ne (by omega)];rcases Nat.lt_or_ge p k with h1 | h1
  ·rw [List.getElem?_append_left (by rw [z1]; omega),List.getElem?_append_left (by rw [z2]; omega),List.getElem?_zipWith,List.getElem?_zipWith,List.getElem?_take_of_lt h1,List.getElem?_take_of_lt (by omega)]
  ·rw [List.getElem?_append_right (by rw [z1]; omega),List.getElem?_append_right (by rw [z2]; omega),z1,z2,List.getElem?_drop,List.getElem?_drop];congr 1;omega
theorem zOS (c:List (List Int)) (i:Nat) (v:List Int):zBy c i v 0=c:=by simp [zBy,colM]
theorem zOT {c:List (List Int)} {i:Nat} {v:List Int} {n:Nat} (hn:c.length=n):zBy c i v n=colM c i v:=by
 unfold zBy;rw [List.take_of_length_le (by omega),List.drop_of_length_le (by omega),List.append_nil]
theorem zIC {c:List (List Int)} {n:Nat} (h:Sq c n) (i:Nat) {v:List Int} (hv:v.length=n):Fin.Sqr (colM c i v) n:=by
 refine ⟨by simp [colM,h.len,hv],fun r hr=>?_⟩;unfold colM at hr;obtain ⟨k,hk,rfl⟩:=List.getElem_of_mem hr;simp only [List.getElem_zipWith,List.length_set];exact h.row k _ (zQf _)
theorem zK0 {l:List Int} {i:Nat} {x y:Int} (h:y∈l.set i x):y=x∨y∈l:=by
 rcases List.mem_or_eq_of_mem_set h with h | h
 ·exact .inr h
 ·exact .inl h
theorem zC8 {c:List (List Int)} (hc:CartanP c) (i:Nat) {v:List Int} (hv:∀x∈v,x.natAbs≤2000):Fin.Small 2000 (colM c i v):=by
 intro r hr x hx;unfold colM at hr;obtain ⟨k,hk,rfl⟩:=List.getElem_of_mem hr;simp only [List.getElem_zipWith] at hx;rcases zK0 hx with rfl | hx
 ·exact hv _ (List.getElem_mem _)
 ·have hk':k<c.length:=by simp at hk; omega
  obtain ⟨j,hj,rfl⟩:=List.getElem_of_mem hx;have:=zDY hc k j;have e:ent c k j=c[k][j]:=by simp [ent,hk',hj]
  rw [e] at this;omega
theorem zF9 {S S':Nat→Prop} {u v:Value} {c:List (List Int)} {l:List Int} {w:World} (h:RII S w u c) (h':RI S' w v l) (hc:CartanP c) (hl:total c≤16777216) (hln:l.length=c.length) (hv:∀x∈l,x.natAbs≤2000) :
  Calls Tryz.prog 69 #[u,v] w fun e w'=>∃r,e=.returned r∧FI (New w w') w' r (zBf c l c.length)∧Below w.heap.size w w':=by
 obtain ⟨a,cap,rfl⟩:=h.form;obtain ⟨a',cap',rfl⟩:=h'.form;have hn4:=hc.le;have HC:=zQe hc;have HS:=zQe hc.sq;have HV:=zQe hv;have HLL:=zQe hln;rw [hln] at h' ⊢;clear hc hv hln;have HN:Hid (∀i,Fin.det c.length (colM c i l)=zAK c l i):=zQe (fun _=>rfl);generalize hn:c.length=n at *;have HNN:=zQe hn;clear hn;go_enter Tryz.func69,Tryz.ntmps69
 go_wp2_with fail
 obtain ⟨w1,hw1⟩:∃w1,w1=w.alloc (.cells #[] 3):=⟨_,rfl⟩;obtain ⟨f1,b1⟩:=zAN (Below.refl _ w) hw1;rw [<-hw1];clear hw1;go_loopw [5,6] (fun zz j wr=>∃(k:Nat) (z:Value),z=zz∧k≤n∧j=.int .i64 k∧FI (New w wr) wr z (zBf c l k)∧Below w.heap.size w wr) (fun _ j _=>n-(intOf j).toNat)
 case atStart=>exact ⟨0,_,rfl,Nat.zero_le _,rfl,f1,b1⟩
 case round =>
  obtain ⟨i,z,rfl,hi,rfl,hf,hb⟩:=hrel;have hal:=zA7 c l i;have HAL:=zQe hal;clear hal;by_cases hlt:i<n
  ·have HST:Hid (zBf c l (i+1)=zBf c l i++[zAK c l i]):=zQe rfl;generalize zBf c l i=A at *;have i1:(i:Int)<(n:Int):=by omega
   go_wp2_with fail
   refine (zM1 (h.below hb) hl).mono ?_;rintro e w2 ⟨r2,rfl,f2,b2⟩;have b02:=zAA.step hb b2;obtain ⟨g,cap2,rfl,hg⟩:=FC.head f2 (by rw [HNN.out]; omega);rw [HNN.out];have hf2:FII (New wr w2) w2 (.slice (some ⟨g,0,none⟩) n cap2) (zBy c i l 0):=by
    rw [zOS];have f3:=f2;rw [HNN.out] at f3;exact f3
   clear f2;go_wp2_with fail
   generalize wr=wO at *;go_loopw [8] (fun j wr=>∃(k:Nat),k≤n∧j=.int .i64 k∧FII (New wO w2) wr (.slice (some ⟨g,0,none⟩) n cap2) (zBy c i l k)∧Only (New wO w2) w2 wr) (fun j _=>n-(intOf j).toNat)
   case atStart=>exact ⟨0,Nat.zero_le _,rfl,hf2,Only.refl _ _⟩
   case round =>
    obtain ⟨k,hk,rfl,hfm,ho⟩:=hrel;have hb02:Below w.heap.size w wr:=b02.trans (ho.below (B:=w.heap.size) (fun b hb'=>Nat.le_trans hb.size hb'.1));by_cases hltk:k<n
    ·obtain ⟨b,o,x,e9,hcx,hx⟩:=(h'.below hb02).at hltk;subst e9;obtain ⟨r,hr⟩:∃r,c[k]? = some r:=⟨_,zQf (by rw [HNN.out]; exact hltk)⟩;have hrl:=HS.out.row k r hr;obtain ⟨gr,cr,hcg,hfr,⟨y,hcy⟩,hSg,hst⟩:=hfm.store (by rw [zLe c i l k (HLL.out.trans HNN.out.symm)]; exact HNN.out) (zM0 (HLL.out.trans HNN.out.symm) hr) (i:=i) (by rw [hrl]; exact hlt);rw [hrl] at hcg;have hst2:=hst x;rw [zKo (HLL.out.trans HNN.out.symm) hr hx.out] at hst2;have HST2:=zQe hst2;clear hst hst2 hr hrl;have i2:(k:Int)<(n:Int):=by omega
     go_wp2_with fail
     go_region
     go_wp2_with fail
     go_roundw
     case rel=>exact ⟨k+1,by omega,by go_num,FC.keep HST2.out (fun _ _ _=>rfl),(ho.setCell hSg _).drew⟩
     case measure=>simp [intOf]; omega
    ·have hkn:k=n:=by omega
     have i2:¬(k:Int)<(n:Int):=by omega
     rw [hkn,zOT HNN.out] at hfm;clear hkn;have hz:=(hf.below b2).only ho (fun b hb1 hb2=>by have a1:=hb1.2; have a2:=hb2.1; omega);have hz2:FI (New w wr) wr z A:=hz.mono (fun b hb'=>⟨hb'.1,by rw [ho.size]; exact Nat.lt_of_lt_of_le hb'.2 b2.size⟩);have HCO:=zQe (HN.out i);go_wp2_with fail
     refine (zE2 (FII.read hfm) (zIC HS.out i HLL.out) (zC8 HC.out i HV.out) (by omega)).mono ?_;rintro e w5 ⟨rfl,b5⟩;rw [HCO.out];have b05:=zAA.step hb02 b5;generalize zAK c l i=D at *;have bb:Below w5.heap.size w5 (w5.alloc (.cells #[.int .i64 D] 3)):=(Below.refl _ _).alloc (zQj _) _;go_wp2_with (at_builtin; go_must (refine zAE (W:=w) rfl _ _ rfl rfl ((hz2.grow b5).grow bb) (zAA.step b05 bb) rfl (RI.one _ D) ?_ ?_))
     ·have:=HAL.out; simp; omega
     ·intro v7 w7 f7 b7 _;go_wp2_with fail
      go_roundw
      case rel=>exact ⟨i+1,_,rfl,by omega,by go_num,by rw [HST.out]; exact f7,b7⟩
      case measure=>simp [intOf]; omega
  ·have hin:i=n:=by omega
   have i1:¬(i:Int)<(n:Int):=by omega
   rw [hin] at hf;clear hin;go_wp2_with fail
   go_ret
   exact ⟨_,rfl,hf,hb⟩
theorem zLd {c:List (List Int)} {i:Nat} {v:List Int} {k:Nat} {r:List Int} {x:Int} (hr:c[k]? = some r) (hx:v[k]? = some x):List.zipWith (fun (r:List Int) (x:Int)=>r.set i x) (c.take (k+1)) (v.take (k+1))=List.zipWith (fun (r:List Int) (x:Int)=>r.set i x) (c.take k) (v.take k)++[r.set i x]:=by
 rw [zAP hr,zAP hx,List.zipWith_append]
 ·rfl
 ·have h1:k<c.length:=(zQh hr).1;have h2:k<v.length:=(zQh hx).1;simp; omega
def quos (c:List (List Int)) (v:List Int) (d:Int) (k:Nat):List Int:=(zBf c v k).map fun x=>x.tdiv d
theorem zIv (c:List (List Int)) (v:List Int) (d:Int) (k:Nat):(quos c v d k).length=k:=by simp [quos,zA7]
theorem zMQ (c:List (List Int)) (v:List Int) (d:Int) (k:Nat):quos c v d (k+1)=quos c v d k++[(zAK c v k).tdiv d]:=by simp [quos,zBf]
def zPl (c:List (List Int)) (l:List Int) (d:Int) (n:Nat) (w:World) (e:Ending) (w':World):Prop :=
 (∃r,e=.returned (.tuple #[r,.bool true])∧FI (New w w') w' r (quos c l d n)∧(∀k,k<n→(zAK c l k).tmod d=0)∧Below w.heap.size w w') ∨
 (e=.returned (.tuple #[.slice none 0 0,.bool false])∧(∃k,k<n∧(zAK c l k).tmod d≠0)∧Below w.heap.size w w')
theorem zKi {S S':Nat→Prop} {u v:Value} {c:List (List Int)} {l:List Int} {w:World} (h:RII S w u c) (h':RI S' w v l) (hc:CartanP c) (hl:total c≤16777216) (hln:l.length=c.length) (hv:∀x∈l,x.natAbs≤2000) (hd:0<Fin.det c.length c) :
  Calls Tryz.prog 90 #[u,v] w (zPl c l (Fin.det c.length c) c.length w):=by
 obtain ⟨a,cap,rfl⟩:=h.form;obtain ⟨a',cap',rfl⟩:=h'.form;have hn4:=hc.le;have HC:=zQe hc;have HS:=zQe hc.sq;have HV:=zQe hv;have HLL:=zQe hln;have HSM:Hid (Fin.Small 2000 c):=zQe (fun r hr x hx=>by
  obtain ⟨i,hi,rfl⟩:=List.getElem_of_mem hr;obtain ⟨j,hj,rfl⟩:=List.getElem_of_mem hx;have:=zDY hc i j;have e:ent c i j=c[i][j]:=by simp [ent,hi,hj]
  rw [e] at this; omega)
 have HSQ:Hid (Fin.Sqr c c.length):=zQe ⟨rfl,hc.row⟩;have hdb:=Fin.det_abs (B:=2000) c.length HSM.out;rw [hln] at h' ⊢;clear hc hv hln;have HN:Hid (∀i,Fin.det c.length (colM c i l)=zAK c l i):=zQe (fun _=>rfl);have HB:Hid (∀i,(zAK c l i).natAbs≤Fin.dB 2000 c.length):=zQe (fun i=>Fin.det_abs c.length (zC8 HC.out i HV.out));have HDB:Hid (Fin.dB 2000 c.length≤384000000000000):=zQe (by
  have:∀n,n≤4→Fin.dB 2000 n≤384000000000000:=by
   intro n hn
   match n,hn with
   | 0,_=>decide
   | 1,_=>decide
   | 2,_=>decide
   | 3,_=>decide
   | 4,_=>decide
  exact this _ hn4)
 generalize hn:c.length=n at *;have HNN:=zQe hn;clear hn;have hdb2:=HDB.out;generalize hdd:Fin.det n c=d at *;have HDD:=zQe hdd;clear hdd;have hd1:1≤d∧d≤384000000000000:=by omega
 clear hdb hdb2;go_enter Tryz.func90,Tryz.ntmps90
 go_wp2_with fail
 refine (zGj h HSQ.out HSM.out hn4).mono ?_;rintro e w0 ⟨rfl,b0⟩;obtain ⟨w1,hw1⟩:∃w1,w1=w0.alloc (.cells #[] 3):=⟨_,rfl⟩;obtain ⟨f1,b1⟩:=zAN b0 hw1;have HQ0:Hid (quos c l d 0=[]):=zQe rfl;rw [HDD.out];go_wp2_with fail
 rw [<-hw1];clear hw1;rw [<-HQ0.out] at f1;go_loopw [7,19] (fun zz j wr=>∃(k:Nat) (z:Value),z=zz∧k≤n∧j=.int .i64 k∧FI (New w wr) wr z (quos c l d k)∧Hid (∀q,q<k→(zAK c l q).tmod d=0)∧Below w.heap.size w wr) (fun _ j _=>n-(intOf j).toNat)
 case atStart=>exact ⟨0,_,rfl,Nat.zero_le _,rfl,f1,zQe (fun q hq=>by omega),b1⟩
 case round =>
  obtain ⟨i,z,rfl,hi,rfl,hf,HK,hb⟩:=hrel;have HAL:=zQe (zIv c l d i);by_cases hlt:i<n
  ·have HST:=zQe (zMQ c l d i);generalize quos c l d i=A at *;have i1:(i:Int)<(n:Int):=by omega
   obtain ⟨M,hM⟩:∃M:Nat→List (List Int),∀k,M k=List.zipWith (fun (r:List Int) (x:Int)=>r.set i x) (c.take k) (l.take k):=⟨_,fun _=>rfl⟩;have HM0:Hid (M 0=[]):=zQe (by rw [hM]; simp);have HMn:Hid (M n=colM c i l):=zQe (by rw [hM,List.take_of_length_le (by rw [HNN.out]; exact zQj _),List.take_of_length_le (by rw [HLL.out]; exact zQj _)]; rfl);have HMS:Hid (∀k r x,c[k]? = some r→l[k]? = some x→M (k+1)=M k++[r.set i x]):=zQe (fun k r x hr hx=>by rw [hM,hM]; exact zLd hr hx);have HML:Hid (∀k,(M k).length≤k):=zQe (fun k=>by rw [hM]; simp; omega);clear hM;go_wp2_with fail
   obtain ⟨w2,hw2⟩:∃w2,w2=wr.alloc (.cells #[] 25):=⟨_,rfl⟩;obtain ⟨f2,b2⟩:=FR.empty_of (Below.refl _ wr) hw2;rw [<-hw2];clear hw2;rw [<-HM0.out] at f2;generalize wr=wO at *;go_loopw [9,25] (fun mm j wr=>∃(k:Nat) (m:Value),m=mm∧k≤n∧j=.int .i64 k∧FR (New wO wr) wr m (M k)∧Below wO.heap.size wO wr) (fun _ j _=>n-(intOf j).toNat)
   case atStart=>exact ⟨0,_,rfl,Nat.zero_le _,rfl,f2,b2⟩
   case round =>
    obtain ⟨k,m,rfl,hk,rfl,hfm,hbm⟩:=hrel;have hml:=HML.out k;have hb0:=zAA.step hb hbm;by_cases hltk:k<n
    ·obtain ⟨b,o,r,rl,e8,hcr,hr,hrl⟩:=(h.below hb0).at hltk;subst e8;obtain ⟨ar,cr,rfl⟩:=hr.form;have hrn:=HS.out.row k rl hrl.out;rw [hrn] at hr hcr;obtain ⟨b',o',x,e9,hcx,hx⟩:=(h'.below hb0).at hltk;subst e9;have HST2:=zQe (HMS.out k rl x hrl.out hx.out);generalize M k=Mk at *;have i2:(k:Int)<(n:Int):=by omega
     have HRN:=zQe hrn;clear hrn hrl hx;go_wp2_with fail
     refine (zLb hr (by rw [HRN.out]; omega)).mono ?_;rintro e w4 ⟨r4,rfl,f4,b4⟩;obtain ⟨a4,c4,e4⟩:=f4.form;rw [HRN.out] at e4;subst e4;obtain ⟨g,rfl,hg,_⟩:=f4.head (by omega);obtain ⟨y,hy⟩:∃y,rl[i]? = some y:=⟨_,zQf (by rw [HRN.out]; exact hlt)⟩;have hcy:=f4.cell hy hlt;have hfr:=f4.froz HRN.out i;have hst:=zQe (f4.put HRN.out i x);have hcx4:=(b4.cell (p:=⟨b',o'+k,none⟩) (zQi wr _ hcx)).trans hcx;have bset:Below wr.heap.size wr (w4.setCell ⟨g,i,none⟩ (.int .i64 x)):=b4.setCell hg.1 _;obtain ⟨w5,hw5⟩:∃w5,w5=w4.setCell ⟨g,i,none⟩ (.int .i64 x):=⟨_,rfl⟩;clear hy;have f5:FI (New wr w4) w5 (.slice (some ⟨g,0,none⟩) n c4) (rl.set i x):=by rw [hw5]; exact hst.out
     have hs5:w5.heap.size=w4.heap.size:=by rw [hw5]; exact zAW _ _ _
     have b5:Below wr.heap.size wr w5:=by rw [hw5]; exact bset
     have bb:Below w5.heap.size w5 (w5.alloc (.cells #[.slice (some ⟨g,0,none⟩) n c4] 25)):=(Below.refl _ _).alloc (zQj _) _;have b15:=zAA.step b5 bb;have hcn:(w5.alloc (.cells #[.slice (some ⟨g,0,none⟩) n c4] 25)).cell? ⟨w5.heap.size,0,none⟩=some (.slice (some ⟨g,0,none⟩) n c4):=by go_simp
     have hy5:RI (New wO (w5.alloc (.cells #[.slice (some ⟨g,0,none⟩) n c4] 25))) (w5.alloc (.cells #[.slice (some ⟨g,0,none⟩) n c4] 25)) (.slice (some ⟨g,0,none⟩) n c4) (rl.set i x) :=
      ((f5.below bb).reads).mono (fun b hb'=>⟨Nat.le_trans hbm.size hb'.1,Nat.lt_of_lt_of_le (by rw [hs5]; exact hb'.2) bb.size⟩)
     have hln:Mk.length+1≤67108864:=by omega
     rw [hs5] at hcn;rw [hw5] at hcn hy5 b15;have hfm5:=hfm.grow b15;have hbm5:=zAA.step hbm b15;clear hst;go_wp2_with (at_builtin; go_must (refine zBO (W:=wO) rfl _ _ rfl rfl hfm5 hbm5 rfl hcn hy5 hln ?_))
     intro v7 w7 f7 b7 _;go_wp2_with fail
     go_roundw
     case rel=>exact ⟨k+1,_,rfl,by omega,by go_num,by rw [HST2.out]; exact f7,b7⟩
     case measure=>simp [intOf]; omega
    ·have hkn:k=n:=by omega
     have i2:¬(k:Int)<(n:Int):=by omega
     rw [hkn,HMn.out] at hfm;clear hkn;have HCO:=zQe (HN.out i);have hbd:=HB.out i;have hbd2:=HDB.out;have hz:=hf.grow hbm;go_wp2_with fail
     refine (zGj hfm.reads (zIC HS.out i HLL.out) (zC8 HC.out i HV.out) hn4).mono ?_;rintro e w5 ⟨rfl,b5⟩;rw [HCO.out];have b05:=zAA.step hb0 b5;have hz5:=hz.grow b5;by_cases hdv:(zAK c l i).tmod d=0
     ·have HK2:Hid (∀q,q<i+1→(zAK c l q).tmod d=0):=zQe (fun q hq=>by
       rcases Nat.lt_or_ge q i with h9 | h9
       ·exact HK.out q h9
       ·have:q=i:=by omega
        subst this; exact hdv)
      have j1:((zAK c l i).tmod d != 0)=false:=by simp [hdv]
      have j2:-384000000000000≤(zAK c l i).tdiv d∧(zAK c l i).tdiv d≤384000000000000:=by
       have:=Int.natAbs_tdiv_le_natAbs (zAK c l i) d;omega
      have j3:-384000000000000≤zAK c l i∧zAK c l i≤384000000000000:=by omega
      clear hdv hbd hbd2;generalize zAK c l i=D at *;have bb:Below w5.heap.size w5 (w5.alloc (.cells #[.int .i64 (D.tdiv d)] 3)):=(Below.refl _ _).alloc (zQj _) _;go_wp2_with (at_builtin; go_must (refine zAE (W:=w) rfl _ _ rfl rfl (hz5.grow bb) (zAA.step b05 bb) rfl (RI.one _ (D.tdiv d)) ?_ ?_))
      ·have:=HAL.out; simp; omega
      ·intro v7 w7 f7 b7 _;go_wp2_with fail
       go_roundw
       case rel=>exact ⟨i+1,_,rfl,by omega,by go_num,by rw [HST.out]; exact f7,HK2,b7⟩
       case measure=>simp [intOf]; omega
     ·have j1:((zAK c l i).tmod d != 0)=true:=by simp [hdv]
      have j3:-384000000000000≤zAK c l i∧zAK c l i≤384000000000000:=by omega
      have HDV:=zQe hdv;clear hdv hbd hbd2;generalize hDq:zAK c l i=D at *;have HDq:=zQe hDq;clear hDq;go_wp2_with fail
      go_ret2
      exact .inr ⟨rfl,⟨i,hlt,by rw [HDq.out]; exact HDV.out⟩,b05⟩
  ·have hin:i=n:=by omega
   have i1:¬(i:Int)<(n:Int):=by omega
   have HK3:Hid (∀q,q<n→(zAK c l q).tmod d=0):=zQe (by rw [<-hin]; exact HK.out);rw [hin] at hf;clear hin HAL;go_wp2_with fail
   go_ret2
   exact .inl ⟨_,rfl,hf,HK3.out,hb⟩
def dfL (b a:List Int):List Int:=List.zipWith (fun y x=>y-x) b a
theorem zIH {b a:List Int} {k:Nat} {y x:Int} (hy:b[k]? = some y) (hx:a[k]? = some x):List.zipWith (fun y x=>y-x) (b.take (k+1)) (a.take (k+1))=List.zipWith (fun y x=>y-x) (b.take k) (a.take k)++[y-x]:=by
 rw [zAP hy,zAP hx,List.zipWith_append]
 ·rfl
 ·have h1:k<b.length:=(zQh hy).1;have h2:k<a.length:=(zQh hx).1;simp; omega
def allW (c:List (List Int)) (v:List Int):Nat→Bool
 | 0=>true
 | k+1=>allW c v k && (decide (0≤zAK c v k) && decide ((zAK c v k).tmod (Fin.det c.length c)=0))
theorem zCT {c:List (List Int)} {v:List Int}:∀{n:Nat},allW c v n=true↔∀k,k<n→0≤zAK c v k∧(zAK c v k).tmod (Fin.det c.length c)=0
 | 0=>by simp [allW]
 | n+1=>by
  simp only [allW,Bool.and_eq_true,decide_eq_true_eq];rw [zCT (n:=n)];constructor
  ·rintro ⟨h1,h2⟩ k hk;rcases Nat.lt_or_ge k n with h | h
   ·exact h1 k h
   ·have:k=n:=by omega
    subst this; exact h2
  ·exact fun h=>⟨fun k hk=>h k (by omega),h n (by omega)⟩
def wbB (c:List (List Int)) (a b:List Int):Bool:=isW c a && (isW c b && (finB c && allW c (dfL b a) c.length))
theorem zMv:∀n,n<5→Fin.bits n (2 ^ n-1)=List.range n:=by decide
theorem zE3 {c:List (List Int)} (h:FinP c):0<Fin.det c.length c:=by
 have hc:=h.cart;have h1:=Fin.posUp_iff.1 h.pos (2 ^ c.length-1) (by
  have:2 ^ 1≤2 ^ c.length:=Nat.pow_le_pow_right (by omega) hc.pos;omega) (zQj _)
 unfold Fin.minor at h1;rw [zMv _ (by have:=hc.le; omega)] at h1;have e:Fin.sub c (List.range c.length)=c:=Fin.tab_en ⟨rfl,hc.row⟩;rw [e] at h1;simpa using h1
theorem zHQ {c:List (List Int)} {a b:List Int} (ha:isW c a=true) (hb:isW c b=true):(dfL b a).length=c.length∧∀x∈dfL b a,x.natAbs≤2000:=by
 obtain ⟨_,h1,h2⟩:=zB1 ha;obtain ⟨_,h3,h4⟩:=zB1 hb;refine ⟨by simp [dfL,h1,h3],fun x hx=>?_⟩;obtain ⟨k,hk,rfl⟩:=List.getElem_of_mem hx;have ka:k<a.length:=by simp [dfL] at hk; omega
 have kb:k<b.length:=by simp [dfL] at hk; omega
 have e:(dfL b a)[k]=b[k]-a[k]:=List.getElem_zipWith;have e1:=h2 _ (List.getElem_mem ka);have e2:=h4 _ (List.getElem_mem kb);omega
def zQU (q:Bool) (w:World) (e:Ending) (w':World):Prop:=∃r,e=.returned (.tuple #[r,.bool q])∧Below w.heap.size w w'
theorem zE4:∀{l:List Int},dom l=true↔∀x∈l,0≤x
 | []=>by simp [dom]
 | x::l=>by
  unfold dom;by_cases h:x<0
  ·simp [h]; intro h2; omega
  ·simp [h,zE4 (l:=l)]; omega
theorem zIb {c:List (List Int)} {v:List Int} {d:Int} {n:Nat} {x:Int}:x∈quos c v d n↔∃k,k<n∧x=(zAK c v k).tdiv d:=by
 unfold quos;constructor
 ·intro h;obtain ⟨y,hy,rfl⟩:=List.mem_map.1 h;obtain ⟨k,hk,rfl⟩:=List.getElem_of_mem hy;rw [zA7] at hk;refine ⟨k,hk,?_⟩;have:=zDX c v n k hk;rw [zQf (by rw [zA7]; exact hk)] at this
  injection this with this
  rw [this]
 ·rintro ⟨k,hk,rfl⟩;exact List.mem_map.2 ⟨_,zQg (zDX c v n k hk),rfl⟩
theorem zFX {x d:Int} (hd:0<d) (h:x.tmod d=0):0≤x.tdiv d↔0≤x:=by
 have e:=Int.mul_tdiv_add_tmod x d;rw [h,Int.add_zero] at e;constructor
 ·intro h2;rw [<-e];exact Int.mul_nonneg (Int.le_of_lt hd) h2
 ·intro h2;by_cases h3:x.tdiv d<0
  ·have:=Int.mul_neg_of_pos_of_neg hd h3;omega
  ·omega
theorem zKj {c:List (List Int)} {v:List Int} (hd:0<Fin.det c.length c) (h:∀k,k<c.length→(zAK c v k).tmod (Fin.det c.length c)=0):dom (quos c v (Fin.det c.length c) c.length)=allW c v c.length:=by
 rw [Bool.eq_iff_iff,zE4,zCT];constructor
 ·intro h2 k hk;exact ⟨(zFX hd (h k hk)).1 (h2 _ (zIb.2 ⟨k,hk,rfl⟩)),h k hk⟩
 ·intro h2 x hx;obtain ⟨k,hk,rfl⟩:=zIb.1 hx;exact (zFX hd (h k hk)).2 (h2 k hk).1
theorem zLU {c:List (List Int)} {v:List Int} (h:∃k,k<c.length∧(zAK c v k).tmod (Fin.det c.length c)≠0):allW c v c.length=false:=by
 cases e:allW c v c.length
 ·rfl
 ·obtain ⟨k,hk,hn⟩:=h;exact absurd (zCT.1 e k hk).2 hn
theorem zN9 {c:List (List Int)} {v:List Int} {k:Nat} (hk:k<c.length) (h:zAK c v k<0∨(zAK c v k).tmod (Fin.det c.length c)≠0):allW c v c.length=false:=by
 cases e:allW c v c.length
 ·rfl
 ·have:=zCT.1 e k hk;rcases h with h | h
  ·omega
  ·exact absurd this.2 h
theorem zGk {S S' S'':Nat→Prop} {u z v:Value} {c:List (List Int)} {b a:List Int} {w:World} (h:RII S w u c) (h':RI S' w z b) (h'':RI S'' w v a) (hF:FinP c) (hl:total c≤16777216) (ha:isW c a=true) (hb:isW c b=true) :
  Calls Tryz.prog 65 #[u,z,v] w (zQU (allW c (dfL b a) c.length) w):=by
 have HF:=zQe hF;have hn4:=hF.cart.le;have HA:=zQe (zB1 ha);have HB:=zQe (zB1 hb);have HDS:=zQe (zHQ ha hb);obtain ⟨au,cu,rfl⟩:=h.form;obtain ⟨az,cz,rfl⟩:=h'.form;obtain ⟨av,cv,rfl⟩:=h''.form;rw [HB.out.2.1] at h' ⊢;rw [HA.out.2.1] at h'' ⊢;clear hF ha hb;obtain ⟨D,hD⟩:∃D:Nat→List Int,∀k,D k=List.zipWith (fun y x=>y-x) (b.take k) (a.take k):=⟨_,fun _=>rfl⟩;have HD0:Hid (D 0=[]):=zQe (by rw [hD]; simp);have HDn:Hid (D c.length=dfL b a):=zQe (by rw [hD,List.take_of_length_le (by rw [HB.out.2.1]; exact zQj _),List.take_of_length_le (by rw [HA.out.2.1]; exact zQj _)]; rfl);have HDS2:Hid (∀k y x,b[k]? = some y→a[k]? = some x→D (k+1)=D k++[y-x]):=zQe (fun k y x hy hx=>by rw [hD,hD]; exact zIH hy hx);have HDL:Hid (∀k,(D k).length≤k):=zQe (fun k=>by rw [hD]; simp; omega);clear hD
 have HAY:Hid ((∀k,k<c.length→(zAK c (dfL b a) k).tmod (Fin.det c.length c)=0)→dom (quos c (dfL b a) (Fin.det c.length c) c.length)=allW c (dfL b a) c.length):=zQe (zKj (zE3 HF.out));have HAN:Hid ((∃k,k<c.length∧(zAK c (dfL b a) k).tmod (Fin.det c.length c)≠0)→allW c (dfL b a) c.length=false):=zQe zLU;generalize allW c (dfL b a) c.length=res at *;generalize hn:c.length=n at *;have HN:=zQe hn;clear hn;go_enter Tryz.func65,Tryz.ntmps65
 go_wp2_with fail
 obtain ⟨w1,hw1⟩:∃w1,w1=w.alloc (.cells #[] 3):=⟨_,rfl⟩;obtain ⟨f1,b1⟩:=zAN (Below.refl _ w) hw1;rw [<-hw1];clear hw1;rw [<-HD0.out] at f1;go_loopw [8,15] (fun qq j wr=>∃(k:Nat) (q:Value),q=qq∧k≤n∧j=.int .i64 k∧FI (New w wr) wr q (D k)∧Below w.heap.size w wr) (fun _ j _=>n-(intOf j).toNat)
 case atStart=>exact ⟨0,_,rfl,Nat.zero_le _,rfl,f1,b1⟩
 case round =>
  obtain ⟨k,q,rfl,hk,rfl,hf,hb⟩:=hrel;have hdl:=HDL.out k;by_cases hlt:k<n
  ·obtain ⟨b1,o1,y,rfl,hc0,hy⟩:=h'.at hlt;obtain ⟨b2,o2,x,rfl,hcx0,hx⟩:=h''.at hlt;have l1:=zQi w _ hc0;have l2:=zQi w _ hcx0;have hc:=(hb.cell l1).trans hc0;have hcx:=(hb.cell l2).trans hcx0;have hF:=zQe (fun (k:Nat) hk=>(hf.2 k hk).1);have i1:(k:Int)<(n:Int):=by omega
   have HST:=zQe (HDS2.out k y x hy.out hx.out);have hbx:=HA.out.2.2 x (zQg hx.out);have hby:=HB.out.2.2 y (zQg hy.out);have j1:IntKind.i64.wrap (y-x)=y-x:=IntWalk.i64_in _ (by omega);generalize D k=Dk at *;clear hc0 hcx0;have bbd:Below wr.heap.size wr (wr.alloc (.cells #[.int .i64 (y-x)] 3)).drew:=((Below.refl _ _).alloc (zQj _) _).drew;have hcn:(wr.alloc (.cells #[.int .i64 (y-x)] 3)).drew.cell? ⟨wr.heap.size,0,none⟩=some (.int .i64 (y-x)):=by go_simp
   have hfn:=hf.grow bbd;have hbn:=zAA.step hb bbd;have hln:Dk.length+1≤67108864:=by omega
   go_wp2_with fail
   go_region_held3 (fun w'=>w'.cell? ⟨b1,o1+k,none⟩=some (.int .i64 y)∧w'.cell? ⟨b2,o2+k,none⟩=some (.int .i64 x)) (first | go_keep | (go_split_ands; exact ⟨zAS hgrow (by assumption) l1 hF.out,zAS hgrow (by assumption) l2 hF.out⟩)) ((refine zBu (W:=w) (by rfl) _ _ (by rfl) (by rfl) hfn hbn (by rfl) hcn hln ?_; intro v' w3 f3 b5 hgrow))
   clear j1;go_wp2_with fail
   go_roundw
   case rel=>exact ⟨k+1,_,rfl,by omega,by go_num,by rw [HST.out]; exact f3,b5⟩
   case measure=>simp [intOf]; omega
  ·have hkn:k=n:=by omega
   have i1:¬(k:Int)<(n:Int):=by omega
   rw [hkn,HDn.out] at hf;clear hkn;have hu:=h.below hb;go_wp2_with fail
   refine (zKi (l:=dfL b a) (c:=c) hu hf.reads HF.out.cart hl (by rw [HDS.out.1,HN.out]) HDS.out.2 (zE3 HF.out)).mono ?_;rintro e w4 (⟨r4,rfl,f4,hall,b4⟩ | ⟨rfl,hex,b4⟩)
   ·rw [HN.out] at hall f4;have e0:=zQe (HAY.out hall);clear hall;have b04:=zAA.step hb b4;have HQL:=zQe (zIv c (dfL b a) (Fin.det n c) n);generalize quos c (dfL b a) (Fin.det n c) n=Q at *;go_wp2_with fail
    refine (zBB f4.reads (by rw [HQL.out]; omega)).mono ?_;rintro e w5 ⟨rfl,rfl⟩;rw [e0.out];go_wp2_with fail
    go_ret2
    exact ⟨_,rfl,b04⟩
   ·rw [HN.out] at hex;have e0:=zQe (HAN.out hex);clear hex;have b04:=zAA.step hb b4;go_wp2_with fail
    go_ret2
    rw [e0.out];exact ⟨_,rfl,b04⟩
theorem zC5 {S S' S'':Nat→Prop} {u v z:Value} {c:List (List Int)} {a b:List Int} {w:World} (h:RII S w u c) (h':RI S' w v a) (h'':RI S'' w z b) (hl:total c≤16777216) (hl':a.length≤16777216) (hl'':b.length≤16777216) :
  Calls Tryz.prog 22 #[u,v,z] w fun e w'=>e=.returned (.bool (wbB c a b))∧Below w.heap.size w w':=by
 have HD:Hid (wbB c a b=(isW c a && (isW c b && (finB c && allW c (dfL b a) c.length)))):=zQe rfl;have HP:Hid (finB c=true→FinP c):=zQe zDq;generalize wbB c a b=res at *;go_enter Tryz.func22,Tryz.ntmps22
 go_wp2_with fail
 refine (zCN h h' hl hl').mono ?_;rintro e w1 ⟨rfl,hw1⟩;have b1:=zAO hw1;clear hw1;cases hA:isW c a
 ·have e0:Hid (res=false):=zQe (by rw [HD.out,hA]; rfl);go_wp2_with fail
  go_ret
  exact ⟨zAB e0.out.symm,b1⟩
 ·have HA:=zQe hA;clear hA;go_wp2_with fail
  refine (zCN (h.below b1) (h''.below b1) hl hl'').mono ?_;rintro e w2 ⟨rfl,hw2⟩;have b02:=zAA.step b1 (zAO hw2);clear hw2;cases hB:isW c b
  ·have e0:Hid (res=false):=zQe (by rw [HD.out,HA.out,hB]; rfl);go_wp2_with fail
   go_ret
   exact ⟨zAB e0.out.symm,b02⟩
  ·have HB:=zQe hB;clear hB;go_wp2_with fail
   refine (zDP (h.below b02) hl).mono ?_;rintro e w3 ⟨rfl,b3⟩;have b03:=zAA.step b02 b3;cases hF:finB c
   ·have e0:Hid (res=false):=zQe (by rw [HD.out,HA.out,HB.out,hF]; rfl);go_wp2_with fail
    go_ret
    exact ⟨zAB e0.out.symm,b03⟩
   ·have e0:Hid (res=allW c (dfL b a) c.length):=zQe (by rw [HD.out,HA.out,HB.out,hF]; rfl);have HF:=zQe (HP.out hF);clear hF;go_wp2_with fail
    refine (zGk (h.below b03) (h''.below b03) (h'.below b03) HF.out hl HA.out HB.out).mono ?_;rintro e w4 ⟨r4,rfl,b4⟩;generalize allW c (dfL b a) c.length=q at *;go_wp2_with fail
    go_ret
    exact ⟨zAB e0.out.symm,zAA.step b03 b4⟩
theorem zFH {S S' S'':Nat→Prop} {u v z:Value} {c:List (List Int)} {a b:List Int} {w:World} (h:RII S w u c) (h':RI S' w v a) (h'':RI S'' w z b) (hl:total c≤16777216) (hl':a.length≤16777216) (hl'':b.length≤16777216) :
  Calls Tryz.prog 31 #[u,v,z] w fun e w'=>e=.returned (.bool (wbB c a b))∧Below w.heap.size w w':=by
 have HD:Hid (wbB c a b=(isW c a && (isW c b && (finB c && allW c (dfL b a) c.length)))):=zQe rfl;have HP:Hid (finB c=true→FinP c):=zQe zDq;generalize wbB c a b=res at *;go_enter Tryz.func31,Tryz.ntmps31
 go_wp2_with fail
 refine (zCO h h' hl hl').mono ?_;rintro e w1 ⟨rfl,hw1⟩;have b1:=zAO hw1;clear hw1;cases hA:isW c a
 ·have e0:Hid (res=false):=zQe (by rw [HD.out,hA]; rfl);go_wp2_with fail
  go_ret
  exact ⟨zAB e0.out.symm,b1⟩
 ·have HA:=zQe hA;clear hA;go_wp2_with fail
  refine (zCO (h.below b1) (h''.below b1) hl hl'').mono ?_;rintro e w2 ⟨rfl,hw2⟩;have b02:=zAA.step b1 (zAO hw2);clear hw2;cases hB:isW c b
  ·have e0:Hid (res=false):=zQe (by rw [HD.out,HA.out,hB]; rfl);go_wp2_with fail
   go_ret
   exact ⟨zAB e0.out.symm,b02⟩
  ·have HB:=zQe hB;clear hB;go_wp2_with fail
   refine (zBr (h.below b02) hl).mono ?_;rintro e w3 ⟨rfl,b3⟩;have b03:=zAA.step b02 b3;cases hF:finB c
   ·have e0:Hid (res=false):=zQe (by rw [HD.out,HA.out,HB.out,hF]; rfl);go_wp2_with fail
    go_ret
    exact ⟨zAB e0.out.symm,b03⟩
   ·have e0:Hid (res=allW c (dfL b a) c.length):=zQe (by rw [HD.out,HA.out,HB.out,hF]; rfl);have HF:=zQe (HP.out hF);clear hF HD;have hn4:=HF.out.cart.le;have HDP:=zQe (zE3 HF.out);have HAL:=zQe (zB1 HA.out);have HBL:=zQe (zB1 HB.out);have HDS:=zQe (zHQ HA.out HB.out);have HNO:Hid (∀k,k<c.length→(zAK c (dfL b a) k<0∨(zAK c (dfL b a) k).tmod (Fin.det c.length c)≠0)→res=false):=zQe (fun k hk h=>by rw [e0.out]; exact zN9 hk h);have HYES:Hid ((∀k,k<c.length→0≤zAK c (dfL b a) k∧(zAK c (dfL b a) k).tmod (Fin.det c.length c)=0)→res=true):=zQe (fun h=>by rw [e0.out]; exact zCT.2 h);have HSM:Hid (Fin.Small 2000 c):=zQe (fun r hr x hx=>by
     obtain ⟨i,hi,rfl⟩:=List.getElem_of_mem hr;obtain ⟨j,hj,rfl⟩:=List.getElem_of_mem hx;have:=zDY HF.out.cart i j;have e:ent c i j=c[i][j]:=by simp [ent,hi,hj]
     rw [e] at this; omega)
    have HSQ:Hid (Fin.Sqr c c.length):=zQe ⟨rfl,HF.out.cart.row⟩;have HCB:Hid (∀k,-384000000000000≤zAK c (dfL b a) k∧zAK c (dfL b a) k≤384000000000000):=zQe (fun k=>by
     have h1:=Fin.det_abs c.length (zC8 HF.out.cart k HDS.out.2);have h2:∀n,n≤4→Fin.dB 2000 n≤384000000000000:=by
      intro n hn
      match n,hn with
      | 0,_=>decide
      | 1,_=>decide
      | 2,_=>decide
      | 3,_=>decide
      | 4,_=>decide
     have h3:=h2 _ hn4;have h4:(zAK c (dfL b a) k).natAbs≤Fin.dB 2000 c.length:=h1;omega)
    have HDB:Hid (Fin.det c.length c≤384000000000000):=zQe (by
     have h1:=Fin.det_abs c.length HSM.out;have h2:∀n,n≤4→Fin.dB 2000 n≤384000000000000:=by
      intro n hn
      match n,hn with
      | 0,_=>decide
      | 1,_=>decide
      | 2,_=>decide
      | 3,_=>decide
      | 4,_=>decide
     have h3:=h2 _ hn4;omega)
    clear e0;have hv3:=h'.below b03;have hz3:=h''.below b03;obtain ⟨av,cv,rfl⟩:=hv3.form;obtain ⟨az,cz,rfl⟩:=hz3.form;rw [HAL.out.2.1] at hv3 ⊢;rw [HBL.out.2.1] at hz3 ⊢;obtain ⟨D,hD⟩:∃D:Nat→List Int,∀k,D k=List.zipWith (fun y x=>y-x) (b.take k) (a.take k):=⟨_,fun _=>rfl⟩;have HD0:Hid (D 0=[]):=zQe (by rw [hD]; simp);have HDn:Hid (D c.length=dfL b a):=zQe (by rw [hD,List.take_of_length_le (by rw [HBL.out.2.1]; exact zQj _),List.take_of_length_le (by rw [HAL.out.2.1]; exact zQj _)]; rfl);have HDS2:Hid (∀k y x,b[k]? = some y→a[k]? = some x→D (k+1)=D k++[y-x]):=zQe (fun k y x hy hx=>by rw [hD,hD]; exact zIH hy hx);have HDL:Hid (∀k,(D k).length≤k):=zQe (fun k=>by rw [hD]; simp; omega);clear hD;have HCL:=zQe (zA7 c (dfL b a) c.length);have HCA:=zQe (zDX c (dfL b a) c.length);clear h' h''
    generalize hn:c.length=n at *;have HN:=zQe hn;clear hn;go_wp2_with fail
    obtain ⟨w4,hw4⟩:∃w4,w4=w3.alloc (.cells #[] 3):=⟨_,rfl⟩;obtain ⟨f4,b4⟩:=zAN (Below.refl _ w3) hw4;rw [<-hw4];clear hw4;rw [<-HD0.out] at f4;go_loopw [7,8] (fun qq j wr=>∃(k:Nat) (q:Value),q=qq∧k≤n∧j=.int .i64 k∧FI (New w3 wr) wr q (D k)∧Below w3.heap.size w3 wr) (fun _ j _=>n-(intOf j).toNat)
    case atStart=>exact ⟨0,_,rfl,Nat.zero_le _,rfl,f4,b4⟩
    case round =>
     obtain ⟨k,q,rfl,hk,rfl,hf,hb⟩:=hrel;have hdl:=HDL.out k;by_cases hlt:k<n
     ·obtain ⟨b1,o1,y,e8,hc0,hy⟩:=hz3.at hlt;subst e8;obtain ⟨b2,o2,x,e9,hcx0,hx⟩:=hv3.at hlt;subst e9;have l1:=zQi w3 _ hc0;have l2:=zQi w3 _ hcx0;have hc:=(hb.cell l1).trans hc0;have hcx:=(hb.cell l2).trans hcx0;have hF:=zQe (fun (k:Nat) hk=>(hf.2 k hk).1);have i1:(k:Int)<(n:Int):=by omega
      have HST:=zQe (HDS2.out k y x hy.out hx.out);have hbx:=HAL.out.2.2 x (zQg hx.out);have hby:=HBL.out.2.2 y (zQg hy.out);have j1:IntKind.i64.wrap (y-x)=y-x:=IntWalk.i64_in _ (by omega);generalize D k=Dk at *;clear hc0 hcx0;have bbd:Below wr.heap.size wr (wr.alloc (.cells #[.int .i64 (y-x)] 3)).drew:=((Below.refl _ _).alloc (zQj _) _).drew;have hcn:(wr.alloc (.cells #[.int .i64 (y-x)] 3)).drew.cell? ⟨wr.heap.size,0,none⟩=some (.int .i64 (y-x)):=by go_simp
      have hfn:=hf.grow bbd;have hbn:=zAA.step hb bbd;have hln:Dk.length+1≤67108864:=by omega
      go_wp2_with fail
      go_region_held3 (fun w'=>w'.cell? ⟨b1,o1+k,none⟩=some (.int .i64 y)∧w'.cell? ⟨b2,o2+k,none⟩=some (.int .i64 x)) (first | go_keep | (go_split_ands; exact ⟨zAS hgrow (by assumption) l1 hF.out,zAS hgrow (by assumption) l2 hF.out⟩)) ((refine zBu (W:=w3) (by rfl) _ _ (by rfl) (by rfl) hfn hbn (by rfl) hcn hln ?_; intro v' w5 f5 b5 hgrow))
      clear j1;go_wp2_with fail
      go_roundw
      case rel=>exact ⟨k+1,_,rfl,by omega,by go_num,by rw [HST.out]; exact f5,b5⟩
      case measure=>simp [intOf]; omega
     ·have hkn:k=n:=by omega
      have i1:¬(k:Int)<(n:Int):=by omega
      rw [hkn,HDn.out] at hf;clear hkn;have b0r:=zAA.step b03 hb;have hu:=h.below b0r;go_wp2_with fail
      refine (zF9 hu hf.reads HF.out.cart hl (by rw [HDS.out.1,HN.out]) HDS.out.2).mono ?_;rintro e w6 ⟨r6,rfl,f6,b6⟩;rw [HN.out] at f6;have b06:=zAA.step b0r b6;obtain ⟨a6,c6,rfl⟩:=f6.form;rw [HCL.out] at f6 ⊢;have hr6:=f6.reads;go_wp2_with fail
      generalize wr=wO at *;go_loopw [10] (fun j wr=>∃(k:Nat),k≤n∧j=.int .i64 k∧Hid (∀q,q<k→0≤zAK c (dfL b a) q∧(zAK c (dfL b a) q).tmod (Fin.det n c)=0)∧Below w6.heap.size w6 wr) (fun j _=>n-(intOf j).toNat)
      case atStart=>exact ⟨0,Nat.zero_le _,rfl,zQe (fun q hq=>by omega),Below.refl _ _⟩
      case round =>
       obtain ⟨k,hk,rfl,HK,hb9⟩:=hrel;have b09:=zAA.step b06 hb9;by_cases hlt:k<n
       ·obtain ⟨b1,o1,x,e8,hc0,hx⟩:=(hr6.below hb9).at hlt;subst e8;have HX:Hid (zAK c (dfL b a) k=x):=zQe (by have:=hx.out; rw [HCA.out k hlt] at this; exact Option.some.inj this);have hxb:=HCB.out k;rw [HX.out] at hxb;have i1:(k:Int)<(n:Int):=by omega
        have g0:=fun y:GW wr=>y.cell hc0;have hu9:=h.below b09;by_cases hx0:x<0
        ·have e0:=zQe (HNO.out k hlt (.inl (by rw [HX.out]; exact hx0)));have i2:decide (x<0)=true:=decide_eq_true hx0;go_wp2_with fail
         refine zCp (by kernel_rfl) (by kernel_rfl) ?_
         repeat (go_big_quiet_step (fail))
         refine wpQuiet_nil ?_;intro w8 hb8;go_wp2_with fail
         go_ret
         exact ⟨zAB e0.out.symm,zAA.step b09 hb8⟩
        ·have hdb:=HDB.out;have hdp:=HDP.out;have i2:decide (x<0)=false:=decide_eq_false hx0;have i3:(0:Int)≤x:=by omega
         have hem:x.tmod (Fin.det n c)=x % (Fin.det n c):=Int.tmod_eq_emod_of_nonneg i3;by_cases hdv:x % (Fin.det n c)=0
         ·have HK2:Hid (∀q,q<k+1→0≤zAK c (dfL b a) q∧(zAK c (dfL b a) q).tmod (Fin.det n c)=0):=zQe (fun q hq=>by
           rcases Nat.lt_or_ge q k with h9 | h9
           ·exact HK.out q h9
           ·have:q=k:=by omega
            subst this;rw [HX.out];exact ⟨i3,by rw [hem]; exact hdv⟩)
          have j1:(x % (Fin.det n c) != 0)=false:=by simp [hdv]
          have j2:(x.tmod (Fin.det n c) != 0)=false:=by rw [hem]; exact j1
          clear hdv hem;generalize hdd:Fin.det n c=d at *;have HDD:=zQe hdd;clear hdd;go_wp2_with fail
          refine zCp (by kernel_rfl) (by kernel_rfl) ?_
          repeat (go_big_quiet_step ((rename_i y; go_at_call 70; exact Calls.grow_of (v:=.int .i64 (Fin.det n c)) (v':=.int .i64 d) y (zE2 (hu9.below y.le) HSQ.out HSM.out hn4) (by rw [HDD.out]))))
          refine wpQuiet_nil ?_;intro w8 hb8;clear j1 j2;go_wp2_with fail
          go_roundw
          case rel=>exact ⟨k+1,by omega,by go_num,HK2,zAA.step hb9 hb8⟩
          case measure=>simp [intOf]; omega
         ·have e0:=zQe (HNO.out k hlt (.inr (by rw [HX.out,hem]; exact hdv)));have j1:(x % (Fin.det n c) != 0)=true:=by simp [hdv]
          have j2:(x.tmod (Fin.det n c) != 0)=true:=by rw [hem]; exact j1
          clear hdv hem;generalize hdd:Fin.det n c=d at *;have HDD:=zQe hdd;clear hdd;go_wp2_with fail
          refine zCp (by kernel_rfl) (by kernel_rfl) ?_
          repeat (go_big_quiet_step ((rename_i y; go_at_call 70; exact Calls.grow_of (v:=.int .i64 (Fin.det n c)) (v':=.int .i64 d) y (zE2 (hu9.below y.le) HSQ.out HSM.out hn4) (by rw [HDD.out]))))
          refine wpQuiet_nil ?_;intro w8 hb8;clear j1 j2;go_wp2_with fail
          go_ret
          exact ⟨zAB e0.out.symm,zAA.step b09 hb8⟩
       ·have hkn:k=n:=by omega
        have e0:Hid (res=true):=zQe (HYES.out (fun q hq=>HK.out q (by omega)));have i1:¬(k:Int)<(n:Int):=by omega
        clear hkn;go_wp2_with fail
        go_ret
        exact ⟨zAB e0.out.symm,b09⟩
end Go.Proofs.YtiohpndgemonjaaGreat
