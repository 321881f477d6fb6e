/- Weights as multiples of simple roots, by the reference. Condition: a Cartan matrix; numbers up to 2000. -/
import Derived.Test.YtallmimhfmaapaaGreatDoorCGStar
import Derived.Test.YtallmimhfmaapaaGreatDoorCDom
namespace Go.Proofs.YtallmimhfmaapaaGreatDoor
open Go.RowKit
set_option maxRecDepth 20000
set_option maxHeartbeats 8000000
theorem zPQ {S:Nat→Prop} {u:Value} {c:List (List Int)} {w:World} (h:RII S w u c) (hl:zAC c≤16777216) :
  Calls Tryz.prog 107 #[u] w fun e w'=>∃r,e=.returned r∧FII (New w w') w' r c∧Below w.heap.size w w':=by
 obtain ⟨a,cap,rfl⟩:=h.form;have hcl:c.length≤16777216:=by unfold zAC at hl; omega
 have HRW:Hid (∀r∈c,r.length≤16777216):=zTY (fun r hr=>by have:=zKX hr; omega);have HR:Hid (c.take c.length=c):=zTY (by simp);have HR0:Hid (c.take 0=[]):=zTY (by simp);generalize hn:c.length=n at *;have HN:=zTY hn;clear hn;go_enter Tryz.func107,Tryz.ntmps107
 go_wp2_with fail
 obtain ⟨w1,hw1⟩:∃w1,w1=w.alloc (.cells #[] 23):=⟨_,rfl⟩;obtain ⟨f1,b1⟩:=FII.empty_of (Below.refl _ w) hw1;rw [<-hw1];clear hw1;rw [<-HR0.out] at f1;go_loopw [3,4] (fun zz j wr=>∃(k:Nat) (z:Value),z=zz∧k≤n∧j=.int .i64 k∧FII (New w wr) wr z (c.take k)∧Below w.heap.size w wr) (fun _ j _=>n-(intOf j).toNat)
 case atStart=>exact ⟨0,_,rfl,Nat.zero_le _,rfl,f1,b1⟩
 case round =>
  obtain ⟨k,z,rfl,hk,rfl,hf,hb⟩:=hrel;by_cases hlt:k<n
  ·obtain ⟨b,o,r,l,rfl,hc,hr,hl1⟩:=(h.below hb).at hlt;obtain ⟨ar,cr,rfl⟩:=hr.form;have HST:Hid (c.take (k+1)=c.take k++[l]):=zTY (zAE hl1.out);have hll:=HRW.out l (zTa hl1.out);have HKL:Hid ((c.take k).length≤k):=zTY (by simp; omega);generalize c.take k=A at *;generalize hq:l.length=q at *;have i1:(k:Int)<(n:Int):=by omega
   obtain ⟨f2,b2⟩:=zAO (w:=wr) (Below.refl _ wr) rfl;have hc2:=(b2.cell (p:=⟨b,o+k,none⟩) (zTc wr _ hc)).trans hc;go_wp2_with (at_builtin; go_must (refine zAN (W:=wr) rfl _ _ rfl rfl f2 b2 rfl (hr.below b2) ?_ ?_))
   ·simp; omega
   ·intro v3 w3 f3 b3 _;obtain ⟨a3,c3,e3⟩:=f3.form;have e4:v3=.slice a3 q c3:=by rw [e3]; simp [hq]
    subst e4;clear e3;have bb:Below w3.heap.size w3 (w3.alloc (.cells #[.slice a3 q c3] 23)):=(Below.refl _ _).alloc (zTd _) _;have b13:=zAA.step b3 bb;have hcn:(w3.alloc (.cells #[.slice a3 q c3] 23)).cell? ⟨w3.heap.size,0,none⟩=some (.slice a3 q c3):=by go_simp
    have hf2:=hf.below b13;have hln:A.length+1≤67108864:=by have:=HKL.out; omega
    have f3':FI (Bt wr.heap.size (w3.alloc (.cells #[.slice a3 q c3] 23)).heap.size) (w3.alloc (.cells #[.slice a3 q c3] 23)) (.slice a3 q c3) l:=f3.grow bb;go_wp2_with (at_builtin; go_must (refine zLV (W:=w) (M:=wr.heap.size) rfl _ _ rfl rfl hf2 hb.size b13.size (zAA.step hb b13) rfl hcn f3' hln ?_))
    intro v5 w5 f5 b5 _;go_wp2_with fail
    go_roundw
    case rel=>exact ⟨k+1,_,rfl,by omega,by go_num,by rw [HST.out]; exact f5,b5⟩
    case measure=>simp [intOf]; omega
  ·have hkn:k=n:=by omega
   have i1:¬(k:Int)<(n:Int):=by omega
   rw [hkn,HR.out] at hf;clear hkn;go_wp2_with fail
   go_ret
   exact ⟨_,rfl,hf,hb⟩
def colM (c:List (List Int)) (i:Nat) (v:List Int):List (List Int):=List.zipWith (fun r x=>r.set i x) c v
def zCJ (c:List (List Int)) (i:Nat) (v:List Int) (k:Nat):List (List Int):=colM (c.take k) i v++c.drop k
def zAU (c:List (List Int)) (v:List Int) (i:Nat):Int:=Fin.det c.length (colM c i v)
def zBF (c:List (List Int)) (v:List Int):Nat→List Int
 | 0=>[]
 | k+1=>zBF c v k++[zAU c v k]
theorem zAm (c:List (List Int)) (v:List Int):∀k,(zBF c v k).length=k
 | 0=>rfl
 | k+1=>by simp [zBF,zAm c v k]
theorem zCa (c:List (List Int)) (v:List Int):∀(k j:Nat),j<k→(zBF c v k)[j]? = some (zAU c v j)
 | 0,j,h=>by omega
 | k+1,j,h=>by
  simp only [zBF];rcases Nat.lt_or_ge j k with h1 | h1
  ·rw [List.getElem?_append_left (by rw [zAm]; exact h1)];exact zCa c v k j h1
  ·have:j=k:=by omega
   subst this;rw [List.getElem?_append_right (by rw [zAm]; exact zTd _),zAm];simp
theorem zEg {α β γ:Type} (f:α→β→γ):∀(l:List α) (l':List β) (k:Nat),l'.length=l.length→(List.zipWith f (l.take k) l').length=min k l.length
 | l,l',k,h=>by simp; omega
theorem zNo (c:List (List Int)) (i:Nat) (v:List Int) (k:Nat) (h:v.length=c.length):(zCJ c i v k).length=c.length:=by
 unfold zCJ colM;rw [List.length_append,zEg _ _ _ _ h];simp; omega
theorem zPO {c:List (List Int)} {i:Nat} {v:List Int} {k:Nat} {r:List Int} (h:v.length=c.length) (hr:c[k]? = some r):(zCJ c i v k)[k]? = some r:=by
 have hk:k<c.length:=(zTb hr).1;unfold zCJ colM;rw [List.getElem?_append_right (by rw [zEg _ _ _ _ h]; omega),zEg _ _ _ _ h,List.getElem?_drop,show k+(k-min k c.length)=k by omega];exact hr
theorem zMn {c:List (List Int)} {i:Nat} {v:List Int} {k:Nat} {r:List Int} {x:Int} (h:v.length=c.length) (hr:c[k]? = some r) (hx:v[k]? = some x):(zCJ c i v k).set k (r.set i x)=zCJ c i v (k+1):=by
 have hk:k<c.length:=(zTb hr).1;refine List.ext_getElem? fun p=>?_;unfold zCJ colM;have z1:=zEg (fun (r:List Int) (x:Int)=>r.set i x) c v k h;have z2:=zEg (fun (r:List Int) (x:Int)=>r.set i x) c v (k+1) h;by_cases hp:p=k
 ·subst hp;rw [List.getElem?_set_self (by rw [List.length_append,z1]; simp; omega),List.getElem?_append_left (by rw [z2]; omega),List.getElem?_zipWith,List.getElem?_take_of_lt (by omega),hr,hx]
 ·rw [List.getElem?_set_ne (by omega)];rcases Nat.lt_or_ge p k with h1 | h1
  ·rw [List.getElem?_append_left (by rw [z1]; omega),List.getElem?_append_left (by rw [z2]; omega),List.getElem?_zipWith,List.getElem?_zipWith,List.getElem?_take_of_lt h1,List.getElem?_take_of_lt (by omega)]
  ·rw [List.getElem?_append_right (by rw [z1]; omega),List.getElem?_append_right (by rw [z2]; omega),z1,z2,List.getElem?_drop,List.getElem?_drop];congr 1;omega
theorem zQ8 (c:List (List Int)) (i:Nat) (v:List Int):zCJ c i v 0=c:=by simp [zCJ,colM]
theorem zQ9 {c:List (List Int)} {i:Nat} {v:List Int} {n:Nat} (hn:c.length=n):zCJ c i v n=colM c i v:=by
 unfold zCJ;rw [List.take_of_length_le (by omega),List.drop_of_length_le (by omega),List.append_nil]
theorem zJW {c:List (List Int)} {n:Nat} (h:Sq c n) (i:Nat) {v:List Int} (hv:v.length=n):Fin.Sqr (colM c i v) n:=by
 refine ⟨by simp [colM,h.len,hv],fun r hr=>?_⟩;unfold colM at hr;obtain ⟨k,hk,rfl⟩:=List.getElem_of_mem hr;simp only [List.getElem_zipWith,List.length_set];exact h.row k _ (zTZ _)
theorem zM3 {l:List Int} {i:Nat} {x y:Int} (h:y∈l.set i x):y=x∨y∈l:=by
 rcases List.mem_or_eq_of_mem_set h with h | h
 ·exact .inr h
 ·exact .inl h
theorem zDi {c:List (List Int)} (hc:CartanP c) (i:Nat) {v:List Int} (hv:∀x∈v,x.natAbs≤2000):Fin.Small 2000 (colM c i v):=by
 intro r hr x hx;unfold colM at hr;obtain ⟨k,hk,rfl⟩:=List.getElem_of_mem hr;simp only [List.getElem_zipWith] at hx;rcases zM3 hx with rfl | hx
 ·exact hv _ (List.getElem_mem _)
 ·have hk':k<c.length:=by simp at hk; omega
  obtain ⟨j,hj,rfl⟩:=List.getElem_of_mem hx;have:=zEC hc k j;have e:ent c k j=c[k][j]:=by simp [ent,hk',hj]
  rw [e] at this;omega
theorem zG5 {S S':Nat→Prop} {u v:Value} {c:List (List Int)} {l:List Int} {w:World} (h:RII S w u c) (h':RI S' w v l) (hc:CartanP c) (hl:zAC c≤16777216) (hln:l.length=c.length) (hv:∀x∈l,x.natAbs≤2000) :
  Calls Tryz.prog 67 #[u,v] w fun e w'=>∃r,e=.returned r∧FI (New w w') w' r (zBF c l c.length)∧Below w.heap.size w w':=by
 obtain ⟨a,cap,rfl⟩:=h.form;obtain ⟨a',cap',rfl⟩:=h'.form;have hn4:=hc.le;have HC:=zTY hc;have HS:=zTY hc.sq;have HV:=zTY hv;have HLL:=zTY hln;rw [hln] at h' ⊢;clear hc hv hln;have HN:Hid (∀i,Fin.det c.length (colM c i l)=zAU c l i):=zTY (fun _=>rfl);generalize hn:c.length=n at *;have HNN:=zTY hn;clear hn;go_enter Tryz.func67,Tryz.ntmps67
 go_wp2_with fail
 obtain ⟨w1,hw1⟩:∃w1,w1=w.alloc (.cells #[] 3):=⟨_,rfl⟩;obtain ⟨f1,b1⟩:=zAO (Below.refl _ w) hw1;rw [<-hw1];clear hw1;go_loopw [5,6] (fun zz j wr=>∃(k:Nat) (z:Value),z=zz∧k≤n∧j=.int .i64 k∧FI (New w wr) wr z (zBF c l k)∧Below w.heap.size w wr) (fun _ j _=>n-(intOf j).toNat)
 case atStart=>exact ⟨0,_,rfl,Nat.zero_le _,rfl,f1,b1⟩
 case round =>
  obtain ⟨i,z,rfl,hi,rfl,hf,hb⟩:=hrel;have hal:=zAm c l i;have HAL:=zTY hal;clear hal;by_cases hlt:i<n
  ·have HST:Hid (zBF c l (i+1)=zBF c l i++[zAU c l i]):=zTY rfl;generalize zBF c l i=A at *;have i1:(i:Int)<(n:Int):=by omega
   go_wp2_with fail
   refine (zPQ (h.below hb) hl).mono ?_;rintro e w2 ⟨r2,rfl,f2,b2⟩;have b02:=zAA.step hb b2;obtain ⟨g,cap2,rfl,hg⟩:=FC.head f2 (by rw [HNN.out]; omega);rw [HNN.out];have hf2:FII (New wr w2) w2 (.slice (some ⟨g,0,none⟩) n cap2) (zCJ c i l 0):=by
    rw [zQ8];have f3:=f2;rw [HNN.out] at f3;exact f3
   clear f2;go_wp2_with fail
   generalize wr=wO at *;go_loopw [8] (fun j wr=>∃(k:Nat),k≤n∧j=.int .i64 k∧FII (New wO w2) wr (.slice (some ⟨g,0,none⟩) n cap2) (zCJ c i l k)∧Only (New wO w2) w2 wr) (fun j _=>n-(intOf j).toNat)
   case atStart=>exact ⟨0,Nat.zero_le _,rfl,hf2,Only.refl _ _⟩
   case round =>
    obtain ⟨k,hk,rfl,hfm,ho⟩:=hrel;have hb02:Below w.heap.size w wr:=b02.trans (ho.below (B:=w.heap.size) (fun b hb'=>Nat.le_trans hb.size hb'.1));by_cases hltk:k<n
    ·obtain ⟨b,o,x,e9,hcx,hx⟩:=(h'.below hb02).at hltk;subst e9;obtain ⟨r,hr⟩:∃r,c[k]? = some r:=⟨_,zTZ (by rw [HNN.out]; exact hltk)⟩;have hrl:=HS.out.row k r hr;obtain ⟨gr,cr,hcg,hfr,⟨y,hcy⟩,hSg,hst⟩:=hfm.store (by rw [zNo c i l k (HLL.out.trans HNN.out.symm)]; exact HNN.out) (zPO (HLL.out.trans HNN.out.symm) hr) (i:=i) (by rw [hrl]; exact hlt);rw [hrl] at hcg;have hst2:=hst x;rw [zMn (HLL.out.trans HNN.out.symm) hr hx.out] at hst2;have HST2:=zTY hst2;clear hst hst2 hr hrl;have i2:(k:Int)<(n:Int):=by omega
     go_wp2_with fail
     go_region
     go_wp2_with fail
     go_roundw
     case rel=>exact ⟨k+1,by omega,by go_num,FC.keep HST2.out (fun _ _ _=>rfl),(ho.setCell hSg _).drew⟩
     case measure=>simp [intOf]; omega
    ·have hkn:k=n:=by omega
     have i2:¬(k:Int)<(n:Int):=by omega
     rw [hkn,zQ9 HNN.out] at hfm;clear hkn;have hz:=(hf.below b2).only ho (fun b hb1 hb2=>by have a1:=hb1.2; have a2:=hb2.1; omega);have hz2:FI (New w wr) wr z A:=hz.mono (fun b hb'=>⟨hb'.1,by rw [ho.size]; exact Nat.lt_of_lt_of_le hb'.2 b2.size⟩);have HCO:=zTY (HN.out i);go_wp2_with fail
     refine (zHs (FII.read hfm) (zJW HS.out i HLL.out) (zDi HC.out i HV.out) (by omega)).mono ?_;rintro e w5 ⟨rfl,b5⟩;rw [HCO.out];have b05:=zAA.step hb02 b5;generalize zAU c l i=D at *;have bb:Below w5.heap.size w5 (w5.alloc (.cells #[.int .i64 D] 3)):=(Below.refl _ _).alloc (zTd _) _;go_wp2_with (at_builtin; go_must (refine zAN (W:=w) rfl _ _ rfl rfl ((hz2.grow b5).grow bb) (zAA.step b05 bb) rfl (RI.one _ D) ?_ ?_))
     ·have:=HAL.out; simp; omega
     ·intro v7 w7 f7 b7 _;go_wp2_with fail
      go_roundw
      case rel=>exact ⟨i+1,_,rfl,by omega,by go_num,by rw [HST.out]; exact f7,b7⟩
      case measure=>simp [intOf]; omega
  ·have hin:i=n:=by omega
   have i1:¬(i:Int)<(n:Int):=by omega
   rw [hin] at hf;clear hin;go_wp2_with fail
   go_ret
   exact ⟨_,rfl,hf,hb⟩
theorem zNn {c:List (List Int)} {i:Nat} {v:List Int} {k:Nat} {r:List Int} {x:Int} (hr:c[k]? = some r) (hx:v[k]? = some x):List.zipWith (fun (r:List Int) (x:Int)=>r.set i x) (c.take (k+1)) (v.take (k+1))=List.zipWith (fun (r:List Int) (x:Int)=>r.set i x) (c.take k) (v.take k)++[r.set i x]:=by
 rw [zAE hr,zAE hx,List.zipWith_append]
 ·rfl
 ·have h1:k<c.length:=(zTb hr).1;have h2:k<v.length:=(zTb hx).1;simp; omega
def quos (c:List (List Int)) (v:List Int) (d:Int) (k:Nat):List Int:=(zBF c v k).map fun x=>x.tdiv d
theorem zE4 (c:List (List Int)) (v:List Int) (d:Int) (k:Nat):(quos c v d k).length=k:=by simp [quos,zAm]
theorem zOe (c:List (List Int)) (v:List Int) (d:Int) (k:Nat):quos c v d (k+1)=quos c v d k++[(zAU c v k).tdiv d]:=by simp [quos,zBF]
def zSj (c:List (List Int)) (l:List Int) (d:Int) (n:Nat) (w:World) (e:Ending) (w':World):Prop :=
 (∃r,e=.returned (.tuple #[r,.bool true])∧FI (New w w') w' r (quos c l d n)∧(∀k,k<n→(zAU c l k).tmod d=0)∧Below w.heap.size w w') ∨
 (e=.returned (.tuple #[.slice none 0 0,.bool false])∧(∃k,k<n∧(zAU c l k).tmod d≠0)∧Below w.heap.size w w')
theorem zMd {S S':Nat→Prop} {u v:Value} {c:List (List Int)} {l:List Int} {w:World} (h:RII S w u c) (h':RI S' w v l) (hc:CartanP c) (hl:zAC c≤16777216) (hln:l.length=c.length) (hv:∀x∈l,x.natAbs≤2000) (hd:0<Fin.det c.length c) :
  Calls Tryz.prog 82 #[u,v] w (zSj c l (Fin.det c.length c) c.length w):=by
 obtain ⟨a,cap,rfl⟩:=h.form;obtain ⟨a',cap',rfl⟩:=h'.form;have hn4:=hc.le;have HC:=zTY hc;have HS:=zTY hc.sq;have HV:=zTY hv;have HLL:=zTY hln;have HSM:Hid (Fin.Small 2000 c):=zTY (fun r hr x hx=>by
  obtain ⟨i,hi,rfl⟩:=List.getElem_of_mem hr;obtain ⟨j,hj,rfl⟩:=List.getElem_of_mem hx;have:=zEC hc i j;have e:ent c i j=c[i][j]:=by simp [ent,hi,hj]
  rw [e] at this; omega)
 have HSQ:Hid (Fin.Sqr c c.length):=zTY ⟨rfl,hc.row⟩;have hdb:=Fin.det_abs (B:=2000) c.length HSM.out;rw [hln] at h' ⊢;clear hc hv hln;have HN:Hid (∀i,Fin.det c.length (colM c i l)=zAU c l i):=zTY (fun _=>rfl);have HB:Hid (∀i,(zAU c l i).natAbs≤Fin.dB 2000 c.length):=zTY (fun i=>Fin.det_abs c.length (zDi HC.out i HV.out));have HDB:Hid (Fin.dB 2000 c.length≤384000000000000):=zTY (by
  have:∀n,n≤4→Fin.dB 2000 n≤384000000000000:=by
   intro n hn
   match n,hn with
   | 0,_=>decide
   | 1,_=>decide
   | 2,_=>decide
   | 3,_=>decide
   | 4,_=>decide
  exact this _ hn4)
 generalize hn:c.length=n at *;have HNN:=zTY hn;clear hn;have hdb2:=HDB.out;generalize hdd:Fin.det n c=d at *;have HDD:=zTY hdd;clear hdd;have hd1:1≤d∧d≤384000000000000:=by omega
 clear hdb hdb2;go_enter Tryz.func82,Tryz.ntmps82
 go_wp2_with fail
 refine (zHr h HSQ.out HSM.out hn4).mono ?_;rintro e w0 ⟨rfl,b0⟩;obtain ⟨w1,hw1⟩:∃w1,w1=w0.alloc (.cells #[] 3):=⟨_,rfl⟩;obtain ⟨f1,b1⟩:=zAO b0 hw1;have HQ0:Hid (quos c l d 0=[]):=zTY rfl;rw [HDD.out];go_wp2_with fail
 rw [<-hw1];clear hw1;rw [<-HQ0.out] at f1;go_loopw [7,19] (fun zz j wr=>∃(k:Nat) (z:Value),z=zz∧k≤n∧j=.int .i64 k∧FI (New w wr) wr z (quos c l d k)∧Hid (∀q,q<k→(zAU c l q).tmod d=0)∧Below w.heap.size w wr) (fun _ j _=>n-(intOf j).toNat)
 case atStart=>exact ⟨0,_,rfl,Nat.zero_le _,rfl,f1,zTY (fun q hq=>by omega),b1⟩
 case round =>
  obtain ⟨i,z,rfl,hi,rfl,hf,HK,hb⟩:=hrel;have HAL:=zTY (zE4 c l d i);by_cases hlt:i<n
  ·have HST:=zTY (zOe c l d i);generalize quos c l d i=A at *;have i1:(i:Int)<(n:Int):=by omega
   obtain ⟨M,hM⟩:∃M:Nat→List (List Int),∀k,M k=List.zipWith (fun (r:List Int) (x:Int)=>r.set i x) (c.take k) (l.take k):=⟨_,fun _=>rfl⟩;have HM0:Hid (M 0=[]):=zTY (by rw [hM]; simp);have HMn:Hid (M n=colM c i l):=zTY (by rw [hM,List.take_of_length_le (by rw [HNN.out]; exact zTd _),List.take_of_length_le (by rw [HLL.out]; exact zTd _)]; rfl);have HMS:Hid (∀k r x,c[k]? = some r→l[k]? = some x→M (k+1)=M k++[r.set i x]):=zTY (fun k r x hr hx=>by rw [hM,hM]; exact zNn hr hx);have HML:Hid (∀k,(M k).length≤k):=zTY (fun k=>by rw [hM]; simp; omega);clear hM;go_wp2_with fail
   obtain ⟨w2,hw2⟩:∃w2,w2=wr.alloc (.cells #[] 23):=⟨_,rfl⟩;obtain ⟨f2,b2⟩:=FR.empty_of (Below.refl _ wr) hw2;rw [<-hw2];clear hw2;rw [<-HM0.out] at f2;generalize wr=wO at *;go_loopw [9,25] (fun mm j wr=>∃(k:Nat) (m:Value),m=mm∧k≤n∧j=.int .i64 k∧FR (New wO wr) wr m (M k)∧Below wO.heap.size wO wr) (fun _ j _=>n-(intOf j).toNat)
   case atStart=>exact ⟨0,_,rfl,Nat.zero_le _,rfl,f2,b2⟩
   case round =>
    obtain ⟨k,m,rfl,hk,rfl,hfm,hbm⟩:=hrel;have hml:=HML.out k;have hb0:=zAA.step hb hbm;by_cases hltk:k<n
    ·obtain ⟨b,o,r,rl,e8,hcr,hr,hrl⟩:=(h.below hb0).at hltk;subst e8;obtain ⟨ar,cr,rfl⟩:=hr.form;have hrn:=HS.out.row k rl hrl.out;rw [hrn] at hr hcr;obtain ⟨b',o',x,e9,hcx,hx⟩:=(h'.below hb0).at hltk;subst e9;have HST2:=zTY (HMS.out k rl x hrl.out hx.out);generalize M k=Mk at *;have i2:(k:Int)<(n:Int):=by omega
     have HRN:=zTY hrn;clear hrn hrl hx;go_wp2_with fail
     refine (zEA hr (by rw [HRN.out]; omega)).mono ?_;rintro e w4 ⟨r4,rfl,f4,b4⟩;obtain ⟨a4,c4,e4⟩:=f4.form;rw [HRN.out] at e4;subst e4;obtain ⟨g,rfl,hg,_⟩:=f4.head (by omega);obtain ⟨y,hy⟩:∃y,rl[i]? = some y:=⟨_,zTZ (by rw [HRN.out]; exact hlt)⟩;have hcy:=f4.cell hy hlt;have hfr:=f4.froz HRN.out i;have hst:=zTY (f4.put HRN.out i x);have hcx4:=(b4.cell (p:=⟨b',o'+k,none⟩) (zTc wr _ hcx)).trans hcx;have bset:Below wr.heap.size wr (w4.setCell ⟨g,i,none⟩ (.int .i64 x)):=b4.setCell hg.1 _;obtain ⟨w5,hw5⟩:∃w5,w5=w4.setCell ⟨g,i,none⟩ (.int .i64 x):=⟨_,rfl⟩;clear hy;have f5:FI (New wr w4) w5 (.slice (some ⟨g,0,none⟩) n c4) (rl.set i x):=by rw [hw5]; exact hst.out
     have hs5:w5.heap.size=w4.heap.size:=by rw [hw5]; exact zAJ _ _ _
     have b5:Below wr.heap.size wr w5:=by rw [hw5]; exact bset
     have bb:Below w5.heap.size w5 (w5.alloc (.cells #[.slice (some ⟨g,0,none⟩) n c4] 23)):=(Below.refl _ _).alloc (zTd _) _;have b15:=zAA.step b5 bb;have hcn:(w5.alloc (.cells #[.slice (some ⟨g,0,none⟩) n c4] 23)).cell? ⟨w5.heap.size,0,none⟩=some (.slice (some ⟨g,0,none⟩) n c4):=by go_simp
     have hy5:RI (New wO (w5.alloc (.cells #[.slice (some ⟨g,0,none⟩) n c4] 23))) (w5.alloc (.cells #[.slice (some ⟨g,0,none⟩) n c4] 23)) (.slice (some ⟨g,0,none⟩) n c4) (rl.set i x) :=
      ((f5.below bb).reads).mono (fun b hb'=>⟨Nat.le_trans hbm.size hb'.1,Nat.lt_of_lt_of_le (by rw [hs5]; exact hb'.2) bb.size⟩)
     have hln:Mk.length+1≤67108864:=by omega
     rw [hs5] at hcn;rw [hw5] at hcn hy5 b15;have hfm5:=hfm.grow b15;have hbm5:=zAA.step hbm b15;clear hst;go_wp2_with (at_builtin; go_must (refine zBS (W:=wO) rfl _ _ rfl rfl hfm5 hbm5 rfl hcn hy5 hln ?_))
     intro v7 w7 f7 b7 _;go_wp2_with fail
     go_roundw
     case rel=>exact ⟨k+1,_,rfl,by omega,by go_num,by rw [HST2.out]; exact f7,b7⟩
     case measure=>simp [intOf]; omega
    ·have hkn:k=n:=by omega
     have i2:¬(k:Int)<(n:Int):=by omega
     rw [hkn,HMn.out] at hfm;clear hkn;have HCO:=zTY (HN.out i);have hbd:=HB.out i;have hbd2:=HDB.out;have hz:=hf.grow hbm;go_wp2_with fail
     refine (zHr hfm.reads (zJW HS.out i HLL.out) (zDi HC.out i HV.out) hn4).mono ?_;rintro e w5 ⟨rfl,b5⟩;rw [HCO.out];have b05:=zAA.step hb0 b5;have hz5:=hz.grow b5;by_cases hdv:(zAU c l i).tmod d=0
     ·have HK2:Hid (∀q,q<i+1→(zAU c l q).tmod d=0):=zTY (fun q hq=>by
       rcases Nat.lt_or_ge q i with h9 | h9
       ·exact HK.out q h9
       ·have:q=i:=by omega
        subst this; exact hdv)
      have j1:((zAU c l i).tmod d != 0)=false:=by simp [hdv]
      have j2:-384000000000000≤(zAU c l i).tdiv d∧(zAU c l i).tdiv d≤384000000000000:=by
       have:=Int.natAbs_tdiv_le_natAbs (zAU c l i) d;omega
      have j3:-384000000000000≤zAU c l i∧zAU c l i≤384000000000000:=by omega
      clear hdv hbd hbd2;generalize zAU c l i=D at *;have bb:Below w5.heap.size w5 (w5.alloc (.cells #[.int .i64 (D.tdiv d)] 3)):=(Below.refl _ _).alloc (zTd _) _;go_wp2_with (at_builtin; go_must (refine zAN (W:=w) rfl _ _ rfl rfl (hz5.grow bb) (zAA.step b05 bb) rfl (RI.one _ (D.tdiv d)) ?_ ?_))
      ·have:=HAL.out; simp; omega
      ·intro v7 w7 f7 b7 _;go_wp2_with fail
       go_roundw
       case rel=>exact ⟨i+1,_,rfl,by omega,by go_num,by rw [HST.out]; exact f7,HK2,b7⟩
       case measure=>simp [intOf]; omega
     ·have j1:((zAU c l i).tmod d != 0)=true:=by simp [hdv]
      have j3:-384000000000000≤zAU c l i∧zAU c l i≤384000000000000:=by omega
      have HDV:=zTY hdv;clear hdv hbd hbd2;generalize hDq:zAU c l i=D at *;have HDq:=zTY hDq;clear hDq;go_wp2_with fail
      go_ret2
      exact .inr ⟨rfl,⟨i,hlt,by rw [HDq.out]; exact HDV.out⟩,b05⟩
  ·have hin:i=n:=by omega
   have i1:¬(i:Int)<(n:Int):=by omega
   have HK3:Hid (∀q,q<n→(zAU c l q).tmod d=0):=zTY (by rw [<-hin]; exact HK.out);rw [hin] at hf;clear hin HAL;go_wp2_with fail
   go_ret2
   exact .inl ⟨_,rfl,hf,HK3.out,hb⟩
def dfL (b a:List Int):List Int:=List.zipWith (fun y x=>y-x) b a
theorem zPW {b a:List Int} {k:Nat} {y x:Int} (hy:b[k]? = some y) (hx:a[k]? = some x):List.zipWith (fun y x=>y-x) (b.take (k+1)) (a.take (k+1))=List.zipWith (fun y x=>y-x) (b.take k) (a.take k)++[y-x]:=by
 rw [zAE hy,zAE hx,List.zipWith_append]
 ·rfl
 ·have h1:k<b.length:=(zTb hy).1;have h2:k<a.length:=(zTb hx).1;simp; omega
def allW (c:List (List Int)) (v:List Int):Nat→Bool
 | 0=>true
 | k+1=>allW c v k && (decide (0≤zAU c v k) && decide ((zAU c v k).tmod (Fin.det c.length c)=0))
theorem zDx {c:List (List Int)} {v:List Int}:∀{n:Nat},allW c v n=true↔∀k,k<n→0≤zAU c v k∧(zAU c v k).tmod (Fin.det c.length c)=0
 | 0=>by simp [allW]
 | n+1=>by
  simp only [allW,Bool.and_eq_true,decide_eq_true_eq];rw [zDx (n:=n)];constructor
  ·rintro ⟨h1,h2⟩ k hk;rcases Nat.lt_or_ge k n with h | h
   ·exact h1 k h
   ·have:k=n:=by omega
    subst this; exact h2
  ·exact fun h=>⟨fun k hk=>h k (by omega),h n (by omega)⟩
theorem zPK:∀n,n<5→Fin.bits n (2 ^ n-1)=List.range n:=by decide
theorem zEX {c:List (List Int)} (h:FinP c):0<Fin.det c.length c:=by
 have hc:=h.cart;have h1:=Fin.posUp_iff.1 h.pos (2 ^ c.length-1) (by
  have:2 ^ 1≤2 ^ c.length:=Nat.pow_le_pow_right (by omega) hc.pos;omega) (zTd _)
 unfold Fin.minor at h1;rw [zPK _ (by have:=hc.le; omega)] at h1;have e:Fin.sub c (List.range c.length)=c:=Fin.tab_en ⟨rfl,hc.row⟩;rw [e] at h1;simpa using h1
theorem zNx {c:List (List Int)} {a b:List Int} (ha:isW c a=true) (hb:isW c b=true):(dfL b a).length=c.length∧∀x∈dfL b a,x.natAbs≤2000:=by
 obtain ⟨_,h1,h2⟩:=zCy ha;obtain ⟨_,h3,h4⟩:=zCy hb;refine ⟨by simp [dfL,h1,h3],fun x hx=>?_⟩;obtain ⟨k,hk,rfl⟩:=List.getElem_of_mem hx;have ka:k<a.length:=by simp [dfL] at hk; omega
 have kb:k<b.length:=by simp [dfL] at hk; omega
 have e:(dfL b a)[k]=b[k]-a[k]:=List.getElem_zipWith;have e1:=h2 _ (List.getElem_mem ka);have e2:=h4 _ (List.getElem_mem kb);omega
theorem zHt:∀{l:List Int},dom l=true↔∀x∈l,0≤x
 | []=>by simp [dom]
 | x::l=>by
  unfold dom;by_cases h:x<0
  ·simp [h]; intro h2; omega
  ·simp [h,zHt (l:=l)]; omega
theorem zJw {c:List (List Int)} {v:List Int} {d:Int} {n:Nat} {x:Int}:x∈quos c v d n↔∃k,k<n∧x=(zAU c v k).tdiv d:=by
 unfold quos;constructor
 ·intro h;obtain ⟨y,hy,rfl⟩:=List.mem_map.1 h;obtain ⟨k,hk,rfl⟩:=List.getElem_of_mem hy;rw [zAm] at hk;refine ⟨k,hk,?_⟩;have:=zCa c v n k hk;rw [zTZ (by rw [zAm]; exact hk)] at this
  injection this with this
  rw [this]
 ·rintro ⟨k,hk,rfl⟩;exact List.mem_map.2 ⟨_,zTa (zCa c v n k hk),rfl⟩
theorem tdiv_nonneg {x d:Int} (hd:0<d) (h:x.tmod d=0):0≤x.tdiv d↔0≤x:=by
 have e:=Int.mul_tdiv_add_tmod x d;rw [h,Int.add_zero] at e;constructor
 ·intro h2;rw [<-e];exact Int.mul_nonneg (Int.le_of_lt hd) h2
 ·intro h2;by_cases h3:x.tdiv d<0
  ·have:=Int.mul_neg_of_pos_of_neg hd h3;omega
  ·omega
theorem zMe {c:List (List Int)} {v:List Int} (hd:0<Fin.det c.length c) (h:∀k,k<c.length→(zAU c v k).tmod (Fin.det c.length c)=0):dom (quos c v (Fin.det c.length c) c.length)=allW c v c.length:=by
 rw [Bool.eq_iff_iff,zHt,zDx];constructor
 ·intro h2 k hk;exact ⟨(tdiv_nonneg hd (h k hk)).1 (h2 _ (zJw.2 ⟨k,hk,rfl⟩)),h k hk⟩
 ·intro h2 x hx;obtain ⟨k,hk,rfl⟩:=zJw.1 hx;exact (tdiv_nonneg hd (h k hk)).2 (h2 k hk).1
end Go.Proofs.YtallmimhfmaapaaGreatDoor
