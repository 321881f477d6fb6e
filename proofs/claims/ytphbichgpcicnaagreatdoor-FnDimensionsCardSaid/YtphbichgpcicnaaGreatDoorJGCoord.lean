/- Weights as multiples of simple roots, by the reference. Condition: a Cartan matrix; numbers up to 2000. -/
import Derived.Test.YtphbichgpcicnaaGreatDoorJGStar
import Derived.Test.YtphbichgpcicnaaGreatDoorJGDom
namespace Go.Proofs.YtphbichgpcicnaaGreatDoor
open Go.RowKit
set_option maxRecDepth 20000
set_option maxHeartbeats 8000000
def colM (c:List (List Int)) (i:Nat) (v:List Int):List (List Int):=List.zipWith (fun r x=>r.set i x) c v
def zAY (c:List (List Int)) (v:List Int) (i:Nat):Int:=Fin.det c.length (colM c i v)
def zD8 (c:List (List Int)) (v:List Int):Nat→List Int
 | 0=>[]
 | k+1=>zD8 c v k++[zAY c v k]
theorem zBW (c:List (List Int)) (v:List Int):∀k,(zD8 c v k).length=k
 | 0=>rfl
 | k+1=>by simp [zD8,zBW c v k]
theorem zDK (c:List (List Int)) (v:List Int):∀(k j:Nat),j<k→(zD8 c v k)[j]? = some (zAY c v j)
 | 0,j,h=>by omega
 | k+1,j,h=>by
  simp only [zD8];rcases Nat.lt_or_ge j k with h1 | h1
  ·rw [List.getElem?_append_left (by rw [zBW]; exact h1)];exact zDK c v k j h1
  ·have:j=k:=by omega
   subst this;rw [List.getElem?_append_right (by rw [zBW]; exact zWK _),zBW];simp
theorem zRE {c:List (List Int)} {n:Nat} (h:Sq c n) (i:Nat) {v:List Int} (hv:v.length=n):Fin.Sqr (colM c i v) n:=by
 refine ⟨by simp [colM,h.len,hv],fun r hr=>?_⟩;unfold colM at hr;obtain ⟨k,hk,rfl⟩:=List.getElem_of_mem hr;simp only [List.getElem_zipWith,List.length_set];exact h.row k _ (zWG _)
theorem zNr {l:List Int} {i:Nat} {x y:Int} (h:y∈l.set i x):y=x∨y∈l:=by
 rcases List.mem_or_eq_of_mem_set h with h | h
 ·exact .inr h
 ·exact .inl h
theorem zHl {c:List (List Int)} (hc:CartanP c) (i:Nat) {v:List Int} (hv:∀x∈v,x.natAbs≤2000):Fin.Small 2000 (colM c i v):=by
 intro r hr x hx;unfold colM at hr;obtain ⟨k,hk,rfl⟩:=List.getElem_of_mem hr;simp only [List.getElem_zipWith] at hx;rcases zNr hx with rfl | hx
 ·exact hv _ (List.getElem_mem _)
 ·have hk':k<c.length:=by simp at hk; omega
  obtain ⟨j,hj,rfl⟩:=List.getElem_of_mem hx;have:=zFu hc k j;have e:ent c k j=c[k][j]:=by simp [ent,hk',hj]
  rw [e] at this;omega
theorem zOd {c:List (List Int)} {i:Nat} {v:List Int} {k:Nat} {r:List Int} {x:Int} (hr:c[k]? = some r) (hx:v[k]? = some x):List.zipWith (fun (r:List Int) (x:Int)=>r.set i x) (c.take (k+1)) (v.take (k+1))=List.zipWith (fun (r:List Int) (x:Int)=>r.set i x) (c.take k) (v.take k)++[r.set i x]:=by
 rw [zAG hr,zAG hx,List.zipWith_append]
 ·rfl
 ·have h1:k<c.length:=(zWI hr).1;have h2:k<v.length:=(zWI hx).1;simp; omega
def quos (c:List (List Int)) (v:List Int) (d:Int) (k:Nat):List Int:=(zD8 c v k).map fun x=>x.tdiv d
theorem zHW (c:List (List Int)) (v:List Int) (d:Int) (k:Nat):(quos c v d k).length=k:=by simp [quos,zBW]
theorem zPf (c:List (List Int)) (v:List Int) (d:Int) (k:Nat):quos c v d (k+1)=quos c v d k++[(zAY c v k).tdiv d]:=by simp [quos,zD8]
def zU1 (c:List (List Int)) (l:List Int) (d:Int) (n:Nat) (w:World) (e:Ending) (w':World):Prop :=
 (∃r,e=.returned (.tuple #[r,.bool true])∧FI (New w w') w' r (quos c l d n)∧(∀k,k<n→(zAY c l k).tmod d=0)∧Below w.heap.size w w') ∨
 (e=.returned (.tuple #[.slice none 0 0,.bool false])∧(∃k,k<n∧(zAY c l k).tmod d≠0)∧Below w.heap.size w w')
theorem zNH {S S':Nat→Prop} {u v:Value} {c:List (List Int)} {l:List Int} {w:World} (h:RII S w u c) (h':RI S' w v l) (hc:CartanP c) (hl:total c≤16777216) (hln:l.length=c.length) (hv:∀x∈l,x.natAbs≤2000) (hd:0<Fin.det c.length c) :
  Calls Tryz.prog 135 #[u,v] w (zU1 c l (Fin.det c.length c) c.length w):=by
 obtain ⟨a,cap,rfl⟩:=h.form;obtain ⟨a',cap',rfl⟩:=h'.form;have hn4:=hc.le;have HC:=zWF hc;have HS:=zWF hc.sq;have HV:=zWF hv;have HLL:=zWF hln;have HSM:Hid (Fin.Small 2000 c):=zWF (fun r hr x hx=>by
  obtain ⟨i,hi,rfl⟩:=List.getElem_of_mem hr;obtain ⟨j,hj,rfl⟩:=List.getElem_of_mem hx;have:=zFu hc i j;have e:ent c i j=c[i][j]:=by simp [ent,hi,hj]
  rw [e] at this; omega)
 have HSQ:Hid (Fin.Sqr c c.length):=zWF ⟨rfl,hc.row⟩;have hdb:=Fin.det_abs (B:=2000) c.length HSM.out;rw [hln] at h' ⊢;clear hc hv hln;have HN:Hid (∀i,Fin.det c.length (colM c i l)=zAY c l i):=zWF (fun _=>rfl);have HB:Hid (∀i,(zAY c l i).natAbs≤Fin.dB 2000 c.length):=zWF (fun i=>Fin.det_abs c.length (zHl HC.out i HV.out));have HDB:Hid (Fin.dB 2000 c.length≤384000000000000):=zWF (by
  have:∀n,n≤4→Fin.dB 2000 n≤384000000000000:=by
   intro n hn
   match n,hn with
   | 0,_=>decide
   | 1,_=>decide
   | 2,_=>decide
   | 3,_=>decide
   | 4,_=>decide
  exact this _ hn4)
 generalize hn:c.length=n at *;have HNN:=zWF hn;clear hn;have hdb2:=HDB.out;generalize hdd:Fin.det n c=d at *;have HDD:=zWF hdd;clear hdd;have hd1:1≤d∧d≤384000000000000:=by omega
 clear hdb hdb2;go_enter Tryz.func135,Tryz.ntmps135
 go_wp2_with fail
 refine (zIW h HSQ.out HSM.out hn4).mono ?_;rintro e w0 ⟨rfl,b0⟩;obtain ⟨w1,hw1⟩:∃w1,w1=w0.alloc (.cells #[] 3):=⟨_,rfl⟩;obtain ⟨f1,b1⟩:=zAR b0 hw1;have HQ0:Hid (quos c l d 0=[]):=zWF rfl;rw [HDD.out];go_wp2_with fail
 rw [<-hw1];clear hw1;rw [<-HQ0.out] at f1;go_loopw [7,19] (fun zz j wr=>∃(k:Nat) (z:Value),z=zz∧k≤n∧j=.int .i64 k∧FI (New w wr) wr z (quos c l d k)∧Hid (∀q,q<k→(zAY c l q).tmod d=0)∧Below w.heap.size w wr) (fun _ j _=>n-(intOf j).toNat)
 case atStart=>exact ⟨0,_,rfl,Nat.zero_le _,rfl,f1,zWF (fun q hq=>by omega),b1⟩
 case round =>
  obtain ⟨i,z,rfl,hi,rfl,hf,HK,hb⟩:=hrel;have HAL:=zWF (zHW c l d i);by_cases hlt:i<n
  ·have HST:=zWF (zPf c l d i);generalize quos c l d i=A at *;have i1:(i:Int)<(n:Int):=by omega
   obtain ⟨M,hM⟩:∃M:Nat→List (List Int),∀k,M k=List.zipWith (fun (r:List Int) (x:Int)=>r.set i x) (c.take k) (l.take k):=⟨_,fun _=>rfl⟩;have HM0:Hid (M 0=[]):=zWF (by rw [hM]; simp);have HMn:Hid (M n=colM c i l):=zWF (by rw [hM,List.take_of_length_le (by rw [HNN.out]; exact zWK _),List.take_of_length_le (by rw [HLL.out]; exact zWK _)]; rfl);have HMS:Hid (∀k r x,c[k]? = some r→l[k]? = some x→M (k+1)=M k++[r.set i x]):=zWF (fun k r x hr hx=>by rw [hM,hM]; exact zOd hr hx);have HML:Hid (∀k,(M k).length≤k):=zWF (fun k=>by rw [hM]; simp; omega);clear hM;go_wp2_with fail
   obtain ⟨w2,hw2⟩:∃w2,w2=wr.alloc (.cells #[] 28):=⟨_,rfl⟩;obtain ⟨f2,b2⟩:=FR.empty_of (Below.refl _ wr) hw2;rw [<-hw2];clear hw2;rw [<-HM0.out] at f2;generalize wr=wO at *;go_loopw [9,25] (fun mm j wr=>∃(k:Nat) (m:Value),m=mm∧k≤n∧j=.int .i64 k∧FR (New wO wr) wr m (M k)∧Below wO.heap.size wO wr) (fun _ j _=>n-(intOf j).toNat)
   case atStart=>exact ⟨0,_,rfl,Nat.zero_le _,rfl,f2,b2⟩
   case round =>
    obtain ⟨k,m,rfl,hk,rfl,hfm,hbm⟩:=hrel;have hml:=HML.out k;have hb0:=zAA.step hb hbm;by_cases hltk:k<n
    ·obtain ⟨b,o,r,rl,e8,hcr,hr,hrl⟩:=(h.below hb0).at hltk;subst e8;obtain ⟨ar,cr,rfl⟩:=hr.form;have hrn:=HS.out.row k rl hrl.out;rw [hrn] at hr hcr;obtain ⟨b',o',x,e9,hcx,hx⟩:=(h'.below hb0).at hltk;subst e9;have HST2:=zWF (HMS.out k rl x hrl.out hx.out);generalize M k=Mk at *;have i2:(k:Int)<(n:Int):=by omega
     have HRN:=zWF hrn;clear hrn hrl hx;go_wp2_with fail
     refine (zER hr (by rw [HRN.out]; omega)).mono ?_;rintro e w4 ⟨r4,rfl,f4,b4⟩;obtain ⟨a4,c4,e4⟩:=f4.form;rw [HRN.out] at e4;subst e4;obtain ⟨g,rfl,hg,_⟩:=f4.head (by omega);obtain ⟨y,hy⟩:∃y,rl[i]? = some y:=⟨_,zWG (by rw [HRN.out]; exact hlt)⟩;have hcy:=f4.cell hy hlt;have hfr:=f4.froz HRN.out i;have hst:=zWF (f4.put HRN.out i x);have hcx4:=(b4.cell (p:=⟨b',o'+k,none⟩) (zWJ wr _ hcx)).trans hcx;have bset:Below wr.heap.size wr (w4.setCell ⟨g,i,none⟩ (.int .i64 x)):=b4.setCell hg.1 _;obtain ⟨w5,hw5⟩:∃w5,w5=w4.setCell ⟨g,i,none⟩ (.int .i64 x):=⟨_,rfl⟩;clear hy;have f5:FI (New wr w4) w5 (.slice (some ⟨g,0,none⟩) n c4) (rl.set i x):=by rw [hw5]; exact hst.out
     have hs5:w5.heap.size=w4.heap.size:=by rw [hw5]; exact zAI _ _ _
     have b5:Below wr.heap.size wr w5:=by rw [hw5]; exact bset
     have bb:Below w5.heap.size w5 (w5.alloc (.cells #[.slice (some ⟨g,0,none⟩) n c4] 28)):=(Below.refl _ _).alloc (zWK _) _;have b15:=zAA.step b5 bb;have hcn:(w5.alloc (.cells #[.slice (some ⟨g,0,none⟩) n c4] 28)).cell? ⟨w5.heap.size,0,none⟩=some (.slice (some ⟨g,0,none⟩) n c4):=by go_simp
     have hy5:RI (New wO (w5.alloc (.cells #[.slice (some ⟨g,0,none⟩) n c4] 28))) (w5.alloc (.cells #[.slice (some ⟨g,0,none⟩) n c4] 28)) (.slice (some ⟨g,0,none⟩) n c4) (rl.set i x) :=
      ((f5.below bb).reads).mono (fun b hb'=>⟨Nat.le_trans hbm.size hb'.1,Nat.lt_of_lt_of_le (by rw [hs5]; exact hb'.2) bb.size⟩)
     have hln:Mk.length+1≤67108864:=by omega
     rw [hs5] at hcn;rw [hw5] at hcn hy5 b15;have hfm5:=hfm.grow b15;have hbm5:=zAA.step hbm b15;clear hst;go_wp2_with (at_builtin; go_must (refine zBp (W:=wO) rfl _ _ rfl rfl hfm5 hbm5 rfl hcn hy5 hln ?_))
     intro v7 w7 f7 b7 _;go_wp2_with fail
     go_roundw
     case rel=>exact ⟨k+1,_,rfl,by omega,by go_num,by rw [HST2.out]; exact f7,b7⟩
     case measure=>simp [intOf]; omega
    ·have hkn:k=n:=by omega
     have i2:¬(k:Int)<(n:Int):=by omega
     rw [hkn,HMn.out] at hfm;clear hkn;have HCO:=zWF (HN.out i);have hbd:=HB.out i;have hbd2:=HDB.out;have hz:=hf.grow hbm;go_wp2_with fail
     refine (zIW hfm.reads (zRE HS.out i HLL.out) (zHl HC.out i HV.out) hn4).mono ?_;rintro e w5 ⟨rfl,b5⟩;rw [HCO.out];have b05:=zAA.step hb0 b5;have hz5:=hz.grow b5;by_cases hdv:(zAY c l i).tmod d=0
     ·have HK2:Hid (∀q,q<i+1→(zAY c l q).tmod d=0):=zWF (fun q hq=>by
       rcases Nat.lt_or_ge q i with h9 | h9
       ·exact HK.out q h9
       ·have:q=i:=by omega
        subst this; exact hdv)
      have j1:((zAY c l i).tmod d != 0)=false:=by simp [hdv]
      have j2:-384000000000000≤(zAY c l i).tdiv d∧(zAY c l i).tdiv d≤384000000000000:=by
       have:=Int.natAbs_tdiv_le_natAbs (zAY c l i) d;omega
      have j3:-384000000000000≤zAY c l i∧zAY c l i≤384000000000000:=by omega
      clear hdv hbd hbd2;generalize zAY c l i=D at *;have bb:Below w5.heap.size w5 (w5.alloc (.cells #[.int .i64 (D.tdiv d)] 3)):=(Below.refl _ _).alloc (zWK _) _;go_wp2_with (at_builtin; go_must (refine zAJ (W:=w) rfl _ _ rfl rfl (hz5.grow bb) (zAA.step b05 bb) rfl (RI.one _ (D.tdiv d)) ?_ ?_))
      ·have:=HAL.out; simp; omega
      ·intro v7 w7 f7 b7 _;go_wp2_with fail
       go_roundw
       case rel=>exact ⟨i+1,_,rfl,by omega,by go_num,by rw [HST.out]; exact f7,HK2,b7⟩
       case measure=>simp [intOf]; omega
     ·have j1:((zAY c l i).tmod d != 0)=true:=by simp [hdv]
      have j3:-384000000000000≤zAY c l i∧zAY c l i≤384000000000000:=by omega
      have HDV:=zWF hdv;clear hdv hbd hbd2;generalize hDq:zAY c l i=D at *;have HDq:=zWF hDq;clear hDq;go_wp2_with fail
      go_ret2
      exact .inr ⟨rfl,⟨i,hlt,by rw [HDq.out]; exact HDV.out⟩,b05⟩
  ·have hin:i=n:=by omega
   have i1:¬(i:Int)<(n:Int):=by omega
   have HK3:Hid (∀q,q<n→(zAY c l q).tmod d=0):=zWF (by rw [<-hin]; exact HK.out);rw [hin] at hf;clear hin HAL;go_wp2_with fail
   go_ret2
   exact .inl ⟨_,rfl,hf,HK3.out,hb⟩
def dfL (b a:List Int):List Int:=List.zipWith (fun y x=>y-x) b a
theorem zRL {b a:List Int} {k:Nat} {y x:Int} (hy:b[k]? = some y) (hx:a[k]? = some x):List.zipWith (fun y x=>y-x) (b.take (k+1)) (a.take (k+1))=List.zipWith (fun y x=>y-x) (b.take k) (a.take k)++[y-x]:=by
 rw [zAG hy,zAG hx,List.zipWith_append]
 ·rfl
 ·have h1:k<b.length:=(zWI hy).1;have h2:k<a.length:=(zWI hx).1;simp; omega
def allW (c:List (List Int)) (v:List Int):Nat→Bool
 | 0=>true
 | k+1=>allW c v k && (decide (0≤zAY c v k) && decide ((zAY c v k).tmod (Fin.det c.length c)=0))
theorem zD6 {c:List (List Int)} {v:List Int}:∀{n:Nat},allW c v n=true↔∀k,k<n→0≤zAY c v k∧(zAY c v k).tmod (Fin.det c.length c)=0
 | 0=>by simp [allW]
 | n+1=>by
  simp only [allW,Bool.and_eq_true,decide_eq_true_eq];rw [zD6 (n:=n)];constructor
  ·rintro ⟨h1,h2⟩ k hk;rcases Nat.lt_or_ge k n with h | h
   ·exact h1 k h
   ·have:k=n:=by omega
    subst this; exact h2
  ·exact fun h=>⟨fun k hk=>h k (by omega),h n (by omega)⟩
theorem zQY:∀n,n<5→Fin.bits n (2 ^ n-1)=List.range n:=by decide
theorem zGb {c:List (List Int)} (h:FinP c):0<Fin.det c.length c:=by
 have hc:=h.cart;have h1:=Fin.posUp_iff.1 h.pos (2 ^ c.length-1) (by
  have:2 ^ 1≤2 ^ c.length:=Nat.pow_le_pow_right (by omega) hc.pos;omega) (zWK _)
 unfold Fin.minor at h1;rw [zQY _ (by have:=hc.le; omega)] at h1;have e:Fin.sub c (List.range c.length)=c:=Fin.tab_en ⟨rfl,hc.row⟩;rw [e] at h1;simpa using h1
theorem zOo {c:List (List Int)} {a b:List Int} (ha:isW c a=true) (hb:isW c b=true):(dfL b a).length=c.length∧∀x∈dfL b a,x.natAbs≤2000:=by
 obtain ⟨_,h1,h2⟩:=zCm ha;obtain ⟨_,h3,h4⟩:=zCm hb;refine ⟨by simp [dfL,h1,h3],fun x hx=>?_⟩;obtain ⟨k,hk,rfl⟩:=List.getElem_of_mem hx;have ka:k<a.length:=by simp [dfL] at hk; omega
 have kb:k<b.length:=by simp [dfL] at hk; omega
 have e:(dfL b a)[k]=b[k]-a[k]:=List.getElem_zipWith;have e1:=h2 _ (List.getElem_mem ka);have e2:=h4 _ (List.getElem_mem kb);omega
theorem zIX:∀{l:List Int},dom l=true↔∀x∈l,0≤x
 | []=>by simp [dom]
 | x::l=>by
  unfold dom;by_cases h:x<0
  ·simp [h]; intro h2; omega
  ·simp [h,zIX (l:=l)]; omega
theorem zKf {c:List (List Int)} {v:List Int} {d:Int} {n:Nat} {x:Int}:x∈quos c v d n↔∃k,k<n∧x=(zAY c v k).tdiv d:=by
 unfold quos;constructor
 ·intro h;obtain ⟨y,hy,rfl⟩:=List.mem_map.1 h;obtain ⟨k,hk,rfl⟩:=List.getElem_of_mem hy;rw [zBW] at hk;refine ⟨k,hk,?_⟩;have:=zDK c v n k hk;rw [zWG (by rw [zBW]; exact hk)] at this
  injection this with this
  rw [this]
 ·rintro ⟨k,hk,rfl⟩;exact List.mem_map.2 ⟨_,zWH (zDK c v n k hk),rfl⟩
theorem tdiv_nonneg {x d:Int} (hd:0<d) (h:x.tmod d=0):0≤x.tdiv d↔0≤x:=by
 have e:=Int.mul_tdiv_add_tmod x d;rw [h,Int.add_zero] at e;constructor
 ·intro h2;rw [<-e];exact Int.mul_nonneg (Int.le_of_lt hd) h2
 ·intro h2;by_cases h3:x.tdiv d<0
  ·have:=Int.mul_neg_of_pos_of_neg hd h3;omega
  ·omega
theorem zNI {c:List (List Int)} {v:List Int} (hd:0<Fin.det c.length c) (h:∀k,k<c.length→(zAY c v k).tmod (Fin.det c.length c)=0):dom (quos c v (Fin.det c.length c) c.length)=allW c v c.length:=by
 rw [Bool.eq_iff_iff,zIX,zD6];constructor
 ·intro h2 k hk;exact ⟨(tdiv_nonneg hd (h k hk)).1 (h2 _ (zKf.2 ⟨k,hk,rfl⟩)),h k hk⟩
 ·intro h2 x hx;obtain ⟨k,hk,rfl⟩:=zKf.1 hx;exact (tdiv_nonneg hd (h k hk)).2 (h2 k hk).1
end Go.Proofs.YtphbichgpcicnaaGreatDoor
