/- A root as a weight, by the reference and by the program. Condition: a Cartan matrix. -/
import Derived.Test.YtphbichgpcicnaaGreatDoorJGRtS
namespace Go.Proofs.YtphbichgpcicnaaGreatDoor
open Go.RowKit
set_option maxRecDepth 20000
set_option maxHeartbeats 8000000
def worR (c:List (List Int)) (r:List Int):List Int:=c.map fun l=>prI l r c.length
def worT (c:List (List Int)) (r:List Int) (k:Nat):List Int:=(c.take k).map fun l=>prI l r c.length
theorem zJj {c:List (List Int)} {r:List Int} {k:Nat} {l:List Int} (h:c[k]? = some l):worT c r k++[prI l r c.length]=worT c r (k+1):=by unfold worT; rw [zAG h]; simp
theorem zLd (c:List (List Int)) (r:List Int):worT c r c.length=worR c r:=by unfold worT worR; rw [List.take_length]
theorem zBN (c:List (List Int)) (r:List Int):(worR c r).length=c.length:=by unfold worR; rw [List.length_map]
theorem zUu {S S':Nat→Prop} {u v:Value} {c:List (List Int)} {r:List Int} {w:World} (h:RII S w u c) (h':RI S' w v r) (hc:isC c=true) (hr:r.length=c.length) (hl:total c≤16777216) :
  Calls Tryz.prog 14 #[u,v] w fun e w'=>∃o,e=.returned o∧FI (New w w') w' o (worR c r)∧Below w.heap.size w w':=by
 have hcp:=zAK.1 hc;have h4:c.length≤4:=hcp.le;have hC:=zWF (fun (wv:World) (b:Below w.heap.size w wv)=>(hc ▸ zAd (h.below b) hl:Calls Tryz.prog 41 #[u] wv fun e w'=>e=.returned (.bool true)∧∃m,w'=wv.drewN m));have HROW:Hid (∀l∈c,l.length=c.length):=zWF hcp.row;have HT0:Hid (worT c r 0=[]):=zWF rfl;have HTE:Hid (worT c r c.length=worR c r):=zWF (zLd c r);have HTS:Hid (∀k l,c[k]? = some l→worT c r k++[prI l r c.length]=worT c r (k+1)):=zWF (fun k l h=>zJj h);have HTL:Hid (∀k,(worT c r k).length≤4):=zWF (fun k=>by unfold worT; rw [List.length_map,List.length_take]; omega);have HPS:Hid (∀(l:List Int) (k:Nat) (x y:Int),l[k]? = some x→r[k]? = some y→prI l r (k+1)=wrap64 (prI l r k+wrap64 (x*y))):=zWF (fun l k x y h1 h2=>by simp only [prI]; rw [zAS h1,zAS h2])
 have HP0:Hid (∀l,prI l r 0=0):=zWF (fun l=>rfl);have h0:=h;have h0':=h';obtain ⟨a,cap,rfl⟩:=h.form;obtain ⟨a',cap',rfl⟩:=h'.form;rw [hr] at h' h0' ⊢;clear hcp hc hr;generalize hn:c.length=n at *;clear hn;have mixed:Tryz.prog.follows .mixedOrders=true:=by kernel_rfl
 go_enter Tryz.func14,Tryz.ntmps14
 obtain ⟨w1,hw1⟩:∃w1,w1=w.alloc (.cells #[] 3):=⟨_,rfl⟩;have fe:=zAR (Below.refl _ w) hw1;have hs1:=(HS.nil (Below.refl _ w)).addI fe.2 fe.1;have HW1:=zWF hw1;have hs1:HS w w1 [aI (.slice (some ⟨w.heap.size,0,none⟩) 0 0) (worT c r 0)]:=by rw [HT0.out]; exact hs1
 clear hw1 fe;go_wp2_with fail
 rw [<-HW1.out];go_loopw [5,6] (fun oo kk wr=>∃(k:Nat) (vo:Value),vo=oo∧k≤n∧kk=.int .i64 k∧HS w wr [aI vo (worT c r k)]) (fun _ kk _=>n-(intOf kk).toNat)
 case atStart=>exact ⟨0,_,rfl,Nat.zero_le _,rfl,hs1⟩
 case round =>
  clear hs1;obtain ⟨k,vo,rfl,hk,rfl,hs⟩:=hrel;by_cases hkn:k<n
  ·have i1:(k:Int)<(n:Int):=by omega
   have i10:(0:Int)≤(k:Int):=by omega
   have hcc:=hC.out wr hs.bl;go_wp2_with fail
   refine hcc.mono ?_;rintro e w0 ⟨rfl,m0,rfl⟩;have hs:=hs.drewN m0;generalize wr.drewN m0=w3 at *;have hu:=h0.below hs.bl;have hv:=h0'.below hs.bl;obtain ⟨b3,o3,r3,l3,rfl,hc3,hr3,hl3⟩:=RII.at hu hkn;have e3:=HROW.out l3 (zWH hl3.out);obtain ⟨a4,c4,rfl⟩:=hr3.form;rw [e3] at hr3 hc3;have HTK:=zWF (HTS.out k l3 hl3.out);have HPL:=zWF (HPS.out l3);have HP00:=HP0.out l3;clear hcc hl3 e3;go_wp2_with fail
   go_loopw [7,8] (fun s j wr=>∃(j' d:Nat),j'≤n∧j=.int .i64 j'∧s=.int .i64 (prI l3 r j')∧wr=w3.drewN d) (fun _ j _=>n-(intOf j).toNat)
   case atStart=>exact ⟨0,0,Nat.zero_le _,rfl,by rw [HP00],rfl⟩
   case round =>
    obtain ⟨j,d,hj,rfl,rfl,rfl⟩:=hrel;by_cases hjn:j<n
    ·have i2:(j:Int)<(n:Int):=by omega
     have i20:(0:Int)≤(j:Int):=by omega
     obtain ⟨b5,o5,x,rfl,hcx,hx⟩:=RI.at hr3 hjn;obtain ⟨b6,o6,y,rfl,hcy,hy⟩:=RI.at hv hjn;have HST:=zWF (HPL.out j x y hx.out hy.out);clear hx hy;generalize prI l3 r j=q at *;go_wp2_with fail
     go_quiet (fail)
     go_wp2_with fail
     go_roundw
     case rel=>exact ⟨j+1,d+nq,by omega,by go_num,by rw [HST.out],by simp⟩
     case measure=>simp [intOf]; omega
    ·have i2:¬(j:Int)<(n:Int):=by omega
     have e:j=n:=by omega
     have hs:=hs.drewN d;have HST:Hid (worT c r k++[prI l3 r j]=worT c r (k+1)):=zWF (by rw [e]; exact HTK.out);clear e HTK HPL HP00;generalize prI l3 r j=q at *;generalize w3.drewN d=w4 at *;obtain ⟨w5,hw5⟩:∃w5,w5=w4.alloc (.cells #[.int .i64 q] 3):=⟨_,rfl⟩;have hs5:=hs.alloc (.cells #[.int .i64 q] 3);rw [<-hw5] at hs5;have hc5:w5.cell? ⟨w4.heap.size,0,none⟩=some (.int .i64 q):=by rw [hw5]; go_simp
     have HW5:=zWF hw5;have HLN:Hid ((worT c r k).length+1≤67108864):=zWF (by have:=HTL.out k; omega);clear hw5 hs;go_wp2_with (at_builtin; go_must (rw [<-HW5.out]; refine zBY rfl _ _ rfl rfl hs5 0 rfl rfl hc5 HLN.out ?_))
     intro v6 w6 hs6;have hs6:HS w w6 [aI v6 (worT c r (k+1))]:=by rw [<-HST.out]; exact hs6
     clear hs5;go_wp2_with fail
     go_roundw
     case rel=>exact ⟨k+1,v6,rfl,by omega,by go_num,hs6⟩
     case measure=>simp [intOf]; omega
  ·have i1:¬(k:Int)<(n:Int):=by omega
   have e:k=n:=by omega
   have HE:Hid (worT c r k=worR c r):=zWF (by rw [e,HTE.out]);rw [HE.out] at hs;clear e;go_wp2_with fail
   go_ret
   exact ⟨_,rfl,hs.I 0 rfl,hs.bl⟩
theorem zNE {S S':Nat→Prop} {u v:Value} {c:List (List Int)} {r:List Int} {w:World} (h:RII S w u c) (h':RI S' w v r) (hc:isC c=true) (hr:r.length=c.length) (hl:total c≤16777216) :
  Calls Tryz.prog 126 #[u,v] w fun e w'=>∃o,e=.returned o∧FI (New w w') w' o (worR c r)∧Below w.heap.size w w':=by
 have hcp:=zAK.1 hc;have h4:c.length≤4:=hcp.le;have hC:=zWF (fun (wv:World) (b:Below w.heap.size w wv)=>(hc ▸ zA1 (h.below b) hl:Calls Tryz.prog 67 #[u] wv fun e w'=>e=.returned (.bool true)∧∃m,w'=wv.drewN m));have HROW:Hid (∀l∈c,l.length=c.length):=zWF hcp.row;have HT0:Hid (worT c r 0=[]):=zWF rfl;have HTE:Hid (worT c r c.length=worR c r):=zWF (zLd c r);have HTS:Hid (∀k l,c[k]? = some l→worT c r k++[prI l r c.length]=worT c r (k+1)):=zWF (fun k l h=>zJj h);have HTL:Hid (∀k,(worT c r k).length≤4):=zWF (fun k=>by unfold worT; rw [List.length_map,List.length_take]; omega)
 have HPR:=zWF (fun (S9:Nat→Prop) (wv:World) (vl:Value) (l:List Int) (hb:Below w.heap.size w wv) (hvl:RI S9 wv vl l) (hll:l.length=c.length)=>(hr ▸ zEe (w:=wv) hvl (h'.below hb) (by rw [hr,hll]; exact zWK _) (by omega):Calls Tryz.prog 43 #[vl,v] wv fun e w'=>e=.returned (.int .i64 (prI l r c.length))∧∃m,w'=wv.drewN m));have h0:=h;have h0':=h';obtain ⟨a,cap,rfl⟩:=h.form;obtain ⟨a',cap',rfl⟩:=h'.form;rw [hr] at h' h0' HPR ⊢;clear hcp hc hr;generalize hn:c.length=n at *;clear hn;have mixed:Tryz.prog.follows .mixedOrders=true:=by kernel_rfl
 go_enter Tryz.func126,Tryz.ntmps126
 obtain ⟨w1,hw1⟩:∃w1,w1=w.alloc (.cells #[] 3):=⟨_,rfl⟩;have fe:=zAR (Below.refl _ w) hw1;have hs1:=(HS.nil (Below.refl _ w)).addI fe.2 fe.1;have HW1:=zWF hw1;have hs1:HS w w1 [aI (.slice (some ⟨w.heap.size,0,none⟩) 0 0) (worT c r 0)]:=by rw [HT0.out]; exact hs1
 clear hw1 fe;have hcc:=hC.out w1 hs1.bl;go_wp2_with fail
 rw [<-HW1.out];refine hcc.mono ?_;rintro e w0 ⟨rfl,m0,rfl⟩;have hs1:=hs1.drewN m0;generalize w1.drewN m0=w2 at *;clear hcc;go_wp2_with fail
 go_loopw [5,22] (fun oo kk wr=>∃(k:Nat) (vo:Value),vo=oo∧k≤n∧kk=.int .i64 k∧HS w wr [aI vo (worT c r k)]) (fun _ kk _=>n-(intOf kk).toNat)
 case atStart=>exact ⟨0,_,rfl,Nat.zero_le _,rfl,hs1⟩
 case round =>
  clear hs1;obtain ⟨k,vo,rfl,hk,rfl,hs⟩:=hrel;by_cases hkn:k<n
  ·have i1:(k:Int)<(n:Int):=by omega
   have i10:(0:Int)≤(k:Int):=by omega
   have hu:=h0.below hs.bl;obtain ⟨b3,o3,r3,l3,rfl,hc3,hr3,hl3⟩:=RII.at hu hkn;have e3:=HROW.out l3 (zWH hl3.out);have hcall:=HPR.out _ wr r3 l3 hs.bl hr3 e3;have HST:=zWF (HTS.out k l3 hl3.out);clear hl3 e3;generalize prI l3 r n=q at *;go_wp2_with fail
   refine hcall.mono ?_;rintro e w0 ⟨rfl,m0,rfl⟩;have hs:=hs.drewN m0;generalize wr.drewN m0=w4 at *;clear hcall hr3 hu;obtain ⟨w5,hw5⟩:∃w5,w5=w4.alloc (.cells #[.int .i64 q] 3):=⟨_,rfl⟩;have hs5:=hs.alloc (.cells #[.int .i64 q] 3);rw [<-hw5] at hs5;have hc5:w5.cell? ⟨w4.heap.size,0,none⟩=some (.int .i64 q):=by rw [hw5]; go_simp
   have HW5:=zWF hw5;have HLN:Hid ((worT c r k).length+1≤67108864):=zWF (by have:=HTL.out k; omega);clear hw5 hs;go_wp2_with (at_builtin; go_must (rw [<-HW5.out]; refine zBY rfl _ _ rfl rfl hs5 0 rfl rfl hc5 HLN.out ?_))
   intro v6 w6 hs6;have hs6:HS w w6 [aI v6 (worT c r (k+1))]:=by rw [<-HST.out]; exact hs6
   clear hs5;go_wp2_with fail
   go_roundw
   case rel=>exact ⟨k+1,v6,rfl,by omega,by go_num,hs6⟩
   case measure=>simp [intOf]; omega
  ·have i1:¬(k:Int)<(n:Int):=by omega
   have e:k=n:=by omega
   have HE:Hid (worT c r k=worR c r):=zWF (by rw [e,HTE.out]);rw [HE.out] at hs;clear e;go_wp2_with fail
   go_ret
   exact ⟨_,rfl,hs.I 0 rfl,hs.bl⟩
def sm4 (v:List Int):Bool:=v.all fun x=>decide (0≤x∧x≤4)
theorem zLO {v:List Int} {k:Nat} {x:Int} (h:v[k]? = some x):sm4 (v.take (k+1))=(sm4 (v.take k) && decide (0≤x∧x≤4)):=by rw [zAG h]; simp [sm4]
theorem zPz {v:List Int} {k:Nat} {x:Int} (h:v[k]? = some x) (hx:¬(0≤x∧x≤4)):sm4 v=false:=by
 unfold sm4;rw [List.all_eq_false];exact ⟨x,zWH h,by simpa using hx⟩
theorem zLu {S S':Nat→Prop} {u v:Value} {c:List (List Int)} {l:List Int} {w:World} (h:RII S w u c) (h':RI S' w v l) (hl:total c≤16777216) (hl':l.length≤16777216) :
  Calls Tryz.prog 52 #[u,v] w fun e w'=>e=.returned (.bool (sm4 l && (finB c && decide (l.length=c.length))))∧Below w.heap.size w w':=by
 have hF:=zWF (fun (w1:World) (b1:Below w.heap.size w w1)=>zEH (h.below b1) hl);have h0':=h';obtain ⟨au,cu,rfl⟩:=h.form;obtain ⟨av,cv,rfl⟩:=h'.form;have HS:=zWF (fun (k:Nat) (x:Int) (hx:l[k]? = some x)=>zLO hx);have HN:=zWF (fun (k:Nat) (x:Int) (hx:l[k]? = some x) (h:¬(0≤x∧x≤4))=>zPz hx h);have HE:Hid (∀k,l.length≤k→l.take k=l):=zWF (fun k hk=>List.take_of_length_le hk);have H0:Hid (sm4 (l.take 0)=true):=zWF rfl;generalize hlv:l.length=nv at *;generalize hlc:c.length=nc at *;clear hlv hlc;generalize hz:(sm4 l && (finB c && decide (nv=nc)))=z;have HZ:=zWF hz;clear hz;go_enter Tryz.func52,Tryz.ntmps52
 go_wp2_with fail
 go_loop [5] (fun kk=>∃k:Nat,k≤nv∧kk=.int .i64 k∧Hid (sm4 (l.take k)=true)) (fun kk=>nv-(intOf kk).toNat)
 case atStart=>exact ⟨0,Nat.zero_le _,rfl,H0⟩
 case round =>
  obtain ⟨k,hk,rfl,HK⟩:=hrel;by_cases hlt:k<nv
  ·have i1:(k:Int)<(nv:Int):=by omega
   obtain ⟨b,o,x,rfl,hc,hx⟩:=h0'.at hlt;have H1:=zWF (HS.out k x hx.out);have H2:=zWF (HN.out k x hx.out);clear hx;go_wp2_with fail
   refine (zB5 _ _ _ _).mono ?_;rintro e w' ⟨rfl,rfl⟩;by_cases hxx:0≤x∧x≤4
   ·have HX:Hid (inR x 0 4=true):=zWF (zBx hxx);have HK2:Hid (sm4 (l.take (k+1))=true):=zWF (by rw [H1.out,HK.out,decide_eq_true hxx]; rfl);rw [HX.out];go_wp2_with fail
    go_round
    case rel=>exact ⟨k+1,by omega,by go_num,HK2⟩
    case measure=>simp [intOf]; omega
   ·have HX:Hid (inR x 0 4=false):=zWF (zF4 hxx);have e0:Hid (z=false):=zWF (by rw [<-HZ.out,H2.out hxx]; rfl);rw [HX.out];go_wp2_with fail
    go_ret
    exact ⟨zAD e0.out.symm,Below.refl _ _⟩
  ·have i1:¬(k:Int)<(nv:Int):=by omega
   have hs:=HK.out;rw [HE.out k (by omega)] at hs;have hcall:=hF.out w (Below.refl _ _);have HR:Hid (z=(finB c && decide (nv=nc))):=zWF (by rw [<-HZ.out,hs]; rfl);clear hs;generalize finB c=q at *;go_wp2_with fail
   refine hcall.mono ?_;rintro e w2 ⟨rfl,b2⟩;cases q with
   | false =>
    go_wp2_with fail
    go_ret
    exact ⟨zAD (by rw [HR.out]; rfl),b2⟩
   | true =>
    by_cases hn:nv=nc
    ·have f1:((nv:Int) == (nc:Int))=true:=by simp [hn]
     have e0:Hid ((true && decide (nv=nc))=true):=zWF (by rw [decide_eq_true hn]; rfl);subst hn;go_wp2_with fail
     go_ret
     exact ⟨zAD (by rw [HR.out,e0.out]),b2⟩
    ·have f1:((nv:Int) == (nc:Int))=false:=by simp; omega
     have f2:¬(nv:Int)=(nc:Int):=by omega
     have e0:Hid ((true && decide (nv=nc))=false):=zWF (by rw [decide_eq_false hn]; rfl);go_wp2_with fail
     go_ret
     exact ⟨zAD (by rw [HR.out,e0.out]),b2⟩
theorem zGz {S S':Nat→Prop} {u v:Value} {c:List (List Int)} {l:List Int} {w:World} (h:RII S w u c) (h':RI S' w v l) (hl:total c≤16777216) (hl':l.length≤16777216) :
  Calls Tryz.prog 49 #[u,v] w fun e w'=>e=.returned (.bool (decide (l.length=c.length) && sm4 l))∧∃m,w'=w.drewN m:=by
 have h0':=h';obtain ⟨au,cu,rfl⟩:=h.form;obtain ⟨av,cv,rfl⟩:=h'.form;have hc8:c.length≤16777216:=by unfold total at hl; omega
 have HS:=zWF (fun (k:Nat) (x:Int) (hx:l[k]? = some x)=>zLO hx);have HN:=zWF (fun (k:Nat) (x:Int) (hx:l[k]? = some x) (h:¬(0≤x∧x≤4))=>zPz hx h);have HE:Hid (∀k,l.length≤k→l.take k=l):=zWF (fun k hk=>List.take_of_length_le hk);have H0:Hid (sm4 (l.take 0)=true):=zWF rfl;generalize hlv:l.length=nv at *;generalize hlc:c.length=nc at *;clear hlv hlc;go_enter Tryz.func49,Tryz.ntmps49
 by_cases hn:nv=nc
 ·have e1:Hid (decide (nv=nc)=true):=zWF (decide_eq_true hn);have f1:((nv:Int) != (nc:Int))=false:=by simp [hn]
  subst hn;go_wp2_with fail
  go_loop [14] (fun kk=>∃k:Nat,k≤nv∧kk=.int .i64 k∧Hid (sm4 (l.take k)=true)) (fun kk=>nv-(intOf kk).toNat)
  case atStart=>exact ⟨0,Nat.zero_le _,rfl,H0⟩
  case round =>
   obtain ⟨k,hk,rfl,HK⟩:=hrel;by_cases hlt:k<nv
   ·have i1:(k:Int)<(nv:Int):=by omega
    obtain ⟨b,o,x,rfl,hc,hx⟩:=h0'.at hlt;have H1:=zWF (HS.out k x hx.out);have H2:=zWF (HN.out k x hx.out);clear hx;by_cases hx0:x<0
    ·have e0:Hid ((decide (nv=nv) && sm4 l)=false):=zWF (by rw [H2.out (by omega)]; simp);go_wp2_with fail
     go_ret
     exact ⟨zAD e0.out.symm,dr0⟩
    ·by_cases hx4:4<x
     ·have e0:Hid ((decide (nv=nv) && sm4 l)=false):=zWF (by rw [H2.out (by omega)]; simp);go_wp2_with fail
      go_ret
      exact ⟨zAD e0.out.symm,dr0⟩
     ·have HK2:Hid (sm4 (l.take (k+1))=true):=zWF (by rw [H1.out,HK.out,decide_eq_true (by omega)]; rfl);go_wp2_with fail
      go_round
      case rel=>exact ⟨k+1,by omega,by go_num,HK2⟩
      case measure=>simp [intOf]; omega
   ·have i1:¬(k:Int)<(nv:Int):=by omega
    have hs:=HK.out;rw [HE.out k (by omega)] at hs;have e0:Hid ((decide (nv=nv) && sm4 l)=true):=zWF (by rw [hs]; simp);clear hs;go_wp2_with fail
    go_ret
    exact ⟨zAD e0.out.symm,dr0⟩
 ·have f1:((nv:Int) != (nc:Int))=true:=by simp; omega
  have e0:Hid ((decide (nv=nc) && sm4 l)=false):=zWF (by rw [decide_eq_false hn]; rfl);go_wp2_with fail
  go_ret
  exact ⟨zAD e0.out.symm,dr0⟩
theorem zNg {x y:Nat} {w:World} (hx:x≤4000000000000000000) (hy:y≤4000000000000000000) :
  Calls Tryz.prog 36 #[.int .i64 x,.int .i64 y] w fun e w'=>e=.returned (.int .i64 (Nat.gcd x y:Nat))∧∃m,w'=w.drewN m:=by
 obtain ⟨g,hg⟩:∃g,g=Nat.gcd x y:=⟨_,rfl⟩;rw [<-hg];have HG:=zWF hg.symm;clear hg;have mixed:Tryz.prog.follows .mixedOrders=true:=by kernel_rfl
 go_enter Tryz.func36,Tryz.ntmps36
 go_wp2_with fail
 go_loopw [0,1] (fun aa bb wr=>∃a b:Nat,aa=.int .i64 a∧bb=.int .i64 b∧Hid (Nat.gcd a b=g)∧a≤4000000000000000000∧b≤4000000000000000000∧∃m,wr=w.drewN m) (fun _ bb _=>(intOf bb).toNat)
 case atStart=>exact ⟨x,y,rfl,rfl,HG,hx,hy,0,rfl⟩
 case round =>
  obtain ⟨a,b,rfl,rfl,HF,ha,hb,m,rfl⟩:=hrel;by_cases h0:b=0
  ·subst h0;have hg:=HF.out;rw [Nat.gcd_zero_right] at hg;subst hg;go_wp2_with fail
   go_ret
   exact ⟨rfl,m,rfl⟩
  ·have f1:((b:Int) != 0)=true:=by simp [h0]
   have f2:((b:Int) == 0)=false:=by simp [h0]
   have f3:(b:Int)≠0:=by omega
   have HS:Hid (Nat.gcd b (a % b)=g):=zWF (by rw [<-HF.out,Nat.gcd_comm b,<-Nat.gcd_rec,Nat.gcd_comm]);have hlt:a % b<b:=Nat.mod_lt _ (by omega);have HLT:=zWF hlt;clear hlt;go_wp2_with fail
   go_big_region_o
   go_wp2_with fail
   go_roundw
   case rel=>exact ⟨b,a % b,rfl,by simp,HS,hb,by have:=HLT.out; omega,m+1,rfl⟩
   case measure=>have:=HLT.out; simp [intOf]; omega
theorem zNh {x y:Nat} {w:World} (hx:x≤4000000000000000000) (hy:y≤4000000000000000000) :
  Calls Tryz.prog 56 #[.int .i64 x,.int .i64 y] w fun e w'=>e=.returned (.int .i64 (Nat.gcd x y:Nat))∧∃m,w'=w.drewN m:=by
 obtain ⟨g,hg⟩:∃g,g=Nat.gcd x y:=⟨_,rfl⟩;rw [<-hg];have HG:=zWF hg.symm;clear hg;have mixed:Tryz.prog.follows .mixedOrders=true:=by kernel_rfl
 go_enter Tryz.func56,Tryz.ntmps56
 go_wp2_with fail
 go_loopw [0,1] (fun aa bb wr=>∃a b:Nat,aa=.int .i64 a∧bb=.int .i64 b∧Hid (Nat.gcd a b=g)∧a≤4000000000000000000∧b≤4000000000000000000∧∃m,wr=w.drewN m) (fun _ bb _=>(intOf bb).toNat)
 case atStart=>exact ⟨x,y,rfl,rfl,HG,hx,hy,0,rfl⟩
 case round =>
  obtain ⟨a,b,rfl,rfl,HF,ha,hb,m,rfl⟩:=hrel;by_cases h0:b=0
  ·subst h0;have hg:=HF.out;rw [Nat.gcd_zero_right] at hg;subst hg;go_wp2_with fail
   go_ret
   exact ⟨rfl,m,rfl⟩
  ·have f1:(0:Int)<(b:Int):=by omega
   have f2:((b:Int) == 0)=false:=by simp [h0]
   have f3:(b:Int)≠0:=by omega
   have HS:Hid (Nat.gcd b (a % b)=g):=zWF (by rw [<-HF.out,Nat.gcd_comm b,<-Nat.gcd_rec,Nat.gcd_comm]);have hlt:a % b<b:=Nat.mod_lt _ (by omega);have HLT:=zWF hlt;clear hlt;go_wp2_with fail
   go_roundw
   case rel=>exact ⟨b,a % b,rfl,by simp,HS,hb,by have:=HLT.out; omega,m,rfl⟩
   case measure=>have:=HLT.out; simp [intOf]; omega
def zAb:List Int→List Int→Int→Int
 | x::xs,y::ys,s=>zAb xs ys (wrap64 (s+wrap64 (x*y)))
 | [],_,s=>s
 | _::_,[],s=>s
theorem zEf {S S':Nat→Prop} {u v:Value} {l l':List Int} {w:World} (h:RI S w u l) (h':RI S' w v l') (hl:l.length≤16777216) (hl':l'.length≤16777216) :
  Calls Tryz.prog 25 #[u,v] w fun e w'=>e=.returned (.int .i64 (zAb l l' 0))∧∃m,w'=w.drewN m:=by
 obtain ⟨a,cap,rfl⟩:=h.form;obtain ⟨a',cap',rfl⟩:=h'.form;generalize hn:l.length=n at *;generalize hn':l'.length=n' at *;have H:=zWF hn;have H':=zWF hn';clear hn hn';generalize hr:zAb l l' 0=r;have R:=zWF hr;clear hr;go_enter Tryz.func25,Tryz.ntmps25
 go_wp2
 go_loopw [5,6] (fun s i wr=>∃(k m:Nat) (t:Int),k≤n∧k≤n'∧s=.int .i64 t∧i=.int .i64 k∧wr=w.drewN m∧Hid (zAb (l.drop k) (l'.drop k) t=r)) (fun _ i _=>n-(intOf i).toNat)
 case atStart=>exact ⟨0,0,0,Nat.zero_le _,Nat.zero_le _,rfl,rfl,rfl,R⟩
 case round =>
  obtain ⟨k,m,t,hk,hk',rfl,rfl,hw,HR⟩:=hrel;subst hw;by_cases hlt:k<n
  ·by_cases hlt':k<n'
   ·obtain ⟨b,o,x,rfl,hc,hx⟩:=h.at hlt;obtain ⟨b',o',y,rfl,hc',hy⟩:=h'.at hlt';have b1:(k:Int)<(n:Int):=by omega
    have b2:(k:Int)<(n':Int):=by omega
    go_wp2
    go_quiet (fail)
    go_wp2
    go_roundw
    case rel =>
     refine ⟨k+1,m+nq,wrap64 (t+wrap64 (x*y)),by omega,by omega,rfl,by go_num,by simp,zWF ?_⟩;have e:=HR.out;rw [zAC hx.out,zAC hy.out] at e;exact e
    case measure=>simp [intOf]; omega
   ·go_wp2
    go_ret
    refine ⟨zAP ?_,m,rfl⟩;have e:=HR.out;rw [List.drop_eq_nil_of_le (show l'.length≤k by have:=H'.out; omega)] at e;rw [<-e];cases l.drop k <;> rfl
  ·go_wp2
   go_ret
   refine ⟨zAP ?_,m,rfl⟩;have e:=HR.out;rw [List.drop_eq_nil_of_le (show l.length≤k by have:=H.out; omega)] at e;rw [<-e];rfl
theorem zDG {S S':Nat→Prop} {u v:Value} {l l':List Int} {w:World} (hl0:RI S w u l) (h':RI S' w v l') (hl:l.length≤16777216) (hl':l'.length≤16777216) :
  Calls Tryz.prog 13 #[u,v] w fun e w'=>e=.returned (.int .i64 (zAb l l' 0))∧∃m,w'=w.drewN m:=by
 obtain ⟨a,cap,rfl⟩:=hl0.form;obtain ⟨a',cap',rfl⟩:=h'.form;generalize hn:l.length=n at *;generalize hn':l'.length=n' at *;have H:=zWF hn;have H':=zWF hn';clear hn hn';generalize hr:zAb l l' 0=r;have R:=zWF hr;clear hr;go_enter Tryz.func13,Tryz.ntmps13
 go_wp2
 all_goals
  go_loopw [5,12] (fun s i wr=>∃(k m:Nat) (t:Int),k≤n∧k≤n'∧s=.int .i64 t∧i=.int .i64 k∧wr=w.drewN m∧Hid (zAb (l.drop k) (l'.drop k) t=r)) (fun _ i _=>n-(intOf i).toNat)
  case atStart=>exact ⟨0,0,0,Nat.zero_le _,Nat.zero_le _,rfl,rfl,rfl,R⟩
  case round =>
   obtain ⟨k,m,t,hk,hk',rfl,rfl,hw,HR⟩:=hrel;subst hw;by_cases hlt:k<n∧k<n'
   ·obtain ⟨hlt,hlt'⟩:=hlt;obtain ⟨b,o,x,rfl,hc,hx⟩:=hl0.at hlt;obtain ⟨b',o',y,rfl,hc',hy⟩:=h'.at hlt';have b1:(k:Int)<(n:Int):=by omega
    have b2:(k:Int)<(n':Int):=by omega
    go_wp2
    go_quiet (fail)
    go_wp2
    go_roundw
    case rel =>
     refine ⟨k+1,m+nq,wrap64 (t+wrap64 (x*y)),by omega,by omega,rfl,by go_num,by simp,zWF ?_⟩;have e:=HR.out;rw [zAC hx.out,zAC hy.out] at e;exact e
    case measure=>simp [intOf]; omega
   ·go_wp2
    go_ret
    refine ⟨zAP ?_,m,rfl⟩;have e:=HR.out;rw [<-e];by_cases hlt2:k<n
    ·rw [List.drop_eq_nil_of_le (show l'.length≤k by have:=H'.out; omega)];cases l.drop k <;> rfl
    ·rw [List.drop_eq_nil_of_le (show l.length≤k by have:=H.out; omega)];rfl
end Go.Proofs.YtphbichgpcicnaaGreatDoor
