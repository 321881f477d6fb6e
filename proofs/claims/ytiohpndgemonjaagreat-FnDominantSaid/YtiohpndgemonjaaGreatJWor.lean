/- A root as a weight, by the reference and by the program. Condition: a Cartan matrix. -/
import Derived.Test.YtiohpndgemonjaaGreatJGRtS
namespace Go.Proofs.YtiohpndgemonjaaGreat
open Go.RowKit
set_option maxRecDepth 20000
set_option maxHeartbeats 8000000
def worR (c:List (List Int)) (r:List Int):List Int:=c.map fun l=>prI l r c.length
def worT (c:List (List Int)) (r:List Int) (k:Nat):List Int:=(c.take k).map fun l=>prI l r c.length
theorem zHm {c:List (List Int)} {r:List Int} {k:Nat} {l:List Int} (h:c[k]? = some l):worT c r k++[prI l r c.length]=worT c r (k+1):=by unfold worT; rw [zAP h]; simp
theorem zJL (c:List (List Int)) (r:List Int):worT c r c.length=worR c r:=by unfold worT worR; rw [List.take_length]
theorem zCr (c:List (List Int)) (r:List Int):(worR c r).length=c.length:=by unfold worR; rw [List.length_map]
theorem zKf {S S':Nat→Prop} {u v:Value} {c:List (List Int)} {r:List Int} {w:World} (h:RII S w u c) (h':RI S' w v r) (hc:isC c=true) (hr:r.length=c.length) (hl:total c≤16777216) :
  Calls Tryz.prog 53 #[u,v] w fun e w'=>∃o,e=.returned o∧FI (New w w') w' o (worR c r)∧Below w.heap.size w w':=by
 have hcp:=zAM.1 hc;have h4:c.length≤4:=hcp.le;have hC:=zQe (fun (wv:World) (b:Below w.heap.size w wv)=>(hc ▸ zAT (h.below b) hl:Calls Tryz.prog 43 #[u] wv fun e w'=>e=.returned (.bool true)∧∃m,w'=wv.drewN m));have HROW:Hid (∀l∈c,l.length=c.length):=zQe hcp.row;have HT0:Hid (worT c r 0=[]):=zQe rfl;have HTE:Hid (worT c r c.length=worR c r):=zQe (zJL c r);have HTS:Hid (∀k l,c[k]? = some l→worT c r k++[prI l r c.length]=worT c r (k+1)):=zQe (fun k l h=>zHm h);have HTL:Hid (∀k,(worT c r k).length≤4):=zQe (fun k=>by unfold worT; rw [List.length_map,List.length_take]; omega);have HPS:Hid (∀(l:List Int) (k:Nat) (x y:Int),l[k]? = some x→r[k]? = some y→prI l r (k+1)=wrap64 (prI l r k+wrap64 (x*y))):=zQe (fun l k x y h1 h2=>by simp only [prI]; rw [zAe h1,zAe h2])
 have HP0:Hid (∀l,prI l r 0=0):=zQe (fun l=>rfl);have h0:=h;have h0':=h';obtain ⟨a,cap,rfl⟩:=h.form;obtain ⟨a',cap',rfl⟩:=h'.form;rw [hr] at h' h0' ⊢;clear hcp hc hr;generalize hn:c.length=n at *;clear hn;have mixed:Tryz.prog.follows .mixedOrders=true:=by kernel_rfl
 go_enter Tryz.func53,Tryz.ntmps53
 obtain ⟨w1,hw1⟩:∃w1,w1=w.alloc (.cells #[] 3):=⟨_,rfl⟩;have fe:=zAN (Below.refl _ w) hw1;have hs1:=(HS.nil (Below.refl _ w)).addI fe.2 fe.1;have HW1:=zQe hw1;have hs1:HS w w1 [aI (.slice (some ⟨w.heap.size,0,none⟩) 0 0) (worT c r 0)]:=by rw [HT0.out]; exact hs1
 clear hw1 fe;go_wp2_with fail
 rw [<-HW1.out];go_loopw [5,6] (fun oo kk wr=>∃(k:Nat) (vo:Value),vo=oo∧k≤n∧kk=.int .i64 k∧HS w wr [aI vo (worT c r k)]) (fun _ kk _=>n-(intOf kk).toNat)
 case atStart=>exact ⟨0,_,rfl,Nat.zero_le _,rfl,hs1⟩
 case round =>
  clear hs1;obtain ⟨k,vo,rfl,hk,rfl,hs⟩:=hrel;by_cases hkn:k<n
  ·have i1:(k:Int)<(n:Int):=by omega
   have i10:(0:Int)≤(k:Int):=by omega
   have hcc:=hC.out wr hs.bl;go_wp2_with fail
   refine hcc.mono ?_;rintro e w0 ⟨rfl,m0,rfl⟩;have hs:=hs.drewN m0;generalize wr.drewN m0=w3 at *;have hu:=h0.below hs.bl;have hv:=h0'.below hs.bl;obtain ⟨b3,o3,r3,l3,rfl,hc3,hr3,hl3⟩:=RII.at hu hkn;have e3:=HROW.out l3 (zQg hl3.out);obtain ⟨a4,c4,rfl⟩:=hr3.form;rw [e3] at hr3 hc3;have HTK:=zQe (HTS.out k l3 hl3.out);have HPL:=zQe (HPS.out l3);have HP00:=HP0.out l3;clear hcc hl3 e3;go_wp2_with fail
   go_loopw [7,8] (fun s j wr=>∃(j' d:Nat),j'≤n∧j=.int .i64 j'∧s=.int .i64 (prI l3 r j')∧wr=w3.drewN d) (fun _ j _=>n-(intOf j).toNat)
   case atStart=>exact ⟨0,0,Nat.zero_le _,rfl,by rw [HP00],rfl⟩
   case round =>
    obtain ⟨j,d,hj,rfl,rfl,rfl⟩:=hrel;by_cases hjn:j<n
    ·have i2:(j:Int)<(n:Int):=by omega
     have i20:(0:Int)≤(j:Int):=by omega
     obtain ⟨b5,o5,x,rfl,hcx,hx⟩:=RI.at hr3 hjn;obtain ⟨b6,o6,y,rfl,hcy,hy⟩:=RI.at hv hjn;have HST:=zQe (HPL.out j x y hx.out hy.out);clear hx hy;generalize prI l3 r j=q at *;go_wp2_with fail
     go_quiet (fail)
     go_wp2_with fail
     go_roundw
     case rel=>exact ⟨j+1,d+nq,by omega,by go_num,by rw [HST.out],by simp⟩
     case measure=>simp [intOf]; omega
    ·have i2:¬(j:Int)<(n:Int):=by omega
     have e:j=n:=by omega
     have hs:=hs.drewN d;have HST:Hid (worT c r k++[prI l3 r j]=worT c r (k+1)):=zQe (by rw [e]; exact HTK.out);clear e HTK HPL HP00;generalize prI l3 r j=q at *;generalize w3.drewN d=w4 at *;obtain ⟨w5,hw5⟩:∃w5,w5=w4.alloc (.cells #[.int .i64 q] 3):=⟨_,rfl⟩;have hs5:=hs.alloc (.cells #[.int .i64 q] 3);rw [<-hw5] at hs5;have hc5:w5.cell? ⟨w4.heap.size,0,none⟩=some (.int .i64 q):=by rw [hw5]; go_simp
     have HW5:=zQe hw5;have HLN:Hid ((worT c r k).length+1≤67108864):=zQe (by have:=HTL.out k; omega);clear hw5 hs;go_wp2_with (at_builtin; go_must (rw [<-HW5.out]; refine zDD rfl _ _ rfl rfl hs5 0 rfl rfl hc5 HLN.out ?_))
     intro v6 w6 hs6;have hs6:HS w w6 [aI v6 (worT c r (k+1))]:=by rw [<-HST.out]; exact hs6
     clear hs5;go_wp2_with fail
     go_roundw
     case rel=>exact ⟨k+1,v6,rfl,by omega,by go_num,hs6⟩
     case measure=>simp [intOf]; omega
  ·have i1:¬(k:Int)<(n:Int):=by omega
   have e:k=n:=by omega
   have HE:Hid (worT c r k=worR c r):=zQe (by rw [e,HTE.out]);rw [HE.out] at hs;clear e;go_wp2_with fail
   go_ret
   exact ⟨_,rfl,hs.I 0 rfl,hs.bl⟩
theorem zPf {S S':Nat→Prop} {u v:Value} {c:List (List Int)} {r:List Int} {w:World} (h:RII S w u c) (h':RI S' w v r) (hc:isC c=true) (hr:r.length=c.length) (hl:total c≤16777216) :
  Calls Tryz.prog 58 #[u,v] w fun e w'=>∃o,e=.returned o∧FI (New w w') w' o (worR c r)∧Below w.heap.size w w':=by
 have hcp:=zAM.1 hc;have h4:c.length≤4:=hcp.le;have hC:=zQe (fun (wv:World) (b:Below w.heap.size w wv)=>(hc ▸ zBW (h.below b) hl:Calls Tryz.prog 71 #[u] wv fun e w'=>e=.returned (.bool true)∧∃m,w'=wv.drewN m));have HROW:Hid (∀l∈c,l.length=c.length):=zQe hcp.row;have HT0:Hid (worT c r 0=[]):=zQe rfl;have HTE:Hid (worT c r c.length=worR c r):=zQe (zJL c r);have HTS:Hid (∀k l,c[k]? = some l→worT c r k++[prI l r c.length]=worT c r (k+1)):=zQe (fun k l h=>zHm h);have HTL:Hid (∀k,(worT c r k).length≤4):=zQe (fun k=>by unfold worT; rw [List.length_map,List.length_take]; omega)
 have HPR:=zQe (fun (S9:Nat→Prop) (wv:World) (vl:Value) (l:List Int) (hb:Below w.heap.size w wv) (hvl:RI S9 wv vl l) (hll:l.length=c.length)=>(hr ▸ zFU (w:=wv) hvl (h'.below hb) (by rw [hr,hll]; exact zQj _) (by omega):Calls Tryz.prog 83 #[vl,v] wv fun e w'=>e=.returned (.int .i64 (prI l r c.length))∧∃m,w'=wv.drewN m));have h0:=h;have h0':=h';obtain ⟨a,cap,rfl⟩:=h.form;obtain ⟨a',cap',rfl⟩:=h'.form;rw [hr] at h' h0' HPR ⊢;clear hcp hc hr;generalize hn:c.length=n at *;clear hn;have mixed:Tryz.prog.follows .mixedOrders=true:=by kernel_rfl
 go_enter Tryz.func58,Tryz.ntmps58
 obtain ⟨w1,hw1⟩:∃w1,w1=w.alloc (.cells #[] 3):=⟨_,rfl⟩;have fe:=zAN (Below.refl _ w) hw1;have hs1:=(HS.nil (Below.refl _ w)).addI fe.2 fe.1;have HW1:=zQe hw1;have hs1:HS w w1 [aI (.slice (some ⟨w.heap.size,0,none⟩) 0 0) (worT c r 0)]:=by rw [HT0.out]; exact hs1
 clear hw1 fe;have hcc:=hC.out w1 hs1.bl;go_wp2_with fail
 rw [<-HW1.out];refine hcc.mono ?_;rintro e w0 ⟨rfl,m0,rfl⟩;have hs1:=hs1.drewN m0;generalize w1.drewN m0=w2 at *;clear hcc;go_wp2_with fail
 go_loopw [5,22] (fun oo kk wr=>∃(k:Nat) (vo:Value),vo=oo∧k≤n∧kk=.int .i64 k∧HS w wr [aI vo (worT c r k)]) (fun _ kk _=>n-(intOf kk).toNat)
 case atStart=>exact ⟨0,_,rfl,Nat.zero_le _,rfl,hs1⟩
 case round =>
  clear hs1;obtain ⟨k,vo,rfl,hk,rfl,hs⟩:=hrel;by_cases hkn:k<n
  ·have i1:(k:Int)<(n:Int):=by omega
   have i10:(0:Int)≤(k:Int):=by omega
   have hu:=h0.below hs.bl;obtain ⟨b3,o3,r3,l3,rfl,hc3,hr3,hl3⟩:=RII.at hu hkn;have e3:=HROW.out l3 (zQg hl3.out);have hcall:=HPR.out _ wr r3 l3 hs.bl hr3 e3;have HST:=zQe (HTS.out k l3 hl3.out);clear hl3 e3;generalize prI l3 r n=q at *;go_wp2_with fail
   refine hcall.mono ?_;rintro e w0 ⟨rfl,m0,rfl⟩;have hs:=hs.drewN m0;generalize wr.drewN m0=w4 at *;clear hcall hr3 hu;obtain ⟨w5,hw5⟩:∃w5,w5=w4.alloc (.cells #[.int .i64 q] 3):=⟨_,rfl⟩;have hs5:=hs.alloc (.cells #[.int .i64 q] 3);rw [<-hw5] at hs5;have hc5:w5.cell? ⟨w4.heap.size,0,none⟩=some (.int .i64 q):=by rw [hw5]; go_simp
   have HW5:=zQe hw5;have HLN:Hid ((worT c r k).length+1≤67108864):=zQe (by have:=HTL.out k; omega);clear hw5 hs;go_wp2_with (at_builtin; go_must (rw [<-HW5.out]; refine zDD rfl _ _ rfl rfl hs5 0 rfl rfl hc5 HLN.out ?_))
   intro v6 w6 hs6;have hs6:HS w w6 [aI v6 (worT c r (k+1))]:=by rw [<-HST.out]; exact hs6
   clear hs5;go_wp2_with fail
   go_roundw
   case rel=>exact ⟨k+1,v6,rfl,by omega,by go_num,hs6⟩
   case measure=>simp [intOf]; omega
  ·have i1:¬(k:Int)<(n:Int):=by omega
   have e:k=n:=by omega
   have HE:Hid (worT c r k=worR c r):=zQe (by rw [e,HTE.out]);rw [HE.out] at hs;clear e;go_wp2_with fail
   go_ret
   exact ⟨_,rfl,hs.I 0 rfl,hs.bl⟩
end Go.Proofs.YtiohpndgemonjaaGreat
