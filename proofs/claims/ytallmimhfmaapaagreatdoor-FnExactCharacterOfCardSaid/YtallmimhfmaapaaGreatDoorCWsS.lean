/- The weights of a representation, by the reference. Condition: sizes up to 2^24. -/
import Derived.Test.YtallmimhfmaapaaGreatDoorCGMlt
namespace Go.Proofs.YtallmimhfmaapaaGreatDoor
open Go.RowKit
set_option maxRecDepth 20000
set_option maxHeartbeats 8000000
theorem zPS {c:List (List Int)} {l:List Int} (h:dbOk c l=false):dbR c l=[]:=by
 unfold dbOk at h;unfold dbR;split
 ·rename_i h1
  rw [h1,Bool.true_and] at h;cases hs:dbQ c l with
  | none=>rfl
  | some s=>rw [hs] at h; cases h
 ·rfl
theorem zL4 (c:List (List Int)) (l:List Int):(obR c l).length≤1000:=by have:=zOV c l; unfold zAC at this; omega
theorem zTN {S S':Nat→Prop} {u v:Value} {c:List (List Int)} {l:List Int} {w:World} (h:RII S w u c) (h':RI S' w v l) (hl:zAC c≤16777216) (hl':l.length≤16777216) :
  Calls Tryz.prog 47 #[u,v] w (WsC c l w):=by
 have HRES:Hid (WsC c l w=fun e w'=>∃r,e=.returned (.tuple #[r,.bool (wsOk c l)])∧FII (New w w') w' r (wsR c l)∧Below w.heap.size w w'):=zTY rfl;have hd:Calls Tryz.prog 27 #[u,v] w fun e w'=>∃r,e=.returned (.tuple #[r,.bool (dbOk c l)])∧FII (New w w') w' r (dbR c l)∧Below w.heap.size w w':=zNt h h' hl hl';have mixed:Tryz.prog.follows .mixedOrders=true:=by kernel_rfl
 cases hF:dbOk c l with
 | false =>
  have HR:Hid (wsR c l=[]):=zTY (by unfold wsR; rw [hF]; rfl);have HO:Hid (wsOk c l=false):=zTY (by unfold wsOk; rw [hF]; rfl);rw [hF,zPS hF] at hd;clear hF;go_enter Tryz.func47,Tryz.ntmps47
  go_wp2_with fail
  refine hd.mono ?_;rintro e w1 ⟨r1,rfl,f1,b1⟩;obtain ⟨a1,c1,rfl⟩:=f1.read.form;have hf:=FII.empty_of b1 (w1:=w1.alloc (.cells #[] 23)) rfl;have HF:=zTY hf;have i0:¬(0:Int)<(([]:List (List Int)).length:Int):=by simp
  clear f1 hd hf;generalize ([]:List (List Int)).length=m at *;go_wp2_with fail
  generalize w1.alloc (.cells #[] 23)=w2 at *;go_loopw [8,9] (fun oo kk wr=>oo=.slice (some ⟨w1.heap.size,0,none⟩) 0 0∧kk=.int .i64 0∧wr=w2) (fun _ _ _=>0)
  case atStart=>exact ⟨rfl,rfl,rfl⟩
  case round =>
   obtain ⟨rfl,rfl,rfl⟩:=hrel;go_wp2_with fail
   go_ret2
   rw [HRES.out];exact ⟨_,by rw [HO.out]; rfl,by rw [HR.out]; exact HF.out.1,HF.out.2⟩
 | true =>
  have HOK:Hid (wsOk c l=(wsQ c l).isSome):=zTY (by unfold wsOk; rw [hF]; rfl);have HR:Hid (wsR c l=zAI ((wsQ c l).getD [])):=zTY (by unfold wsR; rw [hF]; rfl);have HQ0:Hid (zBn c ((dbR c l).drop 0) []=wsQ c l):=zTY rfl;have HW0:Hid (WsI c (dbR c l) 0 []):=zTY (WsI.start c _);have HLL:=zTY (fun (x:List Int) (hx:x∈dbR c l)=>(zCR.2.1 x hx).1);have HND:=zTY (zDK c l);have HDM:=zTY (zEW c l);have h4:c.length≤4:=by
   have hd:dbC c l=true:=by unfold dbOk at hF; rw [Bool.and_eq_true] at hF; exact hF.1
   have hf:finB c=true:=by unfold dbC at hd; rw [Bool.and_eq_true,Bool.and_eq_true] at hd; exact hd.2.1
   exact (zCv hf).cart.le
  have h200:(dbR c l).length≤200:=zCR.1;have HOB:Hid (∀(S9:Nat→Prop) (wv:World) (vv:Value) (x:List Int),Below w.heap.size w wv→RI S9 wv vv x→x.length=c.length→Calls Tryz.prog 87 #[u,vv] wv fun e w'=>∃r,e=.returned (.tuple #[r,.bool (obOk c x)])∧FII (New wv w') w' r (obR c x)∧Below wv.heap.size wv w'):=zTY (fun S9 wv vv x hb hx hxl=>zOX (h.below hb) hx hl (by omega));rw [hF] at hd;clear hF;obtain ⟨au,cu,rfl⟩:=h.form;generalize wsQ c l=R at *;generalize dbR c l=L at *;generalize hn:c.length=n at *;have HN:=zTY hn;clear hn;generalize hm:L.length=m at *;have HM:=zTY hm;clear hm;go_enter Tryz.func47,Tryz.ntmps47
  go_wp2_with fail
  refine hd.mono ?_;rintro e w1 ⟨r1,rfl,f1,b1⟩;have hs1:=(HS.nil (Below.refl _ w)).addF b1 f1;obtain ⟨a1,c1,rfl⟩:=f1.read.form;rw [HM.out] at hs1 ⊢;obtain ⟨w2,hw2⟩:∃w2,w2=w1.alloc (.cells #[] 23):=⟨_,rfl⟩;have hfe:=FII.empty_of (Below.refl _ w1) hw2;have hs2:=hs1.addF hfe.2 hfe.1;have hs2:HS w w2 [aF (.slice a1 m c1) L,aF (.slice (some ⟨w1.heap.size,0,none⟩) 0 0) (zAI [])]:=hs2;have HW2:=zTY hw2;clear hd f1 b1 hs1 hw2 hfe;go_wp2_with fail
  rw [<-HW2.out];go_loopw [8,9] (fun oo kk wr=>∃(k:Nat) (vo:Value) (acc:List (List Int)),vo=oo∧k≤m∧kk=.int .i64 k∧HS w wr [aF (.slice a1 m c1) L,aF vo (zAI acc)]∧Hid (zBn c (L.drop k) acc=R)∧Hid (WsI c L k acc)∧acc.length≤200) (fun _ kk _=>m-(intOf kk).toNat)
  case atStart=>exact ⟨0,_,[],rfl,Nat.zero_le _,rfl,hs2,HQ0,HW0,by simp⟩
  case round =>
   clear hs2 HQ0 HW0;obtain ⟨k,vo,acc,rfl,hk,rfl,hs,HQ,HW,hacc⟩:=hrel;by_cases hkm:k<m
   ·have i1:(k:Int)<(m:Int):=by omega
    have i2:(0:Int)≤(k:Int):=by omega
    have hread:RII _ wr (.slice a1 m c1) L:=(hs.F 0 rfl).read;obtain ⟨b3,o3,r3,x,rfl,hc3,hr3,hx⟩:=RII.at hread hkm;have hxm:=zTa hx.out;have hxl:=HLL.out x hxm;have hcall:=HOB.out _ wr r3 x hs.bl hr3 hxl;have hq:=HQ.out;rw [zAD hx.out] at hq;have HQ2:=zTY hq;have HX:=zTY hx.out;have hpl:=HW.out.puts_len;have hol:=zL4 c x;obtain ⟨ao,co,hfo⟩:=(hs.F 1 rfl).read.form;rw [hpl] at hfo;subst hfo;clear hread hx hxm hxl hq;generalize hma:acc.length=ma at *;have HMA:=zTY hma;have HPL:=zTY hpl;clear hma hpl;go_wp2_with fail
    refine hcall.mono ?_;rintro e w4 ⟨r4,rfl,f4,b4⟩;have hs4:=hs.addF b4 f4;obtain ⟨a4,c4,rfl⟩:=f4.read.form;generalize hmi:(obR c x).length=mi at *;have HMI:=zTY hmi;clear hmi hcall hr3 f4 b4 hc3;cases ho:obOk c x with
    | false =>
     have HRN:Hid (R=none):=zTY (by rw [<-HQ2.out,zI0 ho]);have hfe:=FII.empty_of hs4.bl (w1:=w4.alloc (.cells #[] 23)) rfl;clear hs4 hs ho;go_wp2_with fail
     go_ret2
     rw [HRES.out];exact ⟨_,by rw [HOK.out,HRN.out]; rfl,by rw [HR.out,HRN.out]; exact hfe.1,hfe.2⟩
    | true =>
     have HO:=zTY ho;clear ho;by_cases hlen:200<ma+mi
     ·have i3:(200:Int)<(ma:Int)+(mi:Int):=by omega
      have HRN:Hid (R=none):=zTY (by rw [<-HQ2.out,zI1 (by rw [HMA.out,HMI.out]; exact hlen)]);have hfe:=FII.empty_of hs4.bl (w1:=w4.alloc (.cells #[] 23)) rfl;clear hs4 hs;go_wp2_with fail
      go_ret2
      rw [HRES.out];exact ⟨_,by rw [HOK.out,HRN.out]; rfl,by rw [HR.out,HRN.out]; exact hfe.1,hfe.2⟩
     ·have i3:¬(200:Int)<(ma:Int)+(mi:Int):=by omega
      have HQ3:Hid (zBn c (L.drop (k+1)) (acc++obR c x)=R):=zTY (by rw [<-HQ2.out,zI2 HO.out (by rw [HMA.out,HMI.out]; omega)]);have HW3:Hid (WsI c L (k+1) (acc++obR c x)):=zTY (HW.out.step HND.out HDM.out HX.out HO.out);have HA3:Hid ((acc++obR c x).length≤200):=zTY (by rw [List.length_append,HMA.out,HMI.out]; omega);have HXL:Hid (∀y∈acc++obR c x,y.length=n):=zTY (fun y hy=>by rw [<-HN.out]; exact HW3.out.len y hy);have HT0:Hid (acc++(obR c x).take 0=acc):=zTY (by simp);have hs4:HS w w4 [aF (.slice (some ⟨b3,o3,none⟩) m c1) L,aF (.slice ao ma co) (zAI (acc++(obR c x).take 0)),aF (.slice a4 mi c4) (obR c x)]:=by rw [HT0.out]; exact hs4
      have HTS:Hid (∀(t:Nat) (y:List Int),(obR c x)[t]? = some y→putV y (zAI (acc++(obR c x).take t))=zAI (acc++(obR c x).take (t+1))):=zTY (fun t y hy=>by
       rw [zAE hy,<-List.append_assoc,zOd (acc++(obR c x).take t) [y]]; rfl)
      have HPM:Hid (∀t y,y∈zAI (acc++(obR c x).take t)→y.length=n):=zTY (fun t y hy=>by
       have hsub:∀z∈acc++(obR c x).take t,z∈acc++obR c x:=fun z hz=>by
        rcases List.mem_append.1 hz with hz | hz
        ·exact List.mem_append_left _ hz
        ·exact List.mem_append_right _ (List.mem_of_mem_take hz)
       have:=((zBL (n:=n) (q:=acc++(obR c x).take t) (fun z hz=>HXL.out z (hsub z hz))).2 y).1 hy;exact HXL.out y (hsub y this))
      have HPN:Hid (∀t,(zAI (acc++(obR c x).take t)).length≤1048576):=zTY (fun t=>by
       have:=zBq (acc++(obR c x).take t) [];unfold zAI;rw [List.length_append,List.length_take] at this;have:=HMA.out;have:=HMI.out;simp at *;omega)
      have HTE:Hid ((obR c x).take mi=obR c x):=zTY (List.take_of_length_le (by rw [HMI.out]; exact zTd _));clear hs;generalize obR c x=O at *;go_wp2_with fail
      go_loopw [8,12] (fun oo tt wr=>∃(t:Nat) (vo:Value),vo=oo∧t≤mi∧tt=.int .i64 t∧HS w wr [aF (.slice (some ⟨b3,o3,none⟩) m c1) L,aF vo (zAI (acc++O.take t)),aF (.slice a4 mi c4) O]) (fun _ tt _=>mi-(intOf tt).toNat)
      case atStart=>exact ⟨0,_,rfl,Nat.zero_le _,rfl,hs4⟩
      case round =>
       clear hs4;obtain ⟨t,vo,rfl,ht,rfl,hs⟩:=hrel;by_cases htm:t<mi
       ·have j1:(t:Int)<(mi:Int):=by omega
        have j2:(0:Int)≤(t:Int):=by omega
        have hread:RII _ wr (.slice a4 mi c4) O:=(hs.F 2 rfl).read;obtain ⟨b5,o5,r5,y,rfl,hc5,hr5,hy⟩:=RII.at hread htm;have HST:=zTY (HTS.out t y hy.out);have hyl:y.length=n:=HXL.out y (List.mem_append_right _ (zTa hy.out));obtain ⟨F,hF,hFn,HBK⟩:=hs.lend 1 rfl;have hcall:=zGp hF hFn hr5 (fun z hz=>by rw [HPM.out t z hz]; omega) (HPN.out t) (by rw [hyl]; omega);have HPC:Hid (PutC F y (zAI (acc++O.take t)) wr=fun e w'=>∃r,e=.returned r∧HSx F wr w' [aF r (putV y (zAI (acc++O.take t)))]):=zTY rfl;rw [HPC.out] at hcall;clear hread hy hyl hF hr5;go_wp2_with fail
        refine hcall.mono ?_;rintro e w6 ⟨r6,rfl,h6⟩;rw [HST.out] at h6;have hs7:=HBK.out w6 _ h6;have hs7:HS w w6 [aF (.slice (some ⟨b3,o3,none⟩) m c1) L,aF r6 (zAI (acc++O.take (t+1))),aF (.slice (some ⟨b5,o5,none⟩) mi c4) O]:=hs7;clear hs h6 hcall;go_wp2_with fail
        go_roundw
        case rel=>exact ⟨t+1,r6,rfl,by omega,by go_num,hs7⟩
        case measure=>simp [intOf]; omega
       ·have j1:¬(t:Int)<(mi:Int):=by omega
        have e:t=mi:=by omega
        rw [e,HTE.out] at hs;have hs8:=hs.pick [0,1] (by decide);have hs8:HS w wr [aF (.slice (some ⟨b3,o3,none⟩) m c1) L,aF vo (zAI (acc++O))]:=hs8;clear hs e;go_wp2_with fail
        go_roundw
        case rel=>exact ⟨k+1,_,_,rfl,by omega,by go_num,hs8,HQ3,HW3,HA3.out⟩
        case measure=>simp [intOf]; omega
   ·have i1:¬(k:Int)<(m:Int):=by omega
    have hq:=HQ.out;rw [List.drop_eq_nil_of_le (by rw [HM.out]; omega)] at hq;have HRS:Hid (R=some acc):=zTY (by rw [<-hq]; rfl);clear hq;go_wp2_with fail
    go_ret2
    rw [HRES.out];exact ⟨_,by rw [HOK.out,HRS.out]; rfl,by rw [HR.out,HRS.out]; exact hs.F 1 rfl,hs.bl⟩
end Go.Proofs.YtallmimhfmaapaaGreatDoor
