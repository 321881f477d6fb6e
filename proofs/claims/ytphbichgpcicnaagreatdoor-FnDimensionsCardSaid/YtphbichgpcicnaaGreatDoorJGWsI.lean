/- The weights of a representation, by the reference. Condition: sizes up to 2^24. -/
import Derived.Test.YtphbichgpcicnaaGreatDoorJGMlt
namespace Go.Proofs.YtphbichgpcicnaaGreatDoor
open Go.RowKit
set_option maxRecDepth 20000
set_option maxHeartbeats 8000000
theorem zT0 (c:List (List Int)) (l:List Int):(obR c l).length≤1000:=by have:=zPQ c l; unfold total at this; omega
theorem zVr {S S':Nat→Prop} {u v:Value} {c:List (List Int)} {l:List Int} {w:World} (h:RII S w u c) (h':RI S' w v l) (hl:total c≤16777216) (hl':l.length≤16777216) :
  Calls Tryz.prog 45 #[u,v] w (WsC c l w):=by
 have HRES:Hid (WsC c l w=fun e w'=>∃r,e=.returned (.tuple #[r,.bool (wsOk c l)])∧FII (New w w') w' r (wsR c l)∧Below w.heap.size w w'):=zWF rfl;have hd:Calls Tryz.prog 90 #[u,v] w fun e w'=>∃r,e=.returned (.tuple #[r,.bool (dbOk c l)])∧FII (New w w') w' r (dbR c l)∧Below w.heap.size w w':=zOm h h' hl hl';have mixed:Tryz.prog.follows .mixedOrders=true:=by kernel_rfl
 cases hF:dbOk c l with
 | false =>
  have HR:Hid (wsR c l=[]):=zWF (by unfold wsR; rw [hF]; rfl);have HO:Hid (wsOk c l=false):=zWF (by unfold wsOk; rw [hF]; rfl);rw [hF] at hd;clear hF;go_enter Tryz.func45,Tryz.ntmps45
  go_wp2_with fail
  refine hd.mono ?_;rintro e w1 ⟨r1,rfl,_,b1⟩;have hf:=FII.empty_of b1 (w1:=w1.alloc (.cells #[] 28)) rfl;clear hd;go_wp2_with fail
  go_ret2
  rw [HRES.out];exact ⟨_,by rw [HO.out]; rfl,by rw [HR.out]; exact hf.1,hf.2⟩
 | true =>
  have HOK:Hid (wsOk c l=(wsQ c l).isSome):=zWF (by unfold wsOk; rw [hF]; rfl);have HR:Hid (wsR c l=zA5 ((wsQ c l).getD [])):=zWF (by unfold wsR; rw [hF]; rfl);have HQ0:Hid (zCW c ((dbR c l).drop 0) (([]:Zl).map Prod.snd)=wsQ c l):=zWF rfl;have HW0:Hid (WsI c (dbR c l) 0 (([]:Zl).map Prod.snd)):=zWF (WsI.start c _);have HLL:=zWF (fun (x:List Int) (hx:x∈dbR c l)=>(zD9.2.1 x hx).1);have HND:=zWF (zES c l);have HDM:=zWF (zGa c l);have h4:c.length≤4:=by
   have hd:dbC c l=true:=by unfold dbOk at hF; rw [Bool.and_eq_true] at hF; exact hF.1
   have hf:finB c=true:=by unfold dbC at hd; rw [Bool.and_eq_true,Bool.and_eq_true] at hd; exact hd.2.1
   exact (zCB hf).cart.le
  have h200:(dbR c l).length≤200:=zD9.1;have HOB:Hid (∀(S9:Nat→Prop) (wv:World) (vv:Value) (x:List Int),Below w.heap.size w wv→RI S9 wv vv x→x.length=c.length→Calls Tryz.prog 91 #[u,vv] wv fun e w'=>∃r,e=.returned (.tuple #[r,.bool (obOk c x)])∧FII (New wv w') w' r (obR c x)∧Below wv.heap.size wv w'):=zWF (fun S9 wv vv x hb hx hxl=>zPU (h.below hb) hx hl (by omega));rw [hF] at hd;clear hF;obtain ⟨au,cu,rfl⟩:=h.form;generalize wsQ c l=R at *;generalize dbR c l=L at *;generalize hn:c.length=n at *;have HN:=zWF hn;clear hn;generalize hm:L.length=m at *;have HM:=zWF hm;clear hm;go_enter Tryz.func45,Tryz.ntmps45
  go_wp2_with fail
  refine hd.mono ?_;rintro e w1 ⟨r1,rfl,f1,b1⟩;have hs1:=(HS.nil (Below.refl _ w)).addF b1 f1;obtain ⟨a1,c1,rfl⟩:=f1.read.form;rw [HM.out] at hs1 ⊢;obtain ⟨w2,hw2⟩:∃w2,w2=w1.alloc (.cells #[] 28):=⟨_,rfl⟩;have hs2:=zBa hs1 hw2;have hs2:=hs2.add (Below.refl _ _) (zBs []) (F:=NoB) ⟨fun x hx=>by simp at hx,List.Pairwise.nil⟩ (fun b hb=>hb.elim);have hs2:HS w w2 [aF (.slice a1 m c1) L,aV 28 (.slice (some ⟨w1.heap.size,0,none⟩) 0 0) (([]:Zl).map Prod.fst),aRs []]:=hs2;have HW2:=zWF hw2;clear hd f1 b1 hs1 hw2;go_wp2_with fail
  rw [<-HW2.out];go_loopw [8,25] (fun oo kk wr=>∃(k:Nat) (vo:Value) (Z:Zl),vo=oo∧k≤m∧kk=.int .i64 k∧HS w wr [aF (.slice a1 m c1) L,aV 28 vo (Z.map Prod.fst),aRs Z]∧Hid (zCW c (L.drop k) (Z.map Prod.snd)=R)∧Hid (WsI c L k (Z.map Prod.snd))∧Z.length≤200) (fun _ kk _=>m-(intOf kk).toNat)
  case atStart=>exact ⟨0,_,[],rfl,Nat.zero_le _,rfl,hs2,HQ0,HW0,by simp⟩
  case round =>
   clear hs2 HQ0 HW0;obtain ⟨k,vo,Z,rfl,hk,rfl,hs,HQ,HW,hz200⟩:=hrel;have hlz:(Z.map Prod.fst).length=Z.length:=by simp
   obtain ⟨⟨ao,co,rfl⟩,_⟩:=hs.formV 1 rfl;rw [hlz] at hs ⊢;generalize hzl:Z.length=mz at *;have HZL:=zWF hzl;clear hzl hlz;by_cases hkm:k<m
   ·have i1:(k:Int)<(m:Int):=by omega
    have i2:(0:Int)≤(k:Int):=by omega
    have hread:RII _ wr (.slice a1 m c1) L:=(hs.F 0 rfl).read;obtain ⟨b3,o3,r3,x,rfl,hc3,hr3,hx⟩:=RII.at hread hkm;have hxm:=zWH hx.out;have hxl:=HLL.out x hxm;have hcall:=HOB.out _ wr r3 x hs.bl hr3 hxl;have hq:=HQ.out;rw [zAC hx.out] at hq;have HQ2:=zWF hq;have HX:=zWF hx.out;have hol:=zT0 c x;clear hread hx hxm hxl hq;go_wp2_with fail
    refine hcall.mono ?_;rintro e w4 ⟨r4,rfl,f4,b4⟩;have hs4:=hs.addF b4 f4;obtain ⟨a4,c4,rfl⟩:=f4.read.form;generalize hmi:(obR c x).length=mi at *;have HMI:=zWF hmi;clear hmi hcall hr3 f4 b4 hc3;cases ho:obOk c x with
    | false =>
     have HRN:Hid (R=none):=zWF (by rw [<-HQ2.out,zQS ho]);have hfe:=FII.empty_of hs4.bl (w1:=w4.alloc (.cells #[] 28)) rfl;clear hs4 hs ho;go_wp2_with fail
     go_ret2
     rw [HRES.out];exact ⟨_,by rw [HOK.out,HRN.out]; rfl,by rw [HR.out,HRN.out]; exact hfe.1,hfe.2⟩
    | true =>
     have HO:=zWF ho;clear ho;have HMA:Hid ((Z.map Prod.snd).length=mz):=zWF (by simp [HZL.out]);by_cases hlen:200<mz+mi
     ·have i3:(200:Int)<(mz:Int)+(mi:Int):=by omega
      have HRN:Hid (R=none):=zWF (by rw [<-HQ2.out,zQT (by rw [HMA.out,HMI.out]; exact hlen)]);have hfe:=FII.empty_of hs4.bl (w1:=w4.alloc (.cells #[] 28)) rfl;clear hs4 hs;go_wp2_with fail
      go_ret2
      rw [HRES.out];exact ⟨_,by rw [HOK.out,HRN.out]; rfl,by rw [HR.out,HRN.out]; exact hfe.1,hfe.2⟩
     ·have i3:¬(200:Int)<(mz:Int)+(mi:Int):=by omega
      have hpos:0<mi:=by
       have hmem:(obR c x)≠[]:=by
        intro e;have:=(zGE HO.out (HDM.out x (zWH HX.out))).2.2;exact zV6 HO.out (HDM.out x (zWH HX.out)) e
       have:=List.length_pos_iff.2 hmem;rw [HMI.out] at this;exact this
      have HQ3:Hid (zCW c (L.drop (k+1)) (Z.map Prod.snd++obR c x)=R):=zWF (by rw [<-HQ2.out,zQU HO.out (by rw [HMA.out,HMI.out]; omega)]);have HW3:Hid (WsI c L (k+1) (Z.map Prod.snd++obR c x)):=zWF (HW.out.step HND.out HDM.out HX.out HO.out);obtain ⟨Y,hY,hs5⟩:=hs4.openF 3 rfl;have hs5:HS w w4 [aF (.slice (some ⟨b3,o3,none⟩) m c1) L,aV 28 (.slice ao mz co) (Z.map Prod.fst),aRs Z,aV 28 (.slice a4 mi c4) (Y.map Prod.fst),aRs Y]:=hs5;have hyl:(Y.map Prod.fst).length=mi:=by rw [<-HMI.out,<-hY]; simp
      obtain ⟨_,hhead⟩:=hs5.formV 3 rfl;obtain ⟨g,rfl⟩:∃g,a4=some ⟨g,0,none⟩:=by
       obtain ⟨g,c9,e⟩:=hhead (by omega);simp only [Value.slice.injEq] at e;exact ⟨g,e.1⟩
      rw [<-hY] at HQ3 HW3;have HYL:=zWF hyl;have HNV:=zWF (HS.newV hs5 1 rfl);have HONE:Hid (∀u∈Y.map Prod.fst,u.oneCell'=true):=zWF (fun u hu=>by
       obtain ⟨y,hy,rfl⟩:=List.mem_map.1 hu;exact oneC (hs5.rowS 4 rfl hy))
      have HLN:Hid ((Z.map Prod.fst).length+mi≤67108864):=zWF (by rw [List.length_map,HZL.out]; omega);have HYM:Hid (Y.length=mi):=zWF (by simpa using hyl);clear hs4 hs hhead hyl hY;go_wp2_with (at_builtin; go_must (refine zDg rfl _ _ rfl rfl hs5 1 3 rfl rfl HYL.out HNV.out rfl HONE.out HLN.out ?_))
      intro v6 w6 hs6 _;have hs7:=(HSx.bothS hs6 2 4 (by decide) rfl rfl).pick [0,1,2] (by decide);have hs7:HS w w6 [aF (.slice (some ⟨b3,o3,none⟩) m c1) L,aV 28 v6 ((Z++Y).map Prod.fst),aRs (Z++Y)]:=by
       rw [List.map_append]; exact hs7
      rw [<-List.map_append] at HQ3 HW3;clear hs5 hs6;go_wp2_with fail
      go_roundw
      case rel=>exact ⟨k+1,_,_,rfl,by omega,by go_num,hs7,HQ3,HW3,by rw [List.length_append,HZL.out,HYM.out]; omega⟩
      case measure=>simp [intOf]; omega
   ·have i1:¬(k:Int)<(m:Int):=by omega
    have hq:=HQ.out;rw [List.drop_eq_nil_of_le (by rw [HM.out]; omega)] at hq;have HRS:Hid (R=some (Z.map Prod.snd)):=zWF (by rw [<-hq]; rfl);have HLN:Hid (∀z∈Z,z.2.length=n):=zWF (fun z hz=>by rw [<-HN.out]; exact HW.out.len z.2 (List.mem_map_of_mem hz));have hsrt:=(hs.pick [1,2] (by decide)).sortRows (Z:=Z) (v:=.slice ao mz co) (n:=n) 0 1 (by decide) rfl rfl (HS.newV hs 1 rfl) HLN.out (by omega) (by rw [HZL.out]; omega);clear hq hs;go_wp2_with fail
    refine hsrt.mono ?_;rintro e w6 ⟨rfl,Z',hp,hsr,hs6⟩;have HSR:=zWF hsr;clear hsr;have hs7:=((hs6.pick [0,1] (by decide)).shutF (Z:=Z') (v:=.slice ao mz co) 0 1 (by decide) rfl rfl).pick [0] (by decide);have hs7:HS w w6 [aF (.slice ao mz co) (Z'.map Prod.snd)]:=hs7;have HFIN:Hid (Z'.map Prod.snd=wsR c l):=zWF (by
     rw [HR.out,HRS.out];exact zEh (n:=n) (hp.map _) (HSR.out.imp (fun h=>by omega)) HW.out.nd (fun x hx=>by obtain ⟨z,hz,rfl⟩:=List.mem_map.1 hx; exact HLN.out z hz) (fun x=>Iff.rfl))
    rw [HFIN.out] at hs7;clear hs6 hsrt hp;go_wp2_with fail
    go_ret2
    rw [HRES.out];exact ⟨_,by rw [HOK.out,HRS.out]; rfl,hs7.F 0 rfl,hs7.bl⟩
theorem zU0 {S S':Nat→Prop} {u v:Value} {c:List (List Int)} {l:List Int} {w:World} (h:RII S w u c) (h':RI S' w v l) (hl:total c≤16777216) (hl':l.length≤16777216) :
  Calls Tryz.prog 45 #[u,v] w fun e w'=>∃r,e=.returned (.tuple #[r,.bool (wsOk c l)])∧FII (New w w') w' r (wsR c l)∧Below w.heap.size w w':=zVr h h' hl hl'
end Go.Proofs.YtphbichgpcicnaaGreatDoor
