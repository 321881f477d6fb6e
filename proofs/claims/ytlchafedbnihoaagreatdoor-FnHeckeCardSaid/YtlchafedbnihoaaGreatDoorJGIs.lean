/- Chains of points, copies of matrices, two numbers set in one, by the reference. Condition: at most four points. -/
import Derived.Test.YtlchafedbnihoaaGreatDoorJGTc
namespace Go.Proofs.YtlchafedbnihoaaGreatDoor
open Go.RowKit
set_option maxRecDepth 20000
set_option maxHeartbeats 16000000
theorem zAr {n:Nat} (h4:n≤4) (w:World) :
  Calls Tryz.prog 145 #[.int .i64 n] w fun e w'=>∃r,e=.returned r∧FII (New w w') w' r (chM n)∧Below w.heap.size w w':=by
 have mixed:Tryz.prog.follows .mixedOrders=true:=by kernel_rfl
 obtain ⟨i0,hi0,hz0,hz1,hz2⟩:=info_parts zBK;obtain ⟨w1,hw1⟩:∃w1,w1=w.alloc (.cells #[] 33):=⟨_,rfl⟩;have hs1:=zD2 (HS.nil (Below.refl _ w)) hw1;have hs1:=hs1.add (Below.refl _ _) (zDn []) (F:=NoB) ⟨fun x hx=>by simp at hx,List.Pairwise.nil⟩ (fun b hb=>hb.elim);have hs1:HS w w1 [aV 33 (.slice (some ⟨w.heap.size,0,none⟩) 0 0) (([]:Zl).map Prod.fst),aRs []]:=hs1;have HW1:=zNg hw1;have HM0:Hid (([]:Zl).map Prod.snd=(List.range 0).map (chR n)):=zNg rfl;clear hw1;go_enter Tryz.func145,Tryz.ntmps145
 go_wp2_with fail
 rw [<-HW1.out];go_loopw [3,4] (fun oo kk wr=>∃(k:Nat) (vo:Value) (Z:Zl),vo=oo∧k≤n∧kk=.int .i64 k∧HS w wr [aV 33 vo (Z.map Prod.fst),aRs Z]∧Hid (Z.map Prod.snd=(List.range k).map (chR n))) (fun _ kk _=>n-(intOf kk).toNat)
 case atStart=>exact ⟨0,_,[],rfl,Nat.zero_le _,rfl,hs1,HM0⟩
 case round =>
  clear hs1 HM0;obtain ⟨k,vo,Z,rfl,hk,rfl,hs,HM⟩:=hrel;by_cases hkn:k<n
  ·have i1:(k:Int)<(n:Int):=by omega
   have i2:(0:Int)≤(k:Int):=by omega
   have HZL:Hid ((Z.map Prod.fst).length+1≤67108864):=zNg (by have:=congrArg List.length HM.out; simp at this; simp; omega);go_wp2_with (at_make; (refine wpList_make_full _ rfl _ _ 33 rfl wr.heap.size 3 i0 (.int .i64 0) 1 Tryz.underlying33 hi0 hz0 hz1 _ _ _ _ n rfl rfl (by first | rfl | (simp only [wrap64]; omega)) (by first | rfl | (simp only [wrap64]; omega)) ?hb ?hm ?hs ?_))
   case hb=>first | (rw [hz2]; omega) | omega
   case hm=>unfold maxLen; omega
   case hs=>exact zNl _
   intro w2 hown hgr;have bb2:Below wr.heap.size wr w2:=(Below.refl _ wr).grown hgr (zNl _) (by simp);have hf2:FI (New wr w2) w2 (.slice (some ⟨wr.heap.size,0,none⟩) n n) (List.replicate n 0):=FI.of_row (w:=wr) (by simpa using hown) (zNl _) (by simp) (by simp [toList_madeCells_one]);have hs2:=hs.addI bb2 hf2;have hs2:HS w w2 [aV 33 vo (Z.map Prod.fst),aRs Z,aI (.slice (some ⟨wr.heap.size,0,none⟩) n n) (List.replicate n 0)]:=hs2;clear hgr hown bb2 hf2 hs hi0 hz0 hz1 hz2;generalize wr.heap.size=g at *;obtain ⟨x0,hx0⟩:=zCp (l:=List.replicate n (0:Int)) (by simp) hkn;obtain ⟨d0,z0⟩:=hs2.cellI 2 rfl (by simp) hx0;have hs3:=hs2.putI 2 rfl (by simp) k 2;have hs3:HS w (w2.setCell ⟨g,k,none⟩ (.int .i64 2)) [aV 33 vo (Z.map Prod.fst),aRs Z,aI (.slice (some ⟨g,0,none⟩) n n) ((List.replicate n (0:Int)).set k 2)]:=hs3;clear hx0 hs2;by_cases hk0:0<k
   ·obtain ⟨j,hkj⟩:∃j,k=j+1:=⟨k-1,by omega⟩;have i3:(0:Int)<(k:Int):=by omega
    have i4:(k:Int)-1=(j:Int):=by omega
    have hjn:j<n:=by omega
    have i5:(j:Int)<(n:Int):=by omega
    obtain ⟨x1,hx1⟩:=zCp (l:=(List.replicate n (0:Int)).set k 2) (by simp) hjn;obtain ⟨d1,z1⟩:=hs3.cellI 2 rfl (by simp) hx1;have hs4:=hs3.putI 2 rfl (by simp) j (-1);have hs4:HS w ((w2.setCell ⟨g,k,none⟩ (.int .i64 2)).setCell ⟨g,j,none⟩ (.int .i64 (-1))) [aV 33 vo (Z.map Prod.fst),aRs Z,aI (.slice (some ⟨g,0,none⟩) n n) (((List.replicate n (0:Int)).set k 2).set j (-1))]:=hs4;clear hx1 hs3;by_cases hk1:k+1<n
    ·have i6:(k:Int)+1<(n:Int):=by omega
     obtain ⟨x2,hx2⟩:=zCp (l:=((List.replicate n (0:Int)).set k 2).set j (-1)) (by simp) hk1;obtain ⟨d2,z2⟩:=hs4.cellI 2 rfl (by simp) hx2;have hs8:=hs4.putI 2 rfl (by simp) (k+1) (-1);have HCH:Hid ((((List.replicate n (0:Int)).set k 2).set j (-1)).set (k+1) (-1)=chR n k):=zNg (by unfold chR chB; rw [if_pos hk1,if_pos hk0,show k-1=j by omega]);clear hx2 hs4 hkj;have hsr:HS w (((w2.setCell ⟨g,k,none⟩ (.int .i64 2)).setCell ⟨g,j,none⟩ (.int .i64 (-1))).setCell ⟨g,k+1,none⟩ (.int .i64 (-1))) [aV 33 vo (Z.map Prod.fst),aRs Z,aI (.slice (some ⟨g,0,none⟩) n n) (chR n k)]:=by rw [<-HCH.out]; exact hs8
     obtain ⟨w5,hw5⟩:∃w5,w5=(((w2.setCell ⟨g,k,none⟩ (.int .i64 2)).setCell ⟨g,j,none⟩ (.int .i64 (-1))).setCell ⟨g,k+1,none⟩ (.int .i64 (-1))).alloc (.cells #[.slice (some ⟨g,0,none⟩) n n] 33):=⟨_,rfl⟩;have hs5:=hsr.alloc (.cells #[.slice (some ⟨g,0,none⟩) n n] 33);rw [<-hw5] at hs5;have hc5:w5.cell? ⟨(((w2.setCell ⟨g,k,none⟩ (.int .i64 2)).setCell ⟨g,j,none⟩ (.int .i64 (-1))).setCell ⟨g,k+1,none⟩ (.int .i64 (-1))).heap.size,0,none⟩=some (.slice (some ⟨g,0,none⟩) n n):=by rw [hw5]; go_simp
     simp only [zAw] at hc5;have HW5:=zNg hw5;have HNV:=zNg (HS.newV hs5 0 rfl);have hone:(Value.slice (some ⟨g,0,none⟩) n n).oneCell'=true:=rfl;clear hw5 hsr hs8;go_wp2_with (at_builtin; go_must (rw [<-HW5.out]; refine zBO rfl _ _ rfl rfl hs5 0 rfl HNV.out rfl hc5 hone HZL.out ?_))
     intro v6 w6 hs6 _;have hs7:=(hs6.moreS 1 2 (by decide) rfl rfl (Z':=Z++[(.slice (some ⟨g,0,none⟩) n n,chR n k)]) (List.perm_append_singleton _ _)).pick [0,1] (by decide);have hs7:HS w w6 [aV 33 v6 ((Z++[(Value.slice (some ⟨g,0,none⟩) n n,chR n k)]).map Prod.fst),aRs (Z++[(Value.slice (some ⟨g,0,none⟩) n n,chR n k)])]:=by
      have e:(Z++[(Value.slice (some ⟨g,0,none⟩) n n,chR n k)]).map Prod.fst=Z.map Prod.fst++[Value.slice (some ⟨g,0,none⟩) n n]:=by simp
      rw [e]; exact hs7
     have HM2:Hid ((Z++[(Value.slice (some ⟨g,0,none⟩) n n,chR n k)]).map Prod.snd=(List.range (k+1)).map (chR n)):=zNg (by rw [List.map_append,HM.out,zDX]; rfl);clear hs5 hs6;go_wp2_with fail
     go_roundw
     case rel=>exact ⟨k+1,_,_,rfl,by omega,by go_num,hs7,HM2⟩
     case measure=>simp [intOf]; omega
    ·have i6:¬(k:Int)+1<(n:Int):=by omega
     have HCH:Hid (((List.replicate n (0:Int)).set k 2).set j (-1)=chR n k):=zNg (by unfold chR chB; rw [if_neg hk1,if_pos hk0,show k-1=j by omega]);clear hkj;have hsr:HS w ((w2.setCell ⟨g,k,none⟩ (.int .i64 2)).setCell ⟨g,j,none⟩ (.int .i64 (-1))) [aV 33 vo (Z.map Prod.fst),aRs Z,aI (.slice (some ⟨g,0,none⟩) n n) (chR n k)]:=by rw [<-HCH.out]; exact hs4
     obtain ⟨w5,hw5⟩:∃w5,w5=((w2.setCell ⟨g,k,none⟩ (.int .i64 2)).setCell ⟨g,j,none⟩ (.int .i64 (-1))).alloc (.cells #[.slice (some ⟨g,0,none⟩) n n] 33):=⟨_,rfl⟩;have hs5:=hsr.alloc (.cells #[.slice (some ⟨g,0,none⟩) n n] 33);rw [<-hw5] at hs5;have hc5:w5.cell? ⟨((w2.setCell ⟨g,k,none⟩ (.int .i64 2)).setCell ⟨g,j,none⟩ (.int .i64 (-1))).heap.size,0,none⟩=some (.slice (some ⟨g,0,none⟩) n n):=by rw [hw5]; go_simp
     simp only [zAw] at hc5;have HW5:=zNg hw5;have HNV:=zNg (HS.newV hs5 0 rfl);have hone:(Value.slice (some ⟨g,0,none⟩) n n).oneCell'=true:=rfl;clear hw5 hsr hs4;go_wp2_with (at_builtin; go_must (rw [<-HW5.out]; refine zBO rfl _ _ rfl rfl hs5 0 rfl HNV.out rfl hc5 hone HZL.out ?_))
     intro v6 w6 hs6 _;have hs7:=(hs6.moreS 1 2 (by decide) rfl rfl (Z':=Z++[(.slice (some ⟨g,0,none⟩) n n,chR n k)]) (List.perm_append_singleton _ _)).pick [0,1] (by decide);have hs7:HS w w6 [aV 33 v6 ((Z++[(Value.slice (some ⟨g,0,none⟩) n n,chR n k)]).map Prod.fst),aRs (Z++[(Value.slice (some ⟨g,0,none⟩) n n,chR n k)])]:=by
      have e:(Z++[(Value.slice (some ⟨g,0,none⟩) n n,chR n k)]).map Prod.fst=Z.map Prod.fst++[Value.slice (some ⟨g,0,none⟩) n n]:=by simp
      rw [e]; exact hs7
     have HM2:Hid ((Z++[(Value.slice (some ⟨g,0,none⟩) n n,chR n k)]).map Prod.snd=(List.range (k+1)).map (chR n)):=zNg (by rw [List.map_append,HM.out,zDX]; rfl);clear hs5 hs6;go_wp2_with fail
     go_roundw
     case rel=>exact ⟨k+1,_,_,rfl,by omega,by go_num,hs7,HM2⟩
     case measure=>simp [intOf]; omega
   ·have i3:¬(0:Int)<(k:Int):=by omega
    by_cases hk1:k+1<n
    ·have i6:(k:Int)+1<(n:Int):=by omega
     obtain ⟨x2,hx2⟩:=zCp (l:=(List.replicate n (0:Int)).set k 2) (by simp) hk1;obtain ⟨d2,z2⟩:=hs3.cellI 2 rfl (by simp) hx2;have hs8:=hs3.putI 2 rfl (by simp) (k+1) (-1);have HCH:Hid (((List.replicate n (0:Int)).set k 2).set (k+1) (-1)=chR n k):=zNg (by unfold chR chB; rw [if_pos hk1,if_neg hk0]);clear hx2 hs3;have hsr:HS w ((w2.setCell ⟨g,k,none⟩ (.int .i64 2)).setCell ⟨g,k+1,none⟩ (.int .i64 (-1))) [aV 33 vo (Z.map Prod.fst),aRs Z,aI (.slice (some ⟨g,0,none⟩) n n) (chR n k)]:=by rw [<-HCH.out]; exact hs8
     obtain ⟨w5,hw5⟩:∃w5,w5=((w2.setCell ⟨g,k,none⟩ (.int .i64 2)).setCell ⟨g,k+1,none⟩ (.int .i64 (-1))).alloc (.cells #[.slice (some ⟨g,0,none⟩) n n] 33):=⟨_,rfl⟩;have hs5:=hsr.alloc (.cells #[.slice (some ⟨g,0,none⟩) n n] 33);rw [<-hw5] at hs5;have hc5:w5.cell? ⟨((w2.setCell ⟨g,k,none⟩ (.int .i64 2)).setCell ⟨g,k+1,none⟩ (.int .i64 (-1))).heap.size,0,none⟩=some (.slice (some ⟨g,0,none⟩) n n):=by rw [hw5]; go_simp
     simp only [zAw] at hc5;have HW5:=zNg hw5;have HNV:=zNg (HS.newV hs5 0 rfl);have hone:(Value.slice (some ⟨g,0,none⟩) n n).oneCell'=true:=rfl;clear hw5 hsr hs8;go_wp2_with (at_builtin; go_must (rw [<-HW5.out]; refine zBO rfl _ _ rfl rfl hs5 0 rfl HNV.out rfl hc5 hone HZL.out ?_))
     intro v6 w6 hs6 _;have hs7:=(hs6.moreS 1 2 (by decide) rfl rfl (Z':=Z++[(.slice (some ⟨g,0,none⟩) n n,chR n k)]) (List.perm_append_singleton _ _)).pick [0,1] (by decide);have hs7:HS w w6 [aV 33 v6 ((Z++[(Value.slice (some ⟨g,0,none⟩) n n,chR n k)]).map Prod.fst),aRs (Z++[(Value.slice (some ⟨g,0,none⟩) n n,chR n k)])]:=by
      have e:(Z++[(Value.slice (some ⟨g,0,none⟩) n n,chR n k)]).map Prod.fst=Z.map Prod.fst++[Value.slice (some ⟨g,0,none⟩) n n]:=by simp
      rw [e]; exact hs7
     have HM2:Hid ((Z++[(Value.slice (some ⟨g,0,none⟩) n n,chR n k)]).map Prod.snd=(List.range (k+1)).map (chR n)):=zNg (by rw [List.map_append,HM.out,zDX]; rfl);clear hs5 hs6;go_wp2_with fail
     go_roundw
     case rel=>exact ⟨k+1,_,_,rfl,by omega,by go_num,hs7,HM2⟩
     case measure=>simp [intOf]; omega
    ·have i6:¬(k:Int)+1<(n:Int):=by omega
     have HCH:Hid ((List.replicate n (0:Int)).set k 2=chR n k):=zNg (by unfold chR chB; rw [if_neg hk1,if_neg hk0]);have hsr:HS w (w2.setCell ⟨g,k,none⟩ (.int .i64 2)) [aV 33 vo (Z.map Prod.fst),aRs Z,aI (.slice (some ⟨g,0,none⟩) n n) (chR n k)]:=by rw [<-HCH.out]; exact hs3
     obtain ⟨w5,hw5⟩:∃w5,w5=(w2.setCell ⟨g,k,none⟩ (.int .i64 2)).alloc (.cells #[.slice (some ⟨g,0,none⟩) n n] 33):=⟨_,rfl⟩;have hs5:=hsr.alloc (.cells #[.slice (some ⟨g,0,none⟩) n n] 33);rw [<-hw5] at hs5;have hc5:w5.cell? ⟨(w2.setCell ⟨g,k,none⟩ (.int .i64 2)).heap.size,0,none⟩=some (.slice (some ⟨g,0,none⟩) n n):=by rw [hw5]; go_simp
     simp only [zAw] at hc5;have HW5:=zNg hw5;have HNV:=zNg (HS.newV hs5 0 rfl);have hone:(Value.slice (some ⟨g,0,none⟩) n n).oneCell'=true:=rfl;clear hw5 hsr hs3;go_wp2_with (at_builtin; go_must (rw [<-HW5.out]; refine zBO rfl _ _ rfl rfl hs5 0 rfl HNV.out rfl hc5 hone HZL.out ?_))
     intro v6 w6 hs6 _;have hs7:=(hs6.moreS 1 2 (by decide) rfl rfl (Z':=Z++[(.slice (some ⟨g,0,none⟩) n n,chR n k)]) (List.perm_append_singleton _ _)).pick [0,1] (by decide);have hs7:HS w w6 [aV 33 v6 ((Z++[(Value.slice (some ⟨g,0,none⟩) n n,chR n k)]).map Prod.fst),aRs (Z++[(Value.slice (some ⟨g,0,none⟩) n n,chR n k)])]:=by
      have e:(Z++[(Value.slice (some ⟨g,0,none⟩) n n,chR n k)]).map Prod.fst=Z.map Prod.fst++[Value.slice (some ⟨g,0,none⟩) n n]:=by simp
      rw [e]; exact hs7
     have HM2:Hid ((Z++[(Value.slice (some ⟨g,0,none⟩) n n,chR n k)]).map Prod.snd=(List.range (k+1)).map (chR n)):=zNg (by rw [List.map_append,HM.out,zDX]; rfl);clear hs5 hs6;go_wp2_with fail
     go_roundw
     case rel=>exact ⟨k+1,_,_,rfl,by omega,by go_num,hs7,HM2⟩
     case measure=>simp [intOf]; omega
  ·have i1:¬(k:Int)<(n:Int):=by omega
   have e:k=n:=by omega
   have hs2:=((hs.shutF (Z:=Z) (v:=vo) 0 1 (by decide) rfl rfl).pick [0] (by decide));have hs3:HS w wr [aF vo (Z.map Prod.snd)]:=hs2;rw [HM.out,e] at hs3;clear hs hs2 e;go_wp2_with fail
   go_ret
   exact ⟨_,rfl,hs3.F 0 rfl,hs3.bl⟩
theorem zI7 {S:Nat→Prop} {w:World} {u:Value} {L:List (List Int)} (h:RII S w u L) (hl:L.length≤1048576) (hr:∀l∈L,l.length≤1048576) :
  Calls Tryz.prog 146 #[u] w fun e w'=>∃r,e=.returned r∧FII (New w w') w' r L∧Below w.heap.size w w':=by
 have mixed:Tryz.prog.follows .mixedOrders=true:=by kernel_rfl
 obtain ⟨w1,hw1⟩:∃w1,w1=w.alloc (.cells #[] 33):=⟨_,rfl⟩;have hs1:=zD2 (HS.nil (Below.refl _ w)) hw1;have hs1:=hs1.add (Below.refl _ _) (zDn []) (F:=NoB) ⟨fun x hx=>by simp at hx,List.Pairwise.nil⟩ (fun b hb=>hb.elim);have hs1:HS w w1 [aV 33 (.slice (some ⟨w.heap.size,0,none⟩) 0 0) (([]:Zl).map Prod.fst),aRs []]:=hs1;have HW1:=zNg hw1;have HM0:Hid (([]:Zl).map Prod.snd=L.take 0):=zNg rfl;obtain ⟨a,cap,rfl⟩:=h.form;have HR:=zNg hr;generalize hn:L.length=n at *;have HN:=zNg hn;clear hw1 hn hr;go_enter Tryz.func146,Tryz.ntmps146
 go_wp2_with fail
 rw [<-HW1.out];go_loopw [3,4] (fun oo kk wr=>∃(k:Nat) (vo:Value) (Z:Zl),vo=oo∧k≤n∧kk=.int .i64 k∧HS w wr [aV 33 vo (Z.map Prod.fst),aRs Z]∧Hid (Z.map Prod.snd=L.take k)) (fun _ kk _=>n-(intOf kk).toNat)
 case atStart=>exact ⟨0,_,[],rfl,Nat.zero_le _,rfl,hs1,HM0⟩
 case round =>
  clear hs1 HM0;obtain ⟨k,vo,Z,rfl,hk,rfl,hs,HM⟩:=hrel;by_cases hkn:k<n
  ·have i1:(k:Int)<(n:Int):=by omega
   have i2:(0:Int)≤(k:Int):=by omega
   have HZL:Hid ((Z.map Prod.fst).length+1≤67108864):=zNg (by have:=congrArg List.length HM.out; simp at this; simp; omega);have hu:=h.below hs.bl;obtain ⟨b3,o3,r3,l3,rfl,hc3,hr3,hl3⟩:=RII.at hu hkn;have e3:=HR.out l3 (zNi hl3.out);obtain ⟨a3,c3,rfl⟩:=hr3.form;have HL3:=zNg hl3.out;have HV3:=zNg e3;generalize hn3:l3.length=n3 at *;have HN3:=zNg hn3;have hv2:=hr3;have l0:b3<wr.heap.size:=zNk wr _ hc3;clear hn3 hu hl3;go_wp2_with (at_builtin; go_must (refine zAG (W:=wr) rfl _ _ rfl rfl (FI.fresh0 wr) zAo rfl (hv2.below zAo) ?_ ?_))
   ·first | (simp; omega) | omega | (have:=HN3.out; have:=HV3.out; simp; omega)
   ·intro vn wn fn bn _;have fn:FI _ wn vn l3:=fn;obtain ⟨an,cn,en⟩:=fn.form;rw [HN3.out] at en;subst en;have hsn:=hs.addI bn fn;have hsn:HS w wn [aV 33 vo (Z.map Prod.fst),aRs Z,aI (.slice an n3 cn) l3]:=hsn;obtain ⟨w5,hw5⟩:∃w5,w5=wn.alloc (.cells #[.slice an n3 cn] 33):=⟨_,rfl⟩;have hs5:=hsn.alloc (.cells #[.slice an n3 cn] 33);rw [<-hw5] at hs5;have hc5:w5.cell? ⟨wn.heap.size,0,none⟩=some (.slice an n3 cn):=by rw [hw5]; go_simp
    have HW5:=zNg hw5;have HNV:=zNg (HS.newV hs5 0 rfl);have hone:(Value.slice an n3 cn).oneCell'=true:=oneC fn.reads;clear hw5 hsn hs fn bn hc3 hr3 hv2;go_wp2_with (at_builtin; go_must (rw [<-HW5.out]; refine zBO rfl _ _ rfl rfl hs5 0 rfl HNV.out rfl hc5 hone HZL.out ?_))
    intro v6 w6 hs6 _;have hs7:=(hs6.moreS 1 2 (by decide) rfl rfl (Z':=Z++[(.slice an n3 cn,l3)]) (List.perm_append_singleton _ _)).pick [0,1] (by decide);have hs7:HS w w6 [aV 33 v6 ((Z++[(Value.slice an n3 cn,l3)]).map Prod.fst),aRs (Z++[(Value.slice an n3 cn,l3)])]:=by
     have e:(Z++[(Value.slice an n3 cn,l3)]).map Prod.fst=Z.map Prod.fst++[Value.slice an n3 cn]:=by simp
     rw [e]; exact hs7
    have HM2:Hid ((Z++[(Value.slice an n3 cn,l3)]).map Prod.snd=L.take (k+1)):=zNg (by rw [List.map_append,HM.out,zAV HL3.out]; rfl);clear hs5 hs6;go_wp2_with fail
    go_roundw
    case rel=>exact ⟨k+1,_,_,rfl,by omega,by go_num,hs7,HM2⟩
    case measure=>simp [intOf]; omega
  ·have i1:¬(k:Int)<(n:Int):=by omega
   have e:L.take k=L:=List.take_of_length_le (by rw [HN.out]; omega);have hs2:=((hs.shutF (Z:=Z) (v:=vo) 0 1 (by decide) rfl rfl).pick [0] (by decide));have hs3:HS w wr [aF vo (Z.map Prod.snd)]:=hs2;rw [HM.out,e] at hs3;clear hs hs2 e;go_wp2_with fail
   go_ret
   exact ⟨_,rfl,hs3.F 0 rfl,hs3.bl⟩
theorem zAx {S:Nat→Prop} {w:World} {u:Value} {L:List (List Int)} {n i j:Nat} (h:RII S w u L) (hq:Sqn L n) (h4:n≤4) (hi:i<n) (hj:j<n) (p q:Int) :
  Calls Tryz.prog 138 #[u,.int .i64 i,.int .i64 j,.int .i64 p,.int .i64 q] w fun e w'=>∃r,e=.returned r∧FII (New w w') w' r (put1 (put1 L i j p) j i q)∧Below w.heap.size w w':=by
 have mixed:Tryz.prog.follows .mixedOrders=true:=by kernel_rfl
 have hc:=zI7 h (by rw [hq.len]; omega) (fun l hl=>by rw [hq.row l hl]; omega);go_enter Tryz.func138,Tryz.ntmps138
 go_wp2_with fail
 refine hc.mono ?_;rintro e w1 ⟨r1,rfl,f1,b1⟩;obtain ⟨Z,hZ,hs1⟩:=((HS.nil (Below.refl _ w)).addF b1 f1).openF 0 rfl;have hs1:HS w w1 [aV 33 r1 (Z.map Prod.fst),aRs Z]:=hs1;subst hZ;clear hc f1 b1 h;have hyl:Z.length=n:=by simpa using hq.len
 obtain ⟨⟨a,cap,hf⟩,hh⟩:=hs1.formV 0 rfl;obtain ⟨gv,cv,rfl⟩:=hh (by simp; omega);rw [show (Z.map Prod.fst).length=n by simpa using hyl] at hs1 ⊢;clear hf hh;have rowAt:∀{wv:World} {Y:Zl} {v:Value} {m:Nat},HS w wv [aV 33 v (Y.map Prod.fst),aRs Y]→Sqn (Y.map Prod.snd) n→m<n→∃gr cr l,Y[m]? = some (.slice (some ⟨gr,0,none⟩) n cr,l)∧l.length=n:=fun {wv Y v m} hs hsq hm=>by
  have hyl:Y.length=n:=by simpa using hsq.len
  obtain ⟨z,hz⟩:∃z,Y[m]? = some z:=⟨Y[m]'(by omega),zNh _⟩;have hzl:z.2.length=n:=hsq.row z.2 (List.mem_map_of_mem (zNi hz));obtain ⟨rv,lz⟩:=z;have hzl:lz.length=n:=hzl;obtain ⟨F,hF,_⟩:=HSx.get hs 1 rfl;have hf:FI F wv rv lz:=hF.1 _ (zNi hz);obtain ⟨a9,c9,rfl⟩:=hf.form;obtain ⟨g9,rfl,_⟩:=hf.head (by omega);rw [hzl] at hz;exact ⟨g9,c9,lz,hz,hzl⟩
 obtain ⟨gr,cr,lz,hz,hzl⟩:=rowAt hs1 hq hi;obtain ⟨y,hy⟩:=zCp hzl hj;have c4:=(hs1.cellV 0 rfl (j:=i) (r:=.slice (some ⟨gr,0,none⟩) n cr) (by simp [hz])).1;obtain ⟨c5,c6⟩:=HSx.cellS hs1 1 rfl hz hy;have hs9:=HS.putS hs1 1 rfl hz j p;have HST:((Z.set i (Value.slice (some ⟨gr,0,none⟩) n cr,lz.set j p)).map Prod.snd)=put1 (Z.map Prod.snd) i j p:=by
  rw [List.map_set];unfold put1;rw [List.getElem?_map,hz];rfl
 have hsq2:Sqn ((Z.set i (Value.slice (some ⟨gr,0,none⟩) n cr,lz.set j p)).map Prod.snd) n:=by rw [HST]; exact zCU hq hi
 have hs9:HS w (w1.setCell ⟨gr,j,none⟩ (.int .i64 p)) [aV 33 (.slice (some ⟨gv,0,none⟩) n cv) ((Z.set i (Value.slice (some ⟨gr,0,none⟩) n cr,lz.set j p)).map Prod.fst),aRs (Z.set i (Value.slice (some ⟨gr,0,none⟩) n cr,lz.set j p))]:=by rw [zF4 hz]; exact hs9
 have HST3:=zNg HST;generalize hY:Z.set i (Value.slice (some ⟨gr,0,none⟩) n cr,lz.set j p)=Y at *;obtain ⟨gs,cs,ls,hy1,hyl1⟩:=rowAt hs9 hsq2 hj;obtain ⟨y2,hy2⟩:=zCp hyl1 hi;have d4:=(hs9.cellV 0 rfl (j:=j) (r:=.slice (some ⟨gs,0,none⟩) n cs) (by simp [hy1])).1;obtain ⟨d5,d6⟩:=HSx.cellS hs9 1 rfl hy1 hy2;have hs10:=HS.putS hs9 1 rfl hy1 i q;have HST2:Hid ((Y.set j (Value.slice (some ⟨gs,0,none⟩) n cs,ls.set i q)).map Prod.snd=put1 (Y.map Prod.snd) j i q):=zNg (by
  rw [List.map_set];unfold put1;rw [List.getElem?_map,hy1];rfl)
 have HF2:=zNg (zF4 (l':=ls.set i q) hy1);have i1:(0:Int)≤(i:Int):=by omega
 have i2:(0:Int)≤(j:Int):=by omega
 have i3:(i:Int)<(n:Int):=by omega
 have i4:(j:Int)<(n:Int):=by omega
 clear hz hy hs1 hq HST rowAt hy1 hy2 hs9 hsq2;go_wp2_with fail
 go_ret
 have hs11:HS w ((w1.setCell ⟨gr,j,none⟩ (.int .i64 p)).setCell ⟨gs,i,none⟩ (.int .i64 q)) [aV 33 (.slice (some ⟨gv,0,none⟩) n cv) ((Y.set j (Value.slice (some ⟨gs,0,none⟩) n cs,ls.set i q)).map Prod.fst),aRs (Y.set j (Value.slice (some ⟨gs,0,none⟩) n cs,ls.set i q))]:=by rw [HF2.out]; exact hs10
 have hs12:=((hs11.shutF (Z:=Y.set j (Value.slice (some ⟨gs,0,none⟩) n cs,ls.set i q)) 0 1 (by decide) rfl rfl).pick [0] (by decide));have hs12:HS w ((w1.setCell ⟨gr,j,none⟩ (.int .i64 p)).setCell ⟨gs,i,none⟩ (.int .i64 q)) [aF (.slice (some ⟨gv,0,none⟩) n cv) ((Y.set j (Value.slice (some ⟨gs,0,none⟩) n cs,ls.set i q)).map Prod.snd)]:=hs12;rw [HST2.out,HST3.out] at hs12;exact ⟨_,rfl,hs12.F 0 rfl,hs12.bl⟩
theorem zIl (w:World):Calls Tryz.prog 136 #[.string ⟨#[65,49]⟩] w (TcP 0 w):=by
 have HC:=zNg (fun wv=>zAr (n:=1) (by omega) wv);have hb:((((⟨#[65,49]⟩:ByteArray)[1]'(by decide)).toNat:Nat):Int)=49:=by decide
 go_enter Tryz.func136,Tryz.ntmps136
 go_wp2_with fail
 refine (HC.out w).mono ?_;rintro e w1 ⟨r1,rfl,f1,b1⟩;go_wp2_with fail
 go_ret2
 exact TcP.of f1 b1 (by decide)
theorem zIm (w:World):Calls Tryz.prog 136 #[.string ⟨#[65,50]⟩] w (TcP 1 w):=by
 have HC:=zNg (fun wv=>zAr (n:=2) (by omega) wv);have hb:((((⟨#[65,50]⟩:ByteArray)[1]'(by decide)).toNat:Nat):Int)=50:=by decide
 go_enter Tryz.func136,Tryz.ntmps136
 go_wp2_with fail
 refine (HC.out w).mono ?_;rintro e w1 ⟨r1,rfl,f1,b1⟩;go_wp2_with fail
 go_ret2
 exact TcP.of f1 b1 (by decide)
theorem zIn (w:World):Calls Tryz.prog 136 #[.string ⟨#[65,51]⟩] w (TcP 2 w):=by
 have HC:=zNg (fun wv=>zAr (n:=3) (by omega) wv);have hb:((((⟨#[65,51]⟩:ByteArray)[1]'(by decide)).toNat:Nat):Int)=51:=by decide
 go_enter Tryz.func136,Tryz.ntmps136
 go_wp2_with fail
 refine (HC.out w).mono ?_;rintro e w1 ⟨r1,rfl,f1,b1⟩;go_wp2_with fail
 go_ret2
 exact TcP.of f1 b1 (by decide)
theorem zMm (w:World):Calls Tryz.prog 136 #[.string ⟨#[65,52]⟩] w (TcP 3 w):=by
 have HC:=zNg (fun wv=>zAr (n:=4) (by omega) wv);have hb:((((⟨#[65,52]⟩:ByteArray)[1]'(by decide)).toNat:Nat):Int)=52:=by decide
 go_enter Tryz.func136,Tryz.ntmps136
 go_wp2_with fail
 refine (HC.out w).mono ?_;rintro e w1 ⟨r1,rfl,f1,b1⟩;go_wp2_with fail
 go_ret2
 exact TcP.of f1 b1 (by decide)
theorem zIo (w:World):Calls Tryz.prog 136 #[.string ⟨#[66,50]⟩] w (TcP 4 w):=by
 have HC:=zNg (fun wv=>zAr (n:=2) (by omega) wv);have hb:((((⟨#[66,50]⟩:ByteArray)[1]'(by decide)).toNat:Nat):Int)=50:=by decide
 go_enter Tryz.func136,Tryz.ntmps136
 go_wp2_with fail
 refine (HC.out w).mono ?_;rintro e w1 ⟨r1,rfl,f1,b1⟩;have hc0:=zAx (i:=0) (j:=1) f1.read (zBi _) (by omega) (by omega) (by omega) (-1) (-2);go_wp2_with fail
 refine hc0.mono ?_;rintro e w2 ⟨r2,rfl,f2,b2'⟩;have b2:=zAA.step b1 b2';go_wp2_with fail
 go_ret2
 exact TcP.of (FC.mono f2 (fun b hb=>⟨Nat.le_trans b1.size hb.1,hb.2⟩)) b2 (by decide)
theorem zMn (w:World):Calls Tryz.prog 136 #[.string ⟨#[66,51]⟩] w (TcP 5 w):=by
 have HC:=zNg (fun wv=>zAr (n:=3) (by omega) wv);have hb:((((⟨#[66,51]⟩:ByteArray)[1]'(by decide)).toNat:Nat):Int)=51:=by decide
 go_enter Tryz.func136,Tryz.ntmps136
 go_wp2_with fail
 refine (HC.out w).mono ?_;rintro e w1 ⟨r1,rfl,f1,b1⟩;have hc0:=zAx (i:=1) (j:=2) f1.read (zBi _) (by omega) (by omega) (by omega) (-1) (-2);go_wp2_with fail
 refine hc0.mono ?_;rintro e w2 ⟨r2,rfl,f2,b2'⟩;have b2:=zAA.step b1 b2';go_wp2_with fail
 go_ret2
 exact TcP.of (FC.mono f2 (fun b hb=>⟨Nat.le_trans b1.size hb.1,hb.2⟩)) b2 (by decide)
theorem zMo (w:World):Calls Tryz.prog 136 #[.string ⟨#[67,51]⟩] w (TcP 7 w):=by
 have HC:=zNg (fun wv=>zAr (n:=3) (by omega) wv);have hb:((((⟨#[67,51]⟩:ByteArray)[1]'(by decide)).toNat:Nat):Int)=51:=by decide
 go_enter Tryz.func136,Tryz.ntmps136
 go_wp2_with fail
 refine (HC.out w).mono ?_;rintro e w1 ⟨r1,rfl,f1,b1⟩;have hc0:=zAx (i:=1) (j:=2) f1.read (zBi _) (by omega) (by omega) (by omega) (-2) (-1);go_wp2_with fail
 refine hc0.mono ?_;rintro e w2 ⟨r2,rfl,f2,b2'⟩;have b2:=zAA.step b1 b2';go_wp2_with fail
 go_ret2
 exact TcP.of (FC.mono f2 (fun b hb=>⟨Nat.le_trans b1.size hb.1,hb.2⟩)) b2 (by decide)
theorem zMp (w:World):Calls Tryz.prog 136 #[.string ⟨#[68,52]⟩] w (TcP 9 w):=by
 have HC:=zNg (fun wv=>zAr (n:=4) (by omega) wv);have hb:((((⟨#[68,52]⟩:ByteArray)[1]'(by decide)).toNat:Nat):Int)=52:=by decide
 go_enter Tryz.func136,Tryz.ntmps136
 go_wp2_with fail
 refine (HC.out w).mono ?_;rintro e w1 ⟨r1,rfl,f1,b1⟩;have hc0:=zAx (i:=2) (j:=3) f1.read (zBi _) (by omega) (by omega) (by omega) 0 0;go_wp2_with fail
 refine hc0.mono ?_;rintro e w2 ⟨r2,rfl,f2,b2'⟩;have b2:=zAA.step b1 b2';have hc1:=zAx (i:=1) (j:=3) f2.read (zCU (zCU (zBi _) (by omega)) (by omega)) (by omega) (by omega) (by omega) (-1) (-1);go_wp2_with fail
 refine hc1.mono ?_;rintro e w3 ⟨r3,rfl,f3,b3'⟩;have b3:=zAA.step b2 b3';go_wp2_with fail
 go_ret2
 exact TcP.of (FC.mono f3 (fun b hb=>⟨Nat.le_trans b2.size hb.1,hb.2⟩)) b3 (by decide)
theorem zLL (w:World):Calls Tryz.prog 136 #[.string ⟨#[71,50]⟩] w (TcP 11 w):=by
 have HC:=zNg (fun wv=>zAr (n:=2) (by omega) wv);have hb:((((⟨#[71,50]⟩:ByteArray)[1]'(by decide)).toNat:Nat):Int)=50:=by decide
 go_enter Tryz.func136,Tryz.ntmps136
 go_wp2_with fail
 refine (HC.out w).mono ?_;rintro e w1 ⟨r1,rfl,f1,b1⟩;have hc0:=zAx (i:=0) (j:=1) f1.read (zBi _) (by omega) (by omega) (by omega) (-1) (-3);go_wp2_with fail
 refine hc0.mono ?_;rintro e w2 ⟨r2,rfl,f2,b2'⟩;have b2:=zAA.step b1 b2';go_wp2_with fail
 go_ret2
 exact TcP.of (FC.mono f2 (fun b hb=>⟨Nat.le_trans b1.size hb.1,hb.2⟩)) b2 (by decide)
end Go.Proofs.YtlchafedbnihoaaGreatDoor
