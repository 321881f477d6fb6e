/- The arrows between the elements of a small group, by the program. Condition: sizes up to 2^24. -/
import Derived.Test.YtlgcdacpjcnjgaaGreatDoorJKzN
import Derived.Test.YtlgcdacpjcnjgaaGreatDoorJGWgP
namespace Go.Proofs.YtlgcdacpjcnjgaaGreatDoor
open Go.RowKit
set_option maxRecDepth 20000
set_option maxHeartbeats 8000000
theorem zNr {s:Nat} {f:Nat→Bool} (h:∀t,t<s→f t=false) (hs:f s=false):∀t,t<s+1→f t=false:=fun t ht=>by
 rcases Nat.lt_or_ge t s with h1 | h1
 ·exact h t h1
 ·have:t=s:=by omega
  subst this; exact hs
theorem zNs {r:Nat} {f:Nat→Bool} (h:∀t,t<r→f t=false):(List.range r).any f=false:=by
 rw [List.any_eq_false];intro t ht;rw [h t (List.mem_range.1 ht)]; simp
theorem zP2 {r s:Nat} {f:Nat→Bool} (hs:s<r) (h:f s=true):(List.range r).any f=true:=by
 rw [List.any_eq_true];exact ⟨s,List.mem_range.2 hs,h⟩
theorem zNl {S:Nat→Prop} {x:Value} {c:List (List Int)} {w:World} (h:RII S w x c) (hl:total c≤16777216) (hm:HasM w) :
  Calls Tryz.prog 17 #[x] w fun e w'=>∃r,e=.returned (.tuple #[r,.bool (okK c)])∧FA (New w w') w' r (wgR c)∧Below w.heap.size w w':=by
 have mixed:Tryz.prog.follows .mixedOrders=true:=by kernel_rfl
 have hnew:=zMx h hm hl;have HNK:Hid (NewK c w=fun e w'=>∃p,e=.returned (.tuple #[p,.bool (okK c)])∧(okK c=true→∃g,p=.pointer (some ⟨g,0,none⟩)∧KzA w' g c)∧Below w.heap.size w w'):=zTD rfl;rw [HNK.out] at hnew;obtain ⟨aa,ca,rfl⟩:=h.form;clear h hm;cases hk:okK c with
 | false =>
  have HR:Hid (wgR c=[]):=zTD (by unfold wgR; rw [hk]; rfl);rw [hk] at hnew;clear hk;go_enter Tryz.func17,Tryz.ntmps17
  go_wp2_with fail
  refine hnew.mono ?_;rintro e w1 ⟨p,rfl,_,b1⟩;have hfr:=zIm (HS.nil b1) (w1:=w1.alloc (.cells #[] 39)) rfl;have hfa:=HS.Ar hfr 0 rfl;clear hnew;go_wp2_with fail
  go_ret2
  exact ⟨_,rfl,by rw [HR.out]; exact hfa,hfr.bl⟩
 | true =>
  have K0:=KlOk.of hk;have HR:Hid (wgR c=wgL (elL c) (tabE c (elL c)) c.length (klT c) (elL c).length):=zTD (by unfold wgR; rw [if_pos hk]);have HTB:=zTD (fun (z i:Nat) (hz:z<(elL c).length) (hi:i<c.length)=>K0.tab.lt z i hz hi);have HDP:=zTD K0.tab.deep;have HRW:Hid (RowsOk (elL c) (klT c) (elL c).length):=zTD (K0.rows _ (zTI _));have hN24:=K0.few;have hr4:=K0.cart.le;rw [hk] at hnew;generalize wgR c=res at *;clear hk K0;go_enter Tryz.func17,Tryz.ntmps17
  go_wp2_with fail
  refine hnew.mono ?_;rintro e w1 ⟨p,rfl,hg,b1⟩;obtain ⟨g,rfl,KA⟩:=hg trivial;have HB1:=zTD b1;obtain ⟨w2,hw2⟩:∃w2,w2=w1.alloc (.cells #[] 39):=⟨_,rfl⟩;have hs2:=zIm (HS.nil (Below.refl _ w1)) hw2;obtain ⟨bE,oE,cE,bT,oT,cT,mb,bP,oP,cP,K1,_⟩:=KA;have HK:=zTD (fun (wv:World) (hb:Below w1.heap.size w1 wv)=>K1.below hb);have hc0:=(K1.below hs2.bl).c0;have HW2:=zTD hw2;have hs2:HS w1 w2 [aA (.slice (some ⟨w1.heap.size,0,none⟩) 0 0) (wgL (elL c) (tabE c (elL c)) c.length (klT c) 0)]:=hs2;generalize hE:elL c=E at *;generalize tabE c E=tab at *;generalize hR:klT c=R at *;generalize c.length=r at *;generalize hN:E.length=N at *;have HEN:=zTD hN;rw [hw2] at hc0;clear hnew hg hw2 K1 hE hR hN b1;go_wp2_with fail
  rw [<-HW2.out];clear hc0;go_loopw [6,25] (fun oo ii wr=>∃(i:Nat) (vo:Value),vo=oo∧i≤N∧ii=.int .i64 i∧HS w1 wr [aA vo (wgL E tab r R i)]) (fun _ ii _=>N-(intOf ii).toNat)
  case atStart=>exact ⟨0,_,rfl,Nat.zero_le _,rfl,hs2⟩
  case round =>
   clear hs2;obtain ⟨i,vo,rfl,hiN,rfl,hs⟩:=hrel;by_cases hi:i<N
   ·have i1:(i:Int)<(N:Int):=by omega
    have hc0:=(HK.out wr hs.bl).c0;have HLN:=zTD (zGB E tab r R i);have HLL:=zTD (zHD E tab r R i);have hs:HS w1 wr [aA vo (wgL E tab r R i++wgJ E tab r R i 0)]:=by
     have e:wgJ E tab r R i 0=[]:=rfl;rw [e,List.append_nil]; exact hs
    go_wp2_with fail
    clear hc0;go_loopw [6,33] (fun oo jj wr=>∃(j:Nat) (vo:Value),vo=oo∧j≤N∧jj=.int .i64 j∧HS w1 wr [aA vo (wgL E tab r R i++wgJ E tab r R i j)]) (fun _ jj _=>N-(intOf jj).toNat)
    case atStart=>exact ⟨0,_,rfl,Nat.zero_le _,rfl,hs⟩
    case round =>
     clear hs;obtain ⟨j,vo,rfl,hjN,rfl,hs⟩:=hrel;by_cases hj:j<N
     ·have j1:(j:Int)<(N:Int):=by omega
      have KA1:=HK.out wr hs.bl;have hlen1:=HRW.out.len j i;have hlen2:=HRW.out.len i j;have hdj:=HDP.out j;have hdi:=HDP.out i;have hmu1:=zI3 KA1 hi hj HDP.out (by omega);have hin1:=zMr (HRW.out.ini j i) ((lenE E j:Int)-lenE E i);have hin2:=zMr (HRW.out.ini i j) ((lenE E i:Int)-lenE E j);have HM2:=zTD (fun (wv:World) (hb:Below w1.heap.size w1 wv)=>zI3 (HK.out wv hb) hj hi HDP.out (by omega));have HJN:Hid (wgJ E tab r R i (j+1)=wgJ E tab r R i j++wgA E tab r R i j):=zTD (zGA E tab r R i j);have HJL:=zTD (zHC E tab r R i j);have HA:Hid (wgA E tab r R i j=if muI (zAA R j i) ((lenE E j:Int)-lenE E i)+muI (zAA R i j) ((lenE E i:Int)-lenE E j)≠0∧dB E tab r i j=true then [(i,j,muI (zAA R j i) ((lenE E j:Int)-lenE E i)+muI (zAA R i j) ((lenE E i:Int)-lenE E j))] else []):=zTD rfl
      have hz:muI (zAA R j i) ((lenE E j:Int)-lenE E i)=0∨muI (zAA R i j) ((lenE E i:Int)-lenE E j)=0:=by
       rcases Int.lt_or_le (lenE E j:Int) (lenE E i) with h | h
       ·exact .inl (zDL _ (by omega))
       ·exact .inr (zDL _ (by omega))
      generalize muI (zAA R j i) ((lenE E j:Int)-lenE E i)=m1 at *;generalize muI (zAA R i j) ((lenE E i:Int)-lenE E j)=m2 at *;have hm1:-9223372036854775808≤m1+m2:=by omega
      have hm2:m1+m2≤9223372036854775807:=by omega
      clear KA1 hlen1 hlen2 hdj hdi hz hin1 hin2;go_wp2_with fail
      refine hmu1.mono ?_;rintro e w3 ⟨rfl,b3⟩;have hs3:=HSx.below hs b3;have hmu2:=HM2.out w3 hs3.bl;clear hmu1 hs b3 HM2;go_wp2_with fail
      refine hmu2.mono ?_;rintro e w4 ⟨rfl,b4⟩;have hs4:=HSx.below hs3 b4;clear hmu2 hs3 b4;obtain ⟨m,hmm⟩:∃m,m1+m2=m:=⟨_,rfl⟩;rw [hmm] at HA;by_cases h0:m=0
      ·have e0:(m1+m2 == 0)=true:=by rw [beq_iff_eq]; omega
       have HAE:Hid (wgA E tab r R i j=[]):=zTD (by rw [HA.out,if_neg (fun h=>h.1 h0)]);have hs5:HS w1 w4 [aA vo (wgL E tab r R i++wgJ E tab r R i (j+1))]:=by rw [HJN.out,HAE.out,List.append_nil]; exact hs4
       clear HA h0 HAE HJN hs4;go_wp2_with fail
       go_roundw
       case rel=>exact ⟨j+1,vo,rfl,by omega,by go_num,hs5⟩
       case measure=>simp [intOf]; omega
      ·have e0:(m1+m2 == 0)=false:=by rw [beq_eq_false_iff_ne]; omega
       have HAT:Hid (dB E tab r i j=true→wgA E tab r R i j=[(i,j,m1+m2)]):=zTD (fun h=>by rw [HA.out,if_pos ⟨h0,h⟩,hmm]);have HAF:Hid (dB E tab r i j=false→wgA E tab r R i j=[]):=zTD (fun h=>by rw [HA.out,if_neg (fun h2=>by rw [h] at h2; cases h2.2)]);have HDB:Hid (dB E tab r i j=(List.range r).any fun s=>decide (lenE E (tab j s)<lenE E j) && !decide (lenE E (tab i s)<lenE E i)):=zTD rfl;have HF0:Hid (∀t,t<0→(decide (lenE E (tab j t)<lenE E j) && !decide (lenE E (tab i t)<lenE E i))=false):=zTD (fun t ht=>by omega);clear HA h0 hmm;generalize wgA E tab r R i j=A at *;generalize dB E tab r i j=D at *;go_wp2_with fail
       go_loopw [6,49] (fun oo ss wr=>∃s:Nat,vo=oo∧s≤r∧ss=.int .i64 s∧HS w1 wr [aA vo (wgL E tab r R i++wgJ E tab r R i j)]∧Hid (∀t,t<s→(decide (lenE E (tab j t)<lenE E j) && !decide (lenE E (tab i t)<lenE E i))=false)) (fun _ ss _=>r-(intOf ss).toNat)
       case atStart=>exact ⟨0,rfl,Nat.zero_le _,rfl,hs4,HF0⟩
       case round =>
        clear hs4 HF0;obtain ⟨s,rfl,hsr,rfl,hs,HF⟩:=hrel;by_cases hs1:s<r
        ·have k1:(s:Int)<(r:Int):=by omega
         have hsh:=zC0 (HK.out wr hs.bl) (i:=s) (z:=j) hs1 hj (HTB.out j s hj hs1);have HSH:=zTD (fun (wv:World) (hb:Below w1.heap.size w1 wv)=>zC0 (HK.out wv hb) (i:=s) (z:=i) hs1 hi (HTB.out i s hi hs1));have HFN:=zTD (fun h=>zNr (f:=fun t=>decide (lenE E (tab j t)<lenE E j) && !decide (lenE E (tab i t)<lenE E i)) HF.out h);have HON:=zTD (fun h=>zP2 (f:=fun t=>decide (lenE E (tab j t)<lenE E j) && !decide (lenE E (tab i t)<lenE E i)) hs1 h);rw [<-HDB.out] at HON;generalize decide (lenE E (tab j s)<lenE E j)=c1 at *;generalize decide (lenE E (tab i s)<lenE E i)=c2 at *;clear HF;cases c1 with
         | false =>
          have HFN:=zTD (HFN.out rfl);clear HON HSH;go_wp2_with fail
          refine hsh.mono ?_;rintro e w5 ⟨rfl,b5⟩;have hs5:=HSx.below hs b5;clear hsh hs b5;go_wp2_with fail
          go_roundw
          case rel=>exact ⟨s+1,rfl,by omega,by go_num,hs5,HFN⟩
          case measure=>simp [intOf]; omega
         | true =>
          go_wp2_with fail
          refine hsh.mono ?_;rintro e w5 ⟨rfl,b5⟩;have hs5:=HSx.below hs b5;have hsh2:=HSH.out w5 hs5.bl;clear hsh hs b5 HSH;go_wp2_with fail
          refine hsh2.mono ?_;rintro e w6 ⟨rfl,b6⟩;have hs6:=HSx.below hs5 b6;clear hsh2 hs5 b6;cases c2 with
          | true =>
           have HFN:=zTD (HFN.out rfl);clear HON;go_wp2_with fail
           go_roundw
           case rel=>exact ⟨s+1,rfl,by omega,by go_num,hs6,HFN⟩
           case measure=>simp [intOf]; omega
          | false =>
           have HAA:=zTD (HAT.out (HON.out rfl));clear HFN HON HAT HAF HDB;obtain ⟨w7,hw7⟩:∃w7,w7=w6.alloc (.cells #[.int .i64 i,.int .i64 j,.int .i64 (m1+m2)] 39):=⟨_,rfl⟩;have hs7:HS w1 w7 [aA vo (wgL E tab r R i++wgJ E tab r R i j)]:=by rw [hw7]; exact HSx.alloc hs6 _
           have hc70:w7.cell? ⟨w6.heap.size,0,none⟩=some (.int .i64 i):=by rw [hw7]; go_simp
           have hc71:w7.cell? ⟨w6.heap.size,1,none⟩=some (.int .i64 j):=by rw [hw7]; go_simp
           have hc72:w7.cell? ⟨w6.heap.size,2,none⟩=some (.int .i64 (m1+m2)):=by rw [hw7]; go_simp
           have HW7:=zTD hw7;have HLN7:Hid ((wgL E tab r R i++wgJ E tab r R i j).length+1≤67108864):=zTD (by
            rw [List.length_append];have h1:=HLL.out;have h2:=HJL.out;rw [HEN.out] at h1;have h3:i*N≤24*24:=Nat.mul_le_mul (by omega) (by omega);omega)
           clear hs6 hw7;go_wp2_with (at_builtin; go_must (rw [<-HW7.out]; refine zGs (y:=(i,j,m1+m2)) rfl _ _ rfl rfl hs7 0 rfl rfl hc70 hc71 hc72 HLN7.out ?_))
           intro v8 w8 hs8;have hs8:HS w1 w8 [aA v8 (wgL E tab r R i++wgJ E tab r R i (j+1))]:=by rw [HJN.out,HAA.out]; exact (List.append_assoc _ _ _) ▸ hs8
           clear hs7 hc70 hc71 hc72 HAA;go_wp2_with fail
           go_roundw
           case rel=>exact ⟨j+1,v8,rfl,by omega,by go_num,hs8⟩
           case measure=>simp [intOf]; omega
        ·have k1:¬(s:Int)<(r:Int):=by omega
         have hsr2:s=r:=by omega
         rw [hsr2] at HF;have HAA:=zTD (HAF.out (HDB.out.trans (zNs HF.out)));have hs5:HS w1 wr [aA vo (wgL E tab r R i++wgJ E tab r R i (j+1))]:=by rw [HJN.out,HAA.out,List.append_nil]; exact hs
         clear hsr2 HF HAA hs HAT HAF HDB;go_wp2_with fail
         go_roundw
         case rel=>exact ⟨j+1,vo,rfl,by omega,by go_num,hs5⟩
         case measure=>simp [intOf]; omega
     ·have j1:¬(j:Int)<(N:Int):=by omega
      have hjN2:j=N:=by omega
      rw [hjN2] at hs;have hs:HS w1 wr [aA vo (wgL E tab r R (i+1))]:=by rw [HLN.out,HEN.out]; exact hs
      clear hjN2;go_wp2_with fail
      go_roundw
      case rel=>exact ⟨i+1,vo,rfl,by omega,by go_num,hs⟩
      case measure=>simp [intOf]; omega
   ·have i1:¬(i:Int)<(N:Int):=by omega
    have hiN2:i=N:=by omega
    rw [hiN2,<-HR.out] at hs;have hfa:=HS.Ar hs 0 rfl;have hbl:=hs.bl;clear hiN2;go_wp2_with fail
    go_ret2
    exact ⟨_,rfl,hfa.mono (fun b hb=>⟨Nat.le_trans HB1.out.size hb.1,hb.2⟩),zAC.step HB1.out hbl⟩
end Go.Proofs.YtlgcdacpjcnjgaaGreatDoor
