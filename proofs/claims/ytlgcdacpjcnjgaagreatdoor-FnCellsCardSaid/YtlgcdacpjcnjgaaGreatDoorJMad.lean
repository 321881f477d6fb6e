/- One polynomial from those of lesser elements, by the program. Condition: at most 24 elements. -/
import Derived.Test.YtlgcdacpjcnjgaaGreatDoorJGKzC
import Derived.Test.YtlgcdacpjcnjgaaGreatDoorJGKzB
import Derived.Deep.DeepCutAuto
namespace Go.Proofs.YtlgcdacpjcnjgaaGreatDoor
open Go.RowKit
set_option maxRecDepth 20000
set_option maxHeartbeats 8000000
structure MdIn (E:List (List Int)) (tab:Nat→Nat→Nat) (r N:Nat) (R:List (List (List Int))) (P:Nat→Nat→List Int) (v:Nat):Prop where
 tbk:TabOk E tab r
 rows:RowsOk E R v
 en:E.length=N
 pr:∀u x,x<v→P u x=zAA R x u
section
variable {w:World} {g r N bE oE cE bT oT cT bP oP cP:Nat} {mb:Value} {E:List (List Int)} {tab:Nat→Nat→Nat} {P:Nat→Nat→List Int} {R:List (List (List Int))}
theorem zOt (K:KzW w g E tab r N bE oE cE bT oT cT mb bP oP cP P) {u v:Nat} (I:MdIn E tab r N R P v) (hu:u<N) (hv:v<N) :
  Calls Tryz.prog 92 #[.pointer (some ⟨g,0,none⟩),.int .i64 u,.int .i64 v] w fun e w'=>∃r,e=.returned r∧FI (New w w') w' r (zA4 E tab (zAA R) v u)∧Below w.heap.size w w':=by
 have mixed:Tryz.prog.follows .mixedOrders=true:=by kernel_rfl
 have HR:Hid (zA4 E tab (zAA R) v u=if u=v then [1] else if lenE E v≤lenE E u then [] else
  (List.range E.length).foldl (klY E tab (zAA R) v (tab v (hdE E v)) (hdE E v) u) (zAE E tab (zAA R) (tab v (hdE E v)) (hdE E v) u)):=zTD rfl
 generalize zA4 E tab (zAA R) v u=res at *;by_cases huv:u=v
 ·have HZ:Hid (res=[1]):=zTD (by rw [HR.out,if_pos huv]);have e0:((u:Int) == (v:Int))=true:=by simp [huv]
  have hfr:=zFw (HS.nil (Below.refl _ w)) 1 (w1:=w.alloc (.cells #[.int .i64 1] 3)) rfl;have hfi:=HS.I hfr 0 rfl;clear HR huv K I;go_enter Tryz.func92,Tryz.ntmps92
  go_wp2_with fail
  go_ret
  exact ⟨_,rfl,by rw [HZ.out]; exact hfi,hfr.bl⟩
 ·have e0:((u:Int) == (v:Int))=false:=by simp; omega
  have b1:Below w.heap.size w w.drew:=(Below.refl _ w).drew;have Kd:=K.below b1;have hc0:=Kd.c0;obtain ⟨au,cu,heu⟩:=Kd.e u hu;obtain ⟨av,cv,hev⟩:=Kd.e v hv;have iu:(u:Int)<(N:Int):=by omega
  have iv:(v:Int)<(N:Int):=by omega
  by_cases hle:lenE E v≤lenE E u
  ·have HZ:Hid (res=[]):=zTD (by rw [HR.out,if_neg huv,if_pos hle]);have i1:(lenE E v:Int)≤(lenE E u:Int):=by omega
   obtain ⟨hf,hb⟩:=zAN (w:=w.drew) b1 rfl;generalize lenE E u=lu at *;generalize lenE E v=lv at *;clear HR huv K I Kd hle;go_enter Tryz.func92,Tryz.ntmps92
   go_wp2_with fail
   go_big_region_o
   go_wp2_with fail
   go_ret
   exact ⟨_,rfl,by rw [HZ.out]; exact hf,hb⟩
  ·have i1:¬(lenE E v:Int)≤(lenE E u:Int):=by omega
   have hv0:0<v:=by
    rcases Nat.eq_zero_or_pos v with h | h
    ·subst h; rw [I.tbk.one] at hle; omega
    ·exact h
   obtain ⟨hs1,hk1⟩:=I.tbk.hd v hv0 (by rw [I.en]; exact hv);have hkv:=I.tbk.k_lt hv0 (by rw [I.en]; exact hv);have hxN:=I.tbk.lt u (hdE E v) (by rw [I.en]; exact hu) hs1;have HZ:Hid (res=(List.range N).foldl (klY E tab (zAA R) v (tab v (hdE E v)) (hdE E v) u) (zAE E tab (zAA R) (tab v (hdE E v)) (hdE E v) u)):=zTD (by rw [HR.out,if_neg huv,if_neg hle,I.en]);have HK:=zTD (fun (wv:World) (hb:Below w.heap.size w wv)=>K.below hb);have HDP:=zTD I.tbk.deep;have HRL:=zTD I.rows.len;have HRI:=zTD I.rows.ini;have HPR:=zTD I.pr;have HLT:=zTD (fun (z:Nat) (hz:z<N)=>(show tab z (hdE E v)<N by have:=I.tbk.lt z (hdE E v) (by rw [I.en]; exact hz) hs1; rwa [I.en] at this));have HSRT:=zTD (fun (z:Nat) (hz:lenE E z<lenE E v) (hz2:z<N)=>(show z<v from by
    rcases Nat.lt_or_ge z v with h | h
    ·exact h
    ·have:=I.tbk.srt v z h (by rw [I.en]; exact hz2); omega))
   obtain ⟨bs,os,cs,hes,hss⟩:=Kd.h v hv0 hv;have Kd2:=K.below b1.drew;have hc1:=Kd2.c1;obtain ⟨b3,o3,c3,ht1,ht2⟩:=Kd2.t v _ hv hs1;obtain ⟨b4,o4,c4,ht3,ht4⟩:=Kd2.t u _ hu hs1;have hN24:N≤24:=by rw [<-I.en]; exact I.tbk.few
   rw [I.en] at hxN;generalize hs:hdE E v=s at *;generalize hk:tab v s=k at *;have HXX:Hid (zAE E tab (zAA R) k s u=if lenE E (tab u s)<lenE E u then addP (zAA R k (tab u s)) (zAQ (zAA R k u) 1) else addP (zAQ (zAA R k (tab u s)) 1) (zAA R k u)):=zTD rfl;have hkN:k<N:=by omega
   have hb3:Below w.heap.size w (w.alloc (.cells #[] 3)).drew.drew:=((Below.refl _ w).alloc (zTI _) _).drew.drew;have hsh8:=zC0 (K.below hb3) (i:=s) (z:=u) hs1 hu hxN;have is:(s:Int)<(r:Int):=by omega
   have HKD:Hid (lenE E k+1=lenE E v):=zTD hk1;generalize hx:tab u s=x at *;generalize hlu:lenE E u=lu at *;generalize hlv:lenE E v=lv at *;have HLV:=zTD hlv;have ilv:(0:Int)<(lv:Int):=by omega
   clear HR K I Kd Kd2 hs hk hx hle huv hk1 hlv;go_enter Tryz.func92,Tryz.ntmps92
   go_wp2_with fail
   go_big_region_o
   clear heu hev;go_wp2_with fail
   go_big_region_o
   clear hes hss hc0 ht1 ht2 ht3 ht4 hc1;obtain ⟨R1,hR1⟩:∃R1,decide (lenE E x<lu)=R1:=⟨_,rfl⟩;rw [hR1] at hsh8;have HRB:=zTD hR1;clear hR1;go_upto_region 8 with fail
   generalize (w.alloc (.cells #[] 3)).drew.drew=w3 at *;go_upto_if 69 with (first | (go_at_call 53; refine hsh8.mono ?_; rintro e w4 ⟨rfl,b4⟩))
   have hb4:=zAC.step hb3 b4;clear hsh8 hb3 b4;go_cut [10] (fun pp wx=>HS w wx [aI pp (zAE E tab (zAA R) k s u)]∧Hid (InI (zAE E tab (zAA R) k s u)∧(zAE E tab (zAA R) k s u).length≤62))
   case first =>
    cases R1 with
    | true =>
     have hlt:lenE E x<lu:=of_decide_eq_true HRB.out;have HXS:Hid (zAE E tab (zAA R) k s u=addP (zAA R k x) (zAQ (zAA R k u) 1)):=zTD (by rw [HXX.out,if_pos hlt]);clear hlt HXX;have K4:=HK.out w4 hb4;have Kd4:=K4.below (Below.refl _ w4).drew;have hg3:=Kd4.c3;obtain ⟨bx,ox,cx,hx1,hrx⟩:=Kd4.p x hxN;obtain ⟨a1,c1,hx2,hp1⟩:=hrx k hkN;obtain ⟨bu,ou,cu2,hu1,hru⟩:=Kd4.p u hu;obtain ⟨a2,c2,hu2,hp2⟩:=hru k hkN;rw [HPR.out x k hkv] at hx2 hp1;rw [HPR.out u k hkv] at hu2 hp2;have HI1:=zTD (HRI.out k x);have HI2:=zTD (HRI.out k u);have HL1:Hid ((zAA R k x).length≤25):=zTD (by have:=HRL.out k x; have:=HDP.out k; omega);have HL2:Hid ((zAA R k u).length≤25):=zTD (by have:=HRL.out k u; have:=HDP.out k; omega);have hsf:=zEV hp2 1 (by decide) (by have:=HL1.out; have:=HL2.out; omega);have hb4d:Below w.heap.size w w4.drew:=hb4.drew
     clear K4 Kd4 hrx hru;go_wp2_with fail
     go_region_held3 (fun w'=>w'.cell? ⟨g,3,none⟩=some (.slice (some ⟨bP,oP,none⟩) N cP)∧w'.cell? ⟨bP,oP+x,none⟩=some (.slice (some ⟨bx,ox,none⟩) N cx)∧w'.cell? ⟨bx,ox+k,none⟩=some (.slice a1 (zAA R k x).length c1)∧w'.cell? ⟨bP,oP+u,none⟩=some (.slice (some ⟨bu,ou,none⟩) N cu2)∧w'.cell? ⟨bu,ou+k,none⟩=some (.slice a2 (zAA R k u).length c2)) (first | go_keep | exact ⟨d1,d2,d3,d4,d5⟩ | exact ⟨q1,q2,q3,q4,q5⟩ | exact ⟨hg3,hx1,hx2,hu1,hu2⟩) (first
      | (go_at_call 144; refine hsf.mono ?_; rintro e w5 ⟨r5,rfl,f5,b5⟩; have q1:=(b5.cell (p:=⟨g,3,none⟩) (zTH _ _ hg3)).trans hg3; have q2:=(b5.cell (p:=⟨bP,oP+x,none⟩) (zTH _ _ hx1)).trans hx1; have q3:=(b5.cell (p:=⟨bx,ox+k,none⟩) (zTH _ _ hx2)).trans hx2; have q4:=(b5.cell (p:=⟨bP,oP+u,none⟩) (zTH _ _ hu1)).trans hu1; have q5:=(b5.cell (p:=⟨bu,ou+k,none⟩) (zTH _ _ hu2)).trans hu2; have had:=zJ5 (hp1.below b5) f5.reads HI1.out (by have:=HL1.out; omega) (by have:=zBL (zAA R k u) 1; have:=HL2.out; omega))
      | (go_at_call 143; refine had.mono ?_; rintro e w6 ⟨r6,rfl,f6,b6⟩; have d1:=(b6.cell (p:=⟨g,3,none⟩) (zTH _ _ q1)).trans q1; have d2:=(b6.cell (p:=⟨bP,oP+x,none⟩) (zTH _ _ q2)).trans q2; have d3:=(b6.cell (p:=⟨bx,ox+k,none⟩) (zTH _ _ q3)).trans q3; have d4:=(b6.cell (p:=⟨bP,oP+u,none⟩) (zTH _ _ q4)).trans q4; have d5:=(b6.cell (p:=⟨bu,ou+k,none⟩) (zTH _ _ q5)).trans q5))
     have hs6:=HSx.addI (HS.nil (zAC.step hb4d b5)) b6 f6;rw [<-HXS.out] at hs6;have hs6:HS w w6 [aI r6 (zAE E tab (zAA R) k s u)]:=hs6;have HOK0:Hid (InI (zAE E tab (zAA R) k s u)∧(zAE E tab (zAA R) k s u).length≤62):=zTD (by
      rw [HXS.out];have h1:=HL1.out; have h2:=HL2.out
      have h3:=zBL (zAA R k u) 1; have h4:=zBL (zAA R k x) 1
      exact ⟨zDu _ _,by have:=zDv (zAA R k x) (zAQ (zAA R k u) 1); omega⟩)
     clear hg3 hx1 hx2 hu1 hu2 hp1 hp2 q1 q2 q3 q4 q5 d1 d2 d3 d4 d5 hsf had f5 f6 b5 b6 hb4 hb4d HXS;go_wp2_with fail
     go_meet
     case rel=>exact ⟨hs6,HOK0⟩
    | false =>
     have hlt:¬lenE E x<lu:=of_decide_eq_false HRB.out;have HXS:Hid (zAE E tab (zAA R) k s u=addP (zAQ (zAA R k x) 1) (zAA R k u)):=zTD (by rw [HXX.out,if_neg hlt]);clear hlt HXX;have K4:=HK.out w4 hb4;have Kd4:=K4.below (Below.refl _ w4).drew;have hg3:=Kd4.c3;obtain ⟨bx,ox,cx,hx1,hrx⟩:=Kd4.p x hxN;obtain ⟨a1,c1,hx2,hp1⟩:=hrx k hkN;obtain ⟨bu,ou,cu2,hu1,hru⟩:=Kd4.p u hu;obtain ⟨a2,c2,hu2,hp2⟩:=hru k hkN;rw [HPR.out x k hkv] at hx2 hp1;rw [HPR.out u k hkv] at hu2 hp2;have HI1:=zTD (HRI.out k x);have HI2:=zTD (HRI.out k u);have HL1:Hid ((zAA R k x).length≤25):=zTD (by have:=HRL.out k x; have:=HDP.out k; omega);have HL2:Hid ((zAA R k u).length≤25):=zTD (by have:=HRL.out k u; have:=HDP.out k; omega);have hsf:=zEV hp1 1 (by decide) (by have:=HL1.out; have:=HL2.out; omega)
     have hb4d:Below w.heap.size w w4.drew:=hb4.drew;clear K4 Kd4 hrx hru;go_wp2_with fail
     go_region_held3 (fun w'=>w'.cell? ⟨g,3,none⟩=some (.slice (some ⟨bP,oP,none⟩) N cP)∧w'.cell? ⟨bP,oP+x,none⟩=some (.slice (some ⟨bx,ox,none⟩) N cx)∧w'.cell? ⟨bx,ox+k,none⟩=some (.slice a1 (zAA R k x).length c1)∧w'.cell? ⟨bP,oP+u,none⟩=some (.slice (some ⟨bu,ou,none⟩) N cu2)∧w'.cell? ⟨bu,ou+k,none⟩=some (.slice a2 (zAA R k u).length c2)) (first | go_keep | exact ⟨d1,d2,d3,d4,d5⟩ | exact ⟨q1,q2,q3,q4,q5⟩ | exact ⟨hg3,hx1,hx2,hu1,hu2⟩) (first
      | (go_at_call 144; refine hsf.mono ?_; rintro e w5 ⟨r5,rfl,f5,b5⟩; have q1:=(b5.cell (p:=⟨g,3,none⟩) (zTH _ _ hg3)).trans hg3; have q2:=(b5.cell (p:=⟨bP,oP+x,none⟩) (zTH _ _ hx1)).trans hx1; have q3:=(b5.cell (p:=⟨bx,ox+k,none⟩) (zTH _ _ hx2)).trans hx2; have q4:=(b5.cell (p:=⟨bP,oP+u,none⟩) (zTH _ _ hu1)).trans hu1; have q5:=(b5.cell (p:=⟨bu,ou+k,none⟩) (zTH _ _ hu2)).trans hu2; have had:=zJ5 f5.reads (hp2.below b5) (zJR HI1.out 1) (by have:=zBL (zAA R k x) 1; have:=HL1.out; omega) (by have:=HL2.out; omega))
      | (go_at_call 143; refine had.mono ?_; rintro e w6 ⟨r6,rfl,f6,b6⟩; have d1:=(b6.cell (p:=⟨g,3,none⟩) (zTH _ _ q1)).trans q1; have d2:=(b6.cell (p:=⟨bP,oP+x,none⟩) (zTH _ _ q2)).trans q2; have d3:=(b6.cell (p:=⟨bx,ox+k,none⟩) (zTH _ _ q3)).trans q3; have d4:=(b6.cell (p:=⟨bP,oP+u,none⟩) (zTH _ _ q4)).trans q4; have d5:=(b6.cell (p:=⟨bu,ou+k,none⟩) (zTH _ _ q5)).trans q5))
     have hs6:=HSx.addI (HS.nil (zAC.step hb4d b5)) b6 f6;rw [<-HXS.out] at hs6;have hs6:HS w w6 [aI r6 (zAE E tab (zAA R) k s u)]:=hs6;have HOK0:Hid (InI (zAE E tab (zAA R) k s u)∧(zAE E tab (zAA R) k s u).length≤62):=zTD (by
      rw [HXS.out];have h1:=HL1.out; have h2:=HL2.out
      have h3:=zBL (zAA R k u) 1; have h4:=zBL (zAA R k x) 1
      exact ⟨zDu _ _,by have:=zDv (zAQ (zAA R k x) 1) (zAA R k u); omega⟩)
     clear hg3 hx1 hx2 hu1 hu2 hp1 hp2 q1 q2 q3 q4 q5 d1 d2 d3 d4 d5 hsf had f5 f6 b5 b6 hb4 hb4d HXS;go_wp2_with fail
     go_meet
     case rel=>exact ⟨hs6,HOK0⟩
   case rest =>
    obtain ⟨hs6,HOK0⟩:=hcut;have K6:=HK.out wc hs6.bl;have hc06:=K6.c0;clear HXX HRB hb4;go_wp2_with fail
    go_loopw [10,119] (fun pp zz wr=>∃(z:Nat) (vp:Value),vp=pp∧z≤N∧zz=.int .i64 z∧HS w wr [aI vp ((List.range z).foldl (klY E tab (zAA R) v k s u) (zAE E tab (zAA R) k s u))]∧Hid (InI ((List.range z).foldl (klY E tab (zAA R) v k s u) (zAE E tab (zAA R) k s u))∧((List.range z).foldl (klY E tab (zAA R) v k s u) (zAE E tab (zAA R) k s u)).length≤62)) (fun _ zz _=>N-(intOf zz).toNat)
    case atStart=>exact ⟨0,_,rfl,Nat.zero_le _,rfl,hs6,HOK0⟩
    case round =>
     clear hs6 HOK0 K6 hc06;obtain ⟨z,vp,rfl,hz,rfl,hs,HOK⟩:=hrel;by_cases hzN:z<N
     ·have j1:(z:Int)<(N:Int):=by omega
      have j2:(0:Int)≤(z:Int):=by omega
      have HZD:Hid ((List.range (z+1)).foldl (klY E tab (zAA R) v k s u) (zAE E tab (zAA R) k s u)=if muI (zAA R k z) ((lenE E k:Int)-lenE E z)≠0∧lenE E (tab z s)<lenE E z then subP ((List.range z).foldl (klY E tab (zAA R) v k s u) (zAE E tab (zAA R) k s u)) (mulP [muI (zAA R k z) ((lenE E k:Int)-lenE E z)] (zAQ (zAA R z u) ((lenE E v-lenE E z) / 2))) else (List.range z).foldl (klY E tab (zAA R) v k s u) (zAE E tab (zAA R) k s u)):=zTD (by rw [zCd]; rfl);have HMN:Hid (muI (zAA R k z) ((lenE E k:Int)-lenE E z)≠0→lenE E z<lenE E k):=zTD (fun h=>by
       rcases Nat.lt_or_ge (lenE E z) (lenE E k) with h1 | h1
       ·exact h1
       ·exact absurd (zDL _ (by omega)) h)
      generalize (List.range z).foldl (klY E tab (zAA R) v k s u) (zAE E tab (zAA R) k s u)=Q at *;obtain ⟨Q2,hQ2⟩:∃Q2,(List.range (z+1)).foldl (klY E tab (zAA R) v k s u) (zAE E tab (zAA R) k s u)=Q2:=⟨_,rfl⟩;have HQ2:=zTD hQ2;rw [hQ2] at HZD;clear hQ2;have K0:=HK.out wr hs.bl;have hmu:=zI3 K0 (z:=z) (v:=k) hzN hkN HDP.out (by rw [HPR.out z k hkv]; have:=HRL.out k z; have:=HDP.out k; omega);rw [HPR.out z k hkv] at hmu;clear K0;generalize muI (zAA R k z) ((lenE E k:Int)-lenE E z)=m at *;go_wp2_with fail
      refine hmu.mono ?_;rintro e w4 ⟨rfl,b4⟩;have hs4:=HSx.below hs b4;clear hmu hs b4;by_cases hm:m=0
      ·as_aux_lemma =>
        have e1:(m == 0)=true:=by simp [hm]
        have HQE:Hid (Q2=Q):=zTD (by rw [HZD.out,if_neg (fun h=>h.1 hm)]);clear hm HZD;go_wp2_with fail
        go_roundw
        case rel=>exact ⟨z+1,vp,rfl,by omega,by go_num,by rw [HQ2.out,HQE.out]; exact hs4,by rw [HQ2.out,HQE.out]; exact HOK⟩
        case measure=>simp [intOf]; omega
      ·have e1:(m == 0)=false:=by simp [hm]
       have hlk:=HMN.out hm;have hsh:=zC0 (HK.out w4 hs4.bl) (i:=s) (z:=z) hs1 hzN (HLT.out z hzN);by_cases hlt:lenE E (tab z s)<lenE E z
       ·as_aux_lemma =>
         rw [decide_eq_true hlt] at hsh;have HQE:Hid (Q2=subP Q (mulP [m] (zAQ (zAA R z u) ((lenE E v-lenE E z) / 2)))):=zTD (by rw [HZD.out,if_pos ⟨hm,hlt⟩]);have hzv:=HSRT.out z (by have:=HKD.out; have:=HLV.out; omega) hzN;have hlzv:lenE E z≤lv:=by have:=HKD.out; omega
         clear hm hlt HZD hlk;go_wp2_with fail
         refine hsh.mono ?_;rintro e w5 ⟨rfl,b5⟩;have hs5:HS w w5.drew [aI vp Q]:=(HSx.below hs4 b5).drew;have K5:=HK.out w5.drew hs5.bl;have hc5:=K5.c0;obtain ⟨av3,cv3,hev3⟩:=K5.e v hv;obtain ⟨az3,cz3,hez3⟩:=K5.e z hzN;rw [HLV.out] at hev3 HQE;have hdz:=HDP.out z;have hdv:=HDP.out v;rw [HLV.out] at hdv;have hpl:=HRL.out z u;generalize lenE E z=lz at *;obtain ⟨h2,hh2⟩:∃h2:Nat,(lv-lz) / 2=h2:=⟨_,rfl⟩;rw [hh2] at HQE;have hwr4:((lv:Int)-lz) / 2=(h2:Int):=by omega
         have hwr2:((lv:Int)-lz).tdiv 2=(h2:Int):=by rw [Int.tdiv_eq_ediv_of_nonneg (by omega)]; omega
         have hh60:h2≤60:=by omega
         clear K5 hh2 hs4 hsh b5;go_wp2_with fail
         go_big_region_o
         clear hwr4 hwr2 hc5 hev3 hez3;generalize w5.drew=w6 at *;obtain ⟨w7,hw7⟩:∃w7,w7=w6.alloc (.cells #[.int .i64 m] 3):=⟨_,rfl⟩;have b7:Below w6.heap.size w6 w7:=by rw [hw7]; exact (Below.refl _ _).alloc (zTI _) _
         have hon:RI Any w7 (.slice (some ⟨w6.heap.size,0,none⟩) 1 1) [m]:=by rw [hw7]; exact RI.one w6 m
         have hs7:=HSx.below hs5 b7;have K7:=HK.out w7 hs7.bl;have hg3:=K7.c3;obtain ⟨bu,ou,cu2,hu1,hru⟩:=K7.p u hu;obtain ⟨a2,c2,hu2,hp2⟩:=hru z hzN;rw [HPR.out u z hzv] at hu2 hp2;have HL2:=zTD hpl;have hsf:=zEV hp2 h2 (by omega) (by omega);have HW7:=zTD hw7;rw [hw7] at hg3 hu1 hu2;have HON:=zTD hon;have HSF:=zTD hsf;have HS7:=zTD hs7;clear hw7 K7 hru hp2 hs5 b7 hpl hon hsf hs7;go_wp2_with fail
         rw [<-HW7.out];refine HSF.out.mono ?_;rintro e w8 ⟨r8,rfl,f8,b8⟩;have hml:=zQw (HON.out.below b8) f8.reads (by simp) (by have:=HL2.out; have:=zBL (zAA R z u) h2; omega);have hs8:=HSx.below HS7.out b8;clear HSF hg3 hu1 hu2 HS7 f8 b8 HON;go_wp2_with fail
         refine hml.mono ?_;rintro e w9 ⟨r9,rfl,f9,b9⟩;have hs9:=HSx.below hs8 b9;have HML:=zTD (zKi [m] (zAQ (zAA R z u) h2));have hsb:=zRU (FI.reads (HS.I hs9 0 rfl)) f9.reads HOK.out.1 (by have:=HOK.out.2; omega) (by have:=HML.out.2.2; omega);have HOK2:Hid (InI Q2∧Q2.length≤62):=zTD (by rw [HQE.out]; exact ⟨zK1 _ _,by have h1:=zK2 Q (mulP [m] (zAQ (zAA R z u) h2)); have h2:=HOK.out.2; have h3:=HML.out.2.2; omega⟩);rw [<-HQE.out] at hsb;clear hml f9 b9 hs8;go_wp2_with fail
         refine hsb.mono ?_;rintro e w10 ⟨r10,rfl,f10,b10⟩;have hs10:=HSx.addI hs9 b10 f10;have hs10:HS w w10 [aI r10 Q2]:=HSx.pick hs10 [1] (by decide);clear hsb hs9 f10 b10;go_wp2_with fail
         go_roundw
         case rel=>exact ⟨z+1,r10,rfl,by omega,by go_num,by rw [HQ2.out]; exact hs10,by rw [HQ2.out]; exact HOK2⟩
         case measure=>simp [intOf]; omega
       ·as_aux_lemma =>
         rw [decide_eq_false hlt] at hsh;have HQE:Hid (Q2=Q):=zTD (by rw [HZD.out,if_neg (fun h=>hlt h.2)]);clear hm hlt HZD hlk;go_wp2_with fail
         refine hsh.mono ?_;rintro e w5 ⟨rfl,b5⟩;have hs5:=HSx.below hs4 b5;clear hsh hs4 b5;go_wp2_with fail
         go_roundw
         case rel=>exact ⟨z+1,vp,rfl,by omega,by go_num,by rw [HQ2.out,HQE.out]; exact hs5,by rw [HQ2.out,HQE.out]; exact HOK⟩
         case measure=>simp [intOf]; omega
     ·as_aux_lemma =>
       have j1:¬(z:Int)<(N:Int):=by omega
       have hze:z=N:=by omega
       rw [hze,<-HZ.out] at hs;have hfi:=HS.I hs 0 rfl;have hbl:=hs.bl;clear hze hs;go_wp2_with fail
       go_ret
       exact ⟨_,rfl,hfi,hbl⟩
end
end Go.Proofs.YtlgcdacpjcnjgaaGreatDoor
