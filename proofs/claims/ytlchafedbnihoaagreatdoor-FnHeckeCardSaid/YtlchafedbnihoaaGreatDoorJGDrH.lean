/- What is drawn: polynomials and lists of terms. Condition: at most 2^20 bytes. -/
import Derived.Test.YtlchafedbnihoaaGreatDoorJGDrD
import Derived.Test.YtlchafedbnihoaaGreatDoorJDrW
import Derived.Test.YtlchafedbnihoaaGreatDoorJGHopH
namespace Go.Proofs.YtlchafedbnihoaaGreatDoor
open Go.RowKit
set_option maxRecDepth 20000
set_option maxHeartbeats 16000000
theorem zKD {w:World} {g:Nat} (h:Cur w g) :
  Calls Tryz.prog 56 #[.pointer (some ⟨g,0,none⟩)] w fun e w'=>∃r,e=.returned r∧∃l:List Int,FI (New w w') w' r l∧l.length≤5∧InI l∧Cur w' g∧w.grownBy w' (some g):=by
 have hgl:=h.lt;go_enter Tryz.func56,Tryz.ntmps56
 go_wp2_with fail
 obtain ⟨w1,hw1⟩:∃w1,w1=w.alloc (.cells #[] 3):=⟨_,rfl⟩;obtain ⟨f1,b1⟩:=zAa (Below.refl _ w) hw1;rw [<-hw1];clear hw1;have hc1:=h.below b1;refine (zAq hc1 (n:=6) (by omega) (by omega)).mono ?_;rintro e w2 ⟨x,hx,rfl,hc2,hg2⟩;obtain ⟨W0,hB⟩:=((Bs.start w g).below b1).turn hgl hg2;have f2:FI (New W0 w2) w2 (.slice (some ⟨w.heap.size,0,none⟩) 0 0) []:=by
  rw [hB.new];exact f1.turn hg2 hgl
 clear f1 b1 hc1 h;go_wp2_with fail
 go_loopw [3,4] (fun zz j wr=>∃(k:Nat) (z:Value) (acc:List Int) (W0:World),z=zz∧k≤x∧j=.int .i64 k∧FI (New W0 wr) wr z acc∧Hid (acc.length+k≤5∧InI acc)∧Cur wr g∧Hid (Bs w g W0 wr)) (fun _ j _=>(intOf j).toNat)
 case atStart=>exact ⟨x,_,[],W0,rfl,zNl _,rfl,f2,zNg ⟨by simp; omega,fun y hy=>by simp at hy⟩,hc2,zNg hB⟩
 case round =>
  clear hB f2 hg2 hc2;obtain ⟨k,z,acc,W0,rfl,hk,rfl,hf,HA,hc,HB⟩:=hrel;have hW:W0.heap.size=w.heap.size:=HB.out.size;rcases k with _ | k
  ·have i1:¬((0:Nat):Int) > 0:=by omega
   go_wp2_with fail
   refine (zCw hc (n:=4) (by omega) (by omega)).mono ?_;rintro e w3 ⟨bq,rfl,hc3,hg3⟩;have hf3:FI (New w w3) w3 z acc:=by
    have:=hf.turn hg3 (by rw [hW]; exact hgl);rwa [show New W0 w3=New w w3 by unfold New; rw [hW]] at this
   have HG:=zNg (Off.tr HB.out.all hg3);have HC:=zNg hc3;clear hf hc hg3 hc3 HB;cases bq
   ·go_wp2_with fail
    refine (zBN hf3.reads (by have:=HA.out.1; omega)).mono ?_;rintro e w4 ⟨r4,rfl,f4,b4⟩;have HF:Hid (FI (New w w4) w4 r4 (trim acc)):=zNg (f4.mono fun b hb=>⟨by have:=hb.1; have:=HG.out.size; omega,hb.2⟩);have HL:Hid ((trim acc).length≤5∧InI (trim acc)):=zNg ⟨by have:=zCX acc; have:=HA.out.1; omega,fun y hy=>HA.out.2 y (zCY hy)⟩;have HE:Hid (Cur w4 g∧w.grownBy w4 (some g)):=zNg ⟨HC.out.below b4,Off.tr HG.out (Off.grown b4)⟩;clear f4 b4 hf3;go_wp2_with fail
    go_ret
    exact ⟨_,rfl,_,HF.out,HL.out.1,HL.out.2,HE.out.1,HE.out.2⟩
   ·go_wp2_with fail
    go_ret
    exact ⟨_,rfl,acc,hf3,by have:=HA.out.1; omega,HA.out.2,HC.out,HG.out⟩
  ·have i1:((k+1:Nat):Int) > 0:=by omega
   have i2:((k+1:Nat):Int)-1=(k:Int):=by omega
   go_wp2_with fail
   refine (zAq hc (n:=9) (by omega) (by omega)).mono ?_;rintro e w3 ⟨y,hy,rfl,hc3,hg3⟩;obtain ⟨W1,hB1⟩:=HB.out.turn hgl hg3;have hf3:FI (New W1 w3) w3 z acc:=by
    have:=hf.turn hg3 (by rw [hW]; exact hgl);rw [hB1.new]; rw [show New W0 w3=New w w3 by unfold New; rw [hW]] at this; exact this
   have bb:=(Below.refl w3.heap.size w3).alloc (zNl _) (.cells #[.int .i64 ((y:Int)-4)] 3);have HB2:=zNg hB1;have HC3:=zNg hc3;clear hB1 hf hc3;go_wp2_with (at_builtin; go_must (refine zAG (W:=W1) rfl _ _ rfl rfl (hf3.grow bb) (HB2.out.below bb).bl rfl (RI.one w3 ((y:Int)-4)) ?_ ?_))
   ·have:=HA.out.1; simp; omega
   ·intro v' w4 f4 b4 _;have hB4:Bs w g W1 w4:=⟨HB2.out.size,HB2.out.gr,b4⟩;have hc4:Cur w4 g:=HB2.out.cur hB4 hgl HC3.out;have HB5:=zNg hB4;clear hB4 HC3;go_wp2_with fail
    go_roundw
    case rel=>exact ⟨k,_,acc++[(y:Int)-4],W1,rfl,by omega,by go_num,f4,zNg ⟨by have:=HA.out.1; simp; omega,fun q hq=>by
      rcases List.mem_append.1 hq with hq | hq
      ·exact HA.out.2 q hq
      ·rw [List.mem_singleton] at hq; omega⟩,hc4,HB5⟩
    case measure=>first | (simp [intOf]; done) | (simp [intOf]; omega)
theorem FT.turn {S:Nat→Prop} {w w':World} {g:Nat} {v:Value} {L:List Trm} (h:FT S w v L) (hg:w.grownBy w' (some g)) (hS:∀b,S b→b≠g):FT S w' v L :=
 FC.keep h fun b hb hl=>hg.block b hl (by have:=hS b hb; simpa using this)
structure PtD (m:Nat) (D:List Trm):Prop where
 len:D.length≤m
 wd:∀t∈D,t.1.length≤3∧t.2.length≤5
 ok:∀t∈D,Trd t.2∧InI t.2
 sm:∀t∈D,∀y∈t.1,0≤y∧y≤16
theorem PtD.small {m:Nat} {D:List Trm} (h:PtD m D):∀t∈puts D,∀y∈t.1,0≤y∧y≤16:=fun t ht=>by
 obtain ⟨s,hs,e⟩:=zCM _ D rfl t ht;rw [e]; exact h.sm s hs
theorem PtD.size {m:Nat} {D:List Trm} (h:PtD m D):(puts D).length≤m∧(∀t∈puts D,t.1.length≤3∧t.2.length≤5∧InI t.2):=by
 obtain ⟨h1,h2⟩:=zCx (A:=3) (B:=5) _ D rfl h.wd;have h3:=(zA1 _ D rfl h.ok).1.inn;exact ⟨Nat.le_trans h1 h.len,fun t ht=>⟨(h2 t ht).1,(h2 t ht).2,h3 t ht⟩⟩
theorem zL7 {w:World} {g:Nat} {M:List (List Int)} {r:Value} (h:Cur w g) (hm:RII (Off g) w r M) (h5:M.length≤5) (ht:total M≤100) :
  Calls Tryz.prog 112 #[.pointer (some ⟨g,0,none⟩),r] w fun e w'=>∃r',e=.returned r'∧∃D:List Trm,FT (New w w') w' r' (puts D)∧PtD 3 D∧Cur w' g∧w.grownBy w' (some g):=by
 have hgl:=h.lt;obtain ⟨am,cm,rfl⟩:=hm.form;generalize hn:M.length=n at *;have HN:=zNg hn;clear hn;go_enter Tryz.func112,Tryz.ntmps112
 go_wp2_with fail
 have f1:FT (New w (w.alloc (.cells #[] 39))) (w.alloc (.cells #[] 39)) (.slice (some ⟨w.heap.size,0,none⟩) 0 0) []:=FT.none0 (Below.refl _ w);have b1:Below w.heap.size w (w.alloc (.cells #[] 39)):=(Below.refl _ w).alloc (zNl _) _;generalize w.alloc (.cells #[] 39)=w1 at *;have hc1:=h.below b1;refine (zAq hc1 (n:=4) (by omega) (by omega)).mono ?_;rintro e w2 ⟨x,hx,rfl,hc2,hg2⟩;have f2:FT (New w w2) w2 (.slice (some ⟨w.heap.size,0,none⟩) 0 0) (puts []):=FC.mono (FT.turn f1 hg2 (fun b hb=>by have:=hb.1; omega)) (fun b hb=>⟨hb.1,Nat.lt_of_lt_of_le hb.2 hg2.size⟩);have hg02:w.grownBy w2 (some g):=Off.tr (Off.grown b1) hg2;have hm2:=hm.turn hg02 (fun b hb=>hb);clear f1 b1 hc1 h hg2 hm;go_wp2_with fail
 go_loopw [5,6] (fun zz j wr=>∃(k:Nat) (z:Value) (D:List Trm),z=zz∧k≤x∧j=.int .i64 k∧FT (New w wr) wr z (puts D)∧Hid (PtD (3-k) D∧k≤3)∧Cur wr g∧RII (Off g) wr (.slice am n cm) M∧Hid (w.grownBy wr (some g))) (fun _ j _=>(intOf j).toNat)
 case atStart=>exact ⟨x,_,[],rfl,zNl _,rfl,f2,zNg ⟨⟨by simp,fun t ht=>by simp at ht,fun t ht=>by simp at ht,fun t ht=>by simp at ht⟩,by omega⟩,hc2,hm2,zNg hg02⟩
 case round =>
  clear f2 hg02 hc2 hm2;obtain ⟨k,z,D,rfl,hk,rfl,hf,HD,hc,hm,HG⟩:=hrel;rcases k with _ | k
  ·have i1:¬((0:Nat):Int) > 0:=by omega
   go_wp2_with fail
   go_ret
   exact ⟨_,rfl,D,hf,HD.out.1,hc,HG.out⟩
  ·have i1:((k+1:Nat):Int) > 0:=by omega
   have i2:((k+1:Nat):Int)-1=(k:Int):=by omega
   go_wp2_with fail
   refine (zKD hc).mono ?_;rintro e w3 ⟨r3,rfl,p,f3,hp5,hpi,hc3,hg3⟩;have hf3:FT (New w w3) w3 z (puts D):=FC.mono (FT.turn hf hg3 (fun b hb=>by have:=hb.1; omega)) (fun b hb=>⟨hb.1,Nat.lt_of_lt_of_le hb.2 hg3.size⟩);have hm3:=hm.turn hg3 (fun b hb=>hb);have HG3:=zNg (Off.tr HG.out hg3);have HPI:=zNg hpi;clear hf hm hc HG hg3 hpi;go_wp2_with fail
   refine (zBN f3.reads (by omega)).mono ?_;rintro e w4 ⟨r4,rfl,f4,b4⟩;have hf4:FT (New w w4) w4 z (puts D):=FC.mono (FT.below hf3 b4) (fun b hb=>⟨hb.1,Nat.lt_of_lt_of_le hb.2 b4.size⟩);have hm4:=hm3.below b4;have hc4:=hc3.below b4;have HG4:=zNg (Off.tr HG3.out (Off.grown (mb:=g) b4));have HP:Hid ((trim p).length≤5∧Trd (trim p)∧InI (trim p)):=zNg ⟨by have:=zCX p; omega,zCW p,fun y hy=>HPI.out y (zCY hy)⟩;have f4':RI (Off g) w4 r4 (trim p):=f4.reads.mono (fun b hb=>by have:=hb.1; have:=hc3.lt; show b≠g; omega);clear hf3 hm3 hc3 HG3 HPI f3 hp5 f4 b4;generalize trim p=p4 at *;go_wp2_with fail
   refine (zBb hm4 (by omega)).mono ?_;rintro e w5 ⟨rfl,m5,rfl⟩;have b5:Below w4.heap.size w4 (w4.drewN m5):=below_drewN (Below.refl _ w4) m5;generalize w4.drewN m5=w5 at *;have hf5:FT (New w w5) w5 z (puts D):=FC.mono (FT.below hf4 b5) (fun b hb=>⟨hb.1,Nat.lt_of_lt_of_le hb.2 b5.size⟩);have hm5:=hm4.below b5;have hc5:=hc4.below b5;have f5:=f4'.below b5;have HG5:=zNg (Off.tr HG4.out (Off.grown (mb:=g) b5));clear hf4 hm4 hc4 HG4 f4' b5;cases hC:isC M
   ·clear hC f5;have HD2:Hid (PtD (3-k) D∧k≤3):=zNg ⟨⟨by have:=HD.out.1.len; omega,HD.out.1.wd,HD.out.1.ok,HD.out.1.sm⟩,by have:=HD.out.2; omega⟩;go_wp2_with fail
    go_roundw
    case rel=>exact ⟨k,_,D,rfl,by omega,by go_num,hf5,HD2,hc5,hm5,HG5⟩
    case measure=>first | (simp [intOf]; done) | (simp [intOf]; omega)
   ·have HC:=zNg (zBL.1 hC);clear hC;go_wp2_with fail
    refine (zGY hc5 (n:=n) (m:=3) (by omega) (by omega)).mono ?_;rintro e w6 ⟨r6,rfl,l,f6,hl3,hle,hc6,hg6⟩;have hf6:FT (New w w6) w6 z (puts D):=FC.mono (FT.turn hf5 hg6 (fun b hb=>by have:=hb.1; omega)) (fun b hb=>⟨hb.1,Nat.lt_of_lt_of_le hb.2 hg6.size⟩);have hm6:=hm5.turn hg6 (fun b hb=>hb);have f56:=f5.keep fun b hb hl=>hg6.block b hl (by simpa using hb);have HG6:=zNg (Off.tr HG5.out hg6);have HLE:Hid (Lets M.length l):=zNg (fun y hy=>by have:=hle y hy; have:=HC.out.pos; rw [HN.out] at *; omega);have HSM:Hid (∀y∈zAQ M l,0≤y∧y≤16):=zNg (fun y hy=>by have:=zFV HC.out HLE.out (by omega) y hy; have:=HN.out; omega);have HNL:Hid ((zAQ M l).length≤3):=zNg (by have:=zB6 HC.out HLE.out (by omega); omega);clear hf5 hm5 hc5 HG5 f5 hle hg6;go_wp2_with fail
    refine (zDi hm6 f6.reads HC.out HLE.out (by omega) (by omega)).mono ?_;rintro e w7 ⟨r7,rfl,f7,b7⟩;have hf7:FT (New w w7) w7 z (puts D):=FC.mono (FT.below hf6 b7) (fun b hb=>⟨hb.1,Nat.lt_of_lt_of_le hb.2 b7.size⟩);have hm7:=hm6.below b7;have hc7:=hc6.below b7;have f57:=f56.below b7;have HG7:=zNg (Off.tr HG6.out (Off.grown (mb:=g) b7));have HS:=zNg HD.out.1.size;have HLN:Hid ((puts D).length≤1048576∧∀t∈puts D,t.1.length≤1048576∧t.2.length≤1048576∧InI t.2):=zNg ⟨by have:=HS.out.1; omega,fun t ht=>by obtain ⟨a,b,c⟩:=HS.out.2 t ht; exact ⟨by omega,by omega,c⟩⟩;have HEQ:Hid (endP (zAQ M l) p4 (putF (zAQ M l) p4 (puts D))=puts (D++[(zAQ M l,p4)])):=zNg (zDl (e:=(zAQ M l,p4)) HD.out.1.ok);have HD2:Hid (PtD (3-k) (D++[(zAQ M l,p4)])∧k≤3):=zNg ⟨⟨by have:=HD.out.1.len; have:=HD.out.2; simp; omega,fun t ht=>by
     rcases List.mem_append.1 ht with ht | ht
     ·exact HD.out.1.wd t ht
     ·rw [List.mem_singleton] at ht; subst ht; exact ⟨HNL.out,HP.out.1⟩,fun t ht=>by
     rcases List.mem_append.1 ht with ht | ht
     ·exact HD.out.1.ok t ht
     ·rw [List.mem_singleton] at ht; subst ht; exact HP.out.2,fun t ht=>by
     rcases List.mem_append.1 ht with ht | ht
     ·exact HD.out.1.sm t ht
     ·rw [List.mem_singleton] at ht; subst ht; exact HSM.out⟩,by have:=HD.out.2; omega⟩
    clear hf6 hm6 hc6 HG6 f6 f56 b7;go_wp2_with fail
    refine (zCV hf7.read f7.reads f57 HLN.out.1 HLN.out.2 (by have:=HNL.out; omega) (by have:=HP.out.1; omega) HP.out.2.2).mono ?_;rintro e w8 ⟨r8,rfl,f8,b8⟩;rw [HEQ.out] at f8;have f8':FT (New w w8) w8 r8 (puts (D++[(zAQ M l,p4)])):=FC.mono f8 (fun b hb=>⟨by have:=hb.1; have:=HG7.out.size; omega,hb.2⟩);have hm8:=hm7.below b8;have hc8:=hc7.below b8;have HG8:=zNg (Off.tr HG7.out (Off.grown (mb:=g) b8));clear hf7 hm7 hc7 HG7 f7 f57 b8 f8 HEQ HLN;go_wp2_with fail
    go_roundw
    case rel=>exact ⟨k,_,_,rfl,by omega,by go_num,f8',HD2,hc8,hm8,HG8⟩
    case measure=>first | (simp [intOf]; done) | (simp [intOf]; omega)
structure TrD (L:List Trm):Prop where
 len:L.length≤4
 wd:∀t∈L,t.1.length≤4∧t.2.length≤5
 inn:∀t∈L,InI t.2
 sm:∀t∈L,∀y∈t.1,0≤y∧y≤16
theorem TrD.of {D:List Trm} (h:PtD 3 D):TrD (puts D):=⟨by have:=h.size.1; omega,fun t ht=>by have:=h.size.2 t ht; exact ⟨by omega,this.2.1⟩,fun t ht=>(h.size.2 t ht).2.2,h.small⟩
theorem TrD.snoc {D:List Trm} (h:PtD 3 D) {x y:List Int} (hx:x.length≤4) (hy:y.length≤5) (hi:InI y) (hs:∀q∈x,0≤q∧q≤16):TrD (puts D++[(x,y)]):=⟨by have:=h.size.1; simp; omega,fun t ht=>by
 rcases List.mem_append.1 ht with ht | ht
 ·exact (TrD.of h).wd t ht
 ·rw [List.mem_singleton] at ht; subst ht; exact ⟨hx,hy⟩,fun t ht=>by
 rcases List.mem_append.1 ht with ht | ht
 ·exact (TrD.of h).inn t ht
 ·rw [List.mem_singleton] at ht; subst ht; exact hi,fun t ht=>by
 rcases List.mem_append.1 ht with ht | ht
 ·exact h.small t ht
 ·rw [List.mem_singleton] at ht; subst ht; exact hs⟩
theorem TrD.total {L:List Trm} (h:TrD L):zAD L≤100:=by
 have:=zCf (A:=4) (B:=5) h.wd;have:=h.len;omega
theorem zDc {w:World} {g:Nat} {M:List (List Int)} {r:Value} (h:Cur w g) (hm:RII (Off g) w r M) (h5:M.length≤5) (ht:total M≤100) :
  Calls Tryz.prog 81 #[.pointer (some ⟨g,0,none⟩),r] w fun e w'=>∃r',e=.returned r'∧∃L:List Trm,FT (New w w') w' r' L∧TrD L∧Cur w' g∧w.grownBy w' (some g):=by
 have hgl:=h.lt;obtain ⟨am,cm,rfl⟩:=hm.form;generalize hn:M.length=n at *;have HN:=zNg hn;clear hn;go_enter Tryz.func81,Tryz.ntmps81
 go_wp2_with fail
 refine (zL7 h hm (by rw [HN.out]; exact h5) ht).mono ?_;rintro e w1 ⟨r1,rfl,D,f1,hD,hc1,hg1⟩;have hm1:=hm.turn hg1 (fun b hb=>hb);obtain ⟨a1,c1,rfl,_⟩:=FC.form f1;have HD:=zNg hD;clear hD hm h;go_wp2_with fail
 refine (zAq hc1 (n:=14) (by omega) (by omega)).mono ?_;rintro e w2 ⟨x,hx,rfl,hc2,hg2⟩;have f2:=FT.turn f1 hg2 (fun b hb=>by have:=hb.1; omega);have hm2:=hm1.turn hg2 (fun b hb=>hb);have HG2:=zNg (Off.tr hg1 hg2);have HS1:=zNg hg1.size;have HS2:=zNg hg2.size;clear f1 hm1 hc1 hg1 hg2;have HLN:=zNg HD.out.size.1;by_cases hx0:x=0
 ·subst hx0;go_wp2_with fail
  refine (zGY hc2 (n:=n) (m:=3) (by omega) (by omega)).mono ?_;rintro e w3 ⟨r3,rfl,l,f3,hl3,hle3,hc3,hg3⟩;have HLE3:Hid (∀q∈l,0≤q∧q≤16):=zNg (fun q hq=>by have:=hle3 q hq; omega);clear hle3;obtain ⟨a3,c3,e3⟩:=f3.form;generalize hnl:l.length=nl at *;have HNL:=zNg hnl;clear hnl;subst e3;obtain ⟨W0,hB⟩:=(Bs.start w g).turn hgl (Off.tr HG2.out hg3);have f3h:=FT.turn f2 hg3 (fun b hb=>by have:=hb.1; omega);obtain ⟨w4,hw4⟩:∃w4,w4=w3.alloc (.cells #[.int .i64 1] 3):=⟨_,rfl⟩;obtain ⟨f4,b4⟩:=litN (w:=w3) [1] (by decide) hw4;obtain ⟨w5,hw5⟩:∃w5,w5=w4.alloc (.cells #[(.slice a3 nl c3),.slice (some ⟨w3.heap.size,0,none⟩) 1 1] 39):=⟨_,rfl⟩;have b5:Below w4.heap.size w4 w5:=by rw [hw5]; exact (Below.refl _ w4).alloc (zNl _) _
  have k0:w5.cell? ⟨w4.heap.size,0,none⟩=some (.slice a3 nl c3):=by rw [hw5]; go_simp
  have k1:w5.cell? ⟨w4.heap.size,1,none⟩=some (.slice (some ⟨w3.heap.size,0,none⟩) 1 1):=by rw [hw5]; go_simp
  have b35:=zAA.step b4 b5;have hz1:=hB.size;have R1:Hid (FT (Bt W0.heap.size w2.heap.size) w5 (.slice a1 (puts D).length c1) (puts D)∧W0.heap.size≤w2.heap.size∧w2.heap.size≤w5.heap.size∧Below W0.heap.size W0 w5∧FI (Bt w2.heap.size w5.heap.size) w5 (.slice a3 nl c3) l∧FI (Bt w2.heap.size w5.heap.size) w5 (.slice (some ⟨w3.heap.size,0,none⟩) 1 1) [1]):=zNg
   ⟨FC.mono (FC.below f3h b35) (fun b hb=>⟨by have:=hb.1; omega,by have:=hb.2; have:=HS2.out; omega⟩),by have:=HS1.out; have:=HS2.out; omega,by have:=b35.size; have:=hg3.size; omega,zAA.step hB.bl b35,
    (f3.keep (fun b hb=>b35.block b (f3.2 b hb).2)).mono (fun b hb=>⟨hb.1,Nat.lt_of_lt_of_le hb.2 b35.size⟩),(f4.keep (fun b hb=>b5.block b (f4.2 b hb).2)).mono (fun b hb=>⟨by have:=hb.1; have:=hg3.size; omega,Nat.lt_of_lt_of_le hb.2 b5.size⟩)⟩
  have hap:∀b,(Value.slice a3 nl c3).ownBlock=some b→(Value.slice (some ⟨w3.heap.size,0,none⟩) 1 1).ownBlock≠some b:=fun b hb e=>by
   have:=(f3.2 b hb).2;simp [Value.ownBlock] at e;omega
  have HW4:=zNg hw4;have HW5:=zNg hw5;have HB:=zNg hB;have HC3:=zNg hc3;have e4:w4.heap.size=w3.heap.size+1:=by rw [hw4]; simp
  rw [e4] at k0 k1;clear hw4 hw5 hB hc3 f3 f3h f4 b4 b5 b35 hz1 hm2 hc2 hg3 f2 e4;generalize hnp:(puts D).length=np at *;have HNP:=zNg hnp;clear hnp;go_wp2_with (at_builtin; go_must (rw [<-HW4.out,<-HW5.out]; refine zB1 (W:=W0) rfl _ _ rfl rfl R1.out.1 R1.out.2.1 R1.out.2.2.1 R1.out.2.2.2.1 rfl k0 k1 R1.out.2.2.2.2.1 R1.out.2.2.2.2.2 hap (by have:=HLN.out; rw [HNP.out]; omega) ?_))
  intro v' w6 f6 b6 _;have hB6:Bs w g W0 w6:=⟨HB.out.size,HB.out.gr,b6⟩;have HE:Hid (FT (New w w6) w6 v' (puts D++[(l,[1])])∧TrD (puts D++[(l,[1])])∧Cur w6 g∧w.grownBy w6 (some g)):=zNg
   ⟨by rw [<-hB6.new]; exact f6,TrD.snoc HD.out (by rw [HNL.out]; omega) (by simp) (fun y hy=>by simp at hy; omega) HLE3.out,HB.out.cur hB6 hgl HC3.out,hB6.all⟩
  clear f6 b6 hB6 k0 k1 hap;go_wp2_with fail
  go_ret
  exact ⟨_,rfl,_,HE.out⟩
 ·have i0:((x:Int) == 0)=false:=by simp; omega
  by_cases hx1:x=1
  ·subst hx1;obtain ⟨W0,hB⟩:=(Bs.start w g).turn hgl HG2.out;obtain ⟨w3,hw3⟩:∃w3,w3=w2.alloc (.cells #[.int .i64 0,.int .i64 1,.int .i64 0,.int .i64 1] 3):=⟨_,rfl⟩;obtain ⟨f3,b3⟩:=litN (w:=w2) [0,1,0,1] (by decide) hw3;obtain ⟨w4,hw4⟩:∃w4,w4=w3.alloc (.cells #[.int .i64 0] 3):=⟨_,rfl⟩;obtain ⟨f4,b4⟩:=litN (w:=w3) [0] (by decide) hw4;have e3:w3.heap.size=w2.heap.size+1:=by rw [hw3]; simp
   have e4:w4.heap.size=w2.heap.size+1+1:=by rw [hw4]; simp [e3]
   rw [e3] at f4;obtain ⟨w5,hw5⟩:∃w5,w5=w4.alloc (.cells #[.slice (some ⟨w2.heap.size,0,none⟩) 4 4,.slice (some ⟨w2.heap.size+1,0,none⟩) 1 1] 39):=⟨_,rfl⟩;have b5:Below w4.heap.size w4 w5:=by rw [hw5]; exact (Below.refl _ w4).alloc (zNl _) _
   have k0:w5.cell? ⟨w4.heap.size,0,none⟩=some (.slice (some ⟨w2.heap.size,0,none⟩) 4 4):=by rw [hw5]; go_simp
   have k1:w5.cell? ⟨w4.heap.size,1,none⟩=some (.slice (some ⟨w2.heap.size+1,0,none⟩) 1 1):=by rw [hw5]; go_simp
   have b35:=zAA.step b4 b5;have b25:=zAA.step b3 b35;have hz1:=hB.size;have R1:Hid (FT (Bt W0.heap.size w2.heap.size) w5 (.slice a1 (puts D).length c1) (puts D)∧W0.heap.size≤w2.heap.size∧w2.heap.size≤w5.heap.size∧Below W0.heap.size W0 w5∧FI (Bt w2.heap.size w5.heap.size) w5 (.slice (some ⟨w2.heap.size,0,none⟩) 4 4) [0,1,0,1]∧FI (Bt w2.heap.size w5.heap.size) w5 (.slice (some ⟨w2.heap.size+1,0,none⟩) 1 1) [0]):=zNg
    ⟨FC.mono (FC.below f2 b25) (fun b hb=>⟨by have:=hb.1; omega,by have:=hb.2; have:=HS2.out; omega⟩),by have:=HS1.out; have:=HS2.out; omega,b25.size,zAA.step hB.bl b25,
     (f3.keep (fun b hb=>b35.block b (f3.2 b hb).2)).mono (fun b hb=>⟨hb.1,Nat.lt_of_lt_of_le hb.2 b35.size⟩),(f4.keep (fun b hb=>b5.block b (f4.2 b hb).2)).mono (fun b hb=>⟨by have:=hb.1; omega,Nat.lt_of_lt_of_le hb.2 b5.size⟩)⟩
   have hap:∀b,(Value.slice (some ⟨w2.heap.size,0,none⟩) 4 4).ownBlock=some b→(Value.slice (some ⟨w2.heap.size+1,0,none⟩) 1 1).ownBlock≠some b:=fun b hb e=>by
    simp [Value.ownBlock] at e hb;omega
   have HW3:=zNg hw3;have HW4:=zNg hw4;have HW5:=zNg hw5;have HB:=zNg hB;have HC2:=zNg hc2;rw [e4] at k0 k1;clear hw3 hw4 hw5 hB hc2 f2 f3 f4 b3 b4 b5 b35 b25 hz1 hm2 e3 e4;generalize hnp:(puts D).length=np at *;have HNP:=zNg hnp;clear hnp;go_wp2_with (at_builtin; go_must (rw [<-HW3.out,<-HW4.out,<-HW5.out]; refine zB1 (W:=W0) rfl _ _ rfl rfl R1.out.1 R1.out.2.1 R1.out.2.2.1 R1.out.2.2.2.1 rfl k0 k1 R1.out.2.2.2.2.1 R1.out.2.2.2.2.2 hap (by have:=HLN.out; rw [HNP.out]; omega) ?_))
   intro v' w6 f6 b6 _;have hB6:Bs w g W0 w6:=⟨HB.out.size,HB.out.gr,b6⟩;have HE:Hid (FT (New w w6) w6 v' (puts D++[([0,1,0,1],[0])])∧TrD (puts D++[([0,1,0,1],[0])])∧Cur w6 g∧w.grownBy w6 (some g)):=zNg
    ⟨by rw [<-hB6.new]; exact f6,TrD.snoc HD.out (by simp) (by simp) (fun y hy=>by simp at hy; omega) (fun y hy=>by simp at hy; omega),HB.out.cur hB6 hgl HC2.out,hB6.all⟩
   clear f6 b6 hB6 k0 k1 hap;go_wp2_with fail
   go_ret
   exact ⟨_,rfl,_,HE.out⟩
  ·have i1:((x:Int) == 1)=false:=by simp; omega
   have HE:Hid (FT (New w w2) w2 (.slice a1 (puts D).length c1) (puts D)∧TrD (puts D)∧Cur w2 g∧w.grownBy w2 (some g)):=zNg
    ⟨FC.mono f2 (fun b hb=>⟨hb.1,by have:=hb.2; have:=HS2.out; omega⟩),TrD.of HD.out,hc2,HG2.out⟩
   clear f2 hc2 hm2;generalize (puts D).length=np at *;go_wp2_with fail
   go_ret
   exact ⟨_,rfl,_,HE.out⟩
structure H1D (w w':World) (r1 r2:Value) (M:List (List Int)) (L:List Trm):Prop where
 rm:RII (New w w') w' r1 M
 rt:FT (New w w') w' r2 L
 m1:1≤M.length
 m5:M.length≤5
 row:∀x∈M,x.length≤4
 tr:TrD L
 bl:Below w.heap.size w w'
theorem zCz {M:List (List Int)} (h5:M.length≤5) (h4:∀x∈M,x.length≤4):total M≤100:=by
 have:=zGX h5 h4;omega
theorem zEp {w:World} {v:Value} {n:Nat} (h:RBy Any w v n) (hn:n≤1048576) :
  Calls Tryz.prog 55 #[v] w fun e w'=>∃r1 r2,e=.returned (.tuple #[r1,r2])∧∃M L,H1D w w' r1 r2 M L:=by
 obtain ⟨a,cap,rfl⟩:∃a cap,v=.slice a n cap:=by obtain ⟨a,cap,e,_⟩:=h; exact ⟨a,cap,e⟩
 go_enter Tryz.func55,Tryz.ntmps55
 go_wp2_with fail
 refine (zFU h hn).mono ?_;rintro e w1 ⟨rfl,hc1,b1,hlt⟩;obtain ⟨g,hg⟩:∃g,g=w.heap.size:=⟨_,rfl⟩;rw [<-hg] at hc1 ⊢;have HG:=zNg hg;have hgw1:g<w1.heap.size:=by rw [hg]; exact hlt
 clear hg hlt h;go_wp2_with fail
 refine (zIw hc1).mono ?_;rintro e w2 ⟨r,rfl,M,f2,h1,h5,h4,hc2,hg2⟩;have hm2:RII (Off g) w2 r M:=f2.mono' (fun b hb=>by have:=hb.1; show b≠g; omega);have HR:=zNg h4;have ht:total M≤100:=zCz h5 h4;clear h4;go_wp2_with fail
 refine (zDc hc2 hm2 h5 ht).mono ?_;rintro e w3 ⟨r3,rfl,L,f3,hT,hc3,hg3⟩;have b3:Below w.heap.size w w3:=b1.grown (Off.tr hg2 hg3) b1.size (fun k hk=>by cases hk; rw [HG.out]; exact zNl _);have HE:Hid (H1D w w3 r r3 M L):=zNg ⟨(f2.turn hg3 (fun b hb=>by have:=hb.1; omega)).mono' (fun b hb=>⟨Nat.le_trans b1.size hb.1,Nat.lt_of_lt_of_le hb.2 hg3.size⟩),FC.mono f3 (fun b hb=>⟨by have:=hb.1; have:=hg2.size; have:=b1.size; omega,hb.2⟩),h1,h5,HR.out,hT,b3⟩;clear f2 f3 hm2 hc1 hc2 hc3 hg2 hg3 b1 b3 hT;go_wp2_with fail
 go_ret2
 exact ⟨_,_,rfl,M,L,HE.out⟩
structure H2D (w w':World) (r1 r2 r3:Value) (M:List (List Int)) (A B:List Trm):Prop where
 rm:RII (New w w') w' r1 M
 ra:FT (New w w') w' r2 A
 rb:FT (New w w') w' r3 B
 m1:1≤M.length
 m5:M.length≤5
 row:∀x∈M,x.length≤4
 ta:TrD A
 tb:TrD B
 bl:Below w.heap.size w w'
theorem zEq {w:World} {v:Value} {n:Nat} (h:RBy Any w v n) (hn:n≤1048576) :
  Calls Tryz.prog 36 #[v] w fun e w'=>∃r1 r2 r3,e=.returned (.tuple #[r1,r2,r3])∧∃M A B,H2D w w' r1 r2 r3 M A B:=by
 obtain ⟨a,cap,rfl⟩:∃a cap,v=.slice a n cap:=by obtain ⟨a,cap,e,_⟩:=h; exact ⟨a,cap,e⟩
 go_enter Tryz.func36,Tryz.ntmps36
 go_wp2_with fail
 refine (zFU h hn).mono ?_;rintro e w1 ⟨rfl,hc1,b1,hlt⟩;obtain ⟨g,hg⟩:∃g,g=w.heap.size:=⟨_,rfl⟩;rw [<-hg] at hc1 ⊢;have HG:=zNg hg;have hgw1:g<w1.heap.size:=by rw [hg]; exact hlt
 clear hg hlt h;go_wp2_with fail
 refine (zIw hc1).mono ?_;rintro e w2 ⟨r,rfl,M,f2,h1,h5,h4,hc2,hg2⟩;have hm2:RII (Off g) w2 r M:=f2.mono' (fun b hb=>by have:=hb.1; show b≠g; omega);have HR:=zNg h4;have ht:total M≤100:=zCz h5 h4;clear h4;go_wp2_with fail
 refine (zDc hc2 hm2 h5 ht).mono ?_;rintro e w3 ⟨r3,rfl,A,f3,hA,hc3,hg3⟩;have hm3:=hm2.turn hg3 (fun b hb=>hb);have HA:=zNg hA;clear hA;go_wp2_with fail
 refine (zDc hc3 hm3 h5 ht).mono ?_;rintro e w4 ⟨r4,rfl,B,f4,hB,hc4,hg4⟩;have hg34:=Off.tr hg3 hg4;have b4:Below w.heap.size w w4:=b1.grown (Off.tr hg2 hg34) b1.size (fun k hk=>by cases hk; rw [HG.out]; exact zNl _);have HE:Hid (H2D w w4 r r3 r4 M A B):=zNg ⟨(f2.turn hg34 (fun b hb=>by have:=hb.1; omega)).mono' (fun b hb=>⟨Nat.le_trans b1.size hb.1,Nat.lt_of_lt_of_le hb.2 hg34.size⟩),
  FC.mono (FT.turn f3 hg4 (fun b hb=>by have:=hb.1; have:=hg2.size; omega)) (fun b hb=>⟨by have:=hb.1; have:=hg2.size; have:=b1.size; omega,Nat.lt_of_lt_of_le hb.2 hg4.size⟩),
  FC.mono f4 (fun b hb=>⟨by have:=hb.1; have:=hg2.size; have:=hg3.size; have:=b1.size; omega,hb.2⟩),h1,h5,HR.out,HA.out,hB,b4⟩
 clear f2 f3 f4 hm2 hm3 hc1 hc2 hc3 hc4 hg2 hg3 hg4 hg34 b1 b4 hB;go_wp2_with fail
 go_ret3
 exact ⟨_,_,_,rfl,M,A,B,HE.out⟩
theorem zI8 {w:World} {v:Value} {n:Nat} (h:RBy Any w v n) (hn:n≤1048576) :
  Calls Tryz.prog 5 #[v] w fun e w'=>∃r1 r2 r3,e=.returned (.tuple #[r1,r2,r3])∧∃M A B,H2D w w' r1 r2 r3 M A B:=by
 obtain ⟨a,cap,rfl⟩:∃a cap,v=.slice a n cap:=by obtain ⟨a,cap,e,_⟩:=h; exact ⟨a,cap,e⟩
 go_enter Tryz.func5,Tryz.ntmps5
 go_wp2_with fail
 refine (zEq h hn).mono ?_;rintro e w2 ⟨r1,r2,r3,rfl,M,A,B,hD⟩;have HD:=zNg hD;clear hD;go_wp2_with fail
 go_ret3
 exact ⟨_,_,_,rfl,M,A,B,HD.out⟩
theorem zIv {w:World} {v:Value} {n:Nat} (h:RBy Any w v n) (hn:n≤1048576) :
  Calls Tryz.prog 17 #[v] w fun e w'=>∃r1 r2 r3,e=.returned (.tuple #[r1,r2,r3])∧∃M A B,H2D w w' r1 r2 r3 M A B:=by
 obtain ⟨a,cap,rfl⟩:∃a cap,v=.slice a n cap:=by obtain ⟨a,cap,e,_⟩:=h; exact ⟨a,cap,e⟩
 go_enter Tryz.func17,Tryz.ntmps17
 go_wp2_with fail
 refine (zEq h hn).mono ?_;rintro e w2 ⟨r1,r2,r3,rfl,M,A,B,hD⟩;have HD:=zNg hD;clear hD;go_wp2_with fail
 go_ret3
 exact ⟨_,_,_,rfl,M,A,B,HD.out⟩
structure HPD (w w':World) (r1 r2 r3:Value) (M:List (List Int)) (L:List Trm) (p:List Int):Prop where
 rm:RII Any w' r1 M
 rt:RT Any w' r2 L
 rp:RI Any w' r3 p
 tot:total M≤100
 tr:TrD L
 len:p.length≤10
 bl:Below w.heap.size w w'
theorem zHe {w:World} {v:Value} {n:Nat} (h:RBy Any w v n) (hn:n≤1048576) :
  Calls Tryz.prog 20 #[v] w fun e w'=>∃r1 r2 r3,e=.returned (.tuple #[r1,r2,r3])∧∃M L p,HPD w w' r1 r2 r3 M L p:=by
 obtain ⟨a,cap,rfl⟩:∃a cap,v=.slice a n cap:=by obtain ⟨a,cap,e,_⟩:=h; exact ⟨a,cap,e⟩
 go_enter Tryz.func20,Tryz.ntmps20
 go_wp2_with fail
 refine (zEp h hn).mono ?_;rintro e w1 ⟨r1,r2,rfl,M,L,hD⟩;have HD:=zNg hD;have h1:=h.below hD.bl;have hs1:=hD.bl.size;clear hD h;go_wp2_with fail
 refine (zFU h1 hn).mono ?_;rintro e w2 ⟨rfl,hc2,b2,hlt⟩;obtain ⟨g,hg⟩:∃g,g=w1.heap.size:=⟨_,rfl⟩;rw [<-hg] at hc2 ⊢;have HG:=zNg hg;clear hg hlt h1;go_wp2_with fail
 refine (zKD hc2).mono ?_;rintro e w3 ⟨r3,rfl,p,f3,hp5,hpi,hc3,hg3⟩;have b13:Below w1.heap.size w1 w3:=b2.grown hg3 b2.size (fun k hk=>by cases hk; rw [HG.out]; exact zNl _);have HE:Hid (HPD w w3 r1 r2 r3 M L p):=zNg ⟨RII.any (HD.out.rm.below b13),FT.any (FT.below HD.out.rt b13),f3.any,zCz HD.out.m5 HD.out.row,HD.out.tr,by omega,zAA.step HD.out.bl b13⟩;clear f3 b13 hc2 hc3 b2 hg3;go_wp2_with fail
 go_ret3
 exact ⟨_,_,_,rfl,M,L,p,HE.out⟩
theorem zHu {w:World} {v:Value} {n:Nat} (h:RBy Any w v n) (hn:n≤1048576) :
  Calls Tryz.prog 23 #[v] w fun e w'=>∃r1 i r2,e=.returned (.tuple #[r1,.int .i64 i,r2])∧∃M L,H1D w w' r1 r2 M L:=by
 obtain ⟨a,cap,rfl⟩:∃a cap,v=.slice a n cap:=by obtain ⟨a,cap,e,_⟩:=h; exact ⟨a,cap,e⟩
 go_enter Tryz.func23,Tryz.ntmps23
 go_wp2_with fail
 refine (zEp h hn).mono ?_;rintro e w1 ⟨r1,r2,rfl,M,L,hD⟩;have HD:=zNg hD;clear hD;go_wp2_with fail
 go_ret3
 exact ⟨_,_,_,rfl,M,L,HD.out⟩
structure WdD (w w':World) (r1 r2:Value) (M:List (List Int)) (l:List Int):Prop where
 rm:RII (New w w') w' r1 M
 rl:RI (New w w') w' r2 l
 m1:1≤M.length
 m5:M.length≤5
 row:∀x∈M,x.length≤4
 len:l.length≤10
 bl:Below w.heap.size w w'
theorem zKl {w:World} {v:Value} {n:Nat} (h:RBy Any w v n) (hn:n≤1048576) :
  Calls Tryz.prog 67 #[v] w fun e w'=>∃r1 r2,e=.returned (.tuple #[r1,r2])∧∃M l,WdD w w' r1 r2 M l:=by
 obtain ⟨a,cap,rfl⟩:∃a cap,v=.slice a n cap:=by obtain ⟨a,cap,e,_⟩:=h; exact ⟨a,cap,e⟩
 go_enter Tryz.func67,Tryz.ntmps67
 go_wp2_with fail
 refine (zFU h hn).mono ?_;rintro e w1 ⟨rfl,hc1,b1,hlt⟩;obtain ⟨g,hg⟩:∃g,g=w.heap.size:=⟨_,rfl⟩;rw [<-hg] at hc1 ⊢;have HG:=zNg hg;have hgw1:g<w1.heap.size:=by rw [hg]; exact hlt
 clear hg hlt h;go_wp2_with fail
 refine (zIw hc1).mono ?_;rintro e w2 ⟨r,rfl,M,f2,h1,h5,h4,hc2,hg2⟩;obtain ⟨a2,c2,rfl⟩:=f2.form;have HR:=zNg h4;clear h4;generalize hm:M.length=m at *;have HM:=zNg hm;clear hm;go_wp2_with fail
 refine (zHm hc2 (n:=m) (m:=9) (by omega) (by omega)).mono ?_;rintro e w3 ⟨r3,rfl,l,f3,hl,hc3,hg3⟩;go_wp2_with fail
 refine (zCw hc3 (n:=12) (by omega) (by omega)).mono ?_;rintro e w4 ⟨bq,rfl,hc4,hg4⟩;obtain ⟨W1,hB1⟩:=(Bs.start w2 g).turn hc2.lt hg3;obtain ⟨W0,hB0⟩:=hB1.turn hc2.lt hg4;have f34:=f3.turn hg4 hc2.lt;have HB0:=zNg hB0;have HG2:=zNg hg2;have HS:=zNg (And.intro b1.size hg2.size);have HB1:=zNg b1;have HL:=zNg hl;have HX:=zNg (And.intro h1 h5);have F2:=zNg f2;have hgl2:=hc2.lt;have HFIN:Hid (∀(w7:World) (v7:Value) (l7:List Int),w2.grownBy w7 (some g)→FI (New w2 w7) w7 v7 l7→l7.length≤10→WdD w w7 (.slice a2 m c2) v7 M l7):=zNg (fun w7 v7 l7 hg7 f7 hl7 =>
  ⟨(F2.out.turn hg7 (fun b hb=>by have:=hb.1; omega)).mono' (fun b hb=>⟨by have:=hb.1; have:=HS.out; omega,Nat.lt_of_lt_of_le hb.2 hg7.size⟩),(f7.mono (fun b hb=>⟨by have:=hb.1; have:=HS.out; omega,hb.2⟩)).reads,by rw [HM.out]; exact HX.out.1,by rw [HM.out]; exact HX.out.2,HR.out,hl7,
   HB1.out.grown (Off.tr HG2.out hg7) HB1.out.size (fun k hk=>by cases hk; rw [HG.out]; exact zNl _)⟩)
 clear f2 f3 hc1 hc2 hc3 hg2 hg3 hg4 b1 hl hB1 hB0;cases bq
 ·have HE:=zNg (HFIN.out w4 r3 l HB0.out.all f34 (by have:=HL.out; omega));clear f34 hc4 HFIN;go_wp2_with fail
  go_ret2
  exact ⟨_,_,rfl,M,l,HE.out⟩
 ·obtain ⟨a3,c3,e3⟩:=f34.form;obtain ⟨w5,hw5⟩:∃w5,w5=w4.alloc (.cells #[.int .i64 (-1),.int .i64 4] 3):=⟨_,rfl⟩;obtain ⟨f5,b5⟩:=litN (w:=w4) [-1,4] (by decide) hw5;have hc5:=hc4.below b5;have hg45:∀b,New w4 w5 b→Off g b:=fun b hb=>by have h1:=hb.1; have h2:=hc4.lt; show b≠g; omega
  have hpk:=zGT hc5 (RI.mono f5.reads hg45) (by decide) (by decide);have hB5:=HB0.out.below b5;have f45:=f34.grow b5;have HW5:=zNg hw5;subst e3;generalize hnl:l.length=nl at *;have HNL:=zNg hnl;clear hw5 hnl f34 hc4 hg45 b5;go_wp2_with fail
  rw [<-HW5.out];refine hpk.mono ?_;rintro e w6 ⟨y,hy,rfl,hc6,hg6⟩;obtain ⟨W2,hB2⟩:=hB5.turn hgl2 hg6;have f46:FI (New W2 w6) w6 (.slice a3 nl c3) l:=by
   rw [hB2.new];exact f45.turn hg6 hgl2
  have bb:=(Below.refl w6.heap.size w6).alloc (zNl _) (.cells #[.int .i64 y] 3);have HB2:=zNg hB2;clear f45 hpk hB5 hB2 hc5 f5 hg6 hc6 hy;go_wp2_with (at_builtin; go_must (refine zAG (W:=W2) rfl _ _ rfl rfl (f46.grow bb) (HB2.out.below bb).bl rfl (RI.one w6 y) ?_ ?_))
  ·have:=HL.out; have:=HNL.out; simp; omega
  ·intro v7 w7 f7 b7 _;have hB7:Bs w2 g W2 w7:=⟨HB2.out.size,HB2.out.gr,b7⟩;rw [hB7.new] at f7;have HE:=zNg (HFIN.out w7 v7 (l++[y]) hB7.all f7 (by have:=HL.out; have:=HNL.out; simp; omega));clear f7 b7 hB7 f46 HFIN bb;go_wp2_with fail
   go_ret2
   exact ⟨_,_,rfl,M,_,HE.out⟩
theorem zGn {w:World} {v:Value} {n:Nat} (h:RBy Any w v n) (hn:n≤1048576) :
  Calls Tryz.prog 26 #[v] w fun e w'=>∃r1 r2,e=.returned (.tuple #[r1,r2])∧∃M l,WdD w w' r1 r2 M l:=by
 obtain ⟨a,cap,rfl⟩:∃a cap,v=.slice a n cap:=by obtain ⟨a,cap,e,_⟩:=h; exact ⟨a,cap,e⟩
 go_enter Tryz.func26,Tryz.ntmps26
 go_wp2_with fail
 refine (zKl h hn).mono ?_;rintro e w2 ⟨r1,r2,rfl,M,l,hD⟩;have HD:=zNg hD;clear hD;go_wp2_with fail
 go_ret2
 exact ⟨_,_,rfl,M,l,HD.out⟩
theorem zGt {w:World} {v:Value} {n:Nat} (h:RBy Any w v n) (hn:n≤1048576) :
  Calls Tryz.prog 28 #[v] w fun e w'=>∃r1 r2,e=.returned (.tuple #[r1,r2])∧∃A B,RT Any w' r1 A∧RT Any w' r2 B∧TrD A∧TrD B∧Below w.heap.size w w':=by
 obtain ⟨a,cap,rfl⟩:∃a cap,v=.slice a n cap:=by obtain ⟨a,cap,e,_⟩:=h; exact ⟨a,cap,e⟩
 go_enter Tryz.func28,Tryz.ntmps28
 go_wp2_with fail
 refine (zEq h hn).mono ?_;rintro e w1 ⟨r1,r2,r3,rfl,M,A,B,hD⟩;have hra:=hD.ra.any;have hrb:=hD.rb.any;have HD:=zNg hD;clear hD h;obtain ⟨aa,ca,rfl⟩:=hra.form;obtain ⟨k,hk⟩:∃k:Nat,k=n % 2:=⟨_,rfl⟩;have e1:(n:Int) % 2=(k:Int):=by omega
 by_cases hk0:k=0
 ·have i1:((k:Int) == 0)=true:=by simp [hk0]
  have hlA:A.length≤4:=HD.out.ta.len;have f1:OT w1 (w1.alloc (.cells #[] 39)) (.slice (some ⟨w1.heap.size,0,none⟩) 0 0) []:=OT.fresh (Below.refl _ w1);have b1:Below w1.heap.size w1 (w1.alloc (.cells #[] 39)):=(Below.refl _ w1).alloc (zNl _) _;have hra1:=hra.below b1;generalize hna:A.length=na at *;have HNA:=zNg hna;clear hna hk hk0;go_wp2_with (at_builtin; go_must (refine zCb (W:=w1) rfl _ _ rfl rfl f1 b1 rfl hra1 ?_ ?_))
  ·have:=HNA.out; simp; omega
  ·intro v2 w2 f2 b2 _;have HE:Hid (RT Any w2 (.slice aa na ca) A∧RT Any w2 v2 A∧TrD A∧TrD A∧Below w.heap.size w w2):=zNg ⟨hra.below b2,f2.read,HD.out.ta,HD.out.ta,zAA.step HD.out.bl b2⟩;clear f2 b2 hra hra1 hrb f1 b1;go_wp2_with fail
   go_ret2
   exact ⟨_,_,rfl,A,A,HE.out⟩
 ·have i1:((k:Int) == 0)=false:=by simp; omega
  have HE:Hid (RT Any w1 (.slice aa A.length ca) A∧RT Any w1 r3 B∧TrD A∧TrD B∧Below w.heap.size w w1):=zNg ⟨hra,hrb,HD.out.ta,HD.out.tb,HD.out.bl⟩;clear hra hrb hk hk0;generalize A.length=na at *;go_wp2_with fail
  go_ret2
  exact ⟨_,_,rfl,A,B,HE.out⟩
theorem zGa {w:World} {v:Value} {n:Nat} (h:RBy Any w v n) (hn:n≤1048576) :
  Calls Tryz.prog 29 #[v] w fun e w'=>∃r1 r2,e=.returned (.tuple #[r1,r2])∧∃L l,RT Any w' r1 L∧RI Any w' r2 l∧TrD L∧l.length≤4∧Below w.heap.size w w':=by
 obtain ⟨a,cap,rfl⟩:∃a cap,v=.slice a n cap:=by obtain ⟨a,cap,e,_⟩:=h; exact ⟨a,cap,e⟩
 go_enter Tryz.func29,Tryz.ntmps29
 go_wp2_with fail
 refine (zFU h hn).mono ?_;rintro e w1 ⟨rfl,hc1,b1,hlt⟩;obtain ⟨g,hg⟩:∃g,g=w.heap.size:=⟨_,rfl⟩;rw [<-hg] at hc1 ⊢;have HG:=zNg hg;have hgw1:g<w1.heap.size:=by rw [hg]; exact hlt
 have h1:=h.below b1;clear hg hlt h;go_wp2_with fail
 refine (zEp h1 hn).mono ?_;rintro e w2 ⟨r1,r2,rfl,M,L,hD⟩;have hc2:=hc1.below hD.bl;obtain ⟨am,cm,e1⟩:=hD.rm.form;have hrt:=hD.rt;obtain ⟨al,cl,rfl,_⟩:=FC.form hrt;subst e1;have HD:=zNg hD;have HFIN:Hid (∀(w7:World) (v7:Value) (l7:List Int),w2.grownBy w7 (some g)→RI Any w7 v7 l7→l7.length≤4→RT Any w7 (.slice al L.length cl) L∧RI Any w7 v7 l7∧TrD L∧l7.length≤4∧Below w.heap.size w w7):=zNg (fun w7 v7 l7 hg7 f7 hl7 =>
  ⟨(FT.turn HD.out.rt hg7 (fun b hb=>by have:=hb.1; omega)).any,f7,HD.out.tr,hl7,b1.grown (Off.tr (Off.grown HD.out.bl) hg7) b1.size (fun k hk=>by cases hk; rw [HG.out]; exact zNl _)⟩)
 have hm5:M.length≤5:=hD.m5;clear hD h1 hc1 b1;generalize hm:M.length=m at *;generalize hnl:L.length=nl at *;have HNL:=zNg hnl;clear hm hnl;by_cases h0:nl=0
 ·subst h0;have i1:¬((0:Nat):Int) > 0:=by omega
  go_wp2_with fail
  refine (zHm hc2 (n:=m) (m:=3) (by omega) (by omega)).mono ?_;rintro e w3 ⟨r3,rfl,l,f3,hl,hc3,hg3⟩;have HE:=zNg (HFIN.out w3 r3 l hg3 f3.any (by omega));clear hrt f3 hc3 hc2 hg3 HFIN;go_wp2_with fail
  go_ret2
  exact ⟨_,_,rfl,L,l,HE.out⟩
 ·have i1:(nl:Int) > 0:=by omega
  go_wp2_with fail
  refine (zCw hc2 (n:=2) (by omega) (by omega)).mono ?_;rintro e w3 ⟨bq,rfl,hc3,hg3⟩;cases bq
  ·go_wp2_with fail
   refine (zHm hc3 (n:=m) (m:=3) (by omega) (by omega)).mono ?_;rintro e w4 ⟨r4,rfl,l,f4,hl,hc4,hg4⟩;have HE:=zNg (HFIN.out w4 r4 l (Off.tr hg3 hg4) f4.any (by omega));clear hrt f4 hc4 hc3 hc2 hg3 hg4 HFIN;go_wp2_with fail
   go_ret2
   exact ⟨_,_,rfl,L,l,HE.out⟩
  ·have hrt3:RT Any w3 (.slice al nl cl) L:=(FT.turn hrt hg3 (fun b hb=>by have:=hb.1; omega) |> fun (x:FT (New w1 w2) w3 (.slice al nl cl) L)=>FT.any x);obtain ⟨b,o,r,r',x,e1,k0,k1,⟨q0,q1⟩,hx⟩:=hrt3.at (show 0<nl by omega);obtain rfl:al=some ⟨b,o,none⟩:=e1;simp only [Nat.zero_mul,Nat.add_zero,Nat.zero_add] at k0 k1;have HE:=zNg (HFIN.out w3.drew r x.1 (Off.drewG hg3) q0.any.drew (by have:=(HD.out.tr.wd x (zNi hx.out)).1; omega));have i2:(0:Int)<(nl:Int):=by omega
   clear hrt hrt3 hc3 hc2 hg3 HFIN q0 q1 hx;go_wp2_with fail
   go_region_with fail
   go_wp2_with fail
   go_ret2
   exact ⟨_,_,rfl,L,x.1,HE.out⟩
theorem zFw {S S':Nat→Prop} {u v:Value} {c:List (List Int)} {l:List Int} {w:World} (h:RII S w u c) (h':RI S' w v l) (hl:total c≤16777216) (hl':l.length≤16777216) :
  Calls Tryz.prog 49 #[u,v] w fun e w'=>∃r,e=.returned (.tuple #[r,.bool (isWd c l.reverse)])∧FI (New w w') w' r (zAi c l.reverse)∧Below w.heap.size w w':=by
 obtain ⟨a,cap,rfl⟩:=h.form;have hlr:l.reverse.length≤16777216:=by rw [List.length_reverse]; exact hl'
 go_enter Tryz.func49,Tryz.ntmps49
 go_wp2_with fail
 refine (zFc h' hl').mono ?_;rintro e w1 ⟨r1,rfl,f1,b1⟩;go_wp2_with fail
 refine (zCT (h.below b1) f1.reads hl hlr).mono ?_;rintro e w2 ⟨r2,rfl,f2,b2⟩;have HE:Hid (FI (New w w2) w2 r2 (zAi c l.reverse)∧Below w.heap.size w w2):=zNg ⟨f2.mono (fun b hb=>⟨by have:=hb.1; have:=b1.size; omega,hb.2⟩),zAA.step b1 b2⟩;clear f2 f1 b1 b2;go_wp2_with fail
 go_ret2
 exact ⟨_,rfl,HE.out⟩
theorem zJn {S S':Nat→Prop} {u v:Value} {c:List (List Int)} {l:List Int} {w:World} (h:RII S w u c) (h':RI S' w v l) (hl:total c≤16777216) (hl':l.length≤16777216) :
  Calls Tryz.prog 15 #[u,v] w fun e w'=>∃r,e=.returned r∧FI (New w w') w' r (zAi c l.reverse)∧Below w.heap.size w w':=by
 obtain ⟨a,cap,rfl⟩:=h.form;go_enter Tryz.func15,Tryz.ntmps15
 go_wp2_with fail
 refine (zFw h h' hl hl').mono ?_;rintro e w2 ⟨r2,rfl,f2,b2⟩;go_wp2_with fail
 go_ret
 exact ⟨_,rfl,f2,b2⟩
theorem zJr {w:World} {v:Value} {n m cap i k:Nat} {a:Option Addr} (h:RBy Any w v n) (hn:n≤1048576) (hm:1≤m∧m≤16) (hi:i≤100) (hk:k≤100) :
  Calls Tryz.prog 14 #[v,.int .i64 i,.slice a m cap,.int .i64 k] w fun e w'=>∃r,e=.returned r∧∃l:List Int,FI (New w w') w' r l∧l.length≤k∧(∀y∈l,0≤y∧y<(m:Int))∧Below w.heap.size w w':=by
 obtain ⟨av,cv,rfl⟩:∃a cap,v=.slice a n cap:=by obtain ⟨a,cap,e,_⟩:=h; exact ⟨a,cap,e⟩
 have i0:((m:Int) == 0)=false:=by simp; omega
 have i1:((k:Int)+1 == 0)=false:=by simp; omega
 go_enter Tryz.func14,Tryz.ntmps14
 go_wp2_with fail
 obtain ⟨w1,hw1⟩:∃w1,w1=w.alloc (.cells #[] 3):=⟨_,rfl⟩;obtain ⟨f1,b1⟩:=zAa (Below.refl _ w) hw1;rw [<-hw1];clear hw1;go_loopw [9,10] (fun zz jj wr=>∃(j:Nat) (z:Value) (acc:List Int),z=zz∧j≤k∧jj=.int .i64 j∧FI (New w wr) wr z acc∧Hid (acc.length≤j∧∀y∈acc,0≤y∧y<(m:Int))∧Below w.heap.size w wr) (fun _ jj _=>k+1-(intOf jj).toNat)
 case atStart=>exact ⟨0,_,[],rfl,Nat.zero_le _,rfl,f1,zNg ⟨by simp,fun y hy=>by simp at hy⟩,b1⟩
 case round =>
  clear f1 b1;obtain ⟨j,z,acc,rfl,hj,rfl,hf,HA,hb⟩:=hrel;have h2:=h.below hb;go_wp2_with fail
  refine (atDr (i:=i) h2 hn (by omega)).mono ?_;rintro e w2 ⟨x,hx,rfl,rfl⟩;obtain ⟨y,hy⟩:∃y:Nat,y=x % (k+1):=⟨_,rfl⟩;have hyk:y≤k:=by have:=Nat.mod_lt x (show 0<k+1 by omega); omega
  have e1:(x:Int) % ((k:Int)+1)=(y:Int):=by rw [hy]; exact (Int.natCast_emod x (k+1)).symm
  clear hy hx;by_cases hjy:j<y
  ·have i2:(j:Int)<(y:Int):=by omega
   obtain ⟨t,ht,e2⟩:∃t:Nat,t≤300∧(i:Int)+1+(j:Int)=(t:Int):=⟨i+1+j,by omega,by omega⟩;go_wp2_with fail
   refine (atDr (i:=t) h2 hn (by omega)).mono ?_;rintro e w3 ⟨x2,hx2,rfl,rfl⟩;obtain ⟨q,hq⟩:∃q:Nat,q=x2 % m:=⟨_,rfl⟩;have hqm:q<m:=by rw [hq]; exact Nat.mod_lt _ (by omega)
   have e3:(x2:Int) % (m:Int)=(q:Int):=by rw [hq]; exact (Int.natCast_emod x2 m).symm
   clear hq hx2;have bb:=(Below.refl wr.heap.size wr).alloc (zNl _) (.cells #[.int .i64 (q:Int)] 3);go_wp2_with (at_builtin; go_must (refine zAG (W:=w) rfl _ _ rfl rfl (hf.grow bb) (zAA.step hb bb) rfl (RI.one wr (q:Int)) ?_ ?_))
   ·have:=HA.out.1; simp; omega
   ·intro v' w4 f4 b4 _;go_wp2_with fail
    go_roundw
    case rel=>exact ⟨j+1,_,acc++[(q:Int)],rfl,by omega,by go_num,f4,zNg ⟨by have:=HA.out.1; simp; omega,fun p hp=>by
      rcases List.mem_append.1 hp with hp | hp
      ·exact HA.out.2 p hp
      ·rw [List.mem_singleton] at hp; omega⟩,b4⟩
    case measure=>simp [intOf]; omega
  ·have i2:¬(j:Int)<(y:Int):=by omega
   go_wp2_with fail
   go_ret
   exact ⟨_,rfl,acc,hf,by have:=HA.out.1; omega,HA.out.2,hb⟩
end Go.Proofs.YtlchafedbnihoaaGreatDoor
