/- Whether a word is an element's normal form. Condition: sizes up to 2^24. -/
import Derived.Test.YtlchafedbnihoaaGreatDoorJGNrm
import Derived.Test.YtlchafedbnihoaaGreatDoorJGCell
import Derived.Test.YtlchafedbnihoaaGreatDoorJGPoly
namespace Go.Proofs.YtlchafedbnihoaaGreatDoor
open Go.RowKit
set_option maxRecDepth 20000
set_option maxHeartbeats 16000000
def isE (c:List (List Int)) (l:List Int):Bool:=isWd c l && eqL (zAQ c l) l
theorem zG7 {c:List (List Int)} {l:List Int} (h:isE c l=true):isWd c l=true∧zAQ c l=l:=by
 unfold isE at h;simp only [Bool.and_eq_true] at h;refine ⟨h.1,?_⟩;have:=zIE (zAQ c l) l;rw [h.2] at this;exact zCA.1 (by simpa using this)
theorem zBT {S S':Nat→Prop} {u v:Value} {c:List (List Int)} {l:List Int} {w:World} (h:RII S w u c) (h':RI S' w v l) (hl:total c≤16777216) (hl':l.length≤16777216) :
  Calls Tryz.prog 39 #[u,v] w fun e w'=>e=.returned (.bool (isE c l))∧Below w.heap.size w w':=by
 have HY:Hid (isWd c l=true→isE c l=eqL (zAQ c l) l∧CartanP c∧Lets c.length l∧l.length≤15∧(zAQ c l).length≤l.length):=zNg (fun h=>by
  obtain ⟨h1,h2,h3⟩:=zBF h;exact ⟨by unfold isE; rw [h]; rfl,zBL.1 h1,h3,h2,zB6 (zBL.1 h1) h3 (by omega)⟩)
 have HN:Hid (isWd c l=false→isE c l=false):=zNg (fun h=>by unfold isE; rw [h]; rfl);generalize isE c l=res at *;go_enter Tryz.func39,Tryz.ntmps39
 go_wp2_with fail
 refine (zFM h h' hl hl').mono ?_;rintro e w3 ⟨rfl,hw3⟩;have b3:=zAc hw3;clear hw3;cases hg:isWd c l
 ·have e0:=zNg (HN.out hg);go_wp2_with fail
  go_ret
  exact ⟨zAB e0.out.symm,b3⟩
 ·have HA:=zNg (HY.out hg);go_wp2_with fail
  refine (zDC (h.below b3) (h'.below b3) HA.out.2.1 HA.out.2.2.1 (by have:=HA.out.2.2.2.1; omega)).mono ?_;rintro e w4 ⟨r4,rfl,f4,b4⟩;have b04:=zAA.step b3 b4;go_wp2_with fail
  refine (zCR f4.reads (h'.below b04) (by have:=HA.out.2.2.2; omega) hl').mono ?_;rintro e w5 ⟨rfl,hw5⟩;have b5:=zAA.step b04 (zAc hw5);clear hw5;have e0:=zNg HA.out.1;generalize eqL (zAQ c l) l=q at *;go_wp2_with fail
  go_ret
  exact ⟨zAB e0.out.symm,b5⟩
theorem zBU {S S':Nat→Prop} {u v:Value} {c:List (List Int)} {l:List Int} {w:World} (h:RII S w u c) (h':RI S' w v l) (hl:total c≤16777216) (hl':l.length≤16777216) :
  Calls Tryz.prog 42 #[u,v] w fun e w'=>e=.returned (.bool (isE c l))∧Below w.heap.size w w':=by
 have HY:Hid (isWd c l=true→isE c l=eqL (zAi c l) l):=zNg (fun h=>by
  unfold isE zAi; rw [h]; rfl)
 have HN:Hid (isWd c l=false→isE c l=false):=zNg (fun h=>by unfold isE; rw [h]; rfl);have HL:=zNg (zDh c l);generalize isE c l=res at *;go_enter Tryz.func42,Tryz.ntmps42
 go_wp2_with fail
 refine (zCT h h' hl hl').mono ?_;rintro e w3 ⟨r3,rfl,f3,b3⟩;cases hg:isWd c l
 ·have e0:=zNg (HN.out hg);go_wp2_with fail
  go_ret
  exact ⟨zAB e0.out.symm,b3⟩
 ·have e0:=zNg (HY.out hg);go_wp2_with fail
  refine (zBv f3.reads (h'.below b3) (by have:=HL.out; omega) hl').mono ?_;rintro e w5 ⟨rfl,hw5⟩;have b5:=zAA.step b3 (zAc hw5);clear hw5;generalize eqL (zAi c l) l=q at *;go_wp2_with fail
  go_ret
  exact ⟨zAB e0.out.symm,b5⟩
def zAZ (c:List (List Int)):Option (List Int)→List Trm→Bool
 | _,[]=>true
 | p,x::L=>isE c x.1 && (isP x.2 && (!x.2.isEmpty && ((match p with | none=>true | some q=>decide (cmpW q x.1<0)) && zAZ c (some x.1) L)))
def zAy (L:List Trm):Nat→Option (List Int)
 | 0=>none
 | j+1=>(L[j]?).map Prod.fst
def isHk (c:List (List Int)) (h:List Trm):Bool:=isC c && (decide (h.length≤60) && zAZ c none h)
theorem zIH {c:List (List Int)} {L:List Trm} {k:Nat} {x:Trm} (h:L[k]? = some x):zAZ c (zAy L k) (L.drop k)=(isE c x.1 && (isP x.2 && (!x.2.isEmpty && ((match zAy L k with | none=>true | some q=>decide (cmpW q x.1<0)) && zAZ c (zAy L (k+1)) (L.drop (k+1)))))):=by
 rw [zAJ h];simp only [zAZ,zAy,h,Option.map_some]
theorem zDg {l:List Int}:(!l.isEmpty)=decide (l.length≠0):=by cases l <;> simp
set_option maxRecDepth 100000 in
theorem zA9 {S S':Nat→Prop} {u v:Value} {c:List (List Int)} {L:List Trm} {w:World} (h:RII S w u c) (h':RT S' w v L) (hl:total c≤16777216) (hl':zAD L≤16777216) :
  Calls Tryz.prog 10 #[u,v] w fun e w'=>e=.returned (.bool (isHk c L))∧Below w.heap.size w w':=by
 obtain ⟨a',cap',rfl⟩:=h'.form;have HT:Hid (∀(k:Nat) (x:Trm),L[k]? = some x→x.1.length≤16777216∧x.2.length≤16777216):=zNg (fun k x hx=>by have:=zA6 (zNi hx); omega);have HF:Hid (zAZ c none L=false→isHk c L=false):=zNg (fun h=>by unfold isHk; rw [h]; simp);have HF2:Hid (isHk c L=(isC c && (decide (L.length≤60) && zAZ c none L))):=zNg rfl;have HR0:Hid (zAZ c (zAy L 0) (L.drop 0)=zAZ c none L):=zNg (by simp [zAy]);have HR1:Hid (zAZ c (zAy L L.length) (L.drop L.length)=true):=zNg (by simp [zAZ]);generalize isHk c L=res at *;have hl0:L.length≤16777216:=by unfold zAD at hl'; omega
 generalize hn:L.length=n at *;have HN:=zNg hn;clear hn;go_enter Tryz.func10,Tryz.ntmps10
 go_wp2_with fail
 go_loopw [5] (fun j wr=>∃(k:Nat),k≤n∧j=.int .i64 k∧Hid (zAZ c (zAy L k) (L.drop k)=zAZ c none L)∧Below w.heap.size w wr) (fun j _=>n-(intOf j).toNat)
 case atStart=>exact ⟨0,Nat.zero_le _,rfl,HR0,Below.refl _ _⟩
 case round =>
  obtain ⟨k,hk,rfl,HK,HB⟩:=hrel;have hT:=h'.below HB;have hu:=h.below HB;by_cases hlt:k<n
  ·obtain ⟨b,o,r,r',x,rfl,hc,hc',hx2,hx⟩:=hT.at hlt;obtain ⟨hr,hr'⟩:=hx2;have HS:=zNg (zIH (c:=c) hx.out);obtain ⟨s1,s2⟩:=HT.out k x hx.out;obtain ⟨ar,cr,rfl⟩:=hr.form;obtain ⟨ar',cr',rfl⟩:=hr'.form;generalize hm:x.2.length=m at *;have HM:=zNg hm;clear hm;have i1:(k:Int)<(n:Int):=by omega
   have g0:=fun y:GW wr=>y.cell hc;have g1:=fun y:GW wr=>y.cell hc';cases hE:isE c x.1
   ·have HE:=zNg hE;clear hE;have e0:Hid (res=false):=zNg (HF.out (by rw [<-HK.out,HS.out,HE.out]; rfl));go_wp2_with fail
    refine zAK (by kernel_rfl) (by kernel_rfl) ?_
    repeat (go_big_quiet_step ((first | (rename_i y; go_at_call 42; exact Calls.grow_of (v:=.bool (isE c x.1)) (v':=.bool false) y (zBU (hu.below y.le) (hr.below y.le) hl s1) (by rw [HE.out])))))
    refine wpQuiet_nil ?_;intro w8 hb8;go_wp2_with fail
    go_ret
    exact ⟨zAB e0.out.symm,zAA.step HB hb8⟩
   ·have HE:=zNg hE;clear hE;cases hP:isP x.2
    ·have HP:=zNg hP;clear hP;have e0:Hid (res=false):=zNg (HF.out (by rw [<-HK.out,HS.out,HE.out,HP.out]; rfl));go_wp2_with fail
     refine zAK (by kernel_rfl) (by kernel_rfl) ?_
     repeat (go_big_quiet_step ((first | (rename_i y; go_at_call 42; exact Calls.grow_of (v:=.bool (isE c x.1)) (v':=.bool true) y (zBU (hu.below y.le) (hr.below y.le) hl s1) (by rw [HE.out])) | (rename_i y; go_at_call 43; exact Calls.grow_of (v:=.bool (isP x.2)) (v':=.bool false) y (zBg (hr'.below y.le) (by rw [HM.out]; exact s2)) (by rw [HP.out])))))
     refine wpQuiet_nil ?_;intro w8 hb8;go_wp2_with fail
     go_ret
     exact ⟨zAB e0.out.symm,zAA.step HB hb8⟩
    ·have HP:=zNg hP;clear hP;by_cases hz:m=0
     ·have e0:Hid (res=false):=zNg (HF.out (by rw [<-HK.out,HS.out,HE.out,HP.out,zDg,HM.out,hz]; rfl));have i4:((m:Int) == 0)=true:=by simp; omega
      clear hz;go_wp2_with fail
      refine zAK (by kernel_rfl) (by kernel_rfl) ?_
      repeat (go_big_quiet_step ((first | (rename_i y; go_at_call 42; exact Calls.grow_of (v:=.bool (isE c x.1)) (v':=.bool true) y (zBU (hu.below y.le) (hr.below y.le) hl s1) (by rw [HE.out])) | (rename_i y; go_at_call 43; exact Calls.grow_of (v:=.bool (isP x.2)) (v':=.bool true) y (zBg (hr'.below y.le) (by rw [HM.out]; exact s2)) (by rw [HP.out])))))
      refine wpQuiet_nil ?_;intro w8 hb8;go_wp2_with fail
      go_ret
      exact ⟨zAB e0.out.symm,zAA.step HB hb8⟩
     ·have HZ:Hid ((!x.2.isEmpty)=true):=zNg (by rw [zDg,HM.out]; simp; omega);have i4:((m:Int) == 0)=false:=by simp; omega
      clear hz;rcases k with _ | k
      ·have e1:Hid (zAZ c (zAy L 1) (L.drop 1)=zAZ c none L):=zNg (by rw [<-HK.out,HS.out,HE.out,HP.out,HZ.out]; rfl);rw [show (((0:Nat):Int))=0 from rfl];have i5:decide ((0:Int)<0)=false:=by decide
       rw [Nat.zero_mul,Nat.add_zero] at hc hc';have g0:=fun y:GW wr=>y.cell hc;have g1:=fun y:GW wr=>y.cell hc';go_wp2_with fail
       refine zAK (by kernel_rfl) (by kernel_rfl) ?_
       repeat (go_big_quiet_step ((first | (rename_i y; go_at_call 42; exact Calls.grow_of (v:=.bool (isE c x.1)) (v':=.bool true) y (zBU (hu.below y.le) (hr.below y.le) hl s1) (by rw [HE.out])) | (rename_i y; go_at_call 43; exact Calls.grow_of (v:=.bool (isP x.2)) (v':=.bool true) y (zBg (hr'.below y.le) (by rw [HM.out]; exact s2)) (by rw [HP.out])))))
       refine wpQuiet_nil ?_;intro w8 hb8;go_wp2_with fail
       go_roundw
       case rel=>exact ⟨1,by omega,by go_num,e1,zAA.step HB hb8⟩
       case measure=>simp [intOf]; omega
      ·obtain ⟨b0,o0,r0,r0',x0,e9,hc0,hc0',hx02,hx0⟩:=hT.at (j:=k) (by omega);simp only [Option.some.injEq,Addr.mk.injEq,and_true] at e9;obtain ⟨rfl,rfl⟩:=e9;have hq:=hx02.1;have s3:=(HT.out k x0 hx0.out).1;have g2:=fun y:GW wr=>y.cell hc0;have HPV:Hid (zAy L (k+1)=some x0.1):=zNg (by simp [zAy,hx0.out]);obtain ⟨aq,cq,rfl⟩:=hq.form;have i5:decide ((0:Int)<(k:Int)+1)=true:=decide_eq_true (by omega);have i6:(0:Int)≤(k:Int):=by omega
       have i7:(k:Int)<(n:Int):=by omega
       by_cases hcm:cmpW x0.1 x.1<0
       ·have e1:Hid (zAZ c (zAy L (k+1+1)) (L.drop (k+1+1))=zAZ c none L):=zNg (by rw [<-HK.out,HS.out,HE.out,HP.out,HZ.out,HPV.out]; simp [hcm]);have i8:¬(0:Int)≤cmpW x0.1 x.1:=by omega
        have i9:decide ((0:Int)≤cmpW x0.1 x.1)=false:=decide_eq_false i8;clear hcm;generalize hD:cmpW x0.1 x.1=D at *;have HDD:=zNg hD;clear hD;go_wp2_with fail
        refine zAK (by kernel_rfl) (by kernel_rfl) ?_
        repeat (go_big_quiet_step ((first | (rename_i y; go_at_call 42; exact Calls.grow_of (v:=.bool (isE c x.1)) (v':=.bool true) y (zBU (hu.below y.le) (hr.below y.le) hl s1) (by rw [HE.out])) | (rename_i y; go_at_call 43; exact Calls.grow_of (v:=.bool (isP x.2)) (v':=.bool true) y (zBg (hr'.below y.le) (by rw [HM.out]; exact s2)) (by rw [HP.out])) | (rename_i y; go_at_call 44; exact Calls.grow_of (v:=.int .i64 (cmpW x0.1 x.1)) (v':=.int .i64 D) y (Calls.quietly (zBd (hq.below y.le) (hr.below y.le) s3 s1)) (by rw [HDD.out])))))
        refine wpQuiet_nil ?_;intro w8 hb8;go_wp2_with fail
        go_roundw
        case rel=>exact ⟨k+1+1,by omega,by go_num,e1,zAA.step HB hb8⟩
        case measure=>simp [intOf]; omega
       ·have e0:Hid (res=false):=zNg (HF.out (by rw [<-HK.out,HS.out,HE.out,HP.out,HZ.out,HPV.out]; simp [hcm]));have i8:(0:Int)≤cmpW x0.1 x.1:=by omega
        have i9:decide ((0:Int)≤cmpW x0.1 x.1)=true:=decide_eq_true i8;clear hcm;generalize hD:cmpW x0.1 x.1=D at *;have HDD:=zNg hD;clear hD;go_wp2_with fail
        refine zAK (by kernel_rfl) (by kernel_rfl) ?_
        repeat (go_big_quiet_step ((first | (rename_i y; go_at_call 42; exact Calls.grow_of (v:=.bool (isE c x.1)) (v':=.bool true) y (zBU (hu.below y.le) (hr.below y.le) hl s1) (by rw [HE.out])) | (rename_i y; go_at_call 43; exact Calls.grow_of (v:=.bool (isP x.2)) (v':=.bool true) y (zBg (hr'.below y.le) (by rw [HM.out]; exact s2)) (by rw [HP.out])) | (rename_i y; go_at_call 44; exact Calls.grow_of (v:=.int .i64 (cmpW x0.1 x.1)) (v':=.int .i64 D) y (Calls.quietly (zBd (hq.below y.le) (hr.below y.le) s3 s1)) (by rw [HDD.out])))))
        refine wpQuiet_nil ?_;intro w8 hb8;go_wp2_with fail
        go_ret
        exact ⟨zAB e0.out.symm,zAA.step HB hb8⟩
  ·have hkn:k=n:=by omega
   have HK1:Hid (zAZ c none L=true):=zNg (by rw [<-HK.out,hkn,HR1.out]);have i1:¬(k:Int)<(n:Int):=by omega
   clear hkn;go_wp2_with fail
   refine (zBb hu hl).mono ?_;rintro e w5 ⟨rfl,hw5⟩;have b5:=zAA.step HB (zAc hw5);clear hw5;cases hC:isC c
   ·have e0:Hid (res=false):=zNg (by rw [HF2.out,hC]; rfl);go_wp2_with fail
    go_ret
    exact ⟨zAB e0.out.symm,b5⟩
   ·have e0:Hid (res=decide (n≤60)):=zNg (by rw [HF2.out,hC,HK1.out]; simp);clear hC;by_cases h60:n≤60
    ·have e1:Hid (res=true):=zNg (by rw [e0.out]; simpa using h60);have i2:(n:Int)≤60:=by omega
     go_wp2_with fail
     go_ret
     exact ⟨zAB e1.out.symm,b5⟩
    ·have e1:Hid (res=false):=zNg (by rw [e0.out]; simpa using h60);have i2:¬(n:Int)≤60:=by omega
     go_wp2_with fail
     go_ret
     exact ⟨zAB (by rw [e1.out]; exact decide_eq_false (by omega)),b5⟩
set_option maxRecDepth 100000 in
theorem zA8 {S S':Nat→Prop} {u v:Value} {c:List (List Int)} {L:List Trm} {w:World} (h:RII S w u c) (h':RT S' w v L) (hl:total c≤16777216) (hl':zAD L≤16777216) :
  Calls Tryz.prog 9 #[u,v] w fun e w'=>e=.returned (.bool (isHk c L))∧Below w.heap.size w w':=by
 obtain ⟨a',cap',rfl⟩:=h'.form;have HT:Hid (∀(k:Nat) (x:Trm),L[k]? = some x→x.1.length≤16777216∧x.2.length≤16777216):=zNg (fun k x hx=>by have:=zA6 (zNi hx); omega);have HF:Hid (zAZ c none L=false→isHk c L=false):=zNg (fun h=>by unfold isHk; rw [h]; simp);have HF2:Hid (isHk c L=(isC c && (decide (L.length≤60) && zAZ c none L))):=zNg rfl;have HR0:Hid (zAZ c (zAy L 0) (L.drop 0)=zAZ c none L):=zNg (by simp [zAy]);have HR1:Hid (zAZ c (zAy L L.length) (L.drop L.length)=true):=zNg (by simp [zAZ]);generalize isHk c L=res at *;have hl0:L.length≤16777216:=by unfold zAD at hl'; omega
 generalize hn:L.length=n at *;have HN:=zNg hn;clear hn;go_enter Tryz.func9,Tryz.ntmps9
 go_wp2_with fail
 refine (zD3 h hl).mono ?_;rintro e w1 ⟨rfl,hw1⟩;have b1:=zAc hw1;clear hw1;cases hC:isC c
 ·have e0:Hid (res=false):=zNg (by rw [HF2.out,hC]; rfl);go_wp2_with fail
  go_ret
  exact ⟨zAB e0.out.symm,b1⟩
 ·have HC:=zNg hC;clear hC;by_cases h60:n≤60
  ·have HR:Hid (res=zAZ c none L):=zNg (by rw [HF2.out,HC.out]; simp [h60]);have i60:¬(60:Int)<(n:Int):=by omega
   have h1:=h.below b1;have h1':=h'.below b1;go_wp2_with fail
   go_loopw [17] (fun j wr=>∃(k:Nat),k≤n∧j=.int .i64 k∧Hid (zAZ c (zAy L k) (L.drop k)=zAZ c none L)∧Below w1.heap.size w1 wr) (fun j _=>n-(intOf j).toNat)
   case atStart=>exact ⟨0,Nat.zero_le _,rfl,HR0,Below.refl _ _⟩
   case round =>
    obtain ⟨k,hk,rfl,HK,hb⟩:=hrel;by_cases hlt:k<n
    ·have hT:=h1'.below hb;obtain ⟨b,o,r,r',x,rfl,hc,hc',hx2,hx⟩:=hT.at hlt;obtain ⟨hr,hr'⟩:=hx2;have HS:=zNg (zIH (c:=c) hx.out);obtain ⟨s1,s2⟩:=HT.out k x hx.out;obtain ⟨ar,cr,rfl⟩:=hr.form;obtain ⟨ar',cr',rfl⟩:=hr'.form;generalize hm:x.2.length=m at *;have HM:=zNg hm;clear hm;have i1:(k:Int)<(n:Int):=by omega
     obtain ⟨w2,hw2⟩:∃w2,w2=wr.alloc (.cells #[.slice ar x.1.length cr,.slice ar' m cr'] 39):=⟨_,rfl⟩;have b2:Below wr.heap.size wr w2:=by rw [hw2]; exact (Below.refl _ _).alloc (zNl _) _
     have B2:=zAA.step hb b2;have k0:w2.cell? ⟨wr.heap.size,0,none⟩=some (.slice ar x.1.length cr):=by rw [hw2]; go_simp
     have k1:w2.cell? ⟨wr.heap.size,1,none⟩=some (.slice ar' m cr'):=by rw [hw2]; go_simp
     have g0:=fun y:GW w2=>y.cell k0;have g1:=fun y:GW w2=>y.cell k1;have hu:=h1.below B2;have hT2:=hT.below b2;have hr:=hr.below b2;have hr':=hr'.below b2;have HW2:=zNg hw2;clear k0 k1;clear hw2;cases hE:isE c x.1
     ·have HE:=zNg hE;clear hE;have e0:Hid (res=false):=zNg (HF.out (by rw [<-HK.out,HS.out,HE.out]; rfl));go_wp2_with fail
      rw [<-HW2.out];refine zAK (by kernel_rfl) (by kernel_rfl) ?_
      repeat (go_big_quiet_step ((first | (rename_i y; go_at_call 39; exact Calls.grow_of (v:=.bool (isE c x.1)) (v':=.bool false) y (zBT (hu.below y.le) (hr.below y.le) hl s1) (by rw [HE.out])))))
      refine wpQuiet_nil ?_;intro w8 hb8;go_wp2_with fail
      go_ret
      exact ⟨zAB e0.out.symm,zAA.step b1 (zAA.step B2 hb8)⟩
     ·have HE:=zNg hE;clear hE;cases hP:isP x.2
      ·have HP:=zNg hP;clear hP;have e0:Hid (res=false):=zNg (HF.out (by rw [<-HK.out,HS.out,HE.out,HP.out]; rfl));go_wp2_with fail
       rw [<-HW2.out];refine zAK (by kernel_rfl) (by kernel_rfl) ?_
       repeat (go_big_quiet_step ((first | (rename_i y; go_at_call 39; exact Calls.grow_of (v:=.bool (isE c x.1)) (v':=.bool true) y (zBT (hu.below y.le) (hr.below y.le) hl s1) (by rw [HE.out])) | (rename_i y; go_at_call 40; exact Calls.grow_of (v:=.bool (isP x.2)) (v':=.bool false) y (Calls.quietly (zBf (hr'.below y.le) (by rw [HM.out]; exact s2))) (by rw [HP.out])))))
       refine wpQuiet_nil ?_;intro w8 hb8;go_wp2_with fail
       go_ret
       exact ⟨zAB e0.out.symm,zAA.step b1 (zAA.step B2 hb8)⟩
      ·have HP:=zNg hP;clear hP;by_cases hz:m=0
       ·have e0:Hid (res=false):=zNg (HF.out (by rw [<-HK.out,HS.out,HE.out,HP.out,zDg,HM.out,hz]; rfl));have i4:((m:Int) == 0)=true:=by simp; omega
        clear hz;go_wp2_with fail
        rw [<-HW2.out];refine zAK (by kernel_rfl) (by kernel_rfl) ?_
        repeat (go_big_quiet_step ((first | (rename_i y; go_at_call 39; exact Calls.grow_of (v:=.bool (isE c x.1)) (v':=.bool true) y (zBT (hu.below y.le) (hr.below y.le) hl s1) (by rw [HE.out])) | (rename_i y; go_at_call 40; exact Calls.grow_of (v:=.bool (isP x.2)) (v':=.bool true) y (Calls.quietly (zBf (hr'.below y.le) (by rw [HM.out]; exact s2))) (by rw [HP.out])))))
        refine wpQuiet_nil ?_;intro w8 hb8;go_wp2_with fail
        go_ret
        exact ⟨zAB e0.out.symm,zAA.step b1 (zAA.step B2 hb8)⟩
       ·have HZ:Hid ((!x.2.isEmpty)=true):=zNg (by rw [zDg,HM.out]; simp; omega);have i4:((m:Int) == 0)=false:=by simp; omega
        clear hz;rcases k with _ | k
        ·have e1:Hid (zAZ c (zAy L 1) (L.drop 1)=zAZ c none L):=zNg (by rw [<-HK.out,HS.out,HE.out,HP.out,HZ.out]; rfl);rw [show (((0:Nat):Int))=0 from rfl];rw [Nat.zero_mul,Nat.add_zero] at hc hc';have i5:decide ((0:Int)<0)=false:=by decide
         go_wp2_with fail
         rw [<-HW2.out];refine zAK (by kernel_rfl) (by kernel_rfl) ?_
         repeat (go_big_quiet_step ((first | (rename_i y; go_at_call 39; exact Calls.grow_of (v:=.bool (isE c x.1)) (v':=.bool true) y (zBT (hu.below y.le) (hr.below y.le) hl s1) (by rw [HE.out])) | (rename_i y; go_at_call 40; exact Calls.grow_of (v:=.bool (isP x.2)) (v':=.bool true) y (Calls.quietly (zBf (hr'.below y.le) (by rw [HM.out]; exact s2))) (by rw [HP.out])))))
         refine wpQuiet_nil ?_;intro w8 hb8;go_wp2_with fail
         go_roundw
         case rel=>exact ⟨1,by omega,by go_num,e1,zAA.step B2 hb8⟩
         case measure=>simp [intOf]; omega
        ·obtain ⟨b0,o0,r0,r0',x0,e9,hc0,hc0',hx02,hx0⟩:=hT2.at (j:=k) (by omega);simp only [Option.some.injEq,Addr.mk.injEq,and_true] at e9;obtain ⟨rfl,rfl⟩:=e9;have hq:=hx02.1;have s3:=(HT.out k x0 hx0.out).1;have g2:=fun y:GW w2=>y.cell hc0;have HPV:Hid (zAy L (k+1)=some x0.1):=zNg (by simp [zAy,hx0.out]);obtain ⟨aq,cq,rfl⟩:=hq.form;have i5:decide ((0:Int)<(k:Int)+1)=true:=decide_eq_true (by omega);have i6:(0:Int)≤(k:Int):=by omega
         have i7:(k:Int)<(n:Int):=by omega
         by_cases hcm:cmpW x0.1 x.1<0
         ·have e1:Hid (zAZ c (zAy L (k+1+1)) (L.drop (k+1+1))=zAZ c none L):=zNg (by rw [<-HK.out,HS.out,HE.out,HP.out,HZ.out,HPV.out]; simp [hcm]);have i8:¬(0:Int)≤cmpW x0.1 x.1:=by omega
          have i9:decide ((0:Int)≤cmpW x0.1 x.1)=false:=decide_eq_false i8;clear hcm;generalize hD:cmpW x0.1 x.1=D at *;have HDD:=zNg hD;clear hD;go_wp2_with fail
          rw [<-HW2.out];refine zAK (by kernel_rfl) (by kernel_rfl) ?_
          repeat (go_big_quiet_step ((first | (rename_i y; go_at_call 39; exact Calls.grow_of (v:=.bool (isE c x.1)) (v':=.bool true) y (zBT (hu.below y.le) (hr.below y.le) hl s1) (by rw [HE.out])) | (rename_i y; go_at_call 40; exact Calls.grow_of (v:=.bool (isP x.2)) (v':=.bool true) y (Calls.quietly (zBf (hr'.below y.le) (by rw [HM.out]; exact s2))) (by rw [HP.out])) | (rename_i y; go_at_call 41; exact Calls.grow_of (v:=.int .i64 (cmpW x0.1 x.1)) (v':=.int .i64 D) y (zB3 (hq.below y.le) (hr.below y.le) s3 s1) (by rw [HDD.out])))))
          refine wpQuiet_nil ?_;intro w8 hb8;go_wp2_with fail
          go_roundw
          case rel=>exact ⟨k+1+1,by omega,by go_num,e1,zAA.step B2 hb8⟩
          case measure=>simp [intOf]; omega
         ·have e0:Hid (res=false):=zNg (HF.out (by rw [<-HK.out,HS.out,HE.out,HP.out,HZ.out,HPV.out]; simp [hcm]));have i8:(0:Int)≤cmpW x0.1 x.1:=by omega
          have i9:decide ((0:Int)≤cmpW x0.1 x.1)=true:=decide_eq_true i8;clear hcm;generalize hD:cmpW x0.1 x.1=D at *;have HDD:=zNg hD;clear hD;go_wp2_with fail
          rw [<-HW2.out];refine zAK (by kernel_rfl) (by kernel_rfl) ?_
          repeat (go_big_quiet_step ((first | (rename_i y; go_at_call 39; exact Calls.grow_of (v:=.bool (isE c x.1)) (v':=.bool true) y (zBT (hu.below y.le) (hr.below y.le) hl s1) (by rw [HE.out])) | (rename_i y; go_at_call 40; exact Calls.grow_of (v:=.bool (isP x.2)) (v':=.bool true) y (Calls.quietly (zBf (hr'.below y.le) (by rw [HM.out]; exact s2))) (by rw [HP.out])) | (rename_i y; go_at_call 41; exact Calls.grow_of (v:=.int .i64 (cmpW x0.1 x.1)) (v':=.int .i64 D) y (zB3 (hq.below y.le) (hr.below y.le) s3 s1) (by rw [HDD.out])))))
          refine wpQuiet_nil ?_;intro w8 hb8;go_wp2_with fail
          go_ret
          exact ⟨zAB e0.out.symm,zAA.step b1 (zAA.step B2 hb8)⟩
    ·have hkn:k=n:=by omega
     have HK1:Hid (res=true):=zNg (by rw [HR.out,<-HK.out,hkn,HR1.out]);have i1:¬(k:Int)<(n:Int):=by omega
     clear hkn;go_wp2_with fail
     go_ret
     exact ⟨zAB HK1.out.symm,zAA.step b1 hb⟩
  ·have e0:Hid (res=false):=zNg (by rw [HF2.out]; simp [h60]);have i60:(60:Int)<(n:Int):=by omega
   go_wp2_with fail
   go_ret
   exact ⟨zAB e0.out.symm,b1⟩
end Go.Proofs.YtlchafedbnihoaaGreatDoor
