/- The product of two elements. Plain lists. -/
import Derived.Test.YtlchafedbnihoaaGreatJGLet
namespace Go.Proofs.YtlchafedbnihoaaGreat
open Go.RowKit
set_option maxRecDepth 20000
set_option maxHeartbeats 8000000
def zA6 (c:List (List Int)):List Int→List Trm→Option (List Trm)
 | [],h=>some h
 |i::w,h=>match zA6 c w h with
  | none=>none
  | some g=>if mlB c i g=true then some (mlR c i g) else none
def mhT (c:List (List Int)) (B:List Trm) (t:Trm) (s:List Trm):Option (List Trm) :=
 match zA6 c t.1 B with
 | none=>none
 | some x=>if scB c t.2 x=true then if adB c s (scR c t.2 x)=true then some (adR c s (scR c t.2 x)) else none else none
def mhF (c:List (List Int)) (B:List Trm):List Trm→List Trm→Option (List Trm)
 | [],s=>some s
 |t::A,s=>match mhT c B t s with
  | none=>none
  | some s'=>mhF c B A s'
def mhO (c:List (List Int)) (A B:List Trm):Option (List Trm):=if isHk c A=true then if isHk c B=true then mhF c B A [] else none else none
def mhB (c:List (List Int)) (A B:List Trm):Bool:=(mhO c A B).isSome
def mhR (c:List (List Int)) (A B:List Trm):List Trm:=(mhO c A B).getD []
theorem zGV {c:List (List Int)} {B:List Trm}:∀(w:List Int) (p:Nat),zA6 c (w.drop p) B=none→zA6 c w B=none
 | w,0,h=>by simpa using h
 | [],p+1,h=>by simpa using h
 | i::w,p+1,h=>by
  have:=zGV w p (by simpa using h);simp only [zA6,this]
theorem zKa {c:List (List Int)} {B x:List Trm} {w:List Int} {p:Nat} {i:Int} (hi:w[p]? = some i) (h:zA6 c (w.drop (p+1)) B=some x) :
  (mlB c i x=true→zA6 c (w.drop p) B=some (mlR c i x))∧(mlB c i x=false→zA6 c w B=none):=by
 have e:zA6 c (w.drop p) B=if mlB c i x=true then some (mlR c i x) else none:=by
  rw [zAF hi];simp only [zA6,h]
 exact ⟨fun hb=>by rw [e,if_pos hb],fun hb=>zGV w p (by rw [e,hb]; rfl)⟩
theorem zMy {c:List (List Int)} {B s:List Trm} {A:List Trm} {k:Nat} {t:Trm} (ht:A[k]? = some t):mhF c B (A.drop k) s=match mhT c B t s with | none=>none | some s'=>mhF c B (A.drop (k+1)) s':=by
 rw [zAF ht]; rfl
theorem zOT {c:List (List Int)} {B s:List Trm} {t:Trm} (h:zA6 c t.1 B=none):mhT c B t s=none:=by unfold mhT; rw [h]
theorem zOU {c:List (List Int)} {B s x:List Trm} {t:Trm} (h:zA6 c t.1 B=some x) (h2:scB c t.2 x=false):mhT c B t s=none:=by unfold mhT; rw [h]; simp [h2]
theorem zOV {c:List (List Int)} {B s x:List Trm} {t:Trm} (h:zA6 c t.1 B=some x) (h2:scB c t.2 x=true) (h3:adB c s (scR c t.2 x)=false):mhT c B t s=none:=by unfold mhT; rw [h]; simp [h2,h3]
theorem zOW {c:List (List Int)} {B s x:List Trm} {t:Trm} (h:zA6 c t.1 B=some x) (h2:scB c t.2 x=true) (h3:adB c s (scR c t.2 x)=true):mhT c B t s=some (adR c s (scR c t.2 x)):=by unfold mhT; rw [h]; simp [h2,h3]
theorem zNX {c:List (List Int)} {L:List Trm} (h:∀t∈L,InI t.2):∀t∈gd c L,InI t.2:=by
 unfold gd;split
 ·exact h
 ·intro t ht; simp at ht
theorem zLg {c:List (List Int)} {i:Int} {L:List Trm} (h:∀t∈L,InI t.2):∀t∈mlR c i L,InI t.2:=by
 unfold mlR;split
 ·rename_i h1
  split
  ·rename_i h2
   exact zNX (zBD _ _ rfl (fun t ht=>(zFV (zAZ h1) h2 h t ht).2.2)).1.inn
  ·intro t ht; simp at ht
 ·intro t ht; simp at ht
theorem zP6 (c:List (List Int)) (p:List Int) (L:List Trm):∀t∈scR c p L,InI t.2:=by
 unfold scR;split
 ·exact (zBD _ _ rfl (zEN p L)).1.inn
 ·intro t ht; simp at ht
theorem zKu {c:List (List Int)} {A B:List Trm} (hA:∀t∈A,InI t.2) (hB:∀t∈B,InI t.2):∀t∈adR c A B,InI t.2:=by
 unfold adR;split
 ·rename_i h1
  split
  ·rename_i h2
   exact zNX (zBD _ _ rfl (fun t ht=>⟨((zJD (zAZ h1) (zAZ h2)).1 t ht).2.2,zJC hA hB t ht⟩)).1.inn
  ·intro t ht; simp at ht
 ·intro t ht; simp at ht
theorem zLc {c:List (List Int)} {B:List Trm}:∀{A s r:List Trm},zAI s≤4620→mhF c B A s=some r→zAI r≤4620
 | [],s,r,hs,h=>by simp only [mhF,Option.some.injEq] at h; subst h; exact hs
 | t::A,s,r,hs,h=>by
  simp only [mhF] at h;split at h
  ·cases h
  ·rename_i s' e
   refine zLc ?_ h;unfold mhT at e;split at e
   ·cases e
   ·split at e
    ·split at e
     ·simp only [Option.some.injEq] at e; subst e; exact zHB _ _ _
     ·cases e
    ·cases e
theorem zLd (c:List (List Int)) (A B:List Trm):zAI (mhR c A B)≤4620:=by
 unfold mhR mhO;split
 ·split
  ·cases e:mhF c B A [] with
   | none=>simp [zAI,zAK]
   | some r=>exact zLc (by simp [zAI,zAK]) e
  ·simp [zAI,zAK]
 ·simp [zAI,zAK]
theorem zOX {c:List (List Int)} {A B:List Trm} (h:mhO c A B=none):mhB c A B=false∧mhR c A B=[]:=by unfold mhB mhR; rw [h]; exact ⟨rfl,rfl⟩
theorem zOY {c:List (List Int)} {A B r:List Trm} (h:mhO c A B=some r):mhB c A B=true∧mhR c A B=r:=by unfold mhB mhR; rw [h]; exact ⟨rfl,rfl⟩
structure Ok1 (L:List Trm):Prop where
 tot:zAI L≤1048576
 inn:∀t∈L,InI t.2
theorem zIe {S S' S'':Nat→Prop} {u va vb:Value} {c:List (List Int)} {A B:List Trm} {w:World} (h:RII S w u c) (ha:RT S' w va A) (hb:RT S'' w vb B)
  (hl:total c≤16777216) (hlA:zAI A≤1048576) (hlB:zAI B≤1048576) (hiA:∀t∈A,InI t.2) (hiB:∀t∈B,InI t.2) :
  Calls Tryz.prog 21 #[u,va,vb] w fun e w'=>∃r,e=.returned (.tuple #[r,.bool (mhB c A B)])∧FT (New w w') w' r (mhR c A B)∧Below w.heap.size w w':=by
 have hHA:=zBX h ha hl (by omega);have hHB:=fun w1 (b1:Below w.heap.size w w1)=>zBX (h.below b1) (hb.below b1) hl (by omega);have h0:=h;have hb0:=hb;obtain ⟨au,cu,rfl⟩:=h.form;obtain ⟨aa,ca,rfl⟩:=ha.form;obtain ⟨ab,cb,rfl⟩:=hb.form;have HNONE:=zQY (fun (e:mhO c A B=none)=>zOX e);have HSOME:=zQY (fun (r:List Trm) (e:mhO c A B=some r)=>zOY e);have HOB:=zQY (Ok1.mk hlB hiB);cases hk:isHk c A with
 | false =>
  have HB:=zQY (HNONE.out (by unfold mhO; rw [hk]; rfl));rw [hk] at hHA;clear hk hHB;generalize A.length=na at *;generalize B.length=nb at *;generalize c.length=n at *;go_enter Tryz.func21,Tryz.ntmps21
  go_wp2_with fail
  refine hHA.mono ?_;rintro e w1 ⟨rfl,b1⟩;go_wp2_with fail
  go_ret2
  rw [HB.out.1,HB.out.2];exact ⟨_,rfl,FT.none0 b1,b1.alloc b1.size _⟩
 | true =>
  rw [hk] at hHA;cases hk2:isHk c B with
  | false =>
   have HB:=zQY (HNONE.out (by unfold mhO; rw [hk,hk2]; rfl));rw [hk2] at hHB;clear hk hk2;generalize A.length=na at *;generalize B.length=nb at *;generalize c.length=n at *;go_enter Tryz.func21,Tryz.ntmps21
   go_wp2_with fail
   refine hHA.mono ?_;rintro e w1 ⟨rfl,b1⟩;go_wp2_with fail
   refine (hHB w1 b1).mono ?_;rintro e w2 ⟨rfl,b2⟩;have b02:=zAA.step b1 b2;go_wp2_with fail
   go_ret2
   rw [HB.out.1,HB.out.2];exact ⟨_,rfl,FT.none0 b02,b02.alloc b02.size _⟩
  | true =>
   rw [hk2] at hHB;have HO:Hid (mhF c B (A.drop 0) []=mhO c A B):=zQY (by unfold mhO; rw [hk,hk2]; simp);have HEND:Hid (∀s,mhF c B (A.drop A.length) s=some s):=zQY (fun s=>by rw [List.drop_length]; rfl);have HSTEP:=zQY (fun (k:Nat) (t:Trm) (s:List Trm) (ht:A[k]? = some t)=>zMy (c:=c) (B:=B) (s:=s) ht);have HAP:=zQY (fun (t:Trm) (ht:t∈A)=>(⟨(zAZ hk).word ht |>.1,(zAZ hk).poly t ht⟩:t.1.length≤15∧t.2.length≤61));have HO0:Hid (Ok1 []):=zQY ⟨by simp [zAI,zAK],fun t ht=>by simp at ht⟩;have hlm:A.length≤60:=(zAZ hk).len;clear hk hk2 hiA hiB hlA hlB;generalize mhO c A B=O at *;generalize hm:A.length=m at *;clear hm;generalize B.length=nb at *;generalize c.length=n at *;go_enter Tryz.func21,Tryz.ntmps21
   go_wp2_with fail
   refine hHA.mono ?_;rintro e w1 ⟨rfl,b1⟩;go_wp2_with fail
   refine (hHB w1 b1).mono ?_;rintro e w2 ⟨rfl,b2⟩;have b02:=zAA.step b1 b2;clear hHA hHB;go_wp2_with fail
   have f1:FT (New w (w2.alloc (.cells #[] 62))) (w2.alloc (.cells #[] 62)) (.slice (some ⟨w2.heap.size,0,none⟩) 0 0) []:=FT.none0 b02;have b3:Below w.heap.size w (w2.alloc (.cells #[] 62)):=b02.alloc b02.size _;generalize w2.alloc (.cells #[] 62)=w3 at *;go_loopw [8,28] (fun zz j wr=>∃(k:Nat) (zv:Value) (s:List Trm),zv=zz∧k≤m∧j=.int .i64 k∧FT (New w wr) wr zv s∧Hid (Ok1 s)∧Hid (mhF c B (A.drop k) s=O)∧Below w.heap.size w wr) (fun _ j _=>m-(intOf j).toNat)
   case atStart=>exact ⟨0,_,[],rfl,Nat.zero_le _,rfl,f1,HO0,HO,b3⟩
   case round =>
    obtain ⟨k,zv,s,rfl,hk,rfl,hf,HS,HF,hbb⟩:=hrel;by_cases h1:k<m
    ·obtain ⟨b,o,r,r',x,e8,hc,hc',⟨hr,hr'⟩,hx⟩:=(ha.below hbb).at h1;subst e8;obtain ⟨ax,cx,rfl⟩:=hr.form;obtain ⟨ay,cy,rfl⟩:=hr'.form;have i1:(k:Int)<(m:Int):=by omega
     obtain ⟨hx15,hx61⟩:=HAP.out x (zQa hx.out);have hst:=HSTEP.out k x s hx.out;rw [HF.out] at hst;have HBAD:Hid (mhT c B x s=none→O=none):=zQY (fun e=>by rw [hst,e]);have HGO:Hid (∀s',mhT c B x s=some s'→mhF c B (A.drop (k+1)) s'=O):=zQY (fun s' e=>by rw [hst,e]);obtain ⟨w4,hw4⟩:∃w4,w4=wr.alloc (.cells #[.slice ax x.1.length cx,.slice ay x.2.length cy] 62):=⟨_,rfl⟩;have b4:Below wr.heap.size wr w4:=by rw [hw4]; exact (Below.refl _ wr).alloc (zQd _) _
     have k0:w4.cell? ⟨wr.heap.size,0,none⟩=some (.slice ax x.1.length cx):=by rw [hw4]; go_simp
     have k1:w4.cell? ⟨wr.heap.size,1,none⟩=some (.slice ay x.2.length cy):=by rw [hw4]; go_simp
     have l0:wr.heap.size<w4.heap.size:=by rw [hw4]; simp
     have hr4:=hr.below b4;have hr5:=hr'.below b4;have hf4:=hf.grow b4;have hb4:=zAA.step hbb b4;have HD0:Hid (zA6 c (x.1.drop x.1.length) B=some B):=zQY (by rw [List.drop_length]; rfl);have HMS:=zQY (fun (p:Nat) (i:Int) (y:List Trm) (hi:x.1[p]? = some i) (e:zA6 c (x.1.drop (p+1)) B=some y)=>zKa hi e);have HT1:=zQY (fun (e:zA6 c x.1 B=none)=>HBAD.out (zOT e));have HT2:=zQY (fun (y:List Trm) (e:zA6 c x.1 B=some y) (e2:scB c x.2 y=false)=>HBAD.out (zOU e e2));have HT3:=zQY (fun (y:List Trm) (e:zA6 c x.1 B=some y) (e2:scB c x.2 y=true) (e3:adB c s (scR c x.2 y)=false)=>HBAD.out (zOV e e2 e3));have HT4:=zQY (fun (y:List Trm) (e:zA6 c x.1 B=some y) (e2:scB c x.2 y=true) (e3:adB c s (scR c x.2 y)=true)=>HGO.out _ (zOW e e2 e3));have hst0:=hb0.below hb4;clear hst HBAD HGO hf hx
     generalize hln:x.1.length=ln at *;have HLN:=zQY hln;clear hln;go_wp2_with fail
     rw [<-hw4];clear hw4;go_wp2_with fail
     generalize wr.heap.size=G at *;go_loopw [11,12,13] (fun pz okv kv wi=>∃(q:Nat) (z:Int) (pv:Value) (y:List Trm),pv=pz∧okv=.bool true∧kv=.int .i64 z∧z+1=(q:Int)∧q≤ln∧RT Any wi pv y∧Hid (Ok1 y)∧Hid (zA6 c (x.1.drop q) B=some y)∧Below w4.heap.size w4 wi) (fun _ _ kv _=>(intOf kv+1).toNat)
     case atStart=>exact ⟨ln,(ln:Int)-1,_,B,rfl,rfl,rfl,by omega,zQd _,hst0.any,HOB,HD0,Below.refl _ _⟩
     case round =>
      obtain ⟨q,z,pv,y,rfl,rfl,rfl,hz,hq,hp,HY,HM,hbi⟩:=hrel;have k0:=(hbi.cell (p:=⟨G,0,none⟩) l0).trans k0;have k1:=(hbi.cell (p:=⟨G,1,none⟩) l0).trans k1;have hbw:=zAA.step hb4 hbi;have hYt:=HY.out.tot;rcases q with _ | p
      ·have hz1:z = -1:=by omega
       subst hz1;rw [List.drop_zero] at HM;have hsc:=zG0 (h0.below hbw) hp (hr5.below hbi) hl hYt (by omega);cases hsb:scB c x.2 y with
       | false =>
        have HB:=zQY (HNONE.out (HT2.out y HM.out hsb));rw [hsb] at hsc;clear hsb;go_wp2_with fail
        refine hsc.mono ?_;rintro e w5 ⟨r5,rfl,f5,b5⟩;have b05:=zAA.step hbw b5;go_wp2_with fail
        go_ret2
        rw [HB.out.1,HB.out.2];exact ⟨_,rfl,FT.none0 b05,b05.alloc b05.size _⟩
       | true =>
        have HSB:=zQY hsb;rw [hsb] at hsc;clear hsb;have HSR:=zQY (And.intro (zHf c x.2 y) (zP6 c x.2 y));have HT3y:=zQY (fun e3=>HT3.out y HM.out HSB.out e3);have HT4y:=zQY (fun e3=>HT4.out y HM.out HSB.out e3);have hft:=(FT.any hf4).below hbi;generalize scR c x.2 y=g at *;go_wp2_with fail
        refine hsc.mono ?_;rintro e w5 ⟨r5,rfl,f5,b5⟩;have b05:=zAA.step hbw b5;have had:=zH3 (h0.below b05) (hft.below b5) f5.any hl HS.out.tot (by have:=HSR.out.1; omega) HS.out.inn HSR.out.2;clear hsc;cases hab:adB c s g with
        | false =>
         have HB:=zQY (HNONE.out (HT3y.out hab));rw [hab] at had;clear hab;go_wp2_with fail
         refine had.mono ?_;rintro e w6 ⟨r6,rfl,f6,b6⟩;have b06:=zAA.step b05 b6;go_wp2_with fail
         go_ret2
         rw [HB.out.1,HB.out.2];exact ⟨_,rfl,FT.none0 b06,b06.alloc b06.size _⟩
        | true =>
         have HF2:=zQY (HT4y.out hab);have HOK2:=zQY (Ok1.mk (L:=adR c s g) (by have:=zHB c s g; omega) (zKu HS.out.inn HSR.out.2));rw [hab] at had;clear hab;generalize adR c s g=s2 at *;go_wp2_with fail
         refine had.mono ?_;rintro e w6 ⟨r6,rfl,f6,b6⟩;have b06:=zAA.step b05 b6;go_wp2_with fail
         go_roundw
         case rel=>exact ⟨k+1,_,s2,rfl,by omega,by go_num,f6.mono (fun b hb'=>⟨Nat.le_trans b05.size hb'.1,hb'.2⟩),HOK2,HF2,b06⟩
         case measure=>simp [intOf]; omega
      ·have hz1:z=(p:Int):=by omega
       subst hz1;have hpl:p<ln:=by omega
       obtain ⟨bl,ol,li,e9,hcl,hli⟩:=RI.at hr4 hpl;subst e9;have j1:(0:Int)≤(p:Int):=by omega
       have j2:(p:Int)<(ln:Int):=by omega
       have hcl:=(hbi.cell (p:=⟨bl,ol+p,none⟩) (zQc w4 _ hcl)).trans hcl;obtain ⟨hm1,hm2⟩:=HMS.out p li y hli.out HM.out;have hml:=zHo (i:=li) (h0.below hbw) hp hl hYt HY.out.inn;cases hmb:mlB c li y with
       | false =>
        have HB:=zQY (HNONE.out (HT1.out (hm2 hmb)));rw [hmb] at hml;clear hmb hm1 hm2;go_wp2_with fail
        refine hml.mono ?_;rintro e w5 ⟨r5,rfl,f5,b5⟩;have b05:=zAA.step hbw b5;go_wp2_with fail
        go_ret2
        rw [HB.out.1,HB.out.2];exact ⟨_,rfl,FT.none0 b05,b05.alloc b05.size _⟩
       | true =>
        have HM2:=zQY (hm1 hmb);have HOK2:=zQY (Ok1.mk (L:=mlR c li y) (by have:=zLh c li y; omega) (zLg HY.out.inn));rw [hmb] at hml;clear hmb hm1 hm2 hli;generalize mlR c li y=y2 at *;go_wp2_with fail
        refine hml.mono ?_;rintro e w5 ⟨r5,rfl,f5,b5⟩;have b05:=zAA.step hbi b5;go_wp2_with fail
        go_roundw
        case rel=>exact ⟨p,(p:Int)-1,_,y2,rfl,rfl,by go_num,by omega,by omega,f5.any,HOK2,HM2,b05⟩
        case measure=>simp [intOf]
    ·have hkm:k=m:=by omega
     have i1:¬(k:Int)<(m:Int):=by omega
     rw [hkm,HEND.out] at HF;have HB:=zQY (HSOME.out _ HF.out.symm);obtain ⟨az,cz,rfl,_⟩:=FC.form hf;clear hkm;go_wp2_with fail
     go_ret2
     rw [HB.out.1,HB.out.2];exact ⟨_,rfl,hf,hbb⟩
end Go.Proofs.YtlchafedbnihoaaGreat
