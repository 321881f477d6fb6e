/- The product of two elements. Plain lists. -/
import Derived.Test.YtlchafedbnihoaaGreatDoorJGLet
namespace Go.Proofs.YtlchafedbnihoaaGreatDoor
open Go.RowKit
set_option maxRecDepth 20000
set_option maxHeartbeats 16000000
def zAk (c:List (List Int)):List Int→List Trm→Option (List Trm)
 | [],h=>some h
 |i::w,h=>match zAk c w h with
  | none=>none
  | some g=>if mlB c i g=true then some (mlR c i g) else none
def mhT (c:List (List Int)) (B:List Trm) (t:Trm) (s:List Trm):Option (List Trm) :=
 match zAk c t.1 B with
 | none=>none
 | some x=>if scB c t.2 x=true then if adB c s (scR c t.2 x)=true then some (adR c s (scR c t.2 x)) else none else none
def mhF (c:List (List Int)) (B:List Trm):List Trm→List Trm→Option (List Trm)
 | [],s=>some s
 |t::A,s=>match mhT c B t s with
  | none=>none
  | some s'=>mhF c B A s'
def mhO (c:List (List Int)) (A B:List Trm):Option (List Trm):=if isHk c A=true then if isHk c B=true then mhF c B A [] else none else none
def mhB (c:List (List Int)) (A B:List Trm):Bool:=(mhO c A B).isSome
def mhR (c:List (List Int)) (A B:List Trm):List Trm:=(mhO c A B).getD []
theorem zFQ {c:List (List Int)} {B:List Trm}:∀(w:List Int) (p:Nat),zAk c (w.drop p) B=none→zAk c w B=none
 | w,0,h=>by simpa using h
 | [],p+1,h=>by simpa using h
 | i::w,p+1,h=>by
  have:=zFQ w p (by simpa using h);simp only [zAk,this]
theorem zFR {c:List (List Int)} {B x:List Trm} {w:List Int} {p:Nat} {i:Int} (hi:w[p]? = some i) (h:zAk c (w.drop (p+1)) B=some x) :
  (mlB c i x=true→zAk c (w.drop p) B=some (mlR c i x))∧(mlB c i x=false→zAk c w B=none):=by
 have e:zAk c (w.drop p) B=if mlB c i x=true then some (mlR c i x) else none:=by
  rw [zAJ hi];simp only [zAk,h]
 exact ⟨fun hb=>by rw [e,if_pos hb],fun hb=>zFQ w p (by rw [e,hb]; rfl)⟩
theorem zHG {c:List (List Int)} {B s:List Trm} {A:List Trm} {k:Nat} {t:Trm} (ht:A[k]? = some t):mhF c B (A.drop k) s=match mhT c B t s with | none=>none | some s'=>mhF c B (A.drop (k+1)) s':=by
 rw [zAJ ht]; rfl
theorem zIM {c:List (List Int)} {B s:List Trm} {t:Trm} (h:zAk c t.1 B=none):mhT c B t s=none:=by unfold mhT; rw [h]
theorem zIN {c:List (List Int)} {B s x:List Trm} {t:Trm} (h:zAk c t.1 B=some x) (h2:scB c t.2 x=false):mhT c B t s=none:=by unfold mhT; rw [h]; simp [h2]
theorem zIO {c:List (List Int)} {B s x:List Trm} {t:Trm} (h:zAk c t.1 B=some x) (h2:scB c t.2 x=true) (h3:adB c s (scR c t.2 x)=false):mhT c B t s=none:=by unfold mhT; rw [h]; simp [h2,h3]
theorem zIP {c:List (List Int)} {B s x:List Trm} {t:Trm} (h:zAk c t.1 B=some x) (h2:scB c t.2 x=true) (h3:adB c s (scR c t.2 x)=true):mhT c B t s=some (adR c s (scR c t.2 x)):=by unfold mhT; rw [h]; simp [h2,h3]
theorem zLR {c:List (List Int)} {L:List Trm} (h:∀t∈L,InI t.2):∀t∈gd c L,InI t.2:=by
 unfold gd;split
 ·exact h
 ·intro t ht; simp at ht
theorem zFS {c:List (List Int)} {i:Int} {L:List Trm} (h:∀t∈L,InI t.2):∀t∈mlR c i L,InI t.2:=by
 unfold mlR;split
 ·rename_i h1
  split
  ·rename_i h2
   exact zLR (zA1 _ _ rfl (fun t ht=>(zDN (zAO h1) h2 h t ht).2.2)).1.inn
  ·intro t ht; simp at ht
 ·intro t ht; simp at ht
theorem zKP (c:List (List Int)) (p:List Int) (L:List Trm):∀t∈scR c p L,InI t.2:=by
 unfold scR;split
 ·exact (zA1 _ _ rfl (zEF p L)).1.inn
 ·intro t ht; simp at ht
theorem zE8 {c:List (List Int)} {A B:List Trm} (hA:∀t∈A,InI t.2) (hB:∀t∈B,InI t.2):∀t∈adR c A B,InI t.2:=by
 unfold adR;split
 ·rename_i h1
  split
  ·rename_i h2
   exact zLR (zA1 _ _ rfl (fun t ht=>⟨((zFk (zAO h1) (zAO h2)).1 t ht).2.2,zFj hA hB t ht⟩)).1.inn
  ·intro t ht; simp at ht
 ·intro t ht; simp at ht
theorem zJt {c:List (List Int)} {B:List Trm}:∀{A s r:List Trm},zAD s≤4620→mhF c B A s=some r→zAD r≤4620
 | [],s,r,hs,h=>by simp only [mhF,Option.some.injEq] at h; subst h; exact hs
 | t::A,s,r,hs,h=>by
  simp only [mhF] at h;split at h
  ·cases h
  ·rename_i s' e
   refine zJt ?_ h;unfold mhT at e;split at e
   ·cases e
   ·split at e
    ·split at e
     ·simp only [Option.some.injEq] at e; subst e; exact zC0 _ _ _
     ·cases e
    ·cases e
theorem zJu (c:List (List Int)) (A B:List Trm):zAD (mhR c A B)≤4620:=by
 unfold mhR mhO;split
 ·split
  ·cases e:mhF c B A [] with
   | none=>simp [zAD,zAF]
   | some r=>exact zJt (by simp [zAD,zAF]) e
  ·simp [zAD,zAF]
 ·simp [zAD,zAF]
theorem zIQ {c:List (List Int)} {A B:List Trm} (h:mhO c A B=none):mhB c A B=false∧mhR c A B=[]:=by unfold mhB mhR; rw [h]; exact ⟨rfl,rfl⟩
theorem zIR {c:List (List Int)} {A B r:List Trm} (h:mhO c A B=some r):mhB c A B=true∧mhR c A B=r:=by unfold mhB mhR; rw [h]; exact ⟨rfl,rfl⟩
structure Ok1 (L:List Trm):Prop where
 tot:zAD L≤1048576
 inn:∀t∈L,InI t.2
theorem zBn {S S' S'':Nat→Prop} {u va vb:Value} {c:List (List Int)} {A B:List Trm} {w:World} (h:RII S w u c) (ha:RT S' w va A) (hb:RT S'' w vb B)
  (hl:total c≤16777216) (hlA:zAD A≤1048576) (hlB:zAD B≤1048576) (hiA:∀t∈A,InI t.2) (hiB:∀t∈B,InI t.2) :
  Calls Tryz.prog 6 #[u,va,vb] w fun e w'=>∃r,e=.returned (.tuple #[r,.bool (mhB c A B)])∧FT (New w w') w' r (mhR c A B)∧Below w.heap.size w w':=by
 have hHA:=zA8 h ha hl (by omega);have hHB:=fun w1 (b1:Below w.heap.size w w1)=>zA8 (h.below b1) (hb.below b1) hl (by omega);have h0:=h;have hb0:=hb;obtain ⟨au,cu,rfl⟩:=h.form;obtain ⟨aa,ca,rfl⟩:=ha.form;obtain ⟨ab,cb,rfl⟩:=hb.form;have HNONE:=zNg (fun (e:mhO c A B=none)=>zIQ e);have HSOME:=zNg (fun (r:List Trm) (e:mhO c A B=some r)=>zIR e);have HOB:=zNg (Ok1.mk hlB hiB);cases hk:isHk c A with
 | false =>
  have HB:=zNg (HNONE.out (by unfold mhO; rw [hk]; rfl));rw [hk] at hHA;clear hk hHB;generalize A.length=na at *;generalize B.length=nb at *;generalize c.length=n at *;go_enter Tryz.func6,Tryz.ntmps6
  go_wp2_with fail
  refine hHA.mono ?_;rintro e w1 ⟨rfl,b1⟩;go_wp2_with fail
  go_ret2
  rw [HB.out.1,HB.out.2];exact ⟨_,rfl,FT.none0 b1,b1.alloc b1.size _⟩
 | true =>
  rw [hk] at hHA;cases hk2:isHk c B with
  | false =>
   have HB:=zNg (HNONE.out (by unfold mhO; rw [hk,hk2]; rfl));rw [hk2] at hHB;clear hk hk2;generalize A.length=na at *;generalize B.length=nb at *;generalize c.length=n at *;go_enter Tryz.func6,Tryz.ntmps6
   go_wp2_with fail
   refine hHA.mono ?_;rintro e w1 ⟨rfl,b1⟩;go_wp2_with fail
   refine (hHB w1 b1).mono ?_;rintro e w2 ⟨rfl,b2⟩;have b02:=zAA.step b1 b2;go_wp2_with fail
   go_ret2
   rw [HB.out.1,HB.out.2];exact ⟨_,rfl,FT.none0 b02,b02.alloc b02.size _⟩
  | true =>
   rw [hk2] at hHB;have HO:Hid (mhF c B (A.drop 0) []=mhO c A B):=zNg (by unfold mhO; rw [hk,hk2]; simp);have HEND:Hid (∀s,mhF c B (A.drop A.length) s=some s):=zNg (fun s=>by rw [List.drop_length]; rfl);have HSTEP:=zNg (fun (k:Nat) (t:Trm) (s:List Trm) (ht:A[k]? = some t)=>zHG (c:=c) (B:=B) (s:=s) ht);have HAP:=zNg (fun (t:Trm) (ht:t∈A)=>(⟨(zAO hk).word ht |>.1,(zAO hk).poly t ht⟩:t.1.length≤15∧t.2.length≤61));have HO0:Hid (Ok1 []):=zNg ⟨by simp [zAD,zAF],fun t ht=>by simp at ht⟩;have hlm:A.length≤60:=(zAO hk).len;clear hk hk2 hiA hiB hlA hlB;generalize mhO c A B=O at *;generalize hm:A.length=m at *;clear hm;generalize B.length=nb at *;generalize c.length=n at *;go_enter Tryz.func6,Tryz.ntmps6
   go_wp2_with fail
   refine hHA.mono ?_;rintro e w1 ⟨rfl,b1⟩;go_wp2_with fail
   refine (hHB w1 b1).mono ?_;rintro e w2 ⟨rfl,b2⟩;have b02:=zAA.step b1 b2;clear hHA hHB;go_wp2_with fail
   have f1:FT (New w (w2.alloc (.cells #[] 39))) (w2.alloc (.cells #[] 39)) (.slice (some ⟨w2.heap.size,0,none⟩) 0 0) []:=FT.none0 b02;have b3:Below w.heap.size w (w2.alloc (.cells #[] 39)):=b02.alloc b02.size _;generalize w2.alloc (.cells #[] 39)=w3 at *;go_loopw [8,28] (fun zz j wr=>∃(k:Nat) (zv:Value) (s:List Trm),zv=zz∧k≤m∧j=.int .i64 k∧FT (New w wr) wr zv s∧Hid (Ok1 s)∧Hid (mhF c B (A.drop k) s=O)∧Below w.heap.size w wr) (fun _ j _=>m-(intOf j).toNat)
   case atStart=>exact ⟨0,_,[],rfl,Nat.zero_le _,rfl,f1,HO0,HO,b3⟩
   case round =>
    obtain ⟨k,zv,s,rfl,hk,rfl,hf,HS,HF,hbb⟩:=hrel;by_cases h1:k<m
    ·obtain ⟨b,o,r,r',x,e8,hc,hc',⟨hr,hr'⟩,hx⟩:=(ha.below hbb).at h1;subst e8;obtain ⟨ax,cx,rfl⟩:=hr.form;obtain ⟨ay,cy,rfl⟩:=hr'.form;have i1:(k:Int)<(m:Int):=by omega
     obtain ⟨hx15,hx61⟩:=HAP.out x (zNi hx.out);have hst:=HSTEP.out k x s hx.out;rw [HF.out] at hst;have HBAD:Hid (mhT c B x s=none→O=none):=zNg (fun e=>by rw [hst,e]);have HGO:Hid (∀s',mhT c B x s=some s'→mhF c B (A.drop (k+1)) s'=O):=zNg (fun s' e=>by rw [hst,e]);obtain ⟨w4,hw4⟩:∃w4,w4=wr.alloc (.cells #[.slice ax x.1.length cx,.slice ay x.2.length cy] 39):=⟨_,rfl⟩;have b4:Below wr.heap.size wr w4:=by rw [hw4]; exact (Below.refl _ wr).alloc (zNl _) _
     have k0:w4.cell? ⟨wr.heap.size,0,none⟩=some (.slice ax x.1.length cx):=by rw [hw4]; go_simp
     have k1:w4.cell? ⟨wr.heap.size,1,none⟩=some (.slice ay x.2.length cy):=by rw [hw4]; go_simp
     have l0:wr.heap.size<w4.heap.size:=by rw [hw4]; simp
     have hr4:=hr.below b4;have hr5:=hr'.below b4;have hf4:=hf.grow b4;have hb4:=zAA.step hbb b4;have HD0:Hid (zAk c (x.1.drop x.1.length) B=some B):=zNg (by rw [List.drop_length]; rfl);have HMS:=zNg (fun (p:Nat) (i:Int) (y:List Trm) (hi:x.1[p]? = some i) (e:zAk c (x.1.drop (p+1)) B=some y)=>zFR hi e);have HT1:=zNg (fun (e:zAk c x.1 B=none)=>HBAD.out (zIM e));have HT2:=zNg (fun (y:List Trm) (e:zAk c x.1 B=some y) (e2:scB c x.2 y=false)=>HBAD.out (zIN e e2));have HT3:=zNg (fun (y:List Trm) (e:zAk c x.1 B=some y) (e2:scB c x.2 y=true) (e3:adB c s (scR c x.2 y)=false)=>HBAD.out (zIO e e2 e3));have HT4:=zNg (fun (y:List Trm) (e:zAk c x.1 B=some y) (e2:scB c x.2 y=true) (e3:adB c s (scR c x.2 y)=true)=>HGO.out _ (zIP e e2 e3));have hst0:=hb0.below hb4;clear hst HBAD HGO hf hx
     generalize hln:x.1.length=ln at *;have HLN:=zNg hln;clear hln;go_wp2_with fail
     rw [<-hw4];clear hw4;go_wp2_with fail
     generalize wr.heap.size=G at *;go_loopw [11,12,13] (fun pz okv kv wi=>∃(q:Nat) (z:Int) (pv:Value) (y:List Trm),pv=pz∧okv=.bool true∧kv=.int .i64 z∧z+1=(q:Int)∧q≤ln∧RT Any wi pv y∧Hid (Ok1 y)∧Hid (zAk c (x.1.drop q) B=some y)∧Below w4.heap.size w4 wi) (fun _ _ kv _=>(intOf kv+1).toNat)
     case atStart=>exact ⟨ln,(ln:Int)-1,_,B,rfl,rfl,rfl,by omega,zNl _,hst0.any,HOB,HD0,Below.refl _ _⟩
     case round =>
      obtain ⟨q,z,pv,y,rfl,rfl,rfl,hz,hq,hp,HY,HM,hbi⟩:=hrel;have k0:=(hbi.cell (p:=⟨G,0,none⟩) l0).trans k0;have k1:=(hbi.cell (p:=⟨G,1,none⟩) l0).trans k1;have hbw:=zAA.step hb4 hbi;have hYt:=HY.out.tot;rcases q with _ | p
      ·have hz1:z = -1:=by omega
       subst hz1;rw [List.drop_zero] at HM;have hsc:=zDP (h0.below hbw) hp (hr5.below hbi) hl hYt (by omega);cases hsb:scB c x.2 y with
       | false =>
        have HB:=zNg (HNONE.out (HT2.out y HM.out hsb));rw [hsb] at hsc;clear hsb;go_wp2_with fail
        refine hsc.mono ?_;rintro e w5 ⟨r5,rfl,f5,b5⟩;have b05:=zAA.step hbw b5;go_wp2_with fail
        go_ret2
        rw [HB.out.1,HB.out.2];exact ⟨_,rfl,FT.none0 b05,b05.alloc b05.size _⟩
       | true =>
        have HSB:=zNg hsb;rw [hsb] at hsc;clear hsb;have HSR:=zNg (And.intro (zEE c x.2 y) (zKP c x.2 y));have HT3y:=zNg (fun e3=>HT3.out y HM.out HSB.out e3);have HT4y:=zNg (fun e3=>HT4.out y HM.out HSB.out e3);have hft:=(FT.any hf4).below hbi;generalize scR c x.2 y=g at *;go_wp2_with fail
        refine hsc.mono ?_;rintro e w5 ⟨r5,rfl,f5,b5⟩;have b05:=zAA.step hbw b5;have had:=zDu (h0.below b05) (hft.below b5) f5.any hl HS.out.tot (by have:=HSR.out.1; omega) HS.out.inn HSR.out.2;clear hsc;cases hab:adB c s g with
        | false =>
         have HB:=zNg (HNONE.out (HT3y.out hab));rw [hab] at had;clear hab;go_wp2_with fail
         refine had.mono ?_;rintro e w6 ⟨r6,rfl,f6,b6⟩;have b06:=zAA.step b05 b6;go_wp2_with fail
         go_ret2
         rw [HB.out.1,HB.out.2];exact ⟨_,rfl,FT.none0 b06,b06.alloc b06.size _⟩
        | true =>
         have HF2:=zNg (HT4y.out hab);have HOK2:=zNg (Ok1.mk (L:=adR c s g) (by have:=zC0 c s g; omega) (zE8 HS.out.inn HSR.out.2));rw [hab] at had;clear hab;generalize adR c s g=s2 at *;go_wp2_with fail
         refine had.mono ?_;rintro e w6 ⟨r6,rfl,f6,b6⟩;have b06:=zAA.step b05 b6;go_wp2_with fail
         go_roundw
         case rel=>exact ⟨k+1,_,s2,rfl,by omega,by go_num,f6.mono (fun b hb'=>⟨Nat.le_trans b05.size hb'.1,hb'.2⟩),HOK2,HF2,b06⟩
         case measure=>simp [intOf]; omega
      ·have hz1:z=(p:Int):=by omega
       subst hz1;have hpl:p<ln:=by omega
       obtain ⟨bl,ol,li,e9,hcl,hli⟩:=RI.at hr4 hpl;subst e9;have j1:(0:Int)≤(p:Int):=by omega
       have j2:(p:Int)<(ln:Int):=by omega
       have hcl:=(hbi.cell (p:=⟨bl,ol+p,none⟩) (zNk w4 _ hcl)).trans hcl;obtain ⟨hm1,hm2⟩:=HMS.out p li y hli.out HM.out;have hml:=zDq (i:=li) (h0.below hbw) hp hl hYt HY.out.inn;cases hmb:mlB c li y with
       | false =>
        have HB:=zNg (HNONE.out (HT1.out (hm2 hmb)));rw [hmb] at hml;clear hmb hm1 hm2;go_wp2_with fail
        refine hml.mono ?_;rintro e w5 ⟨r5,rfl,f5,b5⟩;have b05:=zAA.step hbw b5;go_wp2_with fail
        go_ret2
        rw [HB.out.1,HB.out.2];exact ⟨_,rfl,FT.none0 b05,b05.alloc b05.size _⟩
       | true =>
        have HM2:=zNg (hm1 hmb);have HOK2:=zNg (Ok1.mk (L:=mlR c li y) (by have:=zD6 c li y; omega) (zFS HY.out.inn));rw [hmb] at hml;clear hmb hm1 hm2 hli;generalize mlR c li y=y2 at *;go_wp2_with fail
        refine hml.mono ?_;rintro e w5 ⟨r5,rfl,f5,b5⟩;have b05:=zAA.step hbi b5;go_wp2_with fail
        go_roundw
        case rel=>exact ⟨p,(p:Int)-1,_,y2,rfl,rfl,by go_num,by omega,by omega,f5.any,HOK2,HM2,b05⟩
        case measure=>simp [intOf]
    ·have hkm:k=m:=by omega
     have i1:¬(k:Int)<(m:Int):=by omega
     rw [hkm,HEND.out] at HF;have HB:=zNg (HSOME.out _ HF.out.symm);obtain ⟨az,cz,rfl,_⟩:=FC.form hf;clear hkm;go_wp2_with fail
     go_ret2
     rw [HB.out.1,HB.out.2];exact ⟨_,rfl,hf,hbb⟩
theorem zHI {S S' S'':Nat→Prop} {u va vb:Value} {c:List (List Int)} {A B:List Trm} {w:World} (h:RII S w u c) (ha:RT S' w va A) (hb:RT S'' w vb B)
  (hl:total c≤16777216) (hlA:zAD A≤1048576) (hlB:zAD B≤1048576) (hiA:∀t∈A,InI t.2) (hiB:∀t∈B,InI t.2) :
  Calls Tryz.prog 7 #[u,va,vb] w fun e w'=>∃r,e=.returned (.tuple #[r,.bool (mhB c A B)])∧FT (New w w') w' r (mhR c A B)∧Below w.heap.size w w':=by
 have hHA:=fun w1 (b1:Below w.heap.size w w1)=>zA9 (h.below b1) (ha.below b1) hl (by omega);have hHB:=fun w1 (b1:Below w.heap.size w w1)=>zA9 (h.below b1) (hb.below b1) hl (by omega);have f1:FT (New w (w.alloc (.cells #[] 39))) (w.alloc (.cells #[] 39)) (.slice (some ⟨w.heap.size,0,none⟩) 0 0) []:=FT.none0 (Below.refl _ w);have b0:Below w.heap.size w (w.alloc (.cells #[] 39)):=(Below.refl _ w).alloc (zNl _) _;have h0:=h;have hb0:=hb;obtain ⟨au,cu,rfl⟩:=h.form;obtain ⟨aa,ca,rfl⟩:=ha.form;obtain ⟨ab,cb,rfl⟩:=hb.form;have HNONE:=zNg (fun (e:mhO c A B=none)=>zIQ e);have HSOME:=zNg (fun (r:List Trm) (e:mhO c A B=some r)=>zIR e);have HOB:=zNg (Ok1.mk hlB hiB);cases hk:isHk c A with
 | false =>
  have HB:=zNg (HNONE.out (by unfold mhO; rw [hk]; rfl));rw [hk] at hHA;clear hk hHB;generalize A.length=na at *;generalize B.length=nb at *;generalize c.length=n at *;go_enter Tryz.func7,Tryz.ntmps7
  go_wp2_with fail
  refine (hHA _ b0).mono ?_;rintro e w1 ⟨rfl,b1⟩;have f2:=FC.grow f1 b1;have b01:=zAA.step b0 b1;go_wp2_with fail
  go_ret2
  rw [HB.out.1,HB.out.2];exact ⟨_,rfl,f2,b01⟩
 | true =>
  rw [hk] at hHA;cases hk2:isHk c B with
  | false =>
   have HB:=zNg (HNONE.out (by unfold mhO; rw [hk,hk2]; rfl));rw [hk2] at hHB;clear hk hk2;generalize A.length=na at *;generalize B.length=nb at *;generalize c.length=n at *;go_enter Tryz.func7,Tryz.ntmps7
   go_wp2_with fail
   refine (hHA _ b0).mono ?_;rintro e w1 ⟨rfl,b1⟩;have f2:=FC.grow f1 b1;have b01:=zAA.step b0 b1;go_wp2_with fail
   refine (hHB w1 b01).mono ?_;rintro e w2 ⟨rfl,b2⟩;have f3:=FC.grow f2 b2;have b02:=zAA.step b01 b2;go_wp2_with fail
   go_ret2
   rw [HB.out.1,HB.out.2];exact ⟨_,rfl,f3,b02⟩
  | true =>
   rw [hk2] at hHB;have HO:Hid (mhF c B (A.drop 0) []=mhO c A B):=zNg (by unfold mhO; rw [hk,hk2]; simp);have HEND:Hid (∀s,mhF c B (A.drop A.length) s=some s):=zNg (fun s=>by rw [List.drop_length]; rfl);have HSTEP:=zNg (fun (k:Nat) (t:Trm) (s:List Trm) (ht:A[k]? = some t)=>zHG (c:=c) (B:=B) (s:=s) ht);have HAP:=zNg (fun (t:Trm) (ht:t∈A)=>(⟨(zAO hk).word ht |>.1,(zAO hk).poly t ht⟩:t.1.length≤15∧t.2.length≤61));have HO0:Hid (Ok1 []):=zNg ⟨by simp [zAD,zAF],fun t ht=>by simp at ht⟩;have hlm:A.length≤60:=(zAO hk).len;clear hk hk2 hiA hiB hlA hlB;generalize mhO c A B=O at *;generalize hm:A.length=m at *;clear hm;generalize B.length=nb at *;generalize c.length=n at *;go_enter Tryz.func7,Tryz.ntmps7
   go_wp2_with fail
   refine (hHA _ b0).mono ?_;rintro e w1 ⟨rfl,b1⟩;have f2:=FC.grow f1 b1;have b01:=zAA.step b0 b1;go_wp2_with fail
   refine (hHB w1 b01).mono ?_;rintro e w3 ⟨rfl,b2⟩;have f1:=FC.grow f2 b2;have b3:=zAA.step b01 b2;clear hHA hHB f2;go_wp2_with fail
   go_loopw [8,9] (fun zz j wr=>∃(k:Nat) (zv:Value) (s:List Trm),zv=zz∧k≤m∧j=.int .i64 k∧FT (New w wr) wr zv s∧Hid (Ok1 s)∧Hid (mhF c B (A.drop k) s=O)∧Below w.heap.size w wr) (fun _ j _=>m-(intOf j).toNat)
   case atStart=>exact ⟨0,_,[],rfl,Nat.zero_le _,rfl,f1,HO0,HO,b3⟩
   case round =>
    obtain ⟨k,zv,s,rfl,hk,rfl,hf,HS,HF,hbb⟩:=hrel;obtain ⟨wo,rfl⟩:∃wo,wo=wr:=⟨_,rfl⟩;by_cases h1:k<m
    ·obtain ⟨b,o,r,r',x,e8,hc,hc',⟨hr,hr'⟩,hx⟩:=ha.at h1;subst e8;obtain ⟨ax,cx,rfl⟩:=hr.form;obtain ⟨ay,cy,rfl⟩:=hr'.form;have i1:(k:Int)<(m:Int):=by omega
     obtain ⟨hx15,hx61⟩:=HAP.out x (zNi hx.out);have hst:=HSTEP.out k x s hx.out;rw [HF.out] at hst;have HBAD:Hid (mhT c B x s=none→O=none):=zNg (fun e=>by rw [hst,e]);have HGO:Hid (∀s',mhT c B x s=some s'→mhF c B (A.drop (k+1)) s'=O):=zNg (fun s' e=>by rw [hst,e]);have lb0:b<w.heap.size:=zNk w _ hc;have lb:b<wo.heap.size:=Nat.lt_of_lt_of_le lb0 hbb.size;have HD0:Hid (zAk c (x.1.drop x.1.length) B=some B):=zNg (by rw [List.drop_length]; rfl);have HMS:=zNg (fun (p:Nat) (i:Int) (y:List Trm) (hi:x.1[p]? = some i) (e:zAk c (x.1.drop (p+1)) B=some y)=>zFR hi e);have HT1:=zNg (fun (e:zAk c x.1 B=none)=>HBAD.out (zIM e));have HT2:=zNg (fun (y:List Trm) (e:zAk c x.1 B=some y) (e2:scB c x.2 y=false)=>HBAD.out (zIN e e2))
     have HT3:=zNg (fun (y:List Trm) (e:zAk c x.1 B=some y) (e2:scB c x.2 y=true) (e3:adB c s (scR c x.2 y)=false)=>HBAD.out (zIO e e2 e3));have HT4:=zNg (fun (y:List Trm) (e:zAk c x.1 B=some y) (e2:scB c x.2 y=true) (e3:adB c s (scR c x.2 y)=true)=>HGO.out _ (zIP e e2 e3));have hst0:=hb0.below hbb;have kk0:=(hbb.cell (p:=⟨b,o+k*2,none⟩) lb0).trans hc;have kk1:=(hbb.cell (p:=⟨b,o+k*2+1,none⟩) lb0).trans hc';clear hst HBAD HGO hx;generalize hln:x.1.length=ln at *;have HLN:=zNg hln;clear hln;go_wp2_with fail
     go_loopw [10,11] (fun pz kv wi=>∃(q:Nat) (z:Int) (pv:Value) (y:List Trm),pv=pz∧kv=.int .i64 z∧z+1=(q:Int)∧q≤ln∧RT Any wi pv y∧Hid (Ok1 y)∧Hid (zAk c (x.1.drop q) B=some y)∧Below wo.heap.size wo wi) (fun _ kv _=>(intOf kv+1).toNat)
     case atStart=>exact ⟨ln,(ln:Int)-1,_,B,rfl,rfl,by omega,zNl _,hst0.any,HOB,HD0,Below.refl _ _⟩
     case round =>
      obtain ⟨q,z,pv,y,rfl,rfl,hz,hq,hp,HY,HM,hbi⟩:=hrel;have k0:=(hbi.cell (p:=⟨b,o+k*2,none⟩) lb).trans kk0;have k1:=(hbi.cell (p:=⟨b,o+k*2+1,none⟩) lb).trans kk1;have hbw:=zAA.step hbb hbi;have hYt:=HY.out.tot;rcases q with _ | p
      ·have hz1:z = -1:=by omega
       subst hz1;rw [List.drop_zero] at HM;have hsc:=zDQ (h0.below hbw) hp (hr'.below hbw) hl hYt (by omega);cases hsb:scB c x.2 y with
       | false =>
        have HB:=zNg (HNONE.out (HT2.out y HM.out hsb));rw [hsb] at hsc;clear hsb;go_wp2_with fail
        refine hsc.mono ?_;rintro e w5 ⟨r5,rfl,f5,b5⟩;have b05:=zAA.step hbw b5;go_wp2_with fail
        go_ret2
        rw [HB.out.1,HB.out.2];exact ⟨_,rfl,FT.none0 b05,b05.alloc b05.size _⟩
       | true =>
        have HSB:=zNg hsb;rw [hsb] at hsc;clear hsb;have HSR:=zNg (And.intro (zEE c x.2 y) (zKP c x.2 y));have HT3y:=zNg (fun e3=>HT3.out y HM.out HSB.out e3);have HT4y:=zNg (fun e3=>HT4.out y HM.out HSB.out e3);have hft:=(FT.any hf).below hbi;generalize scR c x.2 y=g at *;go_wp2_with fail
        refine hsc.mono ?_;rintro e w5 ⟨r5,rfl,f5,b5⟩;have b05:=zAA.step hbw b5;have had:=zDv (h0.below b05) (hft.below b5) f5.any hl HS.out.tot (by have:=HSR.out.1; omega) HS.out.inn HSR.out.2;clear hsc;cases hab:adB c s g with
        | false =>
         have HB:=zNg (HNONE.out (HT3y.out hab));rw [hab] at had;clear hab;go_wp2_with fail
         refine had.mono ?_;rintro e w6 ⟨r6,rfl,f6,b6⟩;have b06:=zAA.step b05 b6;go_wp2_with fail
         go_ret2
         rw [HB.out.1,HB.out.2];exact ⟨_,rfl,FT.none0 b06,b06.alloc b06.size _⟩
        | true =>
         have HF2:=zNg (HT4y.out hab);have HOK2:=zNg (Ok1.mk (L:=adR c s g) (by have:=zC0 c s g; omega) (zE8 HS.out.inn HSR.out.2));rw [hab] at had;clear hab;generalize adR c s g=s2 at *;go_wp2_with fail
         refine had.mono ?_;rintro e w6 ⟨r6,rfl,f6,b6⟩;have b06:=zAA.step b05 b6;go_wp2_with fail
         go_roundw
         case rel=>exact ⟨k+1,_,s2,rfl,by omega,by go_num,f6.mono (fun b hb'=>⟨Nat.le_trans b05.size hb'.1,hb'.2⟩),HOK2,HF2,b06⟩
         case measure=>simp [intOf]; omega
      ·have hz1:z=(p:Int):=by omega
       subst hz1;have hpl:p<ln:=by omega
       obtain ⟨bl,ol,li,e9,hcl,hli⟩:=RI.at hr hpl;subst e9;have j1:(0:Int)≤(p:Int):=by omega
       have j2:(p:Int)<(ln:Int):=by omega
       have hcl:=(hbw.cell (p:=⟨bl,ol+p,none⟩) (zNk w _ hcl)).trans hcl;obtain ⟨hm1,hm2⟩:=HMS.out p li y hli.out HM.out;have hml:=zDr (i:=li) (h0.below hbw) hp hl hYt HY.out.inn;cases hmb:mlB c li y with
       | false =>
        have HB:=zNg (HNONE.out (HT1.out (hm2 hmb)));rw [hmb] at hml;clear hmb hm1 hm2;go_wp2_with fail
        refine hml.mono ?_;rintro e w5 ⟨r5,rfl,f5,b5⟩;have b05:=zAA.step hbw b5;go_wp2_with fail
        go_ret2
        rw [HB.out.1,HB.out.2];exact ⟨_,rfl,FT.none0 b05,b05.alloc b05.size _⟩
       | true =>
        have HM2:=zNg (hm1 hmb);have HOK2:=zNg (Ok1.mk (L:=mlR c li y) (by have:=zD6 c li y; omega) (zFS HY.out.inn));rw [hmb] at hml;clear hmb hm1 hm2 hli;generalize mlR c li y=y2 at *;go_wp2_with fail
        refine hml.mono ?_;rintro e w5 ⟨r5,rfl,f5,b5⟩;have b05:=zAA.step hbi b5;go_wp2_with fail
        go_roundw
        case rel=>exact ⟨p,(p:Int)-1,_,y2,rfl,by go_num,by omega,by omega,f5.any,HOK2,HM2,b05⟩
        case measure=>simp [intOf]
    ·have hkm:k=m:=by omega
     have i1:¬(k:Int)<(m:Int):=by omega
     rw [hkm,HEND.out] at HF;have HB:=zNg (HSOME.out _ HF.out.symm);obtain ⟨az,cz,rfl,_⟩:=FC.form hf;clear hkm;go_wp2_with fail
     go_ret2
     rw [HB.out.1,HB.out.2];exact ⟨_,rfl,hf,hbb⟩
end Go.Proofs.YtlchafedbnihoaaGreatDoor
