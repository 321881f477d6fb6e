/- ScaleHecke of the reference. Condition: sizes up to 2^20. -/
import Derived.Test.YtlchafedbnihoaaGreatDoorJGPt
import Derived.Test.YtlchafedbnihoaaGreatDoorJGIsH
import Derived.Test.YtlchafedbnihoaaGreatDoorJGTerms
namespace Go.Proofs.YtlchafedbnihoaaGreatDoor
open Go.RowKit
set_option maxRecDepth 20000
set_option maxHeartbeats 16000000
def scB (c:List (List Int)) (p:List Int) (L:List Trm):Bool:=isHk c L && (isP p && scOk p L)
def scR (c:List (List Int)) (p:List Int) (L:List Trm):List Trm:=if scB c p L=true then puts (scT p L) else []
theorem zEI:∀{L:List Trm} {x:Trm},x∈L→x.1.length+x.2.length≤zAD L
 | y::L,x,h=>by
  have h3:zAD (y::L)=zAD L+1+y.1.length+y.2.length:=by simp [zAD,zAF]; omega
  rw [List.mem_cons] at h;rcases h with rfl | h
  ·omega
  ·have:=zEI h; omega
theorem FT.none0 {W w:World} (hb:Below W.heap.size W w):FT (New W (w.alloc (.cells #[] 39))) (w.alloc (.cells #[] 39)) (.slice (some ⟨w.heap.size,0,none⟩) 0 0) []:=FC.of_row (w:=W) (World.ownsRow_lit (base:=w.heap.size) (e:=39) (size:=2) w #[] 0 (zNl _) (by unfold maxLen; omega) rfl) hb.size rfl (fun j r x hr _=>by simp at hr)
theorem zDQ {S S' S'':Nat→Prop} {u v z:Value} {c:List (List Int)} {L:List Trm} {p:List Int} {w:World} (h:RII S w u c) (h':RT S' w v L) (h'':RI S'' w z p)
  (hl:total c≤16777216) (hl':zAD L≤1048576) (hl'':p.length≤1048576) :
  Calls Tryz.prog 22 #[u,v,z] w fun e w'=>∃r,e=.returned (.tuple #[r,.bool (scB c p L)])∧FT (New w w') w' r (scR c p L)∧Below w.heap.size w w':=by
 have HLn:L.length≤1048576:=by unfold zAD at hl'; omega
 have HW:=zNg (fun (x:Trm) (hx:x∈L)=>zEI hx);have HNO:=zNg (fun (e:scB c p L=false)=>(show scR c p L=[] from by unfold scR; rw [e]; rfl));have HYES:=zNg (fun (e:scB c p L=true)=>(show scR c p L=puts (scT p L) from by unfold scR; rw [if_pos e]));obtain ⟨au,cu,rfl⟩:=h.form;have h'0:=h';obtain ⟨a,cap,rfl⟩:=h'.form;obtain ⟨az,cz,rfl⟩:=h''.form;cases hk:isHk c L with
 | false =>
  have HB:=zNg (show scB c p L=false from by unfold scB; rw [hk]; rfl);have HR:=zNg (HNO.out HB.out);have hH:=zA9 h h' hl (by omega);rw [hk] at hH;clear hk;go_enter Tryz.func22,Tryz.ntmps22
  go_wp2_with fail
  refine hH.mono ?_;rintro e w1 ⟨rfl,b1⟩;go_wp2_with fail
  go_ret2
  rw [HR.out,HB.out];exact ⟨_,rfl,FT.none0 b1,b1.alloc b1.size _⟩
 | true =>
  have hH:=zA9 h h' hl (by omega);rw [hk] at hH;cases hp:isP p with
  | false =>
   have HB:=zNg (show scB c p L=false from by unfold scB; rw [hk,hp]; rfl);have HR:=zNg (HNO.out HB.out);have hP:=fun w1 (b1:Below w.heap.size w w1)=>zBg (h''.below b1) (by omega);rw [hp] at hP;clear hk hp;go_enter Tryz.func22,Tryz.ntmps22
   go_wp2_with fail
   refine hH.mono ?_;rintro e w1 ⟨rfl,b1⟩;go_wp2_with fail
   refine (hP w1 b1).mono ?_;rintro e w2 ⟨rfl,b2⟩;have b02:=zAA.step b1 b2;go_wp2_with fail
   go_ret2
   rw [HR.out,HB.out];exact ⟨_,rfl,FT.none0 b02,b02.alloc b02.size _⟩
  | true =>
   have HBB:=zNg (show scB c p L=scOk p L from by unfold scB; rw [hk,hp]; rfl);have hP:=fun w1 (b1:Below w.heap.size w w1)=>zBg (h''.below b1) (by omega);rw [hp] at hP;have HBAD:=zNg (fun (k:Nat) (x:Trm) (hx:L[k]? = some x) (hb:¬x.2.length+p.length≤62)=>(show scOk p L=false from by
    unfold scOk;rw [List.all_eq_false];exact ⟨x,zNi hx,by simpa using hb⟩))
   have HGOOD:=zNg (show (∀x∈L.take L.length,x.2.length+p.length≤62)→scOk p L=true from fun hh=>by
    rw [List.take_of_length_le (zNl _)] at hh;unfold scOk;rw [List.all_eq_true];exact fun x hx=>by simpa using hh x hx)
   have HST:=zNg (fun (k:Nat) (x:Trm) (hx:L[k]? = some x)=>(show endP x.1 (mulP x.2 p) (putF x.1 (mulP x.2 p) (puts (scT p (L.take k))))=puts (scT p (L.take (k+1))) from by
    rw [zF2 (zA1 _ _ rfl (zEF p _)).1,zAV hx];unfold scT;rw [List.map_append,List.map_singleton,zCG]))
   have HLEN:=zNg (fun (k:Nat)=>(zCx (A:=1048576) (B:=62) _ (scT p (L.take k)) rfl (zIh (fun t ht=>by have:=HW.out t (List.mem_of_mem_take ht); omega))));have HCAN:=zNg (fun (k:Nat)=>(zA1 _ (scT p (L.take k)) rfl (zEF p _)).1.inn);have HMP:=zNg (fun x:Trm=>(zDO x.2 p).2);have HSL:Hid (∀k,(scT p (L.take k)).length≤1048576):=zNg (fun k=>by unfold scT; simp; omega);have HN:Hid (puts (scT p (L.take L.length))=puts (scT p L)):=zNg (by rw [List.take_of_length_le (zNl _)]);have H0:Hid (puts (scT p (L.take 0))=[]):=zNg rfl;have H00:Hid (∀x∈L.take 0,x.2.length+p.length≤62):=zNg (fun x hx=>by simp at hx);clear hk hp;generalize hm:L.length=m at *;have HM:=zNg hm;clear hm;generalize hnz:p.length=nz at *;have HNZ:=zNg hnz;clear hnz;go_enter Tryz.func22,Tryz.ntmps22
   go_wp2_with fail
   refine hH.mono ?_;rintro e w1 ⟨rfl,b1⟩;go_wp2_with fail
   refine (hP w1 b1).mono ?_;rintro e w2 ⟨rfl,b2⟩;have b02:=zAA.step b1 b2;clear hH hP;go_wp2_with fail
   have f1:FT (New w (w2.alloc (.cells #[] 39))) (w2.alloc (.cells #[] 39)) (.slice (some ⟨w2.heap.size,0,none⟩) 0 0) []:=FT.none0 b02;have b3:Below w.heap.size w (w2.alloc (.cells #[] 39)):=b02.alloc b02.size _;generalize w2.alloc (.cells #[] 39)=w3 at *;rw [<-H0.out] at f1;go_loopw [8,9] (fun zz j wr=>∃(k:Nat) (zv:Value),zv=zz∧k≤m∧j=.int .i64 k∧FT (New w wr) wr zv (puts (scT p (L.take k)))∧Hid (∀x∈L.take k,x.2.length+nz≤62)∧Below w.heap.size w wr) (fun _ j _=>m-(intOf j).toNat)
   case atStart=>exact ⟨0,_,rfl,Nat.zero_le _,rfl,f1,H00,b3⟩
   case round =>
    obtain ⟨k,zv,rfl,hk,rfl,hf,HO,hb⟩:=hrel;by_cases h1:k<m
    ·obtain ⟨b,o,r,r',x,e8,hc,hc',⟨hr,hr'⟩,hx⟩:=h'.at h1;subst e8;obtain ⟨ax,cx,rfl⟩:=hr.form;obtain ⟨ay,cy,rfl⟩:=hr'.form;have i1:(k:Int)<(m:Int):=by omega
     have lb0:b<w.heap.size:=zNk w _ hc;have hcr:=(hb.cell (p:=⟨b,o+k*2,none⟩) lb0).trans hc;have hcr':=(hb.cell (p:=⟨b,o+k*2+1,none⟩) lb0).trans hc';have hxw:=HW.out x (zNi hx.out);have lbr:b<wr.heap.size:=Nat.lt_of_lt_of_le lb0 hb.size;have hr2:=hr.below hb;have hr2':=hr'.below hb;have hz2:=h''.below hb;by_cases hbad:x.2.length+nz≤62
     ·have HOK2:Hid (∀y∈L.take (k+1),y.2.length+nz≤62):=zNg (fun y hy=>by
       rw [zAV hx.out,List.mem_append] at hy;rcases hy with hy | hy
       ·exact HO.out y hy
       ·rw [List.mem_singleton] at hy; subst hy; exact hbad)
      have i2:¬(62:Int)<(x.2.length:Int)+(nz:Int):=by omega
      have HS2:=zNg (HST.out k x hx.out);have HL2:=HLEN.out k;have HC2:=zNg (HCAN.out k);have HSLk:=HSL.out k;have HMX:=HMP.out x;obtain ⟨az2,cz2,rfl⟩:∃a2 c2,zv=.slice a2 (puts (scT p (L.take k))).length c2:=by
       obtain ⟨a2,c2,e2,_⟩:=hf.form;exact ⟨a2,c2,e2⟩
      go_wp2_with fail
      go_region_held3 (fun w'=>w'.cell? ⟨b,o+k*2,none⟩=some (.slice ax x.1.length cx)∧w'.cell? ⟨b,o+k*2+1,none⟩=some (.slice ay x.2.length cy)) (first | go_keep | exact ⟨(b4.cell (p:=⟨b,o+k*2,none⟩) lbr).trans hcr,(b4.cell (p:=⟨b,o+k*2+1,none⟩) lbr).trans hcr'⟩ | exact ⟨(b5.cell (p:=⟨b,o+k*2,none⟩) (Nat.lt_of_lt_of_le lbr b4.size)).trans ((b4.cell (p:=⟨b,o+k*2,none⟩) lbr).trans hcr),(b5.cell (p:=⟨b,o+k*2+1,none⟩) (Nat.lt_of_lt_of_le lbr b4.size)).trans ((b4.cell (p:=⟨b,o+k*2+1,none⟩) lbr).trans hcr')⟩) (first
       | (go_at_call 59; refine (zMF hr2'.drew hz2.drew (by omega) (by have:=HNZ.out; omega)).mono ?_; rintro e w4 ⟨r4,rfl,f4,b4⟩)
       | (go_at_call 53; refine (zCV ((hf.read.below ((Below.refl _ wr).drew)).below b4) (hr2.drew.below b4) f4.reads (by omega) (fun t ht=>⟨(HL2.2 t ht).1,by have:=(HL2.2 t ht).2; omega,HC2.out t ht⟩) (by omega) (by omega) HMX.1).mono ?_; rintro e w5 ⟨r5,rfl,f5,b5⟩))
      rw [HS2.out] at f5;have hbd:=zAA.step hb.drew (zAA.step b4 b5);go_wp2_with fail
      go_roundw
      case rel=>exact ⟨k+1,_,rfl,by omega,by go_num,f5.mono (fun b hb'=>⟨Nat.le_trans (zAA.step hb.drew b4).size hb'.1,hb'.2⟩),HOK2,hbd⟩
      case measure=>simp [intOf]; omega
     ·have HSC:=zNg (HBAD.out k x hx.out hbad);have HB:=zNg (HBB.out.trans HSC.out);have HR:=zNg (HNO.out HB.out);have i2:(62:Int)<(x.2.length:Int)+(nz:Int):=by omega
      go_wp2_with fail
      go_ret2
      rw [HR.out,HB.out];exact ⟨_,rfl,FT.none0 hb,hb.alloc hb.size _⟩
    ·have hkm:k=m:=by omega
     have i1:¬(k:Int)<(m:Int):=by omega
     rw [hkm] at hf HO;rw [HN.out] at hf;have HB:=zNg (HBB.out.trans (HGOOD.out HO.out));have HR:=zNg (HYES.out HB.out);clear hkm;go_wp2_with fail
     go_ret2
     rw [HR.out,HB.out];exact ⟨_,rfl,hf,hb⟩
theorem zFJ {c:List (List Int)}:∀{L:List Trm} {q:Option (List Int)},zAZ c q L=true→(∀t∈L,isE c t.1=true∧isP t.2=true∧t.2≠[])∧L.Pairwise (fun a b=>cmpW a.1 b.1<0)∧(∀u,q=some u→∀t∈L,cmpW u t.1<0)
 | [],q,_=>⟨fun t h=>by simp at h,List.Pairwise.nil,fun u _ t h=>by simp at h⟩
 | x::L,q,h=>by
  simp only [zAZ,Bool.and_eq_true] at h;obtain ⟨h1,h2,h3,h4,h5⟩:=h;obtain ⟨a1,a2,a3⟩:=zFJ h5;have hx:isE c x.1=true∧isP x.2=true∧x.2≠[]:=⟨h1,h2,by
   intro e;rw [e] at h3;simp at h3⟩
  refine ⟨fun t ht=>?_,List.pairwise_cons.2 ⟨fun t ht=>a3 x.1 rfl t ht,a2⟩,fun u hu t ht=>?_⟩
  ·rcases List.mem_cons.1 ht with rfl | ht
   ·exact hx
   ·exact a1 t ht
  ·subst hu;have hux:cmpW u x.1<0:=by simpa using h4
   rcases List.mem_cons.1 ht with rfl | ht
   ·exact hux
   ·exact zBQ hux (a3 x.1 rfl t ht)
theorem zGK {p:List Int} (h:isP p=true):p.length≤61∧Trd p:=by
 unfold isP at h;simp only [Bool.and_eq_true,decide_eq_true_eq] at h;refine ⟨h.1,?_⟩;rcases zDp p p.length with h1 | h1
 ·exact .inl (List.eq_nil_of_length_eq_zero (by rw [<-h.2,h1]))
 ·rw [h.2] at h1; exact .inr h1
structure Hk (c:List (List Int)) (L:List Trm):Prop where
 car:isC c=true
 len:L.length≤60
 wd:∀t∈L,isE c t.1=true
 poly:∀t∈L,t.2.length≤61
 ne:∀t∈L,t.2≠[]
 tr:∀t∈L,Trd t.2
 srt:L.Pairwise fun a b=>cmpW a.1 b.1<0
theorem zAO {c:List (List Int)} {L:List Trm} (h:isHk c L=true):Hk c L:=by
 unfold isHk at h;simp only [Bool.and_eq_true,decide_eq_true_eq] at h;obtain ⟨h1,h2,h3⟩:=h;obtain ⟨a1,a2,_⟩:=zFJ h3;exact ⟨h1,h2,fun t ht=>(a1 t ht).1,fun t ht=>(zGK (a1 t ht).2.1).1,fun t ht=>(a1 t ht).2.2,fun t ht=>(zGK (a1 t ht).2.1).2,a2⟩
theorem Hk.word {c:List (List Int)} {L:List Trm} (h:Hk c L) {t:Trm} (ht:t∈L):t.1.length≤15∧isWd c t.1=true:=by
 have:=(zG7 (h.wd t ht)).1;exact ⟨(zBF this).2.1,this⟩
theorem Hk.can {c:List (List Int)} {L:List Trm} (h:Hk c L) (hi:∀t∈L,InI t.2):Can L:=⟨h.srt,h.ne,h.tr,hi⟩
theorem zCf {A B:Nat}:∀{L:List Trm},(∀t∈L,t.1.length≤A∧t.2.length≤B)→zAD L≤L.length*(1+A+B)
 | [],_=>by simp [zAD,zAF]
 | x::L,h=>by
  have h1:=zCf (fun t ht=>h t (List.mem_cons_of_mem _ ht));have h2:=h x (List.mem_cons_self ..);have h3:zAD (x::L)=zAD L+1+x.1.length+x.2.length:=by simp [zAD,zAF]; omega
  rw [h3,List.length_cons,Nat.add_mul];omega
theorem Hk.total {c:List (List Int)} {L:List Trm} (h:Hk c L):zAD L≤4620:=by
 have h1:=zCf (A:=15) (B:=61) (fun t ht=>⟨(h.word ht).1,h.poly t ht⟩);have:=h.len;omega
theorem zJE (p:List Int) (h:List Trm):(scT p h).length=h.length:=by unfold scT; simp
theorem zKQ {c:List (List Int)} {L:List Trm} {p:List Int} (h:Hk c L):zAD (puts (scT p L))≤4680:=by
 obtain ⟨a1,a2⟩:=zCx (A:=15) (B:=62) _ (scT p L) rfl (zIh (fun t ht=>(h.word ht).1));have h1:=zCf a2;rw [zJE] at a1;have:=h.len;omega
theorem RT.one {w w':World} {r r':Value} {x y:List Int} (hw:w'=w.alloc (.cells #[r,r'] 39)) (h1:RI Any w r x) (h2:RI Any w r' y):RT Any w' (.slice (some ⟨w.heap.size,0,none⟩) 1 1) [(x,y)] :=
 RT.lit [⟨r,r',x,y⟩] hw (by simp) (fun e he=>by rw [List.mem_singleton] at he; subst he; exact ⟨h1,h2⟩)
theorem RT.two {w w':World} {r r' s s':Value} {x y u v:List Int} (hw:w'=w.alloc (.cells #[r,r',s,s'] 39)) (h1:RI Any w r x) (h2:RI Any w r' y) (h3:RI Any w s u) (h4:RI Any w s' v) :
  RT Any w' (.slice (some ⟨w.heap.size,0,none⟩) 2 2) [(x,y),(u,v)] :=
 RT.lit [⟨r,r',x,y⟩,⟨s,s',u,v⟩] hw (by simp) (fun e he=>by
  rcases List.mem_cons.1 he with rfl | he
  ·exact ⟨h1,h2⟩
  ·rw [List.mem_singleton] at he; subst he; exact ⟨h3,h4⟩)
theorem zEE (c:List (List Int)) (p:List Int) (L:List Trm):zAD (scR c p L)≤4680:=by
 unfold scR;by_cases h:scB c p L=true
 ·rw [if_pos h];unfold scB at h;simp only [Bool.and_eq_true] at h;exact zKQ (zAO h.1)
 ·rw [if_neg h]; simp [zAD,zAF]
theorem zDP {S S' S'':Nat→Prop} {u v z:Value} {c:List (List Int)} {L:List Trm} {p:List Int} {w:World} (h:RII S w u c) (h':RT S' w v L) (h'':RI S'' w z p)
  (hl:total c≤16777216) (hl':zAD L≤1048576) (hl'':p.length≤1048576) :
  Calls Tryz.prog 21 #[u,v,z] w fun e w'=>∃r,e=.returned (.tuple #[r,.bool (scB c p L)])∧FT (New w w') w' r (scR c p L)∧Below w.heap.size w w':=by
 have HLn:L.length≤1048576:=by unfold zAD at hl'; omega
 have HW:=zNg (fun (x:Trm) (hx:x∈L)=>zEI hx);have HNO:=zNg (fun (e:scB c p L=false)=>(show scR c p L=[] from by unfold scR; rw [e]; rfl));have HYES:=zNg (fun (e:scB c p L=true)=>(show scR c p L=puts (scT p L) from by unfold scR; rw [if_pos e]));obtain ⟨au,cu,rfl⟩:=h.form;have h'0:=h';obtain ⟨a,cap,rfl⟩:=h'.form;obtain ⟨az,cz,rfl⟩:=h''.form;cases hk:isHk c L with
 | false =>
  have HB:=zNg (show scB c p L=false from by unfold scB; rw [hk]; rfl);have HR:=zNg (HNO.out HB.out);have hH:=zA8 h h' hl (by omega);rw [hk] at hH;clear hk;go_enter Tryz.func21,Tryz.ntmps21
  go_wp2_with fail
  refine hH.mono ?_;rintro e w1 ⟨rfl,b1⟩;go_wp2_with fail
  go_ret2
  rw [HR.out,HB.out];exact ⟨_,rfl,FT.none0 b1,b1.alloc b1.size _⟩
 | true =>
  have hH:=zA8 h h' hl (by omega);rw [hk] at hH;cases hp:isP p with
  | false =>
   have HB:=zNg (show scB c p L=false from by unfold scB; rw [hk,hp]; rfl);have HR:=zNg (HNO.out HB.out);have hP:=fun w1 (b1:Below w.heap.size w w1)=>zBf (h''.below b1) (by omega);rw [hp] at hP;clear hk hp;go_enter Tryz.func21,Tryz.ntmps21
   go_wp2_with fail
   refine hH.mono ?_;rintro e w1 ⟨rfl,b1⟩;go_wp2_with fail
   refine (hP w1 b1).mono ?_;rintro e w2 ⟨rfl,m2⟩;have b2:=zAc m2;clear m2;have b02:=zAA.step b1 b2;go_wp2_with fail
   go_ret2
   rw [HR.out,HB.out];exact ⟨_,rfl,FT.none0 b02,b02.alloc b02.size _⟩
  | true =>
   have HBB:=zNg (show scB c p L=scOk p L from by unfold scB; rw [hk,hp]; rfl);have hP:=fun w1 (b1:Below w.heap.size w w1)=>zBf (h''.below b1) (by omega);rw [hp] at hP;have HBAD:=zNg (fun (k:Nat) (x:Trm) (hx:L[k]? = some x) (hb:¬x.2.length+p.length≤62)=>(show scOk p L=false from by
    unfold scOk;rw [List.all_eq_false];exact ⟨x,zNi hx,by simpa using hb⟩))
   have HGOOD:=zNg (show (∀x∈L.take L.length,x.2.length+p.length≤62)→scOk p L=true from fun hh=>by
    rw [List.take_of_length_le (zNl _)] at hh;unfold scOk;rw [List.all_eq_true];exact fun x hx=>by simpa using hh x hx)
   have HST:=zNg (fun (k:Nat) (x:Trm) (hx:L[k]? = some x)=>(show scT p (L.take k)++[(x.1,mulP x.2 p)]=scT p (L.take (k+1)) from by
    rw [zAV hx];unfold scT;rw [List.map_append,List.map_singleton]))
   have HALL:=zNg (show ∀t∈scT p L,t.1.length≤1048576∧t.2.length≤1048576∧Trd t.2∧InI t.2 from fun t ht=>by
    obtain ⟨s,hs,rfl⟩:=List.mem_map.1 ht;have h1:=zDO s.2 p;have h2:=HW.out s hs;exact ⟨by show s.1.length≤_; omega,by show (mulP s.2 p).length≤_; have:=h1.2.2; omega,h1.1,h1.2.1⟩)
   have HSL:Hid (∀k,(scT p (L.take k)).length≤1048576):=zNg (fun k=>by unfold scT; simp; omega);have HN:Hid (scT p (L.take L.length)=scT p L):=zNg (by rw [List.take_of_length_le (zNl _)]);have H0:Hid (scT p (L.take 0)=[]):=zNg rfl;have H00:Hid (∀x∈L.take 0,x.2.length+p.length≤62):=zNg (fun x hx=>by simp at hx);clear hk hp;generalize hm:L.length=m at *;have HM:=zNg hm;clear hm;generalize hnz:p.length=nz at *;have HNZ:=zNg hnz;clear hnz;go_enter Tryz.func21,Tryz.ntmps21
   go_wp2_with fail
   refine hH.mono ?_;rintro e w1 ⟨rfl,b1⟩;go_wp2_with fail
   refine (hP w1 b1).mono ?_;rintro e w2 ⟨rfl,m2⟩;have b2:=zAc m2;clear m2;have b02:=zAA.step b1 b2;clear hH hP;go_wp2_with fail
   have f1:=OT.fresh b02;have b3:Below w.heap.size w (w2.alloc (.cells #[] 39)):=b02.alloc b02.size _;generalize w2.alloc (.cells #[] 39)=w3 at *;rw [<-H0.out] at f1;go_loopw [8,24] (fun zz j wr=>∃(k:Nat) (zv:Value),zv=zz∧k≤m∧j=.int .i64 k∧OT w wr zv (scT p (L.take k))∧Hid (∀x∈L.take k,x.2.length+nz≤62)∧Below w.heap.size w wr) (fun _ j _=>m-(intOf j).toNat)
   case atStart=>exact ⟨0,_,rfl,Nat.zero_le _,rfl,f1,H00,b3⟩
   case round =>
    obtain ⟨k,zv,rfl,hk,rfl,hf,HO,hb⟩:=hrel;by_cases h1:k<m
    ·obtain ⟨b,o,r,r',x,e8,hc,hc',⟨hr,hr'⟩,hx⟩:=(h'.below hb).at h1;subst e8;obtain ⟨ax,cx,rfl⟩:=hr.form;obtain ⟨ay,cy,rfl⟩:=hr'.form;have i1:(k:Int)<(m:Int):=by omega
     have hxw:=HW.out x (zNi hx.out);have hz2:=h''.below hb;obtain ⟨w4,hw4⟩:∃w4,w4=wr.alloc (.cells #[.slice ax x.1.length cx,.slice ay x.2.length cy] 39):=⟨_,rfl⟩;have b4:Below wr.heap.size wr w4:=by rw [hw4]; exact (Below.refl _ wr).alloc (zNl _) _
     have k0:w4.cell? ⟨wr.heap.size,0,none⟩=some (.slice ax x.1.length cx):=by rw [hw4]; go_simp
     have k1:w4.cell? ⟨wr.heap.size,1,none⟩=some (.slice ay x.2.length cy):=by rw [hw4]; go_simp
     have l0:wr.heap.size<w4.heap.size:=by rw [hw4]; simp
     have HNE:=zNg (hf.ne (b:=wr.heap.size) (.inl (zNl _)));have hr2:=hr.below b4;have hr3:=hr'.below b4;have hz4:=hz2.below b4;have hf4:=hf.below b4;have hb4:=zAA.step hb b4;have HW4:=zNg hw4;have HZ4:Hid (w4.heap.size=wr.heap.size+1):=zNg (by rw [hw4]; simp);clear hw4;by_cases hbad:x.2.length+nz≤62
     ·have HOK2:Hid (∀y∈L.take (k+1),y.2.length+nz≤62):=zNg (fun y hy=>by
       rw [zAV hx.out,List.mem_append] at hy;rcases hy with hy | hy
       ·exact HO.out y hy
       ·rw [List.mem_singleton] at hy; subst hy; exact hbad)
      have i2:¬(62:Int)<(x.2.length:Int)+(nz:Int):=by omega
      have HS2:=zNg (HST.out k x hx.out);have HSLk:=HSL.out k;have hx28:x.2.length≤8388608:=by omega
      have hz28:p.length≤8388608:=by have:=HNZ.out; omega
      have hsl1:(scT p (L.take k)).length + [(x.1,mulP x.2 p)].length≤33554432:=by simp; omega
      obtain ⟨az2,cz2,rfl⟩:=hf.form;go_wp2_with fail
      rw [<-HW4.out];go_wp2_with fail
      go_region_held3 (fun w'=>w'.cell? ⟨wr.heap.size,0,none⟩=some (.slice ax x.1.length cx)∧w'.cell? ⟨wr.heap.size,1,none⟩=some (.slice ay x.2.length cy)) (first | go_keep | exact ⟨(b5.cell (p:=⟨wr.heap.size,0,none⟩) l0).trans k0,(b5.cell (p:=⟨wr.heap.size,1,none⟩) l0).trans k1⟩ | exact ⟨g6.cell (zAT ((b5.cell (p:=⟨wr.heap.size,0,none⟩) l0).trans k0) _) HNE.out,g6.cell (zAT ((b5.cell (p:=⟨wr.heap.size,1,none⟩) l0).trans k1) _) HNE.out⟩) (first
       | (go_at_call 58; refine (zME hr3.drew hz4.drew hx28 hz28).mono ?_; rintro e w5 ⟨r5,rfl,f5,b5⟩; obtain ⟨a5,c5,e5⟩:=f5.form; subst e5; have bA:Below w4.heap.size w4 w5:=((Below.refl _ w4).drew).trans b5; have hf5:OT w w5 (.slice az2 (scT p (L.take k)).length cz2) (scT p (L.take k)):=hf4.below bA; have hb5:=zAA.step hb4 bA; have R1:=zNg (RT.one (w:=w5) rfl (hr2.below bA).any f5.any))
       | (refine zGW (W:=w) (by rfl) _ _ (by rfl) (by rfl) (hf5.below ((Below.refl _ w5).alloc (zNl _) _)) (hb5.alloc hb5.size _) (by rfl) R1.out hsl1 ?_; intro v6 w6 f6 b6 g6))
      rw [HS2.out] at f6;go_wp2_with fail
      go_roundw
      case rel=>exact ⟨k+1,_,rfl,by omega,by go_num,f6,HOK2,b6⟩
      case measure=>simp [intOf]; omega
     ·have HSC:=zNg (HBAD.out k x hx.out hbad);have HB:=zNg (HBB.out.trans HSC.out);have HR:=zNg (HNO.out HB.out);have i2:(62:Int)<(x.2.length:Int)+(nz:Int):=by omega
      go_wp2_with fail
      rw [<-HW4.out];go_wp2_with fail
      go_ret2
      rw [HR.out,HB.out];have f4:=FT.none0 hb4;rw [HZ4.out] at f4;exact ⟨_,rfl,f4,hb4.alloc hb4.size _⟩
    ·have hkm:k=m:=by omega
     have i1:¬(k:Int)<(m:Int):=by omega
     rw [hkm] at hf HO;rw [HN.out] at hf;have hlen:=HSL.out m;rw [HN.out] at hlen;have HB:=zNg (HBB.out.trans (HGOOD.out HO.out));have HR:=zNg (HYES.out HB.out);have hcol:=zCh hf.read hlen HALL.out;clear hkm hlen;go_wp2_with fail
     refine hcol.mono ?_;rintro e w9 ⟨r9,rfl,f9,b9⟩;go_wp2_with fail
     go_ret2
     rw [HR.out,HB.out];exact ⟨_,rfl,f9.mono (fun b hb'=>⟨Nat.le_trans hb.size hb'.1,hb'.2⟩),zAA.step hb b9⟩
end Go.Proofs.YtlchafedbnihoaaGreatDoor
