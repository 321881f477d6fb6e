/- The product of a letter and a list of terms. Plain lists. -/
import Derived.Test.YtlchafedbnihoaaGreatDoorJGAdd
import Derived.Test.YtlchafedbnihoaaGreatDoorJGRp
namespace Go.Proofs.YtlchafedbnihoaaGreatDoor
open Go.RowKit
set_option maxRecDepth 20000
set_option maxHeartbeats 16000000
def letT (c:List (List Int)) (i:Int) (t:Trm):List Trm :=
 if t.1.length<(zAQ c (i::t.1)).length then [(zAQ c (i::t.1),t.2)] else [(zAQ c (i::t.1),shI t.2),(t.1,subP (shI t.2) t.2)]
def letL (c:List (List Int)) (i:Int):List Trm→List Trm
 | []=>[]
 | t::L=>letT c i t++letL c i L
theorem zG9 (c:List (List Int)) (i:Int):∀L M:List Trm,letL c i (L++M)=letL c i L++letL c i M
 | [],M=>rfl
 | t::L,M=>by simp [letL,zG9 c i L M]
theorem zGL {c:List (List Int)} {i:Int} {L:List Trm} {k:Nat} {x:Trm} (h:L[k]? = some x):letL c i (L.take (k+1))=letL c i (L.take k)++letT c i x:=by
 rw [zAV h,zG9]; simp [letL]
theorem zKy (c:List (List Int)) (i:Int) (t:Trm):(letT c i t).length≤2:=by unfold letT; split <;> simp
theorem zCS (c:List (List Int)) (i:Int):∀L:List Trm,(letL c i L).length≤2*L.length
 | []=>by simp [letL]
 | t::L=>by
  have h1:=zKy c i t;have h2:=zCS c i L;simp only [letL,List.length_append,List.length_cons];omega
theorem zDf {c:List (List Int)} {i:Int}:∀{L:List Trm} {s:Trm},s∈letL c i L→∃t∈L,s∈letT c i t
 | [],s,h=>by simp [letL] at h
 | t::L,s,h=>by
  simp only [letL] at h;rcases List.mem_append.1 h with h | h
  ·exact ⟨t,List.mem_cons_self ..,h⟩
  ·obtain ⟨r,hr,h⟩:=zDf h;exact ⟨r,List.mem_cons_of_mem _ hr,h⟩
theorem zMW {p:List Int}:Trd (shI p):=by
 unfold shI;by_cases h:trim p=[]
 ·rw [if_pos h]; exact .inl rfl
 ·rw [if_neg h];refine .inr ?_;rcases zCW p with h1 | h1
  ·exact absurd h1 h
  ·obtain ⟨a,l,e⟩:∃a l,trim p=a::l:=by
    cases e:trim p with
    | nil=>exact absurd e h
    | cons a l=>exact ⟨a,l,rfl⟩
   rw [e] at h1 ⊢;simpa [num] using h1
theorem zGM {n:Nat} {i:Int} {w:List Int} (hi:0≤i∧i<n) (h:Lets n w):Lets n (i::w):=fun x hx=>by
 rcases List.mem_cons.1 hx with rfl | hx
 ·exact hi
 ·exact h x hx
theorem zKF {c:List (List Int)} {i:Int} (h:ptB c i=true):0≤i∧i<c.length:=by
 unfold ptB inR at h;simp only [Bool.and_eq_true,decide_eq_true_eq] at h;omega
theorem zER {c:List (List Int)} {i:Int} {L:List Trm} (h:Hk c L) (hi:ptB c i=true) (hin:∀t∈L,InI t.2) {t:Trm} (ht:t∈L) :
  (CartanP c∧Lets c.length (i::t.1)∧(i::t.1).length≤16)∧∀s∈letT c i t,s.1.length≤31∧s.2.length≤63∧Trd s.2∧InI s.2:=by
 obtain ⟨h1,h2⟩:=h.word ht;have hc:=zBL.1 h.car;have hl:Lets c.length (i::t.1):=zGM (zKF hi) (zBF h2).2.2;have hn:=zB6 hc hl (by simp; omega);have hp:=h.poly t ht;have hs:=zIi t.2;have hb:=zEM (shI t.2) (negL t.2);have hng:(negL t.2).length=t.2.length:=by simp [negL]
 refine ⟨⟨hc,hl,by simp; omega⟩,fun s hs=>?_⟩;have hx:(zAQ c (i::t.1)).length≤31:=by simp at hn; omega
 unfold letT at hs;split at hs
 ·rw [List.mem_singleton] at hs;subst hs;exact ⟨hx,by show t.2.length≤63; omega,h.tr t ht,hin t ht⟩
 ·rcases List.mem_cons.1 hs with rfl | hs
  ·exact ⟨hx,by show (shI t.2).length≤63; omega,zMW,zKR (hin t ht)⟩
  ·rw [List.mem_singleton] at hs;subst hs;exact ⟨by show t.1.length≤31; omega,by show (subP (shI t.2) t.2).length≤63; unfold subP; omega,zE3 _ _,zEL _ _⟩
theorem zDN {c:List (List Int)} {i:Int} {L:List Trm} (h:Hk c L) (hi:ptB c i=true) (hin:∀t∈L,InI t.2):∀s∈letL c i L,s.1.length≤31∧s.2.length≤63∧Trd s.2∧InI s.2:=fun s hs=>by
 obtain ⟨t,ht,hs⟩:=zDf hs;exact (zER h hi hin ht).2 s hs
theorem zDl {D:List Trm} {e:Trm} (h:∀t∈D,Trd t.2∧InI t.2):endP e.1 e.2 (putF e.1 e.2 (puts D))=puts (D++[e]):=by
 rw [zF2 (zA1 _ _ rfl h).1,zCG]
def mlB (c:List (List Int)) (i:Int) (L:List Trm):Bool:=isHk c L && (ptB c i && isHk c (puts (letL c i L)))
def mlR (c:List (List Int)) (i:Int) (L:List Trm):List Trm:=if isHk c L=true then if ptB c i=true then gd c (puts (letL c i L)) else [] else []
theorem zJx {c:List (List Int)} {i:Int} {L:List Trm} (h:isHk c L=false):mlB c i L=false∧mlR c i L=[]:=by unfold mlB mlR; rw [h]; exact ⟨rfl,rfl⟩
theorem zJy {c:List (List Int)} {i:Int} {L:List Trm} (h1:isHk c L=true) (h:ptB c i=false):mlB c i L=false∧mlR c i L=[]:=by unfold mlB mlR; rw [h1,h]; exact ⟨rfl,rfl⟩
theorem zJz {c:List (List Int)} {i:Int} {L:List Trm} (h1:isHk c L=true) (h:ptB c i=true):mlB c i L=isHk c (puts (letL c i L))∧mlR c i L=gd c (puts (letL c i L)):=by unfold mlB mlR; rw [h1,h]; exact ⟨rfl,rfl⟩
theorem zD6 (c:List (List Int)) (i:Int) (L:List Trm):zAD (mlR c i L)≤4620:=by
 unfold mlR;split
 ·split
  ·exact zG1 _ _
  ·simp [zAD,zAF]
 ·simp [zAD,zAF]
theorem zHB {S S':Nat→Prop} {u v:Value} {c:List (List Int)} {i:Int} {L:List Trm} {w:World} (h:RII S w u c) (h':RT S' w v L) (hk:Hk c L) (hi:ptB c i=true) (hin:∀t∈L,InI t.2) :
  Calls Tryz.prog 61 #[u,.int .i64 i,v] w fun e w'=>∃r,e=.returned r∧FT (New w w') w' r (puts (letL c i L))∧Below w.heap.size w w':=by
 have HOK:=zNg (fun (t:Trm) (ht:t∈L)=>zER hk hi hin ht);have HPO:=zNg (fun (t:Trm) (ht:t∈L)=>(⟨(hk.word ht).1,hk.poly t ht,hin t ht⟩:t.1.length≤15∧t.2.length≤61∧InI t.2));have HALL:Hid ((letL c i L).length≤1048576∧∀t∈letL c i L,t.1.length≤1048576∧t.2.length≤1048576∧Trd t.2∧InI t.2):=zNg ⟨by have:=zCS c i L; have:=hk.len; omega,fun t ht=>by
  have:=zDN hk hi hin t ht;exact ⟨by omega,by omega,this.2.2⟩⟩
 have HST:=zNg (fun (k:Nat) (x:Trm) (hx:L[k]? = some x)=>zGL (c:=c) (i:=i) hx);have HLN:Hid (∀k,(letL c i (L.take k)).length≤120):=zNg (fun k=>by
  have h1:=zCS c i (L.take k);have h2:(L.take k).length≤L.length:=by rw [List.length_take]; exact Nat.min_le_right _ _
  have:=hk.len;omega)
 have HN:Hid (letL c i (L.take L.length)=letL c i L):=zNg (by rw [List.take_of_length_le (zNl _)]);have H0:Hid (letL c i (L.take 0)=[]):=zNg rfl;have hlm:L.length≤60:=hk.len;clear hk hi hin;obtain ⟨au,cu,rfl⟩:=h.form;obtain ⟨a,cap,rfl⟩:=h'.form;generalize hm:L.length=m at *;clear hm;go_enter Tryz.func61,Tryz.ntmps61
 go_wp2_with fail
 have f1:=OT.fresh (Below.refl _ w);have b3:Below w.heap.size w (w.alloc (.cells #[] 39)):=(Below.refl _ w).alloc (zNl _) _;generalize w.alloc (.cells #[] 39)=w3 at *;rw [<-H0.out] at f1;go_loopw [7,15] (fun zz j wr=>∃(k:Nat) (zv:Value),zv=zz∧k≤m∧j=.int .i64 k∧OT w wr zv (letL c i (L.take k))∧Below w.heap.size w wr) (fun _ j _=>m-(intOf j).toNat)
 case atStart=>exact ⟨0,_,rfl,Nat.zero_le _,rfl,f1,b3⟩
 case round =>
  obtain ⟨k,zv,rfl,hk,rfl,hf,hb⟩:=hrel;by_cases h1:k<m
  ·obtain ⟨b,o,r,r',x,e8,hc,hc',⟨hr,hr'⟩,hx⟩:=(h'.below hb).at h1;subst e8;obtain ⟨ax,cx,rfl⟩:=hr.form;obtain ⟨ay,cy,rfl⟩:=hr'.form;have i1:(k:Int)<(m:Int):=by omega
   have hxm:=zNi hx.out;obtain ⟨⟨hcp,hlets,hl16⟩,_⟩:=HOK.out x hxm;obtain ⟨hx15,hx61,hxi⟩:=HPO.out x hxm;have HXI:=zNg hxi;have HCP:=zNg (And.intro hcp hlets);have HS2:=zNg (HST.out k x hx.out);have HSLk:=HLN.out k;have hh:=h.below hb;obtain ⟨w4,hw4⟩:∃w4,w4=wr.alloc (.cells #[.slice ax x.1.length cx,.slice ay x.2.length cy] 39):=⟨_,rfl⟩;have b4:Below wr.heap.size wr w4:=by rw [hw4]; exact (Below.refl _ wr).alloc (zNl _) _
   have k0:w4.cell? ⟨wr.heap.size,0,none⟩=some (.slice ax x.1.length cx):=by rw [hw4]; go_simp
   have k1:w4.cell? ⟨wr.heap.size,1,none⟩=some (.slice ay x.2.length cy):=by rw [hw4]; go_simp
   have l0:wr.heap.size<w4.heap.size:=by rw [hw4]; simp
   have hz4:w4.heap.size=wr.heap.size+1:=by rw [hw4]; simp
   have hr2:=hr.below b4;have hr3:=hr'.below b4;have hf4:=hf.below b4;have hb4:=zAA.step hb b4;have hh4:=hh.below b4;obtain ⟨w5,hw5⟩:∃w5,w5=w4.alloc (.cells #[.int .i64 i] 3):=⟨_,rfl⟩;obtain ⟨f5,b5⟩:=zGI (Below.refl w4.heap.size w4) hw5;rw [hz4] at f5;have HW5:Hid (w5=(wr.alloc (.cells #[.slice ax x.1.length cx,.slice ay x.2.length cy] 39)).alloc (.cells #[.int .i64 i] 3)):=zNg (by rw [hw5,hw4]);have hr5:=hr2.below b5;clear hw4 hw5 hcp hlets hxm hxi;obtain ⟨az2,cz2,rfl⟩:=hf.form;go_wp2_with (at_builtin; go_must (rw [<-HW5.out]; refine zAG (W:=w4) rfl _ _ rfl rfl f5 b5 rfl hr5 (by simp; omega) ?_))
   intro v6 w6 f6 b6 _;have b6:Below w4.heap.size w4 w6:=by first | exact b6 | (rw [hz4]; exact b6)
   have f6:FI (New w4 w6) w6 v6 (i::x.1):=by first | exact f6 | (unfold New; rw [hz4]; exact f6)
   obtain ⟨a6,c6,rfl⟩:=f6.form;have hred:=zDC (hh4.below b6) f6.reads HCP.out.1 HCP.out.2 (by omega);have k0:=(b6.cell (p:=⟨wr.heap.size,0,none⟩) l0).trans k0;have k1:=(b6.cell (p:=⟨wr.heap.size,1,none⟩) l0).trans k1;have l6:wr.heap.size<w6.heap.size:=Nat.lt_of_lt_of_le l0 b6.size;have hb6:=zAA.step hb4 b6;have hf6:=hf4.below b6;have hr6:=hr2.below b6;have hr7:=hr3.below b6;clear f6 f5 hh4;go_wp2_with fail
   refine hred.mono ?_;rintro e w7 ⟨r7,rfl,f7,b7⟩;obtain ⟨a7,c7,rfl⟩:=f7.form;have k0:=(b7.cell (p:=⟨wr.heap.size,0,none⟩) l6).trans k0;have k1:=(b7.cell (p:=⟨wr.heap.size,1,none⟩) l6).trans k1;have l7:wr.heap.size<w7.heap.size:=Nat.lt_of_lt_of_le l6 b7.size;have hb7:=zAA.step hb6 b7;have hf7:=hf6.below b7;have hr8:=hr6.below b7;have hr9:=hr7.below b7;have HLT:Hid (letT c i x=if x.1.length<(zAQ c (i::x.1)).length then [(zAQ c (i::x.1),x.2)] else [(zAQ c (i::x.1),shI x.2),(x.1,subP (shI x.2) x.2)]):=zNg rfl;have hnn:(zAQ c (i::x.1)).length≤1048576:=by
    have:=(HOK.out x (zNi hx.out)).2;rw [HLT.out] at this;split at this
    ·have h9:(zAQ c (i::x.1)).length≤31:=(this _ (List.mem_singleton.2 rfl)).1;omega
    ·have h9:(zAQ c (i::x.1)).length≤31:=(this _ (List.mem_cons_self ..)).1;omega
   clear hred hx;generalize zAQ c (i::x.1)=y at *;by_cases hlen:x.1.length<y.length
   ·have HTT:=HLT.out;rw [if_pos hlen] at HTT;rw [HTT] at HS2;have i2:(x.1.length:Int)<(y.length:Int):=by omega
    have R1:=zNg (RT.one (w:=w7) rfl f7.any hr9.any);have HAO:=zNg (hf7.below ((Below.refl _ w7).alloc (zNl _) (.cells #[.slice a7 y.length c7,.slice ay x.2.length cy] 39)));have HAB:=zNg (hb7.alloc hb7.size (.cells #[.slice a7 y.length c7,.slice ay x.2.length cy] 39));clear HTT;go_wp2_with (at_builtin; go_must (refine zCb (W:=w) rfl _ _ rfl rfl HAO.out HAB.out rfl R1.out (by simp; omega) ?_))
    intro v8 w8 f8 b8 _;rw [<-HS2.out] at f8;go_wp2_with fail
    go_roundw
    case rel=>exact ⟨k+1,_,rfl,by omega,by go_num,f8,b8⟩
    case measure=>simp [intOf]; omega
   ·have HTT:=HLT.out;rw [if_neg hlen] at HTT;rw [HTT] at HS2;have i2:¬(x.1.length:Int)<(y.length:Int):=by omega
    have hsh:=zKS hr9 (by omega);have HSI:Hid (InI (shI x.2)∧(shI x.2).length≤62):=zNg ⟨zKR HXI.out,by have:=zIi x.2; omega⟩;clear HTT;go_wp2_with fail
    refine hsh.mono ?_;rintro e w8 ⟨r8,rfl,f8,b8⟩;obtain ⟨a8,c8,rfl⟩:=f8.form;have k0:=(b8.cell (p:=⟨wr.heap.size,0,none⟩) l7).trans k0;have k1:=(b8.cell (p:=⟨wr.heap.size,1,none⟩) l7).trans k1;have l8:wr.heap.size<w8.heap.size:=Nat.lt_of_lt_of_le l7 b8.size;have hb8:=zAA.step hb7 b8;have hf8:=hf7.below b8;have g0:=hr8.below b8;have g1:=hr9.below b8;have f7':=f7.below b8;have HNE:=zNg (hf.ne (b:=wr.heap.size) (.inl (zNl _)));have hsi:=HSI.out.1;have hs28:(shI x.2).length≤8388608:=by have:=HSI.out.2; omega
    have hx28:x.2.length≤8388608:=by omega
    have hsl2:(letL c i (L.take k)).length + [(y,shI x.2),(x.1,subP (shI x.2) x.2)].length≤33554432:=by simp; omega
    clear hsh HLT HOK HPO HST HLN HALL;generalize shI x.2=q at *;go_wp2_with fail
    go_region_held3 (fun w'=>w'.cell? ⟨wr.heap.size,0,none⟩=some (.slice ax x.1.length cx)∧w'.cell? ⟨wr.heap.size,1,none⟩=some (.slice ay x.2.length cy)) (first | go_keep | exact ⟨(b9.cell (p:=⟨wr.heap.size,0,none⟩) l8).trans k0,(b9.cell (p:=⟨wr.heap.size,1,none⟩) l8).trans k1⟩ | exact ⟨gA.cell (zAT ((b9.cell (p:=⟨wr.heap.size,0,none⟩) l8).trans k0) _) HNE.out,gA.cell (zAT ((b9.cell (p:=⟨wr.heap.size,1,none⟩) l8).trans k1) _) HNE.out⟩) (first
     | (go_at_call 101; refine (zMg f8.any.drew g1.drew hsi hs28 hx28).mono ?_; rintro e w9 ⟨r9,rfl,f9,b9⟩; obtain ⟨a9,c9,e9⟩:=f9.form; subst e9; have bA:Below w8.heap.size w8 w9:=((Below.refl _ w8).drew).trans b9; have hf9:OT w w9 (.slice az2 (letL c i (L.take k)).length cz2) (letL c i (L.take k)):=hf8.below bA; have hb9:=zAA.step hb8 bA; have R2:=zNg (RT.two (w:=w9) rfl (f7'.below bA).any (f8.below bA).any (g0.below bA).any f9.any))
     | (refine zGW (W:=w) (by rfl) _ _ (by rfl) (by rfl) (hf9.below ((Below.refl _ w9).alloc (zNl _) _)) (hb9.alloc hb9.size _) (by rfl) R2.out hsl2 ?_; intro vA wA fA bA2 gA))
    rw [<-HS2.out] at fA;go_wp2_with fail
    go_roundw
    case rel=>exact ⟨k+1,_,rfl,by omega,by go_num,fA,bA2⟩
    case measure=>simp [intOf]; omega
  ·have hkm:k=m:=by omega
   have i1:¬(k:Int)<(m:Int):=by omega
   rw [hkm,HN.out] at hf;have hcol:=zCh hf.read HALL.out.1 HALL.out.2;obtain ⟨az2,cz2,rfl⟩:=hf.form;clear hkm;go_wp2_with fail
   refine hcol.mono ?_;rintro e w9 ⟨r9,rfl,f9,b9⟩;go_wp2_with fail
   go_ret
   exact ⟨_,rfl,f9.mono (fun b hb'=>⟨Nat.le_trans hb.size hb'.1,hb'.2⟩),zAA.step hb b9⟩
theorem zDq {S S':Nat→Prop} {u v:Value} {c:List (List Int)} {i:Int} {L:List Trm} {w:World} (h:RII S w u c) (h':RT S' w v L) (hl:total c≤16777216) (hl':zAD L≤1048576) (hin:∀t∈L,InI t.2) :
  Calls Tryz.prog 24 #[u,.int .i64 i,v] w fun e w'=>∃r,e=.returned (.tuple #[r,.bool (mlB c i L)])∧FT (New w w') w' r (mlR c i L)∧Below w.heap.size w w':=by
 have hH:=zA8 h h' hl (by omega);have hP:=fun w1 (b1:Below w.heap.size w w1)=>zEa i (h.below b1);have h0:=h;have h1:=h';obtain ⟨au,cu,rfl⟩:=h.form;obtain ⟨aa,ca,rfl⟩:=h'.form;cases hk:isHk c L with
 | false =>
  have HB:=zNg (zJx (i:=i) hk);rw [hk] at hH;clear hk hP;generalize L.length=m at *;go_enter Tryz.func24,Tryz.ntmps24
  go_wp2_with fail
  refine hH.mono ?_;rintro e w1 ⟨rfl,b1⟩;go_wp2_with fail
  go_ret2
  rw [HB.out.1,HB.out.2];exact ⟨_,rfl,FT.none0 b1,b1.alloc b1.size _⟩
 | true =>
  rw [hk] at hH;cases hk2:ptB c i with
  | false =>
   have HB:=zNg (zJy hk hk2);rw [hk2] at hP;clear hk hk2;generalize L.length=m at *;go_enter Tryz.func24,Tryz.ntmps24
   go_wp2_with fail
   refine hH.mono ?_;rintro e w1 ⟨rfl,b1⟩;go_wp2_with fail
   refine (hP w1 b1).mono ?_;rintro e w2 ⟨rfl,rfl⟩;go_wp2_with fail
   go_ret2
   rw [HB.out.1,HB.out.2];exact ⟨_,rfl,FT.none0 b1,b1.alloc b1.size _⟩
  | true =>
   have HB:=zNg (zJz hk hk2);rw [hk2] at hP;have HK:=zNg (zAO hk);have HK2:=zNg hk2;have HIN:=zNg hin;have HTOT:Hid (zAD (puts (letL c i L))≤16777216):=zNg (by
    have h1:=zCS c i L;have h3:=(zAO hk).len;have h2:=(zBx (L:=letL c i L) (n:=120) (by omega) (fun t ht=>by have:=zDN (zAO hk) hk2 hin t ht; exact ⟨by omega,by omega⟩)).2.2;omega)
   clear hk hk2 hin hl';generalize hm:L.length=m at *;clear hm;go_enter Tryz.func24,Tryz.ntmps24
   go_wp2_with fail
   refine hH.mono ?_;rintro e w1 ⟨rfl,b1⟩;go_wp2_with fail
   refine (hP w1 b1).mono ?_;rintro e w2 ⟨rfl,rfl⟩;have hlt:=zHB (h0.below b1) (h1.below b1) HK.out HK2.out HIN.out;clear hH hP;go_wp2_with fail
   refine hlt.mono ?_;rintro e w5 ⟨r5,rfl,f5,b5⟩;obtain ⟨a5,c5,rfl,_⟩:=FC.form f5;have b05:=zAA.step b1 b5;have hg:=zEY (W:=w) (h0.below b05) (f5.mono (fun b hb'=>⟨Nat.le_trans b1.size hb'.1,hb'.2⟩)) b05 hl HTOT.out;go_wp2_with fail
   refine hg.mono ?_;rintro e w9 ⟨a9,c9,rfl,f9,b9⟩;go_wp2_with fail
   go_ret2
   rw [HB.out.1,HB.out.2];exact ⟨_,rfl,f9,b9⟩
theorem zDr {S S':Nat→Prop} {u v:Value} {c:List (List Int)} {i:Int} {L:List Trm} {w:World} (h:RII S w u c) (h':RT S' w v L) (hl:total c≤16777216) (hl':zAD L≤1048576) (hin:∀t∈L,InI t.2) :
  Calls Tryz.prog 25 #[u,.int .i64 i,v] w fun e w'=>∃r,e=.returned (.tuple #[r,.bool (mlB c i L)])∧FT (New w w') w' r (mlR c i L)∧Below w.heap.size w w':=by
 have hH:=zA9 h h' hl (by omega);have h0:=h;obtain ⟨au,cu,rfl⟩:=h.form;obtain ⟨aa,ca,rfl⟩:=h'.form;have hcl:c.length≤16777216:=by unfold total at hl; omega
 have hPT:∀w1:World,Calls Tryz.prog 62 #[.int .i64 i,.int .i64 0,.int .i64 ((c.length:Int)-1)] w1 fun e w'=>e=.returned (.bool (ptB c i))∧w1=w':=fun w1=>zDe i 0 _ w1;cases hk:isHk c L with
 | false =>
  have HB:=zNg (zJx (i:=i) hk);rw [hk] at hH;clear hk hPT;generalize L.length=m at *;generalize c.length=n at *;go_enter Tryz.func25,Tryz.ntmps25
  go_wp2_with fail
  refine hH.mono ?_;rintro e w1 ⟨rfl,b1⟩;go_wp2_with fail
  go_ret2
  rw [HB.out.1,HB.out.2];exact ⟨_,rfl,FT.none0 b1,b1.alloc b1.size _⟩
 | true =>
  rw [hk] at hH;cases hk2:ptB c i with
  | false =>
   have HB:=zNg (zJy hk hk2);rw [hk2] at hPT;clear hk hk2;generalize L.length=m at *;generalize c.length=n at *;go_enter Tryz.func25,Tryz.ntmps25
   go_wp2_with fail
   refine hH.mono ?_;rintro e w1 ⟨rfl,b1⟩;go_wp2_with fail
   refine (hPT w1).mono ?_;rintro e w2 ⟨rfl,rfl⟩;go_wp2_with fail
   go_ret2
   rw [HB.out.1,HB.out.2];exact ⟨_,rfl,FT.none0 b1,b1.alloc b1.size _⟩
  | true =>
   have HB:=zNg (zJz hk hk2);rw [hk2] at hPT;have hK:=zAO hk;have HOK:=zNg (fun (t:Trm) (ht:t∈L)=>zER hK hk2 hin ht);have HPO:=zNg (fun (t:Trm) (ht:t∈L)=>(⟨(hK.word ht).1,hK.poly t ht,hin t ht⟩:t.1.length≤15∧t.2.length≤61∧InI t.2));have HTOT:Hid (zAD (puts (letL c i L))≤16777216):=zNg (by
    have h1:=zCS c i L;have h3:=(zAO hk).len;have h2:=(zBx (L:=letL c i L) (n:=120) (by omega) (fun t ht=>by have:=zDN (zAO hk) hk2 hin t ht; exact ⟨by omega,by omega⟩)).2.2;omega)
   have hall:∀(k:Nat) (M:List Trm),(∀s∈M,s.1.length≤31∧s.2.length≤63∧Trd s.2∧InI s.2)→M.length≤2→(puts (letL c i (L.take k)++M)).length≤1048576∧(∀t∈puts (letL c i (L.take k)++M),t.1.length≤1048576∧t.2.length≤1048576∧InI t.2)∧∀t∈letL c i (L.take k)++M,Trd t.2∧InI t.2:=fun k M hM hM2=>by
    have h1:∀t∈letL c i (L.take k)++M,t.1.length≤31∧t.2.length≤63∧Trd t.2∧InI t.2:=fun t ht=>by
     rcases List.mem_append.1 ht with ht | ht
     ·obtain ⟨s,hs,ht⟩:=zDf ht;exact (zER hK hk2 hin (List.mem_of_mem_take hs)).2 t ht
     ·exact hM t ht
    have h2:=zCS c i (L.take k);have h3:(L.take k).length≤L.length:=by rw [List.length_take]; exact Nat.min_le_right _ _
    have h4:=hK.len;have h5:=zBx (L:=letL c i (L.take k)++M) (n:=122) (by rw [List.length_append]; omega) (fun t ht=>⟨(h1 t ht).1,(h1 t ht).2.1⟩);have h6:∀t∈letL c i (L.take k)++M,Trd t.2∧InI t.2:=fun t ht=>(h1 t ht).2.2;exact ⟨by omega,fun t ht=>by have:=h5.2.1 t ht; exact ⟨by omega,by omega,(zA1 _ _ rfl h6).1.inn t ht⟩,h6⟩
   have HALL:=zNg hall;have HST:=zNg (fun (k:Nat) (x:Trm) (hx:L[k]? = some x)=>zGL (c:=c) (i:=i) hx);have HN:Hid (letL c i (L.take L.length)=letL c i L):=zNg (by rw [List.take_of_length_le (zNl _)]);have H0:Hid (puts (letL c i (L.take 0))=[]):=zNg rfl;have hlm:L.length≤60:=hK.len;clear hk hk2 hin hl' hK hall;generalize hm:L.length=m at *;clear hm;generalize hcn:c.length=n at *;have HCN:=zNg hcn;clear hcn;go_enter Tryz.func25,Tryz.ntmps25
   go_wp2_with fail
   refine hH.mono ?_;rintro e w1 ⟨rfl,b1⟩;go_wp2_with fail
   refine (hPT w1).mono ?_;rintro e w2 ⟨rfl,rfl⟩;clear hH hPT;go_wp2_with fail
   have f1:FT (New w (w1.alloc (.cells #[] 39))) (w1.alloc (.cells #[] 39)) (.slice (some ⟨w1.heap.size,0,none⟩) 0 0) []:=FT.none0 b1;have b3:Below w.heap.size w (w1.alloc (.cells #[] 39)):=b1.alloc b1.size _;generalize w1.alloc (.cells #[] 39)=w3 at *;rw [<-H0.out] at f1;go_loopw [8,9] (fun zz j wr=>∃(k:Nat) (zv:Value),zv=zz∧k≤m∧j=.int .i64 k∧FT (New w wr) wr zv (puts (letL c i (L.take k)))∧Below w.heap.size w wr) (fun _ j _=>m-(intOf j).toNat)
   case atStart=>exact ⟨0,_,rfl,Nat.zero_le _,rfl,f1,b3⟩
   case round =>
    obtain ⟨k,zv,rfl,hk,rfl,hf,hb⟩:=hrel;by_cases h1:k<m
    ·obtain ⟨b,o,r,r',x,e8,hc,hc',⟨hr,hr'⟩,hx⟩:=h'.at h1;subst e8;obtain ⟨ax,cx,rfl⟩:=hr.form;obtain ⟨ay,cy,rfl⟩:=hr'.form;have i1:(k:Int)<(m:Int):=by omega
     have lb0:b<w.heap.size:=zNk w _ hc;have k0:=(hb.cell (p:=⟨b,o+k*2,none⟩) lb0).trans hc;have k1:=(hb.cell (p:=⟨b,o+k*2+1,none⟩) lb0).trans hc';have lb:b<wr.heap.size:=Nat.lt_of_lt_of_le lb0 hb.size;have hxm:=zNi hx.out;obtain ⟨⟨hcp,hlets,hl16⟩,hlt⟩:=HOK.out x hxm;obtain ⟨hx15,hx61,hxi⟩:=HPO.out x hxm;have HXI:=zNg hxi;have HCP:=zNg (And.intro hcp hlets);have HS2:=zNg (HST.out k x hx.out);have HA0:=zNg (HALL.out k [] (fun s hs=>by simp at hs) (by simp));obtain ⟨w5,hw5⟩:∃w5,w5=wr.alloc (.cells #[.int .i64 i] 3):=⟨_,rfl⟩;obtain ⟨f5,b5⟩:=zGI (Below.refl wr.heap.size wr) hw5;have k0:=(b5.cell (p:=⟨b,o+k*2,none⟩) lb).trans k0;have k1:=(b5.cell (p:=⟨b,o+k*2+1,none⟩) lb).trans k1;have lb5:b<w5.heap.size:=Nat.lt_of_lt_of_le lb b5.size;have hb5:=zAA.step hb b5
     have hcc:=zIz f5.reads (hr.below hb5) (by simp) (by omega);have HLT:Hid (letT c i x=if x.1.length<(zAQ c (i::x.1)).length then [(zAQ c (i::x.1),x.2)] else [(zAQ c (i::x.1),shI x.2),(x.1,subP (shI x.2) x.2)]):=zNg rfl;have HLTO:=zNg hlt;clear hcp hlets hxm hxi hlt hx;go_wp2_with fail
     rw [<-hw5];clear hw5 f5;refine hcc.mono ?_;rintro e w6 ⟨r6,rfl,f6,b6⟩;have f6:FI (New w5 w6) w6 r6 (i::x.1):=f6;have k0:=(b6.cell (p:=⟨b,o+k*2,none⟩) lb5).trans k0;have k1:=(b6.cell (p:=⟨b,o+k*2+1,none⟩) lb5).trans k1;have lb6:b<w6.heap.size:=Nat.lt_of_lt_of_le lb5 b6.size;have hb6:=zAA.step hb5 b6;have hred:=zDi (h0.below hb6) f6.reads HCP.out.1 (by rw [HCN.out]; exact HCP.out.2) hl (by omega);clear f6 hcc;go_wp2_with fail
     refine hred.mono ?_;rintro e w7 ⟨r7,rfl,f7,b7⟩;obtain ⟨a7,c7,rfl⟩:=f7.form;have k0:=(b7.cell (p:=⟨b,o+k*2,none⟩) lb6).trans k0;have k1:=(b7.cell (p:=⟨b,o+k*2+1,none⟩) lb6).trans k1;have lb7:b<w7.heap.size:=Nat.lt_of_lt_of_le lb6 b7.size;have hb7:=zAA.step hb6 b7;have b37:Below wr.heap.size wr w7:=zAA.step (zAA.step b5 b6) b7;have hf7:=hf.grow b37;obtain ⟨az,cz,rfl,_⟩:=FC.form hf7;have hr7:=hr.below hb7;have hr8:=hr'.below hb7;clear hred hf;generalize zAQ c (i::x.1)=y at *;by_cases hlen:x.1.length<y.length
     ·have HTT:=HLT.out;rw [if_pos hlen] at HTT;rw [HTT] at HS2 HLTO;have hp1:=zDl (D:=letL c i (L.take k)) (e:=(y,x.2)) (fun t ht=>HA0.out.2.2 t (by rw [List.append_nil]; exact ht));have h31:y.length≤31:=(HLTO.out _ (List.mem_singleton.2 rfl)).1;have HP1:=zNg (hp1.trans (congrArg puts HS2.out.symm));have i2:(x.1.length:Int)<(y.length:Int):=by omega
      have ha0:=HA0.out;rw [List.append_nil] at ha0;have hput:=zCV (FT.read hf7) f7.any hr8 ha0.1 ha0.2.1 (by omega) (by omega) HXI.out;rw [HP1.out] at hput;clear HTT hp1 ha0;go_wp2_with fail
      refine hput.mono ?_;rintro e w8 ⟨r8,rfl,f8,b8⟩;go_wp2_with fail
      go_roundw
      case rel=>exact ⟨k+1,_,rfl,by omega,by go_num,f8.mono (fun b hb'=>⟨Nat.le_trans hb7.size hb'.1,hb'.2⟩),zAA.step hb7 b8⟩
      case measure=>simp [intOf]; omega
     ·have HTT:=HLT.out;rw [if_neg hlen] at HTT;rw [HTT] at HS2 HLTO;have h31:y.length≤31:=(HLTO.out _ (List.mem_cons_self ..)).1;have hs63:(shI x.2).length≤63:=(HLTO.out _ (List.mem_cons_self ..)).2.1;have hsi:InI (shI x.2):=(HLTO.out _ (List.mem_cons_self ..)).2.2.2;have hd63:(subP (shI x.2) x.2).length≤63:=(HLTO.out _ (List.mem_cons_of_mem _ (List.mem_cons_self ..))).2.1;have hdi:InI (subP (shI x.2) x.2):=(HLTO.out _ (List.mem_cons_of_mem _ (List.mem_cons_self ..))).2.2.2;have hp1:=zDl (D:=letL c i (L.take k)) (e:=(y,shI x.2)) (fun t ht=>HA0.out.2.2 t (by rw [List.append_nil]; exact ht));have ha1:=HALL.out k [(y,shI x.2)] (fun s hs=>by rw [List.mem_singleton] at hs; subst hs; exact HLTO.out _ (List.mem_cons_self ..)) (by simp);have hp2:=zDl (D:=letL c i (L.take k)++[(y,shI x.2)]) (e:=(x.1,subP (shI x.2) x.2)) ha1.2.2
      rw [List.append_assoc] at hp2;have HP1:=zNg hp1;have HP2:=zNg (hp2.trans (congrArg puts HS2.out.symm));have HA1:=zNg (And.intro ha1.1 ha1.2.1);have HDI:=zNg (And.intro hsi hdi);have i2:¬(x.1.length:Int)<(y.length:Int):=by omega
      have ha0:=HA0.out;rw [List.append_nil] at ha0;have hsh:=zGV hr8 1 (by decide) (by omega);rw [zFg] at hsh;clear HTT hp1 hp2 ha1 hsi hdi;go_wp2_with fail
      refine hsh.mono ?_;rintro e w8 ⟨r8,rfl,f8,b8⟩;obtain ⟨a8,c8,rfl⟩:=f8.form;have k0:=(b8.cell (p:=⟨b,o+k*2,none⟩) lb7).trans k0;have k1:=(b8.cell (p:=⟨b,o+k*2+1,none⟩) lb7).trans k1;have lb8:b<w8.heap.size:=Nat.lt_of_lt_of_le lb7 b8.size;have hb8:=zAA.step hb7 b8;have hput:=zCV ((FT.read hf7).below b8) (f7.any.below b8) f8.any ha0.1 ha0.2.1 (by omega) (by omega) HDI.out.1;rw [HP1.out] at hput;clear hsh ha0;go_wp2_with fail
      refine hput.mono ?_;rintro e w9 ⟨r9,rfl,f9,b9⟩;obtain ⟨a9,c9,rfl,_⟩:=FC.form f9;have k0:=(b9.cell (p:=⟨b,o+k*2,none⟩) lb8).trans k0;have k1:=(b9.cell (p:=⟨b,o+k*2+1,none⟩) lb8).trans k1;have lb9:b<w9.heap.size:=Nat.lt_of_lt_of_le lb8 b9.size;have hb9:=zAA.step hb8 b9;have g7:=hr.below hb9;have g8:=hr'.below hb9;have hx28:x.2.length≤8388608:=by omega
      have hs28:(shI x.2).length≤8388608:=by omega
      have hx1:x.1.length≤1048576:=by omega
      have hd1:(subP (shI x.2) x.2).length≤1048576:=by omega
      have hshf:=fun w' (b':Below w9.heap.size w9 w')=>zGV (g8.below b') 1 (by decide) hx28;simp only [zFg] at hshf;clear hput f8;go_wp2_with fail
      go_region_held3 (fun w'=>w'.cell? ⟨b,o+k*2,none⟩=some (.slice ax x.1.length cx)∧w'.cell? ⟨b,o+k*2+1,none⟩=some (.slice ay x.2.length cy)) (first | go_keep | exact ⟨(bA.cell (p:=⟨b,o+k*2,none⟩) lb9).trans k0,(bA.cell (p:=⟨b,o+k*2+1,none⟩) lb9).trans k1⟩ | exact ⟨(bAB.cell (p:=⟨b,o+k*2,none⟩) lb9).trans k0,(bAB.cell (p:=⟨b,o+k*2+1,none⟩) lb9).trans k1⟩ | exact ⟨(bAC.cell (p:=⟨b,o+k*2,none⟩) lb9).trans k0,(bAC.cell (p:=⟨b,o+k*2+1,none⟩) lb9).trans k1⟩) (first
       | (go_at_call 65; refine (hshf _ ((Below.refl _ w9).drew)).mono ?_; rintro e wA ⟨rA,rfl,fA,bA0⟩; obtain ⟨aA,cA,eA⟩:=fA.form; subst eA; have bA:Below w9.heap.size w9 wA:=((Below.refl _ w9).drew).trans bA0)
       | (go_at_call 66; refine (zMh fA.any (g8.below bA) HDI.out.1 hs28 hx28).mono ?_; rintro e wB ⟨rB,rfl,fB,bB⟩; obtain ⟨aB,cB,eB⟩:=fB.form; subst eB; have bAB:Below w9.heap.size w9 wB:=zAA.step bA bB)
       | (go_at_call 53; refine (zCV ((FT.read f9).below bAB) (g7.below bAB) fB.any HA1.out.1 HA1.out.2 hx1 hd1 HDI.out.2).mono ?_; rintro e wC ⟨rC,rfl,fC,bC⟩; have bAC:Below w9.heap.size w9 wC:=zAA.step bAB bC))
      rw [HP2.out] at fC;have hbC:=zAA.step hb9 bAC;have hbB:=zAA.step hb9 bAB;go_wp2_with fail
      go_roundw
      case rel=>exact ⟨k+1,_,rfl,by omega,by go_num,fC.mono (fun b hb'=>⟨Nat.le_trans hbB.size hb'.1,hb'.2⟩),hbC⟩
      case measure=>simp [intOf]; omega
    ·have hkm:k=m:=by omega
     have i1:¬(k:Int)<(m:Int):=by omega
     rw [hkm,HN.out] at hf;have hg:=zG2 (h0.below hb) hf hb hl HTOT.out;obtain ⟨az,cz,rfl,_⟩:=FC.form hf;clear hkm;go_wp2_with fail
     refine hg.mono ?_;rintro e w9 ⟨a9,c9,rfl,f9,b9⟩;go_wp2_with fail
     go_ret2
     rw [HB.out.1,HB.out.2];exact ⟨_,rfl,f9,b9⟩
end Go.Proofs.YtlchafedbnihoaaGreatDoor
