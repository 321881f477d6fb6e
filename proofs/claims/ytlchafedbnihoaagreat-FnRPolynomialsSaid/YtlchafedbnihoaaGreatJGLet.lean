/- The product of a letter and a list of terms. Plain lists. -/
import Derived.Test.YtlchafedbnihoaaGreatJGAdd
import Derived.Test.YtlchafedbnihoaaGreatJGRp
namespace Go.Proofs.YtlchafedbnihoaaGreat
open Go.RowKit
set_option maxRecDepth 20000
set_option maxHeartbeats 8000000
def letT (c:List (List Int)) (i:Int) (t:Trm):List Trm :=
 if t.1.length<(zAB c (i::t.1)).length then [(zAB c (i::t.1),t.2)] else [(zAB c (i::t.1),shI t.2),(t.1,subP (shI t.2) t.2)]
def letL (c:List (List Int)) (i:Int):List Trm→List Trm
 | []=>[]
 | t::L=>letT c i t++letL c i L
theorem zIS (c:List (List Int)) (i:Int):∀L M:List Trm,letL c i (L++M)=letL c i L++letL c i M
 | [],M=>rfl
 | t::L,M=>by simp [letL,zIS c i L M]
theorem zLW {c:List (List Int)} {i:Int} {L:List Trm} {k:Nat} {x:Trm} (h:L[k]? = some x):letL c i (L.take (k+1))=letL c i (L.take k)++letT c i x:=by
 rw [zAW h,zIS]; simp [letL]
theorem zMs (c:List (List Int)) (i:Int) (t:Trm):(letT c i t).length≤2:=by unfold letT; split <;> simp
theorem zEa (c:List (List Int)) (i:Int):∀L:List Trm,(letL c i L).length≤2*L.length
 | []=>by simp [letL]
 | t::L=>by
  have h1:=zMs c i t;have h2:=zEa c i L;simp only [letL,List.length_append,List.length_cons];omega
theorem zFw {c:List (List Int)} {i:Int}:∀{L:List Trm} {s:Trm},s∈letL c i L→∃t∈L,s∈letT c i t
 | [],s,h=>by simp [letL] at h
 | t::L,s,h=>by
  simp only [letL] at h;rcases List.mem_append.1 h with h | h
  ·exact ⟨t,List.mem_cons_self ..,h⟩
  ·obtain ⟨r,hr,h⟩:=zFw h;exact ⟨r,List.mem_cons_of_mem _ hr,h⟩
theorem zOx {p:List Int}:Trd (shI p):=by
 unfold shI;by_cases h:trim p=[]
 ·rw [if_pos h]; exact .inl rfl
 ·rw [if_neg h];refine .inr ?_;rcases zBI p with h1 | h1
  ·exact absurd h1 h
  ·obtain ⟨a,l,e⟩:∃a l,trim p=a::l:=by
    cases e:trim p with
    | nil=>exact absurd e h
    | cons a l=>exact ⟨a,l,rfl⟩
   rw [e] at h1 ⊢;simpa [num] using h1
theorem zCJ {n:Nat} {i:Int} {w:List Int} (hi:0≤i∧i<n) (h:Lets n w):Lets n (i::w):=fun x hx=>by
 rcases List.mem_cons.1 hx with rfl | hx
 ·exact hi
 ·exact h x hx
theorem zLy {c:List (List Int)} {i:Int} (h:ptB c i=true):0≤i∧i<c.length:=by
 unfold ptB inR at h;simp only [Bool.and_eq_true,decide_eq_true_eq] at h;omega
theorem zJq {c:List (List Int)} {i:Int} {L:List Trm} (h:Hk c L) (hi:ptB c i=true) (hin:∀t∈L,InI t.2) {t:Trm} (ht:t∈L) :
  (CartanP c∧Lets c.length (i::t.1)∧(i::t.1).length≤16)∧∀s∈letT c i t,s.1.length≤31∧s.2.length≤63∧Trd s.2∧InI s.2:=by
 obtain ⟨h1,h2⟩:=h.word ht;have hc:=zAY.1 h.car;have hl:Lets c.length (i::t.1):=zCJ (zLy hi) (zAT h2).2.2;have hn:=zAj hc hl (by simp; omega);have hp:=h.poly t ht;have hs:=zCA t.2;have hb:=zC7 (shI t.2) (negL t.2);have hng:(negL t.2).length=t.2.length:=by simp [negL]
 refine ⟨⟨hc,hl,by simp; omega⟩,fun s hs=>?_⟩;have hx:(zAB c (i::t.1)).length≤31:=by simp at hn; omega
 unfold letT at hs;split at hs
 ·rw [List.mem_singleton] at hs;subst hs;exact ⟨hx,by show t.2.length≤63; omega,h.tr t ht,hin t ht⟩
 ·rcases List.mem_cons.1 hs with rfl | hs
  ·exact ⟨hx,by show (shI t.2).length≤63; omega,zOx,zFG (hin t ht)⟩
  ·rw [List.mem_singleton] at hs;subst hs;exact ⟨by show t.1.length≤31; omega,by show (subP (shI t.2) t.2).length≤63; unfold subP; omega,zDm _ _,zC6 _ _⟩
theorem zFV {c:List (List Int)} {i:Int} {L:List Trm} (h:Hk c L) (hi:ptB c i=true) (hin:∀t∈L,InI t.2):∀s∈letL c i L,s.1.length≤31∧s.2.length≤63∧Trd s.2∧InI s.2:=fun s hs=>by
 obtain ⟨t,ht,hs⟩:=zFw hs;exact (zJq h hi hin ht).2 s hs
def mlB (c:List (List Int)) (i:Int) (L:List Trm):Bool:=isHk c L && (ptB c i && isHk c (puts (letL c i L)))
def mlR (c:List (List Int)) (i:Int) (L:List Trm):List Trm:=if isHk c L=true then if ptB c i=true then gd c (puts (letL c i L)) else [] else []
theorem zPs {c:List (List Int)} {i:Int} {L:List Trm} (h:isHk c L=false):mlB c i L=false∧mlR c i L=[]:=by unfold mlB mlR; rw [h]; exact ⟨rfl,rfl⟩
theorem zPt {c:List (List Int)} {i:Int} {L:List Trm} (h1:isHk c L=true) (h:ptB c i=false):mlB c i L=false∧mlR c i L=[]:=by unfold mlB mlR; rw [h1,h]; exact ⟨rfl,rfl⟩
theorem zPu {c:List (List Int)} {i:Int} {L:List Trm} (h1:isHk c L=true) (h:ptB c i=true):mlB c i L=isHk c (puts (letL c i L))∧mlR c i L=gd c (puts (letL c i L)):=by unfold mlB mlR; rw [h1,h]; exact ⟨rfl,rfl⟩
theorem zLh (c:List (List Int)) (i:Int) (L:List Trm):zAI (mlR c i L)≤4620:=by
 unfold mlR;split
 ·split
  ·exact zIN _ _
  ·simp [zAI,zAK]
 ·simp [zAI,zAK]
theorem zIT {S S':Nat→Prop} {u v:Value} {c:List (List Int)} {i:Int} {L:List Trm} {w:World} (h:RII S w u c) (h':RT S' w v L) (hk:Hk c L) (hi:ptB c i=true) (hin:∀t∈L,InI t.2) :
  Calls Tryz.prog 99 #[u,.int .i64 i,v] w fun e w'=>∃r,e=.returned r∧FT (New w w') w' r (puts (letL c i L))∧Below w.heap.size w w':=by
 have HOK:=zQY (fun (t:Trm) (ht:t∈L)=>zJq hk hi hin ht);have HPO:=zQY (fun (t:Trm) (ht:t∈L)=>(⟨(hk.word ht).1,hk.poly t ht,hin t ht⟩:t.1.length≤15∧t.2.length≤61∧InI t.2));have HALL:Hid ((letL c i L).length≤1048576∧∀t∈letL c i L,t.1.length≤1048576∧t.2.length≤1048576∧Trd t.2∧InI t.2):=zQY ⟨by have:=zEa c i L; have:=hk.len; omega,fun t ht=>by
  have:=zFV hk hi hin t ht;exact ⟨by omega,by omega,this.2.2⟩⟩
 have HST:=zQY (fun (k:Nat) (x:Trm) (hx:L[k]? = some x)=>zLW (c:=c) (i:=i) hx);have HLN:Hid (∀k,(letL c i (L.take k)).length≤120):=zQY (fun k=>by
  have h1:=zEa c i (L.take k);have h2:(L.take k).length≤L.length:=by rw [List.length_take]; exact Nat.min_le_right _ _
  have:=hk.len;omega)
 have HN:Hid (letL c i (L.take L.length)=letL c i L):=zQY (by rw [List.take_of_length_le (zQd _)]);have H0:Hid (letL c i (L.take 0)=[]):=zQY rfl;have hlm:L.length≤60:=hk.len;clear hk hi hin;obtain ⟨au,cu,rfl⟩:=h.form;obtain ⟨a,cap,rfl⟩:=h'.form;generalize hm:L.length=m at *;clear hm;go_enter Tryz.func99,Tryz.ntmps99
 go_wp2_with fail
 have f1:=OT.fresh (Below.refl _ w);have b3:Below w.heap.size w (w.alloc (.cells #[] 62)):=(Below.refl _ w).alloc (zQd _) _;generalize w.alloc (.cells #[] 62)=w3 at *;rw [<-H0.out] at f1;go_loopw [7,15] (fun zz j wr=>∃(k:Nat) (zv:Value),zv=zz∧k≤m∧j=.int .i64 k∧OT w wr zv (letL c i (L.take k))∧Below w.heap.size w wr) (fun _ j _=>m-(intOf j).toNat)
 case atStart=>exact ⟨0,_,rfl,Nat.zero_le _,rfl,f1,b3⟩
 case round =>
  obtain ⟨k,zv,rfl,hk,rfl,hf,hb⟩:=hrel;by_cases h1:k<m
  ·obtain ⟨b,o,r,r',x,e8,hc,hc',⟨hr,hr'⟩,hx⟩:=(h'.below hb).at h1;subst e8;obtain ⟨ax,cx,rfl⟩:=hr.form;obtain ⟨ay,cy,rfl⟩:=hr'.form;have i1:(k:Int)<(m:Int):=by omega
   have hxm:=zQa hx.out;obtain ⟨⟨hcp,hlets,hl16⟩,_⟩:=HOK.out x hxm;obtain ⟨hx15,hx61,hxi⟩:=HPO.out x hxm;have HXI:=zQY hxi;have HCP:=zQY (And.intro hcp hlets);have HS2:=zQY (HST.out k x hx.out);have HSLk:=HLN.out k;have hh:=h.below hb;obtain ⟨w4,hw4⟩:∃w4,w4=wr.alloc (.cells #[.slice ax x.1.length cx,.slice ay x.2.length cy] 62):=⟨_,rfl⟩;have b4:Below wr.heap.size wr w4:=by rw [hw4]; exact (Below.refl _ wr).alloc (zQd _) _
   have k0:w4.cell? ⟨wr.heap.size,0,none⟩=some (.slice ax x.1.length cx):=by rw [hw4]; go_simp
   have k1:w4.cell? ⟨wr.heap.size,1,none⟩=some (.slice ay x.2.length cy):=by rw [hw4]; go_simp
   have l0:wr.heap.size<w4.heap.size:=by rw [hw4]; simp
   have hz4:w4.heap.size=wr.heap.size+1:=by rw [hw4]; simp
   have hr2:=hr.below b4;have hr3:=hr'.below b4;have hf4:=hf.below b4;have hb4:=zAA.step hb b4;have hh4:=hh.below b4;obtain ⟨w5,hw5⟩:∃w5,w5=w4.alloc (.cells #[.int .i64 i] 3):=⟨_,rfl⟩;obtain ⟨f5,b5⟩:=zEy (Below.refl w4.heap.size w4) hw5;rw [hz4] at f5;have HW5:Hid (w5=(wr.alloc (.cells #[.slice ax x.1.length cx,.slice ay x.2.length cy] 62)).alloc (.cells #[.int .i64 i] 3)):=zQY (by rw [hw5,hw4]);have hr5:=hr2.below b5;clear hw4 hw5 hcp hlets hxm hxi;obtain ⟨az2,cz2,rfl⟩:=hf.form;go_wp2_with (at_builtin; go_must (rw [<-HW5.out]; refine zAN (W:=w4) rfl _ _ rfl rfl f5 b5 rfl hr5 (by simp; omega) ?_))
   intro v6 w6 f6 b6 _;have b6:Below w4.heap.size w4 w6:=by first | exact b6 | (rw [hz4]; exact b6)
   have f6:FI (New w4 w6) w6 v6 (i::x.1):=by first | exact f6 | (unfold New; rw [hz4]; exact f6)
   obtain ⟨a6,c6,rfl⟩:=f6.form;have hred:=zCZ (hh4.below b6) f6.reads HCP.out.1 HCP.out.2 (by omega);have k0:=(b6.cell (p:=⟨wr.heap.size,0,none⟩) l0).trans k0;have k1:=(b6.cell (p:=⟨wr.heap.size,1,none⟩) l0).trans k1;have l6:wr.heap.size<w6.heap.size:=Nat.lt_of_lt_of_le l0 b6.size;have hb6:=zAA.step hb4 b6;have hf6:=hf4.below b6;have hr6:=hr2.below b6;have hr7:=hr3.below b6;clear f6 f5 hh4;go_wp2_with fail
   refine hred.mono ?_;rintro e w7 ⟨r7,rfl,f7,b7⟩;obtain ⟨a7,c7,rfl⟩:=f7.form;have k0:=(b7.cell (p:=⟨wr.heap.size,0,none⟩) l6).trans k0;have k1:=(b7.cell (p:=⟨wr.heap.size,1,none⟩) l6).trans k1;have l7:wr.heap.size<w7.heap.size:=Nat.lt_of_lt_of_le l6 b7.size;have hb7:=zAA.step hb6 b7;have hf7:=hf6.below b7;have hr8:=hr6.below b7;have hr9:=hr7.below b7;have HLT:Hid (letT c i x=if x.1.length<(zAB c (i::x.1)).length then [(zAB c (i::x.1),x.2)] else [(zAB c (i::x.1),shI x.2),(x.1,subP (shI x.2) x.2)]):=zQY rfl;have hnn:(zAB c (i::x.1)).length≤1048576:=by
    have:=(HOK.out x (zQa hx.out)).2;rw [HLT.out] at this;split at this
    ·have h9:(zAB c (i::x.1)).length≤31:=(this _ (List.mem_singleton.2 rfl)).1;omega
    ·have h9:(zAB c (i::x.1)).length≤31:=(this _ (List.mem_cons_self ..)).1;omega
   clear hred hx;generalize zAB c (i::x.1)=y at *;by_cases hlen:x.1.length<y.length
   ·have HTT:=HLT.out;rw [if_pos hlen] at HTT;rw [HTT] at HS2;have i2:(x.1.length:Int)<(y.length:Int):=by omega
    have R1:=zQY (RT.one (w:=w7) rfl f7.any hr9.any);have HAO:=zQY (hf7.below ((Below.refl _ w7).alloc (zQd _) (.cells #[.slice a7 y.length c7,.slice ay x.2.length cy] 62)));have HAB:=zQY (hb7.alloc hb7.size (.cells #[.slice a7 y.length c7,.slice ay x.2.length cy] 62));clear HTT;go_wp2_with (at_builtin; go_must (refine zCb (W:=w) rfl _ _ rfl rfl HAO.out HAB.out rfl R1.out (by simp; omega) ?_))
    intro v8 w8 f8 b8 _;rw [<-HS2.out] at f8;go_wp2_with fail
    go_roundw
    case rel=>exact ⟨k+1,_,rfl,by omega,by go_num,f8,b8⟩
    case measure=>simp [intOf]; omega
   ·have HTT:=HLT.out;rw [if_neg hlen] at HTT;rw [HTT] at HS2;have i2:¬(x.1.length:Int)<(y.length:Int):=by omega
    have hsh:=zFI hr9 (by omega);have HSI:Hid (InI (shI x.2)∧(shI x.2).length≤62):=zQY ⟨zFG HXI.out,by have:=zCA x.2; omega⟩;clear HTT;go_wp2_with fail
    refine hsh.mono ?_;rintro e w8 ⟨r8,rfl,f8,b8⟩;obtain ⟨a8,c8,rfl⟩:=f8.form;have k0:=(b8.cell (p:=⟨wr.heap.size,0,none⟩) l7).trans k0;have k1:=(b8.cell (p:=⟨wr.heap.size,1,none⟩) l7).trans k1;have l8:wr.heap.size<w8.heap.size:=Nat.lt_of_lt_of_le l7 b8.size;have hb8:=zAA.step hb7 b8;have hf8:=hf7.below b8;have g0:=hr8.below b8;have g1:=hr9.below b8;have f7':=f7.below b8;have HNE:=zQY (hf.ne (b:=wr.heap.size) (.inl (zQd _)));have hsi:=HSI.out.1;have hs28:(shI x.2).length≤8388608:=by have:=HSI.out.2; omega
    have hx28:x.2.length≤8388608:=by omega
    have hsl2:(letL c i (L.take k)).length + [(y,shI x.2),(x.1,subP (shI x.2) x.2)].length≤33554432:=by simp; omega
    clear hsh HLT HOK HPO HST HLN HALL;generalize shI x.2=q at *;go_wp2_with fail
    go_region_held3 (fun w'=>w'.cell? ⟨wr.heap.size,0,none⟩=some (.slice ax x.1.length cx)∧w'.cell? ⟨wr.heap.size,1,none⟩=some (.slice ay x.2.length cy)) (first | go_keep | exact ⟨(b9.cell (p:=⟨wr.heap.size,0,none⟩) l8).trans k0,(b9.cell (p:=⟨wr.heap.size,1,none⟩) l8).trans k1⟩ | exact ⟨gA.cell (zAc ((b9.cell (p:=⟨wr.heap.size,0,none⟩) l8).trans k0) _) HNE.out,gA.cell (zAc ((b9.cell (p:=⟨wr.heap.size,1,none⟩) l8).trans k1) _) HNE.out⟩) (first
     | (go_at_call 47; refine (zG4 f8.any.drew g1.drew hsi hs28 hx28).mono ?_; rintro e w9 ⟨r9,rfl,f9,b9⟩; obtain ⟨a9,c9,e9⟩:=f9.form; subst e9; have bA:Below w8.heap.size w8 w9:=((Below.refl _ w8).drew).trans b9; have hf9:OT w w9 (.slice az2 (letL c i (L.take k)).length cz2) (letL c i (L.take k)):=hf8.below bA; have hb9:=zAA.step hb8 bA; have R2:=zQY (RT.two (w:=w9) rfl (f7'.below bA).any (f8.below bA).any (g0.below bA).any f9.any))
     | (refine zHg (W:=w) (by rfl) _ _ (by rfl) (by rfl) (hf9.below ((Below.refl _ w9).alloc (zQd _) _)) (hb9.alloc hb9.size _) (by rfl) R2.out hsl2 ?_; intro vA wA fA bA2 gA))
    rw [<-HS2.out] at fA;go_wp2_with fail
    go_roundw
    case rel=>exact ⟨k+1,_,rfl,by omega,by go_num,fA,bA2⟩
    case measure=>simp [intOf]; omega
  ·have hkm:k=m:=by omega
   have i1:¬(k:Int)<(m:Int):=by omega
   rw [hkm,HN.out] at hf;have hcol:=zCc hf.read HALL.out.1 HALL.out.2;obtain ⟨az2,cz2,rfl⟩:=hf.form;clear hkm;go_wp2_with fail
   refine hcol.mono ?_;rintro e w9 ⟨r9,rfl,f9,b9⟩;go_wp2_with fail
   go_ret
   exact ⟨_,rfl,f9.mono (fun b hb'=>⟨Nat.le_trans hb.size hb'.1,hb'.2⟩),zAA.step hb b9⟩
theorem zHo {S S':Nat→Prop} {u v:Value} {c:List (List Int)} {i:Int} {L:List Trm} {w:World} (h:RII S w u c) (h':RT S' w v L) (hl:total c≤16777216) (hl':zAI L≤1048576) (hin:∀t∈L,InI t.2) :
  Calls Tryz.prog 56 #[u,.int .i64 i,v] w fun e w'=>∃r,e=.returned (.tuple #[r,.bool (mlB c i L)])∧FT (New w w') w' r (mlR c i L)∧Below w.heap.size w w':=by
 have hH:=zBX h h' hl (by omega);have hP:=fun w1 (b1:Below w.heap.size w w1)=>zFj i (h.below b1);have h0:=h;have h1:=h';obtain ⟨au,cu,rfl⟩:=h.form;obtain ⟨aa,ca,rfl⟩:=h'.form;cases hk:isHk c L with
 | false =>
  have HB:=zQY (zPs (i:=i) hk);rw [hk] at hH;clear hk hP;generalize L.length=m at *;go_enter Tryz.func56,Tryz.ntmps56
  go_wp2_with fail
  refine hH.mono ?_;rintro e w1 ⟨rfl,b1⟩;go_wp2_with fail
  go_ret2
  rw [HB.out.1,HB.out.2];exact ⟨_,rfl,FT.none0 b1,b1.alloc b1.size _⟩
 | true =>
  rw [hk] at hH;cases hk2:ptB c i with
  | false =>
   have HB:=zQY (zPt hk hk2);rw [hk2] at hP;clear hk hk2;generalize L.length=m at *;go_enter Tryz.func56,Tryz.ntmps56
   go_wp2_with fail
   refine hH.mono ?_;rintro e w1 ⟨rfl,b1⟩;go_wp2_with fail
   refine (hP w1 b1).mono ?_;rintro e w2 ⟨rfl,rfl⟩;go_wp2_with fail
   go_ret2
   rw [HB.out.1,HB.out.2];exact ⟨_,rfl,FT.none0 b1,b1.alloc b1.size _⟩
  | true =>
   have HB:=zQY (zPu hk hk2);rw [hk2] at hP;have HK:=zQY (zAZ hk);have HK2:=zQY hk2;have HIN:=zQY hin;have HTOT:Hid (zAI (puts (letL c i L))≤16777216):=zQY (by
    have h1:=zEa c i L;have h3:=(zAZ hk).len;have h2:=(zC4 (L:=letL c i L) (n:=120) (by omega) (fun t ht=>by have:=zFV (zAZ hk) hk2 hin t ht; exact ⟨by omega,by omega⟩)).2.2;omega)
   clear hk hk2 hin hl';generalize hm:L.length=m at *;clear hm;go_enter Tryz.func56,Tryz.ntmps56
   go_wp2_with fail
   refine hH.mono ?_;rintro e w1 ⟨rfl,b1⟩;go_wp2_with fail
   refine (hP w1 b1).mono ?_;rintro e w2 ⟨rfl,rfl⟩;have hlt:=zIT (h0.below b1) (h1.below b1) HK.out HK2.out HIN.out;clear hH hP;go_wp2_with fail
   refine hlt.mono ?_;rintro e w5 ⟨r5,rfl,f5,b5⟩;obtain ⟨a5,c5,rfl,_⟩:=FC.form f5;have b05:=zAA.step b1 b5;have hg:=zD1 (W:=w) (h0.below b05) (f5.mono (fun b hb'=>⟨Nat.le_trans b1.size hb'.1,hb'.2⟩)) b05 hl HTOT.out;go_wp2_with fail
   refine hg.mono ?_;rintro e w9 ⟨a9,c9,rfl,f9,b9⟩;go_wp2_with fail
   go_ret2
   rw [HB.out.1,HB.out.2];exact ⟨_,rfl,f9,b9⟩
end Go.Proofs.YtlchafedbnihoaaGreat
