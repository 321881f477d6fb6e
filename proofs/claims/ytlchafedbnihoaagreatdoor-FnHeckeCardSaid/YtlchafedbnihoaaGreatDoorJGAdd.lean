/- A list of terms that may not be an element, by the program and by the reference. Condition: sizes up to 2^24. -/
import Derived.Test.YtlchafedbnihoaaGreatDoorJGHecke
namespace Go.Proofs.YtlchafedbnihoaaGreatDoor
open Go.RowKit
set_option maxRecDepth 20000
set_option maxHeartbeats 16000000
def gd (c:List (List Int)) (L:List Trm):List Trm:=if isHk c L=true then L else []
theorem zG2 {S:Nat→Prop} {u v:Value} {c:List (List Int)} {L:List Trm} {W w:World} (h:RII S w u c) (hf:FT (New W w) w v L) (hW:Below W.heap.size W w) (hl:total c≤16777216) (hl':zAD L≤16777216) :
  Calls Tryz.prog 54 #[u,v] w fun e w'=>∃a k,e=.returned (.tuple #[.slice a (gd c L).length k,.bool (isHk c L)])∧FT (New W w') w' (.slice a (gd c L).length k) (gd c L)∧Below W.heap.size W w':=by
 have hH:=zA9 h hf.any hl hl';obtain ⟨au,cu,rfl⟩:=h.form;obtain ⟨a,cap,rfl,_⟩:=FC.form hf;have HY:Hid (isHk c L=true→gd c L=L):=zNg (fun h=>by unfold gd; rw [if_pos h]);have HN:Hid (isHk c L=false→gd c L=[]):=zNg (fun h=>by unfold gd; rw [if_neg (by rw [h]; simp)]);generalize hg:gd c L=G at *;clear hg;generalize isHk c L=q at *;cases q
 ·have E0:=zNg (HN.out rfl);go_enter Tryz.func54,Tryz.ntmps54
  go_wp2_with fail
  refine hH.mono ?_;rintro e w1 ⟨rfl,b1⟩;have b2:=zAA.step hW b1;go_wp2_with fail
  go_ret2
  rw [E0.out];exact ⟨_,_,rfl,FT.none0 b2,b2.alloc b2.size _⟩
 ·have E0:=zNg (HY.out rfl);go_enter Tryz.func54,Tryz.ntmps54
  go_wp2_with fail
  refine hH.mono ?_;rintro e w1 ⟨rfl,b1⟩;have b2:=zAA.step hW b1;have hf1:=FC.grow hf b1;go_wp2_with fail
  go_ret2
  rw [E0.out];exact ⟨_,_,rfl,hf1,b2⟩
theorem zEY {S:Nat→Prop} {u v:Value} {c:List (List Int)} {L:List Trm} {W w:World} (h:RII S w u c) (hf:FT (New W w) w v L) (hW:Below W.heap.size W w) (hl:total c≤16777216) (hl':zAD L≤16777216) :
  Calls Tryz.prog 50 #[u,v] w fun e w'=>∃a k,e=.returned (.tuple #[.slice a (gd c L).length k,.bool (isHk c L)])∧FT (New W w') w' (.slice a (gd c L).length k) (gd c L)∧Below W.heap.size W w':=by
 have hH:=zA8 h hf.any hl hl';obtain ⟨au,cu,rfl⟩:=h.form;obtain ⟨a,cap,rfl,_⟩:=FC.form hf;have HY:Hid (isHk c L=true→gd c L=L):=zNg (fun h=>by unfold gd; rw [if_pos h]);have HN:Hid (isHk c L=false→gd c L=[]):=zNg (fun h=>by unfold gd; rw [if_neg (by rw [h]; simp)]);generalize hg:gd c L=G at *;clear hg;generalize isHk c L=q at *;cases q
 ·have E0:=zNg (HN.out rfl);go_enter Tryz.func50,Tryz.ntmps50
  go_wp2_with fail
  refine hH.mono ?_;rintro e w1 ⟨rfl,b1⟩;have b2:=zAA.step hW b1;go_wp2_with fail
  go_ret2
  rw [E0.out];exact ⟨_,_,rfl,FT.none0 b2,b2.alloc b2.size _⟩
 ·have E0:=zNg (HY.out rfl);go_enter Tryz.func50,Tryz.ntmps50
  go_wp2_with fail
  refine hH.mono ?_;rintro e w1 ⟨rfl,b1⟩;have b2:=zAA.step hW b1;have hf1:=FC.grow hf b1;go_wp2_with fail
  go_ret2
  rw [E0.out];exact ⟨_,_,rfl,hf1,b2⟩
def adB (c:List (List Int)) (A B:List Trm):Bool:=isHk c A && (isHk c B && isHk c (puts (A++B)))
def adR (c:List (List Int)) (A B:List Trm):List Trm:=if isHk c A=true then if isHk c B=true then gd c (puts (A++B)) else [] else []
theorem zJP {c:List (List Int)} {A B:List Trm} (h:isHk c A=false):adB c A B=false∧adR c A B=[]:=by unfold adB adR; rw [h]; exact ⟨rfl,rfl⟩
theorem zJQ {c:List (List Int)} {A B:List Trm} (h1:isHk c A=true) (h:isHk c B=false):adB c A B=false∧adR c A B=[]:=by unfold adB adR; rw [h1,h]; exact ⟨rfl,rfl⟩
theorem zJR {c:List (List Int)} {A B:List Trm} (h1:isHk c A=true) (h:isHk c B=true):adB c A B=isHk c (puts (A++B))∧adR c A B=gd c (puts (A++B)):=by unfold adB adR; rw [h1,h]; exact ⟨rfl,rfl⟩
theorem zG1 (c:List (List Int)) (L:List Trm):zAD (gd c L)≤4620:=by
 unfold gd;by_cases h:isHk c L=true
 ·rw [if_pos h]; exact (zAO h).total
 ·rw [if_neg h]; simp [zAD,zAF]
theorem zC0 (c:List (List Int)) (A B:List Trm):zAD (adR c A B)≤4620:=by
 unfold adR;split
 ·split
  ·exact zG1 _ _
  ·simp [zAD,zAF]
 ·simp [zAD,zAF]
theorem zFk {c:List (List Int)} {A B:List Trm} (h1:Hk c A) (h2:Hk c B):(∀t∈A++B,t.1.length≤15∧t.2.length≤61∧Trd t.2)∧(A++B).length≤120:=by
 refine ⟨fun t ht=>?_,by rw [List.length_append]; have:=h1.len; have:=h2.len; omega⟩;rcases List.mem_append.1 ht with ht | ht
 ·exact ⟨(h1.word ht).1,h1.poly t ht,h1.tr t ht⟩
 ·exact ⟨(h2.word ht).1,h2.poly t ht,h2.tr t ht⟩
theorem zFj {A B:List Trm} (h1:∀t∈A,InI t.2) (h2:∀t∈B,InI t.2):∀t∈A++B,InI t.2:=fun t ht=>by
 rcases List.mem_append.1 ht with ht | ht
 ·exact h1 t ht
 ·exact h2 t ht
theorem zBx {L:List Trm} {n:Nat} (hn:L.length≤n) (h:∀t∈L,t.1.length≤31∧t.2.length≤63):(puts L).length≤n∧(∀t∈puts L,t.1.length≤31∧t.2.length≤63)∧zAD (puts L)≤n*95:=by
 obtain ⟨a1,a2⟩:=zCx (A:=31) (B:=63) _ L rfl h;have h1:=zCf a2;have h2:(puts L).length*(1+31+63)≤n*95:=Nat.mul_le_mul (by omega) (by omega);exact ⟨by omega,a2,by omega⟩
structure AddP (D:List Trm):Prop where
 step:∀(k:Nat) (x:Trm),D[k]? = some x→endP x.1 x.2 (putF x.1 x.2 (puts (D.take k)))=puts (D.take (k+1))
 len:∀k,(puts (D.take k)).length≤1000∧∀t∈puts (D.take k),t.1.length≤1048576∧t.2.length≤1048576∧InI t.2
 elt:∀(k:Nat) (x:Trm),D[k]? = some x→x.1.length≤1048576∧x.2.length≤1048576∧InI x.2
theorem zLd {D:List Trm} (hD:D.length≤1000) (h:∀t∈D,t.1.length≤31∧t.2.length≤63∧Trd t.2∧InI t.2):AddP D:=by
 have htk:∀k,∀t∈D.take k,Trd t.2∧InI t.2:=fun k t ht=>(h t (List.mem_of_mem_take ht)).2.2;refine ⟨fun k x hx=>?_,fun k=>?_,fun k x hx=>?_⟩
 ·rw [zF2 (zA1 _ _ rfl (htk k)).1,zKI hx]
 ·have h1:=zBx (L:=D.take k) (n:=1000) (by rw [List.length_take]; exact Nat.le_trans (Nat.min_le_right _ _) hD) (fun t ht=>by have:=h t (List.mem_of_mem_take ht); exact ⟨this.1,this.2.1⟩);exact ⟨h1.1,fun t ht=>by have:=h1.2.1 t ht; exact ⟨by omega,by omega,(zA1 _ _ rfl (htk k)).1.inn t ht⟩⟩
 ·have:=h x (zNi hx);exact ⟨by omega,by omega,this.2.2.2⟩
theorem zDv {S S' S'':Nat→Prop} {u va vb:Value} {c:List (List Int)} {A B:List Trm} {w:World} (h:RII S w u c) (ha:RT S' w va A) (hb:RT S'' w vb B)
  (hl:total c≤16777216) (hlA:zAD A≤1048576) (hlB:zAD B≤1048576) (hiA:∀t∈A,InI t.2) (hiB:∀t∈B,InI t.2) :
  Calls Tryz.prog 19 #[u,va,vb] w fun e w'=>∃r,e=.returned (.tuple #[r,.bool (adB c A B)])∧FT (New w w') w' r (adR c A B)∧Below w.heap.size w w':=by
 have hHA:=zA9 h ha hl (by omega);have hHB:=fun w1 (b1:Below w.heap.size w w1)=>zA9 (h.below b1) (hb.below b1) hl (by omega);have h0:=h;obtain ⟨au,cu,rfl⟩:=h.form;obtain ⟨aa,ca,rfl⟩:=ha.form;obtain ⟨ab,cb,rfl⟩:=hb.form;cases hk:isHk c A with
 | false =>
  have HB:=zNg (zJP (B:=B) hk);rw [hk] at hHA;clear hk hHB;go_enter Tryz.func19,Tryz.ntmps19
  go_wp2_with fail
  refine hHA.mono ?_;rintro e w1 ⟨rfl,b1⟩;go_wp2_with fail
  go_ret2
  rw [HB.out.1,HB.out.2];exact ⟨_,rfl,FT.none0 b1,b1.alloc b1.size _⟩
 | true =>
  rw [hk] at hHA;cases hk2:isHk c B with
  | false =>
   have HB:=zNg (zJQ hk hk2);rw [hk2] at hHB;clear hk hk2;go_enter Tryz.func19,Tryz.ntmps19
   go_wp2_with fail
   refine hHA.mono ?_;rintro e w1 ⟨rfl,b1⟩;go_wp2_with fail
   refine (hHB w1 b1).mono ?_;rintro e w2 ⟨rfl,b2⟩;have b02:=zAA.step b1 b2;go_wp2_with fail
   go_ret2
   rw [HB.out.1,HB.out.2];exact ⟨_,rfl,FT.none0 b02,b02.alloc b02.size _⟩
  | true =>
   have HB:=zNg (zJR hk hk2);rw [hk2] at hHB;have htwo:=zFk (zAO hk) (zAO hk2);have hin:=zFj hiA hiB;have HP:=zNg (zLd (D:=A++B) (by have:=htwo.2; omega) (fun t ht=>by
    have h1:=htwo.1 t ht;exact ⟨by omega,by omega,h1.2.2,hin t ht⟩))
   have HTOT:Hid (zAD (puts (A++B))≤16777216):=zNg (by
    have h2:=(zBx (L:=A++B) (n:=120) htwo.2 (fun t ht=>by have:=htwo.1 t ht; exact ⟨by omega,by omega⟩)).2.2;omega)
   have HAt:Hid (∀(k:Nat) (x:Trm),A[k]? = some x→(A++B)[k]? = some x):=zNg (fun k x hx=>by rw [List.getElem?_append_left (zNj hx).1]; exact hx);have HBt:Hid (∀(k:Nat) (x:Trm),B[k]? = some x→(A++B)[A.length+k]? = some x):=zNg (fun k x hx=>by rw [List.getElem?_append_right (by omega),Nat.add_sub_cancel_left]; exact hx);have HE:Hid ((A++B).take (A.length+B.length)=A++B):=zNg (by rw [<-List.length_append]; exact List.take_of_length_le (zNl _));have H0:Hid (puts ((A++B).take 0)=[]):=zNg rfl;clear htwo hin hiA hiB hk hk2;generalize A++B=D at *;generalize hna:A.length=na at *;generalize hnb:B.length=nb at *;have hlna:na≤1048576:=by rw [<-hna]; unfold zAD at hlA; omega
   have hlnb:nb≤1048576:=by rw [<-hnb]; unfold zAD at hlB; omega
   clear hna hnb hlA hlB;go_enter Tryz.func19,Tryz.ntmps19
   go_wp2_with fail
   refine hHA.mono ?_;rintro e w1 ⟨rfl,b1⟩;go_wp2_with fail
   refine (hHB w1 b1).mono ?_;rintro e w2 ⟨rfl,b2⟩;have b02:=zAA.step b1 b2;clear hHA hHB;go_wp2_with fail
   have f1:FT (New w (w2.alloc (.cells #[] 39))) (w2.alloc (.cells #[] 39)) (.slice (some ⟨w2.heap.size,0,none⟩) 0 0) []:=FT.none0 b02;have b3:Below w.heap.size w (w2.alloc (.cells #[] 39)):=b02.alloc b02.size _;generalize w2.alloc (.cells #[] 39)=w3 at *;rw [<-H0.out] at f1;go_loopw [8,9] (fun zz j wr=>∃(k:Nat) (zv:Value),zv=zz∧k≤na∧j=.int .i64 k∧FT (New w wr) wr zv (puts (D.take k))∧Below w.heap.size w wr) (fun _ j _=>na-(intOf j).toNat)
   case atStart=>exact ⟨0,_,rfl,Nat.zero_le _,rfl,f1,b3⟩
   case round =>
    obtain ⟨k,zv,rfl,hk,rfl,hf,hbb⟩:=hrel;by_cases h1:k<na
    ·obtain ⟨b,o,r,r',x,e8,hc,hc',⟨hr,hr'⟩,hx⟩:=ha.at h1;subst e8;obtain ⟨ax,cx,rfl⟩:=hr.form;obtain ⟨ay,cy,rfl⟩:=hr'.form;have i1:(k:Int)<(na:Int):=by omega
     have lb0:b<w.heap.size:=zNk w _ hc;have hcr:=(hbb.cell (p:=⟨b,o+k*2,none⟩) lb0).trans hc;have hcr':=(hbb.cell (p:=⟨b,o+k*2+1,none⟩) lb0).trans hc';have lbr:b<wr.heap.size:=Nat.lt_of_lt_of_le lb0 hbb.size;have hr2:=hr.below hbb;have hr2':=hr'.below hbb;have hD:=HAt.out k x hx.out;have HS2:=zNg (HP.out.step k x hD);obtain ⟨hx1,hx2,hx3⟩:=HP.out.elt k x hD;have hL2:=HP.out.len k;have hL0:(puts (D.take k)).length≤1048576:=by omega
     obtain ⟨az2,cz2,e2,_⟩:=FC.form hf;subst e2;have hfr:=hf.read.below ((Below.refl _ wr).drew);clear hD hx;go_wp2_with fail
     go_region_held3 (fun w'=>w'.cell? ⟨b,o+k*2,none⟩=some (.slice ax x.1.length cx)∧w'.cell? ⟨b,o+k*2+1,none⟩=some (.slice ay x.2.length cy)) (first | go_keep | exact ⟨(b5.cell (p:=⟨b,o+k*2,none⟩) lbr).trans hcr,(b5.cell (p:=⟨b,o+k*2+1,none⟩) lbr).trans hcr'⟩) (first
      | (go_at_call 53; refine (zCV hfr hr2.drew hr2'.drew hL0 hL2.2 hx1 hx2 hx3).mono ?_; rintro e w5 ⟨r5,rfl,f5,b5⟩))
     rw [HS2.out] at f5;have hbd:=zAA.step hbb.drew b5;go_wp2_with fail
     go_roundw
     case rel=>exact ⟨k+1,_,rfl,by omega,by go_num,f5.mono (fun b hb'=>⟨Nat.le_trans hbb.size hb'.1,hb'.2⟩),hbd⟩
     case measure=>simp [intOf]; omega
    ·have hkm:k=na:=by omega
     have i1:¬(k:Int)<(na:Int):=by omega
     have hf:FT (New w wr) wr zv (puts (D.take (na+0))):=by rw [Nat.add_zero,<-hkm]; exact hf
     clear hkm;go_wp2_with fail
     go_loopw [8,10] (fun zz j wr=>∃(k:Nat) (zv:Value),zv=zz∧k≤nb∧j=.int .i64 k∧FT (New w wr) wr zv (puts (D.take (na+k)))∧Below w.heap.size w wr) (fun _ j _=>nb-(intOf j).toNat)
     case atStart=>exact ⟨0,_,rfl,Nat.zero_le _,rfl,hf,hbb⟩
     case round =>
      obtain ⟨k2,zv,rfl,hk2,rfl,hf,hbb⟩:=hrel;by_cases h2:k2<nb
      ·obtain ⟨b,o,r,r',x,e8,hc,hc',⟨hr,hr'⟩,hx⟩:=hb.at h2;subst e8;obtain ⟨ax,cx,rfl⟩:=hr.form;obtain ⟨ay,cy,rfl⟩:=hr'.form;have i2:(k2:Int)<(nb:Int):=by omega
       have lb0:b<w.heap.size:=zNk w _ hc;have hcr:=(hbb.cell (p:=⟨b,o+k2*2,none⟩) lb0).trans hc;have hcr':=(hbb.cell (p:=⟨b,o+k2*2+1,none⟩) lb0).trans hc';have hr2:=hr.below hbb;have hr2':=hr'.below hbb;have hD:=HBt.out k2 x hx.out;have HS2:=zNg (HP.out.step (na+k2) x hD);obtain ⟨hx1,hx2,hx3⟩:=HP.out.elt (na+k2) x hD;have hL2:=HP.out.len (na+k2);have hL0:(puts (D.take (na+k2))).length≤1048576:=by omega
       obtain ⟨az2,cz2,e2,_⟩:=FC.form hf;subst e2;have lbr:b<wr.heap.size:=Nat.lt_of_lt_of_le lb0 hbb.size;have hfr:=hf.read.below ((Below.refl _ wr).drew);clear hD hx;go_wp2_with fail
       go_region_held3 (fun w'=>w'.cell? ⟨b,o+k2*2,none⟩=some (.slice ax x.1.length cx)∧w'.cell? ⟨b,o+k2*2+1,none⟩=some (.slice ay x.2.length cy)) (first | go_keep | exact ⟨(b5.cell (p:=⟨b,o+k2*2,none⟩) lbr).trans hcr,(b5.cell (p:=⟨b,o+k2*2+1,none⟩) lbr).trans hcr'⟩) (first
        | (go_at_call 53; refine (zCV hfr hr2.drew hr2'.drew hL0 hL2.2 hx1 hx2 hx3).mono ?_; rintro e w5 ⟨r5,rfl,f5,b5⟩))
       rw [HS2.out] at f5;have hbd:=zAA.step hbb.drew b5;go_wp2_with fail
       go_roundw
       case rel=>exact ⟨k2+1,_,rfl,by omega,by go_num,f5.mono (fun b hb'=>⟨Nat.le_trans hbb.size hb'.1,hb'.2⟩),hbd⟩
       case measure=>simp [intOf]; omega
      ·have hkm:k2=nb:=by omega
       have i2:¬(k2:Int)<(nb:Int):=by omega
       rw [hkm,HE.out] at hf;clear hkm;have hg:=zG2 (h0.below hbb) hf hbb hl HTOT.out;go_wp2_with fail
       refine hg.mono ?_;rintro e w9 ⟨a9,c9,rfl,f9,b9⟩;go_wp2_with fail
       go_ret2
       rw [HB.out.1,HB.out.2];exact ⟨_,rfl,f9,b9⟩
theorem zJm:Tryz.prog.underlying 3=some (.int .i64):=by kernel_rfl
theorem zNY {W w:World} {n:Nat} (hW:Below W.heap.size W w) (hn:n≤4194304) :
  Calls Tryz.prog 97 #[.slice none 0 0,.int .i64 n] w fun e w'=>∃a c,e=.returned (.slice a 0 c)∧OT W w' (.slice a 0 c) []∧Below W.heap.size W w':=by
 by_cases h0:n=0
 ·subst h0;go_enter Tryz.func97,Tryz.ntmps97
  go_wp2_with fail
  go_ret
  exact ⟨_,_,rfl,OT.nil _ _,hW⟩
 ·have h1:0<n:=by omega
  have i1:¬(n:Int)<0:=by omega
  have i2:(0:Int)<(n:Int):=by omega
  obtain ⟨i0,hi,hz0,hz1,hz2⟩:=info_parts zCu;have hrun:=fun (w:World)=>Lib.run_append_nil_zeros w 25 3 25 39 i0 (.agg #[.slice none 0 0,.slice none 0 0]) .i64 .i64 Tryz.underlying25 zJm hi hz0 n h1 (by rw [hz1]; decide) (by omega) (by rw [hz2]; omega);go_enter Tryz.func97,Tryz.ntmps97
  go_wp2_with (at_builtin; go_must (refine Lib.wpList_append_run _ rfl _ _ _ _ rfl _ _ rfl rfl _ _ (hrun _) ?_))
  have hcap:n≤grownCap w n 0 39:=grownCap_ge _ _ _ _;have hmax:grownCap w n 0 39≤maxLen:=grownCap_le_maxLen _ _ _ _ (by unfold maxLen; omega);have hot:OT W ((w.alloc (.cells (Builtin.zeroCells #[.slice none 0 0,.slice none 0 0] n++Builtin.zeroCells #[.slice none 0 0,.slice none 0 0] (grownCap w n 0 39-n)) 39)).drew) (.slice (some ⟨w.heap.size,0,none⟩) 0 (grownCap w n 0 39)) [] :=
   ⟨[],rfl,(World.ownsRow_made w _ _ hW.size hmax (by simp [Builtin.zeroCells]; omega)).drew,fun e he=>by simp at he⟩
  have hb:Below W.heap.size W ((w.alloc (.cells (Builtin.zeroCells #[.slice none 0 0,.slice none 0 0] n++Builtin.zeroCells #[.slice none 0 0,.slice none 0 0] (grownCap w n 0 39-n)) 39)).drew):=(hW.alloc hW.size _).drew;generalize grownCap w n 0 39=cp at *;clear hrun;go_wp2_with fail
  go_ret
  exact ⟨_,_,rfl,hot,hb⟩
theorem zLx {S S':Nat→Prop} {g:Nat} {va vb:Value} {A B:List Trm} {w:World} (ha:RT S w va A) (hb:RT S' w vb B) (hc0:w.cell? ⟨g,0,none⟩=some va) (hc1:w.cell? ⟨g,1,none⟩=some vb)
  (hA:A.length≤1048576) (hB:B.length≤1048576) :
  Calls Tryz.prog 52 #[.slice (some ⟨g,0,none⟩) 2 2] w fun e w'=>∃r,e=.returned r∧OT w w' r (A++B)∧Below w.heap.size w w':=by
 obtain ⟨aa,ca,rfl⟩:=ha.form;obtain ⟨ab,cb,rfl⟩:=hb.form;have lg:=zNk w _ hc0;have HNA:Hid (A.length=A.length):=zNg rfl;generalize hna:A.length=na at *;have HA:=zNg hna;clear hna HNA;generalize hnb:B.length=nb at *;have HB:=zNg hnb;clear hnb;obtain ⟨cat,hcat⟩:∃cat:Nat→List Trm,cat=fun k=>if k=0 then [] else if k=1 then A else A++B:=⟨_,rfl⟩
 have HC0:Hid (cat 0=[]):=zNg (by rw [hcat]; rfl);have HC1:Hid (cat 1=A∧cat 0++A=cat 1):=zNg (by rw [hcat]; exact ⟨rfl,rfl⟩);have HC2:Hid (cat 2=A++B∧cat 1++B=cat 2):=zNg (by rw [hcat]; exact ⟨rfl,rfl⟩);clear hcat;obtain ⟨sz,hsz⟩:∃sz:Nat→Nat,sz=fun k=>if k=0 then 0 else if k=1 then na else na+nb:=⟨_,rfl⟩
 have HS0:Hid (sz 0=0):=zNg (by rw [hsz]; rfl);have HS1:Hid (sz 1=na):=zNg (by rw [hsz]; rfl);have HS2:Hid (sz 2=na+nb):=zNg (by rw [hsz]; rfl);clear hsz;go_enter Tryz.func52,Tryz.ntmps52
 go_wp2_with fail
 go_loopw [3,11] (fun s i wr=>∃k q:Nat,k≤2∧i=.int .i64 k∧s=.int .i64 q∧Hid (sz k=q)∧Below w.heap.size w wr) (fun _ i _=>2-(intOf i).toNat)
 case atStart=>exact ⟨0,0,by omega,rfl,rfl,HS0,Below.refl _ _⟩
 case round =>
  obtain ⟨k,q,hk,rfl,rfl,HQ,hw0⟩:=hrel;by_cases h0:k=0
  ·subst h0;have hq:q=0:=by rw [<-HQ.out,HS0.out]
   subst hq;have i1:¬(na:Int)<0:=by omega
   have k0:=(hw0.cell (p:=⟨g,0,none⟩) lg).trans hc0;go_wp2_with fail
   go_roundw
   case rel=>exact ⟨1,na,by omega,rfl,by go_num,HS1,hw0⟩
   case measure=>simp [intOf]
  ·by_cases h1:k=1
   ·subst h1;have hq:q=na:=by rw [<-HQ.out,HS1.out]
    subst hq;have i1:¬(q:Int)+(nb:Int)<0:=by omega
    have k1:=(hw0.cell (p:=⟨g,1,none⟩) lg).trans hc1;go_wp2_with fail
    go_roundw
    case rel=>exact ⟨2,q+nb,by omega,rfl,by go_num,HS2,hw0⟩
    case measure=>simp [intOf]
   ·have hk2:k=2:=by omega
    subst hk2;have hq:q≤4194304:=by rw [<-HQ.out,HS2.out]; omega
    go_wp2_with fail
    refine (zNY (W:=w) hw0 hq).mono ?_;rintro e w1 ⟨a1,c1,rfl,f1,b1⟩;rw [<-HC0.out] at f1;go_wp2_with fail
    go_loopw [6,27] (fun z i w2=>∃(k:Nat) (zv:Value),zv=z∧k≤2∧i=.int .i64 k∧OT w w2 zv (cat k)∧Below w.heap.size w w2) (fun _ i _=>2-(intOf i).toNat)
    case atStart=>exact ⟨0,_,rfl,by omega,rfl,f1,b1⟩
    case round =>
     obtain ⟨k,zv,rfl,hk,rfl,hf,hbb⟩:=hrel;by_cases h0:k=0
     ·subst h0;have k0:=(hbb.cell (p:=⟨g,0,none⟩) lg).trans hc0;rw [HC0.out] at hf;obtain ⟨az,cz,rfl⟩:=hf.form;have hra:=ha.below hbb;go_wp2_with (at_builtin; go_must (refine zCb (W:=w) rfl _ _ rfl rfl hf hbb rfl hra (by have:=HA.out; simp; omega) ?_))
      intro v' w' f2 b2 _;rw [<-HC1.out.1] at f2;go_wp2_with fail
      go_roundw
      case rel=>exact ⟨1,_,rfl,by omega,rfl,f2,b2⟩
      case measure=>simp [intOf]
     ·by_cases h1:k=1
      ·subst h1;have k1:=(hbb.cell (p:=⟨g,1,none⟩) lg).trans hc1;have hf0:=hf;rw [HC1.out.1] at hf0;obtain ⟨az,cz,rfl⟩:=hf0.form;have hrb:=hb.below hbb;go_wp2_with (at_builtin; go_must (refine zCb (W:=w) rfl _ _ rfl rfl hf0 hbb rfl hrb (by rw [HA.out,HB.out]; omega) ?_))
       intro v' w' f2 b2 _;rw [<-HC2.out.1] at f2;go_wp2_with fail
       go_roundw
       case rel=>exact ⟨2,_,rfl,by omega,rfl,f2,b2⟩
       case measure=>simp [intOf]
      ·have hk2:k=2:=by omega
       subst hk2;rw [HC2.out.1] at hf;go_wp2_with fail
       go_ret
       exact ⟨_,rfl,hf,hbb⟩
theorem zDu {S S' S'':Nat→Prop} {u va vb:Value} {c:List (List Int)} {A B:List Trm} {w:World} (h:RII S w u c) (ha:RT S' w va A) (hb:RT S'' w vb B)
  (hl:total c≤16777216) (hlA:zAD A≤1048576) (hlB:zAD B≤1048576) (hiA:∀t∈A,InI t.2) (hiB:∀t∈B,InI t.2) :
  Calls Tryz.prog 18 #[u,va,vb] w fun e w'=>∃r,e=.returned (.tuple #[r,.bool (adB c A B)])∧FT (New w w') w' r (adR c A B)∧Below w.heap.size w w':=by
 have hHA:=zA8 h ha hl (by omega);have hHB:=fun w1 (b1:Below w.heap.size w w1)=>zA8 (h.below b1) (hb.below b1) hl (by omega);have h0:=h;obtain ⟨au,cu,rfl⟩:=h.form;obtain ⟨aa,ca,rfl⟩:=ha.form;obtain ⟨ab,cb,rfl⟩:=hb.form;cases hk:isHk c A with
 | false =>
  have HB:=zNg (zJP (B:=B) hk);rw [hk] at hHA;clear hk hHB;go_enter Tryz.func18,Tryz.ntmps18
  go_wp2_with fail
  refine hHA.mono ?_;rintro e w1 ⟨rfl,b1⟩;go_wp2_with fail
  go_ret2
  rw [HB.out.1,HB.out.2];exact ⟨_,rfl,FT.none0 b1,b1.alloc b1.size _⟩
 | true =>
  rw [hk] at hHA;cases hk2:isHk c B with
  | false =>
   have HB:=zNg (zJQ hk hk2);rw [hk2] at hHB;clear hk hk2;go_enter Tryz.func18,Tryz.ntmps18
   go_wp2_with fail
   refine hHA.mono ?_;rintro e w1 ⟨rfl,b1⟩;go_wp2_with fail
   refine (hHB w1 b1).mono ?_;rintro e w2 ⟨rfl,b2⟩;have b02:=zAA.step b1 b2;go_wp2_with fail
   go_ret2
   rw [HB.out.1,HB.out.2];exact ⟨_,rfl,FT.none0 b02,b02.alloc b02.size _⟩
  | true =>
   have HB:=zNg (zJR hk hk2);rw [hk2] at hHB;have htwo:=zFk (zAO hk) (zAO hk2);have hin:=zFj hiA hiB;have HD:Hid ((A++B).length≤1048576∧∀t∈A++B,t.1.length≤1048576∧t.2.length≤1048576∧Trd t.2∧InI t.2):=zNg ⟨by have:=htwo.2; omega,fun t ht=>by
    have h1:=htwo.1 t ht;exact ⟨by omega,by omega,h1.2.2,hin t ht⟩⟩
   have HTOT:Hid (zAD (puts (A++B))≤16777216):=zNg (by
    have h2:=(zBx (L:=A++B) (n:=120) htwo.2 (fun t ht=>by have:=htwo.1 t ht; exact ⟨by omega,by omega⟩)).2.2;omega)
   have hlna:A.length≤1048576:=by unfold zAD at hlA; omega
   have hlnb:B.length≤1048576:=by unfold zAD at hlB; omega
   clear htwo hin hiA hiB hk hk2 hlA hlB;generalize hD:A++B=D at *;have HDD:Hid (A++B=D):=zNg hD;clear hD;generalize hna:A.length=na at *;have HNA:=zNg hna;generalize hnb:B.length=nb at *;have HNB:=zNg hnb;clear hna hnb;go_enter Tryz.func18,Tryz.ntmps18
   go_wp2_with fail
   refine hHA.mono ?_;rintro e w1 ⟨rfl,b1⟩;go_wp2_with fail
   refine (hHB w1 b1).mono ?_;rintro e w2 ⟨rfl,b2⟩;have b02:=zAA.step b1 b2;clear hHA hHB;obtain ⟨w3,hw3⟩:∃w3,w3=w2.alloc (.cells #[.slice aa na ca,.slice ab nb cb] 25):=⟨_,rfl⟩;have b3:Below w2.heap.size w2 w3:=by rw [hw3]; exact (Below.refl _ w2).alloc (zNl _) _
   have k0:w3.cell? ⟨w2.heap.size,0,none⟩=some (.slice aa na ca):=by rw [hw3]; go_simp
   have k1:w3.cell? ⟨w2.heap.size,1,none⟩=some (.slice ab nb cb):=by rw [hw3]; go_simp
   have b03:=zAA.step b02 b3;have hcc:=zLx (ha.below b03) (hb.below b03) k0 k1 (by rw [HNA.out]; exact hlna) (by rw [HNB.out]; exact hlnb);rw [HDD.out] at hcc;go_wp2_with fail
   rw [<-hw3];clear hw3;refine hcc.mono ?_;rintro e w4 ⟨r4,rfl,f4,b4⟩;obtain ⟨a4,c4,rfl⟩:=f4.form;have b04:=zAA.step b03 b4;have hcol:=zCh f4.read HD.out.1 HD.out.2;go_wp2_with fail
   refine hcol.mono ?_;rintro e w5 ⟨r5,rfl,f5,b5⟩;obtain ⟨a5,c5,rfl,_⟩:=FC.form f5;have b05:=zAA.step b04 b5;have hg:=zEY (W:=w) (h0.below b05) (f5.mono (fun b hb'=>⟨Nat.le_trans b04.size hb'.1,hb'.2⟩)) b05 hl HTOT.out;go_wp2_with fail
   refine hg.mono ?_;rintro e w9 ⟨a9,c9,rfl,f9,b9⟩;go_wp2_with fail
   go_ret2
   rw [HB.out.1,HB.out.2];exact ⟨_,rfl,f9,b9⟩
end Go.Proofs.YtlchafedbnihoaaGreatDoor
