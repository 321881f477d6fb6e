/- A list of terms that may not be an element, by the program and by the reference. Condition: sizes up to 2^24. -/
import Derived.Test.YtlchafedbnihoaaGreatJGHecke
namespace Go.Proofs.YtlchafedbnihoaaGreat
open Go.RowKit
set_option maxRecDepth 20000
set_option maxHeartbeats 8000000
def gd (c:List (List Int)) (L:List Trm):List Trm:=if isHk c L=true then L else []
theorem zMj {S:Nat→Prop} {u v:Value} {c:List (List Int)} {L:List Trm} {W w:World} (h:RII S w u c) (hf:FT (New W w) w v L) (hW:Below W.heap.size W w) (hl:total c≤16777216) (hl':zAI L≤16777216) :
  Calls Tryz.prog 53 #[u,v] w fun e w'=>∃a k,e=.returned (.tuple #[.slice a (gd c L).length k,.bool (isHk c L)])∧FT (New W w') w' (.slice a (gd c L).length k) (gd c L)∧Below W.heap.size W w':=by
 have hH:=zD3 h hf.any hl hl';obtain ⟨au,cu,rfl⟩:=h.form;obtain ⟨a,cap,rfl,_⟩:=FC.form hf;have HY:Hid (isHk c L=true→gd c L=L):=zQY (fun h=>by unfold gd; rw [if_pos h]);have HN:Hid (isHk c L=false→gd c L=[]):=zQY (fun h=>by unfold gd; rw [if_neg (by rw [h]; simp)]);generalize hg:gd c L=G at *;clear hg;generalize isHk c L=q at *;cases q
 ·have E0:=zQY (HN.out rfl);go_enter Tryz.func53,Tryz.ntmps53
  go_wp2_with fail
  refine hH.mono ?_;rintro e w1 ⟨rfl,b1⟩;have b2:=zAA.step hW b1;go_wp2_with fail
  go_ret2
  rw [E0.out];exact ⟨_,_,rfl,FT.none0 b2,b2.alloc b2.size _⟩
 ·have E0:=zQY (HY.out rfl);go_enter Tryz.func53,Tryz.ntmps53
  go_wp2_with fail
  refine hH.mono ?_;rintro e w1 ⟨rfl,b1⟩;have b2:=zAA.step hW b1;have hf1:=FC.grow hf b1;go_wp2_with fail
  go_ret2
  rw [E0.out];exact ⟨_,_,rfl,hf1,b2⟩
theorem zD1 {S:Nat→Prop} {u v:Value} {c:List (List Int)} {L:List Trm} {W w:World} (h:RII S w u c) (hf:FT (New W w) w v L) (hW:Below W.heap.size W w) (hl:total c≤16777216) (hl':zAI L≤16777216) :
  Calls Tryz.prog 48 #[u,v] w fun e w'=>∃a k,e=.returned (.tuple #[.slice a (gd c L).length k,.bool (isHk c L)])∧FT (New W w') w' (.slice a (gd c L).length k) (gd c L)∧Below W.heap.size W w':=by
 have hH:=zBX h hf.any hl hl';obtain ⟨au,cu,rfl⟩:=h.form;obtain ⟨a,cap,rfl,_⟩:=FC.form hf;have HY:Hid (isHk c L=true→gd c L=L):=zQY (fun h=>by unfold gd; rw [if_pos h]);have HN:Hid (isHk c L=false→gd c L=[]):=zQY (fun h=>by unfold gd; rw [if_neg (by rw [h]; simp)]);generalize hg:gd c L=G at *;clear hg;generalize isHk c L=q at *;cases q
 ·have E0:=zQY (HN.out rfl);go_enter Tryz.func48,Tryz.ntmps48
  go_wp2_with fail
  refine hH.mono ?_;rintro e w1 ⟨rfl,b1⟩;have b2:=zAA.step hW b1;go_wp2_with fail
  go_ret2
  rw [E0.out];exact ⟨_,_,rfl,FT.none0 b2,b2.alloc b2.size _⟩
 ·have E0:=zQY (HY.out rfl);go_enter Tryz.func48,Tryz.ntmps48
  go_wp2_with fail
  refine hH.mono ?_;rintro e w1 ⟨rfl,b1⟩;have b2:=zAA.step hW b1;have hf1:=FC.grow hf b1;go_wp2_with fail
  go_ret2
  rw [E0.out];exact ⟨_,_,rfl,hf1,b2⟩
def adB (c:List (List Int)) (A B:List Trm):Bool:=isHk c A && (isHk c B && isHk c (puts (A++B)))
def adR (c:List (List Int)) (A B:List Trm):List Trm:=if isHk c A=true then if isHk c B=true then gd c (puts (A++B)) else [] else []
theorem zPM {c:List (List Int)} {A B:List Trm} (h:isHk c A=false):adB c A B=false∧adR c A B=[]:=by unfold adB adR; rw [h]; exact ⟨rfl,rfl⟩
theorem zPN {c:List (List Int)} {A B:List Trm} (h1:isHk c A=true) (h:isHk c B=false):adB c A B=false∧adR c A B=[]:=by unfold adB adR; rw [h1,h]; exact ⟨rfl,rfl⟩
theorem zPO {c:List (List Int)} {A B:List Trm} (h1:isHk c A=true) (h:isHk c B=true):adB c A B=isHk c (puts (A++B))∧adR c A B=gd c (puts (A++B)):=by unfold adB adR; rw [h1,h]; exact ⟨rfl,rfl⟩
theorem zIN (c:List (List Int)) (L:List Trm):zAI (gd c L)≤4620:=by
 unfold gd;by_cases h:isHk c L=true
 ·rw [if_pos h]; exact (zAZ h).total
 ·rw [if_neg h]; simp [zAI,zAK]
theorem zHB (c:List (List Int)) (A B:List Trm):zAI (adR c A B)≤4620:=by
 unfold adR;split
 ·split
  ·exact zIN _ _
  ·simp [zAI,zAK]
 ·simp [zAI,zAK]
theorem zJD {c:List (List Int)} {A B:List Trm} (h1:Hk c A) (h2:Hk c B):(∀t∈A++B,t.1.length≤15∧t.2.length≤61∧Trd t.2)∧(A++B).length≤120:=by
 refine ⟨fun t ht=>?_,by rw [List.length_append]; have:=h1.len; have:=h2.len; omega⟩;rcases List.mem_append.1 ht with ht | ht
 ·exact ⟨(h1.word ht).1,h1.poly t ht,h1.tr t ht⟩
 ·exact ⟨(h2.word ht).1,h2.poly t ht,h2.tr t ht⟩
theorem zJC {A B:List Trm} (h1:∀t∈A,InI t.2) (h2:∀t∈B,InI t.2):∀t∈A++B,InI t.2:=fun t ht=>by
 rcases List.mem_append.1 ht with ht | ht
 ·exact h1 t ht
 ·exact h2 t ht
theorem zC4 {L:List Trm} {n:Nat} (hn:L.length≤n) (h:∀t∈L,t.1.length≤31∧t.2.length≤63):(puts L).length≤n∧(∀t∈puts L,t.1.length≤31∧t.2.length≤63)∧zAI (puts L)≤n*95:=by
 obtain ⟨a1,a2⟩:=zEh (A:=31) (B:=63) _ L rfl h;have h1:=zD0 a2;have h2:(puts L).length*(1+31+63)≤n*95:=Nat.mul_le_mul (by omega) (by omega);exact ⟨by omega,a2,by omega⟩
structure AddP (D:List Trm):Prop where
 step:∀(k:Nat) (x:Trm),D[k]? = some x→endP x.1 x.2 (putF x.1 x.2 (puts (D.take k)))=puts (D.take (k+1))
 len:∀k,(puts (D.take k)).length≤1000∧∀t∈puts (D.take k),t.1.length≤1048576∧t.2.length≤1048576∧InI t.2
 elt:∀(k:Nat) (x:Trm),D[k]? = some x→x.1.length≤1048576∧x.2.length≤1048576∧InI x.2
theorem zNk {D:List Trm} (hD:D.length≤1000) (h:∀t∈D,t.1.length≤31∧t.2.length≤63∧Trd t.2∧InI t.2):AddP D:=by
 have htk:∀k,∀t∈D.take k,Trd t.2∧InI t.2:=fun k t ht=>(h t (List.mem_of_mem_take ht)).2.2;refine ⟨fun k x hx=>?_,fun k=>?_,fun k x hx=>?_⟩
 ·rw [zJ1 (zBD _ _ rfl (htk k)).1,zL2 hx]
 ·have h1:=zC4 (L:=D.take k) (n:=1000) (by rw [List.length_take]; exact Nat.le_trans (Nat.min_le_right _ _) hD) (fun t ht=>by have:=h t (List.mem_of_mem_take ht); exact ⟨this.1,this.2.1⟩);exact ⟨h1.1,fun t ht=>by have:=h1.2.1 t ht; exact ⟨by omega,by omega,(zBD _ _ rfl (htk k)).1.inn t ht⟩⟩
 ·have:=h x (zQa hx);exact ⟨by omega,by omega,this.2.2.2⟩
theorem zLS:Tryz.prog.underlying 3=some (.int .i64):=by kernel_rfl
theorem zQN {W w:World} {n:Nat} (hW:Below W.heap.size W w) (hn:n≤4194304) :
  Calls Tryz.prog 117 #[.slice none 0 0,.int .i64 n] w fun e w'=>∃a c,e=.returned (.slice a 0 c)∧OT W w' (.slice a 0 c) []∧Below W.heap.size W w':=by
 by_cases h0:n=0
 ·subst h0;go_enter Tryz.func117,Tryz.ntmps117
  go_wp2_with fail
  go_ret
  exact ⟨_,_,rfl,OT.nil _ _,hW⟩
 ·have h1:0<n:=by omega
  have i1:¬(n:Int)<0:=by omega
  have i2:(0:Int)<(n:Int):=by omega
  obtain ⟨i0,hi,hz0,hz1,hz2⟩:=info_parts zDk;have hrun:=fun (w:World)=>Lib.run_append_nil_zeros w 39 3 39 62 i0 (.agg #[.slice none 0 0,.slice none 0 0]) .i64 .i64 Tryz.underlying39 zLS hi hz0 n h1 (by rw [hz1]; decide) (by omega) (by rw [hz2]; omega);go_enter Tryz.func117,Tryz.ntmps117
  go_wp2_with (at_builtin; go_must (refine Lib.wpList_append_run _ rfl _ _ _ _ rfl _ _ rfl rfl _ _ (hrun _) ?_))
  have hcap:n≤grownCap w n 0 62:=grownCap_ge _ _ _ _;have hmax:grownCap w n 0 62≤maxLen:=grownCap_le_maxLen _ _ _ _ (by unfold maxLen; omega);have hot:OT W ((w.alloc (.cells (Builtin.zeroCells #[.slice none 0 0,.slice none 0 0] n++Builtin.zeroCells #[.slice none 0 0,.slice none 0 0] (grownCap w n 0 62-n)) 62)).drew) (.slice (some ⟨w.heap.size,0,none⟩) 0 (grownCap w n 0 62)) [] :=
   ⟨[],rfl,(World.ownsRow_made w _ _ hW.size hmax (by simp [Builtin.zeroCells]; omega)).drew,fun e he=>by simp at he⟩
  have hb:Below W.heap.size W ((w.alloc (.cells (Builtin.zeroCells #[.slice none 0 0,.slice none 0 0] n++Builtin.zeroCells #[.slice none 0 0,.slice none 0 0] (grownCap w n 0 62-n)) 62)).drew):=(hW.alloc hW.size _).drew;generalize grownCap w n 0 62=cp at *;clear hrun;go_wp2_with fail
  go_ret
  exact ⟨_,_,rfl,hot,hb⟩
theorem zN6 {S S':Nat→Prop} {g:Nat} {va vb:Value} {A B:List Trm} {w:World} (ha:RT S w va A) (hb:RT S' w vb B) (hc0:w.cell? ⟨g,0,none⟩=some va) (hc1:w.cell? ⟨g,1,none⟩=some vb)
  (hA:A.length≤1048576) (hB:B.length≤1048576) :
  Calls Tryz.prog 101 #[.slice (some ⟨g,0,none⟩) 2 2] w fun e w'=>∃r,e=.returned r∧OT w w' r (A++B)∧Below w.heap.size w w':=by
 obtain ⟨aa,ca,rfl⟩:=ha.form;obtain ⟨ab,cb,rfl⟩:=hb.form;have lg:=zQc w _ hc0;have HNA:Hid (A.length=A.length):=zQY rfl;generalize hna:A.length=na at *;have HA:=zQY hna;clear hna HNA;generalize hnb:B.length=nb at *;have HB:=zQY hnb;clear hnb;obtain ⟨cat,hcat⟩:∃cat:Nat→List Trm,cat=fun k=>if k=0 then [] else if k=1 then A else A++B:=⟨_,rfl⟩
 have HC0:Hid (cat 0=[]):=zQY (by rw [hcat]; rfl);have HC1:Hid (cat 1=A∧cat 0++A=cat 1):=zQY (by rw [hcat]; exact ⟨rfl,rfl⟩);have HC2:Hid (cat 2=A++B∧cat 1++B=cat 2):=zQY (by rw [hcat]; exact ⟨rfl,rfl⟩);clear hcat;obtain ⟨sz,hsz⟩:∃sz:Nat→Nat,sz=fun k=>if k=0 then 0 else if k=1 then na else na+nb:=⟨_,rfl⟩
 have HS0:Hid (sz 0=0):=zQY (by rw [hsz]; rfl);have HS1:Hid (sz 1=na):=zQY (by rw [hsz]; rfl);have HS2:Hid (sz 2=na+nb):=zQY (by rw [hsz]; rfl);clear hsz;go_enter Tryz.func101,Tryz.ntmps101
 go_wp2_with fail
 go_loopw [3,11] (fun s i wr=>∃k q:Nat,k≤2∧i=.int .i64 k∧s=.int .i64 q∧Hid (sz k=q)∧Below w.heap.size w wr) (fun _ i _=>2-(intOf i).toNat)
 case atStart=>exact ⟨0,0,by omega,rfl,rfl,HS0,Below.refl _ _⟩
 case round =>
  obtain ⟨k,q,hk,rfl,rfl,HQ,hw0⟩:=hrel;by_cases h0:k=0
  ·subst h0;have hq:q=0:=by rw [<-HQ.out,HS0.out]
   subst hq;have i1:¬(na:Int)<0:=by omega
   have k0:=(hw0.cell (p:=⟨g,0,none⟩) lg).trans hc0;go_wp2_with fail
   go_roundw
   case rel=>exact ⟨1,na,by omega,rfl,by go_num,HS1,hw0⟩
   case measure=>simp [intOf]
  ·by_cases h1:k=1
   ·subst h1;have hq:q=na:=by rw [<-HQ.out,HS1.out]
    subst hq;have i1:¬(q:Int)+(nb:Int)<0:=by omega
    have k1:=(hw0.cell (p:=⟨g,1,none⟩) lg).trans hc1;go_wp2_with fail
    go_roundw
    case rel=>exact ⟨2,q+nb,by omega,rfl,by go_num,HS2,hw0⟩
    case measure=>simp [intOf]
   ·have hk2:k=2:=by omega
    subst hk2;have hq:q≤4194304:=by rw [<-HQ.out,HS2.out]; omega
    go_wp2_with fail
    refine (zQN (W:=w) hw0 hq).mono ?_;rintro e w1 ⟨a1,c1,rfl,f1,b1⟩;rw [<-HC0.out] at f1;go_wp2_with fail
    go_loopw [6,27] (fun z i w2=>∃(k:Nat) (zv:Value),zv=z∧k≤2∧i=.int .i64 k∧OT w w2 zv (cat k)∧Below w.heap.size w w2) (fun _ i _=>2-(intOf i).toNat)
    case atStart=>exact ⟨0,_,rfl,by omega,rfl,f1,b1⟩
    case round =>
     obtain ⟨k,zv,rfl,hk,rfl,hf,hbb⟩:=hrel;by_cases h0:k=0
     ·subst h0;have k0:=(hbb.cell (p:=⟨g,0,none⟩) lg).trans hc0;rw [HC0.out] at hf;obtain ⟨az,cz,rfl⟩:=hf.form;have hra:=ha.below hbb;go_wp2_with (at_builtin; go_must (refine zCb (W:=w) rfl _ _ rfl rfl hf hbb rfl hra (by have:=HA.out; simp; omega) ?_))
      intro v' w' f2 b2 _;rw [<-HC1.out.1] at f2;go_wp2_with fail
      go_roundw
      case rel=>exact ⟨1,_,rfl,by omega,rfl,f2,b2⟩
      case measure=>simp [intOf]
     ·by_cases h1:k=1
      ·subst h1;have k1:=(hbb.cell (p:=⟨g,1,none⟩) lg).trans hc1;have hf0:=hf;rw [HC1.out.1] at hf0;obtain ⟨az,cz,rfl⟩:=hf0.form;have hrb:=hb.below hbb;go_wp2_with (at_builtin; go_must (refine zCb (W:=w) rfl _ _ rfl rfl hf0 hbb rfl hrb (by rw [HA.out,HB.out]; omega) ?_))
       intro v' w' f2 b2 _;rw [<-HC2.out.1] at f2;go_wp2_with fail
       go_roundw
       case rel=>exact ⟨2,_,rfl,by omega,rfl,f2,b2⟩
       case measure=>simp [intOf]
      ·have hk2:k=2:=by omega
       subst hk2;rw [HC2.out.1] at hf;go_wp2_with fail
       go_ret
       exact ⟨_,rfl,hf,hbb⟩
theorem zH3 {S S' S'':Nat→Prop} {u va vb:Value} {c:List (List Int)} {A B:List Trm} {w:World} (h:RII S w u c) (ha:RT S' w va A) (hb:RT S'' w vb B)
  (hl:total c≤16777216) (hlA:zAI A≤1048576) (hlB:zAI B≤1048576) (hiA:∀t∈A,InI t.2) (hiB:∀t∈B,InI t.2) :
  Calls Tryz.prog 58 #[u,va,vb] w fun e w'=>∃r,e=.returned (.tuple #[r,.bool (adB c A B)])∧FT (New w w') w' r (adR c A B)∧Below w.heap.size w w':=by
 have hHA:=zBX h ha hl (by omega);have hHB:=fun w1 (b1:Below w.heap.size w w1)=>zBX (h.below b1) (hb.below b1) hl (by omega);have h0:=h;obtain ⟨au,cu,rfl⟩:=h.form;obtain ⟨aa,ca,rfl⟩:=ha.form;obtain ⟨ab,cb,rfl⟩:=hb.form;cases hk:isHk c A with
 | false =>
  have HB:=zQY (zPM (B:=B) hk);rw [hk] at hHA;clear hk hHB;go_enter Tryz.func58,Tryz.ntmps58
  go_wp2_with fail
  refine hHA.mono ?_;rintro e w1 ⟨rfl,b1⟩;go_wp2_with fail
  go_ret2
  rw [HB.out.1,HB.out.2];exact ⟨_,rfl,FT.none0 b1,b1.alloc b1.size _⟩
 | true =>
  rw [hk] at hHA;cases hk2:isHk c B with
  | false =>
   have HB:=zQY (zPN hk hk2);rw [hk2] at hHB;clear hk hk2;go_enter Tryz.func58,Tryz.ntmps58
   go_wp2_with fail
   refine hHA.mono ?_;rintro e w1 ⟨rfl,b1⟩;go_wp2_with fail
   refine (hHB w1 b1).mono ?_;rintro e w2 ⟨rfl,b2⟩;have b02:=zAA.step b1 b2;go_wp2_with fail
   go_ret2
   rw [HB.out.1,HB.out.2];exact ⟨_,rfl,FT.none0 b02,b02.alloc b02.size _⟩
  | true =>
   have HB:=zQY (zPO hk hk2);rw [hk2] at hHB;have htwo:=zJD (zAZ hk) (zAZ hk2);have hin:=zJC hiA hiB;have HD:Hid ((A++B).length≤1048576∧∀t∈A++B,t.1.length≤1048576∧t.2.length≤1048576∧Trd t.2∧InI t.2):=zQY ⟨by have:=htwo.2; omega,fun t ht=>by
    have h1:=htwo.1 t ht;exact ⟨by omega,by omega,h1.2.2,hin t ht⟩⟩
   have HTOT:Hid (zAI (puts (A++B))≤16777216):=zQY (by
    have h2:=(zC4 (L:=A++B) (n:=120) htwo.2 (fun t ht=>by have:=htwo.1 t ht; exact ⟨by omega,by omega⟩)).2.2;omega)
   have hlna:A.length≤1048576:=by unfold zAI at hlA; omega
   have hlnb:B.length≤1048576:=by unfold zAI at hlB; omega
   clear htwo hin hiA hiB hk hk2 hlA hlB;generalize hD:A++B=D at *;have HDD:Hid (A++B=D):=zQY hD;clear hD;generalize hna:A.length=na at *;have HNA:=zQY hna;generalize hnb:B.length=nb at *;have HNB:=zQY hnb;clear hna hnb;go_enter Tryz.func58,Tryz.ntmps58
   go_wp2_with fail
   refine hHA.mono ?_;rintro e w1 ⟨rfl,b1⟩;go_wp2_with fail
   refine (hHB w1 b1).mono ?_;rintro e w2 ⟨rfl,b2⟩;have b02:=zAA.step b1 b2;clear hHA hHB;obtain ⟨w3,hw3⟩:∃w3,w3=w2.alloc (.cells #[.slice aa na ca,.slice ab nb cb] 39):=⟨_,rfl⟩;have b3:Below w2.heap.size w2 w3:=by rw [hw3]; exact (Below.refl _ w2).alloc (zQd _) _
   have k0:w3.cell? ⟨w2.heap.size,0,none⟩=some (.slice aa na ca):=by rw [hw3]; go_simp
   have k1:w3.cell? ⟨w2.heap.size,1,none⟩=some (.slice ab nb cb):=by rw [hw3]; go_simp
   have b03:=zAA.step b02 b3;have hcc:=zN6 (ha.below b03) (hb.below b03) k0 k1 (by rw [HNA.out]; exact hlna) (by rw [HNB.out]; exact hlnb);rw [HDD.out] at hcc;go_wp2_with fail
   rw [<-hw3];clear hw3;refine hcc.mono ?_;rintro e w4 ⟨r4,rfl,f4,b4⟩;obtain ⟨a4,c4,rfl⟩:=f4.form;have b04:=zAA.step b03 b4;have hcol:=zCc f4.read HD.out.1 HD.out.2;go_wp2_with fail
   refine hcol.mono ?_;rintro e w5 ⟨r5,rfl,f5,b5⟩;obtain ⟨a5,c5,rfl,_⟩:=FC.form f5;have b05:=zAA.step b04 b5;have hg:=zD1 (W:=w) (h0.below b05) (f5.mono (fun b hb'=>⟨Nat.le_trans b04.size hb'.1,hb'.2⟩)) b05 hl HTOT.out;go_wp2_with fail
   refine hg.mono ?_;rintro e w9 ⟨a9,c9,rfl,f9,b9⟩;go_wp2_with fail
   go_ret2
   rw [HB.out.1,HB.out.2];exact ⟨_,rfl,f9,b9⟩
end Go.Proofs.YtlchafedbnihoaaGreat
