/- Heights and signs of root vectors; reflections and transposed matrices, both. Condition: sizes up to 2^24; numbers up to 1000 in reflections. -/
import Derived.Test.YtiohpndgemonjaaGreatJGRtP
import Derived.Test.YtiohpndgemonjaaGreatJGSymS
import Derived.Test.YtiohpndgemonjaaGreatJTail
import Derived.Test.YtiohpndgemonjaaGreatJGInV
namespace Go.Proofs.YtiohpndgemonjaaGreat
open Go.RowKit
set_option maxRecDepth 20000
set_option maxHeartbeats 8000000
def SmI (B:Int) (l:List Int):Prop:=∀x∈l,-B≤x∧x≤B
theorem zBa {B:Int} (hB:0≤B):∀{l:List Int},SmI B l→-(B*l.length)≤sumL l∧sumL l≤B*l.length
 | [],_=>by simp [sumL]
 | x::l,h=>by
  obtain ⟨a,b⟩:=zBa hB (l:=l) (fun y hy=>h y (List.mem_cons_of_mem _ hy));obtain ⟨c,d⟩:=h x (List.mem_cons_self ..);rw [zBZ];simp only [List.length_cons,Int.natCast_add,Int.mul_add];omega
theorem zDA {S:Nat→Prop} {v:Value} {r:List Int} {w:World} (h:RI S w v r) (hs:SmI 100000 r) (hl:r.length≤1000) :
  Calls Tryz.prog 122 #[v] w fun e w'=>e=.returned (.int .i64 (htR r))∧∃m,w'=w.drewN m:=by
 obtain ⟨a,cap,rfl⟩:=h.form;have HB:Hid (∀k,-100000000≤sumL (r.take k)∧sumL (r.take k)≤100000000):=zQe (fun k=>by
  have:=zBa (B:=100000) (by omega) (l:=r.take k) (fun x hx=>hs x (List.mem_of_mem_take hx));have h2:(r.take k).length≤r.length:=by rw [List.length_take]; omega
  omega)
 have HX:Hid (∀(k:Nat) (x:Int),r[k]? = some x→sumL (r.take (k+1))=sumL (r.take k)+x∧-100000≤x∧x≤100000):=zQe (fun k x hx=>⟨zEu hx,hs x (zQg hx)⟩);have HE:Hid (sumL (r.take r.length)=htR r):=zQe (by rw [List.take_length]);have H0:Hid (sumL (r.take 0)=0):=zQe rfl;generalize hn:r.length=n at *;clear hn hs;go_enter Tryz.func122,Tryz.ntmps122
 go_wp2_with fail
 go_loop [3,4] (fun s i=>∃k:Nat,k≤n∧i=.int .i64 k∧s=.int .i64 (sumL (r.take k))) (fun _ i=>n-(intOf i).toNat)
 case atStart=>exact ⟨0,Nat.zero_le _,rfl,by rw [H0.out]⟩
 case round =>
  obtain ⟨k,hk,rfl,rfl⟩:=hrel;by_cases hlt:k<n
  ·have i1:(k:Int)<(n:Int):=by omega
   obtain ⟨b,o,x,rfl,hc,hx⟩:=h.at hlt;obtain ⟨s1,s2,s3⟩:=HX.out k x hx.out;have HS:=zQe s1;obtain ⟨t1,t2⟩:=HB.out k;clear s1 hx;generalize sumL (r.take k)=q at *;go_wp2_with fail
   go_round
   case rel=>exact ⟨k+1,by omega,by go_num,by rw [HS.out]⟩
   case measure=>simp [intOf]; omega
  ·have i1:¬(k:Int)<(n:Int):=by omega
   have hkn:k=n:=by omega
   have HR:Hid (sumL (r.take k)=htR r):=zQe (by rw [hkn,HE.out]);rw [HR.out];clear hkn;go_wp2_with fail
   go_ret
   exact ⟨rfl,dr0⟩
theorem zD6 {S:Nat→Prop} {v:Value} {r:List Int} {w:World} (h:RI S w v r) (hs:SmI 100000 r) (hl:r.length≤1000) :
  Calls Tryz.prog 139 #[v] w fun e w'=>e=.returned (.int .i64 (htR r))∧∃m,w'=w.drewN m:=by
 obtain ⟨a,cap,rfl⟩:=h.form;have HB:Hid (∀k,-100000000≤sumL (r.take k)∧sumL (r.take k)≤100000000):=zQe (fun k=>by
  have:=zBa (B:=100000) (by omega) (l:=r.take k) (fun x hx=>hs x (List.mem_of_mem_take hx));have h2:(r.take k).length≤r.length:=by rw [List.length_take]; omega
  omega)
 have HX:Hid (∀(k:Nat) (x:Int),r[k]? = some x→sumL (r.take (k+1))=sumL (r.take k)+x∧-100000≤x∧x≤100000):=zQe (fun k x hx=>⟨zEu hx,hs x (zQg hx)⟩);have HE:Hid (sumL (r.take r.length)=htR r):=zQe (by rw [List.take_length]);have H0:Hid (sumL (r.take 0)=0):=zQe rfl;generalize hn:r.length=n at *;clear hn hs;go_enter Tryz.func139,Tryz.ntmps139
 go_wp2_with fail
 go_loop [3,8] (fun s i=>∃k:Nat,k≤n∧i=.int .i64 k∧s=.int .i64 (sumL (r.take k))) (fun _ i=>n-(intOf i).toNat)
 case atStart=>exact ⟨0,Nat.zero_le _,rfl,by rw [H0.out]⟩
 case round =>
  obtain ⟨k,hk,rfl,rfl⟩:=hrel;by_cases hlt:k<n
  ·have i1:(k:Int)<(n:Int):=by omega
   obtain ⟨b,o,x,rfl,hc,hx⟩:=h.at hlt;obtain ⟨s1,s2,s3⟩:=HX.out k x hx.out;have HS:=zQe s1;obtain ⟨t1,t2⟩:=HB.out k;clear s1 hx;generalize sumL (r.take k)=q at *;go_wp2_with fail
   go_round
   case rel=>exact ⟨k+1,by omega,by go_num,by rw [HS.out]⟩
   case measure=>simp [intOf]; omega
  ·have i1:¬(k:Int)<(n:Int):=by omega
   have hkn:k=n:=by omega
   have HR:Hid (sumL (r.take k)=htR r):=zQe (by rw [hkn,HE.out]);rw [HR.out];clear hkn;go_wp2_with fail
   go_ret
   exact ⟨rfl,dr0⟩
theorem zJK {r:List Int} {k:Nat} {x:Int} (h:r[k]? = some x):upB (r.take (k+1))=(upB (r.take k) || decide (0<x)):=by rw [zAP h]; simp [upB]
theorem zII {r:List Int} {k:Nat} {x:Int} (h:r[k]? = some x):dnB (r.take (k+1))=(dnB (r.take k) || decide (x<0)):=by rw [zAP h]; simp [dnB]
theorem zMT {S:Nat→Prop} {v:Value} {r:List Int} {w:World} (h:RI S w v r) :
  Calls Tryz.prog 121 #[v] w fun e w'=>e=.returned (.int .i64 (zAi r))∧∃m,w'=w.drewN m:=by
 have hsm:=h.small;obtain ⟨a,cap,rfl⟩:=h.form;have HX:Hid (∀(k:Nat) (x:Int),r[k]? = some x→upB (r.take (k+1))=(upB (r.take k) || decide (0<x))∧dnB (r.take (k+1))=(dnB (r.take k) || decide (x<0))):=zQe (fun k x hx=>⟨zJK hx,zII hx⟩);have HE:Hid (r.take r.length=r):=zQe (by rw [List.take_length]);have H0:Hid (upB (r.take 0)=false∧dnB (r.take 0)=false):=zQe ⟨rfl,rfl⟩;have HSG:Hid (zAi r=if upB r=true∧dnB r=false then 1 else if dnB r=true∧upB r=false then -1 else 0):=zQe rfl;generalize hn:r.length=n at *;clear hn;unfold maxLen at hsm;go_enter Tryz.func121,Tryz.ntmps121
 go_wp2_with fail
 go_loop [3,4,5] (fun s t i=>∃k:Nat,k≤n∧i=.int .i64 k∧s=.bool (upB (r.take k))∧t=.bool (dnB (r.take k))) (fun _ _ i=>n-(intOf i).toNat)
 case atStart=>exact ⟨0,Nat.zero_le _,rfl,by rw [H0.out.1],by rw [H0.out.2]⟩
 case round =>
  obtain ⟨k,hk,rfl,rfl,rfl⟩:=hrel;by_cases hlt:k<n
  ·have i1:(k:Int)<(n:Int):=by omega
   obtain ⟨b,o,x,rfl,hc,hx⟩:=h.at hlt;obtain ⟨s1,s2⟩:=HX.out k x hx.out;have HU:=zQe s1;have HD:=zQe s2;clear s1 s2 hx;generalize upB (r.take k)=p at *;generalize dnB (r.take k)=q at *;rcases Int.lt_trichotomy x 0 with hx | hx | hx
   ·have H1:Hid (decide (0<x)=false):=zQe (decide_eq_false (by omega));have H2:Hid (decide (x<0)=true):=zQe (decide_eq_true hx);have hx2:¬0<x:=by omega
    cases p <;> cases q;all_goals
     go_wp2_with fail
     go_round
     case rel=>exact ⟨k+1,by omega,by go_num,by rw [HU.out,H1.out]; rfl,by rw [HD.out,H2.out]; rfl⟩
     case measure=>simp [intOf]; omega
   ·have H1:Hid (decide (0<x)=false):=zQe (decide_eq_false (by omega));have H2:Hid (decide (x<0)=false):=zQe (decide_eq_false (by omega));have hx2:¬0<x:=by omega
    have hx3:¬x<0:=by omega
    clear hx;cases p <;> cases q;all_goals
     go_wp2_with fail
     go_round
     case rel=>exact ⟨k+1,by omega,by go_num,by rw [HU.out,H1.out]; rfl,by rw [HD.out,H2.out]; rfl⟩
     case measure=>simp [intOf]; omega
   ·have H1:Hid (decide (0<x)=true):=zQe (decide_eq_true hx);have H2:Hid (decide (x<0)=false):=zQe (decide_eq_false (by omega));have hx3:¬x<0:=by omega
    cases p <;> cases q;all_goals
     go_wp2_with fail
     go_round
     case rel=>exact ⟨k+1,by omega,by go_num,by rw [HU.out,H1.out]; rfl,by rw [HD.out,H2.out]; rfl⟩
     case measure=>simp [intOf]; omega
  ·have i1:¬(k:Int)<(n:Int):=by omega
   have hkn:k=n:=by omega
   have HT:Hid (r.take k=r):=zQe (by rw [hkn,HE.out]);rw [HT.out];clear hkn;generalize upB r=p at *;generalize dnB r=q at *;cases p <;> cases q;all_goals
    go_wp2_with fail
    go_ret
    exact ⟨zAQ (by rw [HSG.out]; rfl),dr0⟩
theorem zMS {S:Nat→Prop} {v:Value} {r:List Int} {w:World} (h:RI S w v r) :
  Calls Tryz.prog 138 #[v] w fun e w'=>e=.returned (.int .i64 (zAi r))∧∃m,w'=w.drewN m:=by
 have hsm:=h.small;obtain ⟨a,cap,rfl⟩:=h.form;have HX:Hid (∀(k:Nat) (x:Int),r[k]? = some x→upB (r.take (k+1))=(upB (r.take k) || decide (0<x))∧dnB (r.take (k+1))=(dnB (r.take k) || decide (x<0))):=zQe (fun k x hx=>⟨zJK hx,zII hx⟩);have HE:Hid (r.take r.length=r):=zQe (by rw [List.take_length]);have H0:Hid (upB (r.take 0)=false∧dnB (r.take 0)=false):=zQe ⟨rfl,rfl⟩;have HSG:Hid (zAi r=if upB r=true∧dnB r=false then 1 else if dnB r=true∧upB r=false then -1 else 0):=zQe rfl;generalize hn:r.length=n at *;clear hn;unfold maxLen at hsm;go_enter Tryz.func138,Tryz.ntmps138
 go_wp2_with fail
 go_loop [3,4,9] (fun s t i=>∃k:Nat,k≤n∧i=.int .i64 k∧s=.bool (upB (r.take k))∧t=.bool (dnB (r.take k))) (fun _ _ i=>n-(intOf i).toNat)
 case atStart=>exact ⟨0,Nat.zero_le _,rfl,by rw [H0.out.1],by rw [H0.out.2]⟩
 case round =>
  obtain ⟨k,hk,rfl,rfl,rfl⟩:=hrel;by_cases hlt:k<n
  ·have i1:(k:Int)<(n:Int):=by omega
   obtain ⟨b,o,x,rfl,hc,hx⟩:=h.at hlt;obtain ⟨s1,s2⟩:=HX.out k x hx.out;have HU:=zQe s1;have HD:=zQe s2;clear s1 s2 hx;generalize upB (r.take k)=p at *;generalize dnB (r.take k)=q at *;rcases Int.lt_trichotomy x 0 with hx | hx | hx
   ·have H1:Hid (decide (0<x)=false):=zQe (decide_eq_false (by omega));have H2:Hid (decide (x<0)=true):=zQe (decide_eq_true hx);have hx2:¬0<x:=by omega
    cases p <;> cases q;all_goals
     go_wp2_with fail
     go_round
     case rel=>exact ⟨k+1,by omega,by go_num,by rw [HU.out,H1.out]; rfl,by rw [HD.out,H2.out]; rfl⟩
     case measure=>simp [intOf]; omega
   ·have H1:Hid (decide (0<x)=false):=zQe (decide_eq_false (by omega));have H2:Hid (decide (x<0)=false):=zQe (decide_eq_false (by omega));have hx2:¬0<x:=by omega
    have hx3:¬x<0:=by omega
    clear hx;cases p <;> cases q;all_goals
     go_wp2_with fail
     go_round
     case rel=>exact ⟨k+1,by omega,by go_num,by rw [HU.out,H1.out]; rfl,by rw [HD.out,H2.out]; rfl⟩
     case measure=>simp [intOf]; omega
   ·have H1:Hid (decide (0<x)=true):=zQe (decide_eq_true hx);have H2:Hid (decide (x<0)=false):=zQe (decide_eq_false (by omega));have hx3:¬x<0:=by omega
    cases p <;> cases q;all_goals
     go_wp2_with fail
     go_round
     case rel=>exact ⟨k+1,by omega,by go_num,by rw [HU.out,H1.out]; rfl,by rw [HD.out,H2.out]; rfl⟩
     case measure=>simp [intOf]; omega
  ·have i1:¬(k:Int)<(n:Int):=by omega
   have hkn:k=n:=by omega
   have HT:Hid (r.take k=r):=zQe (by rw [hkn,HE.out]);rw [HT.out];clear hkn;generalize upB r=p at *;generalize dnB r=q at *;cases p <;> cases q;all_goals
    go_wp2_with fail
    go_ret
    exact ⟨zAQ (by rw [HSG.out]; rfl),dr0⟩
structure Mx (M:List (List Int)) (n:Nat):Prop where
 len:M.length=n
 row:∀l∈M,l.length=n
 ent:∀l∈M,∀x∈l,-3≤x∧x≤3
theorem CartanP.mx {c:List (List Int)} (hc:CartanP c):Mx c c.length:=by
 refine ⟨rfl,hc.row,fun l hl x hx=>?_⟩;obtain ⟨i,hi⟩:=List.getElem?_of_mem hl;obtain ⟨j,hj⟩:=List.getElem?_of_mem hx;have li:=(zQh hi).1;have lj:j<c.length:=by rw [<-hc.row l hl]; exact (zQh hj).1
 have e:ent c i j=x:=by unfold ent; rw [hi]; simp [hj]
 by_cases h:i=j
 ·subst h;have:=hc.car.diag i li;rw [e] at this; omega
 ·have:=hc.car.off i j li lj h;rw [e] at this; omega
theorem CartanP.mxT {c:List (List Int)} (hc:CartanP c):Mx (trL c) c.length:=by
 refine ⟨zLI c,fun l hl=>?_,fun l hl x hx=>?_⟩
 ·obtain ⟨i,_,rfl⟩:=List.mem_map.1 hl; simp
 ·obtain ⟨i,hi,rfl⟩:=List.mem_map.1 hl;obtain ⟨j,hj,rfl⟩:=List.mem_map.1 hx;have li:=List.mem_range.1 hi;have lj:=List.mem_range.1 hj;by_cases h:j=i
  ·subst h;have:=hc.car.diag j lj;omega
  ·have:=hc.car.off j i lj li h;omega
theorem zI9 (f g:Nat→Int):∀k,smI (fun j=>f j*g j) k=Cox.dotN f g k
 | 0=>rfl
 | k+1=>by simp only [smI,Cox.dotN,zI9 f g k]
theorem zD4 {f g:Nat→Int} {A B:Int} (hA:0≤A) (hB:0≤B):∀{n:Nat},(∀k,k<n→-A≤f k∧f k≤A)→(∀k,k<n→-B≤g k∧g k≤B)→-(A*B*n)≤Cox.dotN f g n∧Cox.dotN f g n≤A*B*n
 | 0,_,_=>by simp [Cox.dotN]
 | n+1,hf,hg=>by
  obtain ⟨a,b⟩:=zD4 hA hB (n:=n) (fun k hk=>hf k (by omega)) (fun k hk=>hg k (by omega));obtain ⟨c1,c2⟩:=hf n (by omega);obtain ⟨d1,d2⟩:=hg n (by omega);have h1:f n*g n≤A*B∧-(A*B)≤f n*g n:=by
   have h:(f n*g n).natAbs≤(A*B).natAbs:=by
    rw [Int.natAbs_mul,Int.natAbs_mul];exact Nat.mul_le_mul (by omega) (by omega)
   have h2:0≤A*B:=Int.mul_nonneg hA hB;omega
  simp only [Cox.dotN,Int.natCast_add,Int.mul_add];omega
theorem zFo {l r:List Int} {n:Nat} (hl:l.length=n) (hr:r.length=n) (hn:n≤4) (h3:∀x∈l,-3≤x∧x≤3) (hs:SmI 1000 r):prI l r n=dotL l r∧-12000≤dotL l r∧dotL l r≤12000:=by
 have e:dotL l r=Cox.dotN (num l) (num r) n:=zCY hl hr;obtain ⟨a,b⟩:=zD4 (f:=num l) (g:=num r) (A:=3) (B:=1000) (by omega) (by omega) (n:=n) (fun k hk=>by have:=h3 _ (zB2 hl hk); omega) (fun k hk=>hs _ (zB2 hr hk));rw [zMJ,zI9,e];refine ⟨?_,by omega,by omega⟩;unfold wrap64; omega
theorem Mx.at {M:List (List Int)} {n i:Nat} (h:Mx M n) {l:List Int} (hl:M[i]? = some l):l.length=n∧(∀x∈l,-3≤x∧x≤3)∧rwL M i=l:=⟨h.row l (zQg hl),h.ent l (zQg hl),by unfold rwL; rw [hl]; rfl⟩
theorem zHW {M:List (List Int)} {n i:Nat} (h:Mx M n) (hn:n≤4) (hi:i<n) {r:List Int} (hr:r.length=n) {B:Int} (hB:0≤B) (hB2:B≤1000) (hs:SmI B r):SmI (13*B) (mirR M i r):=by
 have e:M[i]? = some (M[i]'(by rw [h.len]; exact hi)):=zQf _;obtain ⟨h1,h2,h3⟩:=h.at e;obtain ⟨a,b⟩:=zD4 (f:=num (rwL M i)) (g:=num r) (A:=3) (B:=B) (by omega) hB (n:=n) (fun k hk=>by rw [h3]; have:=h2 _ (zB2 h1 hk); omega) (fun k hk=>hs _ (zB2 hr hk));have hd:=zCY (l:=rwL M i) (r:=r) (by rw [h3]; exact h1) hr;have hi2:=hs _ (zB2 hr hi);have hnn:3*B*(n:Int)≤12*B:=by
  have h5:(3*B)*(n:Int)≤(3*B)*4:=Int.mul_le_mul_of_nonneg_left (by omega) (by omega);omega
 intro x hx;unfold mirR at hx;rw [hd] at hx;rcases List.mem_or_eq_of_mem_set hx with hx | rfl
 ·have:=hs x hx; omega
 ·omega
theorem zIz {S S':Nat→Prop} {u v:Value} {M:List (List Int)} {r:List Int} {n i:Nat} {w:World} (h:RII S w u M) (h':RI S' w v r) (hM:Mx M n) (hr:r.length=n) (hn:n≤4) (hi:i<n) (hs:SmI 1000 r) :
  Calls Tryz.prog 120 #[u,.int .i64 i,v] w fun e w'=>∃o,e=.returned o∧FI (New w w') w' o (mirR M i r)∧Below w.heap.size w w':=by
 obtain ⟨l,hl⟩:∃l,M[i]? = some l:=⟨M[i]'(by rw [hM.len]; exact hi),zQf _⟩;obtain ⟨h1,h2,h3⟩:=hM.at hl;obtain ⟨p1,p2,p3⟩:=zFo h1 hr hn h2 hs;have HMR:Hid (mirR M i r=r.set i (num r i-dotL l r)):=zQe (by unfold mirR; rw [h3]);have HP:=zQe p1;have HL:Hid (∀k x y,l[k]? = some x→r[k]? = some y→prI l r (k+1)=wrap64 (prI l r k+wrap64 (x*y))):=zQe (fun k x y h1 h2=>by simp only [prI]; rw [zAe h1,zAe h2]);have H0:Hid (prI l r 0=0):=zQe rfl;have hi2:=hs _ (zB2 hr hi);have hrr:=h';have hu:=h;obtain ⟨a,cap,rfl⟩:=h.form;obtain ⟨a',cap',rfl⟩:=h'.form;rw [hM.len] at h hu ⊢;rw [hr] at h' hrr ⊢;have HRL:=zQe hr;have HLL:=zQe h1;have HL0:=zQe hl;clear p1 hr h1 h2 h3 hl hs;generalize dotL l r=D at *;have mixed:Tryz.prog.follows .mixedOrders=true:=by kernel_rfl
 go_enter Tryz.func120,Tryz.ntmps120
 go_wp2_with (at_builtin; go_must (refine zAE (W:=w) rfl _ _ rfl rfl (FI.fresh0 w) zAI rfl (hrr.below zAI) ?_ ?_))
 ·have:=HRL.out; simp; omega
 ·intro v1 w1 f1 b1 _;have f1:FI (New w w1) w1 v1 r:=f1;obtain ⟨a1,c1,e1⟩:=f1.form;rw [HRL.out] at e1;subst e1;obtain ⟨g,rfl,_,_⟩:=f1.head (by omega);have hu1:=hu.below b1;have hr1:=hrr.below b1;go_wp2_with fail
  go_loopw [8,9] (fun s j wr=>∃(k d:Nat),k≤n∧j=.int .i64 k∧s=.int .i64 (prI l r k)∧wr=w1.drewN d) (fun _ j _=>n-(intOf j).toNat)
  case atStart=>exact ⟨0,0,Nat.zero_le _,rfl,by rw [H0.out],rfl⟩
  case round =>
   obtain ⟨k,d,hk,rfl,rfl,rfl⟩:=hrel;have hu2:=hu1;have hr2:=hr1;by_cases hkn:k<n
   ·have i1:(k:Int)<(n:Int):=by omega
    have i2:(0:Int)≤(k:Int):=by omega
    have i3:(i:Int)<(n:Int):=by omega
    have i4:(0:Int)≤(i:Int):=by omega
    obtain ⟨b3,o3,r3,l3,rfl,hc3,hr3,hl3⟩:=RII.at hu2 hi;have e3:l3=l:=by have:=hl3.out; rw [HL0.out] at this; simpa using this.symm
    subst e3;obtain ⟨a4,c4,rfl⟩:=hr3.form;rw [HLL.out] at hr3 hc3;obtain ⟨b5,o5,x,rfl,hcx,hx⟩:=RI.at hr3 hkn;obtain ⟨b6,o6,y,rfl,hcy,hy⟩:=RI.at hr2 hkn;have HST:=zQe (HL.out k x y hx.out hy.out);clear hx hy hl3 hr3;generalize prI l3 r k=q at *;go_wp2_with fail
    go_quiet (fail)
    go_wp2_with fail
    go_roundw
    case rel=>exact ⟨k+1,d+nq,by omega,by go_num,by rw [HST.out],by simp⟩
    case measure=>simp [intOf]; omega
   ·have i1:¬(k:Int)<(n:Int):=by omega
    have hkn2:k=n:=by omega
    have HE:Hid (prI l r k=D):=zQe (by rw [hkn2,HP.out]);rw [HE.out];clear hkn2;have i3:(i:Int)<(n:Int):=by omega
    have i4:(0:Int)≤(i:Int):=by omega
    obtain ⟨b6,o6,y,rfl,hcy,hy⟩:=RI.at hr2 hi;have hny:num r i=y:=zAe hy.out;rw [hny] at hi2;have hf2:=f1.below (show Below w1.heap.size w1 (w1.drewN d) from below_drewN (Below.refl _ _) d);have dk:=hf2.cell hy.out hi;have zk:=hf2.froz HRL.out i;have hput:=hf2.put HRL.out i (y-D);have hgl:w.heap.size≤g:=(f1.2 g rfl).1;have hb2:Below w.heap.size w ((w1.drewN d).setCell ⟨g,i,none⟩ (.int .i64 (y-D))):=(below_drewN b1 d).setCell hgl _;have HPU:=zQe (And.intro hput hb2);have HNY:=zQe hny;clear hy hny hput hb2 hf2;go_wp2_with fail
    go_ret
    refine ⟨_,rfl,?_,HPU.out.2⟩;rw [HMR.out,HNY.out];exact HPU.out.1.mono (fun b hb=>⟨hb.1,by rw [zAW]; exact hb.2⟩)
theorem zEh {S S':Nat→Prop} {u v:Value} {M:List (List Int)} {r:List Int} {n i:Nat} {w:World} (h:RII S w u M) (h':RI S' w v r) (hM:Mx M n) (hr:r.length=n) (hn:n≤4) (hi:i<n) (hs:SmI 1000 r) :
  Calls Tryz.prog 141 #[u,.int .i64 i,v] w fun e w'=>∃o,e=.returned o∧FI (New w w') w' o (mirR M i r)∧Below w.heap.size w w':=by
 obtain ⟨l,hl⟩:∃l,M[i]? = some l:=⟨M[i]'(by rw [hM.len]; exact hi),zQf _⟩;obtain ⟨h1,h2,h3⟩:=hM.at hl;obtain ⟨p1,p2,p3⟩:=zFo h1 hr hn h2 hs;have HMR:Hid (mirR M i r=r.set i (num r i-dotL l r)):=zQe (by unfold mirR; rw [h3]);have hi2:=hs _ (zB2 hr hi);have hrr:=h';have hu:=h;have HPR:=zQe (fun (S9:Nat→Prop) (wv:World) (vl:Value) (hb:Below w.heap.size w wv) (hvl:RI S9 wv vl l)=>zFU (w:=wv) hvl (hrr.below hb) (by rw [hr,h1]; exact zQj _) (by omega));obtain ⟨a,cap,rfl⟩:=h.form;obtain ⟨a',cap',rfl⟩:=h'.form;rw [hM.len] at h hu ⊢;rw [hr] at h' hrr HPR ⊢;rw [p1] at HPR;have HRL:=zQe hr;have HLL:=zQe h1;have HL0:=zQe hl;clear p1 hr h1 h2 h3 hl hs;generalize dotL l r=D at *;have mixed:Tryz.prog.follows .mixedOrders=true:=by kernel_rfl
 go_enter Tryz.func141,Tryz.ntmps141
 go_wp2_with (at_builtin; go_must (refine zAE (W:=w) rfl _ _ rfl rfl (FI.fresh0 w) zAI rfl (hrr.below zAI) ?_ ?_))
 ·have:=HRL.out; simp; omega
 ·intro v1 w1 f1 b1 _;have f1:FI (New w w1) w1 v1 r:=f1;obtain ⟨a1,c1,e1⟩:=f1.form;rw [HRL.out] at e1;subst e1;obtain ⟨g,rfl,_,_⟩:=f1.head (by omega);have hu1:=hu.below b1;have hr1:=hrr.below b1;have i3:(i:Int)<(n:Int):=by omega
  have i4:(0:Int)≤(i:Int):=by omega
  obtain ⟨b6,o6,y,rfl,hcy,hy⟩:=RI.at hr1 hi;have hny:num r i=y:=zAe hy.out;rw [hny] at hi2;have dk:=f1.cell hy.out hi;obtain ⟨b3,o3,r3,l3,rfl,hc3,hr3,hl3⟩:=RII.at hu1 hi;have e3:l3=l:=by have:=hl3.out; rw [HL0.out] at this; simpa using this.symm
  subst e3;have hgl:w.heap.size≤g:=(f1.2 g rfl).1;have hw1:Below w.heap.size w w1:=b1;have g0:=fun z:GW w1=>z.cell dk;have g1:=fun z:GW w1=>z.cell hc3;have wsub:IntKind.i64.wrap (y-D)=y-D:=by have:=p2; have:=p3; have:=hi2; exact IntWalk.i64_in _ (by omega)
  have wsub2:wrap64 (y-D)=y-D:=by unfold wrap64; omega
  have HF:=zQe f1;have HNY:=zQe hny;have HC3:=zQe hr3;clear hy hny f1 hl3 hu1 hr1 hr3;go_wp2_with fail
  refine zFr 12 (by kernel_rfl) (by kernel_rfl) ?_;simp only [List.take_succ_cons,List.take_zero,List.drop_succ_cons,List.drop_zero]
  repeat (go_big_quiet_step ((first | (rename_i z; go_at_call 83; exact Calls.grow_of (v:=.int .i64 D) (v':=.int .i64 D) z (Calls.quietly (HPR.out _ _ _ (zAA.step hw1 z.le) (HC3.out.below z.le))) rfl))))
  refine wpQuiet_nil ?_;intro w8 hb8;have f8:=HF.out.below hb8;have hsz8:=hb8.size;have dk8:=(hb8.cell (p:=⟨g,i,none⟩) (zQi _ _ dk)).trans dk;have zk8:=f8.froz HRL.out i;have hput:=f8.put HRL.out i (y-D);have hb2:Below w.heap.size w (w8.setCell ⟨g,i,none⟩ (.int .i64 (y-D))):=(zAA.step hw1 hb8).setCell hgl _;have HPU:=zQe (And.intro hput hb2);clear g0 g1 f8 hput hb2 hb8 dk;go_wp2_with fail
  go_ret
  refine ⟨_,rfl,?_,HPU.out.2⟩;rw [HMR.out,HNY.out];exact HPU.out.1.mono (fun b hb=>⟨hb.1,by rw [zAW]; have:=hb.2; omega⟩)
theorem zLD {n i:Nat} {w:World} (hn:n≤4) (hi:i<n) :
  Calls Tryz.prog 140 #[.int .i64 n,.int .i64 i] w fun e w'=>∃o,e=.returned o∧FI (New w w') w' o (zAG n i)∧Below w.heap.size w w':=by
 obtain ⟨i0,hi0,hz0,hz1,hz2⟩:=info_parts zBV;have HU:Hid (zAG n i=(List.replicate n 0).set i 1):=zQe rfl;have i1:(i:Int)<(n:Int):=by omega
 have i2:(0:Int)≤(i:Int):=by omega
 have mixed:Tryz.prog.follows .mixedOrders=true:=by kernel_rfl
 go_enter Tryz.func140,Tryz.ntmps140
 go_wp2_with (at_make; (refine wpList_make_full _ rfl _ _ 25 rfl w.heap.size 3 i0 (.int .i64 0) 1 Tryz.underlying25 hi0 hz0 hz1 _ _ _ _ n rfl rfl (by first | rfl | (simp only [wrap64]; omega)) (by first | rfl | (simp only [wrap64]; omega)) ?hb ?hm ?hs ?_))
 case hb=>first | (rw [hz2]; omega) | omega
 case hm=>unfold maxLen; omega
 case hs=>exact zQj _
 intro w1 hown hgr;have b1:Below w.heap.size w w1:=(Below.refl _ w).grown hgr (zQj _) (by simp);have f1:FI (New w w1) w1 (.slice (some ⟨w.heap.size,0,none⟩) n n) (List.replicate n 0):=FI.of_row (w:=w) (by simpa using hown) (zQj _) (by simp) (by simp [toList_madeCells_one]);have dk:=f1.cell (k:=i) (x:=0) (by simp [hi]) hi;have zk:=f1.froz (by simp) i;have hput:=(f1.put (by simp) i 1).mono (S':=New w (w1.setCell ⟨w.heap.size,i,none⟩ (.int .i64 1))) (fun b hb=>⟨hb.1,by rw [zAW]; exact hb.2⟩);have hb2:Below w.heap.size w (w1.setCell ⟨w.heap.size,i,none⟩ (.int .i64 1)):=b1.setCell (zQj _) _;rw [<-HU.out] at hput;clear hgr hown hi0 hz0 hz1 hz2 f1 b1;go_wp2_with fail
 go_ret
 exact ⟨_,rfl,hput,hb2⟩
theorem zGw {S:Nat→Prop} {u:Value} {c:List (List Int)} {i:Nat} {w:World} (h:RII S w u c) (hc:isC c=true) (hl:total c≤16777216) (hi:i<c.length) :
  Calls Tryz.prog 119 #[u,.int .i64 i] w fun e w'=>∃o,e=.returned o∧FI (New w w') w' o (zAG c.length i)∧Below w.heap.size w w':=by
 obtain ⟨i0,hi0,hz0,hz1,hz2⟩:=info_parts zBV;have h4:c.length≤4:=(zAM.1 hc).le;have hC:=zAT h hl;rw [hc] at hC;clear hc;obtain ⟨a,cap,rfl⟩:=h.form;generalize hn:c.length=n at *;clear hn;have HU:Hid (zAG n i=(List.replicate n 0).set i 1):=zQe rfl;have i1:(i:Int)<(n:Int):=by omega
 have i2:(0:Int)≤(i:Int):=by omega
 have HIN:Hid (inR (i:Int) 0 ((n:Int)-1)=true):=zQe (zBU (by omega));have mixed:Tryz.prog.follows .mixedOrders=true:=by kernel_rfl
 go_enter Tryz.func119,Tryz.ntmps119
 go_wp2_with fail
 refine hC.mono ?_;rintro e w0 ⟨rfl,m0,rfl⟩;have b0:Below w.heap.size w (w.drewN m0):=below_drewN (Below.refl _ w) m0;generalize hw0:w.drewN m0=w0 at *;clear hw0;go_wp2_with fail
 refine (zBF _ _ _ _).mono ?_;rintro e w' ⟨rfl,rfl⟩;rw [HIN.out];go_wp2_with (at_make; (refine wpList_make_full _ rfl _ _ 25 rfl w0.heap.size 3 i0 (.int .i64 0) 1 Tryz.underlying25 hi0 hz0 hz1 _ _ _ _ n rfl rfl (by first | rfl | (simp only [wrap64]; omega)) (by first | rfl | (simp only [wrap64]; omega)) ?hb ?hm ?hs ?_))
 case hb=>first | (rw [hz2]; omega) | omega
 case hm=>unfold maxLen; omega
 case hs=>exact zQj _
 intro w1 hown hgr;have b1:Below w0.heap.size w0 w1:=(Below.refl _ w0).grown hgr (zQj _) (by simp);have f1:FI (New w0 w1) w1 (.slice (some ⟨w0.heap.size,0,none⟩) n n) (List.replicate n 0):=FI.of_row (w:=w0) (by simpa using hown) (zQj _) (by simp) (by simp [toList_madeCells_one]);have dk:=f1.cell (k:=i) (x:=0) (by simp [hi]) hi;have zk:=f1.froz (by simp) i;have hz:=b0.size;have hput:=(f1.put (by simp) i 1).mono (S':=New w (w1.setCell ⟨w0.heap.size,i,none⟩ (.int .i64 1))) (fun b hb=>⟨Nat.le_trans hz hb.1,by rw [zAW]; exact hb.2⟩);have hb2:Below w.heap.size w (w1.setCell ⟨w0.heap.size,i,none⟩ (.int .i64 1)):=(zAA.step b0 b1).setCell hz _;rw [<-HU.out] at hput;clear hgr hown hi0 hz0 hz1 hz2 f1 b1 b0 hz;go_wp2_with fail
 go_ret
 exact ⟨_,rfl,hput,hb2⟩
def trTo (c:List (List Int)) (k:Nat):List (List Int):=(List.range k).map fun i=>(List.range c.length).map fun j=>ent c j i
def zBQ (c:List (List Int)) (i j:Nat):List Int:=(List.range j).map fun j=>ent c j i
theorem zMm (c:List (List Int)) (k:Nat):trTo c (k+1)=trTo c k++[zBQ c k c.length]:=by unfold trTo zBQ; rw [List.range_succ,List.map_append]; rfl
theorem zLJ (c:List (List Int)) (i j:Nat):zBQ c i (j+1)=zBQ c i j++[ent c j i]:=by unfold zBQ; rw [List.range_succ,List.map_append]; rfl
theorem zHw {S:Nat→Prop} {u:Value} {c:List (List Int)} {w:World} (h:RII S w u c) (hc:isC c=true) (hl:total c≤16777216) :
  Calls Tryz.prog 136 #[u] w fun e w'=>∃o,e=.returned o∧FR (New w w') w' o (trL c)∧Below w.heap.size w w':=by
 have hcp:=zAM.1 hc;have h4:c.length≤4:=hcp.le;have hC:=zBW h hl;rw [hc] at hC;have HROW:Hid (∀l∈c,l.length=c.length):=zQe hcp.row;have HENT:Hid (∀(i j:Nat) (l:List Int) (x:Int),c[i]? = some l→l[j]? = some x→ent c i j=x):=zQe (fun i j l x h1 h2=>by unfold ent; rw [h1]; simp [h2]);have HT0:Hid (trTo c 0=[]):=zQe rfl;have HTE:Hid (trTo c c.length=trL c):=zQe rfl;have HTS:=zQe (fun k=>zMm c k);have HTL:Hid (∀k,(trTo c k).length=k):=zQe (fun k=>by simp [trTo]);have HR0:Hid (∀k,zBQ c k 0=[]):=zQe (fun k=>rfl);have HRS:=zQe (fun i j=>zLJ c i j);have HRL:Hid (∀i k,(zBQ c i k).length=k):=zQe (fun i k=>by simp [zBQ]);clear hcp hc;have h0:=h;obtain ⟨a,cap,rfl⟩:=h.form;generalize hn:c.length=n at *;clear hn;have mixed:Tryz.prog.follows .mixedOrders=true:=by kernel_rfl
 go_enter Tryz.func136,Tryz.ntmps136
 go_wp2_with fail
 refine hC.mono ?_;rintro e w0 ⟨rfl,m0,rfl⟩;have hs0:HS w (w.drewN m0) []:=HS.nil (below_drewN (Below.refl _ w) m0);generalize w.drewN m0=w0 at *;obtain ⟨w1,hw1⟩:∃w1,w1=w0.alloc (.cells #[] 25):=⟨_,rfl⟩;have fe:=FR.empty_of (Below.refl _ w0) hw1;have hs1:=hs0.addR fe.2 fe.1;have HW1:=zQe hw1;have hs1:HS w w1 [aR (.slice (some ⟨w0.heap.size,0,none⟩) 0 0) (trTo c 0)]:=by rw [HT0.out]; exact hs1
 clear hw1 fe hs0;go_wp2_with fail
 rw [<-HW1.out];go_loopw [3,14] (fun oo kk wr=>∃(k:Nat) (vo:Value),vo=oo∧k≤n∧kk=.int .i64 k∧HS w wr [aR vo (trTo c k)]) (fun _ kk _=>n-(intOf kk).toNat)
 case atStart=>exact ⟨0,_,rfl,Nat.zero_le _,rfl,hs1⟩
 case round =>
  clear hs1;obtain ⟨k,vo,rfl,hk,rfl,hs⟩:=hrel;by_cases hkn:k<n
  ·have i1:(k:Int)<(n:Int):=by omega
   have i10:(0:Int)≤(k:Int):=by omega
   obtain ⟨w2,hw2⟩:∃w2,w2=wr.alloc (.cells #[] 3):=⟨_,rfl⟩;have fe:=zAN (Below.refl _ wr) hw2;have hs2:=hs.addI fe.2 fe.1;have HW2:=zQe hw2;have hs2:HS w w2 [aR vo (trTo c k),aI (.slice (some ⟨wr.heap.size,0,none⟩) 0 0) (zBQ c k 0)]:=by rw [HR0.out]; exact hs2
   clear hw2 fe hs;go_wp2_with fail
   rw [<-HW2.out];go_loopw [5,20] (fun rr jj wr=>∃(j:Nat) (vr:Value),vr=rr∧j≤n∧jj=.int .i64 j∧HS w wr [aR vo (trTo c k),aI vr (zBQ c k j)]) (fun _ jj _=>n-(intOf jj).toNat)
   case atStart=>exact ⟨0,_,rfl,Nat.zero_le _,rfl,hs2⟩
   case round =>
    clear hs2;obtain ⟨j,vr,rfl,hj,rfl,hs⟩:=hrel;by_cases hjn:j<n
    ·have i2:(j:Int)<(n:Int):=by omega
     have i20:(0:Int)≤(j:Int):=by omega
     have hu:=h0.below hs.bl;obtain ⟨b3,o3,r3,l3,rfl,hc3,hr3,hl3⟩:=RII.at hu hjn;have e3:=HROW.out l3 (zQg hl3.out);obtain ⟨a3,c3,rfl⟩:=hr3.form;rw [e3] at hr3 hc3;obtain ⟨b4,o4,x,rfl,hcx,hx⟩:=RI.at hr3 hkn;have HST:Hid (zBQ c k j++[x]=zBQ c k (j+1)):=zQe (by rw [HRS.out,HENT.out j k l3 x hl3.out hx.out]);obtain ⟨w5,hw5⟩:∃w5,w5=wr.alloc (.cells #[.int .i64 x] 3):=⟨_,rfl⟩;have hs5:=hs.alloc (.cells #[.int .i64 x] 3);rw [<-hw5] at hs5;have hc5:w5.cell? ⟨wr.heap.size,0,none⟩=some (.int .i64 x):=by rw [hw5]; go_simp
     have HW5:=zQe hw5;have HLN:Hid ((zBQ c k j).length+1≤67108864):=zQe (by rw [HRL.out]; omega);clear hw5 hs hu hr3 hl3 hx e3;go_wp2_with (at_builtin; go_must (rw [<-HW5.out]; refine zDD rfl _ _ rfl rfl hs5 1 rfl rfl hc5 HLN.out ?_))
     intro v6 w6 hs6;have hs6:HS w w6 [aR vo (trTo c k),aI v6 (zBQ c k (j+1))]:=by rw [<-HST.out]; exact hs6
     clear hs5;go_wp2_with fail
     go_roundw
     case rel=>exact ⟨j+1,v6,rfl,by omega,by go_num,hs6⟩
     case measure=>simp [intOf]; omega
    ·have i2:¬(j:Int)<(n:Int):=by omega
     have e:j=n:=by omega
     have HST:Hid (trTo c k++[zBQ c k j]=trTo c (k+1)):=zQe (by rw [HTS.out,e]);obtain ⟨ar,cr,rfl⟩:=hs.formI 1 rfl;have HL:Hid ((zBQ c k j).length=n):=zQe (by rw [HRL.out,e]);rw [HL.out] at hs ⊢;obtain ⟨w5,hw5⟩:∃w5,w5=wr.alloc (.cells #[.slice ar n cr] 25):=⟨_,rfl⟩;have hs5:=(zLF hs 1 rfl).alloc (.cells #[.slice ar n cr] 25);rw [<-hw5] at hs5;have hc5:w5.cell? ⟨wr.heap.size,0,none⟩=some (.slice ar n cr):=by rw [hw5]; go_simp
     have HW5:=zQe hw5;have HLN:Hid ((trTo c k).length+1≤67108864):=zQe (by rw [HTL.out]; omega);clear hw5 hs e;go_wp2_with (at_builtin; go_must (rw [<-HW5.out]; refine zLM rfl _ _ rfl rfl hs5 0 1 (by decide) rfl rfl rfl hc5 HLN.out ?_))
     intro v6 w6 hs6;have hs7:=hs6.pick [0] (by decide);have hs7:HS w w6 [aR v6 (trTo c (k+1))]:=by rw [<-HST.out]; exact hs7
     clear hs5 hs6;go_wp2_with fail
     go_roundw
     case rel=>exact ⟨k+1,v6,rfl,by omega,by go_num,hs7⟩
     case measure=>simp [intOf]; omega
  ·have i1:¬(k:Int)<(n:Int):=by omega
   have e:k=n:=by omega
   have HE:Hid (trTo c k=trL c):=zQe (by rw [e,HTE.out]);rw [HE.out] at hs;clear e;go_wp2_with fail
   go_ret
   exact ⟨_,rfl,hs.R 0 rfl,hs.bl⟩
theorem zKl {S S':Nat→Prop} {u v:Value} {l l':List Int} {w:World} (h:RI S w u l) (h':RI S' w v l') (hs:SmI 100000 l) (hs':SmI 100000 l') (hl:l.length≤1000) (hl':l'.length≤1000) :
  Calls Tryz.prog 151 #[u,v] w fun e w'=>e=.returned (.bool (befR l l'))∧∃m,w'=w.drewN m:=by
 have e1:=zDA h hs hl;have HE2:=zQe (fun (m:Nat)=>zDA (h'.drewN m) hs' hl');obtain ⟨a,cap,rfl⟩:=h.form;obtain ⟨a',cap',rfl⟩:=h'.form;have HB1:Hid (-100000000≤htR l∧htR l≤100000000):=zQe (by have:=zBa (B:=100000) (by omega) hs; unfold htR; omega);have HB2:Hid (-100000000≤htR l'∧htR l'≤100000000):=zQe (by have:=zBa (B:=100000) (by omega) hs'; unfold htR; omega);have HR:Hid (befR l l'=if htR l=htR l' then gtL l l' else decide (htR l<htR l')):=zQe rfl;have R0:Hid (gtL (l.drop 0) (l'.drop 0)=gtL l l'):=zQe rfl;obtain ⟨p1,p2⟩:=HB1.out;obtain ⟨q1,q2⟩:=HB2.out;generalize htR l=p at *;generalize htR l'=q at *;generalize gtL l l'=R at *;generalize hn:l.length=n at *;generalize hn':l'.length=n' at *;have H:=zQe hn;have H':=zQe hn';clear hn hn' hs hs'
 have mixed:Tryz.prog.follows .mixedOrders=true:=by kernel_rfl
 go_enter Tryz.func151,Tryz.ntmps151
 go_wp2_with fail
 refine e1.mono ?_;rintro e w0 ⟨rfl,m0,rfl⟩;have e2:=HE2.out m0;clear e1;go_wp2_with fail
 refine e2.mono ?_;rintro e w0 ⟨rfl,m1,rfl⟩;clear e2;by_cases hpq:p=q
 ·have f0:(p != q)=false:=by simp [hpq]
  have HX:Hid (befR l l'=R):=zQe (by rw [HR.out,if_pos hpq]);go_wp2_with fail
  go_loopw [7] (fun i wr=>∃k m:Nat,k≤n∧k≤n'∧i=.int .i64 k∧wr=w.drewN m∧Hid (gtL (l.drop k) (l'.drop k)=R)) (fun i _=>n-(intOf i).toNat)
  case atStart=>exact ⟨0,_,Nat.zero_le _,Nat.zero_le _,rfl,rfl,R0⟩
  case round =>
   obtain ⟨k,m,hk,hk',rfl,hw,HR2⟩:=hrel;by_cases hlt:k<n
   ·have i1:(k:Int)<(n:Int):=by omega
    by_cases hlt':k<n'
    ·have i2:(k:Int)<(n':Int):=by omega
     have h2:=h.drewN m;have h3:=h'.drewN m;rw [<-hw] at h2 h3;have HW:=zQe hw;clear hw;obtain ⟨b,o,x,rfl,hc,hx⟩:=h2.at hlt;obtain ⟨b',o',y,rfl,hc',hy⟩:=h3.at hlt';have hd:=HR2.out;rw [zIQ hx.out hy.out] at hd;clear hx hy;by_cases hxy:x=y
     ·have f1:(x != y)=false:=by simp [hxy]
      rw [if_pos hxy] at hd;have HD:=zQe hd;clear hd hxy;go_wp2_with fail
      go_quiet (fail)
      go_wp2_with fail
      go_roundw
      case rel=>exact ⟨k+1,m+nq,by omega,by omega,by go_num,by rw [HW.out]; simp,HD⟩
      case measure=>simp [intOf]; omega
     ·have f1:(x != y)=true:=by simp [hxy]
      rw [if_neg hxy] at hd;have HD:=zQe hd;clear hd hxy;go_wp2_with fail
      go_quiet (fail)
      go_wp2_with fail
      go_quiet (fail)
      go_wp2_with fail
      go_ret
      exact ⟨zAB (by rw [HX.out]; exact HD.out),by rw [HW.out]; first | exact dr3 | exact dr2⟩
    ·have i2:¬(k:Int)<(n':Int):=by omega
     have HZ:Hid (R=false):=zQe (by rw [<-HR2.out,List.drop_eq_nil_of_le (show l'.length≤k by have:=H'.out; omega)]; cases l.drop k <;> rfl);subst hw;go_wp2_with fail
     go_ret
     exact ⟨zAB (by rw [HX.out,HZ.out]),m,rfl⟩
   ·have i1:¬(k:Int)<(n:Int):=by omega
    have HZ:Hid (R=false):=zQe (by rw [<-HR2.out,List.drop_eq_nil_of_le (show l.length≤k by have:=H.out; omega)]; rfl);subst hw;go_wp2_with fail
    go_ret
    exact ⟨zAB (by rw [HX.out,HZ.out]),m,rfl⟩
 ·have f0:(p != q)=true:=by simp [hpq]
  have HX:Hid (befR l l'=decide (p<q)):=zQe (by rw [HR.out,if_neg hpq]);go_wp2_with fail
  go_ret
  exact ⟨zAB HX.out.symm,by first | exact dr1 | exact dr2⟩
theorem zO7 {v x:List Int} {l:List (List Int)} (hg:befR v x=true):put7 v (x::l)=v::x::l:=by simp [put7,hg]
theorem zO6 {v x:List Int} {l:List (List Int)} (hg:befR v x=false):put7 v (x::l)=x::put7 v l:=by simp [put7,hg]
structure Put7I (v:List Int) (L:List (List Int)) (Z Zo Y:Zl) (k:Nat) (pl:Bool):Prop where
 perm:(Zo++Z.drop k).Perm Y
 txt:Zo.map Prod.snd++(if pl=true then L.drop k else put7 v (L.drop k))=put7 v L
 len:Zo.length≤k+pl.toNat
section
variable {v:List Int} {L:List (List Int)} {Z Zo Y:Zl} {k:Nat} {pl:Bool} {z:Value × List Int}
theorem Put7I.start (_hZ:Z.map Prod.snd=L):Put7I v L Z [] Z 0 false:=⟨by simp,by simp,by simp⟩
theorem Put7I.mem (h:Put7I v L Z Zo Y k pl) (hz:Z[k]? = some z):z∈Y:=h.perm.mem_iff.1 (List.mem_append_right _ (by rw [zAC hz]; exact List.mem_cons_self ..))
theorem Put7I.step (h:Put7I v L Z Zo Y k true) (hZ:Z.map Prod.snd=L) (hz:Z[k]? = some z):(Zo++[z]++Z.drop (k+1)).Perm Y∧(Zo++[z]).map Prod.snd++L.drop (k+1)=put7 v L:=by
 have h1:=h.perm;have h2:=h.txt;rw [zAC hz] at h1;rw [if_pos rfl,zAC (PutI.at hZ hz)] at h2;exact ⟨by simpa using h1,by simpa using h2⟩
theorem Put7I.stepF (h:Put7I v L Z Zo Y k false) (hZ:Z.map Prod.snd=L) (hz:Z[k]? = some z) (hg:befR v z.2=false):(Zo++[z]++Z.drop (k+1)).Perm Y∧(Zo++[z]).map Prod.snd++put7 v (L.drop (k+1))=put7 v L:=by
 have h1:=h.perm;have h2:=h.txt;rw [zAC hz] at h1;rw [if_neg (by simp),zAC (PutI.at hZ hz),zO6 hg] at h2;exact ⟨by simpa using h1,by simpa using h2⟩
theorem Put7I.ins (h:Put7I v L Z Zo Y k false) (hZ:Z.map Prod.snd=L) (hz:Z[k]? = some z) (hg:befR v z.2=true) (r:Value) :
  (Zo++[(r,v)]++Z.drop k).Perm ((r,v)::Y)∧(Zo++[(r,v)]).map Prod.snd++L.drop k=put7 v L:=by
 have h2:=h.txt;rw [if_neg (by simp),zAC (PutI.at hZ hz),zO7 hg,<-zAC (PutI.at hZ hz)] at h2;refine ⟨?_,by simpa using h2⟩;rw [List.append_assoc];exact List.perm_middle.trans (h.perm.cons _)
theorem Put7I.endT (h:Put7I v L Z Zo Y k true) (hk:Z.length≤k) (hZ:Z.map Prod.snd=L):Zo.Perm Y∧Zo.map Prod.snd=put7 v L:=by
 have h1:=h.perm;have h2:=h.txt;rw [List.drop_eq_nil_of_le hk] at h1;rw [if_pos rfl,List.drop_eq_nil_of_le (show L.length≤k by rw [<-hZ]; simpa using hk)] at h2;exact ⟨by simpa using h1,by simpa using h2⟩
theorem Put7I.endF (h:Put7I v L Z Zo Y k false) (hk:Z.length≤k) (hZ:Z.map Prod.snd=L) (r:Value):(Zo++[(r,v)]).Perm ((r,v)::Y)∧(Zo++[(r,v)]).map Prod.snd=put7 v L:=by
 have h1:=h.perm;have h2:=h.txt;rw [List.drop_eq_nil_of_le hk,List.append_nil] at h1;rw [if_neg (by simp),List.drop_eq_nil_of_le (show L.length≤k by rw [<-hZ]; simpa using hk)] at h2;exact ⟨List.perm_append_comm.trans (h1.cons _),by simpa [put7] using h2⟩
end
def zH0 (F:Nat→Prop) (v:List Int) (L:List (List Int)) (w:World) (e:Ending) (w':World):Prop:=∃r,e=.returned r∧HSx F w w' [aF r (put7 v L)]
theorem zIq {F S':Nat→Prop} {vl vv:Value} {L:List (List Int)} {v:List Int} {w:World} (h:FII F w vl L) (hF:∀b,F b→b<w.heap.size) (h':RI S' w vv v) (hll:∀x∈L,x.length≤1000∧SmI 100000 x) (hl:L.length≤1048576) (hv:v.length≤1000) (hvs:SmI 100000 v) :
  Calls Tryz.prog 118 #[vl,vv] w (zH0 F v L w):=by
 have HRES:Hid (zH0 F v L w=fun e w'=>∃r,e=.returned r∧HSx F w w' [aF r (put7 v L)]):=zQe rfl;obtain ⟨Z,hZ,hs⟩:=(HSx.start (st_F vl L) h hF).openF 0 rfl;have hs:HSx F w w [aV 25 vl (Z.map Prod.fst),aRs Z]:=hs;have hlz:(Z.map Prod.fst).length=Z.length:=by simp
 obtain ⟨av,cv,rfl⟩:=h'.form;generalize hvn:v.length=nv at *;have HVN:=zQe hvn;have HVS:=zQe hvs;clear hvn hvs;have HZ:=zQe hZ;have HN:Hid (∀z∈Z,z.2.length≤1000∧SmI 100000 z.2):=zQe (fun z hz=>hll z.2 (by rw [<-hZ]; exact List.mem_map_of_mem hz));have hzl:Z.length≤1048576:=by
  have:(Z.map Prod.snd).length=L.length:=by rw [hZ]
  simp at this; omega
 have HI0:Hid (Put7I v L Z [] Z 0 false):=zQe (Put7I.start hZ);have mixed:Tryz.prog.follows .mixedOrders=true:=by kernel_rfl
 obtain ⟨⟨a,cap,rfl⟩,hhead⟩:=hs.formV 0 rfl;rw [hlz] at hs hhead ⊢;generalize hn:Z.length=n at *;have HZL:=zQe hn;have HH:=zQe hhead;clear hn hZ hlz h hF hll hl hhead;go_enter Tryz.func118,Tryz.ntmps118
 go_wp2_with fail
 obtain ⟨w1,hw1⟩:∃w1,w1=w.alloc (.cells #[] 25):=⟨_,rfl⟩;have hs1:=zBL hs hw1;have hs1:HSx F w w1 [aV 25 (.slice a n cap) (Z.map Prod.fst),aRs Z,aV 25 (.slice (some ⟨w.heap.size,0,none⟩) 0 0) (([]:Zl).map Prod.fst)]:=hs1;have HO0:Hid (∀b,(Value.slice (some ⟨w.heap.size,0,none⟩) 0 0).ownBlock=some b→w.heap.size≤b):=zQe (fun b hb=>by simp [Value.ownBlock] at hb; omega);rw [<-hw1];clear hw1 hs;go_wp2_with fail
 go_loopw [5,6,7] (fun oo pp ii wr=>∃(k:Nat) (vo:Value) (pl:Bool) (Zo Y:Zl),vo=oo∧k≤n∧ii=.int .i64 k∧pp=.bool pl∧HSx F w wr [aV 25 (.slice a n cap) (Z.map Prod.fst),aRs Y,aV 25 vo (Zo.map Prod.fst)]∧Hid (Put7I v L Z Zo Y k pl)∧Hid (∀b,vo.ownBlock=some b→w.heap.size≤b)) (fun _ _ ii _=>n-(intOf ii).toNat)
 case atStart=>exact ⟨0,_,false,[],Z,rfl,Nat.zero_le _,rfl,rfl,hs1,HI0,HO0⟩
 case round =>
  clear hs1;obtain ⟨k,vo,pl,Zo,Y,rfl,hk,rfl,rfl,hs,HI,HO⟩:=hrel;by_cases hkn:k<n
  ·have i1:(k:Int)<(n:Int):=by omega
   obtain ⟨z,hz⟩:∃z,Z[k]? = some z:=⟨Z[k]'(by rw [HZL.out]; exact hkn),zQf _⟩;obtain ⟨g,rfl⟩:∃g,a=some ⟨g,0,none⟩:=by
    obtain ⟨g,c9,e⟩:=HH.out (by omega);simp only [Value.slice.injEq] at e;exact ⟨g,e.1⟩
   have hcz:=(hs.cellV 0 rfl (j:=k) (r:=z.1) (by simp [hz])).1;have hrz:=hs.rowS 1 rfl (HI.out.mem hz);have hzn:=HN.out z (zQg hz);have HZK:=zQe hz;obtain ⟨rz,lz⟩:=z;have hrz:RI _ wr rz lz:=hrz;have hcz:wr.cell? ⟨g,k,none⟩=some rz:=hcz;obtain ⟨hzn,hzs⟩:lz.length≤1000∧SmI 100000 lz:=hzn;have HZS:=zQe hzs;clear hzs;obtain ⟨az,cz,rfl⟩:=hrz.form;generalize hln:lz.length=nz at *;have HLN:=zQe hln;clear hln;have hv2:=RI.below h' hs.bl;have honez:(Value.slice az nz cz).oneCell'=true:=oneC hrz;have HZol:Hid ((Zo.map Prod.fst).length+1≤67108864):=zQe (by have:=HI.out.len; have:pl.toNat≤1:=Bool.toNat_le pl; simp; omega);clear hz;cases pl with
   | true =>
    obtain ⟨w5,hw5⟩:∃w5,w5=(wr).alloc (.cells #[.slice az nz cz] 25):=⟨_,rfl⟩;have hs5:=hs.alloc (.cells #[.slice az nz cz] 25);rw [<-hw5] at hs5;have hc5:w5.cell? ⟨(wr).heap.size,0,none⟩=some (.slice az nz cz):=by rw [hw5]; go_simp
    have HW:=zQe hw5;have HST:=zQe (HI.out.step HZ.out HZK.out);clear hw5 hs;go_wp2_with (at_builtin; go_must (rw [<-HW.out]; refine zAJ rfl _ _ rfl rfl hs5 2 rfl HO.out rfl hc5 honez HZol.out ?_))
    intro v6 w6 hs6 hn6;have hs6:HSx F w w6 [aV 25 (.slice (some ⟨g,0,none⟩) n cap) (Z.map Prod.fst),aRs Y,aV 25 v6 ((Zo++[(Value.slice az nz cz,lz)]).map Prod.fst)]:=by
     have e:(Zo++[(Value.slice az nz cz,lz)]).map Prod.fst=Zo.map Prod.fst++[Value.slice az nz cz]:=by simp
     rw [e]; exact hs6
    have HI3:Hid (Put7I v L Z (Zo++[(Value.slice az nz cz,lz)]) Y (k+1) true):=zQe ⟨HST.out.1,HST.out.2,by have:=HI.out.len; simp at *; omega⟩;have HO3:=zQe hn6;clear hs5;go_wp2_with fail
    go_roundw
    case rel=>exact ⟨k+1,v6,true,_,_,rfl,by omega,by go_num,rfl,hs6,HI3,HO3⟩
    case measure=>simp [intOf]; omega
   | false =>
    have hcall:=zKl hv2 hrz HVS.out HZS.out (by rw [HVN.out]; exact hv) (by rw [HLN.out]; exact hzn);go_wp2_with fail
    refine hcall.mono ?_;rintro e wg ⟨rfl,mg,rfl⟩;have hs:=hs.drewN mg;have hcz:=(hs.cellV 0 rfl (j:=k) (r:=.slice az nz cz) (by simp [HZK.out])).1;have hv2:=hv2.drewN mg;clear hrz hcall;generalize wr.drewN mg=w10 at *;cases hg:befR v lz with
    | false =>
     have HG:=zQe hg;clear hg;obtain ⟨w5,hw5⟩:∃w5,w5=(w10).alloc (.cells #[.slice az nz cz] 25):=⟨_,rfl⟩;have hs5:=hs.alloc (.cells #[.slice az nz cz] 25);rw [<-hw5] at hs5;have hc5:w5.cell? ⟨(w10).heap.size,0,none⟩=some (.slice az nz cz):=by rw [hw5]; go_simp
     have HW:=zQe hw5;have HST:=zQe (HI.out.stepF HZ.out HZK.out HG.out);clear hw5 hs;go_wp2_with (at_builtin; go_must (rw [<-HW.out]; refine zAJ rfl _ _ rfl rfl hs5 2 rfl HO.out rfl hc5 honez HZol.out ?_))
     intro v6 w6 hs6 hn6;have hs6:HSx F w w6 [aV 25 (.slice (some ⟨g,0,none⟩) n cap) (Z.map Prod.fst),aRs Y,aV 25 v6 ((Zo++[(Value.slice az nz cz,lz)]).map Prod.fst)]:=by
      have e:(Zo++[(Value.slice az nz cz,lz)]).map Prod.fst=Zo.map Prod.fst++[Value.slice az nz cz]:=by simp
      rw [e]; exact hs6
     have HI3:Hid (Put7I v L Z (Zo++[(Value.slice az nz cz,lz)]) Y (k+1) false):=zQe ⟨HST.out.1,HST.out.2,by have:=HI.out.len; simp at *; omega⟩;have HO3:=zQe hn6;clear hs5;go_wp2_with fail
     go_roundw
     case rel=>exact ⟨k+1,v6,false,_,_,rfl,by omega,by go_num,rfl,hs6,HI3,HO3⟩
     case measure=>simp [intOf]; omega
    | true =>
     have HG:=zQe hg;clear hg;go_wp2_with (at_builtin; go_must (refine zAE (W:=w10) rfl _ _ rfl rfl (FI.fresh0 w10) zAI rfl (hv2.below zAI) ?_ ?_))
     ·first | (simp; omega) | omega | (have:=HVN.out; simp; omega)
     ·intro vn wn fn bn _;have fn:FI _ wn vn v:=fn;obtain ⟨an,cn,en⟩:=fn.form;rw [HVN.out] at en;subst en;have hsn:=hs.addI bn fn;have hsn:HSx F w wn [aV 25 (.slice (some ⟨g,0,none⟩) n cap) (Z.map Prod.fst),aRs Y,aV 25 vo (Zo.map Prod.fst),aI (.slice an nv cn) v]:=hsn;obtain ⟨wm,hwm⟩:∃wm,wm=wn.alloc (.cells #[.slice an nv cn] 25):=⟨_,rfl⟩;have hsm:=hsn.alloc (.cells #[.slice an nv cn] 25);rw [<-hwm] at hsm;have hcm:wm.cell? ⟨wn.heap.size,0,none⟩=some (.slice an nv cn):=by rw [hwm]; go_simp
      have HWm:=zQe hwm;have honen:(Value.slice an nv cn).oneCell'=true:=oneC fn.reads;clear hwm hsn hs fn bn;go_wp2_with (at_builtin; go_must (rw [<-HWm.out]; refine zAJ rfl _ _ rfl rfl hsm 2 rfl HO.out rfl hcm honen HZol.out ?_))
      intro vi wi hsi hni;have hsj:=(hsi.moreS 1 3 (by decide) rfl rfl (List.Perm.refl _)).pick [0,1,2] (by decide);have hs:HSx F w wi [aV 25 (.slice (some ⟨g,0,none⟩) n cap) (Z.map Prod.fst),aRs ((Value.slice an nv cn,v)::Y),aV 25 vi ((Zo++[(Value.slice an nv cn,v)]).map Prod.fst)]:=by
       have e:(Zo++[(Value.slice an nv cn,v)]).map Prod.fst=Zo.map Prod.fst++[Value.slice an nv cn]:=by simp
       rw [e]; exact hsj
      have HI2:=zQe (HI.out.ins HZ.out HZK.out HG.out (.slice an nv cn));have hcz:=(hs.cellV 0 rfl (j:=k) (r:=.slice az nz cz) (by simp [HZK.out])).1;have HO2:=zQe hni;have HL2:=zQe HI.out.len;have HZo2:Hid (((Zo++[(Value.slice an nv cn,v)]).map Prod.fst).length+1≤67108864):=zQe (by have:=HI.out.len; simp at *; omega);clear hsi hsj hsm hcm honen;obtain ⟨w5,hw5⟩:∃w5,w5=(wi).alloc (.cells #[.slice az nz cz] 25):=⟨_,rfl⟩;have hs5:=hs.alloc (.cells #[.slice az nz cz] 25);rw [<-hw5] at hs5;have hc5:w5.cell? ⟨(wi).heap.size,0,none⟩=some (.slice az nz cz):=by rw [hw5]; go_simp
      have HW:=zQe hw5;have HST:=zQe (zIW HI2.out.1 HI2.out.2 HZ.out HZK.out);clear hw5 hs;go_wp2_with (at_builtin; go_must (rw [<-HW.out]; refine zAJ rfl _ _ rfl rfl hs5 2 rfl HO2.out rfl hc5 honez HZo2.out ?_))
      intro v6 w6 hs6 hn6;have hs6:HSx F w w6 [aV 25 (.slice (some ⟨g,0,none⟩) n cap) (Z.map Prod.fst),aRs ((Value.slice an nv cn,v)::Y),aV 25 v6 (((Zo++[(Value.slice an nv cn,v)])++[(Value.slice az nz cz,lz)]).map Prod.fst)]:=by
       have e:((Zo++[(Value.slice an nv cn,v)])++[(Value.slice az nz cz,lz)]).map Prod.fst=Zo.map Prod.fst++[Value.slice an nv cn,Value.slice az nz cz]:=by simp
       rw [e]; exact hs6
      have HI3:Hid (Put7I v L Z ((Zo++[(Value.slice an nv cn,v)])++[(Value.slice az nz cz,lz)]) ((Value.slice an nv cn,v)::Y) (k+1) true):=zQe ⟨HST.out.1,HST.out.2,by have:=HL2.out; simp at *; omega⟩;have HO3:=zQe hn6;clear hs5;go_wp2_with fail
      go_roundw
      case rel=>exact ⟨k+1,v6,true,_,_,rfl,by omega,by go_num,rfl,hs6,HI3,HO3⟩
      case measure=>simp [intOf]; omega
  ·have i1:¬(k:Int)<(n:Int):=by omega
   have hkz:Z.length≤k:=by rw [HZL.out]; omega
   have HKZ:=zQe hkz;have hv2:=RI.below h' hs.bl;clear hkz;cases pl with
   | true =>
    obtain ⟨e1,e2⟩:=HI.out.endT HKZ.out HZ.out;have hs2:=((((hs.permS 1 rfl e1).pick [2,1] (by decide)).shutF (Z:=Zo) (v:=vo) 0 1 (by decide) rfl rfl).pick [0] (by decide));have hs3:HSx F w wr [aF vo (Zo.map Prod.snd)]:=hs2;rw [e2] at hs3;clear hs hs2 e1 e2;go_wp2_with fail
    go_ret
    rw [HRES.out];exact ⟨_,rfl,hs3⟩
   | false =>
    have HZol:Hid ((Zo.map Prod.fst).length+1≤67108864):=zQe (by have:=HI.out.len; simp at *; omega);go_wp2_with (at_builtin; go_must (refine zAE (W:=wr) rfl _ _ rfl rfl (FI.fresh0 wr) zAI rfl (hv2.below zAI) ?_ ?_))
    ·first | (simp; omega) | omega | (have:=HVN.out; simp; omega)
    ·intro vn wn fn bn _;have fn:FI _ wn vn v:=fn;obtain ⟨an,cn,en⟩:=fn.form;rw [HVN.out] at en;subst en;have hsn:=hs.addI bn fn;have hsn:HSx F w wn [aV 25 (.slice a n cap) (Z.map Prod.fst),aRs Y,aV 25 vo (Zo.map Prod.fst),aI (.slice an nv cn) v]:=hsn;obtain ⟨wm,hwm⟩:∃wm,wm=wn.alloc (.cells #[.slice an nv cn] 25):=⟨_,rfl⟩;have hsm:=hsn.alloc (.cells #[.slice an nv cn] 25);rw [<-hwm] at hsm;have hcm:wm.cell? ⟨wn.heap.size,0,none⟩=some (.slice an nv cn):=by rw [hwm]; go_simp
     have HWm:=zQe hwm;have honen:(Value.slice an nv cn).oneCell'=true:=oneC fn.reads;clear hwm hsn hs fn bn;go_wp2_with (at_builtin; go_must (rw [<-HWm.out]; refine zAJ rfl _ _ rfl rfl hsm 2 rfl HO.out rfl hcm honen HZol.out ?_))
     intro vi wi hsi hni;obtain ⟨e1,e2⟩:=HI.out.endF HKZ.out HZ.out (.slice an nv cn);have hsj:=(hsi.moreS 1 3 (by decide) rfl rfl e1).pick [2,1] (by decide);have hsk:HSx F w wi [aV 25 vi ((Zo++[(Value.slice an nv cn,v)]).map Prod.fst),aRs (Zo++[(Value.slice an nv cn,v)])]:=by
      have e:(Zo++[(Value.slice an nv cn,v)]).map Prod.fst=Zo.map Prod.fst++[Value.slice an nv cn]:=by simp
      rw [e]; exact hsj
     have hs2:=(hsk.shutF 0 1 (by decide) rfl rfl).pick [0] (by decide);have hs3:HSx F w wi [aF vi ((Zo++[(Value.slice an nv cn,v)]).map Prod.snd)]:=hs2;rw [e2] at hs3;clear hsi hsj hsk hs2 e1 e2 hsm;go_wp2_with fail
     go_ret
     rw [HRES.out];exact ⟨_,rfl,hs3⟩
end Go.Proofs.YtiohpndgemonjaaGreat
namespace Go.Proofs.YtiohpndgemonjaaGreat
open Go.RowKit
set_option maxRecDepth 20000
set_option maxHeartbeats 8000000
def zBn (n m:Nat):List (List Int):=(List.range m).foldl (fun o i=>put7 (zAG n i) o) []
theorem zLC (n m:Nat):zBn n (m+1)=put7 (zAG n m) (zBn n m):=by unfold zBn; rw [List.range_succ,List.foldl_append]; rfl
theorem zPI {c:List (List Int)} {f k:Nat} {S:List (List Int)} (h:k<S.length):sBfs c (f+1) k S=sBfs c f (k+1) (sRow c k S):=by rw [sBfs,if_neg (by omega)]
theorem zNk {c:List (List Int)} {f k:Nat} {S:List (List Int)} (h:S.length≤k):sBfs c f k S=S:=by
 cases f with
 | zero=>rfl
 | succ f=>rw [sBfs,if_pos h]
theorem SmI.mono {B B':Int} {l:List Int} (h:SmI B l) (hb:B≤B'):SmI B' l:=fun x hx=>by have:=h x hx; omega
theorem zDj (n i:Nat):SmI 1 (zAG n i):=fun x hx=>by
 unfold zAG at hx;rcases List.mem_or_eq_of_mem_set hx with hx | rfl
 ·have:=(List.mem_replicate.1 hx).2; omega
 ·omega
theorem zIL {n i:Nat} (hi:i<n):(List.range n).drop i=i::(List.range n).drop (i+1):=zAC (by simp [hi])
theorem FinP.isC {c:List (List Int)} (hf:FinP c):isC c=true:=zAM.2 hf.cart
theorem zPL (r:List Int):zAi r≤1∧(0<zAi r→zAi r=1):=by
 unfold zAi;split
 ·omega
 ·split <;> omega
def RuC (c:List (List Int)) (w:World) (e:Ending) (w':World):Prop:=∃o,e=.returned o∧FII (New w w') w' o (zAY c)∧Below w.heap.size w w'
theorem zHt {S0:Nat→Prop} {u:Value} {c:List (List Int)} {w:World} (h:RII S0 w u c) (hf:FinP c) (hl:total c≤16777216) :
  Calls Tryz.prog 87 #[u,.int .i64 12] w (RuC c w):=by
 have HRES:Hid (RuC c w=fun e w'=>∃o,e=.returned o∧FII (New w w') w' o (zAY c)∧Below w.heap.size w w'):=zQe rfl;have hQ:=hf.rq;have hcp:=hf.cart;have h4:c.length≤4:=hcp.le;have hM:=hcp.mx;have HISC:=zQe hf.isC;have HIN:Hid (inR 12 1 12=true):=zQe rfl;have HSR:=zQe (fun (w1:World) (b1:Below w.heap.size w w1) (i:Nat) (hi:i<c.length)=>zGw (h.below b1) hf.isC hl hi);have HRF:=zQe (fun (w1:World) (b1:Below w.heap.size w w1) (i:Nat) (hi:i<c.length) (S9:Nat→Prop) (vv:Value) (x:List Int) (hx:RI S9 w1 vv x) (hxl:x.length=c.length) (hsm:SmI 12 x)=>zIz (h.below b1) hx hM hxl h4 hi (hsm.mono (by omega)));have HML:=zQe (fun (i:Nat) (hi:i<c.length) (x:List Int) (hxl:x.length=c.length) (hsm:SmI 12 x)=>And.intro (zBc c i x) (zHW hM h4 hi hxl (B:=12) (by omega) (by omega) hsm))
 have HQS:Hid (∀x∈(prsL c).map Prod.fst,x.length=c.length∧SmI 12 x):=zQe (fun x hx=>by
  obtain ⟨q,hq,rfl⟩:=List.mem_map.1 hx;refine ⟨(hQ.sh q hq).1,fun y hy=>?_⟩;have h1:=(hQ.ht q hq).1;have h2:=zBi (hQ.nn q hq).1;have h3:=h2.2 y hy;have h4:=(hQ.nn q hq).1 y hy;unfold htR at h1;omega)
 have HBT:Hid (∀m,m≤c.length→(∀x∈zBn c.length m,x.length=c.length∧SmI 12 x)∧(zBn c.length m).length=m):=zQe (fun m hm=>by
  obtain ⟨a,b,d⟩:=zFs hQ m hm;refine ⟨fun x hx=>?_,d⟩;obtain ⟨i,hi,rfl⟩:=(a x).1 hx;exact ⟨zA0 _ _,(zDj _ _).mono (by omega)⟩)
 have HUL:Hid (∀m,(zAG c.length m).length=c.length∧SmI 12 (zAG c.length m)):=zQe (fun m=>⟨zA0 _ _,(zDj _ _).mono (by omega)⟩);have HB0:Hid (zBn c.length 0=[]):=zQe rfl;have HBS:=zQe (fun m=>zLC c.length m);have HI0:Hid (SI7 c (prsL c) 0 (zBn c.length c.length)):=zQe (zKI hQ);have HE0:Hid (sBfs c (40-0) 0 (zBn c.length c.length)=zAY c):=zQe rfl;have HST:=zQe (fun (k:Nat) (S:List (List Int)) (r:List Int) (hr:S[k]? = some r) (hs:∀r∈S,r∈(prsL c).map Prod.fst) (ht:SrtR S) (i:Nat) (hi:i<c.length)=>zI4 hQ hcp hr hs ht hi);have HROW:=zQe (fun (k:Nat) (S:List (List Int)) (h:SI7 c (prsL c) k S) (hk:k<S.length)=>h.row hQ hcp hk);have HSL:=zQe (fun (k:Nat) (S:List (List Int)) (h:SI7 c (prsL c) k S)=>h.len hQ)
 have HSL2:Hid (∀S,SrtR S→(∀r∈S,r∈(prsL c).map Prod.fst)→S.length≤24):=zQe (fun S h1 h2=>by
  have h3:=zBk h1.nodup h2;have:=hQ.len;rw [List.length_map] at h3;omega)
 have HRD:Hid (∀k S,sRow c k S=((List.range c.length).drop 0).foldl (zAl c k) S):=zQe (fun _ _=>rfl);have HSD:Hid (∀k S i,zAl c k S i=if zAi (mirR c i (rwL S k))=1∧htR (mirR c i (rwL S k))≤12∧mirR c i (rwL S k)∉S∧htR (rwL S k)<htR (mirR c i (rwL S k)) then put7 (mirR c i (rwL S k)) S else S):=zQe (fun _ _ _=>rfl);clear hf hQ hcp hM;have h0:=h;obtain ⟨au,cu,rfl⟩:=h.form;generalize hn:c.length=n at *;clear hn;have mixed:Tryz.prog.follows .mixedOrders=true:=by kernel_rfl
 go_enter Tryz.func87,Tryz.ntmps87
 obtain ⟨w1,hw1⟩:∃w1,w1=w.alloc (.cells #[] 25):=⟨_,rfl⟩;have fe:=FII.empty_of (Below.refl _ w) hw1;have hs1:=(HS.nil (Below.refl _ w)).addF fe.2 fe.1;have HW1:=zQe hw1;have hs1:HS w w1 [aF (.slice (some ⟨w.heap.size,0,none⟩) 0 0) (zBn n 0)]:=by rw [HB0.out]; exact hs1
 have hC:=zAT (h0.below hs1.bl) hl;rw [HISC.out] at hC;clear hw1 fe;go_wp2_with fail
 rw [<-HW1.out];go_wp2_with fail
 refine hC.mono ?_;rintro e w0 ⟨rfl,m0,rfl⟩;have hs:=hs1.drewN m0;clear hs1 hC;generalize w1.drewN m0=w2 at *;go_wp2_with fail
 refine (zBF _ _ _ _).mono ?_;rintro e w' ⟨rfl,rfl⟩;rw [HIN.out];go_wp2_with fail
 go_loopw [5,6] (fun oo ii wr=>∃(i:Nat) (vo:Value),vo=oo∧i≤n∧ii=.int .i64 i∧HS w wr [aF vo (zBn n i)]) (fun _ ii _=>n-(intOf ii).toNat)
 case atStart=>exact ⟨0,_,rfl,Nat.zero_le _,rfl,hs⟩
 case round =>
  clear hs;obtain ⟨i,vo,rfl,hi,rfl,hs⟩:=hrel;by_cases hin:i<n
  ·have i1:(i:Int)<(n:Int):=by omega
   have hcall:=HSR.out wr hs.bl i hin;go_wp2_with fail
   refine hcall.mono ?_;rintro e w3 ⟨r3,rfl,f3,b3⟩;have hs:=hs.addI b3 f3;have hs:HS w w3 [aF vo (zBn n i),aI r3 (zAG n i)]:=hs;clear hcall f3 b3;obtain ⟨F,hF,hFn,HBK⟩:=hs.lend 0 rfl;have hcall:=zIq hF hFn (hs.I 1 rfl).reads (fun x hx=>by have:=(HBT.out i hi).1 x hx; exact ⟨by omega,this.2.mono (by omega)⟩) (by rw [(HBT.out i hi).2]; omega) (by rw [(HUL.out i).1]; omega) ((HUL.out i).2.mono (by omega));have HPC:Hid (zH0 F (zAG n i) (zBn n i) w3=fun e w'=>∃r,e=.returned r∧HSx F w3 w' [aF r (put7 (zAG n i) (zBn n i))]):=zQe rfl;rw [HPC.out] at hcall;clear hF HPC;go_wp2_with fail
   refine hcall.mono ?_;rintro e w6 ⟨r6,rfl,h6⟩;rw [<-HBS.out] at h6;have hs7:=(HBK.out w6 _ h6).pick [0] (by decide);have hs7:HS w w6 [aF r6 (zBn n (i+1))]:=hs7;clear hs h6 hcall;go_wp2_with fail
   go_roundw
   case rel=>exact ⟨i+1,r6,rfl,by omega,by go_num,hs7⟩
   case measure=>simp [intOf]; omega
  ·have i1:¬(i:Int)<(n:Int):=by omega
   have e:i=n:=by omega
   rw [e] at hs;clear e hi hin;go_wp2_with fail
   go_loopw [5,7] (fun oo kk wr=>∃(k:Nat) (vo:Value) (S:List (List Int)),vo=oo∧k≤S.length∧kk=.int .i64 k∧HS w wr [aF vo S]∧Hid (SI7 c (prsL c) k S)∧Hid (sBfs c (40-k) k S=zAY c)) (fun _ kk _=>25-(intOf kk).toNat)
   case atStart=>exact ⟨0,_,_,rfl,Nat.zero_le _,rfl,hs,HI0,HE0⟩
   case round =>
    clear hs;obtain ⟨k,vo,S,rfl,hk,rfl,hs,HSI,HBF⟩:=hrel;have hm24:=HSL.out k S HSI.out;have hread:RII _ wr vo S:=(hs.F 0 rfl).read;obtain ⟨aq,cq,rfl⟩:=hread.form;generalize hzl:S.length=m at *;have HZL:=zQe hzl;clear hzl;by_cases hkm:k<m
    ·have i2:(k:Int)<(m:Int):=by omega
     obtain ⟨h1,h2⟩:=HROW.out k S HSI.out (by rw [HZL.out]; exact hkm);have hb:=zPI (c:=c) (f:=39-k) (k:=k) (S:=S) (by rw [HZL.out]; exact hkm);rw [show 39-k+1=40-k by omega,HBF.out] at hb;obtain ⟨xk,hxk⟩:∃x,S[k]? = some x:=⟨S[k]'(by rw [HZL.out]; exact hkm),zQf _⟩;have HXK:=zQe hxk;have HNX:=zQe h1;have HLE:Hid (k+1≤(sRow c k S).length):=zQe (by have:=HZL.out; omega);have HBF2:Hid (sBfs c (40-(k+1)) (k+1) (sRow c k S)=zAY c):=zQe (by rw [hb,show 40-(k+1)=39-k by omega]);have HR0:=zQe (HRD.out k S).symm;have HSUB:=zQe HSI.out.sub;have HSRT:=zQe HSI.out.srt;obtain ⟨hxl,hxs⟩:=HQS.out xk (HSI.out.sub xk (zQg hxk));have HXL:=zQe hxl;have HXS:=zQe hxs;obtain ⟨Rr,hRr⟩:∃Rr,Rr=sRow c k S:=⟨_,rfl⟩;rw [<-hRr] at HR0 HBF2 HLE HNX;clear h1 h2 hb hxk hread hRr hxl hxs;go_wp2_with fail
     go_loopw [5,8] (fun qq ii wr=>∃(i:Nat) (vo:Value) (S:List (List Int)),vo=qq∧i≤n∧ii=.int .i64 i∧HS w wr [aF vo S]∧Hid (((List.range n).drop i).foldl (zAl c k) S=Rr)∧Hid (∀r∈S,r∈(prsL c).map Prod.fst)∧Hid (SrtR S)∧Hid (S[k]? = some xk)) (fun _ ii _=>n-(intOf ii).toNat)
     case atStart=>exact ⟨0,_,S,rfl,Nat.zero_le _,rfl,hs,HR0,HSUB,HSRT,HXK⟩
     case round =>
      clear hs HXK HSUB HSRT;obtain ⟨i,vo,S,rfl,hi,rfl,hs,HR9,HSUB,HSRT,HXK⟩:=hrel;have hz24:=HSL2.out S HSRT.out HSUB.out;have hk2:k<S.length:=(zQh HXK.out).1;have hread:RII _ wr vo S:=(hs.F 0 rfl).read;obtain ⟨aq,cq,rfl⟩:=hread.form;generalize hzl:S.length=m2 at *;have HZL:=zQe hzl;clear hzl;by_cases hin:i<n
      ·have i3:(i:Int)<(n:Int):=by omega
       have i4:(k:Int)<(m2:Int):=by omega
       obtain ⟨bk,ok,rk,xk',rfl,hck,hrk,hxk⟩:=RII.at hread hk2;have exk:xk'=xk:=by have:=hxk.out; rw [HXK.out] at this; simpa using this.symm
       subst exk;have hcall:=HRF.out wr hs.bl i hin _ _ _ hrk HXL.out HXS.out;have h9:=HR9.out;rw [zIL hin,List.foldl_cons] at h9;have HST1:=zQe h9;have HSO:=zQe (HST.out k S xk' HXK.out HSUB.out HSRT.out i hin);have HDS:=HSD.out k S i;rw [show rwL S k=xk' by unfold rwL; rw [HXK.out]; rfl] at HDS;have HDS:=zQe HDS;obtain ⟨g1,g2⟩:=HML.out i hin xk' HXL.out HXS.out;have hxh:-48≤htR xk'∧htR xk'≤48:=by have:=zBa (B:=12) (by omega) HXS.out; have:=HXL.out; unfold htR; omega
       have hmh:-624≤htR (mirR c i xk')∧htR (mirR c i xk')≤624:=by have:=zBa (B:=13*12) (by omega) g2; have:=HXL.out; unfold htR; omega
       have HXM:Hid (∀x∈S,x.length≤16777216):=zQe (fun x hx=>by have:=(HQS.out x (HSUB.out x hx)).1; omega);have HXQ:Hid (∀x∈S,x.length≤1000∧SmI 100000 x):=zQe (fun x hx=>by have:=HQS.out x (HSUB.out x hx); exact ⟨by omega,this.2.mono (by omega)⟩);have HG1:Hid ((mirR c i xk').length≤1000):=zQe (by have:=HXL.out; omega);have HG2:Hid (SmI 100000 (mirR c i xk')):=zQe (g2.mono (by omega));obtain ⟨y,hy⟩:∃y,y=mirR c i xk':=⟨_,rfl⟩;rw [<-hy] at hcall HDS hmh HG1 HG2 HSO;have HY:=zQe hy;clear h9 hy g1 g2 hread hrk;go_wp2_with fail
       refine hcall.mono ?_;rintro e w3 ⟨r3,rfl,f3,b3⟩;have hs:=hs.addI b3 f3;have hs:HS w w3 [aF (.slice (some ⟨bk,ok,none⟩) m2 cq) S,aI r3 y]:=hs;clear f3 b3 hck hcall;have hread:RII _ w3 (.slice (some ⟨bk,ok,none⟩) m2 cq) S:=(hs.F 0 rfl).read;obtain ⟨bk',ok',rk2,xk2,ek,hck,hrk,hxk2⟩:=RII.at hread hk2;simp only [Option.some.injEq,Addr.mk.injEq,and_true] at ek;obtain ⟨rfl,rfl⟩:=ek;have exk:xk2=xk':=by have:=hxk2.out; rw [HXK.out] at this; simpa using this.symm
       subst exk;have hr3:=(hs.I 1 rfl).reads;have HC1:=zQe (fun m=>zMT (hr3.drewN m));have HC2:=zQe (fun m=>zDA (hr3.drewN m) HG2.out HG1.out);have HC3:=zQe (fun m=>zIV (hread.drewN m) (hr3.drewN m) HXM.out (by rw [HZL.out]; omega) (by have:=HG1.out; omega));have HC4:=zQe (fun m=>zDA (hrk.drewN m) (HXS.out.mono (by omega)) (by rw [HXL.out]; omega));have HSG:=zQe (zPL y);have HIV:Hid (inV S y=decide (y∈S)):=zQe rfl;obtain ⟨sg,hsg⟩:∃sg,sg=zAi y:=⟨_,rfl⟩;obtain ⟨p,hp⟩:∃p,p=htR y:=⟨_,rfl⟩;obtain ⟨q,hq⟩:∃q,q=htR xk2:=⟨_,rfl⟩;rw [<-hsg] at HC1 HSG HDS;rw [<-hp] at HC2 HDS hmh;rw [<-hq] at HC4 HDS hxh;clear hsg hp hq hr3 hrk hread hxk hxk2;obtain ⟨p1,p2⟩:=hmh;obtain ⟨q1,q2⟩:=hxh;by_cases hA:sg=1
       ·subst hA;by_cases hB:p≤12
        ·cases hI:inV S y with
         | true =>
          rw [hI] at HC3;have HYI:Hid (y∈S):=zQe (by have:=HIV.out; rw [hI] at this; exact of_decide_eq_true this.symm);have HNO:Hid (zAl c k S i=S):=zQe (by rw [HDS.out]; exact if_neg (fun h=>h.2.2.1 HYI.out));clear hI;rw [HNO.out] at HST1;go_wp2_with fail
          go_quiet (first | (go_at_call 121; exact Calls.quiet_of (HC1.out _)) | (go_at_call_of 122 (r3); exact Calls.quiet_of (HC2.out _)) | (go_at_call 63; exact Calls.quiet_of (HC3.out _)) | (go_at_call_of 122 (rk2); exact Calls.quiet_of (HC4.out _)))
          have hs7:=(hs.drewN nq).pick [0] (by decide);have hs7:HS w (w3.drewN nq) [aF (.slice (some ⟨bk,ok,none⟩) m2 cq) S]:=hs7;clear hs;go_wp2_with fail
          go_roundw
          case rel=>exact ⟨i+1,_,S,rfl,by omega,by go_num,hs7,HST1,HSUB,HSRT,HXK⟩
          case measure=>simp [intOf]; omega
         | false =>
          rw [hI] at HC3;have HYI:Hid (y∉S):=zQe (by have:=HIV.out; rw [hI] at this; exact of_decide_eq_false this.symm);clear hI;by_cases hD:q<p
          ·have HYES:Hid (zAl c k S i=put7 y S):=zQe (by rw [HDS.out]; exact if_pos ⟨rfl,hB,HYI.out,hD⟩);go_wp2_with fail
           go_quiet (first | (go_at_call 121; exact Calls.quiet_of (HC1.out _)) | (go_at_call_of 122 (r3); exact Calls.quiet_of (HC2.out _)) | (go_at_call 63; exact Calls.quiet_of (HC3.out _)) | (go_at_call_of 122 (rk2); exact Calls.quiet_of (HC4.out _)))
           go_wp2_with fail
           have hs:=hs.drewN nq;have hs:HS w (w3.drewN nq) [aF (.slice (some ⟨bk,ok,none⟩) m2 cq) S,aI r3 y]:=hs;generalize w3.drewN nq=w4 at *;obtain ⟨F,hF,hFn,HBK⟩:=hs.lend 0 rfl;have hcall:=zIq hF hFn (hs.I 1 rfl).reads HXQ.out (by rw [HZL.out]; omega) HG1.out HG2.out;have HPC:Hid (zH0 F y S w4=fun e w'=>∃r,e=.returned r∧HSx F w4 w' [aF r (put7 y S)]):=zQe rfl;rw [HPC.out] at hcall;clear hF HPC;refine hcall.mono ?_;rintro e w6 ⟨r6,rfl,h6⟩;rw [<-HYES.out] at h6;have hs7:=(HBK.out w6 _ h6).pick [0] (by decide);have hs7:HS w w6 [aF r6 (zAl c k S i)]:=hs7;have HK2:Hid ((zAl c k S i)[k]? = some xk2):=zQe (by rw [HSO.out.2.2.2.1 k (zQj _)]; exact HXK.out);have HN1:=zQe HSO.out.1;have HN2:=zQe HSO.out.2.1;clear hs h6 hcall;go_wp2_with fail
           go_roundw
           case rel=>exact ⟨i+1,r6,_,rfl,by omega,by go_num,hs7,HST1,HN1,HN2,HK2⟩
           case measure=>simp [intOf]; omega
          ·have HNO:Hid (zAl c k S i=S):=zQe (by rw [HDS.out]; exact if_neg (fun h=>hD h.2.2.2));rw [HNO.out] at HST1;go_wp2_with fail
           go_quiet (first | (go_at_call 121; exact Calls.quiet_of (HC1.out _)) | (go_at_call_of 122 (r3); exact Calls.quiet_of (HC2.out _)) | (go_at_call 63; exact Calls.quiet_of (HC3.out _)) | (go_at_call_of 122 (rk2); exact Calls.quiet_of (HC4.out _)))
           have hs7:=(hs.drewN nq).pick [0] (by decide);have hs7:HS w (w3.drewN nq) [aF (.slice (some ⟨bk,ok,none⟩) m2 cq) S]:=hs7;clear hs;go_wp2_with fail
           go_roundw
           case rel=>exact ⟨i+1,_,S,rfl,by omega,by go_num,hs7,HST1,HSUB,HSRT,HXK⟩
           case measure=>simp [intOf]; omega
        ·have HNO:Hid (zAl c k S i=S):=zQe (by rw [HDS.out]; exact if_neg (fun h=>hB h.2.1));have fB:decide (p≤12)=false:=decide_eq_false hB;rw [HNO.out] at HST1;go_wp2_with fail
         go_quiet (first | (go_at_call 121; exact Calls.quiet_of (HC1.out _)) | (go_at_call_of 122 (r3); exact Calls.quiet_of (HC2.out _)) | (go_at_call 63; exact Calls.quiet_of (HC3.out _)) | (go_at_call_of 122 (rk2); exact Calls.quiet_of (HC4.out _)))
         have hs7:=(hs.drewN nq).pick [0] (by decide);have hs7:HS w (w3.drewN nq) [aF (.slice (some ⟨bk,ok,none⟩) m2 cq) S]:=hs7;clear hs;go_wp2_with fail
         go_roundw
         case rel=>exact ⟨i+1,_,S,rfl,by omega,by go_num,hs7,HST1,HSUB,HSRT,HXK⟩
         case measure=>simp [intOf]; omega
       ·have HNO:Hid (zAl c k S i=S):=zQe (by rw [HDS.out]; exact if_neg (fun h=>hA h.1));have hA2:¬0<sg:=by have:=HSG.out; omega
        have fA:decide (0<sg)=false:=decide_eq_false hA2;rw [HNO.out] at HST1;go_wp2_with fail
        go_quiet (first | (go_at_call 121; exact Calls.quiet_of (HC1.out _)) | (go_at_call_of 122 (r3); exact Calls.quiet_of (HC2.out _)) | (go_at_call 63; exact Calls.quiet_of (HC3.out _)) | (go_at_call_of 122 (rk2); exact Calls.quiet_of (HC4.out _)))
        have hs7:=(hs.drewN nq).pick [0] (by decide);have hs7:HS w (w3.drewN nq) [aF (.slice (some ⟨bk,ok,none⟩) m2 cq) S]:=hs7;clear hs;go_wp2_with fail
        go_roundw
        case rel=>exact ⟨i+1,_,S,rfl,by omega,by go_num,hs7,HST1,HSUB,HSRT,HXK⟩
        case measure=>simp [intOf]; omega
      ·have i3:¬(i:Int)<(n:Int):=by omega
       have h9:=HR9.out;rw [List.drop_eq_nil_of_le (by simp; omega),List.foldl_nil] at h9;rw [h9] at hs;clear h9 hread;go_wp2_with fail
       go_roundw
       case rel=>exact ⟨k+1,_,_,rfl,HLE.out,by go_num,hs,HNX,HBF2⟩
       case measure=>simp [intOf]; omega
    ·have i2:¬(k:Int)<(m:Int):=by omega
     have hb:=zNk (c:=c) (f:=40-k) (k:=k) (S:=S) (by rw [HZL.out]; omega);rw [HBF.out] at hb;rw [<-hb] at hs;clear hb hread;go_wp2_with fail
     go_ret
     rw [HRES.out];exact ⟨_,rfl,hs.F 0 rfl,hs.bl⟩
section
variable {c:List (List Int)} {Q:List Pr}
end
theorem zCG {c:List (List Int)} (h:finB c=true):FinP c:=by
 unfold finB at h;rw [Bool.and_eq_true] at h;exact ⟨zAM.1 h.1,h.2⟩
theorem zI0 {c:List (List Int)} (h:FinP c):∀x∈zAY c,x∈(prsL c).map Prod.fst:=fun x hx=>((zDe h.rq h.cart).2 x).1 hx
def prR (c:List (List Int)):List (List Int):=if finB c=true then zAY c else []
def PrC (c:List (List Int)) (w:World) (e:Ending) (w':World):Prop:=∃r,e=.returned (.tuple #[r,.bool (finB c)])∧FII (New w w') w' r (prR c)∧Below w.heap.size w w'
theorem zFJ {S0:Nat→Prop} {u:Value} {c:List (List Int)} {w:World} (h:RII S0 w u c) (hl:total c≤16777216) :
  Calls Tryz.prog 62 #[u] w (PrC c w):=by
 have HRES:Hid (PrC c w=fun e w'=>∃r,e=.returned (.tuple #[r,.bool (finB c)])∧FII (New w w') w' r (prR c)∧Below w.heap.size w w'):=zQe rfl;have hF:=zBr h hl;have h0:=h;obtain ⟨au,cu,rfl⟩:=h.form;generalize c.length=n at *;cases hB:finB c with
 | false =>
  rw [hB] at hF;have HR:Hid (prR c=[]):=zQe (by unfold prR; rw [hB]; rfl);have HBB:=zQe hB;clear hB;go_enter Tryz.func62,Tryz.ntmps62
  go_wp2_with fail
  refine hF.mono ?_;rintro e w1 ⟨rfl,b1⟩;have hfe:=FII.empty_of b1 (w1:=w1.alloc (.cells #[] 25)) rfl;go_wp2_with fail
  go_ret2
  rw [HRES.out];exact ⟨_,by rw [HBB.out]; rfl,by rw [HR.out]; exact hfe.1,hfe.2⟩
 | true =>
  have hf:=zCG hB;rw [hB] at hF;have HR:Hid (prR c=zAY c):=zQe (by unfold prR; rw [hB]; rfl);have HBB:=zQe hB;have HC:=zQe (fun (w1:World) (b1:Below w.heap.size w w1)=>zHt (h0.below b1) hf hl);clear hB hf;go_enter Tryz.func62,Tryz.ntmps62
  go_wp2_with fail
  refine hF.mono ?_;rintro e w1 ⟨rfl,b1⟩;have hcall:=HC.out w1 b1;have HRU:Hid (RuC c w1=fun e w'=>∃o,e=.returned o∧FII (New w1 w') w' o (zAY c)∧Below w1.heap.size w1 w'):=zQe rfl;rw [HRU.out] at hcall;clear HRU;go_wp2_with fail
  refine hcall.mono ?_;rintro e w2 ⟨r,rfl,f2,b2⟩;have hz:=b1.size;have f3:=FC.mono f2 (S':=New w w2) (fun b hb=>⟨Nat.le_trans hz hb.1,hb.2⟩);clear hcall;go_wp2_with fail
  go_ret2
  rw [HRES.out];exact ⟨_,by rw [HBB.out]; rfl,by rw [HR.out]; exact f3,zAA.step b1 b2⟩
end Go.Proofs.YtiohpndgemonjaaGreat
