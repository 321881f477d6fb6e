/- Heights and signs of root vectors; reflections and transposed matrices, both. Condition: sizes up to 2^24; numbers up to 1000 in reflections. -/
import Derived.Test.YtphbichgpcicnaaGreatDoorJGRtP
import Derived.Test.YtphbichgpcicnaaGreatDoorJGSymS
import Derived.Test.YtphbichgpcicnaaGreatDoorJGInV
namespace Go.Proofs.YtphbichgpcicnaaGreatDoor
open Go.RowKit
set_option maxRecDepth 20000
set_option maxHeartbeats 8000000
def SmI (B:Int) (l:List Int):Prop:=∀x∈l,-B≤x∧x≤B
theorem zBF {B:Int} (hB:0≤B):∀{l:List Int},SmI B l→-(B*l.length)≤sumL l∧sumL l≤B*l.length
 | [],_=>by simp [sumL]
 | x::l,h=>by
  obtain ⟨a,b⟩:=zBF hB (l:=l) (fun y hy=>h y (List.mem_cons_of_mem _ hy));obtain ⟨c,d⟩:=h x (List.mem_cons_self ..);rw [zBm];simp only [List.length_cons,Int.natCast_add,Int.mul_add];omega
theorem zBL {S:Nat→Prop} {v:Value} {r:List Int} {w:World} (h:RI S w v r) (hs:SmI 100000 r) (hl:r.length≤1000) :
  Calls Tryz.prog 55 #[v] w fun e w'=>e=.returned (.int .i64 (htR r))∧∃m,w'=w.drewN m:=by
 obtain ⟨a,cap,rfl⟩:=h.form;have HB:Hid (∀k,-100000000≤sumL (r.take k)∧sumL (r.take k)≤100000000):=zWF (fun k=>by
  have:=zBF (B:=100000) (by omega) (l:=r.take k) (fun x hx=>hs x (List.mem_of_mem_take hx));have h2:(r.take k).length≤r.length:=by rw [List.length_take]; omega
  omega)
 have HX:Hid (∀(k:Nat) (x:Int),r[k]? = some x→sumL (r.take (k+1))=sumL (r.take k)+x∧-100000≤x∧x≤100000):=zWF (fun k x hx=>⟨zGO hx,hs x (zWH hx)⟩);have HE:Hid (sumL (r.take r.length)=htR r):=zWF (by rw [List.take_length]);have H0:Hid (sumL (r.take 0)=0):=zWF rfl;generalize hn:r.length=n at *;clear hn hs;go_enter Tryz.func55,Tryz.ntmps55
 go_wp2_with fail
 go_loop [3,4] (fun s i=>∃k:Nat,k≤n∧i=.int .i64 k∧s=.int .i64 (sumL (r.take k))) (fun _ i=>n-(intOf i).toNat)
 case atStart=>exact ⟨0,Nat.zero_le _,rfl,by rw [H0.out]⟩
 case round =>
  obtain ⟨k,hk,rfl,rfl⟩:=hrel;by_cases hlt:k<n
  ·have i1:(k:Int)<(n:Int):=by omega
   obtain ⟨b,o,x,rfl,hc,hx⟩:=h.at hlt;obtain ⟨s1,s2,s3⟩:=HX.out k x hx.out;have HS:=zWF s1;obtain ⟨t1,t2⟩:=HB.out k;clear s1 hx;generalize sumL (r.take k)=q at *;go_wp2_with fail
   go_round
   case rel=>exact ⟨k+1,by omega,by go_num,by rw [HS.out]⟩
   case measure=>simp [intOf]; omega
  ·have i1:¬(k:Int)<(n:Int):=by omega
   have hkn:k=n:=by omega
   have HR:Hid (sumL (r.take k)=htR r):=zWF (by rw [hkn,HE.out]);rw [HR.out];clear hkn;go_wp2_with fail
   go_ret
   exact ⟨rfl,dr0⟩
theorem zCT {S:Nat→Prop} {v:Value} {r:List Int} {w:World} (h:RI S w v r) (hs:SmI 100000 r) (hl:r.length≤1000) :
  Calls Tryz.prog 50 #[v] w fun e w'=>e=.returned (.int .i64 (htR r))∧∃m,w'=w.drewN m:=by
 obtain ⟨a,cap,rfl⟩:=h.form;have HB:Hid (∀k,-100000000≤sumL (r.take k)∧sumL (r.take k)≤100000000):=zWF (fun k=>by
  have:=zBF (B:=100000) (by omega) (l:=r.take k) (fun x hx=>hs x (List.mem_of_mem_take hx));have h2:(r.take k).length≤r.length:=by rw [List.length_take]; omega
  omega)
 have HX:Hid (∀(k:Nat) (x:Int),r[k]? = some x→sumL (r.take (k+1))=sumL (r.take k)+x∧-100000≤x∧x≤100000):=zWF (fun k x hx=>⟨zGO hx,hs x (zWH hx)⟩);have HE:Hid (sumL (r.take r.length)=htR r):=zWF (by rw [List.take_length]);have H0:Hid (sumL (r.take 0)=0):=zWF rfl;generalize hn:r.length=n at *;clear hn hs;go_enter Tryz.func50,Tryz.ntmps50
 go_wp2_with fail
 go_loop [3,8] (fun s i=>∃k:Nat,k≤n∧i=.int .i64 k∧s=.int .i64 (sumL (r.take k))) (fun _ i=>n-(intOf i).toNat)
 case atStart=>exact ⟨0,Nat.zero_le _,rfl,by rw [H0.out]⟩
 case round =>
  obtain ⟨k,hk,rfl,rfl⟩:=hrel;by_cases hlt:k<n
  ·have i1:(k:Int)<(n:Int):=by omega
   obtain ⟨b,o,x,rfl,hc,hx⟩:=h.at hlt;obtain ⟨s1,s2,s3⟩:=HX.out k x hx.out;have HS:=zWF s1;obtain ⟨t1,t2⟩:=HB.out k;clear s1 hx;generalize sumL (r.take k)=q at *;go_wp2_with fail
   go_round
   case rel=>exact ⟨k+1,by omega,by go_num,by rw [HS.out]⟩
   case measure=>simp [intOf]; omega
  ·have i1:¬(k:Int)<(n:Int):=by omega
   have hkn:k=n:=by omega
   have HR:Hid (sumL (r.take k)=htR r):=zWF (by rw [hkn,HE.out]);rw [HR.out];clear hkn;go_wp2_with fail
   go_ret
   exact ⟨rfl,dr0⟩
theorem zLc {r:List Int} {k:Nat} {x:Int} (h:r[k]? = some x):upB (r.take (k+1))=(upB (r.take k) || decide (0<x)):=by rw [zAG h]; simp [upB]
theorem zKM {r:List Int} {k:Nat} {x:Int} (h:r[k]? = some x):dnB (r.take (k+1))=(dnB (r.take k) || decide (x<0)):=by rw [zAG h]; simp [dnB]
theorem zJP {S:Nat→Prop} {v:Value} {r:List Int} {w:World} (h:RI S w v r) :
  Calls Tryz.prog 86 #[v] w fun e w'=>e=.returned (.int .i64 (zAk r))∧∃m,w'=w.drewN m:=by
 have hsm:=h.small;obtain ⟨a,cap,rfl⟩:=h.form;have HX:Hid (∀(k:Nat) (x:Int),r[k]? = some x→upB (r.take (k+1))=(upB (r.take k) || decide (0<x))∧dnB (r.take (k+1))=(dnB (r.take k) || decide (x<0))):=zWF (fun k x hx=>⟨zLc hx,zKM hx⟩);have HE:Hid (r.take r.length=r):=zWF (by rw [List.take_length]);have H0:Hid (upB (r.take 0)=false∧dnB (r.take 0)=false):=zWF ⟨rfl,rfl⟩;have HSG:Hid (zAk r=if upB r=true∧dnB r=false then 1 else if dnB r=true∧upB r=false then -1 else 0):=zWF rfl;generalize hn:r.length=n at *;clear hn;unfold maxLen at hsm;go_enter Tryz.func86,Tryz.ntmps86
 go_wp2_with fail
 go_loop [3,4,5] (fun s t i=>∃k:Nat,k≤n∧i=.int .i64 k∧s=.bool (upB (r.take k))∧t=.bool (dnB (r.take k))) (fun _ _ i=>n-(intOf i).toNat)
 case atStart=>exact ⟨0,Nat.zero_le _,rfl,by rw [H0.out.1],by rw [H0.out.2]⟩
 case round =>
  obtain ⟨k,hk,rfl,rfl,rfl⟩:=hrel;by_cases hlt:k<n
  ·have i1:(k:Int)<(n:Int):=by omega
   obtain ⟨b,o,x,rfl,hc,hx⟩:=h.at hlt;obtain ⟨s1,s2⟩:=HX.out k x hx.out;have HU:=zWF s1;have HD:=zWF s2;clear s1 s2 hx;generalize upB (r.take k)=p at *;generalize dnB (r.take k)=q at *;rcases Int.lt_trichotomy x 0 with hx | hx | hx
   ·have H1:Hid (decide (0<x)=false):=zWF (decide_eq_false (by omega));have H2:Hid (decide (x<0)=true):=zWF (decide_eq_true hx);have hx2:¬0<x:=by omega
    cases p <;> cases q;all_goals
     go_wp2_with fail
     go_round
     case rel=>exact ⟨k+1,by omega,by go_num,by rw [HU.out,H1.out]; rfl,by rw [HD.out,H2.out]; rfl⟩
     case measure=>simp [intOf]; omega
   ·have H1:Hid (decide (0<x)=false):=zWF (decide_eq_false (by omega));have H2:Hid (decide (x<0)=false):=zWF (decide_eq_false (by omega));have hx2:¬0<x:=by omega
    have hx3:¬x<0:=by omega
    clear hx;cases p <;> cases q;all_goals
     go_wp2_with fail
     go_round
     case rel=>exact ⟨k+1,by omega,by go_num,by rw [HU.out,H1.out]; rfl,by rw [HD.out,H2.out]; rfl⟩
     case measure=>simp [intOf]; omega
   ·have H1:Hid (decide (0<x)=true):=zWF (decide_eq_true hx);have H2:Hid (decide (x<0)=false):=zWF (decide_eq_false (by omega));have hx3:¬x<0:=by omega
    cases p <;> cases q;all_goals
     go_wp2_with fail
     go_round
     case rel=>exact ⟨k+1,by omega,by go_num,by rw [HU.out,H1.out]; rfl,by rw [HD.out,H2.out]; rfl⟩
     case measure=>simp [intOf]; omega
  ·have i1:¬(k:Int)<(n:Int):=by omega
   have hkn:k=n:=by omega
   have HT:Hid (r.take k=r):=zWF (by rw [hkn,HE.out]);rw [HT.out];clear hkn;generalize upB r=p at *;generalize dnB r=q at *;cases p <;> cases q;all_goals
    go_wp2_with fail
    go_ret
    exact ⟨zAP (by rw [HSG.out]; rfl),dr0⟩
theorem zPk {S:Nat→Prop} {v:Value} {r:List Int} {w:World} (h:RI S w v r) :
  Calls Tryz.prog 71 #[v] w fun e w'=>e=.returned (.int .i64 (zAk r))∧∃m,w'=w.drewN m:=by
 have hsm:=h.small;obtain ⟨a,cap,rfl⟩:=h.form;have HX:Hid (∀(k:Nat) (x:Int),r[k]? = some x→upB (r.take (k+1))=(upB (r.take k) || decide (0<x))∧dnB (r.take (k+1))=(dnB (r.take k) || decide (x<0))):=zWF (fun k x hx=>⟨zLc hx,zKM hx⟩);have HE:Hid (r.take r.length=r):=zWF (by rw [List.take_length]);have H0:Hid (upB (r.take 0)=false∧dnB (r.take 0)=false):=zWF ⟨rfl,rfl⟩;have HSG:Hid (zAk r=if upB r=true∧dnB r=false then 1 else if dnB r=true∧upB r=false then -1 else 0):=zWF rfl;generalize hn:r.length=n at *;clear hn;unfold maxLen at hsm;go_enter Tryz.func71,Tryz.ntmps71
 go_wp2_with fail
 go_loop [3,4,9] (fun s t i=>∃k:Nat,k≤n∧i=.int .i64 k∧s=.bool (upB (r.take k))∧t=.bool (dnB (r.take k))) (fun _ _ i=>n-(intOf i).toNat)
 case atStart=>exact ⟨0,Nat.zero_le _,rfl,by rw [H0.out.1],by rw [H0.out.2]⟩
 case round =>
  obtain ⟨k,hk,rfl,rfl,rfl⟩:=hrel;by_cases hlt:k<n
  ·have i1:(k:Int)<(n:Int):=by omega
   obtain ⟨b,o,x,rfl,hc,hx⟩:=h.at hlt;obtain ⟨s1,s2⟩:=HX.out k x hx.out;have HU:=zWF s1;have HD:=zWF s2;clear s1 s2 hx;generalize upB (r.take k)=p at *;generalize dnB (r.take k)=q at *;rcases Int.lt_trichotomy x 0 with hx | hx | hx
   ·have H1:Hid (decide (0<x)=false):=zWF (decide_eq_false (by omega));have H2:Hid (decide (x<0)=true):=zWF (decide_eq_true hx);have hx2:¬0<x:=by omega
    cases p <;> cases q;all_goals
     go_wp2_with fail
     go_round
     case rel=>exact ⟨k+1,by omega,by go_num,by rw [HU.out,H1.out]; rfl,by rw [HD.out,H2.out]; rfl⟩
     case measure=>simp [intOf]; omega
   ·have H1:Hid (decide (0<x)=false):=zWF (decide_eq_false (by omega));have H2:Hid (decide (x<0)=false):=zWF (decide_eq_false (by omega));have hx2:¬0<x:=by omega
    have hx3:¬x<0:=by omega
    clear hx;cases p <;> cases q;all_goals
     go_wp2_with fail
     go_round
     case rel=>exact ⟨k+1,by omega,by go_num,by rw [HU.out,H1.out]; rfl,by rw [HD.out,H2.out]; rfl⟩
     case measure=>simp [intOf]; omega
   ·have H1:Hid (decide (0<x)=true):=zWF (decide_eq_true hx);have H2:Hid (decide (x<0)=false):=zWF (decide_eq_false (by omega));have hx3:¬x<0:=by omega
    cases p <;> cases q;all_goals
     go_wp2_with fail
     go_round
     case rel=>exact ⟨k+1,by omega,by go_num,by rw [HU.out,H1.out]; rfl,by rw [HD.out,H2.out]; rfl⟩
     case measure=>simp [intOf]; omega
  ·have i1:¬(k:Int)<(n:Int):=by omega
   have hkn:k=n:=by omega
   have HT:Hid (r.take k=r):=zWF (by rw [hkn,HE.out]);rw [HT.out];clear hkn;generalize upB r=p at *;generalize dnB r=q at *;cases p <;> cases q;all_goals
    go_wp2_with fail
    go_ret
    exact ⟨zAP (by rw [HSG.out]; rfl),dr0⟩
structure Mx (M:List (List Int)) (n:Nat):Prop where
 len:M.length=n
 row:∀l∈M,l.length=n
 ent:∀l∈M,∀x∈l,-3≤x∧x≤3
theorem CartanP.mx {c:List (List Int)} (hc:CartanP c):Mx c c.length:=by
 refine ⟨rfl,hc.row,fun l hl x hx=>?_⟩;obtain ⟨i,hi⟩:=List.getElem?_of_mem hl;obtain ⟨j,hj⟩:=List.getElem?_of_mem hx;have li:=(zWI hi).1;have lj:j<c.length:=by rw [<-hc.row l hl]; exact (zWI hj).1
 have e:ent c i j=x:=by unfold ent; rw [hi]; simp [hj]
 by_cases h:i=j
 ·subst h;have:=hc.car.diag i li;rw [e] at this; omega
 ·have:=hc.car.off i j li lj h;rw [e] at this; omega
theorem CartanP.mxT {c:List (List Int)} (hc:CartanP c):Mx (trL c) c.length:=by
 refine ⟨zOG c,fun l hl=>?_,fun l hl x hx=>?_⟩
 ·obtain ⟨i,_,rfl⟩:=List.mem_map.1 hl; simp
 ·obtain ⟨i,hi,rfl⟩:=List.mem_map.1 hl;obtain ⟨j,hj,rfl⟩:=List.mem_map.1 hx;have li:=List.mem_range.1 hi;have lj:=List.mem_range.1 hj;by_cases h:j=i
  ·subst h;have:=hc.car.diag j lj;omega
  ·have:=hc.car.off j i lj li h;omega
theorem zLP (f g:Nat→Int):∀k,smI (fun j=>f j*g j) k=Cox.dotN f g k
 | 0=>rfl
 | k+1=>by simp only [smI,Cox.dotN,zLP f g k]
theorem zFD {f g:Nat→Int} {A B:Int} (hA:0≤A) (hB:0≤B):∀{n:Nat},(∀k,k<n→-A≤f k∧f k≤A)→(∀k,k<n→-B≤g k∧g k≤B)→-(A*B*n)≤Cox.dotN f g n∧Cox.dotN f g n≤A*B*n
 | 0,_,_=>by simp [Cox.dotN]
 | n+1,hf,hg=>by
  obtain ⟨a,b⟩:=zFD hA hB (n:=n) (fun k hk=>hf k (by omega)) (fun k hk=>hg k (by omega));obtain ⟨c1,c2⟩:=hf n (by omega);obtain ⟨d1,d2⟩:=hg n (by omega);have h1:f n*g n≤A*B∧-(A*B)≤f n*g n:=by
   have h:(f n*g n).natAbs≤(A*B).natAbs:=by
    rw [Int.natAbs_mul,Int.natAbs_mul];exact Nat.mul_le_mul (by omega) (by omega)
   have h2:0≤A*B:=Int.mul_nonneg hA hB;omega
  simp only [Cox.dotN,Int.natCast_add,Int.mul_add];omega
theorem zHU {l r:List Int} {n:Nat} (hl:l.length=n) (hr:r.length=n) (hn:n≤4) (h3:∀x∈l,-3≤x∧x≤3) (hs:SmI 1000 r):prI l r n=dotL l r∧-12000≤dotL l r∧dotL l r≤12000:=by
 have e:dotL l r=Cox.dotN (num l) (num r) n:=zCx hl hr;obtain ⟨a,b⟩:=zFD (f:=num l) (g:=num r) (A:=3) (B:=1000) (by omega) (by omega) (n:=n) (fun k hk=>by have:=h3 _ (zBB hl hk); omega) (fun k hk=>hs _ (zBB hr hk));rw [zK4,zLP,e];refine ⟨?_,by omega,by omega⟩;unfold wrap64; omega
theorem Mx.at {M:List (List Int)} {n i:Nat} (h:Mx M n) {l:List Int} (hl:M[i]? = some l):l.length=n∧(∀x∈l,-3≤x∧x≤3)∧rwL M i=l:=⟨h.row l (zWH hl),h.ent l (zWH hl),by unfold rwL; rw [hl]; rfl⟩
theorem zEW {M:List (List Int)} {n i:Nat} (h:Mx M n) (hn:n≤4) (hi:i<n) {r:List Int} (hr:r.length=n) {B:Int} (hB:0≤B) (hB2:B≤1000) (hs:SmI B r):SmI (13*B) (mirR M i r):=by
 have e:M[i]? = some (M[i]'(by rw [h.len]; exact hi)):=zWG _;obtain ⟨h1,h2,h3⟩:=h.at e;obtain ⟨a,b⟩:=zFD (f:=num (rwL M i)) (g:=num r) (A:=3) (B:=B) (by omega) hB (n:=n) (fun k hk=>by rw [h3]; have:=h2 _ (zBB h1 hk); omega) (fun k hk=>hs _ (zBB hr hk));have hd:=zCx (l:=rwL M i) (r:=r) (by rw [h3]; exact h1) hr;have hi2:=hs _ (zBB hr hi);have hnn:3*B*(n:Int)≤12*B:=by
  have h5:(3*B)*(n:Int)≤(3*B)*4:=Int.mul_le_mul_of_nonneg_left (by omega) (by omega);omega
 intro x hx;unfold mirR at hx;rw [hd] at hx;rcases List.mem_or_eq_of_mem_set hx with hx | rfl
 ·have:=hs x hx; omega
 ·omega
theorem zCt {S S':Nat→Prop} {u v:Value} {M:List (List Int)} {r:List Int} {n i:Nat} {w:World} (h:RII S w u M) (h':RI S' w v r) (hM:Mx M n) (hr:r.length=n) (hn:n≤4) (hi:i<n) (hs:SmI 1000 r) :
  Calls Tryz.prog 78 #[u,.int .i64 i,v] w fun e w'=>∃o,e=.returned o∧FI (New w w') w' o (mirR M i r)∧Below w.heap.size w w':=by
 obtain ⟨l,hl⟩:∃l,M[i]? = some l:=⟨M[i]'(by rw [hM.len]; exact hi),zWG _⟩;obtain ⟨h1,h2,h3⟩:=hM.at hl;obtain ⟨p1,p2,p3⟩:=zHU h1 hr hn h2 hs;have HMR:Hid (mirR M i r=r.set i (num r i-dotL l r)):=zWF (by unfold mirR; rw [h3]);have HP:=zWF p1;have HL:Hid (∀k x y,l[k]? = some x→r[k]? = some y→prI l r (k+1)=wrap64 (prI l r k+wrap64 (x*y))):=zWF (fun k x y h1 h2=>by simp only [prI]; rw [zAS h1,zAS h2]);have H0:Hid (prI l r 0=0):=zWF rfl;have hi2:=hs _ (zBB hr hi);have hrr:=h';have hu:=h;obtain ⟨a,cap,rfl⟩:=h.form;obtain ⟨a',cap',rfl⟩:=h'.form;rw [hM.len] at h hu ⊢;rw [hr] at h' hrr ⊢;have HRL:=zWF hr;have HLL:=zWF h1;have HL0:=zWF hl;clear p1 hr h1 h2 h3 hl hs;generalize dotL l r=D at *;have mixed:Tryz.prog.follows .mixedOrders=true:=by kernel_rfl
 go_enter Tryz.func78,Tryz.ntmps78
 go_wp2_with (at_builtin; go_must (refine zAJ (W:=w) rfl _ _ rfl rfl (FI.fresh0 w) zAO rfl (hrr.below zAO) ?_ ?_))
 ·have:=HRL.out; simp; omega
 ·intro v1 w1 f1 b1 _;have f1:FI (New w w1) w1 v1 r:=f1;obtain ⟨a1,c1,e1⟩:=f1.form;rw [HRL.out] at e1;subst e1;obtain ⟨g,rfl,_,_⟩:=f1.head (by omega);have hu1:=hu.below b1;have hr1:=hrr.below b1;go_wp2_with fail
  go_loopw [8,9] (fun s j wr=>∃(k d:Nat),k≤n∧j=.int .i64 k∧s=.int .i64 (prI l r k)∧wr=w1.drewN d) (fun _ j _=>n-(intOf j).toNat)
  case atStart=>exact ⟨0,0,Nat.zero_le _,rfl,by rw [H0.out],rfl⟩
  case round =>
   obtain ⟨k,d,hk,rfl,rfl,rfl⟩:=hrel;have hu2:=hu1;have hr2:=hr1;by_cases hkn:k<n
   ·have i1:(k:Int)<(n:Int):=by omega
    have i2:(0:Int)≤(k:Int):=by omega
    have i3:(i:Int)<(n:Int):=by omega
    have i4:(0:Int)≤(i:Int):=by omega
    obtain ⟨b3,o3,r3,l3,rfl,hc3,hr3,hl3⟩:=RII.at hu2 hi;have e3:l3=l:=by have:=hl3.out; rw [HL0.out] at this; simpa using this.symm
    subst e3;obtain ⟨a4,c4,rfl⟩:=hr3.form;rw [HLL.out] at hr3 hc3;obtain ⟨b5,o5,x,rfl,hcx,hx⟩:=RI.at hr3 hkn;obtain ⟨b6,o6,y,rfl,hcy,hy⟩:=RI.at hr2 hkn;have HST:=zWF (HL.out k x y hx.out hy.out);clear hx hy hl3 hr3;generalize prI l3 r k=q at *;go_wp2_with fail
    go_quiet (fail)
    go_wp2_with fail
    go_roundw
    case rel=>exact ⟨k+1,d+nq,by omega,by go_num,by rw [HST.out],by simp⟩
    case measure=>simp [intOf]; omega
   ·have i1:¬(k:Int)<(n:Int):=by omega
    have hkn2:k=n:=by omega
    have HE:Hid (prI l r k=D):=zWF (by rw [hkn2,HP.out]);rw [HE.out];clear hkn2;have i3:(i:Int)<(n:Int):=by omega
    have i4:(0:Int)≤(i:Int):=by omega
    obtain ⟨b6,o6,y,rfl,hcy,hy⟩:=RI.at hr2 hi;have hny:num r i=y:=zAS hy.out;rw [hny] at hi2;have hf2:=f1.below (show Below w1.heap.size w1 (w1.drewN d) from below_drewN (Below.refl _ _) d);have dk:=hf2.cell hy.out hi;have zk:=hf2.froz HRL.out i;have hput:=hf2.put HRL.out i (y-D);have hgl:w.heap.size≤g:=(f1.2 g rfl).1;have hb2:Below w.heap.size w ((w1.drewN d).setCell ⟨g,i,none⟩ (.int .i64 (y-D))):=(below_drewN b1 d).setCell hgl _;have HPU:=zWF (And.intro hput hb2);have HNY:=zWF hny;clear hy hny hput hb2 hf2;go_wp2_with fail
    go_ret
    refine ⟨_,rfl,?_,HPU.out.2⟩;rw [HMR.out,HNY.out];exact HPU.out.1.mono (fun b hb=>⟨hb.1,by rw [zAI]; exact hb.2⟩)
theorem zF8 {S S':Nat→Prop} {u v:Value} {M:List (List Int)} {r:List Int} {n i:Nat} {w:World} (h:RII S w u M) (h':RI S' w v r) (hM:Mx M n) (hr:r.length=n) (hn:n≤4) (hi:i<n) (hs:SmI 1000 r) :
  Calls Tryz.prog 73 #[u,.int .i64 i,v] w fun e w'=>∃o,e=.returned o∧FI (New w w') w' o (mirR M i r)∧Below w.heap.size w w':=by
 obtain ⟨l,hl⟩:∃l,M[i]? = some l:=⟨M[i]'(by rw [hM.len]; exact hi),zWG _⟩;obtain ⟨h1,h2,h3⟩:=hM.at hl;obtain ⟨p1,p2,p3⟩:=zHU h1 hr hn h2 hs;have HMR:Hid (mirR M i r=r.set i (num r i-dotL l r)):=zWF (by unfold mirR; rw [h3]);have hi2:=hs _ (zBB hr hi);have hrr:=h';have hu:=h;have HPR:=zWF (fun (S9:Nat→Prop) (wv:World) (vl:Value) (hb:Below w.heap.size w wv) (hvl:RI S9 wv vl l)=>zEe (w:=wv) hvl (hrr.below hb) (by rw [hr,h1]; exact zWK _) (by omega));obtain ⟨a,cap,rfl⟩:=h.form;obtain ⟨a',cap',rfl⟩:=h'.form;rw [hM.len] at h hu ⊢;rw [hr] at h' hrr HPR ⊢;rw [p1] at HPR;have HRL:=zWF hr;have HLL:=zWF h1;have HL0:=zWF hl;clear p1 hr h1 h2 h3 hl hs;generalize dotL l r=D at *;have mixed:Tryz.prog.follows .mixedOrders=true:=by kernel_rfl
 go_enter Tryz.func73,Tryz.ntmps73
 go_wp2_with (at_builtin; go_must (refine zAJ (W:=w) rfl _ _ rfl rfl (FI.fresh0 w) zAO rfl (hrr.below zAO) ?_ ?_))
 ·have:=HRL.out; simp; omega
 ·intro v1 w1 f1 b1 _;have f1:FI (New w w1) w1 v1 r:=f1;obtain ⟨a1,c1,e1⟩:=f1.form;rw [HRL.out] at e1;subst e1;obtain ⟨g,rfl,_,_⟩:=f1.head (by omega);have hu1:=hu.below b1;have hr1:=hrr.below b1;have i3:(i:Int)<(n:Int):=by omega
  have i4:(0:Int)≤(i:Int):=by omega
  obtain ⟨b6,o6,y,rfl,hcy,hy⟩:=RI.at hr1 hi;have hny:num r i=y:=zAS hy.out;rw [hny] at hi2;have dk:=f1.cell hy.out hi;obtain ⟨b3,o3,r3,l3,rfl,hc3,hr3,hl3⟩:=RII.at hu1 hi;have e3:l3=l:=by have:=hl3.out; rw [HL0.out] at this; simpa using this.symm
  subst e3;have hgl:w.heap.size≤g:=(f1.2 g rfl).1;have hw1:Below w.heap.size w w1:=b1;have g0:=fun z:GW w1=>z.cell dk;have g1:=fun z:GW w1=>z.cell hc3;have wsub:IntKind.i64.wrap (y-D)=y-D:=by have:=p2; have:=p3; have:=hi2; exact IntWalk.i64_in _ (by omega)
  have wsub2:wrap64 (y-D)=y-D:=by unfold wrap64; omega
  have HF:=zWF f1;have HNY:=zWF hny;have HC3:=zWF hr3;clear hy hny f1 hl3 hu1 hr1 hr3;go_wp2_with fail
  refine zHX 12 (by kernel_rfl) (by kernel_rfl) ?_;simp only [List.take_succ_cons,List.take_zero,List.drop_succ_cons,List.drop_zero]
  repeat (go_big_quiet_step ((first | (rename_i z; go_at_call 43; exact Calls.grow_of (v:=.int .i64 D) (v':=.int .i64 D) z (Calls.quietly (HPR.out _ _ _ (zAA.step hw1 z.le) (HC3.out.below z.le))) rfl))))
  refine wpQuiet_nil ?_;intro w8 hb8;have f8:=HF.out.below hb8;have hsz8:=hb8.size;have dk8:=(hb8.cell (p:=⟨g,i,none⟩) (zWJ _ _ dk)).trans dk;have zk8:=f8.froz HRL.out i;have hput:=f8.put HRL.out i (y-D);have hb2:Below w.heap.size w (w8.setCell ⟨g,i,none⟩ (.int .i64 (y-D))):=(zAA.step hw1 hb8).setCell hgl _;have HPU:=zWF (And.intro hput hb2);clear g0 g1 f8 hput hb2 hb8 dk;go_wp2_with fail
  go_ret
  refine ⟨_,rfl,?_,HPU.out.2⟩;rw [HMR.out,HNY.out];exact HPU.out.1.mono (fun b hb=>⟨hb.1,by rw [zAI]; have:=hb.2; omega⟩)
theorem zN5 {n i:Nat} {w:World} (hn:n≤4) (hi:i<n) :
  Calls Tryz.prog 72 #[.int .i64 n,.int .i64 i] w fun e w'=>∃o,e=.returned o∧FI (New w w') w' o (zAE n i)∧Below w.heap.size w w':=by
 obtain ⟨i0,hi0,hz0,hz1,hz2⟩:=info_parts zBI;have HU:Hid (zAE n i=(List.replicate n 0).set i 1):=zWF rfl;have i1:(i:Int)<(n:Int):=by omega
 have i2:(0:Int)≤(i:Int):=by omega
 have mixed:Tryz.prog.follows .mixedOrders=true:=by kernel_rfl
 go_enter Tryz.func72,Tryz.ntmps72
 go_wp2_with (at_make; (refine wpList_make_full _ rfl _ _ 28 rfl w.heap.size 3 i0 (.int .i64 0) 1 Tryz.underlying28 hi0 hz0 hz1 _ _ _ _ n rfl rfl (by first | rfl | (simp only [wrap64]; omega)) (by first | rfl | (simp only [wrap64]; omega)) ?hb ?hm ?hs ?_))
 case hb=>first | (rw [hz2]; omega) | omega
 case hm=>unfold maxLen; omega
 case hs=>exact zWK _
 intro w1 hown hgr;have b1:Below w.heap.size w w1:=(Below.refl _ w).grown hgr (zWK _) (by simp);have f1:FI (New w w1) w1 (.slice (some ⟨w.heap.size,0,none⟩) n n) (List.replicate n 0):=FI.of_row (w:=w) (by simpa using hown) (zWK _) (by simp) (by simp [toList_madeCells_one]);have dk:=f1.cell (k:=i) (x:=0) (by simp [hi]) hi;have zk:=f1.froz (by simp) i;have hput:=(f1.put (by simp) i 1).mono (S':=New w (w1.setCell ⟨w.heap.size,i,none⟩ (.int .i64 1))) (fun b hb=>⟨hb.1,by rw [zAI]; exact hb.2⟩);have hb2:Below w.heap.size w (w1.setCell ⟨w.heap.size,i,none⟩ (.int .i64 1)):=b1.setCell (zWK _) _;rw [<-HU.out] at hput;clear hgr hown hi0 hz0 hz1 hz2 f1 b1;go_wp2_with fail
 go_ret
 exact ⟨_,rfl,hput,hb2⟩
theorem zE1 {S:Nat→Prop} {u:Value} {c:List (List Int)} {i:Nat} {w:World} (h:RII S w u c) (hc:isC c=true) (hl:total c≤16777216) (hi:i<c.length) :
  Calls Tryz.prog 85 #[u,.int .i64 i] w fun e w'=>∃o,e=.returned o∧FI (New w w') w' o (zAE c.length i)∧Below w.heap.size w w':=by
 obtain ⟨i0,hi0,hz0,hz1,hz2⟩:=info_parts zBI;have h4:c.length≤4:=(zAK.1 hc).le;have hC:=zAd h hl;rw [hc] at hC;clear hc;obtain ⟨a,cap,rfl⟩:=h.form;generalize hn:c.length=n at *;clear hn;have HU:Hid (zAE n i=(List.replicate n 0).set i 1):=zWF rfl;have i1:(i:Int)<(n:Int):=by omega
 have i2:(0:Int)≤(i:Int):=by omega
 have HIN:Hid (inR (i:Int) 0 ((n:Int)-1)=true):=zWF (zBx (by omega));have mixed:Tryz.prog.follows .mixedOrders=true:=by kernel_rfl
 go_enter Tryz.func85,Tryz.ntmps85
 go_wp2_with fail
 refine hC.mono ?_;rintro e w0 ⟨rfl,m0,rfl⟩;have b0:Below w.heap.size w (w.drewN m0):=below_drewN (Below.refl _ w) m0;generalize hw0:w.drewN m0=w0 at *;clear hw0;go_wp2_with fail
 refine (zB5 _ _ _ _).mono ?_;rintro e w' ⟨rfl,rfl⟩;rw [HIN.out];go_wp2_with (at_make; (refine wpList_make_full _ rfl _ _ 28 rfl w0.heap.size 3 i0 (.int .i64 0) 1 Tryz.underlying28 hi0 hz0 hz1 _ _ _ _ n rfl rfl (by first | rfl | (simp only [wrap64]; omega)) (by first | rfl | (simp only [wrap64]; omega)) ?hb ?hm ?hs ?_))
 case hb=>first | (rw [hz2]; omega) | omega
 case hm=>unfold maxLen; omega
 case hs=>exact zWK _
 intro w1 hown hgr;have b1:Below w0.heap.size w0 w1:=(Below.refl _ w0).grown hgr (zWK _) (by simp);have f1:FI (New w0 w1) w1 (.slice (some ⟨w0.heap.size,0,none⟩) n n) (List.replicate n 0):=FI.of_row (w:=w0) (by simpa using hown) (zWK _) (by simp) (by simp [toList_madeCells_one]);have dk:=f1.cell (k:=i) (x:=0) (by simp [hi]) hi;have zk:=f1.froz (by simp) i;have hz:=b0.size;have hput:=(f1.put (by simp) i 1).mono (S':=New w (w1.setCell ⟨w0.heap.size,i,none⟩ (.int .i64 1))) (fun b hb=>⟨Nat.le_trans hz hb.1,by rw [zAI]; exact hb.2⟩);have hb2:Below w.heap.size w (w1.setCell ⟨w0.heap.size,i,none⟩ (.int .i64 1)):=(zAA.step b0 b1).setCell hz _;rw [<-HU.out] at hput;clear hgr hown hi0 hz0 hz1 hz2 f1 b1 b0 hz;go_wp2_with fail
 go_ret
 exact ⟨_,rfl,hput,hb2⟩
def trTo (c:List (List Int)) (k:Nat):List (List Int):=(List.range k).map fun i=>(List.range c.length).map fun j=>ent c j i
def zAu (c:List (List Int)) (i j:Nat):List Int:=(List.range j).map fun j=>ent c j i
theorem zJf (c:List (List Int)) (k:Nat):trTo c (k+1)=trTo c k++[zAu c k c.length]:=by unfold trTo zAu; rw [List.range_succ,List.map_append]; rfl
theorem zIJ (c:List (List Int)) (i j:Nat):zAu c i (j+1)=zAu c i j++[ent c j i]:=by unfold zAu; rw [List.range_succ,List.map_append]; rfl
theorem zJt {S:Nat→Prop} {u:Value} {c:List (List Int)} {w:World} (h:RII S w u c) (hc:isC c=true) (hl:total c≤16777216) :
  Calls Tryz.prog 69 #[u] w fun e w'=>∃o,e=.returned o∧FR (New w w') w' o (trL c)∧Below w.heap.size w w':=by
 have hcp:=zAK.1 hc;have h4:c.length≤4:=hcp.le;have hC:=zA1 h hl;rw [hc] at hC;have HROW:Hid (∀l∈c,l.length=c.length):=zWF hcp.row;have HENT:Hid (∀(i j:Nat) (l:List Int) (x:Int),c[i]? = some l→l[j]? = some x→ent c i j=x):=zWF (fun i j l x h1 h2=>by unfold ent; rw [h1]; simp [h2]);have HT0:Hid (trTo c 0=[]):=zWF rfl;have HTE:Hid (trTo c c.length=trL c):=zWF rfl;have HTS:=zWF (fun k=>zJf c k);have HTL:Hid (∀k,(trTo c k).length=k):=zWF (fun k=>by simp [trTo]);have HR0:Hid (∀k,zAu c k 0=[]):=zWF (fun k=>rfl);have HRS:=zWF (fun i j=>zIJ c i j);have HRL:Hid (∀i k,(zAu c i k).length=k):=zWF (fun i k=>by simp [zAu]);clear hcp hc;have h0:=h;obtain ⟨a,cap,rfl⟩:=h.form;generalize hn:c.length=n at *;clear hn;have mixed:Tryz.prog.follows .mixedOrders=true:=by kernel_rfl
 go_enter Tryz.func69,Tryz.ntmps69
 go_wp2_with fail
 refine hC.mono ?_;rintro e w0 ⟨rfl,m0,rfl⟩;have hs0:HS w (w.drewN m0) []:=HS.nil (below_drewN (Below.refl _ w) m0);generalize w.drewN m0=w0 at *;obtain ⟨w1,hw1⟩:∃w1,w1=w0.alloc (.cells #[] 28):=⟨_,rfl⟩;have fe:=FR.empty_of (Below.refl _ w0) hw1;have hs1:=hs0.addR fe.2 fe.1;have HW1:=zWF hw1;have hs1:HS w w1 [aR (.slice (some ⟨w0.heap.size,0,none⟩) 0 0) (trTo c 0)]:=by rw [HT0.out]; exact hs1
 clear hw1 fe hs0;go_wp2_with fail
 rw [<-HW1.out];go_loopw [3,14] (fun oo kk wr=>∃(k:Nat) (vo:Value),vo=oo∧k≤n∧kk=.int .i64 k∧HS w wr [aR vo (trTo c k)]) (fun _ kk _=>n-(intOf kk).toNat)
 case atStart=>exact ⟨0,_,rfl,Nat.zero_le _,rfl,hs1⟩
 case round =>
  clear hs1;obtain ⟨k,vo,rfl,hk,rfl,hs⟩:=hrel;by_cases hkn:k<n
  ·have i1:(k:Int)<(n:Int):=by omega
   have i10:(0:Int)≤(k:Int):=by omega
   obtain ⟨w2,hw2⟩:∃w2,w2=wr.alloc (.cells #[] 3):=⟨_,rfl⟩;have fe:=zAR (Below.refl _ wr) hw2;have hs2:=hs.addI fe.2 fe.1;have HW2:=zWF hw2;have hs2:HS w w2 [aR vo (trTo c k),aI (.slice (some ⟨wr.heap.size,0,none⟩) 0 0) (zAu c k 0)]:=by rw [HR0.out]; exact hs2
   clear hw2 fe hs;go_wp2_with fail
   rw [<-HW2.out];go_loopw [5,20] (fun rr jj wr=>∃(j:Nat) (vr:Value),vr=rr∧j≤n∧jj=.int .i64 j∧HS w wr [aR vo (trTo c k),aI vr (zAu c k j)]) (fun _ jj _=>n-(intOf jj).toNat)
   case atStart=>exact ⟨0,_,rfl,Nat.zero_le _,rfl,hs2⟩
   case round =>
    clear hs2;obtain ⟨j,vr,rfl,hj,rfl,hs⟩:=hrel;by_cases hjn:j<n
    ·have i2:(j:Int)<(n:Int):=by omega
     have i20:(0:Int)≤(j:Int):=by omega
     have hu:=h0.below hs.bl;obtain ⟨b3,o3,r3,l3,rfl,hc3,hr3,hl3⟩:=RII.at hu hjn;have e3:=HROW.out l3 (zWH hl3.out);obtain ⟨a3,c3,rfl⟩:=hr3.form;rw [e3] at hr3 hc3;obtain ⟨b4,o4,x,rfl,hcx,hx⟩:=RI.at hr3 hkn;have HST:Hid (zAu c k j++[x]=zAu c k (j+1)):=zWF (by rw [HRS.out,HENT.out j k l3 x hl3.out hx.out]);obtain ⟨w5,hw5⟩:∃w5,w5=wr.alloc (.cells #[.int .i64 x] 3):=⟨_,rfl⟩;have hs5:=hs.alloc (.cells #[.int .i64 x] 3);rw [<-hw5] at hs5;have hc5:w5.cell? ⟨wr.heap.size,0,none⟩=some (.int .i64 x):=by rw [hw5]; go_simp
     have HW5:=zWF hw5;have HLN:Hid ((zAu c k j).length+1≤67108864):=zWF (by rw [HRL.out]; omega);clear hw5 hs hu hr3 hl3 hx e3;go_wp2_with (at_builtin; go_must (rw [<-HW5.out]; refine zBY rfl _ _ rfl rfl hs5 1 rfl rfl hc5 HLN.out ?_))
     intro v6 w6 hs6;have hs6:HS w w6 [aR vo (trTo c k),aI v6 (zAu c k (j+1))]:=by rw [<-HST.out]; exact hs6
     clear hs5;go_wp2_with fail
     go_roundw
     case rel=>exact ⟨j+1,v6,rfl,by omega,by go_num,hs6⟩
     case measure=>simp [intOf]; omega
    ·have i2:¬(j:Int)<(n:Int):=by omega
     have e:j=n:=by omega
     have HST:Hid (trTo c k++[zAu c k j]=trTo c (k+1)):=zWF (by rw [HTS.out,e]);obtain ⟨ar,cr,rfl⟩:=hs.formI 1 rfl;have HL:Hid ((zAu c k j).length=n):=zWF (by rw [HRL.out,e]);rw [HL.out] at hs ⊢;obtain ⟨w5,hw5⟩:∃w5,w5=wr.alloc (.cells #[.slice ar n cr] 28):=⟨_,rfl⟩;have hs5:=(zOA hs 1 rfl).alloc (.cells #[.slice ar n cr] 28);rw [<-hw5] at hs5;have hc5:w5.cell? ⟨wr.heap.size,0,none⟩=some (.slice ar n cr):=by rw [hw5]; go_simp
     have HW5:=zWF hw5;have HLN:Hid ((trTo c k).length+1≤67108864):=zWF (by rw [HTL.out]; omega);clear hw5 hs e;go_wp2_with (at_builtin; go_must (rw [<-HW5.out]; refine zIM rfl _ _ rfl rfl hs5 0 1 (by decide) rfl rfl rfl hc5 HLN.out ?_))
     intro v6 w6 hs6;have hs7:=hs6.pick [0] (by decide);have hs7:HS w w6 [aR v6 (trTo c (k+1))]:=by rw [<-HST.out]; exact hs7
     clear hs5 hs6;go_wp2_with fail
     go_roundw
     case rel=>exact ⟨k+1,v6,rfl,by omega,by go_num,hs7⟩
     case measure=>simp [intOf]; omega
  ·have i1:¬(k:Int)<(n:Int):=by omega
   have e:k=n:=by omega
   have HE:Hid (trTo c k=trL c):=zWF (by rw [e,HTE.out]);rw [HE.out] at hs;clear e;go_wp2_with fail
   go_ret
   exact ⟨_,rfl,hs.R 0 rfl,hs.bl⟩
theorem zJu {S:Nat→Prop} {u:Value} {c:List (List Int)} {w:World} (h:RII S w u c) (hc:isC c=true) (hl:total c≤16777216) :
  Calls Tryz.prog 77 #[u] w fun e w'=>∃o,e=.returned o∧FR (New w w') w' o (trL c)∧Below w.heap.size w w':=by
 have hcp:=zAK.1 hc;have h4:c.length≤4:=hcp.le;have hC:=zWF (fun (wv:World) (b:Below w.heap.size w wv)=>(hc ▸ zAd (h.below b) hl:Calls Tryz.prog 41 #[u] wv fun e w'=>e=.returned (.bool true)∧∃m,w'=wv.drewN m));have HROW:Hid (∀l∈c,l.length=c.length):=zWF hcp.row;have HENT:Hid (∀(i j:Nat) (l:List Int) (x:Int),c[i]? = some l→l[j]? = some x→ent c i j=x):=zWF (fun i j l x h1 h2=>by unfold ent; rw [h1]; simp [h2]);have HT0:Hid (trTo c 0=[]):=zWF rfl;have HTE:Hid (trTo c c.length=trL c):=zWF rfl;have HTS:=zWF (fun k=>zJf c k);have HTL:Hid (∀k,(trTo c k).length=k):=zWF (fun k=>by simp [trTo]);have HR0:Hid (∀k,zAu c k 0=[]):=zWF (fun k=>rfl);have HRS:=zWF (fun i j=>zIJ c i j);have HRL:Hid (∀i k,(zAu c i k).length=k):=zWF (fun i k=>by simp [zAu]);clear hcp hc;have h0:=h
 obtain ⟨a,cap,rfl⟩:=h.form;generalize hn:c.length=n at *;clear hn;have mixed:Tryz.prog.follows .mixedOrders=true:=by kernel_rfl
 go_enter Tryz.func77,Tryz.ntmps77
 obtain ⟨w1,hw1⟩:∃w1,w1=w.alloc (.cells #[] 28):=⟨_,rfl⟩;have fe:=FR.empty_of (Below.refl _ w) hw1;have hs1:=(HS.nil (Below.refl _ w)).addR fe.2 fe.1;have HW1:=zWF hw1;have hs1:HS w w1 [aR (.slice (some ⟨w.heap.size,0,none⟩) 0 0) (trTo c 0)]:=by rw [HT0.out]; exact hs1
 clear hw1 fe;go_wp2_with fail
 rw [<-HW1.out];go_loopw [3,4] (fun oo kk wr=>∃(k:Nat) (vo:Value),vo=oo∧k≤n∧kk=.int .i64 k∧HS w wr [aR vo (trTo c k)]) (fun _ kk _=>n-(intOf kk).toNat)
 case atStart=>exact ⟨0,_,rfl,Nat.zero_le _,rfl,hs1⟩
 case round =>
  clear hs1;obtain ⟨k,vo,rfl,hk,rfl,hs⟩:=hrel;by_cases hkn:k<n
  ·have i1:(k:Int)<(n:Int):=by omega
   have i10:(0:Int)≤(k:Int):=by omega
   have hcc:=hC.out wr hs.bl;go_wp2_with fail
   refine hcc.mono ?_;rintro e w0 ⟨rfl,m0,rfl⟩;have hs:=hs.drewN m0;generalize wr.drewN m0=w3 at *;obtain ⟨w2,hw2⟩:∃w2,w2=w3.alloc (.cells #[] 3):=⟨_,rfl⟩;have fe:=zAR (Below.refl _ w3) hw2;have hs2:=hs.addI fe.2 fe.1;have HW2:=zWF hw2;have hs2:HS w w2 [aR vo (trTo c k),aI (.slice (some ⟨w3.heap.size,0,none⟩) 0 0) (zAu c k 0)]:=by rw [HR0.out]; exact hs2
   clear hw2 fe hs hcc;go_wp2_with fail
   rw [<-HW2.out];go_loopw [5,6] (fun rr jj wr=>∃(j:Nat) (vr:Value),vr=rr∧j≤n∧jj=.int .i64 j∧HS w wr [aR vo (trTo c k),aI vr (zAu c k j)]) (fun _ jj _=>n-(intOf jj).toNat)
   case atStart=>exact ⟨0,_,rfl,Nat.zero_le _,rfl,hs2⟩
   case round =>
    clear hs2;obtain ⟨j,vr,rfl,hj,rfl,hs⟩:=hrel;by_cases hjn:j<n
    ·have i2:(j:Int)<(n:Int):=by omega
     have i20:(0:Int)≤(j:Int):=by omega
     have hu:=h0.below hs.bl;obtain ⟨b3,o3,r3,l3,rfl,hc3,hr3,hl3⟩:=RII.at hu hjn;have e3:=HROW.out l3 (zWH hl3.out);obtain ⟨a3,c3,rfl⟩:=hr3.form;rw [e3] at hr3 hc3;obtain ⟨b4,o4,x,rfl,hcx,hx⟩:=RI.at hr3 hkn;have HST:Hid (zAu c k j++[x]=zAu c k (j+1)):=zWF (by rw [HRS.out,HENT.out j k l3 x hl3.out hx.out]);obtain ⟨w5,hw5⟩:∃w5,w5=wr.alloc (.cells #[.int .i64 x] 3):=⟨_,rfl⟩;have hs5:=hs.alloc (.cells #[.int .i64 x] 3);rw [<-hw5] at hs5;have hc5:w5.cell? ⟨wr.heap.size,0,none⟩=some (.int .i64 x):=by rw [hw5]; go_simp
     have HW5:=zWF hw5;have HLN:Hid ((zAu c k j).length+1≤67108864):=zWF (by rw [HRL.out]; omega);clear hw5 hs hu hr3 hl3 hx e3;go_wp2_with (at_builtin; go_must (rw [<-HW5.out]; refine zBY rfl _ _ rfl rfl hs5 1 rfl rfl hc5 HLN.out ?_))
     intro v6 w6 hs6;have hs6:HS w w6 [aR vo (trTo c k),aI v6 (zAu c k (j+1))]:=by rw [<-HST.out]; exact hs6
     clear hs5;go_wp2_with fail
     go_roundw
     case rel=>exact ⟨j+1,v6,rfl,by omega,by go_num,hs6⟩
     case measure=>simp [intOf]; omega
    ·have i2:¬(j:Int)<(n:Int):=by omega
     have e:j=n:=by omega
     have HST:Hid (trTo c k++[zAu c k j]=trTo c (k+1)):=zWF (by rw [HTS.out,e]);obtain ⟨ar,cr,rfl⟩:=hs.formI 1 rfl;have HL:Hid ((zAu c k j).length=n):=zWF (by rw [HRL.out,e]);rw [HL.out] at hs ⊢;obtain ⟨w5,hw5⟩:∃w5,w5=wr.alloc (.cells #[.slice ar n cr] 28):=⟨_,rfl⟩;have hs5:=(zOA hs 1 rfl).alloc (.cells #[.slice ar n cr] 28);rw [<-hw5] at hs5;have hc5:w5.cell? ⟨wr.heap.size,0,none⟩=some (.slice ar n cr):=by rw [hw5]; go_simp
     have HW5:=zWF hw5;have HLN:Hid ((trTo c k).length+1≤67108864):=zWF (by rw [HTL.out]; omega);clear hw5 hs e;go_wp2_with (at_builtin; go_must (rw [<-HW5.out]; refine zIM rfl _ _ rfl rfl hs5 0 1 (by decide) rfl rfl rfl hc5 HLN.out ?_))
     intro v6 w6 hs6;have hs7:=hs6.pick [0] (by decide);have hs7:HS w w6 [aR v6 (trTo c (k+1))]:=by rw [<-HST.out]; exact hs7
     clear hs5 hs6;go_wp2_with fail
     go_roundw
     case rel=>exact ⟨k+1,v6,rfl,by omega,by go_num,hs7⟩
     case measure=>simp [intOf]; omega
  ·have i1:¬(k:Int)<(n:Int):=by omega
   have e:k=n:=by omega
   have HE:Hid (trTo c k=trL c):=zWF (by rw [e,HTE.out]);rw [HE.out] at hs;clear e;go_wp2_with fail
   go_ret
   exact ⟨_,rfl,hs.R 0 rfl,hs.bl⟩
theorem zNL {S S':Nat→Prop} {u v:Value} {l l':List Int} {w:World} (h:RI S w u l) (h':RI S' w v l') (hs:SmI 100000 l) (hs':SmI 100000 l') (hl:l.length≤1000) (hl':l'.length≤1000) :
  Calls Tryz.prog 122 #[u,v] w fun e w'=>e=.returned (.bool (befR l l'))∧∃m,w'=w.drewN m:=by
 have e1:=zBL h hs hl;have HE2:=zWF (fun (m:Nat)=>zBL (h'.drewN m) hs' hl');obtain ⟨a,cap,rfl⟩:=h.form;obtain ⟨a',cap',rfl⟩:=h'.form;have HB1:Hid (-100000000≤htR l∧htR l≤100000000):=zWF (by have:=zBF (B:=100000) (by omega) hs; unfold htR; omega);have HB2:Hid (-100000000≤htR l'∧htR l'≤100000000):=zWF (by have:=zBF (B:=100000) (by omega) hs'; unfold htR; omega);have HR:Hid (befR l l'=if htR l=htR l' then gtL l l' else decide (htR l<htR l')):=zWF rfl;have R0:Hid (gtL (l.drop 0) (l'.drop 0)=gtL l l'):=zWF rfl;obtain ⟨p1,p2⟩:=HB1.out;obtain ⟨q1,q2⟩:=HB2.out;generalize htR l=p at *;generalize htR l'=q at *;generalize gtL l l'=R at *;generalize hn:l.length=n at *;generalize hn':l'.length=n' at *;have H:=zWF hn;have H':=zWF hn';clear hn hn' hs hs'
 have mixed:Tryz.prog.follows .mixedOrders=true:=by kernel_rfl
 go_enter Tryz.func122,Tryz.ntmps122
 go_wp2_with fail
 refine e1.mono ?_;rintro e w0 ⟨rfl,m0,rfl⟩;have e2:=HE2.out m0;clear e1;go_wp2_with fail
 refine e2.mono ?_;rintro e w0 ⟨rfl,m1,rfl⟩;clear e2;by_cases hpq:p=q
 ·have f0:(p != q)=false:=by simp [hpq]
  have HX:Hid (befR l l'=R):=zWF (by rw [HR.out,if_pos hpq]);go_wp2_with fail
  go_loopw [7] (fun i wr=>∃k m:Nat,k≤n∧k≤n'∧i=.int .i64 k∧wr=w.drewN m∧Hid (gtL (l.drop k) (l'.drop k)=R)) (fun i _=>n-(intOf i).toNat)
  case atStart=>exact ⟨0,_,Nat.zero_le _,Nat.zero_le _,rfl,rfl,R0⟩
  case round =>
   obtain ⟨k,m,hk,hk',rfl,hw,HR2⟩:=hrel;by_cases hlt:k<n
   ·have i1:(k:Int)<(n:Int):=by omega
    by_cases hlt':k<n'
    ·have i2:(k:Int)<(n':Int):=by omega
     have h2:=h.drewN m;have h3:=h'.drewN m;rw [<-hw] at h2 h3;have HW:=zWF hw;clear hw;obtain ⟨b,o,x,rfl,hc,hx⟩:=h2.at hlt;obtain ⟨b',o',y,rfl,hc',hy⟩:=h3.at hlt';have hd:=HR2.out;rw [zRW hx.out hy.out] at hd;clear hx hy;by_cases hxy:x=y
     ·have f1:(x != y)=false:=by simp [hxy]
      rw [if_pos hxy] at hd;have HD:=zWF hd;clear hd hxy;go_wp2_with fail
      go_quiet (fail)
      go_wp2_with fail
      go_roundw
      case rel=>exact ⟨k+1,m+nq,by omega,by omega,by go_num,by rw [HW.out]; simp,HD⟩
      case measure=>simp [intOf]; omega
     ·have f1:(x != y)=true:=by simp [hxy]
      rw [if_neg hxy] at hd;have HD:=zWF hd;clear hd hxy;go_wp2_with fail
      go_quiet (fail)
      go_wp2_with fail
      go_quiet (fail)
      go_wp2_with fail
      go_ret
      exact ⟨zAD (by rw [HX.out]; exact HD.out),by rw [HW.out]; first | exact dr3 | exact dr2⟩
    ·have i2:¬(k:Int)<(n':Int):=by omega
     have HZ:Hid (R=false):=zWF (by rw [<-HR2.out,List.drop_eq_nil_of_le (show l'.length≤k by have:=H'.out; omega)]; cases l.drop k <;> rfl);subst hw;go_wp2_with fail
     go_ret
     exact ⟨zAD (by rw [HX.out,HZ.out]),m,rfl⟩
   ·have i1:¬(k:Int)<(n:Int):=by omega
    have HZ:Hid (R=false):=zWF (by rw [<-HR2.out,List.drop_eq_nil_of_le (show l.length≤k by have:=H.out; omega)]; rfl);subst hw;go_wp2_with fail
    go_ret
    exact ⟨zAD (by rw [HX.out,HZ.out]),m,rfl⟩
 ·have f0:(p != q)=true:=by simp [hpq]
  have HX:Hid (befR l l'=decide (p<q)):=zWF (by rw [HR.out,if_neg hpq]);go_wp2_with fail
  go_ret
  exact ⟨zAD HX.out.symm,by first | exact dr1 | exact dr2⟩
theorem zT8 {v x:List Int} {l:List (List Int)} (hg:befR v x=true):put7 v (x::l)=v::x::l:=by simp [put7,hg]
theorem zT7 {v x:List Int} {l:List (List Int)} (hg:befR v x=false):put7 v (x::l)=x::put7 v l:=by simp [put7,hg]
structure Put7I (v:List Int) (L:List (List Int)) (Z Zo Y:Zl) (k:Nat) (pl:Bool):Prop where
 perm:(Zo++Z.drop k).Perm Y
 txt:Zo.map Prod.snd++(if pl=true then L.drop k else put7 v (L.drop k))=put7 v L
 len:Zo.length≤k+pl.toNat
section
variable {v:List Int} {L:List (List Int)} {Z Zo Y:Zl} {k:Nat} {pl:Bool} {z:Value × List Int}
theorem Put7I.start (_hZ:Z.map Prod.snd=L):Put7I v L Z [] Z 0 false:=⟨by simp,by simp,by simp⟩
theorem Put7I.mem (h:Put7I v L Z Zo Y k pl) (hz:Z[k]? = some z):z∈Y:=h.perm.mem_iff.1 (List.mem_append_right _ (by rw [zAC hz]; exact List.mem_cons_self ..))
theorem Put7I.step (h:Put7I v L Z Zo Y k true) (hZ:Z.map Prod.snd=L) (hz:Z[k]? = some z):(Zo++[z]++Z.drop (k+1)).Perm Y∧(Zo++[z]).map Prod.snd++L.drop (k+1)=put7 v L:=by
 have h1:=h.perm;have h2:=h.txt;rw [zAC hz] at h1;rw [if_pos rfl,zAC (PutI.at hZ hz)] at h2;exact ⟨by simpa using h1,by simpa using h2⟩
theorem Put7I.stepF (h:Put7I v L Z Zo Y k false) (hZ:Z.map Prod.snd=L) (hz:Z[k]? = some z) (hg:befR v z.2=false):(Zo++[z]++Z.drop (k+1)).Perm Y∧(Zo++[z]).map Prod.snd++put7 v (L.drop (k+1))=put7 v L:=by
 have h1:=h.perm;have h2:=h.txt;rw [zAC hz] at h1;rw [if_neg (by simp),zAC (PutI.at hZ hz),zT7 hg] at h2;exact ⟨by simpa using h1,by simpa using h2⟩
theorem Put7I.ins (h:Put7I v L Z Zo Y k false) (hZ:Z.map Prod.snd=L) (hz:Z[k]? = some z) (hg:befR v z.2=true) (r:Value) :
  (Zo++[(r,v)]++Z.drop k).Perm ((r,v)::Y)∧(Zo++[(r,v)]).map Prod.snd++L.drop k=put7 v L:=by
 have h2:=h.txt;rw [if_neg (by simp),zAC (PutI.at hZ hz),zT8 hg,<-zAC (PutI.at hZ hz)] at h2;refine ⟨?_,by simpa using h2⟩;rw [List.append_assoc];exact List.perm_middle.trans (h.perm.cons _)
theorem Put7I.endT (h:Put7I v L Z Zo Y k true) (hk:Z.length≤k) (hZ:Z.map Prod.snd=L):Zo.Perm Y∧Zo.map Prod.snd=put7 v L:=by
 have h1:=h.perm;have h2:=h.txt;rw [List.drop_eq_nil_of_le hk] at h1;rw [if_pos rfl,List.drop_eq_nil_of_le (show L.length≤k by rw [<-hZ]; simpa using hk)] at h2;exact ⟨by simpa using h1,by simpa using h2⟩
theorem Put7I.endF (h:Put7I v L Z Zo Y k false) (hk:Z.length≤k) (hZ:Z.map Prod.snd=L) (r:Value):(Zo++[(r,v)]).Perm ((r,v)::Y)∧(Zo++[(r,v)]).map Prod.snd=put7 v L:=by
 have h1:=h.perm;have h2:=h.txt;rw [List.drop_eq_nil_of_le hk,List.append_nil] at h1;rw [if_neg (by simp),List.drop_eq_nil_of_le (show L.length≤k by rw [<-hZ]; simpa using hk)] at h2;exact ⟨List.perm_append_comm.trans (h1.cons _),by simpa [put7] using h2⟩
end
def zGX (F:Nat→Prop) (v:List Int) (L:List (List Int)) (w:World) (e:Ending) (w':World):Prop:=∃r,e=.returned r∧HSx F w w' [aF r (put7 v L)]
theorem zFV {F S':Nat→Prop} {vl vv:Value} {L:List (List Int)} {v:List Int} {w:World} (h:FII F w vl L) (hF:∀b,F b→b<w.heap.size) (h':RI S' w vv v) (hll:∀x∈L,x.length≤1000∧SmI 100000 x) (hl:L.length≤1048576) (hv:v.length≤1000) (hvs:SmI 100000 v) :
  Calls Tryz.prog 84 #[vl,vv] w (zGX F v L w):=by
 have HRES:Hid (zGX F v L w=fun e w'=>∃r,e=.returned r∧HSx F w w' [aF r (put7 v L)]):=zWF rfl;obtain ⟨Z,hZ,hs⟩:=(HSx.start (st_F vl L) h hF).openF 0 rfl;have hs:HSx F w w [aV 28 vl (Z.map Prod.fst),aRs Z]:=hs;have hlz:(Z.map Prod.fst).length=Z.length:=by simp
 obtain ⟨av,cv,rfl⟩:=h'.form;generalize hvn:v.length=nv at *;have HVN:=zWF hvn;have HVS:=zWF hvs;clear hvn hvs;have HZ:=zWF hZ;have HN:Hid (∀z∈Z,z.2.length≤1000∧SmI 100000 z.2):=zWF (fun z hz=>hll z.2 (by rw [<-hZ]; exact List.mem_map_of_mem hz));have hzl:Z.length≤1048576:=by
  have:(Z.map Prod.snd).length=L.length:=by rw [hZ]
  simp at this; omega
 have HI0:Hid (Put7I v L Z [] Z 0 false):=zWF (Put7I.start hZ);have mixed:Tryz.prog.follows .mixedOrders=true:=by kernel_rfl
 obtain ⟨⟨a,cap,rfl⟩,hhead⟩:=hs.formV 0 rfl;rw [hlz] at hs hhead ⊢;generalize hn:Z.length=n at *;have HZL:=zWF hn;have HH:=zWF hhead;clear hn hZ hlz h hF hll hl hhead;go_enter Tryz.func84,Tryz.ntmps84
 go_wp2_with fail
 obtain ⟨w1,hw1⟩:∃w1,w1=w.alloc (.cells #[] 28):=⟨_,rfl⟩;have hs1:=zBa hs hw1;have hs1:HSx F w w1 [aV 28 (.slice a n cap) (Z.map Prod.fst),aRs Z,aV 28 (.slice (some ⟨w.heap.size,0,none⟩) 0 0) (([]:Zl).map Prod.fst)]:=hs1;have HO0:Hid (∀b,(Value.slice (some ⟨w.heap.size,0,none⟩) 0 0).ownBlock=some b→w.heap.size≤b):=zWF (fun b hb=>by simp [Value.ownBlock] at hb; omega);rw [<-hw1];clear hw1 hs;go_wp2_with fail
 go_loopw [5,6,7] (fun oo pp ii wr=>∃(k:Nat) (vo:Value) (pl:Bool) (Zo Y:Zl),vo=oo∧k≤n∧ii=.int .i64 k∧pp=.bool pl∧HSx F w wr [aV 28 (.slice a n cap) (Z.map Prod.fst),aRs Y,aV 28 vo (Zo.map Prod.fst)]∧Hid (Put7I v L Z Zo Y k pl)∧Hid (∀b,vo.ownBlock=some b→w.heap.size≤b)) (fun _ _ ii _=>n-(intOf ii).toNat)
 case atStart=>exact ⟨0,_,false,[],Z,rfl,Nat.zero_le _,rfl,rfl,hs1,HI0,HO0⟩
 case round =>
  clear hs1;obtain ⟨k,vo,pl,Zo,Y,rfl,hk,rfl,rfl,hs,HI,HO⟩:=hrel;by_cases hkn:k<n
  ·have i1:(k:Int)<(n:Int):=by omega
   obtain ⟨z,hz⟩:∃z,Z[k]? = some z:=⟨Z[k]'(by rw [HZL.out]; exact hkn),zWG _⟩;obtain ⟨g,rfl⟩:∃g,a=some ⟨g,0,none⟩:=by
    obtain ⟨g,c9,e⟩:=HH.out (by omega);simp only [Value.slice.injEq] at e;exact ⟨g,e.1⟩
   have hcz:=(hs.cellV 0 rfl (j:=k) (r:=z.1) (by simp [hz])).1;have hrz:=hs.rowS 1 rfl (HI.out.mem hz);have hzn:=HN.out z (zWH hz);have HZK:=zWF hz;obtain ⟨rz,lz⟩:=z;have hrz:RI _ wr rz lz:=hrz;have hcz:wr.cell? ⟨g,k,none⟩=some rz:=hcz;obtain ⟨hzn,hzs⟩:lz.length≤1000∧SmI 100000 lz:=hzn;have HZS:=zWF hzs;clear hzs;obtain ⟨az,cz,rfl⟩:=hrz.form;generalize hln:lz.length=nz at *;have HLN:=zWF hln;clear hln;have hv2:=RI.below h' hs.bl;have honez:(Value.slice az nz cz).oneCell'=true:=oneC hrz;have HZol:Hid ((Zo.map Prod.fst).length+1≤67108864):=zWF (by have:=HI.out.len; have:pl.toNat≤1:=Bool.toNat_le pl; simp; omega);clear hz;cases pl with
   | true =>
    obtain ⟨w5,hw5⟩:∃w5,w5=(wr).alloc (.cells #[.slice az nz cz] 28):=⟨_,rfl⟩;have hs5:=hs.alloc (.cells #[.slice az nz cz] 28);rw [<-hw5] at hs5;have hc5:w5.cell? ⟨(wr).heap.size,0,none⟩=some (.slice az nz cz):=by rw [hw5]; go_simp
    have HW:=zWF hw5;have HST:=zWF (HI.out.step HZ.out HZK.out);clear hw5 hs;go_wp2_with (at_builtin; go_must (rw [<-HW.out]; refine zAN rfl _ _ rfl rfl hs5 2 rfl HO.out rfl hc5 honez HZol.out ?_))
    intro v6 w6 hs6 hn6;have hs6:HSx F w w6 [aV 28 (.slice (some ⟨g,0,none⟩) n cap) (Z.map Prod.fst),aRs Y,aV 28 v6 ((Zo++[(Value.slice az nz cz,lz)]).map Prod.fst)]:=by
     have e:(Zo++[(Value.slice az nz cz,lz)]).map Prod.fst=Zo.map Prod.fst++[Value.slice az nz cz]:=by simp
     rw [e]; exact hs6
    have HI3:Hid (Put7I v L Z (Zo++[(Value.slice az nz cz,lz)]) Y (k+1) true):=zWF ⟨HST.out.1,HST.out.2,by have:=HI.out.len; simp at *; omega⟩;have HO3:=zWF hn6;clear hs5;go_wp2_with fail
    go_roundw
    case rel=>exact ⟨k+1,v6,true,_,_,rfl,by omega,by go_num,rfl,hs6,HI3,HO3⟩
    case measure=>simp [intOf]; omega
   | false =>
    have hcall:=zNL hv2 hrz HVS.out HZS.out (by rw [HVN.out]; exact hv) (by rw [HLN.out]; exact hzn);go_wp2_with fail
    refine hcall.mono ?_;rintro e wg ⟨rfl,mg,rfl⟩;have hs:=hs.drewN mg;have hcz:=(hs.cellV 0 rfl (j:=k) (r:=.slice az nz cz) (by simp [HZK.out])).1;have hv2:=hv2.drewN mg;clear hrz hcall;generalize wr.drewN mg=w10 at *;cases hg:befR v lz with
    | false =>
     have HG:=zWF hg;clear hg;obtain ⟨w5,hw5⟩:∃w5,w5=(w10).alloc (.cells #[.slice az nz cz] 28):=⟨_,rfl⟩;have hs5:=hs.alloc (.cells #[.slice az nz cz] 28);rw [<-hw5] at hs5;have hc5:w5.cell? ⟨(w10).heap.size,0,none⟩=some (.slice az nz cz):=by rw [hw5]; go_simp
     have HW:=zWF hw5;have HST:=zWF (HI.out.stepF HZ.out HZK.out HG.out);clear hw5 hs;go_wp2_with (at_builtin; go_must (rw [<-HW.out]; refine zAN rfl _ _ rfl rfl hs5 2 rfl HO.out rfl hc5 honez HZol.out ?_))
     intro v6 w6 hs6 hn6;have hs6:HSx F w w6 [aV 28 (.slice (some ⟨g,0,none⟩) n cap) (Z.map Prod.fst),aRs Y,aV 28 v6 ((Zo++[(Value.slice az nz cz,lz)]).map Prod.fst)]:=by
      have e:(Zo++[(Value.slice az nz cz,lz)]).map Prod.fst=Zo.map Prod.fst++[Value.slice az nz cz]:=by simp
      rw [e]; exact hs6
     have HI3:Hid (Put7I v L Z (Zo++[(Value.slice az nz cz,lz)]) Y (k+1) false):=zWF ⟨HST.out.1,HST.out.2,by have:=HI.out.len; simp at *; omega⟩;have HO3:=zWF hn6;clear hs5;go_wp2_with fail
     go_roundw
     case rel=>exact ⟨k+1,v6,false,_,_,rfl,by omega,by go_num,rfl,hs6,HI3,HO3⟩
     case measure=>simp [intOf]; omega
    | true =>
     have HG:=zWF hg;clear hg;go_wp2_with (at_builtin; go_must (refine zAJ (W:=w10) rfl _ _ rfl rfl (FI.fresh0 w10) zAO rfl (hv2.below zAO) ?_ ?_))
     ·first | (simp; omega) | omega | (have:=HVN.out; simp; omega)
     ·intro vn wn fn bn _;have fn:FI _ wn vn v:=fn;obtain ⟨an,cn,en⟩:=fn.form;rw [HVN.out] at en;subst en;have hsn:=hs.addI bn fn;have hsn:HSx F w wn [aV 28 (.slice (some ⟨g,0,none⟩) n cap) (Z.map Prod.fst),aRs Y,aV 28 vo (Zo.map Prod.fst),aI (.slice an nv cn) v]:=hsn;obtain ⟨wm,hwm⟩:∃wm,wm=wn.alloc (.cells #[.slice an nv cn] 28):=⟨_,rfl⟩;have hsm:=hsn.alloc (.cells #[.slice an nv cn] 28);rw [<-hwm] at hsm;have hcm:wm.cell? ⟨wn.heap.size,0,none⟩=some (.slice an nv cn):=by rw [hwm]; go_simp
      have HWm:=zWF hwm;have honen:(Value.slice an nv cn).oneCell'=true:=oneC fn.reads;clear hwm hsn hs fn bn;go_wp2_with (at_builtin; go_must (rw [<-HWm.out]; refine zAN rfl _ _ rfl rfl hsm 2 rfl HO.out rfl hcm honen HZol.out ?_))
      intro vi wi hsi hni;have hsj:=(hsi.moreS 1 3 (by decide) rfl rfl (List.Perm.refl _)).pick [0,1,2] (by decide);have hs:HSx F w wi [aV 28 (.slice (some ⟨g,0,none⟩) n cap) (Z.map Prod.fst),aRs ((Value.slice an nv cn,v)::Y),aV 28 vi ((Zo++[(Value.slice an nv cn,v)]).map Prod.fst)]:=by
       have e:(Zo++[(Value.slice an nv cn,v)]).map Prod.fst=Zo.map Prod.fst++[Value.slice an nv cn]:=by simp
       rw [e]; exact hsj
      have HI2:=zWF (HI.out.ins HZ.out HZK.out HG.out (.slice an nv cn));have hcz:=(hs.cellV 0 rfl (j:=k) (r:=.slice az nz cz) (by simp [HZK.out])).1;have HO2:=zWF hni;have HL2:=zWF HI.out.len;have HZo2:Hid (((Zo++[(Value.slice an nv cn,v)]).map Prod.fst).length+1≤67108864):=zWF (by have:=HI.out.len; simp at *; omega);clear hsi hsj hsm hcm honen;obtain ⟨w5,hw5⟩:∃w5,w5=(wi).alloc (.cells #[.slice az nz cz] 28):=⟨_,rfl⟩;have hs5:=hs.alloc (.cells #[.slice az nz cz] 28);rw [<-hw5] at hs5;have hc5:w5.cell? ⟨(wi).heap.size,0,none⟩=some (.slice az nz cz):=by rw [hw5]; go_simp
      have HW:=zWF hw5;have HST:=zWF (zEG HI2.out.1 HI2.out.2 HZ.out HZK.out);clear hw5 hs;go_wp2_with (at_builtin; go_must (rw [<-HW.out]; refine zAN rfl _ _ rfl rfl hs5 2 rfl HO2.out rfl hc5 honez HZo2.out ?_))
      intro v6 w6 hs6 hn6;have hs6:HSx F w w6 [aV 28 (.slice (some ⟨g,0,none⟩) n cap) (Z.map Prod.fst),aRs ((Value.slice an nv cn,v)::Y),aV 28 v6 (((Zo++[(Value.slice an nv cn,v)])++[(Value.slice az nz cz,lz)]).map Prod.fst)]:=by
       have e:((Zo++[(Value.slice an nv cn,v)])++[(Value.slice az nz cz,lz)]).map Prod.fst=Zo.map Prod.fst++[Value.slice an nv cn,Value.slice az nz cz]:=by simp
       rw [e]; exact hs6
      have HI3:Hid (Put7I v L Z ((Zo++[(Value.slice an nv cn,v)])++[(Value.slice az nz cz,lz)]) ((Value.slice an nv cn,v)::Y) (k+1) true):=zWF ⟨HST.out.1,HST.out.2,by have:=HL2.out; simp at *; omega⟩;have HO3:=zWF hn6;clear hs5;go_wp2_with fail
      go_roundw
      case rel=>exact ⟨k+1,v6,true,_,_,rfl,by omega,by go_num,rfl,hs6,HI3,HO3⟩
      case measure=>simp [intOf]; omega
  ·have i1:¬(k:Int)<(n:Int):=by omega
   have hkz:Z.length≤k:=by rw [HZL.out]; omega
   have HKZ:=zWF hkz;have hv2:=RI.below h' hs.bl;clear hkz;cases pl with
   | true =>
    obtain ⟨e1,e2⟩:=HI.out.endT HKZ.out HZ.out;have hs2:=((((hs.permS 1 rfl e1).pick [2,1] (by decide)).shutF (Z:=Zo) (v:=vo) 0 1 (by decide) rfl rfl).pick [0] (by decide));have hs3:HSx F w wr [aF vo (Zo.map Prod.snd)]:=hs2;rw [e2] at hs3;clear hs hs2 e1 e2;go_wp2_with fail
    go_ret
    rw [HRES.out];exact ⟨_,rfl,hs3⟩
   | false =>
    have HZol:Hid ((Zo.map Prod.fst).length+1≤67108864):=zWF (by have:=HI.out.len; simp at *; omega);go_wp2_with (at_builtin; go_must (refine zAJ (W:=wr) rfl _ _ rfl rfl (FI.fresh0 wr) zAO rfl (hv2.below zAO) ?_ ?_))
    ·first | (simp; omega) | omega | (have:=HVN.out; simp; omega)
    ·intro vn wn fn bn _;have fn:FI _ wn vn v:=fn;obtain ⟨an,cn,en⟩:=fn.form;rw [HVN.out] at en;subst en;have hsn:=hs.addI bn fn;have hsn:HSx F w wn [aV 28 (.slice a n cap) (Z.map Prod.fst),aRs Y,aV 28 vo (Zo.map Prod.fst),aI (.slice an nv cn) v]:=hsn;obtain ⟨wm,hwm⟩:∃wm,wm=wn.alloc (.cells #[.slice an nv cn] 28):=⟨_,rfl⟩;have hsm:=hsn.alloc (.cells #[.slice an nv cn] 28);rw [<-hwm] at hsm;have hcm:wm.cell? ⟨wn.heap.size,0,none⟩=some (.slice an nv cn):=by rw [hwm]; go_simp
     have HWm:=zWF hwm;have honen:(Value.slice an nv cn).oneCell'=true:=oneC fn.reads;clear hwm hsn hs fn bn;go_wp2_with (at_builtin; go_must (rw [<-HWm.out]; refine zAN rfl _ _ rfl rfl hsm 2 rfl HO.out rfl hcm honen HZol.out ?_))
     intro vi wi hsi hni;obtain ⟨e1,e2⟩:=HI.out.endF HKZ.out HZ.out (.slice an nv cn);have hsj:=(hsi.moreS 1 3 (by decide) rfl rfl e1).pick [2,1] (by decide);have hsk:HSx F w wi [aV 28 vi ((Zo++[(Value.slice an nv cn,v)]).map Prod.fst),aRs (Zo++[(Value.slice an nv cn,v)])]:=by
      have e:(Zo++[(Value.slice an nv cn,v)]).map Prod.fst=Zo.map Prod.fst++[Value.slice an nv cn]:=by simp
      rw [e]; exact hsj
     have hs2:=(hsk.shutF 0 1 (by decide) rfl rfl).pick [0] (by decide);have hs3:HSx F w wi [aF vi ((Zo++[(Value.slice an nv cn,v)]).map Prod.snd)]:=hs2;rw [e2] at hs3;clear hsi hsj hsk hs2 e1 e2 hsm;go_wp2_with fail
     go_ret
     rw [HRES.out];exact ⟨_,rfl,hs3⟩
end Go.Proofs.YtphbichgpcicnaaGreatDoor
namespace Go.Proofs.YtphbichgpcicnaaGreatDoor
open Go.RowKit
set_option maxRecDepth 20000
set_option maxHeartbeats 8000000
def zAo (n m:Nat):List (List Int):=(List.range m).foldl (fun o i=>put7 (zAE n i) o) []
theorem zFa (n m:Nat):zAo n (m+1)=put7 (zAE n m) (zAo n m):=by unfold zAo; rw [List.range_succ,List.foldl_append]; rfl
theorem zUJ {c:List (List Int)} {f k:Nat} {S:List (List Int)} (h:k<S.length):sBfs c (f+1) k S=sBfs c f (k+1) (sRow c k S):=by rw [sBfs,if_neg (by omega)]
theorem zR0 {c:List (List Int)} {f k:Nat} {S:List (List Int)} (h:S.length≤k):sBfs c f k S=S:=by
 cases f with
 | zero=>rfl
 | succ f=>rw [sBfs,if_pos h]
theorem SmI.mono {B B':Int} {l:List Int} (h:SmI B l) (hb:B≤B'):SmI B' l:=fun x hx=>by have:=h x hx; omega
theorem zCd (n i:Nat):SmI 1 (zAE n i):=fun x hx=>by
 unfold zAE at hx;rcases List.mem_or_eq_of_mem_set hx with hx | rfl
 ·have:=(List.mem_replicate.1 hx).2; omega
 ·omega
theorem zKN {n i:Nat} (hi:i<n):(List.range n).drop i=i::(List.range n).drop (i+1):=zAC (by simp [hi])
theorem FinP.isC {c:List (List Int)} (hf:FinP c):isC c=true:=zAK.2 hf.cart
theorem zMr (r:List Int):zAk r≤1∧(0<zAk r→zAk r=1):=by
 unfold zAk;split
 ·omega
 ·split <;> omega
def RuC (c:List (List Int)) (w:World) (e:Ending) (w':World):Prop:=∃o,e=.returned o∧FII (New w w') w' o (zAT c)∧Below w.heap.size w w'
theorem zJo {S0:Nat→Prop} {u:Value} {c:List (List Int)} {w:World} (h:RII S0 w u c) (hf:FinP c) (hl:total c≤16777216) :
  Calls Tryz.prog 40 #[u,.int .i64 12] w (RuC c w):=by
 have HRES:Hid (RuC c w=fun e w'=>∃o,e=.returned o∧FII (New w w') w' o (zAT c)∧Below w.heap.size w w'):=zWF rfl;have hQ:=hf.rq;have hcp:=hf.cart;have h4:c.length≤4:=hcp.le;have hM:=hcp.mx;have HISC:=zWF hf.isC;have HIN:Hid (inR 12 1 12=true):=zWF rfl;have HSR:=zWF (fun (w1:World) (b1:Below w.heap.size w w1) (i:Nat) (hi:i<c.length)=>zE1 (h.below b1) hf.isC hl hi);have HRF:=zWF (fun (w1:World) (b1:Below w.heap.size w w1) (i:Nat) (hi:i<c.length) (S9:Nat→Prop) (vv:Value) (x:List Int) (hx:RI S9 w1 vv x) (hxl:x.length=c.length) (hsm:SmI 12 x)=>zCt (h.below b1) hx hM hxl h4 hi (hsm.mono (by omega)));have HML:=zWF (fun (i:Nat) (hi:i<c.length) (x:List Int) (hxl:x.length=c.length) (hsm:SmI 12 x)=>And.intro (zBX c i x) (zEW hM h4 hi hxl (B:=12) (by omega) (by omega) hsm))
 have HQS:Hid (∀x∈(prsL c).map Prod.fst,x.length=c.length∧SmI 12 x):=zWF (fun x hx=>by
  obtain ⟨q,hq,rfl⟩:=List.mem_map.1 hx;refine ⟨(hQ.sh q hq).1,fun y hy=>?_⟩;have h1:=(hQ.ht q hq).1;have h2:=zA3 (hQ.nn q hq).1;have h3:=h2.2 y hy;have h4:=(hQ.nn q hq).1 y hy;unfold htR at h1;omega)
 have HBT:Hid (∀m,m≤c.length→(∀x∈zAo c.length m,x.length=c.length∧SmI 12 x)∧(zAo c.length m).length=m):=zWF (fun m hm=>by
  obtain ⟨a,b,d⟩:=zHY hQ m hm;refine ⟨fun x hx=>?_,d⟩;obtain ⟨i,hi,rfl⟩:=(a x).1 hx;exact ⟨zA4 _ _,(zCd _ _).mono (by omega)⟩)
 have HUL:Hid (∀m,(zAE c.length m).length=c.length∧SmI 12 (zAE c.length m)):=zWF (fun m=>⟨zA4 _ _,(zCd _ _).mono (by omega)⟩);have HB0:Hid (zAo c.length 0=[]):=zWF rfl;have HBS:=zWF (fun m=>zFa c.length m);have HI0:Hid (SI7 c (prsL c) 0 (zAo c.length c.length)):=zWF (zMm hQ);have HE0:Hid (sBfs c (40-0) 0 (zAo c.length c.length)=zAT c):=zWF rfl;have HST:=zWF (fun (k:Nat) (S:List (List Int)) (r:List Int) (hr:S[k]? = some r) (hs:∀r∈S,r∈(prsL c).map Prod.fst) (ht:SrtR S) (i:Nat) (hi:i<c.length)=>zLJ hQ hcp hr hs ht hi);have HROW:=zWF (fun (k:Nat) (S:List (List Int)) (h:SI7 c (prsL c) k S) (hk:k<S.length)=>h.row hQ hcp hk);have HSL:=zWF (fun (k:Nat) (S:List (List Int)) (h:SI7 c (prsL c) k S)=>h.len hQ)
 have HSL2:Hid (∀S,SrtR S→(∀r∈S,r∈(prsL c).map Prod.fst)→S.length≤24):=zWF (fun S h1 h2=>by
  have h3:=zDF h1.nodup h2;have:=hQ.len;rw [List.length_map] at h3;omega)
 have HRD:Hid (∀k S,sRow c k S=((List.range c.length).drop 0).foldl (zAz c k) S):=zWF (fun _ _=>rfl);have HSD:Hid (∀k S i,zAz c k S i=if zAk (mirR c i (rwL S k))=1∧htR (mirR c i (rwL S k))≤12∧mirR c i (rwL S k)∉S∧htR (rwL S k)<htR (mirR c i (rwL S k)) then put7 (mirR c i (rwL S k)) S else S):=zWF (fun _ _ _=>rfl);clear hf hQ hcp hM;have h0:=h;obtain ⟨au,cu,rfl⟩:=h.form;generalize hn:c.length=n at *;clear hn;have mixed:Tryz.prog.follows .mixedOrders=true:=by kernel_rfl
 go_enter Tryz.func40,Tryz.ntmps40
 obtain ⟨w1,hw1⟩:∃w1,w1=w.alloc (.cells #[] 28):=⟨_,rfl⟩;have fe:=FII.empty_of (Below.refl _ w) hw1;have hs1:=(HS.nil (Below.refl _ w)).addF fe.2 fe.1;have HW1:=zWF hw1;have hs1:HS w w1 [aF (.slice (some ⟨w.heap.size,0,none⟩) 0 0) (zAo n 0)]:=by rw [HB0.out]; exact hs1
 have hC:=zAd (h0.below hs1.bl) hl;rw [HISC.out] at hC;clear hw1 fe;go_wp2_with fail
 rw [<-HW1.out];go_wp2_with fail
 refine hC.mono ?_;rintro e w0 ⟨rfl,m0,rfl⟩;have hs:=hs1.drewN m0;clear hs1 hC;generalize w1.drewN m0=w2 at *;go_wp2_with fail
 refine (zB5 _ _ _ _).mono ?_;rintro e w' ⟨rfl,rfl⟩;rw [HIN.out];go_wp2_with fail
 go_loopw [5,6] (fun oo ii wr=>∃(i:Nat) (vo:Value),vo=oo∧i≤n∧ii=.int .i64 i∧HS w wr [aF vo (zAo n i)]) (fun _ ii _=>n-(intOf ii).toNat)
 case atStart=>exact ⟨0,_,rfl,Nat.zero_le _,rfl,hs⟩
 case round =>
  clear hs;obtain ⟨i,vo,rfl,hi,rfl,hs⟩:=hrel;by_cases hin:i<n
  ·have i1:(i:Int)<(n:Int):=by omega
   have hcall:=HSR.out wr hs.bl i hin;go_wp2_with fail
   refine hcall.mono ?_;rintro e w3 ⟨r3,rfl,f3,b3⟩;have hs:=hs.addI b3 f3;have hs:HS w w3 [aF vo (zAo n i),aI r3 (zAE n i)]:=hs;clear hcall f3 b3;obtain ⟨F,hF,hFn,HBK⟩:=hs.lend 0 rfl;have hcall:=zFV hF hFn (hs.I 1 rfl).reads (fun x hx=>by have:=(HBT.out i hi).1 x hx; exact ⟨by omega,this.2.mono (by omega)⟩) (by rw [(HBT.out i hi).2]; omega) (by rw [(HUL.out i).1]; omega) ((HUL.out i).2.mono (by omega));have HPC:Hid (zGX F (zAE n i) (zAo n i) w3=fun e w'=>∃r,e=.returned r∧HSx F w3 w' [aF r (put7 (zAE n i) (zAo n i))]):=zWF rfl;rw [HPC.out] at hcall;clear hF HPC;go_wp2_with fail
   refine hcall.mono ?_;rintro e w6 ⟨r6,rfl,h6⟩;rw [<-HBS.out] at h6;have hs7:=(HBK.out w6 _ h6).pick [0] (by decide);have hs7:HS w w6 [aF r6 (zAo n (i+1))]:=hs7;clear hs h6 hcall;go_wp2_with fail
   go_roundw
   case rel=>exact ⟨i+1,r6,rfl,by omega,by go_num,hs7⟩
   case measure=>simp [intOf]; omega
  ·have i1:¬(i:Int)<(n:Int):=by omega
   have e:i=n:=by omega
   rw [e] at hs;clear e hi hin;go_wp2_with fail
   go_loopw [5,7] (fun oo kk wr=>∃(k:Nat) (vo:Value) (S:List (List Int)),vo=oo∧k≤S.length∧kk=.int .i64 k∧HS w wr [aF vo S]∧Hid (SI7 c (prsL c) k S)∧Hid (sBfs c (40-k) k S=zAT c)) (fun _ kk _=>25-(intOf kk).toNat)
   case atStart=>exact ⟨0,_,_,rfl,Nat.zero_le _,rfl,hs,HI0,HE0⟩
   case round =>
    clear hs;obtain ⟨k,vo,S,rfl,hk,rfl,hs,HSI,HBF⟩:=hrel;have hm24:=HSL.out k S HSI.out;have hread:RII _ wr vo S:=(hs.F 0 rfl).read;obtain ⟨aq,cq,rfl⟩:=hread.form;generalize hzl:S.length=m at *;have HZL:=zWF hzl;clear hzl;by_cases hkm:k<m
    ·have i2:(k:Int)<(m:Int):=by omega
     obtain ⟨h1,h2⟩:=HROW.out k S HSI.out (by rw [HZL.out]; exact hkm);have hb:=zUJ (c:=c) (f:=39-k) (k:=k) (S:=S) (by rw [HZL.out]; exact hkm);rw [show 39-k+1=40-k by omega,HBF.out] at hb;obtain ⟨xk,hxk⟩:∃x,S[k]? = some x:=⟨S[k]'(by rw [HZL.out]; exact hkm),zWG _⟩;have HXK:=zWF hxk;have HNX:=zWF h1;have HLE:Hid (k+1≤(sRow c k S).length):=zWF (by have:=HZL.out; omega);have HBF2:Hid (sBfs c (40-(k+1)) (k+1) (sRow c k S)=zAT c):=zWF (by rw [hb,show 40-(k+1)=39-k by omega]);have HR0:=zWF (HRD.out k S).symm;have HSUB:=zWF HSI.out.sub;have HSRT:=zWF HSI.out.srt;obtain ⟨hxl,hxs⟩:=HQS.out xk (HSI.out.sub xk (zWH hxk));have HXL:=zWF hxl;have HXS:=zWF hxs;obtain ⟨Rr,hRr⟩:∃Rr,Rr=sRow c k S:=⟨_,rfl⟩;rw [<-hRr] at HR0 HBF2 HLE HNX;clear h1 h2 hb hxk hread hRr hxl hxs;go_wp2_with fail
     go_loopw [5,8] (fun qq ii wr=>∃(i:Nat) (vo:Value) (S:List (List Int)),vo=qq∧i≤n∧ii=.int .i64 i∧HS w wr [aF vo S]∧Hid (((List.range n).drop i).foldl (zAz c k) S=Rr)∧Hid (∀r∈S,r∈(prsL c).map Prod.fst)∧Hid (SrtR S)∧Hid (S[k]? = some xk)) (fun _ ii _=>n-(intOf ii).toNat)
     case atStart=>exact ⟨0,_,S,rfl,Nat.zero_le _,rfl,hs,HR0,HSUB,HSRT,HXK⟩
     case round =>
      clear hs HXK HSUB HSRT;obtain ⟨i,vo,S,rfl,hi,rfl,hs,HR9,HSUB,HSRT,HXK⟩:=hrel;have hz24:=HSL2.out S HSRT.out HSUB.out;have hk2:k<S.length:=(zWI HXK.out).1;have hread:RII _ wr vo S:=(hs.F 0 rfl).read;obtain ⟨aq,cq,rfl⟩:=hread.form;generalize hzl:S.length=m2 at *;have HZL:=zWF hzl;clear hzl;by_cases hin:i<n
      ·have i3:(i:Int)<(n:Int):=by omega
       have i4:(k:Int)<(m2:Int):=by omega
       obtain ⟨bk,ok,rk,xk',rfl,hck,hrk,hxk⟩:=RII.at hread hk2;have exk:xk'=xk:=by have:=hxk.out; rw [HXK.out] at this; simpa using this.symm
       subst exk;have hcall:=HRF.out wr hs.bl i hin _ _ _ hrk HXL.out HXS.out;have h9:=HR9.out;rw [zKN hin,List.foldl_cons] at h9;have HST1:=zWF h9;have HSO:=zWF (HST.out k S xk' HXK.out HSUB.out HSRT.out i hin);have HDS:=HSD.out k S i;rw [show rwL S k=xk' by unfold rwL; rw [HXK.out]; rfl] at HDS;have HDS:=zWF HDS;obtain ⟨g1,g2⟩:=HML.out i hin xk' HXL.out HXS.out;have hxh:-48≤htR xk'∧htR xk'≤48:=by have:=zBF (B:=12) (by omega) HXS.out; have:=HXL.out; unfold htR; omega
       have hmh:-624≤htR (mirR c i xk')∧htR (mirR c i xk')≤624:=by have:=zBF (B:=13*12) (by omega) g2; have:=HXL.out; unfold htR; omega
       have HXM:Hid (∀x∈S,x.length≤16777216):=zWF (fun x hx=>by have:=(HQS.out x (HSUB.out x hx)).1; omega);have HXQ:Hid (∀x∈S,x.length≤1000∧SmI 100000 x):=zWF (fun x hx=>by have:=HQS.out x (HSUB.out x hx); exact ⟨by omega,this.2.mono (by omega)⟩);have HG1:Hid ((mirR c i xk').length≤1000):=zWF (by have:=HXL.out; omega);have HG2:Hid (SmI 100000 (mirR c i xk')):=zWF (g2.mono (by omega));obtain ⟨y,hy⟩:∃y,y=mirR c i xk':=⟨_,rfl⟩;rw [<-hy] at hcall HDS hmh HG1 HG2 HSO;have HY:=zWF hy;clear h9 hy g1 g2 hread hrk;go_wp2_with fail
       refine hcall.mono ?_;rintro e w3 ⟨r3,rfl,f3,b3⟩;have hs:=hs.addI b3 f3;have hs:HS w w3 [aF (.slice (some ⟨bk,ok,none⟩) m2 cq) S,aI r3 y]:=hs;clear f3 b3 hck hcall;have hread:RII _ w3 (.slice (some ⟨bk,ok,none⟩) m2 cq) S:=(hs.F 0 rfl).read;obtain ⟨bk',ok',rk2,xk2,ek,hck,hrk,hxk2⟩:=RII.at hread hk2;simp only [Option.some.injEq,Addr.mk.injEq,and_true] at ek;obtain ⟨rfl,rfl⟩:=ek;have exk:xk2=xk':=by have:=hxk2.out; rw [HXK.out] at this; simpa using this.symm
       subst exk;have hr3:=(hs.I 1 rfl).reads;have HC1:=zWF (fun m=>zJP (hr3.drewN m));have HC2:=zWF (fun m=>zBL (hr3.drewN m) HG2.out HG1.out);have HC3:=zWF (fun m=>zO5 (hread.drewN m) (hr3.drewN m) HXM.out (by rw [HZL.out]; omega) (by have:=HG1.out; omega));have HC4:=zWF (fun m=>zBL (hrk.drewN m) (HXS.out.mono (by omega)) (by rw [HXL.out]; omega));have HSG:=zWF (zMr y);have HIV:Hid (inV S y=decide (y∈S)):=zWF rfl;obtain ⟨sg,hsg⟩:∃sg,sg=zAk y:=⟨_,rfl⟩;obtain ⟨p,hp⟩:∃p,p=htR y:=⟨_,rfl⟩;obtain ⟨q,hq⟩:∃q,q=htR xk2:=⟨_,rfl⟩;rw [<-hsg] at HC1 HSG HDS;rw [<-hp] at HC2 HDS hmh;rw [<-hq] at HC4 HDS hxh;clear hsg hp hq hr3 hrk hread hxk hxk2;obtain ⟨p1,p2⟩:=hmh;obtain ⟨q1,q2⟩:=hxh;by_cases hA:sg=1
       ·subst hA;by_cases hB:p≤12
        ·cases hI:inV S y with
         | true =>
          rw [hI] at HC3;have HYI:Hid (y∈S):=zWF (by have:=HIV.out; rw [hI] at this; exact of_decide_eq_true this.symm);have HNO:Hid (zAz c k S i=S):=zWF (by rw [HDS.out]; exact if_neg (fun h=>h.2.2.1 HYI.out));clear hI;rw [HNO.out] at HST1;go_wp2_with fail
          go_quiet (first | (go_at_call 86; exact Calls.quiet_of (HC1.out _)) | (go_at_call_of 55 (r3); exact Calls.quiet_of (HC2.out _)) | (go_at_call 87; exact Calls.quiet_of (HC3.out _)) | (go_at_call_of 55 (rk2); exact Calls.quiet_of (HC4.out _)))
          have hs7:=(hs.drewN nq).pick [0] (by decide);have hs7:HS w (w3.drewN nq) [aF (.slice (some ⟨bk,ok,none⟩) m2 cq) S]:=hs7;clear hs;go_wp2_with fail
          go_roundw
          case rel=>exact ⟨i+1,_,S,rfl,by omega,by go_num,hs7,HST1,HSUB,HSRT,HXK⟩
          case measure=>simp [intOf]; omega
         | false =>
          rw [hI] at HC3;have HYI:Hid (y∉S):=zWF (by have:=HIV.out; rw [hI] at this; exact of_decide_eq_false this.symm);clear hI;by_cases hD:q<p
          ·have HYES:Hid (zAz c k S i=put7 y S):=zWF (by rw [HDS.out]; exact if_pos ⟨rfl,hB,HYI.out,hD⟩);go_wp2_with fail
           go_quiet (first | (go_at_call 86; exact Calls.quiet_of (HC1.out _)) | (go_at_call_of 55 (r3); exact Calls.quiet_of (HC2.out _)) | (go_at_call 87; exact Calls.quiet_of (HC3.out _)) | (go_at_call_of 55 (rk2); exact Calls.quiet_of (HC4.out _)))
           go_wp2_with fail
           have hs:=hs.drewN nq;have hs:HS w (w3.drewN nq) [aF (.slice (some ⟨bk,ok,none⟩) m2 cq) S,aI r3 y]:=hs;generalize w3.drewN nq=w4 at *;obtain ⟨F,hF,hFn,HBK⟩:=hs.lend 0 rfl;have hcall:=zFV hF hFn (hs.I 1 rfl).reads HXQ.out (by rw [HZL.out]; omega) HG1.out HG2.out;have HPC:Hid (zGX F y S w4=fun e w'=>∃r,e=.returned r∧HSx F w4 w' [aF r (put7 y S)]):=zWF rfl;rw [HPC.out] at hcall;clear hF HPC;refine hcall.mono ?_;rintro e w6 ⟨r6,rfl,h6⟩;rw [<-HYES.out] at h6;have hs7:=(HBK.out w6 _ h6).pick [0] (by decide);have hs7:HS w w6 [aF r6 (zAz c k S i)]:=hs7;have HK2:Hid ((zAz c k S i)[k]? = some xk2):=zWF (by rw [HSO.out.2.2.2.1 k (zWK _)]; exact HXK.out);have HN1:=zWF HSO.out.1;have HN2:=zWF HSO.out.2.1;clear hs h6 hcall;go_wp2_with fail
           go_roundw
           case rel=>exact ⟨i+1,r6,_,rfl,by omega,by go_num,hs7,HST1,HN1,HN2,HK2⟩
           case measure=>simp [intOf]; omega
          ·have HNO:Hid (zAz c k S i=S):=zWF (by rw [HDS.out]; exact if_neg (fun h=>hD h.2.2.2));rw [HNO.out] at HST1;go_wp2_with fail
           go_quiet (first | (go_at_call 86; exact Calls.quiet_of (HC1.out _)) | (go_at_call_of 55 (r3); exact Calls.quiet_of (HC2.out _)) | (go_at_call 87; exact Calls.quiet_of (HC3.out _)) | (go_at_call_of 55 (rk2); exact Calls.quiet_of (HC4.out _)))
           have hs7:=(hs.drewN nq).pick [0] (by decide);have hs7:HS w (w3.drewN nq) [aF (.slice (some ⟨bk,ok,none⟩) m2 cq) S]:=hs7;clear hs;go_wp2_with fail
           go_roundw
           case rel=>exact ⟨i+1,_,S,rfl,by omega,by go_num,hs7,HST1,HSUB,HSRT,HXK⟩
           case measure=>simp [intOf]; omega
        ·have HNO:Hid (zAz c k S i=S):=zWF (by rw [HDS.out]; exact if_neg (fun h=>hB h.2.1));have fB:decide (p≤12)=false:=decide_eq_false hB;rw [HNO.out] at HST1;go_wp2_with fail
         go_quiet (first | (go_at_call 86; exact Calls.quiet_of (HC1.out _)) | (go_at_call_of 55 (r3); exact Calls.quiet_of (HC2.out _)) | (go_at_call 87; exact Calls.quiet_of (HC3.out _)) | (go_at_call_of 55 (rk2); exact Calls.quiet_of (HC4.out _)))
         have hs7:=(hs.drewN nq).pick [0] (by decide);have hs7:HS w (w3.drewN nq) [aF (.slice (some ⟨bk,ok,none⟩) m2 cq) S]:=hs7;clear hs;go_wp2_with fail
         go_roundw
         case rel=>exact ⟨i+1,_,S,rfl,by omega,by go_num,hs7,HST1,HSUB,HSRT,HXK⟩
         case measure=>simp [intOf]; omega
       ·have HNO:Hid (zAz c k S i=S):=zWF (by rw [HDS.out]; exact if_neg (fun h=>hA h.1));have hA2:¬0<sg:=by have:=HSG.out; omega
        have fA:decide (0<sg)=false:=decide_eq_false hA2;rw [HNO.out] at HST1;go_wp2_with fail
        go_quiet (first | (go_at_call 86; exact Calls.quiet_of (HC1.out _)) | (go_at_call_of 55 (r3); exact Calls.quiet_of (HC2.out _)) | (go_at_call 87; exact Calls.quiet_of (HC3.out _)) | (go_at_call_of 55 (rk2); exact Calls.quiet_of (HC4.out _)))
        have hs7:=(hs.drewN nq).pick [0] (by decide);have hs7:HS w (w3.drewN nq) [aF (.slice (some ⟨bk,ok,none⟩) m2 cq) S]:=hs7;clear hs;go_wp2_with fail
        go_roundw
        case rel=>exact ⟨i+1,_,S,rfl,by omega,by go_num,hs7,HST1,HSUB,HSRT,HXK⟩
        case measure=>simp [intOf]; omega
      ·have i3:¬(i:Int)<(n:Int):=by omega
       have h9:=HR9.out;rw [List.drop_eq_nil_of_le (by simp; omega),List.foldl_nil] at h9;rw [h9] at hs;clear h9 hread;go_wp2_with fail
       go_roundw
       case rel=>exact ⟨k+1,_,_,rfl,HLE.out,by go_num,hs,HNX,HBF2⟩
       case measure=>simp [intOf]; omega
    ·have i2:¬(k:Int)<(m:Int):=by omega
     have hb:=zR0 (c:=c) (f:=40-k) (k:=k) (S:=S) (by rw [HZL.out]; omega);rw [HBF.out] at hb;rw [<-hb] at hs;clear hb hread;go_wp2_with fail
     go_ret
     rw [HRES.out];exact ⟨_,rfl,hs.F 0 rfl,hs.bl⟩
section
variable {c:List (List Int)} {Q:List Pr}
theorem zTS (x:List Int):zAV c 0 x=([],x):=rfl
theorem zTQ {f:Nat} {x:List Int} (h:∀j,j<c.length→¬htR (mirR c j x)<htR x):zAV c f x=([],x):=by
 cases f with
 | zero=>rfl
 | succ f =>
  have e:(List.range c.length).find? (fun i=>decide (htR (mirR c i x)<htR x))=none:=List.find?_eq_none.2 fun j hj=>by simpa using h j (List.mem_range.1 hj)
  simp only [zAV,e]
theorem zVR {f:Nat} {x:List Int} (h:htR x=1):zAV c f x=([],x):=by
 cases f with
 | zero=>rfl
 | succ f =>
  simp only [zAV];cases e:(List.range c.length).find? (fun i=>decide (htR (mirR c i x)<htR x)) with
  | none=>rfl
  | some i=>simp only [if_pos h]
theorem zTR {f i:Nat} {x:List Int} (hi:i<c.length) (hlt:htR (mirR c i x)<htR x) (hno:∀j,j<i→¬htR (mirR c j x)<htR x) (h1:htR x≠1):zAV c (f+1) x=(i::(zAV c f (mirR c i x)).1,(zAV c f (mirR c i x)).2):=by
 have e:(List.range c.length).find? (fun i=>decide (htR (mirR c i x)<htR x))=some i:=by
  rw [List.find?_range_eq_some];exact ⟨by simpa using hlt,List.mem_range.2 hi,fun j hj=>by simpa using hno j hj⟩
 simp only [zAV,e,if_neg h1]
theorem zOj:∀(f:Nat) (x:List Int),∀i∈(zAV c f x).1,i<c.length
 | 0,x=>by simp [zAV]
 | f+1,x=>by
  simp only [zAV];cases e:(List.range c.length).find? (fun i=>decide (htR (mirR c i x)<htR x)) with
  | none=>simp
  | some i =>
   by_cases h:htR x=1
   ·simp [h]
   ·simp only [if_neg h];intro j hj;rcases List.mem_cons.1 hj with rfl | hj
    ·exact List.mem_range.1 (List.mem_of_find?_eq_some e)
    ·exact zOj f _ j hj
theorem zOi:∀(f:Nat) (x:List Int),(zAV c f x).1.length≤f
 | 0,x=>by simp [zAV]
 | f+1,x=>by
  simp only [zAV];cases e:(List.range c.length).find? (fun i=>decide (htR (mirR c i x)<htR x)) with
  | none=>simp
  | some i =>
   by_cases h:htR x=1
   ·simp [h]
   ·simp only [if_neg h,List.length_cons];have:=zOi f (mirR c i x);omega
theorem zOk (hQ:Rq c Q) (hc:CartanP c):∀(f:Nat) (q:Pr),q∈Q→htR q.1≤f→∀m,((zAV c f q.1).1.drop m).foldr (fun i x=>mirR (trL c) i x) (zAV c f q.1).2∈Q.map Prod.snd
 | 0,q,hq,hf,m=>by have:=hQ.pos hq; omega
 | f+1,q,hq,hf,m=>by
  cases m with
  | zero =>
   rw [List.drop_zero,zFC hQ hc (f+1) q hq hf];exact List.mem_map_of_mem hq
  | succ m =>
   have h0:=zFC hQ hc (f+1) q hq hf;simp only [zAV] at h0 ⊢;cases e:(List.range c.length).find? (fun i=>decide (htR (mirR c i q.1)<htR q.1)) with
   | none =>
    simp only [e] at h0 ⊢;simp only [List.drop_nil,List.foldr_nil] at h0 ⊢;rw [h0]; exact List.mem_map_of_mem hq
   | some i =>
    have hi:i<c.length:=List.mem_range.1 (List.mem_of_find?_eq_some e);have hlt:htR (mirR c i q.1)<htR q.1:=by have:=List.find?_some e; simpa using this
    by_cases h1:htR q.1=1
    ·simp only [e,if_pos h1] at h0 ⊢;simp only [List.drop_nil,List.foldr_nil] at h0 ⊢;rw [h0]; exact List.mem_map_of_mem hq
    ·simp only [if_neg h1,List.drop_succ_cons];rcases hQ.cl q hq i hi with e' | e'
     ·exfalso; rw [e',zCz hi] at h1; exact h1 rfl
     ·exact zOk hQ hc f _ e' (by show htR (mirR c i q.1)≤f; omega) m
theorem zPi (hQ:Rq c Q) {x:List Int} (hx:x∈Q.map Prod.fst) (h1:htR x≠1) {i:Nat} (hi:i<c.length):mirR c i x∈Q.map Prod.fst:=by
 obtain ⟨q,hq,rfl⟩:=List.mem_map.1 hx;rcases hQ.cl q hq i hi with e' | e'
 ·exfalso; rw [e',zCz hi] at h1; exact h1 rfl
 ·exact List.mem_map.2 ⟨_,e',rfl⟩
end
def DI (c:List (List Int)) (r:List Int) (f:Nat) (x:List Int) (P:List Nat):Prop :=
 x∈(prsL c).map Prod.fst∧P++(zAV c f x).1=(zAV c 30 r).1∧(zAV c f x).2=(zAV c 30 r).2
def zAL (P:List Nat):List Int:=P.map (fun i:Nat=>(i:Int))
def upW (c:List (List Int)) (r:List Int) (j:Nat):List Int:=((zAV c 30 r).1.drop j).foldr (fun i x=>mirR (trL c) i x) (zAV c 30 r).2
theorem zSL {c:List (List Int)} {r:List Int} {j i:Nat} (h:(zAV c 30 r).1[j]? = some i):upW c r j=mirR (trL c) i (upW c r (j+1)):=by unfold upW; rw [zAC h]; rfl
def DuC (c:List (List Int)) (L:List (List Int)) (w:World) (e:Ending) (w':World):Prop:=∃o,e=.returned o∧FII (New w w') w' o (L.map (zAZ c))∧Below w.heap.size w w'
theorem zRM {S0 S':Nat→Prop} {u v:Value} {c L:List (List Int)} {w:World} (h:RII S0 w u c) (h':RII S' w v L) (hf:FinP c) (hl:total c≤16777216) (hL:∀x∈L,x∈(prsL c).map Prod.fst) (hn24:L.length≤24) :
  Calls Tryz.prog 33 #[u,v] w (DuC c L w):=by
 have HRES:Hid (DuC c L w=fun e w'=>∃o,e=.returned o∧FII (New w w') w' o (L.map (zAZ c))∧Below w.heap.size w w'):=zWF rfl;have hQ:=hf.rq;have hcp:=hf.cart;have h4:c.length≤4:=hcp.le;have hM:=hcp.mx;have hMT:=hcp.mxT;have HTR:=zWF (fun (w1:World) (b1:Below w.heap.size w w1)=>zJu (h.below b1) hf.isC hl);have HRF:=zWF (fun (w1:World) (b1:Below w.heap.size w w1) (i:Nat) (hi:i<c.length) (S9:Nat→Prop) (vv:Value) (x:List Int) (hx:RI S9 w1 vv x) (hxl:x.length=c.length) (hsm:SmI 12 x)=>zCt (h.below b1) hx hM hxl h4 hi (hsm.mono (by omega)));have HRT:=zWF (fun (S8:Nat→Prop) (vt:Value) (w1:World) (ht:RII S8 w1 vt (trL c)) (i:Nat) (hi:i<c.length) (S9:Nat→Prop) (vv:Value) (x:List Int) (hx:RI S9 w1 vv x) (hxl:x.length=c.length) (hsm:SmI 12 x)=>zCt ht hx hMT hxl h4 hi (hsm.mono (by omega)))
 have HML:=zWF (fun (i:Nat) (hi:i<c.length) (x:List Int) (hxl:x.length=c.length) (hsm:SmI 12 x)=>And.intro (zBX c i x) (zEW hM h4 hi hxl (B:=12) (by omega) (by omega) hsm));have HQS:Hid (∀x∈(prsL c).map Prod.fst,x.length=c.length∧SmI 12 x):=zWF (fun x hx=>by
  obtain ⟨q,hq,rfl⟩:=List.mem_map.1 hx;refine ⟨(hQ.sh q hq).1,fun y hy=>?_⟩;have h1:=(hQ.ht q hq).1;have h2:=zA3 (hQ.nn q hq).1;have h3:=h2.2 y hy;have h4:=(hQ.nn q hq).1 y hy;unfold htR at h1;omega)
 have HQT:Hid (∀x∈(prsL c).map Prod.snd,x.length=c.length∧SmI 12 x):=zWF (fun x hx=>by
  obtain ⟨q,hq,rfl⟩:=List.mem_map.1 hx;refine ⟨(hQ.sh q hq).2,fun y hy=>?_⟩;have h1:=(hQ.ht q hq).2;have h2:=zA3 (hQ.nn q hq).2;have h3:=h2.2 y hy;have h4:=(hQ.nn q hq).2 y hy;unfold htR at h1;omega)
 have HUP:Hid (∀r,r∈(prsL c).map Prod.fst→∀m,(upW c r m).length=c.length∧SmI 12 (upW c r m)):=zWF (fun r hr m=>by
  obtain ⟨q,hq,rfl⟩:=List.mem_map.1 hr;exact HQT.out _ (zOk hQ hcp 30 q hq (by have:=(hQ.ht q hq).1; omega) m))
 have HUE:Hid (∀r,upW c r (zAV c 30 r).1.length=(zAV c 30 r).2):=zWF (fun r=>by unfold upW; rw [List.drop_length]; rfl);have HU0:Hid (∀r,upW c r 0=zAZ c r):=zWF (fun r=>rfl);have HUS:=zWF (fun (r:List Int) (j i:Nat) (hx:(zAV c 30 r).1[j]? = some i)=>zSL hx);have HPM:=zWF (fun (r:List Int)=>zOj (c:=c) 30 r);have HPL:=zWF (fun (r:List Int)=>zOi (c:=c) 30 r);have HD0:=zWF (fun (x:List Int)=>zTS (c:=c) x);have HDN:=zWF (fun (f:Nat) (x:List Int) (h:∀j,j<c.length→htR x≤htR (mirR c j x))=>zTQ (c:=c) (f:=f) (x:=x) (fun j hj=>by have:=h j hj; omega));have HDO:=zWF (fun (f:Nat) (x:List Int) (h:htR x=1)=>zVR (c:=c) (f:=f) h)
 have HDS:=zWF (fun (f i:Nat) (x:List Int) (hi:i<c.length) (hlt:htR (mirR c i x)<htR x) (hno:∀j,j<i→htR x≤htR (mirR c j x)) (h1:htR x≠1)=>zTR (c:=c) (f:=f) (x:=x) hi hlt (fun j hj=>by have:=hno j hj; omega) h1);have HRS:=zWF (fun (x:List Int) (hx:x∈(prsL c).map Prod.fst) (h1:htR x≠1) (i:Nat) (hi:i<c.length)=>zPi hQ hx h1 hi);have HLM:=zWF hL;clear hf hQ hcp hM hMT hL;have h0:=h;have h0':=h';obtain ⟨au,cu,rfl⟩:=h.form;obtain ⟨av,cv,rfl⟩:=h'.form;generalize hn:c.length=n at *;generalize hm:L.length=m at *;have HM:=zWF hm;clear hn hm;have mixed:Tryz.prog.follows .mixedOrders=true:=by kernel_rfl
 go_enter Tryz.func33,Tryz.ntmps33
 obtain ⟨w1,hw1⟩:∃w1,w1=w.alloc (.cells #[] 28):=⟨_,rfl⟩;have hs1:=zBa (HS.nil (Below.refl _ w)) hw1;have HW1:=zWF hw1;have hs1:HS w w1 [aV 28 (.slice (some ⟨w.heap.size,0,none⟩) 0 0) (([]:Zl).map Prod.fst)]:=hs1;have hs1:=hs1.add (Below.refl _ w1) (zBs []) (F:=fun _=>False) ⟨fun x hx=>(by cases hx),(by simp)⟩ (fun b hb=>hb.elim);have hs1:HS w w1 [aV 28 (.slice (some ⟨w.heap.size,0,none⟩) 0 0) (([]:Zl).map Prod.fst),aRs []]:=hs1;have hcall:=HTR.out w1 hs1.bl;clear hw1;go_wp2_with fail
 rw [<-HW1.out];refine hcall.mono ?_;rintro e w2 ⟨vt,rfl,ft,bt⟩;have hs:=hs1.addR bt ft;have hs:HS w w2 [aV 28 (.slice (some ⟨w.heap.size,0,none⟩) 0 0) (([]:Zl).map Prod.fst),aRs [],aR vt (trL c)]:=hs;have HP0:Hid (([]:Zl).map Prod.snd=(L.take 0).map (zAZ c)):=zWF (by simp);clear ft bt hcall hs1;go_wp2_with fail
 go_loopw [5,7] (fun oo kk wr=>∃(k:Nat) (vo:Value) (Z:Zl),vo=oo∧k≤m∧kk=.int .i64 k∧HS w wr [aV 28 vo (Z.map Prod.fst),aRs Z,aR vt (trL c)]∧Hid (Z.map Prod.snd=(L.take k).map (zAZ c))) (fun _ kk _=>m-(intOf kk).toNat)
 case atStart=>exact ⟨0,_,_,rfl,Nat.zero_le _,rfl,hs,HP0⟩
 case round =>
  clear hs;obtain ⟨k,vo,Z,rfl,hk,rfl,hs,HZ⟩:=hrel;by_cases hkm:k<m
  ·have i1:(k:Int)<(m:Int):=by omega
   obtain ⟨b3,o3,r3,x0,rfl,hc3,hr3,hx3⟩:=RII.at (h0'.below hs.bl) hkm;have hx0:=HLM.out x0 (zWH hx3.out);obtain ⟨g1,g2⟩:=HQS.out x0 hx0;have HG1:=zWF g1;have HZL:Hid ((Z.map Prod.fst).length+1≤67108864):=zWF (by have:=congrArg List.length HZ.out; simp at this; simp; omega);have HZN:Hid (Z.map Prod.snd++[zAZ c x0]=(L.take (k+1)).map (zAZ c)):=zWF (by rw [zAG hx3.out,List.map_append,HZ.out]; rfl);have HDI:Hid (DI c x0 (30-0) x0 []):=zWF ⟨hx0,rfl,rfl⟩;have HX0:=zWF hx0;obtain ⟨a3,c3,rfl⟩:=hr3.form;rw [g1] at hr3 hc3;have hc4:=zE7 hc3 (.cells #[] 3);clear g1 g2 hx3;go_wp2_with (at_builtin; go_must (refine zAJ (W:=wr) rfl _ _ rfl rfl (FI.fresh0 wr) zAO rfl (hr3.below zAO) ?_ ?_))
   ·first | (simp; omega) | omega | (have:=HG1.out; simp; omega)
   ·intro vx wx fx bx _;have fx:FI _ wx vx x0:=fx;have hs:=hs.addI bx fx;have hs:HS w wx [aV 28 vo (Z.map Prod.fst),aRs Z,aR vt (trL c),aI vx x0]:=hs;obtain ⟨w5,hw5⟩:∃w5,w5=wx.alloc (.cells #[] 3):=⟨_,rfl⟩;have fe:=zAR (Below.refl _ wx) hw5;have hs5:=hs.addI fe.2 fe.1;have HW5:=zWF hw5;have hs5:HS w w5 [aV 28 vo (Z.map Prod.fst),aRs Z,aR vt (trL c),aI vx x0,aI (.slice (some ⟨wx.heap.size,0,none⟩) 0 0) (zAL [])]:=hs5;clear fx bx fe hw5 hs hr3 hc3;go_wp2_with fail
    rw [<-HW5.out];go_loopw [8,9,10] (fun xx pp tt wr=>∃(t:Nat) (vx vp:Value) (x:List Int) (P:List Nat),vx=xx∧vp=pp∧t≤30∧tt=.int .i64 t∧HS w wr [aV 28 vo (Z.map Prod.fst),aRs Z,aR vt (trL c),aI vx x,aI vp (zAL P)]∧Hid (DI c x0 (30-t) x P)∧P.length=t) (fun _ _ tt _=>30-(intOf tt).toNat)
    case atStart=>exact ⟨0,_,_,_,_,rfl,rfl,Nat.zero_le _,rfl,hs5,HDI,rfl⟩
    case round =>
     clear hs5;obtain ⟨t,vx,vp,x,P,rfl,rfl,ht,rfl,hs,HDI,hpl⟩:=hrel;obtain ⟨g1,g2⟩:=HQS.out x HDI.out.1;obtain ⟨ax,cx,rfl⟩:=hs.formI 3 rfl;obtain ⟨ap,cp,rfl⟩:=hs.formI 4 rfl;have HPN:Hid ((zAL P).length=t):=zWF (by unfold zAL; simp [hpl]);have HXL:=zWF g1;have HXS:=zWF g2;have HPL9:=zWF hpl;rw [g1,HPN.out] at hs ⊢;clear g1 g2 hpl;by_cases ht30:t<30
     ·have i2:(t:Int)<30:=by omega
      have HNO0:Hid (∀j,j<0→htR x≤htR (mirR c j x)):=zWF (fun j hj=>by omega);go_wp2_with fail
      go_loopw [11] (fun ii wr=>∃(i:Nat),i≤n∧ii=.int .i64 i∧HS w wr [aV 28 vo (Z.map Prod.fst),aRs Z,aR vt (trL c),aI (.slice ax n cx) x,aI (.slice ap t cp) (zAL P)]∧Hid (∀j,j<i→htR x≤htR (mirR c j x))) (fun ii _=>n-(intOf ii).toNat)
      case atStart=>exact ⟨0,Nat.zero_le _,rfl,hs,HNO0⟩
      case round =>
       clear hs;obtain ⟨i,hi,rfl,hs,HNO⟩:=hrel;by_cases hin:i<n
       ·have i3:(i:Int)<(n:Int):=by omega
        have hx:=(hs.I 3 rfl).reads;have hcall:=HRF.out wr hs.bl i hin _ _ _ hx HXL.out HXS.out;obtain ⟨g1,g2⟩:=HML.out i hin x HXL.out HXS.out;have hxh:-48≤htR x∧htR x≤48:=by have:=zBF (B:=12) (by omega) HXS.out; have:=HXL.out; unfold htR; omega
        have hmh:-624≤htR (mirR c i x)∧htR (mirR c i x)≤624:=by have:=zBF (B:=13*12) (by omega) g2; have:=HXL.out; unfold htR; omega
        have HY1:Hid ((mirR c i x).length≤1000):=zWF (by have:=HXL.out; omega);have HY2:Hid (SmI 100000 (mirR c i x)):=zWF (g2.mono (by omega));have HYL:Hid ((mirR c i x).length=n):=zWF (by rw [g1,HXL.out]);clear hx g1 g2;go_wp2_with fail
        refine hcall.mono ?_;rintro e w6 ⟨r6,rfl,f6,b6⟩;have hs:=hs.addI b6 f6;have hs:HS w w6 [aV 28 vo (Z.map Prod.fst),aRs Z,aR vt (trL c),aI (.slice ax n cx) x,aI (.slice ap t cp) (zAL P),aI r6 (mirR c i x)]:=hs;have hh1:=zBL (hs.I 5 rfl).reads HY2.out HY1.out;clear f6 b6 hcall;go_wp2_with fail
        refine hh1.mono ?_;rintro e w7 ⟨rfl,m7,rfl⟩;have hs:=hs.drewN m7;generalize w6.drewN m7=w7 at *;have hs:HS w w7 [aV 28 vo (Z.map Prod.fst),aRs Z,aR vt (trL c),aI (.slice ax n cx) x,aI (.slice ap t cp) (zAL P),aI r6 (mirR c i x)]:=hs;have hh2:=zBL (hs.I 3 rfl).reads (HXS.out.mono (by omega)) (by rw [HXL.out]; omega);clear hh1;go_wp2_with fail
        refine hh2.mono ?_;rintro e w8 ⟨rfl,m8,rfl⟩;have hs:=(hs.drewN m8).pick [0,1,2,3,4] (by decide);generalize w7.drewN m8=w8 at *;have hs:HS w w8 [aV 28 vo (Z.map Prod.fst),aRs Z,aR vt (trL c),aI (.slice ax n cx) x,aI (.slice ap t cp) (zAL P)]:=hs;have HLT:Hid (htR x=htR x):=zWF rfl;obtain ⟨p,hp⟩:∃p,p=htR (mirR c i x):=⟨_,rfl⟩;obtain ⟨q,hq⟩:∃q,q=htR x:=⟨_,rfl⟩;have HP9:=zWF hp;have HQ9:=zWF hq;rw [<-hp] at hmh ⊢;rw [<-hq] at hxh ⊢;clear hp hq hh2;obtain ⟨p1,p2⟩:=hmh;obtain ⟨q1,q2⟩:=hxh;by_cases hge:q≤p
        ·have HNO2:Hid (∀j,j<i+1→htR x≤htR (mirR c j x)):=zWF (fun j hj=>by
          rcases Nat.lt_or_ge j i with h | h
          ·exact HNO.out j h
          ·have:j=i:=by omega
           subst this;rw [<-HP9.out,<-HQ9.out]; omega)
         go_wp2_with fail
         go_roundw
         case rel=>exact ⟨i+1,by omega,by go_num,hs,HNO2⟩
         case measure=>simp [intOf]; omega
        ·have i5:¬(i:Int)=(n:Int):=by omega
         have f5:((i:Int) == (n:Int))=false:=by simp; omega
         have hh3:=zBL (hs.I 3 rfl).reads (HXS.out.mono (by omega)) (by rw [HXL.out]; omega);rw [<-HQ9.out] at hh3;go_wp2_with fail
         refine hh3.mono ?_;rintro e w9 ⟨rfl,m9,rfl⟩;have hs:=hs.drewN m9;generalize w8.drewN m9=w9 at *;have hs:HS w w9 [aV 28 vo (Z.map Prod.fst),aRs Z,aR vt (trL c),aI (.slice ax n cx) x,aI (.slice ap t cp) (zAL P)]:=hs;clear hh3;by_cases hq1:q=1
         ·have HFIN:Hid (P=(zAV c 30 x0).1∧x=(zAV c 30 x0).2):=zWF (by
           have h1:=HDI.out.2;rw [HDO.out (30-t) x (by rw [<-HQ9.out]; exact hq1)] at h1;exact ⟨by simpa using h1.1,h1.2⟩)
          have fq:(q == 1)=true:=by simp [hq1]
          subst hq1;have HPL2:Hid ((zAV c 30 x0).1.length=t):=zWF (by rw [<-HFIN.out.1,HPL9.out]);have HXU:Hid (x=upW c x0 t):=zWF (by rw [HFIN.out.2,<-HUE.out,HPL2.out]);have HHD:=zWF (fun (h:0<t)=>hs.headI 4 rfl (by rw [HPN.out]; exact h));have hs:HS w w9 [aV 28 vo (Z.map Prod.fst),aRs Z,aR vt (trL c),aI (.slice ax n cx) (upW c x0 t),aI (.slice ap t cp) (zAL P)]:=by rw [<-HXU.out]; exact hs
          go_wp2_with fail
          go_loopw [8,12] (fun xx jj wr=>∃(j:Nat) (vx:Value),vx=xx∧j≤t∧jj=.int .i64 ((j:Int)-1)∧HS w wr [aV 28 vo (Z.map Prod.fst),aRs Z,aR vt (trL c),aI vx (upW c x0 j),aI (.slice ap t cp) (zAL P)]) (fun _ jj _=>(intOf jj+1).toNat)
          case atStart=>exact ⟨t,_,rfl,zWK _,rfl,hs⟩
          case round =>
           clear hs;obtain ⟨j,vx,rfl,hj,rfl,hs⟩:=hrel;obtain ⟨u1,u2⟩:=HUP.out x0 HX0.out j;obtain ⟨ay,cy,rfl⟩:=hs.formI 3 rfl;rw [u1] at hs ⊢;cases j with
           | zero =>
            have i9:¬(0:Int)≤((0:Nat):Int)-1:=by omega
            rw [HU0.out] at hs;obtain ⟨w13,hw13⟩:∃w13,w13=wr.alloc (.cells #[.slice ay n cy] 28):=⟨_,rfl⟩;have hs13:=hs.alloc (.cells #[.slice ay n cy] 28);rw [<-hw13] at hs13;have hc13:w13.cell? ⟨wr.heap.size,0,none⟩=some (.slice ay n cy):=by rw [hw13]; go_simp
            have HW13:=zWF hw13;have hone:(Value.slice ay n cy).oneCell'=true:=rfl;clear hw13 u1 u2 hs;go_wp2_with (at_builtin; go_must (rw [<-HW13.out]; refine zAN rfl _ _ rfl rfl hs13 0 rfl (HS.newV hs13 0 rfl) rfl hc13 hone HZL.out ?_))
            intro v14 w14 hs14 _;have hsj:=(hs14.moreS 1 3 (by decide) rfl rfl (List.perm_append_comm (l₁:=Z) (l₂:=[(Value.slice ay n cy,zAZ c x0)]))).pick [0,1,2] (by decide);have hsj:HS w w14 [aV 28 v14 ((Z++[(Value.slice ay n cy,zAZ c x0)]).map Prod.fst),aRs (Z++[(Value.slice ay n cy,zAZ c x0)]),aR vt (trL c)]:=by
             have e:(Z++[(Value.slice ay n cy,zAZ c x0)]).map Prod.fst=Z.map Prod.fst++[Value.slice ay n cy]:=by simp
             rw [e]; exact hsj
            have HZ2:Hid ((Z++[(Value.slice ay n cy,zAZ c x0)]).map Prod.snd=(L.take (k+1)).map (zAZ c)):=zWF (by rw [<-HZN.out]; simp);clear hs13 hs14;go_wp2_with fail
            go_roundw
            case rel=>exact ⟨k+1,_,_,rfl,by omega,by go_num,hsj,HZ2⟩
            case measure=>simp [intOf]; omega
           | succ j =>
            have i9:(0:Int)≤(((j+1:Nat):Int)-1):=by omega
            have i10:(((j+1:Nat):Int)-1)=(j:Int):=by omega
            rw [i10] at i9 ⊢;have hjt:j<t:=by omega
            have i11:(j:Int)<(t:Int):=by omega
            obtain ⟨gp,rfl⟩:∃g,ap=some ⟨g,0,none⟩:=by
             obtain ⟨gp,cp9,e9,_⟩:=HHD.out (by omega);simp only [Value.slice.injEq] at e9;exact ⟨gp,e9.1⟩
            obtain ⟨i,hi9⟩:∃i,P[j]? = some i:=⟨P[j]'(by rw [HPL9.out]; exact hjt),zWG _⟩;have hci:=(hs.cellI 4 rfl (by exact HPN.out) (j:=j) (x:=(i:Int)) (by unfold zAL; simp [hi9])).1;have hpi:(zAV c 30 x0).1[j]? = some i:=by rw [<-HFIN.out.1]; exact hi9
            have hin9:=HPM.out x0 i (zWH hpi);have HUJ:=zWF (HUS.out x0 j i hpi);have hcall:=HRT.out _ vt wr (hs.R 2 rfl).reads i hin9 _ _ _ (hs.I 3 rfl).reads u1 u2;rw [<-HUJ.out] at hcall;clear u1 u2 hi9 hpi;go_wp2_with fail
            refine hcall.mono ?_;rintro e w15 ⟨r15,rfl,f15,b15⟩;have hs:=(hs.addI b15 f15).pick [0,1,2,5,4] (by decide);have hs:HS w w15 [aV 28 vo (Z.map Prod.fst),aRs Z,aR vt (trL c),aI r15 (upW c x0 j),aI (.slice (some ⟨gp,0,none⟩) t cp) (zAL P)]:=hs;clear hcall f15 b15;go_wp2_with fail
            go_roundw
            case rel=>exact ⟨j,_,rfl,by omega,by go_num,hs⟩
            case measure=>simp [intOf]
         ·have fq:(q == 1)=false:=by simp [hq1]
          have hcall:=HRF.out w9 hs.bl i hin _ _ _ (hs.I 3 rfl).reads HXL.out HXS.out;have HDI2:Hid (DI c x0 (30-(t+1)) (mirR c i x) (P++[i])):=zWF (by
           have h1:=HDI.out.2;rw [show 30-t=30-(t+1)+1 by omega,HDS.out (30-(t+1)) i x hin (by rw [<-HP9.out,<-HQ9.out]; omega) HNO.out (by rw [<-HQ9.out]; exact hq1)] at h1;exact ⟨HRS.out x HDI.out.1 (by rw [<-HQ9.out]; exact hq1) i hin,by simpa using h1.1,h1.2⟩)
          go_wp2_with fail
          refine hcall.mono ?_;rintro e w10 ⟨r10,rfl,f10,b10⟩;have hs:=(hs.addI b10 f10).pick [0,1,2,5,4] (by decide);have hs:HS w w10 [aV 28 vo (Z.map Prod.fst),aRs Z,aR vt (trL c),aI r10 (mirR c i x),aI (.slice ap t cp) (zAL P)]:=hs;obtain ⟨w11,hw11⟩:∃w11,w11=w10.alloc (.cells #[.int .i64 i] 3):=⟨_,rfl⟩;have hs11:=hs.alloc (.cells #[.int .i64 i] 3);rw [<-hw11] at hs11;have hc11:w11.cell? ⟨w10.heap.size,0,none⟩=some (.int .i64 i):=by rw [hw11]; go_simp
          have HW11:=zWF hw11;have HLN:Hid ((zAL P).length+1≤67108864):=zWF (by rw [HPN.out]; omega);clear hw11 hs f10 b10 hcall;go_wp2_with (at_builtin; go_must (rw [<-HW11.out]; refine zBY rfl _ _ rfl rfl hs11 4 rfl rfl hc11 HLN.out ?_))
          intro v12 w12 hs12;have hs12:HS w w12 [aV 28 vo (Z.map Prod.fst),aRs Z,aR vt (trL c),aI r10 (mirR c i x),aI v12 (zAL (P++[i]))]:=by
           rw [show zAL (P++[i])=zAL P++[(i:Int)] by unfold zAL; simp]; exact hs12
          clear hs11;go_wp2_with fail
          go_roundw
          case rel=>exact ⟨t+1,_,_,_,_,rfl,rfl,by omega,by go_num,hs12,HDI2,by rw [List.length_append,HPL9.out]; rfl⟩
          case measure=>simp [intOf]; omega
       ·have i3:¬(i:Int)<(n:Int):=by omega
        have e:i=n:=by omega
        have f5:((i:Int) == (n:Int))=true:=by simp [e]
        have HFIN:Hid (P=(zAV c 30 x0).1∧x=(zAV c 30 x0).2):=zWF (by
         have h1:=HDI.out.2;rw [HDN.out (30-t) x (fun j hj=>HNO.out j (by omega))] at h1;exact ⟨by simpa using h1.1,h1.2⟩)
        have wcopy:wr=wr:=rfl;clear e;generalize wr=w9 at *;have HPL2:Hid ((zAV c 30 x0).1.length=t):=zWF (by rw [<-HFIN.out.1,HPL9.out]);have HXU:Hid (x=upW c x0 t):=zWF (by rw [HFIN.out.2,<-HUE.out,HPL2.out]);have HHD:=zWF (fun (h:0<t)=>hs.headI 4 rfl (by rw [HPN.out]; exact h));have hs:HS w w9 [aV 28 vo (Z.map Prod.fst),aRs Z,aR vt (trL c),aI (.slice ax n cx) (upW c x0 t),aI (.slice ap t cp) (zAL P)]:=by rw [<-HXU.out]; exact hs
        go_wp2_with fail
        go_loopw [8,12] (fun xx jj wr=>∃(j:Nat) (vx:Value),vx=xx∧j≤t∧jj=.int .i64 ((j:Int)-1)∧HS w wr [aV 28 vo (Z.map Prod.fst),aRs Z,aR vt (trL c),aI vx (upW c x0 j),aI (.slice ap t cp) (zAL P)]) (fun _ jj _=>(intOf jj+1).toNat)
        case atStart=>exact ⟨t,_,rfl,zWK _,rfl,hs⟩
        case round =>
         clear hs;obtain ⟨j,vx,rfl,hj,rfl,hs⟩:=hrel;obtain ⟨u1,u2⟩:=HUP.out x0 HX0.out j;obtain ⟨ay,cy,rfl⟩:=hs.formI 3 rfl;rw [u1] at hs ⊢;cases j with
         | zero =>
          have i9:¬(0:Int)≤((0:Nat):Int)-1:=by omega
          rw [HU0.out] at hs;obtain ⟨w13,hw13⟩:∃w13,w13=wr.alloc (.cells #[.slice ay n cy] 28):=⟨_,rfl⟩;have hs13:=hs.alloc (.cells #[.slice ay n cy] 28);rw [<-hw13] at hs13;have hc13:w13.cell? ⟨wr.heap.size,0,none⟩=some (.slice ay n cy):=by rw [hw13]; go_simp
          have HW13:=zWF hw13;have hone:(Value.slice ay n cy).oneCell'=true:=rfl;clear hw13 u1 u2 hs;go_wp2_with (at_builtin; go_must (rw [<-HW13.out]; refine zAN rfl _ _ rfl rfl hs13 0 rfl (HS.newV hs13 0 rfl) rfl hc13 hone HZL.out ?_))
          intro v14 w14 hs14 _;have hsj:=(hs14.moreS 1 3 (by decide) rfl rfl (List.perm_append_comm (l₁:=Z) (l₂:=[(Value.slice ay n cy,zAZ c x0)]))).pick [0,1,2] (by decide);have hsj:HS w w14 [aV 28 v14 ((Z++[(Value.slice ay n cy,zAZ c x0)]).map Prod.fst),aRs (Z++[(Value.slice ay n cy,zAZ c x0)]),aR vt (trL c)]:=by
           have e:(Z++[(Value.slice ay n cy,zAZ c x0)]).map Prod.fst=Z.map Prod.fst++[Value.slice ay n cy]:=by simp
           rw [e]; exact hsj
          have HZ2:Hid ((Z++[(Value.slice ay n cy,zAZ c x0)]).map Prod.snd=(L.take (k+1)).map (zAZ c)):=zWF (by rw [<-HZN.out]; simp);clear hs13 hs14;go_wp2_with fail
          go_roundw
          case rel=>exact ⟨k+1,_,_,rfl,by omega,by go_num,hsj,HZ2⟩
          case measure=>simp [intOf]; omega
         | succ j =>
          have i9:(0:Int)≤(((j+1:Nat):Int)-1):=by omega
          have i10:(((j+1:Nat):Int)-1)=(j:Int):=by omega
          rw [i10] at i9 ⊢;have hjt:j<t:=by omega
          have i11:(j:Int)<(t:Int):=by omega
          obtain ⟨gp,rfl⟩:∃g,ap=some ⟨g,0,none⟩:=by
           obtain ⟨gp,cp9,e9,_⟩:=HHD.out (by omega);simp only [Value.slice.injEq] at e9;exact ⟨gp,e9.1⟩
          obtain ⟨i,hi9⟩:∃i,P[j]? = some i:=⟨P[j]'(by rw [HPL9.out]; exact hjt),zWG _⟩;have hci:=(hs.cellI 4 rfl (by exact HPN.out) (j:=j) (x:=(i:Int)) (by unfold zAL; simp [hi9])).1;have hpi:(zAV c 30 x0).1[j]? = some i:=by rw [<-HFIN.out.1]; exact hi9
          have hin9:=HPM.out x0 i (zWH hpi);have HUJ:=zWF (HUS.out x0 j i hpi);have hcall:=HRT.out _ vt wr (hs.R 2 rfl).reads i hin9 _ _ _ (hs.I 3 rfl).reads u1 u2;rw [<-HUJ.out] at hcall;clear u1 u2 hi9 hpi;go_wp2_with fail
          refine hcall.mono ?_;rintro e w15 ⟨r15,rfl,f15,b15⟩;have hs:=(hs.addI b15 f15).pick [0,1,2,5,4] (by decide);have hs:HS w w15 [aV 28 vo (Z.map Prod.fst),aRs Z,aR vt (trL c),aI r15 (upW c x0 j),aI (.slice (some ⟨gp,0,none⟩) t cp) (zAL P)]:=hs;clear hcall f15 b15;go_wp2_with fail
          go_roundw
          case rel=>exact ⟨j,_,rfl,by omega,by go_num,hs⟩
          case measure=>simp [intOf]
     ·have i2:¬(t:Int)<30:=by omega
      have e:t=30:=by omega
      have HFIN:Hid (P=(zAV c 30 x0).1∧x=(zAV c 30 x0).2):=zWF (by
       have h1:=HDI.out.2;rw [show 30-t=0 by omega,HD0.out x] at h1;exact ⟨by simpa using h1.1,h1.2⟩)
      clear e;generalize wr=w9 at *;have HPL2:Hid ((zAV c 30 x0).1.length=t):=zWF (by rw [<-HFIN.out.1,HPL9.out]);have HXU:Hid (x=upW c x0 t):=zWF (by rw [HFIN.out.2,<-HUE.out,HPL2.out]);have HHD:=zWF (fun (h:0<t)=>hs.headI 4 rfl (by rw [HPN.out]; exact h));have hs:HS w w9 [aV 28 vo (Z.map Prod.fst),aRs Z,aR vt (trL c),aI (.slice ax n cx) (upW c x0 t),aI (.slice ap t cp) (zAL P)]:=by rw [<-HXU.out]; exact hs
      go_wp2_with fail
      go_loopw [8,12] (fun xx jj wr=>∃(j:Nat) (vx:Value),vx=xx∧j≤t∧jj=.int .i64 ((j:Int)-1)∧HS w wr [aV 28 vo (Z.map Prod.fst),aRs Z,aR vt (trL c),aI vx (upW c x0 j),aI (.slice ap t cp) (zAL P)]) (fun _ jj _=>(intOf jj+1).toNat)
      case atStart=>exact ⟨t,_,rfl,zWK _,rfl,hs⟩
      case round =>
       clear hs;obtain ⟨j,vx,rfl,hj,rfl,hs⟩:=hrel;obtain ⟨u1,u2⟩:=HUP.out x0 HX0.out j;obtain ⟨ay,cy,rfl⟩:=hs.formI 3 rfl;rw [u1] at hs ⊢;cases j with
       | zero =>
        have i9:¬(0:Int)≤((0:Nat):Int)-1:=by omega
        rw [HU0.out] at hs;obtain ⟨w13,hw13⟩:∃w13,w13=wr.alloc (.cells #[.slice ay n cy] 28):=⟨_,rfl⟩;have hs13:=hs.alloc (.cells #[.slice ay n cy] 28);rw [<-hw13] at hs13;have hc13:w13.cell? ⟨wr.heap.size,0,none⟩=some (.slice ay n cy):=by rw [hw13]; go_simp
        have HW13:=zWF hw13;have hone:(Value.slice ay n cy).oneCell'=true:=rfl;clear hw13 u1 u2 hs;go_wp2_with (at_builtin; go_must (rw [<-HW13.out]; refine zAN rfl _ _ rfl rfl hs13 0 rfl (HS.newV hs13 0 rfl) rfl hc13 hone HZL.out ?_))
        intro v14 w14 hs14 _;have hsj:=(hs14.moreS 1 3 (by decide) rfl rfl (List.perm_append_comm (l₁:=Z) (l₂:=[(Value.slice ay n cy,zAZ c x0)]))).pick [0,1,2] (by decide);have hsj:HS w w14 [aV 28 v14 ((Z++[(Value.slice ay n cy,zAZ c x0)]).map Prod.fst),aRs (Z++[(Value.slice ay n cy,zAZ c x0)]),aR vt (trL c)]:=by
         have e:(Z++[(Value.slice ay n cy,zAZ c x0)]).map Prod.fst=Z.map Prod.fst++[Value.slice ay n cy]:=by simp
         rw [e]; exact hsj
        have HZ2:Hid ((Z++[(Value.slice ay n cy,zAZ c x0)]).map Prod.snd=(L.take (k+1)).map (zAZ c)):=zWF (by rw [<-HZN.out]; simp);clear hs13 hs14;go_wp2_with fail
        go_roundw
        case rel=>exact ⟨k+1,_,_,rfl,by omega,by go_num,hsj,HZ2⟩
        case measure=>simp [intOf]; omega
       | succ j =>
        have i9:(0:Int)≤(((j+1:Nat):Int)-1):=by omega
        have i10:(((j+1:Nat):Int)-1)=(j:Int):=by omega
        rw [i10] at i9 ⊢;have hjt:j<t:=by omega
        have i11:(j:Int)<(t:Int):=by omega
        obtain ⟨gp,rfl⟩:∃g,ap=some ⟨g,0,none⟩:=by
         obtain ⟨gp,cp9,e9,_⟩:=HHD.out (by omega);simp only [Value.slice.injEq] at e9;exact ⟨gp,e9.1⟩
        obtain ⟨i,hi9⟩:∃i,P[j]? = some i:=⟨P[j]'(by rw [HPL9.out]; exact hjt),zWG _⟩;have hci:=(hs.cellI 4 rfl (by exact HPN.out) (j:=j) (x:=(i:Int)) (by unfold zAL; simp [hi9])).1;have hpi:(zAV c 30 x0).1[j]? = some i:=by rw [<-HFIN.out.1]; exact hi9
        have hin9:=HPM.out x0 i (zWH hpi);have HUJ:=zWF (HUS.out x0 j i hpi);have hcall:=HRT.out _ vt wr (hs.R 2 rfl).reads i hin9 _ _ _ (hs.I 3 rfl).reads u1 u2;rw [<-HUJ.out] at hcall;clear u1 u2 hi9 hpi;go_wp2_with fail
        refine hcall.mono ?_;rintro e w15 ⟨r15,rfl,f15,b15⟩;have hs:=(hs.addI b15 f15).pick [0,1,2,5,4] (by decide);have hs:HS w w15 [aV 28 vo (Z.map Prod.fst),aRs Z,aR vt (trL c),aI r15 (upW c x0 j),aI (.slice (some ⟨gp,0,none⟩) t cp) (zAL P)]:=hs;clear hcall f15 b15;go_wp2_with fail
        go_roundw
        case rel=>exact ⟨j,_,rfl,by omega,by go_num,hs⟩
        case measure=>simp [intOf]
  ·have i1:¬(k:Int)<(m:Int):=by omega
   have hz:=HZ.out;rw [List.take_of_length_le (by rw [HM.out]; omega)] at hz;have hs2:=((hs.pick [0,1] (by decide)).shutF (Z:=Z) (v:=vo) 0 1 (by decide) rfl rfl).pick [0] (by decide);have hs3:HS w wr [aF vo (Z.map Prod.snd)]:=hs2;rw [hz] at hs3;clear hs hs2 hz;go_wp2_with fail
   go_ret
   rw [HRES.out];exact ⟨_,rfl,hs3.F 0 rfl,hs3.bl⟩
theorem zCB {c:List (List Int)} (h:finB c=true):FinP c:=by
 unfold finB at h;rw [Bool.and_eq_true] at h;exact ⟨zAK.1 h.1,h.2⟩
theorem zLG {c:List (List Int)} (h:FinP c):∀x∈zAT c,x∈(prsL c).map Prod.fst:=fun x hx=>((zCP h.rq h.cart).2 x).1 hx
def prR (c:List (List Int)):List (List Int):=if finB c=true then zAT c else []
def PrC (c:List (List Int)) (w:World) (e:Ending) (w':World):Prop:=∃r,e=.returned (.tuple #[r,.bool (finB c)])∧FII (New w w') w' r (prR c)∧Below w.heap.size w w'
theorem zDi {S0:Nat→Prop} {u:Value} {c:List (List Int)} {w:World} (h:RII S0 w u c) (hl:total c≤16777216) :
  Calls Tryz.prog 12 #[u] w (PrC c w):=by
 have HRES:Hid (PrC c w=fun e w'=>∃r,e=.returned (.tuple #[r,.bool (finB c)])∧FII (New w w') w' r (prR c)∧Below w.heap.size w w'):=zWF rfl;have hF:=zEH h hl;have h0:=h;obtain ⟨au,cu,rfl⟩:=h.form;generalize c.length=n at *;cases hB:finB c with
 | false =>
  rw [hB] at hF;have HR:Hid (prR c=[]):=zWF (by unfold prR; rw [hB]; rfl);have HBB:=zWF hB;clear hB;go_enter Tryz.func12,Tryz.ntmps12
  go_wp2_with fail
  refine hF.mono ?_;rintro e w1 ⟨rfl,b1⟩;have hfe:=FII.empty_of b1 (w1:=w1.alloc (.cells #[] 28)) rfl;go_wp2_with fail
  go_ret2
  rw [HRES.out];exact ⟨_,by rw [HBB.out]; rfl,by rw [HR.out]; exact hfe.1,hfe.2⟩
 | true =>
  have hf:=zCB hB;rw [hB] at hF;have HR:Hid (prR c=zAT c):=zWF (by unfold prR; rw [hB]; rfl);have HBB:=zWF hB;have HC:=zWF (fun (w1:World) (b1:Below w.heap.size w w1)=>zJo (h0.below b1) hf hl);clear hB hf;go_enter Tryz.func12,Tryz.ntmps12
  go_wp2_with fail
  refine hF.mono ?_;rintro e w1 ⟨rfl,b1⟩;have hcall:=HC.out w1 b1;have HRU:Hid (RuC c w1=fun e w'=>∃o,e=.returned o∧FII (New w1 w') w' o (zAT c)∧Below w1.heap.size w1 w'):=zWF rfl;rw [HRU.out] at hcall;clear HRU;go_wp2_with fail
  refine hcall.mono ?_;rintro e w2 ⟨r,rfl,f2,b2⟩;have hz:=b1.size;have f3:=FC.mono f2 (S':=New w w2) (fun b hb=>⟨Nat.le_trans hz hb.1,hb.2⟩);clear hcall;go_wp2_with fail
  go_ret2
  rw [HRES.out];exact ⟨_,by rw [HBB.out]; rfl,by rw [HR.out]; exact f3,zAA.step b1 b2⟩
def corR (c:List (List Int)):List (List Int):=if finB c=true then (zAT c).map (zAZ c) else []
def CoC (c:List (List Int)) (w:World) (e:Ending) (w':World):Prop:=∃r,e=.returned (.tuple #[r,.bool (finB c)])∧FII (New w w') w' r (corR c)∧Below w.heap.size w w'
theorem zFj {S0:Nat→Prop} {u:Value} {c:List (List Int)} {w:World} (h:RII S0 w u c) (hl:total c≤16777216) :
  Calls Tryz.prog 7 #[u] w (CoC c w):=by
 have HRES:Hid (CoC c w=fun e w'=>∃r,e=.returned (.tuple #[r,.bool (finB c)])∧FII (New w w') w' r (corR c)∧Below w.heap.size w w'):=zWF rfl;have hR:=zDi h hl;have HPR:Hid (PrC c w=fun e w'=>∃r,e=.returned (.tuple #[r,.bool (finB c)])∧FII (New w w') w' r (prR c)∧Below w.heap.size w w'):=zWF rfl;rw [HPR.out] at hR;clear HPR;have h0:=h;obtain ⟨au,cu,rfl⟩:=h.form;generalize c.length=n at *;cases hB:finB c with
 | false =>
  rw [hB] at hR;have HR:Hid (corR c=[]):=zWF (by unfold corR; rw [hB]; rfl);have HBB:=zWF hB;clear hB;go_enter Tryz.func7,Tryz.ntmps7
  go_wp2_with fail
  refine hR.mono ?_;rintro e w1 ⟨r,rfl,_,b1⟩;have hfe:=FII.empty_of b1 (w1:=w1.alloc (.cells #[] 28)) rfl;go_wp2_with fail
  go_ret2
  rw [HRES.out];exact ⟨_,by rw [HBB.out]; rfl,by rw [HR.out]; exact hfe.1,hfe.2⟩
 | true =>
  have hf:=zCB hB;rw [hB] at hR;have HPRR:Hid (prR c=zAT c):=zWF (by unfold prR; rw [hB]; rfl);have HR:Hid (corR c=(zAT c).map (zAZ c)):=zWF (by unfold corR; rw [hB]; rfl);have HBB:=zWF hB;have h24:=zFY hf.rq hf.cart;have HC:=zWF (fun (w1:World) (b1:Below w.heap.size w w1) (S1:Nat→Prop) (v:Value) (hv:RII S1 w1 v (zAT c))=>zRM (h0.below b1) hv hf hl (zLG hf) h24);clear hB hf;go_enter Tryz.func7,Tryz.ntmps7
  go_wp2_with fail
  refine hR.mono ?_;rintro e w1 ⟨r,rfl,f1,b1⟩;rw [HPRR.out] at f1;have hcall:=HC.out w1 b1 _ r f1.read;have HRU:Hid (DuC c (zAT c) w1=fun e w'=>∃o,e=.returned o∧FII (New w1 w') w' o ((zAT c).map (zAZ c))∧Below w1.heap.size w1 w'):=zWF rfl;rw [HRU.out] at hcall;clear HRU;go_wp2_with fail
  refine hcall.mono ?_;rintro e w2 ⟨r,rfl,f2,b2⟩;have hz:=b1.size;have f3:=FC.mono f2 (S':=New w w2) (fun b hb=>⟨Nat.le_trans hz hb.1,hb.2⟩);clear hcall;go_wp2_with fail
  go_ret2
  rw [HRES.out];exact ⟨_,by rw [HBB.out]; rfl,by rw [HR.out]; exact f3,zAA.step b1 b2⟩
end Go.Proofs.YtphbichgpcicnaaGreatDoor
