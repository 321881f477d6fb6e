/- Dominant weights below one: the reference's search and the program's are the same. Plain lists. -/
import Derived.Test.YtiohpndgemonjaaGreatJWor
import Derived.Test.YtiohpndgemonjaaGreatJWdS
import Derived.Test.YtiohpndgemonjaaGreatJGOrb
import Derived.Test.YtiohpndgemonjaaGreatJGRtI
namespace Go.Proofs.YtiohpndgemonjaaGreat
open Go.RowKit
set_option maxRecDepth 20000
set_option maxHeartbeats 8000000
def subV:List Int→List Int→List Int
 | x::xs,y::ys=>wrap64 (x-y)::subV xs ys
 | _,_=>[]
theorem zAx:∀{a b:List Int},a.length=b.length→(subV a b).length=a.length
 | [],_,_=>by cases ‹List Int› <;> rfl
 | _::_,[],h=>by simp at h
 | x::xs,y::ys,h=>by simp only [subV,List.length_cons]; rw [zAx (by simpa using h)]
theorem zKR:∀(a b:List Int),InI (subV a b)
 | [],b=>fun y hy=>by cases b <;> simp [subV] at hy
 | _::_,[]=>fun y hy=>by simp [subV] at hy
 | x::xs,y::ys=>fun z hz=>by
  simp only [subV,List.mem_cons] at hz;rcases hz with rfl | hz
  ·unfold wrap64; omega
  ·exact zKR xs ys z hz
def zAj (u:List Int) (q:List (List Int)) (r:List Int):List (List Int):=if dom (subV u r)=true∧subV u r∉q then q++[subV u r] else q
def zE1 (W:List (List Int)) (u:List Int) (q:List (List Int)):List (List Int):=W.foldl (zAj u) q
def zAu (W:List (List Int)):Nat→Nat→List (List Int)→Option (List (List Int))
 | 0,k,q=>if q.length≤k then some q else none
 |f+1,k,q=>match q[k]? with
  | none=>some q
  | some u=>if (zE1 W u q).length > 200 then none else zAu W f (k+1) (zE1 W u q)
def zBg (u:List Int):Option (List (List Int))→List Int→Option (List (List Int))
 | none,_=>none
 | some q,r=>if dom (subV u r)=true∧subV u r∉q then (if 200≤q.length then none else some (q++[subV u r])) else some q
def zKp (W:List (List Int)) (u:List Int) (q:List (List Int)):Option (List (List Int)):=W.foldl (zBg u) (some q)
def zEZ (W:List (List Int)) (g:List (List Int)→Option (List (List Int))) (u:List Int) (q:List (List Int)):Option (List (List Int)):=match zKp W u q with
 | none=>none
 | some q'=>g q'
def zBj (W:List (List Int)):Nat→Nat→List (List Int)→Option (List (List Int))
 | 0,k,q=>if q.length≤k then some q else none
 |f+1,k,q=>match q[k]? with
  | none=>some q
  | some u=>zEZ W (zBj W f (k+1)) u q
def optK (g:List (List Int)→Option (List (List Int))):Option (List (List Int))→Option (List (List Int))
 | none=>none
 | some q=>g q
theorem zLo (W:List (List Int)) (g:List (List Int)→Option (List (List Int))) (u:List Int) (q:List (List Int)):zEZ W g u q=optK g (W.foldl (zBg u) (some q)):=by
 unfold zEZ zKp;cases W.foldl (zBg u) (some q) <;> rfl
theorem zDg (u:List Int):∀W:List (List Int),W.foldl (zBg u) none=none
 | []=>rfl
 | _::W=>by rw [List.foldl_cons]; exact zDg u W
theorem zHP (u:List Int):∀(W q:List (List Int)),q.length≤(W.foldl (zAj u) q).length
 | [],q=>zQj _
 | r::W,q=>by
  rw [List.foldl_cons];refine Nat.le_trans ?_ (zHP u W (zAj u q r));unfold zAj;split
  ·simp
  ·exact zQj _
theorem zJT (u r:List Int) (q:List (List Int)):zBg u (some q) r=if dom (subV u r)=true∧subV u r∉q then (if 200≤q.length then none else some (q++[subV u r])) else some q:=rfl
theorem zLm (u r:List Int) (q:List (List Int)):zAj u q r=if dom (subV u r)=true∧subV u r∉q then q++[subV u r] else q:=rfl
theorem zFf (u:List Int):∀(W q:List (List Int)),q.length≤200→W.foldl (zBg u) (some q)=if (W.foldl (zAj u) q).length > 200 then none else some (W.foldl (zAj u) q)
 | [],q,h=>(if_neg (show ¬q.length > 200 by omega)).symm
 | r::W,q,h=>by
  rw [List.foldl_cons,List.foldl_cons,zJT,zLm];by_cases h1:dom (subV u r)=true∧subV u r∉q
  ·rw [if_pos h1,if_pos h1];by_cases h2:200≤q.length
   ·rw [if_pos h2,zDg,if_pos];have:=zHP u W (q++[subV u r]);simp only [List.length_append,List.length_cons,List.length_nil] at this;show 200<_;omega
   ·rw [if_neg h2];exact zFf u W (q++[subV u r]) (by simp; omega)
  ·rw [if_neg h1,if_neg h1];exact zFf u W q h
theorem zIE (W:List (List Int)):∀(f k:Nat) (q:List (List Int)),q.length≤200→zBj W f k q=zAu W f k q
 | 0,k,q,_=>rfl
 | f+1,k,q,h=>by
  unfold zBj zAu;cases hk:q[k]? with
  | none=>rfl
  | some u =>
   simp only;unfold zEZ zKp;rw [zFf u W q h];by_cases h2:(zE1 W u q).length > 200
   ·have h3:(List.foldl (zAj u) q W).length > 200:=h2;rw [if_pos h2,if_pos h3]
   ·have h3:¬(List.foldl (zAj u) q W).length > 200:=h2;rw [if_neg h2,if_neg h3];exact zIE W f (k+1) _ (by omega)
theorem zM2 {W:List (List Int)} {f k:Nat} {q:List (List Int)} {u:List Int} (hu:q[k]? = some u):zAu W (f+1) k q=if (zE1 W u q).length > 200 then none else zAu W f (k+1) (zE1 W u q):=by
 simp only [zAu,hu]
theorem zLj {W:List (List Int)} {f k:Nat} {q:List (List Int)} (hk:q.length≤k):zAu W f k q=some q:=by
 cases f with
 | zero=>simp only [zAu]; rw [if_pos hk]
 | succ f=>simp only [zAu,List.getElem?_eq_none hk]
theorem zM4 {W:List (List Int)} {f k:Nat} {q:List (List Int)} {u:List Int} (hu:q[k]? = some u):zBj W (f+1) k q=zEZ W (zBj W f (k+1)) u q:=by
 simp only [zBj,hu]
theorem zLn {W:List (List Int)} {f k:Nat} {q:List (List Int)} (hk:q.length≤k):zBj W f k q=some q:=by
 cases f with
 | zero=>simp only [zBj]; rw [if_pos hk]
 | succ f=>simp only [zBj,List.getElem?_eq_none hk]
structure Fnd (n:Nat) (q:List (List Int)):Prop where
 nd:q.Nodup
 len:∀x∈q,x.length=n
 dm:∀x∈q,dom x=true
theorem zHO {n:Nat} {u:List Int} (hu:u.length=n):∀{W q:List (List Int)},(∀r∈W,r.length=n)→Fnd n q→Fnd n (W.foldl (zAj u) q)
 | [],_,_,h=>h
 | r::W,q,hW,h=>by
  rw [List.foldl_cons];refine zHO hu (fun x hx=>hW x (List.mem_cons_of_mem _ hx)) ?_;unfold zAj;split
  ·rename_i h1
   refine ⟨List.nodup_append.2 ⟨h.nd,zBs _,fun a ha b hb e=>?_⟩,fun x hx=>?_,fun x hx=>?_⟩
   ·rw [List.mem_singleton] at hb; subst hb; subst e; exact h1.2 ha
   ·rcases List.mem_append.1 hx with hx | hx
    ·exact h.len x hx
    ·rw [List.mem_singleton] at hx; subst hx;rw [zAx (by rw [hu,hW r (List.mem_cons_self ..)]),hu]
   ·rcases List.mem_append.1 hx with hx | hx
    ·exact h.dm x hx
    ·rw [List.mem_singleton] at hx; subst hx; exact h1.1
  ·exact h
theorem zHL {n:Nat} {W:List (List Int)} (hW:∀r∈W,r.length=n):∀{f k:Nat} {q s:List (List Int)},Fnd n q→zAu W f k q=some s→Fnd n s
 | 0,k,q,s,h,e=>by
  unfold zAu at e;split at e
  ·cases e; exact h
  ·cases e
 | f+1,k,q,s,h,e=>by
  unfold zAu at e;cases hk:q[k]? with
  | none=>rw [hk] at e; cases e; exact h
  | some u =>
   rw [hk] at e;simp only at e;split at e
   ·cases e
   ·exact zHL hW (zHO (h.len u (zQg hk)) hW h) e
theorem zHM {W:List (List Int)}:∀{f k:Nat} {q s:List (List Int)},q.length≤200→zAu W f k q=some s→s.length≤200
 | 0,k,q,s,h,e=>by
  unfold zAu at e;split at e
  ·cases e; exact h
  ·cases e
 | f+1,k,q,s,h,e=>by
  unfold zAu at e;cases hk:q[k]? with
  | none=>rw [hk] at e; cases e; exact h
  | some u =>
   rw [hk] at e;simp only at e;split at e
   ·cases e
   ·exact zHM (by omega) e
def dbW (c:List (List Int)):List (List Int):=(prR c).map (worR c)
def dbQ (c:List (List Int)) (v:List Int):Option (List (List Int)):=zAu (dbW c) 201 0 [v]
def dbC (c:List (List Int)) (v:List Int):Bool:=sm4 v && (finB c && decide (v.length=c.length))
def dbOk (c:List (List Int)) (v:List Int):Bool:=dbC c v && (dbQ c v).isSome
def dbR (c:List (List Int)) (v:List Int):List (List Int):=if dbC c v=true then zAF ((dbQ c v).getD []) else []
def DbC (c:List (List Int)) (v:List Int) (w:World) (e:Ending) (w':World):Prop:=∃r,e=.returned (.tuple #[r,.bool (dbOk c v)])∧FII (New w w') w' r (dbR c v)∧Below w.heap.size w w'
theorem zGl:∀{v:List Int},sm4 v=true→dom v=true
 | [],_=>rfl
 | x::v,h=>by
  unfold sm4 at h;simp only [List.all_cons,Bool.and_eq_true,decide_eq_true_eq] at h;unfold dom;rw [if_neg (by omega)];exact zGl (by unfold sm4; exact h.2)
theorem zOa {c:List (List Int)}:∀r∈dbW c,r.length=c.length:=fun r hr=>by
 obtain ⟨x,_,rfl⟩:=List.mem_map.1 hr;unfold worR; rw [List.length_map]
theorem zGh {c:List (List Int)} {v:List Int} (h:dbC c v=true) {s:List (List Int)} (hs:dbQ c v=some s):Fnd c.length s∧s.length≤200:=by
 unfold dbC at h;rw [Bool.and_eq_true,Bool.and_eq_true,decide_eq_true_eq] at h;refine ⟨zHL zOa ⟨zBs _,fun x hx=>?_,fun x hx=>?_⟩ hs,zHM (by simp) hs⟩
 ·rw [List.mem_singleton] at hx; subst hx; exact h.2.2
 ·rw [List.mem_singleton] at hx; subst hx; exact zGl h.1
theorem zDL {c:List (List Int)} {v:List Int}:(dbR c v).length≤200∧(∀x∈dbR c v,x.length=c.length∧dom x=true)∧Dsc c.length (dbR c v):=by
 unfold dbR;split
 ·rename_i h
  cases hs:dbQ c v with
  | none=>exact ⟨by decide,fun x hx=>by simp [zAF] at hx,⟨by simp [zAF],fun x hx=>by simp [zAF] at hx⟩⟩
  | some s =>
   obtain ⟨h1,h2⟩:=zGh h hs;obtain ⟨h3,h4⟩:=zA3 (n:=c.length) (q:=s) h1.len;have:=zBX s [];rw [Option.getD_some];exact ⟨by unfold zAF; simp at this; omega,fun x hx=>⟨h1.len x ((h4 x).1 hx),h1.dm x ((h4 x).1 hx)⟩,h3⟩
 ·exact ⟨by decide,fun x hx=>by simp at hx,⟨List.Pairwise.nil,fun x hx=>by simp at hx⟩⟩
theorem HSx.rowO {A S':Nat→Prop} {w0 w:World} {Ps:List zAL} {Z:Zl} {v:Value} {l:List Int} {x:Value × List Int} (h:HSx A w0 w Ps) (h':RI S' w0 v l) (hz0:Z[0]? = some (v,l)) (j:Nat) (hj:Ps[j]? = some (aRr (Z.drop 1))) (hx:x∈Z):RI Any w x.1 x.2:=by
 cases Z with
 | nil=>cases hx
 | cons z Z =>
  simp only [List.getElem?_cons_zero,Option.some.injEq] at hz0;subst hz0;rcases List.mem_cons.1 hx with rfl | hx
  ·exact RI.any (h'.below h.bl)
  ·exact RI.any (h.rowR j hj hx)
theorem HSx.readO {A S':Nat→Prop} {w0 w:World} {Ps:List zAL} {Z:Zl} {q v:Value} {l:List Int} (h:HSx A w0 w Ps) (h':RI S' w0 v l) (hz0:Z[0]? = some (v,l)) (i j:Nat) (hi:Ps[i]? = some (aV 25 q (Z.map Prod.fst))) (hj:Ps[j]? = some (aRr (Z.drop 1))):RII Any w q (Z.map Prod.snd):=by
 obtain ⟨F,hF,_⟩:=HSx.get h i hi;refine RL.of_own hF.1 (by simp) (fun b _ _=>trivial) (fun m x r hx hr=>?_);rw [List.getElem?_map] at hr hx;obtain ⟨z,hz,rfl⟩:=Option.map_eq_some_iff.1 hr;rw [hz] at hx;simp only [Option.map_some,Option.some.injEq] at hx;subst hx;exact h.rowO h' hz0 j hj (zQg hz)
theorem zLr {α:Type} {Z:List α} {x z:α} (hz0:Z[0]? = some z):(Z++[x]).drop 1=Z.drop 1++[x]:=by
 cases Z with
 | nil=>simp at hz0
 | cons a Z=>rfl
theorem zEs:∀{a b:List Int} {k:Nat} {x y:Int},a[k]? = some x→b[k]? = some y→(subV a b).take (k+1)=(subV a b).take k++[wrap64 (x-y)]
 | [],_,_,_,_,h,_=>by simp at h
 | _::_,[],_,_,_,_,h=>by simp at h
 | a::a',b::b',0,x,y,h,k=>by
  simp only [List.getElem?_cons_zero,Option.some.injEq] at h k;subst h; subst k; rfl
 | a::a',b::b',n+1,x,y,h,k=>by
  simp only [List.getElem?_cons_succ] at h k;have:=zEs h k;simp only [subV,List.take_succ_cons,List.cons_append];rw [this]
theorem zLl {S S':Nat→Prop} {u v:Value} {c:List (List Int)} {l:List Int} {w:World} (h:RII S w u c) (h':RI S' w v l) (hl:total c≤16777216) (hl':l.length≤16777216) :
  Calls Tryz.prog 21 #[u,v] w (DbC c l w):=by
 have HRES:Hid (DbC c l w=fun e w'=>∃r,e=.returned (.tuple #[r,.bool (dbOk c l)])∧FII (New w w') w' r (dbR c l)∧Below w.heap.size w w'):=zQe rfl;have hsm:Calls Tryz.prog 61 #[u,v] w fun e w'=>e=.returned (.bool (dbC c l))∧Below w.heap.size w w':=zJc h h' hl hl';have mixed:Tryz.prog.follows .mixedOrders=true:=by kernel_rfl
 cases hF:dbC c l with
 | false =>
  have HR:Hid (dbR c l=[]):=zQe (by unfold dbR; rw [hF]; rfl);have HO:Hid (dbOk c l=false):=zQe (by unfold dbOk; rw [hF]; rfl);rw [hF] at hsm;clear hF;go_enter Tryz.func21,Tryz.ntmps21
  go_wp2_with fail
  refine hsm.mono ?_;rintro e w1 ⟨rfl,b1⟩;have hf:=FII.empty_of b1 (w1:=w1.alloc (.cells #[] 25)) rfl;go_wp2_with fail
  go_ret2
  rw [HRES.out];exact ⟨_,by rw [HO.out]; rfl,by rw [HR.out]; exact hf.1,hf.2⟩
 | true =>
  have hF2:=hF;unfold dbC at hF2;rw [Bool.and_eq_true,Bool.and_eq_true,decide_eq_true_eq] at hF2;obtain ⟨hs4,hfin,hlen⟩:=hF2;have hf:=zCG hfin;have hcp:=hf.cart;have hisC:=zAM.2 hcp;have h4:c.length≤4:=hcp.le;have HOK:Hid (dbOk c l=(dbQ c l).isSome):=zQe (by unfold dbOk; rw [hF]; rfl);have HR:Hid (dbR c l=zAF ((dbQ c l).getD [])):=zQe (by unfold dbR; rw [hF]; rfl);have HQ0:Hid (zBj (dbW c) 201 0 [l]=dbQ c l):=zQe (zIE _ _ _ _ (by simp));have HPR:Hid (∀w1:World,Below w.heap.size w w1→Calls Tryz.prog 62 #[u] w1 fun e w'=>∃r,e=.returned (.tuple #[r,.bool (finB c)])∧FII (New w1 w') w' r (prR c)∧Below w1.heap.size w1 w'):=zQe (fun w1 b1=>zFJ (h.below b1) hl);have hprr:prR c=zAY c:=by unfold prR; rw [hfin]; rfl
  have hrl:∀r∈prR c,r.length=c.length:=fun r hr=>by
   rw [hprr] at hr;obtain ⟨p,hp,rfl⟩:=List.mem_map.1 (zI0 hf r hr);exact (hf.rq.sh _ hp).1
  have h24:(prR c).length≤24:=by rw [hprr]; exact zI1 hf.rq hf.cart
  have HWO:=zQe (fun (w1:World) (b1:Below w.heap.size w w1) (S9:Nat→Prop) (vv:Value) (x:List Int) (hx:RI S9 w1 vv x) (hxl:x.length=c.length)=>zKf (h.below b1) hx hisC hxl hl);have HWL:=zQe (fun (x:List Int)=>zCr c x);have HBA:=zQe (fun (f k:Nat) (q:List (List Int)) (x:List Int) (hx:q[k]? = some x)=>zM4 (W:=dbW c) (f:=f) hx);have HBE:=zQe (fun (f k:Nat) (q:List (List Int)) (hk:q.length≤k)=>zLn (W:=dbW c) (f:=f) hk);have HDW:Hid (∀(i:Nat) (x:List Int),(prR c)[i]? = some x→(dbW c)[i]? = some (worR c x)):=zQe (fun i x hx=>by unfold dbW; rw [List.getElem?_map,hx]; rfl);have HDL:Hid ((dbW c).length=(prR c).length):=zQe (by unfold dbW; rw [List.length_map]);have HRL:=zQe hrl;rw [hF] at hsm;rw [hfin] at HPR;clear hF hs4 hfin hf hcp hisC hprr hrl;have h0:=h;have h0':=h';obtain ⟨au,cu,rfl⟩:=h.form
  obtain ⟨av,cv,rfl⟩:=h'.form;rw [hlen] at hsm h' h0' ⊢;have HLEN:=zQe hlen;clear hlen;generalize dbQ c l=R at *;generalize dbW c=W at *;generalize prR c=L at *;generalize hn:c.length=n at *;have HN:=zQe hn;clear hn;generalize hm:L.length=m at *;have HM:=zQe hm;clear hm;go_enter Tryz.func21,Tryz.ntmps21
  go_wp2_with fail
  refine hsm.mono ?_;rintro e w1 ⟨rfl,b1⟩;have hcall:=HPR.out w1 b1;clear hsm HPR;go_wp2_with fail
  refine hcall.mono ?_;rintro e w2 ⟨r1,rfl,f1,b2⟩;have hs2:=(HS.nil b1).addF b2 f1;have hs2:HS w w2 [aF r1 L]:=hs2;obtain ⟨a1,c1,rfl⟩:=f1.read.form;rw [HM.out] at hs2 ⊢;clear f1 b1 b2 hcall;obtain ⟨w3,hw3⟩:∃w3,w3=w2.alloc (.cells #[.slice av n cv] 25):=⟨_,rfl⟩;have hs3:=zGO hs2 hw3;have hs3:=hs3.add (Below.refl _ _) (zGb []) (F:=NoB) (fun x hx=>by simp at hx) (fun b hb=>hb.elim);have hs3:HS w w3 [aF (.slice a1 m c1) L,aV 25 (.slice (some ⟨w2.heap.size,0,none⟩) 1 1) (([(.slice av n cv,l)]:Zl).map Prod.fst),aRr (([(.slice av n cv,l)]:Zl).drop 1)]:=hs3;have HW3:=zQe hw3;have HL0:Hid (∀z∈([(.slice av n cv,l)]:Zl),z.2.length=n):=zQe (fun z hz=>by rw [List.mem_singleton] at hz; subst hz; exact HLEN.out);have HQ0:Hid (zBj W (201-0) 0 (([(Value.slice av n cv,l)]:Zl).map Prod.snd)=R):=HQ0
  have HZ0:Hid (([(Value.slice av n cv,l)]:Zl)[0]? = some (.slice av n cv,l)):=zQe rfl;clear hs2 hw3;go_wp2_with fail
  rw [<-HW3.out];go_loopw [8,9] (fun qq kk wr=>∃(k:Nat) (zq:Value) (Z:Zl),zq=qq∧k≤Z.length∧kk=.int .i64 k∧HS w wr [aF (.slice a1 m c1) L,aV 25 zq (Z.map Prod.fst),aRr (Z.drop 1)]∧Hid (zBj W (201-k) k (Z.map Prod.snd)=R)∧Hid (∀z∈Z,z.2.length=n)∧Hid (Z[0]? = some (.slice av n cv,l))∧Z.length≤200) (fun _ kk _=>201-(intOf kk).toNat)
  case atStart=>exact ⟨0,_,_,rfl,Nat.zero_le _,rfl,hs3,HQ0,HL0,HZ0,by simp⟩
  case round =>
   clear hs3;obtain ⟨k,zq,Z,rfl,hk,rfl,hs,HQ,HL,HZ0,hz200⟩:=hrel;have hlz:(Z.map Prod.fst).length=Z.length:=by simp
   obtain ⟨⟨aq,cq,rfl⟩,hhead⟩:=hs.formV 1 rfl;rw [hlz] at hs hhead ⊢;generalize hzl:Z.length=mz at *;have HZL:=zQe hzl;have HH:=zQe hhead;clear hzl hlz hhead;by_cases hkm:k<mz
   ·have i1:(k:Int)<(mz:Int):=by omega
    obtain ⟨z,hz⟩:∃z,Z[k]? = some z:=⟨Z[k]'(by rw [HZL.out]; exact hkm),zQf _⟩;obtain ⟨rk,xk⟩:=z;have hxl:xk.length=n:=HL.out _ (zQg hz);have hb:=HBA.out (200-k) k (Z.map Prod.snd) xk (by simp [hz]);rw [show 200-k+1=201-k by omega,HQ.out] at hb;obtain ⟨Rr,hRr⟩:∃Rr,Rr=(W.drop 0).foldl (zBg xk) (some (Z.map Prod.snd)):=⟨_,rfl⟩;have hb2:R=optK (zBj W (200-k) (k+1)) Rr:=by rw [hb,hRr,zLo]; rfl
    have HB:=zQe hb2;have HXL:=zQe hxl;have HR0:=zQe hRr.symm;have hrk0:RI _ wr rk xk:=hs.rowO h0' HZ0.out 2 rfl (zQg hz);obtain ⟨ak,ck,hform⟩:=hrk0.form;rw [hxl] at hform;subst hform;have HZK:=zQe hz;clear hrk0 hxl hb hb2 hz hRr;go_wp2_with fail
    go_loopw [8,10] (fun qq ii wr=>∃(i:Nat) (zq:Value) (Z:Zl),zq=qq∧i≤m∧ii=.int .i64 i∧HS w wr [aF (.slice a1 m c1) L,aV 25 zq (Z.map Prod.fst),aRr (Z.drop 1)]∧Hid ((W.drop i).foldl (zBg xk) (some (Z.map Prod.snd))=Rr)∧Hid (∀z∈Z,z.2.length=n)∧Hid (Z[0]? = some (.slice av n cv,l))∧Hid (Z[k]? = some (.slice ak n ck,xk))∧Z.length≤200) (fun _ ii _=>m-(intOf ii).toNat)
    case atStart=>exact ⟨0,_,Z,rfl,Nat.zero_le _,rfl,hs,HR0,HL,HZ0,HZK,by rw [HZL.out]; exact hz200⟩
    case round =>
     clear hs;obtain ⟨i,zq,Z,rfl,hi,rfl,hs,HR9,HL,HZ0,HZK,hz200⟩:=hrel;have hlz:(Z.map Prod.fst).length=Z.length:=by simp
     have hk2:k<Z.length:=(zQh HZK.out).1;obtain ⟨⟨aq,cq,rfl⟩,hhead⟩:=hs.formV 1 rfl;rw [hlz] at hs hhead ⊢;generalize hzl:Z.length=m2 at *;have HZL:=zQe hzl;obtain ⟨gq,rfl⟩:∃g,aq=some ⟨g,0,none⟩:=by
      obtain ⟨g,c9,e⟩:=hhead (by omega);simp only [Value.slice.injEq] at e;exact ⟨g,e.1⟩
     clear hzl hlz hhead;by_cases hin:i<m
     ·have i2:(i:Int)<(m:Int):=by omega
      have i3:(k:Int)<(m2:Int):=by omega
      have i4:(0:Int)≤(k:Int):=by omega
      have i5:(0:Int)≤(i:Int):=by omega
      have hread:RII _ wr (.slice a1 m c1) L:=(hs.F 0 rfl).read;obtain ⟨b3,o3,r3,x3,rfl,hc3,hr3,hx3⟩:=RII.at hread hin;have hx3l:=HRL.out x3 (zQg hx3.out);have hcall:=HWO.out wr hs.bl _ r3 x3 hr3 hx3l;obtain ⟨a33,c33,hf3⟩:=hr3.form;rw [hx3l] at hf3;subst hf3;have hw9:W[i]? = some (worR c x3):=HDW.out i x3 hx3.out;have h9:=HR9.out;rw [zAC hw9,List.foldl_cons] at h9;have HST:=zQe h9;have HWX:=HWL.out x3;clear h9 hw9 hx3 hread hr3 hx3l;go_wp2_with fail
      refine hcall.mono ?_;rintro e w4 ⟨r4,rfl,f4,b4⟩;have hs4:=hs.addI b4 f4;generalize worR c x3=y3 at *;have hs4:HS w w4 [aF (.slice (some ⟨b3,o3,none⟩) m c1) L,aV 25 (.slice (some ⟨gq,0,none⟩) m2 cq) (Z.map Prod.fst),aRr (Z.drop 1),aI r4 y3]:=hs4;obtain ⟨a4,c4,rfl⟩:=f4.form;have HYL:=zQe HWX;rw [HWX] at hs4 ⊢;clear HWX hcall f4 b4 hs;obtain ⟨w5,hw5⟩:∃w5,w5=w4.alloc (.cells #[] 3):=⟨_,rfl⟩;obtain ⟨f5,b5⟩:=zAN (Below.refl _ w4) hw5;have HW5:=zQe hw5;have HV0:Hid ((subV xk y3).take 0=[]):=zQe rfl;rw [<-HV0.out] at f5;clear hw5;go_wp2_with fail
      rw [<-HW5.out];go_loopw [12,13] (fun xx jj wr=>∃(j:Nat) (vx:Value),vx=xx∧j≤n∧jj=.int .i64 j∧FI (New w4 wr) wr vx ((subV xk y3).take j)∧Below w4.heap.size w4 wr) (fun _ jj _=>n-(intOf jj).toNat)
      case atStart=>exact ⟨0,_,rfl,Nat.zero_le _,rfl,f5,b5⟩
      case round =>
       clear f5 b5;obtain ⟨j,vx,rfl,hj,rfl,hf,hb⟩:=hrel;by_cases hjn:j<n
       ·have hck0:=(hs4.cellV 1 rfl (j:=k) (r:=.slice ak n ck) (by simp [HZK.out])).1;have hrk0:RI Any w4 (.slice ak n ck) xk:=hs4.rowO h0' HZ0.out 2 rfl (zQg HZK.out);have hry0:=(hs4.I 3 rfl).reads;obtain ⟨b6,o6,x,e6,hcx0,hx⟩:=hrk0.at hjn;subst e6;obtain ⟨b7,o7,y,e7,hcy0,hy⟩:=hry0.at hjn;subst e7;have l0:=zQi w4 _ hck0;have l1:=zQi w4 _ hcx0;have l2:=zQi w4 _ hcy0;have hck:=(hb.cell l0).trans hck0;have hcx:=(hb.cell l1).trans hcx0;have hcy:=(hb.cell l2).trans hcy0;have hFn:=zQe (fun (b:Nat) hk=>(hf.2 b hk).1);have j1:(j:Int)<(n:Int):=by omega
        have j2:(0:Int)≤(j:Int):=by omega
        obtain ⟨q9,j9⟩:∃q,IntKind.i64.wrap (x-y)=q:=⟨_,rfl⟩;have HS9:Hid ((subV xk y3).take (j+1)=(subV xk y3).take j++[q9]):=zQe (by rw [<-j9,IntKind.wrap_i64]; have:=zEs hx.out hy.out; unfold wrap64 at this; exact this);have hdl:((subV xk y3).take j).length≤n:=by rw [List.length_take]; omega
        generalize (subV xk y3).take j=Dk at *;clear hck0 hcx0 hcy0 hrk0 hry0 hx hy;have bbd:Below wr.heap.size wr (wr.alloc (.cells #[.int .i64 (q9)] 3)).drew:=((Below.refl _ _).alloc (zQj _) _).drew;have hcn:(wr.alloc (.cells #[.int .i64 (q9)] 3)).drew.cell? ⟨wr.heap.size,0,none⟩=some (.int .i64 (q9)):=by go_simp
        have hfn:=hf.grow bbd;have hbn:=zAA.step hb bbd;have hln:Dk.length+1≤67108864:=by omega
        go_wp2_with fail
        go_region_held3 (fun w'=>w'.cell? ⟨gq,k,none⟩=some (.slice (some ⟨b6,o6,none⟩) n ck)∧w'.cell? ⟨b6,o6+j,none⟩=some (.int .i64 x)∧w'.cell? ⟨b7,o7+j,none⟩=some (.int .i64 y)) (first | go_keep | (go_split_ands; exact ⟨zAS hgrow (by assumption) l0 hFn.out,zAS hgrow (by assumption) l1 hFn.out,zAS hgrow (by assumption) l2 hFn.out⟩)) ((refine zBu (W:=w4) (by rfl) _ _ (by rfl) (by rfl) hfn hbn (by rfl) hcn hln ?_; intro v' w5 f5 b5 hgrow))
        go_wp2_with fail
        go_roundw
        case rel=>exact ⟨j+1,_,rfl,by omega,by go_num,by rw [HS9.out]; exact f5,b5⟩
        case measure=>simp [intOf]; omega
       ·have hjn':j=n:=by omega
        have j1:¬(j:Int)<(n:Int):=by omega
        have HSL:Hid ((subV xk y3).length=n):=zQe (by rw [zAx (by rw [HXL.out,HYL.out]),HXL.out]);rw [hjn',List.take_of_length_le (by rw [HSL.out]; exact zQj _)] at hf;clear hjn';have hs6:=hs4.addI hb hf;have hs6:HS w wr [aF (.slice (some ⟨b3,o3,none⟩) m c1) L,aV 25 (.slice (some ⟨gq,0,none⟩) m2 cq) (Z.map Prod.fst),aRr (Z.drop 1),aI (.slice a4 n c4) y3,aI vx (subV xk y3)]:=hs6;obtain ⟨a6,c6,rfl⟩:=hf.form;rw [HSL.out] at hs6 ⊢;have hdomc:=zCb (hs6.I 4 rfl).reads (by rw [HSL.out]; omega);have HST:Hid ((W.drop (i+1)).foldl (zBg xk) (if dom (subV xk y3)=true∧subV xk y3∉Z.map Prod.snd then (if 200≤(Z.map Prod.snd).length then none else some (Z.map Prod.snd++[subV xk y3])) else some (Z.map Prod.snd))=Rr):=zQe HST.out;clear hf hb hs4;generalize subV xk y3=x6 at *;have hsz:(Z.map Prod.snd).length=m2:=by rw [List.length_map,HZL.out]
        rw [hsz] at HST;clear hsz;go_wp2_with fail
        refine hdomc.mono ?_;rintro e w7 ⟨rfl,hw7⟩;subst hw7;cases hdm:dom x6 with
        | false =>
         have HS2:Hid ((W.drop (i+1)).foldl (zBg xk) (some (Z.map Prod.snd))=Rr):=zQe (by rw [<-HST.out,if_neg (fun h=>by rw [hdm] at h; cases h.1)]);have hs7:=hs6.pick [0,1,2] (by decide);have hs7:HS w wr [aF (.slice (some ⟨b3,o3,none⟩) m c1) L,aV 25 (.slice (some ⟨gq,0,none⟩) m2 cq) (Z.map Prod.fst),aRr (Z.drop 1)]:=hs7;clear hs6 hdomc hdm;go_wp2_with fail
         go_roundw
         case rel=>exact ⟨i+1,_,Z,rfl,by omega,by go_num,hs7,HS2,HL,HZ0,HZK,by rw [HZL.out]; exact hz200⟩
         case measure=>simp [intOf]; omega
        | true =>
         have HDM:=zQe hdm;have hread:RII Any wr (.slice (some ⟨gq,0,none⟩) m2 cq) (Z.map Prod.snd):=hs6.readO h0' HZ0.out 1 2 rfl rfl;have hr6:=(hs6.I 4 rfl).reads;have HIN:=zIV hread hr6 (fun x hx=>by obtain ⟨z,hz,rfl⟩:=List.mem_map.1 hx; rw [HL.out z hz]; omega) (by simp [HZL.out]; omega) (by rw [HSL.out]; omega);have HIL:Hid (inV (Z.map Prod.snd) x6=decide (x6∈Z.map Prod.snd)):=zQe rfl;clear hdm hdomc;go_wp2_with fail
         refine HIN.mono ?_;rintro e w8 ⟨rfl,m8,rfl⟩;have hs6:=hs6.drewN m8;clear HIN hread hr6;generalize wr.drewN m8=w9 at *;cases hin2:inV (Z.map Prod.snd) x6 with
         | true =>
          have hT:x6∈Z.map Prod.snd:=by have:=HIL.out; rw [hin2] at this; exact of_decide_eq_true this.symm
          have HS2:Hid ((W.drop (i+1)).foldl (zBg xk) (some (Z.map Prod.snd))=Rr):=zQe (by rw [<-HST.out,if_neg (fun h=>h.2 hT)]);have hs7:=hs6.pick [0,1,2] (by decide);have hs7:HS w w9 [aF (.slice (some ⟨b3,o3,none⟩) m c1) L,aV 25 (.slice (some ⟨gq,0,none⟩) m2 cq) (Z.map Prod.fst),aRr (Z.drop 1)]:=hs7;clear hT hin2 hs6;go_wp2_with fail
          go_roundw
          case rel=>exact ⟨i+1,_,Z,rfl,by omega,by go_num,hs7,HS2,HL,HZ0,HZK,by rw [HZL.out]; exact hz200⟩
          case measure=>simp [intOf]; omega
         | false =>
          have hT:x6∉Z.map Prod.snd:=by have:=HIL.out; rw [hin2] at this; exact of_decide_eq_false this.symm
          have HTY:Hid (dom x6=true∧x6∉Z.map Prod.snd):=zQe ⟨HDM.out,hT⟩;clear hT hin2;by_cases h200:200≤m2
          ·have i7:(200:Int)≤(m2:Int):=by omega
           have HNO:Hid (Rr=none):=zQe (by
            rw [<-HST.out,if_pos HTY.out,if_pos h200];exact zDg xk _)
           have HRN:Hid (R=none):=zQe (by rw [HB.out,HNO.out]; rfl);have hfe:=FII.empty_of hs6.bl (w1:=w9.alloc (.cells #[] 25)) rfl;clear hs6;go_wp2_with fail
           go_ret2
           rw [HRES.out];exact ⟨_,by rw [HOK.out,HRN.out]; rfl,by rw [HR.out,HRN.out]; exact hfe.1,hfe.2⟩
          ·have i7:¬(200:Int)≤(m2:Int):=by omega
           have HS2:Hid ((W.drop (i+1)).foldl (zBg xk) (some ((Z++[(Value.slice a6 n c6,x6)]).map Prod.snd))=Rr):=zQe (by
            rw [<-HST.out,if_pos HTY.out,if_neg h200]; simp)
           obtain ⟨w6,hw6⟩:∃w6,w6=w9.alloc (.cells #[.slice a6 n c6] 25):=⟨_,rfl⟩;have hs7:=hs6.alloc (.cells #[.slice a6 n c6] 25);rw [<-hw6] at hs7;have hc6:w6.cell? ⟨w9.heap.size,0,none⟩=some (.slice a6 n c6):=by rw [hw6]; go_simp
           have HW6:=zQe hw6;have hone:(Value.slice a6 n c6).oneCell'=true:=rfl;have HNV:=zQe (HS.newV hs7 1 rfl);have HLZ:Hid ((Z.map Prod.fst).length+1≤67108864):=zQe (by simp [HZL.out]; omega);clear hw6 hs6;go_wp2_with (at_builtin; go_must (rw [<-HW6.out]; refine zAJ rfl _ _ rfl rfl hs7 1 rfl HNV.out rfl hc6 hone HLZ.out ?_))
           intro v7 w7 hs7 _;have hs8:=((zLF hs7 4 rfl).moreR (Z':=(Z++[(Value.slice a6 n c6,x6)]).drop 1) 2 4 (by decide) rfl rfl (by rw [zLr HZ0.out]; exact (List.perm_append_comm (l₁:=Z.drop 1) (l₂:=[_])).trans (by cases Z <;> exact List.Perm.refl _))).pick [0,1,2] (by decide);have hs8:HS w w7 [aF (.slice (some ⟨b3,o3,none⟩) m c1) L,aV 25 v7 ((Z++[(Value.slice a6 n c6,x6)]).map Prod.fst),aRr ((Z++[(Value.slice a6 n c6,x6)]).drop 1)]:=by
            have e:(Z++[(Value.slice a6 n c6,x6)]).map Prod.fst=Z.map Prod.fst++[Value.slice a6 n c6]:=by simp
            rw [e]; exact hs8
           have HL2:Hid (∀z∈Z++[(Value.slice a6 n c6,x6)],z.2.length=n):=zQe (fun z hz=>by
            rcases List.mem_append.1 hz with hz | hz
            ·exact HL.out z hz
            ·rw [List.mem_singleton] at hz; subst hz; exact HSL.out)
           have HZK2:Hid ((Z++[(Value.slice a6 n c6,x6)])[k]? = some (.slice ak n ck,xk)):=zQe (by rw [List.getElem?_append_left (by rw [HZL.out]; omega)]; exact HZK.out);have HZ02:Hid ((Z++[(Value.slice a6 n c6,x6)])[0]? = some (.slice av n cv,l)):=zQe (by rw [List.getElem?_append_left (by rw [HZL.out]; omega)]; exact HZ0.out);clear hs7;go_wp2_with fail
           go_roundw
           case rel=>exact ⟨i+1,_,_,rfl,by omega,by go_num,hs8,HS2,HL2,HZ02,HZK2,by simp [HZL.out]; omega⟩
           case measure=>simp [intOf]; omega
     ·have i2:¬(i:Int)<(m:Int):=by omega
      have h9:=HR9.out;rw [List.drop_eq_nil_of_le (by rw [HDL.out]; omega),List.foldl_nil] at h9;have HQ2:Hid (zBj W (201-(k+1)) (k+1) (Z.map Prod.snd)=R):=zQe (by rw [HB.out,<-h9,show 201-(k+1)=200-k by omega]; rfl);clear h9;go_wp2_with fail
      go_roundw
      case rel=>exact ⟨k+1,_,Z,rfl,by rw [HZL.out]; omega,by go_num,hs,HQ2,HL,HZ0,by rw [HZL.out]; exact hz200⟩
      case measure=>simp [intOf]; omega
   ·have i1:¬(k:Int)<(mz:Int):=by omega
    have hb:=HBE.out (201-k) k (Z.map Prod.snd) (by simp [HZL.out]; omega);rw [HQ.out] at hb;have HRS:=zQe hb;obtain ⟨w5,hw5⟩:∃w5,w5=wr.alloc (.cells #[] 25):=⟨_,rfl⟩;have hfe:=FII.empty_of (Below.refl _ wr) hw5;have hs5:=(hs.addF hfe.2 hfe.1).pick [1,2,3] (by decide);have HW5:=zQe hw5;have HP0:Hid (zAF ((Z.map Prod.snd).take 0)=[]):=zQe rfl;have hs5:HS w w5 [aV 25 (.slice aq mz cq) (Z.map Prod.fst),aRr (Z.drop 1),aF (.slice (some ⟨wr.heap.size,0,none⟩) 0 0) (zAF ((Z.map Prod.snd).take 0))]:=by rw [HP0.out]; exact hs5
    have HPS:=zQe (fun (t:Nat) (x:List Int) (hx:(Z.map Prod.snd)[t]? = some x)=>zGX hx);have HPL:=zQe (fun (t:Nat)=>zBX ((Z.map Prod.snd).take t) []);have HPM:Hid (∀t x,x∈zAF ((Z.map Prod.snd).take t)→x.length=n):=zQe (fun t x hx=>by
     have:=((zA3 (n:=n) (q:=(Z.map Prod.snd).take t) (fun y hy=>by obtain ⟨z,hz,rfl⟩:=List.mem_map.1 (List.mem_of_mem_take hy); exact HL.out z hz)).2 x).1 hx;obtain ⟨z,hz,rfl⟩:=List.mem_map.1 (List.mem_of_mem_take this);exact HL.out z hz)
    clear hb hs hfe hw5;go_wp2_with fail
    rw [<-HW5.out];go_loopw [14,15] (fun oo tt wr=>∃(t:Nat) (vo:Value),vo=oo∧t≤mz∧tt=.int .i64 t∧HS w wr [aV 25 (.slice aq mz cq) (Z.map Prod.fst),aRr (Z.drop 1),aF vo (zAF ((Z.map Prod.snd).take t))]) (fun _ tt _=>mz-(intOf tt).toNat)
    case atStart=>exact ⟨0,_,rfl,Nat.zero_le _,rfl,hs5⟩
    case round =>
     clear hs5;obtain ⟨t,vo,rfl,ht,rfl,hs⟩:=hrel;by_cases htm:t<mz
     ·have i2:(t:Int)<(mz:Int):=by omega
      have i3:(0:Int)≤(t:Int):=by omega
      obtain ⟨gq,rfl⟩:∃g,aq=some ⟨g,0,none⟩:=by
       obtain ⟨g,c9,e⟩:=HH.out (by omega);simp only [Value.slice.injEq] at e;exact ⟨g,e.1⟩
      obtain ⟨z,hz⟩:∃z,Z[t]? = some z:=⟨Z[t]'(by rw [HZL.out]; exact htm),zQf _⟩;obtain ⟨rt,xt⟩:=z;have hct:=(hs.cellV 0 rfl (j:=t) (r:=rt) (by simp [hz])).1;have hrt:RI _ wr rt xt:=hs.rowO h0' HZ0.out 1 rfl (zQg hz);have hxt:xt.length=n:=HL.out _ (zQg hz);have HSTP:Hid (putV xt (zAF ((Z.map Prod.snd).take t))=zAF ((Z.map Prod.snd).take (t+1))):=zQe (HPS.out t xt (by simp [hz])).symm;obtain ⟨F,hF,hFn,HBK⟩:=hs.lend 2 rfl;have hcall:=zFq hF hFn hrt (fun x hx=>by rw [HPM.out t x hx]; omega) (by have:=HPL.out t; unfold zAF; simp at this; omega) (by rw [hxt]; omega);have HPC:Hid (PutC F xt (zAF ((Z.map Prod.snd).take t)) wr=fun e w'=>∃r,e=.returned r∧HSx F wr w' [aF r (putV xt (zAF ((Z.map Prod.snd).take t)))]):=zQe rfl;rw [HPC.out] at hcall;obtain ⟨at',ct,rfl⟩:=hrt.form;clear hz hxt hF;go_wp2_with fail
      refine hcall.mono ?_;rintro e w6 ⟨r6,rfl,h6⟩;rw [HSTP.out] at h6;have hs7:=HBK.out w6 _ h6;have hs7:HS w w6 [aV 25 (.slice (some ⟨gq,0,none⟩) mz cq) (Z.map Prod.fst),aRr (Z.drop 1),aF r6 (zAF ((Z.map Prod.snd).take (t+1)))]:=hs7;clear hs h6 hcall;go_wp2_with fail
      go_roundw
      case rel=>exact ⟨t+1,r6,rfl,by omega,by go_num,hs7⟩
      case measure=>simp [intOf]; omega
     ·have i2:¬(t:Int)<(mz:Int):=by omega
      have HE:Hid (zAF ((Z.map Prod.snd).take t)=dbR c l):=zQe (by rw [List.take_of_length_le (by simp [HZL.out]; omega),HR.out,HRS.out]; rfl);rw [HE.out] at hs;go_wp2_with fail
      go_ret2
      rw [HRES.out];exact ⟨_,by rw [HOK.out,HRS.out]; rfl,hs.F 2 rfl,hs.bl⟩
def subT (a b:List Int) (j:Nat):List Int:=(subV a b).take j++a.drop j
theorem zJd {a b:List Int} (h:a.length=b.length) (j:Nat):(subT a b j).length=a.length:=by
 have:=zAx h;unfold subT;rw [List.length_append,List.length_take,List.length_drop,this]; omega
theorem zPR {a b:List Int} (h:a.length=b.length) {j:Nat} {x:Int} (hx:a[j]? = some x):(subT a b j)[j]? = some x:=by
 have:=zAx h;have hj:=(zQh hx).1;unfold subT;rw [List.getElem?_append_right (by rw [List.length_take]; omega),List.length_take,this,Nat.min_eq_left (by omega),Nat.sub_self,List.getElem?_drop,Nat.add_zero];exact hx
theorem zMa {a b:List Int} (h:a.length=b.length) {j:Nat} {x y:Int} (hx:a[j]? = some x) (hy:b[j]? = some y):(subT a b j).set j (wrap64 (x-y))=subT a b (j+1):=by
 have:=zAx h;have hj:=(zQh hx).1;have hl:((subV a b).take j).length=j:=by rw [List.length_take,this]; omega
 unfold subT;rw [zEs hx hy,zAC hx,List.append_assoc];generalize (subV a b).take j=p at *;subst hl;rw [List.set_append_right _ _ (zQj _),Nat.sub_self];rfl
theorem zMb (a b:List Int):subT a b 0=a:=rfl
theorem zNo {a b:List Int} (h:a.length=b.length):subT a b a.length=subV a b:=by
 unfold subT;rw [List.drop_length,List.append_nil,List.take_of_length_le (by rw [zAx h]; exact zQj _)]
section
variable {A:Nat→Prop} {w0 w:World} {Ps:List zAL} {ops:Array Oper} {rest:List Oper} {o:Oper} {a:Act} {Q:Exit→Act→World→Prop} {mb n:Nat} {L:List (List Int)}
theorem zEP (hw:Region.wanted o (yielded ops a.tmps)=true) (mo x:Operand) (hop:o.op=Op.lookup 63 mo x false) (hm:a.eval mo=.map (some mb)) (h:HSx A w0 w Ps) (i:Nat) (hi:Ps[i]? = some (aS 61 mb n L)) {p:List Int} (hp:p.length=n) (hpi:InI p) (hx:a.eval x=vec p)
  (k:wpList Tryz.prog ops Q rest (a.put o.dst (.bool (decide (p∈L)))) w):wpList Tryz.prog ops Q (o::rest) a w:=by
 obtain ⟨F,⟨_,D,m,_,hown,hD⟩,_⟩:=HSx.get h i hi;refine wpList_step fun K' hK'=>?_;rw [if_pos hw];obtain ⟨v,ps,hrun,hv⟩:=hown.lookup zDQ Tryz.underlying63 (z:=.bool false) (by kernel_rfl) (zd:=.held (.bool false)) (zp:=[]) rfl (zCu hpi);rw [hD p hp hpi] at hv;simp only [RD,Option.some.injEq,Prod.mk.injEq,DataW.held.injEq] at hv;obtain ⟨rfl,_⟩:=hv;unfold Oper.wp;simp only [execOp,hop,hm,hx,Sem.run_bind,Sem.run_pure,Result.andThen_ok,hrun];exact hK' _ _ k
theorem zG7 (hw:Region.wanted o (yielded ops a.tmps)=true) (mo x:Operand) (hop:o.op=Op.lookup 63 mo x false) (hm:a.eval mo=.map (some mb)) (h:HSx A w0 w Ps) (i:Nat) (hi:Ps[i]? = some (aS 61 mb n L)) {p:List Int} (hp:p.length=n) (hpi:InI p) (hx:a.eval x=vec p) (hmem:Hid (p∈L))
  (k:wpList Tryz.prog ops Q rest (a.put o.dst (.bool true)) w):wpList Tryz.prog ops Q (o::rest) a w:=zEP hw mo x hop hm h i hi hp hpi hx (by rw [decide_eq_true hmem.out]; exact k)
theorem zHy (hw:Region.wanted o (yielded ops a.tmps)=true) (mo x:Operand) (hop:o.op=Op.lookup 63 mo x false) (hm:a.eval mo=.map (some mb)) (h:HSx A w0 w Ps) (i:Nat) (hi:Ps[i]? = some (aS 61 mb n L)) {p:List Int} (hp:p.length=n) (hpi:InI p) (hx:a.eval x=vec p) (hmem:Hid (p∉L))
  (k:wpList Tryz.prog ops Q rest (a.put o.dst (.bool false)) w):wpList Tryz.prog ops Q (o::rest) a w:=zEP hw mo x hop hm h i hi hp hpi hx (by rw [decide_eq_false hmem.out]; exact k)
end
theorem zLk {S S':Nat→Prop} {u v:Value} {c:List (List Int)} {l:List Int} {w:World} (h:RII S w u c) (h':RI S' w v l) (hl:total c≤16777216) (hl':l.length≤16777216) :
  Calls Tryz.prog 20 #[u,v] w (DbC c l w):=by
 have HRES:Hid (DbC c l w=fun e w'=>∃r,e=.returned (.tuple #[r,.bool (dbOk c l)])∧FII (New w w') w' r (dbR c l)∧Below w.heap.size w w'):=zQe rfl;have hP:Calls Tryz.prog 55 #[u] w fun e w'=>∃r,e=.returned (.tuple #[r,.bool (finB c)])∧FII (New w w') w' r (prR c)∧Below w.heap.size w w':=zFI h hl;have HSM:=zQe (fun (w1:World) (b1:Below w.heap.size w w1)=>zJW (h.below b1) (h'.below b1) hl hl');have mixed:Tryz.prog.follows .mixedOrders=true:=by kernel_rfl
 cases hfin:finB c with
 | false =>
  have HF:Hid (dbC c l=false):=zQe (by unfold dbC; rw [hfin]; simp);have HR:Hid (dbR c l=[]):=zQe (by unfold dbR; rw [HF.out]; rfl);have HO:Hid (dbOk c l=false):=zQe (by unfold dbOk; rw [HF.out]; rfl);rw [hfin] at hP;clear hfin;go_enter Tryz.func20,Tryz.ntmps20
  go_wp2_with fail
  refine hP.mono ?_;rintro e w1 ⟨r1,rfl,_,b1⟩;have hf:=FII.empty_of b1 (w1:=w1.alloc (.cells #[] 25)) rfl;go_wp2_with fail
  go_ret2
  rw [HRES.out];exact ⟨_,by rw [HO.out]; rfl,by rw [HR.out]; exact hf.1,hf.2⟩
 | true =>
  have HDC:Hid (dbC c l=(decide (l.length=c.length) && sm4 l)):=zQe (by unfold dbC; rw [hfin,Bool.true_and,Bool.and_comm]);rw [hfin] at hP;cases hF:(decide (l.length=c.length) && sm4 l) with
  | false =>
   have HF:Hid (dbC c l=false):=zQe (by rw [HDC.out,hF]);have HR:Hid (dbR c l=[]):=zQe (by unfold dbR; rw [HF.out]; rfl);have HO:Hid (dbOk c l=false):=zQe (by unfold dbOk; rw [HF.out]; rfl);have HFF:=zQe hF;clear hfin hF;go_enter Tryz.func20,Tryz.ntmps20
   go_wp2_with fail
   refine hP.mono ?_;rintro e w1 ⟨r1,rfl,_,b1⟩;have hcall:=HSM.out w1 b1;rw [HFF.out] at hcall;go_wp2_with fail
   refine hcall.mono ?_;rintro e w2 ⟨rfl,m2,rfl⟩;have b2:=below_drewN b1 m2;generalize w1.drewN m2=w2 at *;have hf:=FII.empty_of b2 (w1:=w2.alloc (.cells #[] 25)) rfl;go_wp2_with fail
   go_ret2
   rw [HRES.out];exact ⟨_,by rw [HO.out]; rfl,by rw [HR.out]; exact hf.1,hf.2⟩
  | true =>
   have hdc:dbC c l=true:=by rw [HDC.out,hF]
   have HSMT:Hid (∀w1:World,Below w.heap.size w w1→Calls Tryz.prog 56 #[u,v] w1 fun e w'=>e=.returned (.bool true)∧∃m,w'=w1.drewN m):=zQe (fun w1 b1=>by have:=HSM.out w1 b1; rw [hF] at this; exact this);rw [Bool.and_eq_true,decide_eq_true_eq] at hF;obtain ⟨hlen,hs4⟩:=hF;have hfp:=zCG hfin;have hcp:=hfp.cart;have hisC:=zAM.2 hcp;have h4:c.length≤4:=hcp.le;have hmm:=@run_makeMap Tryz.prog;have HOK:Hid (dbOk c l=(dbQ c l).isSome):=zQe (by unfold dbOk; rw [hdc]; rfl);have HR:Hid (dbR c l=zAF ((dbQ c l).getD [])):=zQe (by unfold dbR; rw [hdc]; rfl);have HFND:=zQe (fun (s:List (List Int)) (hs:dbQ c l=some s)=>(zGh hdc hs).1);have hprr:prR c=zAY c:=by unfold prR; rw [hfin]; rfl
   have hrl:∀r∈prR c,r.length=c.length:=fun r hr=>by
    rw [hprr] at hr;obtain ⟨p,hp,rfl⟩:=List.mem_map.1 (zI0 hfp r hr);exact (hfp.rq.sh _ hp).1
   have h24:(prR c).length≤24:=by rw [hprr]; exact zI1 hfp.rq hfp.cart
   have HWO:=zQe (fun (w1:World) (b1:Below w.heap.size w w1) (S9:Nat→Prop) (vv:Value) (x:List Int) (hx:RI S9 w1 vv x) (hxl:x.length=c.length)=>zPf (h.below b1) hx hisC hxl hl);have HWL:=zQe (fun (x:List Int)=>zCr c x);have HBA:=zQe (fun (f k:Nat) (q:List (List Int)) (x:List Int) (hx:q[k]? = some x)=>zM2 (W:=dbW c) (f:=f) hx);have HBE:=zQe (fun (f k:Nat) (q:List (List Int)) (hk:q.length≤k)=>zLj (W:=dbW c) (f:=f) hk);have HRW:Hid (∀x q,zE1 (dbW c) x q=((dbW c).drop 0).foldl (zAj x) q):=zQe (fun x q=>rfl);have HDW:Hid (∀(i:Nat) (x:List Int),(prR c)[i]? = some x→(dbW c)[i]? = some (worR c x)):=zQe (fun i x hx=>by unfold dbW; rw [List.getElem?_map,hx]; rfl);have HDL:Hid ((dbW c).length=(prR c).length):=zQe (by unfold dbW; rw [List.length_map]);have HRL:=zQe hrl
   have HQ0:Hid (zAu (dbW c) (201-0) 0 (([(Value.slice none 0 0,l)]:Zl).map Prod.snd)=dbQ c l):=zQe rfl;have hv3':=zQe (fun (w1:World) (b1:Below w.heap.size w w1)=>zCS (h'.below b1) (by rw [hlen]; exact h4));have h0:=h;have h0':=h';obtain ⟨au,cu,rfl⟩:=h.form;obtain ⟨av,cv,rfl⟩:=h'.form;rw [hlen] at h' h0' HSMT hv3' ⊢;have HLEN:=zQe hlen;have HIN:Hid (InI l):=zQe (fun x hx=>by
    unfold sm4 at hs4;have:=List.all_eq_true.1 hs4 x hx;simp at this; omega)
   clear hfin hs4 hfp hcp hisC hprr hrl hlen hdc HSM;generalize dbQ c l=R at *;generalize dbW c=W at *;generalize prR c=L at *;generalize hn:c.length=n at *;have HN:=zQe hn;clear hn;generalize hm:L.length=m at *;have HM:=zQe hm;clear hm;go_enter Tryz.func20,Tryz.ntmps20
   go_wp2_with fail
   refine hP.mono ?_;rintro e w1 ⟨r1,rfl,f1,b1⟩;have hcall:=HSMT.out w1 b1;have hs1:=(HS.nil (Below.refl _ w)).addF b1 f1;have hs1:HS w w1 [aF r1 L]:=hs1;obtain ⟨a1,c1,rfl⟩:=f1.read.form;rw [HM.out] at hs1 ⊢;clear f1 b1 hP;go_wp2_with fail
   refine hcall.mono ?_;rintro e w2 ⟨rfl,m2,rfl⟩;have hs2:=hs1.drewN m2;generalize w1.drewN m2=w2 at *;have HVR:=zQe (h0'.below hs2.bl);clear hcall hs1;go_wp2_with (at_builtin; go_must (refine zAE (W:=w2) rfl _ _ rfl rfl (FI.fresh0 w2) zAI rfl (HVR.out.below zAI) ?_ ?_))
   ·have:=HLEN.out; simp; omega
   ·intro v3 w3 f3 b3 _;have f3:FI (New w2 w3) w3 v3 l:=f3;obtain ⟨a3,c3,hv3⟩:=f3.form;rw [HLEN.out] at hv3;subst hv3;have hs3:=hs2.addI b3 f3;obtain ⟨w4,hw4⟩:∃w4,w4=w3.alloc (.cells #[.slice a3 n c3] 25):=⟨_,rfl⟩;have hs4:=zGO hs3 hw4;obtain ⟨w5,hw5⟩:∃w5,w5=w4.alloc (.map #[] 0):=⟨_,rfl⟩;have hs5:=hs4.newSet 61 n hw5;have HW:=zQe (show w5=(w3.alloc (.cells #[.slice a3 n c3] 25)).alloc (.map #[] 0) by rw [hw5,hw4]);have hz1:w.heap.size≤w3.heap.size+1:=by have:=hs3.bl.size; omega
    have hz2:w4.heap.size=w3.heap.size+1:=by rw [hw4]; simp
    have hv6:=hv3'.out w5 hs5.bl;clear hw4 hw5 hs3 hs4;go_wp2_with fail
    rw [<-HW.out];refine hv6.mono ?_;rintro e w6 ⟨rfl,b6⟩;unfold vec;have hs6:=hs5.below b6;rw [hz2] at hs6;have hs6:HS w w6 [aF (.slice a1 m c1) L,aI (.slice a3 n c3) l,aV 25 (.slice (some ⟨w3.heap.size,0,none⟩) 1 1) [.slice a3 n c3],aS 61 (w3.heap.size+1) n []]:=hs6;go_wp2_with (refine zEQ rfl _ _ _ rfl rfl hs6 3 rfl (by omega) (by omega) (by simp) HLEN.out HIN.out rfl rfl ?_)
    intro w7 hs7;have hs8:=((hs7.iToRs 1 rfl).pick [0,2,1,3] (by decide));have hs8:HS w w7 [aF (.slice a1 m c1) L,aV 25 (.slice (some ⟨w3.heap.size,0,none⟩) 1 1) (([(Value.slice a3 n c3,l)]:Zl).map Prod.fst),aRs [(.slice a3 n c3,l)],aS 61 (w3.heap.size+1) n (([(Value.slice a3 n c3,l)]:Zl).map Prod.snd)]:=hs8;have HG0:Hid (zDV n [(.slice a3 n c3,l)]):=zQe (fun z hz=>by rw [List.mem_singleton] at hz; subst hz; exact ⟨HLEN.out,HIN.out⟩);clear hs7 hs6 hs5 hs2 f3 b3 b6 hv6 HW HVR;generalize w3.heap.size+1=mb at *;clear hz2;go_wp2_with fail
    go_loopw [8,10] (fun oo kk wr=>∃(k:Nat) (zo:Value) (Z:Zl),zo=oo∧k≤Z.length∧kk=.int .i64 k∧HS w wr [aF (.slice a1 m c1) L,aV 25 zo (Z.map Prod.fst),aRs Z,aS 61 mb n (Z.map Prod.snd)]∧Hid (zAu W (201-k) k (Z.map Prod.snd)=R)∧Hid (zDV n Z)∧Z.length≤200) (fun _ kk _=>201-(intOf kk).toNat)
    case atStart=>exact ⟨0,_,_,rfl,Nat.zero_le _,rfl,hs8,HQ0,HG0,by simp⟩
    case round =>
     clear hs8 HG0 HQ0;obtain ⟨k,zo,Z,rfl,hk,rfl,hs,HQ,HG,hz200⟩:=hrel;have hlz:(Z.map Prod.fst).length=Z.length:=by simp
     obtain ⟨⟨aq,cq,rfl⟩,hhead⟩:=hs.formV 1 rfl;rw [hlz] at hs hhead ⊢;generalize hzl:Z.length=mz at *;have HZL:=zQe hzl;have HH:=zQe hhead;clear hzl hlz hhead;by_cases hkm:k<mz
     ·have i1:(k:Int)<(mz:Int):=by omega
      obtain ⟨z,hz⟩:∃z,Z[k]? = some z:=⟨Z[k]'(by rw [HZL.out]; exact hkm),zQf _⟩;obtain ⟨rk,xk⟩:=z;have hxl:xk.length=n:=(HG.out _ (zQg hz)).1;have HXL:=zQe hxl;have hb:=HBA.out (200-k) k (Z.map Prod.snd) xk (by simp [hz]);rw [show 200-k+1=201-k by omega,HQ.out] at hb;obtain ⟨Rr,hRr⟩:∃Rr,Rr=(W.drop 0).foldl (zAj xk) (Z.map Prod.snd):=⟨_,rfl⟩;rw [HRW.out,<-hRr] at hb;have HB:=zQe hb;have HR1:=zQe hRr.symm;have hrk0:RI _ wr rk xk:=hs.rowS 2 rfl (zQg hz);obtain ⟨ak,ck,hform⟩:=hrk0.form;rw [hxl] at hform;subst hform;have HZK:=zQe hz;clear hrk0 hxl hb hRr hz;go_wp2_with fail
      go_loopw [8,47] (fun oo ii wr=>∃(i:Nat) (zo:Value) (Z:Zl),zo=oo∧i≤m∧ii=.int .i64 i∧HS w wr [aF (.slice a1 m c1) L,aV 25 zo (Z.map Prod.fst),aRs Z,aS 61 mb n (Z.map Prod.snd)]∧Hid ((W.drop i).foldl (zAj xk) (Z.map Prod.snd)=Rr)∧Hid (zDV n Z)∧Hid (Z[k]? = some (.slice ak n ck,xk))∧Z.length≤200+i) (fun _ ii _=>m-(intOf ii).toNat)
      case atStart=>exact ⟨0,_,Z,rfl,Nat.zero_le _,rfl,hs,HR1,HG,HZK,by rw [HZL.out]; exact hz200⟩
      case round =>
       clear hs;obtain ⟨i,zo,Z,rfl,hi,rfl,hs,HR9,HG,HZK,hz200⟩:=hrel;have hlz:(Z.map Prod.fst).length=Z.length:=by simp
       have hk2:k<Z.length:=(zQh HZK.out).1;obtain ⟨⟨aq,cq,rfl⟩,hhead⟩:=hs.formV 1 rfl;rw [hlz] at hs hhead ⊢;generalize hzl:Z.length=m2 at *;have HZL:=zQe hzl;obtain ⟨gq,rfl⟩:∃g,aq=some ⟨g,0,none⟩:=by
        obtain ⟨g,c9,e⟩:=hhead (by omega);simp only [Value.slice.injEq] at e;exact ⟨g,e.1⟩
       clear hzl hlz hhead;by_cases hin:i<m
       ·have i2:(i:Int)<(m:Int):=by omega
        have i3:(k:Int)<(m2:Int):=by omega
        have i4:(0:Int)≤(k:Int):=by omega
        have i5:(0:Int)≤(i:Int):=by omega
        have hck:=(hs.cellV 1 rfl (j:=k) (r:=.slice ak n ck) (by simp [HZK.out])).1;have hrk:RI _ wr (.slice ak n ck) xk:=hs.rowS 2 rfl (zQg HZK.out);have hread:RII _ wr (.slice a1 m c1) L:=(hs.F 0 rfl).read;obtain ⟨b3,o3,r3,x3,rfl,hc3,hr3,hx3⟩:=RII.at hread hin;have hx3l:=HRL.out x3 (zQg hx3.out);obtain ⟨a33,c33,hf3⟩:=hr3.form;rw [hx3l] at hf3;subst hf3;have hw9:W[i]? = some (worR c x3):=HDW.out i x3 hx3.out;have h9:=HR9.out;rw [zAC hw9,List.foldl_cons] at h9;have HST:=zQe h9;have HWX:=zQe (HWL.out x3);have HX3L:=zQe hx3l;have hck2:=zF4 hck (.cells #[] 3);clear h9 hw9 hx3 hread hx3l;go_wp2_with (at_builtin; go_must (refine zAE (W:=wr) rfl _ _ rfl rfl (FI.fresh0 wr) zAI rfl (hrk.below zAI) ?_ ?_))
        ·have:=HXL.out; simp; omega
        ·intro v2 w2 f2 b2 _;have f2:FI (New wr w2) w2 v2 xk:=f2;obtain ⟨a2,c2,hv2⟩:=f2.form;rw [HXL.out] at hv2;subst hv2;have hs2:=hs.addI b2 f2;have hcall:=HWO.out w2 hs2.bl _ _ x3 (hr3.below b2) HX3L.out;clear hs f2 hck hck2 hrk hr3 b2;go_wp2_with fail
         refine hcall.mono ?_;rintro e w4 ⟨r4,rfl,f4,b4⟩;have hs4:=hs2.addI b4 f4;obtain ⟨a4,c4,rfl⟩:=f4.form;generalize worR c x3=y3 at *;have HT0:Hid (subT xk y3 0=xk):=zQe (zMb _ _);rw [HWX.out] at hs4 ⊢;have hs4:HS w w4 [aF (.slice (some ⟨b3,o3,none⟩) m c1) L,aV 25 (.slice (some ⟨gq,0,none⟩) m2 cq) (Z.map Prod.fst),aRs Z,aS 61 mb n (Z.map Prod.snd),aI (.slice a2 n c2) (subT xk y3 0),aI (.slice a4 n c4) y3]:=by rw [HT0.out]; exact hs4
         have HTL:Hid (∀j,(subT xk y3 j).length=n):=zQe (fun j=>by rw [zJd (by rw [HXL.out,HWX.out]),HXL.out]);have HTA:Hid (∀(j:Nat) (x:Int),xk[j]? = some x→(subT xk y3 j)[j]? = some x):=zQe (fun j x hx=>zPR (by rw [HXL.out,HWX.out]) hx);have HTS:Hid (∀(j:Nat) (x y:Int),xk[j]? = some x→y3[j]? = some y→(subT xk y3 j).set j (wrap64 (x-y))=subT xk y3 (j+1)):=zQe (fun j x y hx hy=>zMa (by rw [HXL.out,HWX.out]) hx hy);have HTE:Hid (subT xk y3 n=subV xk y3):=zQe (by rw [<-zNo (a:=xk) (b:=y3) (by rw [HXL.out,HWX.out]),HXL.out]);clear hs2 hcall f4 b4;go_wp2_with fail
         go_loopw [61] (fun jj wr=>∃(j:Nat),j≤n∧jj=.int .i64 j∧HS w wr [aF (.slice (some ⟨b3,o3,none⟩) m c1) L,aV 25 (.slice (some ⟨gq,0,none⟩) m2 cq) (Z.map Prod.fst),aRs Z,aS 61 mb n (Z.map Prod.snd),aI (.slice a2 n c2) (subT xk y3 j),aI (.slice a4 n c4) y3]) (fun jj _=>n-(intOf jj).toNat)
         case atStart=>exact ⟨0,Nat.zero_le _,rfl,hs4⟩
         case round =>
          clear hs4;obtain ⟨j,hj,rfl,hs⟩:=hrel;by_cases hjn:j<n
          ·have j1:(j:Int)<(n:Int):=by omega
           have j2:(0:Int)≤(j:Int):=by omega
           obtain ⟨g2,cap2,e2,_,_⟩:=hs.headI 4 rfl (by rw [HTL.out]; omega);simp only [Value.slice.injEq] at e2;obtain ⟨rfl,_,_⟩:=e2;have hry:=(hs.I 5 rfl).reads;obtain ⟨b7,o7,y,e7,hcy,hy⟩:=hry.at hjn;subst e7;obtain ⟨x,hx⟩:∃x,xk[j]? = some x:=⟨xk[j]'(by rw [HXL.out]; exact hjn),zQf _⟩;obtain ⟨d1,z1⟩:=hs.cellI 4 rfl (HTL.out j) (HTA.out j x hx);have hs9:=hs.putI 4 rfl (HTL.out j) j (wrap64 (x-y));rw [HTS.out j x y hx hy.out] at hs9;have hs9:HS w _ [aF (.slice (some ⟨b3,o3,none⟩) m c1) L,aV 25 (.slice (some ⟨gq,0,none⟩) m2 cq) (Z.map Prod.fst),aRs Z,aS 61 mb n (Z.map Prod.snd),aI (.slice (some ⟨g2,0,none⟩) n c2) (subT xk y3 (j+1)),aI (.slice (some ⟨b7,o7,none⟩) n c4) y3]:=hs9;clear hry hx hy hs;go_wp2_with fail
           go_roundw
           case rel=>exact ⟨j+1,by omega,by go_num,hs9⟩
           case measure=>simp [intOf]; omega
          ·have j1:¬(j:Int)<(n:Int):=by omega
           have e:j=n:=by omega
           rw [e,HTE.out] at hs;clear e;have HSL:Hid ((subV xk y3).length=n):=zQe (by rw [zAx (by rw [HXL.out,HWX.out]),HXL.out]);have HIN6:Hid (InI (subV xk y3)):=zQe (zKR _ _);have HST:Hid ((W.drop (i+1)).foldl (zAj xk) (if dom (subV xk y3)=true∧subV xk y3∉Z.map Prod.snd then Z.map Prod.snd++[subV xk y3] else Z.map Prod.snd)=Rr):=zQe HST.out;have hs5:=hs.pick [0,1,2,3,4] (by decide);have hs5:HS w wr [aF (.slice (some ⟨b3,o3,none⟩) m c1) L,aV 25 (.slice (some ⟨gq,0,none⟩) m2 cq) (Z.map Prod.fst),aRs Z,aS 61 mb n (Z.map Prod.snd),aI (.slice a2 n c2) (subV xk y3)]:=hs5;clear hs HTL HTA HTS HTE HT0;generalize subV xk y3=x6 at *;have hvc:=zCS ((hs5.I 4 rfl).reads) (by rw [HSL.out]; exact h4);go_wp2_with fail
           refine hvc.mono ?_;rintro e w7 ⟨rfl,b7⟩;have hs7:=hs5.below b7;obtain ⟨w8,hw8⟩:∃w8,w8=w7.alloc (.cells #[.int .i64 (num x6 0),.int .i64 (num x6 1),.int .i64 (num x6 2),.int .i64 (num x6 3)] 61):=⟨_,rfl⟩;have hs8:=hs7.alloc (.cells #[.int .i64 (num x6 0),.int .i64 (num x6 1),.int .i64 (num x6 2),.int .i64 (num x6 3)] 61);rw [<-hw8] at hs8;have k0:w8.cell? ⟨w7.heap.size,0,none⟩=some (.int .i64 (num x6 0)):=by rw [hw8]; go_simp
           have k1:w8.cell? ⟨w7.heap.size,1,none⟩=some (.int .i64 (num x6 1)):=by rw [hw8]; go_simp
           have k2:w8.cell? ⟨w7.heap.size,2,none⟩=some (.int .i64 (num x6 2)):=by rw [hw8]; go_simp
           have k3:w8.cell? ⟨w7.heap.size,3,none⟩=some (.int .i64 (num x6 3)):=by rw [hw8]; go_simp
           have HW8:=zQe hw8;have hlz5:(Z.map Prod.snd).length<67108864:=by simp [HZL.out]; omega
           have hdm8:=zBB (HS.I hs8 4 rfl).reads (by rw [HSL.out]; omega);clear hs5 hvc b7 hs7 hw8;unfold vec;go_wp2_with fail
           rw [<-HW8.out];refine hdm8.mono ?_;rintro e w9 ⟨rfl,hw9⟩;subst hw9;clear hdm8;cases hdm:dom x6 with
           | false =>
            have HS2:Hid ((W.drop (i+1)).foldl (zAj xk) (Z.map Prod.snd)=Rr):=zQe (by rw [<-HST.out,if_neg (fun h=>by rw [hdm] at h; cases h.1)]);have hs9:=hs8.pick [0,1,2,3] (by decide);have hs9:HS w w8 [aF (.slice (some ⟨b3,o3,none⟩) m c1) L,aV 25 (.slice (some ⟨gq,0,none⟩) m2 cq) (Z.map Prod.fst),aRs Z,aS 61 mb n (Z.map Prod.snd)]:=hs9;clear hs8 hdm;go_wp2_with fail
            go_roundw
            case rel=>exact ⟨i+1,_,Z,rfl,by omega,by go_num,hs9,HS2,HG,HZK,by rw [HZL.out]; omega⟩
            case measure=>simp [intOf]; omega
           | true =>
            by_cases hmem:x6∈Z.map Prod.snd
            ·have HMEM:=zQe hmem;have HS2:Hid ((W.drop (i+1)).foldl (zAj xk) (Z.map Prod.snd)=Rr):=zQe (by rw [<-HST.out,if_neg (fun h=>h.2 hmem)]);have hs9:=hs8.pick [0,1,2,3] (by decide);have hs9:HS w w8 [aF (.slice (some ⟨b3,o3,none⟩) m c1) L,aV 25 (.slice (some ⟨gq,0,none⟩) m2 cq) (Z.map Prod.fst),aRs Z,aS 61 mb n (Z.map Prod.snd)]:=hs9;clear hmem hdm;go_wp2_with (at_lookup; go_must (refine zG7 (by rfl) _ _ rfl rfl hs8 3 rfl HSL.out HIN6.out rfl HMEM ?_))
             go_roundw
             case rel=>exact ⟨i+1,_,Z,rfl,by omega,by go_num,hs9,HS2,HG,HZK,by rw [HZL.out]; omega⟩
             case measure=>simp [intOf]; omega
            ·have HMEM:=zQe hmem;have HS2:Hid ((W.drop (i+1)).foldl (zAj xk) ((Z++[(Value.slice a2 n c2,x6)]).map Prod.snd)=Rr):=zQe (by rw [<-HST.out,if_pos ⟨hdm,hmem⟩]; simp);clear hmem hdm;go_wp2_with (first | (at_lookup; go_must (refine zHy (by rfl) _ _ rfl rfl hs8 3 rfl HSL.out HIN6.out rfl HMEM ?_)) | (at_mapUpdate; go_must (refine zER rfl _ _ _ rfl rfl hs8 3 rfl hz1 h4 hlz5 HSL.out HIN6.out rfl rfl ?_)))
             intro w6 hs6;have hs6:HS w w6 [aF (.slice (some ⟨b3,o3,none⟩) m c1) L,aV 25 (.slice (some ⟨gq,0,none⟩) m2 cq) (Z.map Prod.fst),aRs Z,aS 61 mb n (Z.map Prod.snd++[x6]),aI (.slice a2 n c2) x6]:=hs6;obtain ⟨w7,hw7⟩:∃w7,w7=w6.alloc (.cells #[.slice a2 n c2] 25):=⟨_,rfl⟩;have hs7:=hs6.alloc (.cells #[.slice a2 n c2] 25);rw [<-hw7] at hs7;have hc7:w7.cell? ⟨w6.heap.size,0,none⟩=some (.slice a2 n c2):=by rw [hw7]; go_simp
             have HW7:=zQe hw7;have hone:(Value.slice a2 n c2).oneCell'=true:=rfl;have HNV:=zQe (HS.newV hs7 1 rfl);have HLZ:Hid ((Z.map Prod.fst).length+1≤67108864):=zQe (by simp [HZL.out]; omega);clear hw7 hs6 hs8 hlz5;go_wp2_with (at_builtin; go_must (rw [<-HW7.out]; refine zAJ rfl _ _ rfl rfl hs7 1 rfl HNV.out rfl hc7 hone HLZ.out ?_))
             intro v8 w8 hs8 _;have hs9:=(hs8.moreS (Z':=Z++[(Value.slice a2 n c2,x6)]) 2 4 (by decide) rfl rfl List.perm_append_comm).pick [0,1,2,3] (by decide);have hs9:HS w w8 [aF (.slice (some ⟨b3,o3,none⟩) m c1) L,aV 25 v8 ((Z++[(Value.slice a2 n c2,x6)]).map Prod.fst),aRs (Z++[(Value.slice a2 n c2,x6)]),aS 61 mb n ((Z++[(Value.slice a2 n c2,x6)]).map Prod.snd)]:=by
              have e:(Z++[(Value.slice a2 n c2,x6)]).map Prod.fst=Z.map Prod.fst++[Value.slice a2 n c2]:=by simp
              have e2:(Z++[(Value.slice a2 n c2,x6)]).map Prod.snd=Z.map Prod.snd++[x6]:=by simp
              rw [e,e2]; exact hs9
             have HG2:Hid (zDV n (Z++[(Value.slice a2 n c2,x6)])):=zQe (fun z hz=>by
              rcases List.mem_append.1 hz with hz | hz
              ·exact HG.out z hz
              ·rw [List.mem_singleton] at hz; subst hz; exact ⟨HSL.out,HIN6.out⟩)
             have HZK2:Hid ((Z++[(Value.slice a2 n c2,x6)])[k]? = some (.slice ak n ck,xk)):=zQe (by rw [List.getElem?_append_left (by rw [HZL.out]; omega)]; exact HZK.out);clear hs8 hs7;go_wp2_with fail
             go_roundw
             case rel=>exact ⟨i+1,_,_,rfl,by omega,by go_num,hs9,HS2,HG2,HZK2,by simp [HZL.out]; omega⟩
             case measure=>simp [intOf]; omega
       ·have i2:¬(i:Int)<(m:Int):=by omega
        have h9:=HR9.out;rw [List.drop_eq_nil_of_le (by rw [HDL.out]; omega),List.foldl_nil] at h9;have hb:=HB.out;rw [<-h9] at hb;by_cases h200:200<m2
        ·have i7:(200:Int)<(m2:Int):=by omega
         rw [if_pos (by simp [HZL.out]; omega)] at hb;have HQN:=zQe hb;have hfe:=FII.empty_of hs.bl (w1:=wr.alloc (.cells #[] 25)) rfl;clear hs hb h9;go_wp2_with fail
         go_ret2
         rw [HRES.out];exact ⟨_,by rw [HOK.out,HQN.out]; rfl,by rw [HR.out,HQN.out]; exact hfe.1,hfe.2⟩
        ·have i7:¬(200:Int)<(m2:Int):=by omega
         rw [if_neg (by simp [HZL.out]; omega)] at hb;have HQ2:Hid (zAu W (201-(k+1)) (k+1) (Z.map Prod.snd)=R):=zQe (by rw [hb,show 201-(k+1)=200-k by omega]);clear hb h9;go_wp2_with fail
         go_roundw
         case rel=>exact ⟨k+1,_,Z,rfl,by rw [HZL.out]; omega,by go_num,hs,HQ2,HG,by rw [HZL.out]; omega⟩
         case measure=>simp [intOf]; omega
     ·have i1:¬(k:Int)<(mz:Int):=by omega
      have hb:=HBE.out (201-k) k (Z.map Prod.snd) (by simp [HZL.out]; omega);rw [HQ.out] at hb;have HRS:=zQe hb;have HFN:=zQe (HFND.out _ hb);have hsrt:=(hs.pick [1,2] (by decide)).sortRows (Z:=Z) (v:=.slice aq mz cq) (n:=n) 0 1 (by decide) rfl rfl (HS.newV hs 1 rfl) (fun z hz=>(HG.out z hz).1) (by omega) (by rw [HZL.out]; omega);clear hb hs;go_wp2_with fail
      refine hsrt.mono ?_;rintro e w6 ⟨rfl,Z',hp,hsr,hs6⟩;have HSR:=zQe hsr;clear hsr;have hs7:=((hs6.pick [0,1] (by decide)).shutF (Z:=Z') (v:=.slice aq mz cq) 0 1 (by decide) rfl rfl).pick [0] (by decide);have hs7:HS w w6 [aF (.slice aq mz cq) (Z'.map Prod.snd)]:=hs7;have HFIN:Hid (Z'.map Prod.snd=dbR c l):=zQe (by
       rw [HR.out,HRS.out];exact zDi (n:=n) (hp.map _) (HSR.out.imp (fun h=>by omega)) HFN.out.nd HFN.out.len (fun x=>Iff.rfl))
      rw [HFIN.out] at hs7;clear hs6 hsrt hp;go_wp2_with fail
      go_ret2
      rw [HRES.out];exact ⟨_,by rw [HOK.out,HRS.out]; rfl,hs7.F 0 rfl,hs7.bl⟩
theorem zOZ {S S':Nat→Prop} {u v:Value} {c:List (List Int)} {l:List Int} {w:World} (h:RII S w u c) (h':RI S' w v l) (hl:total c≤16777216) (hl':l.length≤16777216) :
  Calls Tryz.prog 21 #[u,v] w fun e w'=>∃r,e=.returned (.tuple #[r,.bool (dbOk c l)])∧FII (New w w') w' r (dbR c l)∧Below w.heap.size w w':=zLl h h' hl hl'
theorem zOX {S S':Nat→Prop} {u v:Value} {c:List (List Int)} {l:List Int} {w:World} (h:RII S w u c) (h':RI S' w v l) (hl:total c≤16777216) (hl':l.length≤16777216) :
  Calls Tryz.prog 20 #[u,v] w fun e w'=>∃r,e=.returned (.tuple #[r,.bool (dbOk c l)])∧FII (New w w') w' r (dbR c l)∧Below w.heap.size w w':=zLk h h' hl hl'
theorem zHN (c:List (List Int)) (l:List Int):total (dbR c l)≤1000:=by
 by_cases hok:dbC c l=true
 ·have hf:finB c=true:=by unfold dbC at hok; rw [Bool.and_eq_true,Bool.and_eq_true] at hok; exact hok.2.1
  have h4:=(zCG hf).cart.le;obtain ⟨h1,h2,_⟩:=zDL (c:=c) (v:=l);exact Nat.le_trans (zFx (A:=200) (B:=4) h1 (fun x hx=>by rw [(h2 x hx).1]; exact h4)) (by omega)
 ·unfold dbR; rw [if_neg hok]; decide
end Go.Proofs.YtiohpndgemonjaaGreat
