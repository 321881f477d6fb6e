/- Dominant weights below one: the reference's search and the program's are the same. Plain lists. -/
import Derived.Test.YtphbichgpcicnaaGreatDoorJGWor
import Derived.Test.YtphbichgpcicnaaGreatDoorJGOrb
import Derived.Test.YtphbichgpcicnaaGreatDoorJGRtI
namespace Go.Proofs.YtphbichgpcicnaaGreatDoor
open Go.RowKit
set_option maxRecDepth 20000
set_option maxHeartbeats 8000000
def subV:List Int→List Int→List Int
 | x::xs,y::ys=>wrap64 (x-y)::subV xs ys
 | _,_=>[]
theorem zBb:∀{a b:List Int},a.length=b.length→(subV a b).length=a.length
 | [],_,_=>by cases ‹List Int› <;> rfl
 | _::_,[],h=>by simp at h
 | x::xs,y::ys,h=>by simp only [subV,List.length_cons]; rw [zBb (by simpa using h)]
theorem zMv:∀(a b:List Int),InI (subV a b)
 | [],b=>fun y hy=>by cases b <;> simp [subV] at hy
 | _::_,[]=>fun y hy=>by simp [subV] at hy
 | x::xs,y::ys=>fun z hz=>by
  simp only [subV,List.mem_cons] at hz;rcases hz with rfl | hz
  ·unfold wrap64; omega
  ·exact zMv xs ys z hz
def zBT (u:List Int) (q:List (List Int)) (r:List Int):List (List Int):=if dom (subV u r)=true∧subV u r∉q then q++[subV u r] else q
def zHq (W:List (List Int)) (u:List Int) (q:List (List Int)):List (List Int):=W.foldl (zBT u) q
def zA9 (W:List (List Int)):Nat→Nat→List (List Int)→Option (List (List Int))
 | 0,k,q=>if q.length≤k then some q else none
 |f+1,k,q=>match q[k]? with
  | none=>some q
  | some u=>if (zHq W u q).length > 200 then none else zA9 W f (k+1) (zHq W u q)
theorem zRI {W:List (List Int)} {f k:Nat} {q:List (List Int)} {u:List Int} (hu:q[k]? = some u):zA9 W (f+1) k q=if (zHq W u q).length > 200 then none else zA9 W f (k+1) (zHq W u q):=by
 simp only [zA9,hu]
theorem zOl {W:List (List Int)} {f k:Nat} {q:List (List Int)} (hk:q.length≤k):zA9 W f k q=some q:=by
 cases f with
 | zero=>simp only [zA9]; rw [if_pos hk]
 | succ f=>simp only [zA9,List.getElem?_eq_none hk]
structure Fnd (n:Nat) (q:List (List Int)):Prop where
 nd:q.Nodup
 len:∀x∈q,x.length=n
 dm:∀x∈q,dom x=true
theorem zI8 {n:Nat} {u:List Int} (hu:u.length=n):∀{W q:List (List Int)},(∀r∈W,r.length=n)→Fnd n q→Fnd n (W.foldl (zBT u) q)
 | [],_,_,h=>h
 | r::W,q,hW,h=>by
  rw [List.foldl_cons];refine zI8 hu (fun x hx=>hW x (List.mem_cons_of_mem _ hx)) ?_;unfold zBT;split
  ·rename_i h1
   refine ⟨List.nodup_append.2 ⟨h.nd,zCb _,fun a ha b hb e=>?_⟩,fun x hx=>?_,fun x hx=>?_⟩
   ·rw [List.mem_singleton] at hb; subst hb; subst e; exact h1.2 ha
   ·rcases List.mem_append.1 hx with hx | hx
    ·exact h.len x hx
    ·rw [List.mem_singleton] at hx; subst hx;rw [zBb (by rw [hu,hW r (List.mem_cons_self ..)]),hu]
   ·rcases List.mem_append.1 hx with hx | hx
    ·exact h.dm x hx
    ·rw [List.mem_singleton] at hx; subst hx; exact h1.1
  ·exact h
theorem zI6 {n:Nat} {W:List (List Int)} (hW:∀r∈W,r.length=n):∀{f k:Nat} {q s:List (List Int)},Fnd n q→zA9 W f k q=some s→Fnd n s
 | 0,k,q,s,h,e=>by
  unfold zA9 at e;split at e
  ·cases e; exact h
  ·cases e
 | f+1,k,q,s,h,e=>by
  unfold zA9 at e;cases hk:q[k]? with
  | none=>rw [hk] at e; cases e; exact h
  | some u =>
   rw [hk] at e;simp only at e;split at e
   ·cases e
   ·exact zI6 hW (zI8 (h.len u (zWH hk)) hW h) e
theorem zI7 {W:List (List Int)}:∀{f k:Nat} {q s:List (List Int)},q.length≤200→zA9 W f k q=some s→s.length≤200
 | 0,k,q,s,h,e=>by
  unfold zA9 at e;split at e
  ·cases e; exact h
  ·cases e
 | f+1,k,q,s,h,e=>by
  unfold zA9 at e;cases hk:q[k]? with
  | none=>rw [hk] at e; cases e; exact h
  | some u =>
   rw [hk] at e;simp only at e;split at e
   ·cases e
   ·exact zI7 (by omega) e
def dbW (c:List (List Int)):List (List Int):=(prR c).map (worR c)
def dbQ (c:List (List Int)) (v:List Int):Option (List (List Int)):=zA9 (dbW c) 201 0 [v]
def dbC (c:List (List Int)) (v:List Int):Bool:=sm4 v && (finB c && decide (v.length=c.length))
def dbOk (c:List (List Int)) (v:List Int):Bool:=dbC c v && (dbQ c v).isSome
def dbR (c:List (List Int)) (v:List Int):List (List Int):=if dbC c v=true then zA5 ((dbQ c v).getD []) else []
def DbC (c:List (List Int)) (v:List Int) (w:World) (e:Ending) (w':World):Prop:=∃r,e=.returned (.tuple #[r,.bool (dbOk c v)])∧FII (New w w') w' r (dbR c v)∧Below w.heap.size w w'
theorem zIY:∀{v:List Int},sm4 v=true→dom v=true
 | [],_=>rfl
 | x::v,h=>by
  unfold sm4 at h;simp only [List.all_cons,Bool.and_eq_true,decide_eq_true_eq] at h;unfold dom;rw [if_neg (by omega)];exact zIY (by unfold sm4; exact h.2)
theorem zTT {c:List (List Int)}:∀r∈dbW c,r.length=c.length:=fun r hr=>by
 obtain ⟨x,_,rfl⟩:=List.mem_map.1 hr;unfold worR; rw [List.length_map]
theorem zGY {c:List (List Int)} {v:List Int} (h:dbC c v=true) {s:List (List Int)} (hs:dbQ c v=some s):Fnd c.length s∧s.length≤200:=by
 unfold dbC at h;rw [Bool.and_eq_true,Bool.and_eq_true,decide_eq_true_eq] at h;refine ⟨zI6 zTT ⟨zCb _,fun x hx=>?_,fun x hx=>?_⟩ hs,zI7 (by simp) hs⟩
 ·rw [List.mem_singleton] at hx; subst hx; exact h.2.2
 ·rw [List.mem_singleton] at hx; subst hx; exact zIY h.1
theorem zD9 {c:List (List Int)} {v:List Int}:(dbR c v).length≤200∧(∀x∈dbR c v,x.length=c.length∧dom x=true)∧Dsc c.length (dbR c v):=by
 unfold dbR;split
 ·rename_i h
  cases hs:dbQ c v with
  | none=>exact ⟨by decide,fun x hx=>by simp [zA5] at hx,⟨by simp [zA5],fun x hx=>by simp [zA5] at hx⟩⟩
  | some s =>
   obtain ⟨h1,h2⟩:=zGY h hs;obtain ⟨h3,h4⟩:=zB9 (n:=c.length) (q:=s) h1.len;have:=zEL s [];rw [Option.getD_some];exact ⟨by unfold zA5; simp at this; omega,fun x hx=>⟨h1.len x ((h4 x).1 hx),h1.dm x ((h4 x).1 hx)⟩,h3⟩
 ·exact ⟨by decide,fun x hx=>by simp at hx,⟨List.Pairwise.nil,fun x hx=>by simp at hx⟩⟩
theorem zJX:∀{a b:List Int} {k:Nat} {x y:Int},a[k]? = some x→b[k]? = some y→(subV a b).take (k+1)=(subV a b).take k++[wrap64 (x-y)]
 | [],_,_,_,_,h,_=>by simp at h
 | _::_,[],_,_,_,_,h=>by simp at h
 | a::a',b::b',0,x,y,h,k=>by
  simp only [List.getElem?_cons_zero,Option.some.injEq] at h k;subst h; subst k; rfl
 | a::a',b::b',n+1,x,y,h,k=>by
  simp only [List.getElem?_cons_succ] at h k;have:=zJX h k;simp only [subV,List.take_succ_cons,List.cons_append];rw [this]
def subT (a b:List Int) (j:Nat):List Int:=(subV a b).take j++a.drop j
theorem zLw {a b:List Int} (h:a.length=b.length) (j:Nat):(subT a b j).length=a.length:=by
 have:=zBb h;unfold subT;rw [List.length_append,List.length_take,List.length_drop,this]; omega
theorem zUX {a b:List Int} (h:a.length=b.length) {j:Nat} {x:Int} (hx:a[j]? = some x):(subT a b j)[j]? = some x:=by
 have:=zBb h;have hj:=(zWI hx).1;unfold subT;rw [List.getElem?_append_right (by rw [List.length_take]; omega),List.length_take,this,Nat.min_eq_left (by omega),Nat.sub_self,List.getElem?_drop,Nat.add_zero];exact hx
theorem zP7 {a b:List Int} (h:a.length=b.length) {j:Nat} {x y:Int} (hx:a[j]? = some x) (hy:b[j]? = some y):(subT a b j).set j (wrap64 (x-y))=subT a b (j+1):=by
 have:=zBb h;have hj:=(zWI hx).1;have hl:((subV a b).take j).length=j:=by rw [List.length_take,this]; omega
 unfold subT;rw [zJX hx hy,zAC hx,List.append_assoc];generalize (subV a b).take j=p at *;subst hl;rw [List.set_append_right _ _ (zWK _),Nat.sub_self];rfl
theorem zP8 (a b:List Int):subT a b 0=a:=rfl
theorem zR7 {a b:List Int} (h:a.length=b.length):subT a b a.length=subV a b:=by
 unfold subT;rw [List.drop_length,List.append_nil,List.take_of_length_le (by rw [zBb h]; exact zWK _)]
section
variable {A:Nat→Prop} {w0 w:World} {Ps:List zAF} {ops:Array Oper} {rest:List Oper} {o:Oper} {a:Act} {Q:Exit→Act→World→Prop} {mb n:Nat} {L:List (List Int)}
theorem zFf (hw:Region.wanted o (yielded ops a.tmps)=true) (mo x:Operand) (hop:o.op=Op.lookup 109 mo x false) (hm:a.eval mo=.map (some mb)) (h:HSx A w0 w Ps) (i:Nat) (hi:Ps[i]? = some (aS 92 mb n L)) {p:List Int} (hp:p.length=n) (hpi:InI p) (hx:a.eval x=vec p)
  (k:wpList Tryz.prog ops Q rest (a.put o.dst (.bool (decide (p∈L)))) w):wpList Tryz.prog ops Q (o::rest) a w:=by
 obtain ⟨F,⟨_,D,m,_,hown,hD⟩,_⟩:=HSx.get h i hi;refine wpList_step fun K' hK'=>?_;rw [if_pos hw];obtain ⟨v,ps,hrun,hv⟩:=hown.lookup zCA Tryz.underlying109 (z:=.bool false) (by kernel_rfl) (zd:=.held (.bool false)) (zp:=[]) rfl (zBy hpi);rw [hD p hp hpi] at hv;simp only [RD,Option.some.injEq,Prod.mk.injEq,DataW.held.injEq] at hv;obtain ⟨rfl,_⟩:=hv;unfold Oper.wp;simp only [execOp,hop,hm,hx,Sem.run_bind,Sem.run_pure,Result.andThen_ok,hrun];exact hK' _ _ k
theorem zIs (hw:Region.wanted o (yielded ops a.tmps)=true) (mo x:Operand) (hop:o.op=Op.lookup 109 mo x false) (hm:a.eval mo=.map (some mb)) (h:HSx A w0 w Ps) (i:Nat) (hi:Ps[i]? = some (aS 92 mb n L)) {p:List Int} (hp:p.length=n) (hpi:InI p) (hx:a.eval x=vec p) (hmem:Hid (p∈L))
  (k:wpList Tryz.prog ops Q rest (a.put o.dst (.bool true)) w):wpList Tryz.prog ops Q (o::rest) a w:=zFf hw mo x hop hm h i hi hp hpi hx (by rw [decide_eq_true hmem.out]; exact k)
theorem zJx (hw:Region.wanted o (yielded ops a.tmps)=true) (mo x:Operand) (hop:o.op=Op.lookup 109 mo x false) (hm:a.eval mo=.map (some mb)) (h:HSx A w0 w Ps) (i:Nat) (hi:Ps[i]? = some (aS 92 mb n L)) {p:List Int} (hp:p.length=n) (hpi:InI p) (hx:a.eval x=vec p) (hmem:Hid (p∉L))
  (k:wpList Tryz.prog ops Q rest (a.put o.dst (.bool false)) w):wpList Tryz.prog ops Q (o::rest) a w:=zFf hw mo x hop hm h i hi hp hpi hx (by rw [decide_eq_false hmem.out]; exact k)
end
theorem zOm {S S':Nat→Prop} {u v:Value} {c:List (List Int)} {l:List Int} {w:World} (h:RII S w u c) (h':RI S' w v l) (hl:total c≤16777216) (hl':l.length≤16777216) :
  Calls Tryz.prog 90 #[u,v] w (DbC c l w):=by
 have HRES:Hid (DbC c l w=fun e w'=>∃r,e=.returned (.tuple #[r,.bool (dbOk c l)])∧FII (New w w') w' r (dbR c l)∧Below w.heap.size w w'):=zWF rfl;have hP:Calls Tryz.prog 95 #[u] w fun e w'=>∃r,e=.returned (.tuple #[r,.bool (finB c)])∧FII (New w w') w' r (prR c)∧Below w.heap.size w w':=zDh h hl;have HSM:=zWF (fun (w1:World) (b1:Below w.heap.size w w1)=>zGz (h.below b1) (h'.below b1) hl hl');have mixed:Tryz.prog.follows .mixedOrders=true:=by kernel_rfl
 cases hfin:finB c with
 | false =>
  have HF:Hid (dbC c l=false):=zWF (by unfold dbC; rw [hfin]; simp);have HR:Hid (dbR c l=[]):=zWF (by unfold dbR; rw [HF.out]; rfl);have HO:Hid (dbOk c l=false):=zWF (by unfold dbOk; rw [HF.out]; rfl);rw [hfin] at hP;clear hfin;go_enter Tryz.func90,Tryz.ntmps90
  go_wp2_with fail
  refine hP.mono ?_;rintro e w1 ⟨r1,rfl,_,b1⟩;have hf:=FII.empty_of b1 (w1:=w1.alloc (.cells #[] 28)) rfl;go_wp2_with fail
  go_ret2
  rw [HRES.out];exact ⟨_,by rw [HO.out]; rfl,by rw [HR.out]; exact hf.1,hf.2⟩
 | true =>
  have HDC:Hid (dbC c l=(decide (l.length=c.length) && sm4 l)):=zWF (by unfold dbC; rw [hfin,Bool.true_and,Bool.and_comm]);rw [hfin] at hP;cases hF:(decide (l.length=c.length) && sm4 l) with
  | false =>
   have HF:Hid (dbC c l=false):=zWF (by rw [HDC.out,hF]);have HR:Hid (dbR c l=[]):=zWF (by unfold dbR; rw [HF.out]; rfl);have HO:Hid (dbOk c l=false):=zWF (by unfold dbOk; rw [HF.out]; rfl);have HFF:=zWF hF;clear hfin hF;go_enter Tryz.func90,Tryz.ntmps90
   go_wp2_with fail
   refine hP.mono ?_;rintro e w1 ⟨r1,rfl,_,b1⟩;have hcall:=HSM.out w1 b1;rw [HFF.out] at hcall;go_wp2_with fail
   refine hcall.mono ?_;rintro e w2 ⟨rfl,m2,rfl⟩;have b2:=below_drewN b1 m2;generalize w1.drewN m2=w2 at *;have hf:=FII.empty_of b2 (w1:=w2.alloc (.cells #[] 28)) rfl;go_wp2_with fail
   go_ret2
   rw [HRES.out];exact ⟨_,by rw [HO.out]; rfl,by rw [HR.out]; exact hf.1,hf.2⟩
  | true =>
   have hdc:dbC c l=true:=by rw [HDC.out,hF]
   have HSMT:Hid (∀w1:World,Below w.heap.size w w1→Calls Tryz.prog 49 #[u,v] w1 fun e w'=>e=.returned (.bool true)∧∃m,w'=w1.drewN m):=zWF (fun w1 b1=>by have:=HSM.out w1 b1; rw [hF] at this; exact this);rw [Bool.and_eq_true,decide_eq_true_eq] at hF;obtain ⟨hlen,hs4⟩:=hF;have hfp:=zCB hfin;have hcp:=hfp.cart;have hisC:=zAK.2 hcp;have h4:c.length≤4:=hcp.le;have hmm:=@run_makeMap Tryz.prog;have HOK:Hid (dbOk c l=(dbQ c l).isSome):=zWF (by unfold dbOk; rw [hdc]; rfl);have HR:Hid (dbR c l=zA5 ((dbQ c l).getD [])):=zWF (by unfold dbR; rw [hdc]; rfl);have HFND:=zWF (fun (s:List (List Int)) (hs:dbQ c l=some s)=>(zGY hdc hs).1);have hprr:prR c=zAT c:=by unfold prR; rw [hfin]; rfl
   have hrl:∀r∈prR c,r.length=c.length:=fun r hr=>by
    rw [hprr] at hr;obtain ⟨p,hp,rfl⟩:=List.mem_map.1 (zLG hfp r hr);exact (hfp.rq.sh _ hp).1
   have h24:(prR c).length≤24:=by rw [hprr]; exact zFY hfp.rq hfp.cart
   have HWO:=zWF (fun (w1:World) (b1:Below w.heap.size w w1) (S9:Nat→Prop) (vv:Value) (x:List Int) (hx:RI S9 w1 vv x) (hxl:x.length=c.length)=>zNE (h.below b1) hx hisC hxl hl);have HWL:=zWF (fun (x:List Int)=>zBN c x);have HBA:=zWF (fun (f k:Nat) (q:List (List Int)) (x:List Int) (hx:q[k]? = some x)=>zRI (W:=dbW c) (f:=f) hx);have HBE:=zWF (fun (f k:Nat) (q:List (List Int)) (hk:q.length≤k)=>zOl (W:=dbW c) (f:=f) hk);have HRW:Hid (∀x q,zHq (dbW c) x q=((dbW c).drop 0).foldl (zBT x) q):=zWF (fun x q=>rfl);have HDW:Hid (∀(i:Nat) (x:List Int),(prR c)[i]? = some x→(dbW c)[i]? = some (worR c x)):=zWF (fun i x hx=>by unfold dbW; rw [List.getElem?_map,hx]; rfl);have HDL:Hid ((dbW c).length=(prR c).length):=zWF (by unfold dbW; rw [List.length_map]);have HRL:=zWF hrl
   have HQ0:Hid (zA9 (dbW c) (201-0) 0 (([(Value.slice none 0 0,l)]:Zl).map Prod.snd)=dbQ c l):=zWF rfl;have hv3':=zWF (fun (w1:World) (b1:Below w.heap.size w w1)=>zBA (h'.below b1) (by rw [hlen]; exact h4));have h0:=h;have h0':=h';obtain ⟨au,cu,rfl⟩:=h.form;obtain ⟨av,cv,rfl⟩:=h'.form;rw [hlen] at h' h0' HSMT hv3' ⊢;have HLEN:=zWF hlen;have HIN:Hid (InI l):=zWF (fun x hx=>by
    unfold sm4 at hs4;have:=List.all_eq_true.1 hs4 x hx;simp at this; omega)
   clear hfin hs4 hfp hcp hisC hprr hrl hlen hdc HSM;generalize dbQ c l=R at *;generalize dbW c=W at *;generalize prR c=L at *;generalize hn:c.length=n at *;have HN:=zWF hn;clear hn;generalize hm:L.length=m at *;have HM:=zWF hm;clear hm;go_enter Tryz.func90,Tryz.ntmps90
   go_wp2_with fail
   refine hP.mono ?_;rintro e w1 ⟨r1,rfl,f1,b1⟩;have hcall:=HSMT.out w1 b1;have hs1:=(HS.nil (Below.refl _ w)).addF b1 f1;have hs1:HS w w1 [aF r1 L]:=hs1;obtain ⟨a1,c1,rfl⟩:=f1.read.form;rw [HM.out] at hs1 ⊢;clear f1 b1 hP;go_wp2_with fail
   refine hcall.mono ?_;rintro e w2 ⟨rfl,m2,rfl⟩;have hs2:=hs1.drewN m2;generalize w1.drewN m2=w2 at *;have HVR:=zWF (h0'.below hs2.bl);clear hcall hs1;go_wp2_with (at_builtin; go_must (refine zAJ (W:=w2) rfl _ _ rfl rfl (FI.fresh0 w2) zAO rfl (HVR.out.below zAO) ?_ ?_))
   ·have:=HLEN.out; simp; omega
   ·intro v3 w3 f3 b3 _;have f3:FI (New w2 w3) w3 v3 l:=f3;obtain ⟨a3,c3,hv3⟩:=f3.form;rw [HLEN.out] at hv3;subst hv3;have hs3:=hs2.addI b3 f3;obtain ⟨w4,hw4⟩:∃w4,w4=w3.alloc (.cells #[.slice a3 n c3] 28):=⟨_,rfl⟩;have hs4:=zPS hs3 hw4;obtain ⟨w5,hw5⟩:∃w5,w5=w4.alloc (.map #[] 0):=⟨_,rfl⟩;have hs5:=hs4.newSet 92 n hw5;have HW:=zWF (show w5=(w3.alloc (.cells #[.slice a3 n c3] 28)).alloc (.map #[] 0) by rw [hw5,hw4]);have hz1:w.heap.size≤w3.heap.size+1:=by have:=hs3.bl.size; omega
    have hz2:w4.heap.size=w3.heap.size+1:=by rw [hw4]; simp
    have hv6:=hv3'.out w5 hs5.bl;clear hw4 hw5 hs3 hs4;go_wp2_with fail
    rw [<-HW.out];refine hv6.mono ?_;rintro e w6 ⟨rfl,b6⟩;unfold vec;have hs6:=hs5.below b6;rw [hz2] at hs6;have hs6:HS w w6 [aF (.slice a1 m c1) L,aI (.slice a3 n c3) l,aV 28 (.slice (some ⟨w3.heap.size,0,none⟩) 1 1) [.slice a3 n c3],aS 92 (w3.heap.size+1) n []]:=hs6;go_wp2_with (refine zFg rfl _ _ _ rfl rfl hs6 3 rfl (by omega) (by omega) (by simp) HLEN.out HIN.out rfl rfl ?_)
    intro w7 hs7;have hs8:=((hs7.iToRs 1 rfl).pick [0,2,1,3] (by decide));have hs8:HS w w7 [aF (.slice a1 m c1) L,aV 28 (.slice (some ⟨w3.heap.size,0,none⟩) 1 1) (([(Value.slice a3 n c3,l)]:Zl).map Prod.fst),aRs [(.slice a3 n c3,l)],aS 92 (w3.heap.size+1) n (([(Value.slice a3 n c3,l)]:Zl).map Prod.snd)]:=hs8;have HG0:Hid (zEO n [(.slice a3 n c3,l)]):=zWF (fun z hz=>by rw [List.mem_singleton] at hz; subst hz; exact ⟨HLEN.out,HIN.out⟩);clear hs7 hs6 hs5 hs2 f3 b3 b6 hv6 HW HVR;generalize w3.heap.size+1=mb at *;clear hz2;go_wp2_with fail
    go_loopw [8,10] (fun oo kk wr=>∃(k:Nat) (zo:Value) (Z:Zl),zo=oo∧k≤Z.length∧kk=.int .i64 k∧HS w wr [aF (.slice a1 m c1) L,aV 28 zo (Z.map Prod.fst),aRs Z,aS 92 mb n (Z.map Prod.snd)]∧Hid (zA9 W (201-k) k (Z.map Prod.snd)=R)∧Hid (zEO n Z)∧Z.length≤200) (fun _ kk _=>201-(intOf kk).toNat)
    case atStart=>exact ⟨0,_,_,rfl,Nat.zero_le _,rfl,hs8,HQ0,HG0,by simp⟩
    case round =>
     clear hs8 HG0 HQ0;obtain ⟨k,zo,Z,rfl,hk,rfl,hs,HQ,HG,hz200⟩:=hrel;have hlz:(Z.map Prod.fst).length=Z.length:=by simp
     obtain ⟨⟨aq,cq,rfl⟩,hhead⟩:=hs.formV 1 rfl;rw [hlz] at hs hhead ⊢;generalize hzl:Z.length=mz at *;have HZL:=zWF hzl;have HH:=zWF hhead;clear hzl hlz hhead;by_cases hkm:k<mz
     ·have i1:(k:Int)<(mz:Int):=by omega
      obtain ⟨z,hz⟩:∃z,Z[k]? = some z:=⟨Z[k]'(by rw [HZL.out]; exact hkm),zWG _⟩;obtain ⟨rk,xk⟩:=z;have hxl:xk.length=n:=(HG.out _ (zWH hz)).1;have HXL:=zWF hxl;have hb:=HBA.out (200-k) k (Z.map Prod.snd) xk (by simp [hz]);rw [show 200-k+1=201-k by omega,HQ.out] at hb;obtain ⟨Rr,hRr⟩:∃Rr,Rr=(W.drop 0).foldl (zBT xk) (Z.map Prod.snd):=⟨_,rfl⟩;rw [HRW.out,<-hRr] at hb;have HB:=zWF hb;have HR1:=zWF hRr.symm;have hrk0:RI _ wr rk xk:=hs.rowS 2 rfl (zWH hz);obtain ⟨ak,ck,hform⟩:=hrk0.form;rw [hxl] at hform;subst hform;have HZK:=zWF hz;clear hrk0 hxl hb hRr hz;go_wp2_with fail
      go_loopw [8,47] (fun oo ii wr=>∃(i:Nat) (zo:Value) (Z:Zl),zo=oo∧i≤m∧ii=.int .i64 i∧HS w wr [aF (.slice a1 m c1) L,aV 28 zo (Z.map Prod.fst),aRs Z,aS 92 mb n (Z.map Prod.snd)]∧Hid ((W.drop i).foldl (zBT xk) (Z.map Prod.snd)=Rr)∧Hid (zEO n Z)∧Hid (Z[k]? = some (.slice ak n ck,xk))∧Z.length≤200+i) (fun _ ii _=>m-(intOf ii).toNat)
      case atStart=>exact ⟨0,_,Z,rfl,Nat.zero_le _,rfl,hs,HR1,HG,HZK,by rw [HZL.out]; exact hz200⟩
      case round =>
       clear hs;obtain ⟨i,zo,Z,rfl,hi,rfl,hs,HR9,HG,HZK,hz200⟩:=hrel;have hlz:(Z.map Prod.fst).length=Z.length:=by simp
       have hk2:k<Z.length:=(zWI HZK.out).1;obtain ⟨⟨aq,cq,rfl⟩,hhead⟩:=hs.formV 1 rfl;rw [hlz] at hs hhead ⊢;generalize hzl:Z.length=m2 at *;have HZL:=zWF hzl;obtain ⟨gq,rfl⟩:∃g,aq=some ⟨g,0,none⟩:=by
        obtain ⟨g,c9,e⟩:=hhead (by omega);simp only [Value.slice.injEq] at e;exact ⟨g,e.1⟩
       clear hzl hlz hhead;by_cases hin:i<m
       ·have i2:(i:Int)<(m:Int):=by omega
        have i3:(k:Int)<(m2:Int):=by omega
        have i4:(0:Int)≤(k:Int):=by omega
        have i5:(0:Int)≤(i:Int):=by omega
        have hck:=(hs.cellV 1 rfl (j:=k) (r:=.slice ak n ck) (by simp [HZK.out])).1;have hrk:RI _ wr (.slice ak n ck) xk:=hs.rowS 2 rfl (zWH HZK.out);have hread:RII _ wr (.slice a1 m c1) L:=(hs.F 0 rfl).read;obtain ⟨b3,o3,r3,x3,rfl,hc3,hr3,hx3⟩:=RII.at hread hin;have hx3l:=HRL.out x3 (zWH hx3.out);obtain ⟨a33,c33,hf3⟩:=hr3.form;rw [hx3l] at hf3;subst hf3;have hw9:W[i]? = some (worR c x3):=HDW.out i x3 hx3.out;have h9:=HR9.out;rw [zAC hw9,List.foldl_cons] at h9;have HST:=zWF h9;have HWX:=zWF (HWL.out x3);have HX3L:=zWF hx3l;have hck2:=zE7 hck (.cells #[] 3);clear h9 hw9 hx3 hread hx3l;go_wp2_with (at_builtin; go_must (refine zAJ (W:=wr) rfl _ _ rfl rfl (FI.fresh0 wr) zAO rfl (hrk.below zAO) ?_ ?_))
        ·have:=HXL.out; simp; omega
        ·intro v2 w2 f2 b2 _;have f2:FI (New wr w2) w2 v2 xk:=f2;obtain ⟨a2,c2,hv2⟩:=f2.form;rw [HXL.out] at hv2;subst hv2;have hs2:=hs.addI b2 f2;have hcall:=HWO.out w2 hs2.bl _ _ x3 (hr3.below b2) HX3L.out;clear hs f2 hck hck2 hrk hr3 b2;go_wp2_with fail
         refine hcall.mono ?_;rintro e w4 ⟨r4,rfl,f4,b4⟩;have hs4:=hs2.addI b4 f4;obtain ⟨a4,c4,rfl⟩:=f4.form;generalize worR c x3=y3 at *;have HT0:Hid (subT xk y3 0=xk):=zWF (zP8 _ _);rw [HWX.out] at hs4 ⊢;have hs4:HS w w4 [aF (.slice (some ⟨b3,o3,none⟩) m c1) L,aV 28 (.slice (some ⟨gq,0,none⟩) m2 cq) (Z.map Prod.fst),aRs Z,aS 92 mb n (Z.map Prod.snd),aI (.slice a2 n c2) (subT xk y3 0),aI (.slice a4 n c4) y3]:=by rw [HT0.out]; exact hs4
         have HTL:Hid (∀j,(subT xk y3 j).length=n):=zWF (fun j=>by rw [zLw (by rw [HXL.out,HWX.out]),HXL.out]);have HTA:Hid (∀(j:Nat) (x:Int),xk[j]? = some x→(subT xk y3 j)[j]? = some x):=zWF (fun j x hx=>zUX (by rw [HXL.out,HWX.out]) hx);have HTS:Hid (∀(j:Nat) (x y:Int),xk[j]? = some x→y3[j]? = some y→(subT xk y3 j).set j (wrap64 (x-y))=subT xk y3 (j+1)):=zWF (fun j x y hx hy=>zP7 (by rw [HXL.out,HWX.out]) hx hy);have HTE:Hid (subT xk y3 n=subV xk y3):=zWF (by rw [<-zR7 (a:=xk) (b:=y3) (by rw [HXL.out,HWX.out]),HXL.out]);clear hs2 hcall f4 b4;go_wp2_with fail
         go_loopw [61] (fun jj wr=>∃(j:Nat),j≤n∧jj=.int .i64 j∧HS w wr [aF (.slice (some ⟨b3,o3,none⟩) m c1) L,aV 28 (.slice (some ⟨gq,0,none⟩) m2 cq) (Z.map Prod.fst),aRs Z,aS 92 mb n (Z.map Prod.snd),aI (.slice a2 n c2) (subT xk y3 j),aI (.slice a4 n c4) y3]) (fun jj _=>n-(intOf jj).toNat)
         case atStart=>exact ⟨0,Nat.zero_le _,rfl,hs4⟩
         case round =>
          clear hs4;obtain ⟨j,hj,rfl,hs⟩:=hrel;by_cases hjn:j<n
          ·have j1:(j:Int)<(n:Int):=by omega
           have j2:(0:Int)≤(j:Int):=by omega
           obtain ⟨g2,cap2,e2,_,_⟩:=hs.headI 4 rfl (by rw [HTL.out]; omega);simp only [Value.slice.injEq] at e2;obtain ⟨rfl,_,_⟩:=e2;have hry:=(hs.I 5 rfl).reads;obtain ⟨b7,o7,y,e7,hcy,hy⟩:=hry.at hjn;subst e7;obtain ⟨x,hx⟩:∃x,xk[j]? = some x:=⟨xk[j]'(by rw [HXL.out]; exact hjn),zWG _⟩;obtain ⟨d1,z1⟩:=hs.cellI 4 rfl (HTL.out j) (HTA.out j x hx);have hs9:=hs.putI 4 rfl (HTL.out j) j (wrap64 (x-y));rw [HTS.out j x y hx hy.out] at hs9;have hs9:HS w _ [aF (.slice (some ⟨b3,o3,none⟩) m c1) L,aV 28 (.slice (some ⟨gq,0,none⟩) m2 cq) (Z.map Prod.fst),aRs Z,aS 92 mb n (Z.map Prod.snd),aI (.slice (some ⟨g2,0,none⟩) n c2) (subT xk y3 (j+1)),aI (.slice (some ⟨b7,o7,none⟩) n c4) y3]:=hs9;clear hry hx hy hs;go_wp2_with fail
           go_roundw
           case rel=>exact ⟨j+1,by omega,by go_num,hs9⟩
           case measure=>simp [intOf]; omega
          ·have j1:¬(j:Int)<(n:Int):=by omega
           have e:j=n:=by omega
           rw [e,HTE.out] at hs;clear e;have HSL:Hid ((subV xk y3).length=n):=zWF (by rw [zBb (by rw [HXL.out,HWX.out]),HXL.out]);have HIN6:Hid (InI (subV xk y3)):=zWF (zMv _ _);have HST:Hid ((W.drop (i+1)).foldl (zBT xk) (if dom (subV xk y3)=true∧subV xk y3∉Z.map Prod.snd then Z.map Prod.snd++[subV xk y3] else Z.map Prod.snd)=Rr):=zWF HST.out;have hs5:=hs.pick [0,1,2,3,4] (by decide);have hs5:HS w wr [aF (.slice (some ⟨b3,o3,none⟩) m c1) L,aV 28 (.slice (some ⟨gq,0,none⟩) m2 cq) (Z.map Prod.fst),aRs Z,aS 92 mb n (Z.map Prod.snd),aI (.slice a2 n c2) (subV xk y3)]:=hs5;clear hs HTL HTA HTS HTE HT0;generalize subV xk y3=x6 at *;have hvc:=zBA ((hs5.I 4 rfl).reads) (by rw [HSL.out]; exact h4);go_wp2_with fail
           refine hvc.mono ?_;rintro e w7 ⟨rfl,b7⟩;have hs7:=hs5.below b7;obtain ⟨w8,hw8⟩:∃w8,w8=w7.alloc (.cells #[.int .i64 (num x6 0),.int .i64 (num x6 1),.int .i64 (num x6 2),.int .i64 (num x6 3)] 92):=⟨_,rfl⟩;have hs8:=hs7.alloc (.cells #[.int .i64 (num x6 0),.int .i64 (num x6 1),.int .i64 (num x6 2),.int .i64 (num x6 3)] 92);rw [<-hw8] at hs8;have k0:w8.cell? ⟨w7.heap.size,0,none⟩=some (.int .i64 (num x6 0)):=by rw [hw8]; go_simp
           have k1:w8.cell? ⟨w7.heap.size,1,none⟩=some (.int .i64 (num x6 1)):=by rw [hw8]; go_simp
           have k2:w8.cell? ⟨w7.heap.size,2,none⟩=some (.int .i64 (num x6 2)):=by rw [hw8]; go_simp
           have k3:w8.cell? ⟨w7.heap.size,3,none⟩=some (.int .i64 (num x6 3)):=by rw [hw8]; go_simp
           have HW8:=zWF hw8;have hlz5:(Z.map Prod.snd).length<67108864:=by simp [HZL.out]; omega
           have hdm8:=zEt (HS.I hs8 4 rfl).reads (by rw [HSL.out]; omega);clear hs5 hvc b7 hs7 hw8;unfold vec;go_wp2_with fail
           rw [<-HW8.out];refine hdm8.mono ?_;rintro e w9 ⟨rfl,hw9⟩;subst hw9;clear hdm8;cases hdm:dom x6 with
           | false =>
            have HS2:Hid ((W.drop (i+1)).foldl (zBT xk) (Z.map Prod.snd)=Rr):=zWF (by rw [<-HST.out,if_neg (fun h=>by rw [hdm] at h; cases h.1)]);have hs9:=hs8.pick [0,1,2,3] (by decide);have hs9:HS w w8 [aF (.slice (some ⟨b3,o3,none⟩) m c1) L,aV 28 (.slice (some ⟨gq,0,none⟩) m2 cq) (Z.map Prod.fst),aRs Z,aS 92 mb n (Z.map Prod.snd)]:=hs9;clear hs8 hdm;go_wp2_with fail
            go_roundw
            case rel=>exact ⟨i+1,_,Z,rfl,by omega,by go_num,hs9,HS2,HG,HZK,by rw [HZL.out]; omega⟩
            case measure=>simp [intOf]; omega
           | true =>
            by_cases hmem:x6∈Z.map Prod.snd
            ·have HMEM:=zWF hmem;have HS2:Hid ((W.drop (i+1)).foldl (zBT xk) (Z.map Prod.snd)=Rr):=zWF (by rw [<-HST.out,if_neg (fun h=>h.2 hmem)]);have hs9:=hs8.pick [0,1,2,3] (by decide);have hs9:HS w w8 [aF (.slice (some ⟨b3,o3,none⟩) m c1) L,aV 28 (.slice (some ⟨gq,0,none⟩) m2 cq) (Z.map Prod.fst),aRs Z,aS 92 mb n (Z.map Prod.snd)]:=hs9;clear hmem hdm;go_wp2_with (at_lookup; go_must (refine zIs (by rfl) _ _ rfl rfl hs8 3 rfl HSL.out HIN6.out rfl HMEM ?_))
             go_roundw
             case rel=>exact ⟨i+1,_,Z,rfl,by omega,by go_num,hs9,HS2,HG,HZK,by rw [HZL.out]; omega⟩
             case measure=>simp [intOf]; omega
            ·have HMEM:=zWF hmem;have HS2:Hid ((W.drop (i+1)).foldl (zBT xk) ((Z++[(Value.slice a2 n c2,x6)]).map Prod.snd)=Rr):=zWF (by rw [<-HST.out,if_pos ⟨hdm,hmem⟩]; simp);clear hmem hdm;go_wp2_with (first | (at_lookup; go_must (refine zJx (by rfl) _ _ rfl rfl hs8 3 rfl HSL.out HIN6.out rfl HMEM ?_)) | (at_mapUpdate; go_must (refine zFh rfl _ _ _ rfl rfl hs8 3 rfl hz1 h4 hlz5 HSL.out HIN6.out rfl rfl ?_)))
             intro w6 hs6;have hs6:HS w w6 [aF (.slice (some ⟨b3,o3,none⟩) m c1) L,aV 28 (.slice (some ⟨gq,0,none⟩) m2 cq) (Z.map Prod.fst),aRs Z,aS 92 mb n (Z.map Prod.snd++[x6]),aI (.slice a2 n c2) x6]:=hs6;obtain ⟨w7,hw7⟩:∃w7,w7=w6.alloc (.cells #[.slice a2 n c2] 28):=⟨_,rfl⟩;have hs7:=hs6.alloc (.cells #[.slice a2 n c2] 28);rw [<-hw7] at hs7;have hc7:w7.cell? ⟨w6.heap.size,0,none⟩=some (.slice a2 n c2):=by rw [hw7]; go_simp
             have HW7:=zWF hw7;have hone:(Value.slice a2 n c2).oneCell'=true:=rfl;have HNV:=zWF (HS.newV hs7 1 rfl);have HLZ:Hid ((Z.map Prod.fst).length+1≤67108864):=zWF (by simp [HZL.out]; omega);clear hw7 hs6 hs8 hlz5;go_wp2_with (at_builtin; go_must (rw [<-HW7.out]; refine zAN rfl _ _ rfl rfl hs7 1 rfl HNV.out rfl hc7 hone HLZ.out ?_))
             intro v8 w8 hs8 _;have hs9:=(hs8.moreS (Z':=Z++[(Value.slice a2 n c2,x6)]) 2 4 (by decide) rfl rfl List.perm_append_comm).pick [0,1,2,3] (by decide);have hs9:HS w w8 [aF (.slice (some ⟨b3,o3,none⟩) m c1) L,aV 28 v8 ((Z++[(Value.slice a2 n c2,x6)]).map Prod.fst),aRs (Z++[(Value.slice a2 n c2,x6)]),aS 92 mb n ((Z++[(Value.slice a2 n c2,x6)]).map Prod.snd)]:=by
              have e:(Z++[(Value.slice a2 n c2,x6)]).map Prod.fst=Z.map Prod.fst++[Value.slice a2 n c2]:=by simp
              have e2:(Z++[(Value.slice a2 n c2,x6)]).map Prod.snd=Z.map Prod.snd++[x6]:=by simp
              rw [e,e2]; exact hs9
             have HG2:Hid (zEO n (Z++[(Value.slice a2 n c2,x6)])):=zWF (fun z hz=>by
              rcases List.mem_append.1 hz with hz | hz
              ·exact HG.out z hz
              ·rw [List.mem_singleton] at hz; subst hz; exact ⟨HSL.out,HIN6.out⟩)
             have HZK2:Hid ((Z++[(Value.slice a2 n c2,x6)])[k]? = some (.slice ak n ck,xk)):=zWF (by rw [List.getElem?_append_left (by rw [HZL.out]; omega)]; exact HZK.out);clear hs8 hs7;go_wp2_with fail
             go_roundw
             case rel=>exact ⟨i+1,_,_,rfl,by omega,by go_num,hs9,HS2,HG2,HZK2,by simp [HZL.out]; omega⟩
             case measure=>simp [intOf]; omega
       ·have i2:¬(i:Int)<(m:Int):=by omega
        have h9:=HR9.out;rw [List.drop_eq_nil_of_le (by rw [HDL.out]; omega),List.foldl_nil] at h9;have hb:=HB.out;rw [<-h9] at hb;by_cases h200:200<m2
        ·have i7:(200:Int)<(m2:Int):=by omega
         rw [if_pos (by simp [HZL.out]; omega)] at hb;have HQN:=zWF hb;have hfe:=FII.empty_of hs.bl (w1:=wr.alloc (.cells #[] 28)) rfl;clear hs hb h9;go_wp2_with fail
         go_ret2
         rw [HRES.out];exact ⟨_,by rw [HOK.out,HQN.out]; rfl,by rw [HR.out,HQN.out]; exact hfe.1,hfe.2⟩
        ·have i7:¬(200:Int)<(m2:Int):=by omega
         rw [if_neg (by simp [HZL.out]; omega)] at hb;have HQ2:Hid (zA9 W (201-(k+1)) (k+1) (Z.map Prod.snd)=R):=zWF (by rw [hb,show 201-(k+1)=200-k by omega]);clear hb h9;go_wp2_with fail
         go_roundw
         case rel=>exact ⟨k+1,_,Z,rfl,by rw [HZL.out]; omega,by go_num,hs,HQ2,HG,by rw [HZL.out]; omega⟩
         case measure=>simp [intOf]; omega
     ·have i1:¬(k:Int)<(mz:Int):=by omega
      have hb:=HBE.out (201-k) k (Z.map Prod.snd) (by simp [HZL.out]; omega);rw [HQ.out] at hb;have HRS:=zWF hb;have HFN:=zWF (HFND.out _ hb);have hsrt:=(hs.pick [1,2] (by decide)).sortRows (Z:=Z) (v:=.slice aq mz cq) (n:=n) 0 1 (by decide) rfl rfl (HS.newV hs 1 rfl) (fun z hz=>(HG.out z hz).1) (by omega) (by rw [HZL.out]; omega);clear hb hs;go_wp2_with fail
      refine hsrt.mono ?_;rintro e w6 ⟨rfl,Z',hp,hsr,hs6⟩;have HSR:=zWF hsr;clear hsr;have hs7:=((hs6.pick [0,1] (by decide)).shutF (Z:=Z') (v:=.slice aq mz cq) 0 1 (by decide) rfl rfl).pick [0] (by decide);have hs7:HS w w6 [aF (.slice aq mz cq) (Z'.map Prod.snd)]:=hs7;have HFIN:Hid (Z'.map Prod.snd=dbR c l):=zWF (by
       rw [HR.out,HRS.out];exact zEh (n:=n) (hp.map _) (HSR.out.imp (fun h=>by omega)) HFN.out.nd HFN.out.len (fun x=>Iff.rfl))
      rw [HFIN.out] at hs7;clear hs6 hsrt hp;go_wp2_with fail
      go_ret2
      rw [HRES.out];exact ⟨_,by rw [HOK.out,HRS.out]; rfl,hs7.F 0 rfl,hs7.bl⟩
end Go.Proofs.YtphbichgpcicnaaGreatDoor
