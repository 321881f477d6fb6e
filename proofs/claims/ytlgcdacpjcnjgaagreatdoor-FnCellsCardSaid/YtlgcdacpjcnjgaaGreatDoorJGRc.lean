/- The right cells of a small group out of its left cells, as the reference and as the program make them: the same. Plain lists. -/
import Derived.Test.YtlgcdacpjcnjgaaGreatDoorJGLcI
namespace Go.Proofs.YtlgcdacpjcnjgaaGreatDoor
open Go.RowKit
set_option maxRecDepth 20000
def invP (c:List (List Int)) (i:Nat):Nat:=idxE (elL c) (zAD c (getE (elL c) i).reverse)
theorem zEH {c:List (List Int)} (K:KlOk c) {i:Nat} (hi:i<(elL c).length):∃x,(elL c)[i]? = some x∧Nf c x∧getE (elL c) i=x∧Nf c (zAD c x.reverse)∧(elL c)[invP c i]? = some (zAD c x.reverse)∧invP c i<(elL c).length:=by
 obtain ⟨x,hx,hN,_,h24⟩:=K.at hi;have e:=zCS hx;have hl:=zAb hN.lets;obtain ⟨h1,h2,h3⟩:=K.word hl (by rw [List.length_reverse]; exact h24);refine ⟨x,hx,hN,e,(K.nf _).1 h1,?_,?_⟩
 ·unfold invP; rw [e]; exact h3
 ·unfold invP; rw [e]; exact h2
theorem zQk {c:List (List Int)} (K:KlOk c) {i:Nat} (hi:i<(elL c).length):invP c (invP c i)=i:=by
 obtain ⟨x,hx,hN,e,hNy,hy,hlt⟩:=zEH K hi;have hc:=K.cart;have h24:=hN.le;have hl:=zAb hN.lets;have hlr:x.reverse.length≤24:=by rw [List.length_reverse]; exact h24
 have him:=zAa hc hl (by omega);have hiy:zAF c (zAD c x.reverse)=zAF c x.reverse:=zBQ hc _ him (by omega);have hyl:=hNy.le;have heq:=(zQi hc hNy.lets hl (by omega) (by omega)).2 hiy;have key:zAF c (zAD c x.reverse).reverse=zAF c x:=by
  have h1:=zAa hc (zAb hNy.lets) (by rw [List.length_reverse]; omega);have h2:=zAa hc hN.lets (by omega);refine List.ext_getElem? fun k=>?_;rcases Nat.lt_or_ge k c.length with hk | hk
  ·have q1:=zBf hc (zAb hNy.lets) (by rw [List.length_reverse]; omega) k hk;have q2:=zBf hc hN.lets (by omega) k hk;have t1:Cox.Lets c.length (toN (zAD c x.reverse)):=zCQ hNy.lets;have t2:Cox.Lets c.length (toN x.reverse):=zCQ hl;have q3:=Cox.eqv_rev hc.car t1 t2 heq Cox.one;have r1:(toN (zAD c x.reverse)).reverse=toN (zAD c x.reverse).reverse:=by unfold toN; rw [List.map_reverse]
   have r2:(toN x.reverse).reverse=toN x:=by unfold toN; rw [<-List.map_reverse,List.reverse_reverse]
   rw [r1,r2] at q3;rw [q3,<-q2] at q1;have l1:k<(zAF c (zAD c x.reverse).reverse).length:=by rw [h1.1]; exact hk
   have l2:k<(zAF c x).length:=by rw [h2.1]; exact hk
   unfold num at q1;rw [zTE l1,zTE l2] at q1 ⊢;exact congrArg some q1
  ·rw [List.getElem?_eq_none (by rw [h1.1]; exact hk),List.getElem?_eq_none (by rw [h2.1]; exact hk)]
 have e2:zAD c (zAD c x.reverse).reverse=x:=by
  have:zAD c (zAD c x.reverse).reverse=zAD c x:=by unfold zAD at key ⊢; rw [key]
  rw [this,hN.nf]
 unfold invP at hy hlt ⊢;rw [zCS hy,e2];exact zIr K.nod hx
def hdN (l:List Nat):Nat:=(l[0]?).getD 0
theorem zGm:∀{A B:List (List Nat)},A.Pairwise (fun a b=>hdN a<hdN b)→B.Pairwise (fun a b=>hdN a<hdN b)→(∀x,x∈A↔x∈B)→A=B
 | [],[],_,_,_=>rfl
 | [],b::B,_,_,h=>by have:=(h b).2 (List.mem_cons_self ..); simp at this
 | a::A,[],_,_,h=>by have:=(h a).1 (List.mem_cons_self ..); simp at this
 | a::A,b::B,hA,hB,h=>by
  rw [List.pairwise_cons] at hA hB;have e:a=b:=by
   rcases List.mem_cons.1 ((h a).1 (List.mem_cons_self ..)) with e | e
   ·exact e
   ·rcases List.mem_cons.1 ((h b).2 (List.mem_cons_self ..)) with e2 | e2
    ·exact e2.symm
    ·have h1:=hB.1 a e;have h2:=hA.1 b e2;omega
  subst e;rw [zGm hA.2 hB.2 (fun x=>⟨fun hx=>?_,fun hx=>?_⟩)]
  ·rcases List.mem_cons.1 ((h x).1 (List.mem_cons_of_mem _ hx)) with e | e
   ·subst e; have:=hA.1 x hx; omega
   ·exact e
  ·rcases List.mem_cons.1 ((h x).2 (List.mem_cons_of_mem _ hx)) with e | e
   ·subst e; have:=hB.1 x hx; omega
   ·exact e
section
variable {m:Nat→Nat→Bool} {N:Nat} {inv:Nat→Nat}
theorem zDR (h:EqvB N m) {a b:Nat} (ha:a<N) (hb:b<N) (hab:m a b=true):zAX m N a=zAX m N b:=by
 unfold zAX;refine List.filter_congr fun k hk=>?_;have hk:=List.mem_range.1 hk;rw [Bool.eq_iff_iff];exact ⟨fun h1=>h.trans b a k hb ha hk (h.symm a b ha hb hab) h1,fun h1=>h.trans a b k ha hb hk hab h1⟩
def sCel (m:Nat→Nat→Bool) (N:Nat) (inv:Nat→Nat) (a:Nat):List Nat:=srtN ((zAX m N a).map inv)
def rcS (m:Nat→Nat→Bool) (N:Nat) (inv:Nat→Nat):Nat→List (List Nat)
 | 0=>[]
 | i+1=>if (sCel m N inv (inv i))[0]? = some i then rcS m N inv i++[sCel m N inv (inv i)] else rcS m N inv i
theorem zCB:∀{i:Nat} {x:List Nat},x∈rcS m N inv i↔∃k,k<i∧x=sCel m N inv (inv k)∧x[0]? = some k
 | 0,x=>by simp [rcS]
 | i+1,x=>by
  unfold rcS;constructor
  ·intro h;split at h
   ·rename_i hh
    rcases List.mem_append.1 h with h | h
    ·obtain ⟨k,h1,h2⟩:=zCB.1 h;exact ⟨k,by omega,h2⟩
    ·rw [List.mem_singleton] at h;exact ⟨i,by omega,h,by rw [h]; exact hh⟩
   ·obtain ⟨k,h1,h2⟩:=zCB.1 h;exact ⟨k,by omega,h2⟩
  ·rintro ⟨k,h1,h2,h3⟩;rcases Nat.lt_or_ge k i with h4 | h4
   ·have:=zCB.2 ⟨k,h4,h2,h3⟩;split
    ·exact List.mem_append.2 (.inl this)
    ·exact this
   ·have:k=i:=by omega
    subst this;rw [if_pos (by rw [<-h2]; exact h3)];exact List.mem_append.2 (.inr (by rw [List.mem_singleton]; exact h2))
theorem zFY:∀i,(rcS m N inv i).Pairwise (fun a b=>hdN a<hdN b)
 | 0=>List.Pairwise.nil
 | i+1=>by
  unfold rcS;split
  ·rename_i hh
   rw [List.pairwise_append];refine ⟨zFY i,List.pairwise_singleton _ _,fun a ha b hb=>?_⟩;rw [List.mem_singleton] at hb;subst hb;obtain ⟨k,h1,_,h3⟩:=zCB.1 ha;unfold hdN;rw [h3,hh];exact h1
  ·exact zFY i
theorem zBP:∀{i:Nat} {x:List Nat},x∈celS m N i↔∃k,k<i∧x=zAX m N k∧x[0]? = some k
 | 0,x=>by simp [celS]
 | i+1,x=>by
  unfold celS;constructor
  ·intro h;split at h
   ·rename_i hh
    rcases List.mem_append.1 h with h | h
    ·obtain ⟨k,h1,h2⟩:=zBP.1 h;exact ⟨k,by omega,h2⟩
    ·rw [List.mem_singleton] at h;exact ⟨i,by omega,h,by rw [h]; exact hh⟩
   ·obtain ⟨k,h1,h2⟩:=zBP.1 h;exact ⟨k,by omega,h2⟩
  ·rintro ⟨k,h1,h2,h3⟩;rcases Nat.lt_or_ge k i with h4 | h4
   ·have:=zBP.2 ⟨k,h4,h2,h3⟩;split
    ·exact List.mem_append.2 (.inl this)
    ·exact this
   ·have:k=i:=by omega
    subst this;rw [if_pos (by rw [<-h2]; exact h3)];exact List.mem_append.2 (.inr (by rw [List.mem_singleton]; exact h2))
theorem zFu:∀i,(celS m N i).Pairwise (fun a b=>hdN a<hdN b)
 | 0=>List.Pairwise.nil
 | i+1=>by
  unfold celS;split
  ·rename_i hh
   rw [List.pairwise_append];refine ⟨zFu i,List.pairwise_singleton _ _,fun a ha b hb=>?_⟩;rw [List.mem_singleton] at hb;subst hb;obtain ⟨k,h1,_,h3⟩:=zBP.1 ha;unfold hdN;rw [h3,hh];exact h1
  ·exact zFu i
structure InvOk (N:Nat) (inv:Nat→Nat):Prop where
 lt:∀i,i<N→inv i<N
 two:∀i,i<N→inv (inv i)=i
theorem zFy {a y:Nat}:y∈sCel m N inv a↔∃x,x<N∧m a x=true∧inv x=y:=by
 unfold sCel;rw [(zBN _).mem_iff,List.mem_map];exact ⟨fun ⟨x,h1,h2⟩=>⟨x,(zBD.1 h1).1,(zBD.1 h1).2,h2⟩,fun ⟨x,h1,h2,h3⟩=>⟨x,zBD.2 ⟨h1,h2⟩,h3⟩⟩
theorem zKv (h:EqvB N m) {a b:Nat} (ha:a<N) (hb:b<N) (hab:m a b=true):sCel m N inv a=sCel m N inv b:=by unfold sCel; rw [zDR h ha hb hab]
theorem zKw (h:EqvB N m) (hi:InvOk N inv) {a:Nat} (ha:a<N):∃i,i<N∧(sCel m N inv a)[0]? = some i∧sCel m N inv a=sCel m N inv (inv i):=by
 have hm:inv a∈sCel m N inv a:=zFy.2 ⟨a,ha,h.self a ha,rfl⟩;have hl:0<(sCel m N inv a).length:=List.length_pos_of_mem hm;have h0:=zTE hl;obtain ⟨x,h1,h2,h3⟩:=zFy.1 (zTF h0);refine ⟨_,?_,h0,?_⟩
 ·rw [<-h3]; exact hi.lt x h1
 ·rw [<-h3,hi.two x h1];exact zKv h ha h1 h2
theorem zRH (h:EqvB N m) (hi:InvOk N inv) {A:List (List Nat)} (hp:A.Perm ((celS m N N).map fun C=>srtN (C.map inv))) (hs:A.Pairwise (fun a b=>¬hdN b<hdN a)):A=rcS m N inv N:=by
 have hM:∀x,x∈((celS m N N).map fun C=>srtN (C.map inv))↔∃a,a<N∧(zAX m N a)[0]? = some a∧x=sCel m N inv a:=fun x=>by
  rw [List.mem_map];constructor
  ·rintro ⟨C,hC,rfl⟩;obtain ⟨k,h1,h2,h3⟩:=zBP.1 hC;exact ⟨k,h1,by rw [<-h2]; exact h3,by unfold sCel; rw [h2]⟩
  ·rintro ⟨a,h1,h2,rfl⟩;exact ⟨zAX m N a,zBP.2 ⟨a,h1,rfl,h2⟩,rfl⟩
 have hnd:((celS m N N).map fun C=>srtN (C.map inv)).Nodup:=by
  unfold List.Nodup;rw [List.pairwise_map];refine (List.pairwise_iff_forall_sublist.2 fun {C D} hsub=>?_);have hlt:=List.pairwise_iff_forall_sublist.1 (zFu (m:=m) (N:=N) N) hsub;have hCm:=hsub.subset (List.mem_cons_self ..);have hDm:=hsub.subset (List.mem_cons_of_mem _ (List.mem_cons_self ..));obtain ⟨a,a1,a2,a3⟩:=zBP.1 hCm;obtain ⟨b,b1,b2,b3⟩:=zBP.1 hDm;intro e;have hin:inv a∈srtN (C.map inv):=by
   rw [(zBN _).mem_iff,List.mem_map];exact ⟨a,by rw [a2]; exact zBD.2 ⟨a1,h.self a a1⟩,rfl⟩
  rw [e,b2] at hin;obtain ⟨x,x1,x2,x3⟩:=zFy.1 (show inv a∈sCel m N inv b from hin);have:x=a:=by rw [<-hi.two x x1,x3,hi.two a a1]
  subst this;have hce:=zDR h b1 a1 x2;rw [b2,hce] at b3;rw [a2] at a3;rw [a3] at b3;simp only [Option.some.injEq] at b3;subst b3;unfold hdN at hlt;rw [a2,b2] at hlt;omega
 have hmem:∀x,x∈A↔x∈rcS m N inv N:=fun x=>by
  rw [hp.mem_iff,hM,zCB];constructor
  ·rintro ⟨a,h1,h2,rfl⟩;obtain ⟨i,i1,i2,i3⟩:=zKw h hi h1;exact ⟨i,i1,i3,i2⟩
  ·rintro ⟨i,h1,rfl,h3⟩;obtain ⟨a,a1,a2,a3,_⟩:=zEB h (hi.lt i h1);have han:a<N:=(zBD.1 (zTF a1)).1;have hce:=zDR h (hi.lt i h1) han a3;exact ⟨a,han,by rw [<-hce]; exact a1,zKv h (hi.lt i h1) han a3⟩
 refine zGm ?_ (zFY N) hmem;have hnA:A.Nodup:=hp.nodup_iff.2 hnd;refine List.pairwise_iff_forall_sublist.2 fun {x y} hsub=>?_;have h1:=List.pairwise_iff_forall_sublist.1 hs hsub;have h2:x≠y:=List.pairwise_iff_forall_sublist.1 hnA hsub;have hx:=(hmem x).1 (hsub.subset (List.mem_cons_self ..));have hy:=(hmem y).1 (hsub.subset (List.mem_cons_of_mem _ (List.mem_cons_self ..)));obtain ⟨i,i1,i2,i3⟩:=zCB.1 hx;obtain ⟨k,k1,k2,k3⟩:=zCB.1 hy;have ex:hdN x=i:=by unfold hdN; rw [i3]; rfl
 have ey:hdN y=k:=by unfold hdN; rw [k3]; rfl
 rcases Nat.lt_or_ge i k with h3 | h3
 ·omega
 ·have:i=k:=by omega
  subst this;exact absurd (i2.trans k2.symm) h2
end
def rcR (c:List (List Int)):List (List Int):=if okK c=true then (rcS (mutC c) (elL c).length (invP c) (elL c).length).map iN else []
theorem zPs {c:List (List Int)} (K:KlOk c):InvOk (elL c).length (invP c):=⟨fun i hi=>(by obtain ⟨_,_,_,_,_,_,h⟩:=zEH K hi; exact h),fun i hi=>zQk K hi⟩
end Go.Proofs.YtlgcdacpjcnjgaaGreatDoor
namespace Go.Proofs.YtlgcdacpjcnjgaaGreatDoor
open Go.RowKit Go.Sort
set_option maxRecDepth 20000
set_option maxHeartbeats 8000000
def hdI (l:List Int):Int:=(l[0]?).getD 0
theorem zMQ {S S':Nat→Prop} {u v:Value} {l l':List Int} {w:World} (h:RI S w u l) (h':RI S' w v l') (hl:0<l.length) (hl':0<l'.length) (hb:0≤hdI l∧hdI l≤1000) (hb':0≤hdI l'∧hdI l'≤1000) :
  Calls Tryz.prog 36 #[u,v] w fun e w'=>e=.returned (.int .i64 (hdI l-hdI l'))∧∃m,w'=w.drewN m:=by
 have mixed:Tryz.prog.follows .mixedOrders=true:=by kernel_rfl
 obtain ⟨a,c,rfl⟩:=h.form;obtain ⟨a',c',rfl⟩:=h'.form;obtain ⟨b,o,x,rfl,hc,hx⟩:=RI.at h hl;obtain ⟨b',o',x',rfl,hc',hx'⟩:=RI.at h' hl';have e1:hdI l=x:=by unfold hdI; rw [hx.out]; rfl
 have e2:hdI l'=x':=by unfold hdI; rw [hx'.out]; rfl
 rw [e1] at hb ⊢;rw [e2] at hb' ⊢;obtain ⟨hb1,hb2⟩:=hb;obtain ⟨hb3,hb4⟩:=hb';clear h h' hx hx' e1 e2;rw [Nat.add_zero] at hc hc';generalize l.length=n at *;generalize l'.length=n' at *;have i1:(0:Int)<(n:Int):=by omega
 have i2:(0:Int)<(n':Int):=by omega
 have hwr:wrap64 (x-x')=x-x':=by unfold wrap64; omega
 go_enter Tryz.func36,Tryz.ntmps36
 go_wp2_with fail
 go_quiet (fail)
 go_wp2_with fail
 go_ret
 exact ⟨rfl,_,rfl⟩
theorem zRX {α:Type} (k:α→Int):SWO (ltOf fun x y=>k x-k y):=by
 have e:∀x y,ltOf (fun x y=>k x-k y) x y=true↔k x<k y:=fun x y=>by unfold ltOf; rw [decide_eq_true_iff]; show k x-k y<0↔_; omega
 have e2:∀x y,ltOf (fun x y=>k x-k y) x y=false↔¬k x<k y:=fun x y=>by unfold ltOf; rw [decide_eq_false_iff_not]; show ¬(k x-k y<0)↔_; omega
 refine ⟨fun x=>(e2 x x).2 (by omega),fun x y z h1 h2=>?_,fun x y z h1 h2=>?_⟩
 ·rw [e] at *; omega
 ·rw [e2] at *; omega
theorem zLl {v:Value} {Z:Zl} {w:World} (hown:w.ownsRow 0 29 1 v Z.length (Z.map Prod.fst)) (hr:∀z∈Z,RI (fun b=>v.ownBlock≠some b) w z.1 z.2) (hn:∀z∈Z,0<z.2.length∧0≤hdI z.2∧hdI z.2≤1000) (hl:Z.length≤67108864) :
  Calls Tryz.prog 35 #[v,.func (.func 36) #[] #[]] w fun e w'=>e=.returned (.tuple #[]) ∧
   ∃Z':Zl,Z'.Perm Z∧(Z'.map Prod.snd).Pairwise (fun a b=>¬hdI b<hdI a)∧w'.ownsRow 0 29 1 v Z.length (Z'.map Prod.fst)∧w.grownBy w' v.ownBlock:=by
 rcases hown.2 with ⟨rfl,h0⟩ | ⟨g,cap,cur,rfl,hbase,hb,e1,e2,e3,e4⟩
 ·have hz:Z=[]:=List.eq_nil_of_length_eq_zero h0;subst hz;exact (Tryz.slices_SortFunc_none (α:=Nat) none 0 _ w).mono fun e w' ⟨he,hw⟩=>by
   subst hw;exact ⟨he,[],List.Perm.refl _,List.Pairwise.nil,hown,World.grownBy.refl _ _⟩
 ·by_cases hz:Z=[]
  ·subst hz;exact (Tryz.slices_SortFunc_none (α:=Nat) (some ⟨g,0,none⟩) cap _ w).mono fun e w' ⟨he,hw⟩=>by
    subst hw;exact ⟨he,[],List.Perm.refl _,List.Pairwise.nil,hown,World.grownBy.refl _ _⟩
  ·obtain ⟨z0,hz0⟩:=List.exists_mem_of_ne_nil Z hz
   let α:={ z:Value × List Int // z∈Z }
   have:Inhabited α:=⟨⟨z0,hz0⟩⟩
   let enc:α→Value:=fun z=>z.1.1
   let cf:α→α→Int:=fun x y=>hdI x.1.2-hdI y.1.2
   have hlen:Z.attach.length=Z.length:=List.length_attach;have hmap:Z.attach.map enc=Z.map Prod.fst:=by
    have e:Z.attach.map enc=(Z.attach.map Subtype.val).map Prod.fst:=by rw [List.map_map]; rfl
    rw [e,List.attach_map_subtype_val]
   have hH:Holds enc w g 0 Z.attach.toArray:=zEt hb (by rw [hlen,hmap]; simpa using e4);have hgl:g<w.heap.size:=(Array.getElem?_eq_some_iff.1 hb).1;have h1:OneCell enc:=fun z=>by obtain ⟨_,_,e⟩:=(hr z.1 z.2).form; show z.1.1.oneCell'=true; rw [e]; rfl
   have hO:SWO (ltOf cf):=zRX (fun z:α=>hdI z.1.2);have eg:∀args w,(callFunc 36 args).run Tryz.prog w=.ok (.enter 36 args) w:=enters_of Tryz.func36 (by kernel_rfl) rfl;have hcmp:CmpReads Tryz.prog 36 #[] enc cf g 0 Z.attach.toArray.size w:=fun m os dk _ x y=>by
    have hk:∀z:α,RI (fun b=>b≠g) (sortWorld enc w g 0 m dk os) z.1.1 z.1.2:=fun z =>
     RI.keep (RI.mono (hr z.1 z.2) (fun b hb e=>hb (by rw [e]; rfl))) (fun b hb hl=>(zC4 (enc:=enc) (n:=m) (os:=os) dk).block b hl (fun e=>hb (by simpa using e)))
    have hc:=zMQ (hk x) (hk y) (hn x.1 x.2).1 (hn y.1 y.2).1 (hn x.1 x.2).2 (hn y.1 y.2).2;have hc2:Calls Tryz.prog 36 (#[enc x,enc y] ++ #[]) (sortWorld enc w g 0 m dk os) fun e w'=>e=.returned (.int .i64 (cf x y))∧∃k,w'=(sortWorld enc w g 0 m dk os).drewN k:=hc;refine hc2.mono ?_;rintro e w' ⟨he,k,hw⟩;exact ⟨he,k,hw⟩
   have hs:=Tryz.slices_SortFunc enc h1 cf hO 36 #[] g 0 cap Z.attach.toArray w eg hcmp.lays hH hgl (by simp; omega);simp only [List.size_toArray,hlen] at hs;refine hs.mono ?_;rintro e w' ⟨rfl,d',m,os,hp,hsrt,rfl⟩;have hd:d'.size=Z.length:=by rw [hp.1]; exact hlen
   have hperm:d'.toList.Perm Z.attach:=by
    have h9:=hp.2.2;simp only [Array.toList_extract] at h9;have t1:List.extract d'.toList 0 Z.length=d'.toList:=by
     simp only [List.extract,Nat.sub_zero,List.drop_zero];exact List.take_of_length_le (by rw [<-hd]; simp)
    have t2:List.extract Z.attach 0 Z.length=Z.attach:=by
     simp only [List.extract,Nat.sub_zero,List.drop_zero];rw [<-hlen,List.take_length]
    rw [t1] at h9;exact h9.trans (by rw [t2])
   have hts:d'.toList.length=Z.attach.length:=by rw [hlen]; simpa using hd
   refine ⟨rfl,d'.toList.map Subtype.val,?_,?_,?_,?_⟩
   ·have:=hperm.map Subtype.val;rwa [List.attach_map_subtype_val] at this
   ·rw [List.map_map,List.pairwise_map,List.pairwise_iff_getElem];intro i j hi hj hij;have:=hsrt i j (Nat.zero_le _) hij (by rw [<-hd]; simpa using hj);unfold ltOf at this;have e5:=of_decide_eq_false this;have hi':i<d'.size:=by simpa using hi
    have hj':j<d'.size:=by simpa using hj
    rw [getElem!_pos d' i hi',getElem!_pos d' j hj'] at e5;have e5:¬(hdI d'[j].1.2-hdI d'[i].1.2<0):=e5;have e6:hdI d'[i].1.2≤hdI d'[j].1.2:=by omega
    simpa using e6
   ·have:=zF2 (enc:=enc) (n:=m) (os:=os) (ts:=d'.toList) (ss:=Z.attach) hts hbase hb (by rw [hlen]; exact e1) e2 e3;rw [hlen] at this;have e6:(d'.toList.map Subtype.val).map Prod.fst=d'.toList.map enc:=by rw [List.map_map]; rfl
    rw [e6];exact this
   ·exact zC4 _
theorem HSx.sortRowsH {A:Nat→Prop} {w0 w:World} {Ps:List zAI} {v:Value} {Z:Zl} (h:HSx A w0 w Ps) (i j:Nat) (hij:i≠j) (hi:Ps[i]? = some (aV 29 v (Z.map Prod.fst))) (hj:Ps[j]? = some (aRs Z)) (hnew:∀b,v.ownBlock=some b→w0.heap.size≤b)
  (hn:∀z∈Z,0<z.2.length∧0≤hdI z.2∧hdI z.2≤1000) (hl:Z.length≤67108864) :
  Calls Tryz.prog 35 #[v,.func (.func 36) #[] #[]] w fun e w'=>e=.returned (.tuple #[]) ∧
   ∃Z':Zl,Z'.Perm Z∧(Z'.map Prod.snd).Pairwise (fun a b=>¬hdI b<hdI a)∧HSx A w0 w' ((Ps.set i (aV 29 v (Z'.map Prod.fst))).set j (aRs Z')):=by
 obtain ⟨F,hF,_⟩:=HSx.get h i hi;obtain ⟨G,hG,_⟩:=HSx.get h j hj;have hlz:(Z.map Prod.fst).length=Z.length:=by simp
 have hown:=hF.1;rw [hlz] at hown;refine (zLl hown (fun z hz=>?_) hn hl).mono ?_
 ·cases hv:v.ownBlock with
  | none=>exact RI.mono (hG.1 z hz).reads (fun b _=>by simp)
  | some B=>exact RI.mono ((hG.1 z hz).reads.off (zA1 hown hv)) (fun b hb e=>hb.2 (by simpa using e.symm))
 ·rintro e w' ⟨rfl,Z',hp,hs,ho,hg⟩;refine ⟨rfl,Z',hp,hs,?_⟩;have h2:=h.upd i hi (st_V 29 v (Z'.map Prod.fst)) (zBA h.bl hg hnew) hg.size fun F hF _=>⟨F,⟨by rw [show (Z'.map Prod.fst).length=Z.length by rw [List.length_map,hp.length_eq]]; exact ho,hF.2⟩,fun b hb=>.inl hb,fun b hl hb=>hg.block b hl (fun e=>hb (hF.2 b e.symm))⟩;exact h2.permS j (by rw [List.getElem?_set_ne hij]; exact hj) hp
end Go.Proofs.YtlgcdacpjcnjgaaGreatDoor
namespace Go.Proofs.YtlgcdacpjcnjgaaGreatDoor
open Go.RowKit
set_option maxRecDepth 20000
set_option maxHeartbeats 8000000
def mixR (inv:Nat→Nat) (l:List Nat) (k:Nat):List Int:=iN ((l.take k).map inv++l.drop k)
theorem zSY (inv:Nat→Nat) (l:List Nat):mixR inv l 0=iN l:=by simp [mixR]
theorem zO1 (inv:Nat→Nat) (l:List Nat) {k:Nat} (hk:l.length≤k):mixR inv l k=iL (l.map inv):=by
 unfold mixR; rw [List.take_of_length_le hk,List.drop_eq_nil_of_le hk,List.append_nil]; rfl
theorem zEJ (inv:Nat→Nat) (l:List Nat) (k:Nat):(mixR inv l k).length=l.length:=by simp [mixR,iN]; omega
theorem zQv (inv:Nat→Nat) {l:List Nat} {k y:Nat} (hy:l[k]? = some y):(mixR inv l k)[k]? = some (y:Int):=by
 have hk:k<l.length:=(zTG hy).1;unfold mixR iN;rw [List.getElem?_map,List.getElem?_append_right (by simp; omega)];have:k-((l.take k).map inv).length=0:=by simp; omega
 rw [this,List.getElem?_drop,Nat.add_zero,hy];rfl
theorem zMq (inv:Nat→Nat) {l:List Nat} {k y:Nat} (hy:l[k]? = some y):(mixR inv l k).set k ((inv y:Nat):Int)=mixR inv l (k+1):=by
 have hk:k<l.length:=(zTG hy).1;refine List.ext_getElem? fun j=>?_;rw [List.getElem?_set];have h1:=zEJ inv l k;split
 ·rename_i e
  subst e;rw [if_pos (by omega)];unfold mixR iN;rw [List.getElem?_map,List.getElem?_append_left (by simp; omega),List.getElem?_map,List.getElem?_take_of_lt (by omega),hy];rfl
 ·rename_i e
  unfold mixR iN;simp only [List.getElem?_map];congr 1;rcases Nat.lt_or_ge j k with h | h
  ·rw [List.getElem?_append_left (by simp; omega),List.getElem?_append_left (by simp; omega),List.getElem?_map,List.getElem?_map,List.getElem?_take_of_lt h,List.getElem?_take_of_lt (by omega)]
  ·rw [List.getElem?_append_right (by simp; omega),List.getElem?_append_right (by simp; omega),List.getElem?_drop,List.getElem?_drop];simp only [List.length_map,List.length_take];congr 1;omega
def mixC (inv:Nat→Nat) (C:List (List Nat)) (i:Nat):List (List Int):=((C.take i).map fun l=>iN (srtN (l.map inv)))++(C.drop i).map iN
theorem zQt (inv:Nat→Nat) {C:List (List Nat)} {i:Nat} {l:List Nat} (hl:C[i]? = some l):(mixC inv C i)[i]? = some (iN l):=by
 have hk:i<C.length:=(zTG hl).1;unfold mixC;rw [List.getElem?_append_right (by simp; omega)];have:i-((C.take i).map fun l=>iN (srtN (l.map inv))).length=0:=by simp; omega
 rw [this,List.getElem?_map,List.getElem?_drop,Nat.add_zero,hl];rfl
theorem zO0 (inv:Nat→Nat) (C:List (List Nat)) (i:Nat):(mixC inv C i).length=C.length:=by simp [mixC]; omega
theorem zMp (inv:Nat→Nat) {C:List (List Nat)} {i:Nat} {l:List Nat} (hl:C[i]? = some l):(mixC inv C i).set i (iL (srtN (l.map inv)))=mixC inv C (i+1):=by
 have hk:i<C.length:=(zTG hl).1;refine List.ext_getElem? fun j=>?_;rw [List.getElem?_set];have h1:=zO0 inv C i;split
 ·rename_i e
  subst e;rw [if_pos (by omega)];unfold mixC;rw [List.getElem?_append_left (by simp; omega),List.getElem?_map,List.getElem?_take_of_lt (by omega),hl];rfl
 ·rename_i e
  unfold mixC;rcases Nat.lt_or_ge j i with h | h
  ·rw [List.getElem?_append_left (by simp; omega),List.getElem?_append_left (by simp; omega),List.getElem?_map,List.getElem?_map,List.getElem?_take_of_lt h,List.getElem?_take_of_lt (by omega)]
  ·rw [List.getElem?_append_right (by simp; omega),List.getElem?_append_right (by simp; omega),List.getElem?_map,List.getElem?_map,List.getElem?_drop,List.getElem?_drop];simp only [List.length_map,List.length_take];congr 2;omega
theorem zPV {Z:Zl} {i:Nat} {x y:Value × List Int} (hx:Z[i]? = some y):(Z.set i x).Perm (x::Z.eraseIdx i):=by
 have hi:i<Z.length:=(zTG hx).1;have h1:Z.set i x=Z.take i++x::Z.drop (i+1):=List.set_eq_take_append_cons_drop.trans (if_pos hi);rw [h1,List.eraseIdx_eq_take_drop_succ];exact List.perm_middle
theorem zRO (Z:Zl) (i:Nat) (r:Value) (l:List Int):(Z.set i (r,l)).map Prod.snd=(Z.map Prod.snd).set i l:=by rw [List.map_set]
theorem zPU {Z:Zl} {i:Nat} {r:Value} {l l':List Int} (hz:Z[i]? = some (r,l)):(Z.set i (r,l')).map Prod.fst=Z.map Prod.fst:=by
 rw [List.map_set];refine List.ext_getElem? fun j=>?_;rw [List.getElem?_set];split
 ·rename_i e
  subst e;have hi:i<Z.length:=(zTG hz).1;rw [if_pos (by simpa using hi),List.getElem?_map,hz];rfl
 ·rfl
theorem zMS (l:List Nat):(iN l).map Int.toNat=l:=by unfold iN; rw [List.map_map]; exact (List.map_congr_left (fun _ _=>rfl)).trans (List.map_id l)
theorem zIo (l:List Nat):hdI (iN l)=(hdN l:Int):=by
 unfold hdI hdN iN;rw [List.getElem?_map];cases l[0]? <;> rfl
theorem zSg {m:Nat→Nat→Bool} {N:Nat} {inv:Nat→Nat} (h:EqvB N m) (hi:InvOk N inv) {X:List (List Int)} (hp:X.Perm (mixC inv (celS m N N) (celS m N N).length)) (hs:X.Pairwise (fun a b=>¬hdI b<hdI a)):X=(rcS m N inv N).map iN:=by
 have e:mixC inv (celS m N N) (celS m N N).length=((celS m N N).map fun l=>srtN (l.map inv)).map iN:=by
  unfold mixC;rw [List.take_length,List.drop_length,List.map_nil,List.append_nil,List.map_map];rfl
 rw [e] at hp;have hX:X=(X.map fun l=>l.map Int.toNat).map iN:=by
  rw [List.map_map];refine (List.map_id X).symm.trans (List.map_congr_left fun x hx=>?_);obtain ⟨y,_,rfl⟩:=List.mem_map.1 (hp.mem_iff.1 hx);show iN y=iN ((iN y).map Int.toNat);rw [zMS]
 have hA:(X.map fun l=>l.map Int.toNat).Perm ((celS m N N).map fun l=>srtN (l.map inv)):=by
  have:=hp.map fun l:List Int=>l.map Int.toNat;rw [List.map_map (f:=iN)] at this;refine this.trans (List.Perm.of_eq ?_);refine (List.map_congr_left fun x _=>?_).trans (List.map_id _);exact zMS x
 have hS:(X.map fun l=>l.map Int.toNat).Pairwise (fun a b=>¬hdN b<hdN a):=by
  rw [hX,List.pairwise_map] at hs;refine hs.imp fun {a b} h=>?_;rw [zIo,zIo] at h;omega
 rw [<-zRH h hi hA hS];exact hX
theorem zIZ {m:Nat→Nat→Bool} {N:Nat} {l:List Nat} (hl:l∈celS m N N):0<l.length∧l.length≤N∧∀y∈l,y<N:=by
 obtain ⟨k,_,h2,h3⟩:=zBP.1 hl;refine ⟨(zTG h3).1,by rw [h2]; exact zBy m N k,fun y hy=>?_⟩;rw [h2] at hy;exact (zBD.1 hy).1
theorem zQu {m:Nat→Nat→Bool} {N:Nat} {inv:Nat→Nat} (hi:InvOk N inv) (hN:N≤24) {x:List Int} (hx:x∈mixC inv (celS m N N) (celS m N N).length):0<x.length∧0≤hdI x∧hdI x≤1000:=by
 unfold mixC at hx;rw [List.take_length,List.drop_length,List.map_nil,List.append_nil] at hx;obtain ⟨l,hl,rfl⟩:=List.mem_map.1 hx;obtain ⟨h1,h2,h3⟩:=zIZ hl;have hlen:(srtN (l.map inv)).length=l.length:=by rw [(zBN _).length_eq,List.length_map]
 refine ⟨by unfold iN; rw [List.length_map,hlen]; exact h1,?_⟩;rw [zIo];have h0:0<(srtN (l.map inv)).length:=by omega
 have hm:hdN (srtN (l.map inv))∈srtN (l.map inv):=by
  unfold hdN;rw [zTE h0];exact List.getElem_mem h0
 rw [(zBN _).mem_iff,List.mem_map] at hm;obtain ⟨y,hy,e⟩:=hm;have:=hi.lt y (h3 y hy);omega
theorem zSe {S:Nat→Prop} {x:Value} {c:List (List Int)} {w:World} (h:RII S w x c) (hl:total c≤16777216) (hm:HasM w) :
  Calls Tryz.prog 8 #[x] w fun e w'=>∃r,e=.returned (.tuple #[r,.bool (okK c)])∧FII (New w w') w' r (rcR c)∧Below w.heap.size w w':=by
 have mixed:Tryz.prog.follows .mixedOrders=true:=by kernel_rfl
 have hlc:=zMh h hl hm;have HELs:=zTD (fun (wv:World) (hb:Below w.heap.size w wv)=>zDV (h.below hb) (hm.below hb) hl);cases hk:okK c with
 | false =>
  have HR:Hid (rcR c=[]):=zTD (by unfold rcR; rw [hk]; rfl);rw [hk] at hlc;obtain ⟨aa,ca,rfl⟩:=h.form;clear hk HELs h hm;go_enter Tryz.func8,Tryz.ntmps8
  go_wp2_with fail
  refine hlc.mono ?_;rintro e w2 ⟨p,rfl,_,b2⟩;obtain ⟨w3,hw3⟩:∃w3,w3=w2.alloc (.cells #[] 29):=⟨_,rfl⟩;have hs2:=(zAj (HS.nil b2) hw3).add (Below.refl _ _) (zA7 []) (F:=NoB) ⟨fun x hx=>by simp at hx,List.Pairwise.nil⟩ (fun b hb=>hb.elim);have hs2:HS w w3 [aV 29 (.slice (some ⟨w2.heap.size,0,none⟩) 0 0) (([]:Zl).map Prod.fst),aRs []]:=hs2;have hs7:HS w w3 [aF (.slice (some ⟨w2.heap.size,0,none⟩) 0 0) (([]:Zl).map Prod.snd)]:=((HSx.shutF hs2 (Z:=[]) (v:=.slice (some ⟨w2.heap.size,0,none⟩) 0 0) 0 1 (by decide) rfl rfl).pick [0] (by decide));have hfa:=HS.F hs7 0 rfl;have hbl:=hs7.bl;subst hw3;clear hlc hs2 hs7;go_wp2_with fail
  go_ret2
  exact ⟨_,rfl,by rw [HR.out]; exact hfa,hbl⟩
 | true =>
  have K:=KlOk.of hk;have hok:=(zBl hk).2.2.2.2;have hc:=K.cart;have HRL:Hid (lcR c=(celS (mutC c) (elL c).length (elL c).length).map iN):=zTD (by unfold lcR; rw [if_pos hk]);have HRC:Hid (rcR c=(rcS (mutC c) (elL c).length (invP c) (elL c).length).map iN):=zTD (by unfold rcR; rw [if_pos hk]);have HRE:Hid (elR c=elL c):=zTD (by unfold elR; rw [hok]; rfl);have hfew:=K.few;have HIO:=zTD (zPs K);have HEQ:Hid (EqvB (elL c).length (mutC c)):=zTD (zEK (fun q _=>zC7 (zGr hk) q));have HND:=zTD K.nod;have HOW:=zTD (fun (x:List Int) (hx:x∈elL c)=>(⟨zGc ((K.nf x).1 hx) hc.le,by have:=((K.nf x).1 hx).le; omega⟩:OkW x∧x.length≤100))
  have HIW:=zTD (fun (y:Nat) (hy:y<(elL c).length) (x:List Int) (hx:(elL c)[y]? = some x)=>(show x.length≤24∧Lets c.length x.reverse∧OkW (zAD c x.reverse)∧(zAD c x.reverse).length≤24∧ixF (elL c) (elL c).length (zAD c x.reverse)=.int .i64 (invP c y) from by
   obtain ⟨x',h1,h2,h3,h4,h5,_⟩:=zEH K hy;rw [hx] at h1;cases h1;refine ⟨h2.le,zAb h2.lets,zGc h4 hc.le,h4.le,?_⟩;unfold ixF invP;rw [List.take_of_length_le (zTI _),if_pos (zTF h5),h3]))
  have HRD:=zTD (fun (wv:World) (S9:Nat→Prop) (vv:Value) (x:List Int) (hx:Lets c.length x) (h30:x.length≤24) (hb:Below w.heap.size w wv) (hv:RI S9 wv vv x)=>zFm (h.below hb) hv hc hx (by omega));rw [hk] at hlc;rw [hok,HRE.out] at HELs;rw [HRL.out] at hlc;obtain ⟨aa,ca,rfl⟩:=h.form;generalize rcR c=res at *;generalize mutC c=mm at *;generalize invP c=inv at *;generalize c.length=n at *;clear hk hok hc K h hm HRL HRE;generalize elL c=E at *;generalize hN:E.length=N at *;have HCM:=zTD (fun (l:List Nat) (hl:l∈celS mm N N)=>zIZ hl);have HCL:=zTD (zCi mm N N);have HEND:=zTD (fun (X:List (List Int)) (hp:X.Perm (mixC inv (celS mm N N) (celS mm N N).length)) (hs:X.Pairwise (fun a b=>¬hdI b<hdI a))=>zSg HEQ.out HIO.out hp hs)
  have HHD:=zTD (fun (x:List Int) (hx:x∈mixC inv (celS mm N N) (celS mm N N).length)=>zQu HIO.out hfew hx);rw [<-HRC.out] at HEND;have HEN:=zTD hN;clear hN HEQ HIO HRC;generalize celS mm N N=C at *;generalize hM:C.length=M at *;have HMC:=zTD hM;have hM24:M≤24:=by have:=HCL.out; omega
  clear hM HCL;go_enter Tryz.func8,Tryz.ntmps8
  go_wp2_with fail
  refine hlc.mono ?_;rintro e w2 ⟨vc,rfl,f2,b2⟩;have hs2:=HSx.addF (HS.nil (Below.refl _ w)) b2 f2;have hs2:HS w w2 [aF vc (C.map iN)]:=hs2;obtain ⟨Z,hZ,hs3⟩:=HSx.openF hs2 0 rfl;have hs3:HS w w2 [aV 29 vc (Z.map Prod.fst),aRs Z]:=hs3;have hZM:Z.length=M:=by have:=congrArg List.length hZ; simp only [List.length_map] at this; rw [this]; exact HMC.out
  obtain ⟨⟨av,cv,e1⟩,_⟩:=HSx.formV hs3 0 rfl;rw [List.length_map,hZM] at e1;subst e1;have hel:=HELs.out w2 hs3.bl;clear hlc f2 b2 hs2 HELs;go_wp2_with fail
  refine hel.mono ?_;rintro e w4 ⟨ve,rfl,f4,b4⟩;have hs4:=HSx.addF hs3 b4 f4;have hpl:=zEP f4.any HND.out (fun x hx=>HOW.out x hx) (by rw [HEN.out]; omega);obtain ⟨ae,ce,rfl⟩:=f4.read.form;rw [HEN.out] at hpl;have hs4:HS w w4 [aV 29 (.slice av M cv) (Z.map Prod.fst),aRs Z,aF (.slice ae E.length ce) E]:=hs4;rw [HEN.out] at hs4 ⊢;clear hel hs3 f4 b4;go_wp2_with fail
  refine hpl.mono ?_;rintro e w5 ⟨mb,rfl,hsm⟩;obtain ⟨F3,hF3,hN3⟩:=HSx.get hsm 0 rfl;have hs5:=HSx.add hs4 hsm.bl (st_M _ _ _ _) hF3 (fun b hb=>⟨(hN3 b hb).1.elim (fun h=>h.elim) id,(hN3 b hb).2⟩);have hs5:HS w w5 [aV 29 (.slice av M cv) (Z.map Prod.fst),aRs Z,aF (.slice ae N ce) E,aM (.int .i64 0) mb N (ixF E N)]:=hs5;have HZ0:Hid (Z.map Prod.snd=mixC inv C 0):=zTD (by rw [hZ]; simp [mixC]);have HZM:=zTD hZM;clear hpl hs4 hsm hF3 hN3 hZ hZM;go_wp2_with fail
  go_loopw [30] (fun ii wr=>∃(i:Nat) (Z:Zl),i≤M∧ii=.int .i64 i∧HS w wr [aV 29 (.slice av M cv) (Z.map Prod.fst),aRs Z,aF (.slice ae N ce) E,aM (.int .i64 0) mb N (ixF E N)]∧Hid (Z.map Prod.snd=mixC inv C i)∧Hid (Z.length=M)) (fun ii _=>M-(intOf ii).toNat)
  case atStart=>exact ⟨0,Z,Nat.zero_le _,rfl,hs5,HZ0,HZM⟩
  case round =>
   clear hs5 HZ0 HZM;obtain ⟨i,Z,hiM,rfl,hs,HZ,HZM⟩:=hrel;by_cases hi:i<M
   ·have i1:(i:Int)<(M:Int):=by omega
    have i0:(0:Int)≤(i:Int):=by omega
    obtain ⟨l,hl⟩:∃l,C[i]? = some l:=⟨_,zTE (by rw [HMC.out]; exact hi)⟩;obtain ⟨q1,q2,q3⟩:=HCM.out l (zTF hl);have HQ3:=zTD q3;have HMS:=zTD (zMp inv hl);obtain ⟨⟨r,l'⟩,hz⟩:∃z,Z[i]? = some z:=⟨_,zTE (by rw [HZM.out]; exact hi)⟩;have hl':l'=iN l:=by
     have h1:=zQt inv hl;rw [<-HZ.out,List.getElem?_map,hz] at h1;simpa using h1
    subst hl';have HZI:=zTD hz;obtain ⟨gv,cv',e1⟩:=(HSx.formV hs 0 rfl).2 (by rw [List.length_map,HZM.out]; omega);rw [List.length_map,HZM.out] at e1;simp only [Value.slice.injEq,true_and] at e1;obtain ⟨e1,e2⟩:=e1;subst e1 e2;have hcv:=(HSx.cellV hs 0 rfl (j:=i) (r:=r) (by rw [List.getElem?_map,hz]; rfl)).1;have hs6:=HSx.lessS hs 1 rfl hz;have hs6:HS w wr [aV 29 (.slice (some ⟨gv,0,none⟩) M cv) (Z.map Prod.fst),aRs (Z.eraseIdx i),aF (.slice ae N ce) E,aM (.int .i64 0) mb N (ixF E N),aI r (mixR inv l 0)]:=by rw [zSY]; exact hs6
    obtain ⟨gr,cr,er,_,_⟩:=HS.headI hs6 4 rfl (by rw [zEJ]; exact q1);rw [zEJ] at er;obtain ⟨ln,hln⟩:∃ln,l.length=ln:=⟨_,rfl⟩;rw [hln] at er q1 q2;subst er;have HLN:=zTD hln;have HML:Hid (∀k,(mixR inv l k).length=ln):=zTD (fun k=>by rw [zEJ]; exact HLN.out);have HAT:Hid (∀k,k<ln→∃y,l[k]? = some y∧y<N):=zTD (fun k hk=>⟨_,zTE (by rw [HLN.out]; exact hk),HQ3.out _ (List.getElem_mem _)⟩);have HME:Hid (mixR inv l ln=iL (l.map inv)):=zTD (zO1 inv l (by rw [HLN.out]; exact zTI _));have HMA:Hid (∀(k y:Nat),l[k]? = some y→(mixR inv l k)[k]? = some (y:Int)):=zTD (fun k y hy=>zQv inv hy);have HMT:Hid (∀(k y:Nat),l[k]? = some y→(mixR inv l k).set k ((inv y:Nat):Int)=mixR inv l (k+1)):=zTD (fun k y hy=>zMq inv hy);clear hs hl q3 hz hln;go_wp2_with fail
    clear hcv;go_loopw [36] (fun kk wr=>∃(k:Nat),k≤ln∧kk=.int .i64 k∧HS w wr [aV 29 (.slice (some ⟨gv,0,none⟩) M cv) (Z.map Prod.fst),aRs (Z.eraseIdx i),aF (.slice ae N ce) E,aM (.int .i64 0) mb N (ixF E N),aI (.slice (some ⟨gr,0,none⟩) ln cr) (mixR inv l k)]) (fun kk _=>ln-(intOf kk).toNat)
    case atStart=>exact ⟨0,Nat.zero_le _,rfl,hs6⟩
    case round =>
     clear hs6;obtain ⟨k,hkl,rfl,hs⟩:=hrel;by_cases hk:k<ln
     ·have j1:(k:Int)<(ln:Int):=by omega
      have j0:(0:Int)≤(k:Int):=by omega
      obtain ⟨y,hy,hyN⟩:=HAT.out k hk;have y1:(y:Int)<(N:Int):=by omega
      have y0:(0:Int)≤(y:Int):=by omega
      have hck:=(HS.cellI hs 4 rfl (HML.out k) (HMA.out k y hy)).1;obtain ⟨be,oe,re,x,rfl,hce,hre,hxx⟩:=RII.at (HS.F hs 2 rfl).read hyN;obtain ⟨x24,xl,xok,xn,xi⟩:=HIW.out y hyN x hxx.out;have HT:=zTD (HMT.out k y hy);have HA:=zTD (HMA.out k y hy);have hrev:=zDn hre (by omega);have HXI:=zTD xi;have HXL:=zTD xl;have HXO:=zTD xok;clear hxx hy xi xl xok hre;go_wp2_with fail
      refine hrev.mono ?_;rintro e w6 ⟨r6,rfl,f6,b6⟩;have hs6:=HSx.below hs b6;have hrd:=HRD.out w6 _ r6 x.reverse HXL.out (by rw [List.length_reverse]; exact x24) hs6.bl f6.reads;clear hrev hs b6 f6 hck hce;go_wp2_with fail
      refine hrd.mono ?_;rintro e w7 ⟨r7,rfl,f7,b7⟩;have hs7:=HSx.below hs6 b7;have hfw:=zCn f7.reads HXO.out.inL (by omega);clear hrd hs6 b7 f7;generalize zAD c x.reverse=p at *;go_wp2_with fail
      refine hfw.mono ?_;rintro e w8 ⟨rfl,b8⟩;have hs8:=HSx.below hs7 b8;obtain ⟨d1,d2⟩:=HS.cellI hs8 4 rfl (HML.out k) HA.out;have HPN:Hid (p.length≤1048576):=zTD (by omega);have hs9:=HS.putI hs8 4 rfl (HML.out k) k ((inv y:Nat):Int);rw [HT.out] at hs9;have hs9:HS w (w8.setCell ⟨gr,k,none⟩ (.int .i64 ((inv y:Nat):Int))) [aV 29 (.slice (some ⟨gv,0,none⟩) M cv) (Z.map Prod.fst),aRs (Z.eraseIdx i),aF (.slice (some ⟨be,oe,none⟩) N ce) E,aM (.int .i64 0) mb N (ixF E N),aI (.slice (some ⟨gr,0,none⟩) ln cr) (mixR inv l (k+1))]:=hs9;clear hfw hs7 b8;generalize inv y=z at *;go_wp2_with ((refine zFM rfl _ _ rfl rfl hs8 3 rfl Tryz.underlying49 zEb HXO.out HPN.out rfl ?_); rw [HXI.out])
      clear hs8 d1 d2;go_roundw
      case rel=>exact ⟨k+1,by omega,by go_num,hs9⟩
      case measure=>simp [intOf]; omega
     ·have j1:¬(k:Int)<(ln:Int):=by omega
      have hkl2:k=ln:=by omega
      rw [hkl2,HME.out] at hs;clear hkl2;have hLL:(iL (l.map inv)).length≤16777216:=by rw [<-HME.out,HML.out]; omega
      obtain ⟨F5,hF5,hN5⟩:=HS.get hs 4 rfl;have hsrt:=zJY hF5 hLL;rw [zKz] at hsrt;have HS0:=zTD hs;clear hs hLL;go_wp2_with fail
      refine hsrt.mono ?_;rintro e w8 ⟨rfl,f8,g8⟩;have hs8:=HSx.upd HS0.out 4 rfl (st_I (.slice (some ⟨gr,0,none⟩) ln cr) (iL (srtN (l.map inv)))) (zBA HS0.out.bl g8 (fun b hb=>(hN5 b (hF5.2 b hb)).1)) g8.size fun F hF _=>⟨F,⟨f8.1,hF.2⟩,fun b hb=>.inl hb,fun b hl hb=>g8.block b hl (fun e=>hb (hF.2 b e.symm))⟩;have hs9:=(HSx.moreS hs8 1 4 (by decide) rfl rfl (Z':=Z.set i (.slice (some ⟨gr,0,none⟩) ln cr,iL (srtN (l.map inv)))) (zPV HZI.out)).pick [0,1,2,3] (by decide);have hs9:HS w w8 [aV 29 (.slice (some ⟨gv,0,none⟩) M cv) ((Z.set i (.slice (some ⟨gr,0,none⟩) ln cr,iL (srtN (l.map inv)))).map Prod.fst),aRs (Z.set i (.slice (some ⟨gr,0,none⟩) ln cr,iL (srtN (l.map inv)))),aF (.slice ae N ce) E,aM (.int .i64 0) mb N (ixF E N)]:=by rw [zPU HZI.out]; exact hs9
      have HZ2:Hid ((Z.set i (.slice (some ⟨gr,0,none⟩) ln cr,iL (srtN (l.map inv)))).map Prod.snd=mixC inv C (i+1)):=zTD (by rw [zRO,HZ.out,HMS.out]);have HZM2:Hid ((Z.set i (.slice (some ⟨gr,0,none⟩) ln cr,iL (srtN (l.map inv)))).length=M):=zTD (by rw [List.length_set]; exact HZM.out);generalize Z.set i (.slice (some ⟨gr,0,none⟩) ln cr,iL (srtN (l.map inv)))=Z2 at *;clear hsrt hs8 f8 g8 hF5 hN5 HS0;go_wp2_with fail
      go_roundw
      case rel=>exact ⟨i+1,Z2,by omega,by go_num,hs9,HZ2,HZM2⟩
      case measure=>simp [intOf]; omega
   ·have i1:¬(i:Int)<(M:Int):=by omega
    have hiM2:i=M:=by omega
    rw [hiM2] at HZ;have hmem:∀z∈Z,z.2∈mixC inv C M:=fun z hz=>by rw [<-HZ.out]; exact List.mem_map.2 ⟨z,hz,rfl⟩
    have hsrt:=HSx.sortRowsH hs 0 1 (by decide) rfl rfl (HS.newV hs 0 rfl) (fun z hz=>HHD.out _ (hmem z hz)) (by rw [HZM.out]; omega);have HZE:=zTD HZ.out;clear hmem hs hiM2 HZ;go_wp2_with fail
    refine hsrt.mono ?_;rintro e w8 ⟨rfl,Z2,hp,hsd,hs8⟩;have hres:=HEND.out (Z2.map Prod.snd) (by rw [<-HZE.out]; exact hp.map _) hsd;have hs8:HS w w8 [aV 29 (.slice av M cv) (Z2.map Prod.fst),aRs Z2,aF (.slice ae N ce) E,aM (.int .i64 0) mb N (ixF E N)]:=hs8;have hs9:HS w w8 [aF (.slice av M cv) (Z2.map Prod.snd)]:=((HSx.shutF hs8 (Z:=Z2) (v:=.slice av M cv) 0 1 (by decide) rfl rfl).pick [0] (by decide));rw [hres] at hs9;have hfa:=HS.F hs9 0 rfl;have hbl:=hs9.bl;clear hsrt hs8 hs9 hp hsd hres;go_wp2_with fail
    go_ret2
    exact ⟨_,rfl,hfa,hbl⟩
theorem zIt {x:Nat}:∀{l:List Nat},l.Pairwise (·≤·)→x∉l→∃t,t≤l.length∧(∀(j y:Nat),l[j]? = some y→(j<t→y<x)∧(t≤j→x<y))∧insN x l=l.take t++x::l.drop t
 | [],_,_=>⟨0,zTI _,fun j y h=>by simp at h,rfl⟩
 | z::l,hs,hx=>by
  have hc:=List.pairwise_cons.1 hs;have hxz:x≠z:=fun e=>hx (by rw [e]; exact List.mem_cons_self ..);have hxl:x∉l:=fun h=>hx (List.mem_cons_of_mem _ h);unfold insN;by_cases h:x≤z
  ·rw [if_pos h];refine ⟨0,Nat.zero_le _,fun j y hy=>⟨fun h=>by omega,fun _=>?_⟩,rfl⟩;have hm:=zTF hy;rcases List.mem_cons.1 hm with e | e
   ·omega
   ·have:=hc.1 y e; omega
  ·rw [if_neg h];obtain ⟨t,h1,h2,h3⟩:=zIt hc.2 hxl;refine ⟨t+1,by simp; omega,fun j y hy=>?_,by rw [h3]; rfl⟩;cases j with
   | zero =>
    simp at hy;subst hy;exact ⟨fun _=>by omega,fun h=>by omega⟩
   | succ j =>
    obtain ⟨q1,q2⟩:=h2 j y (by simpa using hy);exact ⟨fun h=>q1 (by omega),fun h=>q2 (by omega)⟩
def oPut (l:List Nat) (x t i:Nat):List Nat:=if i≤t then l.take i else l.take t++x::(l.drop t).take (i-t)
theorem zPF (l:List Nat) (x t i:Nat):(oPut l x t i).length≤l.length+1:=by
 unfold oPut;split
 ·rw [List.length_take]; omega
 ·simp only [List.length_append,List.length_cons,List.length_take,List.length_drop]; omega
theorem zPG {l:List Nat} {x t i y:Nat} (hy:l[i]? = some y) (h:i<t):oPut l x t (i+1)=oPut l x t i++[y]:=by
 unfold oPut;rw [if_pos (by omega),if_pos (by omega),zAP hy]
theorem zQ7 {l:List Nat} {x t y:Nat} (hy:l[t]? = some y):oPut l x t (t+1)=(oPut l x t t++[x])++[y]:=by
 unfold oPut;rw [if_neg (by omega),if_pos (by omega),show t+1-t=0+1 by omega,zAP (L:=l.drop t) (k:=0) (x:=y) (by simpa using hy)];simp
theorem zM5 {l:List Nat} {x t i y:Nat} (hy:l[i]? = some y) (h:t<i):oPut l x t (i+1)=oPut l x t i++[y]:=by
 unfold oPut;rw [if_neg (by omega),if_neg (by omega),show i+1-t=(i-t)+1 by omega,zAP (L:=l.drop t) (k:=i-t) (x:=y) (by rw [List.getElem?_drop,show t+(i-t)=i by omega]; exact hy)];simp
theorem zIq (a b:List Nat):iN (a++b)=iN a++iN b:=by unfold iN; simp
theorem zPL {S:Nat→Prop} {v:Value} {l:List Nat} {x:Nat} {w:World} (h:RI S w v (iN l)) (hs:l.Pairwise (·≤·)) (hx:x∉l) (hl:l.length≤16777216) :
  Calls Tryz.prog 41 #[v,.int .i64 x] w fun e w'=>∃r,e=.returned r∧FI (New w w') w' r (iN (insN x l))∧Below w.heap.size w w':=by
 obtain ⟨t,ht,htl,hcut⟩:=zIt hs hx;have HCUT:=zTD hcut;have HTL:=zTD htl;have HLO:=zTD (fun (i y:Nat) (hy:l[i]? = some y) (h:i<t)=>zPG (x:=x) hy h);have HAT:=zTD (fun (y:Nat) (hy:l[t]? = some y)=>zQ7 (x:=x) hy);have HHI:=zTD (fun (i y:Nat) (hy:l[i]? = some y) (h:t<i)=>zM5 (x:=x) hy h);have HOL:=zTD (fun i=>zPF l x t i);obtain ⟨av,cv,rfl⟩:=h.form;have HH:=zTD h;have hil:(iN l).length=l.length:=by unfold iN; rw [List.length_map]
 rw [hil] at HH ⊢;generalize hn:l.length=n at *;have HN:=zTD hn;clear hn h hs hx hil hcut htl;obtain ⟨w1,hw1⟩:∃w1,w1=w.alloc (.cells #[] 3):=⟨_,rfl⟩;have hs1:=zBe (HS.nil (Below.refl _ w)) hw1;have hs1:HS w w1 [aI (.slice (some ⟨w.heap.size,0,none⟩) 0 0) (iN (oPut l x t 0))]:=by
  have e:oPut l x t 0=[]:=by unfold oPut; rw [if_pos (Nat.zero_le _)]; rfl
  rw [e]; exact hs1
 have HW1:=zTD hw1;have hd0:decide (t<0)=false:=by simp
 clear hw1;go_enter Tryz.func41,Tryz.ntmps41
 go_wp2_with fail
 rw [<-HW1.out];go_loopw [5,6,7] (fun oo pp ii wr=>∃(i:Nat) (vo:Value),vo=oo∧i≤n∧ii=.int .i64 i∧pp=.bool (decide (t<i))∧HS w wr [aI vo (iN (oPut l x t i))]) (fun _ _ ii _=>n-(intOf ii).toNat)
 case atStart=>exact ⟨0,_,rfl,Nat.zero_le _,rfl,by rw [hd0],hs1⟩
 case round =>
  clear hs1 hd0;obtain ⟨i,vo,rfl,hi,rfl,rfl,hs⟩:=hrel;have HLN:Hid ((iN (oPut l x t i)).length+2≤67108864):=zTD (by have:=HOL.out i; unfold iN; rw [List.length_map]; omega);by_cases hin:i<n
  ·have i1:(i:Int)<(n:Int):=by omega
   have i0:(0:Int)≤(i:Int):=by omega
   obtain ⟨y,hy⟩:∃y,l[i]? = some y:=⟨l[i]'(by rw [HN.out]; exact hin),zTE _⟩;obtain ⟨b,o,z,rfl,hc,hz⟩:=RI.at (HH.out.below hs.bl) hin;have ez:z=(y:Int):=by have h1:=hz.out; unfold iN at h1; rw [List.getElem?_map,hy] at h1; simpa using h1.symm
   subst ez;obtain ⟨q1,q2⟩:=HTL.out i y hy;clear hz;rcases Nat.lt_trichotomy i t with hlt | heq | hgt
   ·have hyx:=q1 hlt;have e0:((y:Int) == (x:Int))=false:=by rw [beq_eq_false_iff_ne]; omega
    have e1:¬(x:Int)<(y:Int):=by omega
    have e2:decide (t<i)=false:=by simp; omega
    have e3:decide (t<i+1)=false:=by simp; omega
    have HO:=zTD (HLO.out i y hy hlt);rw [e2];clear q1 q2 hy;obtain ⟨w2,hw2⟩:∃w2,w2=wr.alloc (.cells #[.int .i64 y] 3):=⟨_,rfl⟩;have hs2:=HSx.alloc hs (.cells #[.int .i64 y] 3);rw [<-hw2] at hs2;have hc2:w2.cell? ⟨wr.heap.size,0,none⟩=some (.int .i64 y):=by rw [hw2]; go_simp
    have HW2:=zTD hw2;clear hs hw2;go_wp2_with (at_builtin; go_must (rw [<-HW2.out]; refine zAd rfl _ _ rfl rfl hs2 0 rfl rfl hc2 (by have:=HLN.out; omega) ?_))
    intro v3 w3 hs3;have hs3:HS w w3 [aI v3 (iN (oPut l x t (i+1)))]:=by rw [HO.out,zIq]; exact hs3
    clear hs2 hc2 hc;go_wp2_with fail
    go_roundw
    case rel=>exact ⟨i+1,v3,rfl,by omega,by go_num,by rw [e3],hs3⟩
    case measure=>simp [intOf]; omega
   ·subst heq;have hyx:=q2 (zTI _);have e0:((y:Int) == (x:Int))=false:=by rw [beq_eq_false_iff_ne]; omega
    have e1:(x:Int)<(y:Int):=by omega
    have e2:decide (i<i)=false:=by simp
    have e3:decide (i<i+1)=true:=by simp
    have HO:=zTD (HAT.out y hy);rw [e2];clear q1 q2 hy;obtain ⟨w2,hw2⟩:∃w2,w2=wr.alloc (.cells #[.int .i64 x] 3):=⟨_,rfl⟩;have hs2:=HSx.alloc hs (.cells #[.int .i64 x] 3);rw [<-hw2] at hs2;have hc2:w2.cell? ⟨wr.heap.size,0,none⟩=some (.int .i64 x):=by rw [hw2]; go_simp
    have HW2:=zTD hw2;clear hs hw2;go_wp2_with (at_builtin; go_must (rw [<-HW2.out]; refine zAd rfl _ _ rfl rfl hs2 0 rfl rfl hc2 (by have:=HLN.out; omega) ?_))
    intro v3 w3 hs3;have hs3:HS w w3 [aI v3 (iN (oPut l x i i)++[(x:Int)])]:=hs3;obtain ⟨b4,o4,z4,e4,hc4,hz4⟩:=RI.at (HH.out.below hs3.bl) hin;simp only [Option.some.injEq,Addr.mk.injEq,and_true] at e4;obtain ⟨e5,e6⟩:=e4;subst e5 e6;have ez:z4=(y:Int):=by
     have h1:=hz4.out;have h2:=(RI.at (HH.out.below hs2.bl) hin);obtain ⟨_,_,z5,e7,hc5,hz5⟩:=h2;simp only [Option.some.injEq,Addr.mk.injEq,and_true] at e7;obtain ⟨e8,e9⟩:=e7;subst e8 e9;have h3:z4=z5:=by rw [hz5.out] at h1; simpa using h1.symm
     have hb2:Below wr.heap.size wr w2:=by rw [HW2.out]; exact (Below.refl _ wr).alloc (zTI _) _
     have h4:=(hb2.cell (p:=⟨b,o+i,none⟩) (zTH _ _ hc)).trans hc;rw [hc5] at h4;simp only [Option.some.injEq,Value.int.injEq,true_and] at h4;omega
    subst ez;obtain ⟨w4,hw4⟩:∃w4,w4=w3.alloc (.cells #[.int .i64 y] 3):=⟨_,rfl⟩;have hs4:=HSx.alloc hs3 (.cells #[.int .i64 y] 3);rw [<-hw4] at hs4;have hc6:w4.cell? ⟨w3.heap.size,0,none⟩=some (.int .i64 y):=by rw [hw4]; go_simp
    have HW4:=zTD hw4;have HLN2:Hid ((iN (oPut l x i i)++[(x:Int)]).length+1≤67108864):=zTD (by have:=HLN.out; rw [List.length_append]; simp; omega);clear hs2 hc2 hs3 hw4 hz4 hc;go_wp2_with (at_builtin; go_must (rw [<-HW4.out]; refine zAd rfl _ _ rfl rfl hs4 0 rfl rfl hc6 HLN2.out ?_))
    intro v5 w5 hs5;have hs5:HS w w5 [aI v5 (iN (oPut l x i (i+1)))]:=by rw [HO.out,show iN ((oPut l x i i++[x])++[y])=iN (oPut l x i i)++[(x:Int),(y:Int)] by simp [iN]]; exact hs5
    clear hs4 hc6 hc4;go_wp2_with fail
    go_roundw
    case rel=>exact ⟨i+1,v5,rfl,by omega,by go_num,by rw [e3],hs5⟩
    case measure=>simp [intOf]; omega
   ·have hyx:=q2 (by omega);have e0:((y:Int) == (x:Int))=false:=by rw [beq_eq_false_iff_ne]; omega
    have e1:(x:Int)<(y:Int):=by omega
    have e2:decide (t<i)=true:=by simp; omega
    have e3:decide (t<i+1)=true:=by simp; omega
    have HO:=zTD (HHI.out i y hy hgt);rw [e2];clear q1 q2 hy;obtain ⟨w2,hw2⟩:∃w2,w2=wr.alloc (.cells #[.int .i64 y] 3):=⟨_,rfl⟩;have hs2:=HSx.alloc hs (.cells #[.int .i64 y] 3);rw [<-hw2] at hs2;have hc2:w2.cell? ⟨wr.heap.size,0,none⟩=some (.int .i64 y):=by rw [hw2]; go_simp
    have HW2:=zTD hw2;clear hs hw2;go_wp2_with (at_builtin; go_must (rw [<-HW2.out]; refine zAd rfl _ _ rfl rfl hs2 0 rfl rfl hc2 (by have:=HLN.out; omega) ?_))
    intro v3 w3 hs3;have hs3:HS w w3 [aI v3 (iN (oPut l x t (i+1)))]:=by rw [HO.out,zIq]; exact hs3
    clear hs2 hc2 hc;go_wp2_with fail
    go_roundw
    case rel=>exact ⟨i+1,v3,rfl,by omega,by go_num,by rw [e3],hs3⟩
    case measure=>simp [intOf]; omega
  ·have i1:¬(i:Int)<(n:Int):=by omega
   have hin2:i=n:=by omega
   by_cases htn:t<n
   ·have e2:decide (t<i)=true:=by simp; omega
    have HE:Hid (oPut l x t i=insN x l):=zTD (by
     rw [HCUT.out,hin2];unfold oPut;rw [if_neg (by omega),List.take_of_length_le (l:=l.drop t) (by rw [List.length_drop,HN.out]; exact zTI _)])
    rw [HE.out] at hs;have hf:=HS.I hs 0 rfl;have hbl:=hs.bl;rw [e2];clear hs hin2 HE;go_wp2_with fail
    go_ret
    exact ⟨_,rfl,hf,hbl⟩
   ·have e2:decide (t<i)=false:=by simp; omega
    have HE:Hid (oPut l x t i++[x]=insN x l):=zTD (by
     rw [HCUT.out,hin2,show t=n by omega];unfold oPut;rw [if_pos (zTI _),List.drop_of_length_le (by rw [HN.out]; exact zTI _)])
    rw [e2];clear hin2;obtain ⟨w2,hw2⟩:∃w2,w2=wr.alloc (.cells #[.int .i64 x] 3):=⟨_,rfl⟩;have hs2:=HSx.alloc hs (.cells #[.int .i64 x] 3);rw [<-hw2] at hs2;have hc2:w2.cell? ⟨wr.heap.size,0,none⟩=some (.int .i64 x):=by rw [hw2]; go_simp
    have HW2:=zTD hw2;clear hs hw2;go_wp2_with (at_builtin; go_must (rw [<-HW2.out]; refine zAd rfl _ _ rfl rfl hs2 0 rfl rfl hc2 (by have:=HLN.out; omega) ?_))
    intro v3 w3 hs3;have hs3:HS w w3 [aI v3 (iN (insN x l))]:=by rw [<-HE.out,zIq]; exact hs3
    have hf:=HS.I hs3 0 rfl;have hbl:=hs3.bl;clear hs2 hc2 hs3;go_wp2_with fail
    go_ret
    exact ⟨_,rfl,hf,hbl⟩
theorem zPZ {l:List Nat} {y:Nat}:insN y (srtN l)=srtN (l++[y]) :=
 zGn ((zDk y (srtN l)).trans (((zBN l).cons y).trans ((List.perm_append_singleton y l).symm.trans (zBN _).symm))) (zFx (zDe l)) (zDe _)
theorem zMR {x:Nat} {l:List Nat}:hasI (x:Int) (iN l)=true↔x∈l:=by
 rw [zEE];unfold iN;rw [List.mem_map];exact ⟨fun ⟨y,h1,h2⟩=>(by have:y=x:=(by omega); subst this; exact h1),fun h=>⟨x,h,rfl⟩⟩
theorem zFd {x:Nat}:∀{L:List (List Nat)} (k:Nat),(∃C∈L,x∈C)→∃j C,L[j]? = some C∧x∈C∧zAq (x:Int) (L.map iN) k=((k+j:Nat):Int)
 | [],k,h=>by obtain ⟨C,hC,_⟩:=h; simp at hC
 | D::L,k,h=>by
  show ∃j C,(D::L)[j]? = some C∧x∈C∧(if hasI (x:Int) (iN D) then (k:Int) else zAq (x:Int) (L.map iN) (k+1))=((k+j:Nat):Int);by_cases hD:x∈D
  ·exact ⟨0,D,rfl,hD,by rw [if_pos (zMR.2 hD)]; rfl⟩
  ·rw [if_neg (fun h=>hD (zMR.1 h))];obtain ⟨C,hC,hx⟩:=h;rcases List.mem_cons.1 hC with e | e
   ·subst e; exact absurd hx hD
   ·obtain ⟨j,C2,h1,h2,h3⟩:=zFd (L:=L) (k+1) ⟨C,e,hx⟩;exact ⟨j+1,C2,by simpa using h1,h2,by rw [h3]; congr 1; omega⟩
theorem zIY {m:Nat→Nat→Bool} {N:Nat} (h:EqvB N m) {y:Nat} (hy:y<N):∃C∈celS m N N,y∈C:=by
 obtain ⟨a,a1,a2,a3,_⟩:=zEB h hy;have han:a<N:=(zBD.1 (zTF a1)).1;have e:=zDR h hy han a3;exact ⟨zAX m N a,zBP.2 ⟨a,han,rfl,by rw [<-e]; exact a1⟩,by rw [<-e]; exact zBD.2 ⟨hy,h.self y hy⟩⟩
theorem zP7 {m:Nat→Nat→Bool} {N:Nat} (h:EqvB N m) {y:Nat} (hy:y<N) {C:List Nat} (hC:C∈celS m N N) (hin:y∈C):C=zAX m N y:=by
 obtain ⟨k,h1,h2,_⟩:=zBP.1 hC;rw [h2] at hin ⊢;obtain ⟨_,h3⟩:=zBD.1 hin;exact zDR h h1 hy h3
theorem zJn (m:Nat→Nat→Bool) (N a:Nat):(zAX m N a).Nodup:=by
 unfold zAX;exact List.Pairwise.filter _ List.nodup_range
theorem zMZ {N:Nat} {inv:Nat→Nat} (hi:InvOk N inv) {C:List Nat} (hn:C.Nodup) (hlt:∀x∈C,x<N) {k y:Nat} (hk:C[k]? = some y):inv y∉srtN ((C.take k).map inv):=fun h=>by
 rw [(zBN _).mem_iff,List.mem_map] at h;obtain ⟨z,hz,e⟩:=h;have hyN:=hlt y (zTF hk);have hzC:=List.mem_of_mem_take hz;have:z=y:=by rw [<-hi.two z (hlt z hzC),e,hi.two y hyN]
 subst this;obtain ⟨j,hj⟩:=List.getElem?_of_mem hz;have hjk:j<k:=by have:=(zTG hj).1; rw [List.length_take] at this; omega
 rw [List.getElem?_take_of_lt hjk] at hj;have:j=k:=(List.getElem?_inj (zTG hj).1 hn).1 (by rw [hj,hk]);omega
theorem zPY (l:List Nat):(srtN l).length=l.length:=(zBN l).length_eq
theorem zSf {S:Nat→Prop} {x:Value} {c:List (List Int)} {w:World} (h:RII S w x c) (hl:total c≤16777216) :
  Calls Tryz.prog 9 #[x] w fun e w'=>∃r,e=.returned (.tuple #[r,.bool (okK c)])∧FII (New w w') w' r (rcR c)∧Below w.heap.size w w':=by
 have mixed:Tryz.prog.follows .mixedOrders=true:=by kernel_rfl
 have HLC:=zTD (fun (wv:World) (hb:Below w.heap.size w wv)=>zIx (h.below hb) hl);have HRDY:=zTD (fun (wv:World) (hb:Below w.heap.size w wv)=>zHt (h.below hb) hl);have HB:=zTD (fun (wv:World) (hb:Below w.heap.size w wv)=>h.below hb);obtain ⟨aa,ca,rfl⟩:=h.form;clear h;obtain ⟨w1,hw1⟩:∃w1,w1=w.alloc (.cells #[] 29):=⟨_,rfl⟩;have hs1:=(zAj (HS.nil (Below.refl _ w)) hw1).add (Below.refl _ _) (zA7 []) (F:=NoB) ⟨fun x hx=>by simp at hx,List.Pairwise.nil⟩ (fun b hb=>hb.elim);have hs1:HS w w1 [aV 29 (.slice (some ⟨w.heap.size,0,none⟩) 0 0) (([]:Zl).map Prod.fst),aRs []]:=hs1;have hlc:=HLC.out w1 hs1.bl;have HW1:=zTD hw1;clear hw1 HLC;cases hk:okK c with
 | false =>
  have HR:Hid (rcR c=[]):=zTD (by unfold rcR; rw [hk]; rfl);have HKE:Hid (kE c=[]):=zTD (by unfold kE; rw [hk]; rfl);rw [hk] at hlc HRDY;clear hk HB;go_enter Tryz.func9,Tryz.ntmps9
  go_wp2_with fail
  rw [<-HW1.out];refine hlc.mono ?_;rintro e w2 ⟨p,rfl,_,b2⟩;have hs2:=HSx.below hs1 b2;have hrd:=HRDY.out w2 hs2.bl;clear hlc hs1 b2 HRDY;go_wp2_with fail
  refine hrd.mono ?_;rintro e w3 ⟨r3,rfl,f3,b3⟩;have hs3:=HSx.below hs2 b3;obtain ⟨a3,c3,e3⟩:=f3.read.form;rw [HKE.out] at e3;have e3:r3=.slice a3 0 c3:=e3;subst e3;have hs4:=HSx.alloc hs3 (.cells #[] 3);have hs7:HS w (w3.alloc (.cells #[] 3)) [aF (.slice (some ⟨w.heap.size,0,none⟩) 0 0) (([]:Zl).map Prod.snd)]:=((HSx.shutF hs4 (Z:=[]) (v:=.slice (some ⟨w.heap.size,0,none⟩) 0 0) 0 1 (by decide) rfl rfl).pick [0] (by decide));have hfa:=HS.F hs7 0 rfl;have hbl:=hs7.bl;clear hrd hs2 hs3 hs4 hs7 f3 b3;go_wp2_with fail
  go_loopw [10] (fun ii wr=>ii=.int .i64 0∧wr=w3.alloc (.cells #[] 3)) (fun _ _=>0)
  case atStart=>exact ⟨rfl,rfl⟩
  case round =>
   obtain ⟨rfl,rfl⟩:=hrel;go_wp2_with fail
   go_loopw [4,11] (fun oo ii wr=>oo=.slice (some ⟨w.heap.size,0,none⟩) 0 0∧ii=.int .i64 0∧wr=w3.alloc (.cells #[] 3)) (fun _ _ _=>0)
   case atStart=>exact ⟨rfl,rfl,rfl⟩
   case round =>
    obtain ⟨rfl,rfl,rfl⟩:=hrel;go_wp2_with fail
    go_ret2
    exact ⟨_,rfl,(congrArg (FII _ _ _) HR.out).mpr hfa,hbl⟩
 | true =>
  have K:=KlOk.of hk;have HKE:Hid (kE c=elL c):=zTD (by unfold kE; rw [hk]; rfl);have HR:Hid (rcR c=(rcS (mutC c) (elL c).length (invP c) (elL c).length).map iN):=zTD (by unfold rcR; rw [if_pos hk]);have HLR:Hid (lcR c=(celS (mutC c) (elL c).length (elL c).length).map iN):=zTD (by unfold lcR; rw [if_pos hk]);have HIV:=zTD (zPs K);have HEQ:Hid (EqvB (elL c).length (mutC c)):=zTD (zEK (fun q _=>zC7 (zGr hk) q));have HWD:=zTD (fun (i:Nat) (hi:i<(elL c).length)=>zEH K hi);have HNO:=zTD (fun (wv:World) (S9:Nat→Prop) (v:Value) (y:List Int) (hb:Below w.heap.size w wv) (hy:Nf c y) (hv:RI S9 wv v y.reverse)=>zEM (HB.out wv hb) hv K.cart (zAb hy.lets) hl (by rw [List.length_reverse]; have:=hy.le; omega))
  have HIX:=zTD (fun (wv:World) (S8 S9:Nat→Prop) (vl vw:Value) (y:List Int) (hv:RII S9 wv vl (elL c)) (hy:y∈elL c) (hw:RI S8 wv vw y)=>zHa hv hw hy (fun z hz=>by have:=((K.nf z).1 hz).le; omega) (by have:=K.few; omega) (by have:=((K.nf _).1 hy).le; omega));have HNF:=zTD K.nf;have hN24:=K.few;have hN0:=K.pos;have hr4:=K.cart.le;rw [hk] at hlc HRDY;have HIP:=zTD (fun (i:Nat)=>(show invP c i=idxE (elL c) (zAD c (getE (elL c) i).reverse) from rfl));clear hk K HB;generalize hmm:mutC c=m at *;generalize hiv:invP c=inv at *;generalize hE:elL c=E at *;generalize hN:E.length=N at *;have HEN:=zTD hN;clear hmm hiv hE hN;go_enter Tryz.func9,Tryz.ntmps9
  go_wp2_with fail
  rw [<-HW1.out];refine hlc.mono ?_;rintro e w2 ⟨r2,rfl,f2,bw2⟩;have hlp:0<(lcR c).length:=by
   rw [HLR.out,List.length_map];obtain ⟨C,hC,_⟩:=zIY HEQ.out hN0;exact List.length_pos_of_mem hC
  obtain ⟨b2,o2,c2,e2⟩:=RL.head f2.read hlp;obtain ⟨ln,hln⟩:∃ln,(lcR c).length=ln:=⟨_,rfl⟩;rw [hln] at e2;subst e2;have HLNL:=zTD hln;clear hln hlp;have hs2:=HSx.addF hs1 bw2 f2;have hs2:HS w w2 [aV 29 (.slice (some ⟨w.heap.size,0,none⟩) 0 0) (([]:Zl).map Prod.fst),aRs [],aF (.slice (some ⟨b2,o2,none⟩) ln c2) (lcR c)]:=hs2;have hrd:=HRDY.out w2 hs2.bl;rw [HKE.out] at hrd;clear hlc hs1 f2 bw2 HRDY HKE;go_wp2_with fail
  refine hrd.mono ?_;rintro e w3 ⟨r3,rfl,f3,b3⟩;have hs3:=HSx.addF hs2 b3 f3;have hs3:HS w w3 [aV 29 (.slice (some ⟨w.heap.size,0,none⟩) 0 0) (([]:Zl).map Prod.fst),aRs [],aF (.slice (some ⟨b2,o2,none⟩) ln c2) (lcR c),aF r3 E]:=hs3;obtain ⟨bE,oE,cE,eE⟩:=RL.head f3.read (by rw [HEN.out]; exact hN0);rw [HEN.out] at eE;subst eE;obtain ⟨w4,hw4⟩:∃w4,w4=w3.alloc (.cells #[] 3):=⟨_,rfl⟩;have hs4:=zBe hs3 hw4;have hs4:HS w w4 [aV 29 (.slice (some ⟨w.heap.size,0,none⟩) 0 0) (([]:Zl).map Prod.fst),aRs [],aF (.slice (some ⟨b2,o2,none⟩) ln c2) (lcR c),aF (.slice (some ⟨bE,oE,none⟩) N cE) E,aI (.slice (some ⟨w3.heap.size,0,none⟩) 0 0) (iN ((List.range 0).map inv))]:=hs4;have HW4:=zTD hw4;clear hrd hs2 hs3 f3 b3 hw4;go_wp2_with fail
  rw [<-HW4.out];go_loopw [9,10] (fun vv ii wr=>∃(i:Nat) (v9:Value),v9=vv∧i≤N∧ii=.int .i64 i∧HS w wr [aV 29 (.slice (some ⟨w.heap.size,0,none⟩) 0 0) (([]:Zl).map Prod.fst),aRs [],aF (.slice (some ⟨b2,o2,none⟩) ln c2) (lcR c),aF (.slice (some ⟨bE,oE,none⟩) N cE) E,aI v9 (iN ((List.range i).map inv))]) (fun _ ii _=>N-(intOf ii).toNat)
  case atStart=>exact ⟨0,_,rfl,Nat.zero_le _,rfl,hs4⟩
  case round =>
   clear hs4;obtain ⟨i,v9,rfl,hiN,rfl,hs⟩:=hrel;by_cases hi:i<N
   ·have i1:(i:Int)<(N:Int):=by omega
    have i0:(0:Int)≤(i:Int):=by omega
    obtain ⟨y,hy,hyN,hyg,hzN,hz,hzl⟩:=HWD.out i hi;obtain ⟨a5,c5,k5,hr5⟩:=RII.get (HS.F hs 3 rfl).read hy;have hrv:=zDt hr5 (by have:=hyN.le; omega);have HYN:=zTD hyN;have HZE:Hid (zAD c y.reverse∈E):=zTD (zTF hz);have HIPE:Hid (idxE E (zAD c y.reverse)=inv i):=zTD (by rw [HIP.out,hyg]);have HNX:Hid (iN ((List.range i).map inv)++[((inv i:Nat):Int)]=iN ((List.range (i+1)).map inv)):=zTD (by rw [List.range_succ]; simp [iN]);have HLN:Hid ((iN ((List.range i).map inv)).length+1≤67108864):=zTD (by unfold iN; simp; omega);clear hy hyN hyg hzN hz hr5;generalize hyl:y.length=ly at *;clear hyl;go_wp2_with fail
    refine hrv.mono ?_;rintro e w5 ⟨r5,rfl,f5,b5⟩;have hs5:=HSx.below hs b5;have hno:=HNO.out w5 _ _ y hs5.bl HYN.out f5.reads;clear hrv hs f5 b5 k5;go_wp2_with fail
    refine hno.mono ?_;rintro e w6 ⟨r6,rfl,f6,b6⟩;have hs6:=HSx.below hs5 b6;have hix:=HIX.out w6 _ _ _ _ _ (HS.F hs6 3 rfl).read HZE.out f6.reads;rw [HIPE.out] at hix;clear hno hs5 f6 b6;go_wp2_with fail
    refine hix.mono ?_;rintro e w7 ⟨rfl,m7,rfl⟩;have hs7:=HSx.drewN hs6 m7;clear hix hs6;generalize w6.drewN m7=w7 at *;generalize hq:inv i=q at *;have HQ:=zTD hq;clear hq;obtain ⟨w8,hw8⟩:∃w8,w8=w7.alloc (.cells #[.int .i64 q] 3):=⟨_,rfl⟩;have hs8:=HSx.alloc hs7 (.cells #[.int .i64 q] 3);rw [<-hw8] at hs8;have hc8:w8.cell? ⟨w7.heap.size,0,none⟩=some (.int .i64 q):=by rw [hw8]; go_simp
    have HW8:=zTD hw8;clear hs7 hw8;go_wp2_with (at_builtin; go_must (rw [<-HW8.out]; refine zAd rfl _ _ rfl rfl hs8 4 rfl rfl hc8 HLN.out ?_))
    intro v10 w10 hs10;have hs10:HS w w10 [aV 29 (.slice (some ⟨w.heap.size,0,none⟩) 0 0) (([]:Zl).map Prod.fst),aRs [],aF (.slice (some ⟨b2,o2,none⟩) ln c2) (lcR c),aF (.slice (some ⟨bE,oE,none⟩) N cE) E,aI v10 (iN ((List.range (i+1)).map inv))]:=by rw [<-HNX.out]; exact hs10
    clear hs8 hc8;go_wp2_with fail
    go_roundw
    case rel=>exact ⟨i+1,v10,rfl,by omega,by go_num,hs10⟩
    case measure=>simp [intOf]; omega
   ·have i1:¬(i:Int)<(N:Int):=by omega
    have hiN2:i=N:=by omega
    rw [hiN2] at hs;have HIL:Hid ((iN ((List.range N).map inv)).length=N):=zTD (by simp [iN]);have HIA:=zTD (fun (k:Nat) (hk:k<N)=>(show (iN ((List.range N).map inv))[k]? = some ((inv k:Nat):Int) from by unfold iN; rw [List.getElem?_map,List.getElem?_map,List.getElem?_range hk]; rfl));obtain ⟨g9,c9,e9,_,_⟩:=HS.headI hs 4 rfl (by rw [HIL.out]; exact hN0);rw [HIL.out] at e9;subst e9;generalize iN ((List.range N).map inv)=IV at *;have HZ0:Hid (([]:Zl).map Prod.snd=(rcS m N inv 0).map iN):=zTD rfl;have HTOT:Hid (total (lcR c)≤16777216):=zTD (by
     rw [HLR.out];have h1:∀l∈(celS m N N).map iN,l.length≤24:=fun l hl=>by
      obtain ⟨C,hC,rfl⟩:=List.mem_map.1 hl;obtain ⟨k,_,h2,_⟩:=zBP.1 hC;unfold iN;rw [List.length_map,h2];have:=zBy m N k;omega
     have h2:(((celS m N N).map iN).map List.length).sum≤((celS m N N).map iN).length*24:=by
      generalize (celS m N N).map iN=LL at h1
      induction LL with
      | nil=>simp
      | cons a LL ih =>
       have q1:=h1 a (List.mem_cons_self ..);have q2:=ih (fun l hl=>h1 l (List.mem_cons_of_mem _ hl));simp only [List.map_cons,List.sum_cons,List.length_cons,Nat.succ_mul];omega
     have h3:=zCi m N N;unfold total;rw [List.length_map] at h2;rw [List.length_map];omega)
    clear hiN2 HNO HIX HIP HWD;go_wp2_with fail
    go_loopw [4,11] (fun oo ii wr=>∃(i:Nat) (vo:Value) (Z:Zl),vo=oo∧i≤N∧ii=.int .i64 i∧HS w wr [aV 29 vo (Z.map Prod.fst),aRs Z,aF (.slice (some ⟨b2,o2,none⟩) ln c2) (lcR c),aF (.slice (some ⟨bE,oE,none⟩) N cE) E,aI (.slice (some ⟨g9,0,none⟩) N c9) IV]∧Hid (Z.map Prod.snd=(rcS m N inv i).map iN)) (fun _ ii _=>N-(intOf ii).toNat)
    case atStart=>exact ⟨0,_,[],rfl,Nat.zero_le _,rfl,hs,HZ0⟩
    case round =>
     clear hs HZ0;obtain ⟨i,vo,Z,rfl,hiN,rfl,hs,HZ⟩:=hrel;by_cases hi:i<N
     ·have i1:(i:Int)<(N:Int):=by omega
      have i0:(0:Int)≤(i:Int):=by omega
      obtain ⟨c1,_⟩:=HS.cellI hs 4 rfl HIL.out (HIA.out i hi);obtain ⟨j,C,hj,hjin,hjc⟩:=zFd (L:=celS m N N) (x:=inv i) 0 (zIY HEQ.out (HIV.out.lt i hi));have hCe:=zP7 HEQ.out (HIV.out.lt i hi) (zTF hj) hjin;have hco:=zGG (q:=((inv i:Nat):Int)) (HS.F hs 2 rfl).read HTOT.out;rw [HLR.out,hjc,Nat.zero_add] at hco;have HHD:=zTD (zKw HEQ.out HIV.out (HIV.out.lt i hi));have HCN:Hid (rcS m N inv (i+1)=if (sCel m N inv (inv i))[0]? = some i then rcS m N inv i++[sCel m N inv (inv i)] else rcS m N inv i):=zTD rfl;have HSC:Hid (sCel m N inv (inv i)=srtN (C.map inv)):=zTD (by unfold sCel; rw [hCe]);have HND:Hid C.Nodup:=zTD (by rw [hCe]; exact zJn _ _ _);have HCLT:Hid (∀y∈C,y<N):=zTD (fun y hy=>by rw [hCe] at hy; exact (zBD.1 hy).1);have hcl:C.length≤N:=by rw [hCe]; exact zBy _ _ _
      have HLJ:Hid ((lcR c)[j]? = some (iN C)):=zTD (by rw [HLR.out,List.getElem?_map,hj]; rfl);have HSL:Hid ((rcS m N inv i).length≤67108000):=zTD (by
       have h1:=zFY (m:=m) (N:=N) (inv:=inv) i;have h2:((rcS m N inv i).map hdN).Nodup:=by
        unfold List.Nodup; rw [List.pairwise_map]; exact h1.imp (fun h=>by omega)
       have h3:=zE4 (n:=N) h2 (fun z hz=>by
        obtain ⟨a,ha,rfl⟩:=List.mem_map.1 hz;obtain ⟨k,k1,_,k3⟩:=zCB.1 ha;unfold hdN; rw [k3]; show k<N; omega)
       rw [List.length_map] at h3;omega)
      clear hj hjin hjc hCe;go_wp2_with fail
      refine hco.mono ?_;rintro e w5 ⟨rfl,rfl⟩;clear hco c1;have hjl:=(zTG HLJ.out).1;rw [HLNL.out] at hjl;have hj1:(j:Int)<(ln:Int):=by omega
      have hj0:(0:Int)≤(j:Int):=by omega
      have hCl:(iN C).length=C.length:=by simp [iN]
      have HROW:=zTD (fun (wv:World) (P:zAI) (h:HS w wv [aV 29 vo (Z.map Prod.fst),aRs Z,aF (.slice (some ⟨b2,o2,none⟩) ln c2) (lcR c),aF (.slice (some ⟨bE,oE,none⟩) N cE) E,aI (.slice (some ⟨g9,0,none⟩) N c9) IV,P])=>RII.get (HS.F h 2 rfl).read HLJ.out);rw [hCl] at HROW;generalize hcn:C.length=cl at *;have HCL:=zTD hcn;clear hcn hCl hjl;obtain ⟨w5,hw5⟩:∃w5,w5=wr.alloc (.cells #[] 3):=⟨_,rfl⟩;have hs5:=zBe hs hw5;have hs5:HS w w5 [aV 29 vo (Z.map Prod.fst),aRs Z,aF (.slice (some ⟨b2,o2,none⟩) ln c2) (lcR c),aF (.slice (some ⟨bE,oE,none⟩) N cE) E,aI (.slice (some ⟨g9,0,none⟩) N c9) IV,aI (.slice (some ⟨wr.heap.size,0,none⟩) 0 0) (iN (srtN ((C.take 0).map inv)))]:=hs5;have HW5:=zTD hw5;clear hw5 hs;go_wp2_with fail
      rw [<-HW5.out];go_loopw [13,14] (fun oo kk wr=>∃(k:Nat) (v2:Value),v2=oo∧k≤cl∧kk=.int .i64 k∧HS w wr [aV 29 vo (Z.map Prod.fst),aRs Z,aF (.slice (some ⟨b2,o2,none⟩) ln c2) (lcR c),aF (.slice (some ⟨bE,oE,none⟩) N cE) E,aI (.slice (some ⟨g9,0,none⟩) N c9) IV,aI v2 (iN (srtN ((C.take k).map inv)))]) (fun _ kk _=>cl-(intOf kk).toNat)
      case atStart=>exact ⟨0,_,rfl,Nat.zero_le _,rfl,hs5⟩
      case round =>
       clear hs5;obtain ⟨k,v2,rfl,hkc,rfl,hs⟩:=hrel;obtain ⟨a7,c7,k7,hr7⟩:=HROW.out wr _ hs;by_cases hk:k<cl
       ·have j1:(k:Int)<(cl:Int):=by omega
        have j0:(0:Int)≤(k:Int):=by omega
        obtain ⟨y,hy⟩:∃y,C[k]? = some y:=⟨C[k]'(by rw [HCL.out]; exact hk),zTE _⟩;have hyN:=HCLT.out y (zTF hy);obtain ⟨b8,o8,z8,e8,k8,hz8⟩:=RI.at hr7 hk;have ez:z8=(y:Int):=by have h1:=hz8.out; unfold iN at h1; rw [List.getElem?_map,hy] at h1; simpa using h1.symm
        subst ez e8;obtain ⟨k9,_⟩:=HS.cellI hs 4 rfl HIL.out (HIA.out y hyN);have y1:(y:Int)<(N:Int):=by omega
        have y0:(0:Int)≤(y:Int):=by omega
        have hfr:=zMZ HIV.out HND.out HCLT.out hy;have hpt:=zPL (x:=inv y) (HS.I hs 5 rfl).reads (zDe _) hfr (by rw [zPY,List.length_map,List.length_take]; omega);rw [zPZ] at hpt;have HST:Hid ((C.take k).map inv++[inv y]=(C.take (k+1)).map inv):=zTD (by rw [zAP hy,List.map_append]; rfl);rw [HST.out] at hpt;obtain ⟨av2,cv2,e2v⟩:=HS.formI hs 5 rfl;clear hr7 hz8 hfr hy;subst e2v;generalize (iN (srtN ((C.take k).map inv))).length=l2 at *;go_wp2_with fail
        refine hpt.mono ?_;rintro e w6 ⟨r6,rfl,f6,b6⟩;have hs6:=HSx.addI hs b6 f6;have hs6:HS w w6 [aV 29 vo (Z.map Prod.fst),aRs Z,aF (.slice (some ⟨b2,o2,none⟩) ln c2) (lcR c),aF (.slice (some ⟨bE,oE,none⟩) N cE) E,aI (.slice (some ⟨g9,0,none⟩) N c9) IV,aI r6 (iN (srtN ((C.take (k+1)).map inv)))]:=hs6.pick [0,1,2,3,4,6] (by decide);clear hpt hs f6 b6 k7 k8 k9;go_wp2_with fail
        go_roundw
        case rel=>exact ⟨k+1,r6,rfl,by omega,by go_num,hs6⟩
        case measure=>simp [intOf]; omega
       ·have j1:¬(k:Int)<(cl:Int):=by omega
        have hkc2:k=cl:=by omega
        have e9:(C.take k)=C:=List.take_of_length_le (by rw [HCL.out]; omega);rw [e9,<-HSC.out] at hs;obtain ⟨a,han,ha,hsc⟩:=HHD.out;clear hsc;have HIL2:Hid (0<(iN (sCel m N inv (inv i))).length∧(iN (sCel m N inv (inv i)))[0]? = some (a:Int)):=zTD (by
         unfold iN;rw [List.length_map,List.getElem?_map,ha];exact ⟨(zTG ha).1,rfl⟩)
        obtain ⟨g6,c6,e6,_,_⟩:=HS.headI hs 5 rfl HIL2.out.1;subst e6;obtain ⟨k6,_⟩:=HS.cellI hs 5 rfl rfl HIL2.out.2;have HHA:=zTD ha;clear hkc2 e9 ha HHD hr7;generalize sCel m N inv (inv i)=sc at *;obtain ⟨l6,hl6⟩:∃l6,(iN sc).length=l6:=⟨_,rfl⟩;rw [hl6] at hs ⊢;have hl0:(0:Int)<(l6:Int):=by have:=HIL2.out.1; omega
        clear hl6;by_cases hai:a=i
        ·have e0:((a:Int) == (i:Int))=true:=by rw [beq_iff_eq]; omega
         have HC2:=zTD (HCN.out.trans (if_pos (by rw [HHA.out,hai])));have HZ2:Hid ((Z++[(Value.slice (some ⟨g6,0,none⟩) l6 c6,iN sc)]).map Prod.snd=(rcS m N inv (i+1)).map iN):=zTD (by rw [HC2.out,List.map_append,List.map_append,HZ.out]; rfl);have HLZ:Hid ((Z.map Prod.fst).length+1≤67108864):=zTD (by have h1:=congrArg List.length HZ.out; have h2:=HSL.out; simp only [List.length_map] at h1; rw [List.length_map]; omega);obtain ⟨w6,hw6⟩:∃w6,w6=wr.alloc (.cells #[.slice (some ⟨g6,0,none⟩) l6 c6] 29):=⟨_,rfl⟩;have hs6:=HSx.alloc hs (.cells #[.slice (some ⟨g6,0,none⟩) l6 c6] 29);rw [<-hw6] at hs6;have hc6:w6.cell? ⟨wr.heap.size,0,none⟩=some (.slice (some ⟨g6,0,none⟩) l6 c6):=by rw [hw6]; go_simp
         have HW6:=zTD hw6;have HNV:=zTD (HS.newV hs6 0 rfl);clear hs hw6 hai HCN HC2;go_wp2_with (at_builtin; go_must (rw [<-HW6.out]; refine zAH rfl _ _ rfl rfl hs6 0 rfl HNV.out rfl hc6 rfl HLZ.out ?_))
         intro v7 w7 hs7 _;have hs8:=(HSx.moreS hs7 1 5 (by decide) rfl rfl (Z':=Z++[(.slice (some ⟨g6,0,none⟩) l6 c6,iN sc)]) (List.perm_append_singleton _ _)).pick [0,1,2,3,4] (by decide);have hs8:HS w w7 [aV 29 v7 ((Z++[(Value.slice (some ⟨g6,0,none⟩) l6 c6,iN sc)]).map Prod.fst),aRs (Z++[(Value.slice (some ⟨g6,0,none⟩) l6 c6,iN sc)]),aF (.slice (some ⟨b2,o2,none⟩) ln c2) (lcR c),aF (.slice (some ⟨bE,oE,none⟩) N cE) E,aI (.slice (some ⟨g9,0,none⟩) N c9) IV]:=by rw [List.map_append]; exact hs8
         clear hs6 hs7 hc6 k6 k7;go_wp2_with fail
         go_roundw
         case rel=>exact ⟨i+1,v7,_,rfl,by omega,by go_num,hs8,HZ2⟩
         case measure=>simp [intOf]; omega
        ·have e0:((a:Int) == (i:Int))=false:=by rw [beq_eq_false_iff_ne]; omega
         have HC2:=zTD (HCN.out.trans (if_neg (by rw [HHA.out]; simp only [Option.some.injEq]; exact hai)));have HZ2:Hid (Z.map Prod.snd=(rcS m N inv (i+1)).map iN):=zTD (by rw [HC2.out]; exact HZ.out);have hs8:HS w wr [aV 29 vo (Z.map Prod.fst),aRs Z,aF (.slice (some ⟨b2,o2,none⟩) ln c2) (lcR c),aF (.slice (some ⟨bE,oE,none⟩) N cE) E,aI (.slice (some ⟨g9,0,none⟩) N c9) IV]:=hs.pick [0,1,2,3,4] (by decide);clear hs hai HCN HC2;go_wp2_with fail
         go_roundw
         case rel=>exact ⟨i+1,vo,Z,rfl,by omega,by go_num,hs8,HZ2⟩
         case measure=>simp [intOf]; omega
     ·have i1:¬(i:Int)<(N:Int):=by omega
      have hiN2:i=N:=by omega
      rw [hiN2,<-HR.out] at HZ;have hs7:HS w wr [aF vo (Z.map Prod.snd)]:=((HSx.shutF hs (Z:=Z) (v:=vo) 0 1 (by decide) rfl rfl).pick [0] (by decide));rw [HZ.out] at hs7;have hfa:=HS.F hs7 0 rfl;have hbl:=hs7.bl;clear hs hs7 hiN2 HZ;go_wp2_with fail
      go_ret2
      exact ⟨_,rfl,hfa,hbl⟩
theorem zJM (m:Nat→Nat→Bool) (N:Nat) (inv:Nat→Nat):∀i,(rcS m N inv i).length≤i
 | 0=>by simp [rcS]
 | i+1=>by
  unfold rcS;have:=zJM m N inv i;split
  ·simp; omega
  ·omega
theorem zNE (c:List (List Int)):total (rcR c)≤600:=by
 unfold rcR;split
 ·rename_i h
  have h24:=(KlOk.of h).few;refine Nat.le_trans (zH4 (A:=24) (B:=24) (by rw [List.length_map]; have:=zJM (mutC c) (elL c).length (invP c) (elL c).length; omega) (fun x hx=>?_)) (by omega);obtain ⟨l,hl,rfl⟩:=List.mem_map.1 hx;obtain ⟨k,_,h2,_⟩:=zCB.1 hl;have:=zBy (mutC c) (elL c).length (invP c k);unfold iN;rw [List.length_map,h2];unfold sCel;rw [(zBN _).length_eq,List.length_map];omega
 ·simp [total]
end Go.Proofs.YtlgcdacpjcnjgaaGreatDoor
