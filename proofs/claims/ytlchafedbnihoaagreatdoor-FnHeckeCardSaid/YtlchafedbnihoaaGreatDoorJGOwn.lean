/- A list of lists of the call's own, whose rows only need to be read; 'append' of one row. Condition: at most 2^26 rows. -/
import Derived.Test.YtlchafedbnihoaaGreatDoorJGCart
namespace Go.Proofs.YtlchafedbnihoaaGreatDoor
open Go.RowKit
set_option maxRecDepth 20000
def FR (S:Nat→Prop) (w:World) (v:Value) (L:List (List Int)):Prop :=
 ∃vs,w.ownsRow 0 33 1 v L.length vs∧vs.length=L.length∧(∀b,v.ownBlock=some b→S b)∧∀(j:Nat) (r:Value) (l:List Int),vs[j]? = some r→L[j]? = some l→RI S w r l
section
variable {S S':Nat→Prop} {W w w':World} {v:Value} {L:List (List Int)}
theorem FR.reads (h:FR S w v L):RII S w v L:=by
 obtain ⟨vs,h1,h2,h3,h4⟩:=h;exact RL.of_own h1 rfl (fun b hb _=>h3 b hb) (fun j x r hx hr=>h4 j r x hr hx)
theorem FR.below (h:FR S w v L) (hb:Below w.heap.size w w'):FR S w' v L:=by
 obtain ⟨vs,h1,h2,h3,h4⟩:=h;exact ⟨vs,zCe h1 hb,h2,h3,fun j r l hr hl=>(h4 j r l hr hl).below hb⟩
theorem RI.mono {l:List Int} (h:RI S w v l) (hS:∀b,S b→S' b):RI S' w v l:=RL.mono h hS (fun _ _ h=>h)
theorem FR.mono (h:FR S w v L) (hS:∀b,S b→S' b):FR S' w v L:=by
 obtain ⟨vs,h1,h2,h3,h4⟩:=h;exact ⟨vs,h1,h2,fun b hb=>hS b (h3 b hb),fun j r l hr hl=>(h4 j r l hr hl).mono hS⟩
theorem FR.grow (h:FR (New W w) w v L) (hb:Below w.heap.size w w'):FR (New W w') w' v L :=
 (h.below hb).mono fun b hb'=>⟨hb'.1,by have:=hb'.2; have:=hb.size; omega⟩
theorem FR.form (h:FR S w v L):∃a cap,v=.slice a L.length cap:=h.reads.form
theorem FR.any (h:FR S w v L):RII Any w v L:=RII.any h.reads
theorem RI.grown {S:Nat→Prop} {w w':World} {v r:Value} {l:List Int} (h:RI S w r l) (hg:w.grownBy w' v.ownBlock) (ht:∀b,v.ownBlock=some b→∃cur,w.heap[b]? = some (.cells cur 33 (0,0))):RI S w' r l:=by
 obtain ⟨a,cap,hv,hcap,h⟩:=h;refine ⟨a,cap,hv,hcap,?_⟩;rcases h with h | ⟨b,o,ha,hs,ht',hc⟩
 ·exact .inl h
 ·obtain ⟨cur',fz',hb⟩:=ht';have hne:v.ownBlock≠some b:=fun e=>by
   obtain ⟨cur,h1⟩:=ht b e;rw [hb] at h1;simp at h1
  have hlt:b<w.heap.size:=(Array.getElem?_eq_some_iff.1 hb).1;have hk:w'.heap[b]? = w.heap[b]?:=hg.block b hlt (fun e=>hne e.symm);refine .inr ⟨b,o,ha,hs,⟨cur',fz',by rw [hk]; exact hb⟩,fun j x hx=>?_⟩;obtain ⟨r,h1,h2⟩:=hc j x hx;exact ⟨r,by rw [World.cell?_of_block (w:=w) hk]; exact h1,h2⟩
end
theorem FR.keep {S:Nat→Prop} {w w':World} {v:Value} {L:List (List Int)} (h:FR S w v L) (hk:∀b,S b→b<w.heap.size→w'.heap[b]? = w.heap[b]?):FR S w' v L:=by
 obtain ⟨vs,h1,h2,h3,h4⟩:=h;exact ⟨vs,zA4 h1 (fun b hb=>hk b (h3 b hb) (h1.lt b hb).2),h2,h3,fun j r l hr hl=>RI.keep (h4 j r l hr hl) hk⟩
theorem FR.tag {S:Nat→Prop} {w:World} {v:Value} {L:List (List Int)} (h:FR S w v L) {b:Nat} (hb:v.ownBlock=some b):∃cur,w.heap[b]? = some (.cells cur 33 (0,0)):=by
 obtain ⟨vs,h1,_⟩:=h;exact zAt h1 hb
section
variable {w:World} {ops:Array Oper} {rest:List Oper} {o:Oper} {a:Act} {Q:Exit→Act→World→Prop}
end
end Go.Proofs.YtlchafedbnihoaaGreatDoor
namespace Go.Proofs.YtlchafedbnihoaaGreatDoor
open Go.RowKit
set_option maxRecDepth 20000
theorem FI.grown {S:Nat→Prop} {w w':World} {v r:Value} {l:List Int} (h:FI S w r l) (hg:w.grownBy w' v.ownBlock) (ht:∀b,v.ownBlock=some b→∃cur,w.heap[b]? = some (.cells cur 33 (0,0))):FI S w' r l :=
 h.keep fun b hb=>hg.block b (h.1.lt b hb).2 (fun e=>by
  obtain ⟨c1,t1⟩:=ht b e.symm;obtain ⟨c2,t2⟩:=zAt h.1 hb;rw [t1] at t2;simp at t2)
section
variable {w:World} {ops:Array Oper} {rest:List Oper} {o:Oper} {a:Act} {Q:Exit→Act→World→Prop}
end
end Go.Proofs.YtlchafedbnihoaaGreatDoor
namespace Go.Proofs.YtlchafedbnihoaaGreatDoor
open Go.RowKit
set_option maxRecDepth 20000
section
variable {w:World} {ops:Array Oper} {rest:List Oper} {o:Oper} {a:Act} {Q:Exit→Act→World→Prop}
theorem zNR {S:Nat→Prop} {W:World} {K:Act→World→Prop} (s x:Operand)
  (ho:o.op=.call { callee:=.builtin .append,args:=#[s,x],argTypes:=#[33,33] })
  {v:Value} {l l2:List Int} (hs:a.eval s=v) (hf:FI (New W w) w v l) (hb:Below W.heap.size W w)
  {sa:Option Addr} {m c:Nat} (hx:a.eval x=.slice sa m c) (hr:RI S w (.slice sa m c) l2) (hlen:l.length+l2.length≤67108864)
  (h:∀v' w',FI (New W w') w' v' (l++l2)→Below W.heap.size W w'→w.grownBy w' v.ownBlock→K (a.put o.dst v') w'):o.wp Tryz.prog a w K Q:=by
 obtain ⟨i0,hi,hz0,hz1,hz2⟩:=info_parts zBK;obtain ⟨hown,hS⟩:=hf;obtain ⟨a',cap',hv,hcap,hcase⟩:=hr;simp only [Value.slice.injEq] at hv;obtain ⟨rfl,rfl,rfl⟩:=hv;have hown':w.ownsRow W.heap.size 3 1 v l.length (l.map (Value.int .i64)):=by
  refine ⟨hown.1,?_⟩;rcases hown.2 with h | ⟨g,cap,cur,hv,_,r⟩
  ·exact .inl h
  ·exact .inr ⟨g,cap,cur,hv,(hS g (by rw [hv]; rfl)).1,r⟩
 have fin:∀v' w',w'.ownsRow W.heap.size 3 1 v' (l.length+l2.length) (l.map (Value.int .i64)++l2.map (Value.int .i64))→w.grownBy w' v.ownBlock→K (a.put o.dst v') w':=by
  intro v' w' h1 h2;have hb':Below W.heap.size W w':=hb.grown h2 hb.size (fun k hk=>(hS k hk).1);exact h v' w' (FI.of_row h1 (zNl _) (by simp) (by simp)) hb' h2
 cases sa with
 | none =>
  have h0:l2=[]:=by
   rcases hcase with h | ⟨b,o,ha,_⟩
   ·exact h
   ·cases ha
  subst h0;have hrun:=zBj (w:=w) W.heap.size 33 o.type 3 i0 1 Tryz.underlying33 hi v l.length c _ hown';have fin':=fin v w (by simpa using hown') (World.grownBy.refl _ _);clear fin h hb hS hown;unfold Oper.wp;rw [show ([]:List Int).length=0 from rfl] at hx;simp [execOp,ho,resolve,invoke,builtin,hs,hx,hrun,Result.andThen];exact fin'
 | some ad =>
  refine wp_append_own w s x 33 ho W.heap.size 3 i0 (.int .i64 0) 1 8 Tryz.underlying33 hi hz0 hz1 hz2 rfl (by decide) v l.length (l.map (Value.int .i64)) hs hown' ad l2.length c (l2.map (Value.int .i64)) hx (by simp) ?_ ?_ ?_ ?_ hb.size (fun v' w' h1 h2 _=>fin v' w' h1 h2)
  ·intro j u hj;rcases hcase with h | ⟨b,o,ha,_,_,hc⟩
   ·subst h; simp at hj
   ·simp only [Option.some.injEq] at ha;subst ha;rw [List.getElem?_map] at hj;obtain ⟨x,hx1,hx2⟩:=Option.map_eq_some_iff.1 hj;obtain ⟨r,h1,h2⟩:=hc j x hx1;have hadd:(⟨b,o,none⟩:Addr).add j=⟨b,o+j,none⟩:=by unfold Addr.add; split <;> simp_all
    rw [hadd,h1,<-hx2];exact congrArg some h2
  ·intro u hu;obtain ⟨x,_,rfl⟩:=List.mem_map.1 hu;rfl
  ·unfold maxLen; omega
  ·omega
theorem zE2 {S:Nat→Prop} {W:World} {K:Act→World→Prop} {E:Prop} (hgd:o.guard=none) (s x:Operand)
  (ho:o.op=.call { callee:=.builtin .append,args:=#[s,x],argTypes:=#[33,33] })
  {v:Value} {l l2:List Int} (hs:a.eval s=v) (hf:FI (New W w) w v l) (hb:Below W.heap.size W w)
  {sa:Option Addr} {m c:Nat} (hx:a.eval x=.slice sa m c) (hr:RI S w (.slice sa m c) l2) (hlen:l.length+l2.length≤67108864)
  (h:∀v' w',FI (New W w') w' v' (l++l2)→Below W.heap.size W w'→w.grownBy w' v.ownBlock→K (a.put o.dst v') w') :
  if Region.wanted o (yielded ops a.tmps)=true then Oper.wp Tryz.prog o a w K Q else E:=by
 have hw:Region.wanted o (yielded ops a.tmps)=true:=by simp [Region.wanted,hgd]
 rw [if_pos hw];exact zNR s x ho hs hf hb hx hr hlen h
end
theorem RL.cutFrom {α:Type} {e:Option TypeId} {S:Nat→Prop} {R:World→Value→α→Prop} {w:World} {b o n cap k:Nat} {l:List α} (h:RL e S R w (.slice (some ⟨b,o,none⟩) n cap) l) (hk:k≤n):RL e S R w (.slice (some ⟨b,o+k,none⟩) (n-k) (cap-k)) (l.drop k):=by
 obtain ⟨a',cap',hv,hc,h⟩:=h;simp only [Value.slice.injEq] at hv;obtain ⟨rfl,rfl,rfl⟩:=hv;have hl:(l.drop k).length=l.length-k:=by simp
 refine ⟨_,_,by rw [hl],⟨by omega,by omega⟩,?_⟩;rcases h with h | ⟨b',o',ha,hs,ht,h⟩
 ·subst h; exact .inl (by simp)
 ·simp only [Option.some.injEq,Addr.mk.injEq,and_true] at ha;obtain ⟨rfl,rfl⟩:=ha;refine .inr ⟨b,o+k,rfl,hs,ht,fun j x hx=>?_⟩;rw [List.getElem?_drop] at hx;obtain ⟨r,h1,h2⟩:=h _ x hx;exact ⟨r,by rw [Nat.add_assoc]; exact h1,h2⟩
theorem RL.cap {α:Type} {e:Option TypeId} {S:Nat→Prop} {R:World→Value→α→Prop} {w:World} {a:Option Addr} {n cap:Nat} {l:List α} (h:RL e S R w (.slice a n cap) l):n≤cap∧cap≤maxLen:=by
 obtain ⟨_,_,hv,hc,_⟩:=h;simp only [Value.slice.injEq] at hv;obtain ⟨_,rfl,rfl⟩:=hv;exact hc
end Go.Proofs.YtlchafedbnihoaaGreatDoor
namespace Go.Proofs.YtlchafedbnihoaaGreatDoor
open Go.RowKit
set_option maxRecDepth 20000
def FBo (S:Nat→Prop) (w:World) (v:Value) (l:List Bool):Prop:=w.ownsRow 0 4 1 v l.length (l.map Value.bool)∧∀b,v.ownBlock=some b→S b
theorem FBo.mono {S S':Nat→Prop} {w:World} {v:Value} {l:List Bool} (h:FBo S w v l) (hS:∀b,S b→S' b):FBo S' w v l:=⟨h.1,fun b hb=>hS b (h.2 b hb)⟩
theorem FBo.below {S:Nat→Prop} {w w':World} {v:Value} {l:List Bool} (h:FBo S w v l) (hb:Below w.heap.size w w'):FBo S w' v l:=⟨zCe h.1 hb,h.2⟩
theorem FBo.grow {W w w':World} {v:Value} {l:List Bool} (h:FBo (New W w) w v l) (hb:Below w.heap.size w w'):FBo (New W w') w' v l :=
 (h.below hb).mono fun b hb'=>⟨hb'.1,by have:=hb'.2; have:=hb.size; omega⟩
theorem FBo.of_row {w w':World} {B:Nat} {v:Value} {l:List Bool} {n:Nat} {xs:List Value} (h:w'.ownsRow B 4 1 v n xs) (hB:w.heap.size≤B) (hn:n=l.length) (hx:xs=l.map Value.bool):FBo (New w w') w' v l:=by
 subst hn;subst hx;exact ⟨zBp h (Nat.zero_le _),fun b hb=>by obtain ⟨h1,h2⟩:=h.lt b hb; exact ⟨by omega,h2⟩⟩
theorem FBo.cell {S:Nat→Prop} {w:World} {g n cap:Nat} {l:List Bool} (h:FBo S w (.slice (some ⟨g,0,none⟩) n cap) l) (hl:l.length=n) {k:Nat} {x:Bool} (hx:l[k]? = some x):w.cell? ⟨g,k,none⟩=some (.bool x):=by
 subst hl;have hk:k<l.length:=(zNj hx).1;rw [h.1.cellAt k (by omega),List.getElem?_map,hx]; rfl
theorem FBo.froz {S:Nat→Prop} {w:World} {g n cap:Nat} {l:List Bool} (h:FBo S w (.slice (some ⟨g,0,none⟩) n cap) l) (hl:l.length=n) (k:Nat):w.frozen? ⟨g,k,none⟩=false:=by
 subst hl;exact h.1.frozenAt k
theorem FBo.put {S:Nat→Prop} {w:World} {g n cap:Nat} {l:List Bool} (h:FBo S w (.slice (some ⟨g,0,none⟩) n cap) l) (hl:l.length=n) (k:Nat) (x:Bool):FBo S (w.setCell ⟨g,k,none⟩ (.bool x)) (.slice (some ⟨g,0,none⟩) n cap) (l.set k x):=by
 subst hl;have:=(h.1.stored k (.bool x)).1;refine ⟨?_,h.2⟩;rw [List.length_set,List.map_set];exact this
theorem FBo.head {S:Nat→Prop} {w:World} {v:Value} {l:List Bool} (h:FBo S w v l) (h0:0<l.length):∃g cap,v=.slice (some ⟨g,0,none⟩) l.length cap∧S g∧g<w.heap.size:=by
 rcases h.1.2 with ⟨_,hn⟩ | ⟨g,cap,cur,hv,_⟩
 ·omega
 ·exact ⟨g,cap,hv,h.2 g (by rw [hv]; rfl),(h.1.lt g (by rw [hv]; rfl)).2⟩
theorem FBo.tag {S:Nat→Prop} {w:World} {v:Value} {l:List Bool} (h:FBo S w v l) {b:Nat} (hb:v.ownBlock=some b):∃cur,w.heap[b]? = some (.cells cur 4 (0,0)):=zAt h.1 hb
theorem FBo.grown {S S':Nat→Prop} {w w':World} {v r:Value} {l:List Bool} {m:List Int} (h:FBo S w v l) (hr:FI S' w r m) (hg:w.grownBy w' r.ownBlock):FBo S w' v l :=
 ⟨zA4 h.1 fun b hb=>hg.block b (h.1.lt b hb).2 (fun e=>by
  obtain ⟨c1,t1⟩:=zAt hr.1 e.symm;obtain ⟨c2,t2⟩:=zAt h.1 hb;rw [t1] at t2;simp at t2),h.2⟩
end Go.Proofs.YtlchafedbnihoaaGreatDoor
