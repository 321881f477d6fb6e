/- 'append' to a slice of numbers at a step of a region; cuts of slices. Condition: at most 2^26 numbers. -/
import Derived.Test.YtphbichgpcicnaaGreatDoorJGOwn
import Derived.Test.YtphbichgpcicnaaGreatDoorJGGt
import Derived.StillTail
namespace Go.Proofs.YtphbichgpcicnaaGreatDoor
open Go.RowKit
set_option maxRecDepth 20000
section
variable {w:World} {ops:Array Oper} {rest:List Oper} {o:Oper} {a:Act} {Q:Exit→Act→World→Prop}
theorem zVm {S:Nat→Prop} {W:World} {K:Act→World→Prop} (s x:Operand)
  (ho:o.op=.call { callee:=.builtin .append,args:=#[s,x],argTypes:=#[28,28] })
  {v:Value} {l l2:List Int} (hs:a.eval s=v) (hf:FI (New W w) w v l) (hb:Below W.heap.size W w)
  {sa:Option Addr} {m c:Nat} (hx:a.eval x=.slice sa m c) (hr:RI S w (.slice sa m c) l2) (hlen:l.length+l2.length≤67108864)
  (h:∀v' w',FI (New W w') w' v' (l++l2)→Below W.heap.size W w'→w.grownBy w' v.ownBlock→K (a.put o.dst v') w'):o.wp Tryz.prog a w K Q:=by
 obtain ⟨i0,hi,hz0,hz1,hz2⟩:=info_parts zBI;obtain ⟨hown,hS⟩:=hf;obtain ⟨a',cap',hv,hcap,hcase⟩:=hr;simp only [Value.slice.injEq] at hv;obtain ⟨rfl,rfl,rfl⟩:=hv;have hown':w.ownsRow W.heap.size 3 1 v l.length (l.map (Value.int .i64)):=by
  refine ⟨hown.1,?_⟩;rcases hown.2 with h | ⟨g,cap,cur,hv,_,r⟩
  ·exact .inl h
  ·exact .inr ⟨g,cap,cur,hv,(hS g (by rw [hv]; rfl)).1,r⟩
 have fin:∀v' w',w'.ownsRow W.heap.size 3 1 v' (l.length+l2.length) (l.map (Value.int .i64)++l2.map (Value.int .i64))→w.grownBy w' v.ownBlock→K (a.put o.dst v') w':=by
  intro v' w' h1 h2;have hb':Below W.heap.size W w':=hb.grown h2 hb.size (fun k hk=>(hS k hk).1);exact h v' w' (FI.of_row h1 (zWK _) (by simp) (by simp)) hb' h2
 cases sa with
 | none =>
  have h0:l2=[]:=by
   rcases hcase with h | ⟨b,o,ha,_⟩
   ·exact h
   ·cases ha
  subst h0;have hrun:=zCG (w:=w) W.heap.size 28 o.type 3 i0 1 Tryz.underlying28 hi v l.length c _ hown';have fin':=fin v w (by simpa using hown') (World.grownBy.refl _ _);clear fin h hb hS hown;unfold Oper.wp;rw [show ([]:List Int).length=0 from rfl] at hx;simp [execOp,ho,resolve,invoke,builtin,hs,hx,hrun,Result.andThen];exact fin'
 | some ad =>
  refine wp_append_own w s x 28 ho W.heap.size 3 i0 (.int .i64 0) 1 8 Tryz.underlying28 hi hz0 hz1 hz2 rfl (by decide) v l.length (l.map (Value.int .i64)) hs hown' ad l2.length c (l2.map (Value.int .i64)) hx (by simp) ?_ ?_ ?_ ?_ hb.size (fun v' w' h1 h2 _=>fin v' w' h1 h2)
  ·intro j u hj;rcases hcase with h | ⟨b,o,ha,_,_,hc⟩
   ·subst h; simp at hj
   ·simp only [Option.some.injEq] at ha;subst ha;rw [List.getElem?_map] at hj;obtain ⟨x,hx1,hx2⟩:=Option.map_eq_some_iff.1 hj;obtain ⟨r,h1,h2⟩:=hc j x hx1;have hadd:(⟨b,o,none⟩:Addr).add j=⟨b,o+j,none⟩:=by unfold Addr.add; split <;> simp_all
    rw [hadd,h1,<-hx2];exact congrArg some h2
  ·intro u hu;obtain ⟨x,_,rfl⟩:=List.mem_map.1 hu;rfl
  ·unfold maxLen; omega
  ·omega
theorem zEN {S:Nat→Prop} {W:World} {K:Act→World→Prop} {E:Prop} (hgd:o.guard=none) (s x:Operand)
  (ho:o.op=.call { callee:=.builtin .append,args:=#[s,x],argTypes:=#[28,28] })
  {v:Value} {l l2:List Int} (hs:a.eval s=v) (hf:FI (New W w) w v l) (hb:Below W.heap.size W w)
  {sa:Option Addr} {m c:Nat} (hx:a.eval x=.slice sa m c) (hr:RI S w (.slice sa m c) l2) (hlen:l.length+l2.length≤67108864)
  (h:∀v' w',FI (New W w') w' v' (l++l2)→Below W.heap.size W w'→w.grownBy w' v.ownBlock→K (a.put o.dst v') w') :
  if Region.wanted o (yielded ops a.tmps)=true then Oper.wp Tryz.prog o a w K Q else E:=by
 have hw:Region.wanted o (yielded ops a.tmps)=true:=by simp [Region.wanted,hgd]
 rw [if_pos hw];exact zVm s x ho hs hf hb hx hr hlen h
end
theorem RL.cutTo {α:Type} {e:Option TypeId} {S:Nat→Prop} {R:World→Value→α→Prop} {w:World} {a:Option Addr} {n cap k:Nat} {l:List α} (h:RL e S R w (.slice a n cap) l) (hk:k≤n):RL e S R w (.slice a k cap) (l.take k):=by
 obtain ⟨a',cap',hv,hc,h⟩:=h;simp only [Value.slice.injEq] at hv;obtain ⟨rfl,rfl,rfl⟩:=hv;have hl:(l.take k).length=k:=by simp; omega
 refine ⟨a,cap,by rw [hl],⟨by omega,hc.2⟩,?_⟩;rcases h with h | ⟨b,o,ha,hs,ht,h⟩
 ·subst h; exact .inl (by simp)
 ·exact .inr ⟨b,o,ha,hs,ht,fun j x hx=>h j x (by rw [List.getElem?_take] at hx; split at hx <;> first | exact hx | cases hx)⟩
theorem RL.cutFrom {α:Type} {e:Option TypeId} {S:Nat→Prop} {R:World→Value→α→Prop} {w:World} {b o n cap k:Nat} {l:List α} (h:RL e S R w (.slice (some ⟨b,o,none⟩) n cap) l) (hk:k≤n):RL e S R w (.slice (some ⟨b,o+k,none⟩) (n-k) (cap-k)) (l.drop k):=by
 obtain ⟨a',cap',hv,hc,h⟩:=h;simp only [Value.slice.injEq] at hv;obtain ⟨rfl,rfl,rfl⟩:=hv;have hl:(l.drop k).length=l.length-k:=by simp
 refine ⟨_,_,by rw [hl],⟨by omega,by omega⟩,?_⟩;rcases h with h | ⟨b',o',ha,hs,ht,h⟩
 ·subst h; exact .inl (by simp)
 ·simp only [Option.some.injEq,Addr.mk.injEq,and_true] at ha;obtain ⟨rfl,rfl⟩:=ha;refine .inr ⟨b,o+k,rfl,hs,ht,fun j x hx=>?_⟩;rw [List.getElem?_drop] at hx;obtain ⟨r,h1,h2⟩:=h _ x hx;exact ⟨r,by rw [Nat.add_assoc]; exact h1,h2⟩
theorem RL.cap {α:Type} {e:Option TypeId} {S:Nat→Prop} {R:World→Value→α→Prop} {w:World} {a:Option Addr} {n cap:Nat} {l:List α} (h:RL e S R w (.slice a n cap) l):n≤cap∧cap≤maxLen:=by
 obtain ⟨_,_,hv,hc,_⟩:=h;simp only [Value.slice.injEq] at hv;obtain ⟨_,rfl,rfl⟩:=hv;exact hc
theorem RL.cutEnd {α:Type} {e:Option TypeId} {S:Nat→Prop} {R:World→Value→α→Prop} {w:World} {a:Option Addr} {n cap k:Nat} {l:List α} (h:RL e S R w (.slice a n cap) l) (hk:n≤k) (_:0≤cap):RL e S R w (.slice a 0 0) (l.drop k):=by
 have hl:l.length=n:=by
  obtain ⟨_,_,hv,_⟩:=h;simp only [Value.slice.injEq] at hv;exact hv.2.1.symm
 rw [List.drop_of_length_le (by omega)];exact RL.nil _ _ (by omega)
end Go.Proofs.YtphbichgpcicnaaGreatDoor
namespace Go.Proofs.YtphbichgpcicnaaGreatDoor
open Go.RowKit
namespace Tail
set_option maxRecDepth 20000
section
variable {ops:Array Oper} {md:Region.Mode} {C:World→Prop}
def zHt (md:Region.Mode) (ops:Array Oper) (C:World→Prop) (n:Nat) (L:Array Bool→Act→Prop):Nat→Array Bool→Act→Prop
 | 0,listed,a=>L listed a
 | f+1,listed,a=>Region.ready md ops listed≠[]∧∀i∈Region.ready md ops listed,i<n∧qOp Tryz.prog ops C i (zHt md ops C n L f (listed.setIfInBounds i true)) a
theorem zGw {n g:Nat} {L:Array Bool→Act→Prop} {Q':Exit→Act→World→Prop} (hL:∀listed a w,C w→L listed a→wpAny Tryz.prog md ops Q' g listed a w) :
  ∀(f:Nat) (listed:Array Bool) (a:Act) (w:World),C w→zHt md ops C n L f listed a→wpAny Tryz.prog md ops Q' (f+g) listed a w
 | 0,listed,a,w,hw,h=>by rw [Nat.zero_add]; exact hL _ _ _ hw h
 | f+1,listed,a,w,hw,h=>by
  rw [show f+1+g=(f+g)+1 by omega];exact ⟨fun h0=>absurd h0 h.1,fun i hi=>wpOp_of_qOp hw (fun a' w' hw' h'=>zGw hL f _ a' w' hw' h') (h.2 i hi).2⟩
theorem zNi {n i:Nat} {oi:Oper} {v:Value} {L:Array Bool→Act→Prop} (hi:ops[i]? = some oi) (hsel:∀(j:Nat) (o:Oper) cs b,ops[j]? = some o→o.op≠.select cs b)
  (hs:Region.sinkB md ops n=true) (hc:Region.chainB md ops n=true) (hn:n<ops.size) (hin:i<n)
  (hdone:∀listed a,L listed a→∀j∈Region.ready md ops listed,n≤j) :
  ∀(f:Nat) (listed:Array Bool) (a:Act),HeadInv md ops n listed →
   (∀j oj,ops[j]? = some oj→j≠i→listed.getD j true=false→(∀e∈oj.after,Region.binds md e=true→e.on≠i)→oi.apart ops oj=true) →
   i∈Region.ready md ops listed→YieldsIn Tryz.prog ops C oi v a →
   zHt md ops C n L f (listed.setIfInBounds i true) (a.put oi.dst v)→zHt md ops C n L (f+1) listed a:=by
 intro f
 induction f with
 | zero =>
  intro listed a inv _ hr hy H;have hun:=(mem_ready.1 hr).1;refine ⟨fun h=>(by rw [h] at hr; cases hr),fun j hj=>?_⟩;have hjn:j<n:=by
   rcases Nat.lt_or_ge j n with h | h
   ·exact h
   ·exact absurd hj (tail_waits hs hc hn inv _ i rfl hin hun j h)
  refine ⟨hjn,?_⟩;by_cases hji:j=i
  ·subst hji; exact hy.qOp hi H
  ·have:=hdone _ _ H j (ready_mono hj hji);omega
 | succ f ih =>
  intro listed a inv hfree hr hy H;have hun:=(mem_ready.1 hr).1;refine ⟨fun h=>(by rw [h] at hr; cases hr),fun j hj=>?_⟩;have hjn:j<n:=by
   rcases Nat.lt_or_ge j n with h | h
   ·exact h
   ·exact absurd hj (tail_waits hs hc hn inv _ i rfl hin hun j h)
  refine ⟨hjn,?_⟩;by_cases hji:j=i
  ·subst hji; exact hy.qOp hi H
  ·have h1:=(H.2 j (ready_mono hj hji)).2;obtain ⟨hjun,oj,hoj,hall⟩:=mem_ready.1 hj;have hnot:∀e∈oj.after,Region.binds md e=true→e.on≠i:=fun e he hb heq=>by
    have h1:=hall e he hb;rw [heq,getD_both hun] at h1;cases h1
   have h2:=qOp_put hoj (hfree j oj hoj hji hjun hnot) (fun cs b=>hsel i oi cs b hi) (fun cs b=>hsel j oj cs b hoj) hy h1;have hfree':∀k ok,ops[k]? = some ok→k≠i→(listed.setIfInBounds j true).getD k true=false →
     (∀e∈ok.after,Region.binds md e=true→e.on≠i)→oi.apart ops ok=true:=fun k ok hk hki hun hno=>by
    refine hfree k ok hk hki ?_ hno;by_cases hjk:j=k
    ·subst hjk; exact hjun
    ·rw [getD_set_ne true hjk] at hun; exact hun
   refine qOp_mono (fun a' h3=>ih (listed.setIfInBounds j true) a' (inv.set hj hjn) hfree' (ready_mono hr (Ne.symm hji)) h3.1 ?_) h2;rw [Array.setIfInBounds_comm _ _ hji];exact h3.2
theorem zKS {n g:Nat} {Lq:Act→Prop} (hsel:Region.noSelect ops=true) (hs:Region.sinkB md ops n=true) (hc:Region.chainB md ops n=true) (hn:n<ops.size) :
  ∀(l:List Oper) (k:Nat) (listed:Array Bool) (a:Act),(∀j,j<l.length→l[j]? = ops[k+j]?)→k+l.length=n→HeadInv md ops n listed →
  Region.lexHead md ops g l.length k listed=true→wpQuiet Tryz.prog ops C Lq l a →
  zHt md ops C n (fun listed' a'=>Region.seqB md ops g n listed'=true∧Lq a') l.length listed a
 | [],k,listed,a,_,hk,_,hB,h=>by
  have:k=n:=by simpa using hk
  subst this;exact ⟨by simpa [Region.lexHead] using hB,h⟩
 | o::l,k,listed,a,hl,hk,inv,hB,h=>by
  have h0:ops[k]? = some o:=by simpa using (hl 0 (by simp)).symm
  simp only [List.length_cons,Region.lexHead,Bool.and_eq_true] at hB;obtain ⟨⟨hr,hf⟩,hB'⟩:=hB;have hkn:k<n:=by simp only [List.length_cons] at hk; omega
  have hr':k∈Region.ready md ops listed:=by simpa using hr
  have hst:qOp Tryz.prog ops C k (wpQuiet Tryz.prog ops C Lq l) a:=by unfold qOp; simp only [h0]; exact h
  obtain ⟨v,hy,hK⟩:=yieldsIn_of_qOp h0 hst;exact zNi h0 (Region.noSelect_spec hsel) hs hc hn hkn (fun listed' a' hL=>seqB_ready hL.1) l.length listed a inv (Region.free_spec h0 hf) hr' hy
   (zKS hsel hs hc hn l (k+1) _ _ (fun j hj=>by have:=hl (j+1) (by simp; omega); simpa [Nat.add_assoc,Nat.add_comm 1 j] using this) (by simp only [List.length_cons] at hk; omega) (inv.set hr' hkn) hB' hK)
theorem region_quiet_tail {id:Nat} {Q:Exit→Act→World→Prop} {a:Act} {w:World} {l:List Oper} (n:Nat) (hm:Tryz.prog.follows .mixedOrders=true) (hB:Region.lexTailB .any l.toArray n=true) (hC:C { w with drawn:=w.drawn+1 })
  (h:wpQuiet Tryz.prog l.toArray C (fun a'=>∀w',C w'→wpList Tryz.prog l.toArray Q (l.drop n) a' w') (l.take n) a):(Code.region id l.toArray true).wp Tryz.prog Q a w:=by
 simp only [Region.lexTailB,Bool.and_eq_true,decide_eq_true_eq] at hB;obtain ⟨⟨⟨⟨hsel,hn⟩,hs⟩,hc⟩,hlex⟩:=hB;have hn':n<l.length:=by simpa using hn
 have htl:(l.take n).length=n:=by simp; omega
 have hdl:(l.drop n).length=l.toArray.size-n:=by simp
 have inv0:HeadInv .any l.toArray n (Array.replicate l.toArray.size false) :=
  ⟨by simp,fun j oj _ hl=>(by rw [getD_replicate_false] at hl; cases hl),fun t _ ht=>getD_in (by simpa using ht) (getD_replicate_false _ _)⟩
 have H:=zKS (md:=.any) (g:=l.toArray.size-n) hsel hs hc hn (l.take n) 0 _ a (fun j hj=>by
  have hj':j<n:=by rw [htl] at hj; exact hj
  simp [hj']) (by simpa using htl) inv0 (by rw [htl]; exact hlex) h
 refine wp_region_any hm ?_;have:=zGw (Q':=Q) (g:=l.toArray.size-n) (fun listed a' w' hw' hL=>by
  have:=wpAny_of_seq (P:=Tryz.prog) (md:=.any) (Q':=Q) (l.drop n) n listed a' w' (fun j=>by simp [List.getElem?_drop]) (by rw [hdl]; exact hL.1) (hL.2 w' hw');rwa [hdl] at this) _ _ _ _ hC H
 rw [htl,show n+(l.toArray.size-n)=l.toArray.size by omega] at this;exact this
end
end Tail
theorem zHX {id:Nat} {Q:Exit→Act→World→Prop} {a:Act} {w:World} {l:List Oper} (n:Nat) (hm:Tryz.prog.follows .mixedOrders=true) (hB:Region.lexTailB .any l.toArray n=true)
  (h:wpQuiet Tryz.prog l.toArray (fun w'=>∃x:GW w,w'=x.wd) (fun a'=>∀w',Below w.heap.size w w'→wpList Tryz.prog l.toArray Q (l.drop n) a' w') (l.take n) a):(Code.region id l.toArray true).wp Tryz.prog Q a w:=by
 refine Tail.region_quiet_tail (C:=fun w'=>∃x:GW w,w'=x.wd) n hm hB ⟨⟨w.drew,(Below.refl _ w).drew⟩,rfl⟩ ?_;have:(fun a'=>∀w',Below w.heap.size w w'→wpList Tryz.prog l.toArray Q (l.drop n) a' w')=(fun a'=>∀w',(∃x:GW w,w'=x.wd)→wpList Tryz.prog l.toArray Q (l.drop n) a' w'):=by
  funext a';refine propext ⟨fun h w' hx=>?_,fun h w' hb=>h w' ⟨⟨w',hb⟩,rfl⟩⟩;obtain ⟨x,rfl⟩:=hx;exact h _ x.le
 rw [this] at h;exact h
end Go.Proofs.YtphbichgpcicnaaGreatDoor
