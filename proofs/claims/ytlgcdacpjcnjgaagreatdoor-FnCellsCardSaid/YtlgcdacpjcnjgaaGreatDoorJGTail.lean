/- 'append' to a slice of numbers at a step of a region; cuts of slices. Condition: at most 2^26 numbers. -/
import Derived.Test.YtlgcdacpjcnjgaaGreatDoorJGOwn
namespace Go.Proofs.YtlgcdacpjcnjgaaGreatDoor
open Go.RowKit
set_option maxRecDepth 20000
section
variable {w:World} {ops:Array Oper} {rest:List Oper} {o:Oper} {a:Act} {Q:Exit→Act→World→Prop}
theorem zSq {S:Nat→Prop} {W:World} {K:Act→World→Prop} (s x:Operand)
  (ho:o.op=.call { callee:=.builtin .append,args:=#[s,x],argTypes:=#[29,29] })
  {v:Value} {l l2:List Int} (hs:a.eval s=v) (hf:FI (New W w) w v l) (hb:Below W.heap.size W w)
  {sa:Option Addr} {m c:Nat} (hx:a.eval x=.slice sa m c) (hr:RI S w (.slice sa m c) l2) (hlen:l.length+l2.length≤67108864)
  (h:∀v' w',FI (New W w') w' v' (l++l2)→Below W.heap.size W w'→w.grownBy w' v.ownBlock→K (a.put o.dst v') w'):o.wp Tryz.prog a w K Q:=by
 obtain ⟨i0,hi,hz0,hz1,hz2⟩:=info_parts zA8;obtain ⟨hown,hS⟩:=hf;obtain ⟨a',cap',hv,hcap,hcase⟩:=hr;simp only [Value.slice.injEq] at hv;obtain ⟨rfl,rfl,rfl⟩:=hv;have hown':w.ownsRow W.heap.size 3 1 v l.length (l.map (Value.int .i64)):=by
  refine ⟨hown.1,?_⟩;rcases hown.2 with h | ⟨g,cap,cur,hv,_,r⟩
  ·exact .inl h
  ·exact .inr ⟨g,cap,cur,hv,(hS g (by rw [hv]; rfl)).1,r⟩
 have fin:∀v' w',w'.ownsRow W.heap.size 3 1 v' (l.length+l2.length) (l.map (Value.int .i64)++l2.map (Value.int .i64))→w.grownBy w' v.ownBlock→K (a.put o.dst v') w':=by
  intro v' w' h1 h2;have hb':Below W.heap.size W w':=hb.grown h2 hb.size (fun k hk=>(hS k hk).1);exact h v' w' (FI.of_row h1 (zTI _) (by simp) (by simp)) hb' h2
 cases sa with
 | none =>
  have h0:l2=[]:=by
   rcases hcase with h | ⟨b,o,ha,_⟩
   ·exact h
   ·cases ha
  subst h0;have hrun:=zBw (w:=w) W.heap.size 29 o.type 3 i0 1 Tryz.underlying29 hi v l.length c _ hown';have fin':=fin v w (by simpa using hown') (World.grownBy.refl _ _);clear fin h hb hS hown;unfold Oper.wp;rw [show ([]:List Int).length=0 from rfl] at hx;simp [execOp,ho,resolve,invoke,builtin,hs,hx,hrun,Result.andThen];exact fin'
 | some ad =>
  refine wp_append_own w s x 29 ho W.heap.size 3 i0 (.int .i64 0) 1 8 Tryz.underlying29 hi hz0 hz1 hz2 rfl (by decide) v l.length (l.map (Value.int .i64)) hs hown' ad l2.length c (l2.map (Value.int .i64)) hx (by simp) ?_ ?_ ?_ ?_ hb.size (fun v' w' h1 h2 _=>fin v' w' h1 h2)
  ·intro j u hj;rcases hcase with h | ⟨b,o,ha,_,_,hc⟩
   ·subst h; simp at hj
   ·simp only [Option.some.injEq] at ha;subst ha;rw [List.getElem?_map] at hj;obtain ⟨x,hx1,hx2⟩:=Option.map_eq_some_iff.1 hj;obtain ⟨r,h1,h2⟩:=hc j x hx1;have hadd:(⟨b,o,none⟩:Addr).add j=⟨b,o+j,none⟩:=by unfold Addr.add; split <;> simp_all
    rw [hadd,h1,<-hx2];exact congrArg some h2
  ·intro u hu;obtain ⟨x,_,rfl⟩:=List.mem_map.1 hu;rfl
  ·unfold maxLen; omega
  ·omega
theorem zDf {S:Nat→Prop} {W:World} {K:Act→World→Prop} {E:Prop} (hgd:o.guard=none) (s x:Operand)
  (ho:o.op=.call { callee:=.builtin .append,args:=#[s,x],argTypes:=#[29,29] })
  {v:Value} {l l2:List Int} (hs:a.eval s=v) (hf:FI (New W w) w v l) (hb:Below W.heap.size W w)
  {sa:Option Addr} {m c:Nat} (hx:a.eval x=.slice sa m c) (hr:RI S w (.slice sa m c) l2) (hlen:l.length+l2.length≤67108864)
  (h:∀v' w',FI (New W w') w' v' (l++l2)→Below W.heap.size W w'→w.grownBy w' v.ownBlock→K (a.put o.dst v') w') :
  if Region.wanted o (yielded ops a.tmps)=true then Oper.wp Tryz.prog o a w K Q else E:=by
 have hw:Region.wanted o (yielded ops a.tmps)=true:=by simp [Region.wanted,hgd]
 rw [if_pos hw];exact zSq s x ho hs hf hb hx hr hlen h
end
theorem RL.cutTo {α:Type} {e:Option TypeId} {S:Nat→Prop} {R:World→Value→α→Prop} {w:World} {a:Option Addr} {n cap k:Nat} {l:List α} (h:RL e S R w (.slice a n cap) l) (hk:k≤n):RL e S R w (.slice a k cap) (l.take k):=by
 obtain ⟨a',cap',hv,hc,h⟩:=h;simp only [Value.slice.injEq] at hv;obtain ⟨rfl,rfl,rfl⟩:=hv;have hl:(l.take k).length=k:=by simp; omega
 refine ⟨a,cap,by rw [hl],⟨by omega,hc.2⟩,?_⟩;rcases h with h | ⟨b,o,ha,hs,ht,h⟩
 ·subst h; exact .inl (by simp)
 ·exact .inr ⟨b,o,ha,hs,ht,fun j x hx=>h j x (by rw [List.getElem?_take] at hx; split at hx <;> first | exact hx | cases hx)⟩
theorem RL.cutFrom {α:Type} {e:Option TypeId} {S:Nat→Prop} {R:World→Value→α→Prop} {w:World} {b o n cap k:Nat} {l:List α} (h:RL e S R w (.slice (some ⟨b,o,none⟩) n cap) l) (hk:k≤n):RL e S R w (.slice (some ⟨b,o+k,none⟩) (n-k) (cap-k)) (l.drop k):=by
 obtain ⟨a',cap',hv,hc,h⟩:=h;simp only [Value.slice.injEq] at hv;obtain ⟨rfl,rfl,rfl⟩:=hv;have hl:(l.drop k).length=l.length-k:=by simp
 refine ⟨_,_,by rw [hl],⟨by omega,by omega⟩,?_⟩;rcases h with h | ⟨b',o',ha,hs,ht,h⟩
 ·subst h; exact .inl (by simp)
 ·simp only [Option.some.injEq,Addr.mk.injEq,and_true] at ha;obtain ⟨rfl,rfl⟩:=ha;refine .inr ⟨b,o+k,rfl,hs,ht,fun j x hx=>?_⟩;rw [List.getElem?_drop] at hx;obtain ⟨r,h1,h2⟩:=h _ x hx;exact ⟨r,by rw [Nat.add_assoc]; exact h1,h2⟩
theorem RL.cap {α:Type} {e:Option TypeId} {S:Nat→Prop} {R:World→Value→α→Prop} {w:World} {a:Option Addr} {n cap:Nat} {l:List α} (h:RL e S R w (.slice a n cap) l):n≤cap∧cap≤maxLen:=by
 obtain ⟨_,_,hv,hc,_⟩:=h;simp only [Value.slice.injEq] at hv;obtain ⟨_,rfl,rfl⟩:=hv;exact hc
theorem RL.cutEnd {α:Type} {e:Option TypeId} {S:Nat→Prop} {R:World→Value→α→Prop} {w:World} {a:Option Addr} {n cap k:Nat} {l:List α} (h:RL e S R w (.slice a n cap) l) (hk:n≤k) (_:0≤cap):RL e S R w (.slice a 0 0) (l.drop k):=by
 have hl:l.length=n:=by
  obtain ⟨_,_,hv,_⟩:=h;simp only [Value.slice.injEq] at hv;exact hv.2.1.symm
 rw [List.drop_of_length_le (by omega)];exact RL.nil _ _ (by omega)
end Go.Proofs.YtlgcdacpjcnjgaaGreatDoor
