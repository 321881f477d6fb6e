/- A row of truth values of the call's own. No condition. -/
import Derived.Test.YtlgcdacpjcnjgaaGreatDoorJGCart
namespace Go.Proofs.YtlgcdacpjcnjgaaGreatDoor
open Go.RowKit
set_option maxRecDepth 20000
theorem zDY:(Tryz.prog.info? 4).map (fun i=>(i.zero,i.size,i.bytes))=some (some (.bool false),1,1):=by kernel_rfl
def FBo (S:Nat→Prop) (w:World) (v:Value) (l:List Bool):Prop:=w.ownsRow 0 4 1 v l.length (l.map Value.bool)∧∀b,v.ownBlock=some b→S b
theorem FBo.mono {S S':Nat→Prop} {w:World} {v:Value} {l:List Bool} (h:FBo S w v l) (hS:∀b,S b→S' b):FBo S' w v l:=⟨h.1,fun b hb=>hS b (h.2 b hb)⟩
theorem FBo.below {S:Nat→Prop} {w w':World} {v:Value} {l:List Bool} (h:FBo S w v l) (hb:Below w.heap.size w w'):FBo S w' v l:=⟨zE6 h.1 hb,h.2⟩
theorem FBo.grow {W w w':World} {v:Value} {l:List Bool} (h:FBo (New W w) w v l) (hb:Below w.heap.size w w'):FBo (New W w') w' v l :=
 (h.below hb).mono fun b hb'=>⟨hb'.1,by have:=hb'.2; have:=hb.size; omega⟩
theorem FBo.of_row {w w':World} {B:Nat} {v:Value} {l:List Bool} {n:Nat} {xs:List Value} (h:w'.ownsRow B 4 1 v n xs) (hB:w.heap.size≤B) (hn:n=l.length) (hx:xs=l.map Value.bool):FBo (New w w') w' v l:=by
 subst hn;subst hx;exact ⟨zBp h (Nat.zero_le _),fun b hb=>by obtain ⟨h1,h2⟩:=h.lt b hb; exact ⟨by omega,h2⟩⟩
theorem FBo.cell {S:Nat→Prop} {w:World} {g n cap:Nat} {l:List Bool} (h:FBo S w (.slice (some ⟨g,0,none⟩) n cap) l) (hl:l.length=n) {k:Nat} {x:Bool} (hx:l[k]? = some x):w.cell? ⟨g,k,none⟩=some (.bool x):=by
 subst hl;have hk:k<l.length:=(zTG hx).1;rw [h.1.cellAt k (by omega),List.getElem?_map,hx]; rfl
theorem FBo.froz {S:Nat→Prop} {w:World} {g n cap:Nat} {l:List Bool} (h:FBo S w (.slice (some ⟨g,0,none⟩) n cap) l) (hl:l.length=n) (k:Nat):w.frozen? ⟨g,k,none⟩=false:=by
 subst hl;exact h.1.frozenAt k
theorem FBo.put {S:Nat→Prop} {w:World} {g n cap:Nat} {l:List Bool} (h:FBo S w (.slice (some ⟨g,0,none⟩) n cap) l) (hl:l.length=n) (k:Nat) (x:Bool):FBo S (w.setCell ⟨g,k,none⟩ (.bool x)) (.slice (some ⟨g,0,none⟩) n cap) (l.set k x):=by
 subst hl;have:=(h.1.stored k (.bool x)).1;refine ⟨?_,h.2⟩;rw [List.length_set,List.map_set];exact this
theorem FBo.head {S:Nat→Prop} {w:World} {v:Value} {l:List Bool} (h:FBo S w v l) (h0:0<l.length):∃g cap,v=.slice (some ⟨g,0,none⟩) l.length cap∧S g∧g<w.heap.size:=by
 rcases h.1.2 with ⟨_,hn⟩ | ⟨g,cap,cur,hv,_⟩
 ·omega
 ·exact ⟨g,cap,hv,h.2 g (by rw [hv]; rfl),(h.1.lt g (by rw [hv]; rfl)).2⟩
theorem FBo.tag {S:Nat→Prop} {w:World} {v:Value} {l:List Bool} (h:FBo S w v l) {b:Nat} (hb:v.ownBlock=some b):∃cur,w.heap[b]? = some (.cells cur 4 (0,0)):=zA1 h.1 hb
theorem FBo.grown {S S':Nat→Prop} {w w':World} {v r:Value} {l:List Bool} {m:List Int} (h:FBo S w v l) (hr:FI S' w r m) (hg:w.grownBy w' r.ownBlock):FBo S w' v l :=
 ⟨zAk h.1 fun b hb=>hg.block b (h.1.lt b hb).2 (fun e=>by
  obtain ⟨c1,t1⟩:=zA1 hr.1 e.symm;obtain ⟨c2,t2⟩:=zA1 h.1 hb;rw [t1] at t2;simp at t2),h.2⟩
theorem FI.storedB {S S':Nat→Prop} {w:World} {v:Value} {g j:Nat} {n cap:Nat} {l:List Bool} {m:List Int} {x:Value} (h:FI S' w v m) (hb:FBo S w (.slice (some ⟨g,0,none⟩) n cap) l):FI S' (w.setCell ⟨g,j,none⟩ x) v m :=
 h.keep fun b hv=>heap_setCell_other w ⟨g,j,none⟩ b x (fun e=>by
  obtain ⟨c1,t1⟩:=zA1 hb.1 (b:=g) rfl;obtain ⟨c2,t2⟩:=zA1 h.1 hv;rw [e,t1] at t2;simp at t2)
def FR (S:Nat→Prop) (w:World) (v:Value) (L:List (List Int)):Prop :=
 ∃vs,w.ownsRow 0 29 1 v L.length vs∧vs.length=L.length∧(∀b,v.ownBlock=some b→S b)∧∀(j:Nat) (r:Value) (l:List Int),vs[j]? = some r→L[j]? = some l→RI S w r l
section
variable {S S':Nat→Prop} {W w w':World} {v:Value} {L:List (List Int)}
theorem FR.reads (h:FR S w v L):RII S w v L:=by
 obtain ⟨vs,h1,h2,h3,h4⟩:=h;exact RL.of_own h1 rfl (fun b hb _=>h3 b hb) (fun j x r hx hr=>h4 j r x hr hx)
theorem FR.below (h:FR S w v L) (hb:Below w.heap.size w w'):FR S w' v L:=by
 obtain ⟨vs,h1,h2,h3,h4⟩:=h;exact ⟨vs,zE6 h1 hb,h2,h3,fun j r l hr hl=>(h4 j r l hr hl).below hb⟩
theorem RI.mono {l:List Int} (h:RI S w v l) (hS:∀b,S b→S' b):RI S' w v l:=RL.mono h hS (fun _ _ h=>h)
theorem FR.mono (h:FR S w v L) (hS:∀b,S b→S' b):FR S' w v L:=by
 obtain ⟨vs,h1,h2,h3,h4⟩:=h;exact ⟨vs,h1,h2,fun b hb=>hS b (h3 b hb),fun j r l hr hl=>(h4 j r l hr hl).mono hS⟩
theorem FR.grow (h:FR (New W w) w v L) (hb:Below w.heap.size w w'):FR (New W w') w' v L :=
 (h.below hb).mono fun b hb'=>⟨hb'.1,by have:=hb'.2; have:=hb.size; omega⟩
theorem FR.form (h:FR S w v L):∃a cap,v=.slice a L.length cap:=h.reads.form
theorem FR.any (h:FR S w v L):RII Any w v L:=RII.any h.reads
theorem FR.empty_of {w1:World} (hw:Below W.heap.size W w) (h:w1=w.alloc (.cells #[] 29)):FR (New W w1) w1 (.slice (some ⟨w.heap.size,0,none⟩) 0 0) []∧Below W.heap.size W w1:=by
 have hb:Below W.heap.size W w1:=by rw [h]; exact hw.alloc hw.size _
 refine ⟨⟨[],?_,rfl,fun b hb=>?_,fun j r l hr _=>by simp at hr⟩,hb⟩
 ·rw [h];exact World.ownsRow_lit (base:=0) (e:=29) (size:=1) w #[] 0 (Nat.zero_le _) (by unfold maxLen; omega) rfl
 ·simp [Value.ownBlock] at hb;subst hb;exact ⟨hw.size,by rw [h]; simp⟩
theorem RI.grown {S:Nat→Prop} {w w':World} {v r:Value} {l:List Int} (h:RI S w r l) (hg:w.grownBy w' v.ownBlock) (ht:∀b,v.ownBlock=some b→∃cur,w.heap[b]? = some (.cells cur 29 (0,0))):RI S w' r l:=by
 obtain ⟨a,cap,hv,hcap,h⟩:=h;refine ⟨a,cap,hv,hcap,?_⟩;rcases h with h | ⟨b,o,ha,hs,ht',hc⟩
 ·exact .inl h
 ·obtain ⟨cur',fz',hb⟩:=ht';have hne:v.ownBlock≠some b:=fun e=>by
   obtain ⟨cur,h1⟩:=ht b e;rw [hb] at h1;simp at h1
  have hlt:b<w.heap.size:=(Array.getElem?_eq_some_iff.1 hb).1;have hk:w'.heap[b]? = w.heap[b]?:=hg.block b hlt (fun e=>hne e.symm);refine .inr ⟨b,o,ha,hs,⟨cur',fz',by rw [hk]; exact hb⟩,fun j x hx=>?_⟩;obtain ⟨r,h1,h2⟩:=hc j x hx;exact ⟨r,by rw [World.cell?_of_block (w:=w) hk]; exact h1,h2⟩
end
theorem FR.keep {S:Nat→Prop} {w w':World} {v:Value} {L:List (List Int)} (h:FR S w v L) (hk:∀b,S b→b<w.heap.size→w'.heap[b]? = w.heap[b]?):FR S w' v L:=by
 obtain ⟨vs,h1,h2,h3,h4⟩:=h;exact ⟨vs,zAk h1 (fun b hb=>hk b (h3 b hb) (h1.lt b hb).2),h2,h3,fun j r l hr hl=>RI.keep (h4 j r l hr hl) hk⟩
theorem FR.tag {S:Nat→Prop} {w:World} {v:Value} {L:List (List Int)} (h:FR S w v L) {b:Nat} (hb:v.ownBlock=some b):∃cur,w.heap[b]? = some (.cells cur 29 (0,0)):=by
 obtain ⟨vs,h1,_⟩:=h;exact zA1 h1 hb
section
variable {w:World} {ops:Array Oper} {rest:List Oper} {o:Oper} {a:Act} {Q:Exit→Act→World→Prop}
theorem zLC {W:World} {K:Act→World→Prop} (s x:Operand)
  (ho:o.op=.call { callee:=.builtin .append,args:=#[s,x],argTypes:=#[24,24] })
  {v:Value} {L:List (List Int)} {r:Value} {l:List Int} (hs:a.eval s=v) (hf:FR (New W w) w v L) (hb:Below W.heap.size W w)
  {H:Nat} (hx:a.eval x=.slice (some ⟨H,0,none⟩) 1 1) (hc:w.cell? ⟨H,0,none⟩=some r) (hr:RI (New W w) w r l) (hlen:L.length+1≤67108864)
  (h:∀v' w',FR (New W w') w' v' (L++[l])→Below W.heap.size W w'→w.grownBy w' v.ownBlock→K (a.put o.dst v') w'):o.wp Tryz.prog a w K Q:=by
 obtain ⟨i0,hi,hz0,hz1,hz2⟩:=info_parts zCN;obtain ⟨vs,hown,hvl,hS,hrs⟩:=hf;have hown':w.ownsRow W.heap.size 29 1 v L.length vs:=by
  refine ⟨hown.1,?_⟩;rcases hown.2 with h | ⟨g,cap,cur,hv,_,r⟩
  ·exact .inl h
  ·exact .inr ⟨g,cap,cur,hv,(hS g (by rw [hv]; rfl)).1,r⟩
 refine wp_append_own w s x 24 ho W.heap.size 29 i0 (.slice none 0 0) 1 24 Tryz.underlying24 hi hz0 hz1 hz2 rfl (by decide) v L.length vs hs hown' ⟨H,0,none⟩ 1 1 [r] hx rfl ?_ ?_ ?_ ?_ hb.size ?_
 ·intro j u hj
  match j,hj with
  | 0,hj=>simp at hj; subst hj; simpa [Addr.add] using hc
 ·intro u hu;simp at hu; subst hu;obtain ⟨_,_,rfl⟩:=hr.form;rfl
 ·unfold maxLen; omega
 ·omega
 ·intro v' w' h1 h2 _;have hb':Below W.heap.size W w':=hb.grown h2 hb.size (fun k hk=>(hS k hk).1);have hsz:w.heap.size≤w'.heap.size:=h2.size;have htag:∀b,v.ownBlock=some b→∃cur,w.heap[b]? = some (.cells cur 29 (0,0)):=fun b hb=>zA1 hown hb;have hnew:∀b,New W w b→New W w' b:=fun b hb=>⟨hb.1,by have:=hb.2; omega⟩;refine h v' w' ⟨vs++[r],?_,by simp [hvl],fun b hb=>?_,fun j r' l' hr' hl'=>?_⟩ hb' h2
  ·rw [List.length_append];exact zBp h1 (Nat.zero_le _)
  ·exact ⟨(h1.lt b hb).1,(h1.lt b hb).2⟩
  ·rcases Nat.lt_or_ge j L.length with hj | hj
   ·rw [List.getElem?_append_left (by omega)] at hr';rw [List.getElem?_append_left (by omega)] at hl';exact ((hrs j r' l' hr' hl').grown h2 htag).mono hnew
   ·rw [List.getElem?_append_right (by omega)] at hr';rw [List.getElem?_append_right (by omega)] at hl';have h0:j-L.length=0:=by
     rcases Nat.eq_zero_or_pos (j-L.length) with h | h
     ·exact h
     ·rw [List.getElem?_eq_none (by simp; omega)] at hl'; cases hl'
    rw [hvl,h0] at hr';rw [h0] at hl';simp at hr' hl';subst hr'; subst hl';exact (hr.grown h2 htag).mono hnew
theorem zBg {W:World} (hgd:o.guard=none) (s x:Operand)
  (ho:o.op=.call { callee:=.builtin .append,args:=#[s,x],argTypes:=#[24,24] })
  {v:Value} {L:List (List Int)} {r:Value} {l:List Int} (hs:a.eval s=v) (hf:FR (New W w) w v L) (hb:Below W.heap.size W w)
  {H:Nat} (hx:a.eval x=.slice (some ⟨H,0,none⟩) 1 1) (hc:w.cell? ⟨H,0,none⟩=some r) (hr:RI (New W w) w r l) (hlen:L.length+1≤67108864)
  (h:∀v' w',FR (New W w') w' v' (L++[l])→Below W.heap.size W w'→w.grownBy w' v.ownBlock→wpList Tryz.prog ops Q rest (a.put o.dst v') w'):wpList Tryz.prog ops Q (o::rest) a w :=
 wpList_plain hgd fun _ hK=>zLC s x ho hs hf hb hx hc hr hlen (fun v' w' h1 h2 h3=>hK _ _ (h v' w' h1 h2 h3))
theorem zHy {W:World} {K:Act→World→Prop} {E:Prop} (hgd:o.guard=none) (s x:Operand)
  (ho:o.op=.call { callee:=.builtin .append,args:=#[s,x],argTypes:=#[24,24] })
  {v:Value} {L:List (List Int)} {r:Value} {l:List Int} (hs:a.eval s=v) (hf:FR (New W w) w v L) (hb:Below W.heap.size W w)
  {H:Nat} (hx:a.eval x=.slice (some ⟨H,0,none⟩) 1 1) (hc:w.cell? ⟨H,0,none⟩=some r) (hr:RI (New W w) w r l) (hlen:L.length+1≤67108864)
  (h:∀v' w',FR (New W w') w' v' (L++[l])→Below W.heap.size W w'→w.grownBy w' v.ownBlock→K (a.put o.dst v') w') :
  if Region.wanted o (yielded ops a.tmps)=true then Oper.wp Tryz.prog o a w K Q else E:=by
 have hw:Region.wanted o (yielded ops a.tmps)=true:=by simp [Region.wanted,hgd]
 rw [if_pos hw];exact zLC s x ho hs hf hb hx hc hr hlen h
end
end Go.Proofs.YtlgcdacpjcnjgaaGreatDoor
namespace Go.Proofs.YtlgcdacpjcnjgaaGreatDoor
open Go.RowKit
set_option maxRecDepth 20000
theorem FI.grown {S:Nat→Prop} {w w':World} {v r:Value} {l:List Int} (h:FI S w r l) (hg:w.grownBy w' v.ownBlock) (ht:∀b,v.ownBlock=some b→∃cur,w.heap[b]? = some (.cells cur 29 (0,0))):FI S w' r l :=
 h.keep fun b hb=>hg.block b (h.1.lt b hb).2 (fun e=>by
  obtain ⟨c1,t1⟩:=ht b e.symm;obtain ⟨c2,t2⟩:=zA1 h.1 hb;rw [t1] at t2;simp at t2)
section
variable {w:World} {ops:Array Oper} {rest:List Oper} {o:Oper} {a:Act} {Q:Exit→Act→World→Prop}
end
theorem FII.empty_of {W w w1:World} (hw:Below W.heap.size W w) (h:w1=w.alloc (.cells #[] 29)):FII (New W w1) w1 (.slice (some ⟨w.heap.size,0,none⟩) 0 0) []∧Below W.heap.size W w1:=by
 have hb:Below W.heap.size W w1:=by rw [h]; exact hw.alloc hw.size _
 refine ⟨⟨[],?_,rfl,fun b hb=>?_,fun j r x hr _=>by simp at hr,fun i j r r' b _ hr=>by simp at hr⟩,hb⟩
 ·rw [h];exact World.ownsRow_lit (base:=0) (e:=29) (size:=1) w #[] 0 (Nat.zero_le _) (by unfold maxLen; omega) rfl
 ·simp [Value.ownBlock] at hb;subst hb;exact ⟨hw.size,by rw [h]; simp⟩
end Go.Proofs.YtlgcdacpjcnjgaaGreatDoor
