/- Rows of values of the call's own: a literal of one, appending none, appending all of another's. No condition. -/
import Derived.Test.YtlgcdacpjcnjgaaGreatDoorJGInV
namespace Go.Proofs.YtlgcdacpjcnjgaaGreatDoor
open Go.RowKit
set_option maxRecDepth 20000
theorem HSx.newV1 {A:Nat→Prop} {w0 w w1:World} {Ps:List zAI} (h:HSx A w0 w Ps) (r:Value) (hw:w1=w.alloc (.cells #[r] 29)):HSx A w0 w1 (Ps++[aV 29 (.slice (some ⟨w.heap.size,0,none⟩) 1 1) [r]]):=by
 subst hw;refine h.add ((Below.refl _ _).alloc (zTI _) _) (st_V _ _ _) (F:=fun b=>b=w.heap.size) ⟨?_,fun b hb=>?_⟩ (fun b hb=>by subst hb; exact ⟨zTI _,by simp⟩)
 ·exact zBp (World.ownsRow_lit (base:=w.heap.size) (e:=29) (size:=1) w #[r] 1 (zTI _) (by unfold maxLen; omega) rfl) (Nat.zero_le _)
 ·simp only [Value.ownBlock,Option.some.injEq] at hb; exact hb.symm
section
variable {w:World} {ops:Array Oper} {rest:List Oper} {o:Oper} {a:Act} {Q:Exit→Act→World→Prop}
theorem zIC {A:Nat→Prop} {W:World} {Ps:List zAI} (hgd:o.guard=none) (s x:Operand) {t e:TypeId} {z:Value} {bytes:Nat} (ht:Tryz.prog.underlying t=some (.slice e))
  (hinfo:(Tryz.prog.info? e).map (fun i=>(i.zero,i.size,i.bytes))=some (some z,1,bytes))
  (ho:o.op=.call { callee:=.builtin .append,args:=#[s,x],argTypes:=#[t,t] })
  {v:Value} {vs:List Value} {c:Nat} (hs:a.eval s=v) (h:HSx A W w Ps) (i:Nat) (hi:Ps[i]? = some (aV e v vs)) (hx:a.eval x=.slice none 0 c)
  (k:wpList Tryz.prog ops Q rest (a.put o.dst v) w):wpList Tryz.prog ops Q (o::rest) a w:=by
 obtain ⟨i0,hi0,hz0,hz1,hz2⟩:=info_parts hinfo;obtain ⟨F0,hf,_⟩:=HSx.get h i hi;have hrun:=zBw (w:=w) 0 t o.type e i0 1 ht hi0 v vs.length c vs hf.1;refine wpList_plain hgd fun K hK=>?_;unfold Oper.wp;simp [execOp,ho,resolve,invoke,builtin,hs,hx,hrun,Result.andThen];exact hK _ _ k
end
end Go.Proofs.YtlgcdacpjcnjgaaGreatDoor
namespace Go.Proofs.YtlgcdacpjcnjgaaGreatDoor
open Go.RowKit
set_option maxRecDepth 20000
section
variable {w:World} {ops:Array Oper} {rest:List Oper} {o:Oper} {a:Act} {Q:Exit→Act→World→Prop}
theorem zRq {A:Nat→Prop} {W:World} {K:Act→World→Prop} {Ps:List zAI} (s x:Operand) {t e:TypeId} {z:Value} {bytes:Nat} (ht:Tryz.prog.underlying t=some (.slice e))
  (hinfo:(Tryz.prog.info? e).map (fun i=>(i.zero,i.size,i.bytes))=some (some z,1,bytes)) (hzs:z.cells.size=1) (hby:bytes≤1024)
  (ho:o.op=.call { callee:=.builtin .append,args:=#[s,x],argTypes:=#[t,t] })
  {v:Value} {vs us:List Value} {g m c:Nat} (hs:a.eval s=v) (h:HSx A W w Ps) (i j:Nat) (hi:Ps[i]? = some (aV e v vs)) (hj:Ps[j]? = some (aV e (.slice (some ⟨g,0,none⟩) m c) us)) (hm:us.length=m) (hnew:∀b,v.ownBlock=some b→W.heap.size≤b)
  (hx:a.eval x=.slice (some ⟨g,0,none⟩) m c) (h1:∀u∈us,u.oneCell'=true) (hlen:vs.length+m≤67108864)
  (k:∀v' w',HSx A W w' (Ps.set i (aV e v' (vs++us)))→(∀b,v'.ownBlock=some b→W.heap.size≤b)→K (a.put o.dst v') w'):o.wp Tryz.prog a w K Q:=by
 obtain ⟨F0,hf,_⟩:=HSx.get h i hi;refine zDP s x ht hinfo hzs (by decide) ho (base:=0) (news:=us) hs hf.1 (Nat.zero_le _) hx (by omega) ?_ h1 hlen hby ?_
 ·intro q u hq;have:=(h.cellV j hj hq).1;by_cases hq0:q=0
  ·subst hq0; simpa [Addr.add] using this
  ·simpa [Addr.add,hq0] using this
 ·intro v' w' h2 h3 h4;refine k v' w' (h.upd i hi (st_V _ _ _) (zBA h.bl h3 hnew) h3.size fun F hF _=>⟨fun b=>v'.ownBlock=some b,⟨?_,fun b hb=>hb⟩,fun b hb=>?_,fun b hl hb=>h3.block b hl (fun e=>hb (hF.2 b e.symm))⟩) (fun b hb=>?_)
  ·rw [List.length_append,hm]; exact h2
  ·rcases h4 b hb with e | e
   ·exact .inl (hF.2 b e)
   ·exact .inr ⟨e,(h2.lt b hb).2⟩
  ·rcases h4 b hb with e | e
   ·exact hnew b e
   ·exact Nat.le_trans h.bl.size e
theorem zDB {A:Nat→Prop} {W:World} {Ps:List zAI} (hgd:o.guard=none) (s x:Operand)
  (ho:o.op=.call { callee:=.builtin .append,args:=#[s,x],argTypes:=#[24,24] })
  {v:Value} {vs us:List Value} {g m c:Nat} (hs:a.eval s=v) (h:HSx A W w Ps) (i j:Nat) (hi:Ps[i]? = some (aV 29 v vs)) (hj:Ps[j]? = some (aV 29 (.slice (some ⟨g,0,none⟩) m c) us)) (hm:us.length=m) (hnew:∀b,v.ownBlock=some b→W.heap.size≤b)
  (hx:a.eval x=.slice (some ⟨g,0,none⟩) m c) (h1:∀u∈us,u.oneCell'=true) (hlen:vs.length+m≤67108864)
  (k:∀v' w',HSx A W w' (Ps.set i (aV 29 v' (vs++us)))→(∀b,v'.ownBlock=some b→W.heap.size≤b)→wpList Tryz.prog ops Q rest (a.put o.dst v') w'):wpList Tryz.prog ops Q (o::rest) a w :=
 wpList_plain hgd fun _ hK=>zRq s x Tryz.underlying24 zCN rfl (by decide) ho hs h i j hi hj hm hnew hx h1 hlen fun v' w' h2 h3=>hK _ _ (k v' w' h2 h3)
end
theorem HSx.bothS {A:Nat→Prop} {w0 w:World} {Ps:List zAI} {Z Y:Zl} (h:HSx A w0 w Ps) (i j:Nat) (hij:i≠j) (hi:Ps[i]? = some (aRs Z)) (hj:Ps[j]? = some (aRs Y)):HSx A w0 w ((Ps.set i (aRs (Z++Y))).set j zCI) :=
 h.join i j hij hi hj (zA7 _) fun F G hF hG hd=>⟨fun x hx=>by
  rcases List.mem_append.1 hx with hx | hx
  ·exact FI.mono (hF.1 x hx) (fun b hb=>.inl hb)
  ·exact FI.mono (hG.1 x hx) (fun b hb=>.inr hb),by
  rw [List.map_append,List.pairwise_append];refine ⟨hF.2,hG.2,fun a ha b hb q hq hq'=>?_⟩;obtain ⟨z,hz,rfl⟩:=List.mem_map.1 ha;obtain ⟨y,hy,rfl⟩:=List.mem_map.1 hb;exact hd q ((hF.1 z hz).2 q hq) ((hG.1 y hy).2 q hq')⟩
end Go.Proofs.YtlgcdacpjcnjgaaGreatDoor
