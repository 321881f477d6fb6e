/- The laws' own helpers over lists of weights with counts. Condition: sizes up to 2^24. -/
import Derived.Test.YtphbichgpcicnaaGreatDoorJGHeap
namespace Go.Proofs.YtphbichgpcicnaaGreatDoor
open Go.RowKit
set_option maxRecDepth 20000
abbrev Wtd:=List Int × Int
def RWtd (S:Nat→Prop) (w:World) (r r':Value) (x:Wtd):Prop:=RI S w r x.1∧r'=.int .i64 x.2
abbrev RW (S:Nat→Prop):=RL2 (some 63) S (RWtd S)
def zVw (w:World) (r r':Value) (x:Wtd):Prop:=RI0 w r x.1∧r'=.int .i64 x.2
abbrev RW0:=RL2 none Any zVw
theorem RW0.below {w w':World} {v:Value} {L:List Wtd} (h:RW0 w v L) (hb:Below w.heap.size w w'):RW0 w' v L :=
 RL2.keep h (fun b _ hl=>hb.block b hl) (fun _ _ _ h=>⟨RI0.below h.1 hb,h.2⟩)
theorem RW.keep {S:Nat→Prop} {w w':World} {v:Value} {L:List Wtd} (h:RW S w v L) (hb:∀b,S b→b<w.heap.size→w'.heap[b]? = w.heap[b]?):RW S w' v L :=
 RL2.keep h hb (fun _ _ _ h=>⟨RI.keep h.1 hb,h.2⟩)
theorem RW.below {S:Nat→Prop} {w w':World} {v:Value} {L:List Wtd} (h:RW S w v L) (hb:Below w.heap.size w w'):RW S w' v L:=RW.keep h fun b _ hl=>hb.block b hl
theorem RW.drewN {S:Nat→Prop} {w:World} {v:Value} {L:List Wtd} (h:RW S w v L) (n:Nat):RW S (w.drewN n) v L:=RW.keep h fun _ _ _=>rfl
theorem RW.any {S:Nat→Prop} {w:World} {v:Value} {L:List Wtd} (h:RW S w v L):RW Any w v L:=RL2.mono h (fun _ _=>trivial) (fun _ _ _ h=>⟨RI.any h.1,h.2⟩)
theorem RW.only {S S':Nat→Prop} {w w':World} {v:Value} {L:List Wtd} (h:RW S w v L) (k:Only S' w w') (hd:∀b,S b→¬S' b):RW S w' v L:=RW.keep h fun b hs _=>k.block b (hd b hs)
theorem zSS.plain {w:World} {v:Value} {L:List Wtd} (h:RL2 none Any zSS w v L):RW0 w v L:=RL2.mono h (fun _ h=>h) (fun _ _ _ h=>⟨RIW.plain h.1,h.2.1⟩)
def zB2 (L:List Wtd):Nat:=L.length+(L.map fun x=>x.1.length).sum
theorem zVs {L:List Wtd} {x:Wtd} (h:x∈L):L.length+x.1.length≤zB2 L:=by
 unfold zB2;have:x.1.length≤(L.map fun x=>x.1.length).sum:=by
  induction L with
  | nil=>cases h
  | cons y L ih =>
   rcases List.mem_cons.1 h with rfl | h
   ·simp
   ·have:=ih h; simp; omega
 omega
abbrev zFI (L:List Wtd):List It:=L.flatMap fun x=>[.inl x.1,.inr x.2]
abbrev FW (S:Nat→Prop) (w:World) (v:Value) (L:List Wtd):Prop:=FC S 63 2 w v L.length (zFI L)
theorem zKZ (L:List Wtd):(zFI L).length=L.length*2:=by
 induction L with
 | nil=>rfl
 | cons x L ih=>simp [zFI] at *; omega
theorem zKY (L:List Wtd):∀(j:Nat) (x:Wtd),L[j]? = some x→(zFI L)[j*2]? = some (.inl x.1)∧(zFI L)[j*2+1]? = some (.inr x.2):=by
 induction L with
 | nil=>intro j x h; simp at h
 | cons y L ih =>
  intro j x h;cases j with
  | zero=>simp at h; subst h; simp [zFI]
  | succ j =>
   simp at h;have:=ih j x h;rw [show (j+1)*2=j*2+1+1 by omega,show j*2+1+1+1=(j*2+1)+1+1 by omega];simpa [zFI] using this
theorem FW.read {S:Nat→Prop} {w:World} {v:Value} {L:List Wtd} (h:FW S w v L):RW S w v L:=by
 obtain ⟨vs,h1,h2,h3,h4,_⟩:=h;have hlen:=h1.1;rcases h1.2 with ⟨rfl,h0⟩ | ⟨g,cap,cur,hv,_,hg,hc⟩
 ·have:L=[]:=List.eq_nil_of_length_eq_zero h0;subst this;exact RL2.nil _ _ (by unfold maxLen; omega)
 ·subst hv;refine ⟨_,_,rfl,⟨hc.1,hc.2.1⟩,.inr ⟨g,0,rfl,h3 g rfl,⟨cur,(0,0),hg⟩,fun j x hx=>?_⟩⟩;have hj:j<L.length:=by
   rcases Nat.lt_or_ge j L.length with h | h
   ·exact h
   ·rw [List.getElem?_eq_none h] at hx; cases hx
  obtain ⟨i1,i2⟩:=zKY L j x hx;have k1:=h1.cellAt (j*2) (by omega);have k2:=h1.cellAt (j*2+1) (by omega);rw [zWG (by omega)] at k1 k2;refine ⟨_,_,by rw [Nat.zero_add]; exact k1,by rw [Nat.zero_add]; exact k2,?_,?_⟩
  ·exact FI.reads (h4 (j*2) _ (.inl x.1) (by rw [zWG (by omega)]) i1)
  ·exact h4 (j*2+1) _ (.inr x.2) (by rw [zWG (by omega)]) i2
theorem FW.below {S:Nat→Prop} {w w':World} {v:Value} {L:List Wtd} (h:FW S w v L) (hb:Below w.heap.size w w'):FW S w' v L:=FC.below h hb
theorem FW.only {S S':Nat→Prop} {w w':World} {v:Value} {L:List Wtd} (h:FW S w v L) (k:Only S' w w') (hd:∀b,S b→¬S' b):FW S w' v L:=FC.only h k hd
theorem FW.any {S:Nat→Prop} {w:World} {v:Value} {L:List Wtd} (h:FW S w v L):RW Any w v L:=RW.any h.read
theorem zTl:(Tryz.prog.info? 63).map (fun i=>(i.zero,i.size,i.bytes))=some (some (.agg #[.slice none 0 0,.int .i64 0]),2,32):=by kernel_rfl
abbrev El2:=List (Value × Wtd)
def zBw (E:El2):List Value:=E.flatMap fun e=>[e.1,.int .i64 e.2.2]
theorem zNO (E M:El2):zBw (E++M)=zBw E++zBw M:=by unfold zBw; rw [List.flatMap_append]
theorem zHj:∀E:El2,(zBw E).length=E.length*2
 | []=>rfl
 | e::E=>by
  have:=zHj E;unfold zBw at *;simp only [List.flatMap_cons,List.length_append,List.length_cons,List.length_nil];omega
theorem zDl:∀{E:El2} {j:Nat} {u:Value},(zBw E)[j]? = some u→∃e,E[j / 2]? = some e∧u=if j % 2=0 then e.1 else .int .i64 e.2.2
 | [],j,u,h=>by simp [zBw] at h
 | e::E,0,u,h=>⟨e,rfl,by simp [zBw] at h; simp [h]⟩
 | e::E,1,u,h=>⟨e,rfl,by simp [zBw] at h; simp [h]⟩
 | e::E,j+2,u,h=>by
  obtain ⟨f,h1,h2⟩:=zDl (E:=E) (j:=j) (by simpa [zBw] using h);exact ⟨f,by rw [show (j+2) / 2=j / 2+1 by omega]; simpa using h1,by rw [show (j+2) % 2=j % 2 by omega]; exact h2⟩
abbrev aW2 (v:Value) (E:El2):zAF:=fun F w=>w.ownsRow 0 63 2 v E.length (zBw E)∧∀b,v.ownBlock=some b→F b
theorem zSo (v:Value) (E:El2):zAh (aW2 v E):=fun _ _ _ h k=>⟨zAw h.1 fun b hb=>k b (h.2 b hb) (h.1.lt b hb).2,h.2⟩
abbrev aFW (v:Value) (L:List Wtd):zAF:=fun F w=>FW F w v L
theorem zSm (v:Value) (L:List Wtd):zAh (aFW v L):=fun _ _ _ h k=>FC.keep h k
section
variable {A:Nat→Prop} {w0 w w1:World} {Ps:List zAF}
theorem HSx.freshW2 (h:HSx A w0 w Ps) (hw:w1=w.alloc (.cells #[] 63)):HSx A w0 w1 (Ps++[aW2 (.slice (some ⟨w.heap.size,0,none⟩) 0 0) []]):=by
 subst hw;refine h.add ((Below.refl _ _).alloc (zWK _) _) (zSo _ _) (F:=fun b=>b=w.heap.size) ⟨?_,fun b hb=>by simpa [Value.ownBlock] using hb.symm⟩ (fun b hb=>by subst hb; exact ⟨zWK _,by simp⟩);exact World.ownsRow_lit (base:=0) (e:=63) (size:=2) w #[] 0 (Nat.zero_le _) (by unfold maxLen; omega) rfl
theorem HSx.shutW2 {v:Value} {E:El2} (h:HSx A w0 w Ps) (i j:Nat) (hij:i≠j) (hi:Ps[i]? = some (aW2 v E)) (hj:Ps[j]? = some (aRs (E.map fun e=>(e.1,e.2.1)))) :
  HSx A w0 w ((Ps.set i (aFW v (E.map Prod.snd))).set j zBj):=by
 refine h.join i j hij hi hj (zSm _ _) fun F G hF hG hd=>⟨zBw E,by have:=hF.1; simpa using this,by rw [zHj,zKZ]; simp,fun b hb=>.inl (hF.2 b hb),fun m r x hr hx=>?_,fun m k r r' b hmk hr hr' hb=>?_⟩
 ·obtain ⟨e,he,rfl⟩:=zDl hr;obtain ⟨i1,i2⟩:=zKY (E.map Prod.snd) (m / 2) e.2 (by rw [List.getElem?_map,he]; rfl);by_cases hp:m % 2=0
  ·rw [show m / 2*2=m by omega] at i1;rw [i1] at hx;cases hx;rw [if_pos hp];exact FI.mono (hG.1 (e.1,e.2.1) (List.mem_map.2 ⟨e,zWH he,rfl⟩)) (fun b hb=>.inr hb)
  ·rw [show m / 2*2+1=m by omega] at i2;rw [i2] at hx;cases hx;rw [if_neg hp];exact rfl
 ·obtain ⟨e,he,rfl⟩:=zDl hr;obtain ⟨e',he',rfl⟩:=zDl hr';have hp:m % 2=0:=by
   by_cases hp:m % 2=0
   ·exact hp
   ·rw [if_neg hp] at hb; simp [Value.ownBlock] at hb
  rw [if_pos hp] at hb;by_cases hp':k % 2=0
  ·rw [if_pos hp'];have hne:m / 2≠k / 2:=by omega
   have hA:=hG.2;rw [List.map_map] at hA;have g1:(E.map (Prod.fst ∘ fun e:Value × Wtd=>(e.1,e.2.1)))[m / 2]? = some e.1:=by rw [List.getElem?_map,he]; rfl
   have g2:(E.map (Prod.fst ∘ fun e:Value × Wtd=>(e.1,e.2.1)))[k / 2]? = some e'.1:=by rw [List.getElem?_map,he']; rfl
   obtain ⟨l1,q1⟩:=zWI g1;obtain ⟨l2,q2⟩:=zWI g2;rcases Nat.lt_or_gt_of_ne hne with hlt | hlt
   ·have:=List.pairwise_iff_getElem.1 hA _ _ l1 l2 hlt;rw [q1,q2] at this;exact this b hb
   ·have:=List.pairwise_iff_getElem.1 hA _ _ l2 l1 hlt;rw [q1,q2] at this;exact this.symm b hb
  ·rw [if_neg hp']; simp [Value.ownBlock]
end
section
variable {w:World} {ops:Array Oper} {rest:List Oper} {o:Oper} {a:Act} {Q:Exit→Act→World→Prop}
theorem zUx {A:Nat→Prop} {W:World} {K:Act→World→Prop} {Ps:List zAF} (s x:Operand)
  (ho:o.op=.call { callee:=.builtin .append,args:=#[s,x],argTypes:=#[38,38] })
  {v r:Value} {E:El2} (l:List Int) {q:Int} (hs:a.eval s=v) (h:HSx A W w Ps) (i:Nat) (hi:Ps[i]? = some (aW2 v E)) (hnew:∀b,v.ownBlock=some b→W.heap.size≤b)
  {H:Nat} (hx:a.eval x=.slice (some ⟨H,0,none⟩) 1 1) (hc:w.cell? ⟨H,0,none⟩=some r) (hc2:w.cell? ⟨H,1,none⟩=some (.int .i64 q)) (h1:r.oneCell'=true) (hlen:E.length+1≤67108864)
  (k:∀v' w',HSx A W w' (Ps.set i (aW2 v' (E++[(r,(l,q))])))→(∀b,v'.ownBlock=some b→W.heap.size≤b)→K (a.put o.dst v') w'):o.wp Tryz.prog a w K Q:=by
 obtain ⟨F0,hf,_⟩:=HSx.get h i hi;refine zD4 s x Tryz.underlying38 zTl rfl (by decide) ho (base:=0) (news:=[r,.int .i64 q]) hs hf.1 (Nat.zero_le _) hx rfl ?_ (by intro u hu; simp at hu; rcases hu with rfl | rfl; exact h1; rfl) (by omega) (by decide) ?_
 ·intro j u hj
  match j,hj with
  | 0,hj=>simp at hj; subst hj; simpa [Addr.add] using hc
  | 1,hj=>simp at hj; subst hj; simpa [Addr.add] using hc2
 ·intro v' w' h2 h3 h4;refine k v' w' (h.upd i hi (zSo _ _) (zBO h.bl h3 hnew) h3.size fun F hF _=>⟨fun b=>v'.ownBlock=some b,⟨?_,fun b hb=>hb⟩,fun b hb=>?_,fun b hl hb=>h3.block b hl (fun e=>hb (hF.2 b e.symm))⟩) (fun b hb=>?_)
  ·rw [List.length_append,zNO]; exact h2
  ·rcases h4 b hb with e | e
   ·exact .inl (hF.2 b e)
   ·exact .inr ⟨e,(h2.lt b hb).2⟩
  ·rcases h4 b hb with e | e
   ·exact hnew b e
   ·exact Nat.le_trans h.bl.size e
theorem zEj {A:Nat→Prop} {W:World} {Ps:List zAF} (hgd:o.guard=none) (s x:Operand)
  (ho:o.op=.call { callee:=.builtin .append,args:=#[s,x],argTypes:=#[38,38] })
  {v r:Value} {E:El2} (l:List Int) {q:Int} (hs:a.eval s=v) (h:HSx A W w Ps) (i:Nat) (hi:Ps[i]? = some (aW2 v E)) (hnew:∀b,v.ownBlock=some b→W.heap.size≤b)
  {H:Nat} (hx:a.eval x=.slice (some ⟨H,0,none⟩) 1 1) (hc:w.cell? ⟨H,0,none⟩=some r) (hc2:w.cell? ⟨H,1,none⟩=some (.int .i64 q)) (h1:r.oneCell'=true) (hlen:E.length+1≤67108864)
  (k:∀v' w',HSx A W w' (Ps.set i (aW2 v' (E++[(r,(l,q))])))→(∀b,v'.ownBlock=some b→W.heap.size≤b)→wpList Tryz.prog ops Q rest (a.put o.dst v') w'):wpList Tryz.prog ops Q (o::rest) a w :=
 wpList_plain hgd fun _ hK=>zUx s x ho l hs h i hi hnew hx hc hc2 h1 hlen fun v' w' h2 h3=>hK _ _ (k v' w' h2 h3)
end
theorem HS.newW2 {w0 w:World} {Ps:List zAF} {v:Value} {E:El2} (h:HS w0 w Ps) (i:Nat) (hi:Ps[i]? = some (aW2 v E)):∀b,v.ownBlock=some b→w0.heap.size≤b:=by
 obtain ⟨F,hF,hn⟩:=h.get i hi;exact fun b hb=>(hn b (hF.2 b hb)).1
theorem HS.FW {w0 w:World} {Ps:List zAF} {v:Value} {L:List Wtd} (h:HS w0 w Ps) (i:Nat) (hi:Ps[i]? = some (aFW v L)):FW (New w0 w) w v L:=let ⟨_,h1,h2⟩:=h.get i hi; FC.mono h1 h2
end Go.Proofs.YtphbichgpcicnaaGreatDoor
