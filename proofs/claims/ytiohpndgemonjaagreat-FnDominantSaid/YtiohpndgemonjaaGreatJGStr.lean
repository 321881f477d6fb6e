/- Texts as values. No condition. -/
import Derived.Test.YtiohpndgemonjaaGreatJGNrm
import Derived.Lib.Join
namespace Go.Proofs.YtiohpndgemonjaaGreat
open Go.RowKit
set_option maxRecDepth 20000
def bs (l:List UInt8):ByteArray:=⟨l.toArray⟩
theorem zBw (a:List UInt8):(bs a).size=a.length:=by simp [bs,ByteArray.size]
theorem zEV (a b:List UInt8):bs a++bs b=bs (a++b):=by
 apply ByteArray.ext;simp [bs]
theorem zOl:(Tryz.prog.info? 9).map (fun i=>(i.zero,i.size,i.bytes))=some (some (.string ⟨#[]⟩),1,16):=by kernel_rfl
def FS (S:Nat→Prop) (w:World) (v:Value) (l:List (List UInt8)):Prop:=w.ownsRow 0 9 1 v l.length (l.map fun x=>Value.string (bs x))∧∀b,v.ownBlock=some b→S b
theorem FS.of_row {B:Nat} {w w':World} {v:Value} {l:List (List UInt8)} {n:Nat} {xs:List Value} (h:w'.ownsRow B 9 1 v n xs) (hB:w.heap.size≤B) (hn:n=l.length) (hx:xs=l.map fun x=>Value.string (bs x)):FS (New w w') w' v l:=by
 subst hn hx;exact ⟨zCE h (Nat.zero_le _),fun b hb=>by have:=h.lt b hb; exact ⟨by omega,this.2⟩⟩
theorem FS.below {S:Nat→Prop} {w w':World} {v:Value} {l:List (List UInt8)} (h:FS S w v l) (hb:Below w.heap.size w w'):FS S w' v l :=
 ⟨zA2 h.1 (fun b hv=>hb.block b (h.1.lt b hv).2),h.2⟩
theorem FS.grow {W w w':World} {v:Value} {l:List (List UInt8)} (h:FS (New W w) w v l) (hb:Below w.heap.size w w'):FS (New W w') w' v l :=
 ⟨(h.below hb).1,fun b hv=>⟨(h.2 b hv).1,Nat.lt_of_lt_of_le (h.2 b hv).2 hb.size⟩⟩
theorem FS.form {S:Nat→Prop} {w:World} {v:Value} {l:List (List UInt8)} (h:FS S w v l):∃a cap,v=.slice a l.length cap:=by
 rcases h.1.2 with ⟨rfl,h0⟩ | ⟨g,cap,cur,rfl,_⟩
 ·exact ⟨none,0,by rw [h0]⟩
 ·exact ⟨_,cap,rfl⟩
theorem FS.empty {W w:World} (hb:Below W.heap.size W w):FS (New W (w.alloc (.cells #[] 9))) (w.alloc (.cells #[] 9)) (.slice (some ⟨w.heap.size,0,none⟩) 0 0) []:=by
 have:=FS.of_row (w:=w) (l:=[]) (World.ownsRow_lit (base:=w.heap.size) (e:=9) (size:=1) w #[] 0 (zQj _) (by unfold maxLen; omega) rfl) (zQj _) rfl rfl;exact ⟨this.1,fun b h=>⟨Nat.le_trans hb.size (this.2 b h).1,(this.2 b h).2⟩⟩
theorem FS.cells {S:Nat→Prop} {w:World} {g n cap:Nat} {l:List (List UInt8)} (h:FS S w (.slice (some ⟨g,0,none⟩) n cap) l) (hn:n=l.length):∀(j:Nat) x,(l.map bs)[j]? = some x→w.cell? ⟨g,0+j,none⟩=some (.string x):=by
 intro j x hj;subst hn;rw [List.getElem?_map] at hj;obtain ⟨y,hy,rfl⟩:=Option.map_eq_some_iff.1 hj;have hl:j<l.length:=(zQh hy).1;have:=h.1.cellAt j (by omega);rw [Nat.zero_add,this,List.getElem?_map,hy];rfl
section
variable {w:World} {ops:Array Oper} {rest:List Oper} {o:Oper} {a:Act} {Q:Exit→Act→World→Prop}
theorem zMp {W:World} {K:Act→World→Prop} (s x:Operand)
  (ho:o.op=.call { callee:=.builtin .append,args:=#[s,x],argTypes:=#[73,73] })
  {v:Value} {l:List (List UInt8)} {y:List UInt8} (hs:a.eval s=v) (hf:FS (New W w) w v l) (hb:Below W.heap.size W w)
  {H:Nat} (hx:a.eval x=.slice (some ⟨H,0,none⟩) 1 1) (hc:w.cell? ⟨H,0,none⟩=some (.string (bs y))) (hlen:l.length+1≤67108864)
  (h:∀v' w',FS (New W w') w' v' (l++[y])→Below W.heap.size W w'→w.grownBy w' v.ownBlock→K (a.put o.dst v') w'):o.wp Tryz.prog a w K Q:=by
 obtain ⟨i0,hi,hz0,hz1,hz2⟩:=info_parts zOl;obtain ⟨hown,hS⟩:=hf;have hown':w.ownsRow W.heap.size 9 1 v l.length (l.map fun x=>Value.string (bs x)):=by
  refine ⟨hown.1,?_⟩;rcases hown.2 with h | ⟨g,cap,cur,hv,_,r⟩
  ·exact .inl h
  ·exact .inr ⟨g,cap,cur,hv,(hS g (by rw [hv]; rfl)).1,r⟩
 refine wp_append_own w s x 73 ho W.heap.size 9 i0 (.string ⟨#[]⟩) 1 16 Tryz.underlying73 hi hz0 hz1 hz2 rfl (by decide) v l.length (l.map fun x=>Value.string (bs x)) hs hown' ⟨H,0,none⟩ 1 1 [.string (bs y)] hx rfl ?_ ?_ ?_ ?_ hb.size ?_
 ·intro j u hj
  match j,hj with
  | 0,hj=>simp at hj; subst hj; simpa [Addr.add] using hc
 ·intro u hu; simp at hu; subst hu; rfl
 ·unfold maxLen; omega
 ·omega
 ·intro v' w' h1 h2 _;exact h v' w' (FS.of_row h1 (zQj _) (by simp) (by simp)) (hb.grown h2 hb.size (fun k hk=>(hS k hk).1)) h2
theorem zEO {W:World} (hgd:o.guard=none) (s x:Operand)
  (ho:o.op=.call { callee:=.builtin .append,args:=#[s,x],argTypes:=#[73,73] })
  {v:Value} {l:List (List UInt8)} {y:List UInt8} (hs:a.eval s=v) (hf:FS (New W w) w v l) (hb:Below W.heap.size W w)
  {H:Nat} (hx:a.eval x=.slice (some ⟨H,0,none⟩) 1 1) (hc:w.cell? ⟨H,0,none⟩=some (.string (bs y))) (hlen:l.length+1≤67108864)
  (h:∀v' w',FS (New W w') w' v' (l++[y])→Below W.heap.size W w'→w.grownBy w' v.ownBlock→wpList Tryz.prog ops Q rest (a.put o.dst v') w'):wpList Tryz.prog ops Q (o::rest) a w :=
 wpList_plain hgd fun _ hK=>zMp s x ho hs hf hb hx hc hlen fun v' w' h1 h2 h3=>hK _ _ (h v' w' h1 h2 h3)
end
end Go.Proofs.YtiohpndgemonjaaGreat
