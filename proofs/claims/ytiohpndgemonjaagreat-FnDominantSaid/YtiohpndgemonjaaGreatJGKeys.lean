/- Keys of maps: short lists of numbers. No condition. -/
import Derived.Maps.OwnSet
import Derived.Maps.OwnOps
import Derived.DeepKeys4
import Derived.Test.YtiohpndgemonjaaGreatJGHeap
namespace Go.Proofs.YtiohpndgemonjaaGreat
open Go.RowKit
set_option maxRecDepth 20000
theorem zCy {a:List Int} (h:InI a) (k:Nat):I64 (num a k):=by
 unfold num;cases e:a[k]? with
 | none=>decide
 | some x =>
  have:=h x (zQg e);exact Go.WalkArith.wf_i64 (by simp; omega)
theorem zNV {a a':List Int} (h:num a 0=num a' 0∧num a 1=num a' 1∧num a 2=num a' 2∧num a 3=num a' 3) (hl:a.length=a'.length) (h4:a.length≤4):a=a':=by
 obtain ⟨h0,h1,h2,h3⟩:=h;rcases a with _ | ⟨a,_ | ⟨b,_ | ⟨c,_ | ⟨d,_ | ⟨e,l⟩⟩⟩⟩⟩ <;> rcases a' with _ | ⟨a',_ | ⟨b',_ | ⟨c',_ | ⟨d',_ | ⟨e',l'⟩⟩⟩⟩⟩ <;> simp [num] at * <;> simp_all
def RD (v:Value):Option (DataW Value × List MemPlace):=some (.held v,[])
section
variable {w w':World}
end
end Go.Proofs.YtiohpndgemonjaaGreat
namespace Go.Proofs.YtiohpndgemonjaaGreat
open Go.RowKit
open Go.Maps (Keyed)
set_option maxRecDepth 20000
theorem zDQ:Keyed Tryz.prog 61:=Keyed.of_law (Go.deep_law_laid zGp (m:=5) (by decide) (k:=61) (of_decide_eq_true (by kernel_rfl)) (by kernel_rfl) (by kernel_rfl))
def zCP (a:List Int):Lit:=.string (keyBytes [.int .i64 (num a 0),.int .i64 (num a 1),.int .i64 (num a 2),.int .i64 (num a 3)])
theorem zCu {a:List Int} (ha:InI a):keyOf Tryz.prog 61 (vec a)=some (zCP a):=by
 have a0:=zCy ha 0;have a1:=zCy ha 1;have a2:=zCy ha 2;have a3:=zCy ha 3;unfold vec zCP;generalize num a 0=x0 at *;generalize num a 1=x1 at *;generalize num a 2=x2 at *;generalize num a 3=x3 at *;have cs1:Tryz.prog.cellsOf 61=4:=by kernel_rfl
 have cs0:Tryz.prog.cellsOf 3=1:=by kernel_rfl
 have hk:Tryz.prog.keyType 61=true:=by kernel_rfl
 obtain ⟨d,hd⟩:∃d,Tryz.prog.types.size+1=d+2:=⟨Tryz.prog.types.size-1,by have:1≤Tryz.prog.types.size:=of_decide_eq_true (by kernel_rfl); omega⟩;have h0:∀x:Int,I64 x→Tryz.prog.keyLits (d+1) 3 [.int .i64 x]=some [.int .i64 x]:=fun x hx=>by
  simp [Program.keyLits,Tryz.underlying3]; exact hx
 have h1:Tryz.prog.keyLits (d+2) 61 [.int .i64 x0,.int .i64 x1,.int .i64 x2,.int .i64 x3]=some [.int .i64 x0,.int .i64 x1,.int .i64 x2,.int .i64 x3]:=by
  unfold Program.keyLits;simp [Tryz.underlying61,cs1,cs0,show List.range 4=[0,1,2,3] from rfl,h0 _ a0,h0 _ a1,h0 _ a2,h0 _ a3]
 unfold keyOf;rw [hd];simp [Tryz.underlying61,hk,Value.formed,cs1,Value.cells,h1]
theorem zLz {a a':List Int} (ha:InI a) (ha':InI a') (h:zCP a=zCP a') (h1:a.length=a'.length) (h3:a.length≤4):a=a':=by
 have:=zDQ.inj (zCu ha) (by rw [h]; exact zCu ha');simp [vec] at this;exact zNV ⟨this.1,this.2.1,this.2.2.1,this.2.2.2⟩ h1 h3
def SetD (n:Nat) (L:List (List Int)) (D:DataW Value):Prop:=∀a:List Int,a.length=n→InI a→D.atKey (zCP a) (.held (.bool false))=.held (.bool (decide (a∈L)))
abbrev aS (t:TypeId) (mb n:Nat) (L:List (List Int)):zAL:=fun F w=>F mb∧∃D m,m≤L.length∧w.ownsMap Tryz.prog t RD mb m D∧SetD n L D
theorem st_S (t:TypeId) (mb n:Nat) (L:List (List Int)):zAn (aS t mb n L):=fun F w w' h k=>by
 obtain ⟨h1,D,m,h2,h3,h4⟩:=h;refine ⟨h1,D,m,h2,?_,h4⟩;obtain ⟨es,clock,hb,r⟩:=h3;exact ⟨es,clock,by rw [k mb h1 (Array.getElem?_eq_some_iff.1 hb).1]; exact hb,r⟩
section
variable {A:Nat→Prop} {w0 w w':World} {Ps:List zAL}
theorem SetD.empty (n:Nat):SetD n [] (.map []):=fun a _ _=>by simp [DataW.atKey]
theorem HSx.newSet (h:HSx A w0 w Ps) (t:TypeId) (n:Nat) {w1:World} (hw:w1=w.alloc (.map #[] 0)):HSx A w0 w1 (Ps++[aS t w.heap.size n []]):=by
 subst hw;exact h.add ((Below.refl _ _).alloc (zQj _) _) (st_S _ _ _ _) (F:=fun b=>b=w.heap.size) ⟨rfl,_,0,zQj _,World.ownsMap_made _ _ _ _,SetD.empty n⟩ (fun b hb=>by subst hb; exact ⟨zQj _,by simp⟩)
theorem SetD.put {n:Nat} {L:List (List Int)} {D:DataW Value} {p:List Int} (h:SetD n L D) (hm:Maps.IsMap D) (hk:WideAt.IsKeyLit (zCP p)) (hn:n≤4) (hp:p.length=n) (hpi:InI p):SetD n (L++[p]) (D.put (zCP p) (.held (.bool true))):=fun a ha hai=>by
 by_cases he:zCP a=zCP p
 ·have e:=zLz hai hpi he (by rw [ha,hp]) (by rw [ha]; exact hn);subst e;rw [Maps.atKey_put_same hm hk];simp
 ·rw [Maps.atKey_put_other he,h a ha hai];have:a≠p:=fun e=>he (by rw [e]);simp [this]
section
variable {ops:Array Oper} {rest:List Oper} {o:Oper} {a:Act} {Q:Exit→Act→World→Prop} {tm t mb n:Nat} {L:List (List Int)}
theorem zEy (hg:o.guard=none) (mo x:Operand) (hop:o.op=Op.lookup 63 mo x false) (hm:a.eval mo=.map (some mb)) (h:HSx A w0 w Ps) (i:Nat) (hi:Ps[i]? = some (aS 61 mb n L)) {p:List Int} (hp:p.length=n) (hpi:InI p) (hx:a.eval x=vec p)
  (k:wpList Tryz.prog ops Q rest (a.put o.dst (.bool (decide (p∈L)))) w):wpList Tryz.prog ops Q (o::rest) a w:=by
 obtain ⟨F,⟨_,D,m,_,hown,hD⟩,_⟩:=HSx.get h i hi;refine wpList_plain hg fun K' hK'=>?_;obtain ⟨v,ps,hrun,hv⟩:=hown.lookup zDQ Tryz.underlying63 (z:=.bool false) (by kernel_rfl) (zd:=.held (.bool false)) (zp:=[]) rfl (zCu hpi);rw [hD p hp hpi] at hv;simp only [RD,Option.some.injEq,Prod.mk.injEq,DataW.held.injEq] at hv;obtain ⟨rfl,_⟩:=hv;unfold Oper.wp;simp only [execOp,hop,hm,hx,Sem.run_bind,Sem.run_pure,Result.andThen_ok,hrun];exact hK' _ _ k
theorem zHz (hg:o.guard=none) (mo x:Operand) (hop:o.op=Op.lookup 63 mo x false) (hm:a.eval mo=.map (some mb)) (h:HSx A w0 w Ps) (i:Nat) (hi:Ps[i]? = some (aS 61 mb n L)) {p:List Int} (hp:p.length=n) (hpi:InI p) (hx:a.eval x=vec p) (hmem:Hid (p∈L))
  (k:wpList Tryz.prog ops Q rest (a.put o.dst (.bool true)) w):wpList Tryz.prog ops Q (o::rest) a w:=zEy hg mo x hop hm h i hi hp hpi hx (by rw [decide_eq_true hmem.out]; exact k)
theorem zJM (hg:o.guard=none) (mo x:Operand) (hop:o.op=Op.lookup 63 mo x false) (hm:a.eval mo=.map (some mb)) (h:HSx A w0 w Ps) (i:Nat) (hi:Ps[i]? = some (aS 61 mb n L)) {p:List Int} (hp:p.length=n) (hpi:InI p) (hx:a.eval x=vec p) (hmem:Hid (p∉L))
  (k:wpList Tryz.prog ops Q rest (a.put o.dst (.bool false)) w):wpList Tryz.prog ops Q (o::rest) a w:=zEy hg mo x hop hm h i hi hp hpi hx (by rw [decide_eq_false hmem.out]; exact k)
theorem zER (hg:o.guard=none) (mo x y:Operand) (hop:o.op=Op.mapUpdate 63 mo x y) (hm:a.eval mo=.map (some mb)) (h:HSx A w0 w Ps) (i:Nat) (hi:Ps[i]? = some (aS 61 mb n L)) (hnew:w0.heap.size≤mb) (hn:n≤4) (hlen:L.length<67108864) {p:List Int} (hp:p.length=n) (hpi:InI p) (hx:a.eval x=vec p) (hy:a.eval y=.bool true)
  (k:∀w',HSx A w0 w' (Ps.set i (aS 61 mb n (L++[p])))→wpList Tryz.prog ops Q rest (a.put o.dst undef) w'):wpList Tryz.prog ops Q (o::rest) a w:=by
 obtain ⟨F,⟨_,D,m,hmL,hown,hD⟩,_⟩:=HSx.get h i hi;refine wpList_plain hg fun K' hK'=>?_;obtain ⟨w',hrun,ho,hgr⟩:=hown.update (val:=.bool true) (d:=.held (.bool true)) (ps:=[]) zDQ Tryz.underlying63 (by unfold maxLen; omega) (zCu hpi) rfl;have hk:=k w' (h.upd i hi (st_S _ _ _ _) (h.bl.grown hgr h.bl.size (fun b hb=>by simp only [Option.some.injEq] at hb; omega)) hgr.size fun F' hF' _=>⟨F',⟨hF'.1,_,m+1,by simp; omega,ho,hD.put hown.isMap (zDQ.key (zCu hpi)) hn hp hpi⟩,fun b hb=>.inl hb,fun b hl hb=>hgr.block b hl (fun e=>by simp only [Option.some.injEq] at e; subst e; exact hb hF'.1)⟩);unfold Oper.wp;simp only [execOp,hop,hm,hx,hy,Sem.run_bind,Sem.run_pure,Result.andThen_ok,hrun];exact hK' _ _ hk
theorem zEQ (hg:o.guard=none) (mo x y:Operand) (hop:o.op=Op.insert 63 mo x y) (hm:a.eval mo=.map (some mb)) (h:HSx A w0 w Ps) (i:Nat) (hi:Ps[i]? = some (aS 61 mb n L)) (hnew:w0.heap.size≤mb) (hn:n≤4) (hlen:L.length<67108864) {p:List Int} (hp:p.length=n) (hpi:InI p) (hx:a.eval x=vec p) (hy:a.eval y=.bool true)
  (k:∀w',HSx A w0 w' (Ps.set i (aS 61 mb n (L++[p])))→wpList Tryz.prog ops Q rest (a.put o.dst undef) w'):wpList Tryz.prog ops Q (o::rest) a w:=by
 obtain ⟨F,⟨_,D,m,hmL,hown,hD⟩,_⟩:=HSx.get h i hi;refine wpList_plain hg fun K' hK'=>?_;obtain ⟨w',hrun,ho,hgr⟩:=hown.update (val:=.bool true) (d:=.held (.bool true)) (ps:=[]) zDQ Tryz.underlying63 (by unfold maxLen; omega) (zCu hpi) rfl;have hk:=k w' (h.upd i hi (st_S _ _ _ _) (h.bl.grown hgr h.bl.size (fun b hb=>by simp only [Option.some.injEq] at hb; omega)) hgr.size fun F' hF' _=>⟨F',⟨hF'.1,_,m+1,by simp; omega,ho,hD.put hown.isMap (zDQ.key (zCu hpi)) hn hp hpi⟩,fun b hb=>.inl hb,fun b hl hb=>hgr.block b hl (fun e=>by simp only [Option.some.injEq] at e; subst e; exact hb hF'.1)⟩);unfold Oper.wp;simp only [execOp,hop,hm,hx,hy,Sem.run_bind,Sem.run_pure,Result.andThen_ok,hrun];exact hK' _ _ hk
end
end
end Go.Proofs.YtiohpndgemonjaaGreat
