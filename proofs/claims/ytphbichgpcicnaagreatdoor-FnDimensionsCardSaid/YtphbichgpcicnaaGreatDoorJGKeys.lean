/- Polynomials without zeros at their end. Condition: at most 2^24 numbers. -/
import Derived.Laws.CopyOwn
import Derived.Handy
import Derived.Maps.OwnSet
import Derived.Maps.OwnOps
import Derived.DeepKeys4
import Derived.Test.YtphbichgpcicnaaGreatDoorJGHeap
namespace Go.Proofs.YtphbichgpcicnaaGreatDoor
open Go.RowKit
set_option maxRecDepth 20000
set_option maxHeartbeats 8000000
theorem RI.take {S:Nat→Prop} {w:World} {a:Option Addr} {n cap k:Nat} {l:List Int} (h:RI S w (.slice a n cap) l) (hk:k≤n):RI S w (.slice a k cap) (l.take k):=by
 obtain ⟨a',cap',hv,hc,h⟩:=h;simp only [Value.slice.injEq] at hv;obtain ⟨rfl,rfl,rfl⟩:=hv;have hl:(l.take k).length=k:=by simp; omega
 refine ⟨a,cap,by rw [hl],⟨by omega,hc.2⟩,?_⟩;rcases h with h | ⟨b,o,ha,hs,ht,h⟩
 ·subst h; exact .inl (by simp)
 ·exact .inr ⟨b,o,ha,hs,ht,fun j x hx=>h j x (by rw [List.getElem?_take] at hx; split at hx <;> first | exact hx | cases hx)⟩
def InI (l:List Int):Prop:=∀x∈l,-9223372036854775808≤x∧x≤9223372036854775807
def vec (l:List Int):Value:=.agg #[.int .i64 (num l 0),.int .i64 (num l 1),.int .i64 (num l 2),.int .i64 (num l 3)]
theorem zIH {l:List Int} (hl:l.length≤4):splice [Value.int .i64 0,.int .i64 0,.int .i64 0,.int .i64 0] 0 (l.map (Value.int .i64))=[.int .i64 (num l 0),.int .i64 (num l 1),.int .i64 (num l 2),.int .i64 (num l 3)]:=by
 rcases l with _ | ⟨a,_ | ⟨b,_ | ⟨c,_ | ⟨d,_ | ⟨e,l⟩⟩⟩⟩⟩ <;> simp [splice,num] at hl ⊢
theorem zBA {S:Nat→Prop} {v:Value} {l:List Int} {w:World} (h:RI S w v l) (hl:l.length≤4) :
  Calls Tryz.prog 100 #[v] w fun e w'=>e=.returned (vec l)∧Below w.heap.size w w':=by
 obtain ⟨a,cap,rfl⟩:=h.form;have HSP:=zWF (zIH hl);unfold vec;have HL:=zWF hl;go_enter Tryz.func100,Tryz.ntmps100
 have bw1:Below w.heap.size w ((w.alloc (Obj.cells #[Value.int IntKind.i64 0,Value.int IntKind.i64 0,Value.int IntKind.i64 0,Value.int IntKind.i64 0] 92)).alloc (Obj.cells #[Value.int IntKind.i64 0,Value.int IntKind.i64 0,Value.int IntKind.i64 0,Value.int IntKind.i64 0] 92)):=((Below.refl _ _).alloc (zWK _) _).alloc (by simp) _;go_wp2_with (refine wpList_copy_splice (P:=Tryz.prog) rfl _ _ 28 28 rfl 3 Tryz.underlying28 (by kernel_rfl) (some ⟨w.heap.size+1,0,none⟩) a 4 4 l.length cap rfl rfl (w.heap.size+1) 0 [.int .i64 0,.int .i64 0,.int .i64 0,.int .i64 0] 92 ?h0 (l.map (Value.int .i64)) ?hmin ?h1 ?hfit ?h2 (w.heap.size+1) _ (Below.refl _ _) (zWK _) ?h3)
 case h0 =>
  have:=heap_alloc_new (w.alloc (Obj.cells #[Value.int IntKind.i64 0,Value.int IntKind.i64 0,Value.int IntKind.i64 0,Value.int IntKind.i64 0] 92)) (Obj.cells #[Value.int IntKind.i64 0,Value.int IntKind.i64 0,Value.int IntKind.i64 0,Value.int IntKind.i64 0] 92);simpa using this
 case hmin=>have:=HL.out; rw [List.length_map]; exact (Nat.min_eq_left this).symm
 case hfit=>have:=HL.out; simp; omega
 case h1 =>
  intro hp;have h5:=h.below bw1;obtain ⟨a',cap',hv,_,hcase⟩:=h5;simp only [Value.slice.injEq] at hv;obtain ⟨rfl,_,rfl⟩:=hv;rcases hcase with h0 | ⟨b,off,ha,_,_,hc⟩
  ·subst h0; simp at hp
  ·refine ⟨_,ha,fun j v hj=>?_⟩;obtain ⟨r,h1,h2⟩:=hc j v hj;have hadd:(⟨b,off,none⟩:Addr).add j=⟨b,off+j,none⟩:=by unfold Addr.add; split <;> simp_all
   rw [hadd,h1];exact congrArg some h2
 case h2 =>
  intro v hv;first | (obtain ⟨x,_,rfl⟩:=List.mem_map.1 hv; rfl) | (obtain ⟨x,_,rfl⟩:=hv; rfl)
 case h3 =>
  intro w3 hg3 hb3;rw [HSP.out] at hg3;clear HSP HL;have b03:Below w.heap.size w w3:=bw1.trans (hb3.mono (Nat.le_succ _));have c0:w3.cell? ⟨w.heap.size+1,0,none⟩=some (.int .i64 (num l 0)):=by simp [World.cell?,hg3.out]
  have c1:w3.cell? ⟨w.heap.size+1,1,none⟩=some (.int .i64 (num l 1)):=by simp [World.cell?,hg3.out]
  have c2:w3.cell? ⟨w.heap.size+1,2,none⟩=some (.int .i64 (num l 2)):=by simp [World.cell?,hg3.out]
  have c3:w3.cell? ⟨w.heap.size+1,3,none⟩=some (.int .i64 (num l 3)):=by simp [World.cell?,hg3.out]
  have hs:=hb3.cell (p:=⟨w.heap.size,0,none⟩) (Nat.lt_succ_self _);have d0:w3.cell? ⟨w.heap.size,0,none⟩=some (.int .i64 0):=(hb3.cell (p:=⟨w.heap.size,0,none⟩) (Nat.lt_succ_self _)).trans (by go_simp);have d1:w3.cell? ⟨w.heap.size,1,none⟩=some (.int .i64 0):=(hb3.cell (p:=⟨w.heap.size,1,none⟩) (Nat.lt_succ_self _)).trans (by go_simp);have d2:w3.cell? ⟨w.heap.size,2,none⟩=some (.int .i64 0):=(hb3.cell (p:=⟨w.heap.size,2,none⟩) (Nat.lt_succ_self _)).trans (by go_simp);have d3:w3.cell? ⟨w.heap.size,3,none⟩=some (.int .i64 0):=(hb3.cell (p:=⟨w.heap.size,3,none⟩) (Nat.lt_succ_self _)).trans (by go_simp);have f0:w3.frozen? ⟨w.heap.size,0,none⟩=false:=(hb3.frozen (p:=⟨w.heap.size,0,none⟩) (Nat.lt_succ_self _)).trans (by go_simp)
  have f1:w3.frozen? ⟨w.heap.size,1,none⟩=false:=(hb3.frozen (p:=⟨w.heap.size,1,none⟩) (Nat.lt_succ_self _)).trans (by go_simp);have f2:w3.frozen? ⟨w.heap.size,2,none⟩=false:=(hb3.frozen (p:=⟨w.heap.size,2,none⟩) (Nat.lt_succ_self _)).trans (by go_simp);have f3:w3.frozen? ⟨w.heap.size,3,none⟩=false:=(hb3.frozen (p:=⟨w.heap.size,3,none⟩) (Nat.lt_succ_self _)).trans (by go_simp);clear hg3 hs hb3 bw1 h;generalize hN:w.heap.size=N at *;have HN:=zWF hN;clear hN;go_wp2_with fail
  have b4:Below N w ((((w3.setCell ⟨N,0,none⟩ (.int .i64 (num l 0))).setCell ⟨N,1,none⟩ (.int .i64 (num l 1))).setCell ⟨N,2,none⟩ (.int .i64 (num l 2))).setCell ⟨N,3,none⟩ (.int .i64 (num l 3))) :=
   (((b03.setCell (zWK _) _).setCell (zWK _) _).setCell (zWK _) _).setCell (zWK _) _
  have e0:((((w3.setCell ⟨N,0,none⟩ (.int .i64 (num l 0))).setCell ⟨N,1,none⟩ (.int .i64 (num l 1))).setCell ⟨N,2,none⟩ (.int .i64 (num l 2))).setCell ⟨N,3,none⟩ (.int .i64 (num l 3))).cell? ⟨N,0,none⟩=some (.int .i64 (num l 0)):=by
   rw [zAc _ _ _ _ _ (by decide),zAc _ _ _ _ _ (by decide),zAc _ _ _ _ _ (by decide),World.cell?_setCell_same' _ _ _ (by rw [d0]; rfl)]
  have e1:((((w3.setCell ⟨N,0,none⟩ (.int .i64 (num l 0))).setCell ⟨N,1,none⟩ (.int .i64 (num l 1))).setCell ⟨N,2,none⟩ (.int .i64 (num l 2))).setCell ⟨N,3,none⟩ (.int .i64 (num l 3))).cell? ⟨N,1,none⟩=some (.int .i64 (num l 1)):=by
   rw [zAc _ _ _ _ _ (by decide),zAc _ _ _ _ _ (by decide),World.cell?_setCell_same' _ _ _ (by rw [zAc _ _ _ _ _ (by decide),d1]; rfl)]
  have e2:((((w3.setCell ⟨N,0,none⟩ (.int .i64 (num l 0))).setCell ⟨N,1,none⟩ (.int .i64 (num l 1))).setCell ⟨N,2,none⟩ (.int .i64 (num l 2))).setCell ⟨N,3,none⟩ (.int .i64 (num l 3))).cell? ⟨N,2,none⟩=some (.int .i64 (num l 2)):=by
   rw [zAc _ _ _ _ _ (by decide),World.cell?_setCell_same' _ _ _ (by rw [zAc _ _ _ _ _ (by decide),zAc _ _ _ _ _ (by decide),d2]; rfl)]
  have e3:((((w3.setCell ⟨N,0,none⟩ (.int .i64 (num l 0))).setCell ⟨N,1,none⟩ (.int .i64 (num l 1))).setCell ⟨N,2,none⟩ (.int .i64 (num l 2))).setCell ⟨N,3,none⟩ (.int .i64 (num l 3))).cell? ⟨N,3,none⟩=some (.int .i64 (num l 3)):=by
   rw [World.cell?_setCell_same' _ _ _ (by rw [zAc _ _ _ _ _ (by decide),zAc _ _ _ _ _ (by decide),zAc _ _ _ _ _ (by decide),d3]; rfl)]
  generalize (((w3.setCell ⟨N,0,none⟩ (.int .i64 (num l 0))).setCell ⟨N,1,none⟩ (.int .i64 (num l 1))).setCell ⟨N,2,none⟩ (.int .i64 (num l 2))).setCell ⟨N,3,none⟩ (.int .i64 (num l 3))=w4 at *;have hn:=HN.out;subst hn;try simp only [Exit.inBlock,Exit.then]
  refine bodyPost_ret (v:=.agg #[.int .i64 (num l 0),.int .i64 (num l 1),.int .i64 (num l 2),.int .i64 (num l 3)]) (by simp [results,Tryz.results100,go_sem,e0,e1,e2,e3]) rfl ?_;exact ⟨rfl,b4⟩
def bel (c:List (List Int)):List Int→List Int→Bool
 | mu,[]=>decide (zAH mu=none)
 | mu,s::v=>decide ((nf c 30 mu).length≤v.length+1) && bel c (if num mu s.toNat<0 then refl c s.toNat mu else mu) v
theorem Im.part {c:List (List Int)} {mu:List Int} {w:List Nat} (hl:mu.length=c.length) (hw:Cox.Lets c.length w) (h:Cox.Part c.length (ent c) (num mu) w):∃m,m≤w.length∧Im c mu m:=by
 obtain ⟨x,hx,he⟩:=h;exact ⟨x.length,hx.length_le,hl,x,Cox.part_lets hw hx,rfl,fun k hk=>(he k hk).symm⟩
theorem zDX {a:List Int} (h:InI a) (k:Nat):I64 (num a k):=by
 unfold num;cases e:a[k]? with
 | none=>decide
 | some x =>
  have:=h x (zWH e);exact Go.WalkArith.wf_i64 (by simp; omega)
theorem zRr {a a':List Int} (h:num a 0=num a' 0∧num a 1=num a' 1∧num a 2=num a' 2∧num a 3=num a' 3) (hl:a.length=a'.length) (h4:a.length≤4):a=a':=by
 obtain ⟨h0,h1,h2,h3⟩:=h;rcases a with _ | ⟨a,_ | ⟨b,_ | ⟨c,_ | ⟨d,_ | ⟨e,l⟩⟩⟩⟩⟩ <;> rcases a' with _ | ⟨a',_ | ⟨b',_ | ⟨c',_ | ⟨d',_ | ⟨e',l'⟩⟩⟩⟩⟩ <;> simp [num] at * <;> simp_all
def RD (v:Value):Option (DataW Value × List MemPlace):=some (.held v,[])
section
variable {w w':World}
end
end Go.Proofs.YtphbichgpcicnaaGreatDoor
namespace Go.Proofs.YtphbichgpcicnaaGreatDoor
open Go.RowKit
open Go.Maps (Keyed)
set_option maxRecDepth 20000
theorem zCA:Keyed Tryz.prog 92:=Keyed.of_law (Go.deep_law_laid zIf (m:=5) (by decide) (k:=92) (of_decide_eq_true (by kernel_rfl)) (by kernel_rfl) (by kernel_rfl))
def zBq (a:List Int):Lit:=.string (keyBytes [.int .i64 (num a 0),.int .i64 (num a 1),.int .i64 (num a 2),.int .i64 (num a 3)])
theorem zBy {a:List Int} (ha:InI a):keyOf Tryz.prog 92 (vec a)=some (zBq a):=by
 have a0:=zDX ha 0;have a1:=zDX ha 1;have a2:=zDX ha 2;have a3:=zDX ha 3;unfold vec zBq;generalize num a 0=x0 at *;generalize num a 1=x1 at *;generalize num a 2=x2 at *;generalize num a 3=x3 at *;have cs1:Tryz.prog.cellsOf 92=4:=by kernel_rfl
 have cs0:Tryz.prog.cellsOf 3=1:=by kernel_rfl
 have hk:Tryz.prog.keyType 92=true:=by kernel_rfl
 obtain ⟨d,hd⟩:∃d,Tryz.prog.types.size+1=d+2:=⟨Tryz.prog.types.size-1,by have:1≤Tryz.prog.types.size:=of_decide_eq_true (by kernel_rfl); omega⟩;have h0:∀x:Int,I64 x→Tryz.prog.keyLits (d+1) 3 [.int .i64 x]=some [.int .i64 x]:=fun x hx=>by
  simp [Program.keyLits,Tryz.underlying3]; exact hx
 have h1:Tryz.prog.keyLits (d+2) 92 [.int .i64 x0,.int .i64 x1,.int .i64 x2,.int .i64 x3]=some [.int .i64 x0,.int .i64 x1,.int .i64 x2,.int .i64 x3]:=by
  unfold Program.keyLits;simp [Tryz.underlying92,cs1,cs0,show List.range 4=[0,1,2,3] from rfl,h0 _ a0,h0 _ a1,h0 _ a2,h0 _ a3]
 unfold keyOf;rw [hd];simp [Tryz.underlying92,hk,Value.formed,cs1,Value.cells,h1]
theorem zJD {a a':List Int} (ha:InI a) (ha':InI a') (h:zBq a=zBq a') (h1:a.length=a'.length) (h3:a.length≤4):a=a':=by
 have:=zCA.inj (zBy ha) (by rw [h]; exact zBy ha');simp [vec] at this;exact zRr ⟨this.1,this.2.1,this.2.2.1,this.2.2.2⟩ h1 h3
def SetD (n:Nat) (L:List (List Int)) (D:DataW Value):Prop:=∀a:List Int,a.length=n→InI a→D.atKey (zBq a) (.held (.bool false))=.held (.bool (decide (a∈L)))
abbrev aS (t:TypeId) (mb n:Nat) (L:List (List Int)):zAF:=fun F w=>F mb∧∃D m,m≤L.length∧w.ownsMap Tryz.prog t RD mb m D∧SetD n L D
theorem st_S (t:TypeId) (mb n:Nat) (L:List (List Int)):zAh (aS t mb n L):=fun F w w' h k=>by
 obtain ⟨h1,D,m,h2,h3,h4⟩:=h;refine ⟨h1,D,m,h2,?_,h4⟩;obtain ⟨es,clock,hb,r⟩:=h3;exact ⟨es,clock,by rw [k mb h1 (Array.getElem?_eq_some_iff.1 hb).1]; exact hb,r⟩
section
variable {A:Nat→Prop} {w0 w w':World} {Ps:List zAF}
theorem SetD.empty (n:Nat):SetD n [] (.map []):=fun a _ _=>by simp [DataW.atKey]
theorem HSx.newSet (h:HSx A w0 w Ps) (t:TypeId) (n:Nat) {w1:World} (hw:w1=w.alloc (.map #[] 0)):HSx A w0 w1 (Ps++[aS t w.heap.size n []]):=by
 subst hw;exact h.add ((Below.refl _ _).alloc (zWK _) _) (st_S _ _ _ _) (F:=fun b=>b=w.heap.size) ⟨rfl,_,0,zWK _,World.ownsMap_made _ _ _ _,SetD.empty n⟩ (fun b hb=>by subst hb; exact ⟨zWK _,by simp⟩)
theorem SetD.put {n:Nat} {L:List (List Int)} {D:DataW Value} {p:List Int} (h:SetD n L D) (hm:Maps.IsMap D) (hk:WideAt.IsKeyLit (zBq p)) (hn:n≤4) (hp:p.length=n) (hpi:InI p):SetD n (L++[p]) (D.put (zBq p) (.held (.bool true))):=fun a ha hai=>by
 by_cases he:zBq a=zBq p
 ·have e:=zJD hai hpi he (by rw [ha,hp]) (by rw [ha]; exact hn);subst e;rw [Maps.atKey_put_same hm hk];simp
 ·rw [Maps.atKey_put_other he,h a ha hai];have:a≠p:=fun e=>he (by rw [e]);simp [this]
section
variable {ops:Array Oper} {rest:List Oper} {o:Oper} {a:Act} {Q:Exit→Act→World→Prop} {tm t mb n:Nat} {L:List (List Int)}
theorem zGV (hg:o.guard=none) (mo x:Operand) (hop:o.op=Op.lookup 109 mo x false) (hm:a.eval mo=.map (some mb)) (h:HSx A w0 w Ps) (i:Nat) (hi:Ps[i]? = some (aS 92 mb n L)) {p:List Int} (hp:p.length=n) (hpi:InI p) (hx:a.eval x=vec p)
  (k:wpList Tryz.prog ops Q rest (a.put o.dst (.bool (decide (p∈L)))) w):wpList Tryz.prog ops Q (o::rest) a w:=by
 obtain ⟨F,⟨_,D,m,_,hown,hD⟩,_⟩:=HSx.get h i hi;refine wpList_plain hg fun K' hK'=>?_;obtain ⟨v,ps,hrun,hv⟩:=hown.lookup zCA Tryz.underlying109 (z:=.bool false) (by kernel_rfl) (zd:=.held (.bool false)) (zp:=[]) rfl (zBy hpi);rw [hD p hp hpi] at hv;simp only [RD,Option.some.injEq,Prod.mk.injEq,DataW.held.injEq] at hv;obtain ⟨rfl,_⟩:=hv;unfold Oper.wp;simp only [execOp,hop,hm,hx,Sem.run_bind,Sem.run_pure,Result.andThen_ok,hrun];exact hK' _ _ k
theorem zJy (hg:o.guard=none) (mo x:Operand) (hop:o.op=Op.lookup 109 mo x false) (hm:a.eval mo=.map (some mb)) (h:HSx A w0 w Ps) (i:Nat) (hi:Ps[i]? = some (aS 92 mb n L)) {p:List Int} (hp:p.length=n) (hpi:InI p) (hx:a.eval x=vec p) (hmem:Hid (p∈L))
  (k:wpList Tryz.prog ops Q rest (a.put o.dst (.bool true)) w):wpList Tryz.prog ops Q (o::rest) a w:=zGV hg mo x hop hm h i hi hp hpi hx (by rw [decide_eq_true hmem.out]; exact k)
theorem zLf (hg:o.guard=none) (mo x:Operand) (hop:o.op=Op.lookup 109 mo x false) (hm:a.eval mo=.map (some mb)) (h:HSx A w0 w Ps) (i:Nat) (hi:Ps[i]? = some (aS 92 mb n L)) {p:List Int} (hp:p.length=n) (hpi:InI p) (hx:a.eval x=vec p) (hmem:Hid (p∉L))
  (k:wpList Tryz.prog ops Q rest (a.put o.dst (.bool false)) w):wpList Tryz.prog ops Q (o::rest) a w:=zGV hg mo x hop hm h i hi hp hpi hx (by rw [decide_eq_false hmem.out]; exact k)
theorem zFh (hg:o.guard=none) (mo x y:Operand) (hop:o.op=Op.mapUpdate 109 mo x y) (hm:a.eval mo=.map (some mb)) (h:HSx A w0 w Ps) (i:Nat) (hi:Ps[i]? = some (aS 92 mb n L)) (hnew:w0.heap.size≤mb) (hn:n≤4) (hlen:L.length<67108864) {p:List Int} (hp:p.length=n) (hpi:InI p) (hx:a.eval x=vec p) (hy:a.eval y=.bool true)
  (k:∀w',HSx A w0 w' (Ps.set i (aS 92 mb n (L++[p])))→wpList Tryz.prog ops Q rest (a.put o.dst undef) w'):wpList Tryz.prog ops Q (o::rest) a w:=by
 obtain ⟨F,⟨_,D,m,hmL,hown,hD⟩,_⟩:=HSx.get h i hi;refine wpList_plain hg fun K' hK'=>?_;obtain ⟨w',hrun,ho,hgr⟩:=hown.update (val:=.bool true) (d:=.held (.bool true)) (ps:=[]) zCA Tryz.underlying109 (by unfold maxLen; omega) (zBy hpi) rfl;have hk:=k w' (h.upd i hi (st_S _ _ _ _) (h.bl.grown hgr h.bl.size (fun b hb=>by simp only [Option.some.injEq] at hb; omega)) hgr.size fun F' hF' _=>⟨F',⟨hF'.1,_,m+1,by simp; omega,ho,hD.put hown.isMap (zCA.key (zBy hpi)) hn hp hpi⟩,fun b hb=>.inl hb,fun b hl hb=>hgr.block b hl (fun e=>by simp only [Option.some.injEq] at e; subst e; exact hb hF'.1)⟩);unfold Oper.wp;simp only [execOp,hop,hm,hx,hy,Sem.run_bind,Sem.run_pure,Result.andThen_ok,hrun];exact hK' _ _ hk
theorem zFg (hg:o.guard=none) (mo x y:Operand) (hop:o.op=Op.insert 109 mo x y) (hm:a.eval mo=.map (some mb)) (h:HSx A w0 w Ps) (i:Nat) (hi:Ps[i]? = some (aS 92 mb n L)) (hnew:w0.heap.size≤mb) (hn:n≤4) (hlen:L.length<67108864) {p:List Int} (hp:p.length=n) (hpi:InI p) (hx:a.eval x=vec p) (hy:a.eval y=.bool true)
  (k:∀w',HSx A w0 w' (Ps.set i (aS 92 mb n (L++[p])))→wpList Tryz.prog ops Q rest (a.put o.dst undef) w'):wpList Tryz.prog ops Q (o::rest) a w:=by
 obtain ⟨F,⟨_,D,m,hmL,hown,hD⟩,_⟩:=HSx.get h i hi;refine wpList_plain hg fun K' hK'=>?_;obtain ⟨w',hrun,ho,hgr⟩:=hown.update (val:=.bool true) (d:=.held (.bool true)) (ps:=[]) zCA Tryz.underlying109 (by unfold maxLen; omega) (zBy hpi) rfl;have hk:=k w' (h.upd i hi (st_S _ _ _ _) (h.bl.grown hgr h.bl.size (fun b hb=>by simp only [Option.some.injEq] at hb; omega)) hgr.size fun F' hF' _=>⟨F',⟨hF'.1,_,m+1,by simp; omega,ho,hD.put hown.isMap (zCA.key (zBy hpi)) hn hp hpi⟩,fun b hb=>.inl hb,fun b hl hb=>hgr.block b hl (fun e=>by simp only [Option.some.injEq] at e; subst e; exact hb hF'.1)⟩);unfold Oper.wp;simp only [execOp,hop,hm,hx,hy,Sem.run_bind,Sem.run_pure,Result.andThen_ok,hrun];exact hK' _ _ hk
end
end
end Go.Proofs.YtphbichgpcicnaaGreatDoor
