/- Words as text, by the program. Condition: sizes up to 2^20. -/
import Derived.Test.YtlgcdacpjcnjgaaGreatDoorJGStr
import Derived.Laws.IdiomStrings
import Derived.Test.YtlgcdacpjcnjgaaGreatDoorJGKeys
namespace Go.Proofs.YtlgcdacpjcnjgaaGreatDoor
open Go.RowKit
set_option maxRecDepth 20000
set_option maxHeartbeats 8000000
abbrev InL (l:List Int):Prop:=∀x∈l,-9223372036854775808≤x∧x≤9223372036854775807
def okL (x:Int):Bool:=decide (0≤x) && decide (x≤3)
def dgt (x:Int):UInt8:=UInt8.ofNat (49+x.toNat)
def wdT (l:List Int) (k:Nat):List UInt8:=(l.take k).map dgt
def zBI (l:List Int):List UInt8:=if l=[] then [101] else if l.all okL then l.map dgt else []
theorem zRo (l:List Int) (k:Nat):(wdT l k).length≤k:=by simp [wdT]; omega
theorem zPn {l:List Int} {k:Nat} {x:Int} (h:l[k]? = some x):wdT l (k+1)=wdT l k++[dgt x]:=zH9 dgt h
theorem zMK {l:List Int} {k:Nat} {x:Int} (h:l[k]? = some x) (hx:okL x=false):zBI l=[]:=by
 have hm:=zTF h;unfold zBI;rw [if_neg (fun e=>by rw [e] at hm; cases hm),if_neg];intro e;have:=List.all_eq_true.1 e x hm;rw [hx] at this;cases this
theorem zMN {l:List Int} (h:l.length=0):zBI l=[101]:=by unfold zBI; rw [if_pos (List.eq_nil_of_length_eq_zero h)]
theorem zOf {l:List Int} (h:l.length≠0) (ho:∀x∈l,okL x=true):zBI l=wdT l l.length:=by
 unfold zBI wdT;rw [if_neg (fun e=>h (by rw [e]; rfl)),if_pos (List.all_eq_true.2 ho),List.take_of_length_le (zTI _)]
theorem zQ9 {l:List Int} {k:Nat} {x:Int} (h:l[k]? = some x) (hx:okL x=true) (ho:∀y∈l.take k,okL y=true):∀y∈l.take (k+1),okL y=true:=by
 intro y hy;rw [zAP h,List.mem_append] at hy;rcases hy with hy | hy
 ·exact ho y hy
 ·simp at hy; subst hy; exact hx
theorem zSc {x:Int} (h:okL x=true):0≤x∧x≤3:=by simpa [okL] using h
theorem zMM {l:List Int}:(zBI l).length≤l.length+1:=by
 unfold zBI;split
 ·simp
 ·split <;> simp
theorem infoByte:(Tryz.prog.info? 5).map (fun i=>(i.zero,i.size,i.bytes))=some (some (.int .u8 0),1,1):=by kernel_rfl
def FB (S:Nat→Prop) (w:World) (v:Value) (l:List UInt8):Prop:=w.ownsRow 0 5 1 v l.length (l.map fun x=>Value.int .u8 (x.toNat:Int))∧∀b,v.ownBlock=some b→S b
theorem FB.of_row {B:Nat} {w w':World} {v:Value} {l:List UInt8} {n:Nat} {xs:List Value} (h:w'.ownsRow B 5 1 v n xs) (hB:w.heap.size≤B) (hn:n=l.length) (hx:xs=l.map fun x=>Value.int .u8 (x.toNat:Int)):FB (New w w') w' v l:=by
 subst hn hx;exact ⟨zBp h (Nat.zero_le _),fun b hb=>by have:=h.lt b hb; exact ⟨by omega,this.2⟩⟩
theorem FB.below {S:Nat→Prop} {w w':World} {v:Value} {l:List UInt8} (h:FB S w v l) (hb:Below w.heap.size w w'):FB S w' v l :=
 ⟨zAk h.1 (fun b hv=>hb.block b (h.1.lt b hv).2),h.2⟩
theorem FB.grow {W w w':World} {v:Value} {l:List UInt8} (h:FB (New W w) w v l) (hb:Below w.heap.size w w'):FB (New W w') w' v l :=
 ⟨(h.below hb).1,fun b hv=>⟨(h.2 b hv).1,Nat.lt_of_lt_of_le (h.2 b hv).2 hb.size⟩⟩
theorem FB.form {S:Nat→Prop} {w:World} {v:Value} {l:List UInt8} (h:FB S w v l):∃a cap,v=.slice a l.length cap:=by
 rcases h.1.2 with ⟨rfl,h0⟩ | ⟨g,cap,cur,rfl,_⟩
 ·exact ⟨none,0,by rw [h0]⟩
 ·exact ⟨_,cap,rfl⟩
theorem FB.empty {W w:World} (hb:Below W.heap.size W w):FB (New W (w.alloc (.cells #[] 5))) (w.alloc (.cells #[] 5)) (.slice (some ⟨w.heap.size,0,none⟩) 0 0) []:=by
 have:=FB.of_row (w:=w) (l:=[]) (World.ownsRow_lit (base:=w.heap.size) (e:=5) (size:=1) w #[] 0 (zTI _) (by unfold maxLen; omega) rfl) (zTI _) rfl rfl;exact ⟨this.1,fun b h=>⟨Nat.le_trans hb.size (this.2 b h).1,(this.2 b h).2⟩⟩
section
variable {w:World} {ops:Array Oper} {rest:List Oper} {o:Oper} {a:Act} {Q:Exit→Act→World→Prop}
theorem zLs {W:World} {K:Act→World→Prop} (s x:Operand)
  (ho:o.op=.call { callee:=.builtin .append,args:=#[s,x],argTypes:=#[22,22] })
  {v:Value} {l:List UInt8} {y:UInt8} (hs:a.eval s=v) (hf:FB (New W w) w v l) (hb:Below W.heap.size W w)
  {H:Nat} (hx:a.eval x=.slice (some ⟨H,0,none⟩) 1 1) (hc:w.cell? ⟨H,0,none⟩=some (.int .u8 (y.toNat:Int))) (hlen:l.length+1≤67108864)
  (h:∀v' w',FB (New W w') w' v' (l++[y])→Below W.heap.size W w'→w.grownBy w' v.ownBlock→K (a.put o.dst v') w'):o.wp Tryz.prog a w K Q:=by
 obtain ⟨i0,hi,hz0,hz1,hz2⟩:=info_parts infoByte;obtain ⟨hown,hS⟩:=hf;have hown':w.ownsRow W.heap.size 5 1 v l.length (l.map fun x=>Value.int .u8 (x.toNat:Int)):=by
  refine ⟨hown.1,?_⟩;rcases hown.2 with h | ⟨g,cap,cur,hv,_,r⟩
  ·exact .inl h
  ·exact .inr ⟨g,cap,cur,hv,(hS g (by rw [hv]; rfl)).1,r⟩
 refine wp_append_own w s x 22 ho W.heap.size 5 i0 (.int .u8 0) 1 1 Tryz.underlying22 hi hz0 hz1 hz2 rfl (by decide) v l.length (l.map fun x=>Value.int .u8 (x.toNat:Int)) hs hown' ⟨H,0,none⟩ 1 1 [.int .u8 (y.toNat:Int)] hx rfl ?_ ?_ ?_ ?_ hb.size ?_
 ·intro j u hj
  match j,hj with
  | 0,hj=>simp at hj; subst hj; simpa [Addr.add] using hc
 ·intro u hu; simp at hu; subst hu; rfl
 ·unfold maxLen; omega
 ·omega
 ·intro v' w' h1 h2 _;exact h v' w' (FB.of_row h1 (zTI _) (by simp) (by simp)) (hb.grown h2 hb.size (fun k hk=>(hS k hk).1)) h2
theorem zHF {W:World} (hgd:o.guard=none) (s x:Operand)
  (ho:o.op=.call { callee:=.builtin .append,args:=#[s,x],argTypes:=#[22,22] })
  {v:Value} {l:List UInt8} {y:UInt8} (hs:a.eval s=v) (hf:FB (New W w) w v l) (hb:Below W.heap.size W w)
  {H:Nat} (hx:a.eval x=.slice (some ⟨H,0,none⟩) 1 1) (hc:w.cell? ⟨H,0,none⟩=some (.int .u8 (y.toNat:Int))) (hlen:l.length+1≤67108864)
  (h:∀v' w',FB (New W w') w' v' (l++[y])→Below W.heap.size W w'→w.grownBy w' v.ownBlock→wpList Tryz.prog ops Q rest (a.put o.dst v') w'):wpList Tryz.prog ops Q (o::rest) a w :=
 wpList_plain hgd fun _ hK=>zLs s x ho hs hf hb hx hc hlen fun v' w' h1 h2 h3=>hK _ _ (h v' w' h1 h2 h3)
end
theorem FB.convert {S:Nat→Prop} {w:World} {v:Value} {l:List UInt8} (h:FB S w v l) (hl:l≠[]) :
  Sem.run Tryz.prog (convert 22 9 v) w=.ok (.string (bs l)) w:=by
 rcases h.1.2 with ⟨rfl,h0⟩ | ⟨g,cap,cur,rfl,_⟩
 ·exact absurd (List.eq_nil_of_length_eq_zero h0) hl
 ·refine run_convert_bytes_back w 22 9 5 ⟨g,0,none⟩ cap l Tryz.underlying22 Tryz.underlying5 Tryz.underlying9 ?_;intro j hj;have:=h.1.cellAt j (by omega);rw [show (⟨g,0,none⟩:Addr).add j=⟨g,j,none⟩ by unfold Addr.add; split <;> simp_all,this,List.getElem?_map,zTE hj];rfl
theorem zFS {x:Int} (h:0≤x∧x≤3):((dgt x).toNat:Int)=49+x:=by
 obtain ⟨n,rfl⟩:=Int.eq_ofNat_of_zero_le h.1;unfold dgt;simp;omega
theorem zCn {S:Nat→Prop} {v:Value} {l:List Int} {w:World} (h:RI S w v l) (hi:InL l) (hl:l.length≤1048576) :
  Calls Tryz.prog 31 #[v] w fun e w'=>e=.returned (.string (bs (zBI l)))∧Below w.heap.size w w':=by
 obtain ⟨a,cap,rfl⟩:=h.form;have HI:=zTD hi;have HST:=zTD (fun (k:Nat) (x:Int) (hx:l[k]? = some x)=>zPn hx);have HBAD:=zTD (fun (k:Nat) (x:Int) (hx:l[k]? = some x) (h2:okL x=false)=>zMK hx h2);have HOK:=zTD (fun (k:Nat) (x:Int) (hx:l[k]? = some x) (h2:okL x=true) (ho:∀y∈l.take k,okL y=true)=>zQ9 hx h2 ho);have HLL:=zTD (zRo l);have HE:=zTD (show l.length=0→zBI l=[101] from zMN);have HF:=zTD (show l.length≠0→(∀x∈l.take l.length,okL x=true)→zBI l=wdT l l.length from fun h ho=>zOf h (by rwa [List.take_of_length_le (zTI _)] at ho));have HNL:Hid ((wdT l l.length).length=l.length):=zTD (by simp [wdT]);have H0:Hid (wdT l 0=[]):=zTD rfl;have H00:Hid (∀y∈l.take 0,okL y=true):=zTD (fun y hy=>by simp at hy);generalize zBI l=res at *;generalize hm:l.length=m at *;have HM:=zTD hm
 clear hm hi;by_cases hz:m=0
 ·have HR:=zTD (HE.out hz);have i1:((m:Int) == 0)=true:=by simp; omega
  clear hz;go_enter Tryz.func31,Tryz.ntmps31
  go_wp2_with fail
  go_ret
  exact ⟨by rw [HR.out]; rfl,Below.refl _ _⟩
 have HZ:=zTD hz;have i0:((m:Int) == 0)=false:=by simp; omega
 clear hz;go_enter Tryz.func31,Tryz.ntmps31
 go_wp2_with fail
 have f1:=FB.empty (Below.refl _ w);have b1:Below w.heap.size w (w.alloc (.cells #[] 5)):=(Below.refl _ w).alloc (zTI _) _;generalize w.alloc (.cells #[] 5)=w1 at *;rw [<-H0.out] at f1;go_loopw [3,12] (fun zz j wr=>∃(k:Nat) (z:Value),z=zz∧k≤m∧j=.int .i64 k∧FB (New w wr) wr z (wdT l k)∧Hid (∀y∈l.take k,okL y=true)∧Below w.heap.size w wr) (fun _ j _=>m-(intOf j).toNat)
 case atStart=>exact ⟨0,_,rfl,Nat.zero_le _,rfl,f1,H00,b1⟩
 case round =>
  obtain ⟨k,z,rfl,hk,rfl,hf,ho,hb⟩:=hrel;by_cases h1:k<m
  ·obtain ⟨b,o,x,e8,hcx,hx⟩:=(h.below hb).at h1;subst e8;have i1:(k:Int)<(m:Int):=by omega
   have hx':=HI.out x (zTF hx.out);obtain ⟨hx1,hx2⟩:=hx';have hst:=HST.out k x hx.out;have hlk:=HLL.out k;cases hox:okL x with
   | false =>
    have HR:=zTD (HBAD.out k x hx.out hox);clear hst;by_cases hx0:x<0
    ·clear hox;go_wp2_with fail
     go_ret
     exact ⟨by rw [HR.out]; rfl,hb⟩
    ·have hx4:4≤x:=by
      simp [okL] at hox; omega
     clear hox;go_wp2_with fail
     go_ret
     exact ⟨by rw [HR.out]; rfl,hb⟩
   | true =>
    have HO:=zTD (HOK.out k x hx.out hox ho.out);have hin:=zSc hox;have hx3:¬4≤x:=by omega
    have hx0:¬x<0:=by omega
    have HD:=zTD (zFS hin);clear hox hin;have hlk1:(wdT l k).length+1≤67108864:=by omega
    have hcell:(wr.alloc (.cells #[Value.int IntKind.u8 (49+x)] 5)).cell? ⟨wr.heap.size,0,none⟩=some (.int .u8 ((dgt x).toNat:Int)):=by rw [HD.out]; go_simp
    have hbb:Below wr.heap.size wr (wr.alloc (.cells #[Value.int IntKind.u8 (49+x)] 5)):=(Below.refl _ wr).alloc (zTI _) _;have HFF:=zTD (hf.grow hbb);have HBB:=zTD (zAC.step hb hbb);have HCC:=zTD hcell;clear hcell;go_wp2_with (at_builtin; go_must (refine zHF (W:=w) (y:=dgt x) rfl _ _ rfl rfl HFF.out HBB.out rfl HCC.out hlk1 ?_))
    intro v9 w9 f9 b9 hgrow;rw [<-hst] at f9;clear hst;go_wp2_with fail
    go_roundw
    case rel=>exact ⟨k+1,_,rfl,by omega,by go_num,f9,HO,b9⟩
    case measure=>simp [intOf]; omega
  ·have hkm:k=m:=by omega
   have i1:¬(k:Int)<(m:Int):=by omega
   rw [hkm] at ho hf ⊢;clear hkm;have HR:=zTD (HF.out HZ.out ho.out);have hcv:=hf.convert (fun e=>HZ.out (by rw [<-HNL.out,e]; rfl));go_wp2_with fail
   go_ret
   exact ⟨by rw [HR.out]; rfl,hb⟩
def OkW (l:List Int):Prop:=∀x∈l,0≤x∧x≤3
theorem OkW.all {l:List Int} (h:OkW l):∀x∈l,okL x=true:=fun x hx=>by have:=h x hx; simp [okL]; omega
theorem OkW.inL {l:List Int} (h:OkW l):InL l:=fun x hx=>by have:=h x hx; omega
theorem zQU {x y:Int} (hx:0≤x∧x≤3) (hy:0≤y∧y≤3) (h:dgt x=dgt y):x=y:=by
 have h1:=zFS hx;have h2:=zFS hy;rw [h] at h1;omega
theorem zFi:∀{a b:List Int},OkW a→OkW b→a.map dgt=b.map dgt→a=b
 | [],[],_,_,_=>rfl
 | [],_::_,_,_,h=>by simp at h
 | _::_,[],_,_,h=>by simp at h
 | x::a,y::b,ha,hb,h=>by
  simp only [List.map_cons,List.cons.injEq] at h;rw [zQU (ha x (by simp)) (hb y (by simp)) h.1,zFi (fun z hz=>ha z (by simp [hz])) (fun z hz=>hb z (by simp [hz])) h.2]
theorem zML {a b:List Int} (ha:OkW a) (hb:OkW b) (h:zBI a=zBI b):a=b:=by
 have e101:∀{l:List Int},OkW l→l.map dgt≠[101]:=fun {l} hl e=>by
  cases l with
  | nil=>simp at e
  | cons x l =>
   simp only [List.map_cons,List.cons.injEq] at e;have h1:=zFS (hl x (by simp));have h2:=hl x (by simp);rw [e.1] at h1;simp at h1;omega
 unfold zBI at h;rw [if_pos (List.all_eq_true.2 ha.all),if_pos (List.all_eq_true.2 hb.all)] at h;by_cases h1:a=[]
 ·by_cases h2:b=[]
  ·rw [h1,h2]
  ·rw [if_pos h1,if_neg h2] at h;exact absurd h.symm (e101 hb)
 ·by_cases h2:b=[]
  ·rw [if_neg h1,if_pos h2] at h;exact absurd h (e101 ha)
  ·rw [if_neg h1,if_neg h2] at h;exact zFi ha hb h
end Go.Proofs.YtlgcdacpjcnjgaaGreatDoor
namespace Go.Proofs.YtlgcdacpjcnjgaaGreatDoor
open Go.RowKit
open Go.Maps (Keyed)
set_option maxRecDepth 20000
theorem zIw:Keyed Tryz.prog 9:=Go.Maps.string_keyed Tryz.underlying9
def keyW (x:List Int):Lit:=.string (bs (zBI x)).data.toList
theorem zIv {x:List Int} (hl:x.length≤1048576):keyOf Tryz.prog 9 (.string (bs (zBI x)))=some (keyW x):=by
 have h1:(bs (zBI x)).size≤maxLen:=by rw [zBU]; have:=zMM (l:=x); unfold maxLen; omega
 exact Go.WideMaps.keyOf_string_mk Tryz.underlying9 h1
theorem zOn {x y:List Int} (hx:OkW x) (hy:OkW y) (h:keyW x=keyW y):x=y:=by
 unfold keyW at h;simp only [Lit.string.injEq,zDJ] at h;exact zML hx hy h
def MapD (z:Value) (f:List Int→Value) (D:DataW Value):Prop:=∀x:List Int,OkW x→x.length≤1048576→D.atKey (keyW x) (.held z)=.held (f x)
abbrev aM (z:Value) (mb m:Nat) (f:List Int→Value):zAI:=fun F w=>F mb∧∃D m',m'≤m∧w.ownsMap Tryz.prog 9 RD mb m' D∧MapD z f D
theorem st_M (z:Value) (mb m:Nat) (f:List Int→Value):zAg (aM z mb m f):=fun F w w' h k=>by
 obtain ⟨h1,D,m',h2,h3,h4⟩:=h;refine ⟨h1,D,m',h2,?_,h4⟩;obtain ⟨es,clock,hb,r⟩:=h3;exact ⟨es,clock,by rw [k mb h1 (Array.getElem?_eq_some_iff.1 hb).1]; exact hb,r⟩
section
variable {A:Nat→Prop} {w0 w w':World} {Ps:List zAI}
theorem HSx.newMap (h:HSx A w0 w Ps) (z:Value) {w1:World} (hw:w1=w.alloc (.map #[] 0)):HSx A w0 w1 (Ps++[aM z w.heap.size 0 (fun _=>z)]):=by
 subst hw;exact h.add ((Below.refl _ _).alloc (zTI _) _) (st_M _ _ _ _) (F:=fun b=>b=w.heap.size) ⟨rfl,_,0,zTI _,World.ownsMap_made _ _ _ _,fun x _ _=>by simp [DataW.atKey]⟩ (fun b hb=>by subst hb; exact ⟨zTI _,by simp⟩)
def putM (f:List Int→Value) (p:List Int) (v:Value):List Int→Value:=fun x=>if x=p then v else f x
theorem MapD.put {z v:Value} {f:List Int→Value} {D:DataW Value} {p:List Int} (h:MapD z f D) (hm:Maps.IsMap D) (hk:WideAt.IsKeyLit (keyW p)) (hp:OkW p):MapD z (putM f p v) (D.put (keyW p) (.held v)):=fun x hx hl=>by
 unfold putM;by_cases he:keyW x=keyW p
 ·have e:=zOn hx hp he;subst e;rw [Maps.atKey_put_same hm hk,if_pos rfl]
 ·rw [Maps.atKey_put_other he,h x hx hl,if_neg (fun e=>he (by rw [e]))]
theorem HSx.mapRun {z:Value} {mb m:Nat} {f:List Int→Value} (h:HSx A w0 w Ps) (i:Nat) (hi:Ps[i]? = some (aM z mb m f)) {tm e:TypeId} (ht:Tryz.prog.underlying tm=some (.map 9 e)) (hz:∀w,(zeroValue e).run Tryz.prog w=.ok z w) {p:List Int} (hp:OkW p) (hl:p.length≤1048576) :
  (Go.Instr.lookup tm (.map (some mb)) (.string (bs (zBI p))) false).run Tryz.prog w=.ok (f p) w:=by
 obtain ⟨F,⟨_,D,m,_,hown,hD⟩,_⟩:=HSx.get h i hi;obtain ⟨v,ps,hrun,hv⟩:=hown.lookup zIw ht (z:=z) (hz w) (zd:=.held z) (zp:=[]) rfl (zIv hl);rw [hD p hp hl] at hv;simp only [RD,Option.some.injEq,Prod.mk.injEq,DataW.held.injEq] at hv;obtain ⟨rfl,_⟩:=hv;exact hrun
section
variable {ops:Array Oper} {rest:List Oper} {o:Oper} {a:Act} {Q:Exit→Act→World→Prop} {tm e:TypeId} {z:Value} {mb m:Nat} {f:List Int→Value}
theorem zFM (hg:o.guard=none) (mo x:Operand) (hop:o.op=Op.lookup tm mo x false) (hm:a.eval mo=.map (some mb)) (h:HSx A w0 w Ps) (i:Nat) (hi:Ps[i]? = some (aM z mb m f)) (ht:Tryz.prog.underlying tm=some (.map 9 e)) (hz:∀w,(zeroValue e).run Tryz.prog w=.ok z w)
  {p:List Int} (hp:OkW p) (hl:p.length≤1048576) (hx:a.eval x=.string (bs (zBI p)))
  (k:wpList Tryz.prog ops Q rest (a.put o.dst (f p)) w):wpList Tryz.prog ops Q (o::rest) a w:=by
 refine wpList_plain hg fun K' hK'=>?_;have hrun:=h.mapRun i hi ht hz hp hl;unfold Oper.wp;simp only [execOp,hop,hm,hx,Sem.run_bind,Sem.run_pure,Result.andThen_ok,hrun];exact hK' _ _ k
theorem zID (hg:o.guard=none) (mo x y:Operand) (hop:o.op=Op.mapUpdate tm mo x y) (hm:a.eval mo=.map (some mb)) (h:HSx A w0 w Ps) (i:Nat) (hi:Ps[i]? = some (aM z mb m f)) (hnew:w0.heap.size≤mb) (hlen:m<67108864) (ht:Tryz.prog.underlying tm=some (.map 9 e))
  {p:List Int} (hp:OkW p) (hl:p.length≤1048576) (hx:a.eval x=.string (bs (zBI p))) {v:Value} (hy:a.eval y=v)
  (k:∀w',HSx A w0 w' (Ps.set i (aM z mb (m+1) (putM f p v)))→wpList Tryz.prog ops Q rest (a.put o.dst undef) w'):wpList Tryz.prog ops Q (o::rest) a w:=by
 obtain ⟨F,⟨_,D,m1,hmL,hown,hD⟩,_⟩:=HSx.get h i hi;refine wpList_plain hg fun K' hK'=>?_;obtain ⟨w',hrun,ho,hgr⟩:=hown.update (val:=v) (d:=.held v) (ps:=[]) zIw ht (by unfold maxLen; omega) (zIv hl) rfl;have hk:=k w' (h.upd i hi (st_M _ _ _ _) (h.bl.grown hgr h.bl.size (fun b hb=>by simp only [Option.some.injEq] at hb; omega)) hgr.size fun F' hF' _=>⟨F',⟨hF'.1,_,m1+1,by omega,ho,hD.put hown.isMap (zIw.key (zIv hl)) hp⟩,fun b hb=>.inl hb,fun b hl hb=>hgr.block b hl (fun e=>by simp only [Option.some.injEq] at e; subst e; exact hb hF'.1)⟩);unfold Oper.wp;simp only [execOp,hop,hm,hx,hy,Sem.run_bind,Sem.run_pure,Result.andThen_ok,hrun];exact hK' _ _ hk
end
end
end Go.Proofs.YtlgcdacpjcnjgaaGreatDoor
