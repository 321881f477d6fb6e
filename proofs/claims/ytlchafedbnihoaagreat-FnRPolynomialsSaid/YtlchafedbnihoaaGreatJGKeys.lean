/- Keys of maps: short lists of numbers. No condition. -/
import Derived.Test.YtlchafedbnihoaaGreatJGRp
import Derived.Maps.OwnSet
import Derived.Maps.OwnOps
import Derived.DeepKeys4
namespace Go.Proofs.YtlchafedbnihoaaGreat
open Go.RowKit
set_option maxRecDepth 20000
theorem zDM {a:List Int} (h:InI a) (k:Nat):I64 (num a k):=by
 unfold num;cases e:a[k]? with
 | none=>decide
 | some x =>
  have:=h x (zQa e);exact Go.WalkArith.wf_i64 (by simp; omega)
theorem zIp {a a':List Int} (h:num a 0=num a' 0∧num a 1=num a' 1∧num a 2=num a' 2∧num a 3=num a' 3) (hl:a.length=a'.length) (h4:a.length≤4):a=a':=by
 obtain ⟨h0,h1,h2,h3⟩:=h;rcases a with _ | ⟨a,_ | ⟨b,_ | ⟨c,_ | ⟨d,_ | ⟨e,l⟩⟩⟩⟩⟩ <;> rcases a' with _ | ⟨a',_ | ⟨b',_ | ⟨c',_ | ⟨d',_ | ⟨e',l'⟩⟩⟩⟩⟩ <;> simp [num] at * <;> simp_all
def RD (v:Value):Option (DataW Value × List MemPlace):=some (.held v,[])
section
variable {w w':World}
theorem zJK (h:Below w.heap.size w w'):w.grownBy w' none:=⟨h.os,h.tape,h.output,h.size,fun i hi _=>h.block i hi⟩
end
end Go.Proofs.YtlchafedbnihoaaGreat
namespace Go.Proofs.YtlchafedbnihoaaGreat
open Go.RowKit
open Go.Maps (Keyed)
set_option maxRecDepth 20000
theorem zGR:Keyed Tryz.prog 79:=Keyed.of_law (Go.deep_law_laid zJo (m:=5) (by decide) (k:=79) (of_decide_eq_true (by kernel_rfl)) (by kernel_rfl) (by kernel_rfl))
def keyV (a b:List Int):Value:=.agg #[.int .i64 (num a 0),.int .i64 (num a 1),.int .i64 (num a 2),.int .i64 (num a 3),.int .i64 (num b 0),.int .i64 (num b 1),.int .i64 (num b 2),.int .i64 (num b 3)]
def keyB (a b:List Int):Lit:=.string (keyBytes [.int .i64 (num a 0),.int .i64 (num a 1),.int .i64 (num a 2),.int .i64 (num a 3),.int .i64 (num b 0),.int .i64 (num b 1),.int .i64 (num b 2),.int .i64 (num b 3)])
theorem zE3 {a b:List Int} (ha:InI a) (hb:InI b):keyOf Tryz.prog 79 (keyV a b)=some (keyB a b):=by
 have a0:=zDM ha 0;have a1:=zDM ha 1;have a2:=zDM ha 2;have a3:=zDM ha 3;have b0:=zDM hb 0;have b1:=zDM hb 1;have b2:=zDM hb 2;have b3:=zDM hb 3;unfold keyV keyB;generalize num a 0=x0 at *;generalize num a 1=x1 at *;generalize num a 2=x2 at *;generalize num a 3=x3 at *;generalize num b 0=y0 at *;generalize num b 1=y1 at *;generalize num b 2=y2 at *;generalize num b 3=y3 at *;have cs2:Tryz.prog.cellsOf 79=8:=by kernel_rfl
 have cs1:Tryz.prog.cellsOf 77=4:=by kernel_rfl
 have cs0:Tryz.prog.cellsOf 3=1:=by kernel_rfl
 have hk:Tryz.prog.keyType 79=true:=by kernel_rfl
 obtain ⟨d,hd⟩:∃d,Tryz.prog.types.size+1=d+3:=⟨Tryz.prog.types.size-2,by have:2≤Tryz.prog.types.size:=of_decide_eq_true (by kernel_rfl); omega⟩;have h0:∀x:Int,I64 x→Tryz.prog.keyLits (d+1) 3 [.int .i64 x]=some [.int .i64 x]:=fun x hx=>by
  simp [Program.keyLits,Tryz.underlying3]; exact hx
 have h1:∀x0 x1 x2 x3:Int,I64 x0→I64 x1→I64 x2→I64 x3→Tryz.prog.keyLits (d+2) 77 [.int .i64 x0,.int .i64 x1,.int .i64 x2,.int .i64 x3]=some [.int .i64 x0,.int .i64 x1,.int .i64 x2,.int .i64 x3]:=fun x0 x1 x2 x3 k0 k1 k2 k3=>by
  unfold Program.keyLits;simp [Tryz.underlying77,cs1,cs0,show List.range 4=[0,1,2,3] from rfl,h0 _ k0,h0 _ k1,h0 _ k2,h0 _ k3]
 have h2:Tryz.prog.keyLits (d+3) 79 [.int .i64 x0,.int .i64 x1,.int .i64 x2,.int .i64 x3,.int .i64 y0,.int .i64 y1,.int .i64 y2,.int .i64 y3]=some [.int .i64 x0,.int .i64 x1,.int .i64 x2,.int .i64 x3,.int .i64 y0,.int .i64 y1,.int .i64 y2,.int .i64 y3]:=by
  unfold Program.keyLits;simp [Tryz.underlying79,cs2,cs1,show List.range 2=[0,1] from rfl,h1 _ _ _ _ a0 a1 a2 a3,h1 _ _ _ _ b0 b1 b2 b3]
 unfold keyOf;rw [hd];simp [Tryz.underlying79,hk,Value.formed,cs2,Value.cells,h2]
theorem zMq {a b a' b':List Int} (ha:InI a) (hb:InI b) (ha':InI a') (hb':InI b') (h:keyB a b=keyB a' b') (h1:a.length=a'.length) (h2:b.length=b'.length) (h3:a.length≤4) (h4:b.length≤4):a=a'∧b=b':=by
 have:=zGR.inj (zE3 ha hb) (by rw [h]; exact zE3 ha' hb');simp [keyV] at this;exact ⟨zIp ⟨this.1,this.2.1,this.2.2.1,this.2.2.2.1⟩ h1 h3,zIp ⟨this.2.2.2.2.1,this.2.2.2.2.2.1,this.2.2.2.2.2.2.1,this.2.2.2.2.2.2.2⟩ h2 h4⟩
def Adm (A:List Int→List Int→Prop) (n:Nat) (a b:List Int):Prop:=a.length=n∧b.length=n∧InI a∧InI b∧A a b
def Memo (A:List Int→List Int→Prop) (F:List Int→List Int→List Int) (n mb m:Nat) (w:World):Prop :=
 ∃D,w.ownsMap Tryz.prog 79 RD mb m D∧∀a b v,Adm A n a b→Maps.has D (keyB a b)=true→D.atKey (keyB a b) (.held (.slice none 0 0))=.held v→RI (fun g=>g≠mb) w v (F a b)
section
variable {A:List Int→List Int→Prop} {F:List Int→List Int→List Int} {n mb m:Nat} {w w':World}
theorem Memo.made (w:World):Memo A F n w.heap.size 0 (w.alloc (.map #[] 0)) :=
 ⟨_,World.ownsMap_made _ _ _ _,fun a b v _ h=>by simp [Maps.has] at h⟩
theorem Memo.below (h:Memo A F n mb m w) (hb:Below w.heap.size w w'):Memo A F n mb m w':=by
 obtain ⟨D,h1,h2⟩:=h;exact ⟨D,h1.kept (zJK hb) (by simp),fun a b v ha hh hat=>(h2 a b v ha hh hat).keep fun b _ hl=>hb.block b hl⟩
theorem Memo.lt (h:Memo A F n mb m w):mb<w.heap.size:=by
 obtain ⟨D,h1,_⟩:=h;exact h1.lt
section
variable {ops:Array Oper} {rest:List Oper} {o:Oper} {a:Act} {Q:Exit→Act→World→Prop}
theorem zJS (hg:o.guard=none) (mo x:Operand) (hop:o.op=Op.lookup 53 mo x true) (hm:a.eval mo=.map (some mb)) (hM:Memo A F n mb m w) {p q:List Int} (hp:Adm A n p q) (hx:a.eval x=keyV p q)
  (h1:∀v,RI (fun g=>g≠mb) w v (F p q)→wpList Tryz.prog ops Q rest (a.put o.dst (.tuple #[v,.bool true])) w)
  (h2:∀v,wpList Tryz.prog ops Q rest (a.put o.dst (.tuple #[v,.bool false])) w):wpList Tryz.prog ops Q (o::rest) a w:=by
 obtain ⟨D,hown,hD⟩:=hM;refine wpList_lookup_own_ok w hg mo x _ hop 79 25 zGR Tryz.underlying53 RD (z:=.slice none 0 0) (by kernel_rfl) (.held (.slice none 0 0)) [] rfl mb m D hm hown _ _ hx (zE3 hp.2.2.1 hp.2.2.2.1) (fun v ps hv=>?_);cases hb:Maps.has D (keyB p q) with
 | false=>exact h2 v
 | true =>
  refine h1 v (hD p q v hp hb ?_);simp [RD] at hv;exact hv.1.symm
theorem zCV (hg:o.guard=none) (mo x y:Operand) (hop:o.op=Op.mapUpdate 53 mo x y) (hm:a.eval mo=.map (some mb)) (hM:Memo A F n mb m w) (hn:n≤4) (hmm:m<maxLen) {p q:List Int} (hp:Adm A n p q) (hx:a.eval x=keyV p q)
  {v:Value} (hy:a.eval y=v) (hv:RI (fun g=>g≠mb) w v (F p q))
  (h1:∀w',Memo A F n mb (m+1) w'→w.grownBy w' (some mb)→wpList Tryz.prog ops Q rest (a.put o.dst undef) w'):wpList Tryz.prog ops Q (o::rest) a w:=by
 obtain ⟨D,hown,hD⟩:=hM;refine wpList_mapUpdate_own w hg mo x y _ hop 79 25 zGR Tryz.underlying53 RD mb m D hm hown hmm _ _ _ hx hy (zE3 hp.2.2.1 hp.2.2.2.1) (.held v) [] rfl (fun w' ho hgr=>?_);refine h1 w' ⟨_,ho,fun a b u ha hh hat=>?_⟩ hgr;have kp:∀{u:Value} {L:List Int},RI (fun g=>g≠mb) w u L→RI (fun g=>g≠mb) w' u L:=fun h=>h.keep fun b hb hl=>hgr.block b hl (by simpa using hb);by_cases he:keyB a b=keyB p q
 ·obtain ⟨rfl,rfl⟩:=zMq ha.2.2.1 ha.2.2.2.1 hp.2.2.1 hp.2.2.2.1 he (by rw [ha.1,hp.1]) (by rw [ha.2.1,hp.2.1]) (by rw [ha.1]; exact hn) (by rw [ha.2.1]; exact hn);rw [Maps.atKey_put_same hown.isMap (zGR.key (zE3 hp.2.2.1 hp.2.2.2.1))] at hat
  injection hat with hat
  subst hat;exact kp hv
 ·rw [Maps.atKey_put_other he] at hat;rw [Maps.has_put_other he] at hh;exact kp (hD a b u ha hh hat)
end
end
end Go.Proofs.YtlchafedbnihoaaGreat
namespace Go.Proofs.YtlchafedbnihoaaGreat
open Go.RowKit
set_option maxRecDepth 20000
set_option maxHeartbeats 8000000
theorem Im.ini {c:List (List Int)} (hc:CartanP c) {mu:List Int} {m:Nat} (h:Im c mu m) (hm:m≤30):InI mu:=by
 obtain ⟨hl,w,hw,hwl,hn⟩:=h;intro x hx;obtain ⟨k,hk,rfl⟩:=zEL hx;have hb:=zDf hc.car hw k (by omega);rw [hn k (by omega)];rw [hwl] at hb;have:=zHd hm;omega
def AIm (c:List (List Int)) (a b:List Int):Prop:=(∃m,m≤28∧Im c a m)∧∃m,m≤28∧Im c b m
abbrev Nm (mb:Nat):Nat→Prop:=fun g=>g≠mb
abbrev zCO (c:List (List Int)) (mb k:Nat) (w:World):Prop:=Memo (AIm c) (fun a b=>rI c a (nf c 30 b)) c.length mb k w
theorem Nm.keepI {mb:Nat} {w w':World} {v:Value} {l:List Int} (h:RI (Nm mb) w v l) (hg:w.grownBy w' (some mb)):RI (Nm mb) w' v l:=h.keep fun b hb hl=>hg.block b hl (by simpa using hb)
theorem Nm.keepII {mb:Nat} {w w':World} {v:Value} {l:List (List Int)} (h:RII (Nm mb) w v l) (hg:w.grownBy w' (some mb)):RII (Nm mb) w' v l:=h.keep fun b hb hl=>hg.block b hl (by simpa using hb)
theorem Nm.new {mb:Nat} {w w':World} {v:Value} {l:List Int} (h:FI (New w w') w' v l) (hlt:mb<w.heap.size):RI (Nm mb) w' v l:=RL.mono h.reads (fun b hb e=>by have:=hb.1; omega) (fun _ _ h=>h)
theorem zBc {mb:Nat} {w w':World} (h:Below w.heap.size w w'):w.grownBy w' (some mb):=⟨h.os,h.tape,h.output,h.size,fun i hi _=>h.block i hi⟩
theorem zAy {mb:Nat} {a b c:World} (h:a.grownBy b (some mb)) (k:b.grownBy c (some mb)):a.grownBy c (some mb) :=
 ⟨k.os.trans h.os,k.tape.trans h.tape,k.output.trans h.output,Nat.le_trans h.size k.size,fun i hi hn=>(k.block i (Nat.lt_of_lt_of_le hi h.size) hn).trans (h.block i hi hn)⟩
theorem zAa {mb:Nat} {w w':World} (hg:w.grownBy w' (some mb)) {b o:Nat} {v:Value} (h:w.cell? ⟨b,o,none⟩=some v) (hb:b≠mb):w'.cell? ⟨b,o,none⟩=some v:=hg.cell h (by simpa using hb)
theorem Nm.of {mb:Nat} {W w:World} {v:Value} {l:List Int} (h:FI (New W w) w v l) (hlt:mb<W.heap.size):RI (Nm mb) w v l:=RL.mono h.reads (fun b hb e=>by have:=hb.1; omega) (fun _ _ h=>h)
theorem zFF (c:List (List Int)) (mu:List Int):rI c mu []=if zAH mu=none then [1] else []:=rfl
theorem zJ2 (c:List (List Int)) (mu v:List Int) (i:Nat):rI c mu ((i:Int)::v)=if num mu i<0 then rI c (refl c i mu) v else addP (shI (rI c (refl c i mu) v)) (subP (shI (rI c mu v)) (rI c mu v)):=rfl
theorem zIs {n:Nat}:1≤2 ^ n:=Nat.one_le_two_pow
def PolN (c:List (List Int)) (n:Nat):Prop:=∀{x y z:Value} {mu nu:List Int} {m m' mb k:Nat} {w:World},RII (Nm mb) w x c→RI (Nm mb) w y mu→RI (Nm mb) w z nu→Im c mu m→Im c nu m'→(nf c 30 nu).length=n→m+n≤27→m'≤28 →
 zCO c mb k w→k+2 ^ (n+1)≤1048576 →
 Calls Tryz.prog 36 #[.agg #[x,.map (some mb)],y,z] w fun e w'=>∃r k',e=.returned r∧RI (Nm mb) w' r (rI c mu (nf c 30 nu))∧w.grownBy w' (some mb)∧zCO c mb k' w'∧k'+1≤k+2 ^ (n+1)
theorem zHc {c:List (List Int)} (hc:CartanP c) {n:Nat} (ih:∀j,n=j+1→PolN c j):PolN c n:=by
 intro x y z mu nu m m' mb k w h1 h2 h3 him him' hnf hm hm' hM hk;obtain ⟨a1,c1,rfl⟩:=h1.form;obtain ⟨a2,c2,rfl⟩:=h2.form;obtain ⟨a3,c3,rfl⟩:=h3.form;have hml:mu.length=c.length:=him.1;have hnl:nu.length=c.length:=him'.1;have hc4:c.length≤4:=hc.le;have HA:=zQY (show Adm (AIm c) c.length mu nu from ⟨hml,hnl,him.ini hc (by omega),him'.ini hc (by omega),⟨m,by omega,him⟩,m',hm',him'⟩);have hm4:mu.length≤4:=by omega
 have hn4:nu.length≤4:=by omega
 have HML:=zQY hml;have HNL:=zQY hnl;have HC4:=zQY hc4;have HNF:=zQY hnf;have HIM:=zQY him;have HIM':=zQY him';have HSQ:=zQY hc.sq;have HK:=zQY hk;have HP:Hid (1≤2 ^ n):=zQY zIs;have HG:Hid (∀(w':World) (r:Value) (k':Nat),RI (Nm mb) w' r (rI c mu (nf c 30 nu))→w.grownBy w' (some mb)→zCO c mb k' w'→k'+1≤k+2 ^ (n+1)→∃r' k',r=r'∧RI (Nm mb) w' r' (rI c mu (nf c 30 nu))∧w.grownBy w' (some mb)∧zCO c mb k' w'∧k'+1≤k+2 ^ (n+1)):=zQY (fun w' r k' a b c d=>⟨r,k',rfl,a,b,c,d⟩);clear hml hnl hnf him him' hk;have hlt:=hM.lt;go_enter Tryz.func36,Tryz.ntmps36
 go_wp2_with fail
 generalize hN:w.heap.size=N at *;have b0:Below N w (w.alloc (Obj.cells #[Value.slice a1 c.length c1,Value.map (some mb)] 55)):=(Below.refl _ _).alloc (by omega) _;have x0:(w.alloc (Obj.cells #[Value.slice a1 c.length c1,Value.map (some mb)] 55)).cell? ⟨N,0,none⟩=some (Value.slice a1 c.length c1):=by subst hN; go_simp
 have x1:(w.alloc (Obj.cells #[Value.slice a1 c.length c1,Value.map (some mb)] 55)).cell? ⟨N,1,none⟩=some (.map (some mb)):=by subst hN; go_simp
 have hs0:(w.alloc (Obj.cells #[Value.slice a1 c.length c1,Value.map (some mb)] 55)).heap.size=N+1:=by subst hN; simp
 generalize w.alloc (Obj.cells #[Value.slice a1 c.length c1,Value.map (some mb)] 55)=w0 at *;have bW:∀{w':World},Below N w w'→Below w.heap.size w w':=fun h=>by rw [hN]; exact h
 have HN:=zQY hN;clear hN;refine (zFM (h2.below (bW b0)) hm4).mono ?_;rintro e w1 ⟨rfl,b1⟩;unfold vec;go_wp2_with fail
 have b01:Below N w w1:=b0.trans (b1.mono (by omega));refine (zFM (h3.below (bW b01)) hn4).mono ?_;rintro e w2 ⟨rfl,b2⟩;unfold vec;have b02':Below (N+1) w0 w2:=by rw [<-hs0]; exact zAA.step b1 b2
 have b02:Below N w w2:=b0.trans (b02'.mono (by omega));have x0':=(b02'.cell (p:=⟨N,0,none⟩) (Nat.lt_succ_self _)).trans x0;have x1':=(b02'.cell (p:=⟨N,1,none⟩) (Nat.lt_succ_self _)).trans x1;have hn2:N+1≤w2.heap.size:=by rw [<-hs0]; exact b02'.size
 clear x0 x1 hs0 b0 b1 b2 b01 b02';have bb:Below w2.heap.size w2 (w2.alloc (Obj.cells #[.int .i64 (num mu 0),.int .i64 (num mu 1),.int .i64 (num mu 2),.int .i64 (num mu 3),.int .i64 (num nu 0),.int .i64 (num nu 1),.int .i64 (num nu 2),.int .i64 (num nu 3)] 79)):=(Below.refl _ _).alloc (zQd _) _;have x0:=zAc x0' (Obj.cells #[.int .i64 (num mu 0),.int .i64 (num mu 1),.int .i64 (num mu 2),.int .i64 (num mu 3),.int .i64 (num nu 0),.int .i64 (num nu 1),.int .i64 (num nu 2),.int .i64 (num nu 3)] 79);have x1:=zAc x1' (Obj.cells #[.int .i64 (num mu 0),.int .i64 (num mu 1),.int .i64 (num mu 2),.int .i64 (num mu 3),.int .i64 (num nu 0),.int .i64 (num nu 1),.int .i64 (num nu 2),.int .i64 (num nu 3)] 79);clear x0' x1'
 have hM2:zCO c mb k (w2.alloc (Obj.cells #[.int .i64 (num mu 0),.int .i64 (num mu 1),.int .i64 (num mu 2),.int .i64 (num mu 3),.int .i64 (num nu 0),.int .i64 (num nu 1),.int .i64 (num nu 2),.int .i64 (num nu 3)] 79)):=((hM.below (bW b02)).below bb);go_wp2_with (at_lookup; refine zJS rfl _ _ rfl rfl hM2 HA.out rfl ?_ ?_)
 ·intro v hv;go_wp2_with fail
  go_ret
  exact ⟨_,_,rfl,hv,zBc (zAA.step (bW b02) bb),hM2,by have:=HP.out; rw [Nat.pow_succ]; omega⟩
 ·intro v;have k0:(w2.alloc (Obj.cells #[.int .i64 (num mu 0),.int .i64 (num mu 1),.int .i64 (num mu 2),.int .i64 (num mu 3),.int .i64 (num nu 0),.int .i64 (num nu 1),.int .i64 (num nu 2),.int .i64 (num nu 3)] 79)).cell? ⟨w2.heap.size,0,none⟩=some (.int .i64 (num mu 0)):=by go_simp
  have k1:(w2.alloc (Obj.cells #[.int .i64 (num mu 0),.int .i64 (num mu 1),.int .i64 (num mu 2),.int .i64 (num mu 3),.int .i64 (num nu 0),.int .i64 (num nu 1),.int .i64 (num nu 2),.int .i64 (num nu 3)] 79)).cell? ⟨w2.heap.size,1,none⟩=some (.int .i64 (num mu 1)):=by go_simp
  have k2:(w2.alloc (Obj.cells #[.int .i64 (num mu 0),.int .i64 (num mu 1),.int .i64 (num mu 2),.int .i64 (num mu 3),.int .i64 (num nu 0),.int .i64 (num nu 1),.int .i64 (num nu 2),.int .i64 (num nu 3)] 79)).cell? ⟨w2.heap.size,2,none⟩=some (.int .i64 (num mu 2)):=by go_simp
  have k3:(w2.alloc (Obj.cells #[.int .i64 (num mu 0),.int .i64 (num mu 1),.int .i64 (num mu 2),.int .i64 (num mu 3),.int .i64 (num nu 0),.int .i64 (num nu 1),.int .i64 (num nu 2),.int .i64 (num nu 3)] 79)).cell? ⟨w2.heap.size,3,none⟩=some (.int .i64 (num mu 3)):=by go_simp
  have k4:(w2.alloc (Obj.cells #[.int .i64 (num mu 0),.int .i64 (num mu 1),.int .i64 (num mu 2),.int .i64 (num mu 3),.int .i64 (num nu 0),.int .i64 (num nu 1),.int .i64 (num nu 2),.int .i64 (num nu 3)] 79)).cell? ⟨w2.heap.size,4,none⟩=some (.int .i64 (num nu 0)):=by go_simp
  have k5:(w2.alloc (Obj.cells #[.int .i64 (num mu 0),.int .i64 (num mu 1),.int .i64 (num mu 2),.int .i64 (num mu 3),.int .i64 (num nu 0),.int .i64 (num nu 1),.int .i64 (num nu 2),.int .i64 (num nu 3)] 79)).cell? ⟨w2.heap.size,5,none⟩=some (.int .i64 (num nu 1)):=by go_simp
  have k6:(w2.alloc (Obj.cells #[.int .i64 (num mu 0),.int .i64 (num mu 1),.int .i64 (num mu 2),.int .i64 (num mu 3),.int .i64 (num nu 0),.int .i64 (num nu 1),.int .i64 (num nu 2),.int .i64 (num nu 3)] 79)).cell? ⟨w2.heap.size,6,none⟩=some (.int .i64 (num nu 2)):=by go_simp
  have k7:(w2.alloc (Obj.cells #[.int .i64 (num mu 0),.int .i64 (num mu 1),.int .i64 (num mu 2),.int .i64 (num mu 3),.int .i64 (num nu 0),.int .i64 (num nu 1),.int .i64 (num nu 2),.int .i64 (num nu 3)] 79)).cell? ⟨w2.heap.size,7,none⟩=some (.int .i64 (num nu 3)):=by go_simp
  have b03:Below N w (w2.alloc (Obj.cells #[.int .i64 (num mu 0),.int .i64 (num mu 1),.int .i64 (num mu 2),.int .i64 (num mu 3),.int .i64 (num nu 0),.int .i64 (num nu 1),.int .i64 (num nu 2),.int .i64 (num nu 3)] 79)):=b02.trans (bb.mono (by omega));have hs3:(w2.alloc (Obj.cells #[.int .i64 (num mu 0),.int .i64 (num mu 1),.int .i64 (num mu 2),.int .i64 (num mu 3),.int .i64 (num nu 0),.int .i64 (num nu 1),.int .i64 (num nu 2),.int .i64 (num nu 3)] 79)).heap.size=w2.heap.size+1:=by simp
  generalize w2.alloc (Obj.cells #[.int .i64 (num mu 0),.int .i64 (num mu 1),.int .i64 (num mu 2),.int .i64 (num mu 3),.int .i64 (num nu 0),.int .i64 (num nu 1),.int .i64 (num nu 2),.int .i64 (num nu 3)] 79)=w3 at *;generalize hkb:w2.heap.size=kb at *;have HNM:=zQY (show N≠mb by omega);have HKM:=zQY (show kb≠mb by omega);have hn3:N+1≤w3.heap.size:=by omega
  clear hkb bb b02 hM hs3 hn2;go_wp2_with fail
  obtain ⟨w4,hw4⟩:∃w4,w4=w3.alloc (.cells #[] 3):=⟨_,rfl⟩;obtain ⟨f4,b4⟩:=zAR (Below.refl _ w3) hw4;rw [<-hw4];clear hw4;have g4:=zBc (mb:=mb) b4;have b04:Below N w w4:=b03.trans (b4.mono (by omega));have hn4':N+1≤w4.heap.size:=Nat.le_trans hn3 b4.size;refine (zCj (h3.below (bW b04)) (by omega)).mono ?_;rintro e w5 ⟨rfl,rfl⟩;cases eN:zAH nu with
  | none =>
   have e2:fd nu = -1:=by unfold fd; rw [eN]
   have eNF:=zC1 (c:=c) eN;rw [e2];clear e2;go_wp2_with fail
   refine (zCj (h2.below (bW b04)) (by omega)).mono ?_;rintro e w6 ⟨rfl,rfl⟩;cases eM:zAH mu with
   | none =>
    have e2:fd mu = -1:=by unfold fd; rw [eM]
    have HR:Hid ([1]=rI c mu (nf c 30 nu)):=zQY (by rw [eNF,zFF,if_pos eM]);rw [e2];clear e2 eNF eN eM;obtain ⟨f7,b7⟩:=zEy (y:=1) (Below.refl _ w6) rfl;have g7:=zAy g4 (zBc (mb:=mb) b7);have v7:=Nm.of f7 (show mb<w6.heap.size by omega);rw [HR.out] at v7;have M7:=(hM2.below b4).below b7;have x1e:=zAa g7 x1 HNM.out;have k0e:=zAa g7 k0 HKM.out;have k1e:=zAa g7 k1 HKM.out;have k2e:=zAa g7 k2 HKM.out;have k3e:=zAa g7 k3 HKM.out;have k4e:=zAa g7 k4 HKM.out;have k5e:=zAa g7 k5 HKM.out;have k6e:=zAa g7 k6 HKM.out;have k7e:=zAa g7 k7 HKM.out;go_wp2_with (at_mapUpdate; refine zCV rfl _ _ _ rfl rfl M7 HC4.out ?hkk HA.out rfl rfl v7 ?_)
    case hkk=>have:=HK.out; have:=HP.out; rw [Nat.pow_succ] at *; unfold maxLen; omega
    intro w99 hM99 hg99;go_wp2_with fail
    go_ret
    exact ⟨_,_,rfl,Nm.keepI v7 hg99,zAy (zBc (bW b03)) (zAy g7 hg99),hM99,by have:=HP.out; rw [Nat.pow_succ]; omega⟩
   | some i =>
    have e2:fd mu=(i:Int):=by unfold fd; rw [eM]
    have HR:Hid ([]=rI c mu (nf c 30 nu)):=zQY (by rw [eNF,zFF,if_neg (by rw [eM]; simp)]);have i1:¬(i:Int)<0:=by omega
    rw [e2];clear e2 eNF eN eM;have v7:=Nm.of f4 (show mb<w3.heap.size by omega);rw [HR.out] at v7;have M7:=hM2.below b4;have x1e:=zAa g4 x1 HNM.out;have k0e:=zAa g4 k0 HKM.out;have k1e:=zAa g4 k1 HKM.out;have k2e:=zAa g4 k2 HKM.out;have k3e:=zAa g4 k3 HKM.out;have k4e:=zAa g4 k4 HKM.out;have k5e:=zAa g4 k5 HKM.out;have k6e:=zAa g4 k6 HKM.out;have k7e:=zAa g4 k7 HKM.out;go_wp2_with (at_mapUpdate; refine zCV rfl _ _ _ rfl rfl M7 HC4.out ?hkk HA.out rfl rfl v7 ?_)
    case hkk=>have:=HK.out; have:=HP.out; rw [Nat.pow_succ] at *; unfold maxLen; omega
    intro w99 hM99 hg99;go_wp2_with fail
    go_ret
    exact ⟨_,_,rfl,Nm.keepI v7 hg99,zAy (zBc (bW b03)) (zAy g4 hg99),hM99,by have:=HP.out; rw [Nat.pow_succ]; omega⟩
  | some i =>
   have e2:fd nu=(i:Int):=by unfold fd; rw [eN]
   have hi:i<c.length:=by have:=zCG eN; have:=HNL.out; omega
   obtain ⟨m2,hm2,him2,hnf2⟩:=zCq hc HIM'.out (by omega) eN;have hlen2:=HNF.out;rw [hnf2,List.length_cons] at hlen2;have HI2:=zQY him2;have HNF2:=zQY hnf2;obtain ⟨j,hj⟩:∃j,(nf c 30 (refl c i nu)).length=j:=⟨_,rfl⟩;rw [hj] at hlen2;have HJ:Hid (PolN c j):=zQY (ih j hlen2.symm);have HJL:=zQY hj;have HPW:Hid (2 ^ (n+1)=2*2 ^ (j+1)):=zQY (by rw [<-hlen2,Nat.pow_succ]; omega);generalize hPW:2 ^ (j+1)=P at *;have HPW2:=zQY hPW;have HNJ:=zQY hlen2;have i1:¬(i:Int)<0:=by omega
   have hp1:1≤P:=by rw [<-hPW]; exact zIs
   rw [e2];clear e2 eN him2 hnf2 hlen2 hPW hj;obtain ⟨f5,b5⟩:=zAR (w:=w5) (Below.refl _ w5) rfl;have h25:=h2.below (zAA.step (bW b04) b5);go_wp2_with (at_builtin; go_must (refine zAN (W:=w5) rfl _ _ rfl rfl f5 b5 rfl h25 ?_ ?_))
   ·simp; omega
   ·intro v6 w6 f6 b6 _;clear f5 b5 h25;obtain ⟨f7,b7⟩:=zAR (w:=w6) (Below.refl _ w6) rfl;have h37:=h3.below (zAA.step (zAA.step (bW b04) b6) b7);go_wp2_with (at_builtin; go_must (refine zAN (W:=w6) rfl _ _ rfl rfl f7 b7 rfl h37 ?_ ?_))
    ·simp; omega
    ·intro v8 w8 f8 b8 _;clear f7 b7 h37;have b58:=zAA.step b6 b8;have g8:=zAy g4 (zBc (mb:=mb) b58);have b08:=zAA.step (bW b04) b58;have x08:=zAa g8 x0 HNM.out;have x18:=zAa g8 x1 HNM.out;have hs5:w5.heap.size≤w6.heap.size:=b6.size;have hs6:w6.heap.size≤w8.heap.size:=b8.size;have f6':=f6.below b8;have hcO:RII (Bt 0 w.heap.size) w8 (Value.slice a1 c.length c1) c:=h1.old.below b08;have HD1:∀b,Bt 0 w.heap.size b→¬New w5 w6 b:=fun b hb hb'=>by have:=hb.2; have:=hb'.1; have:=HN.out; omega
     have HD2:∀b,Bt 0 w.heap.size b→¬New w6 w8 b:=fun b hb hb'=>by have:=hb.2; have:=hb'.1; have:=HN.out; omega
     have HD3:∀b,New w6 w8 b→¬New w5 w6 b:=fun b hb hb'=>by have:=hb.1; have:=hb'.2; omega
     clear f6;go_wp2_with fail
     refine (zCe hcO f6' HD1 i hi HSQ.out HML.out (by omega)).mono ?_;rintro e w9 ⟨rfl,f9,o9⟩;have b89:Below w5.heap.size w8 w9:=o9.below (fun b hb=>hb.1);have b59:=b58.trans b89;have g9:=zAy g4 (zBc (mb:=mb) b59);have x09:=zAa g9 x0 HNM.out;have hcO9:=hcO.only o9 HD1;have f8':=f8.only o9 HD3;clear f6' x08 x18;go_wp2_with fail
     refine (zCe hcO9 f8' HD2 i hi HSQ.out HNL.out (by omega)).mono ?_;rintro e w10 ⟨rfl,f10,o10⟩;have b910:Below w5.heap.size w9 w10:=o10.below (fun b hb=>by have:=hb.1; omega);have b510:=b59.trans b910;have g10:=zAy g4 (zBc (mb:=mb) b510);have f9':=f9.only o10 (fun b hb hb'=>HD3 b hb' hb);have x010:=zAa g10 x0 HNM.out;have x110:=zAa g10 x1 HNM.out;have b010:=zAA.step (bW b04) b510;have su:RI (Nm mb) w10 v6 (refl c i mu):=Nm.of (FI.mono f9' (S':=New w5 w10) (fun b hb=>⟨hb.1,by have:=hb.2; have:=b89.size; have:=b910.size; omega⟩)) (by omega);have sv:RI (Nm mb) w10 v8 (refl c i nu):=Nm.of (FI.mono f10 (S':=New w5 w10) (fun b hb=>⟨by have:=hb.1; omega,by have:=hb.2; have:=b89.size; have:=b910.size; omega⟩)) (by omega);have M10:zCO c mb k w10:=(hM2.below b4).below b510
     clear f9 f9' f10 f8 f8' hcO hcO9 o9 o10 HD1 HD2 HD3 b89 b910 b58 b59 g8 g9 x09 b6 b8;have hib:i<mu.length:=by have:=HML.out; omega
     obtain ⟨b11,o11,q,e11,hc11,hq11⟩:=RI.at (h2.below b010) (j:=i) hib;subst e11;have hq:num mu i=q:=zAm hq11.out;by_cases hneg:q<0
     ·have HR:Hid (rI c (refl c i mu) (nf c 30 (refl c i nu))=rI c mu (nf c 30 nu)):=zQY (by rw [HNF2.out,zJ2,if_pos (by omega)]);obtain ⟨m3,hm3,him3⟩:=HIM.out.back hc (by omega) (i:=i) (x:=q) hq11.out hneg;have HI3:=zQY him3;clear him3 hq hq11;go_wp2_with fail
      refine (HJ.out (h1.below b010) su sv HI3.out HI2.out HJL.out (by have:=HNJ.out; omega) (by omega) M10 (by have:=HK.out; have:=HPW.out; have:=HPW2.out; omega)).mono ?_;rintro e w11 ⟨r11,k11,rfl,v11,g11,M11,hk11⟩;rw [HR.out] at v11;have hk11:=zQY hk11;have G11:=zAy g10 g11;have x1e:=zAa G11 x1 HNM.out;have k0e:=zAa G11 k0 HKM.out;have k1e:=zAa G11 k1 HKM.out;have k2e:=zAa G11 k2 HKM.out;have k3e:=zAa G11 k3 HKM.out;have k4e:=zAa G11 k4 HKM.out;have k5e:=zAa G11 k5 HKM.out;have k6e:=zAa G11 k6 HKM.out;have k7e:=zAa G11 k7 HKM.out;go_wp2_with (at_mapUpdate; refine zCV rfl _ _ _ rfl rfl M11 HC4.out ?hkk HA.out rfl rfl v11 ?_)
      case hkk=>have:=HK.out; have:=HPW.out; have:=HPW2.out; have:=hk11.out; unfold maxLen; omega
      intro w99 hM99 hg99;go_wp2_with fail
      go_ret
      exact ⟨_,_,rfl,Nm.keepI v11 hg99,zAy (zBc (bW b03)) (zAy G11 hg99),hM99,by have:=HPW.out; have:=HPW2.out; have:=hk11.out; omega⟩
     ·have HR:Hid (addP (shI (rI c (refl c i mu) (nf c 30 (refl c i nu)))) (subP (shI (rI c mu (nf c 30 (refl c i nu)))) (rI c mu (nf c 30 (refl c i nu))))=rI c mu (nf c 30 nu)):=zQY (by rw [HNF2.out,zJ2,if_neg (by omega)]);have HI3:=zQY (HIM.out.step hc (by omega) hi);have L1:=zQY (zDl c (nf c 30 (refl c i nu)) (refl c i mu));have L2:=zQY (zDl c (nf c 30 (refl c i nu)) mu);have hJ30:Hid (j≤30):=zQY (by have:=HNJ.out; omega);clear hq hq11;go_wp2_with fail
      refine (HJ.out (h1.below b010) (h2.below b010) sv HIM.out HI2.out HJL.out (by have:=HNJ.out; omega) (by omega) M10 (by have:=HK.out; have:=HPW.out; have:=HPW2.out; omega)).mono ?_;rintro e w11 ⟨r11,k11,rfl,v11,g11,M11,hk11⟩;have hk11:=zQY hk11;have G11:=zAy g10 g11;have x011:=zAa G11 x0 HNM.out;have x111:=zAa G11 x1 HNM.out;clear x010 x110;go_wp2_with fail
      refine (HJ.out (Nm.keepII (h1.below b010) g11) (Nm.keepI su g11) (Nm.keepI sv g11) HI3.out HI2.out HJL.out (by have:=HNJ.out; omega) (by omega) M11 (by have:=HK.out; have:=HPW.out; have:=HPW2.out; have:=hk11.out; omega)).mono ?_;rintro e w12 ⟨r12,k12,rfl,v12,g12,M12,hk12⟩;have hk12:=zQY hk12;have G12:=zAy G11 g12;have v11:=Nm.keepI v11 g12;have hl12:mb<w12.heap.size:=M12.lt;clear x011 x111;go_wp2_with fail
      refine (zFI v12 (by have:=L1.out; have:=HJL.out; have:=hJ30.out; omega)).mono ?_;rintro e w13 ⟨r13,rfl,f13,b13⟩;go_wp2_with fail
      refine (zFI (v11.below b13) (by have:=L2.out; have:=HJL.out; have:=hJ30.out; omega)).mono ?_;rintro e w14 ⟨r14,rfl,f14,b14⟩;have b124:=zAA.step b13 b14;go_wp2_with fail
      refine (zG4 f14.reads (v11.below b124) (zFG (zHx c _ _)) (by have:=L2.out; have:=HJL.out; have:=hJ30.out; have:=zCA (rI c mu (nf c 30 (refl c i nu))); omega) (by have:=L2.out; have:=HJL.out; have:=hJ30.out; omega)).mono ?_;rintro e w15 ⟨r15,rfl,f15,b15⟩;have b125:=zAA.step b124 b15;go_wp2_with fail
      refine (zJV (f13.reads.below (zAA.step b14 b15)) f15.reads (zFG (zHx c _ _)) (by have:=L1.out; have:=HJL.out; have:=hJ30.out; have:=zCA (rI c (refl c i mu) (nf c 30 (refl c i nu))); omega) (by have:=L2.out; have:=HJL.out; have:=hJ30.out; have:=zCA (rI c mu (nf c 30 (refl c i nu))); have:=zDC (shI (rI c mu (nf c 30 (refl c i nu)))) (rI c mu (nf c 30 (refl c i nu))); omega)).mono ?_;rintro e w16 ⟨r16,rfl,f16,b16⟩;rw [HR.out] at f16;have b126:=zAA.step b125 b16;have v16:=Nm.of f16 (show mb<w15.heap.size by have:=b125.size; omega);have G16:=zAy G12 (zBc (mb:=mb) b126);have M16:=M12.below b126;have x1e:=zAa G16 x1 HNM.out;have k0e:=zAa G16 k0 HKM.out;have k1e:=zAa G16 k1 HKM.out;have k2e:=zAa G16 k2 HKM.out;have k3e:=zAa G16 k3 HKM.out;have k4e:=zAa G16 k4 HKM.out;have k5e:=zAa G16 k5 HKM.out;have k6e:=zAa G16 k6 HKM.out
      have k7e:=zAa G16 k7 HKM.out;go_wp2_with (at_mapUpdate; refine zCV rfl _ _ _ rfl rfl M16 HC4.out ?hkk HA.out rfl rfl v16 ?_)
      case hkk=>have:=HK.out; have:=HPW.out; have:=HPW2.out; have:=hk11.out; have:=hk12.out; unfold maxLen; omega
      intro w99 hM99 hg99;go_wp2_with fail
      go_ret
      exact ⟨_,_,rfl,Nm.keepI v16 hg99,zAy (zBc (bW b03)) (zAy G16 hg99),hM99,by have:=HPW.out; have:=HPW2.out; have:=hk11.out; have:=hk12.out; omega⟩
theorem zF7 {c:List (List Int)} (hc:CartanP c):∀n,PolN c n
 | 0=>zHc hc (fun j h=>by omega)
 | n+1=>zHc hc (fun j h=>by cases h; exact zF7 hc n)
end Go.Proofs.YtlchafedbnihoaaGreat
