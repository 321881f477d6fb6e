/- The product of a root vector and a weight, by the program; multiples of simple roots by the reference; a difference as a root vector, by the program. Condition: a finite matrix. -/
import Derived.Deep.LoopGhost
import Derived.Test.YtphbichgpcicnaaGreatDoorJGSrtV
import Derived.Test.YtphbichgpcicnaaGreatDoorJGWsI
import Derived.Test.YtphbichgpcicnaaGreatDoorJGNm
import Derived.Test.YtphbichgpcicnaaGreatDoorJGSymI
namespace Go.Proofs.YtphbichgpcicnaaGreatDoor
open Go.RowKit
set_option maxRecDepth 20000
set_option maxHeartbeats 8000000
theorem zG4 {S S' S'':Nat→Prop} {u v z:Value} {d r x:List Int} {w:World} {n:Nat} (h:RI S w u d) (h':RI S' w v r) (h'':RI S'' w z x) (hd:d.length=n) (hr:r.length=n) (hx:x.length=n) (hn:n≤1000) :
  Calls Tryz.prog 139 #[u,v,z] w fun e w'=>e=.returned (.int .i64 (wrap64 (pT d r x n)))∧∃m,w'=w.drewN m:=by
 have mixed:Tryz.prog.follows .mixedOrders=true:=by kernel_rfl
 obtain ⟨a,cap,rfl⟩:=h.form;obtain ⟨a',cap',rfl⟩:=h'.form;obtain ⟨a'',cap'',rfl⟩:=h''.form;rw [hd] at h ⊢;rw [hr] at h' ⊢;rw [hx] at h'' ⊢;have HST:Hid (∀k,wrap64 (wrap64 (pT d r x k)+wrap64 (wrap64 (num r k*num d k)*num x k))=wrap64 (pT d r x (k+1))):=zWF (fun k=>by
  rw [zIP,zDs,<-zDs,zIQ,zDs]; rfl)
 have H0:Hid (wrap64 (pT d r x 0)=0):=zWF (by simp [pT,smI,wrap64]);clear hd hr hx;generalize hP:(fun k=>wrap64 (pT d r x k))=P at *;have HP:Hid (∀k,wrap64 (pT d r x k)=P k):=zWF (fun k=>by rw [<-hP]);clear hP;rw [HP.out];go_enter Tryz.func139,Tryz.ntmps139
 go_wp2_with fail
 go_loopw [7,12] (fun ss kk wr=>∃(k:Nat),k≤n∧kk=.int .i64 k∧ss=.int .i64 (P k)∧∃m,wr=w.drewN m) (fun _ kk _=>n-(intOf kk).toNat)
 case atStart=>exact ⟨0,Nat.zero_le _,rfl,by rw [<-HP.out,H0.out],0,rfl⟩
 case round =>
  obtain ⟨k,hk,rfl,rfl,m,rfl⟩:=hrel;by_cases hkn:k<n
  ·have i1:(k:Int)<(n:Int):=by omega
   obtain ⟨b1,o1,y1,rfl,hc1,hy1⟩:=(h.drewN m).atI hkn;obtain ⟨b2,o2,y2,rfl,hc2,hy2⟩:=(h'.drewN m).atI hkn;obtain ⟨b3,o3,y3,rfl,hc3,hy3⟩:=(h''.drewN m).atI hkn;have HN:Hid (wrap64 (P k+wrap64 (wrap64 (y2*y1)*y3))=P (k+1)):=zWF (by
    have:=HST.out k;rw [HP.out,HP.out,zAS hy1.out,zAS hy2.out,zAS hy3.out] at this;exact this)
   clear hy1 hy2 hy3 HST H0 HP;have hc4:w.cell? { block:=b3,off:=o3+k }=some (Value.int IntKind.i64 y3):=hc3;have hc5:w.cell? { block:=b1,off:=o1+k }=some (Value.int IntKind.i64 y1):=hc1;go_wp2_with fail
   go_big_region_o
   go_wp2_with fail
   go_roundw
   case rel=>exact ⟨k+1,by omega,by go_num,by rw [HN.out],m+1,rfl⟩
   case measure=>simp [intOf]; omega
  ·have i1:¬(k:Int)<(n:Int):=by omega
   have hkn2:k=n:=by omega
   subst hkn2;go_wp2_with fail
   go_ret
   exact ⟨rfl,m,rfl⟩
theorem zHH {S S' S'':Nat→Prop} {u z v:Value} {c:List (List Int)} {b a:List Int} {w:World} (h:RII S w u c) (h':RI S' w z b) (h'':RI S'' w v a) (hF:FinP c) (hl:total c≤16777216) (ha:isW c a=true) (hb:isW c b=true) (hall:allW c (dfL b a) c.length=true) :
  Calls Tryz.prog 98 #[u,z,v] w fun e w'=>∃r,e=.returned (.tuple #[r,.bool true])∧FI (New w w') w' r (dep c b a)∧Below w.heap.size w w':=by
 have HF:=zWF hF;have hn4:=hF.cart.le;have HA:=zWF (zCm ha);have HB:=zWF (zCm hb);have HDS:=zWF (zOo ha hb);obtain ⟨au,cu,rfl⟩:=h.form;obtain ⟨az,cz,rfl⟩:=h'.form;obtain ⟨av,cv,rfl⟩:=h''.form;rw [HB.out.2.1] at h' ⊢;rw [HA.out.2.1] at h'' ⊢;clear hF ha hb;obtain ⟨D,hD⟩:∃D:Nat→List Int,∀k,D k=List.zipWith (fun y x=>y-x) (b.take k) (a.take k):=⟨_,fun _=>rfl⟩;have HD0:Hid (D 0=[]):=zWF (by rw [hD]; simp);have HDn:Hid (D c.length=dfL b a):=zWF (by rw [hD,List.take_of_length_le (by rw [HB.out.2.1]; exact zWK _),List.take_of_length_le (by rw [HA.out.2.1]; exact zWK _)]; rfl);have HDS2:Hid (∀k y x,b[k]? = some y→a[k]? = some x→D (k+1)=D k++[y-x]):=zWF (fun k y x hy hx=>by rw [hD,hD]; exact zRL hy hx);have HDL:Hid (∀k,(D k).length≤k):=zWF (fun k=>by rw [hD]; simp; omega);clear hD
 have HAY:Hid (dom (quos c (dfL b a) (Fin.det c.length c) c.length)=true):=zWF ((zNI (zGb HF.out) (fun k hk=>(zD6.1 hall k hk).2)).trans hall);have HDP:Hid (quos c (dfL b a) (Fin.det c.length c) c.length=dep c b a):=zWF rfl;have HAN:Hid (∀k,k<c.length→(zAY c (dfL b a) k).tmod (Fin.det c.length c)=0):=zWF (fun k hk=>(zD6.1 hall k hk).2);clear hall;generalize hn:c.length=n at *;have HN:=zWF hn;clear hn;go_enter Tryz.func98,Tryz.ntmps98
 go_wp2_with fail
 obtain ⟨w1,hw1⟩:∃w1,w1=w.alloc (.cells #[] 3):=⟨_,rfl⟩;obtain ⟨f1,b1⟩:=zAR (Below.refl _ w) hw1;rw [<-hw1];clear hw1;rw [<-HD0.out] at f1;go_loopw [8,15] (fun qq j wr=>∃(k:Nat) (q:Value),q=qq∧k≤n∧j=.int .i64 k∧FI (New w wr) wr q (D k)∧Below w.heap.size w wr) (fun _ j _=>n-(intOf j).toNat)
 case atStart=>exact ⟨0,_,rfl,Nat.zero_le _,rfl,f1,b1⟩
 case round =>
  obtain ⟨k,q,rfl,hk,rfl,hf,hb⟩:=hrel;have hdl:=HDL.out k;by_cases hlt:k<n
  ·obtain ⟨b1,o1,y,rfl,hc0,hy⟩:=h'.at hlt;obtain ⟨b2,o2,x,rfl,hcx0,hx⟩:=h''.at hlt;have l1:=zWJ w _ hc0;have l2:=zWJ w _ hcx0;have hc:=(hb.cell l1).trans hc0;have hcx:=(hb.cell l2).trans hcx0;have hF:=zWF (fun (k:Nat) hk=>(hf.2 k hk).1);have i1:(k:Int)<(n:Int):=by omega
   have HST:=zWF (HDS2.out k y x hy.out hx.out);have hbx:=HA.out.2.2 x (zWH hx.out);have hby:=HB.out.2.2 y (zWH hy.out);have j1:IntKind.i64.wrap (y-x)=y-x:=IntWalk.i64_in _ (by omega);generalize D k=Dk at *;clear hc0 hcx0;have bbd:Below wr.heap.size wr (wr.alloc (.cells #[.int .i64 (y-x)] 3)).drew:=((Below.refl _ _).alloc (zWK _) _).drew;have hcn:(wr.alloc (.cells #[.int .i64 (y-x)] 3)).drew.cell? ⟨wr.heap.size,0,none⟩=some (.int .i64 (y-x)):=by go_simp
   have hfn:=hf.grow bbd;have hbn:=zAA.step hb bbd;have hln:Dk.length+1≤67108864:=by omega
   go_wp2_with fail
   go_region_held3 (fun w'=>w'.cell? ⟨b1,o1+k,none⟩=some (.int .i64 y)∧w'.cell? ⟨b2,o2+k,none⟩=some (.int .i64 x)) (first | go_keep | (go_split_ands; exact ⟨zBK hgrow (by assumption) l1 hF.out,zBK hgrow (by assumption) l2 hF.out⟩)) ((refine zEb (W:=w) (by rfl) _ _ (by rfl) (by rfl) hfn hbn (by rfl) hcn hln ?_; intro v' w3 f3 b5 hgrow))
   clear j1;go_wp2_with fail
   go_roundw
   case rel=>exact ⟨k+1,_,rfl,by omega,by go_num,by rw [HST.out]; exact f3,b5⟩
   case measure=>simp [intOf]; omega
  ·have hkn:k=n:=by omega
   have i1:¬(k:Int)<(n:Int):=by omega
   rw [hkn,HDn.out] at hf;clear hkn;have hu:=h.below hb;go_wp2_with fail
   refine (zNH (l:=dfL b a) (c:=c) hu hf.reads HF.out.cart hl (by rw [HDS.out.1,HN.out]) HDS.out.2 (zGb HF.out)).mono ?_;rintro e w4 (⟨r4,rfl,f4,hall,b4⟩ | ⟨rfl,hex,b4⟩)
   ·rw [HN.out] at hall f4;have e0:=HAY.out;clear hall;have b04:=zAA.step hb b4;have f4':FI (New w w4) w4 r4 (quos c (dfL b a) (Fin.det n c) n):=f4.mono (fun x hx=>⟨Nat.le_trans hb.size hx.1,hx.2⟩);have HQL:=zWF (zHW c (dfL b a) (Fin.det n c) n);have HQD:=HDP;generalize quos c (dfL b a) (Fin.det n c) n=Q at *;have E0:=zWF e0;clear e0;go_wp2_with fail
    refine (zEt f4.reads (by rw [HQL.out]; omega)).mono ?_;rintro e w5 ⟨rfl,rfl⟩;rw [E0.out];go_wp2_with fail
    go_ret2
    exact ⟨_,rfl,by rw [<-HQD.out]; exact f4',b04⟩
   ·rw [HN.out] at hex;obtain ⟨k',hk',hx'⟩:=hex;exact absurd (HAN.out k' hk') hx'
open Go.Maps (Keyed)
def CntD (n:Nat) (K:List Wtd) (D:DataW Value):Prop:=∀a:List Int,a.length=n→InI a→D.atKey (zBq a) (.held (.int .i64 0))=.held (.int .i64 (zAn a K))
def MapR (mb n:Nat) (K:List Wtd) (w:World):Prop:=∃D m,m≤K.length∧w.ownsMap Tryz.prog 92 RD mb m D∧CntD n K D
theorem MapR.keep {mb n:Nat} {K:List Wtd} {w w':World} (h:MapR mb n K w) (k:mb<w.heap.size→w'.heap[mb]? = w.heap[mb]?):MapR mb n K w':=by
 obtain ⟨D,m,h2,h3,h4⟩:=h;refine ⟨D,m,h2,?_,h4⟩;obtain ⟨es,clock,hb,r⟩:=h3;exact ⟨es,clock,by rw [k (Array.getElem?_eq_some_iff.1 hb).1]; exact hb,r⟩
theorem MapR.below {mb n:Nat} {K:List Wtd} {w w':World} (h:MapR mb n K w) (b:Below w.heap.size w w'):MapR mb n K w':=h.keep fun hl=>b.block mb hl
abbrev aCn (mb n:Nat) (K:List Wtd):zAF:=fun F w=>F mb∧MapR mb n K w
theorem zN9 (mb n:Nat) (K:List Wtd):zAh (aCn mb n K):=fun F w w' h k=>⟨h.1,h.2.keep fun hl=>k mb h.1 hl⟩
theorem zFB {K:List Wtd} {a p:List Int} {x:Int} (hp:∀e∈K,e.1≠p):zAn a (K++[(p,x)])=if a=p then x else zAn a K:=by
 induction K with
 | nil =>
  simp only [List.nil_append,zAn];by_cases h:a=p
  ·subst h; simp [eqL]
  ·rw [if_neg h,if_neg (by unfold eqL; simp; exact fun e=>h e.symm)]
 | cons e K ih =>
  simp only [List.cons_append,zAn];rw [ih fun e he=>hp e (List.mem_cons_of_mem _ he)];by_cases h:eqL e.1 a=true
  ·have e1:e.1=a:=by unfold eqL at h; exact of_decide_eq_true h
   rw [if_pos h,if_pos h,if_neg];exact fun e2=>hp e (List.mem_cons_self ..) (e1.trans e2)
  ·rw [if_neg h,if_neg h]
theorem CntD.empty (n:Nat):CntD n [] (.map []):=fun a _ _=>by simp [DataW.atKey,zAn]
theorem CntD.put {n:Nat} {K:List Wtd} {D:DataW Value} {p:List Int} {x:Int} (h:CntD n K D) (hm:Maps.IsMap D) (hk:WideAt.IsKeyLit (zBq p)) (hn:n≤4) (hp:p.length=n) (hpi:InI p) (hpn:∀e∈K,e.1≠p):CntD n (K++[(p,x)]) (D.put (zBq p) (.held (.int .i64 x))):=fun a ha hai=>by
 rw [zFB hpn];by_cases he:zBq a=zBq p
 ·have e:=zJD hai hpi he (by rw [ha,hp]) (by rw [ha]; exact hn);subst e;rw [Maps.atKey_put_same hm hk,if_pos rfl]
 ·rw [Maps.atKey_put_other he,h a ha hai,if_neg];exact fun e=>he (by rw [e])
section
variable {A:Nat→Prop} {w0 w w':World} {Ps:List zAF}
theorem HSx.newCnt (h:HSx A w0 w Ps) (n:Nat) {w1:World} (hw:w1=w.alloc (.map #[] 0)):HSx A w0 w1 (Ps++[aCn w.heap.size n []]):=by
 subst hw;exact h.add ((Below.refl _ _).alloc (zWK _) _) (zN9 _ _ _) (F:=fun b=>b=w.heap.size) ⟨rfl,_,0,zWK _,World.ownsMap_made _ _ _ _,CntD.empty n⟩ (fun b hb=>by subst hb; exact ⟨zWK _,by simp⟩)
section
variable {ops:Array Oper} {rest:List Oper} {o:Oper} {a:Act} {Q:Exit→Act→World→Prop} {mb n:Nat} {K:List Wtd}
theorem zLe (hg:o.guard=none) (mo x:Operand) (hop:o.op=Op.lookup 94 mo x false) (hm:a.eval mo=.map (some mb)) (hM:MapR mb n K w) {p:List Int} (hp:p.length=n) (hpi:InI p) (hx:a.eval x=vec p)
  (k:wpList Tryz.prog ops Q rest (a.put o.dst (.int .i64 (zAn p K))) w):wpList Tryz.prog ops Q (o::rest) a w:=by
 obtain ⟨D,m,_,hown,hD⟩:=hM;refine wpList_plain hg fun K' hK'=>?_;obtain ⟨v,ps,hrun,hv⟩:=hown.lookup zCA Tryz.underlying94 (z:=.int .i64 0) (by kernel_rfl) (zd:=.held (.int .i64 0)) (zp:=[]) rfl (zBy hpi);rw [hD p hp hpi] at hv;simp only [RD,Option.some.injEq,Prod.mk.injEq,DataW.held.injEq] at hv;obtain ⟨rfl,_⟩:=hv;unfold Oper.wp;simp only [execOp,hop,hm,hx,Sem.run_bind,Sem.run_pure,Result.andThen_ok,hrun];exact hK' _ _ k
theorem zCg (hg:o.guard=none) (mo x:Operand) (hop:o.op=Op.lookup 94 mo x false) (hm:a.eval mo=.map (some mb)) (hM:MapR mb n K w) {p:List Int} (hp:p.length=n) (hpi:InI p) (hx:a.eval x=vec p) {q:Int} (hq:Hid (zAn p K=q))
  (k:wpList Tryz.prog ops Q rest (a.put o.dst (.int .i64 q)) w):wpList Tryz.prog ops Q (o::rest) a w:=zLe hg mo x hop hm hM hp hpi hx (by rw [hq.out]; exact k)
theorem zJv (hg:o.guard=none) (mo x y:Operand) (hop:o.op=Op.insert 94 mo x y) (hm:a.eval mo=.map (some mb)) (h:HSx A w0 w Ps) (i:Nat) (hi:Ps[i]? = some (aCn mb n K)) (hnew:w0.heap.size≤mb) (hn:n≤4) (hlen:K.length<67108864) {p:List Int} (hp:p.length=n) (hpi:InI p) (hpn:Hid (∀e∈K,e.1≠p)) (hx:a.eval x=vec p) {q:Int} (hy:a.eval y=.int .i64 q)
  (k:∀w',HSx A w0 w' (Ps.set i (aCn mb n (K++[(p,q)])))→wpList Tryz.prog ops Q rest (a.put o.dst undef) w'):wpList Tryz.prog ops Q (o::rest) a w:=by
 obtain ⟨F,⟨_,D,m,hmL,hown,hD⟩,_⟩:=HSx.get h i hi;refine wpList_plain hg fun K' hK'=>?_;obtain ⟨w',hrun,ho,hgr⟩:=hown.update (val:=.int .i64 q) (d:=.held (.int .i64 q)) (ps:=[]) zCA Tryz.underlying94 (by unfold maxLen; omega) (zBy hpi) rfl;have hk:=k w' (h.upd i hi (zN9 _ _ _) (h.bl.grown hgr h.bl.size (fun b hb=>by simp only [Option.some.injEq] at hb; omega)) hgr.size fun F' hF' _=>⟨F',⟨hF'.1,_,m+1,by simp; omega,ho,hD.put hown.isMap (zCA.key (zBy hpi)) hn hp hpi hpn.out⟩,fun b hb=>.inl hb,fun b hl hb=>hgr.block b hl (fun e=>by simp only [Option.some.injEq] at e; subst e; exact hb hF'.1)⟩);unfold Oper.wp;simp only [execOp,hop,hm,hx,hy,Sem.run_bind,Sem.run_pure,Result.andThen_ok,hrun];exact hK' _ _ hk
end
end
end Go.Proofs.YtphbichgpcicnaaGreatDoor
namespace Go.Proofs.YtphbichgpcicnaaGreatDoor
open Go.RowKit
set_option maxRecDepth 20000
set_option maxHeartbeats 8000000
theorem zSp {c:List (List Int)} {v:List Int} (hv:InI v):∀w:List Int,InI (act c w v)
 | []=>hv
 | i::w=>by
  show InI (refl c i.toNat (act c w v));exact zIk c _ _
theorem zP4 {x:List Int} (h:∀y∈x,-900≤y∧y≤900):InI x:=fun y hy=>by have:=h y hy; omega
section
variable {c:List (List Int)} {v u r:List Int} {K:List Wtd}
theorem Frd.num (h:Frd c v K) (hu:u∈dbR c v):u.length=c.length∧∀x∈u,-900≤x∧x≤900:=by
 have hb:=h.bd hu;refine ⟨hb.1,fun x hx=>?_⟩;obtain ⟨i,hi⟩:=List.getElem?_of_mem hx;have hil:=(zWI hi).1;have:=hb.num h.fin (i:=i) (by rw [<-hb.1]; exact hil);rw [zAS hi] at this;omega
theorem Frd.isWu (h:Frd c v K) (hu:u∈dbR c v):isW c u=true:=by
 obtain ⟨h1,h3⟩:=h.num hu;unfold isW;rw [zAK.2 h.fin.cart,h1];simp only [decide_true,Bool.true_and,Bool.and_true];exact zCu.2 fun x hx=>by have:=h3 x hx; unfold wtB; exact zBx (by omega)
theorem Frd.numv (h:Frd c v K):v.length=c.length∧∀x∈v,0≤x∧x≤4:=by
 refine ⟨h.v4.2,fun x hx=>?_⟩;have:=h.v4.1;unfold sm4 at this;rw [List.all_eq_true] at this;simpa using this x hx
theorem Frd.isWv (h:Frd c v K):isW c v=true:=by
 obtain ⟨h1,h3⟩:=h.numv;unfold isW;rw [zAK.2 h.fin.cart,h1];simp only [decide_true,Bool.true_and,Bool.and_true];exact zCu.2 fun x hx=>by have:=h3 x hx; unfold wtB; exact zBx (by omega)
end
def zBt (b:List Int) (k:Nat):List Int:=((b.take k).map fun x=>x+2)++b.drop k
theorem zJg (b:List Int) (k:Nat):(zBt b k).length=b.length:=by simp [zBt]; omega
theorem zSI {b:List Int} {k:Nat} (hk:k<b.length):(zBt b k)[k]? = b[k]?:=by
 unfold zBt;rw [List.getElem?_append_right (by simp; omega),List.getElem?_drop];congr 1;simp; omega
theorem zOI {b:List Int} {k:Nat} {x:Int} (hx:b[k]? = some x):(zBt b k).set k (x+2)=zBt b (k+1):=by
 obtain ⟨hk,rfl⟩:=zWI hx;unfold zBt;rw [List.set_append_right _ _ (by simp; omega),List.take_add_one,zWG hk,List.drop_eq_getElem_cons hk];have:k-min k b.length=0:=by omega
 simp only [List.length_map,List.length_take,this,List.set_cons_zero,List.map_append,Option.toList,List.map_cons,List.map_nil,List.append_assoc,List.cons_append,List.nil_append]
def frTo (c:List (List Int)) (K:List Wtd) (d u:List Int) (L:List (List Int)) (i:Nat):Int:=sumL ((L.take i).map fun r=>tStr c K d r u (worR c r) 60 0)
theorem zOy {c:List (List Int)} {K:List Wtd} {d u:List Int} {L:List (List Int)} {i:Nat} {r:List Int} (h:L[i]? = some r):frTo c K d u L (i+1)=frTo c K d u L i+tStr c K d r u (worR c r) 60 0:=by
 unfold frTo;rw [zAG h,List.map_append];exact zDZ _ _
theorem zRT (c:List (List Int)) (K:List Wtd) (d u:List Int) (L:List (List Int)):frTo c K d u L L.length=frT c K d u L:=by simp [frTo,frT]
theorem zQR (x:Int):-9223372036854775808≤wrap64 x∧wrap64 x≤9223372036854775807:=by unfold wrap64; omega
theorem zQQ {x:Int} (h:-9223372036854775808≤x∧x≤9223372036854775807):wrap64 x=x:=by unfold wrap64; omega
theorem zUm {x d:Int} (h:-9223372036854775808≤x∧x≤9223372036854775807) (hd:0<d):-9223372036854775808≤x.tdiv d∧x.tdiv d≤9223372036854775807:=by
 rcases Int.le_total 0 x with h0 | h0
 ·have h1:0≤x.tdiv d:=Int.tdiv_nonneg h0 (by omega);have h2:=Int.natAbs_tdiv_le_natAbs x d;omega
 ·have h2:=Int.natAbs_tdiv_le_natAbs x d;have h3:x.tdiv d = -((-x).tdiv d):=by rw [Int.neg_tdiv]; omega
  have h1:0≤(-x).tdiv d:=Int.tdiv_nonneg (by omega) (by omega);omega
theorem zVl {c:List (List Int)} {v u:List Int} {K:List Wtd} (hF:Frd c v K) (hm:u∈dbR c v):(addW v u).length=c.length∧(∀x∈addW v u,-2000≤x∧x≤2000)∧pT (smR c) (dep c v u) (zBt (addW v u) c.length) c.length=frD c (smR c) v u c.length:=by
 have hv:=hF.numv;have hu:=hF.num hm;have hl:(addW v u).length=c.length:=by rw [zCX,hv.1,hu.1]; omega
 have hn:∀i,i<c.length→num (addW v u) i=num v i+num u i:=fun i hi=>by
  rw [zHR (by omega) (by omega)];have e1:=hv.2 _ (zBB hv.1 hi);have e2:=hu.2 _ (zBB hu.1 hi);unfold wrap64; omega
 refine ⟨hl,fun x hx=>?_,?_⟩
 ·obtain ⟨i,hi⟩:=List.getElem?_of_mem hx;have hil:=(zWI hi).1;have e:=hn i (by omega);rw [zAS hi] at e;have e1:=hv.2 _ (zBB hv.1 (by omega:i<c.length));have e2:=hu.2 _ (zBB hu.1 (by omega:i<c.length));omega
 ·unfold pT frD;refine zJS fun k hk=>?_;have e:num (zBt (addW v u) c.length) k=num v k+num u k+2:=by
   have h1:(addW v u)[k]? = some (num (addW v u) k):=by
    have:k<(addW v u).length:=by omega
    rw [zWG this];unfold num;rw [zWG this]; rfl
   have:zBt (addW v u) c.length=(addW v u).map fun x=>x+2:=by unfold zBt; rw [<-hl]; simp
   rw [<-hn k hk,this];show ((List.map (fun x=>x+2) (addW v u))[k]?).getD 0=_;rw [List.getElem?_map,h1];rfl
  rw [e]
theorem zOz {S S' S'' S3 S4:Nat→Prop} {x1 x2 x3 x4 x5:Value} {mb:Nat} {c:List (List Int)} {v u:List Int} {K:List Wtd} {w:World} (h:RII S w x1 c) (hd:RI S' w x2 (smR c)) (hr:RII S'' w x3 (prR c)) (hv:RI S3 w x4 v) (hu:RI S4 w x5 u) (hM:MapR mb c.length K w)
  (hF:Frd c v K) (hm:u∈dbR c v) (hne:v≠u) (hl:total c≤16777216) :
  Calls Tryz.prog 101 #[x1,x2,x3,x4,x5,.map (some mb)] w fun e w'=>e=.returned (.int .i64 (mltF c v K u))∧Below w.heap.size w w':=by
 have hn4:=hF.fin.cart.le;have hM0:mb<w.heap.size:=by
  obtain ⟨D,m,_,⟨es,clock,hb,_⟩,_⟩:=hM;exact (Array.getElem?_eq_some_iff.1 hb).1
 have HF:=zWF hF;have HM:=zWF hm;have HC:=zWF hF.fin.cart;have HCC:=zWF (zAK.2 hF.fin.cart);have HNU:=zWF (hF.num hm);have HPR:Hid (∀r∈prR c,r.length=c.length):=zWF (fun r hr=>(zGJ hF.fin hr).1);have HSM:=zWF (zP0 hF.fin hF.fb);have HE:Hid (mltF c v K u=(wrap64 (2*frT c K (smR c) u (prR c))).tdiv (frD c (smR c) v u c.length)):=zWF (by unfold mltF; rw [if_neg hne]);have HE2:=zWF (zRT c K (smR c) u (prR c));have HPL:Hid ((prR c).length≤1000):=zWF (by rw [show prR c=zAT c by unfold prR; rw [hF.fb]; rfl]; have:=zFY hF.fin.rq hF.fin.cart; omega);have HFD:=zWF (zTf hF hm hne);have HFB:=zWF (zVV hF hm (zWK c.length))
 have HAX:Hid (∀r∈prR c,∀k,k≤22→addW (xAt u (worR c r) k) (worR c r)=xAt u (worR c r) (k+1)∧(xAt u (worR c r) (k+1)).length=c.length∧zBG c (xAt u (worR c r) (k+1))=true∧(mAt c K u (worR c r) (k+1)≠0→k+1≤22)):=zWF (fun r hr k hk=>⟨zSP hF hm hr hk,(zDb hF hm hr (by omega)).1,zVt hF hm hr (by omega),zUW hF hm hr (by omega)⟩);have HIN:Hid (∀r∈prR c,∀k,k≤22→InI (dmL c (xAt u (worR c r) (k+1)))):=zWF (fun r hr k hk=>zSp (zP4 (zDb hF hm hr (by omega)).2.2) _);have HDA:=zWF (zDL hF hm).1;have HWV:=zWF hF.isWv;have HWU:=zWF (hF.isWu hm);have HNV:=zWF hF.numv;have HDL:Hid ((dep c v u).length=c.length):=zWF (by unfold dep; exact zHW _ _ _ _);have HFF:=zWF hF.fin
 have HTW:Hid ((addW v u).length=c.length∧(∀x∈addW v u,-2000≤x∧x≤2000)∧pT (smR c) (dep c v u) (zBt (addW v u) c.length) c.length=frD c (smR c) v u c.length):=zWF (zVl hF hm);clear hF hm hne;obtain ⟨ar,cr,rfl⟩:=hr.form;go_enter Tryz.func101,Tryz.ntmps101
 go_wp2_with fail
 generalize hT:frTo c K (smR c) u (prR c)=T at *;have HT:=zWF hT;clear hT;generalize hnp:(prR c).length=np at *;have HNP:=zWF hnp;clear hnp;go_loopw [13,27] (fun ss ii wr=>∃i:Nat,i≤np∧ii=.int .i64 i∧ss=.int .i64 (wrap64 (T i))∧Below w.heap.size w wr) (fun _ ii _=>np-(intOf ii).toNat)
 case atStart=>exact ⟨0,Nat.zero_le _,rfl,by rw [show T 0=0 from by rw [<-HT.out]; rfl]; simp [wrap64],Below.refl _ _⟩
 case round =>
  obtain ⟨i,hi,rfl,rfl,hb⟩:=hrel;by_cases hin:i<np
  ·have i1:(i:Int)<(np:Int):=by omega
   obtain ⟨b1,o1,y1,r,rfl,hc1,hy1,hr1⟩:=(hr.below hb).at hin;have hrm:r∈prR c:=zWH hr1.out;have HRM:=zWF hrm;have hrl:=HPR.out r hrm;have HRL:=zWF hrl;have HTS:Hid (T (i+1)=T i+tStr c K (smR c) r u (worR c r) 60 0):=zWF (by rw [<-HT.out]; exact zOy hr1.out);clear hrm hrl hr1;obtain ⟨ay,cy,rfl⟩:=hy1.form;rw [HRL.out] at hy1 hc1;go_wp2_with fail
   refine (zNE (h.below hb) hy1 HCC.out HRL.out hl).mono ?_;rintro e w2 ⟨r2,rfl,f2,b2⟩;have b02:=zAA.step hb b2;go_wp2_with fail
   refine (zER (hu.below b02) (by rw [HNU.out.1]; omega)).mono ?_;rintro e w3 ⟨r3,rfl,f3,b3⟩;have b03:=zAA.step b02 b3;have hwor:=(f2.below b3).reads;have HX0:Hid (xAt u (worR c r) 0=u):=zWF (zSQ (by rw [HNU.out.1,zBN]));rw [<-HX0.out] at f3;have hx3:=f3.any;clear f3 f2;have hy3:=(hy1.below b2).below b3;have hM3:=hM.below b03;generalize hA0:T i=A0 at *;generalize hss:worR c r=s at *;have HSS:=zWF hss;have HA0:=zWF hA0;clear hss hA0;go_wp2_with fail
   go_loopg [13,17] 60 (fun gk ss xx wv=>∃(k:Nat) (A:Int),gk=60-k∧k≤22∧ss=.int .i64 (wrap64 A)∧RI Any wv xx (xAt u s k)∧A+tStr c K (smR c) r u s (60-k) k=A0+tStr c K (smR c) r u s 60 0∧Below w3.heap.size w3 wv)
   case atStart=>exact ⟨0,A0,rfl,by omega,rfl,hx3,rfl,Below.refl _ _⟩
   case round =>
    obtain ⟨k,A,rfl,hk,rfl,hx,hsum,hb3⟩:=hrel;have HSU:=zWF hsum;have hax:=HAX.out r HRM.out k hk;rw [HSS.out] at hax;have HX:=zWF hax;have hb0:=zAA.step b03 hb3;clear hsum hax;go_wp2_with fail
    refine (zEm hx ((hwor.below hb3)) (by rw [zDu HNU.out.1 (by rw [<-HSS.out]; exact zBN c r)]; omega) (by rw [<-HSS.out,zBN]; omega)).mono ?_;rintro e w4 ⟨r4,rfl,f4,b4⟩;rw [HX.out.1] at f4;have b34:=zAA.step hb3 b4;have b04:=zAA.step hb0 b4;have hx4:=f4.any;go_wp2_with fail
    obtain ⟨_,hcc,hcor,hdm⟩:=zBn HX.out.2.2.1;refine (zFX (h.below b04) hx4 hcc (zEB hcor hcc) hdm).mono ?_;rintro e w5 ⟨r5,r6,rfl,f5,f6,_,b5⟩;have b35:=zAA.step b34 b5;have b05:=zAA.step b04 b5;have hx5:=hx4.below b5;have HDN:Hid ((dmL c (xAt u s (k+1))).length=c.length):=zWF (by unfold dmL; rw [zDj]; exact HX.out.2.1);have HII:Hid (InI (dmL c (xAt u s (k+1)))):=zWF (by have:=HIN.out r HRM.out k hk; rw [HSS.out] at this; exact this);have HMA:Hid (zAn (dmL c (xAt u s (k+1))) K=mAt c K u s (k+1)):=zWF rfl;clear hcc hcor hdm f6 f4;generalize dmL c (xAt u s (k+1))=dm at *;go_wp2_with fail
    refine (zBA f5.reads (by rw [HDN.out]; omega)).mono ?_;rintro e w6 ⟨rfl,b6⟩;have b36:=zAA.step b35 b6;have b06:=zAA.step b05 b6;have hx6:=hx5.below b6;have hM6:=hM.below b06;have HQ:=zWF (HX.out.2.2.2);by_cases hm0:mAt c K u s (k+1)=0
    ·have HM0:=HMA;rw [hm0] at HM0;have HE0:Hid (A=A0+tStr c K (smR c) r u s 60 0):=zWF (by
      have:=HSU.out;rw [show 60-k=(59-k)+1 by omega,zJY,if_pos hm0] at this;omega)
     go_wp2_with (at_lookup; go_must (refine zCg rfl _ _ rfl rfl hM6 HDN.out HII.out rfl HM0 ?_))
     have hpl:=HPL.out;have hwi:wrap64 ((i:Int)+1)=((i+1:Nat):Int):=by unfold wrap64; omega
     refine ⟨⟨i+1,by omega,by rw [hwi],by rw [HTS.out,<-HE0.out],b06⟩,?_⟩;rw [hwi]; simp only [intOf]; omega
    ·have HE1:Hid (A+mAt c K u s (k+1)*pT (smR c) r (xAt u s (k+1)) c.length+tStr c K (smR c) r u s (60-(k+1)) (k+1)=A0+tStr c K (smR c) r u s 60 0):=zWF (by
      have:=HSU.out;rw [show 60-k=(60-(k+1))+1 by omega,zJY,if_neg hm0] at this;omega)
     have hk2:=HX.out.2.2.2 hm0;have j1:(mAt c K u s (k+1) == 0)=false:=by simp [hm0]
     go_wp2_with (at_lookup; go_must (refine zCg rfl _ _ rfl rfl hM6 HDN.out HII.out rfl HMA ?_))
     refine (zG4 (n:=c.length) (hd.below b06) ((hy3.below b36)) hx6 HSM.out.1 HRL.out HX.out.2.1 (by omega)).mono ?_;rintro e w7 ⟨rfl,m7,rfl⟩;have b37:Below w3.heap.size w3 (w6.drewN m7):=zAA.step b36 (zAW ⟨m7,rfl⟩);have hx7:RI Any (w6.drewN m7) r4 (xAt u s (k+1)):=hx6.drewN m7;have HP:Hid (wrap64 (A+mAt c K u s (k+1)*pT (smR c) r (xAt u s (k+1)) c.length)=wrap64 (wrap64 A+wrap64 (mAt c K u s (k+1)*wrap64 (pT (smR c) r (xAt u s (k+1)) c.length)))):=zWF (by rw [zIP,zIR,zDs]);generalize mAt c K u s (k+1)=mm at *;generalize pT (smR c) r (xAt u s (k+1)) c.length=pp at *;go_wp2_with fail
     go_roundg (60-(k+1))
     case measure=>omega
     case rel=>exact ⟨k+1,A+mm*pp,rfl,hk2,by rw [HP.out],hx7,HE1.out,b37⟩
  ·have hin2:i=np:=by omega
   have i1:¬(i:Int)<(np:Int):=by omega
   have HTI:Hid (T i=frT c K (smR c) u (prR c)):=zWF (by rw [hin2]; exact HE2.out);clear hin2;generalize T i=t at *;go_wp2_with fail
   refine (zHH (h.below hb) (hv.below hb) (hu.below hb) HFF.out hl HWU.out HWV.out HDA.out).mono ?_;rintro e w2 ⟨r2,rfl,f2,b2⟩;have b02:=zAA.step hb b2;go_wp2_with fail
   refine (zEm (hv.below b02) (hu.below b02) (by rw [HNV.out.1]; omega) (by rw [HNU.out.1]; omega)).mono ?_;rintro e w3 ⟨r3,rfl,f3,b3⟩;have b03:=zAA.step b02 b3;have g2:=f2.below b3;obtain ⟨a3,c3,rfl⟩:=f3.form;rw [HTW.out.1] at f3 ⊢;obtain ⟨g,rfl,hSg,_⟩:=FI.head f3 HC.out.pos;rw [<-show zBt (addW v u) 0=addW v u from by simp [zBt]] at f3;have HHV:=HTW;generalize hB:addW v u=B at *;clear hB;go_wp2_with fail
   go_loopw [72] (fun kk wv=>∃(k:Nat),k≤c.length∧kk=.int .i64 k∧FI (New w2 w3) wv (.slice (some ⟨g,0,none⟩) c.length c3) (zBt B k)∧Only (New w2 w3) w3 wv) (fun kk _=>c.length-(intOf kk).toNat)
   case atStart=>exact ⟨0,Nat.zero_le _,rfl,f3,Only.refl _ _⟩
   case round =>
    rename_i w9
    obtain ⟨k,hk,rfl,hf,ho⟩:=hrel;have hb9:Below w.heap.size w wr:=b03.trans (ho.below (B:=w.heap.size) (fun b hb'=>Nat.le_trans b02.size hb'.1));by_cases hlt:k<c.length
    ·have i2:(k:Int)<(c.length:Int):=by omega
     have hqL:(zBt B k).length=c.length:=(zJg _ _).trans HTW.out.1;obtain ⟨b5,o5,x,e5,hcx,hx⟩:=RI.at hf.any hlt;simp only [Option.some.injEq,Addr.mk.injEq,and_true] at e5;obtain ⟨rfl,rfl⟩:=e5;rw [Nat.zero_add] at hcx;have hx':B[k]? = some x:=by rw [<-zSI (by rw [HTW.out.1]; exact hlt)]; exact hx.out
     have hfr:=hf.froz hqL k;have hst:=hf.put hqL k (x+2);rw [zOI hx'] at hst;have HST:=zWF hst;have hbx:=HTW.out.2.1 x (zWH hx');have HO:=zWF (ho.setCell (j:=k) hSg (.int .i64 (x+2)));have j1:IntKind.i64.wrap (x+2)=x+2:=IntWalk.i64_in _ (by omega);clear hst hx' hx hqL;go_wp2_with fail
     exact ⟨⟨k+1,by omega,by go_num,HST.out,HO.out⟩,by simp [intOf]; omega⟩
    ·have hkn:k=c.length:=by omega
     have i2:¬(k:Int)<(c.length:Int):=by omega
     rw [hkn] at hf;clear hkn;have hg2:=(g2.only ho (fun b h1 h2=>by have a1:=h1.2; have a2:=h2.1; omega)).reads;go_wp2_with fail
     refine (zG4 (n:=c.length) (hd.below hb9) hg2 hf.reads HSM.out.1 HDL.out ((zJg _ _).trans HTW.out.1) (by omega)).mono ?_;rintro e w5 ⟨rfl,m5,rfl⟩;have b95:Below w.heap.size w (wr.drewN m5):=zAA.step hb9 (zAW ⟨m5,rfl⟩);rw [HTW.out.2.2];have HX:Hid (mltF c v K u=(wrap64 (2*t)).tdiv (frD c (smR c) v u c.length)):=zWF (by rw [HE.out,HTI.out]);have HD1:=HFD.out;have HD2:=HFB.out.2;generalize frD c (smR c) v u c.length=D at *;have hDw:wrap64 D=D:=by unfold wrap64; omega
     rw [hDw];clear hDw;go_wp2_with fail
     go_ret
     refine ⟨?_,b95⟩;rw [HX.out,zIR];have e1:=zQR (2*t);have e2:=Int.natAbs_tdiv_le_natAbs (wrap64 (2*t)) D;have e3:wrap64 ((wrap64 (2*t)).tdiv D)=(wrap64 (2*t)).tdiv D:=zQQ (zUm e1 HD1);rw [e3]; rfl
end Go.Proofs.YtphbichgpcicnaaGreatDoor
namespace Go.Proofs.YtphbichgpcicnaaGreatDoor
open Go.RowKit
set_option maxRecDepth 20000
set_option maxHeartbeats 8000000
theorem zMa {f:Nat→Nat}:∀{n k:Nat},k<n→f k≤sumN f n
 | 0,_,h=>by omega
 | n+1,k,h=>by
  simp only [sumN];rcases Nat.lt_or_ge k n with h1 | h1
  ·have:=zMa (f:=f) h1; omega
  ·obtain rfl:k=n:=by omega
   omega
theorem zOn {c:List (List Int)} {v u:List Int} {K:List Wtd} (h:Frd c v K) (hu:u∈dbR c v):SmI 100000 (dep c v u)∧(dep c v u).length=c.length:=by
 obtain ⟨_,m,e,hs,_,_⟩:=zDL h hu;refine ⟨fun x hx=>?_,by rw [e]; simp⟩;rw [e] at hx;obtain ⟨k,hk,rfl⟩:=List.mem_map.1 hx;have:=zMa (f:=m) (List.mem_range.1 hk);omega
def Env (c:List (List Int)) (v:List Int) (blk gc gv:Nat) (W:World):Prop :=
 ∃uc uv,W.cell? ⟨gc,0,none⟩=some uc∧W.cell? ⟨gv,0,none⟩=some uv∧RII (Off blk) W uc c∧RI (Off blk) W uv v
def OkE (c:List (List Int)) (v:List Int) (e:Ev):Prop:=e.x∈dbR c v∧e.k=htV c v e.x
theorem zVy {c:List (List Int)} {v:List Int} {blk gc gv:Nat} (hF:Frd c v []) (hl:total c≤16777216) (h1:gc≠blk) (h2:gv≠blk):zC8 blk gc gv (Env c v blk gc gv) (OkE c v):=by
 refine ⟨fun W W' hE hg=>?_,fun W r1 r2 x y hE hx hy hr1 hr2=>?_⟩
 ·obtain ⟨uc,uv,e1,e2,h3,h4⟩:=hE;refine ⟨uc,uv,?_,?_,h3.keep fun b hb hl=>hg.block b hl (by simpa using hb),Off.keepI h4 hg⟩
  ·rw [<-e1];unfold World.cell?;rw [hg.block gc (zWJ W _ e1) (by simpa using h1)]
  ·rw [<-e2];unfold World.cell?;rw [hg.block gv (zWJ W _ e2) (by simpa using h2)]
 ·obtain ⟨uc,uv,e1,e2,h3,h4⟩:=hE;obtain ⟨hxm,hxk⟩:=hx;obtain ⟨hym,hyk⟩:=hy;have HXS:=zWF (zOn hF hxm);have HYS:=zWF (zOn hF hym);have HX:=zWF (zDL hF hxm).1;have HY:=zWF (zDL hF hym).1;have HXK:Hid (htR (dep c v x.x)=x.k):=zWF hxk.symm;have HYK:Hid (htR (dep c v y.x)=y.k):=zWF hyk.symm;have HWV:=zWF hF.isWv;have HWX:=zWF (hF.isWu hxm);have HWY:=zWF (hF.isWu hym);have HFF:=zWF hF.fin;have hn4:=hF.fin.cart.le;have l1:=zWJ W _ e1;have l2:=zWJ W _ e2;clear hF hxm hym hxk hyk;generalize x.k=xk at *;generalize y.k=yk at *;go_enter Tryz.func97,Tryz.ntmps97
  go_wp2_with fail
  refine (zHH h3 h4 hr1 HFF.out hl HWX.out HWV.out HX.out).mono ?_;rintro e w2 ⟨q2,rfl,f2,b2⟩;have e1':=(b2.cell l1).trans e1;have e2':=(b2.cell l2).trans e2;go_wp2_with fail
  refine (zHH (h3.below b2) (h4.below b2) (hr2.below b2) HFF.out hl HWY.out HWV.out HY.out).mono ?_;rintro e w3 ⟨q3,rfl,f3,b3⟩;have b03:=zAA.step b2 b3;have g2:=(f2.below b3).reads;go_wp2_with fail
  refine (zCT g2 HXS.out.1 (by rw [HXS.out.2]; omega)).mono ?_;rintro e w4 ⟨rfl,m4,rfl⟩;rw [HXK.out];go_wp2_with fail
  refine (zCT (f3.reads.drewN m4) HYS.out.1 (by rw [HYS.out.2]; omega)).mono ?_;rintro e w5 ⟨rfl,m5,rfl⟩;rw [HYK.out];go_wp2_with fail
  refine (zE8 _ _ _).mono ?_;rintro e w6 ⟨rfl,rfl⟩;go_wp2_with fail
  go_ret
  exact ⟨rfl,zAA.step b03 (zAW ⟨m4+m5,rfl⟩)⟩
section
variable {w:World} {ops:Array Oper} {rest:List Oper} {o:Oper} {a:Act} {Q:Exit→Act→World→Prop}
end
section
variable {A:Nat→Prop} {w0 w w1:World} {Ps:List zAF}
theorem HSx.noRs (h:HSx A w0 w Ps):HSx A w0 w (Ps++[aRs []]):=h.add (Below.refl _ w) (zBs []) (F:=NoB) ⟨fun x hx=>by simp at hx,List.Pairwise.nil⟩ (fun b hb=>hb.elim)
end
end Go.Proofs.YtphbichgpcicnaaGreatDoor
namespace Go.Proofs.YtphbichgpcicnaaGreatDoor
open Go.RowKit
set_option maxRecDepth 20000
def MlC (c:List (List Int)) (v:List Int) (w:World) (e:Ending) (w':World):Prop:=∃r,e=.returned (.tuple #[r,.bool (mlOk c v)])∧FW (New w w') w' r (mlR c v)∧Below w.heap.size w w'
open Go.Maps (Keyed)
open Mrg
def evs (c:List (List Int)) (v:List Int) (Z:Zl):List Ev:=Z.zipIdx.map fun p=>⟨p.1.1,p.1.2,htV c v p.1.2,p.2⟩
section
variable {c:List (List Int)} {v:List Int} {Z:Zl} {M:List Ev}
theorem zFv (i:Nat):(evs c v Z)[i]? = (Z[i]?).map fun x=>⟨x.1,x.2,htV c v x.2,i⟩:=by
 unfold evs;rw [List.getElem?_map,List.getElem?_zipIdx,Option.map_map];congr 1;funext x;simp
theorem zIc (c:List (List Int)) (v:List Int) (Z:Zl):(evs c v Z).length=Z.length:=by simp [evs]
theorem zOt (c:List (List Int)) (v:List Int) (Z:Zl):zCY (evs c v Z)=Z.map Prod.fst:=by
 refine List.ext_getElem? fun i=>?_;unfold zCY;rw [List.getElem?_map,zFv,Option.map_map,List.getElem?_map];rfl
theorem zJA (c:List (List Int)) (v:List Int) (Z:Zl):(evs c v Z).map (fun e=>(e.r,e.x))=Z:=by
 refine List.ext_getElem? fun i=>?_;rw [List.getElem?_map,zFv,Option.map_map];cases Z[i]? <;> rfl
theorem zDO (c:List (List Int)) (v:List Int) (Z:Zl):zBV 0 (evs c v Z):=fun i e h=>by
 rw [zFv] at h;obtain ⟨x,_,rfl⟩:=Option.map_eq_some_iff.1 h;simp
theorem zOu (h:∀x∈Z,x.2∈dbR c v):OkV (OkE c v) (evs c v Z):=fun e he=>by
 obtain ⟨i,hi⟩:=List.getElem?_of_mem he;rw [zFv] at hi;obtain ⟨x,hx,rfl⟩:=Option.map_eq_some_iff.1 hi;exact ⟨h x (zWH hx),rfl⟩
theorem zNa (hZ:Z.map Prod.snd=dbR c v) (hp:M.Perm (evs c v Z)) (hs:Srt leV M):M.map Ev.x=mltL c v:=by
 have hk:∀e∈M,e.k=htV c v e.x:=fun e he=>(zOu (c:=c) (v:=v) (Z:=Z) (fun x hx=>by rw [<-hZ]; exact List.mem_map.2 ⟨x,hx,rfl⟩) e (hp.mem_iff.1 he)).2;have hL:((evs c v Z).map fun e=>(e.x,e.p)).Pairwise fun a b=>a.2<b.2:=by
  rw [List.pairwise_iff_getElem];intro i j hi hj hij;have e1:=zDO c v Z i _ (zWG (by simpa using hi));have e2:=zDO c v Z j _ (zWG (by simpa using hj));simp only [List.getElem_map];omega
 have hnd:(M.map Ev.p).Nodup:=by
  refine ((hp.map Ev.p).nodup_iff).2 ?_;rw [List.Nodup,List.pairwise_iff_getElem];intro i j hi hj hij;have e1:=zDO c v Z i _ (zWG (by simpa using hi));have e2:=zDO c v Z j _ (zWG (by simpa using hj));simp only [List.getElem_map];omega
 have hT:(M.map fun e=>(e.x,e.p)).Pairwise (Ahd (htV c v)):=by
  rw [List.pairwise_iff_getElem];intro i j hi hj hij;have hi':i<M.length:=by simpa using hi
  have hj':j<M.length:=by simpa using hj
  have h1:=List.pairwise_iff_getElem.1 hs i j hi' hj' hij;have h2:=List.pairwise_iff_getElem.1 hnd i j (by simpa using hi) (by simpa using hj) hij;have k1:=hk _ (List.getElem_mem hi');have k2:=hk _ (List.getElem_mem hj');simp only [List.getElem_map] at h2 ⊢;unfold leV at h1;unfold Ahd;simp only;rw [<-k1,<-k2];omega
 have:=zIG (htV c v) (evs c v Z).length (L:=(evs c v Z).map fun e=>(e.x,e.p)) (T:=M.map fun e=>(e.x,e.p)) (by rw [List.length_map]) hL (hp.map _) hT;rw [List.map_map,List.map_map] at this;have e1:M.map Ev.x=M.map (Prod.fst ∘ fun e=>(e.x,e.p)):=rfl;have e2:(evs c v Z).map (Prod.fst ∘ fun e=>(e.x,e.p))=dbR c v:=by
  rw [<-hZ]
  conv=>rhs; rw [<-zJA c v Z]
  rw [List.map_map]; rfl
 rw [e1,this,e2,zIc,show Z.length=(dbR c v).length by rw [<-hZ,List.length_map]];rfl
end
theorem zLy {w w0:World} {A:Nat→Prop} {Ps:List zAF} {K':Act→World→Prop} {o:Oper} {a:Act} {Q:Exit→Act→World→Prop} {mb n:Nat} {K:List Wtd} (h:HSx A w0 w Ps) (i:Nat) (hi:Ps[i]? = some (aCn mb n K)) (hnew:w0.heap.size≤mb) (hn:n≤4) (hlen:K.length<67108864) {p:List Int} (hp:p.length=n) (hpi:InI p) (hpn:Hid (∀e∈K,e.1≠p)) {q:Int}
  (k:∀w',HSx A w0 w' (Ps.set i (aCn mb n (K++[(p,q)])))→K' (a.put o.dst undef) w'):Oper.upon Tryz.prog o a K' Q ((Sem.run Tryz.prog (Instr.mapUpdate 94 (.map (some mb)) (vec p) (.int .i64 q)) w).andThen fun _ w'=>Result.ok Next.skip w'):=by
 obtain ⟨F,⟨_,D,m,hmL,hown,hD⟩,_⟩:=HSx.get h i hi;obtain ⟨w',hrun,ho,hgr⟩:=hown.update (val:=.int .i64 q) (d:=.held (.int .i64 q)) (ps:=[]) zCA Tryz.underlying94 (by unfold maxLen; omega) (zBy hpi) rfl;have hk:=k w' (h.upd i hi (zN9 _ _ _) (h.bl.grown hgr h.bl.size (fun b hb=>by simp only [Option.some.injEq] at hb; omega)) hgr.size fun F' hF' _=>⟨F',⟨hF'.1,_,m+1,by simp; omega,ho,hD.put hown.isMap (zCA.key (zBy hpi)) hn hp hpi hpn.out⟩,fun b hb=>.inl hb,fun b hl hb=>hgr.block b hl (fun e=>by simp only [Option.some.injEq] at e; subst e; exact hb hF'.1)⟩);rw [hrun];exact hk
end Go.Proofs.YtphbichgpcicnaaGreatDoor
namespace Go.Proofs.YtphbichgpcicnaaGreatDoor
open Go.RowKit
set_option maxRecDepth 20000
set_option maxHeartbeats 8000000
theorem zVb {S S':Nat→Prop} {x1 x2:Value} {c:List (List Int)} {v:List Int} {w:World} (h:RII S w x1 c) (hv:RI S' w x2 v) (hM:HasM w) (hl:total c≤16777216) (hl':v.length≤16777216) :
  Calls Tryz.prog 46 #[x1,x2] w (MlC c v w):=by
 have mixed:Tryz.prog.follows .mixedOrders=true:=by kernel_rfl
 have hmm:=@run_makeMap Tryz.prog;have HRES:Hid (MlC c v w=fun e w'=>∃r,e=.returned (.tuple #[r,.bool (mlOk c v)])∧FW (New w w') w' r (mlR c v)∧Below w.heap.size w w'):=zWF rfl;rw [HRES.out];have HNO:Hid (mlOk c v=false→mlR c v=[]):=zWF (fun e=>by unfold mlR; rw [e]; rfl);have HOK:Hid (mlOk c v=(dbOk c v && decide (szC c≤200))):=zWF rfl;have HYES:Hid (mlOk c v=true→mlR c v=mltK c v (dbR c v).length):=zWF (fun e=>by unfold mlR; rw [if_pos e]);generalize hok:mlOk c v=ok at *;generalize hres:mlR c v=res at *;clear hok hres;have HFR:Hid (dbOk c v=true→∀k,Frd c v (mltK c v k)):=zWF (fun e k=>zKQ e k);have HTOP:Hid (dbOk c v=true→(mltL c v)[0]? = some v):=zWF (fun e=>zQG (zKQ e 0) e);obtain ⟨ac,cc,rfl⟩:=h.form;obtain ⟨av,cv,rfl⟩:=hv.form;go_enter Tryz.func46,Tryz.ntmps46
 obtain ⟨wB,hwB⟩:∃wB,wB=(w.alloc (.cells #[.slice ac c.length cc] 24)).alloc (.cells #[.slice av v.length cv] 28):=⟨_,rfl⟩;have b0:Below w.heap.size w wB:=by rw [hwB]; exact ((Below.refl _ w).alloc (zWK _) _).alloc (by simp) _
 have c1:wB.cell? ⟨w.heap.size,0,none⟩=some (.slice ac c.length cc):=by rw [hwB]; go_simp
 have c2:wB.cell? ⟨w.heap.size+1,0,none⟩=some (.slice av v.length cv):=by rw [hwB]; go_simp
 have l1:=zWJ wB _ c1;have l2:=zWJ wB _ c2;have hn1:wB.heap.size=w.heap.size+2:=by rw [hwB]; simp
 go_wp2_with fail
 rw [<-hwB];clear hwB;have hs0:HS wB wB []:=HSx.nil (Below.refl _ _);have HEMP:Hid (∀w1 w2,HS wB w1 []→w2=w1.alloc (.cells #[] 63)→FW (New w w2) w2 (.slice (some ⟨w1.heap.size,0,none⟩) 0 0) []∧Below w.heap.size w w2):=zWF (fun w1 w2 h1 h2=>by
  have h3:=HSx.noRs (HSx.freshW2 h1 h2);exact ⟨(HS.FW (HSx.shutW2 h3 0 1 (by omega) rfl rfl) 0 rfl).mono (fun b hb=>⟨Nat.le_trans b0.size hb.1,hb.2⟩),zAA.step b0 h3.bl⟩)
 refine (zOm (h.below b0) (hv.below b0) hl hl').mono ?_;rintro e w2 ⟨r2,rfl,f2,b2⟩;have hs2:HS wB w2 [aF r2 (dbR c v)]:=HSx.addF hs0 b2 f2;clear hs0 f2 b2;cases hD:dbOk c v
 ·have e0:Hid (ok=false):=zWF (by rw [HOK.out,hD]; rfl);obtain ⟨hfw,hfb⟩:=HEMP.out w2 _ (HSx.pick hs2 [] (by decide)) rfl;rw [<-HNO.out e0.out] at hfw;have HFIN:=zWF hfw;have HBL:=zWF hfb;clear hfw hfb hD;go_wp2_with fail
  go_ret2
  exact ⟨_,by rw [e0.out]; rfl,HFIN.out,HBL.out⟩
 have c1':=(hs2.bl.cell l1).trans c1;go_wp2_with fail
 refine (zR3 (h.below (zAA.step b0 hs2.bl)) (hM.below (zAA.step b0 hs2.bl)) hl).mono ?_;rintro e w3 ⟨rfl,b3⟩;have hs3:HS wB w3 _:=hs2.below b3;clear hs2 b3 c1';rcases Nat.lt_or_ge 200 (szC c) with hz | hz
 ·have e0:Hid (ok=false):=zWF (by rw [HOK.out,hD,decide_eq_false (by omega)]; rfl);obtain ⟨hfw,hfb⟩:=HEMP.out w3 _ (HSx.pick hs3 [] (by decide)) rfl;rw [<-HNO.out e0.out] at hfw;have HFIN:=zWF hfw;have HBL:=zWF hfb;have i1:(200:Int)<(szC c:Int):=by omega
  clear hfw hfb hD hz;generalize szC c=z at *;go_wp2_with fail
  go_ret2
  exact ⟨_,by rw [e0.out]; rfl,HFIN.out,HBL.out⟩
 have e0:ok=true:=by rw [HOK.out,hD,decide_eq_true hz]; rfl
 have HR:=zWF (HYES.out e0);have i1:¬(200:Int)<(szC c:Int):=by omega
 have HF:=zWF (HFR.out hD);have HT:=zWF (HTOP.out hD);have HVM:=zWF (zM8 hD);subst e0;clear HFR HOK HNO HYES hz HEMP HTOP hD;generalize szC c=z at *;have c1':=(hs3.bl.cell l1).trans c1;go_wp2_with fail
 refine (zIo (h.below (zAA.step b0 hs3.bl)) hl).mono ?_;rintro e w4 ⟨r4,rfl,f4,b4⟩;have hs4:HS wB w4 [aF r2 (dbR c v),aI r4 (smR c)]:=HSx.addI hs3 b4 f4;clear hs3 f4 b4 c1';have c1':=(hs4.bl.cell l1).trans c1;go_wp2_with fail
 refine (zDh (h.below (zAA.step b0 hs4.bl)) hl).mono ?_;rintro e w5 ⟨r5,rfl,f5,b5⟩;have hs5:HS wB w5 [aF r2 (dbR c v),aI r4 (smR c),aF r5 (prR c)]:=HSx.addF hs4 b5 f5;clear hs4 f5 b5 c1';obtain ⟨Z,hZ,hs6⟩:=HSx.openF hs5 0 rfl;have hs6:HS wB w5 [aV 28 r2 (Z.map Prod.fst),aI r4 (smR c),aF r5 (prR c),aRs Z]:=hs6;clear hs5;have hzl:Z.length=(dbR c v).length:=by rw [<-hZ,List.length_map]
 have hN0:0<Z.length:=by rw [hzl]; exact List.length_pos_of_mem HVM.out
 have hform:=(HSx.formV hs6 0 rfl).2;obtain ⟨blk,cap,e2⟩:=hform (by rw [List.length_map]; exact hN0);rw [List.length_map] at e2;subst e2;have hblk:=HS.newV hs6 0 rfl blk rfl;have hn4:=(HF.out 0).fin.cart.le;have hrow:RowV blk Z.length cap w5 (evs c v Z):=by
  obtain ⟨F,hF1,_⟩:=HSx.get hs6 0 rfl;refine ⟨zIc c v Z,by rw [zOt]; have:=hF1.1; rw [List.length_map] at this; exact this,fun e he=>?_⟩;obtain ⟨i,hi⟩:=List.getElem?_of_mem he;rw [zFv] at hi;obtain ⟨x,hx,rfl⟩:=Option.map_eq_some_iff.1 hi;exact (RI.off (hs6.rowS 3 rfl (zWH hx)) (zAs hF1.1 (b:=blk) rfl)).mono (fun b hb=>hb.2)
 have hoff:∀b,Bt 0 w.heap.size b→Off blk b:=fun b hb=>by
  have h1:=hb.2;show b≠blk;omega
 have henv:Env c v blk w.heap.size (w.heap.size+1) w5:=⟨_,_,(hs6.bl.cell l1).trans c1,(hs6.bl.cell l2).trans c2,RL.mono (RII.below h.old (zAA.step b0 hs6.bl)) hoff (fun _ _ k=>RI.mono k hoff),RI.mono (RI.below hv.old (zAA.step b0 hs6.bl)) hoff⟩;have hN200:Z.length≤200:=by rw [hzl]; exact (zD9 (c:=c) (v:=v)).1
 have hsort:=zLv (HC:=zWF (zVy (HF.out 0) hl (by omega) (by omega))) henv hrow (by omega) (zOu (fun x hx=>by rw [<-hZ]; exact List.mem_map.2 ⟨x,hx,rfl⟩)) (zDO c v Z);have HPOST:Hid (∀(M:List Ev) (w6:World),M.Perm (evs c v Z)→Mrg.Srt leV M→RowV blk Z.length cap w6 M→w5.grownBy w6 (some blk)→∃Y:Zl,Y.length=Z.length∧Y.map Prod.snd=mltL c v∧HS wB w6 [aV 28 (.slice (some ⟨blk,0,none⟩) Z.length cap) (Y.map Prod.fst),aI r4 (smR c),aF r5 (prR c),aRs Y]):=zWF (fun M w6 hp hsr hrw hgr=>by
  refine ⟨M.map fun e=>(e.r,e.x),by rw [List.length_map,hp.length_eq,zIc],by rw [List.map_map]; exact zNa hZ hp hsr,?_⟩;have e1:(M.map fun e=>(e.r,e.x)).map Prod.fst=zCY M:=by rw [List.map_map]; rfl
  have hs7:HS wB w6 _:=HSx.upd hs6 0 rfl (st_V 28 (.slice (some ⟨blk,0,none⟩) Z.length cap) (zCY M)) (hs6.bl.grown hgr hs6.bl.size (fun b hb=>by simp only [Option.some.injEq] at hb; omega)) hgr.size fun F hF _=>⟨F,⟨by have:=hrw.2.1; rw [show (zCY M).length=Z.length by unfold zCY; rw [List.length_map]; exact hrw.1]; exact this,hF.2⟩,fun _ hb=>.inl hb,fun b hl hb=>hgr.block b hl (fun e=>hb (by simp only [Option.some.injEq] at e; subst e; exact hF.2 b rfl))⟩;have hs8:HS wB w6 [aV 28 (.slice (some ⟨blk,0,none⟩) Z.length cap) (zCY M),aI r4 (smR c),aF r5 (prR c),aRs Z]:=hs7;rw [e1];exact HSx.permS hs8 3 rfl (by have:=hp.map (fun e=>(e.r,e.x)); rwa [zJA] at this))
 have HZL:=zWF hzl;have HZ2:=zWF (And.intro hN0 hN200);clear hrow henv hoff hform hs6 hZ hzl hN0 hN200;generalize Z.length=N at *;go_wp2_with fail
 refine hsort.mono ?_;rintro e w6 ⟨rfl,M,hp,hsr,hrw,hgr⟩;obtain ⟨Y,hyl,hyx,hs8⟩:=HPOST.out M w6 hp hsr hrw hgr;have hs9:HS wB (w6.alloc (.map #[] 0)) [aV 28 (.slice (some ⟨blk,0,none⟩) N cap) (Y.map Prod.fst),aI r4 (smR c),aF r5 (prR c),aRs Y,aCn w6.heap.size c.length []]:=HSx.newCnt hs8 c.length rfl;have c2':=(hs9.bl.cell l2).trans c2;have hmb:=hs8.bl.size;have HYX:=zWF hyx;have HYL:=zWF hyl;have HNV:=zWF (HF.out 0).numv;have HNI:Hid (InI v):=zWF (fun x hx=>by have:=HNV.out.2 x hx; omega);clear HPOST hp hsr hrw hgr hsort hyx hyl hs6;go_wp2_with fail
 generalize w6.heap.size=mb at *;refine (zBA (hv.below (zAA.step b0 hs9.bl)) (by rw [HNV.out.1]; exact hn4)).mono ?_;rintro e w7 ⟨rfl,b7⟩;have hs10:HS wB w7 _:=HSx.below hs9 b7;go_wp2_with (refine zJv rfl _ _ _ rfl rfl hs10 4 rfl hmb hn4 (by simp) HNV.out.1 HNI.out (zWF (by simp)) rfl rfl ?_)
 intro w8 hs11;have hs12:HS wB w8 [aV 28 (.slice (some ⟨blk,0,none⟩) N cap) (Y.map Prod.fst),aI r4 (smR c),aF r5 (prR c),aRs Y,aCn mb c.length [(v,1)]]:=hs11;clear hs8 hs9 hs10 hs11 c2' b7;go_wp2_with fail
 have hs13:HS wB (w8.alloc (.cells #[] 63)) [aV 28 (.slice (some ⟨blk,0,none⟩) N cap) (Y.map Prod.fst),aI r4 (smR c),aF r5 (prR c),aRs Y,aCn mb c.length [(v,1)],aW2 (.slice (some ⟨w8.heap.size,0,none⟩) 0 0) []]:=HSx.freshW2 hs12 rfl;have HLEN:=zWF (zKm c v);have HSTEP:=zWF (fun k u=>zJF (c:=c) (v:=v) (u:=u) (k:=k));have HNEW:=zWF (fun k u=>zRk (c:=c) (v:=v) (u:=u) (k:=k));have HK1:Hid (mltK c v 1=[(v,1)]):=zWF (by
  have:=HSTEP.out 0 v HT.out;rw [this];show []++[(v,mltF c v [] v)]=_;unfold mltF;rw [if_pos rfl]; rfl)
 have HNOD:=zWF (zH1 c v);have HMEM:Hid (∀u,u∈mltL c v→u∈dbR c v):=zWF (fun u hu=>zKn.1 hu);have HKL:=zWF (fun k=>zRj (c:=c) (v:=v) (k:=k));rw [<-HK1.out] at hs13;clear hs12;generalize hw9:w8.alloc (.cells #[] 63)=w9 at *;clear hw9;go_loopw [13,50] (fun oo ii wv=>∃(k:Nat) (E:El2),k≤N∧ii=.int .i64 k∧Hid (E.map Prod.snd=mltK c v k)∧Hid (E.map (fun e=>(e.1,e.2.1))=Y.take k)∧HS wB wv [aV 28 (.slice (some ⟨blk,0,none⟩) N cap) (Y.map Prod.fst),aI r4 (smR c),aF r5 (prR c),aRs Y,aCn mb c.length (mltK c v (max k 1)),aW2 oo E]) (fun _ ii _=>N-(intOf ii).toNat)
 case atStart=>exact ⟨0,[],Nat.zero_le _,rfl,zWF rfl,zWF rfl,hs13⟩
 case round =>
  obtain ⟨k,E,hk,rfl,HE,HY,hs⟩:=hrel;by_cases hkn:k<N
  ·have i2:(k:Int)<(N:Int):=by omega
   obtain ⟨⟨pr,px⟩,hpk⟩:∃p,Y[k]? = some p:=⟨_,zWG (by rw [HYL.out]; exact hkn)⟩;have cm:=(hs.cellV 0 rfl (j:=k) (r:=pr) (by rw [List.getElem?_map,hpk]; rfl)).1;have rm:=hs.rowS 3 rfl (zWH hpk);have HKX:Hid ((mltL c v)[k]? = some px):=zWF (by rw [<-HYX.out,List.getElem?_map,hpk]; rfl);have mm:=HMEM.out px (zWH HKX.out);have HPL:=zWF ((HF.out 0).num mm);have HPI:Hid (InI px):=zWF (zP4 HPL.out.2);obtain ⟨ap,cp,e5⟩:=rm.form;simp only at e5;rw [HPL.out.1] at e5;subst e5;simp only at rm;have HPK:=zWF hpk;have HMM:=zWF mm;clear hpk mm;rcases Nat.eq_zero_or_pos k with h0 | h0
   ·subst h0;have i3:¬(0:Int)<((0:Nat):Int):=by omega
    go_wp2_with fail
    refine (zBA rm (by rw [HPL.out.1]; exact hn4)).mono ?_;rintro e wF ⟨rfl,bF⟩;have hsF:HS wB wF [aV 28 (.slice (some ⟨blk,0,none⟩) N cap) (Y.map Prod.fst),aI r4 (smR c),aF r5 (prR c),aRs Y,aCn mb c.length (mltK c v (0+1)),aW2 u13 E]:=HSx.below hs bF;obtain ⟨_,⟨_,hMR⟩,_⟩:=HSx.get hsF 4 rfl;have HCW:Hid (zAn px (mltK c v (0+1))=mltF c v (mltK c v 0) px):=zWF (by rw [HSTEP.out 0 px HKX.out,zFB (HNEW.out 0 px HKX.out),if_pos rfl]);have HKE:Hid (mltK c v 0++[(px,mltF c v (mltK c v 0) px)]=mltK c v (0+1)):=zWF (HSTEP.out 0 px HKX.out).symm;have hel:E.length≤200:=by
     have h1:=HKL.out 0 (by rw [HLEN.out,<-HZL.out]; omega);have h2:=congrArg List.length HE.out;rw [List.length_map,h1] at h2;have:=HZ2.out;omega
    generalize mltF c v (mltK c v 0) px=q at *;have hsA:HS wB (wF.alloc (.cells #[.slice ap c.length cp,.int .i64 q] 63)) _:=HSx.alloc hsF _;have hq:=HS.newW2 hsA 5 rfl;go_wp2_with (first | (at_lookup; go_must (refine zCg rfl _ _ rfl rfl hMR HPL.out.1 HPI.out rfl HCW ?_)) | (at_builtin; go_must (refine zEj (r:=.slice ap c.length cp) (q:=q) rfl _ _ rfl px rfl hsA 5 rfl hq rfl (by go_simp) (by go_simp) rfl (by omega) ?_)))
    intro v5 wE hsB _;have hsC:HS wB wE [aV 28 (.slice (some ⟨blk,0,none⟩) N cap) (Y.map Prod.fst),aI r4 (smR c),aF r5 (prR c),aRs Y,aCn mb c.length (mltK c v (0+1)),aW2 v5 (E++[(.slice ap c.length cp,(px,q))])]:=hsB;rw [show 0+1=max (0+1) 1 by omega] at hsC;have HEE:Hid ((E++[(Value.slice ap c.length cp,(px,q))]).map Prod.snd=mltK c v (0+1)):=zWF (by rw [List.map_append,HE.out,<-HKE.out]; rfl);have HYE:Hid ((E++[(Value.slice ap c.length cp,(px,q))]).map (fun e=>(e.1,e.2.1))=Y.take (0+1)):=zWF (by rw [List.map_append,HY.out,zAG HPK.out]; rfl);have hn200:=HZ2.out.2;have hnpos:=HZ2.out.1;clear hsA hsB hsF hMR;go_wp2_with fail
    refine ⟨⟨0+1,_,by omega,by first | rfl | go_num | (simp only [Value.int.injEq,true_and]; unfold wrap64; omega),HEE,HYE,hsC⟩,?_⟩;simp only [intOf];try unfold wrap64
    omega
   ·have i3:(0:Int)<(k:Int):=by omega
    have c1':=(hs.bl.cell l1).trans c1;have c2':=(hs.bl.cell l2).trans c2;have lA:=zWJ wr _ c1';have lB:=zWJ wr _ c2';rw [Nat.max_eq_left h0] at hs;have HNE:Hid (v≠px):=zWF (fun e=>by
     obtain ⟨z1,e1⟩:=zWI HT.out;obtain ⟨z2,e2⟩:=zWI HKX.out;have:=List.pairwise_iff_getElem.1 HNOD.out 0 k z1 z2 h0;rw [e1,e2] at this;exact this e)
    have HFK:=zWF (HF.out k);have HNW:=zWF (HNEW.out k px HKX.out);have HK2:Hid (mltK c v k++[(px,mltF c v (mltK c v k) px)]=mltK c v (k+1)):=zWF (HSTEP.out k px HKX.out).symm;have HKL2:Hid ((mltK c v k).length<67108864):=zWF (by have:=HKL.out k (by rw [HLEN.out,<-HZL.out]; omega); have:=HZ2.out; omega);go_wp2_with fail
    go_region_held3 (fun w'=>w'.cell? ⟨w.heap.size,0,none⟩=some (.slice ac c.length cc)∧w'.cell? ⟨w.heap.size+1,0,none⟩=some (.slice av v.length cv)) (first | go_keep | (go_split_ands; exact ⟨(hsU.bl.cell l1).trans c1,(hsU.bl.cell l2).trans c2⟩) | (go_split_ands; exact ⟨(hsT.bl.cell l1).trans c1,(hsT.bl.cell l2).trans c2⟩) | (go_split_ands; exact ⟨(hsS.bl.cell l1).trans c1,(hsS.bl.cell l2).trans c2⟩)) (first
     | (go_at_call 100; refine (zBA rm.drew (by rw [HPL.out.1]; exact hn4)).mono ?_; rintro e y1 ⟨rfl,d1⟩; have hsS:=HSx.below (HSx.drew hs) d1; have rmS:=RI.below rm.drew d1; obtain ⟨_,⟨_,hMS⟩,_⟩:=HSx.get hsS 4 rfl)
     | (go_at_call 101; refine (zOz (h.below (zAA.step b0 hsS.bl)) (HS.I hsS 1 rfl).reads (FII.read (HS.F hsS 2 rfl)) (hv.below (zAA.step b0 hsS.bl)) rmS hMS HFK.out HMM.out HNE.out hl).mono ?_; rintro e y2 ⟨rfl,d2⟩; have hsT:=HSx.below hsS d2; have rmT:=RI.below rmS d2)
     | (refine zLy hsT 4 (by rfl) hmb hn4 HKL2.out HPL.out.1 HPI.out HNW ?_; intro y3 hsU))
    have HSV:HS wB y3 [aV 28 (.slice (some ⟨blk,0,none⟩) N cap) (Y.map Prod.fst),aI r4 (smR c),aF r5 (prR c),aRs Y,aCn mb c.length (mltK c v k++[(px,mltF c v (mltK c v k) px)]),aW2 u13 E]:=hsU;rw [HK2.out] at HSV;have rmV:=HSV.rowS 3 rfl (zWH HPK.out);go_wp2_with fail
    refine (zBA rmV (by rw [HPL.out.1]; exact hn4)).mono ?_;rintro e wF ⟨rfl,bF⟩;have hsF:HS wB wF [aV 28 (.slice (some ⟨blk,0,none⟩) N cap) (Y.map Prod.fst),aI r4 (smR c),aF r5 (prR c),aRs Y,aCn mb c.length (mltK c v (k+1)),aW2 u13 E]:=HSx.below HSV bF;obtain ⟨_,⟨_,hMR⟩,_⟩:=HSx.get hsF 4 rfl;have HCW:Hid (zAn px (mltK c v (k+1))=mltF c v (mltK c v k) px):=zWF (by rw [HSTEP.out k px HKX.out,zFB (HNEW.out k px HKX.out),if_pos rfl]);have HKE:Hid (mltK c v k++[(px,mltF c v (mltK c v k) px)]=mltK c v (k+1)):=zWF (HSTEP.out k px HKX.out).symm;have hel:E.length≤200:=by
     have h1:=HKL.out k (by rw [HLEN.out,<-HZL.out]; omega);have h2:=congrArg List.length HE.out;rw [List.length_map,h1] at h2;have:=HZ2.out;omega
    generalize mltF c v (mltK c v k) px=q at *;have hsA:HS wB (wF.alloc (.cells #[.slice ap c.length cp,.int .i64 q] 63)) _:=HSx.alloc hsF _;have hq:=HS.newW2 hsA 5 rfl;go_wp2_with (first | (at_lookup; go_must (refine zCg rfl _ _ rfl rfl hMR HPL.out.1 HPI.out rfl HCW ?_)) | (at_builtin; go_must (refine zEj (r:=.slice ap c.length cp) (q:=q) rfl _ _ rfl px rfl hsA 5 rfl hq rfl (by go_simp) (by go_simp) rfl (by omega) ?_)))
    intro v5 wE hsB _;have hsC:HS wB wE [aV 28 (.slice (some ⟨blk,0,none⟩) N cap) (Y.map Prod.fst),aI r4 (smR c),aF r5 (prR c),aRs Y,aCn mb c.length (mltK c v (k+1)),aW2 v5 (E++[(.slice ap c.length cp,(px,q))])]:=hsB;rw [show k+1=max (k+1) 1 by omega] at hsC;have HEE:Hid ((E++[(Value.slice ap c.length cp,(px,q))]).map Prod.snd=mltK c v (k+1)):=zWF (by rw [List.map_append,HE.out,<-HKE.out]; rfl);have HYE:Hid ((E++[(Value.slice ap c.length cp,(px,q))]).map (fun e=>(e.1,e.2.1))=Y.take (k+1)):=zWF (by rw [List.map_append,HY.out,zAG HPK.out]; rfl);have hn200:=HZ2.out.2;have hnpos:=HZ2.out.1;clear hsA hsB hsF hMR;go_wp2_with fail
    refine ⟨⟨k+1,_,by omega,by first | rfl | go_num | (simp only [Value.int.injEq,true_and]; unfold wrap64; omega),HEE,HYE,hsC⟩,?_⟩;simp only [intOf];try unfold wrap64
    omega
  ·have hk2:k=N:=by omega
   have i2:¬(k:Int)<(N:Int):=by omega
   have hfin:=HS.FW (HSx.shutW2 (HSx.pick hs [5,3] (by decide)) 0 1 (by omega) rfl (by rw [HY.out,hk2,List.take_of_length_le (by rw [HYL.out]; exact zWK _)]; rfl)) 0 rfl;rw [HE.out,hk2,HZL.out,<-HR.out] at hfin;have HFIN:=zWF (hfin.mono (S':=New w wr) (fun b hb=>⟨Nat.le_trans b0.size hb.1,hb.2⟩));have HBL:=zWF (zAA.step b0 hs.bl);clear hfin hk2;go_wp2_with fail
   go_ret2
   exact ⟨_,rfl,HFIN.out,HBL.out⟩
theorem zTw {S S':Nat→Prop} {x1 x2:Value} {c:List (List Int)} {v:List Int} {w:World} (h:RII S w x1 c) (hv:RI S' w x2 v) (hl:total c≤16777216) (hl':v.length≤16777216) (hM:HasM w) :
  Calls Tryz.prog 46 #[x1,x2] w fun e w'=>∃r,e=.returned (.tuple #[r,.bool (mlOk c v)])∧FW (New w w') w' r (mlR c v)∧Below w.heap.size w w':=zVb h hv hM hl hl'
theorem zWE {c:List (List Int)} {v x:List Int} (hok:dbOk c v=true) (hx:x∈wsR c v):zBG c x=true∧x.length=c.length:=by
 have hF:=zTg hok;unfold wsR at hx;rw [if_pos hok] at hx;cases hs:wsQ c v with
 | none=>rw [hs] at hx; simp [zA5] at hx
 | some s =>
  rw [hs,Option.getD_some] at hx;have h1:=zHe (zES c v) (zGa c v) (dbR c v).length 0 (acc:=[]) (s:=s) rfl (Nat.zero_le _) (WsI.start c _) (by simp) (by rw [List.drop_zero]; exact hs);have hxs:=((zB9 (n:=c.length) (q:=s) h1.1.len).2 x).1 hx;obtain ⟨j,u,_,hu,ho,hxo⟩:=h1.1.src x hxs;have hum:=zWH hu;obtain ⟨_,h2,_⟩:=zGE ho (zGa c v u hum);have hb:=(hF.bd hum).rch hF.fin (by omega) (h2 x hxo).2;refine ⟨?_,hb.1⟩;unfold zBG isW;rw [hF.fb,zAK.2 hF.fin.cart,hb.1];simp only [decide_true,Bool.true_and,Bool.and_true];refine zCu.2 fun y hy=>?_;obtain ⟨i,hi⟩:=List.getElem?_of_mem hy;have hil:=(zWI hi).1;have:=hb.num hF.fin (i:=i) (by rw [<-hb.1]; exact hil);rw [zAS hi] at this;unfold wtB;exact zBx (by omega)
def chaB (c:List (List Int)) (v:List Int):Bool:=wsOk c v && mlOk c v
def chaF (c:List (List Int)) (v:List Int) (u:List Int):Wtd:=(u,zAn (dmL c u) (mlR c v))
def chaR (c:List (List Int)) (v:List Int):List Wtd:=if chaB c v=true then (wsR c v).map (chaF c v) else []
theorem zNP (c:List (List Int)) (v:List Int):zB2 (chaR c v)≤1000:=by
 unfold chaR;split
 ·have:zB2 ((wsR c v).map (chaF c v))=total (wsR c v):=by
   unfold zB2 total;rw [List.length_map,List.map_map];rfl
  rw [this];exact zJk c v
 ·decide
def ChaC (c:List (List Int)) (v:List Int) (w:World) (e:Ending) (w':World):Prop:=∃r,e=.returned (.tuple #[r,.bool (chaB c v)])∧FW (New w w') w' r (chaR c v)∧Below w.heap.size w w'
theorem zU7 {S S':Nat→Prop} {x1 x2:Value} {c:List (List Int)} {v:List Int} {w:World} (h:RII S w x1 c) (hv:RI S' w x2 v) (hl:total c≤16777216) (hl':v.length≤16777216) (hM:HasM w) :
  Calls Tryz.prog 17 #[x1,x2] w (ChaC c v w):=by
 have HRES:Hid (ChaC c v w=fun e w'=>∃r,e=.returned (.tuple #[r,.bool (chaB c v)])∧FW (New w w') w' r (chaR c v)∧Below w.heap.size w w'):=zWF rfl;rw [HRES.out];have HNO:Hid (chaB c v=false→chaR c v=[]):=zWF (fun e=>by unfold chaR; rw [e]; rfl);have HOK:Hid (chaB c v=(wsOk c v && mlOk c v)):=zWF rfl;have HYES:Hid (chaB c v=true→chaR c v=(wsR c v).map (chaF c v)):=zWF (fun e=>by unfold chaR; rw [if_pos e]);have HDB:Hid (mlOk c v=true→∀x∈wsR c v,zBG c x=true∧x.length=c.length):=zWF (fun e x hx=>zWE (by unfold mlOk at e; rw [Bool.and_eq_true] at e; exact e.1) hx);generalize hok:chaB c v=ok at *;generalize hres:chaR c v=res at *;clear hok hres;have HT:=zWF (zPG c v);have HWT:=zWF (zJk c v);go_enter Tryz.func17,Tryz.ntmps17
 go_wp2_with fail
 have HEMP:Hid (∀w1 w2,HS w w1 []→w2=w1.alloc (.cells #[] 63)→FW (New w w2) w2 (.slice (some ⟨w1.heap.size,0,none⟩) 0 0) []∧Below w.heap.size w w2):=zWF (fun w1 w2 h1 h2=>by
  have h3:=HSx.noRs (HSx.freshW2 h1 h2);exact ⟨HS.FW (HSx.shutW2 h3 0 1 (by omega) rfl rfl) 0 rfl,h3.bl⟩)
 refine (zU0 h hv hl hl').mono ?_;rintro e w2 ⟨r2,rfl,f2,b2⟩;have hs2:HS w w2 [aF r2 (wsR c v)]:=HSx.addF (HSx.nil (Below.refl _ w)) b2 f2;clear f2 b2;go_wp2_with fail
 refine (zTw (h.below hs2.bl) (hv.below hs2.bl) hl hl' (hM.below hs2.bl)).mono ?_;rintro e w3 ⟨r3,rfl,f3,b3⟩;have hs3:HS w w3 [aF r2 (wsR c v),aFW r3 (mlR c v)]:=HSx.add hs2 b3 (zSm _ _) f3 (fun _ h=>h);clear hs2 f3 b3;by_cases hall:wsOk c v=true∧mlOk c v=true
 ·obtain ⟨h1,h2⟩:=hall;have e0:ok=true:=by rw [HOK.out,h1,h2]; rfl
  have HR:=zWF (HYES.out e0);have HWS:=zWF (HDB.out h2);rw [h1,h2];subst e0;clear h1 h2 HYES HNO HOK HDB HEMP;obtain ⟨Z,hZ,hs4⟩:=HSx.openF hs3 0 rfl;have hs4:HS w w3 [aV 28 r2 (Z.map Prod.fst),aFW r3 (mlR c v),aRs Z]:=hs4;have hn0:Z.length≤16777216:=by rw [<-List.length_map (f:=Prod.snd),hZ]; have:=HWT.out; unfold total at this; omega
  have HZ:=zWF hZ;obtain ⟨a2,c2,e2⟩:=(HSx.formV hs4 0 rfl).1;rw [List.length_map] at e2;subst e2;clear hs3 hZ;generalize hn:Z.length=n at *;have HN:=zWF hn;clear hn;go_wp2_with fail
  have hs5:HS w (w3.alloc (.cells #[] 63)) [aV 28 (.slice a2 n c2) (Z.map Prod.fst),aFW r3 (mlR c v),aRs Z,aW2 (.slice (some ⟨w3.heap.size,0,none⟩) 0 0) []]:=HSx.freshW2 hs4 rfl;clear hs4;generalize hw4:w3.alloc (.cells #[] 63)=w4 at *;clear hw4;go_loopw [10,37] (fun oo ii wv=>∃(k:Nat) (E:El2),k≤n∧ii=.int .i64 k∧Hid (E.map Prod.snd=((wsR c v).take k).map (chaF c v))∧Hid (E.map (fun e=>(e.1,e.2.1))=Z.take k)∧HS w wv [aV 28 (.slice a2 n c2) (Z.map Prod.fst),aFW r3 (mlR c v),aRs Z,aW2 oo E]) (fun _ ii _=>n-(intOf ii).toNat)
  case atStart=>exact ⟨0,[],Nat.zero_le _,rfl,zWF rfl,zWF rfl,hs5⟩
  case round =>
   obtain ⟨k,E,hk,rfl,HE,HY,hs⟩:=hrel;by_cases hkn:k<n
   ·have i2:(k:Int)<(n:Int):=by omega
    obtain ⟨⟨pr,x⟩,hpk⟩:∃p,Z[k]? = some p:=⟨_,zWG (by rw [HN.out]; exact hkn)⟩;obtain ⟨gq,cq,e3⟩:=(HSx.formV hs 0 rfl).2 (by rw [List.length_map,HN.out]; omega)
    injection e3 with e3 e4 e6
    subst e3;clear e4 e6;have cm:=(hs.cellV 0 rfl (j:=k) (r:=pr) (by rw [List.getElem?_map,hpk]; rfl)).1;have rm:=hs.rowS 2 rfl (zWH hpk);have hx1:(wsR c v)[k]? = some x:=by rw [<-HZ.out,List.getElem?_map,hpk]; rfl
    have hxw:=HWS.out x (zWH hx1);have HXW:=zWF hxw;have HXL:=zWF hxw.2;have HST:Hid (((wsR c v).take k).map (chaF c v)++[(x,zAn (dmL c x) (mlR c v))]=((wsR c v).take (k+1)).map (chaF c v)):=zWF (by rw [zAG hx1,List.map_append]; rfl);have HEL:Hid (E.length≤16777216):=zWF (by
     have h2:=congrArg List.length HE.out;rw [List.length_map,List.length_map,List.length_take] at h2;omega)
    have HDL:Hid ((dmL c x).length≤16777216):=zWF (by unfold dmL; rw [zDj,HXL.out]; unfold total at hl; omega);obtain ⟨ap,cp,e5⟩:=rm.form;simp only at e5;rw [HXL.out] at e5;subst e5;simp only at rm;have HPK:=zWF hpk;obtain ⟨_,hcc,hcor,hdm⟩:=zBn hxw.1;clear hpk hx1 hxw;go_wp2_with fail
    refine (zFX (h.below hs.bl) rm hcc (zEB hcor hcc) hdm).mono ?_;rintro e w5 ⟨r5,r6,rfl,f5,_,_,b5⟩;have hs6:HS w w5 [aV 28 (.slice (some ⟨gq,0,none⟩) n c2) (Z.map Prod.fst),aFW r3 (mlR c v),aRs Z,aW2 u10 E,aI r5 (dmL c x)]:=HSx.addI hs b5 f5;clear hs f5 b5 rm cm hcc hcor hdm;go_wp2_with fail
    refine (zLk (FW.any (HS.FW hs6 1 rfl)) (HS.I hs6 4 rfl).reads (by have:=HT.out; omega) HDL.out).mono ?_;rintro e w6 ⟨rfl,b6⟩;have hs7:HS w w6 _:=HSx.below hs6 b6;clear hs6 b6;generalize zAn (dmL c x) (mlR c v)=q at *;have hsA:HS w (w6.alloc (.cells #[.slice ap c.length cp,.int .i64 q] 63)) _:=HSx.alloc hs7 _;have hq:=HS.newW2 hsA 3 rfl;have hel:=HEL.out;go_wp2_with (at_builtin; go_must (refine zEj (r:=.slice ap c.length cp) (q:=q) rfl _ _ rfl x rfl hsA 3 rfl hq rfl (by go_simp) (by go_simp) rfl (by omega) ?_))
    intro v5 wE hsB _;have hsC:HS w wE [aV 28 (.slice (some ⟨gq,0,none⟩) n c2) (Z.map Prod.fst),aFW r3 (mlR c v),aRs Z,aW2 v5 (E++[(.slice ap c.length cp,(x,q))]),aI r5 (dmL c x)]:=hsB;have hsD:HS w wE [aV 28 (.slice (some ⟨gq,0,none⟩) n c2) (Z.map Prod.fst),aFW r3 (mlR c v),aRs Z,aW2 v5 (E++[(.slice ap c.length cp,(x,q))])]:=HSx.pick hsC [0,1,2,3] (by decide);have HE1:Hid ((E++[(Value.slice ap c.length cp,(x,q))]).map Prod.snd=((wsR c v).take (k+1)).map (chaF c v)):=zWF (by rw [List.map_append,HE.out,<-HST.out]; rfl);have HY1:Hid ((E++[(Value.slice ap c.length cp,(x,q))]).map (fun e=>(e.1,e.2.1))=Z.take (k+1)):=zWF (by rw [List.map_append,HY.out,zAG HPK.out]; rfl);clear hsA hsB hsC hs7;go_wp2_with fail
    go_roundw
    case rel=>exact ⟨k+1,_,by omega,by go_num,HE1,HY1,hsD⟩
    case measure=>simp [intOf]; omega
   ·have hk2:k=n:=by omega
    have i2:¬(k:Int)<(n:Int):=by omega
    have hfin:=HS.FW (HSx.shutW2 (HSx.pick hs [3,2] (by decide)) 0 1 (by omega) rfl (by rw [HY.out,hk2,List.take_of_length_le (by rw [HN.out]; exact zWK _)]; rfl)) 0 rfl;rw [HE.out,hk2,List.take_of_length_le (by rw [<-HZ.out,List.length_map,HN.out]; exact zWK _),<-HR.out] at hfin;have HFIN:=zWF hfin;have HBL:=zWF hs.bl;clear hfin hk2;go_wp2_with fail
    go_ret2
    exact ⟨_,rfl,HFIN.out,HBL.out⟩
 ·have e0:Hid (ok=false):=zWF (by
   rw [HOK.out];cases h1:wsOk c v
   ·rfl
   ·cases h2:mlOk c v
    ·rfl
    ·exact absurd ⟨h1,h2⟩ hall)
  obtain ⟨hfw,hfb⟩:=HEMP.out w3 _ (HSx.pick hs3 [] (by decide)) rfl;rw [<-HNO.out e0.out] at hfw;have HFIN:=zWF hfw;have HBL:=zWF hfb;clear hfw hfb hall;cases hA:wsOk c v
  ·clear hA;go_wp2_with fail
   go_ret2
   exact ⟨_,by rw [e0.out]; rfl,HFIN.out,HBL.out⟩
  ·cases hB:mlOk c v
   ·clear hA hB;go_wp2_with fail
    go_ret2
    exact ⟨_,by rw [e0.out]; rfl,HFIN.out,HBL.out⟩
   ·have:=HOK.out;rw [hA,hB,e0.out] at this;cases this
theorem zSw {S S':Nat→Prop} {x1 x2:Value} {c:List (List Int)} {v:List Int} {w:World} (h:RII S w x1 c) (hv:RI S' w x2 v) (hl:total c≤16777216) (hl':v.length≤16777216) (hM:HasM w) :
  Calls Tryz.prog 17 #[x1,x2] w fun e w'=>∃r,e=.returned (.tuple #[r,.bool (chaB c v)])∧FW (New w w') w' r (chaR c v)∧Below w.heap.size w w':=zU7 h hv hl hl' hM
end Go.Proofs.YtphbichgpcicnaaGreatDoor
