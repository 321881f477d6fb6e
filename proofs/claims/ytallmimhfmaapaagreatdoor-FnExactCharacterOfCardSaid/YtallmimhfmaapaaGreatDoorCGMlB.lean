/- The product of a root vector and a weight, by the program; multiples of simple roots by the reference; a difference as a root vector, by the program. Condition: a finite matrix. -/
import Derived.Test.YtallmimhfmaapaaGreatDoorCGMlt
import Derived.Deep.LoopGhost
import Derived.Test.YtallmimhfmaapaaGreatDoorCGSrtV
namespace Go.Proofs.YtallmimhfmaapaaGreatDoor
open Go.RowKit
set_option maxRecDepth 20000
set_option maxHeartbeats 8000000
theorem zGQ {S S' S'':Nat→Prop} {u v z:Value} {d r x:List Int} {w:World} {n:Nat} (h:RI S w u d) (h':RI S' w v r) (h'':RI S'' w z x) (hd:d.length=n) (hr:r.length=n) (hx:x.length=n) (hn:n≤1000) :
  Calls Tryz.prog 86 #[u,v,z] w fun e w'=>e=.returned (.int .i64 (wrap64 (pT d r x n)))∧∃m,w'=w.drewN m:=by
 have mixed:Tryz.prog.follows .mixedOrders=true:=by kernel_rfl
 obtain ⟨a,cap,rfl⟩:=h.form;obtain ⟨a',cap',rfl⟩:=h'.form;obtain ⟨a'',cap'',rfl⟩:=h''.form;rw [hd] at h ⊢;rw [hr] at h' ⊢;rw [hx] at h'' ⊢;have HST:Hid (∀k,wrap64 (wrap64 (pT d r x k)+wrap64 (wrap64 (num r k*num d k)*num x k))=wrap64 (pT d r x (k+1))):=zTY (fun k=>by
  rw [zCn,zBQ,<-zBQ,zCP,zBQ]; rfl)
 have H0:Hid (wrap64 (pT d r x 0)=0):=zTY (by simp [pT,smI,wrap64]);clear hd hr hx;generalize hP:(fun k=>wrap64 (pT d r x k))=P at *;have HP:Hid (∀k,wrap64 (pT d r x k)=P k):=zTY (fun k=>by rw [<-hP]);clear hP;rw [HP.out];go_enter Tryz.func86,Tryz.ntmps86
 go_wp2_with fail
 go_loopw [7,12] (fun ss kk wr=>∃(k:Nat),k≤n∧kk=.int .i64 k∧ss=.int .i64 (P k)∧∃m,wr=w.drewN m) (fun _ kk _=>n-(intOf kk).toNat)
 case atStart=>exact ⟨0,Nat.zero_le _,rfl,by rw [<-HP.out,H0.out],0,rfl⟩
 case round =>
  obtain ⟨k,hk,rfl,rfl,m,rfl⟩:=hrel;by_cases hkn:k<n
  ·have i1:(k:Int)<(n:Int):=by omega
   obtain ⟨b1,o1,y1,rfl,hc1,hy1⟩:=(h.drewN m).atI hkn;obtain ⟨b2,o2,y2,rfl,hc2,hy2⟩:=(h'.drewN m).atI hkn;obtain ⟨b3,o3,y3,rfl,hc3,hy3⟩:=(h''.drewN m).atI hkn;have HN:Hid (wrap64 (P k+wrap64 (wrap64 (y2*y1)*y3))=P (k+1)):=zTY (by
    have:=HST.out k;rw [HP.out,HP.out,zAQ hy1.out,zAQ hy2.out,zAQ hy3.out] at this;exact this)
   clear hy1 hy2 hy3 HST H0 HP;have hc4:w.cell? { block:=b3,off:=o3+k }=some (Value.int IntKind.i64 y3):=hc3;have hc5:w.cell? { block:=b1,off:=o1+k }=some (Value.int IntKind.i64 y1):=hc1;go_wp2_with fail
   go_big_region_o
   go_wp2_with fail
   go_roundw
   case rel=>exact ⟨k+1,by omega,by go_num,by rw [HN.out],m+1,rfl⟩
   case measure=>simp [intOf]; omega
  ·have i1:¬(k:Int)<(n:Int):=by omega
   have hkn2:k=n:=by omega
   subst hkn2;go_wp2_with fail
   go_ret
   exact ⟨rfl,m,rfl⟩
def qTo (D:Int) (C:List Int) (k:Nat):List Int:=((C.take k).map fun x=>x.tdiv D)++C.drop k
theorem zRr (D:Int) (C:List Int) (k:Nat):(qTo D C k).length=C.length:=by simp [qTo]; omega
theorem zTA {D:Int} {C:List Int} {k:Nat} (hk:k<C.length):(qTo D C k)[k]? = C[k]?:=by
 unfold qTo;rw [List.getElem?_append_right (by simp; omega),List.getElem?_drop];congr 1;simp; omega
theorem zP5 {D:Int} {C:List Int} {k:Nat} {x:Int} (hx:C[k]? = some x):(qTo D C k).set k (x.tdiv D)=qTo D C (k+1):=by
 obtain ⟨hk,rfl⟩:=zTb hx;unfold qTo;rw [List.set_append_right _ _ (by simp; omega),List.take_add_one,zTZ hk,List.drop_eq_getElem_cons hk];have:k-min k C.length=0:=by omega
 simp only [List.length_map,List.length_take,this,List.set_cons_zero,List.map_append,Option.toList,List.map_cons,List.map_nil,List.append_assoc,List.cons_append,List.nil_append]
theorem zRq (D:Int) (C:List Int):qTo D C C.length=C.map fun x=>x.tdiv D:=by simp [qTo]
theorem zFR {S S' S'':Nat→Prop} {u z v:Value} {c:List (List Int)} {b a:List Int} {w:World} (h:RII S w u c) (h':RI S' w z b) (h'':RI S'' w v a) (hF:FinP c) (hl:zAC c≤16777216) (hb:b.length=c.length) (ha:a.length=c.length) (hbs:∀x∈b,-900≤x∧x≤900) (has:∀x∈a,-900≤x∧x≤900) :
  Calls Tryz.prog 32 #[u,z,v] w fun e w'=>∃r,e=.returned r∧FI (New w w') w' r (dep c b a)∧Below w.heap.size w w':=by
 have hn4:=hF.cart.le;have hdl:(dfL b a).length=c.length:=by simp [dfL,hb,ha]
 have hds:∀x∈dfL b a,x.natAbs≤2000:=fun x hx=>by
  obtain ⟨k,hk,rfl⟩:=List.getElem_of_mem hx;have e:(dfL b a)[k]=b[k]'(by omega)-a[k]'(by omega):=List.getElem_zipWith;have e1:=hbs _ (List.getElem_mem (show k<b.length by omega));have e2:=has _ (List.getElem_mem (show k<a.length by omega));omega
 have HK:Hid (addK (-1) b a=dfL b a):=zTY (zCN (n:=c.length) (by rw [zDA,hb,ha]; omega) hdl fun i hi=>by
  rw [zGj _ (by omega) (by omega),zC3 hb ha hi];have e1:=hbs _ (zAu hb hi);have e2:=has _ (zAu ha hi);unfold wrap64; omega)
 have HE:Hid (qTo (Fin.det c.length c) (zBF c (dfL b a) c.length) c.length=dep c b a):=zTY (by
  have:=zRq (Fin.det c.length c) (zBF c (dfL b a) c.length);rw [zAm] at this;exact this)
 have HL:=zTY (zAm c (dfL b a) c.length);have hD0:=zEX hF;have hSM:Fin.Small 2000 c:=fun r hr x hx=>by
  obtain ⟨i,hi,rfl⟩:=List.getElem_of_mem hr;obtain ⟨j,hj,rfl⟩:=List.getElem_of_mem hx;have:=zEC hF.cart i j;have e:ent c i j=c[i][j]:=by simp [ent,hi,hj]
  rw [e] at this; omega
 have hSQ:Fin.Sqr c c.length:=⟨rfl,hF.cart.row⟩;have hDB:∀n,n≤4→Fin.dB 2000 n≤384000000000000:=by
  intro n hn
  match n,hn with
  | 0,_=>decide
  | 1,_=>decide
  | 2,_=>decide
  | 3,_=>decide
  | 4,_=>decide
 have hDB:=hDB _ hn4;have HCB:Hid (∀x∈zBF c (dfL b a) c.length,-384000000000000≤x∧x≤384000000000000):=zTY (fun x hx=>by
  obtain ⟨k,hk,rfl⟩:=List.getElem_of_mem hx;rw [zAm] at hk;have e:=zCa c (dfL b a) c.length k hk;rw [zTZ (by rw [zAm]; exact hk)] at e
  injection e with e
  rw [e];have:=Fin.det_abs c.length (zDi hF.cart k hds);unfold zAU;omega)
 have hdb:=Fin.det_abs (B:=2000) c.length hSM;have HF:=zTY hF;have HN0:=zTY hF.cart.pos;have HDL:=zTY hdl;have HDS:=zTY hds;have HSM:=zTY hSM;have HSQ:=zTY hSQ;have HBL:=zTY hb;have HAL:=zTY ha;generalize dep c b a=res at *;have hD1:Fin.det c.length c≤384000000000000:=by omega
 clear hF hdl hds hSM hSQ hDB hb ha hbs has hdb;go_enter Tryz.func32,Tryz.ntmps32
 go_wp2_with fail
 refine (zIF (-1) h' h'' (by rw [HBL.out]; omega) (by rw [HAL.out]; omega) (by rw [HBL.out,HAL.out]; exact zTd _)).mono ?_;rintro e w1 ⟨r1,rfl,f1,b1⟩;rw [HK.out] at f1;go_wp2_with fail
 refine (zG5 (h.below b1) f1.reads HF.out.cart hl HDL.out HDS.out).mono ?_;rintro e w2 ⟨r2,rfl,f2,b2⟩;have b02:=zAA.step b1 b2;have f2:FI (New w w2) w2 r2 (zBF c (dfL b a) c.length):=f2.mono (fun x hx=>⟨Nat.le_trans b1.size hx.1,hx.2⟩);clear b1 b2 f1;generalize zBF c (dfL b a) c.length=C at *;go_wp2_with fail
 refine (zHs (h.below b02) HSQ.out HSM.out hn4).mono ?_;rintro e w3 ⟨rfl,b3⟩;have b03:=zAA.step b02 b3;have f3:FI (New w w3) w3 r2 C:=f2.grow b3;clear b02 b3 f2;generalize Fin.det c.length c=D at *;have HX:=HL.out;generalize c.length=n at *;have hn0:0<n:=HN0.out;obtain ⟨a3,c3,rfl⟩:=f3.form;rw [HX] at f3;obtain ⟨g,rfl,hSg,_⟩:=FI.head f3 hn0;clear hn0 HX;have hQ0:qTo D C 0=C:=by simp [qTo]
 rw [<-hQ0] at f3;clear hQ0;go_wp2_with fail
 go_loopw [9] (fun kk wr=>∃(k:Nat),k≤n∧kk=.int .i64 k∧FI (New w w3) wr (.slice (some ⟨g,0,none⟩) n c3) (qTo D C k)∧Only (New w w3) w3 wr) (fun kk _=>n-(intOf kk).toNat)
 case atStart=>exact ⟨0,Nat.zero_le _,rfl,f3,Only.refl _ _⟩
 case round =>
  obtain ⟨k,hk,rfl,hf,ho⟩:=hrel;have hb3:Below w.heap.size w wr:=b03.trans (ho.below (B:=w.heap.size) (fun b hb'=>hb'.1));by_cases hlt:k<n
  ·have i1:(k:Int)<(n:Int):=by omega
   have hqL:(qTo D C k).length=n:=(zRr _ _ _).trans HL.out;obtain ⟨b5,o5,x,e5,hcx,hx⟩:=RI.at hf.any hlt;simp only [Option.some.injEq,Addr.mk.injEq,and_true] at e5;obtain ⟨rfl,rfl⟩:=e5;rw [Nat.zero_add] at hcx;have hx':C[k]? = some x:=by rw [<-zTA (D:=D) (by rw [HL.out]; exact hlt)]; exact hx.out
   have hfr:=hf.froz hqL k;have hst:=hf.put hqL k (x.tdiv D);rw [zP5 hx'] at hst;have HST:=zTY hst;have hbx:=HCB.out x (zTa hx');have j2:-384000000000000≤x.tdiv D∧x.tdiv D≤384000000000000:=by
    have:=Int.natAbs_tdiv_le_natAbs x D;omega
   have HO:=zTY ((ho.setCell (j:=k) hSg (.int .i64 (x.tdiv D))));clear hst hx' hx hqL;go_wp2_with fail
   exact ⟨⟨k+1,by omega,by go_num,HST.out,HO.out⟩,by simp [intOf]; omega⟩
  ·have hkn:k=n:=by omega
   have i1:¬(k:Int)<(n:Int):=by omega
   rw [hkn,HE.out] at hf;go_wp2_with fail
   go_ret
   exact ⟨_,rfl,hf.mono (fun b hb'=>⟨hb'.1,by rw [ho.size]; exact hb'.2⟩),hb3⟩
theorem zGc {S S' S'':Nat→Prop} {u z v:Value} {c:List (List Int)} {b a:List Int} {w:World} (h:RII S w u c) (h':RI S' w z b) (h'':RI S'' w v a) (hF:FinP c) (hl:zAC c≤16777216) (ha:isW c a=true) (hb:isW c b=true) (hall:allW c (dfL b a) c.length=true) :
  Calls Tryz.prog 40 #[u,z,v] w fun e w'=>∃r,e=.returned (.tuple #[r,.bool true])∧FI (New w w') w' r (dep c b a)∧Below w.heap.size w w':=by
 have HF:=zTY hF;have hn4:=hF.cart.le;have HA:=zTY (zCy ha);have HB:=zTY (zCy hb);have HDS:=zTY (zNx ha hb);obtain ⟨au,cu,rfl⟩:=h.form;obtain ⟨az,cz,rfl⟩:=h'.form;obtain ⟨av,cv,rfl⟩:=h''.form;rw [HB.out.2.1] at h' ⊢;rw [HA.out.2.1] at h'' ⊢;clear hF ha hb;obtain ⟨D,hD⟩:∃D:Nat→List Int,∀k,D k=List.zipWith (fun y x=>y-x) (b.take k) (a.take k):=⟨_,fun _=>rfl⟩;have HD0:Hid (D 0=[]):=zTY (by rw [hD]; simp);have HDn:Hid (D c.length=dfL b a):=zTY (by rw [hD,List.take_of_length_le (by rw [HB.out.2.1]; exact zTd _),List.take_of_length_le (by rw [HA.out.2.1]; exact zTd _)]; rfl);have HDS2:Hid (∀k y x,b[k]? = some y→a[k]? = some x→D (k+1)=D k++[y-x]):=zTY (fun k y x hy hx=>by rw [hD,hD]; exact zPW hy hx);have HDL:Hid (∀k,(D k).length≤k):=zTY (fun k=>by rw [hD]; simp; omega);clear hD
 have HAY:Hid (dom (quos c (dfL b a) (Fin.det c.length c) c.length)=true):=zTY ((zMe (zEX HF.out) (fun k hk=>(zDx.1 hall k hk).2)).trans hall);have HDP:Hid (quos c (dfL b a) (Fin.det c.length c) c.length=dep c b a):=zTY rfl;have HAN:Hid (∀k,k<c.length→(zAU c (dfL b a) k).tmod (Fin.det c.length c)=0):=zTY (fun k hk=>(zDx.1 hall k hk).2);clear hall;generalize hn:c.length=n at *;have HN:=zTY hn;clear hn;go_enter Tryz.func40,Tryz.ntmps40
 go_wp2_with fail
 obtain ⟨w1,hw1⟩:∃w1,w1=w.alloc (.cells #[] 3):=⟨_,rfl⟩;obtain ⟨f1,b1⟩:=zAO (Below.refl _ w) hw1;rw [<-hw1];clear hw1;rw [<-HD0.out] at f1;go_loopw [8,15] (fun qq j wr=>∃(k:Nat) (q:Value),q=qq∧k≤n∧j=.int .i64 k∧FI (New w wr) wr q (D k)∧Below w.heap.size w wr) (fun _ j _=>n-(intOf j).toNat)
 case atStart=>exact ⟨0,_,rfl,Nat.zero_le _,rfl,f1,b1⟩
 case round =>
  obtain ⟨k,q,rfl,hk,rfl,hf,hb⟩:=hrel;have hdl:=HDL.out k;by_cases hlt:k<n
  ·obtain ⟨b1,o1,y,rfl,hc0,hy⟩:=h'.at hlt;obtain ⟨b2,o2,x,rfl,hcx0,hx⟩:=h''.at hlt;have l1:=zTc w _ hc0;have l2:=zTc w _ hcx0;have hc:=(hb.cell l1).trans hc0;have hcx:=(hb.cell l2).trans hcx0;have hF:=zTY (fun (k:Nat) hk=>(hf.2 k hk).1);have i1:(k:Int)<(n:Int):=by omega
   have HST:=zTY (HDS2.out k y x hy.out hx.out);have hbx:=HA.out.2.2 x (zTa hx.out);have hby:=HB.out.2.2 y (zTa hy.out);have j1:IntKind.i64.wrap (y-x)=y-x:=IntWalk.i64_in _ (by omega);generalize D k=Dk at *;clear hc0 hcx0;have bbd:Below wr.heap.size wr (wr.alloc (.cells #[.int .i64 (y-x)] 3)).drew:=((Below.refl _ _).alloc (zTd _) _).drew;have hcn:(wr.alloc (.cells #[.int .i64 (y-x)] 3)).drew.cell? ⟨wr.heap.size,0,none⟩=some (.int .i64 (y-x)):=by go_simp
   have hfn:=hf.grow bbd;have hbn:=zAA.step hb bbd;have hln:Dk.length+1≤67108864:=by omega
   go_wp2_with fail
   go_region_held3 (fun w'=>w'.cell? ⟨b1,o1+k,none⟩=some (.int .i64 y)∧w'.cell? ⟨b2,o2+k,none⟩=some (.int .i64 x)) (first | go_keep | (go_split_ands; exact ⟨zAW hgrow (by assumption) l1 hF.out,zAW hgrow (by assumption) l2 hF.out⟩)) ((refine zCF (W:=w) (by rfl) _ _ (by rfl) (by rfl) hfn hbn (by rfl) hcn hln ?_; intro v' w3 f3 b5 hgrow))
   clear j1;go_wp2_with fail
   go_roundw
   case rel=>exact ⟨k+1,_,rfl,by omega,by go_num,by rw [HST.out]; exact f3,b5⟩
   case measure=>simp [intOf]; omega
  ·have hkn:k=n:=by omega
   have i1:¬(k:Int)<(n:Int):=by omega
   rw [hkn,HDn.out] at hf;clear hkn;have hu:=h.below hb;go_wp2_with fail
   refine (zMd (l:=dfL b a) (c:=c) hu hf.reads HF.out.cart hl (by rw [HDS.out.1,HN.out]) HDS.out.2 (zEX HF.out)).mono ?_;rintro e w4 (⟨r4,rfl,f4,hall,b4⟩ | ⟨rfl,hex,b4⟩)
   ·rw [HN.out] at hall f4;have e0:=HAY.out;clear hall;have b04:=zAA.step hb b4;have f4':FI (New w w4) w4 r4 (quos c (dfL b a) (Fin.det n c) n):=f4.mono (fun x hx=>⟨Nat.le_trans hb.size hx.1,hx.2⟩);have HQL:=zTY (zE4 c (dfL b a) (Fin.det n c) n);have HQD:=HDP;generalize quos c (dfL b a) (Fin.det n c) n=Q at *;have E0:=zTY e0;clear e0;go_wp2_with fail
    refine (zEZ f4.reads (by rw [HQL.out]; omega)).mono ?_;rintro e w5 ⟨rfl,rfl⟩;rw [E0.out];go_wp2_with fail
    go_ret2
    exact ⟨_,rfl,by rw [<-HQD.out]; exact f4',b04⟩
   ·rw [HN.out] at hex;obtain ⟨k',hk',hx'⟩:=hex;exact absurd (HAN.out k' hk') hx'
open Go.Maps (Keyed)
def CntD (n:Nat) (K:List Wtd) (D:DataW Value):Prop:=∀a:List Int,a.length=n→InI a→D.atKey (zBi a) (.held (.int .i64 0))=.held (.int .i64 (zAY a K))
def MapR (mb n:Nat) (K:List Wtd) (w:World):Prop:=∃D m,m≤K.length∧w.ownsMap Tryz.prog 58 RD mb m D∧CntD n K D
theorem MapR.keep {mb n:Nat} {K:List Wtd} {w w':World} (h:MapR mb n K w) (k:mb<w.heap.size→w'.heap[mb]? = w.heap[mb]?):MapR mb n K w':=by
 obtain ⟨D,m,h2,h3,h4⟩:=h;refine ⟨D,m,h2,?_,h4⟩;obtain ⟨es,clock,hb,r⟩:=h3;exact ⟨es,clock,by rw [k (Array.getElem?_eq_some_iff.1 hb).1]; exact hb,r⟩
theorem MapR.below {mb n:Nat} {K:List Wtd} {w w':World} (h:MapR mb n K w) (b:Below w.heap.size w w'):MapR mb n K w':=h.keep fun hl=>b.block mb hl
abbrev aCn (mb n:Nat) (K:List Wtd):zAG:=fun F w=>F mb∧MapR mb n K w
theorem zNJ (mb n:Nat) (K:List Wtd):zAg (aCn mb n K):=fun F w w' h k=>⟨h.1,h.2.keep fun hl=>k mb h.1 hl⟩
theorem zEm {K:List Wtd} {a p:List Int} {x:Int} (hp:∀e∈K,e.1≠p):zAY a (K++[(p,x)])=if a=p then x else zAY a K:=by
 induction K with
 | nil =>
  simp only [List.nil_append,zAY];by_cases h:a=p
  ·subst h; simp [eqL]
  ·rw [if_neg h,if_neg (by unfold eqL; simp; exact fun e=>h e.symm)]
 | cons e K ih =>
  simp only [List.cons_append,zAY];rw [ih fun e he=>hp e (List.mem_cons_of_mem _ he)];by_cases h:eqL e.1 a=true
  ·have e1:e.1=a:=by unfold eqL at h; exact of_decide_eq_true h
   rw [if_pos h,if_pos h,if_neg];exact fun e2=>hp e (List.mem_cons_self ..) (e1.trans e2)
  ·rw [if_neg h,if_neg h]
theorem CntD.empty (n:Nat):CntD n [] (.map []):=fun a _ _=>by simp [DataW.atKey,zAY]
theorem CntD.put {n:Nat} {K:List Wtd} {D:DataW Value} {p:List Int} {x:Int} (h:CntD n K D) (hm:Maps.IsMap D) (hk:WideAt.IsKeyLit (zBi p)) (hn:n≤4) (hp:p.length=n) (hpi:InI p) (hpn:∀e∈K,e.1≠p):CntD n (K++[(p,x)]) (D.put (zBi p) (.held (.int .i64 x))):=fun a ha hai=>by
 rw [zEm hpn];by_cases he:zBi a=zBi p
 ·have e:=zIc hai hpi he (by rw [ha,hp]) (by rw [ha]; exact hn);subst e;rw [Maps.atKey_put_same hm hk,if_pos rfl]
 ·rw [Maps.atKey_put_other he,h a ha hai,if_neg];exact fun e=>he (by rw [e])
section
variable {A:Nat→Prop} {w0 w w':World} {Ps:List zAG}
theorem HSx.newCnt (h:HSx A w0 w Ps) (n:Nat) {w1:World} (hw:w1=w.alloc (.map #[] 0)):HSx A w0 w1 (Ps++[aCn w.heap.size n []]):=by
 subst hw;exact h.add ((Below.refl _ _).alloc (zTd _) _) (zNJ _ _ _) (F:=fun b=>b=w.heap.size) ⟨rfl,_,0,zTd _,World.ownsMap_made _ _ _ _,CntD.empty n⟩ (fun b hb=>by subst hb; exact ⟨zTd _,by simp⟩)
section
variable {ops:Array Oper} {rest:List Oper} {o:Oper} {a:Act} {Q:Exit→Act→World→Prop} {mb n:Nat} {K:List Wtd}
theorem zKw (hg:o.guard=none) (mo x:Operand) (hop:o.op=Op.lookup 60 mo x false) (hm:a.eval mo=.map (some mb)) (hM:MapR mb n K w) {p:List Int} (hp:p.length=n) (hpi:InI p) (hx:a.eval x=vec p)
  (k:wpList Tryz.prog ops Q rest (a.put o.dst (.int .i64 (zAY p K))) w):wpList Tryz.prog ops Q (o::rest) a w:=by
 obtain ⟨D,m,_,hown,hD⟩:=hM;refine wpList_plain hg fun K' hK'=>?_;obtain ⟨v,ps,hrun,hv⟩:=hown.lookup zB0 Tryz.underlying60 (z:=.int .i64 0) (by kernel_rfl) (zd:=.held (.int .i64 0)) (zp:=[]) rfl (zBp hpi);rw [hD p hp hpi] at hv;simp only [RD,Option.some.injEq,Prod.mk.injEq,DataW.held.injEq] at hv;obtain ⟨rfl,_⟩:=hv;unfold Oper.wp;simp only [execOp,hop,hm,hx,Sem.run_bind,Sem.run_pure,Result.andThen_ok,hrun];exact hK' _ _ k
theorem zCW (hg:o.guard=none) (mo x:Operand) (hop:o.op=Op.lookup 60 mo x false) (hm:a.eval mo=.map (some mb)) (hM:MapR mb n K w) {p:List Int} (hp:p.length=n) (hpi:InI p) (hx:a.eval x=vec p) {q:Int} (hq:Hid (zAY p K=q))
  (k:wpList Tryz.prog ops Q rest (a.put o.dst (.int .i64 q)) w):wpList Tryz.prog ops Q (o::rest) a w:=zKw hg mo x hop hm hM hp hpi hx (by rw [hq.out]; exact k)
theorem zJC (hg:o.guard=none) (mo x y:Operand) (hop:o.op=Op.insert 60 mo x y) (hm:a.eval mo=.map (some mb)) (h:HSx A w0 w Ps) (i:Nat) (hi:Ps[i]? = some (aCn mb n K)) (hnew:w0.heap.size≤mb) (hn:n≤4) (hlen:K.length<67108864) {p:List Int} (hp:p.length=n) (hpi:InI p) (hpn:Hid (∀e∈K,e.1≠p)) (hx:a.eval x=vec p) {q:Int} (hy:a.eval y=.int .i64 q)
  (k:∀w',HSx A w0 w' (Ps.set i (aCn mb n (K++[(p,q)])))→wpList Tryz.prog ops Q rest (a.put o.dst undef) w'):wpList Tryz.prog ops Q (o::rest) a w:=by
 obtain ⟨F,⟨_,D,m,hmL,hown,hD⟩,_⟩:=HSx.get h i hi;refine wpList_plain hg fun K' hK'=>?_;obtain ⟨w',hrun,ho,hgr⟩:=hown.update (val:=.int .i64 q) (d:=.held (.int .i64 q)) (ps:=[]) zB0 Tryz.underlying60 (by unfold maxLen; omega) (zBp hpi) rfl;have hk:=k w' (h.upd i hi (zNJ _ _ _) (h.bl.grown hgr h.bl.size (fun b hb=>by simp only [Option.some.injEq] at hb; omega)) hgr.size fun F' hF' _=>⟨F',⟨hF'.1,_,m+1,by simp; omega,ho,hD.put hown.isMap (zB0.key (zBp hpi)) hn hp hpi hpn.out⟩,fun b hb=>.inl hb,fun b hl hb=>hgr.block b hl (fun e=>by simp only [Option.some.injEq] at e; subst e; exact hb hF'.1)⟩);unfold Oper.wp;simp only [execOp,hop,hm,hx,hy,Sem.run_bind,Sem.run_pure,Result.andThen_ok,hrun];exact hK' _ _ hk
end
end
end Go.Proofs.YtallmimhfmaapaaGreatDoor
namespace Go.Proofs.YtallmimhfmaapaaGreatDoor
open Go.RowKit
set_option maxRecDepth 20000
set_option maxHeartbeats 8000000
theorem zQn {c:List (List Int)} {v:List Int} (hv:InI v):∀w:List Int,InI (act c w v)
 | []=>hv
 | i::w=>by
  show InI (refl c i.toNat (act c w v));exact zH5 c _ _
theorem zOw {x:List Int} (h:∀y∈x,-900≤y∧y≤900):InI x:=fun y hy=>by have:=h y hy; omega
section
variable {c:List (List Int)} {v u r:List Int} {K:List Wtd}
theorem Frd.num (h:Frd c v K) (hu:u∈dbR c v):u.length=c.length∧∀x∈u,-900≤x∧x≤900:=by
 have hb:=h.bd hu;refine ⟨hb.1,fun x hx=>?_⟩;obtain ⟨i,hi⟩:=List.getElem?_of_mem hx;have hil:=(zTb hi).1;have:=hb.num h.fin (i:=i) (by rw [<-hb.1]; exact hil);rw [zAQ hi] at this;omega
theorem Frd.isWu (h:Frd c v K) (hu:u∈dbR c v):isW c u=true:=by
 obtain ⟨h1,h3⟩:=h.num hu;unfold isW;rw [zAL.2 h.fin.cart,h1];simp only [decide_true,Bool.true_and,Bool.and_true];exact zCq.2 fun x hx=>by have:=h3 x hx; unfold wtB; exact zBX (by omega)
theorem Frd.numv (h:Frd c v K):v.length=c.length∧∀x∈v,0≤x∧x≤4:=by
 refine ⟨h.v4.2,fun x hx=>?_⟩;have:=h.v4.1;unfold sm4 at this;rw [List.all_eq_true] at this;simpa using this x hx
theorem Frd.isWv (h:Frd c v K):isW c v=true:=by
 obtain ⟨h1,h3⟩:=h.numv;unfold isW;rw [zAL.2 h.fin.cart,h1];simp only [decide_true,Bool.true_and,Bool.and_true];exact zCq.2 fun x hx=>by have:=h3 x hx; unfold wtB; exact zBX (by omega)
end
def zBl (b:List Int) (k:Nat):List Int:=((b.take k).map fun x=>x+2)++b.drop k
theorem zIw (b:List Int) (k:Nat):(zBl b k).length=b.length:=by simp [zBl]; omega
theorem zQR {b:List Int} {k:Nat} (hk:k<b.length):(zBl b k)[k]? = b[k]?:=by
 unfold zBl;rw [List.getElem?_append_right (by simp; omega),List.getElem?_drop];congr 1;simp; omega
theorem zNV {b:List Int} {k:Nat} {x:Int} (hx:b[k]? = some x):(zBl b k).set k (x+2)=zBl b (k+1):=by
 obtain ⟨hk,rfl⟩:=zTb hx;unfold zBl;rw [List.set_append_right _ _ (by simp; omega),List.take_add_one,zTZ hk,List.drop_eq_getElem_cons hk];have:k-min k b.length=0:=by omega
 simp only [List.length_map,List.length_take,this,List.set_cons_zero,List.map_append,Option.toList,List.map_cons,List.map_nil,List.append_assoc,List.cons_append,List.nil_append]
def frTo (c:List (List Int)) (K:List Wtd) (d u:List Int) (L:List (List Int)) (i:Nat):Int:=sumL ((L.take i).map fun r=>tStr c K d r u (worR c r) 60 0)
theorem zIa {c:List (List Int)} {K:List Wtd} {d u:List Int} {L:List (List Int)} {i:Nat} {r:List Int} (h:L[i]? = some r):frTo c K d u L (i+1)=frTo c K d u L i+tStr c K d r u (worR c r) 60 0:=by
 unfold frTo;rw [zAE h,List.map_append];exact zDZ _ _
theorem zJg (c:List (List Int)) (K:List Wtd) (d u:List Int) (L:List (List Int)):frTo c K d u L L.length=frT c K d u L:=by simp [frTo,frT]
theorem zIz (x:Int):-9223372036854775808≤wrap64 x∧wrap64 x≤9223372036854775807:=by unfold wrap64; omega
theorem zIy {x:Int} (h:-9223372036854775808≤x∧x≤9223372036854775807):wrap64 x=x:=by unfold wrap64; omega
theorem zMP {x d:Int} (h:-9223372036854775808≤x∧x≤9223372036854775807) (hd:0<d):-9223372036854775808≤x.tdiv d∧x.tdiv d≤9223372036854775807:=by
 rcases Int.le_total 0 x with h0 | h0
 ·have h1:0≤x.tdiv d:=Int.tdiv_nonneg h0 (by omega);have h2:=Int.natAbs_tdiv_le_natAbs x d;omega
 ·have h2:=Int.natAbs_tdiv_le_natAbs x d;have h3:x.tdiv d = -((-x).tdiv d):=by rw [Int.neg_tdiv]; omega
  have h1:0≤(-x).tdiv d:=Int.tdiv_nonneg (by omega) (by omega);omega
theorem zTG {c:List (List Int)} {v u:List Int} {K:List Wtd} (hF:Frd c v K) (hm:u∈dbR c v):(addW v u).length=c.length∧(∀x∈addW v u,-2000≤x∧x≤2000)∧pT (smR c) (dep c v u) (zBl (addW v u) c.length) c.length=frD c (smR c) v u c.length:=by
 have hv:=hF.numv;have hu:=hF.num hm;have hl:(addW v u).length=c.length:=by rw [zDB,hv.1,hu.1]; omega
 have hn:∀i,i<c.length→num (addW v u) i=num v i+num u i:=fun i hi=>by
  rw [zGk (by omega) (by omega)];have e1:=hv.2 _ (zAu hv.1 hi);have e2:=hu.2 _ (zAu hu.1 hi);unfold wrap64; omega
 refine ⟨hl,fun x hx=>?_,?_⟩
 ·obtain ⟨i,hi⟩:=List.getElem?_of_mem hx;have hil:=(zTb hi).1;have e:=hn i (by omega);rw [zAQ hi] at e;have e1:=hv.2 _ (zAu hv.1 (by omega:i<c.length));have e2:=hu.2 _ (zAu hu.1 (by omega:i<c.length));omega
 ·unfold pT frD;refine zIs fun k hk=>?_;have e:num (zBl (addW v u) c.length) k=num v k+num u k+2:=by
   have h1:(addW v u)[k]? = some (num (addW v u) k):=by
    have:k<(addW v u).length:=by omega
    rw [zTZ this];unfold num;rw [zTZ this]; rfl
   have:zBl (addW v u) c.length=(addW v u).map fun x=>x+2:=by unfold zBl; rw [<-hl]; simp
   rw [<-hn k hk,this];show ((List.map (fun x=>x+2) (addW v u))[k]?).getD 0=_;rw [List.getElem?_map,h1];rfl
  rw [e]
theorem zN8 {S S' S'' S3 S4:Nat→Prop} {x1 x2 x3 x4 x5:Value} {mb:Nat} {c:List (List Int)} {v u:List Int} {K:List Wtd} {w:World} (h:RII S w x1 c) (hd:RI S' w x2 (smR c)) (hr:RII S'' w x3 (prR c)) (hv:RI S3 w x4 v) (hu:RI S4 w x5 u) (hM:MapR mb c.length K w)
  (hF:Frd c v K) (hm:u∈dbR c v) (hne:v≠u) (hl:zAC c≤16777216) :
  Calls Tryz.prog 44 #[x1,x2,x3,x4,x5,.map (some mb)] w fun e w'=>e=.returned (.int .i64 (mltF c v K u))∧Below w.heap.size w w':=by
 have hn4:=hF.fin.cart.le;have hM0:mb<w.heap.size:=by
  obtain ⟨D,m,_,⟨es,clock,hb,_⟩,_⟩:=hM;exact (Array.getElem?_eq_some_iff.1 hb).1
 have HF:=zTY hF;have HM:=zTY hm;have HC:=zTY hF.fin.cart;have HCC:=zTY (zAL.2 hF.fin.cart);have HNU:=zTY (hF.num hm);have HPR:Hid (∀r∈prR c,r.length=c.length):=zTY (fun r hr=>(zFk hF.fin hr).1);have HSM:=zTY (zKi hF.fin hF.fb);have HE:Hid (mltF c v K u=(wrap64 (2*frT c K (smR c) u (prR c))).tdiv (frD c (smR c) v u c.length)):=zTY (by unfold mltF; rw [if_neg hne]);have HE2:=zTY (zJg c K (smR c) u (prR c));have HPL:Hid ((prR c).length≤1000):=zTY (by rw [show prR c=zAZ c by unfold prR; rw [hF.fb]; rfl]; have:=zE7 hF.fin.rq hF.fin.cart; omega);have HFD:=zTY (zLp hF hm hne);have HFB:=zTY (zN7 hF hm (zTd c.length))
 have HAX:Hid (∀r∈prR c,∀k,k≤22→addW (xAt u (worR c r) k) (worR c r)=xAt u (worR c r) (k+1)∧(xAt u (worR c r) (k+1)).length=c.length∧zAh c (xAt u (worR c r) (k+1))=true∧(mAt c K u (worR c r) (k+1)≠0→k+1≤22)):=zTY (fun r hr k hk=>⟨zQV hF hm hr hk,(zCH hF hm hr (by omega)).1,zPH hF hm hr (by omega),zMI hF hm hr (by omega)⟩);have HIN:Hid (∀r∈prR c,∀k,k≤22→InI (dmL c (xAt u (worR c r) (k+1)))):=zTY (fun r hr k hk=>zQn (zOw (zCH hF hm hr (by omega)).2.2) _);have HDA:=zTY (zDL hF hm).1;have HWV:=zTY hF.isWv;have HWU:=zTY (hF.isWu hm);have HNV:=zTY hF.numv;have HDL:Hid ((dep c v u).length=c.length):=zTY (by unfold dep; exact zE4 _ _ _ _);have HFF:=zTY hF.fin
 have HTW:Hid ((addW v u).length=c.length∧(∀x∈addW v u,-2000≤x∧x≤2000)∧pT (smR c) (dep c v u) (zBl (addW v u) c.length) c.length=frD c (smR c) v u c.length):=zTY (zTG hF hm);clear hF hm hne;obtain ⟨ar,cr,rfl⟩:=hr.form;go_enter Tryz.func44,Tryz.ntmps44
 go_wp2_with fail
 generalize hT:frTo c K (smR c) u (prR c)=T at *;have HT:=zTY hT;clear hT;generalize hnp:(prR c).length=np at *;have HNP:=zTY hnp;clear hnp;go_loopw [13,27] (fun ss ii wr=>∃i:Nat,i≤np∧ii=.int .i64 i∧ss=.int .i64 (wrap64 (T i))∧Below w.heap.size w wr) (fun _ ii _=>np-(intOf ii).toNat)
 case atStart=>exact ⟨0,Nat.zero_le _,rfl,by rw [show T 0=0 from by rw [<-HT.out]; rfl]; simp [wrap64],Below.refl _ _⟩
 case round =>
  obtain ⟨i,hi,rfl,rfl,hb⟩:=hrel;by_cases hin:i<np
  ·have i1:(i:Int)<(np:Int):=by omega
   obtain ⟨b1,o1,y1,r,rfl,hc1,hy1,hr1⟩:=(hr.below hb).at hin;have hrm:r∈prR c:=zTa hr1.out;have HRM:=zTY hrm;have hrl:=HPR.out r hrm;have HRL:=zTY hrl;have HTS:Hid (T (i+1)=T i+tStr c K (smR c) r u (worR c r) 60 0):=zTY (by rw [<-HT.out]; exact zIa hr1.out);clear hrm hrl hr1;obtain ⟨ay,cy,rfl⟩:=hy1.form;rw [HRL.out] at hy1 hc1;go_wp2_with fail
   refine (zMX (h.below hb) hy1 HCC.out HRL.out hl).mono ?_;rintro e w2 ⟨r2,rfl,f2,b2⟩;have b02:=zAA.step hb b2;go_wp2_with fail
   refine (zEA (hu.below b02) (by rw [HNU.out.1]; omega)).mono ?_;rintro e w3 ⟨r3,rfl,f3,b3⟩;have b03:=zAA.step b02 b3;have hwor:=(f2.below b3).reads;have HX0:Hid (xAt u (worR c r) 0=u):=zTY (zQW (by rw [HNU.out.1,zAx]));rw [<-HX0.out] at f3;have hx3:=f3.any;clear f3 f2;have hy3:=(hy1.below b2).below b3;have hM3:=hM.below b03;generalize hA0:T i=A0 at *;generalize hss:worR c r=s at *;have HSS:=zTY hss;have HA0:=zTY hA0;clear hss hA0;go_wp2_with fail
   go_loopg [13,17] 60 (fun gk ss xx wv=>∃(k:Nat) (A:Int),gk=60-k∧k≤22∧ss=.int .i64 (wrap64 A)∧RI Any wv xx (xAt u s k)∧A+tStr c K (smR c) r u s (60-k) k=A0+tStr c K (smR c) r u s 60 0∧Below w3.heap.size w3 wv)
   case atStart=>exact ⟨0,A0,rfl,by omega,rfl,hx3,rfl,Below.refl _ _⟩
   case round =>
    obtain ⟨k,A,rfl,hk,rfl,hx,hsum,hb3⟩:=hrel;have HSU:=zTY hsum;have hax:=HAX.out r HRM.out k hk;rw [HSS.out] at hax;have HX:=zTY hax;have hb0:=zAA.step b03 hb3;clear hsum hax;go_wp2_with fail
    refine (zEU hx ((hwor.below hb3)) (by rw [zCp HNU.out.1 (by rw [<-HSS.out]; exact zAx c r)]; omega) (by rw [<-HSS.out,zAx]; omega)).mono ?_;rintro e w4 ⟨r4,rfl,f4,b4⟩;rw [HX.out.1] at f4;have b34:=zAA.step hb3 b4;have b04:=zAA.step hb0 b4;have hx4:=f4.any;go_wp2_with fail
    obtain ⟨_,hcc,hcor,hdm⟩:=zBA HX.out.2.2.1;refine (zE5 (h.below b04) hx4 hcc (zDz hcor hcc) hdm).mono ?_;rintro e w5 ⟨r5,r6,rfl,f5,f6,_,b5⟩;have b35:=zAA.step b34 b5;have b05:=zAA.step b04 b5;have hx5:=hx4.below b5;have HDN:Hid ((dmL c (xAt u s (k+1))).length=c.length):=zTY (by unfold dmL; rw [zBv]; exact HX.out.2.1);have HII:Hid (InI (dmL c (xAt u s (k+1)))):=zTY (by have:=HIN.out r HRM.out k hk; rw [HSS.out] at this; exact this);have HMA:Hid (zAY (dmL c (xAt u s (k+1))) K=mAt c K u s (k+1)):=zTY rfl;clear hcc hcor hdm f6 f4;generalize dmL c (xAt u s (k+1))=dm at *;go_wp2_with fail
    refine (zA3 f5.reads (by rw [HDN.out]; omega)).mono ?_;rintro e w6 ⟨rfl,b6⟩;have b36:=zAA.step b35 b6;have b06:=zAA.step b05 b6;have hx6:=hx5.below b6;have hM6:=hM.below b06;have HQ:=zTY (HX.out.2.2.2);by_cases hm0:mAt c K u s (k+1)=0
    ·have HM0:=HMA;rw [hm0] at HM0;have HE0:Hid (A=A0+tStr c K (smR c) r u s 60 0):=zTY (by
      have:=HSU.out;rw [show 60-k=(59-k)+1 by omega,zEI,if_pos hm0] at this;omega)
     go_wp2_with (at_lookup; go_must (refine zCW rfl _ _ rfl rfl hM6 HDN.out HII.out rfl HM0 ?_))
     have hpl:=HPL.out;have hwi:wrap64 ((i:Int)+1)=((i+1:Nat):Int):=by unfold wrap64; omega
     refine ⟨⟨i+1,by omega,by rw [hwi],by rw [HTS.out,<-HE0.out],b06⟩,?_⟩;rw [hwi]; simp only [intOf]; omega
    ·have HE1:Hid (A+mAt c K u s (k+1)*pT (smR c) r (xAt u s (k+1)) c.length+tStr c K (smR c) r u s (60-(k+1)) (k+1)=A0+tStr c K (smR c) r u s 60 0):=zTY (by
      have:=HSU.out;rw [show 60-k=(60-(k+1))+1 by omega,zEI,if_neg hm0] at this;omega)
     have hk2:=HX.out.2.2.2 hm0;have j1:(mAt c K u s (k+1) == 0)=false:=by simp [hm0]
     go_wp2_with (at_lookup; go_must (refine zCW rfl _ _ rfl rfl hM6 HDN.out HII.out rfl HMA ?_))
     refine (zGQ (n:=c.length) (hd.below b06) ((hy3.below b36)) hx6 HSM.out.1 HRL.out HX.out.2.1 (by omega)).mono ?_;rintro e w7 ⟨rfl,m7,rfl⟩;have b37:Below w3.heap.size w3 (w6.drewN m7):=zAA.step b36 (zAS ⟨m7,rfl⟩);have hx7:RI Any (w6.drewN m7) r4 (xAt u s (k+1)):=hx6.drewN m7;have HP:Hid (wrap64 (A+mAt c K u s (k+1)*pT (smR c) r (xAt u s (k+1)) c.length)=wrap64 (wrap64 A+wrap64 (mAt c K u s (k+1)*wrap64 (pT (smR c) r (xAt u s (k+1)) c.length)))):=zTY (by rw [zCn,zCo,zBQ]);generalize mAt c K u s (k+1)=mm at *;generalize pT (smR c) r (xAt u s (k+1)) c.length=pp at *;go_wp2_with fail
     go_roundg (60-(k+1))
     case measure=>omega
     case rel=>exact ⟨k+1,A+mm*pp,rfl,hk2,by rw [HP.out],hx7,HE1.out,b37⟩
  ·have hin2:i=np:=by omega
   have i1:¬(i:Int)<(np:Int):=by omega
   have HTI:Hid (T i=frT c K (smR c) u (prR c)):=zTY (by rw [hin2]; exact HE2.out);clear hin2;generalize T i=t at *;go_wp2_with fail
   refine (zGc (h.below hb) (hv.below hb) (hu.below hb) HFF.out hl HWU.out HWV.out HDA.out).mono ?_;rintro e w2 ⟨r2,rfl,f2,b2⟩;have b02:=zAA.step hb b2;go_wp2_with fail
   refine (zEU (hv.below b02) (hu.below b02) (by rw [HNV.out.1]; omega) (by rw [HNU.out.1]; omega)).mono ?_;rintro e w3 ⟨r3,rfl,f3,b3⟩;have b03:=zAA.step b02 b3;have g2:=f2.below b3;obtain ⟨a3,c3,rfl⟩:=f3.form;rw [HTW.out.1] at f3 ⊢;obtain ⟨g,rfl,hSg,_⟩:=FI.head f3 HC.out.pos;rw [<-show zBl (addW v u) 0=addW v u from by simp [zBl]] at f3;have HHV:=HTW;generalize hB:addW v u=B at *;clear hB;go_wp2_with fail
   go_loopw [72] (fun kk wv=>∃(k:Nat),k≤c.length∧kk=.int .i64 k∧FI (New w2 w3) wv (.slice (some ⟨g,0,none⟩) c.length c3) (zBl B k)∧Only (New w2 w3) w3 wv) (fun kk _=>c.length-(intOf kk).toNat)
   case atStart=>exact ⟨0,Nat.zero_le _,rfl,f3,Only.refl _ _⟩
   case round =>
    rename_i w9
    obtain ⟨k,hk,rfl,hf,ho⟩:=hrel;have hb9:Below w.heap.size w wr:=b03.trans (ho.below (B:=w.heap.size) (fun b hb'=>Nat.le_trans b02.size hb'.1));by_cases hlt:k<c.length
    ·have i2:(k:Int)<(c.length:Int):=by omega
     have hqL:(zBl B k).length=c.length:=(zIw _ _).trans HTW.out.1;obtain ⟨b5,o5,x,e5,hcx,hx⟩:=RI.at hf.any hlt;simp only [Option.some.injEq,Addr.mk.injEq,and_true] at e5;obtain ⟨rfl,rfl⟩:=e5;rw [Nat.zero_add] at hcx;have hx':B[k]? = some x:=by rw [<-zQR (by rw [HTW.out.1]; exact hlt)]; exact hx.out
     have hfr:=hf.froz hqL k;have hst:=hf.put hqL k (x+2);rw [zNV hx'] at hst;have HST:=zTY hst;have hbx:=HTW.out.2.1 x (zTa hx');have HO:=zTY (ho.setCell (j:=k) hSg (.int .i64 (x+2)));have j1:IntKind.i64.wrap (x+2)=x+2:=IntWalk.i64_in _ (by omega);clear hst hx' hx hqL;go_wp2_with fail
     exact ⟨⟨k+1,by omega,by go_num,HST.out,HO.out⟩,by simp [intOf]; omega⟩
    ·have hkn:k=c.length:=by omega
     have i2:¬(k:Int)<(c.length:Int):=by omega
     rw [hkn] at hf;clear hkn;have hg2:=(g2.only ho (fun b h1 h2=>by have a1:=h1.2; have a2:=h2.1; omega)).reads;go_wp2_with fail
     refine (zGQ (n:=c.length) (hd.below hb9) hg2 hf.reads HSM.out.1 HDL.out ((zIw _ _).trans HTW.out.1) (by omega)).mono ?_;rintro e w5 ⟨rfl,m5,rfl⟩;have b95:Below w.heap.size w (wr.drewN m5):=zAA.step hb9 (zAS ⟨m5,rfl⟩);rw [HTW.out.2.2];have HX:Hid (mltF c v K u=(wrap64 (2*t)).tdiv (frD c (smR c) v u c.length)):=zTY (by rw [HE.out,HTI.out]);have HD1:=HFD.out;have HD2:=HFB.out.2;generalize frD c (smR c) v u c.length=D at *;have hDw:wrap64 D=D:=by unfold wrap64; omega
     rw [hDw];clear hDw;go_wp2_with fail
     go_ret
     refine ⟨?_,b95⟩;rw [HX.out,zCo];have e1:=zIz (2*t);have e2:=Int.natAbs_tdiv_le_natAbs (wrap64 (2*t)) D;have e3:wrap64 ((wrap64 (2*t)).tdiv D)=(wrap64 (2*t)).tdiv D:=zIy (zMP e1 HD1);rw [e3]; rfl
end Go.Proofs.YtallmimhfmaapaaGreatDoor
namespace Go.Proofs.YtallmimhfmaapaaGreatDoor
open Go.RowKit
set_option maxRecDepth 20000
set_option maxHeartbeats 8000000
theorem zK3 {S S' S'' S3 S4 S5:Nat→Prop} {x1 x2 x3 x4 x5 x6:Value} {c:List (List Int)} {v u:List Int} {K:List Wtd} {w:World} (h:RII S w x1 c) (hv:RI S3 w x2 v) (hu:RI S4 w x3 u) (hr:RII S'' w x4 (prR c)) (hd:RI S' w x5 (smR c)) (hK:RW S5 w x6 K)
  (hF:Frd c v K) (hm:u∈dbR c v) (hl:zAC c≤16777216) (hKl:zAF K≤16777216) :
  Calls Tryz.prog 33 #[x1,x2,x3,x4,x5,x6] w fun e w'=>e=.returned (.int .i64 (mltF c v K u))∧Below w.heap.size w w':=by
 have mixed:Tryz.prog.follows .mixedOrders=true:=by kernel_rfl
 have hn4:=hF.fin.cart.le;have HF:=zTY hF;have HM:=zTY hm;have HC:=zTY hF.fin.cart;have HCC:=zTY (zAL.2 hF.fin.cart);have HNU:=zTY (hF.num hm);have HNV:=zTY hF.numv;have HPR:Hid (∀r∈prR c,r.length=c.length):=zTY (fun r hr=>(zFk hF.fin hr).1);have HSM:=zTY (zKi hF.fin hF.fb);have HPL:Hid ((prR c).length≤1000):=zTY (by rw [show prR c=zAZ c by unfold prR; rw [hF.fb]; rfl]; have:=zE7 hF.fin.rq hF.fin.cart; omega);have HE1:Hid (v=u→mltF c v K u=1):=zTY (fun e=>by unfold mltF; rw [if_pos e]);have HE:Hid (v≠u→mltF c v K u=(wrap64 (2*frT c K (smR c) u (prR c))).tdiv (frD c (smR c) v u c.length)):=zTY (fun hne=>by unfold mltF; rw [if_neg hne]);have HE2:=zTY (zJg c K (smR c) u (prR c));have HFD:=zTY (fun hne=>zLp hF hm hne);have HFB:=zTY (zN7 hF hm (zTd c.length))
 have HAX:Hid (∀r∈prR c,∀k:Nat,k≤22→addK ((k:Int)+1) u (worR c r)=xAt u (worR c r) (k+1)∧(xAt u (worR c r) (k+1)).length=c.length∧zAh c (xAt u (worR c r) (k+1))=true∧(mAt c K u (worR c r) (k+1)≠0→k+1≤22)):=zTY (fun r hr k hk=>⟨by have:=zQU hF hm hr (k:=k+1) (by omega); push_cast at this; exact this,(zCH hF hm hr (by omega)).1,zPH hF hm hr (by omega),zMI hF hm hr (by omega)⟩);have HFF:=zTY hF.fin;have HDL:Hid ((dep c v u).length=c.length):=zTY (by unfold dep; exact zE4 _ _ _ _);generalize hres:mltF c v K u=res at *;clear hres hF hm;obtain ⟨ar,cr,rfl⟩:=hr.form;obtain ⟨av,cv,rfl⟩:=hv.form;obtain ⟨au,cu,rfl⟩:=hu.form;obtain ⟨ac,cc,rfl⟩:=h.form;obtain ⟨ad,cd,rfl⟩:=hd.form;rw [HNV.out.1] at hv ⊢;rw [HNU.out.1] at hu ⊢;rw [HSM.out.1] at hd ⊢;go_enter Tryz.func33,Tryz.ntmps33
 go_wp2_with fail
 refine (zCL hv hu (by rw [HNV.out.1]; omega) (by rw [HNU.out.1]; omega)).mono ?_;rintro e w0 ⟨rfl,m0,rfl⟩;have b00:Below w.heap.size w (w.drewN m0):=zAS ⟨m0,rfl⟩;by_cases hvu:v=u
 ·have e1:eqL v u=true:=by unfold eqL; exact decide_eq_true hvu
  have HR:=zTY (HE1.out hvu);rw [e1];clear hvu;go_wp2_with fail
  go_ret
  exact ⟨by rw [HR.out]; rfl,b00⟩
 have e1:eqL v u=false:=by unfold eqL; exact decide_eq_false hvu
 have HR:=zTY (HE.out hvu);have HD0:=zTY (HFD.out hvu);rw [e1];clear hvu e1 HE1 HE HFD;generalize hT:frTo c K (smR c) u (prR c)=T at *;have HT:=zTY hT;clear hT;generalize hnp:(prR c).length=np at *;have HNP:=zTY hnp;clear hnp;generalize hw1:w.drewN m0=w1 at *;clear hw1;go_wp2_with fail
 go_loopw [13,14] (fun ss ii wr=>∃i:Nat,i≤np∧ii=.int .i64 i∧ss=.int .i64 (wrap64 (2*T i))∧Below w.heap.size w wr) (fun _ ii _=>np-(intOf ii).toNat)
 case atStart=>exact ⟨0,Nat.zero_le _,rfl,by rw [show T 0=0 from by rw [<-HT.out]; rfl]; simp [wrap64],b00⟩
 case round =>
  obtain ⟨i,hi,rfl,rfl,hb⟩:=hrel;by_cases hin:i<np
  ·have i1:(i:Int)<(np:Int):=by omega
   obtain ⟨b1,o1,y1,r,rfl,hc1,hy1,hr1⟩:=(hr.below hb).at hin;have hrm:r∈prR c:=zTa hr1.out;have HRM:=zTY hrm;have hrl:=HPR.out r hrm;have HRL:=zTY hrl;have HTS:Hid (T (i+1)=T i+tStr c K (smR c) r u (worR c r) 60 0):=zTY (by rw [<-HT.out]; exact zIa hr1.out);clear hrm hrl hr1;obtain ⟨ay,cy,rfl⟩:=hy1.form;rw [HRL.out] at hy1 hc1;go_wp2_with fail
   refine (zMY (h.below hb) hy1 HCC.out HRL.out hl).mono ?_;rintro e w2 ⟨r2,rfl,f2,b2⟩;have b02:=zAA.step hb b2;have hwor:=f2.any;have hy2:=hy1.below b2;have l1:=zTc wr _ hc1;have hc2:=(b2.cell l1).trans hc1;clear f2 hy1 hc1;generalize hA0:T i=A0 at *;generalize hss:worR c r=s at *;have HSS:=zTY hss;have HA0:=zTY hA0;clear hss hA0;go_wp2_with fail
   go_loopg [13,16] 60 (fun gk ss xx wv=>∃(k:Nat) (A:Int),gk=60-k∧k≤22∧ss=.int .i64 (wrap64 (2*A))∧xx=.int .i64 ((k:Int)+1)∧A+tStr c K (smR c) r u s (60-k) k=A0+tStr c K (smR c) r u s 60 0∧Below w2.heap.size w2 wv)
   case atStart=>exact ⟨0,A0,rfl,by omega,rfl,rfl,rfl,Below.refl _ _⟩
   case round =>
    obtain ⟨k,A,rfl,hk,rfl,rfl,hsum,hb2⟩:=hrel;have HSU:=zTY hsum;have hax:=HAX.out r HRM.out k hk;rw [HSS.out] at hax;have HX:=zTY hax;have hb0:=zAA.step b02 hb2;have i2:(k:Int)+1≤60:=by omega
    clear hsum hax;have HSL:Hid (s.length=c.length):=zTY (by rw [<-HSS.out]; exact zAx c r);go_wp2_with fail
    refine (zIF ((k:Int)+1) (hu.below hb0) (hwor.below hb2) (by rw [HNU.out.1]; omega) (by rw [HSL.out]; omega) (by rw [HNU.out.1,HSL.out]; exact zTd _)).mono ?_;rintro e w4 ⟨r4,rfl,f4,b4⟩;rw [HX.out.1] at f4;have b24:=zAA.step hb2 b4;have b04:=zAA.step hb0 b4;have hx4:=f4.any;go_wp2_with fail
    refine (zCt (h.below b04) hx4 hl (by rw [HX.out.2.1]; omega)).mono ?_;rintro e w5 ⟨r5,r6,rfl,f5,_,_,b5⟩;have HDM:Hid (dom1 c (xAt u s (k+1))=dmL c (xAt u s (k+1))):=zTY (by unfold dom1; rw [if_pos HX.out.2.2.1]);rw [HDM.out] at f5;have b25:=zAA.step b24 b5;have b05:=zAA.step b04 b5;have hx5:=hx4.below b5;have HDN:Hid ((dmL c (xAt u s (k+1))).length=c.length):=zTY (by unfold dmL; rw [zBv]; exact HX.out.2.1);have HMA:Hid (zAY (dmL c (xAt u s (k+1))) K=mAt c K u s (k+1)):=zTY rfl;generalize dmL c (xAt u s (k+1))=dm at *;clear f4;go_wp2_with fail
    refine (zGG (hK.below b05) f5.reads hKl (by rw [HDN.out]; omega)).mono ?_;rintro e w6 ⟨rfl,m6,hw6⟩;have b6:Below w5.heap.size w5 w6:=zAS ⟨m6,hw6⟩;clear hw6;rw [HMA.out];have b26:=zAA.step b25 b6;have b06:=zAA.step b05 b6;have hx6:=hx5.below b6;have HE0:Hid (mAt c K u s (k+1)=0→A=A0+tStr c K (smR c) r u s 60 0):=zTY (fun hm0=>by
     have:=HSU.out;rw [show 60-k=(59-k)+1 by omega,zEI,if_pos hm0] at this;omega)
    have HE1:Hid (mAt c K u s (k+1)≠0→A+mAt c K u s (k+1)*pT (smR c) r (xAt u s (k+1)) c.length+tStr c K (smR c) r u s (60-(k+1)) (k+1)=A0+tStr c K (smR c) r u s 60 0):=zTY (fun hm0=>by
     have:=HSU.out;rw [show 60-k=(60-(k+1))+1 by omega,zEI,if_neg hm0] at this;omega)
    have HK2:=zTY HX.out.2.2.2;have HXL:=zTY HX.out.2.1;clear HX HMA HDM HSU;generalize mAt c K u s (k+1)=mm at *;by_cases hm0:mm=0
    ·have HE2':=zTY (HE0.out hm0);clear HE0 HE1 HK2;subst hm0;have hpl:=HPL.out;have hwi:wrap64 ((i:Int)+1)=((i+1:Nat):Int):=by unfold wrap64; omega
     go_wp2_with fail
     refine ⟨⟨i+1,by omega,by first | rw [hwi] | rfl,by rw [HTS.out,<-HE2'.out],b06⟩,?_⟩;simp only [intOf]; omega
    ·have HEE:=zTY (HE1.out hm0);have hk2:=HK2.out hm0;have j1:(mm == 0)=false:=by simp [hm0]
     clear HE0 HE1 HK2 hm0;generalize hX:xAt u s (k+1)=X at *;have HXX:=zTY hX;clear hX;obtain ⟨a4,c4,rfl⟩:=hx6.form;rw [HXL.out] at hx6 hx5 hx4 ⊢;have HST:Hid (∀q y1 y2 y3,r[q]? = some y1→(smR c)[q]? = some y2→X[q]? = some y3→wrap64 (wrap64 (2*(A+mm*pT (smR c) r X q))+wrap64 (wrap64 (wrap64 (wrap64 (2*mm)*y1)*y2)*y3))=wrap64 (2*(A+mm*pT (smR c) r X (q+1)))):=zTY (fun q y1 y2 y3 h1 h2 h3=>by
      rw [zCP (2*mm) y1,zCP (2*mm*y1) y2,zCP (2*mm*y1*y2) y3,zCn,zBQ];show _=wrap64 (2*(A+mm*(pT (smR c) r X q+num r q*num (smR c) q*num X q)));rw [zAQ h1,zAQ h2,zAQ h3];congr 1;simp only [Int.mul_add,Int.mul_assoc,Int.add_assoc])
     have HPX:Hid (pT (smR c) r X 0=0):=zTY rfl;generalize hP:pT (smR c) r X=P at *;clear hP;have l2:=zTc w2 _ hc2;have HEP:=zTY (show ∃B,B=A+mm*P c.length from ⟨_,rfl⟩);generalize hw6:w6=w7 at *;clear hw6;go_wp2_with fail
     go_loopw [13,22] (fun ss qq wv=>∃q:Nat,q≤c.length∧qq=.int .i64 q∧ss=.int .i64 (wrap64 (2*(A+mm*P q)))∧Below w7.heap.size w7 wv) (fun _ qq _=>c.length-(intOf qq).toNat)
     case atStart=>exact ⟨0,Nat.zero_le _,rfl,by rw [HPX.out,Int.mul_zero,Int.add_zero],Below.refl _ _⟩
     case round =>
      rename_i w8
      obtain ⟨q,hq,rfl,rfl,hb7⟩:=hrel;have b27:=zAA.step b26 hb7;have b07:=zAA.step b06 hb7;by_cases hqn:q<c.length
      ·have i3:(q:Int)<(c.length:Int):=by omega
       obtain ⟨g1,p1,z1,e1,hz1,hzr⟩:=RI.at (hy2.below b27) hqn;obtain ⟨g2,p2,z2,e2,hz2,hzd⟩:=RI.at (hd.below b07) hqn;obtain ⟨g3,p3,z3,e3,hz3,hzx⟩:=RI.at (hx6.below hb7) hqn;subst e1 e2 e3;have hc7:=(b27.cell l2).trans hc2;have HN:=zTY (HST.out q z1 z2 z3 hzr.out hzd.out hzx.out);clear hzr hzd hzx;go_wp2_with fail
       go_big_region_o
       go_wp2_with fail
       go_roundw
       case rel=>exact ⟨q+1,by omega,by go_num,by rw [HN.out],hb7.drew⟩
       case measure=>simp [intOf]; omega
      ·have hq2:q=c.length:=by omega
       have i3:¬(q:Int)<(c.length:Int):=by omega
       rw [hq2];clear hq2;go_wp2_with fail
       go_roundg (60-(k+1))
       case measure=>omega
       case rel=>exact ⟨k+1,A+mm*P c.length,rfl,hk2,rfl,rfl,HEE.out,b27⟩
  ·have hin2:i=np:=by omega
   have i1:¬(i:Int)<(np:Int):=by omega
   have HTI:Hid (T i=frT c K (smR c) u (prR c)):=zTY (by rw [hin2]; exact HE2.out);clear hin2;generalize T i=t at *;go_wp2_with fail
   refine (zFR (h.below hb) (hv.below hb) (hu.below hb) HFF.out hl HNV.out.1 HNU.out.1 (fun x hx=>by have:=HNV.out.2 x hx; omega) HNU.out.2).mono ?_;rintro e w2 ⟨r2,rfl,f2,b2⟩;have b02:=zAA.step hb b2;obtain ⟨a2,c2,rfl⟩:=f2.form;rw [HDL.out] at f2 ⊢;have hx2:=f2.any;clear f2;have HST:Hid (∀q y1 y2 y3 y4,(dep c v u)[q]? = some y1→(smR c)[q]? = some y2→v[q]? = some y3→u[q]? = some y4→wrap64 (wrap64 (frD c (smR c) v u q)+wrap64 (wrap64 (y1*y2)*wrap64 (wrap64 (y3+y4)+2)))=wrap64 (frD c (smR c) v u (q+1))):=zTY (fun q y1 y2 y3 y4 h1 h2 h3 h4=>by
    rw [zCn,zBQ,<-zBQ,zCP,zCo,<-zCo,zCn (y3+y4) 2,zCo,zBQ];show _=wrap64 (frD c (smR c) v u q+num (dep c v u) q*num (smR c) q*(num v q+num u q+2));rw [zAQ h1,zAQ h2,zAQ h3,zAQ h4])
   have HD00:Hid (frD c (smR c) v u 0=0):=zTY rfl;have HFB2:=HFB.out.2;have HD1:=HD0.out;generalize hD:frD c (smR c) v u=D at *;generalize dep c v u=dp at *;clear hD;go_wp2_with fail
   generalize hw2:w2=w7 at *;clear hw2;go_loopw [24,25] (fun ss qq wv=>∃q:Nat,q≤c.length∧qq=.int .i64 q∧ss=.int .i64 (wrap64 (D q))∧Below w7.heap.size w7 wv) (fun _ qq _=>c.length-(intOf qq).toNat)
   case atStart=>exact ⟨0,Nat.zero_le _,rfl,by rw [HD00.out]; simp [wrap64],Below.refl _ _⟩
   case round =>
    rename_i w8
    obtain ⟨q,hq,rfl,rfl,hb7⟩:=hrel;have b07:=zAA.step b02 hb7;by_cases hqn:q<c.length
    ·have i3:(q:Int)<(c.length:Int):=by omega
     obtain ⟨g1,p1,z1,e1,hz1,hzr⟩:=RI.at (hx2.below hb7) hqn;obtain ⟨g2,p2,z2,e2,hz2,hzd⟩:=RI.at (hd.below b07) hqn;obtain ⟨g3,p3,z3,e3,hz3,hzx⟩:=RI.at (hv.below b07) hqn;obtain ⟨g4,p4,z4,e4,hz4,hzy⟩:=RI.at (hu.below b07) hqn;subst e1 e2 e3 e4;have HN:=zTY (HST.out q z1 z2 z3 z4 hzr.out hzd.out hzx.out hzy.out);clear hzr hzd hzx hzy;go_wp2_with fail
     go_big_region_o
     go_wp2_with fail
     go_roundw
     case rel=>exact ⟨q+1,by omega,by go_num,by rw [HN.out],hb7.drew⟩
     case measure=>simp [intOf]; omega
    ·have hq2:q=c.length:=by omega
     have i3:¬(q:Int)<(c.length:Int):=by omega
     rw [hq2];clear hq2;generalize D c.length=d9 at *;have hDw:wrap64 d9=d9:=by unfold wrap64; omega
     rw [hDw];clear hDw;have HRX:Hid (res=(wrap64 (2*t)).tdiv d9):=zTY (by rw [HR.out,HTI.out]);go_wp2_with fail
     go_ret
     refine ⟨?_,b07⟩;rw [HRX.out];have e1:=zIz (2*t);have e3:wrap64 ((wrap64 (2*t)).tdiv d9)=(wrap64 (2*t)).tdiv d9:=zIy (zMP e1 HD1);rw [e3]; rfl
theorem zLy {f:Nat→Nat}:∀{n k:Nat},k<n→f k≤sumN f n
 | 0,_,h=>by omega
 | n+1,k,h=>by
  simp only [sumN];rcases Nat.lt_or_ge k n with h1 | h1
  ·have:=zLy (f:=f) h1; omega
  ·obtain rfl:k=n:=by omega
   omega
theorem zG9 {c:List (List Int)} {v u:List Int} {K:List Wtd} (h:Frd c v K) (hu:u∈dbR c v):SmI 100000 (dep c v u)∧(dep c v u).length=c.length:=by
 obtain ⟨_,m,e,hs,_,_⟩:=zDL h hu;refine ⟨fun x hx=>?_,by rw [e]; simp⟩;rw [e] at hx;obtain ⟨k,hk,rfl⟩:=List.mem_map.1 hx;have:=zLy (f:=m) (List.mem_range.1 hk);omega
def Env (c:List (List Int)) (v:List Int) (blk gc gv:Nat) (W:World):Prop :=
 ∃uc uv,W.cell? ⟨gc,0,none⟩=some uc∧W.cell? ⟨gv,0,none⟩=some uv∧RII (Off blk) W uc c∧RI (Off blk) W uv v
def OkE (c:List (List Int)) (v:List Int) (e:Ev):Prop:=e.x∈dbR c v∧e.k=htV c v e.x
theorem zTQ {c:List (List Int)} {v:List Int} {blk gc gv:Nat} (hF:Frd c v []) (hl:zAC c≤16777216) (h1:gc≠blk) (h2:gv≠blk):zC9 blk gc gv (Env c v blk gc gv) (OkE c v):=by
 refine ⟨fun W W' hE hg=>?_,fun W r1 r2 x y hE hx hy hr1 hr2=>?_⟩
 ·obtain ⟨uc,uv,e1,e2,h3,h4⟩:=hE;refine ⟨uc,uv,?_,?_,h3.keep fun b hb hl=>hg.block b hl (by simpa using hb),Off.keepI h4 hg⟩
  ·rw [<-e1];unfold World.cell?;rw [hg.block gc (zTc W _ e1) (by simpa using h1)]
  ·rw [<-e2];unfold World.cell?;rw [hg.block gv (zTc W _ e2) (by simpa using h2)]
 ·obtain ⟨uc,uv,e1,e2,h3,h4⟩:=hE;obtain ⟨hxm,hxk⟩:=hx;obtain ⟨hym,hyk⟩:=hy;have HXS:=zTY (zG9 hF hxm);have HYS:=zTY (zG9 hF hym);have HX:=zTY (zDL hF hxm).1;have HY:=zTY (zDL hF hym).1;have HXK:Hid (htR (dep c v x.x)=x.k):=zTY hxk.symm;have HYK:Hid (htR (dep c v y.x)=y.k):=zTY hyk.symm;have HWV:=zTY hF.isWv;have HWX:=zTY (hF.isWu hxm);have HWY:=zTY (hF.isWu hym);have HFF:=zTY hF.fin;have hn4:=hF.fin.cart.le;have l1:=zTc W _ e1;have l2:=zTc W _ e2;clear hF hxm hym hxk hyk;generalize x.k=xk at *;generalize y.k=yk at *;go_enter Tryz.func39,Tryz.ntmps39
  go_wp2_with fail
  refine (zGc h3 h4 hr1 HFF.out hl HWX.out HWV.out HX.out).mono ?_;rintro e w2 ⟨q2,rfl,f2,b2⟩;have e1':=(b2.cell l1).trans e1;have e2':=(b2.cell l2).trans e2;go_wp2_with fail
  refine (zGc (h3.below b2) (h4.below b2) (hr2.below b2) HFF.out hl HWY.out HWV.out HY.out).mono ?_;rintro e w3 ⟨q3,rfl,f3,b3⟩;have b03:=zAA.step b2 b3;have g2:=(f2.below b3).reads;go_wp2_with fail
  refine (zCk g2 HXS.out.1 (by rw [HXS.out.2]; omega)).mono ?_;rintro e w4 ⟨rfl,m4,rfl⟩;rw [HXK.out];go_wp2_with fail
  refine (zCk (f3.reads.drewN m4) HYS.out.1 (by rw [HYS.out.2]; omega)).mono ?_;rintro e w5 ⟨rfl,m5,rfl⟩;rw [HYK.out];go_wp2_with fail
  refine (zEj _ _ _).mono ?_;rintro e w6 ⟨rfl,rfl⟩;go_wp2_with fail
  go_ret
  exact ⟨rfl,zAA.step b03 (zAS ⟨m4+m5,rfl⟩)⟩
open Go.Maps (Keyed)
open Mrg
def evs (c:List (List Int)) (v:List Int) (Z:Zl):List Ev:=Z.zipIdx.map fun p=>⟨p.1.1,p.1.2,htV c v p.1.2,p.2⟩
section
variable {c:List (List Int)} {v:List Int} {Z:Zl} {M:List Ev}
theorem zFT (i:Nat):(evs c v Z)[i]? = (Z[i]?).map fun x=>⟨x.1,x.2,htV c v x.2,i⟩:=by
 unfold evs;rw [List.getElem?_map,List.getElem?_zipIdx,Option.map_map];congr 1;funext x;simp
theorem zHx (c:List (List Int)) (v:List Int) (Z:Zl):(evs c v Z).length=Z.length:=by simp [evs]
theorem zN2 (c:List (List Int)) (v:List Int) (Z:Zl):zCQ (evs c v Z)=Z.map Prod.fst:=by
 refine List.ext_getElem? fun i=>?_;unfold zCQ;rw [List.getElem?_map,zFT,Option.map_map,List.getElem?_map];rfl
theorem zIZ (c:List (List Int)) (v:List Int) (Z:Zl):(evs c v Z).map (fun e=>(e.r,e.x))=Z:=by
 refine List.ext_getElem? fun i=>?_;rw [List.getElem?_map,zFT,Option.map_map];cases Z[i]? <;> rfl
theorem zDO (c:List (List Int)) (v:List Int) (Z:Zl):zBO 0 (evs c v Z):=fun i e h=>by
 rw [zFT] at h;obtain ⟨x,_,rfl⟩:=Option.map_eq_some_iff.1 h;simp
theorem zN3 (h:∀x∈Z,x.2∈dbR c v):OkV (OkE c v) (evs c v Z):=fun e he=>by
 obtain ⟨i,hi⟩:=List.getElem?_of_mem he;rw [zFT] at hi;obtain ⟨x,hx,rfl⟩:=Option.map_eq_some_iff.1 hi;exact ⟨h x (zTa hx),rfl⟩
theorem zMt (hZ:Z.map Prod.snd=dbR c v) (hp:M.Perm (evs c v Z)) (hs:Srt leV M):M.map Ev.x=mltL c v:=by
 have hk:∀e∈M,e.k=htV c v e.x:=fun e he=>(zN3 (c:=c) (v:=v) (Z:=Z) (fun x hx=>by rw [<-hZ]; exact List.mem_map.2 ⟨x,hx,rfl⟩) e (hp.mem_iff.1 he)).2;have hL:((evs c v Z).map fun e=>(e.x,e.p)).Pairwise fun a b=>a.2<b.2:=by
  rw [List.pairwise_iff_getElem];intro i j hi hj hij;have e1:=zDO c v Z i _ (zTZ (by simpa using hi));have e2:=zDO c v Z j _ (zTZ (by simpa using hj));simp only [List.getElem_map];omega
 have hnd:(M.map Ev.p).Nodup:=by
  refine ((hp.map Ev.p).nodup_iff).2 ?_;rw [List.Nodup,List.pairwise_iff_getElem];intro i j hi hj hij;have e1:=zDO c v Z i _ (zTZ (by simpa using hi));have e2:=zDO c v Z j _ (zTZ (by simpa using hj));simp only [List.getElem_map];omega
 have hT:(M.map fun e=>(e.x,e.p)).Pairwise (Ahd (htV c v)):=by
  rw [List.pairwise_iff_getElem];intro i j hi hj hij;have hi':i<M.length:=by simpa using hi
  have hj':j<M.length:=by simpa using hj
  have h1:=List.pairwise_iff_getElem.1 hs i j hi' hj' hij;have h2:=List.pairwise_iff_getElem.1 hnd i j (by simpa using hi) (by simpa using hj) hij;have k1:=hk _ (List.getElem_mem hi');have k2:=hk _ (List.getElem_mem hj');simp only [List.getElem_map] at h2 ⊢;unfold leV at h1;unfold Ahd;simp only;rw [<-k1,<-k2];omega
 have:=zHg (htV c v) (evs c v Z).length (L:=(evs c v Z).map fun e=>(e.x,e.p)) (T:=M.map fun e=>(e.x,e.p)) (by rw [List.length_map]) hL (hp.map _) hT;rw [List.map_map,List.map_map] at this;have e1:M.map Ev.x=M.map (Prod.fst ∘ fun e=>(e.x,e.p)):=rfl;have e2:(evs c v Z).map (Prod.fst ∘ fun e=>(e.x,e.p))=dbR c v:=by
  rw [<-hZ]
  conv=>rhs; rw [<-zIZ c v Z]
  rw [List.map_map]; rfl
 rw [e1,this,e2,zHx,show Z.length=(dbR c v).length by rw [<-hZ,List.length_map]];rfl
end
theorem zLQ {w w0:World} {A:Nat→Prop} {Ps:List zAG} {K':Act→World→Prop} {o:Oper} {a:Act} {Q:Exit→Act→World→Prop} {mb n:Nat} {K:List Wtd} (h:HSx A w0 w Ps) (i:Nat) (hi:Ps[i]? = some (aCn mb n K)) (hnew:w0.heap.size≤mb) (hn:n≤4) (hlen:K.length<67108864) {p:List Int} (hp:p.length=n) (hpi:InI p) (hpn:Hid (∀e∈K,e.1≠p)) {q:Int}
  (k:∀w',HSx A w0 w' (Ps.set i (aCn mb n (K++[(p,q)])))→K' (a.put o.dst undef) w'):Oper.upon Tryz.prog o a K' Q ((Sem.run Tryz.prog (Instr.mapUpdate 60 (.map (some mb)) (vec p) (.int .i64 q)) w).andThen fun _ w'=>Result.ok Next.skip w'):=by
 obtain ⟨F,⟨_,D,m,hmL,hown,hD⟩,_⟩:=HSx.get h i hi;obtain ⟨w',hrun,ho,hgr⟩:=hown.update (val:=.int .i64 q) (d:=.held (.int .i64 q)) (ps:=[]) zB0 Tryz.underlying60 (by unfold maxLen; omega) (zBp hpi) rfl;have hk:=k w' (h.upd i hi (zNJ _ _ _) (h.bl.grown hgr h.bl.size (fun b hb=>by simp only [Option.some.injEq] at hb; omega)) hgr.size fun F' hF' _=>⟨F',⟨hF'.1,_,m+1,by simp; omega,ho,hD.put hown.isMap (zB0.key (zBp hpi)) hn hp hpi hpn.out⟩,fun b hb=>.inl hb,fun b hl hb=>hgr.block b hl (fun e=>by simp only [Option.some.injEq] at e; subst e; exact hb hF'.1)⟩);rw [hrun];exact hk
end Go.Proofs.YtallmimhfmaapaaGreatDoor
