/- Appending a part of another row of rows; reading weights whose rows are one's own. No condition. -/
import Derived.Test.YtallmimhfmaapaaGreatDoorCGMlB
import Derived.Test.YtallmimhfmaapaaGreatDoorCWsS
import Derived.Test.YtallmimhfmaapaaGreatDoorCGNm
import Derived.Test.YtallmimhfmaapaaGreatDoorCSymI
namespace Go.Proofs.YtallmimhfmaapaaGreatDoor
open Go.RowKit
set_option maxRecDepth 20000
theorem zRB {us:List Value} {m:Nat} (hm:m≤us.length) (h1:∀u∈us,u.oneCell'=true):(us.take m).length=m∧(∀(q:Nat) (r:Value),(us.take m)[q]? = some r→us[0+q]? = some r)∧∀u∈us.take m,u.oneCell'=true:=by
 refine ⟨by rw [List.length_take]; omega,fun q r hq=>?_,fun u hu=>h1 u (List.mem_of_mem_take hu)⟩;rw [List.getElem?_take] at hq;split at hq
 ·rw [Nat.zero_add]; exact hq
 ·cases hq
theorem zRC {us:List Value} {m:Nat} (h1:∀u∈us,u.oneCell'=true):(us.drop m).length=us.length-m∧(∀(q:Nat) (r:Value),(us.drop m)[q]? = some r→us[m+q]? = some r)∧∀u∈us.drop m,u.oneCell'=true:=by
 refine ⟨by rw [List.length_drop],fun q r hq=>?_,fun u hu=>h1 u (List.mem_of_mem_drop hu)⟩;rw [List.getElem?_drop] at hq;exact hq
section
variable {w:World} {ops:Array Oper} {rest:List Oper} {o:Oper} {a:Act} {Q:Exit→Act→World→Prop}
theorem zQT {A:Nat→Prop} {W:World} {K:Act→World→Prop} {Ps:List zAG} (s x:Operand) {t e:TypeId} {z:Value} {bytes:Nat} (ht:Tryz.prog.underlying t=some (.slice e))
  (hinfo:(Tryz.prog.info? e).map (fun i=>(i.zero,i.size,i.bytes))=some (some z,1,bytes)) (hzs:z.cells.size=1) (hby:bytes≤1024)
  (ho:o.op=.call { callee:=.builtin .append,args:=#[s,x],argTypes:=#[t,t] })
  {v:Value} {vs us news:List Value} {g p m N c c':Nat} (hs:a.eval s=v) (h:HSx A W w Ps) (i j:Nat) (hi:Ps[i]? = some (aV e v vs)) (hj:Ps[j]? = some (aV e (.slice (some ⟨g,0,none⟩) N c) us)) (hm:news.length=m) (hnews:∀q r,news[q]? = some r→us[p+q]? = some r) (hnew:∀b,v.ownBlock=some b→W.heap.size≤b)
  (hx:a.eval x=.slice (some ⟨g,p,none⟩) m c') (h1:∀u∈news,u.oneCell'=true) (hlen:vs.length+m≤67108864)
  (k:∀v' w',HSx A W w' (Ps.set i (aV e v' (vs++news)))→(∀b,v'.ownBlock=some b→W.heap.size≤b)→K (a.put o.dst v') w'):o.wp Tryz.prog a w K Q:=by
 obtain ⟨F0,hf,_⟩:=HSx.get h i hi;refine zC8 s x ht hinfo hzs (by decide) ho (base:=0) (news:=news) hs hf.1 (Nat.zero_le _) hx (by omega) ?_ h1 hlen hby ?_
 ·intro q u hq;have:=(h.cellV j hj (hnews q u hq)).1;by_cases hq0:q=0
  ·subst hq0; simpa [Addr.add] using this
  ·simpa [Addr.add,hq0] using this
 ·intro v' w' h2 h3 h4;refine k v' w' (h.upd i hi (st_V _ _ _) (zA1 h.bl h3 hnew) h3.size fun F hF _=>⟨fun b=>v'.ownBlock=some b,⟨?_,fun b hb=>hb⟩,fun b hb=>?_,fun b hl hb=>h3.block b hl (fun e=>hb (hF.2 b e.symm))⟩) (fun b hb=>?_)
  ·rw [List.length_append,hm]; exact h2
  ·rcases h4 b hb with e | e
   ·exact .inl (hF.2 b e)
   ·exact .inr ⟨e,(h2.lt b hb).2⟩
  ·rcases h4 b hb with e | e
   ·exact hnew b e
   ·exact Nat.le_trans h.bl.size e
theorem zDr {A:Nat→Prop} {W:World} {K:Act→World→Prop} {E:Prop} {Ps:List zAG} (hgd:o.guard=none) (s x:Operand)
  (ho:o.op=.call { callee:=.builtin .append,args:=#[s,x],argTypes:=#[22,22] })
  {v:Value} {vs us news:List Value} {g p m N c c':Nat} (hs:a.eval s=v) (h:HSx A W w Ps) (i j:Nat) (hi:Ps[i]? = some (aV 23 v vs)) (hj:Ps[j]? = some (aV 23 (.slice (some ⟨g,0,none⟩) N c) us)) (hm:news.length=m) (hnews:∀q r,news[q]? = some r→us[p+q]? = some r) (hnew:∀b,v.ownBlock=some b→W.heap.size≤b)
  (hx:a.eval x=.slice (some ⟨g,p,none⟩) m c') (h1:∀u∈news,u.oneCell'=true) (hlen:vs.length+m≤67108864)
  (k:∀v' w',HSx A W w' (Ps.set i (aV 23 v' (vs++news)))→(∀b,v'.ownBlock=some b→W.heap.size≤b)→K (a.put o.dst v') w'):if Region.wanted o (yielded ops a.tmps)=true then Oper.wp Tryz.prog o a w K Q else E:=by
 have hw:Region.wanted o (yielded ops a.tmps)=true:=by simp [Region.wanted,hgd]
 rw [if_pos hw];exact zQT s x Tryz.underlying22 zCB rfl (by decide) ho hs h i j hi hj hm hnews hnew hx h1 hlen k
end
section
variable {A:Nat→Prop} {w0 w w1:World} {Ps:List zAG}
theorem HSx.freshV (h:HSx A w0 w Ps) (e:TypeId) (hw:w1=w.alloc (.cells #[] e)):HSx A w0 w1 (Ps++[aV e (.slice (some ⟨w.heap.size,0,none⟩) 0 0) []]):=by
 subst hw;refine h.add ((Below.refl _ _).alloc (zTd _) _) (st_V _ _ _) (F:=fun b=>b=w.heap.size) ⟨?_,fun b hb=>by simpa [Value.ownBlock] using hb.symm⟩ (fun b hb=>by subst hb; exact ⟨zTd _,by simp⟩);exact World.ownsRow_lit (base:=0) (e:=e) (size:=1) w #[] 0 (Nat.zero_le _) (by unfold maxLen; omega) rfl
theorem HSx.noRs (h:HSx A w0 w Ps):HSx A w0 w (Ps++[aRs []]):=h.add (Below.refl _ w) (zBy []) (F:=NoB) ⟨fun x hx=>by simp at hx,List.Pairwise.nil⟩ (fun b hb=>hb.elim)
theorem HSx.readW2s {v:Value} {E:El2} {Z:Zl} (h:HSx A w0 w Ps) (i j:Nat) (hij:i≠j) (hi:Ps[i]? = some (aW2 v E)) (hj:Ps[j]? = some (aRs Z)) (hE:∀e∈E,(e.1,e.2.1)∈Z):RW Any w v (E.map Prod.snd):=by
 have h2:∀k,k<Ps.length→k≠j→(Ps.set j (aRr Z))[k]? = Ps[k]?:=fun k _ hk=>List.getElem?_set_ne (Ne.symm hk);have il:=(zTb hi).1;have jl:=(zTb hj).1;exact HSx.readW2 (h.sToR j hj) i j (by rw [h2 i il hij]; exact hi) (List.getElem?_set_self jl) hE
end
end Go.Proofs.YtallmimhfmaapaaGreatDoor
namespace Go.Proofs.YtallmimhfmaapaaGreatDoor
open Go.RowKit
set_option maxRecDepth 20000
set_option maxHeartbeats 8000000
def MlC (c:List (List Int)) (v:List Int) (w:World) (e:Ending) (w':World):Prop:=∃r,e=.returned (.tuple #[r,.bool (mlOk c v)])∧FW (New w w') w' r (mlR c v)∧Below w.heap.size w w'
theorem zS8 {S S':Nat→Prop} {x1 x2:Value} {c:List (List Int)} {v:List Int} {w:World} (h:RII S w x1 c) (hv:RI S' w x2 v) (hl:zAC c≤16777216) (hl':v.length≤16777216) :
  Calls Tryz.prog 13 #[x1,x2] w (MlC c v w):=by
 have mixed:Tryz.prog.follows .mixedOrders=true:=by kernel_rfl
 have HRES:Hid (MlC c v w=fun e w'=>∃r,e=.returned (.tuple #[r,.bool (mlOk c v)])∧FW (New w w') w' r (mlR c v)∧Below w.heap.size w w'):=zTY rfl;rw [HRES.out];have HNO:Hid (mlOk c v=false→mlR c v=[]):=zTY (fun e=>by unfold mlR; rw [e]; rfl);have HOK:Hid (mlOk c v=(dbOk c v && decide (szC c≤200))):=zTY rfl;have HYES:Hid (mlOk c v=true→mlR c v=mltK c v (dbR c v).length):=zTY (fun e=>by unfold mlR; rw [if_pos e]);generalize hok:mlOk c v=ok at *;generalize hres:mlR c v=res at *;clear hok hres;have HFR:Hid (dbOk c v=true→∀k,Frd c v (mltK c v k)):=zTY (fun e k=>zHF e k);go_enter Tryz.func13,Tryz.ntmps13
 go_wp2_with fail
 obtain ⟨w1,hw1⟩:∃w1,w1=w.alloc (.cells #[] 52):=⟨_,rfl⟩;have hs1:HS w w1 _:=HSx.freshW2 (HSx.nil (Below.refl _ w)) hw1;have hs1:=hs1.noRs;rw [<-hw1];clear hw1;have HEMP:Hid (∀w2,HS w w2 [aW2 (.slice (some ⟨w.heap.size,0,none⟩) 0 0) [],aRs []]→FW (New w w2) w2 (.slice (some ⟨w.heap.size,0,none⟩) 0 0) []):=zTY (fun w2 h2=>HS.FW (HSx.shutW2 h2 0 1 (by omega) rfl rfl) 0 rfl);refine (zNt (h.below hs1.bl) (hv.below hs1.bl) hl hl').mono ?_;rintro e w2 ⟨r2,rfl,f2,b2⟩;have hs2:HS w w2 [aW2 (.slice (some ⟨w.heap.size,0,none⟩) 0 0) [],aRs [],aF r2 (dbR c v)]:=HSx.addF hs1 b2 f2;clear hs1 f2 b2;cases hD:dbOk c v
 ·have e0:Hid (ok=false):=zTY (by rw [HOK.out,hD]; rfl);have hfin:=HEMP.out w2 (HSx.pick hs2 [0,1] (by decide));rw [<-HNO.out e0.out] at hfin;have HFIN:=zTY hfin;have HBL:=zTY hs2.bl;clear hfin hD;go_wp2_with fail
  go_ret2
  exact ⟨_,by rw [e0.out]; rfl,HFIN.out,HBL.out⟩
 go_wp2_with fail
 refine (zQB (h.below hs2.bl) hl).mono ?_;rintro e w3 ⟨rfl,b3⟩;have hs3:HS w w3 _:=hs2.below b3;clear hs2 b3;rcases Nat.lt_or_ge 200 (szC c) with hz | hz
 ·have e0:Hid (ok=false):=zTY (by rw [HOK.out,hD,decide_eq_false (by omega)]; rfl);have hfin:=HEMP.out w3 (HSx.pick hs3 [0,1] (by decide));rw [<-HNO.out e0.out] at hfin;have HFIN:=zTY hfin;have HBL:=zTY hs3.bl;have i1:(200:Int)<(szC c:Int):=by omega
  clear hfin hD hz;generalize szC c=z at *;go_wp2_with fail
  go_ret2
  exact ⟨_,by rw [e0.out]; rfl,HFIN.out,HBL.out⟩
 have e0:ok=true:=by rw [HOK.out,hD,decide_eq_true hz]; rfl
 have HR:=zTY (HYES.out e0);have i1:¬(200:Int)<(szC c:Int):=by omega
 have HF:=zTY (HFR.out hD);subst e0;clear HFR HOK HNO HYES hz HEMP;generalize szC c=z at *;go_wp2_with fail
 refine (zDf (h.below hs3.bl) hl).mono ?_;rintro e w4 ⟨r4,rfl,f4,b4⟩;have hs4:HS w w4 [aW2 (.slice (some ⟨w.heap.size,0,none⟩) 0 0) [],aRs [],aF r2 (dbR c v),aF r4 (prR c)]:=HSx.addF hs3 b4 f4;clear hs3 f4 b4;go_wp2_with fail
 refine (zSC (h.below hs4.bl) hl).mono ?_;rintro e w5 ⟨r5,rfl,f5,b5⟩;have hs5:HS w w5 [aW2 (.slice (some ⟨w.heap.size,0,none⟩) 0 0) [],aRs [],aF r2 (dbR c v),aF r4 (prR c),aI r5 (smR c)]:=HSx.addI hs4 b5 f5;clear hs4 f5 b5;obtain ⟨Z,hZ,hs6⟩:=HSx.openF hs5 2 rfl;have hs6:HS w w5 [aW2 (.slice (some ⟨w.heap.size,0,none⟩) 0 0) [],aRs [],aV 23 r2 (Z.map Prod.fst),aF r4 (prR c),aI r5 (smR c),aRs Z]:=hs6;clear hs5;have HZ:=zTY hZ;have HKEY:Hid (mltL c v=selN (htV c v) (dbR c v).length (dbR c v)):=zTY rfl;have hzl:Z.length=(dbR c v).length:=by rw [<-hZ,List.length_map]
 have HZL:=zTY hzl;have HLEN:=zTY (zGi c v);have HN200:=zTY (zCR (c:=c) (v:=v)).1;have HSTEP:=zTY (fun k u=>zFd (c:=c) (v:=v) (u:=u) (k:=k));have HKL:=zTY (fun k=>zJ3 (c:=c) (v:=v) (k:=k));have hn4:=(HF.out 0).fin.cart.le;have HTOT:=zTY (zHP c v hn4);clear hZ hzl hD;generalize hN:(dbR c v).length=N at *;have HNN:=zTY hN;clear hN;go_wp2_with fail
 go_loopg [6,13] N (fun gk oo ll wv=>∃(k:Nat) (E:El2) (L:Zl),gk=L.length∧k+L.length=N∧Hid (E.map Prod.snd=mltK c v k)∧Hid ((mltL c v).drop k=selN (htV c v) L.length (L.map Prod.snd))∧Hid (∀x∈L,x∈Z)∧HS w wv [aW2 oo E,aRs (E.map fun e=>(e.1,e.2.1)),aV 23 ll (L.map Prod.fst),aF r4 (prR c),aI r5 (smR c),aRs Z])
 case atStart=>exact ⟨0,[],Z,HZL.out.symm,by rw [HZL.out]; omega,zTY rfl,zTY (by rw [HZ.out,HZL.out]; exact HKEY.out),zTY (fun x hx=>hx),hs6⟩
 case round =>
  obtain ⟨k,E,L,rfl,hkN,HE,HD,HM,hs⟩:=hrel;obtain ⟨⟨al,cl,rfl⟩,hform⟩:=HSx.formV hs 2 rfl;rw [List.length_map] at hs hform ⊢;rcases Nat.eq_zero_or_pos L.length with h0 | h0
  ·have i2:¬(0:Int)<(L.length:Int):=by omega
   have hk:k=N:=by omega
   have hfin:=HS.FW (HSx.shutW2 (HSx.pick hs [0,1] (by decide)) 0 1 (by omega) rfl rfl) 0 rfl;rw [HE.out,hk,<-HR.out] at hfin;have HFIN:=zTY hfin;have HBL:=zTY hs.bl;clear hfin hk;go_wp2_with fail
   go_ret2
   exact ⟨_,rfl,HFIN.out,HBL.out⟩
  ·obtain ⟨g,cp,e1⟩:=hform h0
   injection e1 with e1 _ e2
   subst e1 e2;have i2:(0:Int)<(L.length:Int):=by omega
   obtain ⟨n,hn⟩:∃n,L.length=n+1:=⟨L.length-1,by omega⟩;have HLn:=zTY hn;have HNX:=zTY (zIp (htV c v) (L:=L.map Prod.snd) (n:=n) (by rw [List.length_map,hn]));have HKA:Hid (∀(j:Nat) (p:Value × List Int),L[j]? = some p→zAs (htV c v) (L.map Prod.snd) j=htV c v p.2):=zTY (fun j p hp=>zD4 (by rw [List.getElem?_map,hp]; rfl));have HMS:Hid (∀j,minK (zAs (htV c v) (L.map Prod.snd)) (j+1)=if zAs (htV c v) (L.map Prod.snd) (j+1)<zAs (htV c v) (L.map Prod.snd) (minK (zAs (htV c v) (L.map Prod.snd)) j) then j+1 else minK (zAs (htV c v) (L.map Prod.snd)) j):=zTY (fun j=>rfl);have HML:Hid (∀j,minK (zAs (htV c v) (L.map Prod.snd)) j≤j):=zTY (zEa _);have HM0:Hid (minK (zAs (htV c v) (L.map Prod.snd)) 0=0):=zTY rfl;generalize zAs (htV c v) (L.map Prod.snd)=KEY at *;generalize minK KEY=MIN at *
   have HMEM:Hid (∀x∈L,x.2∈dbR c v):=zTY (fun x hx=>by rw [<-HZ.out]; exact List.mem_map.2 ⟨x,HM.out x hx,rfl⟩);clear hform hn;go_wp2_with fail
   generalize wr=wA at *;go_loopg [14,15] n (fun gk aa ii wv=>∃(j m:Nat),1≤j∧j+gk=n+1∧ii=.int .i64 j∧aa=.int .i64 m∧Hid (m=MIN (j-1))∧Below wA.heap.size wA wv)
   case atStart=>exact ⟨1,0,zTd _,by omega,rfl,rfl,zTY HM0.out.symm,Below.refl _ _⟩
   case round =>
    obtain ⟨j,m,hj1,hjn,rfl,rfl,hm,hb⟩:=hrel;have hs7:HS w wr _:=hs.below hb;by_cases hjl:j<L.length
    ·have i3:(j:Int)<(L.length:Int):=by omega
     have hml:m<L.length:=by have:=HML.out (j-1); have:=hm.out; have:=HLn.out; omega
     have i4:(m:Int)<(L.length:Int):=by omega
     obtain ⟨pj,hpj⟩:∃p,L[j]? = some p:=⟨_,zTZ hjl⟩;obtain ⟨pm,hpm⟩:∃p,L[m]? = some p:=⟨_,zTZ hml⟩;have cj:=(hs7.cellV 2 rfl (j:=j) (r:=pj.1) (by rw [List.getElem?_map,hpj]; rfl)).1;have cm:=(hs7.cellV 2 rfl (j:=m) (r:=pm.1) (by rw [List.getElem?_map,hpm]; rfl)).1;have rj:=hs7.rowS 5 rfl (HM.out _ (zTa hpj));have rm:=hs7.rowS 5 rfl (HM.out _ (zTa hpm));have mj:=HMEM.out _ (zTa hpj);have mm:=HMEM.out _ (zTa hpm);have HKJ:Hid (htR (dep c v pj.2)=KEY j):=zTY (HKA.out j pj hpj).symm;have HKM:Hid (htR (dep c v pm.2)=KEY m):=zTY (HKA.out m pm hpm).symm;have HSJ:=zTY (zG9 (HF.out 0) mj);have HSM:=zTY (zG9 (HF.out 0) mm);have HNJ:=zTY ((HF.out 0).num mj);have HNM:=zTY ((HF.out 0).num mm);have HNV:=zTY (HF.out 0).numv;have HFF:=zTY (HF.out 0).fin;have HNX2:Hid (MIN j=if KEY j<KEY m then j else m):=zTY (by
      have:=HMS.out (j-1);rw [show j-1+1=j by omega,<-hm.out] at this;exact this)
     have l1:=zTc wr _ cj;have hbw:=hs7.bl;clear mj mm hpj hpm hml;generalize KEY j=kj at *;generalize KEY m=km at *;go_wp2_with fail
     go_region_held3 (fun w'=>w'.cell? ⟨g,j,none⟩=some pj.1∧w'.cell? ⟨g,m,none⟩=some pm.1) (first | go_keep | (go_split_ands; exact ⟨(b14.cell l1).trans cj,(b14.cell l1).trans cm⟩) | (go_split_ands; exact ⟨(b13.cell l1).trans cj,(b13.cell l1).trans cm⟩) | (go_split_ands; exact ⟨(b12.cell l1).trans cj,(b12.cell l1).trans cm⟩) | (go_split_ands; exact ⟨(b11.cell l1).trans cj,(b11.cell l1).trans cm⟩)) (first
      | (go_at_call 32; refine (zFR (h.below (zAA.step hbw b12)) (hv.below (zAA.step hbw b12)) (rm.below b12) HFF.out hl HNV.out.1 HNM.out.1 (fun x hx=>by have:=HNV.out.2 x hx; omega) HNM.out.2).mono ?_; rintro e v3 ⟨q3,rfl,f3,b3⟩; have b13:=zAA.step b12 b3)
      | (go_at_call 32; refine (zFR (h.below hbw).drew (hv.below hbw).drew rj.drew HFF.out hl HNV.out.1 HNJ.out.1 (fun x hx=>by have:=HNV.out.2 x hx; omega) HNJ.out.2).mono ?_; rintro e v1 ⟨q1,rfl,f1,b1⟩; have b11:=zAA.step (Below.refl _ wr).drew b1)
      | (go_at_call 31; refine (zCM f3.reads HSM.out.1 (by rw [HSM.out.2]; omega)).mono ?_; rintro e v4 ⟨rfl,hv4⟩; rw [HKM.out]; have b14:=zAA.step b13 (zAS hv4); clear hv4)
      | (go_at_call 31; refine (zCM f1.reads HSJ.out.1 (by rw [HSJ.out.2]; omega)).mono ?_; rintro e v2 ⟨rfl,hv2⟩; rw [HKJ.out]; have b12:=zAA.step b11 (zAS hv2); clear hv2))
     have b14w:Below wA.heap.size wA v4:=zAA.step hb b14;by_cases hlt:kj<km
     ·have HN:Hid (j=MIN (j+1-1)):=zTY (by rw [Nat.add_sub_cancel,HNX2.out,if_pos hlt]);go_wp2_with fail
      have hln:=HLn.out;have h200:=HN200.out;go_roundg (gk-1)
      case measure=>omega
      case rel=>exact ⟨j+1,j,by omega,by omega,by rw [show wrap64 ((j:Int)+1)=((j+1:Nat):Int) from by unfold wrap64; omega],rfl,HN,b14w⟩
     ·have HN:Hid (m=MIN (j+1-1)):=zTY (by rw [Nat.add_sub_cancel,HNX2.out,if_neg hlt]);go_wp2_with fail
      have hln:=HLn.out;have h200:=HN200.out;go_roundg (gk-1)
      case measure=>omega
      case rel=>exact ⟨j+1,m,by omega,by omega,by rw [show wrap64 ((j:Int)+1)=((j+1:Nat):Int) from by unfold wrap64; omega],rfl,HN,b14w⟩
    ·have i3:¬(j:Int)<(L.length:Int):=by omega
     have hjn2:j-1=n:=by have:=HLn.out; omega
     have hmn:=hm.out;rw [hjn2] at hmn;have hml:m<L.length:=by have:=HML.out n; have:=HLn.out; omega
     have i4:(m:Int)<(L.length:Int):=by omega
     obtain ⟨⟨pr,px⟩,hpm⟩:∃p,L[m]? = some p:=⟨_,zTZ hml⟩;have cm:=(hs7.cellV 2 rfl (j:=m) (r:=pr) (by rw [List.getElem?_map,hpm]; rfl)).1;have rm:=hs7.rowS 5 rfl (HM.out _ (zTa hpm));have mm:=HMEM.out _ (zTa hpm);obtain ⟨ap,cpp,e5⟩:=rm.form;simp only at e5 mm;have HPL:=zTY ((HF.out 0).num mm);rw [HPL.out.1] at e5;subst e5;simp only at rm;have HSEL:Hid (selN (htV c v) L.length (L.map Prod.snd)=px::selN (htV c v) n ((L.eraseIdx m).map Prod.snd)):=zTY (by
      obtain ⟨x,hx,e⟩:=HNX.out;rw [<-hmn,List.getElem?_map,hpm] at hx;cases hx;rw [HLn.out,e,<-hmn,List.eraseIdx_eq_take_drop_succ,List.eraseIdx_eq_take_drop_succ,List.map_append,List.map_take,List.map_drop])
     have HKX:Hid ((mltL c v)[k]? = some px):=zTY (by
      have e:=HD.out;rw [HSEL.out] at e;have:=congrArg (fun l=>l[0]?) e;rw [List.getElem?_drop] at this;simpa using this)
     have HK1:Hid (mltK c v (k+1)=mltK c v k++[(px,mltF c v (mltK c v k) px)]):=zTY (HSTEP.out k px HKX.out);have HD1:Hid ((mltL c v).drop (k+1)=selN (htV c v) (L.eraseIdx m).length ((L.eraseIdx m).map Prod.snd)):=zTY (by
      have e:=HD.out;rw [HSEL.out] at e;rw [show (mltL c v).drop (k+1)=((mltL c v).drop k).drop 1 by rw [List.drop_drop],e,List.drop_one,List.tail_cons];congr 1;rw [List.length_eraseIdx,if_pos hml,HLn.out]; rfl)
     have HM1:Hid (∀x∈L.eraseIdx m,x∈Z):=zTY (fun x hx=>HM.out x (List.mem_of_mem_eraseIdx hx));have hel:E.length≤200:=by
      have h1:=HKL.out k (by rw [HLEN.out]; omega);have h2:=congrArg List.length HE.out;rw [List.length_map,h1] at h2;have:=HN200.out;omega
     have HMM:=zTY mm;have HPM:=zTY hpm;clear mm hpm hmn hjn2;obtain ⟨f1,b1⟩:=zAO (w:=wr) (Below.refl _ wr) rfl;go_wp2_with (at_builtin; go_must (refine zAN (W:=wr) rfl _ _ rfl rfl f1 b1 rfl (rm.below b1) ?_ ?_))
     ·have:=HPL.out.1; simp; omega
     intro v2 wC f2 b2 _;have hs8:HS w wC [aW2 u6 E,aRs (E.map fun e=>(e.1,e.2.1)),aV 23 (.slice (some ⟨g,0,none⟩) L.length cl) (L.map Prod.fst),aF r4 (prR c),aI r5 (smR c),aRs Z,aI v2 px]:=HSx.addI hs7 b2 f2;have hRW:=HSx.readW2s (Z:=E.map fun e=>(e.1,e.2.1)) hs8 0 1 (by omega) rfl rfl (fun e he=>List.mem_map.2 ⟨e,he,rfl⟩);rw [HE.out] at hRW;go_wp2_with fail
     refine (zK3 (h.below hs8.bl) (hv.below hs8.bl) (rm.below b2) (FII.read (HS.F hs8 3 rfl)) (HS.I hs8 4 rfl).reads hRW (HF.out k) HMM.out hl (by have:=HTOT.out k; omega)).mono ?_;rintro e wD ⟨rfl,b3⟩;have hs9:HS w wD _:=HSx.below hs8 b3;generalize mltF c v (mltK c v k) px=q at *;obtain ⟨a2,c2,rfl⟩:=f2.form;have hsA:HS w (wD.alloc (.cells #[.slice a2 px.length c2,.int .i64 q] 52)) _:=HSx.alloc hs9 _;have hq:=HS.newW2 hsA 0 rfl;go_wp2_with (at_builtin; go_must (refine zCT (r:=.slice a2 px.length c2) (q:=q) rfl _ _ rfl px rfl hsA 0 rfl hq rfl (by go_simp) (by go_simp) rfl (by omega) ?_))
     intro v5 wE hsB _;have hsC:HS w wE [aW2 v5 (E++[(.slice a2 px.length c2,(px,q))]),aRs (E.map fun e=>(e.1,e.2.1)),aV 23 (.slice (some ⟨g,0,none⟩) L.length cl) (L.map Prod.fst),aF r4 (prR c),aI r5 (smR c),aRs Z,aI (.slice a2 px.length c2) px]:=hsB;have hsD:=HSx.moreS (Z':=(E++[(Value.slice a2 px.length c2,(px,q))]).map fun e=>(e.1,e.2.1)) hsC 1 6 (by omega) rfl rfl (by rw [List.map_append]; exact List.perm_append_singleton _ _);have hsE:HS w wE [aW2 v5 (E++[(Value.slice a2 px.length c2,(px,q))]),aRs ((E++[(Value.slice a2 px.length c2,(px,q))]).map fun e=>(e.1,e.2.1)),aV 23 (.slice (some ⟨g,0,none⟩) L.length cl) (L.map Prod.fst),aF r4 (prR c),aI r5 (smR c),aRs Z]:=HSx.pick hsD [0,1,2,3,4,5] (by decide)
     have HE1:Hid ((E++[(Value.slice a2 px.length c2,(px,q))]).map Prod.snd=mltK c v (k+1)):=zTY (by rw [List.map_append,HE.out,HK1.out]; rfl);clear hsB hsC hsD hsA hs9 hs8 hRW f2 b3 b2 f1 b1;have hcap:L.length≤cl:=by
      obtain ⟨F,hF,_⟩:=HSx.get hsE 2 rfl;have h1:=hF.1;rw [List.length_map] at h1;exact (zIj h1).1
     generalize hE2:E++[(Value.slice a2 px.length c2,(px,q))]=E2 at *;clear hE2;have HSE:=zTY hsE;have hone:∀u∈L.map Prod.fst,u.oneCell'=true:=fun u hu=>by
      obtain ⟨x,hx,rfl⟩:=List.mem_map.1 hu;obtain ⟨ax,cx,ex⟩:=(hs7.rowS 5 rfl (HM.out x hx)).form;rw [ex]; rfl
     have HM2:=zTY (zRB (us:=L.map Prod.fst) (m:=m) (by rw [List.length_map]; omega) hone);have hm3:=zRC (us:=L.map Prod.fst) (m:=m+1) hone;rw [List.length_map] at hm3;have HM3:=zTY hm3;clear hm3;have HMl:Hid ((L.map Prod.fst).length=L.length):=zTY (List.length_map ..);clear hone;have HM4:Hid ((L.map Prod.fst).take m++(L.map Prod.fst).drop (m+1)=(L.eraseIdx m).map Prod.fst):=zTY (by rw [List.eraseIdx_eq_take_drop_succ,List.map_append,List.map_take,List.map_drop]);have HL200:Hid (L.length≤200):=zTY (by have:=HN200.out; omega);have HLE:Hid ((L.eraseIdx m).length<L.length∧k+1+(L.eraseIdx m).length=N):=zTY (by rw [List.length_eraseIdx,if_pos hml]; omega)
     have hsX:HS w (wE.alloc (.cells #[] 23)).drew [aW2 v5 E2,aRs (E2.map fun e=>(e.1,e.2.1)),aV 23 (.slice (some ⟨g,0,none⟩) L.length cl) (L.map Prod.fst),aF r4 (prR c),aI r5 (smR c),aRs Z,aV 23 (.slice (some ⟨wE.heap.size,0,none⟩) 0 0) []]:=HSx.drew (HSx.freshV hsE 23 rfl);have hqX:=HS.newV hsX 6 rfl;have j1:IntKind.i64.wrap ((m:Int)+1)=(m:Int)+1:=by have:=HL200.out; exact IntWalk.i64_in _ (by omega)
     have j2:((m:Int)+1).toNat=m+1:=by omega
     clear hsE hs7 hs cm;have i5:(0:Int)≤(m:Int)+1:=by omega
     have i6:(m:Int)+1≤(L.length:Int):=by omega
     have i7:(m:Int)≤(m:Int)+1:=by omega
     have i8:m≤L.length:=by omega
     have i9:(m:Int)≤(cl:Int):=by omega
     by_cases hkc:m+1=cl
     ·subst hkc;go_wp2_with fail
      go_region_held3 (fun _=>True) (trivial) (first
       | (refine zDr (W:=w) (by rfl) _ _ (by rfl) (by rfl) hsX 6 2 (by rfl) (by rfl) HM2.out.1 HM2.out.2.1 hqX (by rfl) HM2.out.2.2 (by have:=HL200.out; simp; omega) ?_; intro v7 w7 hsY hqY)
       | (refine zDr (W:=w) (p:=0) (news:=[]) (by rfl) _ _ (by rfl) (by rfl) hsY 6 2 (by rfl) (by rfl) (by rfl) (by intro q r h; simp at h) hqY (by rfl) (by intro u h; simp at h) (by have:=HL200.out; simp; omega) ?_; intro v8 w8 hsV _))
      go_wp2_with fail
      have hln:=HLE.out;have hd:(L.map Prod.fst).drop (m+1)=[]:=List.drop_eq_nil_of_le (by rw [List.length_map]; omega);have hmm:=HM4.out;rw [hd] at hmm;rw [List.nil_append] at hsV;have hsV:HS w w8 [aW2 v5 E2,aRs (E2.map fun e=>(e.1,e.2.1)),aV 23 (.slice (some ⟨g,0,none⟩) L.length (m+1)) (L.map Prod.fst),aF r4 (prR c),aI r5 (smR c),aRs Z,aV 23 v8 ((L.map Prod.fst).take m++[])]:=hsV;rw [hmm] at hsV;go_roundg ((L.eraseIdx m).length)
      case measure=>exact hln.1
      case rel=>exact ⟨k+1,E2,L.eraseIdx m,rfl,hln.2,HE1,HD1,HM1,HSx.pick hsV [0,1,6,3,4,5] (by decide)⟩
     ·have hkc1:m+1<cl:=by omega
      have i10:¬cl=m+1:=by omega
      go_wp2_with fail
      go_region_held3 (fun _=>True) (trivial) (first
       | (refine zDr (W:=w) (by rfl) _ _ (by rfl) (by rfl) hsX 6 2 (by rfl) (by rfl) HM2.out.1 HM2.out.2.1 hqX (by rfl) HM2.out.2.2 (by have:=HL200.out; simp; omega) ?_; intro v7 w7 hsY hqY)
       | (refine zDr (W:=w) (p:=m+1) (by rfl) _ _ (by rfl) (by rfl) hsY 6 2 (by rfl) (by rfl) HM3.out.1 HM3.out.2.1 hqY (by rfl) HM3.out.2.2 (by have:=HL200.out; simp; omega) ?_; intro v8 w8 hsV _))
      go_wp2_with fail
      have hln:=HLE.out;rw [List.nil_append] at hsV;have hsV:HS w w8 [aW2 v5 E2,aRs (E2.map fun e=>(e.1,e.2.1)),aV 23 (.slice (some ⟨g,0,none⟩) L.length cl) (L.map Prod.fst),aF r4 (prR c),aI r5 (smR c),aRs Z,aV 23 v8 ((L.map Prod.fst).take m++(L.map Prod.fst).drop (m+1))]:=hsV;rw [HM4.out] at hsV;go_roundg ((L.eraseIdx m).length)
      case measure=>exact hln.1
      case rel=>exact ⟨k+1,E2,L.eraseIdx m,rfl,hln.2,HE1,HD1,HM1,HSx.pick hsV [0,1,6,3,4,5] (by decide)⟩
theorem zS7 {S S':Nat→Prop} {x1 x2:Value} {c:List (List Int)} {v:List Int} {w:World} (h:RII S w x1 c) (hv:RI S' w x2 v) (hM:HasM w) (hl:zAC c≤16777216) (hl':v.length≤16777216) :
  Calls Tryz.prog 14 #[x1,x2] w (MlC c v w):=by
 have mixed:Tryz.prog.follows .mixedOrders=true:=by kernel_rfl
 have hmm:=@run_makeMap Tryz.prog;have HRES:Hid (MlC c v w=fun e w'=>∃r,e=.returned (.tuple #[r,.bool (mlOk c v)])∧FW (New w w') w' r (mlR c v)∧Below w.heap.size w w'):=zTY rfl;rw [HRES.out];have HNO:Hid (mlOk c v=false→mlR c v=[]):=zTY (fun e=>by unfold mlR; rw [e]; rfl);have HOK:Hid (mlOk c v=(dbOk c v && decide (szC c≤200))):=zTY rfl;have HYES:Hid (mlOk c v=true→mlR c v=mltK c v (dbR c v).length):=zTY (fun e=>by unfold mlR; rw [if_pos e]);generalize hok:mlOk c v=ok at *;generalize hres:mlR c v=res at *;clear hok hres;have HFR:Hid (dbOk c v=true→∀k,Frd c v (mltK c v k)):=zTY (fun e k=>zHF e k);have HTOP:Hid (dbOk c v=true→(mltL c v)[0]? = some v):=zTY (fun e=>zO8 (zHF e 0) e);obtain ⟨ac,cc,rfl⟩:=h.form;obtain ⟨av,cv,rfl⟩:=hv.form;go_enter Tryz.func14,Tryz.ntmps14
 obtain ⟨wB,hwB⟩:∃wB,wB=(w.alloc (.cells #[.slice ac c.length cc] 22)).alloc (.cells #[.slice av v.length cv] 23):=⟨_,rfl⟩;have b0:Below w.heap.size w wB:=by rw [hwB]; exact ((Below.refl _ w).alloc (zTd _) _).alloc (by simp) _
 have c1:wB.cell? ⟨w.heap.size,0,none⟩=some (.slice ac c.length cc):=by rw [hwB]; go_simp
 have c2:wB.cell? ⟨w.heap.size+1,0,none⟩=some (.slice av v.length cv):=by rw [hwB]; go_simp
 have l1:=zTc wB _ c1;have l2:=zTc wB _ c2;have hn1:wB.heap.size=w.heap.size+2:=by rw [hwB]; simp
 go_wp2_with fail
 rw [<-hwB];clear hwB;have hs0:HS wB wB []:=HSx.nil (Below.refl _ _);have HEMP:Hid (∀w1 w2,HS wB w1 []→w2=w1.alloc (.cells #[] 52)→FW (New w w2) w2 (.slice (some ⟨w1.heap.size,0,none⟩) 0 0) []∧Below w.heap.size w w2):=zTY (fun w1 w2 h1 h2=>by
  have h3:=HSx.noRs (HSx.freshW2 h1 h2);exact ⟨(HS.FW (HSx.shutW2 h3 0 1 (by omega) rfl rfl) 0 rfl).mono (fun b hb=>⟨Nat.le_trans b0.size hb.1,hb.2⟩),zAA.step b0 h3.bl⟩)
 refine (zNs (h.below b0) (hv.below b0) hl hl').mono ?_;rintro e w2 ⟨r2,rfl,f2,b2⟩;have hs2:HS wB w2 [aF r2 (dbR c v)]:=HSx.addF hs0 b2 f2;clear hs0 f2 b2;cases hD:dbOk c v
 ·have e0:Hid (ok=false):=zTY (by rw [HOK.out,hD]; rfl);obtain ⟨hfw,hfb⟩:=HEMP.out w2 _ (HSx.pick hs2 [] (by decide)) rfl;rw [<-HNO.out e0.out] at hfw;have HFIN:=zTY hfw;have HBL:=zTY hfb;clear hfw hfb hD;go_wp2_with fail
  go_ret2
  exact ⟨_,by rw [e0.out]; rfl,HFIN.out,HBL.out⟩
 have c1':=(hs2.bl.cell l1).trans c1;go_wp2_with fail
 refine (zQA (h.below (zAA.step b0 hs2.bl)) (hM.below (zAA.step b0 hs2.bl)) hl).mono ?_;rintro e w3 ⟨rfl,b3⟩;have hs3:HS wB w3 _:=hs2.below b3;clear hs2 b3 c1';rcases Nat.lt_or_ge 200 (szC c) with hz | hz
 ·have e0:Hid (ok=false):=zTY (by rw [HOK.out,hD,decide_eq_false (by omega)]; rfl);obtain ⟨hfw,hfb⟩:=HEMP.out w3 _ (HSx.pick hs3 [] (by decide)) rfl;rw [<-HNO.out e0.out] at hfw;have HFIN:=zTY hfw;have HBL:=zTY hfb;have i1:(200:Int)<(szC c:Int):=by omega
  clear hfw hfb hD hz;generalize szC c=z at *;go_wp2_with fail
  go_ret2
  exact ⟨_,by rw [e0.out]; rfl,HFIN.out,HBL.out⟩
 have e0:ok=true:=by rw [HOK.out,hD,decide_eq_true hz]; rfl
 have HR:=zTY (HYES.out e0);have i1:¬(200:Int)<(szC c:Int):=by omega
 have HF:=zTY (HFR.out hD);have HT:=zTY (HTOP.out hD);have HVM:=zTY (zMS hD);subst e0;clear HFR HOK HNO HYES hz HEMP HTOP hD;generalize szC c=z at *;have c1':=(hs3.bl.cell l1).trans c1;go_wp2_with fail
 refine (zSB (h.below (zAA.step b0 hs3.bl)) hl).mono ?_;rintro e w4 ⟨r4,rfl,f4,b4⟩;have hs4:HS wB w4 [aF r2 (dbR c v),aI r4 (smR c)]:=HSx.addI hs3 b4 f4;clear hs3 f4 b4 c1';have c1':=(hs4.bl.cell l1).trans c1;go_wp2_with fail
 refine (zDe (h.below (zAA.step b0 hs4.bl)) hl).mono ?_;rintro e w5 ⟨r5,rfl,f5,b5⟩;have hs5:HS wB w5 [aF r2 (dbR c v),aI r4 (smR c),aF r5 (prR c)]:=HSx.addF hs4 b5 f5;clear hs4 f5 b5 c1';obtain ⟨Z,hZ,hs6⟩:=HSx.openF hs5 0 rfl;have hs6:HS wB w5 [aV 23 r2 (Z.map Prod.fst),aI r4 (smR c),aF r5 (prR c),aRs Z]:=hs6;clear hs5;have hzl:Z.length=(dbR c v).length:=by rw [<-hZ,List.length_map]
 have hN0:0<Z.length:=by rw [hzl]; exact List.length_pos_of_mem HVM.out
 have hform:=(HSx.formV hs6 0 rfl).2;obtain ⟨blk,cap,e2⟩:=hform (by rw [List.length_map]; exact hN0);rw [List.length_map] at e2;subst e2;have hblk:=HS.newV hs6 0 rfl blk rfl;have hn4:=(HF.out 0).fin.cart.le;have hrow:RowV blk Z.length cap w5 (evs c v Z):=by
  obtain ⟨F,hF1,_⟩:=HSx.get hs6 0 rfl;refine ⟨zHx c v Z,by rw [zN2]; have:=hF1.1; rw [List.length_map] at this; exact this,fun e he=>?_⟩;obtain ⟨i,hi⟩:=List.getElem?_of_mem he;rw [zFT] at hi;obtain ⟨x,hx,rfl⟩:=Option.map_eq_some_iff.1 hi;exact (RI.off (hs6.rowS 3 rfl (zTa hx)) (zAo hF1.1 (b:=blk) rfl)).mono (fun b hb=>hb.2)
 have hoff:∀b,Bt 0 w.heap.size b→Off blk b:=fun b hb=>by
  have h1:=hb.2;show b≠blk;omega
 have henv:Env c v blk w.heap.size (w.heap.size+1) w5:=⟨_,_,(hs6.bl.cell l1).trans c1,(hs6.bl.cell l2).trans c2,RL.mono (RII.below h.old (zAA.step b0 hs6.bl)) hoff (fun _ _ k=>RI.mono k hoff),RI.mono (RI.below hv.old (zAA.step b0 hs6.bl)) hoff⟩;have hN200:Z.length≤200:=by rw [hzl]; exact (zCR (c:=c) (v:=v)).1
 have hsort:=zLK (HC:=zTY (zTQ (HF.out 0) hl (by omega) (by omega))) henv hrow (by omega) (zN3 (fun x hx=>by rw [<-hZ]; exact List.mem_map.2 ⟨x,hx,rfl⟩)) (zDO c v Z);have HPOST:Hid (∀(M:List Ev) (w6:World),M.Perm (evs c v Z)→Mrg.Srt leV M→RowV blk Z.length cap w6 M→w5.grownBy w6 (some blk)→∃Y:Zl,Y.length=Z.length∧Y.map Prod.snd=mltL c v∧HS wB w6 [aV 23 (.slice (some ⟨blk,0,none⟩) Z.length cap) (Y.map Prod.fst),aI r4 (smR c),aF r5 (prR c),aRs Y]):=zTY (fun M w6 hp hsr hrw hgr=>by
  refine ⟨M.map fun e=>(e.r,e.x),by rw [List.length_map,hp.length_eq,zHx],by rw [List.map_map]; exact zMt hZ hp hsr,?_⟩;have e1:(M.map fun e=>(e.r,e.x)).map Prod.fst=zCQ M:=by rw [List.map_map]; rfl
  have hs7:HS wB w6 _:=HSx.upd hs6 0 rfl (st_V 23 (.slice (some ⟨blk,0,none⟩) Z.length cap) (zCQ M)) (hs6.bl.grown hgr hs6.bl.size (fun b hb=>by simp only [Option.some.injEq] at hb; omega)) hgr.size fun F hF _=>⟨F,⟨by have:=hrw.2.1; rw [show (zCQ M).length=Z.length by unfold zCQ; rw [List.length_map]; exact hrw.1]; exact this,hF.2⟩,fun _ hb=>.inl hb,fun b hl hb=>hgr.block b hl (fun e=>hb (by simp only [Option.some.injEq] at e; subst e; exact hF.2 b rfl))⟩;have hs8:HS wB w6 [aV 23 (.slice (some ⟨blk,0,none⟩) Z.length cap) (zCQ M),aI r4 (smR c),aF r5 (prR c),aRs Z]:=hs7;rw [e1];exact HSx.permS hs8 3 rfl (by have:=hp.map (fun e=>(e.r,e.x)); rwa [zIZ] at this))
 have HZL:=zTY hzl;have HZ2:=zTY (And.intro hN0 hN200);clear hrow henv hoff hform hs6 hZ hzl hN0 hN200;generalize Z.length=N at *;go_wp2_with fail
 refine hsort.mono ?_;rintro e w6 ⟨rfl,M,hp,hsr,hrw,hgr⟩;obtain ⟨Y,hyl,hyx,hs8⟩:=HPOST.out M w6 hp hsr hrw hgr;have hs9:HS wB (w6.alloc (.map #[] 0)) [aV 23 (.slice (some ⟨blk,0,none⟩) N cap) (Y.map Prod.fst),aI r4 (smR c),aF r5 (prR c),aRs Y,aCn w6.heap.size c.length []]:=HSx.newCnt hs8 c.length rfl;have c2':=(hs9.bl.cell l2).trans c2;have hmb:=hs8.bl.size;have HYX:=zTY hyx;have HYL:=zTY hyl;have HNV:=zTY (HF.out 0).numv;have HNI:Hid (InI v):=zTY (fun x hx=>by have:=HNV.out.2 x hx; omega);clear HPOST hp hsr hrw hgr hsort hyx hyl hs6;go_wp2_with fail
 generalize w6.heap.size=mb at *;refine (zA3 (hv.below (zAA.step b0 hs9.bl)) (by rw [HNV.out.1]; exact hn4)).mono ?_;rintro e w7 ⟨rfl,b7⟩;have hs10:HS wB w7 _:=HSx.below hs9 b7;go_wp2_with (refine zJC rfl _ _ _ rfl rfl hs10 4 rfl hmb hn4 (by simp) HNV.out.1 HNI.out (zTY (by simp)) rfl rfl ?_)
 intro w8 hs11;have hs12:HS wB w8 [aV 23 (.slice (some ⟨blk,0,none⟩) N cap) (Y.map Prod.fst),aI r4 (smR c),aF r5 (prR c),aRs Y,aCn mb c.length [(v,1)]]:=hs11;clear hs8 hs9 hs10 hs11 c2' b7;go_wp2_with fail
 have hs13:HS wB (w8.alloc (.cells #[] 52)) [aV 23 (.slice (some ⟨blk,0,none⟩) N cap) (Y.map Prod.fst),aI r4 (smR c),aF r5 (prR c),aRs Y,aCn mb c.length [(v,1)],aW2 (.slice (some ⟨w8.heap.size,0,none⟩) 0 0) []]:=HSx.freshW2 hs12 rfl;have HLEN:=zTY (zGi c v);have HSTEP:=zTY (fun k u=>zFd (c:=c) (v:=v) (u:=u) (k:=k));have HNEW:=zTY (fun k u=>zPn (c:=c) (v:=v) (u:=u) (k:=k));have HK1:Hid (mltK c v 1=[(v,1)]):=zTY (by
  have:=HSTEP.out 0 v HT.out;rw [this];show []++[(v,mltF c v [] v)]=_;unfold mltF;rw [if_pos rfl]; rfl)
 have HNOD:=zTY (zHQ c v);have HMEM:Hid (∀u,u∈mltL c v→u∈dbR c v):=zTY (fun u hu=>zJ5.1 hu);have HKL:=zTY (fun k=>zJ3 (c:=c) (v:=v) (k:=k));rw [<-HK1.out] at hs13;clear hs12;generalize hw9:w8.alloc (.cells #[] 52)=w9 at *;clear hw9;go_loopw [13,50] (fun oo ii wv=>∃(k:Nat) (E:El2),k≤N∧ii=.int .i64 k∧Hid (E.map Prod.snd=mltK c v k)∧Hid (E.map (fun e=>(e.1,e.2.1))=Y.take k)∧HS wB wv [aV 23 (.slice (some ⟨blk,0,none⟩) N cap) (Y.map Prod.fst),aI r4 (smR c),aF r5 (prR c),aRs Y,aCn mb c.length (mltK c v (max k 1)),aW2 oo E]) (fun _ ii _=>N-(intOf ii).toNat)
 case atStart=>exact ⟨0,[],Nat.zero_le _,rfl,zTY rfl,zTY rfl,hs13⟩
 case round =>
  obtain ⟨k,E,hk,rfl,HE,HY,hs⟩:=hrel;by_cases hkn:k<N
  ·have i2:(k:Int)<(N:Int):=by omega
   obtain ⟨⟨pr,px⟩,hpk⟩:∃p,Y[k]? = some p:=⟨_,zTZ (by rw [HYL.out]; exact hkn)⟩;have cm:=(hs.cellV 0 rfl (j:=k) (r:=pr) (by rw [List.getElem?_map,hpk]; rfl)).1;have rm:=hs.rowS 3 rfl (zTa hpk);have HKX:Hid ((mltL c v)[k]? = some px):=zTY (by rw [<-HYX.out,List.getElem?_map,hpk]; rfl);have mm:=HMEM.out px (zTa HKX.out);have HPL:=zTY ((HF.out 0).num mm);have HPI:Hid (InI px):=zTY (zOw HPL.out.2);obtain ⟨ap,cp,e5⟩:=rm.form;simp only at e5;rw [HPL.out.1] at e5;subst e5;simp only at rm;have HPK:=zTY hpk;have HMM:=zTY mm;clear hpk mm;rcases Nat.eq_zero_or_pos k with h0 | h0
   ·subst h0;have i3:¬(0:Int)<((0:Nat):Int):=by omega
    go_wp2_with fail
    refine (zA3 rm (by rw [HPL.out.1]; exact hn4)).mono ?_;rintro e wF ⟨rfl,bF⟩;have hsF:HS wB wF [aV 23 (.slice (some ⟨blk,0,none⟩) N cap) (Y.map Prod.fst),aI r4 (smR c),aF r5 (prR c),aRs Y,aCn mb c.length (mltK c v (0+1)),aW2 u13 E]:=HSx.below hs bF;obtain ⟨_,⟨_,hMR⟩,_⟩:=HSx.get hsF 4 rfl;have HCW:Hid (zAY px (mltK c v (0+1))=mltF c v (mltK c v 0) px):=zTY (by rw [HSTEP.out 0 px HKX.out,zEm (HNEW.out 0 px HKX.out),if_pos rfl]);have HKE:Hid (mltK c v 0++[(px,mltF c v (mltK c v 0) px)]=mltK c v (0+1)):=zTY (HSTEP.out 0 px HKX.out).symm;have hel:E.length≤200:=by
     have h1:=HKL.out 0 (by rw [HLEN.out,<-HZL.out]; omega);have h2:=congrArg List.length HE.out;rw [List.length_map,h1] at h2;have:=HZ2.out;omega
    generalize mltF c v (mltK c v 0) px=q at *;have hsA:HS wB (wF.alloc (.cells #[.slice ap c.length cp,.int .i64 q] 52)) _:=HSx.alloc hsF _;have hq:=HS.newW2 hsA 5 rfl;go_wp2_with (first | (at_lookup; go_must (refine zCW rfl _ _ rfl rfl hMR HPL.out.1 HPI.out rfl HCW ?_)) | (at_builtin; go_must (refine zCT (r:=.slice ap c.length cp) (q:=q) rfl _ _ rfl px rfl hsA 5 rfl hq rfl (by go_simp) (by go_simp) rfl (by omega) ?_)))
    intro v5 wE hsB _;have hsC:HS wB wE [aV 23 (.slice (some ⟨blk,0,none⟩) N cap) (Y.map Prod.fst),aI r4 (smR c),aF r5 (prR c),aRs Y,aCn mb c.length (mltK c v (0+1)),aW2 v5 (E++[(.slice ap c.length cp,(px,q))])]:=hsB;rw [show 0+1=max (0+1) 1 by omega] at hsC;have HEE:Hid ((E++[(Value.slice ap c.length cp,(px,q))]).map Prod.snd=mltK c v (0+1)):=zTY (by rw [List.map_append,HE.out,<-HKE.out]; rfl);have HYE:Hid ((E++[(Value.slice ap c.length cp,(px,q))]).map (fun e=>(e.1,e.2.1))=Y.take (0+1)):=zTY (by rw [List.map_append,HY.out,zAE HPK.out]; rfl);have hn200:=HZ2.out.2;have hnpos:=HZ2.out.1;clear hsA hsB hsF hMR;go_wp2_with fail
    refine ⟨⟨0+1,_,by omega,by first | rfl | go_num | (simp only [Value.int.injEq,true_and]; unfold wrap64; omega),HEE,HYE,hsC⟩,?_⟩;simp only [intOf];try unfold wrap64
    omega
   ·have i3:(0:Int)<(k:Int):=by omega
    have c1':=(hs.bl.cell l1).trans c1;have c2':=(hs.bl.cell l2).trans c2;have lA:=zTc wr _ c1';have lB:=zTc wr _ c2';rw [Nat.max_eq_left h0] at hs;have HNE:Hid (v≠px):=zTY (fun e=>by
     obtain ⟨z1,e1⟩:=zTb HT.out;obtain ⟨z2,e2⟩:=zTb HKX.out;have:=List.pairwise_iff_getElem.1 HNOD.out 0 k z1 z2 h0;rw [e1,e2] at this;exact this e)
    have HFK:=zTY (HF.out k);have HNW:=zTY (HNEW.out k px HKX.out);have HK2:Hid (mltK c v k++[(px,mltF c v (mltK c v k) px)]=mltK c v (k+1)):=zTY (HSTEP.out k px HKX.out).symm;have HKL2:Hid ((mltK c v k).length<67108864):=zTY (by have:=HKL.out k (by rw [HLEN.out,<-HZL.out]; omega); have:=HZ2.out; omega);go_wp2_with fail
    go_region_held3 (fun w'=>w'.cell? ⟨w.heap.size,0,none⟩=some (.slice ac c.length cc)∧w'.cell? ⟨w.heap.size+1,0,none⟩=some (.slice av v.length cv)) (first | go_keep | (go_split_ands; exact ⟨(hsU.bl.cell l1).trans c1,(hsU.bl.cell l2).trans c2⟩) | (go_split_ands; exact ⟨(hsT.bl.cell l1).trans c1,(hsT.bl.cell l2).trans c2⟩) | (go_split_ands; exact ⟨(hsS.bl.cell l1).trans c1,(hsS.bl.cell l2).trans c2⟩)) (first
     | (go_at_call 43; refine (zA3 rm.drew (by rw [HPL.out.1]; exact hn4)).mono ?_; rintro e y1 ⟨rfl,d1⟩; have hsS:=HSx.below (HSx.drew hs) d1; have rmS:=RI.below rm.drew d1; obtain ⟨_,⟨_,hMS⟩,_⟩:=HSx.get hsS 4 rfl)
     | (go_at_call 44; refine (zN8 (h.below (zAA.step b0 hsS.bl)) (HS.I hsS 1 rfl).reads (FII.read (HS.F hsS 2 rfl)) (hv.below (zAA.step b0 hsS.bl)) rmS hMS HFK.out HMM.out HNE.out hl).mono ?_; rintro e y2 ⟨rfl,d2⟩; have hsT:=HSx.below hsS d2; have rmT:=RI.below rmS d2)
     | (refine zLQ hsT 4 (by rfl) hmb hn4 HKL2.out HPL.out.1 HPI.out HNW ?_; intro y3 hsU))
    have HSV:HS wB y3 [aV 23 (.slice (some ⟨blk,0,none⟩) N cap) (Y.map Prod.fst),aI r4 (smR c),aF r5 (prR c),aRs Y,aCn mb c.length (mltK c v k++[(px,mltF c v (mltK c v k) px)]),aW2 u13 E]:=hsU;rw [HK2.out] at HSV;have rmV:=HSV.rowS 3 rfl (zTa HPK.out);go_wp2_with fail
    refine (zA3 rmV (by rw [HPL.out.1]; exact hn4)).mono ?_;rintro e wF ⟨rfl,bF⟩;have hsF:HS wB wF [aV 23 (.slice (some ⟨blk,0,none⟩) N cap) (Y.map Prod.fst),aI r4 (smR c),aF r5 (prR c),aRs Y,aCn mb c.length (mltK c v (k+1)),aW2 u13 E]:=HSx.below HSV bF;obtain ⟨_,⟨_,hMR⟩,_⟩:=HSx.get hsF 4 rfl;have HCW:Hid (zAY px (mltK c v (k+1))=mltF c v (mltK c v k) px):=zTY (by rw [HSTEP.out k px HKX.out,zEm (HNEW.out k px HKX.out),if_pos rfl]);have HKE:Hid (mltK c v k++[(px,mltF c v (mltK c v k) px)]=mltK c v (k+1)):=zTY (HSTEP.out k px HKX.out).symm;have hel:E.length≤200:=by
     have h1:=HKL.out k (by rw [HLEN.out,<-HZL.out]; omega);have h2:=congrArg List.length HE.out;rw [List.length_map,h1] at h2;have:=HZ2.out;omega
    generalize mltF c v (mltK c v k) px=q at *;have hsA:HS wB (wF.alloc (.cells #[.slice ap c.length cp,.int .i64 q] 52)) _:=HSx.alloc hsF _;have hq:=HS.newW2 hsA 5 rfl;go_wp2_with (first | (at_lookup; go_must (refine zCW rfl _ _ rfl rfl hMR HPL.out.1 HPI.out rfl HCW ?_)) | (at_builtin; go_must (refine zCT (r:=.slice ap c.length cp) (q:=q) rfl _ _ rfl px rfl hsA 5 rfl hq rfl (by go_simp) (by go_simp) rfl (by omega) ?_)))
    intro v5 wE hsB _;have hsC:HS wB wE [aV 23 (.slice (some ⟨blk,0,none⟩) N cap) (Y.map Prod.fst),aI r4 (smR c),aF r5 (prR c),aRs Y,aCn mb c.length (mltK c v (k+1)),aW2 v5 (E++[(.slice ap c.length cp,(px,q))])]:=hsB;rw [show k+1=max (k+1) 1 by omega] at hsC;have HEE:Hid ((E++[(Value.slice ap c.length cp,(px,q))]).map Prod.snd=mltK c v (k+1)):=zTY (by rw [List.map_append,HE.out,<-HKE.out]; rfl);have HYE:Hid ((E++[(Value.slice ap c.length cp,(px,q))]).map (fun e=>(e.1,e.2.1))=Y.take (k+1)):=zTY (by rw [List.map_append,HY.out,zAE HPK.out]; rfl);have hn200:=HZ2.out.2;have hnpos:=HZ2.out.1;clear hsA hsB hsF hMR;go_wp2_with fail
    refine ⟨⟨k+1,_,by omega,by first | rfl | go_num | (simp only [Value.int.injEq,true_and]; unfold wrap64; omega),HEE,HYE,hsC⟩,?_⟩;simp only [intOf];try unfold wrap64
    omega
  ·have hk2:k=N:=by omega
   have i2:¬(k:Int)<(N:Int):=by omega
   have hfin:=HS.FW (HSx.shutW2 (HSx.pick hs [5,3] (by decide)) 0 1 (by omega) rfl (by rw [HY.out,hk2,List.take_of_length_le (by rw [HYL.out]; exact zTd _)]; rfl)) 0 rfl;rw [HE.out,hk2,HZL.out,<-HR.out] at hfin;have HFIN:=zTY (hfin.mono (S':=New w wr) (fun b hb=>⟨Nat.le_trans b0.size hb.1,hb.2⟩));have HBL:=zTY (zAA.step b0 hs.bl);clear hfin hk2;go_wp2_with fail
   go_ret2
   exact ⟨_,rfl,HFIN.out,HBL.out⟩
theorem zRb {S S':Nat→Prop} {x1 x2:Value} {c:List (List Int)} {v:List Int} {w:World} (h:RII S w x1 c) (hv:RI S' w x2 v) (hl:zAC c≤16777216) (hl':v.length≤16777216) :
  Calls Tryz.prog 13 #[x1,x2] w fun e w'=>∃r,e=.returned (.tuple #[r,.bool (mlOk c v)])∧FW (New w w') w' r (mlR c v)∧Below w.heap.size w w':=zS8 h hv hl hl'
theorem zRa {S S':Nat→Prop} {x1 x2:Value} {c:List (List Int)} {v:List Int} {w:World} (h:RII S w x1 c) (hv:RI S' w x2 v) (hl:zAC c≤16777216) (hl':v.length≤16777216) (hM:HasM w) :
  Calls Tryz.prog 14 #[x1,x2] w fun e w'=>∃r,e=.returned (.tuple #[r,.bool (mlOk c v)])∧FW (New w w') w' r (mlR c v)∧Below w.heap.size w w':=zS7 h hv hM hl hl'
end Go.Proofs.YtallmimhfmaapaaGreatDoor
