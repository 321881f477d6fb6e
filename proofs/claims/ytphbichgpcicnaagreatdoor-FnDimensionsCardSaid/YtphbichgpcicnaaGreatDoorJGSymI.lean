/- Numbers that make a matrix symmetric, by the program. Condition: sizes up to 2^24. -/
import Derived.Test.YtphbichgpcicnaaGreatDoorJGSymS
import Derived.Test.YtphbichgpcicnaaGreatDoorJGSrt
namespace Go.Proofs.YtphbichgpcicnaaGreatDoor
open Go.RowKit
set_option maxRecDepth 20000
set_option maxHeartbeats 8000000
def zSY (c:List (List Int)):Bool:=decide ((zAU c).length≤c.length) && (zAU c).all fun p=>decide (p.length≤c.length) && p.all fun j=>decide (j<c.length)
theorem zOX:(Fin.L1++Fin.L2++Fin.L3++Fin.L4).all zSY=true:=by decide +kernel
theorem zHz {c:List (List Int)} (h:FinP c):(zAU c).length≤c.length∧∀p∈zAU c,(∀j∈p,j<c.length)∧p.length≤c.length:=by
 have:=h.all zOX;unfold zSY at this;simp only [Bool.and_eq_true,decide_eq_true_eq,List.all_eq_true] at this;exact ⟨this.1,fun p hp=>⟨(this.2 p hp).2,(this.2 p hp).1⟩⟩
theorem zLV (c:List (List Int)) (p:List Nat):zCp c none p=none:=rfl
theorem zNf (c:List (List Int)) (i j:Nat):zDE c i none j=none:=rfl
theorem zNM (o:List Int) (i:Nat):zEQ o none i=none:=rfl
theorem zNR (g:Int) (i:Nat):zDm g none i=none:=rfl
theorem zJs {c:List (List Int)} {o o':List Int} {p:List Nat} (h:zCp c (some o) p=some o') :
  ∃p0 ps st g,p=p0::ps∧gBfs c 6 0 (o.set p0 36,[p0])=some st∧p.foldl (zEQ st.1) (some 0)=some g∧p.foldl (zDm g) (some st.1)=some o':=by
 unfold zCp at h;cases p with
 | nil=>simp at h
 | cons p0 ps =>
  simp only [List.head?_cons] at h;cases e:gBfs c 6 0 (o.set p0 36,[p0]) with
  | none=>rw [e] at h; cases h
  | some st =>
   rw [e] at h;simp only at h;cases e2:(p0::ps).foldl (zEQ st.1) (some 0) with
   | none=>rw [e2] at h; cases h
   | some g=>rw [e2] at h; exact ⟨p0,ps,st,g,rfl,e,e2,h⟩
theorem zO1 {c:List (List Int)} {f k i:Nat} {st F:Gs} (h:gBfs c f k st=some F) (hi:st.2[k]? = some i) :
  ∃f' st',(nbr c i).foldl (zDE c i) (some st)=some st'∧gBfs c f' (k+1) st'=some F:=by
 have hk:=(zWI hi).1;cases f with
 | zero=>simp only [gBfs] at h; rw [if_neg (by omega)] at h; cases h
 | succ f =>
  simp only [gBfs,hi] at h;cases e:(nbr c i).foldl (zDE c i) (some st) with
  | none=>rw [e] at h; cases h
  | some st'=>rw [e] at h; exact ⟨f,st',rfl,h⟩
theorem zRU {c:List (List Int)} {f k:Nat} {st F:Gs} (h:gBfs c f k st=some F) (hk:st.2.length≤k):st=F:=by
 cases f with
 | zero=>simp only [gBfs] at h; rw [if_pos hk] at h; simpa using h
 | succ f =>
  have:st.2[k]? = none:=List.getElem?_eq_none hk;simp only [gBfs,this] at h;simpa using h
theorem zGy {c:List (List Int)} {i j:Nat} {o:List Int} {q:List Nat} {st':Gs} (h:zDE c i (some (o,q)) j=some st') :
  (num o j≠0∧st'=(o,q))∨(num o j=0∧ent c j i≠0∧(-1000000≤num o i*ent c i j∧num o i*ent c i j≤1000000)∧q.length<5∧st'=(o.set j ((num o i*ent c i j).tdiv (ent c j i)),q++[j])):=by
 simp only [zDE] at h;by_cases c1:num o j=0
 ·rw [if_pos c1] at h;cases e:quoP (num o i) (ent c i j) (ent c j i) with
  | none=>rw [e] at h; cases h
  | some x =>
   rw [e] at h;obtain ⟨d1,d2,d3⟩:=zGK e;simp only at h;by_cases c2:q.length<5
   ·rw [if_pos c2] at h;simp only [Option.some.injEq] at h;exact .inr ⟨c1,d1,d2,c2,by rw [<-h,d3]⟩
   ·rw [if_neg c2] at h; cases h
 ·rw [if_neg c1] at h;simp only [Option.some.injEq] at h;exact .inl ⟨c1,h.symm⟩
theorem zTj (q:List Nat) (x:Nat):iL q++[(x:Int)]=iL (q++[x]):=by simp [iL]
theorem HS.row {w0 w:World} {Ps:List zAF} {a:Option Addr} {n cap:Nat} {L:List (List Int)} (h:HS w0 w Ps) (i:Nat) (hi:Ps[i]? = some (aLL (.slice a n cap) L)) {j:Nat} (hj:j<n) :
  ∃b o r l,a=some ⟨b,o,none⟩∧w.cell? ⟨b,o+j,none⟩=some r∧HS w0 w (Ps.set i (aAnd (aLL (.slice a n cap) L) (aL r l)))∧Hid (L[j]? = some l):=by
 obtain ⟨b,o,r,l,rfl,hc,_,hl⟩:=RII.at (h.LL i hi) hj;refine ⟨b,o,r,l,rfl,hc,h.imp i hi (zVj (zOB _ _) (st_L _ _)) fun F hF=>⟨hF,?_⟩,hl⟩;obtain ⟨b',o',r',l',e,hc',hr',hl'⟩:=RII.at hF hj;simp only [Option.some.injEq,Addr.mk.injEq,and_true] at e;obtain ⟨rfl,rfl⟩:=e;rw [hc] at hc';simp only [Option.some.injEq] at hc';have e2:=hl.out.symm.trans hl'.out;simp only [Option.some.injEq] at e2;rw [hc',e2];exact hr'
theorem zLl {g:Int} {o o':List Int} {i:Nat} (h:zDm g (some o) i=some o'):g≠0∧-1000000≤num o i∧num o i≤1000000∧o'=o.set i ((num o i).tdiv g):=by
 simp only [zDm] at h;cases e:quoP (num o i) 1 g with
 | none=>rw [e] at h; cases h
 | some x =>
  rw [e] at h;obtain ⟨d1,d2,d3⟩:=zGK e;rw [Int.mul_one] at d2 d3;simp only [Option.some.injEq] at h;exact ⟨d1,d2.1,d2.2,by rw [<-h,d3]⟩
structure OkG (n:Nat) (st:Gs):Prop where
 len:st.1.length=n
 lt:∀j∈st.2,j<n
 le:st.2.length≤5
theorem OkG.step {c:List (List Int)} {n i j:Nat} {st st':Gs} (h:OkG n st) (hj:j<n) (e:zDE c i (some st) j=some st'):OkG n st':=by
 obtain ⟨o,q⟩:=st;rcases zGy e with ⟨_,rfl⟩ | ⟨_,_,_,h5,rfl⟩
 ·exact h
 ·exact ⟨by simp [h.len],fun k hk=>by
   rcases List.mem_append.1 hk with hk | hk
   ·exact h.lt k hk
   ·simp at hk; omega,by simp; omega⟩
theorem zIo {S:Nat→Prop} {u:Value} {c:List (List Int)} {w:World} (h:RII S w u c) (hl:total c≤16777216) :
  Calls Tryz.prog 8 #[u] w (SmC c w):=by
 obtain ⟨i0,hi0,hz0,hz1,hz2⟩:=info_parts zBI;have hfin:=zCM h hl;have mixed:Tryz.prog.follows .mixedOrders=true:=by kernel_rfl
 have HRES:Hid (SmC c w=fun e w'=>∃r,e=.returned (.tuple #[r,.bool (finB c)])∧FI (New w w') w' r (smR c)∧Below w.heap.size w w'):=zWF rfl;cases hF:finB c with
 | false =>
  have HR:Hid (smR c=[]):=zWF (by unfold smR; rw [hF]; rfl);have HFF:=zWF hF;rw [hF] at hfin;clear hF;go_enter Tryz.func8,Tryz.ntmps8
  go_wp2_with fail
  refine hfin.mono ?_;rintro e w1 ⟨rfl,b1⟩;have hf:=zAR b1 (w1:=w1.alloc (.cells #[] 3)) rfl;go_wp2_with fail
  go_ret2
  rw [HRES.out];exact ⟨_,by rw [HFF.out]; rfl,by rw [HR.out]; exact hf.1,hf.2⟩
 | true =>
  have hfp:=zCZ hF;have hcP:=hfp.cart;have hcB:isC c=true:=zAK.2 hcP;obtain ⟨hsy,_,_,_⟩:=hfp.sym;have HR:Hid (smR c=symP c):=zWF (by unfold smR; rw [hF]; rfl);have HFF:=zWF hF;rw [hF] at hfin;have h4:c.length≤4:=hcP.le;have h1n:1≤c.length:=hcP.pos;have HPS:=fun w1 (b1:Below w.heap.size w w1)=>zGG (h.below b1) hcB hl;have hNB:=fun (wr:World) (hb:Below w.heap.size w wr) (j:Nat) (hj:j<c.length)=>zEv (i:=j) (h.below hb) hcB hj hl;have HLT:Hid (∀j k:Nat,k∈nbr c j→k<c.length):=zWF (fun j k hk=>zKp hk);have HROW:Hid (∀l∈c,l.length=c.length):=zWF hcP.row;have HENT:Hid (∀(i j:Nat) (l:List Int) (x:Int),c[i]? = some l→l[j]? = some x→ent c i j=x):=zWF (fun i j l x h1 h2=>by unfold ent; rw [h1]; simp [h2]);have HMP:=zWF (fun (p:List Nat) (hp:p∈zAU c)=>(zHz hfp).2 p hp)
  have hfold:(zAU c).foldl (zCp c) (some (List.replicate c.length 0))=some (symP c):=hsy;have HO:=zWF (fun (t:Nat) (x:List Nat) (hx:(zAU c)[t]? = some x)=>zB3 (zLV c) (by rw [hfold]; rfl) hx);have HOE:Hid (((zAU c).take (zAU c).length).foldl (zCp c) (some (List.replicate c.length 0))=some (symP c)):=zWF (by rw [List.take_of_length_le (zWK _)]; exact hfold);have HO0:Hid (((zAU c).take 0).foldl (zCp c) (some (List.replicate c.length 0))=some (List.replicate c.length 0)):=zWF rfl;have HML:Hid ((zAU c).length≤c.length):=zWF (zHz hfp).1;have HSL:Hid ((List.replicate c.length (0:Int)).length=c.length):=zWF (by simp);generalize symP c=R at *;generalize zAU c=P at *;have h0:=h;obtain ⟨au,cu,rfl⟩:=h.form;generalize hn:c.length=n at *;have HN:=zWF hn;clear hn hF hsy hfold hcB hcP hfp;go_enter Tryz.func8,Tryz.ntmps8
  go_wp2_with fail
  refine hfin.mono ?_;rintro e w1 ⟨rfl,b1⟩;go_wp2_with (at_make; (refine wpList_make_full _ rfl _ _ 28 rfl w1.heap.size 3 i0 (.int .i64 0) 1 Tryz.underlying28 hi0 hz0 hz1 _ _ _ _ n rfl rfl (by first | rfl | (simp only [wrap64]; omega)) (by first | rfl | (simp only [wrap64]; omega)) ?hb ?hm ?hs ?_))
  case hb=>first | (rw [hz2]; omega) | omega
  case hm=>unfold maxLen; omega
  case hs=>exact zWK _
  intro w2 hown hgr;have bb2:Below w1.heap.size w1 w2:=(Below.refl _ w1).grown hgr (zWK _) (by simp);have b2:=zAA.step b1 bb2;have hf2:FI (New w w2) w2 (.slice (some ⟨w1.heap.size,0,none⟩) n n) (List.replicate n 0):=(FI.of_row (w:=w1) (by simpa using hown) (zWK _) (by simp) (by simp [toList_madeCells_one])).mono (fun b hb=>⟨Nat.le_trans b1.size hb.1,hb.2⟩);have hg2:w1.heap.size<w2.heap.size:=(hf2.2 w1.heap.size rfl).2;have hwg:w.heap.size≤w1.heap.size:=b1.size;clear hgr hown hi0 hz0 hz1 hz2 hfin;generalize w1.heap.size=g at *;clear b1 bb2;have hps:=HPS w2 b2;go_wp2_with fail
  refine hps.mono ?_;rintro e w3 ⟨r3,rfl,f3,b3⟩;have hs3:=((HS.nil (Below.refl _ w)).addI b2 hf2).addR b3 f3;have hs3:=zVi hs3 1 rfl;obtain ⟨ap,cp,rfl⟩:=f3.form;rw [List.length_map] at hs3 ⊢;have hs3:HS w w3 [aI (.slice (some ⟨g,0,none⟩) n n) (List.replicate n 0),aLL (.slice ap P.length cp) (P.map iL)]:=hs3;clear f3 hps HPS hf2 hg2;have HML:=HML.out;generalize hK:P.length=K at *;have HK:=zWF hK;clear hK b3 b2;go_wp2_with fail
  go_loopw [27] (fun tt wr=>∃(t:Nat) (o:List Int),t≤K∧tt=.int .i64 t∧HS w wr [aI (.slice (some ⟨g,0,none⟩) n n) o,aLL (.slice ap K cp) (P.map iL)]∧Hid ((P.take t).foldl (zCp c) (some (List.replicate n 0))=some o)∧Hid (o.length=n)) (fun tt _=>K-(intOf tt).toNat)
  case atStart=>exact ⟨0,_,Nat.zero_le _,rfl,hs3,HO0,HSL⟩
  case round =>
   obtain ⟨t,o,ht,rfl,hs,HT,HL⟩:=hrel;clear hs3;by_cases htm:t<K
   ·have i3:(t:Int)<(K:Int):=by omega
    obtain ⟨x,hx⟩:∃x,P[t]? = some x:=⟨P[t]'(by rw [HK.out]; exact htm),zWG _⟩;have hxP:x∈P:=zWH hx;obtain ⟨o1,o2,e1,e2,e3⟩:=HO.out t x hx;rw [HT.out] at e1;simp only [Option.some.injEq] at e1;subst e1;have HN2:=zWF e3;obtain ⟨bp,op,rp,lp,q1,hcp,hs,hlp⟩:=hs.row 1 rfl htm;have hlx:lp=iL x:=by
     have:=hlp.out;rw [List.getElem?_map,hx] at this;simpa using this.symm
    subst hlx;subst q1;have hs:HS w wr [aI (.slice (some ⟨g,0,none⟩) n n) o,aAnd (aLL (.slice (some ⟨bp,op,none⟩) K cp) (P.map iL)) (aL rp (iL x))]:=hs;obtain ⟨ar,cr,rfl⟩:=(hs.LLL 1 rfl).2.form;have hil:(iL x).length=x.length:=by simp [iL]
    rw [hil] at hs hcp;obtain ⟨hxm,hxl⟩:=HMP.out x hxP;obtain ⟨p0,ps0,⟨Fo,Fq⟩,cm,rfl,hF,hC,hD⟩:=zJs e2;have hC:(p0::ps0).foldl (zEQ Fo) (some 0)=some cm:=hC;have hD:(p0::ps0).foldl (zDm cm) (some Fo)=some o2:=hD;rw [show (p0::ps0).length=ps0.length+1 from rfl] at hs hcp;have hp0:p0<n:=hxm p0 (List.mem_cons_self ..);have HC:=zWF (fun (t:Nat) (x:Nat) (hx:(p0::ps0)[t]? = some x)=>zB3 (zNM Fo) (by rw [hC]; rfl) hx);have HCE:Hid (((p0::ps0).take (ps0.length+1)).foldl (zEQ Fo) (some 0)=some cm):=zWF (by rw [List.take_of_length_le (by simp)]; exact hC);have HD:=zWF (fun (t:Nat) (x:Nat) (hx:(p0::ps0)[t]? = some x)=>zB3 (zNR cm) (by rw [hD]; rfl) hx);have HDE:Hid (((p0::ps0).take (ps0.length+1)).foldl (zDm cm) (some Fo)=some o2):=zWF (by rw [List.take_of_length_le (by simp)]; exact hD)
    have HC0:Hid (((p0::ps0).take 0).foldl (zEQ Fo) (some 0)=some 0):=zWF rfl;have HD0:Hid (((p0::ps0).take 0).foldl (zDm cm) (some Fo)=some Fo):=zWF rfl;have HXM:=zWF hxm;have hml0:(p0::ps0).length=ps0.length+1:=rfl;have hx0:(p0::ps0)[0]? = some p0:=rfl;have hxl:ps0.length+1≤n:=by simpa using hxl
    have hm1:0<ps0.length+1:=by omega
    have HF0:Hid (∃f,gBfs c f 0 (o.set p0 36,[p0])=some (Fo,Fq)):=zWF ⟨6,hF⟩;have HG0:Hid (OkG n (o.set p0 36,[p0])):=zWF ⟨by simp [HL.out],fun j hj=>by simp at hj; omega,by simp⟩;generalize ps0.length+1=m at *;generalize p0::ps0=x at *;have HXL:=zWF hml0;have HROWX:=zWF (fun (wv:World) (S:Nat→Prop) (hr:RI S wv (.slice ar m cr) (iL x)) (i:Nat) (j:Nat) (hij:x[i]? = some j) (hi:i<m)=>(show ∃b o,ar=some ⟨b,o,none⟩∧wv.cell? ⟨b,o+i,none⟩=some (.int .i64 j) from by
     obtain ⟨b5,o5,y5,q5,hc5,hy5⟩:=RI.at hr hi;have:=hy5.out;simp only [iL,List.getElem?_map,hij,Option.map_some,Option.some.injEq] at this;exact ⟨b5,o5,q5,by rw [hc5,this]⟩))
    clear hF hC hD e2 e3 hlp hx hil hml0 hxm hxP;obtain ⟨b5,o5,rfl,hc5⟩:=HROWX.out wr _ (hs.LLL 1 rfl).2 0 p0 hx0 hm1;have im:(0:Int)<(m:Int):=by omega
    have ip0:(0:Int)≤(p0:Int):=by omega
    have ip1:(p0:Int)<(n:Int):=by omega
    obtain ⟨y,hy⟩:∃y,o[p0]? = some y:=⟨o[p0]'(by rw [HL.out]; exact hp0),zWG _⟩;obtain ⟨d0,z0⟩:=hs.cellI 0 rfl HL.out hy;have hs4:=hs.putI 0 rfl HL.out p0 36;obtain ⟨b6,o6,q6,hc6⟩:=HROWX.out _ _ (hs4.LLL 1 rfl).2 0 p0 hx0 hm1;simp only [Option.some.injEq,Addr.mk.injEq,and_true] at q6;obtain ⟨rfl,rfl⟩:=q6;simp only [Nat.add_zero] at hc5 hc6;obtain ⟨wo,rfl⟩:∃wo,wo=wr:=⟨_,rfl⟩;clear hy;go_wp2_with fail
    clear d0 z0 hc5 hc6;have hzo:(wo.setCell ⟨g,p0,none⟩ (.int .i64 36)).heap.size=wo.heap.size:=zAI _ _ _;generalize wo.setCell ⟨g,p0,none⟩ (.int .i64 36)=w4 at *;obtain ⟨w5,hw5⟩:∃w5,w5=w4.alloc (.cells #[.int .i64 p0] 3):=⟨_,rfl⟩;obtain ⟨f5,b5'⟩:=zFE (Below.refl _ w4) hw5;have hs5:=hs4.addI b5' f5;rw [<-hw5];have hs5:HS w w5 [aI (.slice (some ⟨g,0,none⟩) n n) (o.set p0 36),aAnd (aLL (.slice (some ⟨bp,op,none⟩) K cp) (P.map iL)) (aL (.slice (some ⟨b5,o5,none⟩) m cr) (iL x)),aI (.slice (some ⟨w4.heap.size,0,none⟩) 1 1) (iL [p0])]:=hs5;clear hs4 hs f5 b5' hw5;rw [hzo] at hs5;generalize wo.heap.size=g4 at *;clear hzo hcp;go_wp2_with fail
    go_loopw [7,8] (fun zz kk wr=>∃(k:Nat) (zv:Value) (st:Gs),zv=zz∧k≤st.2.length∧kk=.int .i64 k∧HS w wr [aI (.slice (some ⟨g,0,none⟩) n n) st.1,aAnd (aLL (.slice (some ⟨bp,op,none⟩) K cp) (P.map iL)) (aL (.slice (some ⟨b5,o5,none⟩) m cr) (iL x)),aI zv (iL st.2)]∧Hid (OkG n st)∧Hid (∃f,gBfs c f k st=some (Fo,Fq))) (fun _ kk _=>6-(intOf kk).toNat)
    case atStart=>exact ⟨0,_,_,rfl,Nat.zero_le _,rfl,hs5,HG0,HF0⟩
    case round =>
     clear hs5;obtain ⟨k,zv,st,rfl,hk,rfl,hs,HOK,HF⟩:=hrel;obtain ⟨s,q⟩:=st;have hq5:q.length≤5:=HOK.out.le;have hiq:(iL q).length=q.length:=by simp [iL]
     obtain ⟨aq,cq,rfl⟩:=hs.formI 2 rfl;rw [hiq] at hs;rw [hiq];have hk:k≤q.length:=hk;generalize hql:q.length=mq at *;have HQL:=zWF hql;clear hql hiq;by_cases hkm:k<mq
     ·obtain ⟨j,hj⟩:∃j,q[k]? = some j:=⟨q[k]'(by rw [HQL.out]; exact hkm),zWG _⟩;have hjn:j<n:=HOK.out.lt j (zWH hj);have i4:(k:Int)<(mq:Int):=by omega
      have hqc:∃g',aq=some ⟨g',0,none⟩∧wr.cell? ⟨g',k,none⟩=some (.int .i64 j):=by
       obtain ⟨g',e1,_,_⟩:=FI.head (hs.I 2 rfl) (by omega);subst e1;refine ⟨g',rfl,FI.cell (hs.I 2 rfl) (x:=(j:Int)) (by simp [iL,hj]) hkm⟩
      obtain ⟨g',rfl,hcq⟩:=hqc;obtain ⟨f0,hF0⟩:=HF.out;obtain ⟨f',st',e6,e7⟩:=zO1 (st:=(s,q)) hF0 hj;have HF2:Hid (∃f,gBfs c f (k+1) st'=some (Fo,Fq)):=zWF ⟨f',e7⟩;have HST:=zWF (fun (t:Nat) (x:Nat) (hx:(nbr c j)[t]? = some x)=>zB3 (zNf c j) (by rw [e6]; rfl) hx);have HSE:Hid (((nbr c j).take (nbr c j).length).foldl (zDE c j) (some (s,q))=some st'):=zWF (by rw [List.take_of_length_le (zWK _)]; exact e6);have HP0:Hid (((nbr c j).take 0).foldl (zDE c j) (some (s,q))=some (s,q)):=zWF rfl;have hnb:=hNB wr hs.bl j hjn;have HOK0:Hid (OkG n (s,q)):=HOK;clear hF0 e6 e7 hj;go_wp2_with fail
      refine hnb.mono ?_;rintro e w8 ⟨r8,rfl,f8,b8⟩;have hs8:=zOA (hs.addI b8 f8) 3 rfl;obtain ⟨a8,c8,rfl⟩:=f8.form;have hLlen:(iL (nbr c j)).length=(nbr c j).length:=by simp [iL]
      rw [hLlen] at hs8 ⊢;have hs8:HS w w8 [aI (.slice (some ⟨g,0,none⟩) n n) s,aAnd (aLL (.slice (some ⟨bp,op,none⟩) K cp) (P.map iL)) (aL (.slice (some ⟨b5,o5,none⟩) m cr) (iL x)),aI (.slice (some ⟨g',0,none⟩) mq cq) (iL q),aL (.slice a8 (nbr c j).length c8) (iL (nbr c j))]:=hs8;have hLn:(nbr c j).length≤n:=by
       have:=zDV c j c.length;rw [show iL (zAq c j c.length)=iL (nbr c j) from rfl,hLlen,HN.out] at this;exact this
      have HLM:Hid (∀k∈nbr c j,k<n):=zWF (fun k hk=>HLT.out j k hk);clear f8 hs hLlen hnb b8 hcq;generalize nbr c j=L at *;generalize hll:L.length=ll at *;have HLL:=zWF hll;clear hll;go_wp2_with fail
      go_loopw [7,54] (fun zz tt wi=>∃(t:Nat) (zv:Value) (st:Gs),zv=zz∧t≤ll∧tt=.int .i64 t∧HS w wi [aI (.slice (some ⟨g,0,none⟩) n n) st.1,aAnd (aLL (.slice (some ⟨bp,op,none⟩) K cp) (P.map iL)) (aL (.slice (some ⟨b5,o5,none⟩) m cr) (iL x)),aI zv (iL st.2),aL (.slice a8 ll c8) (iL L)]∧Hid ((L.take t).foldl (zDE c j) (some (s,q))=some st)∧Hid (OkG n st)∧mq≤st.2.length) (fun _ tt _=>ll-(intOf tt).toNat)
      case atStart=>exact ⟨0,_,(s,q),rfl,Nat.zero_le _,rfl,hs8,HP0,HOK,by show mq≤q.length; rw [HQL.out]; exact zWK _⟩
      case round =>
       clear hs8;obtain ⟨t9,zv,st,rfl,ht9,rfl,hs,HT9,HOK,hmq⟩:=hrel;obtain ⟨s1,q1⟩:=st;have hmq:mq≤q1.length:=hmq;by_cases htl:t9<ll
       ·obtain ⟨y,hy⟩:∃y,L[t9]? = some y:=⟨L[t9]'(by rw [HLL.out]; exact htl),zWG _⟩;have hyn:y<n:=HLM.out y (zWH hy);have i5:(t9:Int)<(ll:Int):=by omega
        obtain ⟨st1,st2,e1,e2,e3⟩:=HST.out t9 y hy;rw [HT9.out] at e1;simp only [Option.some.injEq] at e1;subst e1;have HT10:=zWF e3;have HOK2:Hid (OkG n st2):=zWF (HOK.out.step hyn e2);have hcs:=zGy e2;obtain ⟨bl,ol,yv,e9,hcl,hyv⟩:=RI.at (hs.L 3 rfl) htl;have hyx:yv=(y:Int):=by
         have:=hyv.out;simp only [iL,List.getElem?_map,hy,Option.map_some,Option.some.injEq] at this;exact this.symm
        subst hyx;subst e9;have hs1:s1.length=n:=HOK.out.len;obtain ⟨xi,hxi⟩:∃xi,s1[j]? = some xi:=⟨s1[j]'(by omega),zWG _⟩;obtain ⟨xk,hxk⟩:∃xk,s1[y]? = some xk:=⟨s1[y]'(by omega),zWG _⟩;rw [zAS hxi,zAS hxk] at hcs;have HSL1:=zWF hs1;obtain ⟨dx,_⟩:=hs.cellI 0 rfl hs1 hxi;obtain ⟨dk,zk⟩:=hs.cellI 0 rfl hs1 hxk;have i6:(0:Int)≤(y:Int):=by omega
        have i7:(y:Int)<(n:Int):=by omega
        have i8:(0:Int)≤(j:Int):=by omega
        have i9:(j:Int)<(n:Int):=by omega
        clear e2 e3 hy hyv hs1 hxi hxk;rcases hcs with ⟨c1,rfl⟩ | ⟨c1,c2,c3,c4,rfl⟩
        ·have f1:(xk == 0)=false:=by simp [c1]
         clear c1;go_wp2_with fail
         go_roundw
         case rel=>exact ⟨t9+1,_,(s1,q1),rfl,by omega,by go_num,hs,HT10,HOK,hmq⟩
         case measure=>simp [intOf]; omega
        ·have f1:(xk == 0)=true:=by simp [c1]
         have hcw:=h0.below hs.bl;obtain ⟨b1,o1,r1,l1,q1',hc1,hr1,hl1⟩:=RII.at hcw (j:=j) (by omega);have hln1:l1.length=n:=HROW.out l1 (zWH hl1.out);obtain ⟨ar1,cr1,rfl⟩:=hr1.form;rw [hln1] at hr1 hc1;obtain ⟨b2,o2',eik,q2,hc2,he2⟩:=RI.at hr1 hyn;obtain ⟨b3,o3,r3,l3,q3,hc3,hr3,hl3⟩:=RII.at hcw (j:=y) (by omega);have hln3:l3.length=n:=HROW.out l3 (zWH hl3.out);obtain ⟨ar3,cr3,rfl⟩:=hr3.form;rw [hln3] at hr3 hc3;obtain ⟨b4,o4',eki,q4,hc4,he4⟩:=RI.at hr3 hjn;rw [q1'] at q3;simp only [Option.some.injEq,Addr.mk.injEq,and_true] at q3;obtain ⟨rfl,rfl⟩:=q3;subst q1' q2 q4;rw [HENT.out j y l1 eik hl1.out he2.out] at c3 HT10 HOK2;rw [HENT.out y j l3 eki hl3.out he4.out] at c2 HT10 HOK2;have f5:(eki == 0)=false:=by simp [c2]
         obtain ⟨wr1,wr2⟩:=zFU c3.1 c3.2;have f8:-1000000≤(xi*eik).tdiv eki∧(xi*eik).tdiv eki≤1000000:=zGL c3.1 c3.2;have hs9:=hs.putI 0 rfl HSL1.out y ((xi*eik).tdiv eki);obtain ⟨w11,hw11⟩:∃w11,w11=((wr.setCell ⟨g,y,none⟩ (.int .i64 ((xi*eik).tdiv eki))).alloc (.cells #[.int .i64 y] 3)).drew:=⟨_,rfl⟩;have hs11:=(hs9.alloc (.cells #[.int .i64 y] 3)).drew;rw [<-hw11] at hs11;have hsz:(wr.setCell ⟨g,y,none⟩ (.int .i64 ((xi*eik).tdiv eki))).heap.size=wr.heap.size:=zAI _ _ _;have hc11:w11.cell? ⟨wr.heap.size,0,none⟩=some (.int .i64 y):=by rw [<-hsz,hw11]; go_simp
         have hql1:(iL q1).length+1≤67108864:=by have:=HOK.out.le; simp [iL] at *; omega
         have HW:=zWF hw11;clear c1 c3 hw11 hcw hr1 hl1 hr3 hl3 hln1 hln3 he2 he4 hs9 hsz;go_wp2_with fail
         go_big_region_o
         go_wp2_with (at_builtin; go_must (rw [<-HW.out]; refine zBY rfl _ _ rfl rfl hs11 2 rfl rfl hc11 hql1 ?_))
         intro v6 w6 hs6;have hs6:HS w w6 [aI (.slice (some ⟨g,0,none⟩) n n) (s1.set y ((xi*eik).tdiv eki)),aAnd (aLL (.slice (some ⟨bp,op,none⟩) K cp) (P.map iL)) (aL (.slice (some ⟨b5,o5,none⟩) m cr) (iL x)),aI v6 (iL q1++[(y:Int)]),aL (.slice (some ⟨bl,ol,none⟩) ll c8) (iL L)]:=hs6;rw [zTj] at hs6;go_wp2_with fail
         go_roundw
         case rel=>exact ⟨t9+1,_,(s1.set y ((xi*eik).tdiv eki),q1++[y]),rfl,by omega,by go_num,hs6,HT10,HOK2,by simp; omega⟩
         case measure=>simp [intOf]; omega
       ·have htl2:t9=ll:=by omega
        have i5:¬(t9:Int)<(ll:Int):=by omega
        have hend:=HT9.out;rw [htl2,HSE.out] at hend;simp only [Option.some.injEq] at hend;subst hend;have hs0:=hs.pick [0,1,2] (by decide);have hs0:HS w wr [aI (.slice (some ⟨g,0,none⟩) n n) s1,aAnd (aLL (.slice (some ⟨bp,op,none⟩) K cp) (P.map iL)) (aL (.slice (some ⟨b5,o5,none⟩) m cr) (iL x)),aI zv (iL q1)]:=hs0;clear htl2 hs;go_wp2_with fail
        go_roundw
        case rel=>exact ⟨k+1,_,(s1,q1),rfl,by show k+1≤q1.length; omega,by go_num,hs0,HOK,HF2⟩
        case measure=>simp [intOf]; omega
     ·have i4:¬(k:Int)<(mq:Int):=by omega
      obtain ⟨f0,hF0⟩:=HF.out;have hend:=zRU (st:=(s,q)) hF0 (by rw [HQL.out]; omega);simp only [Prod.mk.injEq] at hend;obtain ⟨rfl,rfl⟩:=hend;have hs0:=hs.pick [0,1] (by decide);have hs0:HS w wr [aI (.slice (some ⟨g,0,none⟩) n n) s,aAnd (aLL (.slice (some ⟨bp,op,none⟩) K cp) (P.map iL)) (aL (.slice (some ⟨b5,o5,none⟩) m cr) (iL x))]:=hs0;have HSN:Hid (s.length=n):=zWF HOK.out.len;have HXA:Hid (∀t,t<m→∃y,x[t]? = some y∧y<n):=zWF (fun t ht=>⟨x[t]'(by rw [HXL.out]; exact ht),zWG _,HXM.out _ (List.getElem_mem _)⟩);clear hF0 hs;go_wp2_with fail
      go_loopw [12,93] (fun gg tt wr=>∃(t:Nat) (gm:Int),t≤m∧tt=.int .i64 t∧gg=.int .i64 gm∧HS w wr [aI (.slice (some ⟨g,0,none⟩) n n) s,aAnd (aLL (.slice (some ⟨bp,op,none⟩) K cp) (P.map iL)) (aL (.slice (some ⟨b5,o5,none⟩) m cr) (iL x))]∧Hid ((x.take t).foldl (zEQ s) (some 0)=some gm)) (fun _ tt _=>m-(intOf tt).toNat)
      case atStart=>exact ⟨0,0,Nat.zero_le _,rfl,rfl,hs0,HC0⟩
      case round =>
       clear hs0;obtain ⟨t9,gm,ht9,rfl,rfl,hs,HT9⟩:=hrel;by_cases htl:t9<m
       ·have i5:(t9:Int)<(m:Int):=by omega
        obtain ⟨y,hy,hyn⟩:=HXA.out t9 htl;obtain ⟨g1,g2,e1,e2,e3⟩:=HC.out t9 y hy;rw [HT9.out] at e1;simp only [Option.some.injEq] at e1;subst e1;have HT10:=zWF e3;have e2:gcdP (num s y) gm=some g2:=e2;obtain ⟨b9,o9,q9,hc9⟩:=HROWX.out wr _ (hs.LLL 1 rfl).2 t9 y hy htl;simp only [Option.some.injEq,Addr.mk.injEq,and_true] at q9;obtain ⟨rfl,rfl⟩:=q9;obtain ⟨xk,hxk⟩:∃xk,s[y]? = some xk:=⟨s[y]'(by rw [HSN.out]; exact hyn),zWG _⟩;obtain ⟨dk,_⟩:=hs.cellI 0 rfl HSN.out hxk;rw [zAS hxk] at e2;have i6:(0:Int)≤(y:Int):=by omega
        have i7:(y:Int)<(n:Int):=by omega
        have hg:=fun wv=>zTh (w:=wv) e2;clear e2 e3 hy hxk;go_wp2_with fail
        refine (hg _).mono ?_;rintro e w9 ⟨rfl,m9,rfl⟩;have hs:=hs.drewN m9;go_wp2_with fail
        go_roundw
        case rel=>exact ⟨t9+1,g2,by omega,by go_num,rfl,hs,HT10⟩
        case measure=>simp [intOf]; omega
       ·have htl2:t9=m:=by omega
        have i5:¬(t9:Int)<(m:Int):=by omega
        have hend:=HT9.out;rw [htl2,HCE.out] at hend;simp only [Option.some.injEq] at hend;subst hend;clear htl2;go_wp2_with fail
        go_loopw [106] (fun tt wr=>∃(t:Nat) (od:List Int),t≤m∧tt=.int .i64 t∧HS w wr [aI (.slice (some ⟨g,0,none⟩) n n) od,aAnd (aLL (.slice (some ⟨bp,op,none⟩) K cp) (P.map iL)) (aL (.slice (some ⟨b5,o5,none⟩) m cr) (iL x))]∧Hid ((x.take t).foldl (zDm cm) (some s)=some od)∧Hid (od.length=n)) (fun tt _=>m-(intOf tt).toNat)
        case atStart=>exact ⟨0,s,Nat.zero_le _,rfl,hs,HD0,HSN⟩
        case round =>
         clear hs;obtain ⟨t8,od,ht8,rfl,hs,HT8,HDL⟩:=hrel;by_cases htl:t8<m
         ·have i5:(t8:Int)<(m:Int):=by omega
          obtain ⟨y,hy,hyn⟩:=HXA.out t8 htl;obtain ⟨g1,g2,e1,e2,e3⟩:=HD.out t8 y hy;rw [HT8.out] at e1;simp only [Option.some.injEq] at e1;subst e1;obtain ⟨c1,c2,c3,rfl⟩:=zLl e2;have HT10:=zWF e3;obtain ⟨b9,o9,q9,hc9⟩:=HROWX.out wr _ (hs.LLL 1 rfl).2 t8 y hy htl;simp only [Option.some.injEq,Addr.mk.injEq,and_true] at q9;obtain ⟨rfl,rfl⟩:=q9;obtain ⟨xk,hxk⟩:∃xk,od[y]? = some xk:=⟨od[y]'(by rw [HDL.out]; exact hyn),zWG _⟩;obtain ⟨dk,zk⟩:=hs.cellI 0 rfl HDL.out hxk;rw [zAS hxk] at c2 c3 HT10;have f5:(cm == 0)=false:=by simp [c1]
          have i6:(0:Int)≤(y:Int):=by omega
          have i7:(y:Int)<(n:Int):=by omega
          have f8:-1000000≤xk.tdiv cm∧xk.tdiv cm≤1000000:=zGL c2 c3;have hs9:=hs.putI 0 rfl HDL.out y (xk.tdiv cm);have HDL2:Hid ((od.set y (xk.tdiv cm)).length=n):=zWF (by simp [HDL.out]);clear e2 e3 hy hxk;go_wp2_with fail
          go_roundw
          case rel=>exact ⟨t8+1,_,by omega,by go_num,hs9,HT10,HDL2⟩
          case measure=>simp [intOf]; omega
         ·have htl2:t8=m:=by omega
          have i5:¬(t8:Int)<(m:Int):=by omega
          have hend:=HT8.out;rw [htl2,HDE.out] at hend;simp only [Option.some.injEq] at hend;subst hend;have hs9:=hs.imp 1 rfl (P':=aLL (.slice (some ⟨bp,op,none⟩) K cp) (P.map iL)) (zOB _ _) (fun _ h=>h.1);clear htl2 hs;go_wp2_with fail
          go_roundw
          case rel=>exact ⟨t+1,_,by omega,by go_num,hs9,HN2,HDL⟩
          case measure=>simp [intOf]; omega
   ·have hkm:t=K:=by omega
    have i3:¬(t:Int)<(K:Int):=by omega
    have hT:=HT.out;rw [hkm,HOE.out] at hT;simp only [Option.some.injEq] at hT;subst hT;clear hkm;go_wp2_with fail
    go_ret2
    rw [HRES.out];exact ⟨_,by rw [HFF.out]; rfl,by rw [HR.out]; exact hs.I 0 rfl,hs.bl⟩
theorem zSB {S:Nat→Prop} {u:Value} {c:List (List Int)} {w:World} (h:RII S w u c) (hl:total c≤16777216) :
  Calls Tryz.prog 8 #[u] w fun e w'=>∃r,e=.returned (.tuple #[r,.bool (finB c)])∧FI (New w w') w' r (smR c)∧Below w.heap.size w w':=zIo h hl
theorem zLE {S S':Nat→Prop} {u v:Value} {c:List (List Int)} {r:List Int} {w:World} (h:RII S w u c) (h':RI S' w v r) (hl:total c≤16777216) (hl':r.length≤16777216) :
  Calls Tryz.prog 15 #[u,v] w (NrC c r w):=by
 have hsy:=zIo h hl;have mixed:Tryz.prog.follows .mixedOrders=true:=by kernel_rfl
 have HRES:Hid (NrC c r w=fun e w'=>e=.returned (.int .i64 (nrR c r))∧Below w.heap.size w w'):=zWF rfl;have HSM:Hid (SmC c w=fun e w'=>∃r,e=.returned (.tuple #[r,.bool (finB c)])∧FI (New w w') w' r (smR c)∧Below w.heap.size w w'):=zWF rfl;have HW:=fun (w1:World) (b1:Below w.heap.size w w1)=>zNm (h.below b1) (h'.below b1) hl hl';rw [HSM.out] at hsy;clear HSM;cases hF:finB c with
 | false =>
  have HR:Hid (nrR c r=0):=zWF (by unfold nrR; rw [hF]; simp);rw [hF] at hsy;clear hF;go_enter Tryz.func15,Tryz.ntmps15
  go_wp2_with fail
  refine hsy.mono ?_;rintro e w1 ⟨r1,rfl,f1,b1⟩;obtain ⟨a1,c1,rfl⟩:=f1.form;go_wp2_with fail
  go_ret
  rw [HRES.out];exact ⟨zAP HR.out.symm,b1⟩
 | true =>
  have HSM:Hid (smR c=symP c):=zWF (by unfold smR; rw [hF]; rfl);rw [HSM.out] at hsy;rw [hF] at hsy;cases hW:isW c r with
  | false =>
   have HR:Hid (nrR c r=0):=zWF (by unfold nrR; rw [hW]; simp);rw [hW] at HW;clear hF hW;go_enter Tryz.func15,Tryz.ntmps15
   go_wp2_with fail
   refine hsy.mono ?_;rintro e w1 ⟨r1,rfl,f1,b1⟩;obtain ⟨a1,c1,rfl⟩:=f1.form;go_wp2_with fail
   refine (HW w1 b1).mono ?_;rintro e w2 ⟨rfl,m2,rfl⟩;go_wp2_with fail
   go_ret
   rw [HRES.out];exact ⟨zAP HR.out.symm,below_drewN b1 m2⟩
  | true =>
   have hfp:=zCZ hF;have hln:=(zCm hW).2.1;have HR:Hid (nrR c r=nmI (symP c) c r c.length):=zWF (by unfold nrR; rw [if_pos ⟨hF,hW⟩,hln]);obtain ⟨_,_,hsl,_⟩:=hfp.sym;have h4:c.length≤4:=hfp.cart.le;have HROW:Hid (∀l∈c,l.length=c.length):=zWF hfp.cart.row;have HS0:Hid (nmI (symP c) c r 0=0):=zWF rfl;have HS1:Hid (∀(i:Nat) (l:List Int) (x z:Int),(symP c)[i]? = some x→c[i]? = some l→r[i]? = some z →
     nmI (symP c) c r (i+1)=wrap64 (nmI (symP c) c r i+wrap64 (wrap64 (x*z)*prI l r r.length))):=zWF (fun i l x z h1 h2 h3=>by
    simp only [nmI]; rw [zAS h1,zAS h3,h2]; rfl)
   have HP:=fun (wv:World) (b:Below w.heap.size w wv) (n:Nat) (l:List Int) (vl:Value) (S9:Nat→Prop) (hvl:RI S9 (wv.drewN n) vl l) (hlr:l.length=c.length) =>
    zEe (w:=wv.drewN n) hvl ((h'.below b).drewN n) (by rw [hlr,hln]; exact zWK _) hl'
   rw [hW] at HW;clear hF hW hfp;have h0:=h;have h0':=h';obtain ⟨au,cu,rfl⟩:=h.form;obtain ⟨av,cv,rfl⟩:=h'.form;rw [hln] at HW h' h0' HP HS1 ⊢;generalize symP c=D at *;generalize hn:c.length=n at *;have HN:=zWF hn;clear hn hln;go_enter Tryz.func15,Tryz.ntmps15
   go_wp2_with fail
   refine hsy.mono ?_;rintro e w1 ⟨r1,rfl,f1,b1⟩;obtain ⟨a1,c1,rfl⟩:=f1.form;rw [hsl] at f1 ⊢;go_wp2_with fail
   refine (HW w1 b1).mono ?_;rintro e w2 ⟨rfl,m2,rfl⟩;have b2:=below_drewN b1 m2;have hd2:RI (New w w1) (w1.drewN m2) (.slice a1 n c1) D:=f1.reads.drewN m2;have hc2:=h0.below b2;have hr2:=h0'.below b2;clear f1 hsy HW hsl;generalize w1.drewN m2=w2 at *;clear b1;have HP:=zWF HP;go_wp2_with fail
   go_loopw [7,25] (fun s ii wr=>∃(i d:Nat),i≤n∧ii=.int .i64 i∧s=.int .i64 (nmI D c r i)∧wr=w2.drewN d) (fun _ ii _=>n-(intOf ii).toNat)
   case atStart=>exact ⟨0,0,Nat.zero_le _,rfl,by rw [HS0.out],rfl⟩
   case round =>
    obtain ⟨i,d,hi,rfl,rfl,hw⟩:=hrel;have hd2:=hd2.drewN d;have hc2:=hc2.drewN d;have hr2:=hr2.drewN d;have b2:=below_drewN b2 d;rw [<-hw] at hd2 hc2 hr2 b2;have HW:=zWF hw;clear hw;by_cases hin:i<n
    ·have i1:(i:Int)<(n:Int):=by omega
     have i0:(0:Int)≤(i:Int):=by omega
     obtain ⟨bx,ox,x,rfl,hcx,hx⟩:=RI.at hd2 hin;obtain ⟨bz,oz,z,rfl,hcz,hz⟩:=RI.at hr2 hin;obtain ⟨bl,ol,rl,l,rfl,hcl,hrl,hl1⟩:=RII.at hc2 hin;have hlen:l.length=n:=by have:=HROW.out l (zWH hl1.out); rw [this]
     have HST:=zWF (HS1.out i l x z hx.out hl1.out hz.out);have HPC:=zWF (fun q:Nat=>HP.out wr b2 q l rl _ (hrl.drewN q) hlen);generalize nmI D c r i=s1 at *;generalize prI l r n=pl at *;clear hx hz hl1 hlen hrl;go_wp2_with fail
     go_quiet ((go_at_call 43; exact Calls.quiet_of (HPC.out _)))
     go_wp2_with fail
     go_roundw
     case rel=>exact ⟨i+1,d+nq,by omega,by go_num,by rw [HST.out],by rw [HW.out]; simp⟩
     case measure=>simp [intOf]; omega
    ·have i1:¬(i:Int)<(n:Int):=by omega
     have hkm:i=n:=by omega
     have HE:Hid (nmI D c r i=nrR c r):=zWF (by rw [hkm,HR.out]);rw [HE.out];clear hkm;go_wp2_with fail
     go_ret
     rw [HRES.out];exact ⟨rfl,b2⟩
theorem zFd {S S':Nat→Prop} {u v:Value} {c:List (List Int)} {r:List Int} {w:World} (h:RII S w u c) (h':RI S' w v r) (hl:total c≤16777216) (hl':r.length≤16777216) :
  Calls Tryz.prog 15 #[u,v] w fun e w'=>e=.returned (.int .i64 (nrR c r))∧Below w.heap.size w w':=zLE h h' hl hl'
end Go.Proofs.YtphbichgpcicnaaGreatDoor
