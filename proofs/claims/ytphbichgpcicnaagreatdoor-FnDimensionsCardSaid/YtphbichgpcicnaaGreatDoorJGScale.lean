/- Numbers that make a part symmetric, by the reference: one try. Condition: sizes up to 2^24. -/
import Derived.Test.YtphbichgpcicnaaGreatDoorJGSy
import Derived.Shelf.RegionOpenPlain
namespace Go.Proofs.YtphbichgpcicnaaGreatDoor
open Go.RowKit
set_option maxRecDepth 20000
set_option maxHeartbeats 8000000
theorem zLA {n i:Nat} (hi:i<n):(List.range n)[i]? = some i:=by simp [hi]
theorem zIC {n i:Nat} (hi:i≤n):(List.range n).take i=List.range i:=by rw [List.take_range,Nat.min_eq_left hi]
theorem zGK {a b d x:Int} (h:quoP a b d=some x):d≠0∧(-1000000≤a*b∧a*b≤1000000)∧x=(a*b).tdiv d:=by
 unfold quoP at h;split at h
 ·rename_i hc
  simp only [Option.some.injEq] at h;exact ⟨hc.1,hc.2,h.symm⟩
 ·cases h
theorem zFU {a:Int} (h1:-1000000≤a) (h2:a≤1000000):IntKind.i64.wrap a=a∧wrap64 a=a :=
 ⟨IntWalk.i64_in _ (by omega),by unfold wrap64; omega⟩
theorem zGL {a b:Int} (h1:-1000000≤a) (h2:a≤1000000):-1000000≤a.tdiv b∧a.tdiv b≤1000000:=by
 have:=Int.natAbs_tdiv_le_natAbs a b;omega
theorem zLp {c:List (List Int)} {i k:Nat} {o o':List Int} (h:zDn c i (some o) k=some o') :
  (¬0<num o i∧o'=o)∨(0<num o i∧num o k≠0∧o'=o)∨(0<num o i∧num o k=0∧i=k∧o'=o)∨(0<num o i∧num o k=0∧i≠k∧ent c i k=0∧o'=o) ∨
  (0<num o i∧num o k=0∧i≠k∧ent c i k≠0∧ent c k i≠0∧(-1000000≤num o i*ent c i k∧num o i*ent c i k≤1000000) ∧
   (((num o i*ent c i k).tmod (ent c k i)≠0∧o'=o)∨((num o i*ent c i k).tmod (ent c k i)=0∧o'=o.set k ((num o i*ent c i k).tdiv (ent c k i))))):=by
 simp only [zDn] at h;by_cases c1:0<num o i
 ·by_cases c2:num o k=0
  ·by_cases c3:i=k
   ·rw [if_neg (by omega)] at h;exact .inr (.inr (.inl ⟨c1,c2,c3,by simpa using h.symm⟩))
   ·by_cases c4:ent c i k=0
    ·rw [if_neg (by omega)] at h;exact .inr (.inr (.inr (.inl ⟨c1,c2,c3,c4,by simpa using h.symm⟩)))
    ·rw [if_pos ⟨c1,c2,c3,c4⟩] at h;cases e:quoP (num o i) (ent c i k) (ent c k i) with
     | none=>rw [e] at h; cases h
     | some x =>
      rw [e] at h;obtain ⟨d1,d2,d3⟩:=zGK e;refine .inr (.inr (.inr (.inr ⟨c1,c2,c3,c4,d1,d2,?_⟩)));by_cases c5:(num o i*ent c i k).tmod (ent c k i)=0
      ·simp only [if_pos c5,Option.some.injEq] at h;exact .inr ⟨c5,by rw [<-h,d3]⟩
      ·simp only [if_neg c5,Option.some.injEq] at h;exact .inl ⟨c5,h.symm⟩
  ·rw [if_neg (by omega)] at h;exact .inr (.inl ⟨c1,c2,by simpa using h.symm⟩)
 ·rw [if_neg (by omega)] at h;exact .inl ⟨c1,by simpa using h.symm⟩
theorem zN0 (c:List (List Int)) (i:Nat) (k:Nat):zDn c i none k=none:=rfl
theorem zIB (c:List (List Int)) (i:Nat):zDq c none i=none:=zDP (fun _=>rfl) _
theorem zNu (c:List (List Int)) (i:Nat):zEX c none i=none:=zDP (fun k=>zIB c k) _
theorem zPn {S S':Nat→Prop} {u v:Value} {c:List (List Int)} {p:List Nat} {d:Int} {l:List Int} {w:World} (h:RII S w u c) (h':RI S' w v (iL p)) (hc:isC c=true) (hp:∀j∈p,j<c.length) (hpl:p.length≤c.length)
  (hr:zEz c p d=some l) :
  Calls Tryz.prog 39 #[u,v,.int .i64 d] w fun e w'=>∃a k,e=.returned (.slice a c.length k)∧FI (New w w') w' (.slice a c.length k) l∧l.length=c.length∧Below w.heap.size w w':=by
 obtain ⟨i0,hi0,hz0,hz1,hz2⟩:=info_parts zBI;have hcp:=zAK.1 hc;have h4:c.length≤4:=hcp.le;have h1n:1≤c.length:=hcp.pos;have HROW:Hid (∀l∈c,l.length=c.length):=zWF hcp.row;have HENT:Hid (∀(i j:Nat) (l:List Int) (x:Int),c[i]? = some l→l[j]? = some x→ent c i j=x):=zWF (fun i j l x h1 h2=>by unfold ent; rw [h1]; simp [h2]);obtain ⟨p0,ps,rfl⟩:∃p0 ps,p=p0::ps:=by
  cases p with
  | nil=>simp [zEz] at hr
  | cons a l=>exact ⟨a,l,rfl⟩
 have hp0:p0<c.length:=hp p0 (List.mem_cons_self ..);have hr:(p0::ps).foldl (zEX c) (some ((List.replicate c.length 0).set p0 d))=some l:=hr;have HO:=zWF (fun (t:Nat) (x:Nat) (hx:(p0::ps)[t]? = some x)=>zB3 (zNu c) (by rw [hr]; rfl) hx);have HOE:Hid (((p0::ps).take (p0::ps).length).foldl (zEX c) (some ((List.replicate c.length 0).set p0 d))=some l):=zWF (by rw [List.take_of_length_le (zWK _)]; exact hr);have HO0:Hid (((p0::ps).take 0).foldl (zEX c) (some ((List.replicate c.length 0).set p0 d))=some ((List.replicate c.length 0).set p0 d)):=zWF rfl;have HM:=zWF (fun (o o':List Int) (x:Nat) (e:zEX c (some o) x=some o') (i:Nat) (hi:i<c.length)=>zB3 (f:=zDq c) (zIB c) (L:=List.range c.length) (s0:=some o) (by rw [show (List.range c.length).foldl (zDq c) (some o)=some o' from e]; rfl) (zLA hi))
 have HME:=zWF (fun (o o':List Int) (x:Nat) (e:zEX c (some o) x=some o')=>(show ((List.range c.length).take c.length).foldl (zDq c) (some o)=some o' from by rw [zIC (zWK _)]; exact e));have HI:=zWF (fun (o o':List Int) (i:Nat) (e:zDq c (some o) i=some o') (k:Nat) (hk:k<c.length)=>zB3 (f:=zDn c i) (zN0 c i) (L:=List.range c.length) (s0:=some o) (by rw [show (List.range c.length).foldl (zDn c i) (some o)=some o' from e]; rfl) (zLA hk));have HIE:=zWF (fun (o o':List Int) (i:Nat) (e:zDq c (some o) i=some o')=>(show ((List.range c.length).take c.length).foldl (zDn c i) (some o)=some o' from by rw [zIC (zWK _)]; exact e));have HZ:=zWF (fun (o:List Int)=>(show ((List.range c.length).take 0).foldl (zDq c) (some o)=some o from rfl))
 have HZ2:=zWF (fun (o:List Int) (i:Nat)=>(show ((List.range c.length).take 0).foldl (zDn c i) (some o)=some o from rfl));have HSL:Hid (((List.replicate c.length (0:Int)).set p0 d).length=c.length):=zWF (by simp);have h0:=h;have h00:=h';obtain ⟨au,cu,rfl⟩:=h.form;obtain ⟨av,cv,rfl⟩:=h'.form;have hil:(iL (p0::ps)).length=ps.length+1:=by simp [iL]
 rw [hil] at h' h00 ⊢;have hpl:ps.length+1≤c.length:=by simpa using hpl
 have HOE2:=HOE.out;rw [show (p0::ps).length=ps.length+1 from rfl] at HOE2;have HOE:=zWF HOE2;have hm1:0<ps.length+1:=by omega
 generalize ps.length+1=m at *;obtain ⟨bv,ov,y,e8,hcy,hy⟩:=RI.at h' (j:=0) hm1;have hyp:y=(p0:Int):=by
  have:=hy.out;simp only [iL,List.map_cons,List.getElem?_cons_zero,Option.some.injEq] at this;exact this.symm
 subst hyp;subst e8;have HOTS:Hid (∀t,t<m→∃x,(p0::ps)[t]? = some x):=zWF (fun t ht=>by
  have h5:t<(iL (p0::ps)).length:=by
   obtain ⟨_,_,hv,_⟩:=h';simp only [Value.slice.injEq] at hv;omega
  have h6:t<(p0::ps).length:=by simpa [iL] using h5
  exact ⟨_,zWG h6⟩)
 generalize p0::ps=P at *;have HN:Hid (c.length=c.length):=zWF rfl;generalize hn:c.length=n at *;have HN:=zWF hn;clear hn hr hp hil hcp hc HOE2 hy;have lbv:=zWJ w _ hcy;have mixed:Tryz.prog.follows .mixedOrders=true:=by kernel_rfl
 go_enter Tryz.func39,Tryz.ntmps39
 go_wp2_with (at_make; (refine wpList_make_full _ rfl _ _ 28 rfl w.heap.size 3 i0 (.int .i64 0) 1 Tryz.underlying28 hi0 hz0 hz1 _ _ _ _ n rfl rfl (by first | rfl | (simp only [wrap64]; omega)) (by first | rfl | (simp only [wrap64]; omega)) ?hb ?hm ?hs ?_))
 case hb=>first | (rw [hz2]; omega) | omega
 case hm=>unfold maxLen; omega
 intro w1 hown hgr;have hb1:Below w.heap.size w w1:=(Below.refl _ w).grown hgr (zWK _) (by simp);have hf1:FI (New w w1) w1 (.slice (some ⟨w.heap.size,0,none⟩) n n) (List.replicate n 0):=FI.of_row (w:=w) (by simpa using hown) (zWK _) (by simp) (by simp [toList_madeCells_one]);clear hgr hown hi0 hz0 hz1 hz2;have hcy1:=(hb1.cell (p:=⟨bv,ov,none⟩) lbv).trans (by simpa using hcy);have hrl:(List.replicate n (0:Int)).length=n:=by simp
 have hc1:=FI.cell hf1 (k:=p0) (x:=0) (by simp [hp0]) hp0;have hz1:=hf1.froz hrl p0;have i1:(p0:Int)<(n:Int):=by omega
 have i2:(0:Int)≤(p0:Int):=by omega
 have im:(0:Int)<(m:Int):=by omega
 have hzs:(w1.setCell ⟨w.heap.size,p0,none⟩ (.int .i64 d)).heap.size=w1.heap.size:=zAI _ _ _;have hf2:=(hf1.put hrl p0 d).mono (S':=New w (w1.setCell ⟨w.heap.size,p0,none⟩ (.int .i64 d))) (fun b hb=>⟨hb.1,by rw [hzs]; exact hb.2⟩);have hb2:Below w.heap.size w (w1.setCell ⟨w.heap.size,p0,none⟩ (.int .i64 d)):=hb1.setCell (zWK _) _;go_wp2_with fail
 generalize w1.setCell ⟨w.heap.size,p0,none⟩ (.int .i64 d)=w2 at *;clear hf1 hc1 hz1 hb1 hcy1 hzs;go_loopw [8] (fun tt wr=>∃(t:Nat) (o:List Int),t≤m∧tt=.int .i64 t∧FI (New w wr) wr (.slice (some ⟨w.heap.size,0,none⟩) n n) o∧Hid ((P.take t).foldl (zEX c) (some ((List.replicate n 0).set p0 d))=some o)∧Hid (o.length=n)∧Below w.heap.size w wr) (fun tt _=>m-(intOf tt).toNat)
 case atStart=>exact ⟨0,_,Nat.zero_le _,rfl,hf2,HO0,HSL,hb2⟩
 case round =>
  obtain ⟨t,o,ht,rfl,hf,HT,HL,hb⟩:=hrel;by_cases htm:t<m
  ·have i3:(t:Int)<(m:Int):=by omega
   obtain ⟨x,hx⟩:=HOTS.out t htm;obtain ⟨o1,o2,e1,e2,e3⟩:=HO.out t x hx;rw [HT.out] at e1;simp only [Option.some.injEq] at e1;subst e1;have HN2:=zWF e3;have HMi:=zWF (HM.out o o2 x e2);have HMEi:=zWF (HME.out o o2 x e2);have HZi:=zWF (HZ.out o);clear hx e2 e3;go_wp2_with fail
   go_loopw [9] (fun ii wr=>∃(i:Nat) (oi:List Int),i≤n∧ii=.int .i64 i∧FI (New w wr) wr (.slice (some ⟨w.heap.size,0,none⟩) n n) oi∧Hid (((List.range n).take i).foldl (zDq c) (some o)=some oi)∧Hid (oi.length=n)∧Below w.heap.size w wr) (fun ii _=>n-(intOf ii).toNat)
   case atStart=>exact ⟨0,o,Nat.zero_le _,rfl,hf,HZi,HL,hb⟩
   case round =>
    obtain ⟨i,oi,hi,rfl,hf,HT,HL,hb⟩:=hrel;by_cases hin:i<n
    ·have i4:(i:Int)<(n:Int):=by omega
     obtain ⟨o1,o3,e1,e2,e3⟩:=HMi.out i hin;rw [HT.out] at e1;simp only [Option.some.injEq] at e1;subst e1;have HN3:=zWF e3;have HIi:=zWF (HI.out oi o3 i e2);have HIEi:=zWF (HIE.out oi o3 i e2);have HZ2i:=zWF (HZ2.out oi i);clear e2 e3;go_wp2_with fail
     go_loopw [10] (fun kk wr=>∃(k:Nat) (ok:List Int),k≤n∧kk=.int .i64 k∧FI (New w wr) wr (.slice (some ⟨w.heap.size,0,none⟩) n n) ok∧Hid (((List.range n).take k).foldl (zDn c i) (some oi)=some ok)∧Hid (ok.length=n)∧Below w.heap.size w wr) (fun kk _=>n-(intOf kk).toNat)
     case atStart=>exact ⟨0,oi,Nat.zero_le _,rfl,hf,HZ2i,HL,hb⟩
     case round =>
      obtain ⟨k,ok,hk,rfl,hf,HT,HL,hb⟩:=hrel;by_cases hkn:k<n
      ·have i5:(k:Int)<(n:Int):=by omega
       obtain ⟨o1,o4,e1,e2,e3⟩:=HIi.out k hkn;rw [HT.out] at e1;simp only [Option.some.injEq] at e1;subst e1;have HN4:=zWF e3;have hcs:=zLp e2;have hil:i<ok.length:=by rw [HL.out]; exact hin
       have hkl:k<ok.length:=by rw [HL.out]; exact hkn
       obtain ⟨xi,hxi⟩:∃xi,ok[i]? = some xi:=⟨ok[i],zWG hil⟩;obtain ⟨xk,hxk⟩:∃xk,ok[k]? = some xk:=⟨ok[k],zWG hkl⟩;have d0:=FI.cell hf hxi hin;have d1:=FI.cell hf hxk hkn;have z1:=hf.froz HL.out k;rw [zAS hxi,zAS hxk] at hcs;have hcw:=h0.below hb;obtain ⟨b1,o1,r1,l1,q1,hc1,hr1,hl1⟩:=RII.at hcw hin;have hln1:l1.length=n:=HROW.out l1 (zWH hl1.out);obtain ⟨ar1,cr1,rfl⟩:=hr1.form;rw [hln1] at hr1 hc1;obtain ⟨b2,o2,eik,q2,hc2,he2⟩:=RI.at hr1 hkn;obtain ⟨b3,o3,r3,l3,q3,hc3,hr3,hl3⟩:=RII.at hcw hkn;have hln3:l3.length=n:=HROW.out l3 (zWH hl3.out);obtain ⟨ar3,cr3,rfl⟩:=hr3.form;rw [hln3] at hr3 hc3;obtain ⟨b4,o4',eki,q4,hc4,he4⟩:=RI.at hr3 hin;rw [q1] at q3;simp only [Option.some.injEq,Addr.mk.injEq,and_true] at q3;obtain ⟨rfl,rfl⟩:=q3;subst q1 q2 q4
       rw [HENT.out i k l1 eik hl1.out he2.out,HENT.out k i l3 eki hl3.out he4.out] at hcs;have g0:=fun z:GW wr=>z.cell d0;have g1:=fun z:GW wr=>z.cell d1;have g2:=fun z:GW wr=>z.cell hc1;have g3:=fun z:GW wr=>z.cell hc2;have g4:=fun z:GW wr=>z.cell hc3;have g5:=fun z:GW wr=>z.cell hc4;have j0:(0:Int)≤(i:Int):=by omega
       have j00:(0:Int)≤(k:Int):=by omega
       have HSM:=zWF (fun (w8:World) (hb8:Below wr.heap.size wr w8)=>(⟨hf.grow hb8,zAA.step hb hb8⟩:FI (New w w8) w8 (.slice (some ⟨w.heap.size,0,none⟩) n n) ok∧Below w.heap.size w w8));clear hcw hr1 hl1 hr3 hl3 hln1 hln3 he2 he4 e2 e3 hil hkl;rcases hcs with ⟨c1,rfl⟩ | ⟨c1,c2,rfl⟩ | ⟨c1,c2,c3,rfl⟩ | ⟨c1,c2,c3,c4,rfl⟩ | ⟨c1,c2,c3,c4,c5,c6,⟨c7,rfl⟩ | ⟨c7,rfl⟩⟩
       ·have f1:¬(0:Int)<xi:=c1;have f1':decide ((0:Int)<xi)=false:=decide_eq_false c1;clear c1;go_wp2_with fail
        refine zAg (by kernel_rfl) (by kernel_rfl) ?_
        repeat (go_big_quiet_step ((first | (rename_i z; fail))))
        refine wpQuiet_nil ?_;intro w8 hb8;have HS8:=zWF (HSM.out w8 hb8);clear hb8 g0 g1 g2 g3 g4 g5;go_wp2_with fail
        go_roundw
        case rel=>exact ⟨k+1,_,by omega,by go_num,HS8.out.1,HN4,HL,HS8.out.2⟩
        case measure=>simp [intOf]; omega
       ·have f1:(0:Int)<xi:=c1;have f2:(xk == 0)=false:=by simp [c2]
        clear c1 c2;go_wp2_with fail
        refine zAg (by kernel_rfl) (by kernel_rfl) ?_
        repeat (go_big_quiet_step ((first | (rename_i z; fail))))
        refine wpQuiet_nil ?_;intro w8 hb8;have HS8:=zWF (HSM.out w8 hb8);clear hb8 g0 g1 g2 g3 g4 g5;go_wp2_with fail
        go_roundw
        case rel=>exact ⟨k+1,_,by omega,by go_num,HS8.out.1,HN4,HL,HS8.out.2⟩
        case measure=>simp [intOf]; omega
       ·have f1:(0:Int)<xi:=c1;have f2:(xk == 0)=true:=by simp [c2]
        have f3:((i:Int) != (k:Int))=false:=by simp [c3]
        clear c1 c2 c3;go_wp2_with fail
        refine zAg (by kernel_rfl) (by kernel_rfl) ?_
        repeat (go_big_quiet_step ((first | (rename_i z; fail))))
        refine wpQuiet_nil ?_;intro w8 hb8;have HS8:=zWF (HSM.out w8 hb8);clear hb8 g0 g1 g2 g3 g4 g5;go_wp2_with fail
        go_roundw
        case rel=>exact ⟨k+1,_,by omega,by go_num,HS8.out.1,HN4,HL,HS8.out.2⟩
        case measure=>simp [intOf]; omega
       ·have f1:(0:Int)<xi:=c1;have f2:(xk == 0)=true:=by simp [c2]
        have f3:((i:Int) != (k:Int))=true:=by simp; omega
        have f4:(eik != 0)=false:=by simp [c4]
        clear c1 c2 c3 c4;go_wp2_with fail
        refine zAg (by kernel_rfl) (by kernel_rfl) ?_
        repeat (go_big_quiet_step ((first | (rename_i z; fail))))
        refine wpQuiet_nil ?_;intro w8 hb8;have HS8:=zWF (HSM.out w8 hb8);clear hb8 g0 g1 g2 g3 g4 g5;go_wp2_with fail
        go_roundw
        case rel=>exact ⟨k+1,_,by omega,by go_num,HS8.out.1,HN4,HL,HS8.out.2⟩
        case measure=>simp [intOf]; omega
       ·have f1:(0:Int)<xi:=c1;have f2:(xk == 0)=true:=by simp [c2]
        have f3:((i:Int) != (k:Int))=true:=by simp; omega
        have f4:(eik != 0)=true:=by simp [c4]
        have f5:(eki == 0)=false:=by simp [c5]
        obtain ⟨wr1,wr2⟩:=zFU c6.1 c6.2;have f7:((xi*eik).tmod eki == 0)=false:=by simp [c7]
        clear c1 c2 c3 c4 c6 c7;go_wp2_with fail
        refine zAg (by kernel_rfl) (by kernel_rfl) ?_
        repeat (go_big_quiet_step ((first | (rename_i z; fail))))
        refine wpQuiet_nil ?_;intro w8 hb8;have HS8:=zWF (HSM.out w8 hb8);clear hb8 g0 g1 g2 g3 g4 g5;go_wp2_with fail
        go_roundw
        case rel=>exact ⟨k+1,_,by omega,by go_num,HS8.out.1,HN4,HL,HS8.out.2⟩
        case measure=>simp [intOf]; omega
       ·have f1:(0:Int)<xi:=c1;have f2:(xk == 0)=true:=by simp [c2]
        have f3:((i:Int) != (k:Int))=true:=by simp; omega
        have f4:(eik != 0)=true:=by simp [c4]
        have f5:(eki == 0)=false:=by simp [c5]
        obtain ⟨wr1,wr2⟩:=zFU c6.1 c6.2;have f7:((xi*eik).tmod eki == 0)=true:=by simp [c7]
        have f8:-1000000≤(xi*eik).tdiv eki∧(xi*eik).tdiv eki≤1000000:=zGL c6.1 c6.2;clear c1 c2 c3 c4 c6 c7;go_wp2_with fail
        refine zAg (by kernel_rfl) (by kernel_rfl) ?_
        repeat (go_big_quiet_step ((first | (rename_i z; fail))))
        refine wpQuiet_nil ?_;intro w8 hb8;have HS8:=zWF (HSM.out w8 hb8);have d0:=(hb8.cell (p:=⟨w.heap.size,i,none⟩) (zWJ _ _ d0)).trans d0;have d1:=(hb8.cell (p:=⟨w.heap.size,k,none⟩) (zWJ _ _ d1)).trans d1;have hc1:=(hb8.cell (p:=⟨b1,o1+i,none⟩) (zWJ _ _ hc1)).trans hc1;have hc2:=(hb8.cell (p:=⟨b2,o2+k,none⟩) (zWJ _ _ hc2)).trans hc2;have hc3:=(hb8.cell (p:=⟨b1,o1+k,none⟩) (zWJ _ _ hc3)).trans hc3;have hc4:=(hb8.cell (p:=⟨b4,o4'+i,none⟩) (zWJ _ _ hc4)).trans hc4;have z1:=HS8.out.1.froz HL.out k;have hput:=(HS8.out.1.put HL.out k ((xi*eik).tdiv eki)).mono (S':=New w (w8.setCell ⟨w.heap.size,k,none⟩ (.int .i64 ((xi*eik).tdiv eki)))) (fun b hb=>⟨hb.1,by rw [zAI]; exact hb.2⟩);have hbp:=HS8.out.2.setCell (p:=⟨w.heap.size,k,none⟩) (zWK _) (.int .i64 ((xi*eik).tdiv eki));have HP:=zWF (And.intro hput hbp)
        clear hb8 g0 g1 g2 g3 g4 g5 hput hbp hf;go_wp2_with fail
        go_big_region_o
        go_wp2_with fail
        go_roundw
        case rel=>exact ⟨k+1,_,by omega,by go_num,HP.out.1.grow ((Below.refl _ _).drew),HN4,zWF (by simp [HL.out]),HP.out.2.drew⟩
        case measure=>simp [intOf]; omega
      ·have hkm:k=n:=by omega
       have i5:¬(k:Int)<(n:Int):=by omega
       have hT:=HT.out;rw [hkm,HIEi.out] at hT;simp only [Option.some.injEq] at hT;subst hT;clear hkm;go_wp2_with fail
       go_roundw
       case rel=>exact ⟨i+1,_,by omega,by go_num,hf,HN3,HL,hb⟩
       case measure=>simp [intOf]; omega
    ·have hkm:i=n:=by omega
     have i4:¬(i:Int)<(n:Int):=by omega
     have hT:=HT.out;rw [hkm,HMEi.out] at hT;simp only [Option.some.injEq] at hT;subst hT;clear hkm;go_wp2_with fail
     go_roundw
     case rel=>exact ⟨t+1,_,by omega,by go_num,hf,HN2,HL,hb⟩
     case measure=>simp [intOf]; omega
  ·have hkm:t=m:=by omega
   have i3:¬(t:Int)<(m:Int):=by omega
   have hT:=HT.out;rw [hkm,HOE.out] at hT;simp only [Option.some.injEq] at hT;subst hT;clear hkm;go_wp2_with fail
   go_ret
   exact ⟨_,_,rfl,hf,HL.out,hb⟩
theorem zOF {x y:Int} (hy:y≠0) (h:-1000000≤y∧y≤1000000):(x.tmod y).natAbs<y.natAbs∧-1000000≤x.tmod y∧x.tmod y≤1000000:=by
 have:=Int.natAbs_tmod x y;have:x.natAbs % y.natAbs<y.natAbs:=Nat.mod_lt _ (by omega);omega
theorem zO2 {f:Nat} {x y g:Int} (h:gcdF f x y=some g) (hy:y≠0):∃f',f=f'+1∧gcdF f' y (x.tmod y)=some g:=by
 cases f with
 | zero=>simp only [gcdF,if_neg hy] at h; cases h
 | succ f=>exact ⟨f,rfl,by simpa only [gcdF,if_neg hy] using h⟩
theorem zRV {f:Nat} {x g:Int} (h:gcdF f x 0=some g):x=g:=by
 cases f <;> simpa [gcdF] using h
theorem zTh {x y g:Int} {w:World} (h:gcdP x y=some g) :
  Calls Tryz.prog 36 #[.int .i64 x,.int .i64 y] w fun e w'=>e=.returned (.int .i64 g)∧∃m,w'=w.drewN m:=by
 unfold gcdP at h;split at h
 case isFalse=>cases h
 rename_i hxy
 obtain ⟨hx1,hx2,hy1,hy2⟩:=hxy;have HG:=zWF h;clear h;have mixed:Tryz.prog.follows .mixedOrders=true:=by kernel_rfl
 go_enter Tryz.func36,Tryz.ntmps36
 go_wp2_with fail
 go_loopw [0,1] (fun aa bb wr=>∃(f:Nat) (a b:Int),aa=.int .i64 a∧bb=.int .i64 b∧Hid (gcdF f a b=some g)∧(-1000000≤b∧b≤1000000)∧(-1000000≤a∧a≤1000000)∧∃m,wr=w.drewN m) (fun _ bb _=>(intOf bb).natAbs)
 case atStart=>exact ⟨40,x,y,rfl,rfl,HG,⟨hy1,hy2⟩,⟨hx1,hx2⟩,0,rfl⟩
 case round =>
  obtain ⟨f,a,b,rfl,rfl,HF,hb,ha,m,rfl⟩:=hrel;by_cases h0:b=0
  ·subst h0;have hg:=zRV HF.out;subst hg;go_wp2_with fail
   go_ret
   exact ⟨rfl,m,rfl⟩
  ·have f1:(b != 0)=true:=by simp [h0]
   have f2:(b == 0)=false:=by simp [h0]
   obtain ⟨f',_,hs⟩:=zO2 HF.out h0;have HS:=zWF hs;obtain ⟨t1,t2,t3⟩:=zOF (x:=a) h0 hb;have HT:=zWF t1;clear hs t1;go_wp2_with fail
   go_big_region_o
   go_wp2_with fail
   go_roundw
   case rel=>exact ⟨f',_,_,rfl,rfl,HS,⟨t2,t3⟩,hb,m+1,rfl⟩
   case measure=>simpa [intOf] using HT.out
end Go.Proofs.YtphbichgpcicnaaGreatDoor
