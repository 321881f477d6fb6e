/- Numbers that make a matrix symmetric, by the reference. Condition: sizes up to 2^24. -/
import Derived.Test.YtphbichgpcicnaaGreatDoorJGScale
namespace Go.Proofs.YtphbichgpcicnaaGreatDoor
open Go.RowKit
set_option maxRecDepth 20000
set_option maxHeartbeats 8000000
theorem RI.setOff {lo hi:Nat} {w:World} {v:Value} {l:List Int} {g j:Nat} {x:Value} (h:RI (Bt lo hi) w v l) (hg:g<lo∨hi≤g):RI (Bt lo hi) (w.setCell ⟨g,j,none⟩ x) v l :=
 RI.keep h fun b hb _=>heap_setCell_other w ⟨g,j,none⟩ b x (fun e=>by have e:b=g:=e; subst e; have:=hb.1; have:=hb.2; omega)
theorem RII.setOff {lo hi:Nat} {w:World} {v:Value} {l:List (List Int)} {g j:Nat} {x:Value} (h:RII (Bt lo hi) w v l) (hg:g<lo∨hi≤g):RII (Bt lo hi) (w.setCell ⟨g,j,none⟩ x) v l :=
 RII.keep h fun b hb _=>heap_setCell_other w ⟨g,j,none⟩ b x (fun e=>by have e:b=g:=e; subst e; have:=hb.1; have:=hb.2; omega)
theorem zFK {c:List (List Int)} {p:List Nat} (h:p∈zBU c):(∀j∈p,j<c.length)∧p.length≤c.length:=by
 unfold zBU zAt at h;obtain ⟨i,hi,e⟩:=List.mem_filterMap.1 h;split at e
 ·simp only [Option.some.injEq] at e;subst e;exact ⟨fun j hj=>zT4 hj,Nat.le_trans (List.length_filter_le _ _) (by simp)⟩
 ·cases e
theorem zIK {c:List (List Int)} {p:List Nat} {o o':List Int} {f:Nat} {d:Int} (h:tryS c p o (f+1) d=some o') :
  ∃l,zEz c p d=some l∧((zCe l p=true∧o'=layS l o p)∨(zCe l p=false∧tryS c p o f (d+1)=some o')):=by
 simp only [tryS] at h;cases e:zEz c p d with
 | none=>rw [e] at h; cases h
 | some l =>
  rw [e] at h;simp only at h;refine ⟨l,rfl,?_⟩;cases e2:zCe l p with
  | true=>rw [e2,if_pos rfl] at h; simp only [Option.some.injEq] at h; exact .inl ⟨rfl,h.symm⟩
  | false=>rw [e2,if_neg (by simp)] at h; exact .inr ⟨rfl,h⟩
theorem zOw {l:List Int} {p:List Nat} {k x:Nat} (h:p[k]? = some x):zCe l (p.take (k+1))=(zCe l (p.take k) && decide (0<num l x)):=by
 rw [zAG h]; simp [zCe]
theorem zRa {l o:List Int} {p:List Nat} {k x:Nat} (h:p[k]? = some x):layS l o (p.take (k+1))=(layS l o (p.take k)).set x (num l x):=by
 rw [zAG h]; simp [layS]
theorem zEd {l:List Int}:∀(p:List Nat) (o:List Int),(layS l o p).length=o.length
 | [],_=>rfl
 | x::p,o=>by
  have:=zEd (l:=l) p (o.set x (num l x));simpa [layS] using this
theorem zJr (c:List (List Int)) (p:List Nat):zC6 c none p=none:=rfl
theorem zG7 {c:List (List Int)} {p:List Nat} {o o':List Int}:∀(f:Nat) (d:Int),tryS c p o f d=some o'→o'.length=o.length
 | 0,_,h=>by simp only [tryS,Option.some.injEq] at h; rw [h]
 | f+1,d,h=>by
  obtain ⟨l,_,⟨_,rfl⟩ | ⟨_,h2⟩⟩:=zIK h
  ·exact zEd p o
  ·exact zG7 f (d+1) h2
def smR (c:List (List Int)):List Int:=if finB c=true then symP c else []
def SmC (c:List (List Int)) (w:World) (e:Ending) (w':World):Prop:=∃r,e=.returned (.tuple #[r,.bool (finB c)])∧FI (New w w') w' r (smR c)∧Below w.heap.size w w'
theorem zM1 {S:Nat→Prop} {u:Value} {c:List (List Int)} {w:World} (h:RII S w u c) (hl:total c≤16777216) :
  Calls Tryz.prog 9 #[u] w (SmC c w):=by
 obtain ⟨i0,hi0,hz0,hz1,hz2⟩:=info_parts zBI;have hfin:=zEH h hl;have mixed:Tryz.prog.follows .mixedOrders=true:=by kernel_rfl
 have HRES:Hid (SmC c w=fun e w'=>∃r,e=.returned (.tuple #[r,.bool (finB c)])∧FI (New w w') w' r (smR c)∧Below w.heap.size w w'):=zWF rfl;cases hF:finB c with
 | false =>
  have HR:Hid (smR c=[]):=zWF (by unfold smR; rw [hF]; rfl);have HFF:=zWF hF;rw [hF] at hfin;clear hF;go_enter Tryz.func9,Tryz.ntmps9
  go_wp2_with fail
  refine hfin.mono ?_;rintro e w1 ⟨rfl,b1⟩;have hf:=zAR b1 (w1:=w1.alloc (.cells #[] 3)) rfl;go_wp2_with fail
  go_ret2
  rw [HRES.out];exact ⟨_,by rw [HFF.out]; rfl,by rw [HR.out]; exact hf.1,hf.2⟩
 | true =>
  have hfp:=zCZ hF;have hcP:=hfp.cart;have hcB:isC c=true:=zAK.2 hcP;obtain ⟨_,hsy,_,_⟩:=hfp.sym;have HR:Hid (smR c=symP c):=zWF (by unfold smR; rw [hF]; rfl);have HFF:=zWF hF;rw [hF] at hfin;have h4:c.length≤4:=hcP.le;have h1n:1≤c.length:=hcP.pos;have HPS:=fun w1 (b1:Below w.heap.size w w1)=>zPY (h.below b1) hcB hl;have HSC:=zWF (fun w1 (b1:Below w.heap.size w w1) (S':Nat→Prop) (v:Value) (p:List Nat) (d:Int) (l:List Int) (h':RI S' w1 v (iL p)) (hp:p∈zBU c) (hr:zEz c p d=some l)=>zPn (h.below b1) h' hcB (zFK hp).1 (zFK hp).2 hr);have HMP:=zWF (fun (p:List Nat) (hp:p∈zBU c)=>zFK hp);have hfold:(zBU c).foldl (zC6 c) (some (List.replicate c.length 0))=some (symP c):=hsy;have HO:=zWF (fun (t:Nat) (x:List Nat) (hx:(zBU c)[t]? = some x)=>zB3 (zJr c) (by rw [hfold]; rfl) hx)
  have HOE:Hid (((zBU c).take (zBU c).length).foldl (zC6 c) (some (List.replicate c.length 0))=some (symP c)):=zWF (by rw [List.take_of_length_le (zWK _)]; exact hfold);have HO0:Hid (((zBU c).take 0).foldl (zC6 c) (some (List.replicate c.length 0))=some (List.replicate c.length 0)):=zWF rfl;have HML:Hid ((zBU c).length≤c.length):=zWF (zG3 c c.length);have HSL:Hid ((List.replicate c.length (0:Int)).length=c.length):=zWF (by simp);generalize symP c=R at *;generalize zBU c=P at *;have h0:=h;obtain ⟨au,cu,rfl⟩:=h.form;generalize hn:c.length=n at *;have HN:=zWF hn;clear hn hF hsy hfold hcB hcP hfp;go_enter Tryz.func9,Tryz.ntmps9
  go_wp2_with fail
  refine hfin.mono ?_;rintro e w1 ⟨rfl,b1⟩;go_wp2_with (at_make; (refine wpList_make_full _ rfl _ _ 28 rfl w1.heap.size 3 i0 (.int .i64 0) 1 Tryz.underlying28 hi0 hz0 hz1 _ _ _ _ n rfl rfl (by first | rfl | (simp only [wrap64]; omega)) (by first | rfl | (simp only [wrap64]; omega)) ?hb ?hm ?hs ?_))
  case hb=>first | (rw [hz2]; omega) | omega
  case hm=>unfold maxLen; omega
  case hs=>exact zWK _
  intro w2 hown hgr;have bb2:Below w1.heap.size w1 w2:=(Below.refl _ w1).grown hgr (zWK _) (by simp);have b2:=zAA.step b1 bb2;have hf2:FI (New w w2) w2 (.slice (some ⟨w1.heap.size,0,none⟩) n n) (List.replicate n 0):=(FI.of_row (w:=w1) (by simpa using hown) (zWK _) (by simp) (by simp [toList_madeCells_one])).mono (fun b hb=>⟨Nat.le_trans b1.size hb.1,hb.2⟩);have hg2:w1.heap.size<w2.heap.size:=(hf2.2 w1.heap.size rfl).2;have hwg:w.heap.size≤w1.heap.size:=b1.size;clear hgr hown hi0 hz0 hz1 hz2 hfin;generalize w1.heap.size=g at *;clear b1 bb2;have hps:=HPS w2 b2;go_wp2_with fail
  refine hps.mono ?_;rintro e w3 ⟨r3,rfl,f3,b3⟩;have b03:=zAA.step b2 b3;have hf3:=hf2.grow b3;obtain ⟨ap,cp,rfl⟩:=f3.form;have hL3:RII (Bt w2.heap.size w3.heap.size) w3 (.slice ap (P.map iL).length cp) (P.map iL):=f3.reads;rw [List.length_map] at hL3 ⊢;clear f3 hps HPS hf2;have HML:=HML.out;generalize hK:P.length=K at *;have HK:=zWF hK;clear hK;generalize hlo:w2.heap.size=lo at *;generalize hhi:w3.heap.size=hi at *;clear hlo hhi b3 b2;go_wp2_with fail
  go_loopw [6] (fun tt wr=>∃(t:Nat) (o:List Int),t≤K∧tt=.int .i64 t∧FI (New w wr) wr (.slice (some ⟨g,0,none⟩) n n) o∧Hid ((P.take t).foldl (zC6 c) (some (List.replicate n 0))=some o)∧Hid (o.length=n)∧Below w.heap.size w wr∧RII (Bt lo hi) wr (.slice ap K cp) (P.map iL)) (fun tt _=>K-(intOf tt).toNat)
  case atStart=>exact ⟨0,_,Nat.zero_le _,rfl,hf3,HO0,HSL,b03,hL3⟩
  case round =>
   obtain ⟨t,o,ht,rfl,hf,HT,HL,hb,hL⟩:=hrel;by_cases htm:t<K
   ·have i3:(t:Int)<(K:Int):=by omega
    obtain ⟨x,hx⟩:∃x,P[t]? = some x:=⟨P[t]'(by rw [HK.out]; exact htm),zWG _⟩;have hxP:x∈P:=zWH hx;obtain ⟨o1,o2,e1,e2,e3⟩:=HO.out t x hx;rw [HT.out] at e1;simp only [Option.some.injEq] at e1;subst e1;have HN2:=zWF e3;obtain ⟨bp,op,rp,lp,q1,hcp,hrp,hlp⟩:=RII.at hL htm;have hlx:lp=iL x:=by
     have:=hlp.out;rw [List.getElem?_map,hx] at this;simpa using this.symm
    subst hlx;subst q1;obtain ⟨ar,cr,rfl⟩:=hrp.form;have hil:(iL x).length=x.length:=by simp [iL]
    rw [hil] at hrp hcp;obtain ⟨hxm,hxl⟩:=HMP.out x hxP;have e2:tryS c x o 3 1=some o2:=e2;have HL2:Hid (o2.length=n):=zWF (by rw [zG7 _ _ e2]; exact HL.out);have HXM:=zWF hxm;have HXP:=zWF hxP;generalize hml:x.length=m at *;have HXL:=zWF hml;have HE2:=zWF e2;clear e2 e3 hlp hx hil hml hxm hxP;go_wp2_with fail
    go_loopw [8] (fun dd wr=>∃(f:Nat) (o':List Int),f≤3∧dd=.int .i64 (4-(f:Int))∧FI (New w wr) wr (.slice (some ⟨g,0,none⟩) n n) o'∧Hid (tryS c x o' f (4-(f:Int))=some o2)∧Hid (o'.length=n)∧Below w.heap.size w wr∧RII (Bt lo hi) wr (.slice (some ⟨bp,op,none⟩) K cp) (P.map iL)∧RI (Bt lo hi) wr (.slice ar m cr) (iL x)) (fun dd _=>4-(intOf dd).toNat)
    case atStart=>exact ⟨3,o,by omega,rfl,hf,HE2,HL,hb,hL,hrp⟩
    case round =>
     obtain ⟨f,o',hfl,rfl,hf,HT,HL,hb,hL,hrp⟩:=hrel;cases f with
     | zero =>
      have e5:=HT.out;simp only [tryS,Option.some.injEq] at e5;subst e5;go_wp2_with fail
      go_roundw
      case rel=>exact ⟨t+1,_,by omega,by go_num,hf,HN2,HL,hb,hL⟩
      case measure=>simp [intOf]; omega
     | succ f =>
      obtain ⟨l,hsc,hcs⟩:=zIK HT.out;have i4:(4-((f+1:Nat):Int))≤3:=by omega
      have hcall:=HSC.out wr hb _ _ _ _ _ hrp HXP.out hsc;have HCS:=zWF hcs;clear hcs;have HL8:=zWF (show ∀w8:World,Below wr.heap.size wr w8→FI (New w w8) w8 (.slice (some ⟨g,0,none⟩) n n) o'∧Below w.heap.size w w8∧RII (Bt lo hi) w8 (.slice (some ⟨bp,op,none⟩) K cp) (P.map iL)∧RI (Bt lo hi) w8 (.slice ar m cr) (iL x) from fun w8 b8=>⟨hf.grow b8,zAA.step hb b8,hL.below b8,hrp.below b8⟩);have hgw:g<wr.heap.size:=(hf.2 g rfl).2;clear hf hb hL hrp hsc;go_wp2_with fail
      refine hcall.mono ?_;rintro e w8 ⟨a8,k8,rfl,f8,hl8,b8⟩;obtain ⟨hf,hb,hL,hrp⟩:=HL8.out w8 b8;have hL1:RI (Bt wr.heap.size w8.heap.size) w8 (.slice a8 n k8) l:=f8.reads;clear hcall f8;generalize wr.heap.size=lo8 at *;generalize hhi8:w8.heap.size=hi8 at *;clear hhi8 b8;have HXE:Hid (x.take m=x):=zWF (List.take_of_length_le (by rw [HXL.out]; exact zWK _));go_wp2_with fail
      go_loopw [10,11] (fun bb ii wi=>∃i:Nat,i≤m∧ii=.int .i64 i∧bb=.bool (zCe l (x.take i))∧wi=w8) (fun _ ii _=>m-(intOf ii).toNat)
      case atStart=>exact ⟨0,Nat.zero_le _,rfl,rfl,rfl⟩
      case round =>
       obtain ⟨i,hi',rfl,rfl,rfl⟩:=hrel;by_cases him:i<m
       ·have i5:(i:Int)<(m:Int):=by omega
        obtain ⟨xi,hxi⟩:∃xi,x[i]? = some xi:=⟨x[i]'(by rw [HXL.out]; exact him),zWG _⟩;have hst:=zOw (l:=l) hxi;have hxn:xi<n:=HXM.out xi (zWH hxi);obtain ⟨b5,o5,y5,q5,hc5,hy5⟩:=RI.at hrp him;have hyx:y5=(xi:Int):=by
         have:=hy5.out;simp only [iL,List.getElem?_map,hxi,Option.map_some,Option.some.injEq] at this;exact this.symm
        subst hyx;subst q5;obtain ⟨b6,o6,y6,q6,hc6,hy6⟩:=RI.at hL1 hxn;subst q6;rw [zAS hy6.out] at hst;have i6:(0:Int)≤(xi:Int):=by omega
        have i7:(xi:Int)<(n:Int):=by omega
        cases hfi:zCe l (x.take i) with
        | false =>
         rw [hfi,Bool.false_and] at hst;have HST:=zWF hst;clear hst hfi hxi hy5 hy6;go_wp2_with fail
         go_roundw
         case rel=>exact ⟨i+1,by omega,by go_num,by rw [HST.out],by first | trivial | rfl⟩
         case measure=>simp [intOf]; omega
        | true =>
         rw [hfi,Bool.true_and] at hst;have HST:=zWF hst;clear hst hfi hxi hy5 hy6;go_wp2_with fail
         go_roundw
         case rel=>exact ⟨i+1,by omega,by go_num,by rw [HST.out],by first | trivial | rfl⟩
         case measure=>simp [intOf]; omega
       ·have him2:i=m:=by omega
        have i5:¬(i:Int)<(m:Int):=by omega
        have HFE:Hid (zCe l (x.take i)=zCe l x):=zWF (by rw [him2,HXE.out]);clear him2;rw [HFE.out];cases hfx:zCe l x with
        | false =>
         rcases HCS.out with ⟨e5,_⟩ | ⟨_,e5⟩
         ·rw [hfx] at e5; cases e5
         ·have HT5:=zWF e5;clear hfx e5;go_wp2_with fail
          go_roundw
          case rel=>exact ⟨f,o',by omega,by go_num,hf,by rw [show (4-(f:Int))=4-((f+1:Nat):Int)+1 by omega]; exact HT5,HL,hb,hL,hrp⟩
          case measure=>simp [intOf]; omega
        | true =>
         rcases HCS.out with ⟨_,e5⟩ | ⟨e5,_⟩
         ·have HT5:=zWF e5;clear hfx e5;have H00:Hid (layS l o' (x.take 0)=o'):=zWF rfl;have HLAY:=zWF (fun i:Nat=>zEd (l:=l) (x.take i) o');have hf9:FI (New w wr) wr (.slice (some ⟨g,0,none⟩) n n) (layS l o' (x.take 0)):=by rw [H00.out]; exact hf
          clear hf;go_wp2_with fail
          go_loopw [12] (fun ii wi=>∃i:Nat,i≤m∧ii=.int .i64 i∧FI (New w wi) wi (.slice (some ⟨g,0,none⟩) n n) (layS l o' (x.take i))∧Below w.heap.size w wi∧RII (Bt lo hi) wi (.slice (some ⟨bp,op,none⟩) K cp) (P.map iL)∧RI (Bt lo hi) wi (.slice ar m cr) (iL x)∧RI (Bt lo8 hi8) wi (.slice a8 n k8) l) (fun ii _=>m-(intOf ii).toNat)
          case atStart=>exact ⟨0,Nat.zero_le _,rfl,hf9,hb,hL,hrp,hL1⟩
          case round =>
           clear hf9 hb hL hrp hL1;obtain ⟨i,hi',rfl,hf,hb,hL,hrp,hL1⟩:=hrel;by_cases him:i<m
           ·have i5:(i:Int)<(m:Int):=by omega
            obtain ⟨xi,hxi⟩:∃xi,x[i]? = some xi:=⟨x[i]'(by rw [HXL.out]; exact him),zWG _⟩;have hst:=zRa (l:=l) (o:=o') hxi;have hxn:xi<n:=HXM.out xi (zWH hxi);have hlay:=HLAY.out i;rw [HL.out] at hlay;obtain ⟨b5,o5,y5,q5,hc5,hy5⟩:=RI.at hrp him;have hyx:y5=(xi:Int):=by
             have:=hy5.out;simp only [iL,List.getElem?_map,hxi,Option.map_some,Option.some.injEq] at this;exact this.symm
            subst hyx;subst q5;obtain ⟨b6,o6,y6,q6,hc6,hy6⟩:=RI.at hL1 hxn;subst q6;rw [zAS hy6.out] at hst;have i6:(0:Int)≤(xi:Int):=by omega
            have i7:(xi:Int)<(n:Int):=by omega
            have z1:=hf.froz hlay xi;obtain ⟨y,hy⟩:∃y,(layS l o' (x.take i))[xi]? = some y:=⟨(layS l o' (x.take i))[xi]'(by rw [hlay]; exact hxn),zWG _⟩;have d0:=FI.cell hf hy hxn;have hput:=(hf.put hlay xi y6).mono (S':=New w (wr.setCell ⟨g,xi,none⟩ (.int .i64 y6))) (fun b hb=>⟨hb.1,by rw [zAI]; exact hb.2⟩);rw [<-hst] at hput;have HP:=zWF (And.intro hput (And.intro (hb.setCell (p:=⟨g,xi,none⟩) hwg (.int .i64 y6)) (And.intro (hL.setOff (g:=g) (j:=xi) (x:=.int .i64 y6) (.inl hg2)) (And.intro (hrp.setOff (g:=g) (j:=xi) (x:=.int .i64 y6) (.inl hg2)) (hL1.setOff (g:=g) (j:=xi) (x:=.int .i64 y6) (.inl hgw))))));clear hput hst hy hy5 hy6 hxi hlay hf hL hrp hL1 hb;go_wp2_with fail
            go_big_region_o
            go_wp2_with fail
            go_roundw
            case rel=>exact ⟨i+1,by omega,by go_num,HP.out.1.grow ((Below.refl _ _).drew),HP.out.2.1.drew,HP.out.2.2.1.drew,HP.out.2.2.2.1.drew,HP.out.2.2.2.2.drew⟩
            case measure=>simp [intOf]; omega
           ·have him2:i=m:=by omega
            have i5:¬(i:Int)<(m:Int):=by omega
            rw [him2,HXE.out,<-HT5.out] at hf;clear him2;go_wp2_with fail
            go_roundw
            case rel=>exact ⟨t+1,_,by omega,by go_num,hf,HN2,HL2,hb,hL⟩
            case measure=>simp [intOf]; omega
         ·rw [hfx] at e5; cases e5
   ·have hkm:t=K:=by omega
    have i3:¬(t:Int)<(K:Int):=by omega
    have hT:=HT.out;rw [hkm,HOE.out] at hT;simp only [Option.some.injEq] at hT;subst hT;clear hkm;go_wp2_with fail
    go_ret2
    rw [HRES.out];exact ⟨_,by rw [HFF.out]; rfl,by rw [HR.out]; exact hf,hb⟩
theorem zSC {S:Nat→Prop} {u:Value} {c:List (List Int)} {w:World} (h:RII S w u c) (hl:total c≤16777216) :
  Calls Tryz.prog 9 #[u] w fun e w'=>∃r,e=.returned (.tuple #[r,.bool (finB c)])∧FI (New w w') w' r (smR c)∧Below w.heap.size w w':=zM1 h hl
theorem zVh (c:List (List Int)):(smR c).length≤4:=by
 unfold smR;split
 ·rename_i hF
  have hfp:=zCZ hF;have h4:c.length≤4:=hfp.cart.le;obtain ⟨_,_,h3,_⟩:=hfp.sym;omega
 ·simp
theorem zWD {a b:Int}:wrap64 a=wrap64 b↔a % 18446744073709551616=b % 18446744073709551616:=by unfold wrap64; omega
theorem zVq (a:Int):wrap64 a % 18446744073709551616=a % 18446744073709551616:=by unfold wrap64; omega
theorem zIO (a b:Int):wrap64 (wrap64 a*b)=wrap64 (a*b):=by
 rw [zWD,Int.mul_emod,zVq,<-Int.mul_emod]
theorem zUy (a b:Int):wrap64 (a*wrap64 b)=wrap64 (a*b):=by rw [Int.mul_comm,zIO,Int.mul_comm]
theorem zVp (a b:Int):wrap64 (wrap64 a+wrap64 b)=wrap64 (a+b):=by unfold wrap64; omega
def smI (f:Nat→Int):Nat→Int
 | 0=>0
 | k+1=>smI f k+f k
theorem zMt (a:Int) (f:Nat→Int):∀k,a*smI f k=smI (fun j=>a*f j) k
 | 0=>by simp [smI]
 | k+1=>by simp only [smI,Int.mul_add,zMt a f k]
theorem zJS {f g:Nat→Int}:∀{k:Nat},(∀j,j<k→f j=g j)→smI f k=smI g k
 | 0,_=>rfl
 | k+1,h=>by simp only [smI]; rw [zJS (fun j hj=>h j (by omega)),h k (by omega)]
def prI (l r:List Int):Nat→Int
 | 0=>0
 | k+1=>wrap64 (prI l r k+wrap64 (num l k*num r k))
theorem zK4 (l r:List Int):∀k,prI l r k=wrap64 (smI (fun j=>num l j*num r j) k)
 | 0=>by simp [prI,smI,wrap64]
 | k+1=>by simp only [prI,smI]; rw [zK4 l r k,zVp]
def nmI (d:List Int) (c:List (List Int)) (r:List Int):Nat→Int
 | 0=>0
 | i+1=>wrap64 (nmI d c r i+wrap64 (wrap64 (num d i*num r i)*prI (c[i]?.getD []) r r.length))
def nmR (d:List Int) (c:List (List Int)) (r:List Int) (i:Nat) (s:Int):Nat→Int
 | 0=>s
 | k+1=>wrap64 (nmR d c r i s k+wrap64 (wrap64 (wrap64 (num d i*num (c[i]?.getD []) k)*num r i)*num r k))
def nmS (d:List Int) (c:List (List Int)) (r:List Int):Nat→Int
 | 0=>0
 | i+1=>nmR d c r i (nmS d c r i) c.length
theorem wr4 (D C R K:Int):wrap64 (wrap64 (wrap64 (D*C)*R)*K)=wrap64 (D*R*(C*K)):=by
 rw [zIO,Int.mul_assoc (wrap64 _),zIO];congr 1
 ac_rfl
theorem zPK (d:List Int) (c:List (List Int)) (r:List Int) (i:Nat) (s:Int):∀k,wrap64 (nmR d c r i s k)=wrap64 (s+smI (fun j=>num d i*num r i*(num (c[i]?.getD []) j*num r j)) k)
 | 0=>by simp [nmR,smI]
 | k+1=>by
  have ih:=zPK d c r i s k;simp only [nmR,smI];rw [wr4];generalize num d i*num r i*(num (c[i]?.getD []) k*num r k)=t at *;generalize smI _ k=u at *;unfold wrap64 at *;omega
theorem zPL {d:List Int} {c:List (List Int)} {r:List Int} {i:Nat} {s:Int} (h:wrap64 s=s):∀k,wrap64 (nmR d c r i s k)=nmR d c r i s k
 | 0=>h
 | k+1=>by simp only [nmR]; unfold wrap64; omega
theorem zPM (d:List Int) (c:List (List Int)) (r:List Int):∀i,wrap64 (nmS d c r i)=nmS d c r i
 | 0=>by simp [nmS,wrap64]
 | i+1=>zPL (zPM d c r i) _
theorem zJ2 {d:List Int} {c:List (List Int)} {r:List Int} (hr:r.length=c.length):∀i,nmI d c r i=nmS d c r i
 | 0=>by simp [nmI,nmS]
 | i+1=>by
  have ih:=zJ2 (d:=d) (c:=c) (r:=r) hr i;have h1:=zPK d c r i (nmS d c r i) c.length;have h2:=zPL (d:=d) (c:=c) (r:=r) (i:=i) (zPM d c r i) c.length;simp only [nmI,nmS];rw [<-h2,h1,zK4,zUy,zIO,ih,hr,<-zMt];unfold wrap64;omega
def nrR (c:List (List Int)) (r:List Int):Int:=if finB c=true∧isW c r=true then nmI (symP c) c r r.length else 0
def NrC (c:List (List Int)) (r:List Int) (w:World) (e:Ending) (w':World):Prop:=e=.returned (.int .i64 (nrR c r))∧Below w.heap.size w w'
theorem zNn {S S':Nat→Prop} {u v:Value} {c:List (List Int)} {l:List Int} {w:World} (h:RII S w u c) (h':RI S' w v l) (hl:total c≤16777216) (hl':l.length≤16777216) :
  Calls Tryz.prog 63 #[u,v] w fun e w'=>e=.returned (.bool (isW c l))∧∃m,w'=w.drewN m:=by
 have hc:=zF6 h h' hl hl';go_enter Tryz.func63,Tryz.ntmps63
 go_wp2_with fail
 refine hc.mono ?_;rintro e w' ⟨rfl,m,rfl⟩;go_wp2_with fail
 go_ret
 exact ⟨rfl,m,rfl⟩
theorem zNm {S S':Nat→Prop} {u v:Value} {c:List (List Int)} {l:List Int} {w:World} (h:RII S w u c) (h':RI S' w v l) (hl:total c≤16777216) (hl':l.length≤16777216) :
  Calls Tryz.prog 42 #[u,v] w fun e w'=>e=.returned (.bool (isW c l))∧∃m,w'=w.drewN m:=by
 have hc:=zEI h h' hl hl';go_enter Tryz.func42,Tryz.ntmps42
 go_wp2_with fail
 refine hc.mono ?_;rintro e w' ⟨rfl,m,rfl⟩;go_wp2_with fail
 go_ret
 exact ⟨rfl,m,rfl⟩
theorem zEe {S S':Nat→Prop} {u v:Value} {l r:List Int} {w:World} (h:RI S w u l) (h':RI S' w v r) (hlr:r.length≤l.length) (hl:r.length≤16777216) :
  Calls Tryz.prog 43 #[u,v] w fun e w'=>e=.returned (.int .i64 (prI l r r.length))∧∃m,w'=w.drewN m:=by
 obtain ⟨a,cap,rfl⟩:=h.form;obtain ⟨a',cap',rfl⟩:=h'.form;have HL:Hid (∀k x y,l[k]? = some x→r[k]? = some y→prI l r (k+1)=wrap64 (prI l r k+wrap64 (x*y))):=zWF (fun k x y h1 h2=>by simp only [prI]; rw [zAS h1,zAS h2]);have H0:Hid (prI l r 0=0):=zWF rfl;generalize hn:l.length=n at *;generalize hn':r.length=m at *;clear hn hn';have mixed:Tryz.prog.follows .mixedOrders=true:=by kernel_rfl
 go_enter Tryz.func43,Tryz.ntmps43
 go_wp2_with fail
 go_loopw [5,10] (fun s i wr=>∃(k d:Nat) (t:Int),k≤m∧s=.int .i64 t∧i=.int .i64 k∧wr=w.drewN d∧Hid (prI l r k=t)) (fun _ i _=>m-(intOf i).toNat)
 case atStart=>exact ⟨0,0,0,Nat.zero_le _,rfl,rfl,rfl,H0⟩
 case round =>
  obtain ⟨k,d,t,hk,rfl,rfl,rfl,HT⟩:=hrel;by_cases hlt:k<m
  ·obtain ⟨b,o,x,rfl,hc,hx⟩:=h.at (show k<n by omega);obtain ⟨b',o',y,rfl,hc',hy⟩:=h'.at hlt;have b1:(k:Int)<(m:Int):=by omega
   have b2:(k:Int)<(n:Int):=by omega
   have b3:(0:Int)≤(k:Int):=by omega
   have HT2:=zWF (HL.out k x y hx.out hy.out);rw [HT.out] at HT2;clear hx hy;go_wp2_with fail
   first | go_quiet (fail) | skip
   go_wp2_with fail
   go_roundw
   case rel=>first | exact ⟨k+1,_,_,by omega,rfl,by go_num,rfl,HT2⟩ | exact ⟨k+1,d+nq,_,by omega,rfl,by go_num,by simp,HT2⟩
   case measure=>simp [intOf]; omega
  ·have b1:¬(k:Int)<(m:Int):=by omega
   have hkm:k=m:=by omega
   have HR:Hid (t=prI l r m):=zWF (by rw [<-HT.out,hkm]);clear hkm;go_wp2_with fail
   go_ret
   exact ⟨zAP HR.out,d,rfl⟩
theorem zLF {S S':Nat→Prop} {u v:Value} {c:List (List Int)} {r:List Int} {w:World} (h:RII S w u c) (h':RI S' w v r) (hl:total c≤16777216) (hl':r.length≤16777216) :
  Calls Tryz.prog 28 #[u,v] w (NrC c r w):=by
 have hsy:=zM1 h hl;have mixed:Tryz.prog.follows .mixedOrders=true:=by kernel_rfl
 have HRES:Hid (NrC c r w=fun e w'=>e=.returned (.int .i64 (nrR c r))∧Below w.heap.size w w'):=zWF rfl;have HSM:Hid (SmC c w=fun e w'=>∃r,e=.returned (.tuple #[r,.bool (finB c)])∧FI (New w w') w' r (smR c)∧Below w.heap.size w w'):=zWF rfl;have HW:=fun (w1:World) (b1:Below w.heap.size w w1)=>zNn (h.below b1) (h'.below b1) hl hl';rw [HSM.out] at hsy;clear HSM;cases hF:finB c with
 | false =>
  have HR:Hid (nrR c r=0):=zWF (by unfold nrR; rw [hF]; simp);rw [hF] at hsy;clear hF;go_enter Tryz.func28,Tryz.ntmps28
  go_wp2_with fail
  refine hsy.mono ?_;rintro e w1 ⟨r1,rfl,f1,b1⟩;obtain ⟨a1,c1,rfl⟩:=f1.form;go_wp2_with fail
  go_ret
  rw [HRES.out];exact ⟨zAP HR.out.symm,b1⟩
 | true =>
  have HSM:Hid (smR c=symP c):=zWF (by unfold smR; rw [hF]; rfl);rw [HSM.out] at hsy;rw [hF] at hsy;cases hW:isW c r with
  | false =>
   have HR:Hid (nrR c r=0):=zWF (by unfold nrR; rw [hW]; simp);rw [hW] at HW;clear hF hW;go_enter Tryz.func28,Tryz.ntmps28
   go_wp2_with fail
   refine hsy.mono ?_;rintro e w1 ⟨r1,rfl,f1,b1⟩;obtain ⟨a1,c1,rfl⟩:=f1.form;go_wp2_with fail
   refine (HW w1 b1).mono ?_;rintro e w2 ⟨rfl,m2,rfl⟩;go_wp2_with fail
   go_ret
   rw [HRES.out];exact ⟨zAP HR.out.symm,below_drewN b1 m2⟩
  | true =>
   have hfp:=zCZ hF;have hln:=(zCm hW).2.1;have HR:Hid (nrR c r=nmS (symP c) c r c.length):=zWF (by unfold nrR; rw [if_pos ⟨hF,hW⟩,hln]; exact zJ2 hln _);obtain ⟨_,_,hsl,_⟩:=hfp.sym;have h4:c.length≤4:=hfp.cart.le;have HROW:Hid (∀l∈c,l.length=c.length):=zWF hfp.cart.row;have HS0:Hid (nmS (symP c) c r 0=0):=zWF rfl;have HS1:Hid (∀i,nmS (symP c) c r (i+1)=nmR (symP c) c r i (nmS (symP c) c r i) c.length):=zWF (fun i=>rfl);have HR0:Hid (∀i s,nmR (symP c) c r i s 0=s):=zWF (fun i s=>rfl);have HR1:Hid (∀(i k:Nat) (s:Int) (l:List Int) (x y z t:Int),(symP c)[i]? = some x→c[i]? = some l→l[k]? = some y→r[i]? = some z→r[k]? = some t →
     nmR (symP c) c r i s (k+1)=wrap64 (nmR (symP c) c r i s k+wrap64 (wrap64 (wrap64 (x*y)*z)*t))):=zWF (fun i k s l x y z t h1 h2 h3 h4 h5=>by
    simp only [nmR]; rw [zAS h1,zAS h4,zAS h5,h2]; simp only [Option.getD_some]; rw [zAS h3])
   rw [hW] at HW;clear hF hW hfp;have h0:=h;have h0':=h';obtain ⟨au,cu,rfl⟩:=h.form;obtain ⟨av,cv,rfl⟩:=h'.form;rw [hln] at HW h' h0' ⊢;generalize symP c=D at *;generalize hn:c.length=n at *;have HN:=zWF hn;clear hn hln;go_enter Tryz.func28,Tryz.ntmps28
   go_wp2_with fail
   refine hsy.mono ?_;rintro e w1 ⟨r1,rfl,f1,b1⟩;obtain ⟨a1,c1,rfl⟩:=f1.form;rw [hsl] at f1 ⊢;go_wp2_with fail
   refine (HW w1 b1).mono ?_;rintro e w2 ⟨rfl,m2,rfl⟩;have b2:=below_drewN b1 m2;have hd2:RI (New w w1) (w1.drewN m2) (.slice a1 n c1) D:=f1.reads.drewN m2;have hc2:=h0.below b2;have hr2:=h0'.below b2;clear f1 hsy HW hsl;generalize w1.drewN m2=w2 at *;clear b1;go_wp2_with fail
   go_loopw [7,8] (fun s ii wr=>∃(i d:Nat),i≤n∧ii=.int .i64 i∧s=.int .i64 (nmS D c r i)∧wr=w2.drewN d) (fun _ ii _=>n-(intOf ii).toNat)
   case atStart=>exact ⟨0,0,Nat.zero_le _,rfl,by rw [HS0.out],rfl⟩
   case round =>
    obtain ⟨i,d,hi,rfl,rfl,rfl⟩:=hrel;by_cases hin:i<n
    ·have i1:(i:Int)<(n:Int):=by omega
     have i0:(0:Int)≤(i:Int):=by omega
     have HSi:=zWF (HS1.out i);have HR0i:=zWF (HR0.out i (nmS D c r i));have HR1i:=zWF (fun k=>HR1.out i k (nmS D c r i));generalize nmS D c r i=s0 at *;go_wp2_with fail
     go_loopw [7,9] (fun s kk wr=>∃(k d':Nat),k≤n∧kk=.int .i64 k∧s=.int .i64 (nmR D c r i s0 k)∧wr=w2.drewN d') (fun _ kk _=>n-(intOf kk).toNat)
     case atStart=>exact ⟨0,d,Nat.zero_le _,rfl,by rw [HR0i.out],rfl⟩
     case round =>
      obtain ⟨k,d',hk,rfl,rfl,rfl⟩:=hrel;by_cases hkn:k<n
      ·have k1:(k:Int)<(n:Int):=by omega
       have k0:(0:Int)≤(k:Int):=by omega
       obtain ⟨bx,ox,x,rfl,hcx,hx⟩:=RI.at hd2 hin;obtain ⟨bz,oz,z,rfl,hcz,hz⟩:=RI.at hr2 hin;obtain ⟨bt,ot,t,qt,hct,ht⟩:=RI.at hr2 hkn;simp only [Option.some.injEq,Addr.mk.injEq,and_true] at qt;obtain ⟨rfl,rfl⟩:=qt;obtain ⟨bl,ol,rl,l,rfl,hcl,hrl,hl1⟩:=RII.at hc2 hin;have hlen:l.length=n:=by have:=HROW.out l (zWH hl1.out); rw [this]
       obtain ⟨al,cl,rfl⟩:=hrl.form;rw [hlen] at hrl hcl;obtain ⟨by',oy,y,rfl,hcy,hy⟩:=RI.at hrl hkn;have HST:=zWF (HR1i.out k l x y z t hx.out hl1.out hy.out hz.out ht.out);generalize nmR D c r i s0 k=s1 at *;clear hx hz ht hl1 hy hlen hrl;go_wp2_with fail
       go_quiet (fail)
       go_wp2_with fail
       go_roundw
       case rel=>exact ⟨k+1,d'+nq,by omega,by go_num,by rw [HST.out],by simp⟩
       case measure=>simp [intOf]; omega
      ·have k1:¬(k:Int)<(n:Int):=by omega
       have hkm:k=n:=by omega
       have HE:Hid (nmR D c r i s0 k=nmS D c r (i+1)):=zWF (by rw [hkm,HSi.out]);rw [HE.out];clear hkm;go_wp2_with fail
       go_roundw
       case rel=>exact ⟨i+1,d',by omega,by go_num,rfl,rfl⟩
       case measure=>simp [intOf]; omega
    ·have i1:¬(i:Int)<(n:Int):=by omega
     have hkm:i=n:=by omega
     have HE:Hid (nmS D c r i=nrR c r):=zWF (by rw [hkm,HR.out]);rw [HE.out];clear hkm;go_wp2_with fail
     go_ret
     rw [HRES.out];exact ⟨rfl,below_drewN b2 d⟩
theorem zJm {S S':Nat→Prop} {u v:Value} {c:List (List Int)} {r:List Int} {w:World} (h:RII S w u c) (h':RI S' w v r) (hl:total c≤16777216) (hl':r.length≤16777216) :
  Calls Tryz.prog 28 #[u,v] w fun e w'=>e=.returned (.int .i64 (nrR c r))∧Below w.heap.size w w':=zLF h h' hl hl'
end Go.Proofs.YtphbichgpcicnaaGreatDoor
