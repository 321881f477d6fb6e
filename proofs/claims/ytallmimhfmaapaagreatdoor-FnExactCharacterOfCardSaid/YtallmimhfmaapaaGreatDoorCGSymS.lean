/- Numbers that make a matrix symmetric, by the reference. Condition: sizes up to 2^24. -/
import Derived.Test.YtallmimhfmaapaaGreatDoorCGScale
namespace Go.Proofs.YtallmimhfmaapaaGreatDoor
open Go.RowKit
set_option maxRecDepth 20000
set_option maxHeartbeats 8000000
theorem RI.setOff {lo hi:Nat} {w:World} {v:Value} {l:List Int} {g j:Nat} {x:Value} (h:RI (Bt lo hi) w v l) (hg:g<lo∨hi≤g):RI (Bt lo hi) (w.setCell ⟨g,j,none⟩ x) v l :=
 RI.keep h fun b hb _=>heap_setCell_other w ⟨g,j,none⟩ b x (fun e=>by have e:b=g:=e; subst e; have:=hb.1; have:=hb.2; omega)
theorem RII.setOff {lo hi:Nat} {w:World} {v:Value} {l:List (List Int)} {g j:Nat} {x:Value} (h:RII (Bt lo hi) w v l) (hg:g<lo∨hi≤g):RII (Bt lo hi) (w.setCell ⟨g,j,none⟩ x) v l :=
 RII.keep h fun b hb _=>heap_setCell_other w ⟨g,j,none⟩ b x (fun e=>by have e:b=g:=e; subst e; have:=hb.1; have:=hb.2; omega)
theorem zEw {c:List (List Int)} {p:List Nat} (h:p∈zBN c):(∀j∈p,j<c.length)∧p.length≤c.length:=by
 unfold zBN zAq at h;obtain ⟨i,hi,e⟩:=List.mem_filterMap.1 h;split at e
 ·simp only [Option.some.injEq] at e;subst e;exact ⟨fun j hj=>zRj hj,Nat.le_trans (List.length_filter_le _ _) (by simp)⟩
 ·cases e
theorem zHk {c:List (List Int)} {p:List Nat} {o o':List Int} {f:Nat} {d:Int} (h:tryS c p o (f+1) d=some o') :
  ∃l,zEe c p d=some l∧((zCU l p=true∧o'=layS l o p)∨(zCU l p=false∧tryS c p o f (d+1)=some o')):=by
 simp only [tryS] at h;cases e:zEe c p d with
 | none=>rw [e] at h; cases h
 | some l =>
  rw [e] at h;simp only at h;refine ⟨l,rfl,?_⟩;cases e2:zCU l p with
  | true=>rw [e2,if_pos rfl] at h; simp only [Option.some.injEq] at h; exact .inl ⟨rfl,h.symm⟩
  | false=>rw [e2,if_neg (by simp)] at h; exact .inr ⟨rfl,h⟩
theorem zN5 {l:List Int} {p:List Nat} {k x:Nat} (h:p[k]? = some x):zCU l (p.take (k+1))=(zCU l (p.take k) && decide (0<num l x)):=by
 rw [zAE h]; simp [zCU]
theorem zPg {l o:List Int} {p:List Nat} {k x:Nat} (h:p[k]? = some x):layS l o (p.take (k+1))=(layS l o (p.take k)).set x (num l x):=by
 rw [zAE h]; simp [layS]
theorem zEO {l:List Int}:∀(p:List Nat) (o:List Int),(layS l o p).length=o.length
 | [],_=>rfl
 | x::p,o=>by
  have:=zEO (l:=l) p (o.set x (num l x));simpa [layS] using this
theorem zI9 (c:List (List Int)) (p:List Nat):zC7 c none p=none:=rfl
theorem zGV {c:List (List Int)} {p:List Nat} {o o':List Int}:∀(f:Nat) (d:Int),tryS c p o f d=some o'→o'.length=o.length
 | 0,_,h=>by simp only [tryS,Option.some.injEq] at h; rw [h]
 | f+1,d,h=>by
  obtain ⟨l,_,⟨_,rfl⟩ | ⟨_,h2⟩⟩:=zHk h
  ·exact zEO p o
  ·exact zGV f (d+1) h2
def smR (c:List (List Int)):List Int:=if finB c=true then symP c else []
def SmC (c:List (List Int)) (w:World) (e:Ending) (w':World):Prop:=∃r,e=.returned (.tuple #[r,.bool (finB c)])∧FI (New w w') w' r (smR c)∧Below w.heap.size w w'
theorem zSC {S:Nat→Prop} {u:Value} {c:List (List Int)} {w:World} (h:RII S w u c) (hl:zAC c≤16777216) :
  Calls Tryz.prog 30 #[u] w (SmC c w):=by
 obtain ⟨i0,hi0,hz0,hz1,hz2⟩:=info_parts zBJ;have hfin:=zCC h hl;have mixed:Tryz.prog.follows .mixedOrders=true:=by kernel_rfl
 have HRES:Hid (SmC c w=fun e w'=>∃r,e=.returned (.tuple #[r,.bool (finB c)])∧FI (New w w') w' r (smR c)∧Below w.heap.size w w'):=zTY rfl;cases hF:finB c with
 | false =>
  have HR:Hid (smR c=[]):=zTY (by unfold smR; rw [hF]; rfl);have HFF:=zTY hF;rw [hF] at hfin;clear hF;go_enter Tryz.func30,Tryz.ntmps30
  go_wp2_with fail
  refine hfin.mono ?_;rintro e w1 ⟨rfl,b1⟩;have hf:=zAO b1 (w1:=w1.alloc (.cells #[] 3)) rfl;go_wp2_with fail
  go_ret2
  rw [HRES.out];exact ⟨_,by rw [HFF.out]; rfl,by rw [HR.out]; exact hf.1,hf.2⟩
 | true =>
  have hfp:=zD0 hF;have hcP:=hfp.cart;have hcB:isC c=true:=zAL.2 hcP;obtain ⟨_,hsy,_,_⟩:=hfp.sym;have HR:Hid (smR c=symP c):=zTY (by unfold smR; rw [hF]; rfl);have HFF:=zTY hF;rw [hF] at hfin;have h4:c.length≤4:=hcP.le;have h1n:1≤c.length:=hcP.pos;have HPS:=fun w1 (b1:Below w.heap.size w w1)=>zIn (h.below b1) hcB hl;have HSC:=zTY (fun w1 (b1:Below w.heap.size w w1) (S':Nat→Prop) (v:Value) (p:List Nat) (d:Int) (l:List Int) (h':RI S' w1 v (iL p)) (hp:p∈zBN c) (hr:zEe c p d=some l)=>zOi (h.below b1) h' hcB (zEw hp).1 (zEw hp).2 hr);have HMP:=zTY (fun (p:List Nat) (hp:p∈zBN c)=>zEw hp);have hfold:(zBN c).foldl (zC7 c) (some (List.replicate c.length 0))=some (symP c):=hsy;have HO:=zTY (fun (t:Nat) (x:List Nat) (hx:(zBN c)[t]? = some x)=>zBr (zI9 c) (by rw [hfold]; rfl) hx)
  have HOE:Hid (((zBN c).take (zBN c).length).foldl (zC7 c) (some (List.replicate c.length 0))=some (symP c)):=zTY (by rw [List.take_of_length_le (zTd _)]; exact hfold);have HO0:Hid (((zBN c).take 0).foldl (zC7 c) (some (List.replicate c.length 0))=some (List.replicate c.length 0)):=zTY rfl;have HML:Hid ((zBN c).length≤c.length):=zTY (zGP c c.length);have HSL:Hid ((List.replicate c.length (0:Int)).length=c.length):=zTY (by simp);generalize symP c=R at *;generalize zBN c=P at *;have h0:=h;obtain ⟨au,cu,rfl⟩:=h.form;generalize hn:c.length=n at *;have HN:=zTY hn;clear hn hF hsy hfold hcB hcP hfp;go_enter Tryz.func30,Tryz.ntmps30
  go_wp2_with fail
  refine hfin.mono ?_;rintro e w1 ⟨rfl,b1⟩;go_wp2_with (at_make; (refine wpList_make_full _ rfl _ _ 23 rfl w1.heap.size 3 i0 (.int .i64 0) 1 Tryz.underlying23 hi0 hz0 hz1 _ _ _ _ n rfl rfl (by first | rfl | (simp only [wrap64]; omega)) (by first | rfl | (simp only [wrap64]; omega)) ?hb ?hm ?hs ?_))
  case hb=>first | (rw [hz2]; omega) | omega
  case hm=>unfold maxLen; omega
  case hs=>exact zTd _
  intro w2 hown hgr;have bb2:Below w1.heap.size w1 w2:=(Below.refl _ w1).grown hgr (zTd _) (by simp);have b2:=zAA.step b1 bb2;have hf2:FI (New w w2) w2 (.slice (some ⟨w1.heap.size,0,none⟩) n n) (List.replicate n 0):=(FI.of_row (w:=w1) (by simpa using hown) (zTd _) (by simp) (by simp [toList_madeCells_one])).mono (fun b hb=>⟨Nat.le_trans b1.size hb.1,hb.2⟩);have hg2:w1.heap.size<w2.heap.size:=(hf2.2 w1.heap.size rfl).2;have hwg:w.heap.size≤w1.heap.size:=b1.size;clear hgr hown hi0 hz0 hz1 hz2 hfin;generalize w1.heap.size=g at *;clear b1 bb2;have hps:=HPS w2 b2;go_wp2_with fail
  refine hps.mono ?_;rintro e w3 ⟨r3,rfl,f3,b3⟩;have b03:=zAA.step b2 b3;have hf3:=hf2.grow b3;obtain ⟨ap,cp,rfl⟩:=f3.form;have hL3:RII (Bt w2.heap.size w3.heap.size) w3 (.slice ap (P.map iL).length cp) (P.map iL):=f3.reads;rw [List.length_map] at hL3 ⊢;clear f3 hps HPS hf2;have HML:=HML.out;generalize hK:P.length=K at *;have HK:=zTY hK;clear hK;generalize hlo:w2.heap.size=lo at *;generalize hhi:w3.heap.size=hi at *;clear hlo hhi b3 b2;go_wp2_with fail
  go_loopw [6] (fun tt wr=>∃(t:Nat) (o:List Int),t≤K∧tt=.int .i64 t∧FI (New w wr) wr (.slice (some ⟨g,0,none⟩) n n) o∧Hid ((P.take t).foldl (zC7 c) (some (List.replicate n 0))=some o)∧Hid (o.length=n)∧Below w.heap.size w wr∧RII (Bt lo hi) wr (.slice ap K cp) (P.map iL)) (fun tt _=>K-(intOf tt).toNat)
  case atStart=>exact ⟨0,_,Nat.zero_le _,rfl,hf3,HO0,HSL,b03,hL3⟩
  case round =>
   obtain ⟨t,o,ht,rfl,hf,HT,HL,hb,hL⟩:=hrel;by_cases htm:t<K
   ·have i3:(t:Int)<(K:Int):=by omega
    obtain ⟨x,hx⟩:∃x,P[t]? = some x:=⟨P[t]'(by rw [HK.out]; exact htm),zTZ _⟩;have hxP:x∈P:=zTa hx;obtain ⟨o1,o2,e1,e2,e3⟩:=HO.out t x hx;rw [HT.out] at e1;simp only [Option.some.injEq] at e1;subst e1;have HN2:=zTY e3;obtain ⟨bp,op,rp,lp,q1,hcp,hrp,hlp⟩:=RII.at hL htm;have hlx:lp=iL x:=by
     have:=hlp.out;rw [List.getElem?_map,hx] at this;simpa using this.symm
    subst hlx;subst q1;obtain ⟨ar,cr,rfl⟩:=hrp.form;have hil:(iL x).length=x.length:=by simp [iL]
    rw [hil] at hrp hcp;obtain ⟨hxm,hxl⟩:=HMP.out x hxP;have e2:tryS c x o 3 1=some o2:=e2;have HL2:Hid (o2.length=n):=zTY (by rw [zGV _ _ e2]; exact HL.out);have HXM:=zTY hxm;have HXP:=zTY hxP;generalize hml:x.length=m at *;have HXL:=zTY hml;have HE2:=zTY e2;clear e2 e3 hlp hx hil hml hxm hxP;go_wp2_with fail
    go_loopw [8] (fun dd wr=>∃(f:Nat) (o':List Int),f≤3∧dd=.int .i64 (4-(f:Int))∧FI (New w wr) wr (.slice (some ⟨g,0,none⟩) n n) o'∧Hid (tryS c x o' f (4-(f:Int))=some o2)∧Hid (o'.length=n)∧Below w.heap.size w wr∧RII (Bt lo hi) wr (.slice (some ⟨bp,op,none⟩) K cp) (P.map iL)∧RI (Bt lo hi) wr (.slice ar m cr) (iL x)) (fun dd _=>4-(intOf dd).toNat)
    case atStart=>exact ⟨3,o,by omega,rfl,hf,HE2,HL,hb,hL,hrp⟩
    case round =>
     obtain ⟨f,o',hfl,rfl,hf,HT,HL,hb,hL,hrp⟩:=hrel;cases f with
     | zero =>
      have e5:=HT.out;simp only [tryS,Option.some.injEq] at e5;subst e5;go_wp2_with fail
      go_roundw
      case rel=>exact ⟨t+1,_,by omega,by go_num,hf,HN2,HL,hb,hL⟩
      case measure=>simp [intOf]; omega
     | succ f =>
      obtain ⟨l,hsc,hcs⟩:=zHk HT.out;have i4:(4-((f+1:Nat):Int))≤3:=by omega
      have hcall:=HSC.out wr hb _ _ _ _ _ hrp HXP.out hsc;have HCS:=zTY hcs;clear hcs;have HL8:=zTY (show ∀w8:World,Below wr.heap.size wr w8→FI (New w w8) w8 (.slice (some ⟨g,0,none⟩) n n) o'∧Below w.heap.size w w8∧RII (Bt lo hi) w8 (.slice (some ⟨bp,op,none⟩) K cp) (P.map iL)∧RI (Bt lo hi) w8 (.slice ar m cr) (iL x) from fun w8 b8=>⟨hf.grow b8,zAA.step hb b8,hL.below b8,hrp.below b8⟩);have hgw:g<wr.heap.size:=(hf.2 g rfl).2;clear hf hb hL hrp hsc;go_wp2_with fail
      refine hcall.mono ?_;rintro e w8 ⟨a8,k8,rfl,f8,hl8,b8⟩;obtain ⟨hf,hb,hL,hrp⟩:=HL8.out w8 b8;have hL1:RI (Bt wr.heap.size w8.heap.size) w8 (.slice a8 n k8) l:=f8.reads;clear hcall f8;generalize wr.heap.size=lo8 at *;generalize hhi8:w8.heap.size=hi8 at *;clear hhi8 b8;have HXE:Hid (x.take m=x):=zTY (List.take_of_length_le (by rw [HXL.out]; exact zTd _));go_wp2_with fail
      go_loopw [10,11] (fun bb ii wi=>∃i:Nat,i≤m∧ii=.int .i64 i∧bb=.bool (zCU l (x.take i))∧wi=w8) (fun _ ii _=>m-(intOf ii).toNat)
      case atStart=>exact ⟨0,Nat.zero_le _,rfl,rfl,rfl⟩
      case round =>
       obtain ⟨i,hi',rfl,rfl,rfl⟩:=hrel;by_cases him:i<m
       ·have i5:(i:Int)<(m:Int):=by omega
        obtain ⟨xi,hxi⟩:∃xi,x[i]? = some xi:=⟨x[i]'(by rw [HXL.out]; exact him),zTZ _⟩;have hst:=zN5 (l:=l) hxi;have hxn:xi<n:=HXM.out xi (zTa hxi);obtain ⟨b5,o5,y5,q5,hc5,hy5⟩:=RI.at hrp him;have hyx:y5=(xi:Int):=by
         have:=hy5.out;simp only [iL,List.getElem?_map,hxi,Option.map_some,Option.some.injEq] at this;exact this.symm
        subst hyx;subst q5;obtain ⟨b6,o6,y6,q6,hc6,hy6⟩:=RI.at hL1 hxn;subst q6;rw [zAQ hy6.out] at hst;have i6:(0:Int)≤(xi:Int):=by omega
        have i7:(xi:Int)<(n:Int):=by omega
        cases hfi:zCU l (x.take i) with
        | false =>
         rw [hfi,Bool.false_and] at hst;have HST:=zTY hst;clear hst hfi hxi hy5 hy6;go_wp2_with fail
         go_roundw
         case rel=>exact ⟨i+1,by omega,by go_num,by rw [HST.out],by first | trivial | rfl⟩
         case measure=>simp [intOf]; omega
        | true =>
         rw [hfi,Bool.true_and] at hst;have HST:=zTY hst;clear hst hfi hxi hy5 hy6;go_wp2_with fail
         go_roundw
         case rel=>exact ⟨i+1,by omega,by go_num,by rw [HST.out],by first | trivial | rfl⟩
         case measure=>simp [intOf]; omega
       ·have him2:i=m:=by omega
        have i5:¬(i:Int)<(m:Int):=by omega
        have HFE:Hid (zCU l (x.take i)=zCU l x):=zTY (by rw [him2,HXE.out]);clear him2;rw [HFE.out];cases hfx:zCU l x with
        | false =>
         rcases HCS.out with ⟨e5,_⟩ | ⟨_,e5⟩
         ·rw [hfx] at e5; cases e5
         ·have HT5:=zTY e5;clear hfx e5;go_wp2_with fail
          go_roundw
          case rel=>exact ⟨f,o',by omega,by go_num,hf,by rw [show (4-(f:Int))=4-((f+1:Nat):Int)+1 by omega]; exact HT5,HL,hb,hL,hrp⟩
          case measure=>simp [intOf]; omega
        | true =>
         rcases HCS.out with ⟨_,e5⟩ | ⟨e5,_⟩
         ·have HT5:=zTY e5;clear hfx e5;have H00:Hid (layS l o' (x.take 0)=o'):=zTY rfl;have HLAY:=zTY (fun i:Nat=>zEO (l:=l) (x.take i) o');have hf9:FI (New w wr) wr (.slice (some ⟨g,0,none⟩) n n) (layS l o' (x.take 0)):=by rw [H00.out]; exact hf
          clear hf;go_wp2_with fail
          go_loopw [12] (fun ii wi=>∃i:Nat,i≤m∧ii=.int .i64 i∧FI (New w wi) wi (.slice (some ⟨g,0,none⟩) n n) (layS l o' (x.take i))∧Below w.heap.size w wi∧RII (Bt lo hi) wi (.slice (some ⟨bp,op,none⟩) K cp) (P.map iL)∧RI (Bt lo hi) wi (.slice ar m cr) (iL x)∧RI (Bt lo8 hi8) wi (.slice a8 n k8) l) (fun ii _=>m-(intOf ii).toNat)
          case atStart=>exact ⟨0,Nat.zero_le _,rfl,hf9,hb,hL,hrp,hL1⟩
          case round =>
           clear hf9 hb hL hrp hL1;obtain ⟨i,hi',rfl,hf,hb,hL,hrp,hL1⟩:=hrel;by_cases him:i<m
           ·have i5:(i:Int)<(m:Int):=by omega
            obtain ⟨xi,hxi⟩:∃xi,x[i]? = some xi:=⟨x[i]'(by rw [HXL.out]; exact him),zTZ _⟩;have hst:=zPg (l:=l) (o:=o') hxi;have hxn:xi<n:=HXM.out xi (zTa hxi);have hlay:=HLAY.out i;rw [HL.out] at hlay;obtain ⟨b5,o5,y5,q5,hc5,hy5⟩:=RI.at hrp him;have hyx:y5=(xi:Int):=by
             have:=hy5.out;simp only [iL,List.getElem?_map,hxi,Option.map_some,Option.some.injEq] at this;exact this.symm
            subst hyx;subst q5;obtain ⟨b6,o6,y6,q6,hc6,hy6⟩:=RI.at hL1 hxn;subst q6;rw [zAQ hy6.out] at hst;have i6:(0:Int)≤(xi:Int):=by omega
            have i7:(xi:Int)<(n:Int):=by omega
            have z1:=hf.froz hlay xi;obtain ⟨y,hy⟩:∃y,(layS l o' (x.take i))[xi]? = some y:=⟨(layS l o' (x.take i))[xi]'(by rw [hlay]; exact hxn),zTZ _⟩;have d0:=FI.cell hf hy hxn;have hput:=(hf.put hlay xi y6).mono (S':=New w (wr.setCell ⟨g,xi,none⟩ (.int .i64 y6))) (fun b hb=>⟨hb.1,by rw [zAJ]; exact hb.2⟩);rw [<-hst] at hput;have HP:=zTY (And.intro hput (And.intro (hb.setCell (p:=⟨g,xi,none⟩) hwg (.int .i64 y6)) (And.intro (hL.setOff (g:=g) (j:=xi) (x:=.int .i64 y6) (.inl hg2)) (And.intro (hrp.setOff (g:=g) (j:=xi) (x:=.int .i64 y6) (.inl hg2)) (hL1.setOff (g:=g) (j:=xi) (x:=.int .i64 y6) (.inl hgw))))));clear hput hst hy hy5 hy6 hxi hlay hf hL hrp hL1 hb;go_wp2_with fail
            go_big_region_o
            go_wp2_with fail
            go_roundw
            case rel=>exact ⟨i+1,by omega,by go_num,HP.out.1.grow ((Below.refl _ _).drew),HP.out.2.1.drew,HP.out.2.2.1.drew,HP.out.2.2.2.1.drew,HP.out.2.2.2.2.drew⟩
            case measure=>simp [intOf]; omega
           ·have him2:i=m:=by omega
            have i5:¬(i:Int)<(m:Int):=by omega
            rw [him2,HXE.out,<-HT5.out] at hf;clear him2;go_wp2_with fail
            go_roundw
            case rel=>exact ⟨t+1,_,by omega,by go_num,hf,HN2,HL2,hb,hL⟩
            case measure=>simp [intOf]; omega
         ·rw [hfx] at e5; cases e5
   ·have hkm:t=K:=by omega
    have i3:¬(t:Int)<(K:Int):=by omega
    have hT:=HT.out;rw [hkm,HOE.out] at hT;simp only [Option.some.injEq] at hT;subst hT;clear hkm;go_wp2_with fail
    go_ret2
    rw [HRES.out];exact ⟨_,by rw [HFF.out]; rfl,by rw [HR.out]; exact hf,hb⟩
theorem zTL (a b:Int):wrap64 (wrap64 a+wrap64 b)=wrap64 (a+b):=by unfold wrap64; omega
def smI (f:Nat→Int):Nat→Int
 | 0=>0
 | k+1=>smI f k+f k
theorem zIs {f g:Nat→Int}:∀{k:Nat},(∀j,j<k→f j=g j)→smI f k=smI g k
 | 0,_=>rfl
 | k+1,h=>by simp only [smI]; rw [zIs (fun j hj=>h j (by omega)),h k (by omega)]
def prI (l r:List Int):Nat→Int
 | 0=>0
 | k+1=>wrap64 (prI l r k+wrap64 (num l k*num r k))
theorem zOa (l r:List Int):∀k,prI l r k=wrap64 (smI (fun j=>num l j*num r j) k)
 | 0=>by simp [prI,smI,wrap64]
 | k+1=>by simp only [prI,smI]; rw [zOa l r k,zTL]
theorem zGO {S S':Nat→Prop} {u v:Value} {l r:List Int} {w:World} (h:RI S w u l) (h':RI S' w v r) (hlr:r.length≤l.length) (hl:r.length≤16777216) :
  Calls Tryz.prog 109 #[u,v] w fun e w'=>e=.returned (.int .i64 (prI l r r.length))∧∃m,w'=w.drewN m:=by
 obtain ⟨a,cap,rfl⟩:=h.form;obtain ⟨a',cap',rfl⟩:=h'.form;have HL:Hid (∀k x y,l[k]? = some x→r[k]? = some y→prI l r (k+1)=wrap64 (prI l r k+wrap64 (x*y))):=zTY (fun k x y h1 h2=>by simp only [prI]; rw [zAQ h1,zAQ h2]);have H0:Hid (prI l r 0=0):=zTY rfl;generalize hn:l.length=n at *;generalize hn':r.length=m at *;clear hn hn';have mixed:Tryz.prog.follows .mixedOrders=true:=by kernel_rfl
 go_enter Tryz.func109,Tryz.ntmps109
 go_wp2_with fail
 go_loopw [5,10] (fun s i wr=>∃(k d:Nat) (t:Int),k≤m∧s=.int .i64 t∧i=.int .i64 k∧wr=w.drewN d∧Hid (prI l r k=t)) (fun _ i _=>m-(intOf i).toNat)
 case atStart=>exact ⟨0,0,0,Nat.zero_le _,rfl,rfl,rfl,H0⟩
 case round =>
  obtain ⟨k,d,t,hk,rfl,rfl,rfl,HT⟩:=hrel;by_cases hlt:k<m
  ·obtain ⟨b,o,x,rfl,hc,hx⟩:=h.at (show k<n by omega);obtain ⟨b',o',y,rfl,hc',hy⟩:=h'.at hlt;have b1:(k:Int)<(m:Int):=by omega
   have b2:(k:Int)<(n:Int):=by omega
   have b3:(0:Int)≤(k:Int):=by omega
   have HT2:=zTY (HL.out k x y hx.out hy.out);rw [HT.out] at HT2;clear hx hy;go_wp2_with fail
   first | go_quiet (fail) | skip
   go_wp2_with fail
   go_roundw
   case rel=>first | exact ⟨k+1,_,_,by omega,rfl,by go_num,rfl,HT2⟩ | exact ⟨k+1,d+nq,_,by omega,rfl,by go_num,by simp,HT2⟩
   case measure=>simp [intOf]; omega
  ·have b1:¬(k:Int)<(m:Int):=by omega
   have hkm:k=m:=by omega
   have HR:Hid (t=prI l r m):=zTY (by rw [<-HT.out,hkm]);clear hkm;go_wp2_with fail
   go_ret
   exact ⟨zAT HR.out,d,rfl⟩
end Go.Proofs.YtallmimhfmaapaaGreatDoor
