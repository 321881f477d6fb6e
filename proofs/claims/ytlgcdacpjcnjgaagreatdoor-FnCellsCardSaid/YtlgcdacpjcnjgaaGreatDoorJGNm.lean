/- All elements of a group with at most 200 elements, by the reference. Condition: sizes up to 2^24. -/
import Derived.Test.YtlgcdacpjcnjgaaGreatDoorJGIs
import Derived.Test.YtlgcdacpjcnjgaaGreatDoorJGSrt
import Derived.Lib.SplitLaws
import Derived.Lib.SliceRun
namespace Go.Proofs.YtlgcdacpjcnjgaaGreatDoor
open Go.RowKit
set_option maxRecDepth 20000
set_option maxHeartbeats 8000000
theorem zP0 {c:List (List Int)} {f k:Nat} {out:List (List Int)} {u:List Int} (h:out[k]? = some u):aBfs c (f+1) k out=aBfs c f (k+1) (aRow c u out):=by
 show (match out[k]? with | none=>out | some u=>aBfs c f (k+1) (aRow c u out))=_;rw [h]
theorem zNp {c:List (List Int)} {f k:Nat} {out:List (List Int)} (h:out.length≤k):aBfs c f k out=out:=by
 cases f with
 | zero=>rfl
 | succ f=>show (match out[k]? with | none=>out | some u=>aBfs c f (k+1) (aRow c u out))=_; rw [List.getElem?_eq_none h]
theorem zLu (c:List (List Int)) (u:List Int) (out:List (List Int)) (i:Nat):(List.range (i+1)).foldl (zAt c u) out=zAt c u ((List.range i).foldl (zAt c u) out) i:=by
 rw [List.range_succ,List.foldl_append]; rfl
theorem zJ7 {S:Nat→Prop} {u:Value} {c:List (List Int)} {w:World} (h:RII S w u c) (hF:FinP c) (hs:szP c≤200) (hl:total c≤16777216) :
  Calls Tryz.prog 42 #[u] w fun e w'=>∃r,e=.returned r∧FII (New w w') w' r (elL c)∧Below w.heap.size w w':=by
 have mixed:Tryz.prog.follows .mixedOrders=true:=by kernel_rfl
 obtain ⟨w1,hw1⟩:∃w1,w1=w.alloc (.cells #[] 3):=⟨_,rfl⟩;obtain ⟨w2,hw2⟩:∃w2,w2=w1.alloc (.cells #[.slice (some ⟨w.heap.size,0,none⟩) 0 0] 29):=⟨_,rfl⟩;have hs1:=HSx.addI (HS.nil (Below.refl _ w)) (zAN (Below.refl _ w) hw1).2 (zAN (Below.refl _ w) hw1).1;have hs2:=HSx.newV1 hs1 _ hw2;have hs2:HS w w2 [aI (.slice (some ⟨w.heap.size,0,none⟩) 0 0) [],aV 29 (.slice (some ⟨w1.heap.size,0,none⟩) 1 1) [.slice (some ⟨w.heap.size,0,none⟩) 0 0]]:=hs2;have hs3:=HSx.iToRs' hs2 0 rfl;have hs3:HS w w2 [aRs [(.slice (some ⟨w.heap.size,0,none⟩) 0 0,[])],aV 29 (.slice (some ⟨w1.heap.size,0,none⟩) 1 1) (([(.slice (some ⟨w.heap.size,0,none⟩) 0 0,[])]:Zl).map Prod.fst)]:=hs3;have hs4:=(hs3.shutF (Z:=[(.slice (some ⟨w.heap.size,0,none⟩) 0 0,[])]) (v:=.slice (some ⟨w1.heap.size,0,none⟩) 1 1) 1 0 (by decide) rfl rfl).pick [1] (by decide)
 have hs4:HS w w2 [aF (.slice (some ⟨w1.heap.size,0,none⟩) 1 1) [[]]]:=hs4;have HW2:=zTD (show w2=(w.alloc (.cells #[] 3)).alloc (.cells #[.slice (some ⟨w.heap.size,0,none⟩) 0 0] 29) by rw [hw2,hw1]);have hz1:w1.heap.size=w.heap.size+1:=by rw [hw1]; simp
 rw [hz1] at hs4;have hc:=hF.cart;have hA0:AOk c [[]]:=⟨List.pairwise_singleton _ _,fun x hx=>by rw [List.mem_singleton] at hx; subst hx; exact zDc hc,List.mem_singleton.2 rfl⟩;have H0:Hid (AOk c [[]]∧∃f,201≤f+0∧aBfs c f 0 [[]]=elL c):=zTD ⟨hA0,201,by omega,rfl⟩;have HCNT:=zTD (fun (out:List (List Int)) (ho:AOk c out)=>(show out.length≤200 from Nat.le_trans (zB3 hF hs ho.srt.nodup ho.nf) hs));have H15:=zTD (fun (x:List Int) (hx:Nf c x)=>zII hF hs hx);have HROW:=zTD (fun (x:List Int) (hx:Nf c x) (m:Nat) (out:List (List Int)) (k:Nat) (hm:m≤c.length) (ho:AOk c out) (hk:out[k]? = some x)=>zGu hF hx m hm ho hk);have HUP:=zTD (fun (x:List Int) (hx:Nf c x) (i:Nat) (hi:i<c.length)=>zPz hF hx hi)
 have HNS:=zTD (fun (wv:World) (S9:Nat→Prop) (vv:Value) (x:List Int) (i:Nat) (hi:i<c.length) (hx:Nf c x) (h5:x.length≤15) (hb:Below w.heap.size w wv) (hv:RI S9 wv vv (x++[(i:Int)])) =>
  zEM (h.below hb) hv hc (zCT hx.lets (fun y hy=>by simp at hy; omega)) hl (by simp; omega))
 have hn4:=hc.le;obtain ⟨aa,ca,rfl⟩:=h.form;generalize hn:c.length=n at *;have HN:=zTD hn;clear hs1 hs2 hs3 hw1 hw2 hz1 hF hs hn hc hA0 h;go_enter Tryz.func42,Tryz.ntmps42
 go_wp2_with fail
 rw [<-HW2.out];go_loopw [3,4] (fun oo kk wr=>∃(k:Nat) (vo:Value) (out:List (List Int)),vo=oo∧k≤out.length∧kk=.int .i64 k∧HS w wr [aF vo out]∧Hid (AOk c out∧∃f,201≤f+k∧aBfs c f k out=elL c)) (fun _ kk _=>201-(intOf kk).toNat)
 case atStart=>exact ⟨0,_,[[]],rfl,Nat.zero_le _,rfl,hs4,H0⟩
 case round =>
  clear hs4 HW2 H0;obtain ⟨k,vo,out,rfl,hk,rfl,hs,HQ⟩:=hrel;have h200:=HCNT.out out HQ.out.1;obtain ⟨ao,co,rfl⟩:=(HS.F hs 0 rfl).read.form;by_cases hkm:k<out.length
  ·have k1:(k:Int)<(out.length:Int):=by omega
   obtain ⟨x,hx⟩:∃x,out[k]? = some x:=⟨out[k],zTE _⟩;have hxn:=HQ.out.1.nf x (zTF hx);have HX:=zTD hxn;have hx15:=H15.out x hxn;have HFO:Hid (∃f,201≤f+(k+1)∧aBfs c f (k+1) (aRow c x out)=elL c):=zTD (by
    obtain ⟨_,f,hf,he⟩:=HQ.out;obtain ⟨g,rfl⟩:∃g,f=g+1:=⟨f-1,by omega⟩;rw [zP0 hx] at he;exact ⟨g,by omega,he⟩)
   have HR:=zTD (fun (i:Nat) (hi:i≤n)=>HROW.out x hxn i out k hi HQ.out.1 hx);have HR0:Hid ((List.range 0).foldl (zAt c x) out=out):=zTD rfl;have HXK:=zTD hx;have HEND:Hid ((List.range n).foldl (zAt c x) out=aRow c x out):=zTD (by unfold aRow; rw [HN.out]);have hs:HS w wr [aF (.slice ao out.length co) ((List.range 0).foldl (zAt c x) out)]:=hs;clear hx hxn;go_wp2_with fail
   go_loopw [3,5] (fun oo ii wr=>∃(i:Nat) (vo:Value),vo=oo∧i≤n∧ii=.int .i64 i∧HS w wr [aF vo ((List.range i).foldl (zAt c x) out)]) (fun _ ii _=>n-(intOf ii).toNat)
   case atStart=>exact ⟨0,_,rfl,Nat.zero_le _,rfl,hs⟩
   case round =>
    clear hs;obtain ⟨i,vo,rfl,hi,rfl,hs⟩:=hrel;obtain ⟨r1,r2,r3,_⟩:=HR.out i hi;by_cases hin:i<n
    ·have i1:(i:Int)<(n:Int):=by omega
     have i2:(0:Int)≤(k:Int):=by omega
     have hST:=zLu c x out i;have hgk:((List.range i).foldl (zAt c x) out)[k]? = some x:=by rw [r2 k (zTI _)]; exact HXK.out
     generalize (List.range i).foldl (zAt c x) out=O at *;obtain ⟨ao,co,rfl⟩:=(HS.F hs 0 rfl).read.form;have hkO:=(zTG hgk).1;have hO200:=HCNT.out O r1;have hO15:∀y∈O,y.length≤15:=fun y hy=>H15.out y (r1.nf y hy);obtain ⟨b3,o3,r3,l3,rfl,hc3,hr3,hl3⟩:=RII.at (HS.F hs 0 rfl).read hkO;have el:l3=x:=by rw [hgk] at hl3; exact (Option.some.inj hl3.out).symm
     subst el;have HUN:=zTD (HUP.out l3 HX.out i hin);have hu15:=H15.out _ HUN.out;generalize hmO:O.length=mO at *;have HMO:=zTD hmO;have k2:(k:Int)<(mO:Int):=by omega
     obtain ⟨a3,c3,rfl⟩:=hr3.form;obtain ⟨w3,hw3⟩:∃w3,w3=wr.alloc (.cells #[.int .i64 i] 3):=⟨_,rfl⟩;have b3a:Below wr.heap.size wr w3:=by rw [hw3]; exact (Below.refl _ _).alloc (zTI _) _
     have hone:RI Any w3 (.slice (some ⟨wr.heap.size,0,none⟩) 1 1) [(i:Int)]:=by rw [hw3]; exact RI.one wr i
     have hs3:=HSx.below hs b3a;have hcc:=zGJ (hr3.below b3a) hone (by omega) (by simp);have HW3:=zTD hw3;have lb3:b3<wr.heap.size:=zTH _ _ hc3;have hc4:=(b3a.cell (p:=⟨b3,o3+k,none⟩) lb3).trans hc3;have lb4:b3<w3.heap.size:=Nat.lt_of_lt_of_le lb3 b3a.size;have hxl:=H15.out l3 HX.out;generalize hxn:l3.length=xn at *;clear hw3 hone b3a hr3 hl3 hgk;go_wp2_with fail
     rw [<-HW3.out];go_wp2_with fail
     refine hcc.mono ?_;rintro e w4 ⟨r4,rfl,f4,b4⟩;have hs4:=HSx.below hs3 b4;have hnm:=HNS.out w4 _ r4 l3 i hin HX.out (by omega) hs4.bl f4.reads;have hc5:=(b4.cell (p:=⟨b3,o3+k,none⟩) lb4).trans hc4;have lb5:b3<w4.heap.size:=Nat.lt_of_lt_of_le lb4 b4.size;have HU:Hid (zAD c (l3++[(i:Int)])=upW' c l3 i):=zTD rfl;rw [HU.out] at hnm;clear hcc hs3 hc4 f4 b4;go_wp2_with fail
     refine hnm.mono ?_;rintro e w5 ⟨r5,rfl,f5,b5⟩;have hc6:=(b5.cell (p:=⟨b3,o3+k,none⟩) lb5).trans hc5;have hs5:=HSx.addI hs4 b5 f5;have hs5:HS w w5 [aF (.slice (some ⟨b3,o3,none⟩) mO co) O,aI r5 (upW' c l3 i)]:=hs5;obtain ⟨a5,c5,rfl⟩:=f5.form;have hr5:=f5.reads;have hif:zAt c l3 O i=if xn<(upW' c l3 i).length∧upW' c l3 i∉O then putE (upW' c l3 i) O else O:=by unfold zAt; rw [hxn]
     have HIF:=zTD (hST.trans hif);generalize hU:upW' c l3 i=U at *;generalize hun:U.length=nu at *;clear hnm hs4 hc5 f5 b5 hif hST HU;by_cases hlt:xn<nu
     ·have j1:(xn:Int)<(nu:Int):=by omega
      have hq:=zSR (HS.F hs5 0 rfl).read hr5 (fun y hy=>by have:=hO15 y hy; omega) (by omega) (by omega);by_cases hmem:U∈O
      ·rw [show inV O U=true from decide_eq_true hmem] at hq;have HFIN:Hid ((List.range (i+1)).foldl (zAt c l3) out=O):=zTD (by rw [HIF.out,if_neg (fun h=>h.2 hmem)]);clear hmem;go_wp2_with fail
       refine hq.mono ?_;rintro e w6 ⟨rfl,m6,rfl⟩;have hs6:=(HSx.drewN hs5 m6).pick [0] (by decide);have hs6:HS w (w5.drewN m6) [aF (.slice (some ⟨b3,o3,none⟩) mO co) O]:=hs6;clear hq hs5;go_wp2_with fail
       go_roundw
       case rel=>exact ⟨i+1,_,rfl,by omega,by go_num,by rw [HFIN.out]; exact hs6⟩
       case measure=>simp [intOf]; omega
      ·rw [show inV O U=false from decide_eq_false hmem] at hq;have HFIN:Hid ((List.range (i+1)).foldl (zAt c l3) out=putE U O):=zTD (by rw [HIF.out,if_pos ⟨hlt,hmem⟩]);clear hmem;go_wp2_with fail
       refine hq.mono ?_;rintro e w6 ⟨rfl,m6,rfl⟩;have hs6:=HSx.drewN hs5 m6;generalize w5.drewN m6=w6 at *;have hs6:HS w w6 [aF (.slice (some ⟨b3,o3,none⟩) mO co) O,aI (.slice a5 nu c5) U]:=hs6;obtain ⟨F,hF,hFn,HBK⟩:=hs6.lend 0 rfl;have hrU:RI Any w6 (.slice a5 nu c5) U:=by
        obtain ⟨G,hG,_⟩:=HSx.get hs6 1 rfl;exact hG.any
       have hcall:=zPM hF hFn hrU (fun y hy=>by have:=hO15 y hy; omega) (by omega) (by omega);have HPC:Hid (zLE F U O w6=fun e w'=>∃r,e=.returned r∧HSx F w6 w' [aF r (putE U O)]):=zTD rfl;rw [HPC.out] at hcall;clear hq hs5 hF hFn hrU hs6 hr5;go_wp2_with fail
       refine hcall.mono ?_;rintro e w7 ⟨r7,rfl,h7⟩;have hs8:=(HBK.out w7 _ h7).pick [0] (by decide);have hs8:HS w w7 [aF r7 (putE U O)]:=hs8;rw [<-HFIN.out] at hs8;clear hcall h7;go_wp2_with fail
       go_roundw
       case rel=>exact ⟨i+1,_,rfl,by omega,by go_num,hs8⟩
       case measure=>simp [intOf]; omega
     ·have j1:¬(xn:Int)<(nu:Int):=by omega
      have HFIN:Hid ((List.range (i+1)).foldl (zAt c l3) out=O):=zTD (by rw [HIF.out,if_neg (fun h=>hlt h.1)]);have hs6:=hs5.pick [0] (by decide);have hs6:HS w w5 [aF (.slice (some ⟨b3,o3,none⟩) mO co) O]:=hs6;clear hs5;go_wp2_with fail
      go_roundw
      case rel=>exact ⟨i+1,_,rfl,by omega,by go_num,by rw [HFIN.out]; exact hs6⟩
      case measure=>simp [intOf]; omega
    ·have i1:¬(i:Int)<(n:Int):=by omega
     have hie:i=n:=by omega
     have HAK:Hid (AOk c (aRow c x out)):=zTD (by rw [<-HEND.out,<-hie]; exact r1);have hlen:k+1≤(aRow c x out).length:=by
      rw [<-HEND.out,<-hie];have:=(zTG ((r2 k (zTI _)).trans HXK.out)).1;omega
     rw [hie,HEND.out] at hs;clear hie r1 r2 r3;go_wp2_with fail
     go_roundw
     case rel=>exact ⟨k+1,_,_,rfl,hlen,by go_num,hs,zTD ⟨HAK.out,HFO.out⟩⟩
     case measure=>simp [intOf]; omega
  ·have k1:¬(k:Int)<(out.length:Int):=by omega
   have he:out=elL c:=by
    obtain ⟨_,f,_,he⟩:=HQ.out;rw [zNp (by omega)] at he;exact he
   have HE:=zTD he;clear he;go_wp2_with fail
   go_ret
   exact ⟨_,rfl,by rw [<-HE.out]; exact HS.F hs 0 rfl,hs.bl⟩
def elOk (c:List (List Int)):Bool:=finB c && decide (szP c≤200)
def elR (c:List (List Int)):List (List Int):=if elOk c then elL c else []
theorem zK8 {c:List (List Int)} (h:FinP c):1≤szP c:=by
 have h1:=h.texts.size;rw [<-h1];unfold szN;have:∀(l:List (List UInt8)) (q:Nat),1≤q→(∀x∈l,∃k,k<12∧x=tyNm k)→1≤(l.map szB).foldl (· * ·) q:=by
  intro l
  induction l with
  | nil=>intro q hq _; exact hq
  | cons x l ih =>
   intro q hq hx;rw [List.map_cons,List.foldl_cons];refine ih _ ?_ (fun y hy=>hx y (List.mem_cons_of_mem _ hy));obtain ⟨k,hk,rfl⟩:=hx x (List.mem_cons_self ..);have:∀k,k<12→1≤szB (tyNm k):=by decide
   have:=this k hk;exact Nat.mul_pos hq this
 exact this _ _ (zTI _) (zGZ h)
theorem zDU {c:List (List Int)} (h:elOk c=true):finB c=true∧FinP c∧szP c≤200∧szC c=szP c:=by
 unfold elOk at h;rw [Bool.and_eq_true,decide_eq_true_eq] at h;exact ⟨h.1,zEr h.1,h.2,by unfold szC; rw [if_pos h.1]⟩
theorem zQZ {c:List (List Int)} (h:elOk c=false):szC c=0∨200<szC c:=by
 unfold szC;unfold elOk at h;split
 ·rename_i hf
  rw [hf,Bool.true_and,decide_eq_false_iff_not] at h;exact .inr (by omega)
 ·exact .inl rfl
theorem zDW {S:Nat→Prop} {u:Value} {c:List (List Int)} {w:World} (h:RII S w u c) (hl:total c≤16777216) :
  Calls Tryz.prog 11 #[u] w fun e w'=>∃r,e=.returned (.tuple #[r,.bool (elOk c)])∧FII (New w w') w' r (elR c)∧Below w.heap.size w w':=by
 have hsz:=zF5 h hl;cases hok:elOk c with
 | false =>
  have HR:Hid (elR c=[]):=zTD (by unfold elR; rw [hok]; rfl);have hno:=zQZ hok;obtain ⟨aa,ca,rfl⟩:=h.form;clear hok h;generalize szC c=z at *;rcases hno with rfl | hno
  ·go_enter Tryz.func11,Tryz.ntmps11
   go_wp2_with fail
   refine hsz.mono ?_;rintro e w1 ⟨rfl,b1⟩;have hf:=FII.empty_of b1 (w1:=w1.alloc (.cells #[] 29)) rfl;clear hsz;go_wp2_with fail
   go_ret2
   exact ⟨_,rfl,by rw [HR.out]; exact hf.1,hf.2⟩
  ·have i1:(200:Int)<(z:Int):=by omega
   have i2:¬(z:Int)<1:=by omega
   go_enter Tryz.func11,Tryz.ntmps11
   go_wp2_with fail
   refine hsz.mono ?_;rintro e w1 ⟨rfl,b1⟩;have hf:=FII.empty_of b1 (w1:=w1.alloc (.cells #[] 29)) rfl;clear hsz;go_wp2_with fail
   go_ret2
   exact ⟨_,rfl,by rw [HR.out]; exact hf.1,hf.2⟩
 | true =>
  obtain ⟨h1,h2,h3,h4⟩:=zDU hok;have HR:Hid (elR c=elL c):=zTD (by unfold elR; rw [hok]; rfl);have hpos:=zK8 h2;rw [h4] at hsz;have hall:=fun (wv:World) (hb:Below w.heap.size w wv)=>zJ7 (h.below hb) h2 h3 hl;obtain ⟨aa,ca,rfl⟩:=h.form;have i1:¬(200:Int)<(szP c:Int):=by omega
  have i2:¬(szP c:Int)<1:=by omega
  clear hok h h1 h2 h4;generalize szP c=z at *;go_enter Tryz.func11,Tryz.ntmps11
  go_wp2_with fail
  refine hsz.mono ?_;rintro e w1 ⟨rfl,b1⟩;have hcall:=hall w1 b1;clear hsz hall;go_wp2_with fail
  refine hcall.mono ?_;rintro e w2 ⟨r2,rfl,f2,b2⟩;go_wp2_with fail
  go_ret2
  exact ⟨_,rfl,by rw [HR.out]; exact f2.mono (fun b hb=>⟨Nat.le_trans b1.size hb.1,hb.2⟩),zAC.step b1 b2⟩
def zC2 (S:List (List Int)):List Value:=S.flatMap fun l=>[.int .i64 (num l 0),.int .i64 (num l 1),.int .i64 (num l 2),.int .i64 (num l 3)]
theorem zQj:(Tryz.prog.info? 142).map (fun i=>(i.zero,i.size,i.bytes))=some (some (.agg #[.int .i64 0,.int .i64 0,.int .i64 0,.int .i64 0]),4,32):=by kernel_rfl
theorem zGH:∀(S:List (List Int)) (j t:Nat),t<4→(zC2 S)[4*j+t]? = (S[j]?).map fun l=>.int .i64 (num l t)
 | [],j,t,_=>by simp [zC2]
 | x::S,0,t,ht=>by
  have:t=0∨t=1∨t=2∨t=3:=by omega
  rcases this with rfl | rfl | rfl | rfl <;> simp [zC2]
 | x::S,j+1,t,ht=>by
  have ih:=zGH S j t ht;unfold zC2 at *;rw [List.flatMap_cons,List.getElem?_append_right (by simp; omega),List.getElem?_cons_succ,<-ih];congr 1;simp; omega
theorem zJo (S:List (List Int)) (x:List Int):zC2 (S++[x])=zC2 S++[.int .i64 (num x 0),.int .i64 (num x 1),.int .i64 (num x 2),.int .i64 (num x 3)]:=by simp [zC2]
abbrev aW (v:Value) (S:List (List Int)):zAI:=fun F w=>w.ownsRow 0 142 4 v S.length (zC2 S)∧∀b,v.ownBlock=some b→F b
theorem st_W (v:Value) (S:List (List Int)):zAg (aW v S):=fun _ _ _ h k=>⟨zAk h.1 fun b hb=>k b (h.2 b hb) (h.1.lt b hb).2,h.2⟩
section
variable {A:Nat→Prop} {w0 w w':World} {Ps:List zAI}
theorem HSx.cellW {g n cap:Nat} {S:List (List Int)} (h:HSx A w0 w Ps) (i:Nat) (hi:Ps[i]? = some (aW (.slice (some ⟨g,0,none⟩) n cap) S)) {j:Nat} {x:List Int} (hx:S[j]? = some x) :
  w.cell? ⟨g,j*4,none⟩=some (.int .i64 (num x 0))∧w.cell? ⟨g,j*4+1,none⟩=some (.int .i64 (num x 1))∧w.cell? ⟨g,j*4+2,none⟩=some (.int .i64 (num x 2))∧w.cell? ⟨g,j*4+3,none⟩=some (.int .i64 (num x 3)):=by
 obtain ⟨F,hF,_⟩:=HSx.get h i hi;have hj:=(zTG hx).1;have hn:n=S.length:=by
  rcases hF.1.2 with ⟨hv,_⟩ | ⟨_,_,_,hv,_⟩ <;> simp at hv; exact hv.2.1
 subst hn;have hq:∀t,t<4→w.cell? ⟨g,j*4+t,none⟩=some (.int .i64 (num x t)):=fun t ht=>by
  rw [hF.1.cellAt (j*4+t) (by omega),Nat.mul_comm,zGH S j t ht,hx]; rfl
 exact ⟨hq 0 (by omega),hq 1 (by omega),hq 2 (by omega),hq 3 (by omega)⟩
theorem HSx.formW {v:Value} {S:List (List Int)} (h:HSx A w0 w Ps) (i:Nat) (hi:Ps[i]? = some (aW v S)):(∃a cap,v=.slice a S.length cap)∧(0<S.length→∃g cap,v=.slice (some ⟨g,0,none⟩) S.length cap):=by
 obtain ⟨F,hF,_⟩:=HSx.get h i hi;rcases hF.1.2 with ⟨rfl,h0⟩ | ⟨g,cap,cur,rfl,_⟩
 ·exact ⟨⟨_,_,by rw [h0]⟩,fun h=>by omega⟩
 ·exact ⟨⟨_,_,rfl⟩,fun _=>⟨g,cap,rfl⟩⟩
theorem zSP (h:HSx A w0 w Ps) {w1:World} (hw:w1=w.alloc (.cells #[] 142)):HSx A w0 w1 (Ps++[aW (.slice (some ⟨w.heap.size,0,none⟩) 0 0) []]):=by
 subst hw;refine h.add ((Below.refl _ _).alloc (zTI _) _) (st_W _ _) (F:=fun b=>b=w.heap.size) ⟨?_,fun b hb=>by simpa [Value.ownBlock] using hb.symm⟩ (fun b hb=>by subst hb; exact ⟨zTI _,by simp⟩);exact World.ownsRow_lit (base:=0) (e:=142) (size:=4) w #[] 0 (Nat.zero_le _) (by unfold maxLen; omega) rfl
theorem oneW (h:HSx A w0 w Ps) (x:List Int) {w1:World} (hw:w1=w.alloc (.cells #[.int .i64 (num x 0),.int .i64 (num x 1),.int .i64 (num x 2),.int .i64 (num x 3)] 142)):HSx A w0 w1 (Ps++[aW (.slice (some ⟨w.heap.size,0,none⟩) 1 1) [x]]):=by
 subst hw;refine h.add ((Below.refl _ _).alloc (zTI _) _) (st_W _ _) (F:=fun b=>b=w.heap.size) ⟨?_,fun b hb=>by simpa [Value.ownBlock] using hb.symm⟩ (fun b hb=>by subst hb; exact ⟨zTI _,by simp⟩);exact World.ownsRow_lit (base:=0) (e:=142) (size:=4) w #[.int .i64 (num x 0),.int .i64 (num x 1),.int .i64 (num x 2),.int .i64 (num x 3)] 1 (Nat.zero_le _) (by unfold maxLen; omega) rfl
variable {ops:Array Oper} {rest:List Oper} {o:Oper} {a:Act} {Q:Exit→Act→World→Prop}
theorem zLr (hgd:o.guard=none) (s x:Operand)
  (ho:o.op=.call { callee:=.builtin .append,args:=#[s,x],argTypes:=#[144,144] })
  {v:Value} {S:List (List Int)} {z:List Int} (hs:a.eval s=v) (h:HSx A w0 w Ps) (i:Nat) (hi:Ps[i]? = some (aW v S)) (hnew:∀b,v.ownBlock=some b→w0.heap.size≤b)
  {H:Nat} (hx:a.eval x=.slice (some ⟨H,0,none⟩) 1 1) (hc0:w.cell? ⟨H,0,none⟩=some (.int .i64 (num z 0))) (hc1:w.cell? ⟨H,1,none⟩=some (.int .i64 (num z 1)))
  (hc2:w.cell? ⟨H,2,none⟩=some (.int .i64 (num z 2))) (hc3:w.cell? ⟨H,3,none⟩=some (.int .i64 (num z 3))) (hlen:S.length+1≤67108864)
  (k:∀v' w',HSx A w0 w' (Ps.set i (aW v' (S++[z])))→wpList Tryz.prog ops Q rest (a.put o.dst v') w'):wpList Tryz.prog ops Q (o::rest) a w:=by
 obtain ⟨F0,hf,_⟩:=HSx.get h i hi;refine wpList_plain hgd fun K hK=>zDP s x Tryz.underlying144 zQj rfl (by decide) ho (base:=0) (news:=[.int .i64 (num z 0),.int .i64 (num z 1),.int .i64 (num z 2),.int .i64 (num z 3)]) hs hf.1 (Nat.zero_le _) hx rfl ?_ (by intro u hu; simp at hu; rcases hu with rfl | rfl | rfl | rfl <;> rfl) (by omega) (by decide) ?_
 ·intro j u hj
  match j,hj with
  | 0,hj=>simp at hj; subst hj; simpa [Addr.add] using hc0
  | 1,hj=>simp at hj; subst hj; simpa [Addr.add] using hc1
  | 2,hj=>simp at hj; subst hj; simpa [Addr.add] using hc2
  | 3,hj=>simp at hj; subst hj; simpa [Addr.add] using hc3
 ·intro v' w' h2 h3 h4;refine hK _ _ (k v' w' (h.upd i hi (st_W _ _) (zBA h.bl h3 hnew) h3.size fun F hF _=>⟨fun b=>v'.ownBlock=some b,⟨?_,fun b hb=>hb⟩,fun b hb=>?_,fun b hl hb=>h3.block b hl (fun e=>hb (hF.2 b e.symm))⟩))
  ·rw [List.length_append,zJo]; exact h2
  ·rcases h4 b hb with e | e
   ·exact .inl (hF.2 b e)
   ·exact .inr ⟨e,(h2.lt b hb).2⟩
end
theorem HS.newW {w0 w:World} {Ps:List zAI} {v:Value} {S:List (List Int)} (h:HS w0 w Ps) (i:Nat) (hi:Ps[i]? = some (aW v S)):∀b,v.ownBlock=some b→w0.heap.size≤b:=fun b hb=>by
 obtain ⟨F,hF,hFn⟩:=HSx.get h i hi;exact (hFn b (hF.2 b hb)).1.elim (fun h=>h.elim) id
theorem zPh {l:List Int} {n:Nat} (hl:l.length=n) (h4:n≤4):[num l 0,num l 1,num l 2,num l 3].take n=l:=by
 subst hl;rcases l with _ | ⟨a,_ | ⟨b,_ | ⟨c,_ | ⟨d,_ | ⟨e,l⟩⟩⟩⟩⟩ <;> simp [num] at h4 ⊢
theorem zIy {l:List Int} {n:Nat} (hl:l.length=n) (h4:n≤4) (w:World) :
  Calls Tryz.prog 166 #[vec l,.int .i64 n] w fun e w'=>∃r,e=.returned r∧FI (New w w') w' r l∧Below w.heap.size w w':=by
 have HT:=zTD (zPh hl h4);have hcs:n=0∨n=1∨n=2∨n=3∨n=4:=by omega
 clear hl;unfold vec;have i1:(0:Int)≤(n:Int):=by omega
 have i2:(n:Int)≤4:=by omega
 have i3:((n:Int)).toNat=n:=by omega
 clear hcs;generalize num l 0=x0 at *;generalize num l 1=x1 at *;generalize num l 2=x2 at *;generalize num l 3=x3 at *;go_enter Tryz.func166,Tryz.ntmps166
 obtain ⟨w1,hw1⟩:∃w1,w1=w.alloc (.cells #[.int .i64 x0,.int .i64 x1,.int .i64 x2,.int .i64 x3] 142):=⟨_,rfl⟩;have hown:=(FI.fresh0 w1).1;have b1:Below w.heap.size w w1:=by rw [hw1]; exact (Below.refl _ w).alloc (zTI _) _
 have b2:Below w.heap.size w (w1.alloc (.cells #[] 3)):=b1.alloc b1.size _;have hz:w1.heap.size=w.heap.size+1:=by rw [hw1]; simp
 have hnews:∀(j:Nat) (u:Value),(([.int .i64 x0,.int .i64 x1,.int .i64 x2,.int .i64 x3]:List Value).take n)[j]? = some u→(w1.alloc (.cells #[] 3)).cell? ((⟨w.heap.size,0,none⟩:Addr).add j)=some u:=fun j u hj=>by
  rw [List.getElem?_take] at hj;split at hj
  ·rw [hw1]
   match j,hj with
   | 0,hj=>simp at hj; subst hj; simp only [Addr.add]; go_simp
   | 1,hj=>simp at hj; subst hj; simp only [Addr.add]; go_simp
   | 2,hj=>simp at hj; subst hj; simp only [Addr.add]; go_simp
   | 3,hj=>simp at hj; subst hj; simp only [Addr.add]; go_simp
   | _+4,hj=>simp at hj
  ·cases hj
 have HNW:=zTD hnews;have HOW:=zTD hown;have HW1:=zTD hw1;rw [hz] at hown;have HO2:=zTD hown;have HLN:Hid ((([.int .i64 x0,.int .i64 x1,.int .i64 x2,.int .i64 x3]:List Value).take n).length=n*1):=zTD (by rw [List.length_take]; simp; omega);have HML:Hid (([.int .i64 x0,.int .i64 x1,.int .i64 x2,.int .i64 x3]:List Value).take n=l.map (Value.int .i64)):=zTD (by rw [<-HT.out,List.map_take]; rfl);have HNL:Hid (l.length=n):=zTD (by rw [<-HT.out,List.length_take]; simp; omega);have HZ:Hid (w.heap.size≤(w1.alloc (.cells #[] 3)).heap.size):=zTD b2.size;clear hnews hown hw1 hz
 go_wp2_with (at_builtin; go_must (rw [<-HW1.out]; refine wpList_plain rfl fun K hK=>zDP _ _ Tryz.underlying29 zA8 rfl (by decide) rfl (base:=0) (news:=([.int .i64 x0,.int .i64 x1,.int .i64 x2,.int .i64 x3]:List Value).take n) rfl HO2.out (Nat.zero_le _) rfl HLN.out HNW.out (by intro u hu; have:=List.mem_of_mem_take hu; simp at this; rcases this with rfl | rfl | rfl | rfl <;> rfl) (by rw [List.length_nil]; omega) (by decide) ?_))
 intro v' w' h2 h3 h4;have hfin:FI (New w w') w' v' l∧Below w.heap.size w w':=by
  have hb:Below w.heap.size w w':=zBA b2 h3 (fun b hb=>by simp only [Value.ownBlock,Option.some.injEq] at hb; omega);refine ⟨⟨?_,fun b hb=>⟨?_,(h2.lt b hb).2⟩⟩,hb⟩
  ·have:=h2;rw [HML.out] at this;rw [HNL.out]; exact this
  ·rcases h4 b hb with e | e
   ·simp only [Value.ownBlock,Option.some.injEq] at e; omega
   ·have:=b1.size; omega
 clear h2 h3 h4;refine hK _ _ ?_;go_wp2_with fail
 go_ret
 exact ⟨_,rfl,hfin.1,hfin.2⟩
end Go.Proofs.YtlgcdacpjcnjgaaGreatDoor
namespace Go.Proofs.YtlgcdacpjcnjgaaGreatDoor
open Go.RowKit
set_option maxRecDepth 20000
set_option maxHeartbeats 8000000
abbrev aC4 (b:Nat) (x:List Int):zAI:=fun F w=>F b∧w.heap[b]? = some (.cells #[.int .i64 (num x 0),.int .i64 (num x 1),.int .i64 (num x 2),.int .i64 (num x 3)] 142 (0,0))
theorem zS6 (b:Nat) (x:List Int):zAg (aC4 b x):=fun _ _ _ h k=>⟨h.1,by rw [k b h.1 (Array.getElem?_eq_some_iff.1 h.2).1]; exact h.2⟩
section
variable {A:Nat→Prop} {w0 w w':World} {Ps:List zAI}
theorem HSx.cellC4 {b:Nat} {x:List Int} (h:HSx A w0 w Ps) (i:Nat) (hi:Ps[i]? = some (aC4 b x)):w.cell? ⟨b,0,none⟩=some (.int .i64 (num x 0))∧w.cell? ⟨b,1,none⟩=some (.int .i64 (num x 1))∧w.cell? ⟨b,2,none⟩=some (.int .i64 (num x 2))∧w.cell? ⟨b,3,none⟩=some (.int .i64 (num x 3)):=by
 obtain ⟨F,hF,_⟩:=HSx.get h i hi;exact ⟨by simp [World.cell?,hF.2],by simp [World.cell?,hF.2],by simp [World.cell?,hF.2],by simp [World.cell?,hF.2]⟩
theorem HSx.cellC4at {b:Nat} {x:List Int} (h:HSx A w0 w Ps) (i:Nat) (hi:Ps[i]? = some (aC4 b x)) {t:Nat} (ht:t<4):w.cell? ⟨b,t,none⟩=some (.int .i64 (num x t)):=by
 obtain ⟨h0,h1,h2,h3⟩:=h.cellC4 i hi;have:t=0∨t=1∨t=2∨t=3:=by omega
 rcases this with rfl | rfl | rfl | rfl <;> assumption
theorem HSx.newC4 {b:Nat} {x:List Int} (h:HSx A w0 w Ps) (hw:w'=w.alloc (.cells #[.int .i64 (num x 0),.int .i64 (num x 1),.int .i64 (num x 2),.int .i64 (num x 3)] 142)) (hb:b=w.heap.size):HSx A w0 w' (Ps++[aC4 b x]):=by
 subst hw; subst hb;exact h.add ((Below.refl _ _).alloc (zTI _) _) (zS6 _ _) (F:=fun b=>b=w.heap.size) ⟨rfl,heap_alloc_new w _⟩ (fun b hb=>by subst hb; exact ⟨zTI _,by simp⟩)
theorem HSx.only' {v:Value} {l l':List Int} (h:HSx A w0 w Ps) (i:Nat) (hi:Ps[i]? = some (aI v l)) (hnew:∀b,v.ownBlock=some b→w0.heap.size≤b)
  (hf:FI (fun b=>v.ownBlock=some b) w' v l') (ho:Only (fun b=>v.ownBlock=some b) w w'):HSx A w0 w' (Ps.set i (aI v l')) :=
 h.upd i hi (st_I _ _) (h.bl.trans (ho.below hnew)) ho.size_le fun F hF _=>⟨F,⟨hf.1,hF.2⟩,fun _ hb=>.inl hb,fun b _ hb=>ho.block b (fun e=>hb (hF.2 b e))⟩
end
theorem zHu (c:List (List Int)) (i:Nat) (x:Int):∀(l:List Int) (k:Nat),InI (zAh c i x l k)
 | [],_=>fun y hy=>by simp [zAh] at hy
 | v::l,k=>fun y hy=>by
  simp only [zAh,List.mem_cons] at hy;rcases hy with rfl | hy
  ·unfold wrap64; omega
  ·exact zHu c i x l (k+1) y hy
theorem zPN (c:List (List Int)) (i:Nat) (l:List Int):InI (refl c i l):=zHu c i _ l 0
def zLD (c:List (List Int)) (w:World) (e:Ending) (w':World):Prop:=∃r q,e=.returned (.tuple #[r,.bool q])∧FII (New w w') w' r (elL c)∧Below w.heap.size w w'
theorem zNu {S:Nat→Prop} {u:Value} {c:List (List Int)} {w:World} (h:RII S w u c) (hF:FinP c) (hs:szP c≤200) :
  Calls Tryz.prog 111 #[u,.int .i64 60,.int .i64 200] w (zLD c w):=by
 have HRES:Hid (zLD c w=fun e w'=>∃r q,e=.returned (.tuple #[r,.bool q])∧FII (New w w') w' r (elL c)∧Below w.heap.size w w'):=zTD rfl;have mixed:Tryz.prog.follows .mixedOrders=true:=by kernel_rfl
 have hmm:=@run_makeMap Tryz.prog;have hcp:=hF.cart;have h4:c.length≤4:=hcp.le;have hsq:=hcp.sq;have HREF:=zTD (fun (w1:World) (b1:Below w.heap.size w w1) (i:Nat) (hi:i<c.length) (vv:Value) (x:List Int) (S9:Nat→Prop) (hx:FI S9 w1 vv x) (hnew:∀b,S9 b→w.heap.size≤b) (hxl:x.length=c.length) =>
  zDA (h.old.below b1) hx (fun b hb hb'=>by have h1:=hb.2; have h2:=hnew b hb'; omega) i hi hsq hxl (by omega))
 have HRL:=zTD (fun (i:Nat) (x:List Int)=>zA5 c i x);have HNO:=zTD (fun (wv:World) (b1:Below w.heap.size w wv) (vv:Value) (x:List Int) (m:Nat) (S9:Nat→Prop) (hx:RI S9 wv vv x) (him:Im c x m) (hm:m≤30)=>zGa (h.below b1) hx hcp him hm);have HFIN:=zTD (fun (m:Nat) (out N:List (List Int)) (hq:BlQ c m out N) (hz:N.length=0)=>hq.fin hF hs hz);have HOF:=zTD (fun (m:Nat) (out N:List (List Int)) (hq:BlQ c m out N)=>hq.out_few hF hs);have HML:=zTD (fun (m:Nat) (out N:List (List Int)) (hq:BlQ c m out N) (hz:N.length≠0)=>hq.m_le hF hz);have HFW:=zTD (fun (m:Nat) (out N:List (List Int)) (hq:BlQ c m out N)=>hq.few hF hs);have HNX:=zTD (fun (m:Nat) (out N:List (List Int)) (hq:BlQ c m out N) (hz:N.length≠0)=>hq.next hF hs hz);have HST:Hid (BlQ c 0 [[]] [List.replicate c.length 1]):=zTD (BlQ.start hF)
 have HNL:=zTD (fun (x:List Int) (hx:Nf c x)=>zII hF hs hx);obtain ⟨au,cu,rfl⟩:=h.form;have hl0:(List.replicate c.length (1:Int)).length=c.length:=by simp
 have HON:=zTD (fun (wv:World)=>zJF (w:=wv) c.length (by omega));generalize hone:List.replicate c.length (1:Int)=one at *;generalize hn:c.length=n at *;have HN:=zTD hn;have HL0:=zTD hl0;clear hn hone hl0 hs hF
 -- the list of the empty word
 obtain ⟨w1,hw1⟩:∃w1,w1=w.alloc (.cells #[] 3):=⟨_,rfl⟩;obtain ⟨w2,hw2⟩:∃w2,w2=w1.alloc (.cells #[.slice (some ⟨w.heap.size,0,none⟩) 0 0] 29):=⟨_,rfl⟩;have hs1:=HSx.addI (HS.nil (Below.refl _ w)) (zAN (Below.refl _ w) hw1).2 (zAN (Below.refl _ w) hw1).1;have hs2:=HSx.newV1 hs1 _ hw2;have hs2:HS w w2 [aI (.slice (some ⟨w.heap.size,0,none⟩) 0 0) [],aV 29 (.slice (some ⟨w1.heap.size,0,none⟩) 1 1) [.slice (some ⟨w.heap.size,0,none⟩) 0 0]]:=hs2;have hs3:=(HSx.iToRs' hs2 0 rfl).pick [1,0] (by decide);have hs3:HS w w2 [aV 29 (.slice (some ⟨w1.heap.size,0,none⟩) 1 1) (([(.slice (some ⟨w.heap.size,0,none⟩) 0 0,[])]:Zl).map Prod.fst),aRs [(.slice (some ⟨w.heap.size,0,none⟩) 0 0,[])]]:=hs3;have HW2:=zTD (show w2=(w.alloc (.cells #[] 3)).alloc (.cells #[.slice (some ⟨w.heap.size,0,none⟩) 0 0] 29) by rw [hw2,hw1])
 have hz1:w1.heap.size=w.heap.size+1:=by rw [hw1]; simp
 rw [hz1] at hs3;have hcall:=HON.out w2;clear hs1 hs2 hw1 hw2 hz1 HON;go_enter Tryz.func111,Tryz.ntmps111
 go_wp2_with fail
 rw [<-HW2.out];refine hcall.mono ?_;rintro e w3 ⟨r3,rfl,f3,b3⟩;have hs4:=HSx.below hs3 b3;have hvc:=zFL f3.reads (by rw [HL0.out]; exact h4);obtain ⟨a3,c3,rfl⟩:=f3.form;clear hcall hs3 b3 f3;go_wp2_with fail
 refine hvc.mono ?_;rintro e w4 ⟨rfl,b4⟩;have hs5:=HSx.below hs4 b4;unfold vec;obtain ⟨w5,hw5⟩:∃w5,w5=w4.alloc (.cells #[.int .i64 (num one 0),.int .i64 (num one 1),.int .i64 (num one 2),.int .i64 (num one 3)] 142):=⟨_,rfl⟩;have hs6:=oneW hs5 one hw5;have hs6:HS w w5 [aV 29 (.slice (some ⟨w.heap.size+1,0,none⟩) 1 1) (([(.slice (some ⟨w.heap.size,0,none⟩) 0 0,[])]:Zl).map Prod.fst),aRs [(.slice (some ⟨w.heap.size,0,none⟩) 0 0,[])],aW (.slice (some ⟨w4.heap.size,0,none⟩) 1 1) [one]]:=hs6;have HW5:=zTD hw5;clear hvc hs4 hs5 b4 hw5;go_wp2_with fail
 rw [<-HW5.out];generalize w4.heap.size=g4 at *;generalize hgz:w.heap.size+1=gz at *;have HQ0:Hid (BlQ c 0 (([(.slice (some ⟨w.heap.size,0,none⟩) 0 0,[])]:Zl).map Prod.snd) [one]):=zTD HST.out;go_loopw [8,9,10] (fun oo ss ll wr=>∃(m:Nat) (vo vs:Value) (Z:Zl) (N:List (List Int)),vo=oo∧vs=ss∧ll=.int .i64 ((m:Int)+1)∧m≤25∧HS w wr [aV 29 vo (Z.map Prod.fst),aRs Z,aW vs N]∧Hid (BlQ c m (Z.map Prod.snd) N)) (fun _ _ ll _=>30-(intOf ll).toNat)
 case atStart=>exact ⟨0,_,_,_,_,rfl,rfl,by go_num,by omega,hs6,HQ0⟩
 case round =>
  clear hs6 HQ0 hgz;obtain ⟨m,vo,vs,Z,N,rfl,rfl,rfl,hm25,hs,HQ⟩:=hrel;have hfo:=HOF.out _ _ _ HQ.out;have hfn:=HFW.out _ _ _ HQ.out;rw [List.length_map] at hfo;have j1:(m:Int)+1≤60:=by omega
  by_cases hz:N.length=0
  ·have hfin:=HFIN.out _ _ _ HQ.out hz;obtain ⟨⟨a9,c9,rfl⟩,_⟩:=hs.formW 2 rfl;have hs7:HS w wr [aF vo (Z.map Prod.snd)]:=((HSx.shutF hs (Z:=Z) (v:=vo) 0 1 (by decide) rfl rfl).pick [0] (by decide));rw [hfin] at hs7;rw [hz];clear hfin hs;go_wp2_with fail
   go_ret2
   rw [HRES.out];exact ⟨_,_,rfl,HS.F hs7 0 rfl,hs7.bl⟩
  ·have hm24:=HML.out _ _ _ HQ.out hz;obtain ⟨HQ2,hlim,hndN⟩:=HNX.out _ _ _ HQ.out hz;have HQN:=zTD HQ2;have HND:=zTD hndN;obtain ⟨_,hg⟩:=hs.formW 2 rfl;obtain ⟨gs,cs,rfl⟩:=hg (by omega);have hN0:(0:Int)<(N.length:Int):=by omega
   have hN0e:0<N.length:=by omega
   clear HQ2 hndN hg
   -- a set and the next shell
   obtain ⟨w6,hw6⟩:∃w6,w6=wr.alloc (.map #[] 0):=⟨_,rfl⟩;have hs6:=HSx.newSet hs 142 n hw6;obtain ⟨w7,hw7⟩:∃w7,w7=w6.alloc (.cells #[] 142):=⟨_,rfl⟩;have hs7:=zSP hs6 hw7;have hz6:w6.heap.size=wr.heap.size+1:=by rw [hw6]; simp
   rw [hz6] at hs7;have hs7:HS w w7 [aV 29 vo (Z.map Prod.fst),aRs Z,aW (.slice (some ⟨gs,0,none⟩) N.length cs) N,aS 142 wr.heap.size n ((N.take 0).foldl (zBh c) []),aW (.slice (some ⟨wr.heap.size+1,0,none⟩) 0 0) ((N.take 0).foldl (zBh c) [])]:=hs7;have HW7:=zTD (show w7=(wr.alloc (.map #[] 0)).alloc (.cells #[] 142) by rw [hw7,hw6]);have hmb:w.heap.size≤wr.heap.size:=hs.bl.size;have HNXL:=zTD (fun k (hk:k≤N.length)=>zKA (c:=c) N k hk);have HNXS:=zTD (fun k x (hx:N[k]? = some x)=>zIP (c:=c) hx);have HNXE:Hid ((N.take N.length).foldl (zBh c) []=zA9 c N):=zTD (by rw [List.take_of_length_le (zTI _)]; rfl);have HIM:=zTD HQ.out.shl;rw [HN.out] at HNXL HNXS;generalize hln:N.length=ln at *;have HLN:=zTD hln;clear hs hs6 hw6 hw7 hz6 hln;go_wp2_with fail
   rw [<-HW7.out];clear hN0 hN0e j1 hz;generalize wr.heap.size=mb at *;go_loopw [12,42] (fun nn kk wr=>∃(k:Nat) (vn:Value),vn=nn∧k≤ln∧kk=.int .i64 k∧HS w wr [aV 29 vo (Z.map Prod.fst),aRs Z,aW (.slice (some ⟨gs,0,none⟩) ln cs) N,aS 142 mb n ((N.take k).foldl (zBh c) []),aW vn ((N.take k).foldl (zBh c) [])]) (fun _ kk _=>ln-(intOf kk).toNat)
   case atStart=>exact ⟨0,_,rfl,Nat.zero_le _,rfl,hs7⟩
   case round =>
    clear hs7 HW7;obtain ⟨k,vn,rfl,hk,rfl,hs⟩:=hrel;by_cases hkl:k<ln
    ·have k1:(k:Int)<(ln:Int):=by omega
     have k2:(0:Int)≤(k:Int):=by omega
     obtain ⟨x,hx⟩:∃x,N[k]? = some x:=⟨N[k]'(by rw [HLN.out]; exact hkl),zTE _⟩;obtain ⟨q0,q1,q2,q3⟩:=hs.cellW 2 rfl hx;have him:=(HIM.out.im x (zTF hx)).1;have HXL:Hid (x.length=n):=zTD (by rw [him.len,HN.out]);have hstep:=HNXS.out k x hx;have hlen0:=HNXL.out k hk;generalize (N.take k).foldl (zBh c) []=N0 at *;have hkn:k*n≤200*4:=Nat.mul_le_mul (by omega) h4;obtain ⟨w8,hw8⟩:∃w8,w8=wr.alloc (.cells #[.int .i64 (num x 0),.int .i64 (num x 1),.int .i64 (num x 2),.int .i64 (num x 3)] 142):=⟨_,rfl⟩;have hs8:=HSx.newC4 (x:=x) hs hw8 rfl;have hs8:HS w w8 [aV 29 vo (Z.map Prod.fst),aRs Z,aW (.slice (some ⟨gs,0,none⟩) ln cs) N,aS 142 mb n ((List.range 0).foldl (zAn c x) N0),aW vn ((List.range 0).foldl (zAn c x) N0),aC4 wr.heap.size x]:=hs8;have HW8:=zTD hw8;have HBL:=zTD (fun i=>zFs (c:=c) x N0 i)
     have HBS:=zTD (fun i=>zHJ c x N0 i);have HX:=zTD hx;have HSTP:=zTD hstep;clear hs hw8 him hx hstep;go_wp2_with fail
     rw [<-HW8.out];generalize wr.heap.size=gx at *;go_loopw [12,48] (fun nn ii wr=>∃(i:Nat) (vn:Value),vn=nn∧i≤n∧ii=.int .i64 i∧HS w wr [aV 29 vo (Z.map Prod.fst),aRs Z,aW (.slice (some ⟨gs,0,none⟩) ln cs) N,aS 142 mb n ((List.range i).foldl (zAn c x) N0),aW vn ((List.range i).foldl (zAn c x) N0),aC4 gx x]) (fun _ ii _=>n-(intOf ii).toNat)
     case atStart=>exact ⟨0,_,rfl,Nat.zero_le _,rfl,hs8⟩
     case round =>
      clear hs8 HW8;obtain ⟨i,vn,rfl,hi,rfl,hs⟩:=hrel;by_cases hin:i<n
      ·have i1:(i:Int)<(n:Int):=by omega
       have i2:(0:Int)≤(i:Int):=by omega
       have i3:(i:Int)<4:=by omega
       have i4:i<4:=by omega
       obtain ⟨c0,c1,c2,c3⟩:=hs.cellC4 5 rfl;have ci:=hs.cellC4at 5 rfl (t:=i) (by omega);have hbl:=HBL.out i;have hbs:=HBS.out i;generalize hM:(List.range i).foldl (zAn c x) N0=M at *;clear hM;by_cases hneg:num x i<0
       ·have HB2:Hid ((List.range (i+1)).foldl (zAn c x) N0=M):=zTD (by rw [hbs]; unfold zAn; rw [if_pos hneg]);clear hbs;go_wp2_with fail
        go_roundw
        case rel=>exact ⟨i+1,_,rfl,by omega,by go_num,by rw [HB2.out]; exact hs⟩
        case measure=>simp [intOf]; omega
       ·have hst:(List.range (i+1)).foldl (zAn c x) N0=if refl c i x∈M then M else M++[refl c i x]:=by rw [hbs]; unfold zAn; rw [if_neg hneg]
        have HST:=zTD hst;have hli:=zIy HXL.out h4 wr;unfold vec at hli;clear hbs hst;go_wp2_with fail
        refine hli.mono ?_;rintro e w9 ⟨r9,rfl,f9,b9⟩;obtain ⟨a9,c9,hr9⟩:=f9.form;rw [HXL.out] at hr9;subst hr9;have hs9:=HSx.addI hs b9 f9;have hs9:HS w w9 [aV 29 vo (Z.map Prod.fst),aRs Z,aW (.slice (some ⟨gs,0,none⟩) ln cs) N,aS 142 mb n M,aW vn M,aC4 gx x,aI (.slice a9 n c9) x]:=hs9;have hrf:=HREF.out w9 hs9.bl i hin (.slice a9 n c9) x _ ((f9.own).mono (fun b hb=>hb.2)) (fun b hb=>Nat.le_trans hs.bl.size (f9.2 b hb).1) HXL.out;have HNW:Hid (∀b,(Value.slice a9 n c9).ownBlock=some b→w.heap.size≤b):=zTD (fun b hb=>Nat.le_trans hs.bl.size (f9.2 b hb).1);clear hs f9 b9 hli c0 c1 c2 c3 ci;go_wp2_with fail
        refine hrf.mono ?_;rintro e w10 ⟨rfl,f10,o10⟩;have hs10:=hs9.only' 6 rfl HNW.out f10 o10;have hs10:HS w w10 [aV 29 vo (Z.map Prod.fst),aRs Z,aW (.slice (some ⟨gs,0,none⟩) ln cs) N,aS 142 mb n M,aW vn M,aC4 gx x,aI (.slice a9 n c9) (refl c i x)]:=hs10;have HXR:Hid ((refl c i x).length=n):=zTD (by rw [HRL.out,HXL.out]);have hvc:=zFL f10.reads (by rw [HXR.out]; exact h4);clear hs9 f10 o10 hrf;go_wp2_with fail
        refine hvc.mono ?_;rintro e w11 ⟨rfl,b11⟩;have hs11:=(HSx.below hs10 b11).pick [0,1,2,3,4,5] (by decide);have hs11:HS w w11 [aV 29 vo (Z.map Prod.fst),aRs Z,aW (.slice (some ⟨gs,0,none⟩) ln cs) N,aS 142 mb n M,aW vn M,aC4 gx x]:=hs11;obtain ⟨w12,hw12⟩:∃w12,w12=w11.alloc (.cells #[.int .i64 (num (refl c i x) 0),.int .i64 (num (refl c i x) 1),.int .i64 (num (refl c i x) 2),.int .i64 (num (refl c i x) 3)] 142):=⟨_,rfl⟩;have hs12:=hs11.alloc (.cells #[.int .i64 (num (refl c i x) 0),.int .i64 (num (refl c i x) 1),.int .i64 (num (refl c i x) 2),.int .i64 (num (refl c i x) 3)] 142);rw [<-hw12] at hs12;have hs12:HS w w12 [aV 29 vo (Z.map Prod.fst),aRs Z,aW (.slice (some ⟨gs,0,none⟩) ln cs) N,aS 142 mb n M,aW vn M,aC4 gx x]:=hs12;have k0:w12.cell? ⟨w11.heap.size,0,none⟩=some (.int .i64 (num (refl c i x) 0)):=by rw [hw12]; go_simp
        have k1:w12.cell? ⟨w11.heap.size,1,none⟩=some (.int .i64 (num (refl c i x) 1)):=by rw [hw12]; go_simp
        have k2:w12.cell? ⟨w11.heap.size,2,none⟩=some (.int .i64 (num (refl c i x) 2)):=by rw [hw12]; go_simp
        have k3:w12.cell? ⟨w11.heap.size,3,none⟩=some (.int .i64 (num (refl c i x) 3)):=by rw [hw12]; go_simp
        have hs13:=HSx.newC4 (x:=refl c i x) hs11 hw12 rfl;have hs13:HS w w12 [aV 29 vo (Z.map Prod.fst),aRs Z,aW (.slice (some ⟨gs,0,none⟩) ln cs) N,aS 142 mb n M,aW vn M,aC4 gx x,aC4 w11.heap.size (refl c i x)]:=hs13;have HW12:=zTD hw12;have hin4:InI (refl c i x):=zPN c i x;have hlz5:M.length<67108864:=by omega
        clear hs10 hvc b11 hs11 hw12;unfold vec;by_cases hmem:refl c i x∈M
        ·have HMEM:=zTD hmem;have HB2:Hid ((List.range (i+1)).foldl (zAn c x) N0=M):=zTD (by rw [HST.out,if_pos hmem]);clear hmem;go_wp2_with (at_lookup; go_must (rw [<-HW12.out]; refine zIF rfl _ _ rfl rfl hs12 3 rfl HXR.out hin4 rfl HMEM ?_))
         go_roundw
         case rel=>exact ⟨i+1,_,rfl,by omega,by go_num,by rw [HB2.out]; exact hs12⟩
         case measure=>simp [intOf]; omega
        ·have HMEM:=zTD hmem;have HB2:Hid ((List.range (i+1)).foldl (zAn c x) N0=M++[refl c i x]):=zTD (by rw [HST.out,if_neg hmem]);clear hmem hs12;go_wp2_with (first | (at_lookup; go_must (rw [<-HW12.out]; refine zJi rfl _ _ rfl rfl hs13 3 rfl HXR.out hin4 rfl HMEM ?_)) | (at_mapUpdate; go_must (refine zIE rfl _ _ _ rfl rfl hs13 3 rfl hmb h4 hlz5 HXR.out hin4 rfl rfl ?_)))
         intro w14 hs14;have hs14:HS w w14 [aV 29 vo (Z.map Prod.fst),aRs Z,aW (.slice (some ⟨gs,0,none⟩) ln cs) N,aS 142 mb n (M++[refl c i x]),aW vn M,aC4 gx x,aC4 w11.heap.size (refl c i x)]:=hs14;obtain ⟨d0,d1,d2,d3⟩:=hs14.cellC4 6 rfl;obtain ⟨w15,hw15⟩:∃w15,w15=w14.alloc (.cells #[.int .i64 (num (refl c i x) 0),.int .i64 (num (refl c i x) 1),.int .i64 (num (refl c i x) 2),.int .i64 (num (refl c i x) 3)] 142):=⟨_,rfl⟩;have hs15:=hs14.alloc (.cells #[.int .i64 (num (refl c i x) 0),.int .i64 (num (refl c i x) 1),.int .i64 (num (refl c i x) 2),.int .i64 (num (refl c i x) 3)] 142);rw [<-hw15] at hs15;have hs15:HS w w15 [aV 29 vo (Z.map Prod.fst),aRs Z,aW (.slice (some ⟨gs,0,none⟩) ln cs) N,aS 142 mb n (M++[refl c i x]),aW vn M,aC4 gx x,aC4 w11.heap.size (refl c i x)]:=hs15
         have e0:w15.cell? ⟨w14.heap.size,0,none⟩=some (.int .i64 (num (refl c i x) 0)):=by rw [hw15]; go_simp
         have e1:w15.cell? ⟨w14.heap.size,1,none⟩=some (.int .i64 (num (refl c i x) 1)):=by rw [hw15]; go_simp
         have e2:w15.cell? ⟨w14.heap.size,2,none⟩=some (.int .i64 (num (refl c i x) 2)):=by rw [hw15]; go_simp
         have e3:w15.cell? ⟨w14.heap.size,3,none⟩=some (.int .i64 (num (refl c i x) 3)):=by rw [hw15]; go_simp
         have HW15:=zTD hw15;have HNV:=zTD (HS.newW hs15 4 rfl);have hlm:M.length+1≤67108864:=by omega
         clear hw15 hs14 hs13 hlz5 hin4 k0 k1 k2 k3;go_wp2_with (at_builtin; go_must (rw [<-HW15.out]; refine zLr rfl _ _ rfl rfl hs15 4 rfl HNV.out rfl e0 e1 e2 e3 hlm ?_))
         intro v16 w16 hs16;have hs17:=hs16.pick [0,1,2,3,4,5] (by decide);have hs17:HS w w16 [aV 29 vo (Z.map Prod.fst),aRs Z,aW (.slice (some ⟨gs,0,none⟩) ln cs) N,aS 142 mb n (M++[refl c i x]),aW v16 (M++[refl c i x]),aC4 gx x]:=hs17;rw [<-HB2.out] at hs17;clear hs15 hs16 e0 e1 e2 e3 d0 d1 d2 d3;go_wp2_with fail
         go_roundw
         case rel=>exact ⟨i+1,_,rfl,by omega,by go_num,hs17⟩
         case measure=>simp [intOf]; omega
      ·have i1:¬(i:Int)<(n:Int):=by omega
       have hie:i=n:=by omega
       rw [hie,<-HSTP.out] at hs;have hs9:=hs.pick [0,1,2,3,4] (by decide);have hs9:HS w wr [aV 29 vo (Z.map Prod.fst),aRs Z,aW (.slice (some ⟨gs,0,none⟩) ln cs) N,aS 142 mb n ((N.take (k+1)).foldl (zBh c) []),aW vn ((N.take (k+1)).foldl (zBh c) [])]:=hs9;clear hs hie;go_wp2_with fail
       go_roundw
       case rel=>exact ⟨k+1,_,rfl,by omega,by go_num,hs9⟩
       case measure=>simp [intOf]; omega
    ·have k1:¬(k:Int)<(ln:Int):=by omega
     have hke:k=ln:=by omega
     rw [hke,HNXE.out] at hs;clear hke;have hs0:=hs.pick [0,1,4] (by decide);have hs0:HS w wr [aV 29 vo (Z.map Prod.fst),aRs Z,aW vn (zA9 c N)]:=hs0;clear hs;obtain ⟨⟨ao,co,rfl⟩,_⟩:=hs0.formV 0 rfl;obtain ⟨⟨an,cn,rfl⟩,hgn⟩:=hs0.formW 2 rfl;have HGN:=zTD hgn;have hzl:(Z.map Prod.fst).length=Z.length:=by simp
     have hzl2:(Z.map Prod.snd).length=Z.length:=by simp
     rw [hzl2] at hlim;rw [hzl] at hs0 ⊢;generalize hzn:Z.length=zn at *;have HZN:=zTD hzn;generalize hN2:zA9 c N=N2 at *;generalize hl2:N2.length=l2 at *;have HL2:=zTD hl2;have i7:¬(200:Int)<(zn:Int)+(l2:Int):=by omega
     obtain ⟨w8,hw8⟩:∃w8,w8=wr.alloc (.cells #[] 29):=⟨_,rfl⟩;have hs8:=zAj hs0 hw8;have hs8:=hs8.add (Below.refl _ _) (zA7 []) (F:=NoB) ⟨fun x hx=>by simp at hx,List.Pairwise.nil⟩ (fun b hb=>hb.elim);have hs8:HS w w8 [aV 29 (.slice ao zn co) (Z.map Prod.fst),aRs Z,aW (.slice an l2 cn) N2,aV 29 (.slice (some ⟨wr.heap.size,0,none⟩) 0 0) (([]:Zl).map Prod.fst),aRs []]:=hs8;have HW8:=zTD hw8;have HY0:Hid (([]:Zl).map Prod.snd=(N2.take 0).map (nf c 30)):=zTD rfl;clear hs0 hw8 hzl hzl2 hzn hN2 hl2 hgn hlim;go_wp2_with fail
     rw [<-HW8.out];go_loopw [18,88] (fun ww kk wr=>∃(k gw cw:Nat) (Y:Zl),ww=.slice (some ⟨gw,0,none⟩) k cw∧k≤l2∧kk=.int .i64 k∧HS w wr [aV 29 (.slice ao zn co) (Z.map Prod.fst),aRs Z,aW (.slice an l2 cn) N2,aV 29 (.slice (some ⟨gw,0,none⟩) k cw) (Y.map Prod.fst),aRs Y]∧Hid (Y.map Prod.snd=(N2.take k).map (nf c 30))) (fun _ kk _=>l2-(intOf kk).toNat)
     case atStart=>exact ⟨0,_,_,[],rfl,Nat.zero_le _,rfl,hs8,HY0⟩
     case round =>
      clear hs8 HW8 HY0;obtain ⟨k,gw,cw,Y,rfl,hk,rfl,hs,HY⟩:=hrel;have hyl:Y.length=k:=by
       have:=congrArg List.length HY.out;rw [List.length_map,List.length_map,List.length_take,HL2.out] at this;omega
      by_cases hkl:k<l2
      ·have k1:(k:Int)<(l2:Int):=by omega
       have k2:(0:Int)≤(k:Int):=by omega
       obtain ⟨gn,cn2,en⟩:=HGN.out (by omega);simp only [Value.slice.injEq] at en;obtain ⟨rfl,_,rfl⟩:=en;obtain ⟨x,hx⟩:∃x,N2[k]? = some x:=⟨N2[k]'(by rw [HL2.out]; exact hkl),zTE _⟩;obtain ⟨q0,q1,q2,q3⟩:=hs.cellW 2 rfl hx;have himx:=(HQN.out.shl.im x (zTF hx)).1;have HXL:Hid (x.length=n):=zTD (by rw [himx.len,HN.out]);have HIMX:=zTD himx;have HY2:Hid (Y.map Prod.snd++[nf c 30 x]=(N2.take (k+1)).map (nf c 30)):=zTD (by rw [HY.out,zAP hx,List.map_append]; rfl);have hs9:=hs.alloc (.cells #[.int .i64 (num x 0),.int .i64 (num x 1),.int .i64 (num x 2),.int .i64 (num x 3)] 142);obtain ⟨w9,hw9⟩:∃w9,w9=wr.alloc (.cells #[.int .i64 (num x 0),.int .i64 (num x 1),.int .i64 (num x 2),.int .i64 (num x 3)] 142):=⟨_,rfl⟩;rw [<-hw9] at hs9;have k0:w9.cell? ⟨wr.heap.size,0,none⟩=some (.int .i64 (num x 0)):=by rw [hw9]; go_simp
       have k1':w9.cell? ⟨wr.heap.size,1,none⟩=some (.int .i64 (num x 1)):=by rw [hw9]; go_simp
       have k2':w9.cell? ⟨wr.heap.size,2,none⟩=some (.int .i64 (num x 2)):=by rw [hw9]; go_simp
       have k3:w9.cell? ⟨wr.heap.size,3,none⟩=some (.int .i64 (num x 3)):=by rw [hw9]; go_simp
       have HW9:=zTD hw9;have hli:=zIy HXL.out h4 w9;unfold vec at hli;clear hs himx hx hw9;go_wp2_with fail
       rw [<-HW9.out];go_wp2_with fail
       refine hli.mono ?_;rintro e w10 ⟨r10,rfl,f10,b10⟩;have hs10:=HSx.below hs9 b10;have hno:=HNO.out w10 hs10.bl r10 x (m+1) _ f10.reads HIMX.out (by omega);clear hli hs9 f10 b10 k0 k1' k2' k3 q0 q1 q2 q3;go_wp2_with fail
       refine hno.mono ?_;rintro e w11 ⟨r11,rfl,f11,b11⟩;have hs11:=HSx.addI hs10 b11 f11;obtain ⟨a11,c11,rfl⟩:=f11.form;have hone11:(Value.slice a11 (nf c 30 x).length c11).oneCell'=true:=oneC f11.reads;generalize (nf c 30 x).length=nx at *;obtain ⟨w12,hw12⟩:∃w12,w12=w11.alloc (.cells #[.slice a11 nx c11] 29):=⟨_,rfl⟩;have hs12:=hs11.alloc (.cells #[.slice a11 nx c11] 29);rw [<-hw12] at hs12;have hs12:HS w w12 [aV 29 (.slice ao zn co) (Z.map Prod.fst),aRs Z,aW (.slice (some ⟨gn,0,none⟩) l2 cn) N2,aV 29 (.slice (some ⟨gw,0,none⟩) k cw) (Y.map Prod.fst),aRs Y,aI (.slice a11 nx c11) (nf c 30 x)]:=hs12;have hc12:w12.cell? ⟨w11.heap.size,0,none⟩=some (.slice a11 nx c11):=by rw [hw12]; go_simp
       have HW12:=zTD hw12;have HNV:=zTD (HS.newV hs12 3 rfl);have HYL:Hid ((Y.map Prod.fst).length+1≤67108864):=zTD (by rw [List.length_map]; omega);clear hno hs10 hs11 f11 b11 hw12;go_wp2_with (at_builtin; go_must (rw [<-HW12.out]; refine zAH rfl _ _ rfl rfl hs12 3 rfl HNV.out rfl hc12 hone11 HYL.out ?_))
       intro v13 w13 hs13 _;have hs14:=(hs13.moreS 4 5 (by decide) rfl rfl (Z':=Y++[(.slice a11 nx c11,nf c 30 x)]) (List.perm_append_singleton _ _)).pick [0,1,2,3,4] (by decide);have hs14:HS w w13 [aV 29 (.slice ao zn co) (Z.map Prod.fst),aRs Z,aW (.slice (some ⟨gn,0,none⟩) l2 cn) N2,aV 29 v13 ((Y++[(Value.slice a11 nx c11,nf c 30 x)]).map Prod.fst),aRs (Y++[(Value.slice a11 nx c11,nf c 30 x)])]:=by
        have e:(Y++[(Value.slice a11 nx c11,nf c 30 x)]).map Prod.fst=Y.map Prod.fst++[Value.slice a11 nx c11]:=by simp
        rw [e]; exact hs14
       have HY3:Hid ((Y++[(Value.slice a11 nx c11,nf c 30 x)]).map Prod.snd=(N2.take (k+1)).map (nf c 30)):=zTD (by rw [List.map_append]; exact HY2.out);have hyl3:((Y++[(Value.slice a11 nx c11,nf c 30 x)]).map Prod.fst).length=k+1:=by simp [hyl]
       obtain ⟨_,hg13⟩:=hs14.formV 3 rfl;obtain ⟨g13,c13,rfl⟩:=hg13 (by omega);rw [hyl3] at hs14 ⊢;clear hs12 hs13 hc12 hyl3 hg13;generalize Y++[(Value.slice a11 nx c11,nf c 30 x)]=Y3 at *;go_wp2_with fail
       go_roundw
       case rel=>exact ⟨k+1,_,_,_,rfl,by omega,by go_num,hs14,HY3⟩
       case measure=>simp [intOf]; omega
      ·have k1:¬(k:Int)<(l2:Int):=by omega
       have hke:k=l2:=by omega
       subst hke;have HY4:Hid (Y.map Prod.snd=N2.map (nf c 30)):=zTD (by rw [HY.out,List.take_of_length_le (by rw [HL2.out]; exact zTI _)]);have HYLE:Hid (∀z∈Y,z.2.length≤26):=zTD (fun z hz=>by
        have h1:z.2∈Y.map Prod.snd:=List.mem_map.2 ⟨z,hz,rfl⟩;rw [HY4.out] at h1;obtain ⟨v9,hv9,e9⟩:=List.mem_map.1 h1;have:=(HQN.out.shl.im v9 hv9).2;rw [<-e9]; omega)
       have hsrt:=hs.sortWords (Z:=Y) (v:=.slice (some ⟨gw,0,none⟩) k cw) (n:=26) 3 4 (by decide) rfl rfl (HS.newV hs 3 rfl) HYLE.out (by omega) (by omega);clear hs;go_wp2_with fail
       refine hsrt.mono ?_;rintro e w9 ⟨rfl,Y2,hp,hsr,hs9⟩;have hs9:HS w w9 [aV 29 (.slice ao zn co) (Z.map Prod.fst),aRs Z,aW (.slice an k cn) N2,aV 29 (.slice (some ⟨gw,0,none⟩) k cw) (Y2.map Prod.fst),aRs Y2]:=hs9;have HPT:Hid (Y2.map Prod.snd=zCJ (N2.map (nf c 30))):=zTD (by
        refine zJZ ?_ (hsr.imp (fun h=>by omega)) HND.out;rw [<-HY4.out];exact hp.map _)
       have hy2l:(Y2.map Prod.fst).length=k:=by rw [List.length_map,hp.length_eq,hyl]
       have hone2:∀u∈Y2.map Prod.fst,u.oneCell'=true:=fun u hu=>by
        obtain ⟨z,hz,rfl⟩:=List.mem_map.1 hu;obtain ⟨F,hF,_⟩:=HSx.get hs9 4 rfl;exact oneC (hF.1 z hz).reads
       have hlen9:(Z.map Prod.fst).length+k≤67108864:=by rw [List.length_map,HZN.out]; omega
       have HNV:=zTD (HS.newV hs9 0 rfl);have HO2:=zTD hone2;have HY2L:=zTD hy2l;clear hsrt hp hsr hone2 hy2l;go_wp2_with (at_builtin; go_must (refine zDB rfl _ _ rfl rfl hs9 0 3 rfl rfl HY2L.out HNV.out rfl HO2.out hlen9 ?_))
       intro v10 w10 hs10 _;have hs11:=((HSx.bothS hs10 1 4 (by decide) rfl rfl).pick [0,1,2] (by decide));have hs11:HS w w10 [aV 29 v10 ((Z++Y2).map Prod.fst),aRs (Z++Y2),aW (.slice an k cn) N2]:=by rw [List.map_append]; exact hs11
       have HQ3:Hid (BlQ c (m+1) ((Z++Y2).map Prod.snd) N2):=zTD (by rw [List.map_append,HPT.out]; exact HQN.out);clear hs9 hs10;generalize Z++Y2=Z3 at *;go_wp2_with fail
       go_roundw
       case rel=>exact ⟨m+1,_,_,Z3,N2,rfl,rfl,by go_num,by omega,hs11,HQ3⟩
       case measure=>simp [intOf]; omega
end Go.Proofs.YtlgcdacpjcnjgaaGreatDoor
namespace Go.Proofs.YtlgcdacpjcnjgaaGreatDoor
open Go.RowKit
set_option maxRecDepth 20000
set_option maxHeartbeats 8000000
theorem zLo:∀k,k<12→∀w:World,Calls Tryz.prog 158 #[.string (bs (tyNm k))] w (TcP k w)
 | 0,_,w=>zRZ w
 | 1,_,w=>zRa w
 | 2,_,w=>zRb w
 | 3,_,w=>zRc w
 | 4,_,w=>zRd w
 | 5,_,w=>zRe w
 | 6,_,w=>zRf w
 | 7,_,w=>zRg w
 | 8,_,w=>zRh w
 | 9,_,w=>zRi w
 | 10,_,w=>zPi w
 | 11,_,w=>zPj w
 | _+12,h,_=>absurd h (by omega)
theorem zNM (w:World):Calls Tryz.prog 104 #[.string ⟨#[65,49]⟩] w fun e w'=>e=.returned (.int .i64 2)∧Below w.heap.size w w':=by
 go_enter Tryz.func104,Tryz.ntmps104
 go_wp2_with fail
 go_ret
 exact ⟨rfl,Below.refl _ _⟩
theorem zNN (w:World):Calls Tryz.prog 104 #[.string ⟨#[65,50]⟩] w fun e w'=>e=.returned (.int .i64 6)∧Below w.heap.size w w':=by
 go_enter Tryz.func104,Tryz.ntmps104
 go_wp2_with fail
 go_ret
 exact ⟨rfl,Below.refl _ _⟩
theorem zNO (w:World):Calls Tryz.prog 104 #[.string ⟨#[65,51]⟩] w fun e w'=>e=.returned (.int .i64 24)∧Below w.heap.size w w':=by
 go_enter Tryz.func104,Tryz.ntmps104
 go_wp2_with fail
 go_ret
 exact ⟨rfl,Below.refl _ _⟩
theorem zNP (w:World):Calls Tryz.prog 104 #[.string ⟨#[65,52]⟩] w fun e w'=>e=.returned (.int .i64 120)∧Below w.heap.size w w':=by
 go_enter Tryz.func104,Tryz.ntmps104
 go_wp2_with fail
 go_ret
 exact ⟨rfl,Below.refl _ _⟩
theorem zNQ (w:World):Calls Tryz.prog 104 #[.string ⟨#[66,50]⟩] w fun e w'=>e=.returned (.int .i64 8)∧Below w.heap.size w w':=by
 go_enter Tryz.func104,Tryz.ntmps104
 go_wp2_with fail
 go_ret
 exact ⟨rfl,Below.refl _ _⟩
theorem zNR (w:World):Calls Tryz.prog 104 #[.string ⟨#[66,51]⟩] w fun e w'=>e=.returned (.int .i64 48)∧Below w.heap.size w w':=by
 go_enter Tryz.func104,Tryz.ntmps104
 go_wp2_with fail
 go_ret
 exact ⟨rfl,Below.refl _ _⟩
theorem zNS (w:World):Calls Tryz.prog 104 #[.string ⟨#[66,52]⟩] w fun e w'=>e=.returned (.int .i64 384)∧Below w.heap.size w w':=by
 go_enter Tryz.func104,Tryz.ntmps104
 go_wp2_with fail
 go_ret
 exact ⟨rfl,Below.refl _ _⟩
theorem zNT (w:World):Calls Tryz.prog 104 #[.string ⟨#[67,51]⟩] w fun e w'=>e=.returned (.int .i64 48)∧Below w.heap.size w w':=by
 go_enter Tryz.func104,Tryz.ntmps104
 go_wp2_with fail
 go_ret
 exact ⟨rfl,Below.refl _ _⟩
theorem zNU (w:World):Calls Tryz.prog 104 #[.string ⟨#[67,52]⟩] w fun e w'=>e=.returned (.int .i64 384)∧Below w.heap.size w w':=by
 go_enter Tryz.func104,Tryz.ntmps104
 go_wp2_with fail
 go_ret
 exact ⟨rfl,Below.refl _ _⟩
theorem zNV (w:World):Calls Tryz.prog 104 #[.string ⟨#[68,52]⟩] w fun e w'=>e=.returned (.int .i64 192)∧Below w.heap.size w w':=by
 go_enter Tryz.func104,Tryz.ntmps104
 go_wp2_with fail
 go_ret
 exact ⟨rfl,Below.refl _ _⟩
theorem zLj (w:World):Calls Tryz.prog 104 #[.string ⟨#[70,52]⟩] w fun e w'=>e=.returned (.int .i64 1152)∧Below w.heap.size w w':=by
 go_enter Tryz.func104,Tryz.ntmps104
 go_wp2_with fail
 go_ret
 exact ⟨rfl,Below.refl _ _⟩
theorem zLk (w:World):Calls Tryz.prog 104 #[.string ⟨#[71,50]⟩] w fun e w'=>e=.returned (.int .i64 12)∧Below w.heap.size w w':=by
 go_enter Tryz.func104,Tryz.ntmps104
 go_wp2_with fail
 go_ret
 exact ⟨rfl,Below.refl _ _⟩
theorem zJW:∀k,k<12→∀w:World,Calls Tryz.prog 104 #[.string (bs (tyNm k))] w fun e w'=>e=.returned (.int .i64 (szB (tyNm k)))∧Below w.heap.size w w'
 | 0,_,w=>zNM w
 | 1,_,w=>zNN w
 | 2,_,w=>zNO w
 | 3,_,w=>zNP w
 | 4,_,w=>zNQ w
 | 5,_,w=>zNR w
 | 6,_,w=>zNS w
 | 7,_,w=>zNT w
 | 8,_,w=>zNU w
 | 9,_,w=>zNV w
 | 10,_,w=>zLj w
 | 11,_,w=>zLk w
 | _+12,h,_=>absurd h (by omega)
def HasM (w:World):Prop:=∃m:Int,w.cell? ⟨0,0,none⟩=some (.int .i64 m)
theorem HasM.below {w w':World} (h:HasM w) (hb:Below w.heap.size w w'):HasM w':=by
 obtain ⟨m,hm⟩:=h;exact ⟨m,(hb.cell (p:=⟨0,0,none⟩) (zTH _ _ hm)).trans hm⟩
theorem zRu (x:ByteArray):bs x.data.toList=x:=by
 apply ByteArray.ext;simp [bs]
theorem zNX (t sp:List UInt8) (h1:1≤sp.length):Lib.splitB (bs sp) 0 (Lib.countB (bs t) (bs sp)) (bs t)=(Lib.split t sp).map bs∧(Lib.split t sp).length=Lib.countB (bs t) (bs sp)+1:=by
 have hd:=Lib.splitB_data (bs sp) 0 (Lib.countB (bs t) (bs sp)) (bs t);have e:Lib.splitK (bs sp).data.toList 0 (Lib.countB (bs t) (bs sp)) (bs t).data.toList=Lib.split t sp:=by
  unfold Lib.split Lib.countB;rw [zDJ,zDJ]
 rw [e] at hd;have hl:=Lib.splitB_all (bs sp) (by rw [zBU]; exact h1) 0 _ (bs t) rfl;refine ⟨?_,by rw [<-hd,List.length_map,hl]⟩;rw [<-hd,List.map_map]
 conv=>lhs; rw [<-List.map_id (Lib.splitB (bs sp) 0 (Lib.countB (bs t) (bs sp)) (bs t))]
 exact List.map_congr_left (fun x _=>(zRu x).symm)
def TxAt (w:World) (b:Nat) (l:List (List UInt8)):Prop:=∀(j:Nat) (x:List UInt8),l[j]? = some x→w.cell? ⟨b,j,none⟩=some (.string (bs x))
theorem TxAt.below {w w':World} {b:Nat} {l:List (List UInt8)} (h:TxAt w b l) (hb:Below w.heap.size w w'):TxAt w' b l:=fun j x hx =>
 (hb.cell (p:=⟨b,j,none⟩) (zTH _ _ (h j x hx))).trans (h j x hx)
theorem zHx {t sp:List UInt8} {w:World} (hm:HasM w) (ht:t.length≤1048576) (h1:1≤sp.length) :
  Calls Tryz.prog 103 #[.string (bs t),.string (bs sp)] w fun e w'=>e=.returned (.slice (some ⟨w.heap.size,0,none⟩) (Lib.split t sp).length (Lib.split t sp).length)∧TxAt w' w.heap.size (Lib.split t sp)∧Below w.heap.size w w':=by
 obtain ⟨m,hm⟩:=hm;obtain ⟨e1,e2⟩:=zNX t sp h1;refine (Tryz.strings_Split (bs t) (bs sp) m w (by rw [zBU]; omega) hm (by rw [zBU]; exact h1)).mono ?_;rintro e w' ⟨rfl,rfl⟩;refine ⟨by rw [e2],fun j x hx=>?_,(Below.refl _ w).alloc (zTI _) _⟩;rw [e1];unfold World.cell?;rw [World.alloc];simp [hx]
def zFI:List UInt8:=[65,49,32,65,50,32,65,51,32,65,52,32,66,50,32,66,51,32,66,52,32,67,51,32,67,52,32,68,52,32,70,52,32,71,50,32,65,49,126,32,65,50,126,32,65,51,126,32,67,50,126,32,71,50,126]
theorem zFJ:Lib.split zFI [32]=tyN++[[65,49,126],[65,50,126],[65,51,126],[67,50,126],[71,50,126]]:=by decide +kernel
theorem zNh {k:Nat} (hk:k<12):(Lib.split zFI [32])[k]? = some (tyNm k):=by
 rw [zFJ,List.getElem?_append_left (by exact hk)];unfold tyNm;have:k<tyN.length:=hk;rw [zTE this]; rfl
theorem zOV {S:Nat→Prop} {u:Value} {c:List (List Int)} {w:World} (h:RII S w u c) (hc:isC c=true) (hl:total c≤16777216) (h1:(zAU c).length=1) :
  Calls Tryz.prog 157 #[u] w fun e w'=>e=.returned (.bool true)∧Below w.heap.size w w':=by
 have hp:=zHr h hc hl;obtain ⟨aa,ca,rfl⟩:=h.form;go_enter Tryz.func157,Tryz.ntmps157
 go_wp2_with fail
 refine hp.mono ?_;rintro e w1 ⟨r1,rfl,f1,b1⟩;obtain ⟨a1,c1,rfl⟩:=f1.any.form;rw [List.length_map,h1];clear hp f1;go_wp2_with fail
 go_ret
 exact ⟨rfl,b1⟩
theorem zI6 {S:Nat→Prop} {u:Value} {a:List (List Int)} {k:Nat} {w:World} (h:RII S w u a) (hm:HasM w) (ha:isC a=true) (h1:(zAU a).length=1) (hla:total a≤16777216) (hk:nmK isoI a=some k) (hk12:k<12) :
  Calls Tryz.prog 106 #[u] w fun e w'=>e=.returned (.string (bs (tyNm k)))∧Below w.heap.size w w':=by
 have mixed:Tryz.prog.follows .mixedOrders=true:=by kernel_rfl
 obtain ⟨hyes,hno⟩:=zGY hk;have HISO:=zTD (fun (wv:World) (S9:Nat→Prop) (vv:Value) (j:Nat) (hj:j<12) (hb:Below w.heap.size w wv) (hx:RII S9 wv vv (tyMx j)) =>
  zQm (h.below hb) hx ha (zJg j hj) hla (by
   obtain ⟨q1,q2⟩:=zLA j hj;exact Nat.le_trans (zDp q1 q2) (by omega)))
 have hco:=zOV h ha hla h1;have HSP:=zTD (fun (wv:World) (hb:Below w.heap.size w wv)=>zHx (t:=zFI) (sp:=[32]) (hm.below hb) (by decide) (by decide));have hl17:(Lib.split zFI [32]).length=17:=by rw [zFJ]; rfl
 rw [hl17] at HSP;have HTX:=zTD (fun (j:Nat) (hj:j<12)=>zNh hj);have HY:=zTD hyes;have HN:=zTD hno;obtain ⟨aa,ca,rfl⟩:=h.form;generalize a.length=na at *;generalize Lib.split zFI [32]=T at *;clear hyes hno h hk hl17 h1;go_enter Tryz.func106,Tryz.ntmps106
 go_wp2_with fail
 refine hco.mono ?_;rintro e w1 ⟨rfl,b1⟩;clear hco;go_wp2_with fail
 refine (HSP.out w1 b1).mono ?_;rintro e w2 ⟨rfl,c2,b2⟩;have hb2:=zAC.step b1 b2;clear b2;generalize w1.heap.size=g at *;go_wp2_with fail
 go_loopw [14] (fun jj wr=>∃j:Nat,j≤k∧jj=.int .i64 j∧TxAt wr g T∧Below w.heap.size w wr) (fun jj _=>k-(intOf jj).toNat)
 case atStart=>exact ⟨0,Nat.zero_le _,rfl,c2,hb2⟩
 case round =>
  clear c2 hb2;obtain ⟨j,hj,rfl,hc,hb⟩:=hrel;have j1:(j:Int)<17:=by omega
  have j2:(0:Int)≤(j:Int):=by omega
  have j3:j<17:=by omega
  have hcj:=hc j _ (HTX.out j (by omega));have htc:=zLo j (by omega) wr;generalize hnm:tyNm j=nm at *;have HNM:=zTD hnm;clear hnm;go_wp2_with fail
  refine htc.mono ?_;rintro e w2 ⟨r2,rfl,f2,b2⟩;have hb2:=zAC.step hb b2;have hc2:=hc.below b2;have hiso:=HISO.out w2 _ r2 j (by omega) hb2 f2.read;clear htc f2 b2 hcj;by_cases hjk:j=k
  ·subst hjk;rw [HY.out] at hiso;go_wp2_with fail
   refine hiso.mono ?_;rintro e w3 ⟨r3,rfl,b3⟩;have hb3:=zAC.step hb2 b3;clear hiso b3;go_wp2_with fail
   go_ret
   exact ⟨by rw [HNM.out]; rfl,hb3⟩
  ·rw [HN.out j (by omega)] at hiso;go_wp2_with fail
   refine hiso.mono ?_;rintro e w3 ⟨r3,rfl,b3⟩;have hb3:=zAC.step hb2 b3;have hc3:=hc2.below b3;clear hiso b3;go_wp2_with fail
   go_roundw
   case rel=>exact ⟨j+1,by omega,by go_num,hc3,hb3⟩
   case measure=>simp [intOf]; omega
def svL (l:List (List UInt8)):List Value:=l.map fun x=>Value.string (bs x)
theorem zPf (l:List (List UInt8)) (x:List UInt8):svL (l++[x])=svL l++[.string (bs x)]:=by simp [svL]
theorem zG6 (l:List (List UInt8)):(svL l).length=l.length:=by simp [svL]
theorem HS.texts {w0 w:World} {Ps:List zAI} {v:Value} {l:List (List UInt8)} (h:HS w0 w Ps) (i:Nat) (hi:Ps[i]? = some (aV 9 v (svL l))):FS (New w0 w) w v l:=by
 obtain ⟨F,hF,hFn⟩:=HSx.get h i hi;have h1:=hF.1;rw [zG6] at h1;exact ⟨h1,fun b hb=>by have:=hFn b (hF.2 b hb); exact ⟨this.1.elim (fun h=>h.elim) id,this.2⟩⟩
theorem HS.addTx {w0 w w':World} {Ps:List zAI} {v:Value} {l:List (List UInt8)} (h:HS w0 w Ps) (hb:Below w.heap.size w w') (f:FS (New w w') w' v l):HS w0 w' (Ps++[aV 9 v (svL l)]) :=
 HSx.add h hb (st_V _ _ _) (F:=New w w') ⟨by rw [zG6]; exact f.1,f.2⟩ (fun _ h=>h)
theorem zO6 {S:Nat→Prop} {u:Value} {c:List (List Int)} {w:World} (h:RII S w u c) (hm:HasM w) (hf:FinP c) (hl:total c≤16777216) :
  Calls Tryz.prog 65 #[u] w fun e w'=>e=.returned (.string (bs (nmT c)))∧Below w.heap.size w w':=by
 have mixed:Tryz.prog.follows .mixedOrders=true:=by kernel_rfl
 have hc:=hf.cart;have hC:=zAS.2 hc;obtain ⟨hps,hnm⟩:=hf.names;have hok:=hf.texts;have HPT:=zTD (fun (wv:World) (hb:Below w.heap.size w wv)=>zHr (h.below hb) hC hl);have h4:=hc.le;have HSUB:=zTD (fun (wv:World) (S9:Nat→Prop) (vv:Value) (p:List Nat) (hp:p∈zAU c) (hb:Below w.heap.size w wv) (hx:RI S9 wv vv (iL p)) =>
  zGg (h.below hb) hx hc.sq (hok.part p hp).pts h4 (by
   have h1:=(hok.part p hp).car;have h2:=(zAS.1 h1).le;rw [(zCs c p).1] at h2;simp; omega))
 have HNAME:=zTD (fun (wv:World) (S9:Nat→Prop) (vv:Value) (p:List Nat) (hp:p∈zAU c) (hb:Below w.heap.size w wv) (hx:RII S9 wv vv (zAc c p))=>(show ∃nm:List UInt8,nm.length=2∧nmOf (zAc c p)=nm∧Calls Tryz.prog 106 #[vv] wv fun e w'=>e=.returned (.string (bs nm))∧Below wv.heap.size wv w' from by
  obtain ⟨k,hk,h1,h2⟩:=hnm p hp;have hq:=(zCs c p);have hle:=(zAS.1 (hok.part p hp).car).le;refine ⟨tyNm k,zEa k hk,by unfold nmOf; rw [h1]; rfl,zI6 hx (hm.below hb) (hok.part p hp).car (hok.part p hp).one ?_ h1 hk⟩;rw [hq.1] at hle;exact Nat.le_trans (zDp (A:=4) (B:=4) (by rw [hq.1]; exact hle) (fun x hx9=>by rw [hq.2 x hx9]; exact hle)) (by omega)))
 have HL4:Hid ((zAU c).length≤4):=zTD (by have:=hok.few; unfold nmL at this; rwa [List.length_map] at this);have HST:=zTD (fun (i:Nat) (p:List Nat) (hp:(zAU c)[i]? = some p)=>(show (nmL c).take (i+1)=(nmL c).take i++[nmOf (zAc c p)] from zAP (zJD hp)));have HJE:Hid ((nmL c).take (zAU c).length=nmL c):=zTD (List.take_of_length_le (by unfold nmL; rw [List.length_map]; exact zTI _));have HJN:=zTD (fun (wv:World) (S9:Nat→Prop) (vv:Value) (hx:FS S9 wv vv (nmL c))=>zMc hx (sp:=[120]) (by have:=hok.few; omega) (fun x hx9=>by
  obtain ⟨k,hk,rfl⟩:=zGZ hf x hx9;have:=zEa k hk;omega) (by decide))
 have HEQ:Hid (jn [120] (nmL c)=nmT c):=zTD rfl;obtain ⟨aa,ca,rfl⟩:=h.form;have f0:FS (New w (w.alloc (.cells #[] 9))) (w.alloc (.cells #[] 9)) (.slice (some ⟨w.heap.size,0,none⟩) 0 0) []:=FS.empty (Below.refl _ w);have hs0:HS w (w.alloc (.cells #[] 9)) [aV 9 (.slice (some ⟨w.heap.size,0,none⟩) 0 0) (svL [])]:=HS.addTx (HS.nil (Below.refl _ w)) ((Below.refl _ w).alloc (zTI _) _) f0;have b0:Below w.heap.size w (w.alloc (.cells #[] 9)):=(Below.refl _ w).alloc (zTI _) _;clear hps hnm hok hC hf hc h4;go_enter Tryz.func65,Tryz.ntmps65
 go_wp2_with fail
 refine (HPT.out _ b0).mono ?_;rintro e w1 ⟨r1,rfl,f1,b1⟩;have hr1:=f1.any;have hs1:=HSx.addR hs0 b1 f1;obtain ⟨a1,c1,rfl⟩:=hr1.form;rw [List.length_map] at hr1 ⊢;have hs1:HS w w1 [aV 9 (.slice (some ⟨w.heap.size,0,none⟩) 0 0) (svL ((nmL c).take 0)),aR (.slice a1 ((zAU c).map iL).length c1) ((zAU c).map iL)]:=hs1;rw [List.length_map] at hs1;generalize hP:zAU c=P at *;generalize hmm:P.length=m at *;have HM:=zTD hmm;have hm4:=HL4.out;clear hmm f1 hP f0 b0 b1 HPT hs0 hr1;generalize nmL c=NL at *;go_wp2_with fail
 go_loopw [3,10] (fun oo ii wr=>∃(i:Nat) (vo:Value),vo=oo∧i≤m∧ii=.int .i64 i∧HS w wr [aV 9 vo (svL (NL.take i)),aR (.slice a1 m c1) (P.map iL)]) (fun _ ii _=>m-(intOf ii).toNat)
 case atStart=>exact ⟨0,_,rfl,Nat.zero_le _,rfl,hs1⟩
 case round =>
  clear hs1;obtain ⟨i,vo,rfl,hi,rfl,hs⟩:=hrel;have hb:=HSx.bl hs;by_cases him:i<m
  ·have i1:(i:Int)<(m:Int):=by omega
   have i2:(0:Int)≤(i:Int):=by omega
   have hr:=(HS.R hs 1 rfl).any;obtain ⟨b3,o3,r3,l3,rfl,hc3,hr3,hl3⟩:=RII.at hr him;obtain ⟨p,hp⟩:∃p,P[i]? = some p:=⟨P[i]'(by rw [HM.out]; exact him),zTE _⟩;have el:l3=iL p:=by
    have:=hl3.out;rw [List.getElem?_map,hp] at this;exact (Option.some.inj this).symm
   subst el;have hpm:=zTF hp;have hsub:=HSUB.out wr _ r3 p hpm hb hr3;have hname:=fun (wv:World) (S9:Nat→Prop) (vv:Value) (hb9:Below w.heap.size w wv) (hx:RII S9 wv vv (zAc c p))=>HNAME.out wv S9 vv p hpm hb9 hx;have hst:=HST.out i p hp;rw [zFE] at hsub;have hlen:(svL (NL.take i)).length+1≤67108864:=by rw [zG6,List.length_take]; omega
   clear hl3 hpm hp hr3;go_wp2_with fail
   refine hsub.mono ?_;rintro e w2 ⟨r2,rfl,f2,b2⟩;have hb2:=zAC.step hb b2;have hs2:=HSx.below hs b2;obtain ⟨nm,hn2,hnm,hcall⟩:=hname w2 _ r2 hb2 f2.reads;rw [hnm] at hst;clear hsub hname hr b2 f2 hnm hs hb;go_wp2_with fail
   refine hcall.mono ?_;rintro e w3 ⟨rfl,d3⟩;have hs3:=HSx.below hs2 d3;obtain ⟨w4,hw4⟩:∃w4,w4=w3.alloc (.cells #[.string (bs nm)] 9):=⟨_,rfl⟩;have hs4:=hs3.alloc (.cells #[.string (bs nm)] 9);rw [<-hw4] at hs4;have hs4:HS w w4 [aV 9 vo (svL (NL.take i)),aR (.slice (some ⟨b3,o3,none⟩) m c1) (P.map iL)]:=hs4;have hcm:w4.cell? ⟨w3.heap.size,0,none⟩=some (.string (bs nm)):=by rw [hw4]; go_simp
   have HW4:=zTD hw4;have HNV:=zTD (HS.newV hs4 0 rfl);have hone:(Value.string (bs nm)).oneCell'=true:=rfl;clear hcall d3 hs2 hc3 hs3 hw4 hb2;go_wp2_with (at_builtin; go_must (rw [<-HW4.out]; refine zCg rfl _ _ (by kernel_rfl) zKX rfl (by omega) rfl rfl hs4 0 rfl HNV.out rfl hcm hone hlen ?_))
   intro v5 w5 hs5 _;rw [<-zPf,<-hst] at hs5;have hs5:HS w w5 [aV 9 v5 (svL (NL.take (i+1))),aR (.slice (some ⟨b3,o3,none⟩) m c1) (P.map iL)]:=hs5;clear hcm hs4;go_wp2_with fail
   go_roundw
   case rel=>exact ⟨i+1,_,rfl,by omega,by go_num,hs5⟩
   case measure=>simp [intOf]; omega
  ·have i1:¬(i:Int)<(m:Int):=by omega
   have hie:i=m:=by omega
   rw [hie,HJE.out] at hs;have hjn:=HJN.out wr _ vo (HS.texts hs 0 rfl);rw [HEQ.out] at hjn;clear hie;go_wp2_with fail
   refine hjn.mono ?_;rintro e w9 ⟨rfl,b9⟩;go_wp2_with fail
   go_ret
   exact ⟨rfl,zAC.step hb b9⟩
theorem zJU {t:List UInt8} {l:List (List UInt8)} (ht:t.length≤1048576) (hcut:Lib.split t [120]=l) (h4:l.length≤4) (hnm:∀x∈l,∃k,k<12∧x=tyNm k) {w:World} (hm:HasM w) :
  Calls Tryz.prog 64 #[.string (bs t)] w fun e w'=>e=.returned (.int .i64 (szN l))∧Below w.heap.size w w':=by
 have mixed:Tryz.prog.follows .mixedOrders=true:=by kernel_rfl
 have hcs:=zHx (sp:=[120]) hm ht (by decide);rw [hcut] at hcs;have HST:=zTD (fun (i:Nat) (x:List UInt8) (hx:l[i]? = some x)=>zF7 hx);have HLE:=zTD (zJd hnm);have HNM:=zTD hnm;have H0:Hid (szN (l.take 0)=1):=zTD rfl;have HE:Hid (szN (l.take l.length)=szN l):=zTD (by rw [List.take_of_length_le (zTI _)]);clear hcut ht hnm hm;generalize hm:l.length=m at *;have HM:=zTD hm;clear hm;go_enter Tryz.func64,Tryz.ntmps64
 go_wp2_with fail
 refine hcs.mono ?_;rintro e w1 ⟨rfl,c1,b1⟩;have i0:¬(4:Int)<(m:Int):=by omega
 clear hcs;go_wp2_with fail
 go_loopw [4,14] (fun pp ii wr=>∃i:Nat,i≤m∧pp=.int .i64 (szN (l.take i))∧ii=.int .i64 i∧TxAt wr w.heap.size l∧Below w.heap.size w wr) (fun _ ii _=>m-(intOf ii).toNat)
 case atStart=>exact ⟨0,Nat.zero_le _,by rw [H0.out]; rfl,rfl,c1,b1⟩
 case round =>
  clear c1 b1;obtain ⟨i,hi,rfl,rfl,hc,hb⟩:=hrel;have hle:=HLE.out i hi;by_cases him:i<m
  ·have i1:(i:Int)<(m:Int):=by omega
   have i2:(0:Int)≤(i:Int):=by omega
   obtain ⟨x,hx⟩:∃x,l[i]? = some x:=⟨l[i]'(by rw [HM.out]; exact him),zTE _⟩;have hcell:=hc i x hx;have hst:=HST.out i x hx;obtain ⟨k,hk,rfl⟩:=HNM.out x (zTF hx);have hle3:szN (l.take i)≤1528823808:=Nat.le_trans hle (Nat.le_trans (Nat.pow_le_pow_right (by decide) (show i≤3 by omega)) (by decide));have hszk:=zNd k hk;have hcall:=zJW k hk wr;have HV:=zTD hst;have hpr:szN (l.take i)*szB (tyNm k)≤1528823808*1152:=Nat.mul_le_mul hle3 hszk;clear hx hle hst;generalize szB (tyNm k)=z at *;generalize tyNm k=nm at *;generalize szN (l.take i)=q at *;go_wp2_with fail
   refine hcall.mono ?_;rintro e w2 ⟨rfl,b2⟩;have hb2:=zAC.step hb b2;have hc2:=hc.below b2;have hqz:(q:Int)*(z:Int)=((q*z:Nat):Int):=by simp
   have hw:wrap64 ((q:Int)*(z:Int))=((q*z:Nat):Int):=by
    rw [hqz]; unfold wrap64; omega
   have hw2:IntKind.i64.wrap ((q:Int)*(z:Int))=((q*z:Nat):Int):=by
    rw [hqz]; exact IntWalk.i64_in _ (by omega)
   clear hqz;clear hcall b2 hcell;go_wp2_with fail
   go_roundw
   case rel=>exact ⟨i+1,by omega,by rw [HV.out]; simp,by go_num,hc2,hb2⟩
   case measure=>simp [intOf]; omega
  ·have i1:¬(i:Int)<(m:Int):=by omega
   have hie:i=m:=by omega
   have HEE:Hid (szN (l.take i)=szN l):=zTD (by rw [hie]; exact HE.out);clear hie hle;generalize szN (l.take i)=q at *;go_wp2_with fail
   go_ret
   exact ⟨by rw [<-HEE.out]; rfl,hb⟩
theorem zF4 {S:Nat→Prop} {u:Value} {c:List (List Int)} {w:World} (h:RII S w u c) (hm:HasM w) (hl:total c≤16777216) :
  Calls Tryz.prog 25 #[u] w fun e w'=>e=.returned (.int .i64 (szC c))∧Below w.heap.size w w':=by
 have mixed:Tryz.prog.follows .mixedOrders=true:=by kernel_rfl
 have hfin:=zDZ h hl;cases hf:finB c with
 | false =>
  have HZ:Hid (szC c=0):=zTD (by unfold szC; rw [hf]; rfl);rw [hf] at hfin;clear hf;obtain ⟨aa,ca,rfl⟩:=h.form;go_enter Tryz.func25,Tryz.ntmps25
  go_wp2_with fail
  refine hfin.mono ?_;rintro e w1 ⟨rfl,b1⟩;go_wp2_with fail
  go_ret
  exact ⟨by rw [HZ.out]; rfl,b1⟩
 | true =>
  have hF:=zEr hf;have HZ:Hid (szN (nmL c)=szC c):=zTD (by unfold szC; rw [hf,if_pos rfl]; exact hF.texts.size);rw [hf] at hfin;have HNA:=zTD (fun (wv:World) (hb:Below w.heap.size w wv)=>zO6 (h.below hb) (hm.below hb) hF hl);have HSZ:=zTD (fun (wv:World) (hb:Below w.heap.size w wv)=>zJU (w:=wv) (t:=nmT c) (l:=nmL c) (by have:=hF.texts.len; omega) hF.texts.cutI hF.texts.few (zGZ hF) (hm.below hb));clear hf hF;obtain ⟨aa,ca,rfl⟩:=h.form;clear h;go_enter Tryz.func25,Tryz.ntmps25
  go_wp2_with fail
  refine hfin.mono ?_;rintro e w1 ⟨rfl,b1⟩;clear hfin;go_wp2_with fail
  refine (HNA.out w1 b1).mono ?_;rintro e w2 ⟨rfl,b2⟩;have hb2:=zAC.step b1 b2;clear HNA;go_wp2_with fail
  refine (HSZ.out w2 hb2).mono ?_;rintro e w3 ⟨rfl,b3⟩;go_wp2_with fail
  go_ret
  exact ⟨by rw [<-HZ.out]; rfl,zAC.step hb2 b3⟩
theorem zQY {c:List (List Int)} (h:FinP c) (hs:szP c≤200):0<(elL c).length:=by
 have h1:=((zDD h hs).2 []).2 (zDc h.cart);exact List.length_pos_of_mem h1
theorem FII.some {S:Nat→Prop} {w:World} {v:Value} {L:List (List Int)} (h:FII S w v L) (hl:0<L.length):∃g cap,v=.slice (some ⟨g,0,none⟩) L.length cap:=by
 obtain ⟨vs,h1,_⟩:=h;rcases h1.2 with ⟨_,h0⟩ | ⟨g,cap,cur,hv,_⟩
 ·omega
 ·exact ⟨g,cap,hv⟩
def ElC (c:List (List Int)) (w:World) (e:Ending) (w':World):Prop:=∃r,e=.returned r∧FII (New w w') w' r (elR c)∧(elOk c=false→r=.slice none 0 0)∧Below w.heap.size w w'
theorem FII.nil0 (W w:World):FII (New W w) w (.slice none 0 0) [] :=
 ⟨[],World.ownsRow_nil _ _ _ _,rfl,fun b hb=>by (cases hb),fun j r x hx=>by simp at hx,fun i j a b x y hij hi=>by simp at hi⟩
theorem zFe {S:Nat→Prop} {u:Value} {c:List (List Int)} {w:World} (h:RII S w u c) (hm:HasM w) (hl:total c≤16777216) :
  Calls Tryz.prog 68 #[u] w (ElC c w):=by
 have HRES:Hid (ElC c w=fun e w'=>∃r,e=.returned r∧FII (New w w') w' r (elR c)∧(elOk c=false→r=.slice none 0 0)∧Below w.heap.size w w'):=zTD rfl;have hfin:=zDZ h hl;have HSZ:=zTD (fun (wv:World) (hb:Below w.heap.size w wv)=>zF4 (h.below hb) (hm.below hb) hl);cases hf:finB c with
 | false =>
  have hok:elOk c=false:=by unfold elOk; rw [hf]; rfl
  have HR:Hid (elR c=[]):=zTD (by unfold elR; rw [hok]; rfl);rw [hf] at hfin;obtain ⟨aa,ca,rfl⟩:=h.form;clear hf hok h;go_enter Tryz.func68,Tryz.ntmps68
  go_wp2_with fail
  refine hfin.mono ?_;rintro e w1 ⟨rfl,b1⟩;go_wp2_with fail
  go_ret
  rw [HRES.out];exact ⟨_,rfl,by rw [HR.out]; exact FII.nil0 _ _,fun _=>rfl,b1⟩
 | true =>
  have hF:=zEr hf;have hszc:szC c=szP c:=by unfold szC; rw [if_pos hf]
  rw [hf] at hfin;rw [hszc] at HSZ;by_cases h2:szP c≤200
  ·have hok:elOk c=true:=by unfold elOk; rw [hf,decide_eq_true h2]; rfl
   have HR:Hid (elR c=elL c):=zTD (by unfold elR; rw [hok]; rfl);have HOK:=zTD hok;have hball:=zTD (fun (wv:World) (hb:Below w.heap.size w wv)=>zNu (h.below hb) hF h2);have HBC:Hid (∀wv,zLD c wv=fun e w'=>∃r q,e=.returned (.tuple #[r,.bool q])∧FII (New wv w') w' r (elL c)∧Below wv.heap.size wv w'):=zTD (fun wv=>rfl);obtain ⟨aa,ca,rfl⟩:=h.form;have i1:¬(200:Int)<(szP c:Int):=by omega
   clear hf hok h hF hszc;generalize szP c=z at *;go_enter Tryz.func68,Tryz.ntmps68
   go_wp2_with fail
   refine hfin.mono ?_;rintro e w1 ⟨rfl,b1⟩;have hsz:=HSZ.out w1 b1;clear hfin HSZ;go_wp2_with fail
   refine hsz.mono ?_;rintro e w2 ⟨rfl,b2⟩;have hb2:=zAC.step b1 b2;have hbl:=hball.out w2 hb2;rw [HBC.out] at hbl;clear hsz hball;go_wp2_with fail
   refine hbl.mono ?_;rintro e w3 ⟨r3,q3,rfl,f3,b3⟩;clear hbl;go_wp2_with fail
   go_ret
   rw [HRES.out];exact ⟨_,rfl,by rw [HR.out]; exact f3.mono (fun b hb=>⟨Nat.le_trans hb2.size hb.1,hb.2⟩),(fun e=>by rw [HOK.out] at e; cases e),zAC.step hb2 b3⟩
  ·have hok:elOk c=false:=by unfold elOk; rw [hf,decide_eq_false h2]; rfl
   have HR:Hid (elR c=[]):=zTD (by unfold elR; rw [hok]; rfl);obtain ⟨aa,ca,rfl⟩:=h.form;have i1:(200:Int)<(szP c:Int):=by omega
   clear hf hok h hF hszc h2;generalize szP c=z at *;go_enter Tryz.func68,Tryz.ntmps68
   go_wp2_with fail
   refine hfin.mono ?_;rintro e w1 ⟨rfl,b1⟩;have hsz:=HSZ.out w1 b1;clear hfin HSZ;go_wp2_with fail
   refine hsz.mono ?_;rintro e w2 ⟨rfl,b2⟩;have hb2:=zAC.step b1 b2;clear hsz;go_wp2_with fail
   go_ret
   rw [HRES.out];exact ⟨_,rfl,by rw [HR.out]; exact FII.nil0 _ _,fun _=>rfl,hb2⟩
theorem zDV {S:Nat→Prop} {u:Value} {c:List (List Int)} {w:World} (h:RII S w u c) (hm:HasM w) (hl:total c≤16777216) :
  Calls Tryz.prog 29 #[u] w fun e w'=>∃r,e=.returned (.tuple #[r,.bool (elOk c)])∧FII (New w w') w' r (elR c)∧Below w.heap.size w w':=by
 have hel:=zFe h hm hl;have HRES:Hid (ElC c w=fun e w'=>∃r,e=.returned r∧FII (New w w') w' r (elR c)∧(elOk c=false→r=.slice none 0 0)∧Below w.heap.size w w'):=zTD rfl;rw [HRES.out] at hel;have hsn:=fun (w:World) (a:Option Addr) (n k n' k':Nat)=>Lib.run_eql_slice_nil (P:=Tryz.prog) w 24 29 a n k n' k' Tryz.underlying24;obtain ⟨aa,ca,rfl⟩:=h.form;clear h;cases hok:elOk c with
 | false =>
  have HR:Hid (elR c=[]):=zTD (by unfold elR; rw [hok]; rfl);have HOK:=zTD hok;clear hok;go_enter Tryz.func29,Tryz.ntmps29
  go_wp2_with fail
  refine hel.mono ?_;rintro e w1 ⟨r1,rfl,_,hn,b1⟩;have hr1:=hn HOK.out;subst hr1;have hf:=FII.empty_of b1 (w1:=w1.alloc (.cells #[] 29)) rfl;clear hel hn;go_wp2_with fail
  go_ret2
  exact ⟨_,rfl,by rw [HR.out]; exact hf.1,hf.2⟩
 | true =>
  obtain ⟨_,h2,h3,_⟩:=zDU hok;have HR:Hid (elR c=elL c):=zTD (by unfold elR; rw [hok]; rfl);have hpos:=zQY h2 h3;clear hok h2 h3;go_enter Tryz.func29,Tryz.ntmps29
  go_wp2_with fail
  refine hel.mono ?_;rintro e w1 ⟨r1,rfl,f1,_,b1⟩;rw [HR.out] at f1;obtain ⟨g,cap,rfl⟩:=FII.some f1 hpos;clear hel hpos;go_wp2_with fail
  go_ret2
  exact ⟨_,rfl,by rw [HR.out]; exact f1,b1⟩
def invB (c:List (List Int)) (x:List Int):Bool:=eqL (zAF c x) (zAF c x.reverse)
def cntI (c:List (List Int)) (L:List (List Int)):Nat:=(L.filter (invB c)).length
def ciV (c:List (List Int)):Int:=if elOk c=true then (cntI c (elL c):Int) else -1
theorem zHQ {c:List (List Int)} {L:List (List Int)} {k:Nat} {x:List Int} (h:L[k]? = some x):cntI c (L.take (k+1))=cntI c (L.take k)+if invB c x=true then 1 else 0:=by
 unfold cntI;rw [zAP h,List.filter_append,List.length_append];by_cases hx:invB c x=true
 ·rw [if_pos hx]; simp [hx]
 ·rw [if_neg hx]; simp [hx]
theorem zKH (c:List (List Int)) (L:List (List Int)):cntI c L≤L.length:=List.length_filter_le _ _
theorem zJh {c:List (List Int)} {x:List Int} (h:isWd c x=true):isWd c x.reverse=true:=by
 unfold isWd at h ⊢;simp only [Bool.and_eq_true,decide_eq_true_eq,List.length_reverse] at h ⊢;refine ⟨h.1,zCh.2 fun y hy=>?_⟩;exact zCh.1 h.2 y (List.mem_reverse.1 hy)
theorem zLN {c:List (List Int)} (h:elOk c=true):∀x∈elL c,isWd c x=true∧x.length≤15:=fun x hx=>by
 obtain ⟨_,h2,h3,_⟩:=zDU h;have hn:=((zDD h2 h3).2 x).1 hx;have h15:=zII h2 h3 hn;exact ⟨wd15 (zAS.2 h2.cart) ⟨hn,h15⟩,h15⟩
theorem zDt {S:Nat→Prop} {v:Value} {l:List Int} {w:World} (h:RI S w v l) (hl:l.length≤1048576) :
  Calls Tryz.prog 40 #[v] w fun e w'=>∃r,e=.returned r∧FI (New w w') w' r l.reverse∧Below w.heap.size w w':=by
 have mixed:Tryz.prog.follows .mixedOrders=true:=by kernel_rfl
 obtain ⟨w1,hw1⟩:∃w1,w1=w.alloc (.cells #[] 3):=⟨_,rfl⟩;have hs1:=HSx.addI (HS.nil (Below.refl _ w)) (zAN (Below.refl _ w) hw1).2 (zAN (Below.refl _ w) hw1).1;have hs1:HS w w1 [aI (.slice (some ⟨w.heap.size,0,none⟩) 0 0) (l.reverse.take 0)]:=hs1;have HW1:=zTD hw1;obtain ⟨a,cap,rfl⟩:=h.form;generalize hn:l.length=n at *;have HN:=zTD hn;clear hw1 hn;go_enter Tryz.func40,Tryz.ntmps40
 go_wp2_with fail
 rw [<-HW1.out];go_loopw [3,4] (fun oo ii wr=>∃(k:Nat) (vo:Value),vo=oo∧k≤n∧ii=.int .i64 ((n:Int)-1-k)∧HS w wr [aI vo (l.reverse.take k)]) (fun _ ii _=>(intOf ii+1).toNat)
 case atStart=>exact ⟨0,_,rfl,Nat.zero_le _,by go_num,hs1⟩
 case round =>
  clear hs1 HW1;obtain ⟨k,vo,rfl,hk,rfl,hs⟩:=hrel;by_cases hkn:k<n
  ·obtain ⟨j,hj⟩:∃j,n=j+1+k:=⟨n-1-k,by omega⟩;have e1:(n:Int)-1-(k:Int)=(j:Int):=by omega
   have i1:(0:Int)≤(j:Int):=by omega
   have hjn:j<n:=by omega
   have i2:(j:Int)<(n:Int):=by omega
   obtain ⟨b3,o3,x,rfl,hc3,hx⟩:=RI.at (h.below hs.bl) hjn;have hst:l.reverse.take (k+1)=l.reverse.take k++[x]:=zAP (by rw [List.getElem?_reverse (by rw [HN.out]; omega),show l.length-1-k=j by rw [HN.out]; omega]; exact hx.out);have HST:=zTD hst;obtain ⟨w2,hw2⟩:∃w2,w2=wr.alloc (.cells #[.int .i64 x] 3):=⟨_,rfl⟩;have hs2:=hs.alloc (.cells #[.int .i64 x] 3);rw [<-hw2] at hs2;have hs2:HS w w2 [aI vo (l.reverse.take k)]:=hs2;have hc2:w2.cell? ⟨wr.heap.size,0,none⟩=some (.int .i64 x):=by rw [hw2]; go_simp
   have HW2:=zTD hw2;have hlen:(l.reverse.take k).length+1≤67108864:=by rw [List.length_take]; omega
   have e2:(n:Int)-1-((k+1:Nat):Int)=(j:Int)-1:=by omega
   rw [e1];clear hs hst hw2 hx e1 hj;go_wp2_with (at_builtin; go_must (rw [<-HW2.out]; refine zAd rfl _ _ rfl rfl hs2 0 rfl rfl hc2 hlen ?_))
   intro v3 w3 hs3;have hs3:HS w w3 [aI v3 (l.reverse.take (k+1))]:=by rw [HST.out]; exact hs3
   clear hs2 hc2;go_wp2_with fail
   go_roundw
   case rel=>exact ⟨k+1,_,rfl,by omega,by rw [e2],hs3⟩
   case measure=>simp [intOf]
  ·have hke:k=n:=by omega
   have e1:(n:Int)-1-(k:Int) = -1:=by omega
   have HE:Hid (l.reverse.take k=l.reverse):=zTD (List.take_of_length_le (by rw [List.length_reverse,HN.out]; omega));rw [HE.out] at hs;rw [e1];clear e1 hke;go_wp2_with fail
   go_ret
   obtain ⟨F,hF,hFn⟩:=HSx.get hs 0 rfl;exact ⟨_,rfl,hF.mono (fun b hb=>by have:=hFn b hb; exact ⟨this.1.elim (fun h=>h.elim) id,this.2⟩),hs.bl⟩
theorem zPT {S S1 S2:Nat→Prop} {u v1 v2:Value} {c:List (List Int)} {l1 l2:List Int} {w:World} (h:RII S w u c) (h1:RI S1 w v1 l1) (h2:RI S2 w v2 l2) (hw1:isWd c l1=true) (hw2:isWd c l2=true) (hl:total c≤16777216) :
  Calls Tryz.prog 58 #[u,v1,v2] w fun e w'=>e=.returned (.bool (eqL (zAF c l1) (zAF c l2)))∧Below w.heap.size w w':=by
 obtain ⟨a1,a2,a3⟩:=zCA hw1;obtain ⟨b1,b2,b3⟩:=zCA hw2;have hc:=zAS.1 a1;have HW1:=zTD (fun (wv:World) (hb:Below w.heap.size w wv)=>(hw1 ▸ zEI (h.below hb) (h1.below hb) hl (by omega):Calls Tryz.prog 81 #[u,v1] wv fun e w'=>e=.returned (.bool true)∧∃m,w'=wv.drewN m));have HW2:=zTD (fun (wv:World) (hb:Below w.heap.size w wv)=>(hw2 ▸ zEI (h.below hb) (h2.below hb) hl (by omega):Calls Tryz.prog 81 #[u,v2] wv fun e w'=>e=.returned (.bool true)∧∃m,w'=wv.drewN m));have HI1:=zTD (fun (wv:World) (hb:Below w.heap.size w wv)=>zDj (h.below hb) (h1.below hb) hc a3 hl (by omega));have HI2:=zTD (fun (wv:World) (hb:Below w.heap.size w wv)=>zDj (h.below hb) (h2.below hb) hc b3 hl (by omega));have hn1:=zBn hc a3 (by omega);have hn2:=zBn hc b3 (by omega);have hn4:=hc.le;clear h h1 h2 hw1 hw2 a1 a2 a3 b1 b2 b3
 go_enter Tryz.func58,Tryz.ntmps58
 go_wp2_with fail
 refine (HW1.out w (Below.refl _ _)).mono ?_;rintro e w1 ⟨rfl,m1,rfl⟩;have hb1:Below w.heap.size w (w.drewN m1):=below_drewN (Below.refl _ w) m1;generalize w.drewN m1=w1 at *;go_wp2_with fail
 refine (HW2.out w1 hb1).mono ?_;rintro e w2 ⟨rfl,m2,rfl⟩;have hb2:=below_drewN hb1 m2;generalize w1.drewN m2=w2 at *;go_wp2_with fail
 refine (HI1.out w2 hb2).mono ?_;rintro e w3 ⟨r3,rfl,f3,b3⟩;have hb3:=zAC.step hb2 b3;have hr3:=f3.reads.any;clear f3;go_wp2_with fail
 refine (HI2.out w3 hb3).mono ?_;rintro e w4 ⟨r4,rfl,f4,b4⟩;have hb4:=zAC.step hb3 b4;have heq:=zCl (hr3.below b4) f4.reads (by omega) (by omega);clear f4 hr3;go_wp2_with fail
 refine heq.mono ?_;rintro e w5 ⟨rfl,m5,rfl⟩;go_wp2_with fail
 go_ret
 exact ⟨rfl,below_drewN hb4 m5⟩
theorem zPS {S S1 S2:Nat→Prop} {u v1 v2:Value} {c:List (List Int)} {l1 l2:List Int} {w:World} (h:RII S w u c) (h1:RI S1 w v1 l1) (h2:RI S2 w v2 l2) (hw1:isWd c l1=true) (hw2:isWd c l2=true) :
  Calls Tryz.prog 50 #[u,v1,v2] w fun e w'=>e=.returned (.bool (eqL (zAF c l1) (zAF c l2)))∧Below w.heap.size w w':=by
 obtain ⟨a1,a2,a3⟩:=zCA hw1;obtain ⟨b1,b2,b3⟩:=zCA hw2;have hc:=zAS.1 a1;have HI1:=zTD (fun (wv:World) (hb:Below w.heap.size w wv)=>zEu (h.below hb) (h1.below hb) hc a3 (by omega));have HI2:=zTD (fun (wv:World) (hb:Below w.heap.size w wv)=>zEu (h.below hb) (h2.below hb) hc b3 (by omega));have hn1:=zBn hc a3 (by omega);have hn2:=zBn hc b3 (by omega);have hn4:=hc.le;clear h h1 h2 hw1 hw2 a1 a2 a3 b1 b2 b3;go_enter Tryz.func50,Tryz.ntmps50
 go_wp2_with fail
 refine (HI1.out w (Below.refl _ _)).mono ?_;rintro e w3 ⟨r3,rfl,f3,b3⟩;have hr3:=f3.reads.any;clear f3;go_wp2_with fail
 refine (HI2.out w3 b3).mono ?_;rintro e w4 ⟨r4,rfl,f4,b4⟩;have hb4:=zAC.step b3 b4;have heq:=zJw (hr3.below b4) f4.reads (by omega) (by omega);clear f4 hr3;go_wp2_with fail
 refine heq.mono ?_;rintro e w5 ⟨rfl,m5,rfl⟩;go_wp2_with fail
 go_ret
 exact ⟨rfl,below_drewN hb4 m5⟩
theorem zMA {S:Nat→Prop} {u:Value} {c:List (List Int)} {w:World} (h:RII S w u c) (hm:HasM w) (hl:total c≤16777216) :
  Calls Tryz.prog 16 #[u] w fun e w'=>e=.returned (.int .i64 (ciV c))∧Below w.heap.size w w':=by
 have mixed:Tryz.prog.follows .mixedOrders=true:=by kernel_rfl
 have hel:=zDV h hm hl;cases hok:elOk c with
 | false =>
  have HR:Hid (ciV c = -1):=zTD (by unfold ciV; rw [hok]; rfl);rw [hok] at hel;clear hok;obtain ⟨aa,ca,rfl⟩:=h.form;go_enter Tryz.func16,Tryz.ntmps16
  go_wp2_with fail
  refine hel.mono ?_;rintro e w1 ⟨r1,rfl,_,b1⟩;clear hel;go_wp2_with fail
  go_ret
  exact ⟨by rw [HR.out]; rfl,b1⟩
 | true =>
  obtain ⟨_,h2,h3,_⟩:=zDU hok;have HR:Hid (ciV c=(cntI c (elL c):Int)):=zTD (by unfold ciV; rw [if_pos hok]);have HEL:Hid (elR c=elL c):=zTD (by unfold elR; rw [hok]; rfl);have hfew:(elL c).length≤200:=Nat.le_trans (zIi h2 h3) h3;have HWD:=zTD (zLN hok);rw [hok,HEL.out] at hel;have HSM:=zTD (fun (wv:World) (S1 S2:Nat→Prop) (v1 v2:Value) (x:List Int) (hx:isWd c x=true) (hb:Below w.heap.size w wv) (q1:RI S1 wv v1 x) (q2:RI S2 wv v2 x.reverse)=>zPS (h.below hb) q1 q2 hx (zJh hx));have HST:=zTD (fun (k:Nat) (x:List Int) (hx:(elL c)[k]? = some x)=>zHQ (c:=c) hx);have HLE:=zTD (fun (k:Nat)=>(show cntI c ((elL c).take k)≤200 from Nat.le_trans (zKH c _) (by rw [List.length_take]; omega)));clear hok h2 h3;obtain ⟨aa,ca,rfl⟩:=h.form;clear h;go_enter Tryz.func16,Tryz.ntmps16
  go_wp2_with fail
  refine hel.mono ?_;rintro e w1 ⟨r1,rfl,f1,b1⟩;have hr1:=f1.read.any;obtain ⟨a1,c1,rfl⟩:=hr1.form;generalize elL c=L at *;generalize hmm:L.length=m at *;have HM:=zTD hmm;have H0:Hid ((0:Int)=(cntI c (L.take 0):Int)):=zTD rfl;clear hel f1 hmm;go_wp2_with fail
  go_loopw [5,17] (fun nn kk wr=>∃(k:Nat),nn=.int .i64 (cntI c (L.take k))∧k≤m∧kk=.int .i64 k∧RII Any wr (.slice a1 m c1) L∧Below w.heap.size w wr) (fun _ kk _=>m-(intOf kk).toNat)
  case atStart=>exact ⟨0,by rw [<-H0.out],Nat.zero_le _,rfl,hr1,b1⟩
  case round =>
   clear hr1 b1 H0;obtain ⟨k,rfl,hk,rfl,hr,hb⟩:=hrel;have hle:=HLE.out k;by_cases hkm:k<m
   ·have i1:(k:Int)<(m:Int):=by omega
    have i2:(0:Int)≤(k:Int):=by omega
    have hr0:=hr;obtain ⟨b3,o3,r3,x,rfl,hc3,hr3,hx⟩:=RII.at hr hkm;obtain ⟨hwd,h15⟩:=HWD.out x (zTF hx.out);have hst:=HST.out k x hx.out;have hrv:=zDn hr3 (by omega);obtain ⟨a3,c3,rfl⟩:=hr3.form;have HWX:=zTD hwd;clear hwd hx;go_wp2_with fail
    refine hrv.mono ?_;rintro e w4 ⟨r4,rfl,f4,b4⟩;have hb4:=zAC.step hb b4;have hr4:=RII.below hr0 b4;have hsm:=HSM.out w4 _ _ _ r4 x HWX.out hb4 (hr3.below b4) f4.reads;have hIB:eqL (zAF c x) (zAF c x.reverse)=invB c x:=rfl;rw [hIB] at hsm;clear hrv hr3 hc3 f4 b4 hr hr0 hIB;generalize cntI c (L.take k)=q at *;cases hq:invB c x with
    | true =>
     rw [hq,if_pos rfl] at hst;rw [hq] at hsm;have HV:=zTD hst;clear hq hst;go_wp2_with fail
     refine hsm.mono ?_;rintro e w5 ⟨rfl,b5⟩;have hb5:=zAC.step hb4 b5;have hr5:=RII.below hr4 b5;clear hsm;go_wp2_with fail
     go_roundw
     case rel=>exact ⟨k+1,by rw [HV.out]; go_num,by omega,by go_num,hr5,hb5⟩
     case measure=>simp [intOf]; omega
    | false =>
     rw [hq,if_neg (by simp)] at hst;rw [hq] at hsm;have HV:=zTD hst;clear hq hst;go_wp2_with fail
     refine hsm.mono ?_;rintro e w5 ⟨rfl,b5⟩;have hb5:=zAC.step hb4 b5;have hr5:=RII.below hr4 b5;clear hsm;go_wp2_with fail
     go_roundw
     case rel=>exact ⟨k+1,by rw [HV.out]; go_num,by omega,by go_num,hr5,hb5⟩
     case measure=>simp [intOf]; omega
   ·have i1:¬(k:Int)<(m:Int):=by omega
    have HE:Hid (cntI c (L.take k)=cntI c L):=zTD (by rw [List.take_of_length_le (by rw [HM.out]; omega)]);go_wp2_with fail
    go_ret
    exact ⟨by rw [HR.out,HE.out]; rfl,hb⟩
theorem zMB {S:Nat→Prop} {u:Value} {c:List (List Int)} {w:World} (h:RII S w u c) (hl:total c≤16777216) :
  Calls Tryz.prog 22 #[u] w fun e w'=>e=.returned (.int .i64 (ciV c))∧Below w.heap.size w w':=by
 have mixed:Tryz.prog.follows .mixedOrders=true:=by kernel_rfl
 have hel:=zDW h hl;have hcase:∃L:List (List Int),elR c=L∧L.length≤200∧(∀x∈L,isWd c x=true∧x.length≤15)∧ciV c=(if elOk c=true then (cntI c L:Int) else -1):=by
  cases hok:elOk c with
  | false=>exact ⟨[],by unfold elR; rw [hok]; rfl,by simp,fun x hx=>by simp at hx,by unfold ciV; rw [hok]; rfl⟩
  | true =>
   obtain ⟨_,h2,h3,_⟩:=zDU hok;exact ⟨elL c,by unfold elR; rw [hok]; rfl,Nat.le_trans (zIi h2 h3) h3,zLN hok,by unfold ciV; rw [hok]⟩
 obtain ⟨L,hLe,hfew,hwd,hci⟩:=hcase;have HWD:=zTD hwd;have HR:=zTD hci;rw [hLe] at hel;have HSM:=zTD (fun (wv:World) (S1 S2:Nat→Prop) (v1 v2:Value) (x:List Int) (hx:isWd c x=true) (hb:Below w.heap.size w wv) (q1:RI S1 wv v1 x) (q2:RI S2 wv v2 x.reverse)=>zPT (h.below hb) q1 q2 hx (zJh hx) hl);have HST:=zTD (fun (k:Nat) (x:List Int) (hx:L[k]? = some x)=>zHQ (c:=c) hx);have HLE:=zTD (fun (k:Nat)=>(show cntI c (L.take k)≤200 from Nat.le_trans (zKH c _) (by rw [List.length_take]; omega)));obtain ⟨aa,ca,rfl⟩:=h.form;clear h hwd hci hLe;go_enter Tryz.func22,Tryz.ntmps22
 go_wp2_with fail
 refine hel.mono ?_;rintro e w1 ⟨r1,rfl,f1,b1⟩;have hr1:=f1.read.any;obtain ⟨a1,c1,rfl⟩:=hr1.form;generalize hmm:L.length=m at *;have HM:=zTD hmm;have H0:Hid ((0:Int)=(cntI c (L.take 0):Int)):=zTD rfl;generalize elOk c=ok at *;clear hel f1 hmm;go_wp2_with fail
 go_loopw [5,6] (fun nn kk wr=>∃(k:Nat),nn=.int .i64 (cntI c (L.take k))∧k≤m∧kk=.int .i64 k∧RII Any wr (.slice a1 m c1) L∧Below w.heap.size w wr) (fun _ kk _=>m-(intOf kk).toNat)
 case atStart=>exact ⟨0,by rw [<-H0.out],Nat.zero_le _,rfl,hr1,b1⟩
 case round =>
  clear hr1 b1 H0;obtain ⟨k,rfl,hk,rfl,hr,hb⟩:=hrel;have hle:=HLE.out k;by_cases hkm:k<m
  ·have i1:(k:Int)<(m:Int):=by omega
   have i2:(0:Int)≤(k:Int):=by omega
   have hrd:=RII.below hr ((Below.refl _ wr).drew);obtain ⟨b3,o3,r3,x,rfl,hc3,hr3,hx⟩:=RII.at hrd hkm;obtain ⟨hwd,h15⟩:=HWD.out x (zTF hx.out);have hst:=HST.out k x hx.out;have hrv:=zDt hr3 (by omega);obtain ⟨a3,c3,rfl⟩:=hr3.form;have HWX:=zTD hwd;have lb3:b3<wr.drew.heap.size:=zTH _ _ hc3;clear hwd hx;generalize cntI c (L.take k)=q at *;have hIB:eqL (zAF c x) (zAF c x.reverse)=invB c x:=rfl;cases hq:invB c x with
   | true =>
    rw [hq,if_pos rfl] at hst;have HV:=zTD hst;rw [hq] at hIB;have HIB:=zTD hIB;clear hq hst hIB;go_wp2_with fail
    go_region_held3 (fun w'=>w'.cell? ⟨b3,o3+k,none⟩=some (.slice a3 x.length c3)) (first | go_keep | exact p2 | exact p1 | exact hc3) (first
     | (go_at_call 40; refine hrv.mono ?_; rintro e w4 ⟨r4,rfl,f4,b4⟩; have p1:=(b4.cell (p:=⟨b3,o3+k,none⟩) lb3).trans hc3; have hb4:=zAC.step hb.drew b4; have hsm:=HSM.out w4 _ _ _ r4 x HWX.out hb4 (hr3.below b4) f4.reads; rw [HIB.out] at hsm)
     | (go_at_call 58; refine hsm.mono ?_; rintro e w5 ⟨rfl,b5⟩; have p2:=(b5.cell (p:=⟨b3,o3+k,none⟩) (Nat.lt_of_lt_of_le lb3 b4.size)).trans p1))
    have hb5:=zAC.step hb4 b5;have hr5:=RII.below (RII.below hrd b4) b5;clear hsm hrv f4 p1 p2 hc3;go_wp2_with fail
    go_roundw
    case rel=>exact ⟨k+1,by rw [HV.out]; go_num,by omega,by go_num,hr5,hb5⟩
    case measure=>simp [intOf]; omega
   | false =>
    rw [hq,if_neg (by simp)] at hst;have HV:=zTD hst;rw [hq] at hIB;have HIB:=zTD hIB;clear hq hst hIB;go_wp2_with fail
    go_region_held3 (fun w'=>w'.cell? ⟨b3,o3+k,none⟩=some (.slice a3 x.length c3)) (first | go_keep | exact p2 | exact p1 | exact hc3) (first
     | (go_at_call 40; refine hrv.mono ?_; rintro e w4 ⟨r4,rfl,f4,b4⟩; have p1:=(b4.cell (p:=⟨b3,o3+k,none⟩) lb3).trans hc3; have hb4:=zAC.step hb.drew b4; have hsm:=HSM.out w4 _ _ _ r4 x HWX.out hb4 (hr3.below b4) f4.reads; rw [HIB.out] at hsm)
     | (go_at_call 58; refine hsm.mono ?_; rintro e w5 ⟨rfl,b5⟩; have p2:=(b5.cell (p:=⟨b3,o3+k,none⟩) (Nat.lt_of_lt_of_le lb3 b4.size)).trans p1))
    have hb5:=zAC.step hb4 b5;have hr5:=RII.below (RII.below hrd b4) b5;clear hsm hrv f4 p1 p2 hc3;go_wp2_with fail
    go_roundw
    case rel=>exact ⟨k+1,by rw [HV.out]; go_num,by omega,by go_num,hr5,hb5⟩
    case measure=>simp [intOf]; omega
  ·have i1:¬(k:Int)<(m:Int):=by omega
   have HE:Hid (cntI c (L.take k)=cntI c L):=zTD (by rw [List.take_of_length_le (by rw [HM.out]; omega)]);cases ok with
   | true =>
    go_wp2_with fail
    go_ret
    exact ⟨by rw [HR.out,HE.out]; rfl,hb⟩
   | false =>
    go_wp2_with fail
    go_ret
    exact ⟨by rw [HR.out]; rfl,hb⟩
theorem zGK {S:Nat→Prop} {u:Value} {c:List (List Int)} {w:World} (h:RII S w u c) (hl:total c≤16777216) (hm:HasM w) :
  Calls Tryz.prog 16 #[u] w fun e w'=>e=.returned (.int .i64 (ciV c))∧Below w.heap.size w w':=zMA h hm hl
end Go.Proofs.YtlgcdacpjcnjgaaGreatDoor
