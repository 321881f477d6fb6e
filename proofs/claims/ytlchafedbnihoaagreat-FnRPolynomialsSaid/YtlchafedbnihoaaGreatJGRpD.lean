/- What the law of the R-polynomials draws and calls: two words, the order of elements, mirrors, equality of polynomials, signs. Condition: at most 2^20 bytes. -/
import Derived.Test.YtlchafedbnihoaaGreatJGDrD
import Derived.Test.YtlchafedbnihoaaGreatJRpL
namespace Go.Proofs.YtlchafedbnihoaaGreat
open Go.RowKit
set_option maxRecDepth 20000
set_option maxHeartbeats 8000000
structure SmD (w w':World) (r1 r2:Value) (M:List (List Int)) (l:List Int):Prop where
 rm:RII (New w w') w' r1 M
 rl:RI (New w w') w' r2 l
 m5:M.length≤5
 row:∀x∈M,x.length≤4
 len:l.length≤10
 bl:Below w.heap.size w w'
theorem zO0 {w:World} {v:Value} {n:Nat} (h:RBy Any w v n) (hn:n≤1048576) :
  Calls Tryz.prog 65 #[v] w fun e w'=>∃r1 r2,e=.returned (.tuple #[r1,r2])∧∃M l,SmD w w' r1 r2 M l:=by
 obtain ⟨a,cap,rfl⟩:∃a cap,v=.slice a n cap:=by obtain ⟨a,cap,e,_⟩:=h; exact ⟨a,cap,e⟩
 go_enter Tryz.func65,Tryz.ntmps65
 go_wp2_with fail
 refine (zNb h hn).mono ?_;rintro e w1 ⟨rfl,hc1,b1,hlt⟩;obtain ⟨g,hg⟩:∃g,g=w.heap.size:=⟨_,rfl⟩;rw [<-hg] at hc1 ⊢;have HG:=zQY hg;have hgw1:g<w1.heap.size:=by rw [hg]; exact hlt
 clear hg hlt h;go_wp2_with fail
 refine (zQG hc1).mono ?_;rintro e w2 ⟨r,rfl,M,f2,h1,h5,h4,hc2,hg2⟩;obtain ⟨a2,c2,rfl⟩:=f2.form;have HR:=zQY h4;clear h4;generalize hm:M.length=m at *;have HM:=zQY hm;clear hm;go_wp2_with fail
 refine (zJE hc2 (n:=m) (m:=7) (by omega) (by omega)).mono ?_;rintro e w3 ⟨r3,rfl,l,f3,hl,hc3,hg3⟩;have HE:Hid (SmD w w3 (.slice a2 m c2) r3 M l):=zQY ⟨(f2.turn hg3 (fun b hb=>by have:=hb.1; omega)).mono' (fun b hb=>⟨by have:=hb.1; have:=b1.size; omega,Nat.lt_of_lt_of_le hb.2 hg3.size⟩),(f3.mono (fun b hb=>⟨by have:=hb.1; have:=b1.size; have:=hg2.size; omega,hb.2⟩)).reads,by rw [HM.out]; exact h5,HR.out,by omega,
  b1.grown (Off.tr hg2 hg3) b1.size (fun k hk=>by cases hk; rw [HG.out]; exact zQd _)⟩
 clear f2 f3 hc1 hc2 hc3 hg2 hg3 b1;go_wp2_with fail
 go_ret2
 exact ⟨_,_,rfl,M,l,HE.out⟩
structure R2D (w w':World) (r1 r2 r3:Value) (M:List (List Int)) (u v:List Int):Prop where
 rm:RII Any w' r1 M
 ru:RI Any w' r2 u
 rv:RI Any w' r3 v
 tot:total M≤16777216
 lu:u.length≤10
 lv:v.length≤10
 bl:Below w.heap.size w w'
theorem zH0 {w:World} {v:Value} {n:Nat} (h:RBy Any w v n) (hn:n≤1048576) :
  Calls Tryz.prog 31 #[v] w fun e w'=>∃r1 r2 r3,e=.returned (.tuple #[r1,r2,r3])∧∃M p q,R2D w w' r1 r2 r3 M p q:=by
 obtain ⟨a,cap,rfl⟩:∃a cap,v=.slice a n cap:=by obtain ⟨a,cap,e,_⟩:=h; exact ⟨a,cap,e⟩
 go_enter Tryz.func31,Tryz.ntmps31
 go_wp2_with fail
 refine (zNb h hn).mono ?_;rintro e w1 ⟨rfl,hc1,b1,hlt⟩;obtain ⟨g,hg⟩:∃g,g=w.heap.size:=⟨_,rfl⟩;rw [<-hg] at hc1 ⊢;have HG:=zQY hg;have hgw1:g<w1.heap.size:=by rw [hg]; exact hlt
 have h1:=h.below b1;clear hg hlt h;go_wp2_with fail
 refine (zO0 h1 hn).mono ?_;rintro e w2 ⟨r1,r2,rfl,M,l,hD⟩;have hc2:=hc1.below hD.bl;have hrl:=hD.rl;obtain ⟨am,cm,e1⟩:=hD.rm.form;obtain ⟨al,cl,rfl⟩:=hrl.form;subst e1;have HD:=zQY hD;have hm5:=hD.m5;have hl10:=hD.len;have HFIN:Hid (∀(w3:World) (r3 r4:Value) (p q:List Int),w2.grownBy w3 (some g)→RI Any w3 r3 p→p.length≤2→RI (New w1 w2) w2 r4 q→q.length≤10→R2D w w3 (.slice am M.length cm) r3 r4 M p q):=zQY (fun w3 r3 r4 p q hg3 f3 hp f4 hq =>
  ⟨RII.any (HD.out.rm.turn hg3 (fun b hb=>by have:=hb.1; omega)),f3,(f4.keep fun b hb hlb=>hg3.block b hlb (by have:=hb.1; rintro ⟨⟩; omega)).any,by have:=zHi HD.out.m5 HD.out.row; omega,by omega,hq,
   b1.grown (Off.tr (Off.grown HD.out.bl) hg3) b1.size (fun k hk=>by cases hk; rw [HG.out]; exact zQd _)⟩)
 clear hD h1 hc1 b1;generalize hm:M.length=m at *;generalize hnl:l.length=nl at *;have HNL:=zQY hnl;clear hm hnl;by_cases h5:5<nl
 ·have i1:(nl:Int) > 5:=by omega
  have hcap:=hrl.cap;have hcut:RI (New w1 w2) w2 (.slice al 5 cl) (l.take 5):=RL.cutTo hrl (by omega);have HCUT:=zQY hcut;have hcl:5≤cl:=by have:=hcap.1; omega
  clear hrl hcut hcap;go_wp2_with fail
  refine (zJE hc2 (n:=m) (m:=2) (by omega) (by omega)).mono ?_;rintro e w3 ⟨r3,rfl,p,f3,hp,hc3,hg3⟩;have HE:=zQY (HFIN.out w3 r3 _ p _ hg3 f3.any hp HCUT.out (by have:=HNL.out; simp; omega));clear f3 hc2 hc3 hg3 HFIN;go_wp2_with fail
  go_ret3
  exact ⟨_,_,_,rfl,M,p,_,HE.out⟩
 ·have i1:¬(nl:Int) > 5:=by omega
  have HCUT:=zQY hrl;clear hrl;go_wp2_with fail
  refine (zJE hc2 (n:=m) (m:=2) (by omega) (by omega)).mono ?_;rintro e w3 ⟨r3,rfl,p,f3,hp,hc3,hg3⟩;have HE:=zQY (HFIN.out w3 r3 _ p l hg3 f3.any hp HCUT.out (by have:=HNL.out; omega));clear f3 hc2 hc3 hg3 HFIN;go_wp2_with fail
  go_ret3
  exact ⟨_,_,_,rfl,M,p,l,HE.out⟩
theorem zHp {w:World} {v:Value} {n:Nat} (h:RBy Any w v n) (hn:n≤1048576) :
  Calls Tryz.prog 5 #[v] w fun e w'=>∃r1 r2 r3,e=.returned (.tuple #[r1,r2,r3])∧∃M p q,R2D w w' r1 r2 r3 M p q:=by
 obtain ⟨a,cap,rfl⟩:∃a cap,v=.slice a n cap:=by obtain ⟨a,cap,e,_⟩:=h; exact ⟨a,cap,e⟩
 go_enter Tryz.func5,Tryz.ntmps5
 go_wp2_with fail
 refine (zH0 h hn).mono ?_;rintro e w2 ⟨r1,r2,r3,rfl,M,p,q,hD⟩;have HD:=zQY hD;clear hD;go_wp2_with fail
 go_ret3
 exact ⟨_,_,_,rfl,M,p,q,HD.out⟩
theorem zMp {w:World} {v:Value} {n:Nat} (h:RBy Any w v n) (hn:n≤1048576) :
  Calls Tryz.prog 16 #[v] w fun e w'=>∃r1 r3,e=.returned (.tuple #[r1,r3])∧∃r2 M p q,R2D w w' r1 r2 r3 M p q:=by
 obtain ⟨a,cap,rfl⟩:∃a cap,v=.slice a n cap:=by obtain ⟨a,cap,e,_⟩:=h; exact ⟨a,cap,e⟩
 go_enter Tryz.func16,Tryz.ntmps16
 go_wp2_with fail
 refine (zH0 h hn).mono ?_;rintro e w2 ⟨r1,r2,r3,rfl,M,p,q,hD⟩;have HD:=zQY hD;clear hD;go_wp2_with fail
 go_ret2
 exact ⟨_,_,rfl,r2,M,p,q,HD.out⟩
theorem zNG {w:World} {v:Value} {n:Nat} (h:RBy Any w v n) (hn:n≤1048576) :
  Calls Tryz.prog 24 #[v] w fun e w'=>∃r1 r3,e=.returned (.tuple #[r1,r3])∧∃r2 M p q,R2D w w' r1 r2 r3 M p q:=by
 obtain ⟨a,cap,rfl⟩:∃a cap,v=.slice a n cap:=by obtain ⟨a,cap,e,_⟩:=h; exact ⟨a,cap,e⟩
 go_enter Tryz.func24,Tryz.ntmps24
 go_wp2_with fail
 refine (zH0 h hn).mono ?_;rintro e w2 ⟨r1,r2,r3,rfl,M,p,q,hD⟩;have HD:=zQY hD;clear hD;go_wp2_with fail
 go_ret2
 exact ⟨_,_,rfl,r2,M,p,q,HD.out⟩
theorem zI4 {w:World} {v:Value} {n:Nat} (h:RBy Any w v n) (hn:n≤1048576) :
  Calls Tryz.prog 27 #[v] w fun e w'=>∃r1 r2 r3 x,e=.returned (.tuple #[r1,r2,r3,.int .i64 x])∧∃M p q,R2D w w' r1 r2 r3 M p q:=by
 obtain ⟨a,cap,rfl⟩:∃a cap,v=.slice a n cap:=by obtain ⟨a,cap,e,_⟩:=h; exact ⟨a,cap,e⟩
 go_enter Tryz.func27,Tryz.ntmps27
 go_wp2_with fail
 refine (zH0 h hn).mono ?_;rintro e w2 ⟨r1,r2,r3,rfl,M,p,q,hD⟩;have HD:=zQY hD;clear hD;go_wp2_with fail
 go_returns
 exact ⟨_,_,_,_,rfl,M,p,q,HD.out⟩
def blB (c:List (List Int)) (u v:List Int):Bool:=isWd c u && (isWd c v && bel c (zAC c u) (zAB c v))
theorem zDG {S1 S2 S3:Nat→Prop} {x y z:Value} {c:List (List Int)} {u v:List Int} {w:World} (h:RII S1 w x c) (hu:RI S2 w y u) (hv:RI S3 w z v) (hl:total c≤16777216) (hlu:u.length≤16777216) (hlv:v.length≤16777216) :
  Calls Tryz.prog 10 #[x,y,z] w fun e w'=>e=.returned (.bool (blB c u v))∧Below w.heap.size w w':=by
 have hW1:=zCz h hu hl hlu;have hW2:=fun w1 (b1:Below w.heap.size w w1)=>zCz (h.below b1) (hv.below b1) hl hlv;obtain ⟨ac,cc,rfl⟩:=h.form;cases h1:isWd c u with
 | false =>
  have HB:=zQY (show blB c u v=false from by unfold blB; rw [h1]; rfl);rw [h1] at hW1;clear h1 hW2;go_enter Tryz.func10,Tryz.ntmps10
  go_wp2_with fail
  refine hW1.mono ?_;rintro e w1 ⟨rfl,hq⟩;have b1:=zAO hq;clear hq hW1;go_wp2_with fail
  go_ret
  exact ⟨zAD HB.out.symm,b1⟩
 | true =>
  rw [h1] at hW1;cases h2:isWd c v with
  | false =>
   have HB:=zQY (show blB c u v=false from by unfold blB; rw [h1,h2]; rfl);rw [h2] at hW2;clear h1 h2;go_enter Tryz.func10,Tryz.ntmps10
   go_wp2_with fail
   refine hW1.mono ?_;rintro e w1 ⟨rfl,hq⟩;have b1:=zAO hq;clear hq hW1;go_wp2_with fail
   refine (hW2 w1 b1).mono ?_;rintro e w2 ⟨rfl,hq⟩;have b2:=zAA.step b1 (zAO hq);clear hq hW2 b1;go_wp2_with fail
   go_ret
   exact ⟨zAD HB.out.symm,b2⟩
  | true =>
   have HB:=zQY (show blB c u v=bel c (zAC c u) (zAB c v) from by unfold blB; rw [h1,h2]; rfl);rw [h2] at hW2;obtain ⟨a1,a2,a3⟩:=zAT h1;obtain ⟨b1,b2,b3⟩:=zAT h2;have HC:=zQY (zAY.1 a1);have HU:=zQY a3;have HV:=zQY b3;have HNV:Hid (Lets c.length (zAB c v)∧(zAB c v).length≤15):=zQY ⟨zDX (zAY.1 a1) b3 (by omega),by have:=zAj (zAY.1 a1) b3 (by omega); omega⟩;have HIM:=zQY (zAV (zAY.1 a1) a3 (by omega));clear a1 a3 b1 b3 h1 h2;go_enter Tryz.func10,Tryz.ntmps10
   go_wp2_with fail
   refine hW1.mono ?_;rintro e w1 ⟨rfl,hq⟩;have c1:=zAO hq;clear hq hW1;go_wp2_with fail
   refine (hW2 w1 c1).mono ?_;rintro e w2 ⟨rfl,hq⟩;have c2:=zAA.step c1 (zAO hq);clear hq hW2 c1;go_wp2_with fail
   refine (zBK (h.below c2) (hu.below c2) HC.out HU.out hl (by omega)).mono ?_;rintro e w3 ⟨r3,rfl,f3,d3⟩;have c3:=zAA.step c2 d3;go_wp2_with fail
   refine (zBK (h.below c3) (hv.below c3) HC.out HV.out hl (by omega)).mono ?_;rintro e w4 ⟨r4,rfl,f4,d4⟩;have c4:=zAA.step c3 d4;have g3:RI (New w2 w3) w4 r3 (nf c 30 (zAC c u)):=f3.reads.below d4;go_wp2_with fail
   refine (zEQ HC.out hl (zAB c v) (h.below c4) g3 f4.reads HIM.out (by omega) HNV.out.1 HNV.out.2).mono ?_;rintro e w5 ⟨rfl,d5⟩;have c5:=zAA.step c4 d5;rw [<-HB.out];clear f3 f4 g3 d3 d4 d5 c2 c3 c4;go_wp2_with fail
   go_ret
   exact ⟨rfl,c5⟩
theorem zEC {S1 S2:Nat→Prop} {y z:Value} {p q:List Int} {w:World} (hp:RI S1 w y p) (hq:RI S2 w z q) (hlp:p.length≤16777216) (hlq:q.length≤16777216) :
  Calls Tryz.prog 12 #[y,z] w fun e w'=>e=.returned (.bool (eqL (trim p) (trim q)))∧Below w.heap.size w w':=by
 go_enter Tryz.func12,Tryz.ntmps12
 go_wp2_with fail
 refine (zBE hp hlp).mono ?_;rintro e w1 ⟨r1,rfl,f1,b1⟩;go_wp2_with fail
 refine (zBE (hq.below b1) hlq).mono ?_;rintro e w2 ⟨r2,rfl,f2,b2⟩;go_wp2_with fail
 refine (zBv (f1.reads.below b2) f2.reads (by have:=zBm p; omega) (by have:=zBm q; omega)).mono ?_;rintro e w3 ⟨rfl,hq3⟩;have b3:=zAA.step (zAA.step b1 b2) (zAO hq3);clear hq3 f1 f2 b1 b2;go_wp2_with fail
 go_ret
 exact ⟨rfl,b3⟩
theorem zMB {w:World} {n:Nat}:Calls Tryz.prog 14 #[.int .i64 n] w fun e w'=>e=.returned (.int .i64 (if (n:Int) % 2=0 then 1 else -1))∧w=w':=by
 by_cases h:(n:Int) % 2=0
 ·have i1:((n:Int) % 2 == 0)=true:=beq_iff_eq.2 h;rw [if_pos h];clear h;go_enter Tryz.func14,Tryz.ntmps14
  go_wp2_with fail
  go_ret
  exact ⟨rfl,rfl⟩
 ·have i1:((n:Int) % 2 == 0)=false:=beq_eq_false_iff_ne.2 h;rw [if_neg h];clear h;go_enter Tryz.func14,Tryz.ntmps14
  go_wp2_with fail
  go_ret
  exact ⟨rfl,rfl⟩
theorem zCB {S:Nat→Prop} {u:Value} {l:List Int} {n:Nat} {w:World} (h:RI S w u l) (hn:n≤60) (hl:l.length≤61) (ht:(trim l).length≤n+1) :
  Calls Tryz.prog 11 #[u,.int .i64 n] w fun e w'=>∃r,e=.returned (.tuple #[r,.bool true])∧FI (New w w') w' r (trim (zBL (trim l) n (trim l).length))∧Below w.heap.size w w':=by
 obtain ⟨i0,hi0,hz0,hz1,hz2⟩:=info_parts zBF;have mixed:Tryz.prog.follows .mixedOrders=true:=by kernel_rfl
 have HST:=zQY (fun k=>(show zBL (trim l) n (k+1)=(zBL (trim l) n k).set (n-k) (num (trim l) k) from rfl));have H0:=zQY (show zBL (trim l) n 0=List.replicate (n+1) 0 from rfl);have HL:=zQY (zBz (trim l) n);obtain ⟨R,hR⟩:∃R,R=trim (zBL (trim l) n (trim l).length):=⟨_,rfl⟩;rw [<-hR];have HRES:=zQY hR;clear hR;go_enter Tryz.func11,Tryz.ntmps11
 go_wp2_with fail
 refine (zBE h (by omega)).mono ?_;rintro e w1 ⟨r1,rfl,f1,b1⟩;have g1:=f1.any;generalize trim l=t at *;obtain ⟨a1,c1,rfl⟩:=g1.form;generalize hm:t.length=m at *;have HM:=zQY hm;clear hm f1 h;have j1:¬(n:Int)<0:=by omega
 have j2:¬(60:Int)<(n:Int):=by omega
 have j3:¬(n:Int)+1<(m:Int):=by omega
 obtain ⟨M,hM⟩:∃M,M=n+1:=⟨_,rfl⟩;have eM:(n:Int)+1=(M:Int):=by omega
 rw [<-hM] at H0 HL;have hMn:n<M:=by omega
 have hmM:m≤M:=by omega
 have hM61:M≤61:=by omega
 clear hM ht;go_wp2_with (at_make; (refine wpList_make_full _ rfl _ _ 25 rfl w1.heap.size 3 i0 (.int .i64 0) 1 Tryz.underlying25 hi0 hz0 hz1 _ _ _ _ M rfl rfl (by first | exact eM | rfl | (simp only [wrap64]; omega)) (by first | exact eM | rfl | (simp only [wrap64]; omega)) ?hb ?hm ?hs ?_))
 case hb=>first | (rw [hz2]; omega) | omega
 case hm=>unfold maxLen; omega
 case hs=>exact zQd _
 intro w2 hown hgr;have hb1:Below w.heap.size w w2:=b1.grown hgr b1.size (by simp);have hb12:Below w1.heap.size w1 w2:=(Below.refl _ w1).grown hgr (zQd _) (by simp);have hf1:FI (New w w2) w2 (.slice (some ⟨w1.heap.size,0,none⟩) M M) (List.replicate M 0):=(FI.of_row hown (zQd _) (by simp) (by simp [toList_madeCells_one])).mono (fun b hb=>⟨by have:=hb.1; have:=b1.size; omega,hb.2⟩);clear hgr hi0 hz0 hz1 hz2 hown eM hb1;rw [<-H0.out] at hf1;go_wp2_with fail
 go_loopw [8] (fun ii wr=>∃i:Nat,i≤m∧ii=.int .i64 i∧FI (New w wr) wr (.slice (some ⟨w1.heap.size,0,none⟩) M M) (zBL t n i)∧Below w1.heap.size w1 wr) (fun ii _=>m-(intOf ii).toNat)
 case atStart=>exact ⟨0,Nat.zero_le _,rfl,hf1,hb12⟩
 case round =>
  obtain ⟨i,hi,rfl,hf,hb⟩:=hrel;by_cases h1:i<m
  ·have i1:(i:Int)<(m:Int):=by omega
   obtain ⟨b,o,y,e8,hcy,hy⟩:=(g1.below hb).at h1;obtain ⟨q,hq⟩:∃q:Nat,q=n-i:=⟨_,rfl⟩;have eq1:(n:Int)-(i:Int)=(q:Int):=by omega
   have hqM:q<M:=by omega
   have hPk:=HL.out i;obtain ⟨b5,o5,x,e5,hcx,hx⟩:=RI.at hf.any hqM;simp only [Option.some.injEq,Addr.mk.injEq,and_true] at e5;obtain ⟨rfl,rfl⟩:=e5;rw [Nat.zero_add] at hcx;subst e8;have hfr:=hf.froz hPk q;have hst:=hf.put hPk q y;rw [show (zBL t n i).set q y=zBL t n (i+1) from by rw [HST.out,zAm hy.out,hq]] at hst;have HST2:=zQY hst;clear hst hx hy hq;go_wp2_with fail
   go_roundw
   case rel=>exact ⟨i+1,by omega,by go_num,HST2.out.mono (fun b hb'=>⟨hb'.1,Nat.lt_of_lt_of_le hb'.2 ((Below.refl 0 wr).setCell (Nat.zero_le _) _).size⟩),hb.setCell (p:=⟨w1.heap.size,q,none⟩) (zQd _) _⟩
   case measure=>simp [intOf]; omega
  ·have i1:¬(i:Int)<(m:Int):=by omega
   have him:i=m:=by omega
   rw [him] at hf;clear him;have hb0:=zAA.step b1 hb;go_wp2_with fail
   refine (zBE hf.reads (by rw [HL.out]; omega)).mono ?_;rintro e w5 ⟨r5,rfl,f5,b5⟩;rw [<-HRES.out] at f5;have HE:Hid (FI (New w w5) w5 r5 R∧Below w.heap.size w w5):=zQY ⟨f5.mono (fun b hb'=>⟨Nat.le_trans hb0.size hb'.1,hb'.2⟩),zAA.step hb0 b5⟩;clear f5 b5 hf hb hb0;go_wp2_with fail
   go_ret2
   exact ⟨_,rfl,HE.out⟩
theorem zPk {c:List (List Int)} {j:Nat} {l:List Int} (h:c[j]? = some l):l.length≤total c:=by
 induction c generalizing j with
 | nil=>simp at h
 | cons x c ih =>
  have ht:total (x::c)=total c+x.length+1:=by simp [total]; omega
  cases j with
  | zero=>simp at h; subst h; omega
  | succ j=>have:=ih (j:=j) (by simpa using h); omega
theorem zJM {S S':Nat→Prop} {w:World} {u v:Value} {L L':List (List Int)} (h:RII S w u L) (h':RII S' w v L') (hl:total L≤16777216) :
  Calls Tryz.prog 29 #[u,v] w fun e w'=>e=.returned (.bool (decide (L=L')))∧Below w.heap.size w w':=by
 have hn0:L.length≤16777216:=by unfold total at hl; omega
 obtain ⟨a,cap,rfl⟩:=h.form;obtain ⟨a',cap',rfl⟩:=h'.form;by_cases hne:L.length=L'.length
 ·have i0:((L.length:Int) != (L'.length:Int))=false:=by simp; omega
  have HY:Hid ((∀j,j<L.length→L[j]? = L'[j]?)→L=L'):=zQY (fun k=>List.ext_getElem? fun j=>by
   rcases Nat.lt_or_ge j L.length with hj | hj
   ·exact k j hj
   ·rw [List.getElem?_eq_none hj,List.getElem?_eq_none (by omega)])
  have HN:Hid (∀(j:Nat) (x y:List Int),L[j]? = some x→L'[j]? = some y→x≠y→L≠L'):=zQY (fun j x y hx hy hxy e=>by subst e; rw [hx] at hy; cases hy; exact hxy rfl);have HT:=zQY (fun (j:Nat) (x:List Int) (hx:L[j]? = some x)=>Nat.le_trans (zPk hx) hl);rw [<-hne] at h' i0 ⊢;generalize L.length=n at *;clear hne hl;go_enter Tryz.func29,Tryz.ntmps29
  go_wp2_with fail
  go_loopw [5] (fun kk wr=>∃(k:Nat),k≤n∧kk=.int .i64 k∧Hid (∀j,j<k→L[j]? = L'[j]?)∧Below w.heap.size w wr) (fun kk _=>n-(intOf kk).toNat)
  case atStart=>exact ⟨0,Nat.zero_le _,rfl,zQY (fun j hj=>by omega),Below.refl _ _⟩
  case round =>
   obtain ⟨k,hk,rfl,HK,hb⟩:=hrel;by_cases hlt:k<n
   ·have i1:(k:Int)<(n:Int):=by omega
    obtain ⟨b,o,r,x,rfl,hc0,hx,hx0⟩:=(h.below hb.drew).at hlt;obtain ⟨b',o',r',y,rfl,hc1,hy,hy0⟩:=(h'.below hb.drew).at hlt;have HX:=zQY hx0.out;have HY2:=zQY hy0.out;have tx:=HT.out k x hx0.out;have hsi:=zGk hx hy tx;have l0:=zQc _ _ hc0;have l1:=zQc _ _ hc1;obtain ⟨a3,c3,rfl⟩:=hx.form;obtain ⟨a4,c4,rfl⟩:=hy.form;by_cases hxy:x=y
    ·rw [decide_eq_true hxy] at hsi;have HK2:Hid (∀j,j<k+1→L[j]? = L'[j]?):=zQY (fun j hj=>by
      rcases Nat.lt_or_ge j k with h1 | h1
      ·exact HK.out j h1
      ·obtain rfl:j=k:=by omega
       rw [HX.out,HY2.out,hxy])
     clear hxy hx hy hx0 hy0;generalize x.length=xn at *;generalize y.length=yn at *;go_wp2_with fail
     go_region_held3 (fun w'=>w'.cell? ⟨b,o+k,none⟩=some (.slice a3 xn c3)∧w'.cell? ⟨b',o'+k,none⟩=some (.slice a4 yn c4)) (first | go_keep | exact ⟨p1,p2⟩ | exact ⟨hc0,hc1⟩) ((go_at_call 8; refine hsi.mono ?_; rintro e w4 ⟨rfl,b4⟩; have p1:=(b4.cell (p:=⟨b,o+k,none⟩) l0).trans hc0; have p2:=(b4.cell (p:=⟨b',o'+k,none⟩) l1).trans hc1))
     have hb2:=zAA.step hb.drew b4;clear hsi hc0 hc1 p1 p2;go_wp2_with fail
     go_roundw
     case rel=>exact ⟨k+1,by omega,by go_num,HK2,hb2⟩
     case measure=>simp [intOf]; omega
    ·rw [decide_eq_false hxy] at hsi;have HF:=zQY (HN.out k x y HX.out HY2.out hxy);clear hxy hx hy hx0 hy0;generalize x.length=xn at *;generalize y.length=yn at *;go_wp2_with fail
     go_region_held3 (fun w'=>w'.cell? ⟨b,o+k,none⟩=some (.slice a3 xn c3)∧w'.cell? ⟨b',o'+k,none⟩=some (.slice a4 yn c4)) (first | go_keep | exact ⟨p1,p2⟩ | exact ⟨hc0,hc1⟩) ((go_at_call 8; refine hsi.mono ?_; rintro e w4 ⟨rfl,b4⟩; have p1:=(b4.cell (p:=⟨b,o+k,none⟩) l0).trans hc0; have p2:=(b4.cell (p:=⟨b',o'+k,none⟩) l1).trans hc1))
     have hb2:=zAA.step hb.drew b4;clear hsi hc0 hc1 p1 p2;go_wp2_with fail
     go_ret
     exact ⟨zAD (by simp [HF.out]),hb2⟩
   ·have i1:¬(k:Int)<(n:Int):=by omega
    have hkn:k=n:=by omega
    have HF:=zQY (HY.out (by rw [<-hkn]; exact HK.out));clear hkn;go_wp2_with fail
    go_ret
    exact ⟨zAD (by simp [HF.out]),hb⟩
 ·have i0:((L.length:Int) != (L'.length:Int))=true:=by simp; omega
  have HF:Hid (L≠L'):=zQY (fun e=>hne (congrArg List.length e));clear hne;generalize L.length=n at *;generalize L'.length=n' at *;go_enter Tryz.func29,Tryz.ntmps29
  go_wp2_with fail
  go_ret
  exact ⟨zAD (by simp [HF.out]),Below.refl _ _⟩
open Go.ChangeShapes Go.WideShapes Go.ChangeAt Go.RowKit Go.Deep
def RByW (_:World) (r:Value) (n:Int):Prop:=r=.int .u8 n∧(Lit.int .u8 n).wf=true
section
variable {H:Type} {enc:TypeId × Value→H} {w:World}
theorem zGv (n:Nat) (r:Value) (x:DataW H × List MemPlace) (h:DataW.trod enc Tryz.prog w 0 (fun _=>true) true n 5 [r]=some x):∃y,RByW w r y:=by
 obtain ⟨y,h,_,hw⟩:=DataW.trod_int Tryz.underlying5 h;simp at h;exact ⟨y,h,hw⟩
theorem zGb {v:Value} {d:DataW H} {p:List MemPlace} (hv:∃a n c,v=.slice a n c) (h:DataW.Trod enc Tryz.prog w 0 (fun _=>true) true 22 v d p):∃n:Nat,RBy Any w v n:=by
 obtain ⟨L,a,cap,rfl,_,hL⟩:=zOe (R:=RByW) Tryz.underlying22 (by kernel_rfl) hv zGv h;refine ⟨L.length,a,cap,rfl,fun j hj=>?_⟩;rcases hL with rfl | ⟨b,o,ha,_,_,hx⟩
 ·simp at hj
 ·obtain ⟨r,h1,h2,h3⟩:=hx j L[j] (zQZ hj);refine ⟨b,o,L[j],ha,trivial,by rw [<-h2]; exact h1,zQY ?_⟩;have e1:IntKind.u8.min=0:=by decide
  have e2:IntKind.u8.max=255:=by decide
  simp only [Lit.wf,e1,e2,Bool.and_eq_true,decide_eq_true_eq] at h3;exact h3
end
end Go.Proofs.YtlchafedbnihoaaGreat
