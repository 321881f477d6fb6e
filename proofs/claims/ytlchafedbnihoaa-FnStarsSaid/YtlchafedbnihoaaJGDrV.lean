/- What the law of the star product draws. Condition: at most 2^20 bytes. -/
import Derived.Test.YtlchafedbnihoaaJGDrD
import Derived.Test.YtlchafedbnihoaaJGSup
namespace Go.Proofs.Ytlchafedbnihoaa
open Go.RowKit
set_option maxRecDepth 20000
set_option maxHeartbeats 8000000
structure WdD (w w':World) (r1 r2:Value) (M:List (List Int)) (l:List Int):Prop where
 rm:RII (New w w') w' r1 M
 rl:RI (New w w') w' r2 l
 m1:1≤M.length
 m5:M.length≤5
 row:∀x∈M,x.length≤4
 len:l.length≤10
 bl:Below w.heap.size w w'
theorem zEY {w:World} {v:Value} {n:Nat} (h:RBy Any w v n) (hn:n≤1048576) :
  Calls Try.prog 52 #[v] w fun e w'=>∃r1 r2,e=.returned (.tuple #[r1,r2])∧∃M l,WdD w w' r1 r2 M l:=by
 obtain ⟨a,cap,rfl⟩:∃a cap,v=.slice a n cap:=by obtain ⟨a,cap,e,_⟩:=h; exact ⟨a,cap,e⟩
 go_enter Try.func52,Try.ntmps52
 go_wp2_with fail
 refine (zDw h hn).mono ?_;rintro e w1 ⟨rfl,hc1,b1,hlt⟩;obtain ⟨g,hg⟩:∃g,g=w.heap.size:=⟨_,rfl⟩;rw [<-hg] at hc1 ⊢;have HG:=zJh hg;have hgw1:g<w1.heap.size:=by rw [hg]; exact hlt
 clear hg hlt h;go_wp2_with fail
 refine (zDp hc1).mono ?_;rintro e w2 ⟨r,rfl,M,f2,h1,h5,h4,hc2,hg2⟩;obtain ⟨a2,c2,rfl⟩:=f2.form;have HR:=zJh h4;clear h4;generalize hm:M.length=m at *;have HM:=zJh hm;clear hm;go_wp2_with fail
 refine (zBt hc2 (n:=m) (m:=9) (by omega) (by omega)).mono ?_;rintro e w3 ⟨r3,rfl,l,f3,hl,hc3,hg3⟩;go_wp2_with fail
 refine (zBL hc3 (n:=12) (by omega) (by omega)).mono ?_;rintro e w4 ⟨bq,rfl,hc4,hg4⟩;obtain ⟨W1,hB1⟩:=(Bs.start w2 g).turn hc2.lt hg3;obtain ⟨W0,hB0⟩:=hB1.turn hc2.lt hg4;have f34:=f3.turn hg4 hc2.lt;have HB0:=zJh hB0;have HG2:=zJh hg2;have HS:=zJh (And.intro b1.size hg2.size);have HB1:=zJh b1;have HL:=zJh hl;have HX:=zJh (And.intro h1 h5);have F2:=zJh f2;have hgl2:=hc2.lt;have HFIN:Hid (∀(w7:World) (v7:Value) (l7:List Int),w2.grownBy w7 (some g)→FI (New w2 w7) w7 v7 l7→l7.length≤10→WdD w w7 (.slice a2 m c2) v7 M l7):=zJh (fun w7 v7 l7 hg7 f7 hl7 =>
  ⟨(F2.out.turn hg7 (fun b hb=>by have:=hb.1; omega)).mono' (fun b hb=>⟨by have:=hb.1; have:=HS.out; omega,Nat.lt_of_lt_of_le hb.2 hg7.size⟩),(f7.mono (fun b hb=>⟨by have:=hb.1; have:=HS.out; omega,hb.2⟩)).reads,by rw [HM.out]; exact HX.out.1,by rw [HM.out]; exact HX.out.2,HR.out,hl7,
   HB1.out.grown (Off.tr HG2.out hg7) HB1.out.size (fun k hk=>by cases hk; rw [HG.out]; exact zJm _)⟩)
 clear f2 f3 hc1 hc2 hc3 hg2 hg3 hg4 b1 hl hB1 hB0;cases bq
 ·have HE:=zJh (HFIN.out w4 r3 l HB0.out.all f34 (by have:=HL.out; omega));clear f34 hc4 HFIN;go_wp2_with fail
  go_ret2
  exact ⟨_,_,rfl,M,l,HE.out⟩
 ·obtain ⟨a3,c3,e3⟩:=f34.form;obtain ⟨w5,hw5⟩:∃w5,w5=w4.alloc (.cells #[.int .i64 (-1),.int .i64 4] 3):=⟨_,rfl⟩;obtain ⟨f5,b5⟩:=litN (w:=w4) [-1,4] (by decide) hw5;have hc5:=hc4.below b5;have hg45:∀b,New w4 w5 b→Off g b:=fun b hb=>by have h1:=hb.1; have h2:=hc4.lt; show b≠g; omega
  have hpk:=zER hc5 (RI.mono f5.reads hg45) (by decide) (by decide);have hB5:=HB0.out.below b5;have f45:=f34.grow b5;have HW5:=zJh hw5;subst e3;generalize hnl:l.length=nl at *;have HNL:=zJh hnl;clear hw5 hnl f34 hc4 hg45 b5;go_wp2_with fail
  rw [<-HW5.out];refine hpk.mono ?_;rintro e w6 ⟨y,hy,rfl,hc6,hg6⟩;obtain ⟨W2,hB2⟩:=hB5.turn hgl2 hg6;have f46:FI (New W2 w6) w6 (.slice a3 nl c3) l:=by
   rw [hB2.new];exact f45.turn hg6 hgl2
  have bb:=(Below.refl w6.heap.size w6).alloc (zJm _) (.cells #[.int .i64 y] 3);have HB2:=zJh hB2;clear f45 hpk hB5 hB2 hc5 f5 hg6 hc6 hy;go_wp2_with (at_builtin; go_must (refine zAG (W:=W2) rfl _ _ rfl rfl (f46.grow bb) (HB2.out.below bb).bl rfl (RI.one w6 y) ?_ ?_))
  ·have:=HL.out; have:=HNL.out; simp; omega
  ·intro v7 w7 f7 b7 _;have hB7:Bs w2 g W2 w7:=⟨HB2.out.size,HB2.out.gr,b7⟩;rw [hB7.new] at f7;have HE:=zJh (HFIN.out w7 v7 (l++[y]) hB7.all f7 (by have:=HL.out; have:=HNL.out; simp; omega));clear f7 b7 hB7 f46 HFIN bb;go_wp2_with fail
   go_ret2
   exact ⟨_,_,rfl,M,_,HE.out⟩
theorem WdD.total {w w':World} {r1 r2:Value} {M:List (List Int)} {l:List Int} (h:WdD w w' r1 r2 M l):total M≤100:=by
 have:=zBF h.m5 h.row;omega
theorem zFE {w:World} {v:Value} {n:Nat} (h:RBy Any w v n) (hn:n≤1048576) :
  Calls Try.prog 20 #[v] w fun e w'=>∃r1 r2 i,e=.returned (.tuple #[r1,r2,.int .i64 i])∧∃M l,WdD w w' r1 r2 M l:=by
 obtain ⟨a,cap,rfl⟩:∃a cap,v=.slice a n cap:=by obtain ⟨a,cap,e,_⟩:=h; exact ⟨a,cap,e⟩
 go_enter Try.func20,Try.ntmps20
 go_wp2_with fail
 refine (zEY h hn).mono ?_;rintro e w2 ⟨r1,r2,rfl,M,l,hD⟩;have HD:=zJh hD;clear hD;go_wp2_with fail
 go_ret3
 exact ⟨_,_,_,rfl,M,l,HD.out⟩
theorem zGS {w:World} {v:Value} {n:Nat} (h:RBy Any w v n) (hn:n≤1048576) :
  Calls Try.prog 23 #[v] w fun e w'=>∃r1 r2,e=.returned (.tuple #[r1,r2])∧∃M l,WdD w w' r1 r2 M l:=by
 obtain ⟨a,cap,rfl⟩:∃a cap,v=.slice a n cap:=by obtain ⟨a,cap,e,_⟩:=h; exact ⟨a,cap,e⟩
 go_enter Try.func23,Try.ntmps23
 go_wp2_with fail
 refine (zEY h hn).mono ?_;rintro e w2 ⟨r1,r2,rfl,M,l,hD⟩;have HD:=zJh hD;clear hD;go_wp2_with fail
 go_ret2
 exact ⟨_,_,rfl,M,l,HD.out⟩
structure WfD (w w':World) (r1 r2:Value) (M:List (List Int)) (l:List Int):Prop where
 rm:RII Any w' r1 M
 rl:RI Any w' r2 l
 m5:M.length≤5
 tot:total M≤100
 len:l.length≤15
 bl:Below w.heap.size w w'
theorem zFF {w:World} {v:Value} {n:Nat} (h:RBy Any w v n) (hn:n≤1048576) :
  Calls Try.prog 26 #[v] w fun e w'=>∃r1 r2,e=.returned (.tuple #[r1,r2])∧∃M l,WfD w w' r1 r2 M l:=by
 obtain ⟨a,cap,rfl⟩:∃a cap,v=.slice a n cap:=by obtain ⟨a,cap,e,_⟩:=h; exact ⟨a,cap,e⟩
 go_enter Try.func26,Try.ntmps26
 go_wp2_with fail
 refine (zDw h hn).mono ?_;rintro e w1 ⟨rfl,hc1,b1,hlt⟩;obtain ⟨g,hg⟩:∃g,g=w.heap.size:=⟨_,rfl⟩;rw [<-hg] at hc1 ⊢;have HG:=zJh hg;have hgw1:g<w1.heap.size:=by rw [hg]; exact hlt
 clear hg hlt h;go_wp2_with fail
 refine (zDp hc1).mono ?_;rintro e w2 ⟨r,rfl,M,f2,h1,h5,h4,hc2,hg2⟩;obtain ⟨a2,c2,rfl⟩:=f2.form;have HR:=zJh h4;clear h4;generalize hm:M.length=m at *;have HM:=zJh hm;clear hm;go_wp2_with fail
 refine (zBt hc2 (n:=m) (m:=4) (by omega) (by omega)).mono ?_;rintro e w3 ⟨r3,rfl,l,f3,hl,hc3,hg3⟩;have HE:Hid (WfD w w3 (.slice a2 m c2) r3 M l):=zJh ⟨RII.any (f2.turn hg3 (fun b hb=>by have:=hb.1; omega)),f3.any,by rw [HM.out]; exact h5,by have:=zBF (by rw [HM.out]; exact h5) HR.out; omega,by omega,
  b1.grown (Off.tr hg2 hg3) b1.size (fun k hk=>by cases hk; rw [HG.out]; exact zJm _)⟩
 clear f2 f3 hc1 hc2 hc3 hg2 hg3 b1;go_wp2_with fail
 go_ret2
 exact ⟨_,_,rfl,M,l,HE.out⟩
theorem zFN {w:World} {v:Value} {n:Nat} (h:RBy Any w v n) (hn:n≤1048576) :
  Calls Try.prog 27 #[v] w fun e w'=>∃r1 r2,e=.returned (.tuple #[r1,r2])∧∃M l,WfD w w' r1 r2 M l:=by
 obtain ⟨a,cap,rfl⟩:∃a cap,v=.slice a n cap:=by obtain ⟨a,cap,e,_⟩:=h; exact ⟨a,cap,e⟩
 go_enter Try.func27,Try.ntmps27
 go_wp2_with fail
 refine (zDw h hn).mono ?_;rintro e w1 ⟨rfl,hc1,b1,hlt⟩;obtain ⟨g,hg⟩:∃g,g=w.heap.size:=⟨_,rfl⟩;rw [<-hg] at hc1 ⊢;have HG:=zJh hg;have hgw1:g<w1.heap.size:=by rw [hg]; exact hlt
 clear hg hlt h;go_wp2_with fail
 refine (zHY hc1).mono ?_;rintro e w2 ⟨r,rfl,M,f2,h1,h5,h4,hc2,hg2⟩;obtain ⟨a2,c2,rfl⟩:=f2.form;have HR:=zJh h4;clear h4;generalize hm:M.length=m at *;have HM:=zJh hm;clear hm;go_wp2_with fail
 refine (zBt hc2 (n:=m) (m:=12) (by omega) (by omega)).mono ?_;rintro e w3 ⟨r3,rfl,l,f3,hl,hc3,hg3⟩;have HE:Hid (WfD w w3 (.slice a2 m c2) r3 M l):=zJh ⟨RII.any (f2.turn hg3 (fun b hb=>by have:=hb.1; omega)),f3.any,by rw [HM.out]; exact h5,by have:=zBF (by rw [HM.out]; exact h5) HR.out; omega,by omega,
  b1.grown (Off.tr hg2 hg3) b1.size (fun k hk=>by cases hk; rw [HG.out]; exact zJm _)⟩
 clear f2 f3 hc1 hc2 hc3 hg2 hg3 b1;go_wp2_with fail
 go_ret2
 exact ⟨_,_,rfl,M,l,HE.out⟩
structure S2D (w w':World) (r1 r2 r3:Value) (M:List (List Int)) (a b:List Int):Prop where
 rm:RII Any w' r1 M
 ra:RI Any w' r2 a
 rb:RI Any w' r3 b
 m5:M.length≤5
 tot:total M≤100
 la:a.length≤7
 lb:b.length≤7
 bl:Below w.heap.size w w'
theorem zHD {w:World} {v:Value} {n:Nat} (h:RBy Any w v n) (hn:n≤1048576) :
  Calls Try.prog 33 #[v] w fun e w'=>∃r1 r2 r3,e=.returned (.tuple #[r1,r2,r3])∧∃M p q,S2D w w' r1 r2 r3 M p q:=by
 obtain ⟨a,cap,rfl⟩:∃a cap,v=.slice a n cap:=by obtain ⟨a,cap,e,_⟩:=h; exact ⟨a,cap,e⟩
 go_enter Try.func33,Try.ntmps33
 go_wp2_with fail
 refine (zDw h hn).mono ?_;rintro e w1 ⟨rfl,hc1,b1,hlt⟩;obtain ⟨g,hg⟩:∃g,g=w.heap.size:=⟨_,rfl⟩;rw [<-hg] at hc1 ⊢;have HG:=zJh hg;have hgw1:g<w1.heap.size:=by rw [hg]; exact hlt
 clear hg hlt h;go_wp2_with fail
 refine (zDp hc1).mono ?_;rintro e w2 ⟨r,rfl,M,f2,h1,h5,h4,hc2,hg2⟩;obtain ⟨a2,c2,rfl⟩:=f2.form;have htot:total M≤100:=by have:=zBF h5 h4; omega
 have HM5:=zJh h5;clear h4;generalize hm:M.length=m at *;have HM:=zJh hm;clear hm;go_wp2_with fail
 refine (zBt hc2 (n:=m) (m:=7) (by omega) (by omega)).mono ?_;rintro e w3 ⟨r3,rfl,p,f3,hp,hc3,hg3⟩;have m2:=f2.turn hg3 (fun b hb=>by have:=hb.1; omega);clear f2;go_wp2_with fail
 refine (zBt hc3 (n:=m) (m:=7) (by omega) (by omega)).mono ?_;rintro e w4 ⟨r4,rfl,q,f4,hq,hc4,hg4⟩;have m3:=m2.turn hg4 (fun b hb=>by have:=hb.1; omega);have p3:=f3.turn hg4 hc2.lt;clear m2 f3;go_wp2_with fail
 refine (zBL hc4 (n:=3) (by omega) (by omega)).mono ?_;rintro e w5 ⟨bq,rfl,hc5,hg5⟩;have m4:=RII.any (m3.turn hg5 (fun b hb=>by have:=hb.1; omega));have p4:=(p3.turn hg5 hc2.lt).any;have q4:=(f4.turn hg5 hc3.lt).any;have b5:Below w.heap.size w w5:=b1.grown (Off.tr hg2 (Off.tr hg3 (Off.tr hg4 hg5))) b1.size (fun k hk=>by cases hk; rw [HG.out]; exact zJm _);have HFIN:Hid (∀(w7:World) (v7:Value) (l7:List Int),Below w5.heap.size w5 w7→RI Any w7 v7 l7→l7.length≤7→S2D w w7 (.slice a2 m c2) r3 v7 M p l7):=zJh (fun w7 v7 l7 b7 f7 h7 =>
  ⟨m4.below b7,p4.below b7,f7,by rw [HM.out]; exact HM5.out,htot,hp,h7,zAA.step b5 b7⟩)
 clear m3 p3 f4 hc1 hc2 hc3 hc4 hc5 hg2 hg3 hg4 hg5 b1 b5;cases bq
 ·have HE:=zJh (HFIN.out w5 r4 q (Below.refl _ _) q4 hq);clear HFIN m4 p4 q4;go_wp2_with fail
  go_ret3
  exact ⟨_,_,_,rfl,M,p,q,HE.out⟩
 ·go_wp2_with fail
  refine (zBG m4 p4 (by omega) (by omega)).mono ?_;rintro e w6 ⟨rfl,hw6⟩;have b6:=zAH hw6;clear hw6;cases hW:isWd M p
  ·have HE:=zJh (HFIN.out w6 r4 q b6 (q4.below b6) hq);clear HFIN m4 p4 q4 b6 hW;go_wp2_with fail
   go_ret3
   exact ⟨_,_,_,rfl,M,p,q,HE.out⟩
  ·obtain ⟨k1,k2,k3⟩:=zAw hW;have hc:=zAR.1 k1;have hnl:=zAz hc k3 (by omega);have hns:=zCg (m4.below b6) (p4.below b6) hc k3 (by omega) (by omega);clear k1 k2 k3 hc hW m4 p4 q4;go_wp2_with fail
   refine hns.mono ?_;rintro e w7 ⟨r7,rfl,f7,b7⟩;have HE:=zJh (HFIN.out w7 r7 _ (zAA.step b6 b7) f7.any (by omega));clear HFIN f7 b7 b6 hns;generalize zAB M p=np at *;go_wp2_with fail
   go_ret3
   exact ⟨_,_,_,rfl,M,p,np,HE.out⟩
theorem zEb {w:World} {v:Value} {n:Nat} (h:RBy Any w v n) (hn:n≤1048576) :
  Calls Try.prog 5 #[v] w fun e w'=>∃r1 r2 r3,e=.returned (.tuple #[r1,r2,r3])∧∃M p q,S2D w w' r1 r2 r3 M p q:=by
 obtain ⟨a,cap,rfl⟩:∃a cap,v=.slice a n cap:=by obtain ⟨a,cap,e,_⟩:=h; exact ⟨a,cap,e⟩
 go_enter Try.func5,Try.ntmps5
 go_wp2_with fail
 refine (zHD h hn).mono ?_;rintro e w2 ⟨r1,r2,r3,rfl,M,p,q,hD⟩;have HD:=zJh hD;clear hD;go_wp2_with fail
 go_ret3
 exact ⟨_,_,_,rfl,M,p,q,HD.out⟩
theorem zJT {w:World} {g n:Nat} (h:Cur w g) (hn:n≤5) :
  Calls Try.prog 69 #[.pointer (some ⟨g,0,none⟩),.int .i64 n] w fun e w'=>∃r,e=.returned r∧∃l:List Int,FI (New w w') w' r l∧l.length≤6∧Cur w' g∧w.grownBy w' (some g):=by
 have hgl:=h.lt;go_enter Try.func69,Try.ntmps69
 go_wp2_with fail
 obtain ⟨w1,hw1⟩:∃w1,w1=w.alloc (.cells #[] 3):=⟨_,rfl⟩;obtain ⟨f1,b1⟩:=zAE (Below.refl _ w) hw1;rw [<-hw1];clear hw1;have hc1:=h.below b1;have hB1:=(Bs.start w g).below b1;go_loopw [5,6] (fun zz j wr=>∃(k:Nat) (z:Value) (acc:List Int) (W0:World),z=zz∧k≤n∧j=.int .i64 k∧FI (New W0 wr) wr z acc∧acc.length≤k∧Cur wr g∧Hid (Bs w g W0 wr)) (fun _ j _=>n-(intOf j).toNat)
 case atStart=>exact ⟨0,_,[],w,rfl,Nat.zero_le _,rfl,f1,by simp,hc1,zJh hB1⟩
 case round =>
  clear f1 b1 hc1 hB1;obtain ⟨k,z,acc,W0,rfl,hk,rfl,hf,hal,hc,HB⟩:=hrel;have hW:W0.heap.size=w.heap.size:=HB.out.size;by_cases hlt:k<n
  ·have i1:(k:Int)<(n:Int):=by omega
   go_wp2_with fail
   refine (zBL hc (n:=2) (by omega) (by omega)).mono ?_;rintro e w3 ⟨bq,rfl,hc3,hg3⟩;obtain ⟨W1,hB1⟩:=HB.out.turn hgl hg3;have hf3:FI (New W1 w3) w3 z acc:=by
    have:=hf.turn hg3 (by rw [hW]; exact hgl);rw [hB1.new]; rw [show New W0 w3=New w w3 by unfold New; rw [hW]] at this; exact this
   have HB2:=zJh hB1;have HC3:=zJh hc3;clear hB1 hf;cases bq
   ·go_wp2_with fail
    go_roundw
    case rel=>exact ⟨k+1,_,acc,W1,rfl,by omega,by go_num,hf3,by omega,hc3,HB2⟩
    case measure=>simp [intOf]; omega
   ·clear hc3;have bb:=(Below.refl w3.heap.size w3).alloc (zJm _) (.cells #[.int .i64 k] 3);go_wp2_with (at_builtin; go_must (refine zAG (W:=W1) rfl _ _ rfl rfl (hf3.grow bb) (HB2.out.below bb).bl rfl (RI.one w3 k) ?_ ?_))
    ·first | omega | (simp; omega)
    ·intro v' w4 f4 b4 _;have hB4:Bs w g W1 w4:=⟨HB2.out.size,HB2.out.gr,b4⟩;have hc4:Cur w4 g:=HB2.out.cur hB4 hgl HC3.out;have HB5:=zJh hB4;clear hB4 HC3;go_wp2_with fail
     go_roundw
     case rel=>exact ⟨k+1,_,acc++[(k:Int)],W1,rfl,by omega,by go_num,f4,by simp; omega,hc4,HB5⟩
     case measure=>simp [intOf]; omega
  ·have i1:¬(k:Int)<(n:Int):=by omega
   go_wp2_with fail
   refine (zBL hc (n:=12) (by omega) (by omega)).mono ?_;rintro e w3 ⟨bq,rfl,hc3,hg3⟩;obtain ⟨W1,hB1⟩:=HB.out.turn hgl hg3;have hf3:FI (New W1 w3) w3 z acc:=by
    have:=hf.turn hg3 (by rw [hW]; exact hgl);rw [hB1.new]; rw [show New W0 w3=New w w3 by unfold New; rw [hW]] at this; exact this
   have HB2:=zJh hB1;clear hB1 hf;cases bq
   ·go_wp2_with fail
    go_ret
    exact ⟨_,rfl,acc,by rw [<-HB2.out.new]; exact hf3,by omega,hc3,HB2.out.all⟩
   ·go_wp2_with fail
    refine (zAo hc3 (n:=6) (by omega) (by omega)).mono ?_;rintro e w4 ⟨y,hy,rfl,hc4,hg4⟩;obtain ⟨W2,hB2⟩:=HB2.out.turn hgl hg4;have hf4:FI (New W2 w4) w4 z acc:=by
     have hW1:W1.heap.size=w.heap.size:=HB2.out.size;have:=hf3.turn hg4 (by rw [hW1]; exact hgl);rw [hB2.new]; rw [show New W1 w4=New w w4 by unfold New; rw [hW1]] at this; exact this
    have HB3:=zJh hB2;have HC4:=zJh hc4;clear hB2 hf3 hc4 hc3 HB2;have bb:=(Below.refl w4.heap.size w4).alloc (zJm _) (.cells #[.int .i64 ((y:Int)-1)] 3);go_wp2_with (at_builtin; go_must (refine zAG (W:=W2) rfl _ _ rfl rfl (hf4.grow bb) (HB3.out.below bb).bl rfl (RI.one w4 ((y:Int)-1)) ?_ ?_))
    ·first | omega | (simp; omega)
    ·intro v' w5 f5 b5 _;have hB5:Bs w g W2 w5:=⟨HB3.out.size,HB3.out.gr,b5⟩;have hc5:Cur w5 g:=HB3.out.cur hB5 hgl HC4.out;have HB5:=zJh hB5;clear hB5 HC4;go_wp2_with fail
     go_ret
     exact ⟨_,rfl,_,by rw [<-HB5.out.new]; exact f5,by simp; omega,hc5,HB5.out.all⟩
theorem zEt {c:List (List Int)} {l:List Int} (h:lonB c l=true):(lonV c l).length≤24:=by
 unfold lonV;split
 ·simp
 ·rename_i h0
  have:finB (subL c l)=true:=by unfold lonB at h; rw [decide_eq_false h0,Bool.false_or] at h; exact h
  rw [List.length_map];exact (zCS this).long.2
theorem zJH {w:World} {v:Value} {n:Nat} (h:RBy Any w v n) (hn:n≤1048576) :
  Calls Try.prog 44 #[v] w fun e w'=>∃r1 r2,e=.returned (.tuple #[r1,r2])∧∃M l,WfD w w' r1 r2 M l:=by
 obtain ⟨a,cap,rfl⟩:∃a cap,v=.slice a n cap:=by obtain ⟨a,cap,e,_⟩:=h; exact ⟨a,cap,e⟩
 go_enter Try.func44,Try.ntmps44
 go_wp2_with fail
 refine (zDw h hn).mono ?_;rintro e w1 ⟨rfl,hc1,b1,hlt⟩;obtain ⟨g,hg⟩:∃g,g=w.heap.size:=⟨_,rfl⟩;rw [<-hg] at hc1 ⊢;have HG:=zJh hg;have hgw1:g<w1.heap.size:=by rw [hg]; exact hlt
 clear hg hlt h;go_wp2_with fail
 refine (zDp hc1).mono ?_;rintro e w2 ⟨r,rfl,M,f2,h1,h5,h4,hc2,hg2⟩;obtain ⟨a2,c2,rfl⟩:=f2.form;have htot:total M≤100:=by have:=zBF h5 h4; omega
 have HM5:=zJh h5;clear h4;generalize hm:M.length=m at *;have HM:=zJh hm;clear hm;go_wp2_with fail
 refine (zJT hc2 (n:=m) (by omega)).mono ?_;rintro e w3 ⟨r3,rfl,J,f3,hJ,hc3,hg3⟩;have m3:=f2.turn hg3 (fun b hb=>by have:=hb.1; omega);have hg03:=Off.tr hg2 hg3;have HS3:=zJh (And.intro hg2.size hg3.size);clear f2;go_wp2_with fail
 refine (zCq m3 f3.reads (by rw [HM.out]; omega) (by omega) (by omega)).mono ?_;rintro e w4 ⟨r4,bq,rfl,_,f4,b4⟩;have hc4:=hc3.below b4;have m4:=m3.below b4;have hg04:=Off.tr hg03 (Off.grown b4 (mb:=g));obtain ⟨al,cl,rfl⟩:=f4.form;have HLV:Hid ((bq && lonB M J)=true→(lonV M J).length≤24):=zJh (fun h=>zEt (by rw [Bool.and_eq_true] at h; exact h.2));have HFIN:Hid (∀(w7:World) (v7:Value) (l7:List Int),w4.grownBy w7 (some g)→RI Any w7 v7 l7→l7.length≤15→WfD w w7 (.slice a2 m c2) v7 M l7):=zJh (fun w7 v7 l7 hg7 f7 h7 =>
  ⟨RII.any (m4.turn hg7 (fun b hb=>by have:=hb.1; omega)),f7,by rw [HM.out]; exact HM5.out,htot,h7,b1.grown (Off.tr hg04 hg7) b1.size (fun k hk=>by cases hk; rw [HG.out]; exact zJm _)⟩)
 have hgl3:=hc3.lt;clear m3 f3 hc1 hc2 hc3 hg2 hg3 hg03 b1;cases hok:(bq && lonB M J)
 ·clear f4 HLV hok;generalize (if (bq && lonB M J)=true then lonV M J else []).length=ln at *;go_wp2_with fail
  refine (zBt hc4 (n:=m) (m:=6) (by omega) (by omega)).mono ?_;rintro e w5 ⟨r5,rfl,q,f5,hq,hc5,hg5⟩;have HE:=zJh (HFIN.out w5 r5 q hg5 f5.any (by omega));clear f5 hc5 hg5 HFIN m4 hc4;go_wp2_with fail
  go_ret2
  exact ⟨_,_,rfl,M,q,HE.out⟩
 ·rw [hok,if_pos rfl] at f4;rw [if_pos rfl];have hlv:=HLV.out hok;clear HLV hok;generalize lonV M J=V at *;by_cases h15:V.length≤15
  ·have i1:(V.length:Int)≤15:=by omega
   generalize hvl:V.length=vl at *;have HVL:=zJh hvl;clear hvl;go_wp2_with fail
   refine (zBL hc4 (n:=2) (by omega) (by omega)).mono ?_;rintro e w5 ⟨bb,rfl,hc5,hg5⟩;have f5:=(f4.turn hg5 hgl3).any;clear f4;cases bb
   ·go_wp2_with fail
    refine (zBt hc5 (n:=m) (m:=6) (by omega) (by omega)).mono ?_;rintro e w6 ⟨r6,rfl,q,f6,hq,hc6,hg6⟩;have HE:=zJh (HFIN.out w6 r6 q (Off.tr hg5 hg6) f6.any (by omega));clear f6 f5 hc5 hg5 hc6 hg6 HFIN m4 hc4;go_wp2_with fail
    go_ret2
    exact ⟨_,_,rfl,M,q,HE.out⟩
   ·have HE:=zJh (HFIN.out w5 _ V hg5 f5 (by have:=HVL.out; omega));clear f5 hc5 hg5 HFIN m4 hc4;go_wp2_with fail
    go_ret2
    exact ⟨_,_,rfl,M,V,HE.out⟩
  ·have i1:¬(V.length:Int)≤15:=by omega
   generalize V.length=vl at *;clear f4;go_wp2_with fail
   refine (zBt hc4 (n:=m) (m:=6) (by omega) (by omega)).mono ?_;rintro e w5 ⟨r5,rfl,q,f5,hq,hc5,hg5⟩;have HE:=zJh (HFIN.out w5 r5 q hg5 f5.any (by omega));clear f5 hc5 hg5 HFIN m4 hc4;go_wp2_with fail
   go_ret2
   exact ⟨_,_,rfl,M,q,HE.out⟩
theorem zD8 {w:World} {v:Value} {n:Nat} (h:RBy Any w v n) (hn:n≤1048576) :
  Calls Try.prog 14 #[v] w fun e w'=>∃r1 r2,e=.returned (.tuple #[r1,r2])∧∃M l,WfD w w' r1 r2 M l:=by
 obtain ⟨a,cap,rfl⟩:∃a cap,v=.slice a n cap:=by obtain ⟨a,cap,e,_⟩:=h; exact ⟨a,cap,e⟩
 go_enter Try.func14,Try.ntmps14
 go_wp2_with fail
 refine (zJH h hn).mono ?_;rintro e w2 ⟨r1,r2,rfl,M,l,hD⟩;have HD:=zJh hD;clear hD;go_wp2_with fail
 go_ret2
 exact ⟨_,_,rfl,M,l,HD.out⟩
theorem zGp {w:World} {v:Value} {n m cap i k:Nat} {a:Option Addr} (h:RBy Any w v n) (hn:n≤1048576) (hm:1≤m∧m≤16) (hi:i≤100) (hk:k≤100) :
  Calls Try.prog 10 #[v,.int .i64 i,.slice a m cap,.int .i64 k] w fun e w'=>∃r,e=.returned r∧∃l:List Int,FI (New w w') w' r l∧l.length≤k∧(∀y∈l,0≤y∧y<(m:Int))∧Below w.heap.size w w':=by
 obtain ⟨av,cv,rfl⟩:∃a cap,v=.slice a n cap:=by obtain ⟨a,cap,e,_⟩:=h; exact ⟨a,cap,e⟩
 have i0:((m:Int) == 0)=false:=by simp; omega
 have i1:((k:Int)+1 == 0)=false:=by simp; omega
 go_enter Try.func10,Try.ntmps10
 go_wp2_with fail
 obtain ⟨w1,hw1⟩:∃w1,w1=w.alloc (.cells #[] 3):=⟨_,rfl⟩;obtain ⟨f1,b1⟩:=zAE (Below.refl _ w) hw1;rw [<-hw1];clear hw1;go_loopw [9,10] (fun zz jj wr=>∃(j:Nat) (z:Value) (acc:List Int),z=zz∧j≤k∧jj=.int .i64 j∧FI (New w wr) wr z acc∧Hid (acc.length≤j∧∀y∈acc,0≤y∧y<(m:Int))∧Below w.heap.size w wr) (fun _ jj _=>k+1-(intOf jj).toNat)
 case atStart=>exact ⟨0,_,[],rfl,Nat.zero_le _,rfl,f1,zJh ⟨by simp,fun y hy=>by simp at hy⟩,b1⟩
 case round =>
  clear f1 b1;obtain ⟨j,z,acc,rfl,hj,rfl,hf,HA,hb⟩:=hrel;have h2:=h.below hb;go_wp2_with fail
  refine (atDr (i:=i) h2 hn (by omega)).mono ?_;rintro e w2 ⟨x,hx,rfl,rfl⟩;obtain ⟨y,hy⟩:∃y:Nat,y=x % (k+1):=⟨_,rfl⟩;have hyk:y≤k:=by have:=Nat.mod_lt x (show 0<k+1 by omega); omega
  have e1:(x:Int) % ((k:Int)+1)=(y:Int):=by rw [hy]; exact (Int.natCast_emod x (k+1)).symm
  clear hy hx;by_cases hjy:j<y
  ·have i2:(j:Int)<(y:Int):=by omega
   obtain ⟨t,ht,e2⟩:∃t:Nat,t≤300∧(i:Int)+1+(j:Int)=(t:Int):=⟨i+1+j,by omega,by omega⟩;go_wp2_with fail
   refine (atDr (i:=t) h2 hn (by omega)).mono ?_;rintro e w3 ⟨x2,hx2,rfl,rfl⟩;obtain ⟨q,hq⟩:∃q:Nat,q=x2 % m:=⟨_,rfl⟩;have hqm:q<m:=by rw [hq]; exact Nat.mod_lt _ (by omega)
   have e3:(x2:Int) % (m:Int)=(q:Int):=by rw [hq]; exact (Int.natCast_emod x2 m).symm
   clear hq hx2;have bb:=(Below.refl wr.heap.size wr).alloc (zJm _) (.cells #[.int .i64 (q:Int)] 3);go_wp2_with (at_builtin; go_must (refine zAG (W:=w) rfl _ _ rfl rfl (hf.grow bb) (zAA.step hb bb) rfl (RI.one wr (q:Int)) ?_ ?_))
   ·have:=HA.out.1; simp; omega
   ·intro v' w4 f4 b4 _;go_wp2_with fail
    go_roundw
    case rel=>exact ⟨j+1,_,acc++[(q:Int)],rfl,by omega,by go_num,f4,zJh ⟨by have:=HA.out.1; simp; omega,fun p hp=>by
      rcases List.mem_append.1 hp with hp | hp
      ·exact HA.out.2 p hp
      ·rw [List.mem_singleton] at hp; omega⟩,b4⟩
    case measure=>simp [intOf]; omega
  ·have i2:¬(j:Int)<(y:Int):=by omega
   go_wp2_with fail
   go_ret
   exact ⟨_,rfl,acc,hf,by have:=HA.out.1; omega,HA.out.2,hb⟩
end Go.Proofs.Ytlchafedbnihoaa
