/- Whether a matrix is a Cartan matrix. Condition: sizes up to 2^24. -/
import Derived.Test.YtlgcdacpjcnjgaaGreatDoorJGOp
import Derived.StillTailTactics
import Derived.Deep.RegionHeld3
namespace Go.Proofs.YtlgcdacpjcnjgaaGreatDoor
open Go.RowKit
set_option maxRecDepth 20000
set_option maxHeartbeats 8000000
def okE (i j:Nat) (x y:Int):Bool:=if i=j then decide (x=2) else decide (-3≤x) && decide (x≤0) && (decide (x=0) == decide (y=0))
def ent (c:List (List Int)) (i j:Nat):Int:=(c[i]?.getD [])[j]?.getD 0
def isC (c:List (List Int)):Bool:=decide (1≤c.length) && decide (c.length≤4) && c.all (fun r=>r.length == c.length) &&
 (List.range c.length).all fun i=>(List.range c.length).all fun j=>okE i j (ent c i j) (ent c j i)
structure CartanP (c:List (List Int)):Prop where
 pos:1≤c.length
 le:c.length≤4
 row:∀r∈c,r.length=c.length
 ok:∀i j,i<c.length→j<c.length→okE i j (ent c i j) (ent c j i)=true
theorem zAS {c:List (List Int)}:isC c=true↔CartanP c:=by
 unfold isC;simp only [Bool.and_eq_true,decide_eq_true_eq,List.all_eq_true,List.mem_range,beq_iff_eq];constructor
 ·rintro ⟨⟨⟨h1,h2⟩,h3⟩,h4⟩;exact ⟨h1,h2,h3,fun i j hi hj=>h4 i hi j hj⟩
 ·rintro ⟨h1,h2,h3,h4⟩;exact ⟨⟨⟨h1,h2⟩,h3⟩,fun i hi j hj=>h4 i j hi hj⟩
theorem zMa {c:List (List Int)} (h:¬CartanP c):isC c=false:=by
 cases e:isC c
 ·rfl
 ·exact absurd (zAS.1 e) h
theorem zB0 {c:List (List Int)} {i j:Nat} {l:List Int} {x:Int} (h:c[i]? = some l) (h':l[j]? = some x):ent c i j=x:=by simp [ent,h,h']
def inR (x a b:Int):Bool:=decide (a≤x) && decide (x≤b)
theorem zCp (x a b:Int) (w:World) :
  Calls Tryz.prog 138 #[.int .i64 x,.int .i64 a,.int .i64 b] w fun e w'=>e=.returned (.bool (inR x a b))∧w=w':=by
 by_cases h1:a≤x
 ·by_cases h2:x≤b
  ·go_enter Tryz.func138,Tryz.ntmps138
   go_wp2_with fail
   go_ret
   exact ⟨zAG (by simp [inR,h1,h2]),rfl⟩
  ·go_enter Tryz.func138,Tryz.ntmps138
   go_wp2_with fail
   go_ret
   exact ⟨zAG (by simp [inR,h1]; omega),rfl⟩
 ·go_enter Tryz.func138,Tryz.ntmps138
  go_wp2_with fail
  go_ret
  exact ⟨zAG (by simp [inR]; omega),rfl⟩
theorem zM0 {c:List (List Int)} {k:Nat} {l:List Int} (h:c[k]? = some l) (hl:l.length≠c.length):¬CartanP c:=fun hc=>hl (hc.row l (zTF h))
theorem zMz {c:List (List Int)} {i j:Nat} {l l':List Int} {x y:Int} (h:c[i]? = some l) (h':l[j]? = some x) (h2:c[j]? = some l') (h2':l'[i]? = some y) (hn:okE i j x y=false):¬CartanP c:=by
 intro hc;have hi:i<c.length:=by
  rcases Nat.lt_or_ge i c.length with h' | h'
  ·exact h'
  ·rw [List.getElem?_eq_none h'] at h; cases h
 have hj:j<c.length:=by
  rcases Nat.lt_or_ge j c.length with h' | h'
  ·exact h'
  ·rw [List.getElem?_eq_none h'] at h2; cases h2
 have:=hc.ok i j hi hj;rw [zB0 h h',zB0 h2 h2',hn] at this;cases this
theorem zBk {S:Nat→Prop} {v:Value} {c:List (List Int)} {w:World} (h:RII S w v c) (hl:total c≤16777216) :
  Calls Tryz.prog 101 #[v] w fun e w'=>e=.returned (.bool (isC c))∧∃m,w'=w.drewN m:=by
 obtain ⟨a,cap,rfl⟩:=h.form;have hn0:c.length≤16777216:=by unfold total at hl; omega
 have NO:Hid (¬CartanP c→isC c=false):=zTD zMa;have YES:Hid (CartanP c→isC c=true):=zTD zAS.2;generalize isC c=res at *;generalize hn:c.length=n at *;have H:=zTD hn;clear hn;by_cases hn1:n<1
 ·go_enter Tryz.func101,Tryz.ntmps101
  go_wp2_with fail
  go_ret
  exact ⟨zAG (NO.out (fun hc=>by have:=hc.pos; have:=H.out; omega)).symm,dr0⟩
 by_cases hn4:4<n
 ·go_enter Tryz.func101,Tryz.ntmps101
  go_wp2_with fail
  go_ret
  exact ⟨zAG (NO.out (fun hc=>by have:=hc.le; have:=H.out; omega)).symm,dr0⟩
 go_enter Tryz.func101,Tryz.ntmps101
 go_wp2_with fail
 go_loop [19] (fun i=>∃k:Nat,k≤n∧i=.int .i64 k∧Hid (∀(j:Nat) (l:List Int),j<k→c[j]? = some l→l.length=n)) (fun i=>n-(intOf i).toNat)
 case atStart=>exact ⟨0,Nat.zero_le _,rfl,zTD (fun j l hj=>by omega)⟩
 case round =>
  obtain ⟨k,hk,rfl,HR⟩:=hrel;by_cases hlt:k<n
  ·obtain ⟨b,o,r,l,rfl,hc,hr,hx⟩:=h.at hlt;obtain ⟨a1,c1,rfl⟩:=hr.form;by_cases hll:l.length=n
   ·have hne:((l.length:Int) != (n:Int))=false:=by simp; omega
    have HL:=zTD hll;clear hll;go_wp2_with fail
    go_round
    case rel =>
     refine ⟨k+1,by omega,by go_num,zTD (fun j l' hj hl'=>?_)⟩;rcases Nat.lt_or_ge j k with hj' | hj'
     ·exact HR.out j l' hj' hl'
     ·have:j=k:=by omega
      subst this;rw [hx.out] at hl';cases hl';exact HL.out
    case measure=>simp [intOf]; omega
   ·have hne:((l.length:Int) != (n:Int))=true:=by simp; omega
    have HNO:=zTD (NO.out (zM0 hx.out (by rw [H.out]; exact hll)));clear hll;go_wp2_with fail
    go_ret
    exact ⟨zAG HNO.out.symm,dr0⟩
  ·have hkn:k=n:=by omega
   subst hkn;have rows:Hid (∀(j:Nat) (l:List Int),c[j]? = some l→l.length=k):=by
    refine zTD (fun j l hj=>HR.out j l ?_ hj);have:=H.out;rcases Nat.lt_or_ge j c.length with h' | h'
    ·omega
    ·rw [List.getElem?_eq_none h'] at hj; cases hj
   clear HR hlt;go_wp2_with fail
   go_loopw [29] (fun i wr=>∃k1:Nat,k1≤k∧i=.int .i64 k1∧(∃m,wr=w.drewN m)∧Hid (∀i j,i<k1→j<k→okE i j (ent c i j) (ent c j i)=true)) (fun i _=>k-(intOf i).toNat)
   case atStart=>exact ⟨0,Nat.zero_le _,rfl,dr0,zTD (fun i j hi=>by omega)⟩
   case round =>
    obtain ⟨k1,hk1,rfl,⟨m,hw⟩,HA⟩:=hrel;subst hw;by_cases hlt:k1<k
    ·obtain ⟨b,o,r,l,rfl,hc,hr,hx⟩:=h.at hlt;obtain ⟨a1,c1,rfl⟩:=hr.form;have hll:=rows.out k1 l hx.out;rw [hll] at hc hr;have HL:=zTD hll;clear hll;go_wp2_with fail
     obtain ⟨wo,hwo⟩:∃wo:World,wo=w.drewN m:=⟨_,rfl⟩;go_loopw [33] (fun i wr=>∃k2:Nat,k2≤k∧i=.int .i64 k2∧(∃m,wr=w.drewN m)∧Hid (∀j,j<k2→okE k1 j (ent c k1 j) (ent c j k1)=true)) (fun i _=>k-(intOf i).toNat)
     case atStart=>exact ⟨0,Nat.zero_le _,rfl,dr1,zTD (fun j hj=>by omega)⟩
     case round =>
      obtain ⟨k2,hk2,rfl,⟨m2,hw2⟩,HB⟩:=hrel;subst hw2;clear hwo;by_cases hlt2:k2<k
      ·obtain ⟨b2,o2,r2,l2,e2,hc2,hr2,hx2⟩:=h.at hlt2;simp only [Option.some.injEq,Addr.mk.injEq,and_true] at e2;obtain ⟨rfl,rfl⟩:=e2;obtain ⟨a2,c2,rfl⟩:=hr2.form;have hll2:=rows.out k2 l2 hx2.out;rw [hll2] at hc2 hr2;clear hll2;obtain ⟨b3,o3,x,rfl,hcx,hxx⟩:=hr.at hlt2;obtain ⟨b4,o4,y,rfl,hcy,hyy⟩:=hr2.at hlt;have step:Hid (okE k1 k2 x y=true→∀j,j<k2+1→okE k1 j (ent c k1 j) (ent c j k1)=true):=by
        refine zTD (fun ho j hj=>?_);rcases Nat.lt_or_ge j k2 with hj' | hj'
        ·exact HB.out j hj'
        ·have:j=k2:=by omega
         subst this;rw [zB0 hx.out hxx.out,zB0 hx2.out hyy.out];exact ho
       have bad:Hid (okE k1 k2 x y=false→res=false):=zTD (fun hf=>NO.out (zMz hx.out hxx.out hx2.out hyy.out hf));have i1:(k1:Int)<(k:Int):=by omega
       have i2:(k2:Int)<(k:Int):=by omega
       clear HB h hr hr2;by_cases hij:k1=k2
       ·have e1:((k1:Int) == (k2:Int))=true:=by simp; omega
        have e2:((k1:Int) != (k2:Int))=false:=by simp; omega
        by_cases h2:x=2
        ·have f1:(x != 2)=false:=by simp [h2]
         have ST:=zTD (step.out (by subst hij; simp [okE,h2]));clear h2 hij;go_wp2_with fail
         go_roundw
         case rel=>exact ⟨k2+1,by omega,by go_num,(by first | exact dr1 | exact dr2 | exact dr3),ST⟩
         case measure=>simp [intOf]; omega
        ·have f1:(x != 2)=true:=by simp [h2]
         have BD:=zTD (bad.out (by subst hij; simp [okE,h2]));clear h2 hij;go_wp2_with fail
         go_ret
         exact ⟨zAG BD.out.symm,(by first | exact dr1 | exact dr2 | exact dr3)⟩
       ·have e1:((k1:Int) == (k2:Int))=false:=by simp; omega
        have e2:((k1:Int) != (k2:Int))=true:=by simp; omega
        by_cases h3:x < -3
        ·have BD:=zTD (bad.out (by simp [okE,hij]; omega));clear hij;go_wp2_with fail
         go_ret
         exact ⟨zAG BD.out.symm,(by first | exact dr1 | exact dr2 | exact dr3)⟩
        by_cases h4:0<x
        ·have BD:=zTD (bad.out (by simp [okE,hij]; omega));clear hij;go_wp2_with fail
         go_ret
         exact ⟨zAG BD.out.symm,(by first | exact dr1 | exact dr2 | exact dr3)⟩
        by_cases hx0:x=0
        ·have f1:(x == 0)=true:=by simp [hx0]
         by_cases hy0:y=0
         ·have f2:(y == 0)=true:=by simp [hy0]
          have ST:=zTD (step.out (by simp [okE,hij,hx0,hy0]));clear hij hx0 hy0;go_wp2_with fail
          go_roundw
          case rel=>exact ⟨k2+1,by omega,by go_num,(by first | exact dr1 | exact dr2 | exact dr3),ST⟩
          case measure=>simp [intOf]; omega
         ·have f2:(y == 0)=false:=by simp [hy0]
          have BD:=zTD (bad.out (by simp [okE,hij,hx0,hy0]));clear hij hx0 hy0;go_wp2_with fail
          go_ret
          exact ⟨zAG BD.out.symm,(by first | exact dr1 | exact dr2 | exact dr3)⟩
        ·have f1:(x == 0)=false:=by simp [hx0]
         by_cases hy0:y=0
         ·have f2:(y == 0)=true:=by simp [hy0]
          have BD:=zTD (bad.out (by simp [okE,hij,hx0,hy0]));clear hij hx0 hy0;go_wp2_with fail
          go_ret
          exact ⟨zAG BD.out.symm,(by first | exact dr1 | exact dr2 | exact dr3)⟩
         ·have f2:(y == 0)=false:=by simp [hy0]
          have ST:=zTD (step.out (by simp [okE,hij,hx0,hy0]; omega));clear hij hx0 hy0;go_wp2_with fail
          go_roundw
          case rel=>exact ⟨k2+1,by omega,by go_num,(by first | exact dr1 | exact dr2 | exact dr3),ST⟩
          case measure=>simp [intOf]; omega
      ·have hk2k:k2=k:=by omega
       subst hk2k;go_wp2_with fail
       go_roundw
       case rel =>
        refine ⟨k1+1,by omega,by go_num,(by first | exact dr1 | exact dr2 | exact dr3),zTD (fun i j hi hj=>?_)⟩;rcases Nat.lt_or_ge i k1 with hi' | hi'
        ·exact HA.out i j hi' hj
        ·have:i=k1:=by omega
         subst this;exact HB.out j hj
       case measure=>simp [intOf]; omega
    ·have hkk:k1=k:=by omega
     subst hkk;go_wp2_with fail
     go_ret
     refine ⟨zAG (YES.out ⟨by rw [H.out]; omega,by rw [H.out]; omega,fun r hr=>?_,fun i j hi hj=>?_⟩).symm,m,rfl⟩
     ·obtain ⟨j,hj⟩:=List.getElem?_of_mem hr;rw [H.out];exact rows.out j r hj
     ·rw [H.out] at hi hj;exact HA.out i j hi hj
theorem zAr {S:Nat→Prop} {v:Value} {c:List (List Int)} {w:World} (h:RII S w v c) (hl:total c≤16777216) :
  Calls Tryz.prog 83 #[v] w fun e w'=>e=.returned (.bool (isC c))∧∃m,w'=w.drewN m:=by
 obtain ⟨a,cap,rfl⟩:=h.form;have hn0:c.length≤16777216:=by unfold total at hl; omega
 have NO:Hid (¬CartanP c→isC c=false):=zTD zMa;have YES:Hid (CartanP c→isC c=true):=zTD zAS.2;generalize isC c=res at *;generalize hn:c.length=n at *;have H:=zTD hn;clear hn;go_enter Tryz.func83,Tryz.ntmps83
 go_wp2_with fail
 go_loop [3] (fun i=>∃k:Nat,k≤n∧i=.int .i64 k∧Hid (∀(j:Nat) (l:List Int),j<k→c[j]? = some l→l.length=n)) (fun i=>n-(intOf i).toNat)
 case atStart=>exact ⟨0,Nat.zero_le _,rfl,zTD (fun j l hj=>by omega)⟩
 case round =>
  obtain ⟨k,hk,rfl,HR⟩:=hrel;by_cases hlt:k<n
  ·obtain ⟨b,o,r,l,rfl,hc,hr,hx⟩:=h.at hlt;obtain ⟨a1,c1,rfl⟩:=hr.form;by_cases hll:l.length=n
   ·have hne:((l.length:Int) != (n:Int))=false:=by simp; omega
    have HL:=zTD hll;clear hll;go_wp2_with fail
    go_round
    case rel =>
     refine ⟨k+1,by omega,by go_num,zTD (fun j l' hj hl'=>?_)⟩;rcases Nat.lt_or_ge j k with hj' | hj'
     ·exact HR.out j l' hj' hl'
     ·have:j=k:=by omega
      subst this;rw [hx.out] at hl';cases hl';exact HL.out
    case measure=>simp [intOf]; omega
   ·have hne:((l.length:Int) != (n:Int))=true:=by simp; omega
    have HNO:=zTD (NO.out (zM0 hx.out (by rw [H.out]; exact hll)));clear hll;go_wp2_with fail
    go_ret
    exact ⟨zAG HNO.out.symm,dr0⟩
  ·have hkn:k=n:=by omega
   subst hkn;have rows:Hid (∀(j:Nat) (l:List Int),c[j]? = some l→l.length=k):=by
    refine zTD (fun j l hj=>HR.out j l ?_ hj);have:=H.out;rcases Nat.lt_or_ge j c.length with h' | h'
    ·omega
    ·rw [List.getElem?_eq_none h'] at hj; cases hj
   clear HR hlt;go_wp2_with fail
   go_loopw [4] (fun i wr=>∃k1:Nat,k1≤k∧i=.int .i64 k1∧(∃m,wr=w.drewN m)∧Hid (∀i j,i<k1→j<k→okE i j (ent c i j) (ent c j i)=true)) (fun i _=>k-(intOf i).toNat)
   case atStart=>exact ⟨0,Nat.zero_le _,rfl,dr0,zTD (fun i j hi=>by omega)⟩
   case round =>
    obtain ⟨k1,hk1,rfl,⟨m,hw⟩,HA⟩:=hrel;subst hw;by_cases hlt:k1<k
    ·obtain ⟨b,o,r,l,rfl,hc,hr,hx⟩:=h.at hlt;obtain ⟨a1,c1,rfl⟩:=hr.form;have hll:=rows.out k1 l hx.out;rw [hll] at hc hr;have HL:=zTD hll;clear hll;go_wp2_with fail
     obtain ⟨wo,hwo⟩:∃wo:World,wo=w.drewN m:=⟨_,rfl⟩;go_loopw [5] (fun i wr=>∃k2:Nat,k2≤k∧i=.int .i64 k2∧(∃m,wr=w.drewN m)∧Hid (∀j,j<k2→okE k1 j (ent c k1 j) (ent c j k1)=true)) (fun i _=>k-(intOf i).toNat)
     case atStart=>exact ⟨0,Nat.zero_le _,rfl,dr1,zTD (fun j hj=>by omega)⟩
     case round =>
      obtain ⟨k2,hk2,rfl,⟨m2,hw2⟩,HB⟩:=hrel;clear hwo;by_cases hlt2:k2<k
      ·obtain ⟨b2,o2,r2,l2,e2,hc2,hr2,hx2⟩:=h.at hlt2;simp only [Option.some.injEq,Addr.mk.injEq,and_true] at e2;obtain ⟨rfl,rfl⟩:=e2;obtain ⟨a2,c2,rfl⟩:=hr2.form;have hll2:=rows.out k2 l2 hx2.out;rw [hll2] at hc2 hr2;clear hll2;obtain ⟨b3,o3,x,rfl,hcx,hxx⟩:=hr.at hlt2;obtain ⟨b4,o4,y,rfl,hcy,hyy⟩:=hr2.at hlt;have hc:wr.cell? ⟨b,o+k1,none⟩=some (.slice (some ⟨b3,o3,none⟩) k c1):=by rw [hw2]; exact hc
       have hc2:wr.cell? ⟨b,o+k2,none⟩=some (.slice (some ⟨b4,o4,none⟩) k c2):=by rw [hw2]; exact hc2
       have hcx:wr.cell? ⟨b3,o3+k2,none⟩=some (.int .i64 x):=by rw [hw2]; exact hcx
       have hcy:wr.cell? ⟨b4,o4+k1,none⟩=some (.int .i64 y):=by rw [hw2]; exact hcy
       have HW2:=zTD hw2;clear hw2;have step:Hid (okE k1 k2 x y=true→∀j,j<k2+1→okE k1 j (ent c k1 j) (ent c j k1)=true):=by
        refine zTD (fun ho j hj=>?_);rcases Nat.lt_or_ge j k2 with hj' | hj'
        ·exact HB.out j hj'
        ·have:j=k2:=by omega
         subst this;rw [zB0 hx.out hxx.out,zB0 hx2.out hyy.out];exact ho
       have bad:Hid (okE k1 k2 x y=false→res=false):=zTD (fun hf=>NO.out (zMz hx.out hxx.out hx2.out hyy.out hf));have i1:(k1:Int)<(k:Int):=by omega
       have i2:(k2:Int)<(k:Int):=by omega
       have HQ0:∀n,Calls Tryz.prog 138 #[.int .i64 x,.int .i64 (-3),.int .i64 0] (wr.drewN n) fun e w'=>e=.returned (.bool (inR x (-3) 0))∧∃m,w'=(wr.drewN n).drewN m:=fun n=>(zCp x (-3) 0 (wr.drewN n)).mono fun _ _ ⟨h1,h2⟩=>⟨h1,0,by rw [<-h2]; rfl⟩;clear HB h hr hr2;by_cases hij:k1=k2
       ·have e1:((k1:Int) == (k2:Int))=true:=by simp; omega
        have e2:((k1:Int) != (k2:Int))=false:=by simp; omega
        clear HQ0;by_cases h2:x=2
        ·have f1:(x != 2)=false:=by simp [h2]
         have ST:=zTD (step.out (by subst hij; simp [okE,h2]));clear h2 hij;go_wp2_with fail
         go_quiet (fail)
         go_wp2_with fail
         go_roundw
         case rel=>exact ⟨k2+1,by omega,by go_num,⟨m2+nq,by rw [HW2.out]; simp⟩,ST⟩
         case measure=>simp [intOf]; omega
        ·have f1:(x != 2)=true:=by simp [h2]
         have BD:=zTD (bad.out (by subst hij; simp [okE,h2]));clear h2 hij;go_wp2_with fail
         go_quiet (fail)
         go_wp2_with fail
         go_ret
         exact ⟨zAG BD.out.symm,m2+nq,by rw [HW2.out]; simp⟩
       ·have e1:((k1:Int) == (k2:Int))=false:=by simp; omega
        have e2:((k1:Int) != (k2:Int))=true:=by simp; omega
        by_cases h3:-3≤x∧x≤0
        ·have e3:inR x (-3) 0=true:=by simp [inR,h3]
         rw [e3] at HQ0;have HQ:=zTD HQ0;clear HQ0 e3;by_cases hx0:x=0
         ·have f1:(x == 0)=true:=by simp [hx0]
          by_cases hy0:y=0
          ·have f2:(y == 0)=true:=by simp [hy0]
           have ST:=zTD (step.out (by simp [okE,hij,hx0,hy0]));clear hij hx0 hy0 h3;go_wp2_with fail
           go_quiet ((go_at_call 138; exact Calls.quiet_of (HQ.out _)))
           go_wp2_with fail
           go_roundw
           case rel=>exact ⟨k2+1,by omega,by go_num,⟨m2+nq,by rw [HW2.out]; simp⟩,ST⟩
           case measure=>simp [intOf]; omega
          ·have f2:(y == 0)=false:=by simp [hy0]
           have BD:=zTD (bad.out (by simp [okE,hij,hx0,hy0]));clear hij hx0 hy0 h3;go_wp2_with fail
           go_quiet ((go_at_call 138; exact Calls.quiet_of (HQ.out _)))
           go_wp2_with fail
           go_ret
           exact ⟨zAG BD.out.symm,m2+nq,by rw [HW2.out]; simp⟩
         ·have f1:(x == 0)=false:=by simp [hx0]
          by_cases hy0:y=0
          ·have f2:(y == 0)=true:=by simp [hy0]
           have BD:=zTD (bad.out (by simp [okE,hij,hx0,hy0]));clear hij hx0 hy0 h3;go_wp2_with fail
           go_quiet ((go_at_call 138; exact Calls.quiet_of (HQ.out _)))
           go_wp2_with fail
           go_ret
           exact ⟨zAG BD.out.symm,m2+nq,by rw [HW2.out]; simp⟩
          ·have f2:(y == 0)=false:=by simp [hy0]
           have ST:=zTD (step.out (by simp [okE,hij,hx0,hy0,h3]));clear hij hx0 hy0 h3;go_wp2_with fail
           go_quiet ((go_at_call 138; exact Calls.quiet_of (HQ.out _)))
           go_wp2_with fail
           go_roundw
           case rel=>exact ⟨k2+1,by omega,by go_num,⟨m2+nq,by rw [HW2.out]; simp⟩,ST⟩
           case measure=>simp [intOf]; omega
        ·have e3:inR x (-3) 0=false:=by unfold inR; rw [Bool.and_eq_false_iff]; simp; omega
         rw [e3] at HQ0;have HQ:=zTD HQ0;have BD:=zTD (bad.out (by simp [okE,hij]; omega));clear HQ0 e3 hij h3;go_wp2_with fail
         go_quiet ((go_at_call 138; exact Calls.quiet_of (HQ.out _)))
         go_wp2_with fail
         go_ret
         exact ⟨zAG BD.out.symm,m2+nq,by rw [HW2.out]; simp⟩
      ·have hk2k:k2=k:=by omega
       subst hk2k;subst hw2;go_wp2_with fail
       go_roundw
       case rel =>
        refine ⟨k1+1,by omega,by go_num,(by first | exact dr1 | exact dr2 | exact dr3),zTD (fun i j hi hj=>?_)⟩;rcases Nat.lt_or_ge i k1 with hi' | hi'
        ·exact HA.out i j hi' hj
        ·have:i=k1:=by omega
         subst this;exact HB.out j hj
       case measure=>simp [intOf]; omega
    ·have hkk:k1=k:=by omega
     subst hkk;have fin:Hid (inR k1 1 4=res):=by
      refine zTD ?_;by_cases hin:1≤k1∧k1≤4
      ·rw [YES.out ⟨by rw [H.out]; omega,by rw [H.out]; omega,fun r hr=>by
        obtain ⟨j,hj⟩:=List.getElem?_of_mem hr;rw [H.out];exact rows.out j r hj,fun i j hi hj=>by
        rw [H.out] at hi hj;exact HA.out i j hi hj⟩]
       simp [inR]; omega
      ·rw [NO.out (fun hc=>hin (by have h1:=hc.pos; have h2:=hc.le; have:=H.out; omega))];unfold inR;rw [Bool.and_eq_false_iff];simp;omega
     go_wp2_with fail
     refine (zCp k1 1 4 _).mono ?_;rw [fin.out];rintro e w' ⟨rfl,rfl⟩;go_wp2_with fail
     go_ret
     exact ⟨rfl,(by first | exact dr1 | exact dr2 | exact dr3)⟩
def allB (p:Int→Bool):List Int→Bool
 | []=>true
 | x::xs=>if p x then allB p xs else false
theorem zCh {p:Int→Bool}:∀{l:List Int},allB p l=true↔∀x∈l,p x=true
 | []=>by simp [allB]
 | x::xs=>by
  unfold allB;cases h:p x
  ·simp [h]
  ·simp [h,zCh (l:=xs)]
def ptB (c:List (List Int)) (x:Int):Bool:=inR x 0 ((c.length:Int)-1)
def isWd (c:List (List Int)) (w:List Int):Bool:=isC c && decide (w.length≤15) && allB (ptB c) w
theorem zDK {x a b:Int} (h:a≤x∧x≤b):inR x a b=true:=by unfold inR; simp; omega
theorem zMW {x a b:Int} (h:¬(a≤x∧x≤b)):inR x a b=false:=by unfold inR; rw [Bool.and_eq_false_iff]; simp; omega
theorem zJq {S:Nat→Prop} {u:Value} {c:List (List Int)} {w:World} (x:Int) (h:RII S w u c) :
  Calls Tryz.prog 186 #[u,.int .i64 x] w fun e w'=>e=.returned (.bool (ptB c x))∧w=w':=by
 obtain ⟨a,cap,rfl⟩:=h.form;unfold ptB;by_cases h1:0≤x
 ·by_cases h2:x<c.length
  ·go_enter Tryz.func186,Tryz.ntmps186
   go_wp2_with fail
   go_ret
   exact ⟨zAG (zDK (by omega)).symm,rfl⟩
  ·go_enter Tryz.func186,Tryz.ntmps186
   go_wp2_with fail
   go_ret
   exact ⟨zAG (zMW (by omega)).symm,rfl⟩
 ·go_enter Tryz.func186,Tryz.ntmps186
  go_wp2_with fail
  go_ret
  exact ⟨zAG (zMW (by omega)).symm,rfl⟩
theorem zEI {S S':Nat→Prop} {u v:Value} {c:List (List Int)} {l:List Int} {w:World} (h:RII S w u c) (h':RI S' w v l) (hl:total c≤16777216) (hl':l.length≤16777216) :
  Calls Tryz.prog 81 #[u,v] w fun e w'=>e=.returned (.bool (isWd c l))∧∃m,w'=w.drewN m:=by
 obtain ⟨a,cap,rfl⟩:=h.form;obtain ⟨a',cap',rfl⟩:=h'.form;have hcl:c.length≤16777216:=by unfold total at hl; omega
 have R0:Hid (isWd c l=(isC c && decide (l.length≤15) && allB (ptB c) (l.drop 0))):=zTD rfl;generalize isWd c l=res at *;generalize hn:l.length=n at *;have H:=zTD hn;clear hn;go_enter Tryz.func81,Tryz.ntmps81
 go_wp2_with fail
 go_loop [5] (fun i=>∃k:Nat,k≤n∧i=.int .i64 k∧Hid (res=(isC c && decide (n≤15) && allB (ptB c) (l.drop k)))) (fun i=>n-(intOf i).toNat)
 case atStart=>exact ⟨0,Nat.zero_le _,rfl,R0⟩
 case round =>
  obtain ⟨k,hk,rfl,HR⟩:=hrel;by_cases hlt:k<n
  ·obtain ⟨b,o,x,rfl,hc,hx⟩:=h'.at hlt;have HR2:Hid (res=(isC c && decide (n≤15) && (if inR x 0 ((c.length:Int)-1) then allB (ptB c) (l.drop (k+1)) else false))):=by
    have:=HR.out;rw [zAK hx.out,allB] at this;exact zTD this
   go_wp2_with fail
   refine (zCp x 0 ((c.length:Int)-1) _).mono ?_;rintro e w' ⟨rfl,rfl⟩;cases hq:inR x 0 ((c.length:Int)-1)
   ·go_wp2_with fail
    go_ret
    exact ⟨zAG (by rw [HR2.out,hq]; simp),dr0⟩
   ·go_wp2_with fail
    go_round
    case rel=>exact ⟨k+1,by omega,by go_num,by have:=HR2.out; rw [hq] at this; exact zTD (by simpa using this)⟩
    case measure=>simp [intOf]; omega
  ·have hR:Hid (res=(isC c && decide (n≤15))):=by
    refine zTD ?_;rw [HR.out,List.drop_eq_nil_of_le (by have:=H.out; omega)];simp [allB]
   go_wp2_with fail
   refine (zAr h hl).mono ?_;rintro e w' ⟨rfl,hw⟩;cases hC:isC c
   ·go_wp2_with fail
    go_ret
    exact ⟨zAG (by rw [hR.out,hC]; rfl),hw⟩
   ·by_cases hlen:n≤15
    ·have hR2:Hid (true=res):=zTD (by rw [hR.out,hC]; simp [hlen]);go_wp2_with fail
     go_ret
     exact ⟨zAG (by rw [<-hR2.out]; simp; omega),hw⟩
    ·have hR2:Hid (false=res):=zTD (by rw [hR.out,hC]; simp [hlen]);go_wp2_with fail
     go_ret
     exact ⟨zAG (by rw [<-hR2.out]; simp; omega),hw⟩
theorem FI.grow {W w w':World} {v:Value} {l:List Int} (h:FI (New W w) w v l) (hb:Below w.heap.size w w'):FI (New W w') w' v l :=
 (h.below hb).mono fun b hb'=>⟨hb'.1,by have:=hb'.2; have:=hb.size; omega⟩
theorem FC.grow {W w w':World} {e:TypeId} {sz n:Nat} {v:Value} {items:List It} (h:FC (New W w) e sz w v n items) (hb:Below w.heap.size w w'):FC (New W w') e sz w' v n items :=
 (h.below hb).mono fun b hb'=>⟨hb'.1,by have:=hb'.2; have:=hb.size; omega⟩
theorem FI.empty (W:World) (w:World):FI (New W w) w (.slice none 0 0) []:=⟨World.ownsRow_nil _ _ _ _,fun b hb=>(by cases hb)⟩
section
variable {w:World} {ops:Array Oper} {rest:List Oper} {o:Oper} {a:Act} {Q:Exit→Act→World→Prop}
theorem zBw (base:Nat) (t ty e:TypeId) (i:TypeInfo) (size:Nat) (ht:Tryz.prog.underlying t=some (.slice e)) (hi:Tryz.prog.info? e=some i)
  (v:Value) (n c:Nat) (xs:List Value) (hown:w.ownsRow base e size v n xs) :
  (Builtin.append_ #[t,t] ty #[v,.slice none 0 c]).run Tryz.prog w=.ok v w:=by
 rcases hown.2 with ⟨rfl,rfl⟩ | ⟨g,cap,cur,rfl,_,_,hnc,_⟩
 ·simp [Builtin.append_,run_underlying ht,sizeOf,typeInfo,hi,Builtin.lenOf,Builtin.firstCells]
 ·simp [Builtin.append_,run_underlying ht,sizeOf,typeInfo,hi,Builtin.lenOf,Builtin.firstCells,hnc,storeCells]
theorem zAL {S:Nat→Prop} {W:World} (hgd:o.guard=none) (s x:Operand)
  (ho:o.op=.call { callee:=.builtin .append,args:=#[s,x],argTypes:=#[29,29] })
  {v:Value} {l l2:List Int} (hs:a.eval s=v) (hf:FI (New W w) w v l) (hb:Below W.heap.size W w)
  {sa:Option Addr} {m c:Nat} (hx:a.eval x=.slice sa m c) (hr:RI S w (.slice sa m c) l2) (hlen:l.length+l2.length≤67108864)
  (h:∀v' w',FI (New W w') w' v' (l++l2)→Below W.heap.size W w'→w.grownBy w' v.ownBlock→wpList Tryz.prog ops Q rest (a.put o.dst v') w'):wpList Tryz.prog ops Q (o::rest) a w:=by
 obtain ⟨i0,hi,hz0,hz1,hz2⟩:=info_parts zA8;obtain ⟨hown,hS⟩:=hf;obtain ⟨a',cap',hv,hcap,hcase⟩:=hr;simp only [Value.slice.injEq] at hv;obtain ⟨rfl,rfl,rfl⟩:=hv;have hown':w.ownsRow W.heap.size 3 1 v l.length (l.map (Value.int .i64)):=by
  refine ⟨hown.1,?_⟩;rcases hown.2 with h | ⟨g,cap,cur,hv,_,r⟩
  ·exact .inl h
  ·exact .inr ⟨g,cap,cur,hv,(hS g (by rw [hv]; rfl)).1,r⟩
 have fin:∀v' w',w'.ownsRow W.heap.size 3 1 v' (l.length+l2.length) (l.map (Value.int .i64)++l2.map (Value.int .i64))→w.grownBy w' v.ownBlock→wpList Tryz.prog ops Q rest (a.put o.dst v') w':=by
  intro v' w' h1 h2;have hb':Below W.heap.size W w':=hb.grown h2 hb.size (fun k hk=>(hS k hk).1);exact h v' w' (FI.of_row h1 (zTI _) (by simp) (by simp)) hb' h2
 cases sa with
 | none =>
  have h0:l2=[]:=by
   rcases hcase with h | ⟨b,o,ha,_⟩
   ·exact h
   ·cases ha
  subst h0;have hrun:=zBw (w:=w) W.heap.size 29 o.type 3 i0 1 Tryz.underlying29 hi v l.length c _ hown';have fin':=fin v w (by simpa using hown') (World.grownBy.refl _ _);clear fin h hb hS hown;refine wpList_plain hgd fun K hK=>?_;unfold Oper.wp;rw [show ([]:List Int).length=0 from rfl] at hx;simp [execOp,ho,resolve,invoke,builtin,hs,hx,hrun,Result.andThen];exact hK _ _ fin'
 | some ad =>
  refine wpList_append_own w hgd s x 29 ho W.heap.size 3 i0 (.int .i64 0) 1 8 Tryz.underlying29 hi hz0 hz1 hz2 rfl (by decide) v l.length (l.map (Value.int .i64)) hs hown' ad l2.length c (l2.map (Value.int .i64)) hx (by simp) ?_ ?_ ?_ ?_ hb.size (fun v' w' h1 h2 _=>fin v' w' h1 h2)
  ·intro j u hj;rcases hcase with h | ⟨b,o,ha,_,_,hc⟩
   ·subst h; simp at hj
   ·simp only [Option.some.injEq] at ha;subst ha;rw [List.getElem?_map] at hj;obtain ⟨x,hx1,hx2⟩:=Option.map_eq_some_iff.1 hj;obtain ⟨r,h1,h2⟩:=hc j x hx1;have hadd:(⟨b,o,none⟩:Addr).add j=⟨b,o+j,none⟩:=by unfold Addr.add; split <;> simp_all
    rw [hadd,h1,<-hx2];exact congrArg some h2
  ·intro u hu;obtain ⟨x,_,rfl⟩:=List.mem_map.1 hu;rfl
  ·unfold maxLen; omega
  ·omega
theorem RI.one (w:World) (x:Int):RI Any (w.alloc (.cells #[.int .i64 x] 3)) (.slice (some ⟨w.heap.size,0,none⟩) 1 1) [x] :=
 ⟨_,1,rfl,⟨zTI _,by unfold maxLen; omega⟩,.inr ⟨_,0,rfl,trivial,⟨_,(0,0),heap_alloc_new w _⟩,fun j y hj=>by
  match j,hj with
  | 0,hj=>simp at hj; subst hj; exact ⟨_,by go_simp,rfl⟩⟩⟩
theorem zRp {W:World} {K:Act→World→Prop} (s x:Operand)
  (ho:o.op=.call { callee:=.builtin .append,args:=#[s,x],argTypes:=#[29,29] })
  {v:Value} {l:List Int} {y:Int} (hs:a.eval s=v) (hf:FI (New W w) w v l) (hb:Below W.heap.size W w)
  {H:Nat} (hx:a.eval x=.slice (some ⟨H,0,none⟩) 1 1) (hc:w.cell? ⟨H,0,none⟩=some (.int .i64 y)) (hlen:l.length+1≤67108864)
  (h:∀v' w',FI (New W w') w' v' (l++[y])→Below W.heap.size W w'→w.grownBy w' v.ownBlock→K (a.put o.dst v') w'):o.wp Tryz.prog a w K Q:=by
 obtain ⟨i0,hi,hz0,hz1,hz2⟩:=info_parts zA8;obtain ⟨hown,hS⟩:=hf;have hown':w.ownsRow W.heap.size 3 1 v l.length (l.map (Value.int .i64)):=by
  refine ⟨hown.1,?_⟩;rcases hown.2 with h | ⟨g,cap,cur,hv,_,r⟩
  ·exact .inl h
  ·exact .inr ⟨g,cap,cur,hv,(hS g (by rw [hv]; rfl)).1,r⟩
 refine wp_append_own w s x 29 ho W.heap.size 3 i0 (.int .i64 0) 1 8 Tryz.underlying29 hi hz0 hz1 hz2 rfl (by decide) v l.length (l.map (Value.int .i64)) hs hown' ⟨H,0,none⟩ 1 1 [.int .i64 y] hx rfl ?_ ?_ ?_ ?_ hb.size ?_
 ·intro j u hj
  match j,hj with
  | 0,hj=>simp at hj; subst hj; simpa [Addr.add] using hc
 ·intro u hu; simp at hu; subst hu; rfl
 ·unfold maxLen; omega
 ·omega
 ·intro v' w' h1 h2 _;exact h v' w' (FI.of_row h1 (zTI _) (by simp) (by simp)) (hb.grown h2 hb.size (fun k hk=>(hS k hk).1)) h2
theorem zFC {W:World} {K:Act→World→Prop} {E:Prop} (hgd:o.guard=none) (s x:Operand)
  (ho:o.op=.call { callee:=.builtin .append,args:=#[s,x],argTypes:=#[29,29] })
  {v:Value} {l:List Int} {y:Int} (hs:a.eval s=v) (hf:FI (New W w) w v l) (hb:Below W.heap.size W w)
  {H:Nat} (hx:a.eval x=.slice (some ⟨H,0,none⟩) 1 1) (hc:w.cell? ⟨H,0,none⟩=some (.int .i64 y)) (hlen:l.length+1≤67108864)
  (h:∀v' w',FI (New W w') w' v' (l++[y])→Below W.heap.size W w'→w.grownBy w' v.ownBlock→K (a.put o.dst v') w') :
  if Region.wanted o (yielded ops a.tmps)=true then Oper.wp Tryz.prog o a w K Q else E:=by
 have hw:Region.wanted o (yielded ops a.tmps)=true:=by simp [Region.wanted,hgd]
 rw [if_pos hw];exact zRp s x ho hs hf hb hx hc hlen h
theorem zA6 {w w':World} {v:Value} {b o:Nat} {x:Value} {B:Nat} (hg:w.grownBy w' v.ownBlock) (h:w.cell? ⟨b,o,none⟩=some x) (hb:b<B) (hv:∀k,v.ownBlock=some k→B≤k):w'.cell? ⟨b,o,none⟩=some x :=
 hg.cell h (fun e=>by have:=hv b e.symm; omega)
end
end Go.Proofs.YtlgcdacpjcnjgaaGreatDoor
namespace Go.Proofs.YtlgcdacpjcnjgaaGreatDoor
open Go.RowKit
set_option maxRecDepth 20000
set_option maxHeartbeats 8000000
def zAh (c:List (List Int)) (i:Nat) (x:Int):List Int→Nat→List Int
 | [],_=>[]
 | y::ys,k=>wrap64 (y-wrap64 (x*ent c k i))::zAh c i x ys (k+1)
def num (v:List Int) (i:Nat):Int:=v[i]?.getD 0
def refl (c:List (List Int)) (i:Nat) (v:List Int):List Int:=zAh c i (num v i) v 0
structure Sq (c:List (List Int)) (n:Nat):Prop where
 len:c.length=n
 row:∀(k:Nat) (l:List Int),c[k]? = some l→l.length=n
theorem CartanP.sq {c:List (List Int)} (h:CartanP c):Sq c c.length:=⟨rfl,fun _ l hl=>h.row l (zTF hl)⟩
theorem zBX (c:List (List Int)) (i:Nat) (x:Int):∀(l:List Int) (k:Nat),(zAh c i x l k).length=l.length
 | [],_=>rfl
 | y::ys,k=>by simp [zAh,zBX c i x ys (k+1)]
theorem zA5 (c:List (List Int)) (i:Nat) (l:List Int):(refl c i l).length=l.length:=zBX c i _ l 0
theorem zES (c:List (List Int)) (i:Nat) (x:Int):∀(l:List Int) (k j:Nat) (y:Int),l[j]? = some y→zAh c i x (l.take (j+1)) k=zAh c i x (l.take j) k++[wrap64 (y-wrap64 (x*ent c (k+j) i))]
 | [],_,_,_,h=>by simp at h
 | z::zs,k,0,y,h=>by simp at h; subst h; simp [zAh]
 | z::zs,k,j+1,y,h=>by
  simp at h;have:=zES c i x zs (k+1) j y h;simp only [List.take_succ_cons,zAh,List.cons_append];rw [this,show k+1+j=k+(j+1) by omega]
theorem zAx {v:List Int} {i:Nat} {x:Int} (h:v[i]? = some x):num v i=x:=by simp [num,h]
theorem zFn {S S':Nat→Prop} {u v:Value} {c:List (List Int)} {l:List Int} {w:World} {n:Nat} (h:RII S w u c) (h':RI S' w v l) (i:Nat) (hi:i<n) (hsq:Sq c n) (hln:l.length=n) (hn0:n≤16777216) :
  Calls Tryz.prog 136 #[u,.int .i64 i,v] w fun e w'=>∃r,e=.returned r∧FI (New w w') w' r (refl c i l)∧Below w.heap.size w w':=by
 obtain ⟨a,cap,rfl⟩:=h.form;obtain ⟨a',cap',rfl⟩:=h'.form;have H:=zTD hln;have HS:=zTD hsq;have R0:Hid (refl c i l=zAh c i (num l i) l 0):=zTD rfl;generalize refl c i l=res at *;rw [hsq.len] at h ⊢;rw [hln] at h' ⊢;clear hln hsq;go_enter Tryz.func136,Tryz.ntmps136
 go_wp2_with fail
 obtain ⟨w1,hw1⟩:∃w1,w1=w.alloc (.cells #[] 3):=⟨_,rfl⟩;have b1:Below w.heap.size w w1:=by rw [hw1]; exact (Below.refl _ w).alloc (zTI _) _
 have f1:FI (New w w1) w1 (.slice (some ⟨w.heap.size,0,none⟩) 0 0) []:=by rw [hw1]; exact FI.of_row (World.ownsRow_lit (base:=w.heap.size) (e:=3) (size:=1) w #[] 0 (zTI _) (by unfold maxLen; omega) rfl) (zTI _) rfl rfl
 rw [<-hw1];clear hw1;go_loopw [7,8] (fun q j wr=>∃(k:Nat),k≤n∧j=.int .i64 k∧FI (New w wr) wr q (zAh c i (num l i) (l.take k) 0)∧Below w.heap.size w wr) (fun _ j _=>n-(intOf j).toNat)
 case atStart=>exact ⟨0,Nat.zero_le _,rfl,by simpa [zAh] using f1,b1⟩
 case round =>
  obtain ⟨k,hk,rfl,hf,hb⟩:=hrel;by_cases hlt:k<n
  ·obtain ⟨b,o,y,rfl,hc0,hy⟩:=h'.at hlt;obtain ⟨b2,o2,x,e2,hcx0,hx⟩:=h'.at hi;simp only [Option.some.injEq,Addr.mk.injEq,and_true] at e2;obtain ⟨rfl,rfl⟩:=e2;obtain ⟨b3,o3,r3,l3,rfl,hcr0,hr3,hl3⟩:=h.at hlt;obtain ⟨a4,c4,rfl⟩:=hr3.form;have hl3n:=HS.out.row k l3 hl3.out;rw [hl3n] at hcr0 hr3;clear hl3n;obtain ⟨b4,o4,z,rfl,hcz0,hz⟩:=hr3.at hi;have l1:=zTH w _ hc0;have l3':=zTH w _ hcr0;have l4:=zTH w _ hcz0;have hc:=(hb.cell l1).trans hc0;have hcx:=(hb.cell (p:=⟨b,o+i,none⟩) l1).trans hcx0;have hcr:=(hb.cell l3').trans hcr0;have hcz:=(hb.cell l4).trans hcz0;have hF:=zTD (fun (k:Nat) hk=>(hf.2 k hk).1);have i1:(k:Int)<(n:Int):=by omega
   have i2:(i:Int)<(n:Int):=by omega
   have hst:Hid (zAh c i (num l i) (l.take (k+1)) 0=zAh c i (num l i) (l.take k) 0++[wrap64 (y-wrap64 (x*z))]):=by
    refine zTD ?_;rw [zES c i _ l 0 k y hy.out,zAx hx.out,Nat.zero_add,zB0 hl3.out hz.out]
   have hlen:(zAh c i (num l i) (l.take k) 0).length≤k:=by rw [zBX]; simp; omega
   generalize zAh c i (num l i) (l.take k) 0=acc at *;clear h h' hr3 hc0 hcx0 hcr0 hcz0;have bbd:Below wr.heap.size wr (wr.alloc (.cells #[.int .i64 (IntKind.i64.wrap (y-IntKind.i64.wrap (x*z)))] 3)).drew:=((Below.refl _ _).alloc (zTI _) _).drew;have hcn:(wr.alloc (.cells #[.int .i64 (IntKind.i64.wrap (y-IntKind.i64.wrap (x*z)))] 3)).drew.cell? ⟨wr.heap.size,0,none⟩=some (.int .i64 (IntKind.i64.wrap (y-IntKind.i64.wrap (x*z)))):=by go_simp
   have hfn:=hf.grow bbd;have hbn:=zAC.step hb bbd;have hln:acc.length+1≤67108864:=by omega
   go_wp2_with fail
   go_region_held3 (fun w'=>w'.cell? ⟨b,o+k,none⟩=some (.int .i64 y)∧w'.cell? ⟨b,o+i,none⟩=some (.int .i64 x)∧w'.cell? ⟨b3,o3+k,none⟩=some (.slice (some ⟨b4,o4,none⟩) n c4)∧w'.cell? ⟨b4,o4+i,none⟩=some (.int .i64 z)) (first | go_keep | (go_split_ands; exact ⟨zA6 hgrow (by assumption) l1 hF.out,zA6 hgrow (by assumption) l1 hF.out,zA6 hgrow (by assumption) l3' hF.out,zA6 hgrow (by assumption) l4 hF.out⟩)) ((refine zFC (W:=w) (by rfl) _ _ (by rfl) (by rfl) hfn hbn (by rfl) hcn hln ?_; intro v' w3 f3 b5 hgrow))
   go_wp2_with fail
   go_roundw
   case rel=>exact ⟨k+1,by omega,by go_num,by rw [hst.out,<-IntWalk.i64_left,<-IntWalk.i64_left]; exact f3,b5⟩
   case measure=>simp [intOf]; omega
  ·have hkn:k=n:=by omega
   subst hkn;go_wp2_with fail
   go_ret
   exact ⟨_,rfl,by rw [R0.out]; rw [List.take_of_length_le (by have:=H.out; omega)] at hf; exact hf,hb⟩
def rho (c:List (List Int)):List Int:=if isC c then List.replicate c.length 1 else []
theorem zAN {W w w1:World} (hw:Below W.heap.size W w) (h:w1=w.alloc (.cells #[] 3)):FI (New W w1) w1 (.slice (some ⟨w.heap.size,0,none⟩) 0 0) []∧Below W.heap.size W w1:=by
 subst h;refine ⟨(FI.of_row (w:=w) (World.ownsRow_lit (base:=w.heap.size) (e:=3) (size:=1) w #[] 0 (zTI _) (by unfold maxLen; omega) rfl) (zTI _) rfl rfl).mono (fun b hb=>⟨Nat.le_trans hw.size hb.1,hb.2⟩),hw.alloc hw.size _⟩
theorem zHp (n k:Nat) (_:k<n):List.replicate (k+1) (1:Int)=List.replicate k 1++[1]:=by simp [List.replicate_succ']
theorem zJF {w:World} (n:Nat) (hn:n≤16777216) :
  Calls Tryz.prog 115 #[.int .i64 n] w fun e w'=>∃r,e=.returned r∧FI (New w w') w' r (List.replicate n 1)∧Below w.heap.size w w':=by
 go_enter Tryz.func115,Tryz.ntmps115
 go_wp2_with fail
 obtain ⟨w1,hw1⟩:∃w1,w1=w.alloc (.cells #[] 3):=⟨_,rfl⟩;obtain ⟨f1,b1⟩:=zAN (Below.refl _ w) hw1;rw [<-hw1];clear hw1;go_loopw [3,6] (fun z j wr=>∃(k:Nat) (acc:List Int),k≤n∧j=.int .i64 k∧FI (New w wr) wr z acc∧acc.length≤k∧Hid (acc=List.replicate k 1)∧Below w.heap.size w wr) (fun _ j _=>n-(intOf j).toNat)
 case atStart=>exact ⟨0,[],Nat.zero_le _,rfl,f1,Nat.zero_le _,zTD rfl,b1⟩
 case round =>
  obtain ⟨k,acc,hk,rfl,hf,hal,HA,hb⟩:=hrel;by_cases hlt:k<n
  ·have bb:=(Below.refl wr.heap.size wr).alloc (zTI _) (.cells #[.int .i64 1] 3);have HA2:Hid (acc++[1]=List.replicate (k+1) 1):=zTD (by rw [HA.out,zHp n k hlt]);go_wp2_with (at_builtin; go_must (refine zAL (W:=w) rfl _ _ rfl rfl (hf.grow bb) (zAC.step hb bb) rfl (RI.one wr 1) ?_ ?_))
   ·simp; omega
   ·intro v' w2 f3 b4 _;go_wp2_with fail
    go_roundw
    case rel=>exact ⟨k+1,acc++[1],by omega,by go_num,f3,by simp; omega,HA2,b4⟩
    case measure=>simp [intOf]; omega
  ·have hkn:k=n:=by omega
   subst hkn;go_wp2_with fail
   go_ret
   have e:=HA.out;subst e;exact ⟨_,rfl,hf,hb⟩
theorem zNH {S:Nat→Prop} {u:Value} {c:List (List Int)} {w:World} (h:RII S w u c) (hl:total c≤16777216) :
  Calls Tryz.prog 137 #[u] w fun e w'=>∃r,e=.returned r∧FI (New w w') w' r (rho c)∧Below w.heap.size w w':=by
 obtain ⟨a,cap,rfl⟩:=h.form;have hn0:c.length≤16777216:=by unfold total at hl; omega
 have R0:Hid (rho c=if isC c then List.replicate c.length 1 else []):=zTD rfl;generalize rho c=res at *;generalize hn:c.length=n at *;have H:=zTD hn;clear hn;go_enter Tryz.func137,Tryz.ntmps137
 go_wp2_with fail
 obtain ⟨w1,hw1⟩:∃w1,w1=w.alloc (.cells #[] 3):=⟨_,rfl⟩;obtain ⟨f1,b1⟩:=zAN (Below.refl _ w) hw1;rw [<-hw1];clear hw1;go_loopw [3,4] (fun z j wr=>∃(k:Nat) (acc:List Int),k≤n∧j=.int .i64 k∧FI (New w wr) wr z acc∧acc.length≤k∧Hid (acc=List.replicate k 1)∧Hid (0<k→isC c=true)∧Below w.heap.size w wr) (fun _ j _=>n-(intOf j).toNat)
 case atStart=>exact ⟨0,[],Nat.zero_le _,rfl,f1,Nat.zero_le _,zTD rfl,zTD (by omega),b1⟩
 case round =>
  obtain ⟨k,acc,hk,rfl,hf,hal,HA,HC,hb⟩:=hrel;by_cases hlt:k<n
  ·go_wp2_with fail
   refine (zAr (h.below hb) hl).mono ?_;rintro e w2 ⟨rfl,hw2⟩;have b2:=zAu hw2;clear hw2;have hf:=hf.grow b2;have hb:=zAC.step hb b2;cases hC:isC c
   ·have e0:Hid (acc=res):=by
     have h0:k=0:=by
      rcases Nat.eq_zero_or_pos k with h | h
      ·exact h
      ·have:=HC.out h; rw [hC] at this; cases this
     refine zTD ?_;rw [R0.out,hC,HA.out,h0];rfl
    go_wp2_with fail
    go_ret
    have e:=e0.out;subst e;exact ⟨_,rfl,hf,hb⟩
   ·have bb:=(Below.refl w2.heap.size w2).alloc (zTI _) (.cells #[.int .i64 1] 3);have HA2:Hid (acc++[1]=List.replicate (k+1) 1):=zTD (by rw [HA.out,zHp n k hlt]);have HC2:=zTD hC;clear hC;go_wp2_with (at_builtin; go_must (refine zAL (W:=w) rfl _ _ rfl rfl (hf.grow bb) (zAC.step hb bb) rfl (RI.one w2 1) ?_ ?_))
    ·simp; omega
    ·intro v' w3 f3 b4 _;go_wp2_with fail
     go_roundw
     case rel=>exact ⟨k+1,acc++[1],by omega,by go_num,f3,by simp; omega,HA2,zTD (fun _=>HC2.out),b4⟩
     case measure=>simp [intOf]; omega
  ·have hkn:k=n:=by omega
   have e0:Hid (acc=res):=by
    refine zTD ?_;rw [R0.out,HA.out,hkn];rcases Nat.eq_zero_or_pos k with h | h
    ·rw [<-hkn,h]; cases isC c <;> rfl
    ·rw [HC.out h]; rfl
   go_wp2_with fail
   go_ret
   have e:=e0.out;subst e;exact ⟨_,rfl,hf,hb⟩
def act (c:List (List Int)):List Int→List Int→List Int
 | [],v=>v
 | i::w,v=>refl c i.toNat (act c w v)
theorem zD8 (c:List (List Int)):∀(w v:List Int),(act c w v).length=v.length
 | [],_=>rfl
 | i::w,v=>by simp [act,zA5,zD8 c w v]
def Lets (n:Nat) (w:List Int):Prop:=∀x∈w,0≤x∧x<n
theorem zLx {c:List (List Int)} {w:List Int} (h:allB (ptB c) w=true):Lets c.length w:=by
 intro x hx;have:=zCh.1 h x hx;unfold ptB inR at this;simp at this;omega
theorem zCA {c:List (List Int)} {w:List Int} (h:isWd c w=true):isC c=true∧w.length≤15∧Lets c.length w:=by
 unfold isWd at h;simp only [Bool.and_eq_true,decide_eq_true_eq] at h;exact ⟨h.1.1,h.1.2,zLx h.2⟩
set_option maxRecDepth 10000 in
theorem zDA {S S':Nat→Prop} {u v:Value} {c:List (List Int)} {l:List Int} {w:World} {n:Nat} (h:RII S w u c) (h':FI S' w v l) (hd:∀b,S b→¬S' b) (i:Nat) (hi:i<n) (hsq:Sq c n) (hln:l.length=n) (hn0:n≤16777216) :
  Calls Tryz.prog 113 #[u,.int .i64 i,v] w fun e w'=>e=.returned (.tuple #[])∧FI S' w' v (refl c i l)∧Only S' w w':=by
 obtain ⟨a,cap,rfl⟩:=h.form;have hlen:=h'.1.1;obtain ⟨g,cap',hv,hg⟩:∃g cap',v=.slice (some ⟨g,0,none⟩) n cap'∧S' g:=by
  rcases h'.1.2 with ⟨_,h0⟩ | ⟨g,cap',cur,hv,_⟩
  ·omega
  ·exact ⟨g,cap',by rw [hv,hln],h'.2 g (by rw [hv]; rfl)⟩
 subst hv;have H:=zTD hln;have HS:=zTD hsq;obtain ⟨x,hx⟩:∃x,l[i]? = some x:=⟨_,zTE (by omega)⟩;have R0:Hid (refl c i l=zAh c i x l 0):=zTD (by rw [refl,zAx hx]);generalize refl c i l=res at *;rw [hsq.len] at h ⊢;have hA:RI Any w (.slice (some ⟨g,0,none⟩) n cap') l:=h'.any;obtain ⟨b2,o2,x2,e2,hcx,hx2⟩:=RI.at hA hi;have exx:x2=x:=by have:=hx2.out; rw [hx] at this; simpa using this.symm
 subst exx;simp only [Option.some.injEq,Addr.mk.injEq,and_true] at e2;obtain ⟨rfl,rfl⟩:=e2;rw [Nat.zero_add] at hcx;have HF0:FI S' w (.slice (some ⟨g,0,none⟩) n cap') (zAh c i x2 (l.take 0) 0++l.drop 0):=by simpa [zAh] using h'
 go_enter Tryz.func113,Tryz.ntmps113
 go_wp2_with fail
 go_loopw [14] (fun j wr=>∃(k:Nat),k≤n∧j=.int .i64 k∧FI S' wr (.slice (some ⟨g,0,none⟩) n cap') (zAh c i x2 (l.take k) 0++l.drop k)∧Only S' w wr) (fun j _=>n-(intOf j).toNat)
 case atStart=>exact ⟨0,Nat.zero_le _,rfl,HF0,Only.refl _ _⟩
 case round =>
  obtain ⟨k,hk,rfl,hf,hb⟩:=hrel;by_cases hlt:k<n
  ·obtain ⟨y,hy⟩:∃y,l[k]? = some y:=⟨_,zTE (by have:=H.out; omega)⟩;have hlk:(zAh c i x2 (l.take k) 0++l.drop k).length=n:=by have:=H.out; simp [zBX]; omega
   have hstep:Hid ((zAh c i x2 (l.take k) 0++l.drop k).set k (wrap64 (y-wrap64 (x2*ent c k i)))=zAh c i x2 (l.take (k+1)) 0++l.drop (k+1)):=by
    have e1:(zAh c i x2 (l.take k) 0).length=k:=by have:=H.out; simp [zBX]; omega
    refine zTD ?_;rw [zES c i x2 l 0 k y hy,Nat.zero_add,List.set_append_right _ _ (by rw [e1]; exact zTI _),e1,zAK hy];simp
   have hat:(zAh c i x2 (l.take k) 0++l.drop k)[k]? = some y:=by
    have e1:(zAh c i x2 (l.take k) 0).length=k:=by have:=H.out; simp [zBX]; omega
    rw [List.getElem?_append_right (by rw [e1]; exact zTI _),e1,zAK hy];simp
   have hall:FI S' wr (.slice (some ⟨g,0,none⟩) n cap') (zAh c i x2 (l.take k) 0++l.drop k)∧True:=⟨hf,trivial⟩;have hA2:RI Any wr (.slice (some ⟨g,0,none⟩) n cap') (zAh c i x2 (l.take k) 0++l.drop k):=hf.any;obtain ⟨b5,o5,y2,e5,hcy,hy2⟩:=RI.at hA2 hlt;simp only [Option.some.injEq,Addr.mk.injEq,and_true] at e5;obtain ⟨rfl,rfl⟩:=e5;have:y2=y:=by have:=hy2.out; rw [hat] at this; simpa using this.symm
   subst this;obtain ⟨b3,o3,r3,l3,rfl,hcr,hr3,hl3⟩:=(h.only hb hd).at hlt;obtain ⟨a4,c4,rfl⟩:=hr3.form;have hl3n:=HS.out.row k l3 hl3.out;rw [hl3n] at hcr hr3;obtain ⟨b4,o4,z,rfl,hcz,hz⟩:=hr3.at hi;have hown:=hf.1;rw [hlk] at hown;have hst:=zTD (hown.stored k (.int .i64 (wrap64 (y2-wrap64 (x2*z)))));have hfr:=hown.frozenAt k;rw [Nat.zero_add] at hcy;have hst2:FI S' (wr.setCell ⟨g,k,none⟩ (.int .i64 (wrap64 (y2-wrap64 (x2*z))))).drew (.slice (some ⟨g,0,none⟩) n cap') (zAh c i x2 (l.take (k+1)) 0++l.drop (k+1)):=by
    have hz2:=zB0 hl3.out hz.out;have e1:=hstep.out;rw [hz2] at e1;have hl2:(zAh c i x2 (l.take (k+1)) 0++l.drop (k+1)).length=n:=by have:=H.out; simp [zBX]; omega
    refine ⟨?_,hf.2⟩;rw [hl2,<-e1];have:=hst.out.1;rw [<-List.map_set] at this;exact this
   go_wp2_with fail
   go_still_tail 15,(by kernel_rfl)
   go_wp2_with fail
   go_roundw
   case rel=>exact ⟨k+1,by omega,by go_num,hst2,(Only.setCell hb hg _).drewN 1⟩
   case measure=>simp [intOf]; omega
  ·have hkn:k=n:=by omega
   subst hkn;go_wp2_with fail
   go_end0
   exact ⟨rfl,by rw [R0.out]; rw [List.take_of_length_le (by have:=H.out; omega),List.drop_of_length_le (by have:=H.out; omega),List.append_nil] at hf; exact hf,hb⟩
theorem zIN {c:List (List Int)} {w:List Int} {v:List Int} {k:Nat} {x:Int} (h:w[k]? = some x):act c (w.drop k) v=refl c x.toNat (act c (w.drop (k+1)) v):=by
 rw [zAK h]; rfl
theorem zKd {n:Nat} {w:List Int} (h:Lets n w) {k:Nat} {x:Int} (hx:w[k]? = some x):∃i:Nat,x=(i:Int)∧i<n:=by
 obtain ⟨h0,h1⟩:=h x (zTF hx);exact ⟨x.toNat,by omega,by omega⟩
theorem zLw {S S' S'':Nat→Prop} {u z v:Value} {c:List (List Int)} {l l':List Int} {w:World} {n:Nat} (h:RII S w u c) (h':RI S' w z l) (h'':RI S'' w v l') (hsq:Sq c n) (hle:Lets n l) (hlv:l'.length=n) (hn0:n≤16777216) (hl':l.length≤16777216) :
  Calls Tryz.prog 114 #[u,z,v] w fun e w'=>∃r,e=.returned r∧FI (New w w') w' r (act c l l')∧Below w.heap.size w w':=by
 have h:=h.old;obtain ⟨a,cap,rfl⟩:=h.form;obtain ⟨a',cap',rfl⟩:=h'.form;obtain ⟨a'',cap'',rfl⟩:=h''.form;have HA0:Hid (act c (l.drop l.length) l'=l'):=zTD (by simp [act]);have HR:Hid (act c (l.drop 0) l'=act c l l'):=zTD (by simp);have HLE:=zTD hle;have HS:=zTD hsq;have HV:=zTD hlv;generalize hm:l.length=m at *;have HM:=zTD hm;clear hm;have hcn:c.length=n:=hsq.len;rw [hcn] at h ⊢;rw [hlv] at h'' ⊢;clear hsq hlv hcn;go_enter Tryz.func114,Tryz.ntmps114
 obtain ⟨f1,b1⟩:=zAN (w:=w) (Below.refl _ w) rfl;go_wp2_with (at_builtin; go_must (refine zAL (W:=w) rfl _ _ rfl rfl f1 b1 rfl (h''.below b1) ?_ ?_))
 ·have:=HV.out; simp; omega
 ·intro v1 w2 f2 b2 _;clear b1 f1 h'';have h0:=h.below b2;have hz:=h'.below b2;have hz:=hz.old;have hD:∀b,Bt 0 w.heap.size b→¬New w w2 b:=fun b hb hb'=>by have:=hb.2; have:=hb'.1; omega
  have f2:FI (New w w2) w2 v1 (act c (l.drop m) l'):=by rw [HA0.out]; exact f2
  have hzl:RI (Bt 0 w.heap.size) w2 (.slice a' m cap') l:=h'.old.below b2;clear h h' hz;go_wp2_with fail
  go_loopw [8] (fun j wr=>∃(k:Nat),k≤m∧j=.int .i64 ((k:Int)-1)∧FI (New w w2) wr v1 (act c (l.drop k) l')∧Only (New w w2) w2 wr) (fun j _=>(intOf j+1).toNat)
  case atStart=>exact ⟨m,zTI _,by go_num,f2,Only.refl _ _⟩
  case round =>
   obtain ⟨k,hk,rfl,hf,ho⟩:=hrel;rcases k with _ | k
   ·go_wp2_with fail
    go_ret
    exact ⟨_,rfl,(by rw [<-HR.out]; exact hf.mono (fun b hb=>⟨hb.1,by rw [ho.size]; exact hb.2⟩)),b2.trans (ho.below (fun b hb=>hb.1))⟩
   ·obtain ⟨b,o,x,rfl,hc,hx⟩:=(hzl.only ho hD).at (j:=k) (by omega);obtain ⟨i,rfl,hi⟩:=zKd HLE.out hx.out;have e1:((k+1:Nat):Int)-1=(k:Int):=by omega
    rw [e1];have hlen:(act c (l.drop (k+1)) l').length=n:=by rw [zD8]; exact HV.out
    have HST:Hid (act c (l.drop k) l'=refl c i (act c (l.drop (k+1)) l')):=zTD (by rw [zIN hx.out]; rfl);go_wp2_with fail
    refine (zDA (h0.only ho hD) hf hD i hi HS.out hlen hn0).mono ?_;rintro e w3 ⟨rfl,f3,o3⟩;go_wp2_with fail
    go_roundw
    case rel=>exact ⟨k,by omega,by go_num,by rw [HST.out]; exact f3,ho.trans o3⟩
    case measure=>simp [intOf]
theorem FI.head {S:Nat→Prop} {w:World} {a:Option Addr} {n cap:Nat} {l:List Int} (h:FI S w (.slice a n cap) l) (h0:0<n):∃g,a=some ⟨g,0,none⟩∧S g∧l.length=n:=by
 obtain ⟨a',cap',hv⟩:=h.form;simp only [Value.slice.injEq] at hv;obtain ⟨rfl,rfl,rfl⟩:=hv;rcases h.1.2 with ⟨_,h1⟩ | ⟨g,cap',cur,hv,_⟩
 ·omega
 ·simp only [Value.slice.injEq,true_and] at hv;exact ⟨g,hv.1,h.2 g (by rw [hv.1]; rfl),rfl⟩
theorem FI.cell {S:Nat→Prop} {w:World} {g n cap:Nat} {l:List Int} (h:FI S w (.slice (some ⟨g,0,none⟩) n cap) l) {k:Nat} {x:Int} (hx:l[k]? = some x) (hk:k<n):w.cell? ⟨g,k,none⟩=some (.int .i64 x):=by
 have hA:RI Any w (.slice (some ⟨g,0,none⟩) n cap) l:=h.any;obtain ⟨b,o,y,e,hc,hy⟩:=RI.at hA hk;simp only [Option.some.injEq,Addr.mk.injEq,and_true] at e;obtain ⟨rfl,rfl⟩:=e;have:=hy.out;rw [hx] at this;simp only [Option.some.injEq] at this;subst this;simpa using hc
theorem FI.froz {S:Nat→Prop} {w:World} {g n cap:Nat} {l:List Int} (h:FI S w (.slice (some ⟨g,0,none⟩) n cap) l) (hl:l.length=n) (k:Nat):w.frozen? ⟨g,k,none⟩=false:=by
 subst hl; exact h.1.frozenAt k
theorem FI.put {S:Nat→Prop} {w:World} {g n cap:Nat} {l:List Int} (h:FI S w (.slice (some ⟨g,0,none⟩) n cap) l) (hl:l.length=n) (k:Nat) (x:Int):FI S (w.setCell ⟨g,k,none⟩ (.int .i64 x)) (.slice (some ⟨g,0,none⟩) n cap) (l.set k x):=by
 subst hl;refine ⟨?_,h.2⟩;have:=(h.1.stored k (.int .i64 x)).1;rw [<-List.map_set] at this;rw [List.length_set];exact this
end Go.Proofs.YtlgcdacpjcnjgaaGreatDoor
