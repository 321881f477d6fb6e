/- Dominant weights by the reference. Condition: sizes up to 2^24. -/
import Derived.Test.YtiohpndgemonjaaGreatJGStar
namespace Go.Proofs.YtiohpndgemonjaaGreat
open Go.RowKit
set_option maxRecDepth 20000
set_option maxHeartbeats 8000000
theorem zJU {v:List Int} {k:Nat} {x:Int} (h:v[k]? = some x) (hx:0≤x):(zAD (v.drop (k+1))).map (· + (k+1))=(zAD (v.drop k)).map (· + k):=by
 rw [zFP h (by omega),Option.map_map];congr 1;funext j;simp only [Function.comp_apply];omega
theorem zDn {S S':Nat→Prop} {u v:Value} {c:List (List Int)} {l:List Int} {w:World} (h:RII S w u c) (h':RI S' w v l) (hl:total c≤16777216) (hl':l.length≤16777216) :
  Calls Tryz.prog 7 #[u,v] w (Two (dom1 c l) (dom2 c l) (zAZ c l) w):=by
 have HD:Hid (zAZ c l=(isW c l && finB c)):=zQe rfl;have H1:Hid (zAZ c l=false→dom1 c l=[]∧dom2 c l=[]):=zQe (fun h=>by unfold dom1 dom2; rw [h]; exact ⟨rfl,rfl⟩);have H2:Hid (zAZ c l=true→dom1 c l=dmL c l∧dom2 c l=nf c 30 l):=zQe (fun h=>by unfold dom1 dom2; rw [h]; exact ⟨rfl,rfl⟩);have HP:=zQe (@zAf c l);generalize dom1 c l=d1 at *;generalize dom2 c l=d2 at *;generalize zAZ c l=ok at *;go_enter Tryz.func7,Tryz.ntmps7
 go_wp2_with fail
 refine (zCO h h' hl hl').mono ?_;rintro e w1 ⟨rfl,hw1⟩;have b1:=zAO hw1;clear hw1;cases hW:isW c l
 ·have e0:Hid (ok=false):=zQe (by rw [HD.out,hW]; rfl);have e1:=zQe (H1.out e0.out);have e3:=zDf (w:=w1) rfl rfl b1;go_wp2_with fail
  go_ret3
  rw [e1.out.1,e1.out.2,e0.out];exact ⟨_,_,rfl,e3.1,e3.2.1,e3.2.2.1,e3.2.2.2⟩
 ·have hW2:=zQe hW;have HWL:=zQe (zB1 hW);clear hW;go_wp2_with fail
  refine (zBr (h.below b1) hl).mono ?_;rintro e w2 ⟨rfl,b2⟩;have b02:=zAA.step b1 b2;cases hF:finB c
  ·have e0:Hid (ok=false):=zQe (by rw [HD.out,hW2.out,hF]; rfl);have e1:=zQe (H1.out e0.out);have e3:=zDf (w:=w2) rfl rfl b02;go_wp2_with fail
   go_ret3
   rw [e1.out.1,e1.out.2,e0.out];exact ⟨_,_,rfl,e3.1,e3.2.1,e3.2.2.1,e3.2.2.2⟩
  ·have e0:Hid (ok=true):=zQe (by rw [HD.out,hW2.out,hF]; rfl);have e1:=zQe (H2.out e0.out);have e4:=zQe (HP.out e0.out);have HDN:=zQe (zCZ e4.out.2.2.1 e4.out.2.1);have HI:=zQe e4.out.2.2.2;have hm24:=e4.out.2.2.2.le e4.out.2.2.1;have HC:=zQe e4.out.2.1;have HS:=zQe e4.out.2.1.sq;have hn4:=e4.out.2.1.le;have hcl:=zQe HWL.out.2.1;clear hF HWL;generalize negs c (cors c) l=m0 at *;generalize cors c=T at *;have h'2:=h'.below b02;obtain ⟨f1,b3⟩:=zAN (w:=w2) b02 rfl;obtain ⟨a',cap',rfl⟩:=h'2.form;go_wp2_with (at_builtin; go_must (refine zAE (W:=w) rfl _ _ rfl rfl f1 b3 rfl (h'2.below ((Below.refl _ _).alloc (zQj _) _)) ?_ ?_))
   ·simp; omega
   ·intro v1 w3 f3 b4 _;clear f1 b3;go_wp2_with fail
    obtain ⟨w4,hw4⟩:∃w4,w4=w3.alloc (.cells #[] 3):=⟨_,rfl⟩;obtain ⟨f4,b5⟩:=zAN b4 hw4;have b34:Below w3.heap.size w3 w4:=by rw [hw4]; exact (Below.refl _ _).alloc (zQj _) _
    rw [<-hw4];clear hw4;have hd4:∀b,v1.ownBlock=some b→(Value.slice (some ⟨w3.heap.size,0,none⟩) 0 0).ownBlock≠some b:=fun b h1 h2=>by
     have:=(f3.2 b h1).2;simp [Value.ownBlock] at h2;omega
    have f34:=f3.grow b34;go_loopw [7,8,9] (fun XX ZZ j wr=>∃(X Z:Value) (acc xl:List Int) (m k:Nat),X=XX∧Z=ZZ∧j=.int .i64 k∧k+m≤24∧acc.length=k∧FI (New w wr) wr X xl∧FI (New w wr) wr Z acc∧Hid (∀b,X.ownBlock=some b→Z.ownBlock≠some b)∧Hid (DomS c T xl m)∧Hid (acc++nf c 30 xl=nf c 30 l)∧Hid (dmL c xl=dmL c l)∧Below w.heap.size w wr) (fun _ _ j _=>31-(intOf j).toNat)
    case atStart=>exact ⟨_,_,[],l,m0,0,rfl,rfl,rfl,by omega,rfl,f34,f4,zQe hd4,HI,zQe rfl,zQe rfl,b5⟩
    case round =>
     obtain ⟨X,Z,acc,xl,m,k,rfl,rfl,rfl,hkm,hacc,hX,hZ,HDD,HDS,HNF,HDM,hb⟩:=hrel;have hxl:xl.length=c.length:=HDN.out.len _ _ HDS.out;obtain ⟨aX,cX,rfl⟩:=hX.form;rw [hxl] at hX HDD ⊢;have HXL:=zQe hxl;have HF0:Hid ((zAD (xl.drop 0)).map (· + 0)=zAD xl):=zQe (by simp);have HFE:Hid (zAD (xl.drop c.length)=none):=zQe (by rw [<-hxl]; simp [zAD]);clear hxl;generalize hn:c.length=n at *;have HN:=zQe hn;clear hn;have i0:(k:Int)<30:=by omega
     go_wp2_with fail
     go_loop [10] (fun j=>∃(i:Nat),i≤n∧j=.int .i64 i∧Hid ((zAD (xl.drop i)).map (· + i)=zAD xl)) (fun j=>n-(intOf j).toNat)
     case atStart=>exact ⟨0,Nat.zero_le _,rfl,HF0⟩
     case round =>
      obtain ⟨i,hi,rfl,HK⟩:=hrel;by_cases hlt:i<n
      ·obtain ⟨b,o,y,e9,hcy,hy⟩:=hX.reads.at hlt;subst e9;have i1:(i:Int)<(n:Int):=by omega
       by_cases hy0:0≤y
       ·have HK2:Hid ((zAD (xl.drop (i+1))).map (· + (i+1))=zAD xl):=zQe ((zJU hy.out hy0).trans HK.out);go_wp2_with fail
        go_round
        case rel=>exact ⟨i+1,by omega,by go_num,HK2⟩
        case measure=>simp [intOf]; omega
       ·have e:zAD xl=some i:=by rw [<-HK.out,zGF hy.out (by omega)]; simp
        obtain ⟨m',hm',him',hnf⟩:=HDN.out.turn _ _ _ HDS.out e;have HDS2:=zQe him';have HNF2:Hid ((acc++[(i:Int)])++nf c 30 (refl c i xl)=nf c 30 l):=zQe (by rw [<-HNF.out,hnf,List.append_assoc]; rfl);have HDM2:Hid (dmL c (refl c i xl)=dmL c l):=zQe (by rw [<-HDM.out]; exact (zJv HDN.out HDS.out e).symm);clear him' hnf e;have hic:((i:Int) == (n:Int))=false:=by simp; omega
        have i2:¬(0:Int)≤y:=hy0;go_wp2_with fail
        refine (zCo (h.below hb) hX.reads i (by omega) HS.out HXL.out (by omega)).mono ?_;rintro e w6 ⟨r6,rfl,f6,b6⟩;have hZ6:=hZ.grow b6;have b06:=zAA.step hb b6;have hd6:∀b,r6.ownBlock=some b→Z.ownBlock≠some b:=fun b h1 h2=>by
         have a1:=(f6.2 b h1).1;have a2:=(hZ.2 b h2).2;omega
        have HD6:=zQe hd6;clear hd6;have bb:Below w6.heap.size w6 (w6.alloc (.cells #[.int .i64 i] 3)):=(Below.refl _ _).alloc (zQj _) _;have hcn:(w6.alloc (.cells #[.int .i64 i] 3)).cell? ⟨w6.heap.size,0,none⟩=some (.int .i64 i):=by go_simp
        go_wp2_with (at_builtin; go_must (refine zFY (W:=w) rfl _ _ rfl rfl (hZ6.grow bb) (zAA.step b06 bb) rfl hcn (by omega) ?_))
        intro v7 w7 f7 b7 g7 wh7;have hX7:FI (New w w7) w7 r6 (refl c i xl):=by
         have h1:FI (New w w6) w6 r6 (refl c i xl):=f6.mono (fun b hb'=>⟨Nat.le_trans hb.size hb'.1,hb'.2⟩);have h2:=(h1.grow bb).own;refine FI.mono (S:=fun b=>New w (w6.alloc (.cells #[.int .i64 i] 3)) b∧r6.ownBlock=some b) (h2.keep fun b hb'=>g7.block b (h2.1.lt b hb').2 (fun e=>HD6.out b hb' e.symm)) (fun b hb'=>⟨hb'.1.1,Nat.lt_of_lt_of_le hb'.1.2 g7.size⟩)
        have HD7:Hid (∀b,r6.ownBlock=some b→v7.ownBlock≠some b):=zQe (fun b h1 h2=>by
         rcases wh7 b h2 with h3 | h3
         ·exact HD6.out b h1 h3
         ·have a1:=(f6.2 b h1).2;have a2:=bb.size;omega)
        clear wh7 g7;go_wp2_with fail
        go_roundw
        case rel=>exact ⟨_,_,acc++[(i:Int)],refl c i xl,m',k+1,rfl,rfl,by go_num,by omega,by simp; omega,hX7,f7,HD7,HDS2,HNF2,HDM2,b7⟩
        case measure=>simp [intOf]; omega
      ·have hin:i=n:=by omega
       have e:zAD xl=none:=by rw [<-HK.out,hin,<-HN.out]; rw [HN.out,HFE.out]; rfl
       have E1:Hid (acc=nf c 30 l):=zQe (by rw [<-HNF.out,zEi e,List.append_nil]);have E2:Hid (xl=dmL c l):=zQe (by rw [<-HDM.out,zGB e]);have i1:¬(i:Int)<(n:Int):=by omega
       have i2:((i:Int) == (n:Int))=true:=by simp; omega
       clear e hin;go_wp2_with fail
       go_ret3
       rw [e1.out.1,e1.out.2,e0.out,<-E1.out,<-E2.out];exact ⟨_,_,rfl,hX,hZ,HDD.out,hb⟩
theorem zOc (c:List (List Int)) (l:List Int):(dom1 c l).length≤l.length:=by
 unfold dom1;split
 ·unfold dmL; rw [zBv]; exact zQj _
 ·simp
theorem zOd (c:List (List Int)) (l:List Int):(dom2 c l).length≤24:=by
 unfold dom2;split
 ·rename_i h
  obtain ⟨_,h1,h2,h3⟩:=zAf h;exact Nat.le_trans (zEj (zCZ h2 h1) _ h3) (h3.le h2)
 ·simp
end Go.Proofs.YtiohpndgemonjaaGreat
