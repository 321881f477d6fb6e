/- Matrices with a name, names of groups as texts, their sizes. Plain lists; checked for all matrices of finite type. -/
import Derived.Lib.Split
import Derived.Test.YtlgcdacpjcnjgaaGreatDoorJGKzA
import Derived.Test.YtlgcdacpjcnjgaaGreatDoorJGStr
import Derived.Test.YtlgcdacpjcnjgaaGreatDoorJGWsR
namespace Go.Proofs.YtlgcdacpjcnjgaaGreatDoor
open Go.RowKit
set_option maxRecDepth 20000
set_option maxHeartbeats 8000000
def chB (n i:Nat):List Int:=if 0<i then ((List.replicate n (0:Int)).set i 2).set (i-1) (-1) else (List.replicate n (0:Int)).set i 2
def chR (n i:Nat):List Int:=if i+1<n then (chB n i).set (i+1) (-1) else chB n i
def chM (n:Nat):List (List Int):=(List.range n).map (chR n)
theorem zP8 (n i:Nat):(chB n i).length=n:=by unfold chB; split <;> simp
theorem zQA (n i:Nat):(chR n i).length=n:=by unfold chR; split <;> simp [zP8]
theorem zP9 (n:Nat):(chM n).length=n:=by simp [chM]
theorem zBz (n k:Nat):(List.range (k+1)).map (chR n)=(List.range k).map (chR n)++[chR n k]:=by rw [List.range_succ,List.map_append]; rfl
def put1 (c:List (List Int)) (i j:Nat) (x:Int):List (List Int):=c.set i (((c[i]?).getD []).set j x)
def zER (c:List (List Int)) (e:List Int):Nat→List (List Int)
 | 0=>c
 | k+1=>put1 (zER c e k) (num e (3*k)).toNat (num e (3*k+1)).toNat (num e (3*k+2))
structure Sqn (c:List (List Int)) (n:Nat):Prop where
 len:c.length=n
 row:∀r∈c,r.length=n
theorem zAw (n:Nat):Sqn (chM n) n:=⟨zP9 n,fun r hr=>by
 obtain ⟨i,_,rfl⟩:=List.mem_map.1 hr;exact zQA n i⟩
theorem zBv {c:List (List Int)} {n i j:Nat} {x:Int} (h:Sqn c n) (hi:i<n):Sqn (put1 c i j x) n:=⟨by simp [put1,h.len],fun r hr=>by
 have hil:i<c.length:=by rw [h.len]; exact hi
 rcases List.mem_or_eq_of_mem_set hr with h' | h'
 ·exact h.row r h'
 ·subst h';rw [List.length_set,zTE hil];exact h.row _ (List.getElem_mem hil)⟩
def EOk (n:Nat) (e:List Int):Prop:=∀k,3*k+2<e.length→(∃i j:Nat,e[3*k]? = some (i:Int)∧e[3*k+1]? = some (j:Int)∧i<n∧j<n)
theorem zJL {c:List (List Int)} {e:List Int} {n:Nat} (h:Sqn c n) (he:EOk n e):∀k,3*k≤e.length→Sqn (zER c e k) n
 | 0,_=>h
 | k+1,hk=>by
  obtain ⟨i,j,h1,h2,hi,hj⟩:=he k (by omega);have e1:(num e (3*k)).toNat=i:=by simp [num,h1]
  refine zBv (zJL h he k (by omega)) ?_;rw [e1];exact hi
def tyNm (k:Nat):List UInt8:=(tyN[k]?).getD []
def tyMx (k:Nat):List (List Int):=(tyM[k]?).getD []
def nmOf (a:List (List Int)):List UInt8:=tyNm ((nmK isoI a).getD 12)
def nmL (c:List (List Int)):List (List UInt8):=(zAU c).map fun p=>nmOf (zAc c p)
def nmT (c:List (List Int)):List UInt8:=Lib.join (nmL c) [120]
def szB (x:List UInt8):Nat:=((List.range 12).find? fun k=>tyNm k == x).elim 0 szK
def szN (l:List (List UInt8)):Nat:=(l.map szB).foldl (· * ·) 1
def ascB:List Nat→Bool
 | []=>true
 | [_]=>true
 | x::y::r=>decide (x<y) && ascB (y::r)
def zCj (x:UInt8) (s:List (List UInt8) × List UInt8) (b:UInt8):List (List UInt8) × List UInt8:=if b=x then (s.1++[s.2],[]) else (s.1,s.2++[b])
def cutF (x:UInt8) (s:List UInt8):List (List UInt8):=(s.foldl (zCj x) ([],[])).1++[(s.foldl (zCj x) ([],[])).2]
def zCx (c:List (List Int)):Bool:=(zAU c).all (fun p=>ascB p && p.all (fun i=>decide (i<c.length)) && decide (0<p.length) && isC (zAc c p) && decide ((zAU (zAc c p)).length=1))
 && (cutF 120 (nmT c) == nmL c) && (Lib.split (nmT c) [120] == nmL c) && decide (szN (nmL c)=szP c) && decide ((nmL c).length≤4) && decide ((nmT c).length≤16)
theorem zQI:(Fin.L1++Fin.L2++Fin.L3).all zCx=true:=by decide +kernel
theorem zQB:((Fin.L4.drop 0).take 37).all zCx=true:=by decide +kernel
theorem zQC:((Fin.L4.drop 37).take 37).all zCx=true:=by decide +kernel
theorem zQD:((Fin.L4.drop 74).take 37).all zCx=true:=by decide +kernel
theorem zQE:((Fin.L4.drop 111).take 37).all zCx=true:=by decide +kernel
theorem zQF:((Fin.L4.drop 148).take 37).all zCx=true:=by decide +kernel
theorem zQG:((Fin.L4.drop 185).take 37).all zCx=true:=by decide +kernel
theorem zQH:(Fin.L4.drop 222).all zCx=true:=by decide +kernel
theorem zL6:(Fin.L1++Fin.L2++Fin.L3++Fin.L4).all zCx=true:=by
 have h6:=zQH;have h5:=zAZ zQG h6 rfl;have h4:=zAZ zQF h5 rfl;have h3:=zAZ zQE h4 rfl;have h2:=zAZ zQD h3 rfl;have h1:=zAZ zQC h2 rfl;have h0:=zAZ zQB h1 rfl;rw [List.drop_zero] at h0;rw [List.all_append,zQI,h0];rfl
structure PartOk (c:List (List Int)) (p:List Nat):Prop where
 asc:Asc (iL p)
 pts:Pts c.length (iL p)
 pos:1≤(iL p).length
 car:isC (zAc c p)=true
 one:(zAU (zAc c p)).length=1
theorem zJ9:∀{p:List Nat},ascB p=true→∀(j x y:Nat),p[j]? = some x→p[j+1]? = some y→x<y
 | [],_,_,_,_,h,_=>by simp at h
 | [_],_,j,_,_,_,h=>by simp at h
 | a::b::r,h,j,x,y,h1,h2=>by
  unfold ascB at h;rw [Bool.and_eq_true] at h;cases j with
  | zero=>simp at h1 h2; subst h1; subst h2; simpa using h.1
  | succ j=>exact zJ9 h.2 j x y (by simpa using h1) (by simpa using h2)
structure NamesOk (c:List (List Int)):Prop where
 part:∀p∈zAU c,PartOk c p
 cutS:cutF 120 (nmT c)=nmL c
 cutI:Lib.split (nmT c) [120]=nmL c
 size:szN (nmL c)=szP c
 few:(nmL c).length≤4
 len:(nmT c).length≤16
theorem FinP.texts {c:List (List Int)} (h:FinP c):NamesOk c:=by
 have:=h.all zL6;unfold zCx at this;simp only [Bool.and_eq_true] at this;obtain ⟨⟨⟨⟨⟨h1,h2⟩,h3⟩,h4⟩,h5⟩,h6⟩:=this;refine ⟨fun p hp=>?_,by simpa using h2,by simpa using h3,by simpa using h4,by simpa using h5,by simpa using h6⟩;have hq:=List.all_eq_true.1 h1 p hp;simp only [Bool.and_eq_true] at hq;obtain ⟨⟨⟨⟨q1,q2⟩,q3⟩,q4⟩,q5⟩:=hq;refine ⟨fun j x y hx hy=>?_,fun j x hx=>?_,by have q3':0<p.length:=(by simpa using q3); simp only [iL,List.length_map]; omega,q4,by simpa using q5⟩
 ·simp only [iL,List.getElem?_map,Option.map_eq_some_iff] at hx hy;obtain ⟨a,ha,rfl⟩:=hx;obtain ⟨b,hb,rfl⟩:=hy;have:=zJ9 q1 j a b ha hb;omega
 ·simp only [iL,List.getElem?_map,Option.map_eq_some_iff] at hx;obtain ⟨a,ha,rfl⟩:=hx;exact ⟨a,rfl,by simpa using List.all_eq_true.1 q2 a (zTF ha)⟩
theorem zFE (c:List (List Int)) (p:List Nat):subL c (iL p)=zAc c p:=by
 simp only [subL,rowL,iL,zAc,List.map_map];refine List.map_congr_left fun i _=>?_;simp only [Function.comp_def,Int.toNat_natCast]
theorem zJg:∀k,k<12→isC (tyMx k)=true:=by decide
theorem zLA:∀k,k<12→(tyMx k).length≤4∧∀r∈tyMx k,r.length≤4:=by decide
theorem zEa:∀k,k<12→(tyNm k).length=2:=by decide
theorem zGY {iso:List (List Int)→List (List Int)→Bool} {a:List (List Int)} {k:Nat} (h:nmK iso a=some k):iso a (tyMx k)=true∧∀j,j<k→iso a (tyMx j)=false:=by
 unfold nmK at h;rw [List.find?_range_eq_some] at h;exact ⟨h.1,fun j hj=>by have:=h.2.2 j hj; rw [Bool.not_eq_true'] at this; exact this⟩
theorem zBb {l:List Int} {n j:Nat} (hl:l.length=n) (hj:j<n):∃x,l[j]? = some x:=⟨l[j]'(by omega),zTE _⟩
theorem zBF {n:Nat} (h4:n≤4) (w:World) :
  Calls Tryz.prog 187 #[.int .i64 n] w fun e w'=>∃r,e=.returned r∧FII (New w w') w' r (chM n)∧Below w.heap.size w w':=by
 have mixed:Tryz.prog.follows .mixedOrders=true:=by kernel_rfl
 obtain ⟨i0,hi0,hz0,hz1,hz2⟩:=info_parts zA8;obtain ⟨w1,hw1⟩:∃w1,w1=w.alloc (.cells #[] 29):=⟨_,rfl⟩;have hs1:=zAj (HS.nil (Below.refl _ w)) hw1;have hs1:=hs1.add (Below.refl _ _) (zA7 []) (F:=NoB) ⟨fun x hx=>by simp at hx,List.Pairwise.nil⟩ (fun b hb=>hb.elim);have hs1:HS w w1 [aV 29 (.slice (some ⟨w.heap.size,0,none⟩) 0 0) (([]:Zl).map Prod.fst),aRs []]:=hs1;have HW1:=zTD hw1;have HM0:Hid (([]:Zl).map Prod.snd=(List.range 0).map (chR n)):=zTD rfl;clear hw1;go_enter Tryz.func187,Tryz.ntmps187
 go_wp2_with fail
 rw [<-HW1.out];go_loopw [3,8] (fun oo kk wr=>∃(k:Nat) (vo:Value) (Z:Zl),vo=oo∧k≤n∧kk=.int .i64 k∧HS w wr [aV 29 vo (Z.map Prod.fst),aRs Z]∧Hid (Z.map Prod.snd=(List.range k).map (chR n))) (fun _ kk _=>n-(intOf kk).toNat)
 case atStart=>exact ⟨0,_,[],rfl,Nat.zero_le _,rfl,hs1,HM0⟩
 case round =>
  clear hs1 HM0;obtain ⟨k,vo,Z,rfl,hk,rfl,hs,HM⟩:=hrel;by_cases hkn:k<n
  ·have i1:(k:Int)<(n:Int):=by omega
   have i2:(0:Int)≤(k:Int):=by omega
   have HZL:Hid ((Z.map Prod.fst).length+1≤67108864):=zTD (by have:=congrArg List.length HM.out; simp at this; simp; omega);go_wp2_with (at_make; (refine wpList_make_full _ rfl _ _ 29 rfl wr.heap.size 3 i0 (.int .i64 0) 1 Tryz.underlying29 hi0 hz0 hz1 _ _ _ _ n rfl rfl (by first | rfl | (simp only [wrap64]; omega)) (by first | rfl | (simp only [wrap64]; omega)) ?hb ?hm ?hs ?_))
   case hb=>first | (rw [hz2]; omega) | omega
   case hm=>unfold maxLen; omega
   case hs=>exact zTI _
   intro w2 hown hgr;have bb2:Below wr.heap.size wr w2:=(Below.refl _ wr).grown hgr (zTI _) (by simp);have hf2:FI (New wr w2) w2 (.slice (some ⟨wr.heap.size,0,none⟩) n n) (List.replicate n 0):=FI.of_row (w:=wr) (by simpa using hown) (zTI _) (by simp) (by simp [toList_madeCells_one]);have hs2:=hs.addI bb2 hf2;have hs2:HS w w2 [aV 29 vo (Z.map Prod.fst),aRs Z,aI (.slice (some ⟨wr.heap.size,0,none⟩) n n) (List.replicate n 0)]:=hs2;clear hgr hown bb2 hf2 hs hi0 hz0 hz1 hz2;generalize wr.heap.size=g at *;obtain ⟨x0,hx0⟩:=zBb (l:=List.replicate n (0:Int)) (by simp) hkn;obtain ⟨d0,z0⟩:=hs2.cellI 2 rfl (by simp) hx0;have hs3:=hs2.putI 2 rfl (by simp) k 2;have hs3:HS w (w2.setCell ⟨g,k,none⟩ (.int .i64 2)) [aV 29 vo (Z.map Prod.fst),aRs Z,aI (.slice (some ⟨g,0,none⟩) n n) ((List.replicate n (0:Int)).set k 2)]:=hs3;clear hx0 hs2;by_cases hk0:0<k
   ·obtain ⟨j,hkj⟩:∃j,k=j+1:=⟨k-1,by omega⟩;have i3:(0:Int)<(k:Int):=by omega
    have i4:(k:Int)-1=(j:Int):=by omega
    have hjn:j<n:=by omega
    have i5:(j:Int)<(n:Int):=by omega
    obtain ⟨x1,hx1⟩:=zBb (l:=(List.replicate n (0:Int)).set k 2) (by simp) hjn;obtain ⟨d1,z1⟩:=hs3.cellI 2 rfl (by simp) hx1;have hs4:=hs3.putI 2 rfl (by simp) j (-1);have hs4:HS w ((w2.setCell ⟨g,k,none⟩ (.int .i64 2)).setCell ⟨g,j,none⟩ (.int .i64 (-1))) [aV 29 vo (Z.map Prod.fst),aRs Z,aI (.slice (some ⟨g,0,none⟩) n n) (((List.replicate n (0:Int)).set k 2).set j (-1))]:=hs4;clear hx1 hs3;by_cases hk1:k+1<n
    ·have i6:(k:Int)+1<(n:Int):=by omega
     obtain ⟨x2,hx2⟩:=zBb (l:=((List.replicate n (0:Int)).set k 2).set j (-1)) (by simp) hk1;obtain ⟨d2,z2⟩:=hs4.cellI 2 rfl (by simp) hx2;have hs8:=hs4.putI 2 rfl (by simp) (k+1) (-1);have HCH:Hid ((((List.replicate n (0:Int)).set k 2).set j (-1)).set (k+1) (-1)=chR n k):=zTD (by unfold chR chB; rw [if_pos hk1,if_pos hk0,show k-1=j by omega]);clear hx2 hs4 hkj;have hsr:HS w (((w2.setCell ⟨g,k,none⟩ (.int .i64 2)).setCell ⟨g,j,none⟩ (.int .i64 (-1))).setCell ⟨g,k+1,none⟩ (.int .i64 (-1))) [aV 29 vo (Z.map Prod.fst),aRs Z,aI (.slice (some ⟨g,0,none⟩) n n) (chR n k)]:=by rw [<-HCH.out]; exact hs8
     obtain ⟨w5,hw5⟩:∃w5,w5=(((w2.setCell ⟨g,k,none⟩ (.int .i64 2)).setCell ⟨g,j,none⟩ (.int .i64 (-1))).setCell ⟨g,k+1,none⟩ (.int .i64 (-1))).alloc (.cells #[.slice (some ⟨g,0,none⟩) n n] 29):=⟨_,rfl⟩;have hs5:=hsr.alloc (.cells #[.slice (some ⟨g,0,none⟩) n n] 29);rw [<-hw5] at hs5;have hc5:w5.cell? ⟨(((w2.setCell ⟨g,k,none⟩ (.int .i64 2)).setCell ⟨g,j,none⟩ (.int .i64 (-1))).setCell ⟨g,k+1,none⟩ (.int .i64 (-1))).heap.size,0,none⟩=some (.slice (some ⟨g,0,none⟩) n n):=by rw [hw5]; go_simp
     simp only [zAM] at hc5;have HW5:=zTD hw5;have HNV:=zTD (HS.newV hs5 0 rfl);have hone:(Value.slice (some ⟨g,0,none⟩) n n).oneCell'=true:=rfl;clear hw5 hsr hs8;go_wp2_with (at_builtin; go_must (rw [<-HW5.out]; refine zAH rfl _ _ rfl rfl hs5 0 rfl HNV.out rfl hc5 hone HZL.out ?_))
     intro v6 w6 hs6 _;have hs7:=(hs6.moreS 1 2 (by decide) rfl rfl (Z':=Z++[(.slice (some ⟨g,0,none⟩) n n,chR n k)]) (List.perm_append_singleton _ _)).pick [0,1] (by decide);have hs7:HS w w6 [aV 29 v6 ((Z++[(Value.slice (some ⟨g,0,none⟩) n n,chR n k)]).map Prod.fst),aRs (Z++[(Value.slice (some ⟨g,0,none⟩) n n,chR n k)])]:=by
      have e:(Z++[(Value.slice (some ⟨g,0,none⟩) n n,chR n k)]).map Prod.fst=Z.map Prod.fst++[Value.slice (some ⟨g,0,none⟩) n n]:=by simp
      rw [e]; exact hs7
     have HM2:Hid ((Z++[(Value.slice (some ⟨g,0,none⟩) n n,chR n k)]).map Prod.snd=(List.range (k+1)).map (chR n)):=zTD (by rw [List.map_append,HM.out,zBz]; rfl);clear hs5 hs6;go_wp2_with fail
     go_roundw
     case rel=>exact ⟨k+1,_,_,rfl,by omega,by go_num,hs7,HM2⟩
     case measure=>simp [intOf]; omega
    ·have i6:¬(k:Int)+1<(n:Int):=by omega
     have HCH:Hid (((List.replicate n (0:Int)).set k 2).set j (-1)=chR n k):=zTD (by unfold chR chB; rw [if_neg hk1,if_pos hk0,show k-1=j by omega]);clear hkj;have hsr:HS w ((w2.setCell ⟨g,k,none⟩ (.int .i64 2)).setCell ⟨g,j,none⟩ (.int .i64 (-1))) [aV 29 vo (Z.map Prod.fst),aRs Z,aI (.slice (some ⟨g,0,none⟩) n n) (chR n k)]:=by rw [<-HCH.out]; exact hs4
     obtain ⟨w5,hw5⟩:∃w5,w5=((w2.setCell ⟨g,k,none⟩ (.int .i64 2)).setCell ⟨g,j,none⟩ (.int .i64 (-1))).alloc (.cells #[.slice (some ⟨g,0,none⟩) n n] 29):=⟨_,rfl⟩;have hs5:=hsr.alloc (.cells #[.slice (some ⟨g,0,none⟩) n n] 29);rw [<-hw5] at hs5;have hc5:w5.cell? ⟨((w2.setCell ⟨g,k,none⟩ (.int .i64 2)).setCell ⟨g,j,none⟩ (.int .i64 (-1))).heap.size,0,none⟩=some (.slice (some ⟨g,0,none⟩) n n):=by rw [hw5]; go_simp
     simp only [zAM] at hc5;have HW5:=zTD hw5;have HNV:=zTD (HS.newV hs5 0 rfl);have hone:(Value.slice (some ⟨g,0,none⟩) n n).oneCell'=true:=rfl;clear hw5 hsr hs4;go_wp2_with (at_builtin; go_must (rw [<-HW5.out]; refine zAH rfl _ _ rfl rfl hs5 0 rfl HNV.out rfl hc5 hone HZL.out ?_))
     intro v6 w6 hs6 _;have hs7:=(hs6.moreS 1 2 (by decide) rfl rfl (Z':=Z++[(.slice (some ⟨g,0,none⟩) n n,chR n k)]) (List.perm_append_singleton _ _)).pick [0,1] (by decide);have hs7:HS w w6 [aV 29 v6 ((Z++[(Value.slice (some ⟨g,0,none⟩) n n,chR n k)]).map Prod.fst),aRs (Z++[(Value.slice (some ⟨g,0,none⟩) n n,chR n k)])]:=by
      have e:(Z++[(Value.slice (some ⟨g,0,none⟩) n n,chR n k)]).map Prod.fst=Z.map Prod.fst++[Value.slice (some ⟨g,0,none⟩) n n]:=by simp
      rw [e]; exact hs7
     have HM2:Hid ((Z++[(Value.slice (some ⟨g,0,none⟩) n n,chR n k)]).map Prod.snd=(List.range (k+1)).map (chR n)):=zTD (by rw [List.map_append,HM.out,zBz]; rfl);clear hs5 hs6;go_wp2_with fail
     go_roundw
     case rel=>exact ⟨k+1,_,_,rfl,by omega,by go_num,hs7,HM2⟩
     case measure=>simp [intOf]; omega
   ·have i3:¬(0:Int)<(k:Int):=by omega
    by_cases hk1:k+1<n
    ·have i6:(k:Int)+1<(n:Int):=by omega
     obtain ⟨x2,hx2⟩:=zBb (l:=(List.replicate n (0:Int)).set k 2) (by simp) hk1;obtain ⟨d2,z2⟩:=hs3.cellI 2 rfl (by simp) hx2;have hs8:=hs3.putI 2 rfl (by simp) (k+1) (-1);have HCH:Hid (((List.replicate n (0:Int)).set k 2).set (k+1) (-1)=chR n k):=zTD (by unfold chR chB; rw [if_pos hk1,if_neg hk0]);clear hx2 hs3;have hsr:HS w ((w2.setCell ⟨g,k,none⟩ (.int .i64 2)).setCell ⟨g,k+1,none⟩ (.int .i64 (-1))) [aV 29 vo (Z.map Prod.fst),aRs Z,aI (.slice (some ⟨g,0,none⟩) n n) (chR n k)]:=by rw [<-HCH.out]; exact hs8
     obtain ⟨w5,hw5⟩:∃w5,w5=((w2.setCell ⟨g,k,none⟩ (.int .i64 2)).setCell ⟨g,k+1,none⟩ (.int .i64 (-1))).alloc (.cells #[.slice (some ⟨g,0,none⟩) n n] 29):=⟨_,rfl⟩;have hs5:=hsr.alloc (.cells #[.slice (some ⟨g,0,none⟩) n n] 29);rw [<-hw5] at hs5;have hc5:w5.cell? ⟨((w2.setCell ⟨g,k,none⟩ (.int .i64 2)).setCell ⟨g,k+1,none⟩ (.int .i64 (-1))).heap.size,0,none⟩=some (.slice (some ⟨g,0,none⟩) n n):=by rw [hw5]; go_simp
     simp only [zAM] at hc5;have HW5:=zTD hw5;have HNV:=zTD (HS.newV hs5 0 rfl);have hone:(Value.slice (some ⟨g,0,none⟩) n n).oneCell'=true:=rfl;clear hw5 hsr hs8;go_wp2_with (at_builtin; go_must (rw [<-HW5.out]; refine zAH rfl _ _ rfl rfl hs5 0 rfl HNV.out rfl hc5 hone HZL.out ?_))
     intro v6 w6 hs6 _;have hs7:=(hs6.moreS 1 2 (by decide) rfl rfl (Z':=Z++[(.slice (some ⟨g,0,none⟩) n n,chR n k)]) (List.perm_append_singleton _ _)).pick [0,1] (by decide);have hs7:HS w w6 [aV 29 v6 ((Z++[(Value.slice (some ⟨g,0,none⟩) n n,chR n k)]).map Prod.fst),aRs (Z++[(Value.slice (some ⟨g,0,none⟩) n n,chR n k)])]:=by
      have e:(Z++[(Value.slice (some ⟨g,0,none⟩) n n,chR n k)]).map Prod.fst=Z.map Prod.fst++[Value.slice (some ⟨g,0,none⟩) n n]:=by simp
      rw [e]; exact hs7
     have HM2:Hid ((Z++[(Value.slice (some ⟨g,0,none⟩) n n,chR n k)]).map Prod.snd=(List.range (k+1)).map (chR n)):=zTD (by rw [List.map_append,HM.out,zBz]; rfl);clear hs5 hs6;go_wp2_with fail
     go_roundw
     case rel=>exact ⟨k+1,_,_,rfl,by omega,by go_num,hs7,HM2⟩
     case measure=>simp [intOf]; omega
    ·have i6:¬(k:Int)+1<(n:Int):=by omega
     have HCH:Hid ((List.replicate n (0:Int)).set k 2=chR n k):=zTD (by unfold chR chB; rw [if_neg hk1,if_neg hk0]);have hsr:HS w (w2.setCell ⟨g,k,none⟩ (.int .i64 2)) [aV 29 vo (Z.map Prod.fst),aRs Z,aI (.slice (some ⟨g,0,none⟩) n n) (chR n k)]:=by rw [<-HCH.out]; exact hs3
     obtain ⟨w5,hw5⟩:∃w5,w5=(w2.setCell ⟨g,k,none⟩ (.int .i64 2)).alloc (.cells #[.slice (some ⟨g,0,none⟩) n n] 29):=⟨_,rfl⟩;have hs5:=hsr.alloc (.cells #[.slice (some ⟨g,0,none⟩) n n] 29);rw [<-hw5] at hs5;have hc5:w5.cell? ⟨(w2.setCell ⟨g,k,none⟩ (.int .i64 2)).heap.size,0,none⟩=some (.slice (some ⟨g,0,none⟩) n n):=by rw [hw5]; go_simp
     simp only [zAM] at hc5;have HW5:=zTD hw5;have HNV:=zTD (HS.newV hs5 0 rfl);have hone:(Value.slice (some ⟨g,0,none⟩) n n).oneCell'=true:=rfl;clear hw5 hsr hs3;go_wp2_with (at_builtin; go_must (rw [<-HW5.out]; refine zAH rfl _ _ rfl rfl hs5 0 rfl HNV.out rfl hc5 hone HZL.out ?_))
     intro v6 w6 hs6 _;have hs7:=(hs6.moreS 1 2 (by decide) rfl rfl (Z':=Z++[(.slice (some ⟨g,0,none⟩) n n,chR n k)]) (List.perm_append_singleton _ _)).pick [0,1] (by decide);have hs7:HS w w6 [aV 29 v6 ((Z++[(Value.slice (some ⟨g,0,none⟩) n n,chR n k)]).map Prod.fst),aRs (Z++[(Value.slice (some ⟨g,0,none⟩) n n,chR n k)])]:=by
      have e:(Z++[(Value.slice (some ⟨g,0,none⟩) n n,chR n k)]).map Prod.fst=Z.map Prod.fst++[Value.slice (some ⟨g,0,none⟩) n n]:=by simp
      rw [e]; exact hs7
     have HM2:Hid ((Z++[(Value.slice (some ⟨g,0,none⟩) n n,chR n k)]).map Prod.snd=(List.range (k+1)).map (chR n)):=zTD (by rw [List.map_append,HM.out,zBz]; rfl);clear hs5 hs6;go_wp2_with fail
     go_roundw
     case rel=>exact ⟨k+1,_,_,rfl,by omega,by go_num,hs7,HM2⟩
     case measure=>simp [intOf]; omega
  ·have i1:¬(k:Int)<(n:Int):=by omega
   have e:k=n:=by omega
   have hs2:=((hs.shutF (Z:=Z) (v:=vo) 0 1 (by decide) rfl rfl).pick [0] (by decide));have hs3:HS w wr [aF vo (Z.map Prod.snd)]:=hs2;rw [HM.out,e] at hs3;clear hs hs2 e;go_wp2_with fail
   go_ret
   exact ⟨_,rfl,hs3.F 0 rfl,hs3.bl⟩
theorem zD4 {Z:Zl} {u:Nat} {v:Value} {l l':List Int} (h:Z[u]? = some (v,l)):(Z.set u (v,l')).map Prod.fst=Z.map Prod.fst:=by
 have hu:=(zTG h).1;rw [List.map_set];refine List.ext_getElem? fun m=>?_;by_cases e1:m=u
 ·subst e1;rw [List.getElem?_set_self (by simpa using hu),List.getElem?_map,h];rfl
 ·rw [List.getElem?_set_ne (Ne.symm e1)]
theorem zB8 {w0 w:World} {n:Nat} {v ev:Value} {Z:Zl} {e:List Int} (h:HS w0 w [aV 29 v (Z.map Prod.fst),aRs Z,aI ev e]) (hq:Sqn (Z.map Prod.snd) n) (he:EOk n e) (h4:n≤4) (hel:e.length≤60) :
  Calls Tryz.prog 188 #[v,ev] w fun x w'=>x=.returned v∧∃Z':Zl,Z'.map Prod.snd=zER (Z.map Prod.snd) e (e.length / 3)∧HS w0 w' [aV 29 v (Z'.map Prod.fst),aRs Z',aI ev e]:=by
 have mixed:Tryz.prog.follows .mixedOrders=true:=by kernel_rfl
 have HSQ:=zTD (fun k (hk:3*k≤e.length)=>zJL hq he k hk);have HEO:=zTD he;have HP0:Hid (Z.map Prod.snd=zER (Z.map Prod.snd) e 0):=zTD rfl;have HPS:Hid (∀k,zER (Z.map Prod.snd) e (k+1)=put1 (zER (Z.map Prod.snd) e k) (num e (3*k)).toNat (num e (3*k+1)).toNat (num e (3*k+2))):=zTD (fun k=>rfl);have HNUM:Hid (∀j x,e[j]? = some x→num e j=x):=zTD (fun j x hx=>by simp [num,hx]);obtain ⟨a,cap,rfl⟩:∃a cap,v=.slice a n cap:=by
  obtain ⟨⟨a,cap,hv⟩,_⟩:=h.formV 0 rfl;have:=hq.len;simp at this;exact ⟨a,cap,by rw [hv]; simp [this]⟩
 obtain ⟨ae,ce,rfl⟩:=h.formI 2 rfl;have h0:=h;generalize hP:zER (Z.map Prod.snd) e=P at *;generalize hm:e.length=m at *;have HM:=zTD hm;clear hP hm he hq;go_enter Tryz.func188,Tryz.ntmps188
 go_wp2_with fail
 go_loopw [5] (fun kk wr=>∃(k:Nat) (Y:Zl),3*k≤m∧kk=.int .i64 (3*k)∧HS w0 wr [aV 29 (.slice a n cap) (Y.map Prod.fst),aRs Y,aI (.slice ae m ce) e]∧Hid (Y.map Prod.snd=P k)) (fun kk _=>m-(intOf kk).toNat)
 case atStart=>exact ⟨0,Z,by omega,rfl,h0,HP0⟩
 case round =>
  clear h h0 HP0;obtain ⟨k,Y,hk,rfl,hs,HY⟩:=hrel;by_cases hkm:3*k+2<m
  ·have i1:3*(k:Int)+2<(m:Int):=by omega
   obtain ⟨i,j,e1,e2,hi,hj⟩:=HEO.out k (by rw [HM.out]; exact hkm);obtain ⟨x,e3⟩:=zBb (l:=e) HM.out hkm;have hsq:=HSQ.out k (by omega);rw [<-HY.out] at hsq;have hyl:Y.length=n:=by simpa using hsq.len
   obtain ⟨z,hz⟩:∃z,Y[i]? = some z:=⟨Y[i]'(by omega),zTE _⟩;have hzl:z.2.length=n:=hsq.row z.2 (List.mem_map_of_mem (zTF hz));obtain ⟨rv,lz⟩:=z;have hzl:lz.length=n:=hzl;obtain ⟨gr,cr,rfl⟩:∃gr cr,rv=.slice (some ⟨gr,0,none⟩) n cr:=by
    obtain ⟨F,hF,_⟩:=HSx.get hs 1 rfl;have hf:FI F wr rv lz:=hF.1 _ (zTF hz);obtain ⟨a9,c9,rfl⟩:=hf.form;obtain ⟨g9,rfl,_⟩:=hf.head (by omega);exact ⟨g9,c9,by rw [hzl]⟩
   obtain ⟨y,hy⟩:=zBb hzl hj;obtain ⟨gv,rfl⟩:∃gv,a=some ⟨gv,0,none⟩:=by
    obtain ⟨_,hh⟩:=hs.formV 0 rfl;obtain ⟨g9,c9,e9⟩:=hh (by simp; omega);simp only [Value.slice.injEq] at e9;exact ⟨g9,e9.1⟩
   obtain ⟨ge,rfl⟩:∃ge,ae=some ⟨ge,0,none⟩:=by
    obtain ⟨g9,c9,e9,_⟩:=hs.headI 2 rfl (by rw [HM.out]; omega);simp only [Value.slice.injEq] at e9;exact ⟨g9,e9.1⟩
   have HST:Hid ((Y.set i (Value.slice (some ⟨gr,0,none⟩) n cr,lz.set j x)).map Prod.snd=P (k+1)):=zTD (by
    rw [HPS.out,HNUM.out _ _ e1,HNUM.out _ _ e2,HNUM.out _ _ e3,<-HY.out,List.map_set];unfold put1;rw [Int.toNat_natCast,Int.toNat_natCast,List.getElem?_map,hz];rfl)
   have HFS:=zTD (zD4 (l':=lz.set j x) hz);have hsd:HS w0 wr.drew [aV 29 (.slice (some ⟨gv,0,none⟩) n cap) (Y.map Prod.fst),aRs Y,aI (.slice (some ⟨ge,0,none⟩) m ce) e]:=HSx.drew hs;have c1:=(hsd.cellI 2 rfl HM.out e1).1;have c2:=(hsd.cellI 2 rfl HM.out e2).1;have c3:=(hsd.cellI 2 rfl HM.out e3).1;have c4:=(hsd.cellV 0 rfl (j:=i) (r:=.slice (some ⟨gr,0,none⟩) n cr) (by simp [hz])).1;obtain ⟨c5,c6⟩:=HSx.cellS hsd 1 rfl hz hy;have hs9:=HS.putS hsd 1 rfl hz j x;have i2:(0:Int)≤(i:Int):=by omega
   have i3:(i:Int)<(n:Int):=by omega
   have i4:(0:Int)≤(j:Int):=by omega
   have i5:(j:Int)<(n:Int):=by omega
   have i6:(0:Int)≤3*(k:Int):=by omega
   have i7:3*(k:Int)+1<(m:Int):=by omega
   have i8:3*(k:Int)<(m:Int):=by omega
   have i9:3*(k:Int)+3=3*((k+1:Nat):Int):=by omega
   clear e1 e2 e3 hz hy hsq hs hi hj;have hs9:HS w0 (wr.drew.setCell ⟨gr,j,none⟩ (.int .i64 x)) [aV 29 (.slice (some ⟨gv,0,none⟩) n cap) ((Y.set i (Value.slice (some ⟨gr,0,none⟩) n cr,lz.set j x)).map Prod.fst),aRs (Y.set i (Value.slice (some ⟨gr,0,none⟩) n cr,lz.set j x)),aI (.slice (some ⟨ge,0,none⟩) m ce) e]:=by rw [HFS.out]; exact hs9
   go_wp2_with fail
   go_big_region_o
   go_wp2_with fail
   go_roundw
   case rel=>exact ⟨k+1,_,by omega,by go_num,hs9,HST⟩
   case measure=>simp [intOf]; omega
  ·have i1:¬3*(k:Int)+2<(m:Int):=by omega
   have ek:k=m / 3:=by omega
   rw [ek] at HY;clear ek;go_wp2_with fail
   go_ret
   exact ⟨rfl,Y,HY.out,hs⟩
def TcP (k:Nat) (w:World):Ending→World→Prop:=fun e w'=>∃r,e=.returned (.tuple #[r,.bool true])∧FII (New w w') w' r (tyMx k)∧Below w.heap.size w w'
theorem TcP.of {k:Nat} {w w':World} {r:Value} {L:List (List Int)} (h:FII (New w w') w' r L) (hb:Below w.heap.size w w') (e:L=tyMx k):TcP k w (.returned (.tuple #[r,.bool true])) w':=by subst e; exact ⟨r,rfl,h,hb⟩
theorem litN {w w1:World} (l:List Int) (hl:l.length≤1000) (h:w1=w.alloc (.cells (l.map (Value.int .i64)).toArray 3)):FI (New w w1) w1 (.slice (some ⟨w.heap.size,0,none⟩) l.length l.length) l∧Below w.heap.size w w1:=by
 subst h;exact ⟨FI.of_row (w:=w) (World.ownsRow_lit (base:=w.heap.size) (e:=3) (size:=1) w (l.map (Value.int .i64)).toArray l.length (zTI _) (by unfold maxLen; omega) (by simp)) (zTI _) rfl (by simp),(Below.refl _ w).alloc (zTI _) _⟩
theorem zC3 {n:Nat} {e:List Int} (h:(List.range (e.length / 3)).all (fun k=>decide (0≤num e (3*k)∧num e (3*k)<n∧0≤num e (3*k+1)∧num e (3*k+1)<n))=true):EOk n e:=fun k hk=>by
 have h1:=List.all_eq_true.1 h k (List.mem_range.2 (by omega));simp only [decide_eq_true_eq] at h1;obtain ⟨x,hx⟩:∃x,e[3*k]? = some x:=⟨e[3*k]'(by omega),zTE _⟩;obtain ⟨y,hy⟩:∃y,e[3*k+1]? = some y:=⟨e[3*k+1]'(by omega),zTE _⟩;have ex:num e (3*k)=x:=by simp [num,hx]
 have ey:num e (3*k+1)=y:=by simp [num,hy]
 rw [ex,ey] at h1;exact ⟨x.toNat,y.toNat,by rw [hx,Int.toNat_of_nonneg h1.1],by rw [hy,Int.toNat_of_nonneg h1.2.2.1],by omega,by omega⟩
theorem zRZ (w:World):Calls Tryz.prog 158 #[.string ⟨#[65,49]⟩] w (TcP 0 w):=by
 have HC:=zTD (fun wv=>zBF (n:=1) (by omega) wv);have hb:((((⟨#[65,49]⟩:ByteArray)[1]'(by decide)).toNat:Nat):Int)=49:=by decide
 go_enter Tryz.func158,Tryz.ntmps158
 go_wp2_with fail
 refine (HC.out w).mono ?_;rintro e w1 ⟨r1,rfl,f1,b1⟩;go_wp2_with fail
 go_ret2
 exact TcP.of f1 b1 (by decide)
theorem zRa (w:World):Calls Tryz.prog 158 #[.string ⟨#[65,50]⟩] w (TcP 1 w):=by
 have HC:=zTD (fun wv=>zBF (n:=2) (by omega) wv);have hb:((((⟨#[65,50]⟩:ByteArray)[1]'(by decide)).toNat:Nat):Int)=50:=by decide
 go_enter Tryz.func158,Tryz.ntmps158
 go_wp2_with fail
 refine (HC.out w).mono ?_;rintro e w1 ⟨r1,rfl,f1,b1⟩;go_wp2_with fail
 go_ret2
 exact TcP.of f1 b1 (by decide)
theorem zRb (w:World):Calls Tryz.prog 158 #[.string ⟨#[65,51]⟩] w (TcP 2 w):=by
 have HC:=zTD (fun wv=>zBF (n:=3) (by omega) wv);have hb:((((⟨#[65,51]⟩:ByteArray)[1]'(by decide)).toNat:Nat):Int)=51:=by decide
 go_enter Tryz.func158,Tryz.ntmps158
 go_wp2_with fail
 refine (HC.out w).mono ?_;rintro e w1 ⟨r1,rfl,f1,b1⟩;go_wp2_with fail
 go_ret2
 exact TcP.of f1 b1 (by decide)
theorem zRc (w:World):Calls Tryz.prog 158 #[.string ⟨#[65,52]⟩] w (TcP 3 w):=by
 have HC:=zTD (fun wv=>zBF (n:=4) (by omega) wv);have hb:((((⟨#[65,52]⟩:ByteArray)[1]'(by decide)).toNat:Nat):Int)=52:=by decide
 go_enter Tryz.func158,Tryz.ntmps158
 go_wp2_with fail
 refine (HC.out w).mono ?_;rintro e w1 ⟨r1,rfl,f1,b1⟩;go_wp2_with fail
 go_ret2
 exact TcP.of f1 b1 (by decide)
theorem zRd (w:World):Calls Tryz.prog 158 #[.string ⟨#[66,50]⟩] w (TcP 4 w):=by
 have HC:=zTD (fun wv=>zBF (n:=2) (by omega) wv);have hb:((((⟨#[66,50]⟩:ByteArray)[1]'(by decide)).toNat:Nat):Int)=50:=by decide
 go_enter Tryz.func158,Tryz.ntmps158
 go_wp2_with fail
 refine (HC.out w).mono ?_;rintro e w1 ⟨r1,rfl,f1,b1⟩;obtain ⟨Z,hZ,hs1⟩:=((HS.nil (Below.refl _ w)).addF b1 f1).openF 0 rfl;obtain ⟨w2,hw2⟩:∃w2,w2=w1.alloc (.cells #[.int .i64 1,.int .i64 0,.int .i64 (-2)] 3):=⟨_,rfl⟩;obtain ⟨f2,b2⟩:=litN (w:=w1) [1,0,-2] (by decide) hw2;have hs2:=HSx.addI hs1 b2 f2;have hs2:HS w w2 [aV 29 r1 (Z.map Prod.fst),aRs Z,aI (.slice (some ⟨w1.heap.size,0,none⟩) 3 3) [1,0,-2]]:=hs2;have HW:=zTD hw2;have hcall:=zB8 (n:=2) hs2 (by rw [hZ]; exact zAw _) (zC3 (by decide)) (by omega) (by decide);rw [hZ] at hcall;clear hw2 hs1 f1 b1 f2 b2 hs2;go_wp2_with fail
 rw [<-HW.out];refine hcall.mono ?_;rintro e w3 ⟨rfl,Z',hZ',hs3⟩;have hs4:=((hs3.shutF (Z:=Z') (v:=r1) 0 1 (by decide) rfl rfl).pick [0] (by decide));have hs4:HS w w3 [aF r1 (Z'.map Prod.snd)]:=hs4;rw [hZ'] at hs4;clear hcall hs3;go_wp2_with fail
 go_ret2
 exact TcP.of (hs4.F 0 rfl) hs4.bl (by decide)
theorem zRe (w:World):Calls Tryz.prog 158 #[.string ⟨#[66,51]⟩] w (TcP 5 w):=by
 have HC:=zTD (fun wv=>zBF (n:=3) (by omega) wv);have hb:((((⟨#[66,51]⟩:ByteArray)[1]'(by decide)).toNat:Nat):Int)=51:=by decide
 go_enter Tryz.func158,Tryz.ntmps158
 go_wp2_with fail
 refine (HC.out w).mono ?_;rintro e w1 ⟨r1,rfl,f1,b1⟩;obtain ⟨Z,hZ,hs1⟩:=((HS.nil (Below.refl _ w)).addF b1 f1).openF 0 rfl;obtain ⟨w2,hw2⟩:∃w2,w2=w1.alloc (.cells #[.int .i64 2,.int .i64 1,.int .i64 (-2)] 3):=⟨_,rfl⟩;obtain ⟨f2,b2⟩:=litN (w:=w1) [2,1,-2] (by decide) hw2;have hs2:=HSx.addI hs1 b2 f2;have hs2:HS w w2 [aV 29 r1 (Z.map Prod.fst),aRs Z,aI (.slice (some ⟨w1.heap.size,0,none⟩) 3 3) [2,1,-2]]:=hs2;have HW:=zTD hw2;have hcall:=zB8 (n:=3) hs2 (by rw [hZ]; exact zAw _) (zC3 (by decide)) (by omega) (by decide);rw [hZ] at hcall;clear hw2 hs1 f1 b1 f2 b2 hs2;go_wp2_with fail
 rw [<-HW.out];refine hcall.mono ?_;rintro e w3 ⟨rfl,Z',hZ',hs3⟩;have hs4:=((hs3.shutF (Z:=Z') (v:=r1) 0 1 (by decide) rfl rfl).pick [0] (by decide));have hs4:HS w w3 [aF r1 (Z'.map Prod.snd)]:=hs4;rw [hZ'] at hs4;clear hcall hs3;go_wp2_with fail
 go_ret2
 exact TcP.of (hs4.F 0 rfl) hs4.bl (by decide)
theorem zRf (w:World):Calls Tryz.prog 158 #[.string ⟨#[66,52]⟩] w (TcP 6 w):=by
 have HC:=zTD (fun wv=>zBF (n:=4) (by omega) wv);have hb:((((⟨#[66,52]⟩:ByteArray)[1]'(by decide)).toNat:Nat):Int)=52:=by decide
 go_enter Tryz.func158,Tryz.ntmps158
 go_wp2_with fail
 refine (HC.out w).mono ?_;rintro e w1 ⟨r1,rfl,f1,b1⟩;obtain ⟨Z,hZ,hs1⟩:=((HS.nil (Below.refl _ w)).addF b1 f1).openF 0 rfl;obtain ⟨w2,hw2⟩:∃w2,w2=w1.alloc (.cells #[.int .i64 3,.int .i64 2,.int .i64 (-2)] 3):=⟨_,rfl⟩;obtain ⟨f2,b2⟩:=litN (w:=w1) [3,2,-2] (by decide) hw2;have hs2:=HSx.addI hs1 b2 f2;have hs2:HS w w2 [aV 29 r1 (Z.map Prod.fst),aRs Z,aI (.slice (some ⟨w1.heap.size,0,none⟩) 3 3) [3,2,-2]]:=hs2;have HW:=zTD hw2;have hcall:=zB8 (n:=4) hs2 (by rw [hZ]; exact zAw _) (zC3 (by decide)) (by omega) (by decide);rw [hZ] at hcall;clear hw2 hs1 f1 b1 f2 b2 hs2;go_wp2_with fail
 rw [<-HW.out];refine hcall.mono ?_;rintro e w3 ⟨rfl,Z',hZ',hs3⟩;have hs4:=((hs3.shutF (Z:=Z') (v:=r1) 0 1 (by decide) rfl rfl).pick [0] (by decide));have hs4:HS w w3 [aF r1 (Z'.map Prod.snd)]:=hs4;rw [hZ'] at hs4;clear hcall hs3;go_wp2_with fail
 go_ret2
 exact TcP.of (hs4.F 0 rfl) hs4.bl (by decide)
theorem zRg (w:World):Calls Tryz.prog 158 #[.string ⟨#[67,51]⟩] w (TcP 7 w):=by
 have HC:=zTD (fun wv=>zBF (n:=3) (by omega) wv);have hb:((((⟨#[67,51]⟩:ByteArray)[1]'(by decide)).toNat:Nat):Int)=51:=by decide
 go_enter Tryz.func158,Tryz.ntmps158
 go_wp2_with fail
 refine (HC.out w).mono ?_;rintro e w1 ⟨r1,rfl,f1,b1⟩;obtain ⟨Z,hZ,hs1⟩:=((HS.nil (Below.refl _ w)).addF b1 f1).openF 0 rfl;obtain ⟨w2,hw2⟩:∃w2,w2=w1.alloc (.cells #[.int .i64 1,.int .i64 2,.int .i64 (-2)] 3):=⟨_,rfl⟩;obtain ⟨f2,b2⟩:=litN (w:=w1) [1,2,-2] (by decide) hw2;have hs2:=HSx.addI hs1 b2 f2;have hs2:HS w w2 [aV 29 r1 (Z.map Prod.fst),aRs Z,aI (.slice (some ⟨w1.heap.size,0,none⟩) 3 3) [1,2,-2]]:=hs2;have HW:=zTD hw2;have hcall:=zB8 (n:=3) hs2 (by rw [hZ]; exact zAw _) (zC3 (by decide)) (by omega) (by decide);rw [hZ] at hcall;clear hw2 hs1 f1 b1 f2 b2 hs2;go_wp2_with fail
 rw [<-HW.out];refine hcall.mono ?_;rintro e w3 ⟨rfl,Z',hZ',hs3⟩;have hs4:=((hs3.shutF (Z:=Z') (v:=r1) 0 1 (by decide) rfl rfl).pick [0] (by decide));have hs4:HS w w3 [aF r1 (Z'.map Prod.snd)]:=hs4;rw [hZ'] at hs4;clear hcall hs3;go_wp2_with fail
 go_ret2
 exact TcP.of (hs4.F 0 rfl) hs4.bl (by decide)
theorem zRh (w:World):Calls Tryz.prog 158 #[.string ⟨#[67,52]⟩] w (TcP 8 w):=by
 have HC:=zTD (fun wv=>zBF (n:=4) (by omega) wv);have hb:((((⟨#[67,52]⟩:ByteArray)[1]'(by decide)).toNat:Nat):Int)=52:=by decide
 go_enter Tryz.func158,Tryz.ntmps158
 go_wp2_with fail
 refine (HC.out w).mono ?_;rintro e w1 ⟨r1,rfl,f1,b1⟩;obtain ⟨Z,hZ,hs1⟩:=((HS.nil (Below.refl _ w)).addF b1 f1).openF 0 rfl;obtain ⟨w2,hw2⟩:∃w2,w2=w1.alloc (.cells #[.int .i64 2,.int .i64 3,.int .i64 (-2)] 3):=⟨_,rfl⟩;obtain ⟨f2,b2⟩:=litN (w:=w1) [2,3,-2] (by decide) hw2;have hs2:=HSx.addI hs1 b2 f2;have hs2:HS w w2 [aV 29 r1 (Z.map Prod.fst),aRs Z,aI (.slice (some ⟨w1.heap.size,0,none⟩) 3 3) [2,3,-2]]:=hs2;have HW:=zTD hw2;have hcall:=zB8 (n:=4) hs2 (by rw [hZ]; exact zAw _) (zC3 (by decide)) (by omega) (by decide);rw [hZ] at hcall;clear hw2 hs1 f1 b1 f2 b2 hs2;go_wp2_with fail
 rw [<-HW.out];refine hcall.mono ?_;rintro e w3 ⟨rfl,Z',hZ',hs3⟩;have hs4:=((hs3.shutF (Z:=Z') (v:=r1) 0 1 (by decide) rfl rfl).pick [0] (by decide));have hs4:HS w w3 [aF r1 (Z'.map Prod.snd)]:=hs4;rw [hZ'] at hs4;clear hcall hs3;go_wp2_with fail
 go_ret2
 exact TcP.of (hs4.F 0 rfl) hs4.bl (by decide)
theorem zRi (w:World):Calls Tryz.prog 158 #[.string ⟨#[68,52]⟩] w (TcP 9 w):=by
 have HC:=zTD (fun wv=>zBF (n:=4) (by omega) wv);have hb:((((⟨#[68,52]⟩:ByteArray)[1]'(by decide)).toNat:Nat):Int)=52:=by decide
 go_enter Tryz.func158,Tryz.ntmps158
 go_wp2_with fail
 refine (HC.out w).mono ?_;rintro e w1 ⟨r1,rfl,f1,b1⟩;obtain ⟨Z,hZ,hs1⟩:=((HS.nil (Below.refl _ w)).addF b1 f1).openF 0 rfl;obtain ⟨w2,hw2⟩:∃w2,w2=w1.alloc (.cells #[.int .i64 2,.int .i64 3,.int .i64 0,.int .i64 3,.int .i64 2,.int .i64 0,.int .i64 1,.int .i64 3,.int .i64 (-1),.int .i64 3,.int .i64 1,.int .i64 (-1)] 3):=⟨_,rfl⟩;obtain ⟨f2,b2⟩:=litN (w:=w1) [2,3,0,3,2,0,1,3,-1,3,1,-1] (by decide) hw2;have hs2:=HSx.addI hs1 b2 f2;have hs2:HS w w2 [aV 29 r1 (Z.map Prod.fst),aRs Z,aI (.slice (some ⟨w1.heap.size,0,none⟩) 12 12) [2,3,0,3,2,0,1,3,-1,3,1,-1]]:=hs2;have HW:=zTD hw2;have hcall:=zB8 (n:=4) hs2 (by rw [hZ]; exact zAw _) (zC3 (by decide)) (by omega) (by decide);rw [hZ] at hcall;clear hw2 hs1 f1 b1 f2 b2 hs2;go_wp2_with fail
 rw [<-HW.out];refine hcall.mono ?_;rintro e w3 ⟨rfl,Z',hZ',hs3⟩;have hs4:=((hs3.shutF (Z:=Z') (v:=r1) 0 1 (by decide) rfl rfl).pick [0] (by decide));have hs4:HS w w3 [aF r1 (Z'.map Prod.snd)]:=hs4;rw [hZ'] at hs4;clear hcall hs3;go_wp2_with fail
 go_ret2
 exact TcP.of (hs4.F 0 rfl) hs4.bl (by decide)
theorem zPi (w:World):Calls Tryz.prog 158 #[.string ⟨#[70,52]⟩] w (TcP 10 w):=by
 have HC:=zTD (fun wv=>zBF (n:=4) (by omega) wv);have hb:((((⟨#[70,52]⟩:ByteArray)[1]'(by decide)).toNat:Nat):Int)=52:=by decide
 go_enter Tryz.func158,Tryz.ntmps158
 go_wp2_with fail
 refine (HC.out w).mono ?_;rintro e w1 ⟨r1,rfl,f1,b1⟩;obtain ⟨Z,hZ,hs1⟩:=((HS.nil (Below.refl _ w)).addF b1 f1).openF 0 rfl;obtain ⟨w2,hw2⟩:∃w2,w2=w1.alloc (.cells #[.int .i64 2,.int .i64 1,.int .i64 (-2)] 3):=⟨_,rfl⟩;obtain ⟨f2,b2⟩:=litN (w:=w1) [2,1,-2] (by decide) hw2;have hs2:=HSx.addI hs1 b2 f2;have hs2:HS w w2 [aV 29 r1 (Z.map Prod.fst),aRs Z,aI (.slice (some ⟨w1.heap.size,0,none⟩) 3 3) [2,1,-2]]:=hs2;have HW:=zTD hw2;have hcall:=zB8 (n:=4) hs2 (by rw [hZ]; exact zAw _) (zC3 (by decide)) (by omega) (by decide);rw [hZ] at hcall;clear hw2 hs1 f1 b1 f2 b2 hs2;go_wp2_with fail
 rw [<-HW.out];refine hcall.mono ?_;rintro e w3 ⟨rfl,Z',hZ',hs3⟩;have hs4:=((hs3.shutF (Z:=Z') (v:=r1) 0 1 (by decide) rfl rfl).pick [0] (by decide));have hs4:HS w w3 [aF r1 (Z'.map Prod.snd)]:=hs4;rw [hZ'] at hs4;clear hcall hs3;go_wp2_with fail
 go_ret2
 exact TcP.of (hs4.F 0 rfl) hs4.bl (by decide)
theorem zPj (w:World):Calls Tryz.prog 158 #[.string ⟨#[71,50]⟩] w (TcP 11 w):=by
 have HC:=zTD (fun wv=>zBF (n:=2) (by omega) wv);have hb:((((⟨#[71,50]⟩:ByteArray)[1]'(by decide)).toNat:Nat):Int)=50:=by decide
 go_enter Tryz.func158,Tryz.ntmps158
 go_wp2_with fail
 refine (HC.out w).mono ?_;rintro e w1 ⟨r1,rfl,f1,b1⟩;obtain ⟨Z,hZ,hs1⟩:=((HS.nil (Below.refl _ w)).addF b1 f1).openF 0 rfl;obtain ⟨w2,hw2⟩:∃w2,w2=w1.alloc (.cells #[.int .i64 1,.int .i64 0,.int .i64 (-3)] 3):=⟨_,rfl⟩;obtain ⟨f2,b2⟩:=litN (w:=w1) [1,0,-3] (by decide) hw2;have hs2:=HSx.addI hs1 b2 f2;have hs2:HS w w2 [aV 29 r1 (Z.map Prod.fst),aRs Z,aI (.slice (some ⟨w1.heap.size,0,none⟩) 3 3) [1,0,-3]]:=hs2;have HW:=zTD hw2;have hcall:=zB8 (n:=2) hs2 (by rw [hZ]; exact zAw _) (zC3 (by decide)) (by omega) (by decide);rw [hZ] at hcall;clear hw2 hs1 f1 b1 f2 b2 hs2;go_wp2_with fail
 rw [<-HW.out];refine hcall.mono ?_;rintro e w3 ⟨rfl,Z',hZ',hs3⟩;have hs4:=((hs3.shutF (Z:=Z') (v:=r1) 0 1 (by decide) rfl rfl).pick [0] (by decide));have hs4:HS w w3 [aF r1 (Z'.map Prod.snd)]:=hs4;rw [hZ'] at hs4;clear hcall hs3;go_wp2_with fail
 go_ret2
 exact TcP.of (hs4.F 0 rfl) hs4.bl (by decide)
theorem zIH {S:Nat→Prop} {wr:World} {a:Option Addr} {n cap:Nat} {c:List (List Int)} {m:Nat} (h:RII S wr (.slice a n cap) c) (hq:Sqn c m) {i j:Nat} (hi:i<m) (hj:j<m) :
  ∃b o b' o' c',a=some ⟨b,o,none⟩∧n=m∧wr.cell? ⟨b,o+i,none⟩=some (.slice (some ⟨b',o',none⟩) m c')∧wr.cell? ⟨b',o'+j,none⟩=some (.int .i64 (ent c i j)):=by
 obtain ⟨a9,c9,e9⟩:=h.form;simp only [Value.slice.injEq] at e9;obtain ⟨_,hn,_⟩:=e9;rw [hq.len] at hn;obtain ⟨b,o,r,l,ha,hc,hr,hl⟩:=RII.at (j:=i) h (by omega);have hll:=hq.row l (zTF hl.out);obtain ⟨a3,c3,rfl⟩:=hr.form;rw [hll] at hr hc;obtain ⟨b',o',x,rfl,hx,hxx⟩:=RI.at hr hj;refine ⟨b,o,b',o',c3,ha,hn,hc,?_⟩;rw [hx];unfold ent;rw [hl.out];simp [hxx.out]
theorem zEF (k:Nat):∀o:List Nat,hasI (k:Int) (iL o)=decide (k∈o)
 | []=>rfl
 | y::o=>by
  have ih:=zEF k o;show (if (y:Int)=(k:Int) then true else hasI (k:Int) (iL o))=decide (k∈y::o);by_cases h:y=k
  ·subst h; simp
  ·rw [if_neg (by omega),ih];have:k≠y:=fun e=>h e.symm;simp [this]
theorem zC9 {α:Type} {g:Nat→Option α} {k:Nat} (h:(List.range k).findSome? g=none) (hk:g k=none):(List.range (k+1)).findSome? g=none:=by
 rw [List.range_succ,List.findSome?_append,h];simp [hk]
theorem zJp {α:Type} {g:Nat→Option α} {k n:Nat} {x:α} (hkn:k<n) (h:(List.range k).findSome? g=none) (hk:g k=some x):(List.range n).findSome? g=some x:=by
 have e:List.range n=List.range (k+1)++(List.range (n-(k+1))).map (k+1 + ·):=by
  rw [<-List.range_add]; congr 1; omega
 rw [e,List.findSome?_append,List.range_succ,List.findSome?_append,h];simp [hk]
def ftB (a b:List (List Int)) (o:List Nat) (i j:Nat):Bool:=decide (ent a i ((o[j]?).getD 0)=ent b o.length j) && decide (ent a ((o[j]?).getD 0) i=ent b j o.length)
def ftTo (a b:List (List Int)) (o:List Nat) (i m:Nat):Bool:=(List.range m).all (ftB a b o i)
theorem zMP (a b:List (List Int)) (o:List Nat) (i m:Nat):ftTo a b o i (m+1)=(ftTo a b o i m && ftB a b o i m):=by
 unfold ftTo;rw [List.range_succ,List.all_append];simp
def mtG (a b:List (List Int)) (f:Nat) (o:List Nat) (i:Nat):Option (List Nat):=if i∈o then none else if fitB a b o i=true then mt1 a b f (o++[i]) else none
theorem zO2 (a b:List (List Int)) (f:Nat) (o:List Nat):mt1 a b (f+1) o=(List.range a.length).findSome? (mtG a b f o):=rfl
def MtC (a b:List (List Int)) (f:Nat) (o:List Nat) (w:World):Ending→World→Prop:=fun e w'=>∃r vs,e=.returned r∧HS w w' [aV 29 r vs]∧vs.length=(if (mt1 a b f o).isSome then 1 else 0)∧∀u∈vs,u.oneCell'=true
def MtP (a b:List (List Int)) (f:Nat):Prop:=∀{S S1 S2:Nat→Prop} {u1 u2 u3:Value} {o:List Nat} {w:World},RII S w u1 a→RII S1 w u2 b→RI S2 w u3 (iL o)→o.length+f=b.length→(∀x∈o,x<a.length) →
 Calls Tryz.prog 189 #[u1,u2,u3,.int .i64 1] w (MtC a b f o w)
theorem zO4 {a b:List (List Int)} (h4:b.length≤4):MtP a b 0:=by
 intro S S1 S2 u1 u2 u3 o w h1 h2 h3 hf hm;have HRES:Hid (MtC a b 0 o w=fun e w'=>∃r vs,e=.returned r∧HS w w' [aV 29 r vs]∧vs.length=(if (mt1 a b 0 o).isSome then 1 else 0)∧∀u∈vs,u.oneCell'=true):=zTD rfl;have mixed:Tryz.prog.follows .mixedOrders=true:=by kernel_rfl
 have hil:(iL o).length=o.length:=by simp [iL]
 have hc:=zHP h3 (by rw [hil]; omega);obtain ⟨ab,cb,rfl⟩:=h2.form;obtain ⟨ao,co,rfl⟩:=h3.form;rw [hil] at hc ⊢;have e0:(((o.length:Nat):Int) == ((b.length:Nat):Int))=true:=by simp; omega
 clear h1 h2 h3;go_enter Tryz.func189,Tryz.ntmps189
 go_wp2_with fail
 refine hc.mono ?_;rintro e w1 ⟨r1,rfl,f1,b1⟩;have hone:r1.oneCell'=true:=oneC f1.reads;have hs1:=(HS.nil (Below.refl _ w)).addI b1 f1;obtain ⟨ar,cr,rfl⟩:=f1.form;rw [hil] at hs1 hone ⊢;have hs2:=HSx.newV1 hs1 (.slice ar o.length cr) rfl;have hs3:=hs2.pick [1] (by decide);clear hc hs1 hs2 f1 b1;go_wp2_with fail
 go_ret
 rw [HRES.out];exact ⟨_,[.slice ar o.length cr],rfl,hs3,rfl,fun u hu=>by simp at hu; subst hu; exact hone⟩
theorem zO3 {a b:List (List Int)} {n:Nat} (hqa:Sqn a n) (hqb:Sqn b n) (h4:n≤4) {f:Nat} (ih:MtP a b f):MtP a b (f+1):=by
 intro S S1 S2 u1 u2 u3 o w h1 h2 h3 hf hm;have HRES:Hid (MtC a b (f+1) o w=fun e w'=>∃r vs,e=.returned r∧HS w w' [aV 29 r vs]∧vs.length=(if (mt1 a b (f+1) o).isSome then 1 else 0)∧∀u∈vs,u.oneCell'=true):=zTD rfl;have mixed:Tryz.prog.follows .mixedOrders=true:=by kernel_rfl
 have hil:(iL o).length=o.length:=by simp [iL]
 have hon:o.length<n:=by have:=hqb.len; omega
 have HMT:Hid (mt1 a b (f+1) o=(List.range n).findSome? (mtG a b f o)):=zTD (by rw [zO2,hqa.len]);have HG:=zTD (fun i=>show mtG a b f o i=if i∈o then none else if ftTo a b o i o.length=true then mt1 a b f (o++[i]) else none from rfl);have HFS:=zTD (zMP a b o);have HF0:Hid (∀i,ftTo a b o i 0=true):=zTD (fun i=>rfl);have HIN:=zTD (fun k=>zEF k o);have HIH:=zTD (fun (w5:World) (S9:Nat→Prop) (v9:Value) (i:Nat) (hb:Below w.heap.size w w5) (hr:RI S9 w5 v9 (iL (o++[i]))) (hi:i<n)=>ih (h1.below hb) (h2.below hb) hr (by simp; omega) (fun x hx=>by
  rcases List.mem_append.1 hx with hx | hx
  ·exact hm x hx
  ·simp at hx; subst hx; rw [hqa.len]; exact hi))
 have HOM:Hid (∀j p,o[j]? = some p→p<n):=zTD (fun j p hp=>by have:=hm p (zTF hp); rw [hqa.len] at this; exact this);have HFB:=zTD (fun i j p (hp:o[j]? = some p)=>show ftB a b o i j=(decide (ent a i p=ent b o.length j) && decide (ent a p i=ent b j o.length)) from by unfold ftB; rw [hp]; rfl);have ha0:=h1;have hb0:=h2;have ho0:=h3;obtain ⟨aa,ca,rfl⟩:=h1.form;obtain ⟨ab,cb,rfl⟩:=h2.form;obtain ⟨ao,co,rfl⟩:=h3.form;rw [hqa.len] at ha0 h1 HIH ⊢;rw [hqb.len] at hb0 h2 HIH ⊢;rw [hil] at ho0 h3 ⊢;generalize hl:o.length=l at *;have HL:=zTD hl;have e0:(((l:Nat):Int) == ((n:Nat):Int))=false:=by simp; omega
 obtain ⟨w1,hw1⟩:∃w1,w1=w.alloc (.cells #[] 29):=⟨_,rfl⟩;have hs1:=zAj (HS.nil (Below.refl _ w)) hw1;have hs1:HS w w1 [aV 29 (.slice (some ⟨w.heap.size,0,none⟩) 0 0) []]:=hs1;have HW1:=zTD hw1;have HN0:Hid ((List.range 0).findSome? (mtG a b f o)=none):=zTD rfl;clear hw1 hl hf hm h1 h2 h3 hil ih;go_enter Tryz.func189,Tryz.ntmps189
 go_wp2_with fail
 rw [<-HW1.out];go_loopw [10,27] (fun oo kk wr=>∃(k:Nat) (vo:Value),vo=oo∧k≤n∧kk=.int .i64 k∧HS w wr [aV 29 vo []]∧Hid ((List.range k).findSome? (mtG a b f o)=none)) (fun _ kk _=>n-(intOf kk).toNat)
 case atStart=>exact ⟨0,_,rfl,Nat.zero_le _,rfl,hs1,HN0⟩
 case round =>
  clear hs1 HN0;obtain ⟨k,vo,rfl,hk,rfl,hs,HN⟩:=hrel;by_cases hkn:k<n
  ·have i1:(k:Int)<(n:Int):=by omega
   have i2:(0:Int)≤(k:Int):=by omega
   have hcon:=zD5 (ho0.below hs.bl) (k:Int) (by rw [show (iL o).length=o.length by simp [iL],HL.out]; omega);rw [HIN.out] at hcon;by_cases hin:k∈o
   ·have HN2:Hid ((List.range (k+1)).findSome? (mtG a b f o)=none):=zTD (zC9 HN.out (by rw [HG.out,if_pos hin]));rw [decide_eq_true hin] at hcon;go_wp2_with fail
    refine hcon.mono ?_;rintro e w2 ⟨rfl,rfl⟩;go_wp2_with fail
    go_roundw
    case rel=>exact ⟨k+1,_,rfl,by omega,by go_num,hs,HN2⟩
    case measure=>simp [intOf]; omega
   ·rw [decide_eq_false hin] at hcon;have HNI:=zTD hin;clear hin;go_wp2_with fail
    refine hcon.mono ?_;rintro e w2 ⟨rfl,rfl⟩;clear hcon;have HT0:=zTD (HF0.out k);go_wp2_with fail
    go_loopw [12,35] (fun tt jj w3=>∃(j:Nat) (t:Bool),j≤l∧jj=.int .i64 j∧tt=.bool t∧HS w w3 [aV 29 vo []]∧Hid (ftTo a b o k j=t)) (fun _ jj _=>l-(intOf jj).toNat)
    case atStart=>exact ⟨0,true,Nat.zero_le _,rfl,rfl,hs,HT0⟩
    case round =>
     clear hs HT0;obtain ⟨j,t,hj,rfl,rfl,hs,HT⟩:=hrel;by_cases hjl:j<l
     ·have j1:(j:Int)<(l:Int):=by omega
      have j2:(0:Int)≤(j:Int):=by omega
      obtain ⟨p,hp⟩:∃p,o[j]? = some p:=⟨o[j]'(by rw [HL.out]; exact hjl),zTE _⟩;have hpn:=HOM.out j p hp;have HST:Hid (ftTo a b o k (j+1)=(t && (decide (ent a k p=ent b l j) && decide (ent a p k=ent b j l)))):=zTD (by rw [HFS.out,HT.out,HFB.out k j p hp]);have hod:=ho0.below hs.bl;obtain ⟨b1,o1,x1,rfl,hc1,hx1⟩:=RI.at hod hjl;have hx1:x1=(p:Int):=by
       have:=hx1.out;simp only [iL,List.getElem?_map,hp,Option.map_some,Option.some.injEq] at this;exact this.symm
      subst hx1;have i3:(0:Int)≤(p:Int):=by omega
      have i4:(p:Int)<(n:Int):=by omega
      have i5:(l:Int)<(n:Int):=by omega
      have i6:(0:Int)≤(l:Int):=by omega
      have i7:(j:Int)<(n:Int):=by omega
      have hsd:HS w wr.drew [aV 29 vo []]:=HSx.drew hs;have had:=ha0.below hsd.bl;have hbd:=hb0.below hsd.bl;clear hp hod;cases t with
      | false =>
       have HST2:Hid (ftTo a b o k (j+1)=false):=zTD (by rw [HST.out]; rfl);go_wp2_with fail
       go_big_region_o
       go_wp2_with fail
       go_roundw
       case rel=>exact ⟨j+1,false,by omega,by go_num,rfl,hsd,HST2⟩
       case measure=>simp [intOf]; omega
      | true =>
       obtain ⟨bA,oA,bB,oB,cB,rfl,_,q1,q2⟩:=zIH had hqa hkn hpn;obtain ⟨bC,oC,bD,oD,cD,rfl,_,q3,q4⟩:=zIH hbd hqb (show l<n by omega) (show j<n by omega);by_cases he1:ent a k p=ent b l j
       ·obtain ⟨bE,oE,bF,oF,cF,e1,_,q5,q6⟩:=zIH had hqa hpn hkn;obtain ⟨bG,oG,bH,oH,cH,e2,_,q7,q8⟩:=zIH hbd hqb (show j<n by omega) (show l<n by omega);simp only [Option.some.injEq,Addr.mk.injEq,and_true] at e1 e2;obtain ⟨rfl,rfl⟩:=e1;obtain ⟨rfl,rfl⟩:=e2;rw [<-he1] at q4;by_cases he2:ent a p k=ent b j l
        ·have HST2:Hid (ftTo a b o k (j+1)=true):=zTD (by rw [HST.out,decide_eq_true he1,decide_eq_true he2]; rfl);rw [<-he2] at q8;clear he1 he2;generalize ent a k p=y1 at *;generalize ent a p k=y2 at *;go_wp2_with fail
         go_big_region_o
         go_wp2_with fail
         go_roundw
         case rel=>exact ⟨j+1,true,by omega,by go_num,rfl,hsd,HST2⟩
         case measure=>simp [intOf]; omega
        ·have HST2:Hid (ftTo a b o k (j+1)=false):=zTD (by rw [HST.out,decide_eq_true he1,decide_eq_false he2]; rfl);have he3:(ent a p k == ent b j l)=false:=by simp [he2]
         clear he1 he2;generalize ent a k p=y1 at *;generalize ent a p k=y2 at *;generalize ent b j l=y3 at *;go_wp2_with fail
         go_big_region_o
         go_wp2_with fail
         go_roundw
         case rel=>exact ⟨j+1,false,by omega,by go_num,rfl,hsd,HST2⟩
         case measure=>simp [intOf]; omega
       ·have HST2:Hid (ftTo a b o k (j+1)=false):=zTD (by rw [HST.out,decide_eq_false he1]; rfl);have he3:(ent a k p == ent b l j)=false:=by simp [he1]
        clear he1;generalize ent a k p=y1 at *;generalize ent b l j=y3 at *;go_wp2_with fail
        go_big_region_o
        go_wp2_with fail
        go_roundw
        case rel=>exact ⟨j+1,false,by omega,by go_num,rfl,hsd,HST2⟩
        case measure=>simp [intOf]; omega
     ·have j1:¬(j:Int)<(l:Int):=by omega
      have ej:j=l:=by omega
      rw [ej] at HT;clear ej hjl;obtain ⟨⟨av,cv,rfl⟩,_⟩:=hs.formV 0 rfl;simp only [List.length_nil] at hs ⊢;cases t with
      | false =>
       have HN2:Hid ((List.range (k+1)).findSome? (mtG a b f o)=none):=zTD (zC9 HN.out (by rw [HG.out,if_neg HNI.out,HT.out]; rfl));go_wp2_with fail
       go_roundw
       case rel=>exact ⟨k+1,_,rfl,by omega,by go_num,hs,HN2⟩
       case measure=>simp [intOf]; omega
      | true =>
       have HGK:Hid (mtG a b f o k=mt1 a b f (o++[k])):=zTD (by rw [HG.out,if_neg HNI.out,HT.out]; rfl);have hcl:=zHP (ho0.below hs.bl) (by rw [show (iL o).length=o.length by simp [iL],HL.out]; omega);go_wp2_with fail
       refine hcl.mono ?_;rintro e w4 ⟨r4,rfl,f4,b4⟩;have hs4:=HSx.addI hs b4 f4;obtain ⟨w5,hw5⟩:∃w5,w5=w4.alloc (.cells #[.int .i64 k] 3):=⟨_,rfl⟩;have hs5:HS w w5 [aV 29 (.slice av 0 cv) [],aI r4 (iL o)]:=by rw [hw5]; exact HSx.alloc hs4 _
       have hc5:w5.cell? ⟨w4.heap.size,0,none⟩=some (.int .i64 k):=by rw [hw5]; go_simp
       have HW5:=zTD hw5;have HLN:Hid ((iL o).length+1≤67108864):=zTD (by rw [show (iL o).length=o.length by simp [iL],HL.out]; omega);clear hcl hs4 f4 b4 hs hw5;go_wp2_with (at_builtin; go_must (rw [<-HW5.out]; refine zAd rfl _ _ rfl rfl hs5 1 rfl rfl hc5 HLN.out ?_))
       intro v6 w6 hs6;have hs6:HS w w6 [aV 29 (.slice av 0 cv) [],aI v6 (iL (o++[k]))]:=by rw [show iL (o++[k])=iL o++[(k:Int)] by simp [iL]]; exact hs6
       have hrec:=HIH.out w6 _ v6 k hs6.bl (HS.I hs6 1 rfl).reads hkn;clear hs5;go_wp2_with fail
       refine hrec.mono ?_;rintro e w7 ⟨r7,vs,rfl,h7,hvl,hv1⟩;obtain ⟨F,hF,hFn⟩:=h7.get 0 rfl;have hs6:=HSx.pick hs6 [0] (by decide);have hs7:=HSx.add hs6 h7.bl (st_V _ _ _) hF hFn;have hs7:HS w w7 [aV 29 (.slice av 0 cv) [],aV 29 r7 vs]:=hs7;have HNV:=zTD (HS.newV hs7 0 rfl);have hrow:=hF.1.2;clear hrec h7 hF hFn hs6;cases hmt:mt1 a b f (o++[k]) with
       | none =>
        have HN2:Hid ((List.range (k+1)).findSome? (mtG a b f o)=none):=zTD (zC9 HN.out (by rw [HGK.out,hmt]));rw [hmt] at hvl;have hv0:vs=[]:=List.eq_nil_of_length_eq_zero (by simpa using hvl);subst hv0;clear hmt hvl hv1;rcases hrow with ⟨rfl,_⟩ | ⟨g7,c7,cur7,rfl,_⟩
        ·go_wp2_with (at_builtin; go_must (refine zIC rfl _ _ Tryz.underlying24 zCN rfl rfl hs7 0 rfl rfl ?_))
         have hs8:HS w w7 [aV 29 (.slice av 0 cv) []]:=HSx.pick hs7 [0] (by decide);clear hs7;go_wp2_with fail
         go_roundw
         case rel=>exact ⟨k+1,_,rfl,by omega,by go_num,hs8,HN2⟩
         case measure=>simp [intOf]; omega
        ·simp only [List.length_nil] at hs7 ⊢;go_wp2_with (at_builtin; go_must (refine zDB rfl _ _ rfl rfl hs7 0 1 rfl rfl rfl HNV.out rfl (fun u hu=>by simp at hu) (by simp) ?_))
         intro v8 w8 hs8 _;have hs8:HS w w8 [aV 29 v8 []]:=HSx.pick hs8 [0] (by decide);obtain ⟨⟨a8,c8,rfl⟩,_⟩:=hs8.formV 0 rfl;simp only [List.length_nil] at hs8 ⊢;clear hs7;go_wp2_with fail
         go_roundw
         case rel=>exact ⟨k+1,_,rfl,by omega,by go_num,hs8,HN2⟩
         case measure=>simp [intOf]; omega
       | some x =>
        have HSM:Hid ((mt1 a b (f+1) o).isSome=true):=zTD (by rw [HMT.out,zJp hkn HN.out (HGK.out.trans hmt)]; rfl);rw [hmt] at hvl;have hvl:vs.length=1:=by simpa using hvl
        have HV1:=zTD hv1;clear hmt hv1;rcases hrow with ⟨_,h0⟩ | ⟨g7,c7,cur7,rfl,_⟩
        ·omega
        ·rw [hvl] at hs7 ⊢;have HVL:=zTD hvl;clear hvl;go_wp2_with (at_builtin; go_must (refine zDB rfl _ _ rfl rfl hs7 0 1 rfl rfl HVL.out HNV.out rfl HV1.out (by simp) ?_))
         intro v8 w8 hs8 _;have hs8:HS w w8 [aV 29 v8 vs]:=HSx.pick hs8 [0] (by decide);obtain ⟨⟨a8,c8,rfl⟩,_⟩:=hs8.formV 0 rfl;rw [HVL.out] at hs8 ⊢;clear hs7;go_wp2_with fail
         go_ret
         rw [HRES.out];exact ⟨_,vs,rfl,hs8,by rw [HVL.out,HSM.out]; rfl,HV1.out⟩
  ·have i1:¬(k:Int)<(n:Int):=by omega
   have e:k=n:=by omega
   rw [e] at HN;clear e;go_wp2_with fail
   go_ret
   rw [HRES.out];exact ⟨_,[],rfl,hs,by rw [HMT.out,HN.out]; rfl,fun u hu=>by simp at hu⟩
theorem zKg {a b:List (List Int)} {n:Nat} (hqa:Sqn a n) (hqb:Sqn b n) (h4:n≤4):∀f,MtP a b f
 | 0=>zO4 (by rw [hqb.len]; exact h4)
 | f+1=>zO3 hqa hqb h4 (zKg hqa hqb h4 f)
theorem zMb {c:List (List Int)} (h:isC c=true):Sqn c c.length:=⟨rfl,(zAS.1 h).row⟩
theorem zQm {S S1:Nat→Prop} {u1 u2:Value} {a b:List (List Int)} {w:World} (h1:RII S w u1 a) (h2:RII S1 w u2 b) (ha:isC a=true) (hb:isC b=true) (hla:total a≤16777216) (hlb:total b≤16777216) :
  Calls Tryz.prog 159 #[u1,u2] w fun e w'=>∃r,e=.returned (.tuple #[r,.bool (isoI a b)])∧Below w.heap.size w w':=by
 have mixed:Tryz.prog.follows .mixedOrders=true:=by kernel_rfl
 have hCA:=zBk h1 hla;rw [ha] at hCA;have HB:=zTD (fun (wv:World) (hb9:Below w.heap.size w wv)=>(hb ▸ zBk (h2.below hb9) hlb:Calls Tryz.prog 101 #[u2] wv fun e w'=>e=.returned (.bool true)∧∃m,w'=wv.drewN m));have hqa:=zMb ha;have hqb:=zMb hb;have ha4:=(zAS.1 ha).le;have hb4:=(zAS.1 hb).le;have HMT:Hid (∀(wv:World),Below w.heap.size w wv→a.length=b.length→Calls Tryz.prog 189 #[u1,u2,.slice none 0 0,.int .i64 1] wv (MtC a b b.length [] wv)):=zTD (fun wv hb9 hlen=>by
  have hI:RI (New wv wv) wv (.slice none 0 0) (iL []):=(FI.empty wv wv).reads;exact zKg hqa (hlen ▸ hqb) ha4 b.length (h1.below hb9) (h2.below hb9) hI (by simp) (fun x hx=>by simp at hx))
 have HISO:Hid (a.length=b.length→isoI a b=(mt1 a b b.length []).isSome):=zTD (fun h=>by unfold isoI; rw [decide_eq_true h,Bool.true_and]);have HNO:Hid (¬a.length=b.length→isoI a b=false):=zTD (fun h=>by unfold isoI; rw [decide_eq_false h,Bool.false_and]);obtain ⟨aa,ca,rfl⟩:=h1.form;obtain ⟨ab,cb,rfl⟩:=h2.form;generalize isoI a b=R at *;by_cases hlen:a.length=b.length
 ·have HRR:=zTD (HISO.out hlen);have hmt:=zTD (fun (wv:World) (hb9:Below w.heap.size w wv)=>HMT.out wv hb9 hlen);rw [hlen] at hCA hmt ⊢;clear HMT HISO HNO hlen h1 h2 hqa hqb;go_enter Tryz.func159,Tryz.ntmps159
  go_wp2_with fail
  refine hCA.mono ?_;rintro e w1 ⟨rfl,m1,rfl⟩;have hb1:Below w.heap.size w (w.drewN m1):=below_drewN (Below.refl _ w) m1;generalize w.drewN m1=w1 at *;go_wp2_with fail
  refine (HB.out w1 hb1).mono ?_;rintro e w2 ⟨rfl,m2,rfl⟩;have hb2:=below_drewN hb1 m2;generalize w1.drewN m2=w2 at *;go_wp2_with fail
  refine (hmt.out w2 hb2).mono ?_;rintro e w3 ⟨r3,vs,rfl,h3,hvl,hv1⟩;obtain ⟨⟨a3,c3,rfl⟩,hh⟩:=h3.formV 0 rfl;have hb3:=zAC.step hb2 h3.bl;cases hR:(mt1 a b b.length []).isSome with
  | false =>
   have hR0:Hid (R=false):=zTD (HRR.out.trans hR);rw [hR] at hvl;have hvl:vs.length=0:=by simpa using hvl
   rw [hvl] at h3 ⊢;clear hh hv1 hvl;go_wp2_with fail
   go_ret2
   exact ⟨_,by rw [hR0.out]; rfl,hb3.alloc hb3.size _⟩
  | true =>
   have hR0:Hid (R=true):=zTD (HRR.out.trans hR);rw [hR] at hvl;have hvl:vs.length=1:=by simpa using hvl
   obtain ⟨g9,c9,e9⟩:=hh (by omega);simp only [Value.slice.injEq] at e9;obtain ⟨rfl,_,_⟩:=e9;obtain ⟨u,hu⟩:∃u,vs[0]? = some u:=⟨vs[0]'(by omega),zTE _⟩;rw [hvl] at h3 ⊢;have hcu:=(h3.cellV 0 rfl (j:=0) (r:=u) hu).1;clear hh hv1 hvl hu;go_wp2_with fail
   go_ret2
   exact ⟨_,by rw [hR0.out]; rfl,hb3⟩
 ·have HRR:=zTD (HNO.out hlen);have i1:((a.length:Int) == (b.length:Int))=false:=by simp; omega
  have i2:((a.length:Int) != (b.length:Int))=true:=by simp [bne,i1]
  clear HMT HISO HNO h1 h2 hqa hqb hlen;go_enter Tryz.func159,Tryz.ntmps159
  go_wp2_with fail
  refine hCA.mono ?_;rintro e w1 ⟨rfl,m1,rfl⟩;have hb1:Below w.heap.size w (w.drewN m1):=below_drewN (Below.refl _ w) m1;generalize w.drewN m1=w1 at *;go_wp2_with fail
  refine (HB.out w1 hb1).mono ?_;rintro e w2 ⟨rfl,m2,rfl⟩;have hb2:=below_drewN hb1 m2;generalize w1.drewN m2=w2 at *;go_wp2_with fail
  go_ret2
  exact ⟨_,by rw [HRR.out]; rfl,hb2.alloc hb2.size _⟩
end Go.Proofs.YtlgcdacpjcnjgaaGreatDoor
