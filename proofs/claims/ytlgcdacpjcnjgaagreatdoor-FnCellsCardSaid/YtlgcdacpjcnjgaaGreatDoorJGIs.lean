/- All orders of at most four points, by the reference. Condition: at most four points. -/
import Derived.Test.YtlgcdacpjcnjgaaGreatDoorJGTc
import Derived.Test.YtlgcdacpjcnjgaaGreatDoorJGLow
namespace Go.Proofs.YtlgcdacpjcnjgaaGreatDoor
open Go.RowKit
set_option maxRecDepth 20000
set_option maxHeartbeats 8000000
theorem HSx.iToRs' {A:Nat→Prop} {w0 w:World} {Ps:List zAI} {r:Value} {l:List Int} (h:HSx A w0 w Ps) (j:Nat) (hj:Ps[j]? = some (aI r l)):HSx A w0 w (Ps.set j (aRs [(r,l)])) :=
 h.imp j hj (zA7 _) fun F hF=>⟨fun x hx=>by rw [List.mem_singleton] at hx; subst hx; exact hF,List.pairwise_singleton _ _⟩
theorem zOk (q:List Nat) (x:Nat):iL q++[(x:Int)]=iL (q++[x]):=by simp [iL]
def pRow (n:Nat) (o:List Nat):List (List Nat):=(List.range n).filterMap fun x=>if x∈o then none else some (o++[x])
def zBs (o:List Nat) (x:Nat):List (List Nat):=(List.range x).filterMap fun x=>if x∈o then none else some (o++[x])
def oK (n i:Nat):List (List Nat):=(List.range i).foldl (fun out _=>zKp n out) [[]]
theorem oK_n (n:Nat):oK n n=ordN n:=rfl
theorem zQ6 (n i:Nat):oK n (i+1)=(oK n i).flatMap (pRow n):=by
 unfold oK;rw [List.range_succ,List.foldl_append];rfl
theorem zFk (o:List Nat) (x:Nat):zBs o (x+1)=zBs o x++(if x∈o then [] else [o++[x]]):=by
 unfold zBs;rw [List.range_succ,List.filterMap_append];congr 1;by_cases h:x∈o
 ·simp [h]
 ·simp [h]
theorem zJG (n:Nat) (o:List Nat):zBs o n=pRow n o:=rfl
theorem zPK (o:List Nat):zBs o 0=[]:=rfl
theorem zNg {α β:Type} {f:α→List β} {l:List α} {k:Nat} {x:α} (h:l[k]? = some x):(l.take (k+1)).flatMap f=(l.take k).flatMap f++f x:=by
 rw [zAP h,List.flatMap_append]; simp
theorem zGe (o:List Nat) (x:Nat):(zBs o x).length≤x:=by
 unfold zBs;exact Nat.le_trans (List.length_filterMap_le _ _) (by simp)
theorem zIl (n:Nat):∀l:List (List Nat),(l.flatMap (pRow n)).length≤l.length*n
 | []=>by simp
 | o::l=>by
  have h1:=zIl n l;have h2:=zGe o n;rw [zJG] at h2;rw [List.flatMap_cons,List.length_append,List.length_cons,Nat.add_mul];omega
theorem zM4:∀n,n≤4→∀i,i≤n→(oK n i).length≤24∧(oK n i).all (fun o=>decide (o.length≤4))=true:=by decide +kernel
theorem zRB:∀n,n≤4→(ordN n).all (fun o=>decide (o.length=n) && o.all (fun i=>decide (i<n)) && (List.range o.length).all (fun k=>decide ((o[k]?).getD 9∉o.take k)))=true:=by decide +kernel
theorem zLe {n:Nat} (h4:n≤4) (w:World) :
  Calls Tryz.prog 140 #[.int .i64 n] w fun e w'=>∃r,e=.returned r∧FII (New w w') w' r ((ordN n).map iL)∧Below w.heap.size w w':=by
 have mixed:Tryz.prog.follows .mixedOrders=true:=by kernel_rfl
 obtain ⟨w1,hw1⟩:∃w1,w1=w.alloc (.cells #[] 3):=⟨_,rfl⟩;obtain ⟨w2,hw2⟩:∃w2,w2=w1.alloc (.cells #[.slice (some ⟨w.heap.size,0,none⟩) 0 0] 29):=⟨_,rfl⟩;have hs1:=HSx.addI (HS.nil (Below.refl _ w)) (zAN (Below.refl _ w) hw1).2 (zAN (Below.refl _ w) hw1).1;have hs2:=HSx.newV1 hs1 _ hw2;have hs2:HS w w2 [aI (.slice (some ⟨w.heap.size,0,none⟩) 0 0) [],aV 29 (.slice (some ⟨w1.heap.size,0,none⟩) 1 1) [.slice (some ⟨w.heap.size,0,none⟩) 0 0]]:=hs2;have hs3:=HSx.iToRs' hs2 0 rfl;have hs3:HS w w2 [aRs [(.slice (some ⟨w.heap.size,0,none⟩) 0 0,[])],aV 29 (.slice (some ⟨w1.heap.size,0,none⟩) 1 1) (([(.slice (some ⟨w.heap.size,0,none⟩) 0 0,[])]:Zl).map Prod.fst)]:=hs3;have hs4:=(hs3.shutF (Z:=[(.slice (some ⟨w.heap.size,0,none⟩) 0 0,[])]) (v:=.slice (some ⟨w1.heap.size,0,none⟩) 1 1) 1 0 (by decide) rfl rfl).pick [1] (by decide)
 have hs4:HS w w2 [aF (.slice (some ⟨w1.heap.size,0,none⟩) 1 1) ((oK n 0).map iL)]:=hs4;have HW2:=zTD (show w2=(w.alloc (.cells #[] 3)).alloc (.cells #[.slice (some ⟨w.heap.size,0,none⟩) 0 0] 29) by rw [hw2,hw1]);have hz1:w1.heap.size=w.heap.size+1:=by rw [hw1]; simp
 rw [hz1] at hs4;have HK:=zTD (zM4 n h4);clear hs1 hs2 hs3 hw1 hw2 hz1;go_enter Tryz.func140,Tryz.ntmps140
 go_wp2_with fail
 rw [<-HW2.out];go_loopw [3,4] (fun oo ii wr=>∃(i:Nat) (vo:Value),vo=oo∧i≤n∧ii=.int .i64 i∧HS w wr [aF vo ((oK n i).map iL)]) (fun _ ii _=>n-(intOf ii).toNat)
 case atStart=>exact ⟨0,_,rfl,Nat.zero_le _,rfl,hs4⟩
 case round =>
  clear hs4 HW2;obtain ⟨i,vo,rfl,hi,rfl,hs⟩:=hrel;by_cases hin:i<n
  ·have i1:(i:Int)<(n:Int):=by omega
   obtain ⟨a,cap,rfl⟩:=(hs.F 0 rfl).read.form;have HKi:=zTD (HK.out i (by omega));have HOK:Hid (oK n (i+1)=(oK n i).flatMap (pRow n)):=zTD (zQ6 n i);generalize oK n i=O at *;rw [List.length_map] at hs ⊢;generalize hm:O.length=m at *;have HM:=zTD hm;have hm24:m≤24:=by have:=HKi.out.1; omega
   have HLEN:=zTD (fun o (ho:o∈O)=>(by simpa using List.all_eq_true.1 HKi.out.2 o ho:o.length≤4));obtain ⟨w3,hw3⟩:∃w3,w3=wr.alloc (.cells #[] 29):=⟨_,rfl⟩;have hs3:=zAj hs hw3;have hs3:=hs3.add (Below.refl _ _) (zA7 []) (F:=NoB) ⟨fun x hx=>by simp at hx,List.Pairwise.nil⟩ (fun b hb=>hb.elim);have hs3:HS w w3 [aF (.slice a m cap) (O.map iL),aV 29 (.slice (some ⟨wr.heap.size,0,none⟩) 0 0) (([]:Zl).map Prod.fst),aRs []]:=hs3;have HW3:=zTD hw3;have HM0:Hid (([]:Zl).map Prod.snd=((O.take 0).flatMap (pRow n)).map iL):=zTD rfl;clear hs hw3 hm;go_wp2_with fail
   rw [<-HW3.out];go_loopw [5,6] (fun oo kk wr=>∃(k:Nat) (vn:Value) (Y:Zl),vn=oo∧k≤m∧kk=.int .i64 k∧HS w wr [aF (.slice a m cap) (O.map iL),aV 29 vn (Y.map Prod.fst),aRs Y]∧Hid (Y.map Prod.snd=((O.take k).flatMap (pRow n)).map iL)) (fun _ kk _=>m-(intOf kk).toNat)
   case atStart=>exact ⟨0,_,[],rfl,Nat.zero_le _,rfl,hs3,HM0⟩
   case round =>
    clear hs3 HM0 HW3;obtain ⟨k,vn,Y,rfl,hk,rfl,hs,HMY⟩:=hrel;by_cases hkm:k<m
    ·have k1:(k:Int)<(m:Int):=by omega
     obtain ⟨o,ho⟩:∃o,O[k]? = some o:=⟨O[k]'(by rw [HM.out]; exact hkm),zTE _⟩;have HO:=zTD ho;have hol:=HLEN.out o (zTF ho);have HFL:Hid (((O.take k).flatMap (pRow n)).length≤96):=zTD (by
      have h1:=zIl n (O.take k);rw [List.length_take] at h1;have h2:min k O.length*n≤24*4:=Nat.mul_le_mul (by omega) h4;omega)
     have HM1:Hid (Y.map Prod.snd=((O.take k).flatMap (pRow n)++zBs o 0).map iL):=zTD (by rw [HMY.out,zPK,List.append_nil]);clear ho;go_wp2_with fail
     go_loopw [5,7] (fun oo xx wr=>∃(x:Nat) (vn:Value) (Y:Zl),vn=oo∧x≤n∧xx=.int .i64 x∧HS w wr [aF (.slice a m cap) (O.map iL),aV 29 vn (Y.map Prod.fst),aRs Y]∧Hid (Y.map Prod.snd=((O.take k).flatMap (pRow n)++zBs o x).map iL)) (fun _ xx _=>n-(intOf xx).toNat)
     case atStart=>exact ⟨0,_,Y,rfl,Nat.zero_le _,rfl,hs,HM1⟩
     case round =>
      clear hs HMY HM1;obtain ⟨x,vn,Y,rfl,hx,rfl,hs,HMY⟩:=hrel;by_cases hxn:x<n
      ·have x1:(x:Int)<(n:Int):=by omega
       have x2:(0:Int)≤(k:Int):=by omega
       obtain ⟨b3,o3,r3,l3,rfl,hc3,hr3,hl3⟩:=RII.at (hs.F 0 rfl).read hkm;have el:l3=iL o:=by
        have:=hl3.out;rw [List.getElem?_map,HO.out] at this;exact (Option.some.inj this).symm
       subst el;have hhas:=zFU hr3 (x:Int) (by simp; omega);rw [zEF] at hhas;obtain ⟨a3,c3,rfl⟩:=hr3.form;have hln:(iL o).length=o.length:=by simp
       rw [hln] at hc3 hr3 hhas;generalize hno:o.length=no at *;by_cases hmem:x∈o
       ·rw [decide_eq_true hmem] at hhas;have HM2:Hid (Y.map Prod.snd=((O.take k).flatMap (pRow n)++zBs o (x+1)).map iL):=zTD (by rw [HMY.out,zFk,if_pos hmem,List.append_nil]);clear hmem hl3 hln hr3;go_wp2_with fail
        refine hhas.mono ?_;rintro e w9 ⟨rfl,rfl⟩;go_wp2_with fail
        go_roundw
        case rel=>exact ⟨x+1,_,Y,rfl,by omega,by go_num,hs,HM2⟩
        case measure=>simp [intOf]; omega
       ·rw [decide_eq_false hmem] at hhas;have HM2:Hid (Y.map Prod.snd++[iL o++[(x:Int)]]=((O.take k).flatMap (pRow n)++zBs o (x+1)).map iL):=zTD (by rw [HMY.out,zFk,if_neg hmem,zOk]; simp);have HZL:Hid ((Y.map Prod.fst).length+1≤67108864):=zTD (by
         have h1:=congrArg List.length HMY.out;have h2:=zGe o x;have h3:=HFL.out;rw [List.length_map,List.length_map,List.length_append] at h1;rw [List.length_map]; omega)
        have HNO:=zTD hno;have l0:b3<wr.heap.size:=zTH wr _ hc3;clear hmem hl3 hln;go_wp2_with fail
        refine hhas.mono ?_;rintro e w9 ⟨rfl,rfl⟩;clear hhas hno;go_wp2_with (at_builtin; go_must (refine zAL (W:=wr) rfl _ _ rfl rfl (FI.fresh0 wr) zAm rfl (hr3.below zAm) ?_ ?_))
        ·first | (simp; omega) | omega | (have:=HNO.out; simp; omega)
        ·intro vn2 wn fn bn _;have fn:FI _ wn vn2 (iL o):=fn;obtain ⟨an,cn,en⟩:=fn.form;have hln:(iL o).length=no:=by rw [<-HNO.out]; simp
         rw [hln] at en;subst en;have hsn:=hs.addI bn fn;have hsn:HS w wn [aF (.slice (some ⟨b3,o3,none⟩) m cap) (O.map iL),aV 29 vn (Y.map Prod.fst),aRs Y,aI (.slice an no cn) (iL o)]:=hsn;have hLI:(iL o).length+1≤67108864:=by rw [hln]; omega
         obtain ⟨w5,hw5⟩:∃w5,w5=wn.alloc (.cells #[.int .i64 x] 3):=⟨_,rfl⟩;have hs5:=hsn.alloc (.cells #[.int .i64 x] 3);rw [<-hw5] at hs5;have hs5:HS w w5 [aF (.slice (some ⟨b3,o3,none⟩) m cap) (O.map iL),aV 29 vn (Y.map Prod.fst),aRs Y,aI (.slice an no cn) (iL o)]:=hs5;have hc5:w5.cell? ⟨wn.heap.size,0,none⟩=some (.int .i64 x):=by rw [hw5]; go_simp
         have HW5:=zTD hw5;clear hw5 hsn hs fn bn hc3 hr3 hln;go_wp2_with (at_builtin; go_must (rw [<-HW5.out]; refine zAd rfl _ _ rfl rfl hs5 3 rfl rfl hc5 hLI ?_))
         intro v6 w6 hs6;have hs6:HS w w6 [aF (.slice (some ⟨b3,o3,none⟩) m cap) (O.map iL),aV 29 vn (Y.map Prod.fst),aRs Y,aI v6 (iL o++[(x:Int)])]:=hs6;obtain ⟨F6,hF6,_⟩:=HSx.get hs6 3 rfl;obtain ⟨a6,c6,rfl⟩:=FI.form hF6;generalize (iL o++[(x:Int)]).length=n6 at *;obtain ⟨w7,hw7⟩:∃w7,w7=w6.alloc (.cells #[.slice a6 n6 c6] 29):=⟨_,rfl⟩;have hs7:=hs6.alloc (.cells #[.slice a6 n6 c6] 29);rw [<-hw7] at hs7;have hs7:HS w w7 [aF (.slice (some ⟨b3,o3,none⟩) m cap) (O.map iL),aV 29 vn (Y.map Prod.fst),aRs Y,aI (.slice a6 n6 c6) (iL o++[(x:Int)])]:=hs7;have hc7:w7.cell? ⟨w6.heap.size,0,none⟩=some (.slice a6 n6 c6):=by rw [hw7]; go_simp
         have HW7:=zTD hw7;have HNV:=zTD (HS.newV hs7 1 rfl);have hone:(Value.slice a6 n6 c6).oneCell'=true:=oneC hF6.reads;clear hw7 hs6 hF6 hs5 hc5;go_wp2_with (at_builtin; go_must (rw [<-HW7.out]; refine zAH rfl _ _ rfl rfl hs7 1 rfl HNV.out rfl hc7 hone HZL.out ?_))
         intro v8 w8 hs8 _;have hs9:=(hs8.moreS 2 3 (by decide) rfl rfl (Z':=Y++[(.slice a6 n6 c6,iL o++[(x:Int)])]) (List.perm_append_singleton _ _)).pick [0,1,2] (by decide);have hs9:HS w w8 [aF (.slice (some ⟨b3,o3,none⟩) m cap) (O.map iL),aV 29 v8 ((Y++[(Value.slice a6 n6 c6,iL o++[(x:Int)])]).map Prod.fst),aRs (Y++[(Value.slice a6 n6 c6,iL o++[(x:Int)])])]:=by
          have e:(Y++[(Value.slice a6 n6 c6,iL o++[(x:Int)])]).map Prod.fst=Y.map Prod.fst++[Value.slice a6 n6 c6]:=by simp
          rw [e]; exact hs9
         have HM3:Hid ((Y++[(Value.slice a6 n6 c6,iL o++[(x:Int)])]).map Prod.snd=((O.take k).flatMap (pRow n)++zBs o (x+1)).map iL):=zTD (by rw [List.map_append]; exact HM2.out);clear hs7 hs8;go_wp2_with fail
         go_roundw
         case rel=>exact ⟨x+1,_,_,rfl,by omega,by go_num,hs9,HM3⟩
         case measure=>simp [intOf]; omega
      ·have x1:¬(x:Int)<(n:Int):=by omega
       have hxe:x=n:=by omega
       have HM2:Hid (Y.map Prod.snd=((O.take (k+1)).flatMap (pRow n)).map iL):=zTD (by rw [HMY.out,zNg HO.out,hxe,zJG]);clear hxe HMY;go_wp2_with fail
       go_roundw
       case rel=>exact ⟨k+1,_,Y,rfl,by omega,by go_num,hs,HM2⟩
       case measure=>simp [intOf]; omega
    ·have k1:¬(k:Int)<(m:Int):=by omega
     have hst:(O.take k).flatMap (pRow n)=oK n (i+1):=by rw [HOK.out,List.take_of_length_le (by rw [HM.out]; omega)]
     have hs2:=((hs.shutF (Z:=Y) (v:=vn) 1 2 (by decide) rfl rfl).pick [1] (by decide));have hs3:HS w wr [aF vn (Y.map Prod.snd)]:=hs2;rw [HMY.out,hst] at hs3;clear hs hs2 hst;go_wp2_with fail
     go_roundw
     case rel=>exact ⟨i+1,_,rfl,by omega,by go_num,hs3⟩
     case measure=>simp [intOf]; omega
  ·have i1:¬(i:Int)<(n:Int):=by omega
   have hie:i=n:=by omega
   rw [hie,oK_n] at hs;clear hie;go_wp2_with fail
   go_ret
   exact ⟨_,rfl,hs.F 0 rfl,hs.bl⟩
theorem zGT {α:Type} {L M:List α} {k:Nat} {x y:α} (hx:L[k]? = some x) (hy:M[k]? = some y) (h:x≠y):L≠M:=fun e=>by
 subst e;rw [hx] at hy;exact h (Option.some.inj hy)
theorem zFh {α:Type} {L M:List α} {n:Nat} (hL:L.length=n) (hM:M.length=n) (h:∀k,k<n→L[k]? = M[k]?):L=M :=
 List.ext_getElem? fun k=>by
  rcases Nat.lt_or_ge k n with hk | hk
  ·exact h k hk
  ·rw [List.getElem?_eq_none (by omega),List.getElem?_eq_none (by omega)]
theorem zLO {S S':Nat→Prop} {u v:Value} {L M:List (List Int)} {w:World} (h:RII S w u L) (h':RII S' w v M)
  (hl:L.length≤16777216) (_hl':M.length≤16777216) (hr:∀l∈L,l.length≤16777216) (hr':∀l∈M,l.length≤16777216) :
  Calls Tryz.prog 142 #[u,v] w fun e w'=>e=.returned (.bool (decide (L=M)))∧Below w.heap.size w w':=by
 have mixed:Tryz.prog.follows .mixedOrders=true:=by kernel_rfl
 obtain ⟨aL,cL,rfl⟩:=h.form;obtain ⟨aM,cM,rfl⟩:=h'.form;have HLR:=zTD hr;have HMR:=zTD hr';clear hr hr';by_cases hlen:L.length=M.length
 ·have HT:Hid ((∀k,k<L.length→L[k]? = M[k]?)→decide (L=M)=true):=zTD (fun hk=>decide_eq_true (zFh rfl hlen.symm hk));have HF:Hid (∀(k:Nat) (x y:List Int),L[k]? = some x→M[k]? = some y→x≠y→decide (L=M)=false):=zTD (fun k x y hx hy hne=>decide_eq_false (zGT hx hy hne));generalize decide (L=M)=R at *;rw [<-hlen] at h' ⊢;generalize L.length=n at *;clear hlen;go_enter Tryz.func142,Tryz.ntmps142
  go_wp2_with fail
  go_loopw [5] (fun ii wr=>∃i:Nat,i≤n∧ii=.int .i64 i∧Hid (∀k,k<i→L[k]? = M[k]?)∧Below w.heap.size w wr) (fun ii _=>n-(intOf ii).toNat)
  case atStart=>exact ⟨0,Nat.zero_le _,rfl,zTD (fun k hk=>by omega),Below.refl _ _⟩
  case round =>
   obtain ⟨i,hi,rfl,HE,hb⟩:=hrel;by_cases hin:i<n
   ·have i1:(i:Int)<(n:Int):=by omega
    have i2:(0:Int)≤(i:Int):=by omega
    obtain ⟨bl,ol,rl,x,rfl,hcl,hrl,hx⟩:=RII.at (h.below hb.drew) hin;obtain ⟨bm,om,rm,y,rfl,hcm,hrm,hy⟩:=RII.at (h'.below hb.drew) hin;have hxl:=HLR.out x (zTF hx.out);have hyl:=HMR.out y (zTF hy.out);obtain ⟨ax,cx,rfl⟩:=hrl.form;obtain ⟨ay,cy,rfl⟩:=hrm.form;by_cases hxy:x.length=y.length
    ·have HXT:Hid ((∀j,j<x.length→x[j]? = y[j]?)→x=y):=zTD (fun hk=>zFh rfl hxy.symm hk);have HXF:Hid (∀(j:Nat) (p q:Int),x[j]? = some p→y[j]? = some q→p≠q→R=false):=zTD (fun j p q hp hq hne=>HF.out i x y hx.out hy.out (zGT hp hq hne));rw [<-hxy] at hyl hcm hrm;have i3:(((x.length:Nat):Int) != ((x.length:Nat):Int))=false:=by simp
     generalize x.length=m at *;clear hxy;have hrl0:=hrl;have hrm0:=hrm;go_wp2_with fail
     go_big_region_o
     go_wp2_with fail
     have hbd:=hb.drew;have lbl:=zTH _ _ hcl;have lbm:=zTH _ _ hcm;go_loopw [6] (fun jj wr2=>∃j:Nat,j≤m∧jj=.int .i64 j∧Hid (∀k,k<j→x[k]? = y[k]?)∧Below w.heap.size w wr2∧Below wr.drew.heap.size wr.drew wr2) (fun jj _=>m-(intOf jj).toNat)
     case atStart=>exact ⟨0,Nat.zero_le _,rfl,zTD (fun k hk=>by omega),hbd,Below.refl _ _⟩
     case round =>
      obtain ⟨j,hj,rfl,HEJ,hb2,hbw⟩:=hrel;have hcl2:=(hbw.cell (p:=⟨bl,ol+i,none⟩) lbl).trans hcl;have hcm2:=(hbw.cell (p:=⟨bm,om+i,none⟩) lbm).trans hcm;have hcl3:=(hbw.drew.cell (p:=⟨bl,ol+i,none⟩) lbl).trans hcl;have hcm3:=(hbw.drew.cell (p:=⟨bm,om+i,none⟩) lbm).trans hcm;by_cases hjm:j<m
      ·have j1:(j:Int)<(m:Int):=by omega
       have j2:(0:Int)≤(j:Int):=by omega
       obtain ⟨bp,op,p,rfl,hcp,hp⟩:=RI.at (hrl0.below hbw.drew) hjm;obtain ⟨bq,oq,q,rfl,hcq,hq⟩:=RI.at (hrm0.below hbw.drew) hjm;by_cases hpq:p=q
       ·have HEJ2:Hid (∀k,k<j+1→x[k]? = y[k]?):=zTD (fun k hk=>by
         rcases Nat.lt_or_ge k j with h1 | h1
         ·exact HEJ.out k h1
         ·have:k=j:=by omega
          subst this;rw [hp.out,hq.out,hpq])
        have j3:((p:Int) != q)=false:=by simp [hpq]
        clear hpq hp hq hcl hcm;go_wp2_with fail
        go_big_region_o
        go_wp2_with fail
        go_roundw
        case rel=>exact ⟨j+1,by omega,by go_num,HEJ2,hb2.drew,hbw.drew⟩
        case measure=>simp [intOf]; omega
       ·have HRF:=zTD (HXF.out j p q hp.out hq.out hpq);have j3:((p:Int) != q)=true:=by simp [hpq]
        clear hpq hp hq hcl hcm;go_wp2_with fail
        go_big_region_o
        go_wp2_with fail
        go_ret
        exact ⟨zAG HRF.out.symm,hb2.drew⟩
      ·have j1:¬(j:Int)<(m:Int):=by omega
       have hje:j=m:=by omega
       have hxy:=HXT.out (by rw [<-hje]; exact HEJ.out);have HE2:Hid (∀k,k<i+1→L[k]? = M[k]?):=zTD (fun k hk=>by
        rcases Nat.lt_or_ge k i with h1 | h1
        ·exact HE.out k h1
        ·have:k=i:=by omega
         subst this;rw [hx.out,hy.out,hxy])
       clear hje hxy hx hy hcl hcm;go_wp2_with fail
       go_roundw
       case rel=>exact ⟨i+1,by omega,by go_num,HE2,hb2⟩
       case measure=>simp [intOf]; omega
    ·have HRF:=zTD (HF.out i x y hx.out hy.out (fun e=>hxy (by rw [e])));have i3:((x.length:Int) != (y.length:Int))=true:=by simp; omega
     clear hxy;go_wp2_with fail
     go_big_region_o
     go_wp2_with fail
     go_ret
     exact ⟨zAG HRF.out.symm,hb.drew⟩
   ·have i1:¬(i:Int)<(n:Int):=by omega
    have HRT:=zTD (HT.out (by have e:i=n:=(by omega); rw [<-e]; exact HE.out));go_wp2_with fail
    go_ret
    exact ⟨zAG HRT.out.symm,hb⟩
 ·have HRF:Hid (decide (L=M)=false):=zTD (decide_eq_false (fun e=>hlen (by rw [e])));generalize decide (L=M)=R at *;have i3:((L.length:Int) != (M.length:Int))=true:=by simp; omega
  clear hlen h h';go_enter Tryz.func142,Tryz.ntmps142
  go_wp2_with fail
  go_ret
  exact ⟨zAG HRF.out.symm,Below.refl _ _⟩
theorem zJt {S S':Nat→Prop} {u v:Value} {c:List (List Int)} {l:List Int} {w:World} (h:RII S w u c) (h':RI S' w v l) (hc:CartanP c) (hl:total c≤16777216) (hp:Pts c.length l) (hlen:l.length=c.length)
  (hnd:∀(k:Nat) (x:Int),l[k]? = some x→hasI x (l.take k)=false) (hl':l.length≤16777216) :
  Calls Tryz.prog 141 #[u,v] w fun e w'=>∃r,e=.returned (.tuple #[r,.bool true])∧FR (New w w') w' r (subL c l)∧Below w.heap.size w w':=by
 have mixed:Tryz.prog.follows .mixedOrders=true:=by kernel_rfl
 have hC:=zAS.2 hc;have hn4:=hc.le;obtain ⟨a,cap,rfl⟩:=h.form;obtain ⟨a',cap',rfl⟩:=h'.form;have HP:=zTD hp;have HND:=zTD hnd;have HS:=zTD hc.sq;have HC:=zTD hc;have zl:((l.length:Int) != (c.length:Int))=false:=by rw [hlen]; simp
 clear hp hc hnd hlen;obtain ⟨A,hA⟩:∃A:Nat→List (List Int),∀k,A k=(l.take k).map (fun i=>rowL c i l):=⟨_,fun _=>rfl⟩;have HA0:Hid (A 0=[]):=zTD (by rw [hA]; simp);have HAn:Hid (A l.length=subL c l):=zTD (by rw [hA]; simp [subL]);have HAS:Hid (∀k x,l[k]? = some x→A (k+1)=A k++[rowL c x l]):=zTD (fun k x hx=>by rw [hA,hA]; exact zFF hx);have HAL:Hid (∀k,(A k).length≤k):=zTD (fun k=>by rw [hA]; simp; omega);clear hA;have HB0:Hid (∀x,rowL c x (l.take 0)=[]):=zTD (fun x=>by simp [rowL]);have HBn:Hid (∀x,rowL c x (l.take l.length)=rowL c x l):=zTD (fun x=>by simp);have HBL:Hid (∀x k,(rowL c x (l.take k)).length≤k):=zTD (fun x k=>by simp [rowL]; omega);have HL':=zTD hl';generalize hm:l.length=m at *;have HM:=zTD hm;clear hm;have hCA:=zAr h hl;rw [hC] at hCA;go_enter Tryz.func141,Tryz.ntmps141
 go_wp2_with fail
 refine hCA.mono ?_;rintro e w1 ⟨rfl,m1,rfl⟩;have b1:Below w.heap.size w (w.drewN m1):=below_drewN (Below.refl _ w) m1;generalize w.drewN m1=w1 at *;clear hCA;go_wp2_with fail
 go_loopw [6] (fun j wr=>∃(k:Nat),k≤m∧j=.int .i64 k∧Below w.heap.size w wr) (fun j _=>m-(intOf j).toNat)
 case atStart=>exact ⟨0,Nat.zero_le _,rfl,b1⟩
 case round =>
  obtain ⟨k,hk,rfl,hb⟩:=hrel;by_cases hlt:k<m
  ·obtain ⟨b,o,x,rfl,hcx,hx⟩:=(h'.below hb).at hlt;obtain ⟨i,rfl,hi⟩:=HP.out k x hx.out;have i1:(k:Int)<(m:Int):=by omega
   have i2:(0:Int)≤(k:Int):=by omega
   have i5:((k:Int)).toNat=k:=by omega
   have hcap:m≤cap':=by
    obtain ⟨a9,c9,e9,hcap9,_⟩:=h';rw [HM.out] at e9;simp only [Value.slice.injEq] at e9;obtain ⟨_,_,rfl⟩:=e9;rw [HM.out] at hcap9;exact hcap9.1
   have i3:(k:Int)≤(cap':Int):=by omega
   have i4:k≤cap':=by omega
   have g0:=fun y:GW wr=>y.cell hcx;have HQ:Hid (∀w':World,Calls Tryz.prog 138 #[.int .i64 (i:Int),.int .i64 0,.int .i64 ((c.length:Int)-1)] w' fun e w''=>e=.returned (.bool true)∧∃m,w''=w'.drewN m) :=
    zTD (fun w'=>(zCp i 0 ((c.length:Int)-1) w').mono fun e w'' ⟨h1,h2⟩=>⟨by rw [h1,zDK (by omega)],0,h2.symm⟩)
   have HH:Hid (∀(y:GW wr),Calls Tryz.prog 57 #[.slice (some ⟨b,o,none⟩) k cap',.int .i64 (i:Int)] y.wd fun e w''=>e=.returned (.bool false)∧∃m,w''=y.wd.drewN m) :=
    zTD (fun y=>(zFU (RL.cutTo ((h'.below hb).below y.le) (k:=k) (by omega)) (i:Int) (by rw [List.length_take]; have:=HL'.out; omega)).mono fun e w'' ⟨h1,h2⟩=>⟨by rw [h1,HND.out k i hx.out],0,h2.symm⟩)
   have hw1:IntKind.i64.wrap ((c.length:Int)-1)=(c.length:Int)-1:=IntWalk.i64_in _ (by omega);clear hx;go_wp2_with fail
   refine zBT (by kernel_rfl) (by kernel_rfl) ?_
   repeat (go_big_quiet_step ((first
    | (rename_i y; go_at_call 138; exact Calls.grow_of (v:=.bool true) (v':=.bool true) y (Calls.quietly (HQ.out _)) rfl)
    | (rename_i y; go_at_call 57; exact Calls.grow_of (v:=.bool false) (v':=.bool false) y (Calls.quietly (HH.out y)) rfl))))
   refine wpQuiet_nil ?_;intro w8 hb8;have hb9:=zAC.step hb hb8;clear g0;go_wp2_with fail
   go_roundw
   case rel=>exact ⟨k+1,by omega,by go_num,hb9⟩
   case measure=>simp [intOf]; omega
  ·have i1:¬(k:Int)<(m:Int):=by omega
   go_wp2_with fail
   obtain ⟨w3,hw3⟩:∃w3,w3=wr.alloc (.cells #[] 29):=⟨_,rfl⟩;obtain ⟨f1,b3⟩:=FR.empty_of hb hw3;rw [<-hw3];clear hw3 b1;rw [<-HA0.out] at f1;have b1:=b3;generalize hn:c.length=n at *;have HN:=zTD hn;clear hn;go_loopw [7,8] (fun zz j wr=>∃(k:Nat) (z:Value),z=zz∧k≤m∧j=.int .i64 k∧FR (New w wr) wr z (A k)∧Below w.heap.size w wr) (fun _ j _=>m-(intOf j).toNat)
   case atStart=>exact ⟨0,_,rfl,Nat.zero_le _,rfl,f1,b1⟩
   case round =>
    obtain ⟨k,z,rfl,hk,rfl,hf,hb⟩:=hrel;have hal:=HAL.out k;by_cases hlt:k<m
    ·obtain ⟨b,o,x,rfl,hc0,hx⟩:=h'.at hlt;obtain ⟨i,rfl,hi⟩:=HP.out k x hx.out;have HST:=zTD (HAS.out k _ hx.out);have hb0:=HB0.out (i:Int);obtain ⟨b2,o2,r,r0,rfl,hcr0,hr,hr0⟩:=h.at hi;obtain ⟨ar,cr,rfl⟩:=hr.form;have hln:r0.length=n:=HS.out.row i r0 hr0.out;rw [hln] at hr hcr0;clear hln;generalize A k=Ak at *;have i1:(k:Int)<(m:Int):=by omega
     go_wp2_with fail
     obtain ⟨w2,hw2⟩:∃w2,w2=wr.alloc (.cells #[] 3):=⟨_,rfl⟩;obtain ⟨f2,b2'⟩:=zAN (Below.refl _ wr) hw2;rw [<-hw2];clear hw2;rw [<-hb0] at f2;clear hb0;generalize wr=wO at *;go_loopw [9,10] (fun yy j wr=>∃(q:Nat) (y:Value),y=yy∧q≤m∧j=.int .i64 q∧FI (New wO wr) wr y (rowL c i (l.take q))∧Below wO.heap.size wO wr) (fun _ j _=>m-(intOf j).toNat)
     case atStart=>exact ⟨0,_,rfl,Nat.zero_le _,rfl,f2,b2'⟩
     case round =>
      obtain ⟨q,y,rfl,hq,rfl,hfy,hby⟩:=hrel;have hb2:=zAC.step hb hby;by_cases hltq:q<m
      ·obtain ⟨b3,o3,x3,e3,hc30,hx3⟩:=h'.at hltq;simp only [Option.some.injEq,Addr.mk.injEq,and_true] at e3;obtain ⟨rfl,rfl⟩:=e3;obtain ⟨j,rfl,hj⟩:=HP.out q x3 hx3.out;obtain ⟨b4,o4,y4,rfl,hc40,hx4⟩:=hr.at hj;have l0:=zTH w _ hc0;have l2:=zTH w _ hcr0;have l4:=zTH w _ hc40;have hc:=(hb2.cell (p:=⟨b,o+k,none⟩) l0).trans hc0;have hc3:=(hb2.cell (p:=⟨b,o+q,none⟩) l0).trans hc30;have hcr:=(hb2.cell (p:=⟨b2,o2+i,none⟩) l2).trans hcr0;have hc4:=(hb2.cell (p:=⟨b4,o4+j,none⟩) l4).trans hc40;have hF:=zTD (fun (k:Nat) hk=>Nat.le_trans hb.size (hfy.2 k hk).1);have HS2:Hid (rowL c i (l.take (q+1))=rowL c i (l.take q)++[y4]):=zTD (by rw [zE9 hx3.out]; simp only [Int.toNat_natCast]; rw [zB0 hr0.out hx4.out]);have hbl:=HBL.out (i:Int) q;have i2:(q:Int)<(m:Int):=by omega
       have i3:(i:Int)<(n:Int):=by omega
       have i4:(j:Int)<(n:Int):=by omega
       generalize rowL c i (l.take q)=R at *;have bbd:Below wr.heap.size wr (wr.alloc (.cells #[.int .i64 y4] 3)).drew:=((Below.refl _ _).alloc (zTI _) _).drew;have hcn:(wr.alloc (.cells #[.int .i64 y4] 3)).drew.cell? ⟨wr.heap.size,0,none⟩=some (.int .i64 y4):=by go_simp
       have hfn:=hfy.grow bbd;have hbn:=zAC.step hby bbd;have hln2:R.length+1≤67108864:=by omega
       clear hc30 hc40;go_wp2_with fail
       go_region_held3 (fun w'=>w'.cell? ⟨b,o+k,none⟩=some (.int .i64 i)∧w'.cell? ⟨b,o+q,none⟩=some (.int .i64 j)∧w'.cell? ⟨b2,o2+i,none⟩=some (.slice (some ⟨b4,o4,none⟩) n cr)∧w'.cell? ⟨b4,o4+j,none⟩=some (.int .i64 y4)) (first | go_keep | (go_split_ands; exact ⟨zA6 hgrow (by assumption) l0 hF.out,zA6 hgrow (by assumption) l0 hF.out,zA6 hgrow (by assumption) l2 hF.out,zA6 hgrow (by assumption) l4 hF.out⟩)) ((refine zFC (W:=wO) (by rfl) _ _ (by rfl) (by rfl) hfn hbn (by rfl) hcn hln2 ?_; intro v' w3 f3 b5 hgrow))
       clear hc hc3 hcr hc4;go_wp2_with fail
       go_roundw
       case rel=>exact ⟨q+1,_,rfl,by omega,by go_num,by rw [HS2.out]; exact f3,b5⟩
       case measure=>simp [intOf]; omega
      ·have hqm:q=m:=by omega
       have hbn:=HBn.out (i:Int);rw [hqm,hbn] at hfy;have hf2:=hf.grow hby;have hs0:w.heap.size≤wO.heap.size:=hb.size;obtain ⟨ay,cy,rfl⟩:=hfy.form;clear hbn hqm;generalize rowL c i l=R at *;generalize R.length=ly at *;have hy:RI (New w wr) wr (.slice ay ly cy) R:=hfy.reads.mono (fun b hb'=>⟨Nat.le_trans hs0 hb'.1,hb'.2⟩);have bb:Below wr.heap.size wr (wr.alloc (.cells #[.slice ay ly cy] 29)):=(Below.refl _ _).alloc (zTI _) _;have hcn:(wr.alloc (.cells #[.slice ay ly cy] 29)).cell? ⟨wr.heap.size,0,none⟩=some (.slice ay ly cy):=by go_simp
       have hln:Ak.length+1≤67108864:=by have:=HL'.out; omega
       have i2:¬(q:Int)<(m:Int):=by omega
       go_wp2_with (at_builtin; go_must (refine zBg (W:=w) rfl _ _ rfl rfl (hf2.grow bb) (zAC.step hb2 bb) rfl hcn ((hy.below bb).mono (fun b hb'=>⟨hb'.1,Nat.lt_of_lt_of_le hb'.2 bb.size⟩)) hln ?_))
       intro v' w4 f4 b4 _;go_wp2_with fail
       go_roundw
       case rel=>exact ⟨k+1,_,rfl,by omega,by go_num,by rw [HST.out]; exact f4,b4⟩
       case measure=>simp [intOf]; omega
    ·have hkm:k=m:=by omega
     have HF:Hid (A k=subL c l):=zTD (by rw [hkm,HAn.out]);have i1:¬(k:Int)<(m:Int):=by omega
     clear hkm;go_wp2_with fail
     go_ret2
     exact ⟨_,rfl,by rw [<-HF.out]; exact hf,hb⟩
structure OrdOk (n:Nat) (o:List Nat):Prop where
 len:o.length=n
 lt:∀i∈o,i<n
 nd:∀(k:Nat) (x:Int),(iL o)[k]? = some x→hasI x ((iL o).take k)=false
theorem zCr {n:Nat} (h4:n≤4) {o:List Nat} (h:o∈ordN n):OrdOk n o:=by
 have:=List.all_eq_true.1 (zRB n h4) o h;simp only [Bool.and_eq_true,decide_eq_true_eq,List.all_eq_true,List.mem_range] at this;obtain ⟨⟨h1,h2⟩,h3⟩:=this;refine ⟨h1,h2,fun k x hx=>?_⟩;simp only [iL,List.getElem?_map,Option.map_eq_some_iff] at hx;obtain ⟨i,hi,rfl⟩:=hx;have e:(iL o).take k=iL (o.take k):=by simp [iL,List.map_take]
 rw [e];have h5:=h3 k (zTG hi).1;rw [hi] at h5;have h6:=zEF i (o.take k);rw [decide_eq_false (by simpa using h5)] at h6;exact h6
theorem zPJ {n:Nat} (h4:n≤4):(ordN n).length≤24:=(zM4 n h4 n (zTI _)).1
theorem zCs (c:List (List Int)) (o:List Nat):(zAc c o).length=o.length∧∀r∈zAc c o,r.length=o.length:=by
 unfold zAc;refine ⟨by simp,fun r hr=>?_⟩;obtain ⟨i,_,rfl⟩:=List.mem_map.1 hr;simp
theorem zOm {a b:List (List Int)} {o:List Nat} (hl:a.length=b.length) (ho:o∈ordN a.length) (h:zAc a o=b):isoS a b=true:=by
 unfold isoS;rw [decide_eq_true hl,Bool.true_and,List.any_eq_true];exact ⟨o,ho,decide_eq_true h⟩
theorem zQn {a b:List (List Int)} (h:∀o∈ordN a.length,zAc a o≠b):isoS a b=false:=by
 unfold isoS;rw [Bool.and_eq_false_iff];refine .inr ?_;rw [List.any_eq_false];exact fun o ho=>by simpa using h o ho
theorem zQo {S S1:Nat→Prop} {u1 u2:Value} {a b:List (List Int)} {w:World} (h1:RII S w u1 a) (h2:RII S1 w u2 b) (ha:isC a=true) (hb:isC b=true) (hla:total a≤16777216) (hlb:total b≤16777216) :
  Calls Tryz.prog 87 #[u1,u2] w fun e w'=>∃r,e=.returned (.tuple #[r,.bool (isoS a b)])∧Below w.heap.size w w':=by
 have mixed:Tryz.prog.follows .mixedOrders=true:=by kernel_rfl
 have hCA:=zAr h1 hla;rw [ha] at hCA;have HB:=zTD (fun (wv:World) (hb9:Below w.heap.size w wv)=>(hb ▸ zAr (h2.below hb9) hlb:Calls Tryz.prog 83 #[u2] wv fun e w'=>e=.returned (.bool true)∧∃m,w'=wv.drewN m));have ha4:=(zAS.1 ha).le;have hb4:=(zAS.1 hb).le;have hbr:=(zAS.1 hb).row;by_cases hlen:a.length=b.length
 ·have HYES:=zTD (fun o (ho:o∈ordN a.length) (h:zAc a o=b)=>zOm hlen ho h);have HNO:Hid ((∀o∈ordN a.length,zAc a o≠b)→isoS a b=false):=zTD zQn;have HREL:=zTD (fun (wv:World) (S9:Nat→Prop) (vv:Value) (o:List Nat) (hb9:Below w.heap.size w wv) (hx:RI S9 wv vv (iL o)) (ho:o∈ordN a.length) =>
   zJt (h1.below hb9) hx (zAS.1 ha) hla (fun j x hj=>by
    simp only [iL,List.getElem?_map,Option.map_eq_some_iff] at hj;obtain ⟨i,hi,rfl⟩:=hj;exact ⟨i,rfl,(zCr ha4 ho).lt i (zTF hi)⟩) (by simp [(zCr ha4 ho).len]) (zCr ha4 ho).nd (by have:=(zCr ha4 ho).len; simp; omega))
  have HEQ:=zTD (fun (wv:World) (S9:Nat→Prop) (vv:Value) (o:List Nat) (hb9:Below w.heap.size w wv) (hx:RII S9 wv vv (zAc a o)) (ho:o∈ordN a.length) =>
   zLO hx (h2.below hb9) (by have:=(zCs a o).1; have:=(zCr ha4 ho).len; omega) (by omega) (fun l hl=>by have:=(zCs a o).2 l hl; have:=(zCr ha4 ho).len; omega) (fun l hl=>by have:=hbr l hl; omega))
  have hfew:=zPJ ha4;obtain ⟨aa,ca,rfl⟩:=h1.form;obtain ⟨ab,cb,rfl⟩:=h2.form;generalize isoS a b=R at *;have hord:=zTD (fun (wv:World)=>zLe (n:=a.length) ha4 wv);rw [<-hlen] at HB HEQ ⊢;generalize a.length=n at *;clear h1 h2 hlen;go_enter Tryz.func87,Tryz.ntmps87
  go_wp2_with fail
  refine hCA.mono ?_;rintro e w1 ⟨rfl,m1,rfl⟩;have hb1:Below w.heap.size w (w.drewN m1):=below_drewN (Below.refl _ w) m1;generalize w.drewN m1=w1 at *;go_wp2_with fail
  refine (HB.out w1 hb1).mono ?_;rintro e w2 ⟨rfl,m2,rfl⟩;have hb2:=below_drewN hb1 m2;generalize w1.drewN m2=w2 at *;clear hCA;go_wp2_with fail
  refine (hord.out w2).mono ?_;rintro e w3 ⟨r3,rfl,f3,b3⟩;have hb3:=zAC.step hb2 b3;have hr3:=f3.read.any;obtain ⟨a3,c3,rfl⟩:=hr3.form;rw [List.length_map] at hr3 ⊢;generalize hO:ordN n=O at *;generalize hm:O.length=m at *;have HM:=zTD hm;clear hm f3 b3 hord;go_wp2_with fail
  go_loopw [7] (fun jj wr=>∃k:Nat,k≤m∧jj=.int .i64 k∧Hid (∀o∈O.take k,zAc a o≠b)∧Below w.heap.size w wr∧RII Any wr (.slice a3 m c3) (O.map iL)) (fun jj _=>m-(intOf jj).toNat)
  case atStart=>exact ⟨0,Nat.zero_le _,rfl,zTD (fun o ho=>by simp at ho),hb3,hr3⟩
  case round =>
   clear hr3 hb3;obtain ⟨k,hk,rfl,HK,hbb,hr⟩:=hrel;by_cases hkm:k<m
   ·have i1:(k:Int)<(m:Int):=by omega
    have i2:(0:Int)≤(k:Int):=by omega
    have hr0:=hr;obtain ⟨b3,o3,r3,l3,rfl,hc3,hr3,hl3⟩:=RII.at hr hkm;obtain ⟨o,ho⟩:∃o,O[k]? = some o:=⟨O[k]'(by rw [HM.out]; exact hkm),zTE _⟩;have el:l3=iL o:=by
     have:=hl3.out;rw [List.getElem?_map,ho] at this;exact (Option.some.inj this).symm
    subst el;have hom:=zTF ho;have hrel:=HREL.out wr _ r3 o hbb hr3 hom;have heq:=fun (wv:World) (S9:Nat→Prop) (vv:Value) (hb9:Below w.heap.size w wv) (hx:RII S9 wv vv (zAc a o))=>HEQ.out wv S9 vv o hb9 hx hom;rw [zFE] at hrel;have HK2:Hid (zAc a o≠b→∀p∈O.take (k+1),zAc a p≠b):=zTD (fun hne p hp=>by
     rw [zAP ho,List.mem_append] at hp;rcases hp with hp | hp
     ·exact HK.out p hp
     ·rw [List.mem_singleton] at hp; subst hp; exact hne)
    have HY:=zTD (fun h=>HYES.out o hom h);have lb3:b3<wr.heap.size:=zTH _ _ hc3;clear hl3 hom ho;go_wp2_with fail
    refine hrel.mono ?_;rintro e w4 ⟨r4,rfl,f4,b4⟩;have hb4:=zAC.step hbb b4;have hq:=heq w4 _ r4 hb4 f4.reads;have hr4:=RII.below hr0 b4;have hc4:=(b4.cell (p:=⟨b3,o3+k,none⟩) lb3).trans hc3;have lb4:b3<w4.heap.size:=Nat.lt_of_lt_of_le lb3 b4.size;clear hrel heq hr3 hc3 hr hr0 b4 f4;cases hd:decide (zAc a o=b) with
    | true =>
     have HR:Hid (R=true):=zTD (HY.out (of_decide_eq_true hd));rw [hd] at hq;clear hd;go_wp2_with fail
     refine hq.mono ?_;rintro e w5 ⟨rfl,b5⟩;have hc5:=(b5.cell (p:=⟨b3,o3+k,none⟩) lb4).trans hc4;have hb5:=zAC.step hb4 b5;clear hq;go_wp2_with fail
     go_ret2
     exact ⟨_,by rw [HR.out]; rfl,hb5⟩
    | false =>
     have HK3:=zTD (HK2.out (of_decide_eq_false hd));rw [hd] at hq;clear hd;go_wp2_with fail
     refine hq.mono ?_;rintro e w5 ⟨rfl,b5⟩;have hb5:=zAC.step hb4 b5;have hr5:=RII.below hr4 b5;clear hq;go_wp2_with fail
     go_roundw
     case rel=>exact ⟨k+1,by omega,by go_num,HK3,hb5,hr5⟩
     case measure=>simp [intOf]; omega
   ·have i1:¬(k:Int)<(m:Int):=by omega
    have HR:Hid (R=false):=zTD (HNO.out (fun o ho=>HK.out o (by rw [List.take_of_length_le (by rw [HM.out]; omega)]; exact ho)));go_wp2_with fail
    go_ret2
    exact ⟨⟨_,by rw [HR.out]; rfl⟩,hbb.alloc hbb.size _⟩
 ·have HR:Hid (isoS a b=false):=zTD (by unfold isoS; rw [decide_eq_false hlen,Bool.false_and]);obtain ⟨aa,ca,rfl⟩:=h1.form;obtain ⟨ab,cb,rfl⟩:=h2.form;generalize isoS a b=R at *;have i1:((a.length:Int) != (b.length:Int))=true:=by simp; omega
  clear h1 h2 hlen hbr;go_enter Tryz.func87,Tryz.ntmps87
  go_wp2_with fail
  refine hCA.mono ?_;rintro e w1 ⟨rfl,m1,rfl⟩;have hb1:Below w.heap.size w (w.drewN m1):=below_drewN (Below.refl _ w) m1;generalize w.drewN m1=w1 at *;go_wp2_with fail
  refine (HB.out w1 hb1).mono ?_;rintro e w2 ⟨rfl,m2,rfl⟩;have hb2:=below_drewN hb1 m2;generalize w1.drewN m2=w2 at *;clear hCA;go_wp2_with fail
  go_ret2
  exact ⟨_,by rw [HR.out]; rfl,hb2.alloc hb2.size _⟩
theorem zAo {n:Nat} (h4:n≤4) (w:World) :
  Calls Tryz.prog 96 #[.int .i64 n] w fun e w'=>∃r,e=.returned r∧FII (New w w') w' r (chM n)∧Below w.heap.size w w':=by
 have mixed:Tryz.prog.follows .mixedOrders=true:=by kernel_rfl
 obtain ⟨i0,hi0,hz0,hz1,hz2⟩:=info_parts zA8;obtain ⟨w1,hw1⟩:∃w1,w1=w.alloc (.cells #[] 29):=⟨_,rfl⟩;have hs1:=zAj (HS.nil (Below.refl _ w)) hw1;have hs1:=hs1.add (Below.refl _ _) (zA7 []) (F:=NoB) ⟨fun x hx=>by simp at hx,List.Pairwise.nil⟩ (fun b hb=>hb.elim);have hs1:HS w w1 [aV 29 (.slice (some ⟨w.heap.size,0,none⟩) 0 0) (([]:Zl).map Prod.fst),aRs []]:=hs1;have HW1:=zTD hw1;have HM0:Hid (([]:Zl).map Prod.snd=(List.range 0).map (chR n)):=zTD rfl;clear hw1;go_enter Tryz.func96,Tryz.ntmps96
 go_wp2_with fail
 rw [<-HW1.out];go_loopw [3,4] (fun oo kk wr=>∃(k:Nat) (vo:Value) (Z:Zl),vo=oo∧k≤n∧kk=.int .i64 k∧HS w wr [aV 29 vo (Z.map Prod.fst),aRs Z]∧Hid (Z.map Prod.snd=(List.range k).map (chR n))) (fun _ kk _=>n-(intOf kk).toNat)
 case atStart=>exact ⟨0,_,[],rfl,Nat.zero_le _,rfl,hs1,HM0⟩
 case round =>
  clear hs1 HM0;obtain ⟨k,vo,Z,rfl,hk,rfl,hs,HM⟩:=hrel;by_cases hkn:k<n
  ·have i1:(k:Int)<(n:Int):=by omega
   have i2:(0:Int)≤(k:Int):=by omega
   have HZL:Hid ((Z.map Prod.fst).length+1≤67108864):=zTD (by have:=congrArg List.length HM.out; simp at this; simp; omega);go_wp2_with (at_make; (refine wpList_make_full _ rfl _ _ 29 rfl wr.heap.size 3 i0 (.int .i64 0) 1 Tryz.underlying29 hi0 hz0 hz1 _ _ _ _ n rfl rfl (by first | rfl | (simp only [wrap64]; omega)) (by first | rfl | (simp only [wrap64]; omega)) ?hb ?hm ?hs ?_))
   case hb=>first | (rw [hz2]; omega) | omega
   case hm=>unfold maxLen; omega
   case hs=>exact zTI _
   intro w2 hown hgr;have bb2:Below wr.heap.size wr w2:=(Below.refl _ wr).grown hgr (zTI _) (by simp);have hf2:FI (New wr w2) w2 (.slice (some ⟨wr.heap.size,0,none⟩) n n) (List.replicate n 0):=FI.of_row (w:=wr) (by simpa using hown) (zTI _) (by simp) (by simp [toList_madeCells_one]);have hs2:=hs.addI bb2 hf2;have hs2:HS w w2 [aV 29 vo (Z.map Prod.fst),aRs Z,aI (.slice (some ⟨wr.heap.size,0,none⟩) n n) (List.replicate n 0)]:=hs2;clear hgr hown bb2 hf2 hs hi0 hz0 hz1 hz2;generalize wr.heap.size=g at *;obtain ⟨x0,hx0⟩:=zBb (l:=List.replicate n (0:Int)) (by simp) hkn;obtain ⟨d0,z0⟩:=hs2.cellI 2 rfl (by simp) hx0;have hs3:=hs2.putI 2 rfl (by simp) k 2;have hs3:HS w (w2.setCell ⟨g,k,none⟩ (.int .i64 2)) [aV 29 vo (Z.map Prod.fst),aRs Z,aI (.slice (some ⟨g,0,none⟩) n n) ((List.replicate n (0:Int)).set k 2)]:=hs3;clear hx0 hs2;by_cases hk0:0<k
   ·obtain ⟨j,hkj⟩:∃j,k=j+1:=⟨k-1,by omega⟩;have i3:(0:Int)<(k:Int):=by omega
    have i4:(k:Int)-1=(j:Int):=by omega
    have hjn:j<n:=by omega
    have i5:(j:Int)<(n:Int):=by omega
    obtain ⟨x1,hx1⟩:=zBb (l:=(List.replicate n (0:Int)).set k 2) (by simp) hjn;obtain ⟨d1,z1⟩:=hs3.cellI 2 rfl (by simp) hx1;have hs4:=hs3.putI 2 rfl (by simp) j (-1);have hs4:HS w ((w2.setCell ⟨g,k,none⟩ (.int .i64 2)).setCell ⟨g,j,none⟩ (.int .i64 (-1))) [aV 29 vo (Z.map Prod.fst),aRs Z,aI (.slice (some ⟨g,0,none⟩) n n) (((List.replicate n (0:Int)).set k 2).set j (-1))]:=hs4;clear hx1 hs3;by_cases hk1:k+1<n
    ·have i6:(k:Int)+1<(n:Int):=by omega
     obtain ⟨x2,hx2⟩:=zBb (l:=((List.replicate n (0:Int)).set k 2).set j (-1)) (by simp) hk1;obtain ⟨d2,z2⟩:=hs4.cellI 2 rfl (by simp) hx2;have hs8:=hs4.putI 2 rfl (by simp) (k+1) (-1);have HCH:Hid ((((List.replicate n (0:Int)).set k 2).set j (-1)).set (k+1) (-1)=chR n k):=zTD (by unfold chR chB; rw [if_pos hk1,if_pos hk0,show k-1=j by omega]);clear hx2 hs4 hkj;have hsr:HS w (((w2.setCell ⟨g,k,none⟩ (.int .i64 2)).setCell ⟨g,j,none⟩ (.int .i64 (-1))).setCell ⟨g,k+1,none⟩ (.int .i64 (-1))) [aV 29 vo (Z.map Prod.fst),aRs Z,aI (.slice (some ⟨g,0,none⟩) n n) (chR n k)]:=by rw [<-HCH.out]; exact hs8
     obtain ⟨w5,hw5⟩:∃w5,w5=(((w2.setCell ⟨g,k,none⟩ (.int .i64 2)).setCell ⟨g,j,none⟩ (.int .i64 (-1))).setCell ⟨g,k+1,none⟩ (.int .i64 (-1))).alloc (.cells #[.slice (some ⟨g,0,none⟩) n n] 29):=⟨_,rfl⟩;have hs5:=hsr.alloc (.cells #[.slice (some ⟨g,0,none⟩) n n] 29);rw [<-hw5] at hs5;have hc5:w5.cell? ⟨(((w2.setCell ⟨g,k,none⟩ (.int .i64 2)).setCell ⟨g,j,none⟩ (.int .i64 (-1))).setCell ⟨g,k+1,none⟩ (.int .i64 (-1))).heap.size,0,none⟩=some (.slice (some ⟨g,0,none⟩) n n):=by rw [hw5]; go_simp
     simp only [zAM] at hc5;have HW5:=zTD hw5;have HNV:=zTD (HS.newV hs5 0 rfl);have hone:(Value.slice (some ⟨g,0,none⟩) n n).oneCell'=true:=rfl;clear hw5 hsr hs8;go_wp2_with (at_builtin; go_must (rw [<-HW5.out]; refine zAH rfl _ _ rfl rfl hs5 0 rfl HNV.out rfl hc5 hone HZL.out ?_))
     intro v6 w6 hs6 _;have hs7:=(hs6.moreS 1 2 (by decide) rfl rfl (Z':=Z++[(.slice (some ⟨g,0,none⟩) n n,chR n k)]) (List.perm_append_singleton _ _)).pick [0,1] (by decide);have hs7:HS w w6 [aV 29 v6 ((Z++[(Value.slice (some ⟨g,0,none⟩) n n,chR n k)]).map Prod.fst),aRs (Z++[(Value.slice (some ⟨g,0,none⟩) n n,chR n k)])]:=by
      have e:(Z++[(Value.slice (some ⟨g,0,none⟩) n n,chR n k)]).map Prod.fst=Z.map Prod.fst++[Value.slice (some ⟨g,0,none⟩) n n]:=by simp
      rw [e]; exact hs7
     have HM2:Hid ((Z++[(Value.slice (some ⟨g,0,none⟩) n n,chR n k)]).map Prod.snd=(List.range (k+1)).map (chR n)):=zTD (by rw [List.map_append,HM.out,zBz]; rfl);clear hs5 hs6;go_wp2_with fail
     go_roundw
     case rel=>exact ⟨k+1,_,_,rfl,by omega,by go_num,hs7,HM2⟩
     case measure=>simp [intOf]; omega
    ·have i6:¬(k:Int)+1<(n:Int):=by omega
     have HCH:Hid (((List.replicate n (0:Int)).set k 2).set j (-1)=chR n k):=zTD (by unfold chR chB; rw [if_neg hk1,if_pos hk0,show k-1=j by omega]);clear hkj;have hsr:HS w ((w2.setCell ⟨g,k,none⟩ (.int .i64 2)).setCell ⟨g,j,none⟩ (.int .i64 (-1))) [aV 29 vo (Z.map Prod.fst),aRs Z,aI (.slice (some ⟨g,0,none⟩) n n) (chR n k)]:=by rw [<-HCH.out]; exact hs4
     obtain ⟨w5,hw5⟩:∃w5,w5=((w2.setCell ⟨g,k,none⟩ (.int .i64 2)).setCell ⟨g,j,none⟩ (.int .i64 (-1))).alloc (.cells #[.slice (some ⟨g,0,none⟩) n n] 29):=⟨_,rfl⟩;have hs5:=hsr.alloc (.cells #[.slice (some ⟨g,0,none⟩) n n] 29);rw [<-hw5] at hs5;have hc5:w5.cell? ⟨((w2.setCell ⟨g,k,none⟩ (.int .i64 2)).setCell ⟨g,j,none⟩ (.int .i64 (-1))).heap.size,0,none⟩=some (.slice (some ⟨g,0,none⟩) n n):=by rw [hw5]; go_simp
     simp only [zAM] at hc5;have HW5:=zTD hw5;have HNV:=zTD (HS.newV hs5 0 rfl);have hone:(Value.slice (some ⟨g,0,none⟩) n n).oneCell'=true:=rfl;clear hw5 hsr hs4;go_wp2_with (at_builtin; go_must (rw [<-HW5.out]; refine zAH rfl _ _ rfl rfl hs5 0 rfl HNV.out rfl hc5 hone HZL.out ?_))
     intro v6 w6 hs6 _;have hs7:=(hs6.moreS 1 2 (by decide) rfl rfl (Z':=Z++[(.slice (some ⟨g,0,none⟩) n n,chR n k)]) (List.perm_append_singleton _ _)).pick [0,1] (by decide);have hs7:HS w w6 [aV 29 v6 ((Z++[(Value.slice (some ⟨g,0,none⟩) n n,chR n k)]).map Prod.fst),aRs (Z++[(Value.slice (some ⟨g,0,none⟩) n n,chR n k)])]:=by
      have e:(Z++[(Value.slice (some ⟨g,0,none⟩) n n,chR n k)]).map Prod.fst=Z.map Prod.fst++[Value.slice (some ⟨g,0,none⟩) n n]:=by simp
      rw [e]; exact hs7
     have HM2:Hid ((Z++[(Value.slice (some ⟨g,0,none⟩) n n,chR n k)]).map Prod.snd=(List.range (k+1)).map (chR n)):=zTD (by rw [List.map_append,HM.out,zBz]; rfl);clear hs5 hs6;go_wp2_with fail
     go_roundw
     case rel=>exact ⟨k+1,_,_,rfl,by omega,by go_num,hs7,HM2⟩
     case measure=>simp [intOf]; omega
   ·have i3:¬(0:Int)<(k:Int):=by omega
    by_cases hk1:k+1<n
    ·have i6:(k:Int)+1<(n:Int):=by omega
     obtain ⟨x2,hx2⟩:=zBb (l:=(List.replicate n (0:Int)).set k 2) (by simp) hk1;obtain ⟨d2,z2⟩:=hs3.cellI 2 rfl (by simp) hx2;have hs8:=hs3.putI 2 rfl (by simp) (k+1) (-1);have HCH:Hid (((List.replicate n (0:Int)).set k 2).set (k+1) (-1)=chR n k):=zTD (by unfold chR chB; rw [if_pos hk1,if_neg hk0]);clear hx2 hs3;have hsr:HS w ((w2.setCell ⟨g,k,none⟩ (.int .i64 2)).setCell ⟨g,k+1,none⟩ (.int .i64 (-1))) [aV 29 vo (Z.map Prod.fst),aRs Z,aI (.slice (some ⟨g,0,none⟩) n n) (chR n k)]:=by rw [<-HCH.out]; exact hs8
     obtain ⟨w5,hw5⟩:∃w5,w5=((w2.setCell ⟨g,k,none⟩ (.int .i64 2)).setCell ⟨g,k+1,none⟩ (.int .i64 (-1))).alloc (.cells #[.slice (some ⟨g,0,none⟩) n n] 29):=⟨_,rfl⟩;have hs5:=hsr.alloc (.cells #[.slice (some ⟨g,0,none⟩) n n] 29);rw [<-hw5] at hs5;have hc5:w5.cell? ⟨((w2.setCell ⟨g,k,none⟩ (.int .i64 2)).setCell ⟨g,k+1,none⟩ (.int .i64 (-1))).heap.size,0,none⟩=some (.slice (some ⟨g,0,none⟩) n n):=by rw [hw5]; go_simp
     simp only [zAM] at hc5;have HW5:=zTD hw5;have HNV:=zTD (HS.newV hs5 0 rfl);have hone:(Value.slice (some ⟨g,0,none⟩) n n).oneCell'=true:=rfl;clear hw5 hsr hs8;go_wp2_with (at_builtin; go_must (rw [<-HW5.out]; refine zAH rfl _ _ rfl rfl hs5 0 rfl HNV.out rfl hc5 hone HZL.out ?_))
     intro v6 w6 hs6 _;have hs7:=(hs6.moreS 1 2 (by decide) rfl rfl (Z':=Z++[(.slice (some ⟨g,0,none⟩) n n,chR n k)]) (List.perm_append_singleton _ _)).pick [0,1] (by decide);have hs7:HS w w6 [aV 29 v6 ((Z++[(Value.slice (some ⟨g,0,none⟩) n n,chR n k)]).map Prod.fst),aRs (Z++[(Value.slice (some ⟨g,0,none⟩) n n,chR n k)])]:=by
      have e:(Z++[(Value.slice (some ⟨g,0,none⟩) n n,chR n k)]).map Prod.fst=Z.map Prod.fst++[Value.slice (some ⟨g,0,none⟩) n n]:=by simp
      rw [e]; exact hs7
     have HM2:Hid ((Z++[(Value.slice (some ⟨g,0,none⟩) n n,chR n k)]).map Prod.snd=(List.range (k+1)).map (chR n)):=zTD (by rw [List.map_append,HM.out,zBz]; rfl);clear hs5 hs6;go_wp2_with fail
     go_roundw
     case rel=>exact ⟨k+1,_,_,rfl,by omega,by go_num,hs7,HM2⟩
     case measure=>simp [intOf]; omega
    ·have i6:¬(k:Int)+1<(n:Int):=by omega
     have HCH:Hid ((List.replicate n (0:Int)).set k 2=chR n k):=zTD (by unfold chR chB; rw [if_neg hk1,if_neg hk0]);have hsr:HS w (w2.setCell ⟨g,k,none⟩ (.int .i64 2)) [aV 29 vo (Z.map Prod.fst),aRs Z,aI (.slice (some ⟨g,0,none⟩) n n) (chR n k)]:=by rw [<-HCH.out]; exact hs3
     obtain ⟨w5,hw5⟩:∃w5,w5=(w2.setCell ⟨g,k,none⟩ (.int .i64 2)).alloc (.cells #[.slice (some ⟨g,0,none⟩) n n] 29):=⟨_,rfl⟩;have hs5:=hsr.alloc (.cells #[.slice (some ⟨g,0,none⟩) n n] 29);rw [<-hw5] at hs5;have hc5:w5.cell? ⟨(w2.setCell ⟨g,k,none⟩ (.int .i64 2)).heap.size,0,none⟩=some (.slice (some ⟨g,0,none⟩) n n):=by rw [hw5]; go_simp
     simp only [zAM] at hc5;have HW5:=zTD hw5;have HNV:=zTD (HS.newV hs5 0 rfl);have hone:(Value.slice (some ⟨g,0,none⟩) n n).oneCell'=true:=rfl;clear hw5 hsr hs3;go_wp2_with (at_builtin; go_must (rw [<-HW5.out]; refine zAH rfl _ _ rfl rfl hs5 0 rfl HNV.out rfl hc5 hone HZL.out ?_))
     intro v6 w6 hs6 _;have hs7:=(hs6.moreS 1 2 (by decide) rfl rfl (Z':=Z++[(.slice (some ⟨g,0,none⟩) n n,chR n k)]) (List.perm_append_singleton _ _)).pick [0,1] (by decide);have hs7:HS w w6 [aV 29 v6 ((Z++[(Value.slice (some ⟨g,0,none⟩) n n,chR n k)]).map Prod.fst),aRs (Z++[(Value.slice (some ⟨g,0,none⟩) n n,chR n k)])]:=by
      have e:(Z++[(Value.slice (some ⟨g,0,none⟩) n n,chR n k)]).map Prod.fst=Z.map Prod.fst++[Value.slice (some ⟨g,0,none⟩) n n]:=by simp
      rw [e]; exact hs7
     have HM2:Hid ((Z++[(Value.slice (some ⟨g,0,none⟩) n n,chR n k)]).map Prod.snd=(List.range (k+1)).map (chR n)):=zTD (by rw [List.map_append,HM.out,zBz]; rfl);clear hs5 hs6;go_wp2_with fail
     go_roundw
     case rel=>exact ⟨k+1,_,_,rfl,by omega,by go_num,hs7,HM2⟩
     case measure=>simp [intOf]; omega
  ·have i1:¬(k:Int)<(n:Int):=by omega
   have e:k=n:=by omega
   have hs2:=((hs.shutF (Z:=Z) (v:=vo) 0 1 (by decide) rfl rfl).pick [0] (by decide));have hs3:HS w wr [aF vo (Z.map Prod.snd)]:=hs2;rw [HM.out,e] at hs3;clear hs hs2 e;go_wp2_with fail
   go_ret
   exact ⟨_,rfl,hs3.F 0 rfl,hs3.bl⟩
theorem zLU {S:Nat→Prop} {w:World} {u:Value} {L:List (List Int)} (h:RII S w u L) (hl:L.length≤1048576) (hr:∀l∈L,l.length≤1048576) :
  Calls Tryz.prog 150 #[u] w fun e w'=>∃r,e=.returned r∧FII (New w w') w' r L∧Below w.heap.size w w':=by
 have mixed:Tryz.prog.follows .mixedOrders=true:=by kernel_rfl
 obtain ⟨w1,hw1⟩:∃w1,w1=w.alloc (.cells #[] 29):=⟨_,rfl⟩;have hs1:=zAj (HS.nil (Below.refl _ w)) hw1;have hs1:=hs1.add (Below.refl _ _) (zA7 []) (F:=NoB) ⟨fun x hx=>by simp at hx,List.Pairwise.nil⟩ (fun b hb=>hb.elim);have hs1:HS w w1 [aV 29 (.slice (some ⟨w.heap.size,0,none⟩) 0 0) (([]:Zl).map Prod.fst),aRs []]:=hs1;have HW1:=zTD hw1;have HM0:Hid (([]:Zl).map Prod.snd=L.take 0):=zTD rfl;obtain ⟨a,cap,rfl⟩:=h.form;have HR:=zTD hr;generalize hn:L.length=n at *;have HN:=zTD hn;clear hw1 hn hr;go_enter Tryz.func150,Tryz.ntmps150
 go_wp2_with fail
 rw [<-HW1.out];go_loopw [3,4] (fun oo kk wr=>∃(k:Nat) (vo:Value) (Z:Zl),vo=oo∧k≤n∧kk=.int .i64 k∧HS w wr [aV 29 vo (Z.map Prod.fst),aRs Z]∧Hid (Z.map Prod.snd=L.take k)) (fun _ kk _=>n-(intOf kk).toNat)
 case atStart=>exact ⟨0,_,[],rfl,Nat.zero_le _,rfl,hs1,HM0⟩
 case round =>
  clear hs1 HM0;obtain ⟨k,vo,Z,rfl,hk,rfl,hs,HM⟩:=hrel;by_cases hkn:k<n
  ·have i1:(k:Int)<(n:Int):=by omega
   have i2:(0:Int)≤(k:Int):=by omega
   have HZL:Hid ((Z.map Prod.fst).length+1≤67108864):=zTD (by have:=congrArg List.length HM.out; simp at this; simp; omega);have hu:=h.below hs.bl;obtain ⟨b3,o3,r3,l3,rfl,hc3,hr3,hl3⟩:=RII.at hu hkn;have e3:=HR.out l3 (zTF hl3.out);obtain ⟨a3,c3,rfl⟩:=hr3.form;have HL3:=zTD hl3.out;have HV3:=zTD e3;generalize hn3:l3.length=n3 at *;have HN3:=zTD hn3;have hv2:=hr3;have l0:b3<wr.heap.size:=zTH wr _ hc3;clear hn3 hu hl3;go_wp2_with (at_builtin; go_must (refine zAL (W:=wr) rfl _ _ rfl rfl (FI.fresh0 wr) zAm rfl (hv2.below zAm) ?_ ?_))
   ·first | (simp; omega) | omega | (have:=HN3.out; have:=HV3.out; simp; omega)
   ·intro vn wn fn bn _;have fn:FI _ wn vn l3:=fn;obtain ⟨an,cn,en⟩:=fn.form;rw [HN3.out] at en;subst en;have hsn:=hs.addI bn fn;have hsn:HS w wn [aV 29 vo (Z.map Prod.fst),aRs Z,aI (.slice an n3 cn) l3]:=hsn;obtain ⟨w5,hw5⟩:∃w5,w5=wn.alloc (.cells #[.slice an n3 cn] 29):=⟨_,rfl⟩;have hs5:=hsn.alloc (.cells #[.slice an n3 cn] 29);rw [<-hw5] at hs5;have hc5:w5.cell? ⟨wn.heap.size,0,none⟩=some (.slice an n3 cn):=by rw [hw5]; go_simp
    have HW5:=zTD hw5;have HNV:=zTD (HS.newV hs5 0 rfl);have hone:(Value.slice an n3 cn).oneCell'=true:=oneC fn.reads;clear hw5 hsn hs fn bn hc3 hr3 hv2;go_wp2_with (at_builtin; go_must (rw [<-HW5.out]; refine zAH rfl _ _ rfl rfl hs5 0 rfl HNV.out rfl hc5 hone HZL.out ?_))
    intro v6 w6 hs6 _;have hs7:=(hs6.moreS 1 2 (by decide) rfl rfl (Z':=Z++[(.slice an n3 cn,l3)]) (List.perm_append_singleton _ _)).pick [0,1] (by decide);have hs7:HS w w6 [aV 29 v6 ((Z++[(Value.slice an n3 cn,l3)]).map Prod.fst),aRs (Z++[(Value.slice an n3 cn,l3)])]:=by
     have e:(Z++[(Value.slice an n3 cn,l3)]).map Prod.fst=Z.map Prod.fst++[Value.slice an n3 cn]:=by simp
     rw [e]; exact hs7
    have HM2:Hid ((Z++[(Value.slice an n3 cn,l3)]).map Prod.snd=L.take (k+1)):=zTD (by rw [List.map_append,HM.out,zAP HL3.out]; rfl);clear hs5 hs6;go_wp2_with fail
    go_roundw
    case rel=>exact ⟨k+1,_,_,rfl,by omega,by go_num,hs7,HM2⟩
    case measure=>simp [intOf]; omega
  ·have i1:¬(k:Int)<(n:Int):=by omega
   have e:L.take k=L:=List.take_of_length_le (by rw [HN.out]; omega);have hs2:=((hs.shutF (Z:=Z) (v:=vo) 0 1 (by decide) rfl rfl).pick [0] (by decide));have hs3:HS w wr [aF vo (Z.map Prod.snd)]:=hs2;rw [HM.out,e] at hs3;clear hs hs2 e;go_wp2_with fail
   go_ret
   exact ⟨_,rfl,hs3.F 0 rfl,hs3.bl⟩
theorem zAp {S:Nat→Prop} {w:World} {u:Value} {L:List (List Int)} {n i j:Nat} (h:RII S w u L) (hq:Sqn L n) (h4:n≤4) (hi:i<n) (hj:j<n) (p q:Int) :
  Calls Tryz.prog 97 #[u,.int .i64 i,.int .i64 j,.int .i64 p,.int .i64 q] w fun e w'=>∃r,e=.returned r∧FII (New w w') w' r (put1 (put1 L i j p) j i q)∧Below w.heap.size w w':=by
 have mixed:Tryz.prog.follows .mixedOrders=true:=by kernel_rfl
 have hc:=zLU h (by rw [hq.len]; omega) (fun l hl=>by rw [hq.row l hl]; omega);go_enter Tryz.func97,Tryz.ntmps97
 go_wp2_with fail
 refine hc.mono ?_;rintro e w1 ⟨r1,rfl,f1,b1⟩;obtain ⟨Z,hZ,hs1⟩:=((HS.nil (Below.refl _ w)).addF b1 f1).openF 0 rfl;have hs1:HS w w1 [aV 29 r1 (Z.map Prod.fst),aRs Z]:=hs1;subst hZ;clear hc f1 b1 h;have hyl:Z.length=n:=by simpa using hq.len
 obtain ⟨⟨a,cap,hf⟩,hh⟩:=hs1.formV 0 rfl;obtain ⟨gv,cv,rfl⟩:=hh (by simp; omega);rw [show (Z.map Prod.fst).length=n by simpa using hyl] at hs1 ⊢;clear hf hh;have rowAt:∀{wv:World} {Y:Zl} {v:Value} {m:Nat},HS w wv [aV 29 v (Y.map Prod.fst),aRs Y]→Sqn (Y.map Prod.snd) n→m<n→∃gr cr l,Y[m]? = some (.slice (some ⟨gr,0,none⟩) n cr,l)∧l.length=n:=fun {wv Y v m} hs hsq hm=>by
  have hyl:Y.length=n:=by simpa using hsq.len
  obtain ⟨z,hz⟩:∃z,Y[m]? = some z:=⟨Y[m]'(by omega),zTE _⟩;have hzl:z.2.length=n:=hsq.row z.2 (List.mem_map_of_mem (zTF hz));obtain ⟨rv,lz⟩:=z;have hzl:lz.length=n:=hzl;obtain ⟨F,hF,_⟩:=HSx.get hs 1 rfl;have hf:FI F wv rv lz:=hF.1 _ (zTF hz);obtain ⟨a9,c9,rfl⟩:=hf.form;obtain ⟨g9,rfl,_⟩:=hf.head (by omega);rw [hzl] at hz;exact ⟨g9,c9,lz,hz,hzl⟩
 obtain ⟨gr,cr,lz,hz,hzl⟩:=rowAt hs1 hq hi;obtain ⟨y,hy⟩:=zBb hzl hj;have c4:=(hs1.cellV 0 rfl (j:=i) (r:=.slice (some ⟨gr,0,none⟩) n cr) (by simp [hz])).1;obtain ⟨c5,c6⟩:=HSx.cellS hs1 1 rfl hz hy;have hs9:=HS.putS hs1 1 rfl hz j p;have HST:((Z.set i (Value.slice (some ⟨gr,0,none⟩) n cr,lz.set j p)).map Prod.snd)=put1 (Z.map Prod.snd) i j p:=by
  rw [List.map_set];unfold put1;rw [List.getElem?_map,hz];rfl
 have hsq2:Sqn ((Z.set i (Value.slice (some ⟨gr,0,none⟩) n cr,lz.set j p)).map Prod.snd) n:=by rw [HST]; exact zBv hq hi
 have hs9:HS w (w1.setCell ⟨gr,j,none⟩ (.int .i64 p)) [aV 29 (.slice (some ⟨gv,0,none⟩) n cv) ((Z.set i (Value.slice (some ⟨gr,0,none⟩) n cr,lz.set j p)).map Prod.fst),aRs (Z.set i (Value.slice (some ⟨gr,0,none⟩) n cr,lz.set j p))]:=by rw [zD4 hz]; exact hs9
 have HST3:=zTD HST;generalize hY:Z.set i (Value.slice (some ⟨gr,0,none⟩) n cr,lz.set j p)=Y at *;obtain ⟨gs,cs,ls,hy1,hyl1⟩:=rowAt hs9 hsq2 hj;obtain ⟨y2,hy2⟩:=zBb hyl1 hi;have d4:=(hs9.cellV 0 rfl (j:=j) (r:=.slice (some ⟨gs,0,none⟩) n cs) (by simp [hy1])).1;obtain ⟨d5,d6⟩:=HSx.cellS hs9 1 rfl hy1 hy2;have hs10:=HS.putS hs9 1 rfl hy1 i q;have HST2:Hid ((Y.set j (Value.slice (some ⟨gs,0,none⟩) n cs,ls.set i q)).map Prod.snd=put1 (Y.map Prod.snd) j i q):=zTD (by
  rw [List.map_set];unfold put1;rw [List.getElem?_map,hy1];rfl)
 have HF2:=zTD (zD4 (l':=ls.set i q) hy1);have i1:(0:Int)≤(i:Int):=by omega
 have i2:(0:Int)≤(j:Int):=by omega
 have i3:(i:Int)<(n:Int):=by omega
 have i4:(j:Int)<(n:Int):=by omega
 clear hz hy hs1 hq HST rowAt hy1 hy2 hs9 hsq2;go_wp2_with fail
 go_ret
 have hs11:HS w ((w1.setCell ⟨gr,j,none⟩ (.int .i64 p)).setCell ⟨gs,i,none⟩ (.int .i64 q)) [aV 29 (.slice (some ⟨gv,0,none⟩) n cv) ((Y.set j (Value.slice (some ⟨gs,0,none⟩) n cs,ls.set i q)).map Prod.fst),aRs (Y.set j (Value.slice (some ⟨gs,0,none⟩) n cs,ls.set i q))]:=by rw [HF2.out]; exact hs10
 have hs12:=((hs11.shutF (Z:=Y.set j (Value.slice (some ⟨gs,0,none⟩) n cs,ls.set i q)) 0 1 (by decide) rfl rfl).pick [0] (by decide));have hs12:HS w ((w1.setCell ⟨gr,j,none⟩ (.int .i64 p)).setCell ⟨gs,i,none⟩ (.int .i64 q)) [aF (.slice (some ⟨gv,0,none⟩) n cv) ((Y.set j (Value.slice (some ⟨gs,0,none⟩) n cs,ls.set i q)).map Prod.snd)]:=hs12;rw [HST2.out,HST3.out] at hs12;exact ⟨_,rfl,hs12.F 0 rfl,hs12.bl⟩
theorem zDN (w:World):Calls Tryz.prog 59 #[.string ⟨#[65,49]⟩] w (TcP 0 w):=by
 have HC:=zTD (fun wv=>zAo (n:=1) (by omega) wv);have hb:((((⟨#[65,49]⟩:ByteArray)[1]'(by decide)).toNat:Nat):Int)=49:=by decide
 go_enter Tryz.func59,Tryz.ntmps59
 go_wp2_with fail
 refine (HC.out w).mono ?_;rintro e w1 ⟨r1,rfl,f1,b1⟩;go_wp2_with fail
 go_ret2
 exact TcP.of f1 b1 (by decide)
theorem zCt (w:World):Calls Tryz.prog 59 #[.string ⟨#[65,50]⟩] w (TcP 1 w):=by
 have HC:=zTD (fun wv=>zAo (n:=2) (by omega) wv);have hb:((((⟨#[65,50]⟩:ByteArray)[1]'(by decide)).toNat:Nat):Int)=50:=by decide
 go_enter Tryz.func59,Tryz.ntmps59
 go_wp2_with fail
 refine (HC.out w).mono ?_;rintro e w1 ⟨r1,rfl,f1,b1⟩;go_wp2_with fail
 go_ret2
 exact TcP.of f1 b1 (by decide)
theorem zCu (w:World):Calls Tryz.prog 59 #[.string ⟨#[65,51]⟩] w (TcP 2 w):=by
 have HC:=zTD (fun wv=>zAo (n:=3) (by omega) wv);have hb:((((⟨#[65,51]⟩:ByteArray)[1]'(by decide)).toNat:Nat):Int)=51:=by decide
 go_enter Tryz.func59,Tryz.ntmps59
 go_wp2_with fail
 refine (HC.out w).mono ?_;rintro e w1 ⟨r1,rfl,f1,b1⟩;go_wp2_with fail
 go_ret2
 exact TcP.of f1 b1 (by decide)
theorem zG7 (w:World):Calls Tryz.prog 59 #[.string ⟨#[65,52]⟩] w (TcP 3 w):=by
 have HC:=zTD (fun wv=>zAo (n:=4) (by omega) wv);have hb:((((⟨#[65,52]⟩:ByteArray)[1]'(by decide)).toNat:Nat):Int)=52:=by decide
 go_enter Tryz.func59,Tryz.ntmps59
 go_wp2_with fail
 refine (HC.out w).mono ?_;rintro e w1 ⟨r1,rfl,f1,b1⟩;go_wp2_with fail
 go_ret2
 exact TcP.of f1 b1 (by decide)
theorem zCv (w:World):Calls Tryz.prog 59 #[.string ⟨#[66,50]⟩] w (TcP 4 w):=by
 have HC:=zTD (fun wv=>zAo (n:=2) (by omega) wv);have hb:((((⟨#[66,50]⟩:ByteArray)[1]'(by decide)).toNat:Nat):Int)=50:=by decide
 go_enter Tryz.func59,Tryz.ntmps59
 go_wp2_with fail
 refine (HC.out w).mono ?_;rintro e w1 ⟨r1,rfl,f1,b1⟩;have hc0:=zAp (i:=0) (j:=1) f1.read (zAw _) (by omega) (by omega) (by omega) (-1) (-2);go_wp2_with fail
 refine hc0.mono ?_;rintro e w2 ⟨r2,rfl,f2,b2'⟩;have b2:=zAC.step b1 b2';go_wp2_with fail
 go_ret2
 exact TcP.of (FC.mono f2 (fun b hb=>⟨Nat.le_trans b1.size hb.1,hb.2⟩)) b2 (by decide)
theorem zG8 (w:World):Calls Tryz.prog 59 #[.string ⟨#[66,51]⟩] w (TcP 5 w):=by
 have HC:=zTD (fun wv=>zAo (n:=3) (by omega) wv);have hb:((((⟨#[66,51]⟩:ByteArray)[1]'(by decide)).toNat:Nat):Int)=51:=by decide
 go_enter Tryz.func59,Tryz.ntmps59
 go_wp2_with fail
 refine (HC.out w).mono ?_;rintro e w1 ⟨r1,rfl,f1,b1⟩;have hc0:=zAp (i:=1) (j:=2) f1.read (zAw _) (by omega) (by omega) (by omega) (-1) (-2);go_wp2_with fail
 refine hc0.mono ?_;rintro e w2 ⟨r2,rfl,f2,b2'⟩;have b2:=zAC.step b1 b2';go_wp2_with fail
 go_ret2
 exact TcP.of (FC.mono f2 (fun b hb=>⟨Nat.le_trans b1.size hb.1,hb.2⟩)) b2 (by decide)
theorem zRj (w:World):Calls Tryz.prog 59 #[.string ⟨#[66,52]⟩] w (TcP 6 w):=by
 have HC:=zTD (fun wv=>zAo (n:=4) (by omega) wv);have hb:((((⟨#[66,52]⟩:ByteArray)[1]'(by decide)).toNat:Nat):Int)=52:=by decide
 go_enter Tryz.func59,Tryz.ntmps59
 go_wp2_with fail
 refine (HC.out w).mono ?_;rintro e w1 ⟨r1,rfl,f1,b1⟩;have hc0:=zAp (i:=2) (j:=3) f1.read (zAw _) (by omega) (by omega) (by omega) (-1) (-2);go_wp2_with fail
 refine hc0.mono ?_;rintro e w2 ⟨r2,rfl,f2,b2'⟩;have b2:=zAC.step b1 b2';go_wp2_with fail
 go_ret2
 exact TcP.of (FC.mono f2 (fun b hb=>⟨Nat.le_trans b1.size hb.1,hb.2⟩)) b2 (by decide)
theorem zG9 (w:World):Calls Tryz.prog 59 #[.string ⟨#[67,51]⟩] w (TcP 7 w):=by
 have HC:=zTD (fun wv=>zAo (n:=3) (by omega) wv);have hb:((((⟨#[67,51]⟩:ByteArray)[1]'(by decide)).toNat:Nat):Int)=51:=by decide
 go_enter Tryz.func59,Tryz.ntmps59
 go_wp2_with fail
 refine (HC.out w).mono ?_;rintro e w1 ⟨r1,rfl,f1,b1⟩;have hc0:=zAp (i:=1) (j:=2) f1.read (zAw _) (by omega) (by omega) (by omega) (-2) (-1);go_wp2_with fail
 refine hc0.mono ?_;rintro e w2 ⟨r2,rfl,f2,b2'⟩;have b2:=zAC.step b1 b2';go_wp2_with fail
 go_ret2
 exact TcP.of (FC.mono f2 (fun b hb=>⟨Nat.le_trans b1.size hb.1,hb.2⟩)) b2 (by decide)
theorem zRk (w:World):Calls Tryz.prog 59 #[.string ⟨#[67,52]⟩] w (TcP 8 w):=by
 have HC:=zTD (fun wv=>zAo (n:=4) (by omega) wv);have hb:((((⟨#[67,52]⟩:ByteArray)[1]'(by decide)).toNat:Nat):Int)=52:=by decide
 go_enter Tryz.func59,Tryz.ntmps59
 go_wp2_with fail
 refine (HC.out w).mono ?_;rintro e w1 ⟨r1,rfl,f1,b1⟩;have hc0:=zAp (i:=2) (j:=3) f1.read (zAw _) (by omega) (by omega) (by omega) (-2) (-1);go_wp2_with fail
 refine hc0.mono ?_;rintro e w2 ⟨r2,rfl,f2,b2'⟩;have b2:=zAC.step b1 b2';go_wp2_with fail
 go_ret2
 exact TcP.of (FC.mono f2 (fun b hb=>⟨Nat.le_trans b1.size hb.1,hb.2⟩)) b2 (by decide)
theorem zHA (w:World):Calls Tryz.prog 59 #[.string ⟨#[68,52]⟩] w (TcP 9 w):=by
 have HC:=zTD (fun wv=>zAo (n:=4) (by omega) wv);have hb:((((⟨#[68,52]⟩:ByteArray)[1]'(by decide)).toNat:Nat):Int)=52:=by decide
 go_enter Tryz.func59,Tryz.ntmps59
 go_wp2_with fail
 refine (HC.out w).mono ?_;rintro e w1 ⟨r1,rfl,f1,b1⟩;have hc0:=zAp (i:=2) (j:=3) f1.read (zAw _) (by omega) (by omega) (by omega) 0 0;go_wp2_with fail
 refine hc0.mono ?_;rintro e w2 ⟨r2,rfl,f2,b2'⟩;have b2:=zAC.step b1 b2';have hc1:=zAp (i:=1) (j:=3) f2.read (zBv (zBv (zAw _) (by omega)) (by omega)) (by omega) (by omega) (by omega) (-1) (-1);go_wp2_with fail
 refine hc1.mono ?_;rintro e w3 ⟨r3,rfl,f3,b3'⟩;have b3:=zAC.step b2 b3';go_wp2_with fail
 go_ret2
 exact TcP.of (FC.mono f3 (fun b hb=>⟨Nat.le_trans b2.size hb.1,hb.2⟩)) b3 (by decide)
theorem zPk (w:World):Calls Tryz.prog 59 #[.string ⟨#[70,52]⟩] w (TcP 10 w):=by
 have HC:=zTD (fun wv=>zAo (n:=4) (by omega) wv);have hb:((((⟨#[70,52]⟩:ByteArray)[1]'(by decide)).toNat:Nat):Int)=52:=by decide
 go_enter Tryz.func59,Tryz.ntmps59
 go_wp2_with fail
 refine (HC.out w).mono ?_;rintro e w1 ⟨r1,rfl,f1,b1⟩;have hc0:=zAp (i:=1) (j:=2) f1.read (zAw _) (by omega) (by omega) (by omega) (-1) (-2);go_wp2_with fail
 refine hc0.mono ?_;rintro e w2 ⟨r2,rfl,f2,b2'⟩;have b2:=zAC.step b1 b2';go_wp2_with fail
 go_ret2
 exact TcP.of (FC.mono f2 (fun b hb=>⟨Nat.le_trans b1.size hb.1,hb.2⟩)) b2 (by decide)
theorem zEX (w:World):Calls Tryz.prog 59 #[.string ⟨#[71,50]⟩] w (TcP 11 w):=by
 have HC:=zTD (fun wv=>zAo (n:=2) (by omega) wv);have hb:((((⟨#[71,50]⟩:ByteArray)[1]'(by decide)).toNat:Nat):Int)=50:=by decide
 go_enter Tryz.func59,Tryz.ntmps59
 go_wp2_with fail
 refine (HC.out w).mono ?_;rintro e w1 ⟨r1,rfl,f1,b1⟩;have hc0:=zAp (i:=0) (j:=1) f1.read (zAw _) (by omega) (by omega) (by omega) (-1) (-3);go_wp2_with fail
 refine hc0.mono ?_;rintro e w2 ⟨r2,rfl,f2,b2'⟩;have b2:=zAC.step b1 b2';go_wp2_with fail
 go_ret2
 exact TcP.of (FC.mono f2 (fun b hb=>⟨Nat.le_trans b1.size hb.1,hb.2⟩)) b2 (by decide)
theorem zDp {A B:Nat}:∀{L:List (List Int)},L.length≤A→(∀x∈L,x.length≤B)→total L≤A*(B+1):=by
 intro L hA hB;have h1:(L.map List.length).sum≤L.length*B:=by
  clear hA
  induction L with
  | nil=>simp
  | cons x L ih =>
   have:=ih (fun y hy=>hB y (List.mem_cons_of_mem _ hy));have:=hB x (List.mem_cons_self ..);simp only [List.map_cons,List.sum_cons,List.length_cons,Nat.add_mul,Nat.one_mul];omega
 have h2:L.length*B≤A*B:=Nat.mul_le_mul_right _ hA;unfold total;rw [Nat.mul_add,Nat.mul_one];omega
theorem zLp:∀k,k<12→∀w:World,Calls Tryz.prog 59 #[.string (bs (tyNm k))] w (TcP k w)
 | 0,_,w=>zDN w
 | 1,_,w=>zCt w
 | 2,_,w=>zCu w
 | 3,_,w=>zG7 w
 | 4,_,w=>zCv w
 | 5,_,w=>zG8 w
 | 6,_,w=>zRj w
 | 7,_,w=>zG9 w
 | 8,_,w=>zRk w
 | 9,_,w=>zHA w
 | 10,_,w=>zPk w
 | 11,_,w=>zEX w
 | _+12,h,_=>absurd h (by omega)
def NmAt (w:World) (b:Nat):Prop:=∀k,k<12→w.cell? ⟨b,k,none⟩=some (.string (bs (tyNm k)))
theorem NmAt.below {w w':World} {b:Nat} (h:NmAt w b) (hb:Below w.heap.size w w'):NmAt w' b:=fun k hk =>
 (hb.cell (p:=⟨b,k,none⟩) (zTH _ _ (h k hk))).trans (h k hk)
theorem zMt (w:World) :
  Calls Tryz.prog 86 #[] w fun e w'=>e=.returned (.slice (some ⟨w.heap.size,0,none⟩) 17 17)∧NmAt w' w.heap.size∧Below w.heap.size w w':=by
 go_enter Tryz.func86,Tryz.ntmps86
 go_wp2_with fail
 go_ret
 refine ⟨rfl,fun k hk=>?_,(Below.refl _ w).alloc (zTI _) _⟩;have hc:k=0∨k=1∨k=2∨k=3∨k=4∨k=5∨k=6∨k=7∨k=8∨k=9∨k=10∨k=11:=by omega
 rcases hc with rfl | rfl | rfl | rfl | rfl | rfl | rfl | rfl | rfl | rfl | rfl | rfl <;> (go_simp; rfl)
theorem zI7 {S:Nat→Prop} {u:Value} {a:List (List Int)} {k:Nat} {w:World} (h:RII S w u a) (ha:isC a=true) (hla:total a≤16777216) (hk:nmK isoS a=some k) (hk12:k<12) :
  Calls Tryz.prog 49 #[u] w fun e w'=>e=.returned (.string (bs (tyNm k)))∧Below w.heap.size w w':=by
 have mixed:Tryz.prog.follows .mixedOrders=true:=by kernel_rfl
 obtain ⟨hyes,hno⟩:=zGY hk;have HISO:=zTD (fun (wv:World) (S9:Nat→Prop) (vv:Value) (j:Nat) (hj:j<12) (hb:Below w.heap.size w wv) (hx:RII S9 wv vv (tyMx j)) =>
  zQo (h.below hb) hx ha (zJg j hj) hla (by
   obtain ⟨q1,q2⟩:=zLA j hj;exact Nat.le_trans (zDp q1 q2) (by omega)))
 have HNS:=zTD (zMt w);have HY:=zTD hyes;have HN:=zTD hno;obtain ⟨aa,ca,rfl⟩:=h.form;generalize a.length=na at *;have HKK:=zTD hk;clear hyes hno h hk;go_enter Tryz.func49,Tryz.ntmps49
 go_wp2_with fail
 refine HNS.out.mono ?_;rintro e w1 ⟨rfl,c1,b1⟩;clear HNS;go_wp2_with fail
 go_loopw [4] (fun jj wr=>∃j:Nat,j≤k∧jj=.int .i64 j∧NmAt wr w.heap.size∧Below w.heap.size w wr) (fun jj _=>k-(intOf jj).toNat)
 case atStart=>exact ⟨0,Nat.zero_le _,rfl,c1,b1⟩
 case round =>
  clear c1 b1;obtain ⟨j,hj,rfl,hc,hb⟩:=hrel;have j1:(j:Int)<17:=by omega
  have j2:(0:Int)≤(j:Int):=by omega
  have j3:j<17:=by omega
  have hcj:=hc j (by omega);have htc:=zLp j (by omega) wr;have lg:=zTH _ _ hcj;generalize hnm:tyNm j=nm at *;have HNM:=zTD hnm;clear hnm;go_wp2_with fail
  refine htc.mono ?_;rintro e w2 ⟨r2,rfl,f2,b2⟩;have hb2:=zAC.step hb b2;have hc2:=hc.below b2;have hiso:=HISO.out w2 _ r2 j (by omega) hb2 f2.read;have hcj2:=(b2.cell (p:=⟨w.heap.size,j,none⟩) lg).trans hcj;have lg2:=zTH _ _ hcj2;clear htc f2 b2 hcj;by_cases hjk:j=k
  ·subst hjk;rw [HY.out] at hiso;go_wp2_with fail
   refine hiso.mono ?_;rintro e w3 ⟨r3,rfl,b3⟩;have hb3:=zAC.step hb2 b3;have hcj3:=(b3.cell (p:=⟨w.heap.size,j,none⟩) lg2).trans hcj2;clear hiso b3 hcj2;go_wp2_with fail
   go_ret
   exact ⟨by rw [HNM.out]; rfl,hb3⟩
  ·rw [HN.out j (by omega)] at hiso;go_wp2_with fail
   refine hiso.mono ?_;rintro e w3 ⟨r3,rfl,b3⟩;have hb3:=zAC.step hb2 b3;have hc3:=hc2.below b3;clear hiso b3 hcj2;go_wp2_with fail
   go_roundw
   case rel=>exact ⟨j+1,by omega,by go_num,hc3,hb3⟩
   case measure=>simp [intOf]; omega
def nmJ (c:List (List Int)) (i:Nat):List UInt8:=Lib.join ((nmL c).take i) [120]
theorem zMd (xs:List (List UInt8)) (y:List UInt8):Lib.join (xs++[y]) [120]=if xs=[] then y else Lib.join xs [120]++([120]++y):=by
 cases xs with
 | nil=>simp [Lib.join_one]
 | cons x r =>
  rw [if_neg (by simp)];simp only [List.cons_append,Lib.join_cons,Lib.joinTail];simp
theorem zQ2 (c:List (List Int)):nmJ c (zAU c).length=nmT c:=by
 unfold nmJ nmT;rw [List.take_of_length_le (by unfold nmL; rw [List.length_map]; exact zTI _)]
theorem zJD {c:List (List Int)} {i:Nat} {p:List Nat} (h:(zAU c)[i]? = some p):(nmL c)[i]? = some (nmOf (zAc c p)):=by
 unfold nmL; rw [List.getElem?_map,h]; rfl
theorem zPB {c:List (List Int)} {i:Nat} {p:List Nat} (h:(zAU c)[i]? = some p):nmJ c (i+1)=(if i=0 then nmOf (zAc c p) else nmJ c i++([120]++nmOf (zAc c p))):=by
 unfold nmJ;rw [zAP (zJD h),zMd];by_cases hi:i=0
 ·subst hi; simp
 ·rw [if_neg hi,if_neg (fun e=>by
   have h1:=congrArg List.length e;have h2:=(zTG (zJD h)).1;rw [List.length_take,List.length_nil] at h1;omega)]
theorem zKZ:∀(xs:List (List UInt8)),(∀x∈xs,x.length≤2)→(Lib.join xs [120]).length≤3*xs.length
 | [],_=>by simp [Lib.join_nil]
 | [x],h=>by have:=h x (by simp); simp [Lib.join_one]; omega
 | x::y::r,h=>by
  have h1:=zKZ (y::r) (fun z hz=>h z (List.mem_cons_of_mem _ hz));have h2:=h x (by simp);simp only [Lib.join_cons,Lib.joinTail,List.map_cons,List.flatten_cons,List.length_append,List.length_cons,List.length_nil] at h1 ⊢;omega
theorem zI8 {S:Nat→Prop} {u:Value} {c:List (List Int)} {w:World} (h:RII S w u c) (hf:FinP c) (hl:total c≤16777216) :
  Calls Tryz.prog 15 #[u] w fun e w'=>e=.returned (.string (bs (nmT c)))∧Below w.heap.size w w':=by
 have mixed:Tryz.prog.follows .mixedOrders=true:=by kernel_rfl
 have hc:=hf.cart;have hC:=zAS.2 hc;obtain ⟨hps,hnm⟩:=hf.names;have hok:=hf.texts;have hpt:=zNA h hC hl;rw [<-hps] at hpt;have h4:=hc.le;have HSUB:=zTD (fun (wv:World) (S9:Nat→Prop) (vv:Value) (p:List Nat) (hp:p∈zAU c) (hb:Below w.heap.size w wv) (hx:RI S9 wv vv (iL p)) =>
  zEf (h.below hb) hx hc hl (hok.part p hp).pts (hok.part p hp).asc (hok.part p hp).pos (by
   have:=(hok.part p hp).asc;have h1:=(hok.part p hp).car;have h2:=(zAS.1 h1).le;rw [(zCs c p).1] at h2;simp; omega))
 have HNAME:=zTD (fun (wv:World) (S9:Nat→Prop) (vv:Value) (p:List Nat) (hp:p∈zAU c) (hx:RII S9 wv vv (zAc c p))=>(show ∃nm:List UInt8,nm.length=2∧nmOf (zAc c p)=nm∧Calls Tryz.prog 49 #[vv] wv fun e w'=>e=.returned (.string (bs nm))∧Below wv.heap.size wv w' from by
  obtain ⟨k,hk,h1,h2⟩:=hnm p hp;have hq:=(zCs c p);have hle:=(zAS.1 (hok.part p hp).car).le;refine ⟨tyNm k,zEa k hk,by unfold nmOf; rw [h1]; rfl,zI7 hx (hok.part p hp).car ?_ h2 hk⟩;rw [hq.1] at hle;exact Nat.le_trans (zDp (A:=4) (B:=4) (by rw [hq.1]; exact hle) (fun x hx9=>by rw [hq.2 x hx9]; exact hle)) (by omega)))
 have HL4:Hid ((zAU c).length≤4):=zTD (by have:=hok.few; unfold nmL at this; rwa [List.length_map] at this);have HJL:Hid (∀i,(nmJ c i).length≤12):=zTD (fun i=>by
  unfold nmJ;refine Nat.le_trans (zKZ _ (fun x hx=>?_)) ?_
  ·have hx2:=List.mem_of_mem_take hx;unfold nmL at hx2;obtain ⟨p,hp,rfl⟩:=List.mem_map.1 hx2;obtain ⟨k,hk,h1,h2⟩:=hnm p hp;unfold nmOf; rw [h1];exact Nat.le_of_eq (zEa k hk)
  ·have:=hok.few;rw [List.length_take]; omega)
 have HST:=zTD (fun (i:Nat) (p:List Nat) (hp:(zAU c)[i]? = some p)=>zPB hp);have HJ0:Hid (nmJ c 0=[]):=zTD rfl;have HJE:=zTD (zQ2 c);obtain ⟨aa,ca,rfl⟩:=h.form;clear hps hnm hok hC hf hc h4;go_enter Tryz.func15,Tryz.ntmps15
 go_wp2_with fail
 refine hpt.mono ?_;rintro e w1 ⟨r1,rfl,f1,b1⟩;have hr1:=f1.any;obtain ⟨a1,c1,rfl⟩:=hr1.form;rw [List.length_map] at hr1 ⊢;generalize hP:zAU c=P at *;generalize hm:P.length=m at *;have HM:=zTD hm;have hm4:=HL4.out;clear hm hpt f1 hP;go_wp2_with fail
 go_loopw [4,5] (fun ss ii wr=>∃i:Nat,i≤m∧ss=.string (bs (nmJ c i))∧ii=.int .i64 i∧RII Any wr (.slice a1 m c1) (P.map iL)∧Below w.heap.size w wr) (fun _ ii _=>m-(intOf ii).toNat)
 case atStart=>exact ⟨0,Nat.zero_le _,by rw [HJ0.out]; rfl,rfl,hr1,b1⟩
 case round =>
  clear hr1 b1;obtain ⟨i,hi,rfl,rfl,hr,hb⟩:=hrel;have hjl:=HJL.out i;by_cases him:i<m
  ·have i1:(i:Int)<(m:Int):=by omega
   have i2:(0:Int)≤(i:Int):=by omega
   have hr0:=hr;obtain ⟨b3,o3,r3,l3,rfl,hc3,hr3,hl3⟩:=RII.at hr him;obtain ⟨p,hp⟩:∃p,P[i]? = some p:=⟨P[i]'(by rw [HM.out]; exact him),zTE _⟩;have el:l3=iL p:=by
    have:=hl3.out;rw [List.getElem?_map,hp] at this;exact (Option.some.inj this).symm
   subst el;have hpm:=zTF hp;have hsub:=HSUB.out wr _ r3 p hpm hb hr3;have hname:=fun (wv:World) (S9:Nat→Prop) (vv:Value) (hx:RII S9 wv vv (zAc c p))=>HNAME.out wv S9 vv p hpm hx;have hst:=HST.out i p hp;rw [zFE] at hsub;have HJJ:Hid (i=0→nmJ c i=[]):=zTD (fun e=>by rw [e]; exact HJ0.out);generalize nmJ c i=J at *;clear hl3 hpm hp hr3;by_cases hi0:i=0
   ·subst hi0;rw [if_pos rfl] at hst;rw [Nat.add_zero] at hc3;have HJ1:=zTD (HJJ.out rfl);go_wp2_with fail
    refine hsub.mono ?_;rintro e w2 ⟨r2,rfl,f2,b2⟩;have hb2:=zAC.step hb b2;have hr2:=RII.below hr0 b2;obtain ⟨nm,hn2,hnm,hcall⟩:=hname w2 _ r2 f2.reads;rw [hnm] at hst;have c2:¬9223372036854775807<(bs J).size+(bs nm).size:=by rw [zBU,zBU]; omega
    clear hsub hname hr hr0 b2 f2 hnm;go_wp2_with fail
    refine hcall.mono ?_;rintro e w3 ⟨rfl,b3⟩;have hb3:=zAC.step hb2 b3;have hr3:=RII.below hr2 b3;clear hcall b3 hr2;go_wp2_with fail
    go_roundw
    case rel=>exact ⟨1,by omega,by rw [hst,HJ1.out,zDx]; rfl,by go_num,hr3,hb3⟩
    case measure=>simp [intOf]; omega
   ·rw [if_neg hi0] at hst;have i3:(0:Int)<(i:Int):=by omega
    have c1:¬9223372036854775807<(bs J).size+(ByteArray.mk #[120]).size:=by rw [show (ByteArray.mk #[120]).size=1 from rfl,zBU]; omega
    have c1':¬9223372036854775807<(bs J).size+1:=by rw [zBU]; omega
    go_wp2_with fail
    refine hsub.mono ?_;rintro e w2 ⟨r2,rfl,f2,b2⟩;have hb2:=zAC.step hb b2;have hr2:=RII.below hr0 b2;obtain ⟨nm,hn2,hnm,hcall⟩:=hname w2 _ r2 f2.reads;rw [hnm] at hst;have c2:¬9223372036854775807<(bs J ++ ⟨#[120]⟩).size+(bs nm).size:=by rw [show (⟨#[120]⟩:ByteArray)=bs [120] from rfl,zDx,zBU,zBU]; simp; omega
    clear hsub hname hr hr0 b2 f2 hnm;go_wp2_with fail
    refine hcall.mono ?_;rintro e w3 ⟨rfl,b3⟩;have hb3:=zAC.step hb2 b3;have hr3:=RII.below hr2 b3;clear hcall b3 hr2;go_wp2_with fail
    go_roundw
    case rel=>exact ⟨i+1,by omega,by rw [hst,show (⟨#[120]⟩:ByteArray)=bs [120] from rfl,zDx,zDx,List.append_assoc],by go_num,hr3,hb3⟩
    case measure=>simp [intOf]; omega
  ·have i1:¬(i:Int)<(m:Int):=by omega
   have hie:i=m:=by omega
   have HE:Hid (nmJ c i=nmT c):=zTD (by rw [hie]; exact HJE.out);clear hie;go_wp2_with fail
   go_ret
   exact ⟨by rw [HE.out]; rfl,hb⟩
def zBH (x:UInt8) (t:List UInt8) (i:Nat):List (List UInt8) × List UInt8:=(t.take i).foldl (zCj x) ([],[])
theorem zGL {x b:UInt8} {t:List UInt8} {i:Nat} (h:t[i]? = some b):zBH x t (i+1)=zCj x (zBH x t i) b:=by
 unfold zBH; rw [zAP h,List.foldl_append]; rfl
theorem zHT (x:UInt8) (t:List UInt8):∀i,i≤t.length→(zBH x t i).1.length≤i∧(zBH x t i).2.length≤i
 | 0,_=>⟨by simp [zBH],by simp [zBH]⟩
 | i+1,h=>by
  obtain ⟨h1,h2⟩:=zHT x t i (by omega);obtain ⟨b,hb⟩:∃b,t[i]? = some b:=⟨t[i],zTE _⟩;rw [zGL hb];unfold zCj;split
  ·simp; omega
  ·simp; omega
theorem zHS (x:UInt8) (t:List UInt8):cutF x t=(zBH x t t.length).1++[(zBH x t t.length).2]:=by
 unfold cutF zBH;rw [List.take_of_length_le (zTI _)]
theorem zRt {t:List UInt8} {i:Nat} {b:UInt8} (h:t[i]? = some b):(bs t).extract i (i+1)=bs [b]:=by
 apply ByteArray.ext;rw [ByteArray.data_extract];show (t.toArray).extract i (i+1)=[b].toArray;rw [List.extract_toArray,List.extract_eq_take_drop,show i+1-i=1 by omega,List.drop_eq_getElem_cons (zTG h).1,(zTG h).2];rfl
theorem zQO {t:List UInt8} (hl:t.length≤1048576) (w:World) :
  Calls Tryz.prog 110 #[.string (bs t),.int .u8 120] w fun e w'=>∃r,e=.returned r∧FS (New w w') w' r (cutF 120 t)∧Below w.heap.size w w':=by
 have mixed:Tryz.prog.follows .mixedOrders=true:=by kernel_rfl
 have hz:(bs t).size=t.length:=zBU t;have HST:=zTD (fun (i:Nat) (b:UInt8) (hb:t[i]? = some b)=>zGL (x:=120) hb);have HLE:=zTD (zHT 120 t);have HEND:=zTD (zHS 120 t);have f1:FS (New w (w.alloc (.cells #[] 9))) (w.alloc (.cells #[] 9)) (.slice (some ⟨w.heap.size,0,none⟩) 0 0) []:=FS.empty (Below.refl _ w);have b1:Below w.heap.size w (w.alloc (.cells #[] 9)):=(Below.refl _ w).alloc (zTI _) _;have H0:Hid (zBH 120 t 0=([],[])):=zTD rfl;generalize hn:t.length=n at *;have HN:=zTD hn;clear hn;go_enter Tryz.func110,Tryz.ntmps110
 go_wp2_with fail
 go_loopw [5,6,7] (fun oo pp ii wr=>∃(i:Nat) (vo:Value),vo=oo∧i≤n∧pp=.string (bs (zBH 120 t i).2)∧ii=.int .i64 i∧FS (New w wr) wr vo (zBH 120 t i).1∧Below w.heap.size w wr) (fun _ _ ii _=>n-(intOf ii).toNat)
 case atStart=>exact ⟨0,_,rfl,Nat.zero_le _,by rw [H0.out]; rfl,rfl,by rw [H0.out]; exact f1,b1⟩
 case round =>
  clear f1 b1;obtain ⟨i,vo,rfl,hi,rfl,rfl,hf,hb⟩:=hrel;obtain ⟨q1,q2⟩:=HLE.out i hi;by_cases hin:i<n
  ·have i1:(i:Int)<(n:Int):=by omega
   have i2:(0:Int)≤(i:Int):=by omega
   obtain ⟨b,hbt⟩:∃b,t[i]? = some b:=⟨t[i]'(by rw [HN.out]; exact hin),zTE _⟩;have hst:=HST.out i b hbt;have hget:∀(p:i<(bs t).size),(bs t)[i]'p=b:=fun p=>by
    have h1:t[i]? = some (t[i]'(by rw [HN.out]; exact hin)):=zTE _;rw [hbt] at h1;exact (Option.some.inj h1).symm
   by_cases hbx:b=120
   ·have hcn:∀(p:i<(bs t).size),((((bs t)[i]'p).toNat:Int) == 120)=true:=fun p=>by rw [hget p,hbx]; rfl
    have HST2:Hid (zBH 120 t (i+1)=((zBH 120 t i).1++[(zBH 120 t i).2],[])):=zTD (by rw [hst]; unfold zCj; rw [if_pos hbx]);generalize zBH 120 t i=s at *;clear hget hbx hst hbt;have hlen:s.1.length+1≤67108864:=by omega
    have hcm:(wr.alloc (.cells #[.string (bs s.2)] 9)).cell? ⟨wr.heap.size,0,none⟩=some (.string (bs s.2)):=by go_simp
    go_wp2_with (at_builtin; go_must (refine zEg (W:=w) rfl _ _ rfl rfl (hf.grow ((Below.refl _ wr).alloc (zTI _) _)) (hb.alloc hb.size _) rfl hcm hlen ?_))
    intro v3 w3 f3 b3 _;clear hf hcm;go_wp2_with fail
    go_roundw
    case rel=>exact ⟨i+1,_,rfl,by omega,by rw [HST2.out]; rfl,by go_num,by rw [HST2.out]; exact f3,b3⟩
    case measure=>simp [intOf]; omega
   ·have hcn:∀(p:i<(bs t).size),((((bs t)[i]'p).toNat:Int) == 120)=false:=fun p=>by
     rw [hget p];have:b.toNat≠120:=fun e=>hbx (UInt8.toNat_inj.1 e);simp; omega
    have HST2:Hid (zBH 120 t (i+1)=((zBH 120 t i).1,(zBH 120 t i).2++[b])):=zTD (by rw [hst]; unfold zCj; rw [if_neg hbx]);generalize zBH 120 t i=s at *;have i5:i≤n:=by omega
    have i6:i+1≤n:=by omega
    have i7:(i:Int)+1≤(n:Int):=by omega
    have hcut:=zRt hbt;have i8:¬9223372036854775807<(bs s.2).size+((bs t).extract i (i+1)).size:=by rw [hcut,zBU,zBU]; simp; omega
    have HCUT:=zTD hcut;clear hget hbx hst hcut;go_wp2_with fail
    go_roundw
    case rel=>exact ⟨i+1,_,rfl,by omega,by rw [HST2.out,HCUT.out,zDx],by go_num,by rw [HST2.out]; exact hf,hb⟩
    case measure=>simp [intOf]; omega
  ·have i1:¬(i:Int)<(n:Int):=by omega
   have hie:i=n:=by omega
   subst hie;have hE:=HEND.out;generalize zBH 120 t i=s at *;have hlen:s.1.length+1≤67108864:=by omega
   have hcm:(wr.alloc (.cells #[.string (bs s.2)] 9)).cell? ⟨wr.heap.size,0,none⟩=some (.string (bs s.2)):=by go_simp
   go_wp2_with (at_builtin; go_must (refine zEg (W:=w) rfl _ _ rfl rfl (hf.grow ((Below.refl _ wr).alloc (zTI _) _)) (hb.alloc hb.size _) rfl hcm hlen ?_))
   intro v3 w3 f3 b3 _;rw [<-hE] at f3;clear hf hcm hE;go_wp2_with fail
   go_ret
   exact ⟨_,rfl,f3,b3⟩
theorem zF7 {l:List (List UInt8)} {i:Nat} {x:List UInt8} (h:l[i]? = some x):szN (l.take (i+1))=szN (l.take i)*szB x:=by
 unfold szN;rw [zAP h,List.map_append,List.foldl_append];rfl
theorem zNd:∀k,k<12→szB (tyNm k)≤1152:=by decide
theorem zJd {l:List (List UInt8)} (h:∀x∈l,∃k,k<12∧x=tyNm k):∀i,i≤l.length→szN (l.take i)≤1152 ^ i
 | 0,_=>zTI _
 | i+1,hi=>by
  obtain ⟨x,hx⟩:∃x,l[i]? = some x:=⟨l[i],zTE _⟩;obtain ⟨k,hk,rfl⟩:=h x (zTF hx);rw [zF7 hx,Nat.pow_succ];exact Nat.mul_le_mul (zJd h i (by omega)) (zNd k hk)
theorem zJV {t:List UInt8} {l:List (List UInt8)} (ht:t.length≤1048576) (hcut:cutF 120 t=l) (h4:l.length≤4) (h1:1≤l.length) (hnm:∀x∈l,∃k,k<12∧x=tyNm k) (w:World) :
  Calls Tryz.prog 67 #[.string (bs t)] w fun e w'=>e=.returned (.int .i64 (szN l))∧Below w.heap.size w w':=by
 have mixed:Tryz.prog.follows .mixedOrders=true:=by kernel_rfl
 have hcs:=zQO ht w;rw [hcut] at hcs;have HST:=zTD (fun (i:Nat) (x:List UInt8) (hx:l[i]? = some x)=>zF7 hx);have HLE:=zTD (zJd hnm);have HNM:=zTD hnm;have H0:Hid (szN (l.take 0)=1):=zTD rfl;have HE:Hid (szN (l.take l.length)=szN l):=zTD (by rw [List.take_of_length_le (zTI _)]);clear hcut ht hnm;go_enter Tryz.func67,Tryz.ntmps67
 go_wp2_with fail
 refine hcs.mono ?_;rintro e w1 ⟨r1,rfl,f1,b1⟩;have hcells:∃g cap,r1=.slice (some ⟨g,0,none⟩) l.length cap∧∀(j:Nat) (x:List UInt8),l[j]? = some x→w1.cell? ⟨g,j,none⟩=some (.string (bs x)):=by
  rcases f1.1.2 with ⟨rfl,h0⟩ | ⟨g,cap,cur,rfl,_,hg,hnc,hcm,_⟩
  ·omega
  ·exact ⟨g,cap,rfl,fun j x hx=>by have:=FS.cells f1 rfl j (bs x) (by rw [List.getElem?_map,hx]; rfl); rwa [Nat.zero_add] at this⟩
 obtain ⟨g,cap,rfl,hc1⟩:=hcells;have HC1:Hid (∀(j:Nat) (x:List UInt8),l[j]? = some x→w1.cell? ⟨g,j,none⟩=some (.string (bs x))):=zTD hc1;clear hcs f1 hc1;generalize hm:l.length=m at *;have HM:=zTD hm;clear hm;go_wp2_with fail
 go_loopw [4,5] (fun pp ii wr=>∃i:Nat,i≤m∧pp=.int .i64 (szN (l.take i))∧ii=.int .i64 i∧Hid (∀(j:Nat) (x:List UInt8),l[j]? = some x→wr.cell? ⟨g,j,none⟩=some (.string (bs x)))∧Below w.heap.size w wr) (fun _ ii _=>m-(intOf ii).toNat)
 case atStart=>exact ⟨0,Nat.zero_le _,by rw [H0.out]; rfl,rfl,HC1,b1⟩
 case round =>
  clear HC1 b1;obtain ⟨i,hi,rfl,rfl,hc,hb⟩:=hrel;have hle:=HLE.out i hi;by_cases him:i<m
  ·have i1:(i:Int)<(m:Int):=by omega
   have i2:(0:Int)≤(i:Int):=by omega
   have i4:(i:Int)<4:=by omega
   obtain ⟨x,hx⟩:∃x,l[i]? = some x:=⟨l[i]'(by rw [HM.out]; exact him),zTE _⟩;have hcell:=hc.out i x hx;have hst:=HST.out i x hx;obtain ⟨k,hk,rfl⟩:=HNM.out x (zTF hx);have hle3:szN (l.take i)≤1528823808:=Nat.le_trans hle (Nat.le_trans (Nat.pow_le_pow_right (by decide) (show i≤3 by omega)) (by decide));clear hx hle;have hcs:k=0∨k=1∨k=2∨k=3∨k=4∨k=5∨k=6∨k=7∨k=8∨k=9∨k=10∨k=11:=by omega
   clear hk;rcases hcs with rfl | rfl | rfl | rfl | rfl | rfl | rfl | rfl | rfl | rfl | rfl | rfl
   ·have hv:szN (l.take (i+1))=szN (l.take i)*2:=by rw [hst]; exact congrArg _ (by decide:szB (tyNm 0)=2)
    have hcj:wr.cell? ⟨g,i,none⟩=some (.string ⟨#[65,49]⟩):=hcell;have HV:=zTD hv;clear hst hcell hv;generalize szN (l.take i)=q at *;go_wp2_with fail
    go_roundw
    case rel=>exact ⟨i+1,by omega,by rw [HV.out]; go_num,by go_num,hc,hb⟩
    case measure=>simp [intOf]; omega
   ·have hv:szN (l.take (i+1))=szN (l.take i)*6:=by rw [hst]; exact congrArg _ (by decide:szB (tyNm 1)=6)
    have hcj:wr.cell? ⟨g,i,none⟩=some (.string ⟨#[65,50]⟩):=hcell;have HV:=zTD hv;clear hst hcell hv;generalize szN (l.take i)=q at *;go_wp2_with fail
    go_roundw
    case rel=>exact ⟨i+1,by omega,by rw [HV.out]; go_num,by go_num,hc,hb⟩
    case measure=>simp [intOf]; omega
   ·have hv:szN (l.take (i+1))=szN (l.take i)*24:=by rw [hst]; exact congrArg _ (by decide:szB (tyNm 2)=24)
    have hcj:wr.cell? ⟨g,i,none⟩=some (.string ⟨#[65,51]⟩):=hcell;have HV:=zTD hv;clear hst hcell hv;generalize szN (l.take i)=q at *;go_wp2_with fail
    go_roundw
    case rel=>exact ⟨i+1,by omega,by rw [HV.out]; go_num,by go_num,hc,hb⟩
    case measure=>simp [intOf]; omega
   ·have hv:szN (l.take (i+1))=szN (l.take i)*120:=by rw [hst]; exact congrArg _ (by decide:szB (tyNm 3)=120)
    have hcj:wr.cell? ⟨g,i,none⟩=some (.string ⟨#[65,52]⟩):=hcell;have HV:=zTD hv;clear hst hcell hv;generalize szN (l.take i)=q at *;go_wp2_with fail
    go_roundw
    case rel=>exact ⟨i+1,by omega,by rw [HV.out]; go_num,by go_num,hc,hb⟩
    case measure=>simp [intOf]; omega
   ·have hv:szN (l.take (i+1))=szN (l.take i)*8:=by rw [hst]; exact congrArg _ (by decide:szB (tyNm 4)=8)
    have hcj:wr.cell? ⟨g,i,none⟩=some (.string ⟨#[66,50]⟩):=hcell;have HV:=zTD hv;clear hst hcell hv;generalize szN (l.take i)=q at *;go_wp2_with fail
    go_roundw
    case rel=>exact ⟨i+1,by omega,by rw [HV.out]; go_num,by go_num,hc,hb⟩
    case measure=>simp [intOf]; omega
   ·have hv:szN (l.take (i+1))=szN (l.take i)*48:=by rw [hst]; exact congrArg _ (by decide:szB (tyNm 5)=48)
    have hcj:wr.cell? ⟨g,i,none⟩=some (.string ⟨#[66,51]⟩):=hcell;have HV:=zTD hv;clear hst hcell hv;generalize szN (l.take i)=q at *;go_wp2_with fail
    go_roundw
    case rel=>exact ⟨i+1,by omega,by rw [HV.out]; go_num,by go_num,hc,hb⟩
    case measure=>simp [intOf]; omega
   ·have hv:szN (l.take (i+1))=szN (l.take i)*384:=by rw [hst]; exact congrArg _ (by decide:szB (tyNm 6)=384)
    have hcj:wr.cell? ⟨g,i,none⟩=some (.string ⟨#[66,52]⟩):=hcell;have HV:=zTD hv;clear hst hcell hv;generalize szN (l.take i)=q at *;go_wp2_with fail
    go_roundw
    case rel=>exact ⟨i+1,by omega,by rw [HV.out]; go_num,by go_num,hc,hb⟩
    case measure=>simp [intOf]; omega
   ·have hv:szN (l.take (i+1))=szN (l.take i)*48:=by rw [hst]; exact congrArg _ (by decide:szB (tyNm 7)=48)
    have hcj:wr.cell? ⟨g,i,none⟩=some (.string ⟨#[67,51]⟩):=hcell;have HV:=zTD hv;clear hst hcell hv;generalize szN (l.take i)=q at *;go_wp2_with fail
    go_roundw
    case rel=>exact ⟨i+1,by omega,by rw [HV.out]; go_num,by go_num,hc,hb⟩
    case measure=>simp [intOf]; omega
   ·have hv:szN (l.take (i+1))=szN (l.take i)*384:=by rw [hst]; exact congrArg _ (by decide:szB (tyNm 8)=384)
    have hcj:wr.cell? ⟨g,i,none⟩=some (.string ⟨#[67,52]⟩):=hcell;have HV:=zTD hv;clear hst hcell hv;generalize szN (l.take i)=q at *;go_wp2_with fail
    go_roundw
    case rel=>exact ⟨i+1,by omega,by rw [HV.out]; go_num,by go_num,hc,hb⟩
    case measure=>simp [intOf]; omega
   ·have hv:szN (l.take (i+1))=szN (l.take i)*192:=by rw [hst]; exact congrArg _ (by decide:szB (tyNm 9)=192)
    have hcj:wr.cell? ⟨g,i,none⟩=some (.string ⟨#[68,52]⟩):=hcell;have HV:=zTD hv;clear hst hcell hv;generalize szN (l.take i)=q at *;go_wp2_with fail
    go_roundw
    case rel=>exact ⟨i+1,by omega,by rw [HV.out]; go_num,by go_num,hc,hb⟩
    case measure=>simp [intOf]; omega
   ·have hv:szN (l.take (i+1))=szN (l.take i)*1152:=by rw [hst]; exact congrArg _ (by decide:szB (tyNm 10)=1152)
    have hcj:wr.cell? ⟨g,i,none⟩=some (.string ⟨#[70,52]⟩):=hcell;have HV:=zTD hv;clear hst hcell hv;generalize szN (l.take i)=q at *;go_wp2_with fail
    go_roundw
    case rel=>exact ⟨i+1,by omega,by rw [HV.out]; go_num,by go_num,hc,hb⟩
    case measure=>simp [intOf]; omega
   ·have hv:szN (l.take (i+1))=szN (l.take i)*12:=by rw [hst]; exact congrArg _ (by decide:szB (tyNm 11)=12)
    have hcj:wr.cell? ⟨g,i,none⟩=some (.string ⟨#[71,50]⟩):=hcell;have HV:=zTD hv;clear hst hcell hv;generalize szN (l.take i)=q at *;go_wp2_with fail
    go_roundw
    case rel=>exact ⟨i+1,by omega,by rw [HV.out]; go_num,by go_num,hc,hb⟩
    case measure=>simp [intOf]; omega
  ·have i1:¬(i:Int)<(m:Int):=by omega
   have hie:i=m:=by omega
   have i4:¬(4:Int)<(m:Int):=by omega
   have HEE:Hid (szN (l.take i)=szN l):=zTD (by rw [hie]; exact HE.out);clear hie hle;generalize szN (l.take i)=q at *;go_wp2_with fail
   go_ret
   exact ⟨by rw [<-HEE.out]; rfl,hb⟩
def szC (c:List (List Int)):Nat:=if finB c=true then szP c else 0
theorem zGZ {c:List (List Int)} (h:FinP c):∀x∈nmL c,∃k,k<12∧x=tyNm k:=fun x hx=>by
 unfold nmL at hx;obtain ⟨p,hp,rfl⟩:=List.mem_map.1 hx;obtain ⟨k,hk,h1,_⟩:=h.names.2 p hp;exact ⟨k,hk,by unfold nmOf; rw [h1]; rfl⟩
theorem zQ3 {c:List (List Int)} (h:FinP c):1≤(nmL c).length:=by
 have h1:=h.texts.cutS;rw [zHS] at h1;rw [<-h1,List.length_append];simp
theorem zF5 {S:Nat→Prop} {u:Value} {c:List (List Int)} {w:World} (h:RII S w u c) (hl:total c≤16777216) :
  Calls Tryz.prog 27 #[u] w fun e w'=>e=.returned (.int .i64 (szC c))∧Below w.heap.size w w':=by
 have mixed:Tryz.prog.follows .mixedOrders=true:=by kernel_rfl
 have hfin:=zIu h hl;cases hf:finB c with
 | false =>
  have HZ:Hid (szC c=0):=zTD (by unfold szC; rw [hf]; rfl);rw [hf] at hfin;clear hf;obtain ⟨aa,ca,rfl⟩:=h.form;go_enter Tryz.func27,Tryz.ntmps27
  go_wp2_with fail
  refine hfin.mono ?_;rintro e w1 ⟨rfl,b1⟩;go_wp2_with fail
  go_ret
  exact ⟨by rw [HZ.out]; rfl,b1⟩
 | true =>
  have hF:=zEr hf;have HZ:Hid (szN (nmL c)=szC c):=zTD (by unfold szC; rw [hf,if_pos rfl]; exact hF.texts.size);rw [hf] at hfin;have HNA:=zTD (fun (wv:World) (hb:Below w.heap.size w wv)=>zI8 (h.below hb) hF hl);have HSZ:=zTD (fun (wv:World)=>zJV (w:=wv) (t:=nmT c) (l:=nmL c) (by have:=hF.texts.len; omega) hF.texts.cutS hF.texts.few (zQ3 hF) (zGZ hF));clear hf hF;obtain ⟨aa,ca,rfl⟩:=h.form;clear h;go_enter Tryz.func27,Tryz.ntmps27
  go_wp2_with fail
  refine hfin.mono ?_;rintro e w1 ⟨rfl,b1⟩;clear hfin;go_wp2_with fail
  refine (HNA.out w1 b1).mono ?_;rintro e w2 ⟨rfl,b2⟩;clear HNA;go_wp2_with fail
  refine (HSZ.out w2).mono ?_;rintro e w3 ⟨rfl,b3⟩;go_wp2_with fail
  go_ret
  exact ⟨by rw [<-HZ.out]; rfl,zAC.step (zAC.step b1 b2) b3⟩
end Go.Proofs.YtlgcdacpjcnjgaaGreatDoor
