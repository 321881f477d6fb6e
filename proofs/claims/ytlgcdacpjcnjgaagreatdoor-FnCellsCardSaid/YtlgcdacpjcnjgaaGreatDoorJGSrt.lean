/- Own rows of words put in the order of words by the library. Condition: at most 2^26 rows. -/
import Derived.Test.YtlgcdacpjcnjgaaGreatDoorJGHeap
import Derived.Test.YtlgcdacpjcnjgaaGreatDoorJGSortV
import Derived.Test.YtlgcdacpjcnjgaaGreatDoorJGEl
namespace Go.Proofs.YtlgcdacpjcnjgaaGreatDoor
open Go.RowKit Go.Sort
set_option maxRecDepth 20000
set_option maxHeartbeats 8000000
theorem zH7 {S S':Nat→Prop} {u v:Value} {l l':List Int} {w:World} (h:RI S w u l) (h':RI S' w v l') (hl:l.length≤16777216) (hl':l'.length≤16777216) :
  Calls Tryz.prog 167 #[u,v] w fun e w'=>e=.returned (.int .i64 (cmpW l l'))∧∃q os',w'=Go.Sort.grow (w.drewN q) os':=by
 have HR:=zTD (zQK l l');obtain ⟨a,cap,rfl⟩:=h.form;obtain ⟨a',cap',rfl⟩:=h'.form;have HL:=zTD hl;have HL':=zTD hl';generalize hn:l.length=n at *;generalize hm:l'.length=m at *;have HN:=zTD hn;have HM:=zTD hm;clear hn hm;go_enter Tryz.func167,Tryz.ntmps167
 go_wp2_with fail
 refine (zGI n m w).mono ?_;rintro e w2 ⟨rfl,rfl⟩;generalize cmp3 n m=x at *;go_wp2_with fail
 refine (zIA h h' (by rw [HN.out]; exact HL.out) (by rw [HM.out]; exact HL'.out)).mono ?_;rintro e w3 ⟨rfl,rfl⟩;generalize lexC l l'=y at *;go_wp2_with fail
 have h2:RI Any (w2.alloc (.cells #[.int .i64 x,.int .i64 y] 3)) (.slice (some ⟨w2.heap.size,0,none⟩) 2 2) [x,y] :=
  ⟨_,2,rfl,⟨zTI _,by unfold maxLen; omega⟩,.inr ⟨_,0,rfl,trivial,⟨_,(0,0),heap_alloc_new w2 _⟩,fun j z hj=>by
   match j,hj with
   | 0,hj=>simp at hj; subst hj; exact ⟨_,by go_simp,rfl⟩
   | 1,hj=>simp at hj; subst hj; exact ⟨_,by go_simp,rfl⟩⟩⟩
 refine (zSL h2).mono ?_;rintro e w4 ⟨rfl,rfl⟩;rw [HR.out];go_wp2_with fail
 go_ret
 exact ⟨rfl,0,#[.cells #[.int .i64 x,.int .i64 y] 3],Go.Sort.alloc_eq_grow _ _⟩
theorem zSm {α:Type} (f:α→List Int):SWO (ltOf fun x y=>cmpW (f x) (f y)):=by
 have e:∀x y,ltOf (fun x y=>cmpW (f x) (f y)) x y=true↔cmpW (f x) (f y)<0:=fun x y=>by unfold ltOf; exact decide_eq_true_iff
 have e2:∀x y,ltOf (fun x y=>cmpW (f x) (f y)) x y=false↔¬cmpW (f x) (f y)<0:=fun x y=>by unfold ltOf; exact decide_eq_false_iff_not
 refine ⟨fun x=>(e2 x x).2 (zDT _),fun x y z h1 h2=>?_,fun x y z h1 h2=>?_⟩
 ·rw [e] at *; exact zCk h1 h2
 ·rw [e2] at *;intro h3;by_cases h4:f x=f y
  ·rw [h4] at h3; exact h2 h3
  ·by_cases h5:f y=f z
   ·rw [h5] at h1; exact h1 h3
   ·have h6:=(zED h4).resolve_left h1;have h7:=(zED h5).resolve_left h2;exact zDT _ (zCk (zCk h7 h6) h3)
theorem zNW {v:Value} {Z:Zl} {w:World} {n:Nat} (hown:w.ownsRow 0 29 1 v Z.length (Z.map Prod.fst)) (hr:∀z∈Z,RI (fun b=>v.ownBlock≠some b) w z.1 z.2) (hn:∀z∈Z,z.2.length≤n) (hn0:n≤16777216) (hl:Z.length≤67108864) :
  Calls Tryz.prog 35 #[v,.func (.func 167) #[] #[]] w fun e w'=>e=.returned (.tuple #[]) ∧
   ∃Z':Zl,Z'.Perm Z∧(Z'.map Prod.snd).Pairwise (fun a b=>¬cmpW b a<0)∧w'.ownsRow 0 29 1 v Z.length (Z'.map Prod.fst)∧w.grownBy w' v.ownBlock:=by
 rcases hown.2 with ⟨rfl,h0⟩ | ⟨g,cap,cur,rfl,hbase,hb,e1,e2,e3,e4⟩
 ·have hz:Z=[]:=List.eq_nil_of_length_eq_zero h0;subst hz;exact (Tryz.slices_SortFunc_none (α:=Nat) none 0 _ w).mono fun e w' ⟨he,hw⟩=>by
   subst hw;exact ⟨he,[],List.Perm.refl _,List.Pairwise.nil,hown,World.grownBy.refl _ _⟩
 ·by_cases hz:Z=[]
  ·subst hz;exact (Tryz.slices_SortFunc_none (α:=Nat) (some ⟨g,0,none⟩) cap _ w).mono fun e w' ⟨he,hw⟩=>by
    subst hw;exact ⟨he,[],List.Perm.refl _,List.Pairwise.nil,hown,World.grownBy.refl _ _⟩
  ·obtain ⟨z0,hz0⟩:=List.exists_mem_of_ne_nil Z hz
   let α:={ z:Value × List Int // z∈Z }
   have:Inhabited α:=⟨⟨z0,hz0⟩⟩
   let enc:α→Value:=fun z=>z.1.1
   let cf:α→α→Int:=fun x y=>cmpW x.1.2 y.1.2
   have hlen:Z.attach.length=Z.length:=List.length_attach;have hmap:Z.attach.map enc=Z.map Prod.fst:=by
    have e:Z.attach.map enc=(Z.attach.map Subtype.val).map Prod.fst:=by rw [List.map_map]; rfl
    rw [e,List.attach_map_subtype_val]
   have hH:Holds enc w g 0 Z.attach.toArray:=zEt hb (by rw [hlen,hmap]; simpa using e4);have hgl:g<w.heap.size:=(Array.getElem?_eq_some_iff.1 hb).1;have h1:OneCell enc:=fun z=>by obtain ⟨_,_,e⟩:=(hr z.1 z.2).form; show z.1.1.oneCell'=true; rw [e]; rfl
   have hO:SWO (ltOf cf):=zSm (fun z:α=>z.1.2);have eg:∀args w,(callFunc 167 args).run Tryz.prog w=.ok (.enter 167 args) w:=enters_of Tryz.func167 (by kernel_rfl) rfl;have hcmp:CmpLays1 Tryz.prog 167 #[] enc cf g 0 Z.attach.toArray.size w:=fun m os dk _ x y=>by
    have hk:∀z:α,RI (fun b=>b≠g) (sortWorld enc w g 0 m dk os) z.1.1 z.1.2:=fun z =>
     RI.keep (RI.mono (hr z.1 z.2) (fun b hb e=>hb (by rw [e]; rfl))) (fun b hb hl=>(zC4 (enc:=enc) (n:=m) (os:=os) dk).block b hl (fun e=>hb (by simpa using e)))
    have hc:=zH7 (hk x) (hk y) (Nat.le_trans (hn x.1 x.2) hn0) (Nat.le_trans (hn y.1 y.2) hn0);have hc2:Calls Tryz.prog 167 (#[enc x,enc y] ++ #[]) (sortWorld enc w g 0 m dk os) fun e w'=>e=.returned (.int .i64 (cf x y))∧∃q os',w'=Go.Sort.grow ((sortWorld enc w g 0 m dk os).drewN q) os':=hc;exact hc2
   have hs:=Tryz.slices_SortFunc enc h1 cf hO 167 #[] g 0 cap Z.attach.toArray w eg hcmp hH hgl (by simp; omega);simp only [List.size_toArray,hlen] at hs;refine hs.mono ?_;rintro e w' ⟨rfl,d',m,os,hp,hsrt,rfl⟩;have hd:d'.size=Z.length:=by rw [hp.1]; exact hlen
   have hperm:d'.toList.Perm Z.attach:=by
    have h9:=hp.2.2;simp only [Array.toList_extract] at h9;have t1:List.extract d'.toList 0 Z.length=d'.toList:=by
     simp only [List.extract,Nat.sub_zero,List.drop_zero];exact List.take_of_length_le (by rw [<-hd]; simp)
    have t2:List.extract Z.attach 0 Z.length=Z.attach:=by
     simp only [List.extract,Nat.sub_zero,List.drop_zero];rw [<-hlen,List.take_length]
    rw [t1] at h9;exact h9.trans (by rw [t2])
   have hts:d'.toList.length=Z.attach.length:=by rw [hlen]; simpa using hd
   refine ⟨rfl,d'.toList.map Subtype.val,?_,?_,?_,?_⟩
   ·have:=hperm.map Subtype.val;rwa [List.attach_map_subtype_val] at this
   ·rw [List.map_map,List.pairwise_map,List.pairwise_iff_getElem];intro i j hi hj hij;have:=hsrt i j (Nat.zero_le _) hij (by rw [<-hd]; simpa using hj);unfold ltOf at this;have e5:=of_decide_eq_false this;have hi':i<d'.size:=by simpa using hi
    have hj':j<d'.size:=by simpa using hj
    rw [getElem!_pos d' i hi',getElem!_pos d' j hj'] at e5;simpa using e5
   ·have:=zF2 (enc:=enc) (n:=m) (os:=os) (ts:=d'.toList) (ss:=Z.attach) hts hbase hb (by rw [hlen]; exact e1) e2 e3;rw [hlen] at this;have e6:(d'.toList.map Subtype.val).map Prod.fst=d'.toList.map enc:=by rw [List.map_map]; rfl
    rw [e6];exact this
   ·exact zC4 _
theorem HSx.sortWords {A:Nat→Prop} {w0 w:World} {Ps:List zAI} {v:Value} {Z:Zl} {n:Nat} (h:HSx A w0 w Ps) (i j:Nat) (hij:i≠j) (hi:Ps[i]? = some (aV 29 v (Z.map Prod.fst))) (hj:Ps[j]? = some (aRs Z)) (hnew:∀b,v.ownBlock=some b→w0.heap.size≤b)
  (hn:∀z∈Z,z.2.length≤n) (hn0:n≤16777216) (hl:Z.length≤67108864) :
  Calls Tryz.prog 35 #[v,.func (.func 167) #[] #[]] w fun e w'=>e=.returned (.tuple #[]) ∧
   ∃Z':Zl,Z'.Perm Z∧(Z'.map Prod.snd).Pairwise (fun a b=>¬cmpW b a<0)∧HSx A w0 w' ((Ps.set i (aV 29 v (Z'.map Prod.fst))).set j (aRs Z')):=by
 obtain ⟨F,hF,_⟩:=HSx.get h i hi;obtain ⟨G,hG,_⟩:=HSx.get h j hj;have hlz:(Z.map Prod.fst).length=Z.length:=by simp
 have hown:=hF.1;rw [hlz] at hown;refine (zNW hown (fun z hz=>?_) hn hn0 hl).mono ?_
 ·cases hv:v.ownBlock with
  | none=>exact RI.mono (hG.1 z hz).reads (fun b _=>by simp)
  | some B=>exact RI.mono ((hG.1 z hz).reads.off (zA1 hown hv)) (fun b hb e=>hb.2 (by simpa using e.symm))
 ·rintro e w' ⟨rfl,Z',hp,hs,ho,hg⟩;refine ⟨rfl,Z',hp,hs,?_⟩;have h2:=h.upd i hi (st_V 29 v (Z'.map Prod.fst)) (zBA h.bl hg hnew) hg.size fun F hF _=>⟨F,⟨by rw [show (Z'.map Prod.fst).length=Z.length by rw [List.length_map,hp.length_eq]]; exact ho,hF.2⟩,fun b hb=>.inl hb,fun b hl hb=>hg.block b hl (fun e=>hb (hF.2 b e.symm))⟩;exact h2.permS j (by rw [List.getElem?_set_ne hij]; exact hj) hp
end Go.Proofs.YtlgcdacpjcnjgaaGreatDoor
namespace Go.Proofs.YtlgcdacpjcnjgaaGreatDoor
open Go.RowKit
set_option maxRecDepth 20000
set_option maxHeartbeats 8000000
theorem FR.setB {S:Nat→Prop} {w:World} {v:Value} {L:List (List Int)} {g j:Nat} {x:Value} (h:FR S w v L) (hg:∃cur,w.heap[g]? = some (.cells cur 4 (0,0))):FR S (w.setCell ⟨g,j,none⟩ x) v L:=by
 obtain ⟨vs,h1,h2,h3,h4⟩:=h;refine ⟨vs,zAk h1 (fun b hb=>heap_setCell_other w ⟨g,j,none⟩ b x (fun e=>?_)),h2,h3,fun j r l hr hl=>RI.setB (h4 j r l hr hl) hg⟩;obtain ⟨c1,t1⟩:=hg;obtain ⟨c2,t2⟩:=zA1 h1 hb;rw [e,t1] at t2;simp at t2
theorem FBo.grownR {S S':Nat→Prop} {w w':World} {v r:Value} {l:List Bool} {M:List (List Int)} (h:FBo S w v l) (hr:FR S' w r M) (hg:w.grownBy w' r.ownBlock):FBo S w' v l :=
 ⟨zAk h.1 fun b hb=>hg.block b (h.1.lt b hb).2 (fun e=>by
  obtain ⟨c1,t1⟩:=hr.tag e.symm;obtain ⟨c2,t2⟩:=zA1 h.1 hb;rw [t1] at t2;simp at t2),h.2⟩
structure PZ (w0:World) (lo0:Nat) (wr:World) (z:Value) (L:List (List Int)) (qv:Value):Prop where
 rows:FR (Bt w0.heap.size lo0) wr z L
 ap:∀b,qv.ownBlock=some b→lo0≤b
 le:lo0≤wr.heap.size
section
variable {w0 wr w':World} {lo0:Nat} {z:Value} {L:List (List Int)} {qv v':Value}
theorem PZ.below (h:PZ w0 lo0 wr z L qv) (hb:Below wr.heap.size wr w'):PZ w0 lo0 w' z L qv:=⟨h.rows.below hb,h.ap,Nat.le_trans h.le hb.size⟩
theorem PZ.setB {g j:Nat} {x:Value} (h:PZ w0 lo0 wr z L qv) (hg:∃cur,wr.heap[g]? = some (.cells cur 4 (0,0))):PZ w0 lo0 (wr.setCell ⟨g,j,none⟩ x) z L qv :=
 ⟨h.rows.setB hg,h.ap,by rw [zAM]; exact h.le⟩
theorem PZ.grown (h:PZ w0 lo0 wr z L qv) (hg:wr.grownBy w' qv.ownBlock) (ho:∀b,v'.ownBlock=some b→qv.ownBlock=some b∨wr.heap.size≤b):PZ w0 lo0 w' z L v':=by
 refine ⟨h.rows.keep fun b hb hl=>hg.block b hl (fun e=>?_),fun b hb=>?_,Nat.le_trans h.le hg.size⟩
 ·have:=h.ap b e.symm;have:=hb.2;omega
 ·rcases ho b hb with e | e
  ·exact h.ap b e
  ·exact Nat.le_trans h.le e
end
theorem zHr {S:Nat→Prop} {u:Value} {c:List (List Int)} {w:World} (h:RII S w u c) (hc:isC c=true) (hl:total c≤16777216) :
  Calls Tryz.prog 105 #[u] w fun e w'=>∃r,e=.returned r∧FR (New w w') w' r ((zAU c).map iL)∧Below w.heap.size w w':=by
 obtain ⟨i0,hi0,hz0,hz1,hz2⟩:=info_parts zDY;have h4:c.length≤4:=(zAS.1 hc).le;have hC:=fun w1 (b1:Below w.heap.size w w1)=>zBk (h.below b1) hl;simp only [hc] at hC;have hNB:=fun (wr:World) (hb:Below w.heap.size w wr) (j:Nat) (hj:j<c.length)=>zG1 (i:=j) (h.below hb) hc hj hl;have HLT:Hid (∀j k:Nat,k∈nbr c j→k<c.length):=zTD (fun j k hk=>zMu hk);have HBF:=zTD (fun (f k j:Nat) (st:Sn) (hj:st.2[k]? = some j)=>zHL (c:=c) (f:=f) hj);have HBE:=zTD (fun (f k:Nat) (st:Sn) (hk:st.2.length≤k)=>zIR (c:=c) (f:=f) hk);have HST:=zTD (fun k:Nat=>(show (List.range (k+1)).foldl (zBM c) (List.replicate c.length false,[])=zBM c ((List.range k).foldl (zBM c) (List.replicate c.length false,[])) k from by rw [List.range_succ,List.foldl_append]; rfl))
 have HRES:Hid (((List.range c.length).foldl (zBM c) (List.replicate c.length false,[])).2=zAU c):=zTD rfl;have HT0:Hid ((List.range 0).foldl (zBM c) (List.replicate c.length false,[])=(List.replicate c.length false,[])):=zTD rfl;have HS1:Hid (∀(i:Nat) (s:List Bool),start c.length i s=(s.set i true,[i])):=zTD (fun _ _=>rfl);have HSO:Hid (∀(i:Nat) (s:List Bool),s.length=c.length→s[i]? = some false→SnOk c.length (s.set i true,[i])):=zTD (fun i s h1 h2=>zJa h1 h2);have HFD:Hid (∀(i:Nat) (s:List Bool),zBd c i s=bfsP c (c.length+1) 0 (s.set i true,[i])):=zTD (fun _ _=>rfl);have HRL:Hid ((List.replicate c.length false).length=c.length):=zTD (by simp);generalize hr0:List.replicate c.length false=R0 at *;have HR0:=zTD hr0;clear hr0;clear hc;have h0:=h;obtain ⟨au,cu,rfl⟩:=h.form;generalize hn:c.length=n at *
 have HN:=zTD hn;clear hn;go_enter Tryz.func105,Tryz.ntmps105
 go_wp2_with fail
 obtain ⟨w1,hw1⟩:∃w1,w1=w.alloc (.cells #[] 29):=⟨_,rfl⟩;obtain ⟨f1,b1⟩:=FR.empty_of (Below.refl _ w) hw1;rw [<-hw1];clear hw1;refine (hC w1 b1).mono ?_;rintro e w2 ⟨rfl,m2,hm2⟩;have b2:Below w1.heap.size w1 w2:=zAu ⟨m2,hm2⟩;clear hm2;have b02:=zAC.step b1 b2;have f2:=f1.grow b2;go_wp2_with (at_make; (refine wpList_make_full _ rfl _ _ 47 rfl w2.heap.size 4 i0 (.bool false) 1 Tryz.underlying47 hi0 hz0 hz1 _ _ _ _ n rfl rfl (by first | rfl | (simp only [wrap64]; omega)) (by first | rfl | (simp only [wrap64]; omega)) ?hb ?hm ?hs ?_))
 case hb=>first | (rw [hz2]; omega) | omega
 case hm=>unfold maxLen; omega
 case hs=>exact zTI _
 intro w3 hown hgr;have bb3:Below w2.heap.size w2 w3:=(Below.refl _ w2).grown hgr (zTI _) (by simp);have b3:=zAC.step b02 bb3;have f3:=f2.grow bb3;have m3:FBo (New w w3) w3 (.slice (some ⟨w2.heap.size,0,none⟩) n n) R0:=(FBo.of_row (w:=w2) (by simpa using hown) (zTI _) (by simp [<-HR0.out]) (by simp [<-HR0.out,toList_madeCells_one])).mono (fun b hb=>⟨Nat.le_trans b02.size hb.1,hb.2⟩);have hwG:w.heap.size≤w2.heap.size:=b02.size;clear hgr hown hi0 hz0 hz1 hz2 f2 f1 bb3 b02 b2 b1;generalize w2.heap.size=G at *;have HP0:Hid (([]:List (List Nat)).length≤0):=zTD (zTI _);have f3:FR (New w w3) w3 (.slice (some ⟨w.heap.size,0,none⟩) 0 0) (([]:List (List Nat)).map iL):=f3;go_wp2_with fail
 go_loopw [3,20] (fun zz kk wo=>∃(k:Nat) (z:Value) (so:List Bool) (ps:List (List Nat)),z=zz∧k≤n∧kk=.int .i64 k∧FBo (New w wo) wo (.slice (some ⟨G,0,none⟩) n n) so∧FR (New w wo) wo z (ps.map iL)∧Below w.heap.size w wo∧Hid ((List.range k).foldl (zBM c) (R0,[])=(so,ps))∧Hid (so.length=n)∧Hid (ps.length≤k)) (fun _ kk _=>n-(intOf kk).toNat)
 case atStart=>exact ⟨0,_,R0,[],rfl,Nat.zero_le _,rfl,m3,f3,b3,HT0,HRL,HP0⟩
 case round =>
  obtain ⟨ko,z,so,ps,rfl,hko,rfl,hms,hfr,hbo,HT,HSL,HPL⟩:=hrel;clear m3 f3 b3;by_cases hkn:ko<n
  ·have io:(ko:Int)<(n:Int):=by omega
   have io0:(0:Int)≤(ko:Int):=by omega
   obtain ⟨vo,hvo⟩:∃v,so[ko]? = some v:=⟨so[ko]'(by rw [HSL.out]; exact hkn),zTE _⟩;have hco:=hms.cell HSL.out hvo;have hfo:=hms.froz HSL.out ko;have hstp:=HST.out ko;rw [HT.out] at hstp;have hplo:ps.length≤ko:=HPL.out;cases vo with
   | true =>
    have HT2:Hid ((List.range (ko+1)).foldl (zBM c) (R0,[])=(so,ps)):=zTD (by rw [hstp]; unfold zBM; rw [if_pos (by rw [hvo]; rfl)]);have HPL2:Hid (ps.length≤ko+1):=zTD (by omega);clear hstp hvo hplo;go_wp2_with fail
    go_roundw
    case rel=>exact ⟨ko+1,_,so,ps,rfl,by omega,by go_num,hms,hfr,hbo,HT2,HSL,HPL2⟩
    case measure=>simp [intOf]; omega
   | false =>
    have HT2:Hid ((List.range (ko+1)).foldl (zBM c) (R0,[])=((zBd c ko so).1,ps++[srtN (zBd c ko so).2])):=zTD (by rw [hstp]; unfold zBM; rw [if_neg (by rw [hvo]; simp)]);have HS0:Hid (SnOk n (so.set ko true,[ko])):=zTD (HSO.out ko so HSL.out hvo);have HF0:Hid (bfsP c (n+1) 0 (so.set ko true,[ko])=zBd c ko so):=zTD (HFD.out ko so).symm;generalize zBd c ko so=F at *;obtain ⟨wo,rfl⟩:∃wo,wo=wr:=⟨_,rfl⟩;have hGo:G<wo.heap.size:=(hms.2 G rfl).2;have htg:=hms.tag (b:=G) rfl;have hms2:FBo (New w (wo.setCell ⟨G,ko,none⟩ (.bool true))) (wo.setCell ⟨G,ko,none⟩ (.bool true)) (.slice (some ⟨G,0,none⟩) n n) (so.set ko true):=(hms.put HSL.out ko true).mono (fun b hb=>⟨hb.1,by rw [zAM]; exact hb.2⟩);have hfr2:=hfr.setB (j:=ko) (x:=.bool true) htg
    have hbo2:Below w.heap.size w (wo.setCell ⟨G,ko,none⟩ (.bool true)):=hbo.setCell hwG _;have hzo:(wo.setCell ⟨G,ko,none⟩ (.bool true)).heap.size=wo.heap.size:=zAM _ _ _;clear hstp hvo;go_wp2_with fail
    clear hco hfo hms hfr hbo;generalize wo.setCell ⟨G,ko,none⟩ (.bool true)=w4 at *;obtain ⟨w5,hw5⟩:∃w5,w5=w4.alloc (.cells #[.int .i64 ko] 3):=⟨_,rfl⟩;obtain ⟨f5,b5⟩:=zGN hbo2 hw5;have bb5:Below w4.heap.size w4 w5:=by rw [hw5]; exact (Below.refl _ w4).alloc (zTI _) _
    rw [<-hw5];clear hw5;have hbq:BQ w w5 0 0 G n (.slice (some ⟨w4.heap.size,0,none⟩) 1 1) (so.set ko true,[ko]):=⟨hms2.grow bb5,f5,b5,fun b _=>.inr (Nat.zero_le _),Nat.zero_le _⟩;have hfr3:FR (Bt w.heap.size w4.heap.size) w5 z (ps.map iL):=(hfr2.below bb5).mono (fun b hb=>⟨hb.1,by rw [hzo]; exact hb.2⟩);have hpz:PZ w w4.heap.size w5 z (ps.map iL) (.slice (some ⟨w4.heap.size,0,none⟩) 1 1):=⟨hfr3,fun b hb=>by simp [Value.ownBlock] at hb; omega,bb5.size⟩;rw [hzo] at hbq hpz;generalize wo.heap.size=lo0 at *;clear hms2 hfr2 hbo2 f5 b5 bb5 hfr3 htg hzo;clear w4;go_loopw [6,7] (fun zz kk wr=>∃(k:Nat) (zv:Value) (st:Sn),zv=zz∧k≤st.2.length∧kk=.int .i64 k∧BQ w wr 0 0 G n zv st∧Hid (SnOk n st)∧Hid (bfsP c (n+1-k) k st=F)∧PZ w lo0 wr z (ps.map iL) zv) (fun _ kk _=>n-(intOf kk).toNat)
    case atStart=>exact ⟨0,_,_,rfl,Nat.zero_le _,rfl,hbq,HS0,HF0,hpz⟩
    case round =>
     obtain ⟨k,zv,st,rfl,hk,rfl,hq,HOK,HF,hz⟩:=hrel;obtain ⟨s,q⟩:=st;have hqn:q.length≤n:=HOK.out.le;have hsn:s.length=n:=HOK.out.len;have hiq:(iL q).length=q.length:=by simp [iL]
     obtain ⟨aq,cq,rfl⟩:=hq.qu.form;rw [hiq] at hq hz;rw [hiq];have hk:k≤q.length:=hk;generalize hql:q.length=m at *;have HQL:=zTD hql;have HSN:=zTD hsn;clear hql hsn hiq;by_cases hkm:k<m
     ·obtain ⟨j,hj⟩:∃j,q[k]? = some j:=⟨q[k]'(by rw [HQL.out]; exact hkm),zTE _⟩;have hjn:j<n:=HOK.out.lt j (zTF hj);have i3:(k:Int)<(m:Int):=by omega
      have hqc:∃g',aq=some ⟨g',0,none⟩∧wr.cell? ⟨g',k,none⟩=some (.int .i64 j):=by
       obtain ⟨g',e1,_,_⟩:=FI.head hq.qu (by omega);subst e1;refine ⟨g',rfl,FI.cell hq.qu (x:=(j:Int)) (by simp [iL,hj]) hkm⟩
      obtain ⟨g',rfl,hcq⟩:=hqc;have hstep:=HBF.out (n-k) k j (s,q) hj;rw [show n-k+1=n+1-k by omega,HF.out] at hstep;have HF2:=zTD hstep;have hnb:=hNB wr hq.bl j hjn;have HOK0:Hid (SnOk n (s,q)):=HOK;clear hstep hj;go_wp2_with fail
      refine hnb.mono ?_;rintro e w8 ⟨r8,rfl,f8,b8⟩;have hq8:=hq.below b8;have hz8:=hz.below b8;have hap:BQ w w8 wr.heap.size w8.heap.size G n (.slice (some ⟨g',0,none⟩) m cq) (s,q):=⟨hq8.ms,hq8.qu,hq8.bl,fun b hb=>.inl (hq.qu.1.lt b hb).2,zTI _⟩;obtain ⟨a8,c8,rfl⟩:=f8.form;have hL:RI (Bt wr.heap.size w8.heap.size) w8 (.slice a8 (iL (nbr c j)).length c8) (iL (nbr c j)):=f8.reads;have hLlen:(iL (nbr c j)).length=(nbr c j).length:=by simp [iL]
      rw [hLlen] at hL ⊢;have hLn:(nbr c j).length≤n:=by
       have:=zDl c j c.length;rw [show iL (zAy c j c.length)=iL (nbr c j) from rfl,hLlen,HN.out] at this;exact this
      have HLM:Hid (∀k∈nbr c j,k<n):=zTD (fun k hk=>by have:=HLT.out j k hk; exact this);clear f8 hq8 hq hLlen hnb b8;generalize nbr c j=L at *;generalize hll:L.length=ll at *;have HLL:=zTD hll;clear hll;generalize hlo:wr.heap.size=lo at *;generalize hhi:w8.heap.size=hi8 at *;clear hlo hhi;have HP0:Hid ((L.take 0).foldl zAf (s,q)=(s,q)):=zTD rfl;have HPL:Hid ((L.take ll).foldl zAf (s,q)=L.foldl zAf (s,q)):=zTD (by rw [<-HLL.out,List.take_of_length_le (zTI _)]);have HPS:Hid (∀(t:Nat) (x:Nat),L[t]? = some x→(L.take (t+1)).foldl zAf (s,q)=zAf ((L.take t).foldl zAf (s,q)) x):=zTD (fun t x hx=>by rw [zAP hx,List.foldl_append]; rfl);have HPO:Hid (∀t,SnOk n ((L.take t).foldl zAf (s,q))∧q.length≤((L.take t).foldl zAf (s,q)).2.length):=zTD (fun t=>zEl HOK0.out (fun j hj=>HLM.out j (List.mem_of_mem_take hj)))
      go_wp2_with fail
      go_loopw [6,45] (fun zz tt wi=>∃(t:Nat) (zv:Value) (st:Sn),zv=zz∧t≤ll∧tt=.int .i64 t∧BQ w wi lo hi8 G n zv st∧RI (Bt lo hi8) wi (.slice a8 ll c8) (iL L)∧Hid ((L.take t).foldl zAf (s,q)=st)∧PZ w lo0 wi z (ps.map iL) zv) (fun _ tt _=>ll-(intOf tt).toNat)
      case atStart=>exact ⟨0,_,(s,q),rfl,Nat.zero_le _,rfl,hap,hL,HP0,hz8⟩
      case round =>
       obtain ⟨t,zv,st,rfl,ht,rfl,hq,hL,HST,hz⟩:=hrel;obtain ⟨s1,q1⟩:=st;by_cases htl:t<ll
       ·obtain ⟨x,hx⟩:∃x,L[t]? = some x:=⟨L[t]'(by rw [HLL.out]; exact htl),zTE _⟩;have hxn:x<n:=HLM.out x (zTF hx);have i4:(t:Int)<(ll:Int):=by omega
        obtain ⟨bl,ol,y,e9,hcl,hy⟩:=RI.at hL htl;have hyx:y=(x:Int):=by
         have:=hy.out;simp only [iL,List.getElem?_map,hx,Option.map_some,Option.some.injEq] at this;exact this.symm
        subst hyx;subst e9;have hO:=(HPO.out t).1;rw [HST.out] at hO;have hs1:s1.length=n:=hO.len;have hq1:q1.length≤n:=hO.le;have hstep:=HPS.out t x hx;rw [HST.out] at hstep;obtain ⟨v,hv⟩:∃v,s1[x]? = some v:=⟨s1[x]'(by omega),zTE _⟩;have hcv:=hq.ms.cell hs1 hv;have hfz:=hq.ms.froz hs1 x;have i5:(0:Int)≤(x:Int):=by omega
        have i6:(x:Int)<(n:Int):=by omega
        cases v with
        | true =>
         have HS2:Hid ((L.take (t+1)).foldl zAf (s,q)=(s1,q1)):=zTD (by rw [hstep]; unfold zAf; rw [if_pos (by rw [hv]; rfl)]);clear hstep hv;go_wp2_with fail
         go_roundw
         case rel=>exact ⟨t+1,_,(s1,q1),rfl,by omega,by go_num,hq,hL,HS2,hz⟩
         case measure=>simp [intOf]; omega
        | false =>
         have HS2:Hid ((L.take (t+1)).foldl zAf (s,q)=(s1.set x true,q1++[x])):=zTD (by rw [hstep]; unfold zAf; rw [if_neg (by rw [hv]; simp)]);have hiq1:(iL q1).length=q1.length:=by simp [iL]
         obtain ⟨aq1,cq1,rfl⟩:=hq.qu.form;rw [hiq1] at hq hz ⊢;have hq4:=hq.mark hs1 x true;have htag:=hq.ms.tag (b:=G) rfl;have hL4:=hL.setB (j:=x) (x:=.bool true) htag;have hcl4:(wr.setCell ⟨G,x,none⟩ (.bool true)).cell? ⟨bl,ol+t,none⟩=some (.int .i64 x):=by
          obtain ⟨b2,o2,y2,e2,hc2,hy2⟩:=RI.at hL4 htl;simp only [Option.some.injEq,Addr.mk.injEq,and_true] at e2;obtain ⟨rfl,rfl⟩:=e2;have e3:=hy2.out.symm.trans hy.out;simp only [Option.some.injEq] at e3;rw [hc2,e3]
         have hz4:(wr.setCell ⟨G,x,none⟩ (.bool true)).heap.size=wr.heap.size:=zAM _ _ _;obtain ⟨w5,hw5⟩:∃w5,w5=(wr.setCell ⟨G,x,none⟩ (.bool true)).alloc (.cells #[.int .i64 x] 3):=⟨_,rfl⟩;have b5:Below (wr.setCell ⟨G,x,none⟩ (.bool true)).heap.size (wr.setCell ⟨G,x,none⟩ (.bool true)) w5:=by rw [hw5]; exact (Below.refl _ _).alloc (zTI _) _
         have hc5:w5.cell? ⟨wr.heap.size,0,none⟩=some (.int .i64 x):=by rw [<-hz4,hw5]; go_simp
         have hq5:=hq4.below b5;have hL5:=hL4.below b5;have hz5:=(hz.setB (j:=x) (x:=.bool true) htag).below b5;have HW5:=zTD hw5;have HV:=zTD hv;have hql1:(iL q1).length+1≤67108864:=by rw [hiq1]; omega
         clear hstep hv hw5;go_wp2_with (at_builtin; go_must (rw [<-HW5.out]; refine zFq (W:=w) rfl _ _ rfl rfl hq5.qu hq5.bl rfl hc5 hql1 ?_))
         intro v6 w6 f6 b6 g6 o6;have hq6:=hq4.pushed (j:=x) b5 f6 b6 g6 o6;have hL6:=hL5.grownO g6 (fun b hb=>hq5.ap b hb);have hz6:=hz5.grown g6 o6;go_wp2_with fail
         go_roundw
         case rel=>exact ⟨t+1,_,(s1.set x true,q1++[x]),rfl,by omega,by go_num,hq6,hL6,HS2,hz6⟩
         case measure=>simp [intOf]; omega
       ·have htl2:t=ll:=by omega
        have i4:¬(t:Int)<(ll:Int):=by omega
        have hend:=HST.out;rw [htl2,HPL.out] at hend;rw [hend] at HF2;have hO:=(HPO.out t).1;have hO2:=(HPO.out t).2;rw [HST.out] at hO hO2;have HO:=zTD hO;have hO2:m≤q1.length:=by rw [HQL.out] at hO2; exact hO2
        have hq0:BQ w wr 0 0 G n zv (s1,q1):=⟨hq.ms,hq.qu,hq.bl,fun b _=>.inr (Nat.zero_le _),Nat.zero_le _⟩;clear htl2 hend hO;go_wp2_with fail
        go_roundw
        case rel=>exact ⟨k+1,_,(s1,q1),rfl,by show k+1≤q1.length; omega,by go_num,hq0,HO,by rw [show n+1-(k+1)=n-k by omega]; exact zTD HF2.out.symm,hz⟩
        case measure=>simp [intOf]; omega
     ·have hkm2:k=m:=by omega
      have i3:¬(k:Int)<(m:Int):=by omega
      have hend:=HBE.out (n+1-k) k (s,q) (by rw [HQL.out]; omega);rw [HF.out] at hend;subst hend;have HPL2:Hid ((ps++[srtN q]).length≤ko+1):=zTD (by simp; omega);have hsrt:=zJY hq.qu (by simp [iL]; rw [HQL.out]; omega);rw [zKz] at hsrt;clear hkm2;go_wp2_with fail
      refine hsrt.mono ?_;rintro e w8 ⟨rfl,f8,g8⟩;have hz8:=hz.grown g8 (fun b hb=>.inl hb);have hms8:=hq.ms.grown hq.qu g8;have hb8:Below w.heap.size w w8:=hq.bl.grown g8 hq.bl.size (fun b hb=>(hq.qu.2 b hb).1);have hsz8:=g8.size;have hfr8:FR (New w w8) w8 z (ps.map iL):=hz8.rows.mono (fun b hb=>⟨hb.1,Nat.lt_of_lt_of_le hb.2 hz8.le⟩);have hms9:FBo (New w w8) w8 (.slice (some ⟨G,0,none⟩) n n) s:=hms8.mono (fun b hb=>⟨hb.1,Nat.lt_of_lt_of_le hb.2 hsz8⟩);have hy8:RI (New w w8) w8 (.slice aq m cq) (iL (srtN q)):=(f8.mono (fun b hb=>⟨hb.1,Nat.lt_of_lt_of_le hb.2 hsz8⟩):FI (New w w8) w8 (.slice aq m cq) (iL (srtN q))).reads;have HMP:Hid ((ps++[srtN q]).map iL=ps.map iL++[iL (srtN q)]):=zTD (by simp);have hln:(ps.map iL).length+1≤67108864:=by rw [List.length_map]; omega
      have bb:Below w8.heap.size w8 (w8.alloc (.cells #[.slice aq m cq] 29)):=(Below.refl _ _).alloc (zTI _) _;have hcn:(w8.alloc (.cells #[.slice aq m cq] 29)).cell? ⟨w8.heap.size,0,none⟩=some (.slice aq m cq):=by go_simp
      clear hz8 hms8 g8 f8 hq hz hsz8 hsrt hbq hpz;go_wp2_with (at_builtin; go_must (refine zBg (W:=w) rfl _ _ rfl rfl (hfr8.grow bb) (zAC.step hb8 bb) rfl hcn ((hy8.below bb).mono (fun b hb'=>⟨hb'.1,Nat.lt_of_lt_of_le hb'.2 bb.size⟩)) hln ?_))
      intro v' w9 f9 b9 g9;have hsz9:=g9.size;have hms10:FBo (New w w9) w9 (.slice (some ⟨G,0,none⟩) n n) s:=((hms9.grow bb).grownR (hfr8.grow bb) g9).mono (fun b hb=>⟨hb.1,Nat.lt_of_lt_of_le hb.2 hsz9⟩);rw [<-HMP.out] at f9;go_wp2_with fail
      go_roundw
      case rel=>exact ⟨ko+1,_,s,ps++[srtN q],rfl,by omega,by go_num,hms10,f9,b9,HT2,HSN,HPL2⟩
      case measure=>simp [intOf]; omega
  ·have hkm:ko=n:=by omega
   have io:¬(ko:Int)<(n:Int):=by omega
   have hT:=HT.out;rw [hkm] at hT;have hres:=HRES.out;rw [hT] at hres;have HRS:Hid (ps=zAU c):=zTD hres;clear hkm hT hres;rw [HRS.out] at hfr;go_wp2_with fail
   go_ret
   exact ⟨_,rfl,hfr,hbo⟩
end Go.Proofs.YtlgcdacpjcnjgaaGreatDoor
