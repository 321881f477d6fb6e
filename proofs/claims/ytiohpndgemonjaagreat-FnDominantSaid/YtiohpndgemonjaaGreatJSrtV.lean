/- Own rows of rows put in descending order by the library. Condition: at most 2^26 rows of one length. -/
import Derived.Test.YtiohpndgemonjaaGreatJGHeap
import Derived.Test.YtiohpndgemonjaaGreatJGGt
import Derived.Test.YtiohpndgemonjaaGreatJGSortV
namespace Go.Proofs.YtiohpndgemonjaaGreat
open Go.RowKit Go.Sort
set_option maxRecDepth 20000
set_option maxHeartbeats 8000000
theorem zEW {S S':Nat→Prop} {u v:Value} {l l':List Int} {w:World} (h:RI S w u l) (h':RI S' w v l') (hl:l.length≤16777216) (hl':l'.length≤16777216) :
  Calls Tryz.prog 60 #[u,v] w fun e w'=>e=.returned (.int .i64 (lexC l' l))∧w=w':=by
 have hc:=zEN h' h hl' hl;go_enter Tryz.func60,Tryz.ntmps60
 go_wp2_with fail
 refine hc.mono ?_;rintro e w' ⟨rfl,rfl⟩;go_wp2_with fail
 go_ret
 exact ⟨rfl,rfl⟩
theorem zQL {α:Type} {f:α→List Int} {n:Nat} (hn:∀x,(f x).length=n):SWO (ltOf fun x y=>lexC (f y) (f x)):=by
 have e:∀x y,ltOf (fun x y=>lexC (f y) (f x)) x y=gtL (f x) (f y):=fun x y=>by
  unfold ltOf;rw [Bool.eq_iff_iff,decide_eq_true_iff];exact (zE8 (by rw [hn,hn])).symm
 refine ⟨fun x=>by rw [e]; exact zB0 _,fun x y z h1 h2=>?_,fun x y z h1 h2=>?_⟩
 ·rw [e] at *; exact zBq h1 h2
 ·rw [e] at *;cases h3:gtL (f x) (f z) with
  | false=>rfl
  | true =>
   exfalso;by_cases h4:f x=f y
   ·rw [h4] at h3; rw [h3] at h2; cases h2
   ·by_cases h5:f y=f z
    ·rw [h5] at h1; rw [h1] at h3; cases h3
    ·rcases zCH (by rw [hn,hn]) h4 with h6 | h6
     ·rw [h6] at h1; cases h1
     ·rcases zCH (by rw [hn,hn]) h5 with h7 | h7
      ·rw [h7] at h2; cases h2
      ·have:=zBq (zBq h7 h6) h3;rw [zB0] at this; cases this
theorem zMW {v:Value} {Z:Zl} {w:World} {n:Nat} (hown:w.ownsRow 0 25 1 v Z.length (Z.map Prod.fst)) (hr:∀z∈Z,RI (fun b=>v.ownBlock≠some b) w z.1 z.2) (hn:∀z∈Z,z.2.length=n) (hn0:n≤16777216) (hl:Z.length≤67108864) :
  Calls Tryz.prog 59 #[v,.func (.func 60) #[] #[]] w fun e w'=>e=.returned (.tuple #[]) ∧
   ∃Z':Zl,Z'.Perm Z∧(Z'.map Prod.snd).Pairwise (fun a b=>¬lexC a b<0)∧w'.ownsRow 0 25 1 v Z.length (Z'.map Prod.fst)∧w.grownBy w' v.ownBlock:=by
 rcases hown.2 with ⟨rfl,h0⟩ | ⟨g,cap,cur,rfl,hbase,hb,e1,e2,e3,e4⟩
 ·have hz:Z=[]:=List.eq_nil_of_length_eq_zero h0;subst hz;exact (Tryz.slices_SortFunc_none (α:=Nat) none 0 _ w).mono fun e w' ⟨he,hw⟩=>by
   subst hw;exact ⟨he,[],List.Perm.refl _,List.Pairwise.nil,hown,World.grownBy.refl _ _⟩
 ·by_cases hz:Z=[]
  ·subst hz;exact (Tryz.slices_SortFunc_none (α:=Nat) (some ⟨g,0,none⟩) cap _ w).mono fun e w' ⟨he,hw⟩=>by
    subst hw;exact ⟨he,[],List.Perm.refl _,List.Pairwise.nil,hown,World.grownBy.refl _ _⟩
  ·obtain ⟨z0,hz0⟩:=List.exists_mem_of_ne_nil Z hz
   let α:={ z:Value × List Int // z∈Z }
   have:Inhabited α:=⟨⟨z0,hz0⟩⟩
   let enc:α→Value:=fun z=>z.1.1
   let cf:α→α→Int:=fun x y=>lexC y.1.2 x.1.2
   have hlen:Z.attach.length=Z.length:=List.length_attach;have hmap:Z.attach.map enc=Z.map Prod.fst:=by
    have e:Z.attach.map enc=(Z.attach.map Subtype.val).map Prod.fst:=by rw [List.map_map]; rfl
    rw [e,List.attach_map_subtype_val]
   have hH:Holds enc w g 0 Z.attach.toArray:=zHT hb (by rw [hlen,hmap]; simpa using e4);have hgl:g<w.heap.size:=(Array.getElem?_eq_some_iff.1 hb).1;have h1:OneCell enc:=fun z=>by obtain ⟨_,_,e⟩:=(hr z.1 z.2).form; show z.1.1.oneCell'=true; rw [e]; rfl
   have hO:SWO (ltOf cf):=zQL (f:=fun z:α=>z.1.2) (n:=n) (fun z=>hn z.1 z.2);have eg:∀args w,(callFunc 60 args).run Tryz.prog w=.ok (.enter 60 args) w:=enters_of Tryz.func60 (by kernel_rfl) rfl;have hcmp:CmpReads Tryz.prog 60 #[] enc cf g 0 Z.attach.toArray.size w:=fun m os dk _ x y=>by
    have hk:∀z:α,RI (fun b=>b≠g) (sortWorld enc w g 0 m dk os) z.1.1 z.1.2:=fun z =>
     RI.keep (RI.mono (hr z.1 z.2) (fun b hb e=>hb (by rw [e]; rfl))) (fun b hb hl=>(zDZ (enc:=enc) (n:=m) (os:=os) dk).block b hl (fun e=>hb (by simpa using e)))
    have hc:=zEW (hk x) (hk y) (by rw [hn x.1 x.2]; exact hn0) (by rw [hn y.1 y.2]; exact hn0);have hc2:Calls Tryz.prog 60 (#[enc x,enc y] ++ #[]) (sortWorld enc w g 0 m dk os) fun e w'=>e=.returned (.int .i64 (cf x y))∧sortWorld enc w g 0 m dk os=w':=hc;refine hc2.mono ?_;rintro e w' ⟨he,hw⟩;exact ⟨he,0,by rw [<-hw]; rfl⟩
   have hs:=Tryz.slices_SortFunc enc h1 cf hO 60 #[] g 0 cap Z.attach.toArray w eg hcmp.lays hH hgl (by simp; omega);simp only [List.size_toArray,hlen] at hs;refine hs.mono ?_;rintro e w' ⟨rfl,d',m,os,hp,hsrt,rfl⟩;have hd:d'.size=Z.length:=by rw [hp.1]; exact hlen
   have hperm:d'.toList.Perm Z.attach:=by
    have h9:=hp.2.2;simp only [Array.toList_extract] at h9;have t1:List.extract d'.toList 0 Z.length=d'.toList:=by
     simp only [List.extract,Nat.sub_zero,List.drop_zero];exact List.take_of_length_le (by rw [<-hd]; simp)
    have t2:List.extract Z.attach 0 Z.length=Z.attach:=by
     simp only [List.extract,Nat.sub_zero,List.drop_zero];rw [<-hlen,List.take_length]
    rw [t1] at h9;exact h9.trans (by rw [t2])
   have hts:d'.toList.length=Z.attach.length:=by rw [hlen]; simpa using hd
   refine ⟨rfl,d'.toList.map Subtype.val,?_,?_,?_,?_⟩
   ·have:=hperm.map Subtype.val;rwa [List.attach_map_subtype_val] at this
   ·rw [List.map_map,List.pairwise_map,List.pairwise_iff_getElem];intro i j hi hj hij;have:=hsrt i j (Nat.zero_le _) hij (by rw [<-hd]; simpa using hj);unfold ltOf at this;have e5:=of_decide_eq_false this;have hi':i<d'.size:=by simpa using hi
    have hj':j<d'.size:=by simpa using hj
    rw [getElem!_pos d' i hi',getElem!_pos d' j hj'] at e5;simpa using e5
   ·have:=zNd (enc:=enc) (n:=m) (os:=os) (ts:=d'.toList) (ss:=Z.attach) hts hbase hb (by rw [hlen]; exact e1) e2 e3;rw [hlen] at this;have e6:(d'.toList.map Subtype.val).map Prod.fst=d'.toList.map enc:=by rw [List.map_map]; rfl
    rw [e6];exact this
   ·exact zDZ _
theorem HSx.sortRows {A:Nat→Prop} {w0 w:World} {Ps:List zAL} {v:Value} {Z:Zl} {n:Nat} (h:HSx A w0 w Ps) (i j:Nat) (hij:i≠j) (hi:Ps[i]? = some (aV 25 v (Z.map Prod.fst))) (hj:Ps[j]? = some (aRs Z)) (hnew:∀b,v.ownBlock=some b→w0.heap.size≤b)
  (hn:∀z∈Z,z.2.length=n) (hn0:n≤16777216) (hl:Z.length≤67108864) :
  Calls Tryz.prog 59 #[v,.func (.func 60) #[] #[]] w fun e w'=>e=.returned (.tuple #[]) ∧
   ∃Z':Zl,Z'.Perm Z∧(Z'.map Prod.snd).Pairwise (fun a b=>¬lexC a b<0)∧HSx A w0 w' ((Ps.set i (aV 25 v (Z'.map Prod.fst))).set j (aRs Z')):=by
 obtain ⟨F,hF,_⟩:=HSx.get h i hi;obtain ⟨G,hG,_⟩:=HSx.get h j hj;have hlz:(Z.map Prod.fst).length=Z.length:=by simp
 have hown:=hF.1;rw [hlz] at hown;refine (zMW hown (fun z hz=>?_) hn hn0 hl).mono ?_
 ·cases hv:v.ownBlock with
  | none=>exact RI.mono (hG.1 z hz).reads (fun b _=>by simp)
  | some B=>exact RI.mono ((hG.1 z hz).reads.off (zAp hown hv)) (fun b hb e=>hb.2 (by simpa using e.symm))
 ·rintro e w' ⟨rfl,Z',hp,hs,ho,hg⟩;refine ⟨rfl,Z',hp,hs,?_⟩;have h2:=h.upd i hi (st_V 25 v (Z'.map Prod.fst)) (zBC h.bl hg hnew) hg.size fun F hF _=>⟨F,⟨by rw [show (Z'.map Prod.fst).length=Z.length by rw [List.length_map,hp.length_eq]]; exact ho,hF.2⟩,fun b hb=>.inl hb,fun b hl hb=>hg.block b hl (fun e=>hb (hF.2 b e.symm))⟩;exact h2.permS j (by rw [List.getElem?_set_ne hij]; exact hj) hp
end Go.Proofs.YtiohpndgemonjaaGreat
