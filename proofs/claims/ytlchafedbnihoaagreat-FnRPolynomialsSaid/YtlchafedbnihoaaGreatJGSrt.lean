/- Own rows of words put in the order of words by the library. Condition: at most 2^26 rows. -/
import Derived.Test.YtlchafedbnihoaaGreatJGHeap
import Derived.Test.YtlchafedbnihoaaGreatJGSortV
import Derived.Test.YtlchafedbnihoaaGreatJGEl
namespace Go.Proofs.YtlchafedbnihoaaGreat
open Go.RowKit Go.Sort
set_option maxRecDepth 20000
set_option maxHeartbeats 8000000
theorem zHl {S S':Nat→Prop} {u v:Value} {l l':List Int} {w:World} (h:RI S w u l) (h':RI S' w v l') (hl:l.length≤16777216) (hl':l'.length≤16777216) :
  Calls Tryz.prog 85 #[u,v] w fun e w'=>e=.returned (.int .i64 (cmpW l l'))∧∃q os',w'=Go.Sort.grow (w.drewN q) os':=by
 have HR:=zQY (zJd l l');obtain ⟨a,cap,rfl⟩:=h.form;obtain ⟨a',cap',rfl⟩:=h'.form;have HL:=zQY hl;have HL':=zQY hl';generalize hn:l.length=n at *;generalize hm:l'.length=m at *;have HN:=zQY hn;have HM:=zQY hm;clear hn hm;go_enter Tryz.func85,Tryz.ntmps85
 go_wp2_with fail
 refine (zES n m w).mono ?_;rintro e w2 ⟨rfl,rfl⟩;generalize cmp3 n m=x at *;go_wp2_with fail
 refine (zEp h h' (by rw [HN.out]; exact HL.out) (by rw [HM.out]; exact HL'.out)).mono ?_;rintro e w3 ⟨rfl,rfl⟩;generalize lexC l l'=y at *;go_wp2_with fail
 have h2:RI Any (w2.alloc (.cells #[.int .i64 x,.int .i64 y] 3)) (.slice (some ⟨w2.heap.size,0,none⟩) 2 2) [x,y] :=
  ⟨_,2,rfl,⟨zQd _,by unfold maxLen; omega⟩,.inr ⟨_,0,rfl,trivial,⟨_,(0,0),heap_alloc_new w2 _⟩,fun j z hj=>by
   match j,hj with
   | 0,hj=>simp at hj; subst hj; exact ⟨_,by go_simp,rfl⟩
   | 1,hj=>simp at hj; subst hj; exact ⟨_,by go_simp,rfl⟩⟩⟩
 refine (zK4 h2).mono ?_;rintro e w4 ⟨rfl,rfl⟩;rw [HR.out];go_wp2_with fail
 go_ret
 exact ⟨rfl,0,#[.cells #[.int .i64 x,.int .i64 y] 3],Go.Sort.alloc_eq_grow _ _⟩
theorem zP7 {α:Type} (f:α→List Int):SWO (ltOf fun x y=>cmpW (f x) (f y)):=by
 have e:∀x y,ltOf (fun x y=>cmpW (f x) (f y)) x y=true↔cmpW (f x) (f y)<0:=fun x y=>by unfold ltOf; exact decide_eq_true_iff
 have e2:∀x y,ltOf (fun x y=>cmpW (f x) (f y)) x y=false↔¬cmpW (f x) (f y)<0:=fun x y=>by unfold ltOf; exact decide_eq_false_iff_not
 refine ⟨fun x=>(e2 x x).2 (zEA _),fun x y z h1 h2=>?_,fun x y z h1 h2=>?_⟩
 ·rw [e] at *; exact zDj h1 h2
 ·rw [e2] at *;intro h3;by_cases h4:f x=f y
  ·rw [h4] at h3; exact h2 h3
  ·by_cases h5:f y=f z
   ·rw [h5] at h1; exact h1 h3
   ·have h6:=(zEV h4).resolve_left h1;have h7:=(zEV h5).resolve_left h2;exact zEA _ (zDj (zDj h7 h6) h3)
theorem zMC {v:Value} {Z:Zl} {w:World} {n:Nat} (hown:w.ownsRow 0 25 1 v Z.length (Z.map Prod.fst)) (hr:∀z∈Z,RI (fun b=>v.ownBlock≠some b) w z.1 z.2) (hn:∀z∈Z,z.2.length≤n) (hn0:n≤16777216) (hl:Z.length≤67108864) :
  Calls Tryz.prog 84 #[v,.func (.func 85) #[] #[]] w fun e w'=>e=.returned (.tuple #[]) ∧
   ∃Z':Zl,Z'.Perm Z∧(Z'.map Prod.snd).Pairwise (fun a b=>¬cmpW b a<0)∧w'.ownsRow 0 25 1 v Z.length (Z'.map Prod.fst)∧w.grownBy w' v.ownBlock:=by
 rcases hown.2 with ⟨rfl,h0⟩ | ⟨g,cap,cur,rfl,hbase,hb,e1,e2,e3,e4⟩
 ·have hz:Z=[]:=List.eq_nil_of_length_eq_zero h0;subst hz;exact (Tryz.slices_SortFunc_none (α:=Nat) none 0 _ w).mono fun e w' ⟨he,hw⟩=>by
   subst hw;exact ⟨he,[],List.Perm.refl _,List.Pairwise.nil,hown,World.grownBy.refl _ _⟩
 ·by_cases hz:Z=[]
  ·subst hz;exact (Tryz.slices_SortFunc_none (α:=Nat) (some ⟨g,0,none⟩) cap _ w).mono fun e w' ⟨he,hw⟩=>by
    subst hw;exact ⟨he,[],List.Perm.refl _,List.Pairwise.nil,hown,World.grownBy.refl _ _⟩
  ·obtain ⟨z0,hz0⟩:=List.exists_mem_of_ne_nil Z hz
   let α:={ z:Value × List Int // z∈Z }
   have:Inhabited α:=⟨⟨z0,hz0⟩⟩
   let enc:α→Value:=fun z=>z.1.1
   let cf:α→α→Int:=fun x y=>cmpW x.1.2 y.1.2
   have hlen:Z.attach.length=Z.length:=List.length_attach;have hmap:Z.attach.map enc=Z.map Prod.fst:=by
    have e:Z.attach.map enc=(Z.attach.map Subtype.val).map Prod.fst:=by rw [List.map_map]; rfl
    rw [e,List.attach_map_subtype_val]
   have hH:Holds enc w g 0 Z.attach.toArray:=zLP hb (by rw [hlen,hmap]; simpa using e4);have hgl:g<w.heap.size:=(Array.getElem?_eq_some_iff.1 hb).1;have h1:OneCell enc:=fun z=>by obtain ⟨_,_,e⟩:=(hr z.1 z.2).form; show z.1.1.oneCell'=true; rw [e]; rfl
   have hO:SWO (ltOf cf):=zP7 (fun z:α=>z.1.2);have eg:∀args w,(callFunc 85 args).run Tryz.prog w=.ok (.enter 85 args) w:=enters_of Tryz.func85 (by kernel_rfl) rfl;have hcmp:CmpLays1 Tryz.prog 85 #[] enc cf g 0 Z.attach.toArray.size w:=fun m os dk _ x y=>by
    have hk:∀z:α,RI (fun b=>b≠g) (sortWorld enc w g 0 m dk os) z.1.1 z.1.2:=fun z =>
     RI.keep (RI.mono (hr z.1 z.2) (fun b hb e=>hb (by rw [e]; rfl))) (fun b hb hl=>(zHN (enc:=enc) (n:=m) (os:=os) dk).block b hl (fun e=>hb (by simpa using e)))
    have hc:=zHl (hk x) (hk y) (Nat.le_trans (hn x.1 x.2) hn0) (Nat.le_trans (hn y.1 y.2) hn0);have hc2:Calls Tryz.prog 85 (#[enc x,enc y] ++ #[]) (sortWorld enc w g 0 m dk os) fun e w'=>e=.returned (.int .i64 (cf x y))∧∃q os',w'=Go.Sort.grow ((sortWorld enc w g 0 m dk os).drewN q) os':=hc;exact hc2
   have hs:=Tryz.slices_SortFunc enc h1 cf hO 85 #[] g 0 cap Z.attach.toArray w eg hcmp hH hgl (by simp; omega);simp only [List.size_toArray,hlen] at hs;refine hs.mono ?_;rintro e w' ⟨rfl,d',m,os,hp,hsrt,rfl⟩;have hd:d'.size=Z.length:=by rw [hp.1]; exact hlen
   have hperm:d'.toList.Perm Z.attach:=by
    have h9:=hp.2.2;simp only [Array.toList_extract] at h9;have t1:List.extract d'.toList 0 Z.length=d'.toList:=by
     simp only [List.extract,Nat.sub_zero,List.drop_zero];exact List.take_of_length_le (by rw [<-hd]; simp)
    have t2:List.extract Z.attach 0 Z.length=Z.attach:=by
     simp only [List.extract,Nat.sub_zero,List.drop_zero];rw [<-hlen,List.take_length]
    rw [t1] at h9;exact h9.trans (by rw [t2])
   have hts:d'.toList.length=Z.attach.length:=by rw [hlen]; simpa using hd
   refine ⟨rfl,d'.toList.map Subtype.val,?_,?_,?_,?_⟩
   ·have:=hperm.map Subtype.val;rwa [List.attach_map_subtype_val] at this
   ·rw [List.map_map,List.pairwise_map,List.pairwise_iff_getElem];intro i j hi hj hij;have:=hsrt i j (Nat.zero_le _) hij (by rw [<-hd]; simpa using hj);unfold ltOf at this;have e5:=of_decide_eq_false this;have hi':i<d'.size:=by simpa using hi
    have hj':j<d'.size:=by simpa using hj
    rw [getElem!_pos d' i hi',getElem!_pos d' j hj'] at e5;simpa using e5
   ·have:=zND (enc:=enc) (n:=m) (os:=os) (ts:=d'.toList) (ss:=Z.attach) hts hbase hb (by rw [hlen]; exact e1) e2 e3;rw [hlen] at this;have e6:(d'.toList.map Subtype.val).map Prod.fst=d'.toList.map enc:=by rw [List.map_map]; rfl
    rw [e6];exact this
   ·exact zHN _
theorem HSx.sortWords {A:Nat→Prop} {w0 w:World} {Ps:List zAb} {v:Value} {Z:Zl} {n:Nat} (h:HSx A w0 w Ps) (i j:Nat) (hij:i≠j) (hi:Ps[i]? = some (aV 25 v (Z.map Prod.fst))) (hj:Ps[j]? = some (aRs Z)) (hnew:∀b,v.ownBlock=some b→w0.heap.size≤b)
  (hn:∀z∈Z,z.2.length≤n) (hn0:n≤16777216) (hl:Z.length≤67108864) :
  Calls Tryz.prog 84 #[v,.func (.func 85) #[] #[]] w fun e w'=>e=.returned (.tuple #[]) ∧
   ∃Z':Zl,Z'.Perm Z∧(Z'.map Prod.snd).Pairwise (fun a b=>¬cmpW b a<0)∧HSx A w0 w' ((Ps.set i (aV 25 v (Z'.map Prod.fst))).set j (aRs Z')):=by
 obtain ⟨F,hF,_⟩:=HSx.get h i hi;obtain ⟨G,hG,_⟩:=HSx.get h j hj;have hlz:(Z.map Prod.fst).length=Z.length:=by simp
 have hown:=hF.1;rw [hlz] at hown;refine (zMC hown (fun z hz=>?_) hn hn0 hl).mono ?_
 ·cases hv:v.ownBlock with
  | none=>exact RI.mono (hG.1 z hz).reads (fun b _=>by simp)
  | some B=>exact RI.mono ((hG.1 z hz).reads.off (zAr hown hv)) (fun b hb e=>hb.2 (by simpa using e.symm))
 ·rintro e w' ⟨rfl,Z',hp,hs,ho,hg⟩;refine ⟨rfl,Z',hp,hs,?_⟩;have h2:=h.upd i hi (st_V 25 v (Z'.map Prod.fst)) (zCw h.bl hg hnew) hg.size fun F hF _=>⟨F,⟨by rw [show (Z'.map Prod.fst).length=Z.length by rw [List.length_map,hp.length_eq]]; exact ho,hF.2⟩,fun b hb=>.inl hb,fun b hl hb=>hg.block b hl (fun e=>hb (hF.2 b e.symm))⟩;exact h2.permS j (by rw [List.getElem?_set_ne hij]; exact hj) hp
end Go.Proofs.YtlchafedbnihoaaGreat
