/- A word put into a list in the order of words, by the reference. Condition: sizes up to 2^24. -/
import Derived.Test.YtiohpndgemonjaaGreatJGEl
import Derived.Test.YtiohpndgemonjaaGreatJGInV
namespace Go.Proofs.YtiohpndgemonjaaGreat
open Go.RowKit
set_option maxRecDepth 20000
theorem zMM {v:List Int} {l:List (List Int)}:putE v (v::l)=v::l:=by simp [putE]
theorem zO9 {v x:List Int} {l:List (List Int)} (h:x≠v) (hg:cmpW v x<0):putE v (x::l)=v::x::l:=by simp [putE,h,hg]
theorem zO8 {v x:List Int} {l:List (List Int)} (h:x≠v) (hg:¬cmpW v x<0):putE v (x::l)=x::putE v l:=by simp [putE,h,hg]
structure PutW (v:List Int) (L:List (List Int)) (Z Zo Y:Zl) (k:Nat) (pl:Bool):Prop where
 perm:(Zo++Z.drop k).Perm Y
 txt:Zo.map Prod.snd++(if pl=true then L.drop k else putE v (L.drop k))=putE v L
 len:Zo.length≤k+pl.toNat
section
variable {v:List Int} {L:List (List Int)} {Z Zo Y:Zl} {k:Nat} {pl:Bool} {z:Value × List Int}
theorem PutW.start (_hZ:Z.map Prod.snd=L):PutW v L Z [] Z 0 false:=⟨by simp,by simp,by simp⟩
theorem PutW.at (hZ:Z.map Prod.snd=L) (hz:Z[k]? = some z):L[k]? = some z.2:=by rw [<-hZ,List.getElem?_map,hz]; rfl
theorem PutW.mem (h:PutW v L Z Zo Y k pl) (hz:Z[k]? = some z):z∈Y:=h.perm.mem_iff.1 (List.mem_append_right _ (by rw [zAC hz]; exact List.mem_cons_self ..))
theorem PutW.step (h:PutW v L Z Zo Y k true) (hZ:Z.map Prod.snd=L) (hz:Z[k]? = some z):(Zo++[z]++Z.drop (k+1)).Perm Y∧(Zo++[z]).map Prod.snd++L.drop (k+1)=putE v L:=by
 have h1:=h.perm;have h2:=h.txt;rw [zAC hz] at h1;rw [if_pos rfl,zAC (PutW.at hZ hz)] at h2;exact ⟨by simpa using h1,by simpa using h2⟩
theorem PutW.stepF (h:PutW v L Z Zo Y k false) (hZ:Z.map Prod.snd=L) (hz:Z[k]? = some z) (hne:z.2≠v) (hg:¬cmpW v z.2<0):(Zo++[z]++Z.drop (k+1)).Perm Y∧(Zo++[z]).map Prod.snd++putE v (L.drop (k+1))=putE v L:=by
 have h1:=h.perm;have h2:=h.txt;rw [zAC hz] at h1;rw [if_neg (by simp),zAC (PutW.at hZ hz),zO8 hne hg] at h2;exact ⟨by simpa using h1,by simpa using h2⟩
theorem PutW.found (h:PutW v L Z Zo Y k pl) (hZ:Z.map Prod.snd=L) (hz:Z[k]? = some z) (he:z.2=v):PutW v L Z Zo Y k true:=by
 refine ⟨h.perm,?_,by have:=h.len; cases pl <;> simp at * <;> omega⟩;have h2:=h.txt;rw [if_pos rfl];cases pl with
 | true=>rw [if_pos rfl] at h2; exact h2
 | false =>
  rw [if_neg (by simp),zAC (PutW.at hZ hz),he,zMM] at h2;rw [zAC (PutW.at hZ hz),he];exact h2
theorem PutW.ins (h:PutW v L Z Zo Y k false) (hZ:Z.map Prod.snd=L) (hz:Z[k]? = some z) (hne:z.2≠v) (hg:cmpW v z.2<0) (r:Value) :
  (Zo++[(r,v)]++Z.drop k).Perm ((r,v)::Y)∧(Zo++[(r,v)]).map Prod.snd++L.drop k=putE v L:=by
 have h2:=h.txt;rw [if_neg (by simp),zAC (PutW.at hZ hz),zO9 hne hg,<-zAC (PutW.at hZ hz)] at h2;refine ⟨?_,by simpa using h2⟩;rw [List.append_assoc];exact List.perm_middle.trans (h.perm.cons _)
theorem PutW.endT (h:PutW v L Z Zo Y k true) (hk:Z.length≤k) (hZ:Z.map Prod.snd=L):Zo.Perm Y∧Zo.map Prod.snd=putE v L:=by
 have h1:=h.perm;have h2:=h.txt;rw [List.drop_eq_nil_of_le hk] at h1;rw [if_pos rfl,List.drop_eq_nil_of_le (show L.length≤k by rw [<-hZ]; simpa using hk)] at h2;exact ⟨by simpa using h1,by simpa using h2⟩
theorem PutW.endF (h:PutW v L Z Zo Y k false) (hk:Z.length≤k) (hZ:Z.map Prod.snd=L) (r:Value):(Zo++[(r,v)]).Perm ((r,v)::Y)∧(Zo++[(r,v)]).map Prod.snd=putE v L:=by
 have h1:=h.perm;have h2:=h.txt;rw [List.drop_eq_nil_of_le hk,List.append_nil] at h1;rw [if_neg (by simp),List.drop_eq_nil_of_le (show L.length≤k by rw [<-hZ]; simpa using hk)] at h2;exact ⟨List.perm_append_comm.trans (h1.cons _),by simpa [putE] using h2⟩
end
end Go.Proofs.YtiohpndgemonjaaGreat
