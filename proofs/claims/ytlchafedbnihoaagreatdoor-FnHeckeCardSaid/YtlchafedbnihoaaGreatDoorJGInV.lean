/- A list put into a descending list of lists, by the reference. Condition: sizes up to 2^24. -/
import Derived.Test.YtlchafedbnihoaaGreatDoorJGHeap
namespace Go.Proofs.YtlchafedbnihoaaGreatDoor
open Go.RowKit
set_option maxRecDepth 20000
theorem zKH {v:List Int} {l:List (List Int)}:putV v (v::l)=v::l:=by simp [putV]
theorem zMQ {v x:List Int} {l:List (List Int)} (h:x≠v) (hg:gtL v x=true):putV v (x::l)=v::x::l:=by simp [putV,h,hg]
structure PutI (v:List Int) (L:List (List Int)) (Z Zo Y:Zl) (k:Nat) (pl:Bool):Prop where
 perm:(Zo++Z.drop k).Perm Y
 txt:Zo.map Prod.snd++(if pl=true then L.drop k else putV v (L.drop k))=putV v L
 len:Zo.length≤k+pl.toNat
section
variable {v:List Int} {L:List (List Int)} {Z Zo Y:Zl} {k:Nat} {pl:Bool} {z:Value × List Int}
theorem PutI.start (_hZ:Z.map Prod.snd=L):PutI v L Z [] Z 0 false:=⟨by simp,by simp,by simp⟩
theorem PutI.at (hZ:Z.map Prod.snd=L) (hz:Z[k]? = some z):L[k]? = some z.2:=by rw [<-hZ,List.getElem?_map,hz]; rfl
theorem PutI.step (h:PutI v L Z Zo Y k true) (hZ:Z.map Prod.snd=L) (hz:Z[k]? = some z):(Zo++[z]++Z.drop (k+1)).Perm Y∧(Zo++[z]).map Prod.snd++L.drop (k+1)=putV v L:=by
 have h1:=h.perm;have h2:=h.txt;rw [zAJ hz] at h1;rw [if_pos rfl,zAJ (PutI.at hZ hz)] at h2;exact ⟨by simpa using h1,by simpa using h2⟩
theorem PutI.found (h:PutI v L Z Zo Y k pl) (hZ:Z.map Prod.snd=L) (hz:Z[k]? = some z) (he:z.2=v):PutI v L Z Zo Y k true:=by
 refine ⟨h.perm,?_,by have:=h.len; cases pl <;> simp at * <;> omega⟩;have h2:=h.txt;rw [if_pos rfl];cases pl with
 | true=>rw [if_pos rfl] at h2; exact h2
 | false =>
  rw [if_neg (by simp),zAJ (PutI.at hZ hz),he,zKH] at h2;rw [zAJ (PutI.at hZ hz),he];exact h2
theorem PutI.ins (h:PutI v L Z Zo Y k false) (hZ:Z.map Prod.snd=L) (hz:Z[k]? = some z) (hne:z.2≠v) (hg:gtL v z.2=true) (r:Value) :
  (Zo++[(r,v)]++Z.drop k).Perm ((r,v)::Y)∧(Zo++[(r,v)]).map Prod.snd++L.drop k=putV v L:=by
 have h2:=h.txt;rw [if_neg (by simp),zAJ (PutI.at hZ hz),zMQ hne hg,<-zAJ (PutI.at hZ hz)] at h2;refine ⟨?_,by simpa using h2⟩;rw [List.append_assoc];exact List.perm_middle.trans (h.perm.cons _)
end
theorem oneC {S:Nat→Prop} {w:World} {r:Value} {l:List Int} (h:RI S w r l):r.oneCell'=true:=by obtain ⟨_,_,rfl⟩:=h.form; rfl
theorem zD2 {A:Nat→Prop} {w0 w w1:World} {Ps:List zAp} (h:HSx A w0 w Ps) (hw:w1=w.alloc (.cells #[] 33)):HSx A w0 w1 (Ps++[aV 33 (.slice (some ⟨w.heap.size,0,none⟩) 0 0) ([]:Zl).unzip.1]):=by
 subst hw;refine h.add ((Below.refl _ _).alloc (zNl _) _) (st_V _ _ _) (F:=fun b=>b=w.heap.size) ⟨?_,fun b hb=>by simpa [Value.ownBlock] using hb.symm⟩ (fun b hb=>by subst hb; exact ⟨zNl _,by simp⟩);exact World.ownsRow_lit (base:=0) (e:=33) (size:=1) w #[] 0 (Nat.zero_le _) (by unfold maxLen; omega) rfl
end Go.Proofs.YtlchafedbnihoaaGreatDoor
