/- Whether a list is among lists; which of two lists is greater; a list put into a descending list of lists: by the reference. Condition: sizes up to 2^24. -/
import Derived.Test.YtlgcdacpjcnjgaaGreatDoorJGHeap
namespace Go.Proofs.YtlgcdacpjcnjgaaGreatDoor
open Go.RowKit
set_option maxRecDepth 20000
set_option maxHeartbeats 8000000
def inV (L:List (List Int)) (l:List Int):Bool:=decide (l∈L)
theorem zKQ {a b:List Int} (h:eqL a b=true):a=b:=by
 have:=zGy a b;rw [h] at this;simpa [zCR] using this
theorem zMG {a b:List Int} (h:eqL a b=false):a≠b:=by
 have:=zGy a b;rw [h] at this;intro e;rw [zCR.2 e] at this;simp at this
theorem zSR {S S':Nat→Prop} {u v:Value} {L:List (List Int)} {l:List Int} {w:World} (h:RII S w u L) (h':RI S' w v l) (hll:∀x∈L,x.length≤16777216) (hl:L.length≤16777216) (hl':l.length≤16777216) :
  Calls Tryz.prog 79 #[u,v] w fun e w'=>e=.returned (.bool (inV L l))∧∃m,w'=w.drewN m:=by
 obtain ⟨a,cap,rfl⟩:=h.form;have R0:Hid (inV (L.drop 0) l=inV L l):=zTD rfl;have HLL:=zTD hll;have HE:=zTD (fun (S9:Nat→Prop) (r:Value) (x:List Int) (m:Nat) (hr:RI S9 (w.drewN m) r x) (hx:x∈L)=>zCl hr (h'.drewN m) (hll x hx) hl');generalize hR:inV L l=R at *;generalize hn:L.length=n at *;have H:=zTD hn;clear hn hll hR;have mixed:Tryz.prog.follows .mixedOrders=true:=by kernel_rfl
 go_enter Tryz.func79,Tryz.ntmps79
 go_wp2_with fail
 go_loopw [5] (fun i wr=>∃k m:Nat,k≤n∧i=.int .i64 k∧wr=w.drewN m∧Hid (inV (L.drop k) l=R)) (fun i _=>n-(intOf i).toNat)
 case atStart=>exact ⟨0,0,Nat.zero_le _,rfl,rfl,R0⟩
 case round =>
  obtain ⟨k,m,hk,rfl,rfl,HR⟩:=hrel;by_cases hlt:k<n
  ·have i1:(k:Int)<(n:Int):=by omega
   obtain ⟨b,o,r,x,rfl,hc,hr,hx⟩:=(h.drewN m).at hlt;have hcall:=HE.out _ r x m hr (zTF hx.out);have hd:=HR.out;rw [zAK hx.out] at hd;have HD:=zTD hd;have HX:Hid (eqL x l=false→inV (L.drop (k+1)) l=R):=zTD (fun e=>by
    rw [<-HD.out]; unfold inV;have:=zMG e;simp [Ne.symm this])
   have HY:Hid (eqL x l=true→R=true):=zTD (fun e=>by
    rw [<-HD.out]; unfold inV;have:=zKQ e;simp [this])
   clear hx hd;go_wp2_with fail
   refine hcall.mono ?_;rintro e w8 ⟨rfl,m8,rfl⟩;cases hq:eqL x l
   ·have HZ:=zTD (HX.out hq);clear hq;go_wp2_with fail
    go_roundw
    case rel=>exact ⟨k+1,m+m8,by omega,by go_num,by simp,HZ⟩
    case measure=>simp [intOf]; omega
   ·have HZ:=zTD (HY.out hq);clear hq;go_wp2_with fail
    go_ret
    exact ⟨zAG HZ.out.symm,_,rfl⟩
  ·have i1:¬(k:Int)<(n:Int):=by omega
   have HZ:Hid (R=false):=zTD (by rw [<-HR.out,List.drop_eq_nil_of_le (by have:=H.out; omega)]; simp [inV]);go_wp2_with fail
   go_ret
   exact ⟨zAG HZ.out.symm,m,rfl⟩
theorem zND {v:List Int} {l:List (List Int)}:putV v (v::l)=v::l:=by simp [putV]
theorem zRG {v x:List Int} {l:List (List Int)} (h:x≠v) (hg:gtL v x=true):putV v (x::l)=v::x::l:=by simp [putV,h,hg]
theorem zRF {v x:List Int} {l:List (List Int)} (h:x≠v) (hg:gtL v x=false):putV v (x::l)=x::putV v l:=by simp [putV,h,hg]
structure PutI (v:List Int) (L:List (List Int)) (Z Zo Y:Zl) (k:Nat) (pl:Bool):Prop where
 perm:(Zo++Z.drop k).Perm Y
 txt:Zo.map Prod.snd++(if pl=true then L.drop k else putV v (L.drop k))=putV v L
 len:Zo.length≤k+pl.toNat
section
variable {v:List Int} {L:List (List Int)} {Z Zo Y:Zl} {k:Nat} {pl:Bool} {z:Value × List Int}
theorem PutI.start (_hZ:Z.map Prod.snd=L):PutI v L Z [] Z 0 false:=⟨by simp,by simp,by simp⟩
theorem PutI.at (hZ:Z.map Prod.snd=L) (hz:Z[k]? = some z):L[k]? = some z.2:=by rw [<-hZ,List.getElem?_map,hz]; rfl
theorem PutI.mem (h:PutI v L Z Zo Y k pl) (hz:Z[k]? = some z):z∈Y:=h.perm.mem_iff.1 (List.mem_append_right _ (by rw [zAK hz]; exact List.mem_cons_self ..))
theorem PutI.step (h:PutI v L Z Zo Y k true) (hZ:Z.map Prod.snd=L) (hz:Z[k]? = some z):(Zo++[z]++Z.drop (k+1)).Perm Y∧(Zo++[z]).map Prod.snd++L.drop (k+1)=putV v L:=by
 have h1:=h.perm;have h2:=h.txt;rw [zAK hz] at h1;rw [if_pos rfl,zAK (PutI.at hZ hz)] at h2;exact ⟨by simpa using h1,by simpa using h2⟩
theorem PutI.stepF (h:PutI v L Z Zo Y k false) (hZ:Z.map Prod.snd=L) (hz:Z[k]? = some z) (hne:z.2≠v) (hg:gtL v z.2=false):(Zo++[z]++Z.drop (k+1)).Perm Y∧(Zo++[z]).map Prod.snd++putV v (L.drop (k+1))=putV v L:=by
 have h1:=h.perm;have h2:=h.txt;rw [zAK hz] at h1;rw [if_neg (by simp),zAK (PutI.at hZ hz),zRF hne hg] at h2;exact ⟨by simpa using h1,by simpa using h2⟩
theorem PutI.found (h:PutI v L Z Zo Y k pl) (hZ:Z.map Prod.snd=L) (hz:Z[k]? = some z) (he:z.2=v):PutI v L Z Zo Y k true:=by
 refine ⟨h.perm,?_,by have:=h.len; cases pl <;> simp at * <;> omega⟩;have h2:=h.txt;rw [if_pos rfl];cases pl with
 | true=>rw [if_pos rfl] at h2; exact h2
 | false =>
  rw [if_neg (by simp),zAK (PutI.at hZ hz),he,zND] at h2;rw [zAK (PutI.at hZ hz),he];exact h2
theorem PutI.ins (h:PutI v L Z Zo Y k false) (hZ:Z.map Prod.snd=L) (hz:Z[k]? = some z) (hne:z.2≠v) (hg:gtL v z.2=true) (r:Value) :
  (Zo++[(r,v)]++Z.drop k).Perm ((r,v)::Y)∧(Zo++[(r,v)]).map Prod.snd++L.drop k=putV v L:=by
 have h2:=h.txt;rw [if_neg (by simp),zAK (PutI.at hZ hz),zRG hne hg,<-zAK (PutI.at hZ hz)] at h2;refine ⟨?_,by simpa using h2⟩;rw [List.append_assoc];exact List.perm_middle.trans (h.perm.cons _)
theorem PutI.endT (h:PutI v L Z Zo Y k true) (hk:Z.length≤k) (hZ:Z.map Prod.snd=L):Zo.Perm Y∧Zo.map Prod.snd=putV v L:=by
 have h1:=h.perm;have h2:=h.txt;rw [List.drop_eq_nil_of_le hk] at h1;rw [if_pos rfl,List.drop_eq_nil_of_le (show L.length≤k by rw [<-hZ]; simpa using hk)] at h2;exact ⟨by simpa using h1,by simpa using h2⟩
theorem PutI.endF (h:PutI v L Z Zo Y k false) (hk:Z.length≤k) (hZ:Z.map Prod.snd=L) (r:Value):(Zo++[(r,v)]).Perm ((r,v)::Y)∧(Zo++[(r,v)]).map Prod.snd=putV v L:=by
 have h1:=h.perm;have h2:=h.txt;rw [List.drop_eq_nil_of_le hk,List.append_nil] at h1;rw [if_neg (by simp),List.drop_eq_nil_of_le (show L.length≤k by rw [<-hZ]; simpa using hk)] at h2;exact ⟨List.perm_append_comm.trans (h1.cons _),by simpa [putV] using h2⟩
end
theorem oneC {S:Nat→Prop} {w:World} {r:Value} {l:List Int} (h:RI S w r l):r.oneCell'=true:=by obtain ⟨_,_,rfl⟩:=h.form; rfl
theorem zAj {A:Nat→Prop} {w0 w w1:World} {Ps:List zAI} (h:HSx A w0 w Ps) (hw:w1=w.alloc (.cells #[] 29)):HSx A w0 w1 (Ps++[aV 29 (.slice (some ⟨w.heap.size,0,none⟩) 0 0) ([]:Zl).unzip.1]):=by
 subst hw;refine h.add ((Below.refl _ _).alloc (zTI _) _) (st_V _ _ _) (F:=fun b=>b=w.heap.size) ⟨?_,fun b hb=>by simpa [Value.ownBlock] using hb.symm⟩ (fun b hb=>by subst hb; exact ⟨zTI _,by simp⟩);exact World.ownsRow_lit (base:=0) (e:=29) (size:=1) w #[] 0 (Nat.zero_le _) (by unfold maxLen; omega) rfl
end Go.Proofs.YtlgcdacpjcnjgaaGreatDoor
