/- Whether a list is among lists; which of two lists is greater; a list put into a descending list of lists: by the reference. Condition: sizes up to 2^24. -/
import Derived.Test.YtiohpndgemonjaaGreatJGHeap
import Derived.Test.YtiohpndgemonjaaGreatJGGt
namespace Go.Proofs.YtiohpndgemonjaaGreat
open Go.RowKit
set_option maxRecDepth 20000
set_option maxHeartbeats 8000000
def inV (L:List (List Int)) (l:List Int):Bool:=decide (l∈L)
theorem zJ0 {a b:List Int} (h:eqL a b=true):a=b:=by
 have:=zGn a b;rw [h] at this;simpa [zE0] using this
theorem zLs {a b:List Int} (h:eqL a b=false):a≠b:=by
 have:=zGn a b;rw [h] at this;intro e;rw [zE0.2 e] at this;simp at this
theorem zIV {S S':Nat→Prop} {u v:Value} {L:List (List Int)} {l:List Int} {w:World} (h:RII S w u L) (h':RI S' w v l) (hll:∀x∈L,x.length≤16777216) (hl:L.length≤16777216) (hl':l.length≤16777216) :
  Calls Tryz.prog 63 #[u,v] w fun e w'=>e=.returned (.bool (inV L l))∧∃m,w'=w.drewN m:=by
 obtain ⟨a,cap,rfl⟩:=h.form;have R0:Hid (inV (L.drop 0) l=inV L l):=zQe rfl;have HLL:=zQe hll;have HE:=zQe (fun (S9:Nat→Prop) (r:Value) (x:List Int) (m:Nat) (hr:RI S9 (w.drewN m) r x) (hx:x∈L)=>zDo hr (h'.drewN m) (hll x hx) hl');generalize hR:inV L l=R at *;generalize hn:L.length=n at *;have H:=zQe hn;clear hn hll hR;have mixed:Tryz.prog.follows .mixedOrders=true:=by kernel_rfl
 go_enter Tryz.func63,Tryz.ntmps63
 go_wp2_with fail
 go_loopw [5] (fun i wr=>∃k m:Nat,k≤n∧i=.int .i64 k∧wr=w.drewN m∧Hid (inV (L.drop k) l=R)) (fun i _=>n-(intOf i).toNat)
 case atStart=>exact ⟨0,0,Nat.zero_le _,rfl,rfl,R0⟩
 case round =>
  obtain ⟨k,m,hk,rfl,rfl,HR⟩:=hrel;by_cases hlt:k<n
  ·have i1:(k:Int)<(n:Int):=by omega
   obtain ⟨b,o,r,x,rfl,hc,hr,hx⟩:=(h.drewN m).at hlt;have hcall:=HE.out _ r x m hr (zQg hx.out);have hd:=HR.out;rw [zAC hx.out] at hd;have HD:=zQe hd;have HX:Hid (eqL x l=false→inV (L.drop (k+1)) l=R):=zQe (fun e=>by
    rw [<-HD.out]; unfold inV;have:=zLs e;simp [Ne.symm this])
   have HY:Hid (eqL x l=true→R=true):=zQe (fun e=>by
    rw [<-HD.out]; unfold inV;have:=zJ0 e;simp [this])
   clear hx hd;go_wp2_with fail
   refine hcall.mono ?_;rintro e w8 ⟨rfl,m8,rfl⟩;cases hq:eqL x l
   ·have HZ:=zQe (HX.out hq);clear hq;go_wp2_with fail
    go_roundw
    case rel=>exact ⟨k+1,m+m8,by omega,by go_num,by simp,HZ⟩
    case measure=>simp [intOf]; omega
   ·have HZ:=zQe (HY.out hq);clear hq;go_wp2_with fail
    go_ret
    exact ⟨zAB HZ.out.symm,_,rfl⟩
  ·have i1:¬(k:Int)<(n:Int):=by omega
   have HZ:Hid (R=false):=zQe (by rw [<-HR.out,List.drop_eq_nil_of_le (by have:=H.out; omega)]; simp [inV]);go_wp2_with fail
   go_ret
   exact ⟨zAB HZ.out.symm,m,rfl⟩
theorem zIQ {a b:List Int} {k:Nat} {x y:Int} (hx:a[k]? = some x) (hy:b[k]? = some y):gtL (a.drop k) (b.drop k)=if x=y then gtL (a.drop (k+1)) (b.drop (k+1)) else decide (y<x):=by
 rw [zAC hx,zAC hy]; rfl
theorem zJV {S S':Nat→Prop} {u v:Value} {l l':List Int} {w:World} (h:RI S w u l) (h':RI S' w v l') (hl:l.length≤16777216) (_hl':l'.length≤16777216) :
  Calls Tryz.prog 89 #[u,v] w fun e w'=>e=.returned (.bool (gtL l l'))∧∃m,w'=w.drewN m:=by
 obtain ⟨a,cap,rfl⟩:=h.form;obtain ⟨a',cap',rfl⟩:=h'.form;have R0:Hid (gtL (l.drop 0) (l'.drop 0)=gtL l l'):=zQe rfl;generalize gtL l l'=R at *;generalize hn:l.length=n at *;generalize hn':l'.length=n' at *;have H:=zQe hn;have H':=zQe hn';clear hn hn';have mixed:Tryz.prog.follows .mixedOrders=true:=by kernel_rfl
 go_enter Tryz.func89,Tryz.ntmps89
 go_wp2_with fail
 go_loopw [5] (fun i wr=>∃k m:Nat,k≤n∧k≤n'∧i=.int .i64 k∧wr=w.drewN m∧Hid (gtL (l.drop k) (l'.drop k)=R)) (fun i _=>n-(intOf i).toNat)
 case atStart=>exact ⟨0,0,Nat.zero_le _,Nat.zero_le _,rfl,rfl,R0⟩
 case round =>
  obtain ⟨k,m,hk,hk',rfl,hw,HR⟩:=hrel;by_cases hlt:k<n
  ·have i1:(k:Int)<(n:Int):=by omega
   by_cases hlt':k<n'
   ·have i2:(k:Int)<(n':Int):=by omega
    have h2:=h.drewN m;have h3:=h'.drewN m;rw [<-hw] at h2 h3;have HW:=zQe hw;clear hw;obtain ⟨b,o,x,rfl,hc,hx⟩:=h2.at hlt;obtain ⟨b',o',y,rfl,hc',hy⟩:=h3.at hlt';have hd:=HR.out;rw [zIQ hx.out hy.out] at hd;clear hx hy;by_cases hxy:x=y
    ·have f1:(x != y)=false:=by simp [hxy]
     rw [if_pos hxy] at hd;have HD:=zQe hd;clear hd hxy;go_wp2_with fail
     go_quiet (fail)
     go_wp2_with fail
     go_roundw
     case rel=>exact ⟨k+1,m+nq,by omega,by omega,by go_num,by rw [HW.out]; simp,HD⟩
     case measure=>simp [intOf]; omega
    ·have f1:(x != y)=true:=by simp [hxy]
     rw [if_neg hxy] at hd;have HD:=zQe hd;clear hd hxy;go_wp2_with fail
     go_quiet (fail)
     go_wp2_with fail
     go_quiet (fail)
     go_wp2_with fail
     go_ret
     exact ⟨zAB HD.out,by rw [HW.out]; first | exact dr3 | exact dr2⟩
   ·have i2:¬(k:Int)<(n':Int):=by omega
    have HZ:Hid (R=false):=zQe (by rw [<-HR.out,List.drop_eq_nil_of_le (show l'.length≤k by have:=H'.out; omega)]; cases l.drop k <;> rfl);subst hw;go_wp2_with fail
    go_ret
    exact ⟨zAB HZ.out.symm,m,rfl⟩
  ·have i1:¬(k:Int)<(n:Int):=by omega
   have HZ:Hid (R=false):=zQe (by rw [<-HR.out,List.drop_eq_nil_of_le (show l.length≤k by have:=H.out; omega)]; rfl);subst hw;go_wp2_with fail
   go_ret
   exact ⟨zAB HZ.out.symm,m,rfl⟩
theorem zMN {v:List Int} {l:List (List Int)}:putV v (v::l)=v::l:=by simp [putV]
theorem zPB {v x:List Int} {l:List (List Int)} (h:x≠v) (hg:gtL v x=true):putV v (x::l)=v::x::l:=by simp [putV,h,hg]
theorem zPA {v x:List Int} {l:List (List Int)} (h:x≠v) (hg:gtL v x=false):putV v (x::l)=x::putV v l:=by simp [putV,h,hg]
structure PutI (v:List Int) (L:List (List Int)) (Z Zo Y:Zl) (k:Nat) (pl:Bool):Prop where
 perm:(Zo++Z.drop k).Perm Y
 txt:Zo.map Prod.snd++(if pl=true then L.drop k else putV v (L.drop k))=putV v L
 len:Zo.length≤k+pl.toNat
section
variable {v:List Int} {L:List (List Int)} {Z Zo Y:Zl} {k:Nat} {pl:Bool} {z:Value × List Int}
theorem PutI.start (_hZ:Z.map Prod.snd=L):PutI v L Z [] Z 0 false:=⟨by simp,by simp,by simp⟩
theorem PutI.at (hZ:Z.map Prod.snd=L) (hz:Z[k]? = some z):L[k]? = some z.2:=by rw [<-hZ,List.getElem?_map,hz]; rfl
theorem PutI.mem (h:PutI v L Z Zo Y k pl) (hz:Z[k]? = some z):z∈Y:=h.perm.mem_iff.1 (List.mem_append_right _ (by rw [zAC hz]; exact List.mem_cons_self ..))
theorem PutI.step (h:PutI v L Z Zo Y k true) (hZ:Z.map Prod.snd=L) (hz:Z[k]? = some z):(Zo++[z]++Z.drop (k+1)).Perm Y∧(Zo++[z]).map Prod.snd++L.drop (k+1)=putV v L:=by
 have h1:=h.perm;have h2:=h.txt;rw [zAC hz] at h1;rw [if_pos rfl,zAC (PutI.at hZ hz)] at h2;exact ⟨by simpa using h1,by simpa using h2⟩
theorem PutI.stepF (h:PutI v L Z Zo Y k false) (hZ:Z.map Prod.snd=L) (hz:Z[k]? = some z) (hne:z.2≠v) (hg:gtL v z.2=false):(Zo++[z]++Z.drop (k+1)).Perm Y∧(Zo++[z]).map Prod.snd++putV v (L.drop (k+1))=putV v L:=by
 have h1:=h.perm;have h2:=h.txt;rw [zAC hz] at h1;rw [if_neg (by simp),zAC (PutI.at hZ hz),zPA hne hg] at h2;exact ⟨by simpa using h1,by simpa using h2⟩
theorem PutI.found (h:PutI v L Z Zo Y k pl) (hZ:Z.map Prod.snd=L) (hz:Z[k]? = some z) (he:z.2=v):PutI v L Z Zo Y k true:=by
 refine ⟨h.perm,?_,by have:=h.len; cases pl <;> simp at * <;> omega⟩;have h2:=h.txt;rw [if_pos rfl];cases pl with
 | true=>rw [if_pos rfl] at h2; exact h2
 | false =>
  rw [if_neg (by simp),zAC (PutI.at hZ hz),he,zMN] at h2;rw [zAC (PutI.at hZ hz),he];exact h2
theorem PutI.ins (h:PutI v L Z Zo Y k false) (hZ:Z.map Prod.snd=L) (hz:Z[k]? = some z) (hne:z.2≠v) (hg:gtL v z.2=true) (r:Value) :
  (Zo++[(r,v)]++Z.drop k).Perm ((r,v)::Y)∧(Zo++[(r,v)]).map Prod.snd++L.drop k=putV v L:=by
 have h2:=h.txt;rw [if_neg (by simp),zAC (PutI.at hZ hz),zPB hne hg,<-zAC (PutI.at hZ hz)] at h2;refine ⟨?_,by simpa using h2⟩;rw [List.append_assoc];exact List.perm_middle.trans (h.perm.cons _)
theorem zIW {X Y:Zl} {U:List (List Int)} (h1:(X++Z.drop k).Perm Y) (h2:X.map Prod.snd++L.drop k=U) (hZ:Z.map Prod.snd=L) (hz:Z[k]? = some z):(X++[z]++Z.drop (k+1)).Perm Y∧(X++[z]).map Prod.snd++L.drop (k+1)=U:=by
 rw [zAC hz] at h1;rw [zAC (PutI.at hZ hz)] at h2;exact ⟨by simpa using h1,by simpa using h2⟩
theorem PutI.endT (h:PutI v L Z Zo Y k true) (hk:Z.length≤k) (hZ:Z.map Prod.snd=L):Zo.Perm Y∧Zo.map Prod.snd=putV v L:=by
 have h1:=h.perm;have h2:=h.txt;rw [List.drop_eq_nil_of_le hk] at h1;rw [if_pos rfl,List.drop_eq_nil_of_le (show L.length≤k by rw [<-hZ]; simpa using hk)] at h2;exact ⟨by simpa using h1,by simpa using h2⟩
theorem PutI.endF (h:PutI v L Z Zo Y k false) (hk:Z.length≤k) (hZ:Z.map Prod.snd=L) (r:Value):(Zo++[(r,v)]).Perm ((r,v)::Y)∧(Zo++[(r,v)]).map Prod.snd=putV v L:=by
 have h1:=h.perm;have h2:=h.txt;rw [List.drop_eq_nil_of_le hk,List.append_nil] at h1;rw [if_neg (by simp),List.drop_eq_nil_of_le (show L.length≤k by rw [<-hZ]; simpa using hk)] at h2;exact ⟨List.perm_append_comm.trans (h1.cons _),by simpa [putV] using h2⟩
end
theorem oneC {S:Nat→Prop} {w:World} {r:Value} {l:List Int} (h:RI S w r l):r.oneCell'=true:=by obtain ⟨_,_,rfl⟩:=h.form; rfl
theorem zBL {A:Nat→Prop} {w0 w w1:World} {Ps:List zAL} (h:HSx A w0 w Ps) (hw:w1=w.alloc (.cells #[] 25)):HSx A w0 w1 (Ps++[aV 25 (.slice (some ⟨w.heap.size,0,none⟩) 0 0) ([]:Zl).unzip.1]):=by
 subst hw;refine h.add ((Below.refl _ _).alloc (zQj _) _) (st_V _ _ _) (F:=fun b=>b=w.heap.size) ⟨?_,fun b hb=>by simpa [Value.ownBlock] using hb.symm⟩ (fun b hb=>by subst hb; exact ⟨zQj _,by simp⟩);exact World.ownsRow_lit (base:=0) (e:=25) (size:=1) w #[] 0 (Nat.zero_le _) (by unfold maxLen; omega) rfl
def PutC (F:Nat→Prop) (v:List Int) (L:List (List Int)) (w:World) (e:Ending) (w':World):Prop:=∃r,e=.returned r∧HSx F w w' [aF r (putV v L)]
theorem zFq {F S':Nat→Prop} {vl vv:Value} {L:List (List Int)} {v:List Int} {w:World} (h:FII F w vl L) (hF:∀b,F b→b<w.heap.size) (h':RI S' w vv v) (hll:∀x∈L,x.length≤16777216) (hl:L.length≤1048576) (hv:v.length≤16777216) :
  Calls Tryz.prog 64 #[vl,vv] w (PutC F v L w):=by
 have HRES:Hid (PutC F v L w=fun e w'=>∃r,e=.returned r∧HSx F w w' [aF r (putV v L)]):=zQe rfl;obtain ⟨Z,hZ,hs⟩:=(HSx.start (st_F vl L) h hF).openF 0 rfl;have hs:HSx F w w [aV 25 vl (Z.map Prod.fst),aRs Z]:=hs;have hlz:(Z.map Prod.fst).length=Z.length:=by simp
 obtain ⟨av,cv,rfl⟩:=h'.form;generalize hvn:v.length=nv at *;have HVN:=zQe hvn;clear hvn;have HZ:=zQe hZ;have HN:Hid (∀z∈Z,z.2.length≤16777216):=zQe (fun z hz=>hll z.2 (by rw [<-hZ]; exact List.mem_map_of_mem hz));have hzl:Z.length≤1048576:=by
  have:(Z.map Prod.snd).length=L.length:=by rw [hZ]
  simp at this; omega
 have HI0:Hid (PutI v L Z [] Z 0 false):=zQe (PutI.start hZ);have mixed:Tryz.prog.follows .mixedOrders=true:=by kernel_rfl
 obtain ⟨⟨a,cap,rfl⟩,hhead⟩:=hs.formV 0 rfl;rw [hlz] at hs hhead ⊢;generalize hn:Z.length=n at *;have HZL:=zQe hn;have HH:=zQe hhead;clear hn hZ hlz h hF hll hl hhead;go_enter Tryz.func64,Tryz.ntmps64
 go_wp2_with fail
 obtain ⟨w1,hw1⟩:∃w1,w1=w.alloc (.cells #[] 25):=⟨_,rfl⟩;have hs1:=zBL hs hw1;have hs1:HSx F w w1 [aV 25 (.slice a n cap) (Z.map Prod.fst),aRs Z,aV 25 (.slice (some ⟨w.heap.size,0,none⟩) 0 0) (([]:Zl).map Prod.fst)]:=hs1;have HO0:Hid (∀b,(Value.slice (some ⟨w.heap.size,0,none⟩) 0 0).ownBlock=some b→w.heap.size≤b):=zQe (fun b hb=>by simp [Value.ownBlock] at hb; omega);rw [<-hw1];clear hw1 hs;go_wp2_with fail
 go_loopw [5,6,7] (fun oo pp ii wr=>∃(k:Nat) (vo:Value) (pl:Bool) (Zo Y:Zl),vo=oo∧k≤n∧ii=.int .i64 k∧pp=.bool pl∧HSx F w wr [aV 25 (.slice a n cap) (Z.map Prod.fst),aRs Y,aV 25 vo (Zo.map Prod.fst)]∧Hid (PutI v L Z Zo Y k pl)∧Hid (∀b,vo.ownBlock=some b→w.heap.size≤b)) (fun _ _ ii _=>n-(intOf ii).toNat)
 case atStart=>exact ⟨0,_,false,[],Z,rfl,Nat.zero_le _,rfl,rfl,hs1,HI0,HO0⟩
 case round =>
  clear hs1;obtain ⟨k,vo,pl,Zo,Y,rfl,hk,rfl,rfl,hs,HI,HO⟩:=hrel;by_cases hkn:k<n
  ·have i1:(k:Int)<(n:Int):=by omega
   obtain ⟨z,hz⟩:∃z,Z[k]? = some z:=⟨Z[k]'(by rw [HZL.out]; exact hkn),zQf _⟩;obtain ⟨g,rfl⟩:∃g,a=some ⟨g,0,none⟩:=by
    obtain ⟨g,c9,e⟩:=HH.out (by omega);simp only [Value.slice.injEq] at e;exact ⟨g,e.1⟩
   have hcz:=(hs.cellV 0 rfl (j:=k) (r:=z.1) (by simp [hz])).1;have hrz:=hs.rowS 1 rfl (HI.out.mem hz);have hzn:=HN.out z (zQg hz);have HZK:=zQe hz;obtain ⟨rz,lz⟩:=z;have hrz:RI _ wr rz lz:=hrz;have hcz:wr.cell? ⟨g,k,none⟩=some rz:=hcz;have hzn:lz.length≤16777216:=hzn;obtain ⟨az,cz,rfl⟩:=hrz.form;generalize hln:lz.length=nz at *;have HLN:=zQe hln;clear hln;have hv2:=RI.below h' hs.bl;clear hz;go_wp2_with fail
   refine (zDo hrz hv2 (by rw [HLN.out]; exact hzn) (by rw [HVN.out]; exact hv)).mono ?_;rintro e w8 ⟨rfl,m8,rfl⟩;have hs:=hs.drewN m8;have hcz:=(hs.cellV 0 rfl (j:=k) (r:=.slice az nz cz) (by simp [HZK.out])).1;have hrz:=hs.rowS 1 rfl (HI.out.mem HZK.out);have hrz:RI _ _ (.slice az nz cz) lz:=hrz;have hv2:=hv2.drewN m8;generalize wr.drewN m8=w9 at *;have HZol:Hid ((Zo.map Prod.fst).length+1≤67108864):=zQe (by have:=HI.out.len; have:pl.toNat≤1:=Bool.toNat_le pl; simp; omega);have honez:(Value.slice az nz cz).oneCell'=true:=oneC hrz;cases hq:eqL lz v with
   | true =>
    have HI2:Hid (PutI v L Z Zo Y k true):=zQe (HI.out.found HZ.out HZK.out (zJ0 hq));clear hq;obtain ⟨w5,hw5⟩:∃w5,w5=(w9).alloc (.cells #[.slice az nz cz] 25):=⟨_,rfl⟩;have hs5:=hs.alloc (.cells #[.slice az nz cz] 25);rw [<-hw5] at hs5;have hc5:w5.cell? ⟨(w9).heap.size,0,none⟩=some (.slice az nz cz):=by rw [hw5]; go_simp
    have HW:=zQe hw5;have HST:=zQe (HI2.out.step HZ.out HZK.out);clear hw5 hs;go_wp2_with (at_builtin; go_must (rw [<-HW.out]; refine zAJ rfl _ _ rfl rfl hs5 2 rfl HO.out rfl hc5 honez HZol.out ?_))
    intro v6 w6 hs6 hn6;have hs6:HSx F w w6 [aV 25 (.slice (some ⟨g,0,none⟩) n cap) (Z.map Prod.fst),aRs Y,aV 25 v6 ((Zo++[(Value.slice az nz cz,lz)]).map Prod.fst)]:=by
     have e:(Zo++[(Value.slice az nz cz,lz)]).map Prod.fst=Zo.map Prod.fst++[Value.slice az nz cz]:=by simp
     rw [e]; exact hs6
    have HI3:Hid (PutI v L Z (Zo++[(Value.slice az nz cz,lz)]) Y (k+1) true):=zQe ⟨HST.out.1,HST.out.2,by have:=HI2.out.len; simp at *; omega⟩;have HO3:=zQe hn6;clear hs5;go_wp2_with fail
    go_roundw
    case rel=>exact ⟨k+1,v6,true,_,_,rfl,by omega,by go_num,rfl,hs6,HI3,HO3⟩
    case measure=>simp [intOf]; omega
   | false =>
    have HNE:Hid (lz≠v):=zQe (zLs hq);clear hq;cases pl with
    | true =>
     obtain ⟨w5,hw5⟩:∃w5,w5=(w9).alloc (.cells #[.slice az nz cz] 25):=⟨_,rfl⟩;have hs5:=hs.alloc (.cells #[.slice az nz cz] 25);rw [<-hw5] at hs5;have hc5:w5.cell? ⟨(w9).heap.size,0,none⟩=some (.slice az nz cz):=by rw [hw5]; go_simp
     have HW:=zQe hw5;have HST:=zQe (HI.out.step HZ.out HZK.out);clear hw5 hs;go_wp2_with (at_builtin; go_must (rw [<-HW.out]; refine zAJ rfl _ _ rfl rfl hs5 2 rfl HO.out rfl hc5 honez HZol.out ?_))
     intro v6 w6 hs6 hn6;have hs6:HSx F w w6 [aV 25 (.slice (some ⟨g,0,none⟩) n cap) (Z.map Prod.fst),aRs Y,aV 25 v6 ((Zo++[(Value.slice az nz cz,lz)]).map Prod.fst)]:=by
      have e:(Zo++[(Value.slice az nz cz,lz)]).map Prod.fst=Zo.map Prod.fst++[Value.slice az nz cz]:=by simp
      rw [e]; exact hs6
     have HI3:Hid (PutI v L Z (Zo++[(Value.slice az nz cz,lz)]) Y (k+1) true):=zQe ⟨HST.out.1,HST.out.2,by have:=HI.out.len; simp at *; omega⟩;have HO3:=zQe hn6;clear hs5;go_wp2_with fail
     go_roundw
     case rel=>exact ⟨k+1,v6,true,_,_,rfl,by omega,by go_num,rfl,hs6,HI3,HO3⟩
     case measure=>simp [intOf]; omega
    | false =>
     go_wp2_with fail
     refine (zJV hv2 hrz (by rw [HVN.out]; exact hv) (by rw [HLN.out]; exact hzn)).mono ?_;rintro e wg ⟨rfl,mg,rfl⟩;have hs:=hs.drewN mg;have hcz:=(hs.cellV 0 rfl (j:=k) (r:=.slice az nz cz) (by simp [HZK.out])).1;have hv2:=hv2.drewN mg;clear hrz;generalize w9.drewN mg=w10 at *;cases hg:gtL v lz with
     | false =>
      have HG:=zQe hg;clear hg;obtain ⟨w5,hw5⟩:∃w5,w5=(w10).alloc (.cells #[.slice az nz cz] 25):=⟨_,rfl⟩;have hs5:=hs.alloc (.cells #[.slice az nz cz] 25);rw [<-hw5] at hs5;have hc5:w5.cell? ⟨(w10).heap.size,0,none⟩=some (.slice az nz cz):=by rw [hw5]; go_simp
      have HW:=zQe hw5;have HST:=zQe (HI.out.stepF HZ.out HZK.out HNE.out HG.out);clear hw5 hs;go_wp2_with (at_builtin; go_must (rw [<-HW.out]; refine zAJ rfl _ _ rfl rfl hs5 2 rfl HO.out rfl hc5 honez HZol.out ?_))
      intro v6 w6 hs6 hn6;have hs6:HSx F w w6 [aV 25 (.slice (some ⟨g,0,none⟩) n cap) (Z.map Prod.fst),aRs Y,aV 25 v6 ((Zo++[(Value.slice az nz cz,lz)]).map Prod.fst)]:=by
       have e:(Zo++[(Value.slice az nz cz,lz)]).map Prod.fst=Zo.map Prod.fst++[Value.slice az nz cz]:=by simp
       rw [e]; exact hs6
      have HI3:Hid (PutI v L Z (Zo++[(Value.slice az nz cz,lz)]) Y (k+1) false):=zQe ⟨HST.out.1,HST.out.2,by have:=HI.out.len; simp at *; omega⟩;have HO3:=zQe hn6;clear hs5;go_wp2_with fail
      go_roundw
      case rel=>exact ⟨k+1,v6,false,_,_,rfl,by omega,by go_num,rfl,hs6,HI3,HO3⟩
      case measure=>simp [intOf]; omega
     | true =>
      have HG:=zQe hg;clear hg;go_wp2_with (at_builtin; go_must (refine zAE (W:=w10) rfl _ _ rfl rfl (FI.fresh0 w10) zAI rfl (hv2.below zAI) ?_ ?_))
      ·first | (simp; omega) | omega | (have:=HVN.out; simp; omega)
      ·intro vn wn fn bn _;have fn:FI _ wn vn v:=fn;obtain ⟨an,cn,en⟩:=fn.form;rw [HVN.out] at en;subst en;have hsn:=hs.addI bn fn;have hsn:HSx F w wn [aV 25 (.slice (some ⟨g,0,none⟩) n cap) (Z.map Prod.fst),aRs Y,aV 25 vo (Zo.map Prod.fst),aI (.slice an nv cn) v]:=hsn;obtain ⟨wm,hwm⟩:∃wm,wm=wn.alloc (.cells #[.slice an nv cn] 25):=⟨_,rfl⟩;have hsm:=hsn.alloc (.cells #[.slice an nv cn] 25);rw [<-hwm] at hsm;have hcm:wm.cell? ⟨wn.heap.size,0,none⟩=some (.slice an nv cn):=by rw [hwm]; go_simp
       have HWm:=zQe hwm;have honen:(Value.slice an nv cn).oneCell'=true:=oneC fn.reads;clear hwm hsn hs fn bn;go_wp2_with (at_builtin; go_must (rw [<-HWm.out]; refine zAJ rfl _ _ rfl rfl hsm 2 rfl HO.out rfl hcm honen HZol.out ?_))
       intro vi wi hsi hni;have hsj:=(hsi.moreS 1 3 (by decide) rfl rfl (List.Perm.refl _)).pick [0,1,2] (by decide);have hs:HSx F w wi [aV 25 (.slice (some ⟨g,0,none⟩) n cap) (Z.map Prod.fst),aRs ((Value.slice an nv cn,v)::Y),aV 25 vi ((Zo++[(Value.slice an nv cn,v)]).map Prod.fst)]:=by
        have e:(Zo++[(Value.slice an nv cn,v)]).map Prod.fst=Zo.map Prod.fst++[Value.slice an nv cn]:=by simp
        rw [e]; exact hsj
       have HI2:=zQe (HI.out.ins HZ.out HZK.out HNE.out HG.out (.slice an nv cn));have hcz:=(hs.cellV 0 rfl (j:=k) (r:=.slice az nz cz) (by simp [HZK.out])).1;have HO2:=zQe hni;have HL2:=zQe HI.out.len;have HZo2:Hid (((Zo++[(Value.slice an nv cn,v)]).map Prod.fst).length+1≤67108864):=zQe (by have:=HI.out.len; simp at *; omega);clear hsi hsj hsm hcm honen;obtain ⟨w5,hw5⟩:∃w5,w5=(wi).alloc (.cells #[.slice az nz cz] 25):=⟨_,rfl⟩;have hs5:=hs.alloc (.cells #[.slice az nz cz] 25);rw [<-hw5] at hs5;have hc5:w5.cell? ⟨(wi).heap.size,0,none⟩=some (.slice az nz cz):=by rw [hw5]; go_simp
       have HW:=zQe hw5;have HST:=zQe (zIW HI2.out.1 HI2.out.2 HZ.out HZK.out);clear hw5 hs;go_wp2_with (at_builtin; go_must (rw [<-HW.out]; refine zAJ rfl _ _ rfl rfl hs5 2 rfl HO2.out rfl hc5 honez HZo2.out ?_))
       intro v6 w6 hs6 hn6;have hs6:HSx F w w6 [aV 25 (.slice (some ⟨g,0,none⟩) n cap) (Z.map Prod.fst),aRs ((Value.slice an nv cn,v)::Y),aV 25 v6 (((Zo++[(Value.slice an nv cn,v)])++[(Value.slice az nz cz,lz)]).map Prod.fst)]:=by
        have e:((Zo++[(Value.slice an nv cn,v)])++[(Value.slice az nz cz,lz)]).map Prod.fst=Zo.map Prod.fst++[Value.slice an nv cn,Value.slice az nz cz]:=by simp
        rw [e]; exact hs6
       have HI3:Hid (PutI v L Z ((Zo++[(Value.slice an nv cn,v)])++[(Value.slice az nz cz,lz)]) ((Value.slice an nv cn,v)::Y) (k+1) true):=zQe ⟨HST.out.1,HST.out.2,by have:=HL2.out; simp at *; omega⟩;have HO3:=zQe hn6;clear hs5;go_wp2_with fail
       go_roundw
       case rel=>exact ⟨k+1,v6,true,_,_,rfl,by omega,by go_num,rfl,hs6,HI3,HO3⟩
       case measure=>simp [intOf]; omega
  ·have i1:¬(k:Int)<(n:Int):=by omega
   have hkz:Z.length≤k:=by rw [HZL.out]; omega
   have HKZ:=zQe hkz;have hv2:=RI.below h' hs.bl;clear hkz;cases pl with
   | true =>
    obtain ⟨e1,e2⟩:=HI.out.endT HKZ.out HZ.out;have hs2:=((((hs.permS 1 rfl e1).pick [2,1] (by decide)).shutF (Z:=Zo) (v:=vo) 0 1 (by decide) rfl rfl).pick [0] (by decide));have hs3:HSx F w wr [aF vo (Zo.map Prod.snd)]:=hs2;rw [e2] at hs3;clear hs hs2 e1 e2;go_wp2_with fail
    go_ret
    rw [HRES.out];exact ⟨_,rfl,hs3⟩
   | false =>
    have HZol:Hid ((Zo.map Prod.fst).length+1≤67108864):=zQe (by have:=HI.out.len; simp at *; omega);go_wp2_with (at_builtin; go_must (refine zAE (W:=wr) rfl _ _ rfl rfl (FI.fresh0 wr) zAI rfl (hv2.below zAI) ?_ ?_))
    ·first | (simp; omega) | omega | (have:=HVN.out; simp; omega)
    ·intro vn wn fn bn _;have fn:FI _ wn vn v:=fn;obtain ⟨an,cn,en⟩:=fn.form;rw [HVN.out] at en;subst en;have hsn:=hs.addI bn fn;have hsn:HSx F w wn [aV 25 (.slice a n cap) (Z.map Prod.fst),aRs Y,aV 25 vo (Zo.map Prod.fst),aI (.slice an nv cn) v]:=hsn;obtain ⟨wm,hwm⟩:∃wm,wm=wn.alloc (.cells #[.slice an nv cn] 25):=⟨_,rfl⟩;have hsm:=hsn.alloc (.cells #[.slice an nv cn] 25);rw [<-hwm] at hsm;have hcm:wm.cell? ⟨wn.heap.size,0,none⟩=some (.slice an nv cn):=by rw [hwm]; go_simp
     have HWm:=zQe hwm;have honen:(Value.slice an nv cn).oneCell'=true:=oneC fn.reads;clear hwm hsn hs fn bn;go_wp2_with (at_builtin; go_must (rw [<-HWm.out]; refine zAJ rfl _ _ rfl rfl hsm 2 rfl HO.out rfl hcm honen HZol.out ?_))
     intro vi wi hsi hni;obtain ⟨e1,e2⟩:=HI.out.endF HKZ.out HZ.out (.slice an nv cn);have hsj:=(hsi.moreS 1 3 (by decide) rfl rfl e1).pick [2,1] (by decide);have hsk:HSx F w wi [aV 25 vi ((Zo++[(Value.slice an nv cn,v)]).map Prod.fst),aRs (Zo++[(Value.slice an nv cn,v)])]:=by
      have e:(Zo++[(Value.slice an nv cn,v)]).map Prod.fst=Zo.map Prod.fst++[Value.slice an nv cn]:=by simp
      rw [e]; exact hsj
     have hs2:=(hsk.shutF 0 1 (by decide) rfl rfl).pick [0] (by decide);have hs3:HSx F w wi [aF vi ((Zo++[(Value.slice an nv cn,v)]).map Prod.snd)]:=hs2;rw [e2] at hs3;clear hsi hsj hsk hs2 e1 e2 hsm;go_wp2_with fail
     go_ret
     rw [HRES.out];exact ⟨_,rfl,hs3⟩
end Go.Proofs.YtiohpndgemonjaaGreat
