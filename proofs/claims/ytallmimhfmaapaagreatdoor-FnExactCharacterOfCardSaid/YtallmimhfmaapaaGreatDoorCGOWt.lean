/- The laws' own helpers over lists of weights with counts. Condition: sizes up to 2^24. -/
import Derived.Test.YtallmimhfmaapaaGreatDoorCGHeap
namespace Go.Proofs.YtallmimhfmaapaaGreatDoor
open Go.RowKit
set_option maxRecDepth 20000
set_option maxHeartbeats 8000000
abbrev Wtd:=List Int × Int
def RWtd (S:Nat→Prop) (w:World) (r r':Value) (x:Wtd):Prop:=RI S w r x.1∧r'=.int .i64 x.2
abbrev RW (S:Nat→Prop):=RL2 (some 52) S (RWtd S)
theorem RW.keep {S:Nat→Prop} {w w':World} {v:Value} {L:List Wtd} (h:RW S w v L) (hb:∀b,S b→b<w.heap.size→w'.heap[b]? = w.heap[b]?):RW S w' v L :=
 RL2.keep h hb (fun _ _ _ h=>⟨RI.keep h.1 hb,h.2⟩)
theorem RW.below {S:Nat→Prop} {w w':World} {v:Value} {L:List Wtd} (h:RW S w v L) (hb:Below w.heap.size w w'):RW S w' v L:=RW.keep h fun b _ hl=>hb.block b hl
theorem RW.any {S:Nat→Prop} {w:World} {v:Value} {L:List Wtd} (h:RW S w v L):RW Any w v L:=RL2.mono h (fun _ _=>trivial) (fun _ _ _ h=>⟨RI.any h.1,h.2⟩)
theorem RW.only {S S':Nat→Prop} {w w':World} {v:Value} {L:List Wtd} (h:RW S w v L) (k:Only S' w w') (hd:∀b,S b→¬S' b):RW S w' v L:=RW.keep h fun b hs _=>k.block b (hd b hs)
def zAF (L:List Wtd):Nat:=L.length+(L.map fun x=>x.1.length).sum
theorem zO1 {L:List Wtd} {k:Nat} {x:Wtd} (h:L[k]? = some x):((L.take (k+1)).map fun x=>x.1.length).sum=((L.take k).map fun x=>x.1.length).sum+x.1.length:=by
 rw [zAE h]; simp
theorem zK0 {L:List Wtd} {x:Wtd} (h:x∈L):L.length+x.1.length≤zAF L:=by
 unfold zAF;have:x.1.length≤(L.map fun x=>x.1.length).sum:=by
  induction L with
  | nil=>cases h
  | cons y L ih =>
   rcases List.mem_cons.1 h with rfl | h
   ·simp
   ·have:=ih h; simp; omega
 omega
abbrev zBB (L:List Wtd):List It:=L.flatMap fun x=>[.inl x.1,.inr x.2]
abbrev FW (S:Nat→Prop) (w:World) (v:Value) (L:List Wtd):Prop:=FC S 52 2 w v L.length (zBB L)
theorem zJr (L:List Wtd):(zBB L).length=L.length*2:=by
 induction L with
 | nil=>rfl
 | cons x L ih=>simp [zBB] at *; omega
theorem zEv (L:List Wtd):∀(j:Nat) (x:Wtd),L[j]? = some x→(zBB L)[j*2]? = some (.inl x.1)∧(zBB L)[j*2+1]? = some (.inr x.2):=by
 induction L with
 | nil=>intro j x h; simp at h
 | cons y L ih =>
  intro j x h;cases j with
  | zero=>simp at h; subst h; simp [zBB]
  | succ j =>
   simp at h;have:=ih j x h;rw [show (j+1)*2=j*2+1+1 by omega,show j*2+1+1+1=(j*2+1)+1+1 by omega];simpa [zBB] using this
theorem FW.read {S:Nat→Prop} {w:World} {v:Value} {L:List Wtd} (h:FW S w v L):RW S w v L:=by
 obtain ⟨vs,h1,h2,h3,h4,_⟩:=h;have hlen:=h1.1;rcases h1.2 with ⟨rfl,h0⟩ | ⟨g,cap,cur,hv,_,hg,hc⟩
 ·have:L=[]:=List.eq_nil_of_length_eq_zero h0;subst this;exact RL2.nil _ _ (by unfold maxLen; omega)
 ·subst hv;refine ⟨_,_,rfl,⟨hc.1,hc.2.1⟩,.inr ⟨g,0,rfl,h3 g rfl,⟨cur,(0,0),hg⟩,fun j x hx=>?_⟩⟩;have hj:j<L.length:=by
   rcases Nat.lt_or_ge j L.length with h | h
   ·exact h
   ·rw [List.getElem?_eq_none h] at hx; cases hx
  obtain ⟨i1,i2⟩:=zEv L j x hx;have k1:=h1.cellAt (j*2) (by omega);have k2:=h1.cellAt (j*2+1) (by omega);rw [zTZ (by omega)] at k1 k2;refine ⟨_,_,by rw [Nat.zero_add]; exact k1,by rw [Nat.zero_add]; exact k2,?_,?_⟩
  ·exact FI.reads (h4 (j*2) _ (.inl x.1) (by rw [zTZ (by omega)]) i1)
  ·exact h4 (j*2+1) _ (.inr x.2) (by rw [zTZ (by omega)]) i2
theorem FW.below {S:Nat→Prop} {w w':World} {v:Value} {L:List Wtd} (h:FW S w v L) (hb:Below w.heap.size w w'):FW S w' v L:=FC.below h hb
theorem FW.only {S S':Nat→Prop} {w w':World} {v:Value} {L:List Wtd} (h:FW S w v L) (k:Only S' w w') (hd:∀b,S b→¬S' b):FW S w' v L:=FC.only h k hd
theorem FW.any {S:Nat→Prop} {w:World} {v:Value} {L:List Wtd} (h:FW S w v L):RW Any w v L:=RW.any h.read
theorem zOG (L:List Wtd):∀(j:Nat) (l:List Int) (c:Int),((zBB L).set (j*2) (.inl l)).set (j*2+1) (.inr c)=zBB (L.set j (l,c)):=by
 induction L with
 | nil=>intro j l c; simp [zBB]
 | cons y L ih =>
  intro j l c;cases j with
  | zero=>simp [zBB]
  | succ j =>
   have:=ih j l c;rw [show (j+1)*2=j*2+1+1 by omega];simpa [zBB] using this
theorem zRR:(Tryz.prog.info? 52).map (fun i=>(i.zero,i.size,i.bytes))=some (some (.agg #[.slice none 0 0,.int .i64 0]),2,32):=by kernel_rfl
theorem zHC {S S':Nat→Prop} {r r':Value} {c:Int} {l:List Int} {w:World} (h:RI S w r l) (h':RI S' w r' l) (hl:l.length≤16777216) :
  Calls Tryz.prog 45 #[.agg #[r,.int .i64 c],.agg #[r',.int .i64 c]] w fun e w'=>e=.returned (.bool true)∧Below w.heap.size w w':=by
 obtain ⟨a,cap,rfl⟩:=h.form;obtain ⟨a',cap',rfl⟩:=h'.form;go_enter Tryz.func45,Tryz.ntmps45
 go_wp2_with fail
 refine (zEM (h.below (((Below.refl _ w).alloc (zTd _) _).alloc (by simp) _)) (h'.below (((Below.refl _ w).alloc (zTd _) _).alloc (by simp) _)) hl).mono ?_;rintro e w' ⟨rfl,m,rfl⟩;go_wp2_with fail
 go_ret
 exact ⟨rfl,below_drewN (((Below.refl _ w).alloc (zTd _) _).alloc (by simp) _) m⟩
theorem zCY {S S':Nat→Prop} {u v:Value} {L:List Wtd} {w:World} (h:RW S w u L) (h':RW S' w v L) (hl:zAF L≤16777216) :
  Calls Tryz.prog 15 #[u,v] w fun e w'=>e=.returned (.bool true)∧Below w.heap.size w w':=by
 obtain ⟨a,cap,rfl⟩:=h.form;obtain ⟨a',cap',rfl⟩:=h'.form;have hn0:L.length≤16777216:=by unfold zAF at hl; omega
 generalize hn:L.length=n at *;clear hn;go_enter Tryz.func15,Tryz.ntmps15
 go_wp2_with fail
 go_loopw [5] (fun i wr=>∃k:Nat,k≤n∧i=.int .i64 k∧Below w.heap.size w wr) (fun i _=>n-(intOf i).toNat)
 case atStart=>exact ⟨0,Nat.zero_le _,rfl,Below.refl _ _⟩
 case round =>
  obtain ⟨k,hk,rfl,hb⟩:=hrel;by_cases hlt:k<n
  ·obtain ⟨b,o,r,q,x,rfl,hc,hd,⟨hr,rfl⟩,hx⟩:=(h.below hb).at hlt;obtain ⟨b',o',r',q',x',rfl,hc',hd',⟨hr',rfl⟩,hx'⟩:=(h'.below hb).at hlt;have e:x'=x:=by have:=hx.out.symm.trans hx'.out; simpa using this.symm
   subst e;obtain ⟨l,c⟩:=x';have hll:l.length≤16777216:=by have:=zK0 (zTa hx.out); simp at this; omega
   have b1:(k:Int)<(n:Int):=by omega
   go_wp2_with fail
   go_still_tail 8,(by kernel_rfl)
   change wpList _ _ _ _ _ wr.drew;go_wp2_with fail
   refine (zHC hr.drew hr'.drew hll).mono ?_;rintro e w2 ⟨rfl,b2⟩;have hb2:Below w.heap.size w w2:=zAA.step hb.drew b2;go_wp2_with fail
   go_roundw
   case rel=>exact ⟨k+1,by omega,by go_num,hb2⟩
   case measure=>simp [intOf]; omega
  ·go_wp2_with fail
   go_ret
   exact ⟨rfl,hb⟩
theorem RW.old {S:Nat→Prop} {w:World} {v:Value} {L:List Wtd} (h:RW S w v L):RW (Bt 0 w.heap.size) w v L:=RL2.old h (fun _ _ _ h=>⟨RI.old h.1,h.2⟩)
def zCe (L:List Wtd):Nat:=zAF L
theorem zM2 (L:List Wtd):zCe L≤zAF L:=zTd _
def mkW:Nat→List Wtd→List Wtd
 | _,[]=>[]
 | k,x::L=>(zAi k x.1.length,((k+x.1.length:Nat):Int))::mkW (k+x.1.length+1) L
theorem zDv:∀(k:Nat) (L:List Wtd),(mkW k L).length=L.length
 | _,[]=>rfl
 | k,x::L=>by simp [mkW,zDv]
theorem zLO (x:Wtd) (L:List Wtd):zAF (x::L)=x.1.length+1+zAF L:=by unfold zAF; simp; omega
theorem zGU {L:List Wtd} {j:Nat} {x:Wtd} (h:L[j]? = some x):zAF (L.take (j+1))=zAF (L.take j)+x.1.length+1:=by
 unfold zAF;rw [zO1 h,zAE h];simp; omega
theorem zEf (L:List Wtd) (j:Nat):zAF (L.take j)≤zAF L:=by
 have h:zAF L=zAF (L.take j)+zAF (L.drop j):=by
  have:∀A B:List Wtd,zAF (A++B)=zAF A+zAF B:=fun A B=>by unfold zAF; simp; omega
  rw [<-this,List.take_append_drop]
 omega
theorem zJ1:∀(L:List Wtd) (k j:Nat) (x:Wtd),L[j]? = some x→(mkW k L)[j]? = some (zAi (k+zAF (L.take j)) x.1.length,((k+zAF (L.take j)+x.1.length:Nat):Int))
 | [],k,j,x,h=>by simp at h
 | y::L,k,0,x,h=>by
  simp at h; subst h;simp [mkW,zAF]
 | y::L,k,j+1,x,h=>by
  have:=zJ1 L (k+y.1.length+1) j x (by simpa using h);simp only [mkW,List.getElem?_cons_succ,List.take_succ_cons,zLO];rw [this,show k+y.1.length+1+zAF (L.take j)=k+(y.1.length+1+zAF (L.take j)) by omega]
def mkTo (k:Nat) (L:List Wtd) (j:Nat):List Wtd:=(mkW k L).take j++L.drop j
theorem zRZ {k:Nat} {L:List Wtd} {j:Nat} {x:Wtd} (h:L[j]? = some x):(mkTo k L j)[j]? = some x:=by
 have hj:=(zTb h).1;unfold mkTo;rw [List.getElem?_append_right (by simp [zDv]; omega),List.getElem?_drop];rw [show j+(j-((mkW k L).take j).length)=j by rw [List.length_take,zDv]; omega];exact h
theorem zON {k:Nat} {L:List Wtd} {j:Nat} {x:Wtd} (h:L[j]? = some x):(mkTo k L j).set j (zAi (k+zAF (L.take j)) x.1.length,((k+zAF (L.take j)+x.1.length:Nat):Int))=mkTo k L (j+1):=by
 have hj:=(zTb h).1;unfold mkTo;rw [List.set_append_right _ _ (by simp [zDv]; omega),zAE (zJ1 L k j x h),zAD h];have:j-((mkW k L).take j).length=0:=by rw [List.length_take,zDv]; omega
 rw [this,List.set_cons_zero];simp
theorem zHM {S:Nat→Prop} {v:Value} {L:List Wtd} {w:World} (h:FW S w v L) (k:Nat) (hl:zAF L+k≤16777216) :
  Calls Tryz.prog 18 #[v,.int .i64 k] w fun e w'=>e=.returned (.int .i64 ((k+zCe L:Nat):Int))∧FC S 52 2 w' v L.length (zBB (mkW k L))∧Only S w w':=by
 obtain ⟨a,cap,rfl,_⟩:=FC.form h;have hn0:L.length≤16777216:=by unfold zAF at hl; omega
 have hf0:FC S 52 2 w (.slice a L.length cap) L.length (zBB (mkTo k L 0)):=by
  have:mkTo k L 0=L:=by simp [mkTo]
  rw [this]; exact h
 have HTO:Hid (mkTo k L L.length=mkW k L):=zTY (by unfold mkTo; rw [List.take_of_length_le (by rw [zDv]; exact zTd _),List.drop_length,List.append_nil]);have HTL:Hid (zAF (L.take L.length)=zCe L):=zTY (by rw [List.take_length]; rfl);clear h;generalize hn:L.length=n at *;have H:=zTY hn;clear hn;go_enter Tryz.func18,Tryz.ntmps18
 go_wp2_with fail
 go_loopw [1,5] (fun q i wr=>∃j:Nat,j≤n∧i=.int .i64 j∧q=.int .i64 ((k+zAF (L.take j):Nat):Int)∧FC S 52 2 wr (.slice a n cap) n (zBB (mkTo k L j))∧Only S w wr) (fun _ i _=>n-(intOf i).toNat)
 case atStart=>exact ⟨0,Nat.zero_le _,rfl,by simp [zAF],hf0,Only.refl _ _⟩
 case round =>
  obtain ⟨j,hj,rfl,rfl,hf,ho⟩:=hrel;by_cases hlt:j<n
  ·obtain ⟨g,cap',hv,hg⟩:=hf.head (by omega);simp only [Value.slice.injEq] at hv;obtain ⟨rfl,_,rfl⟩:=hv;obtain ⟨⟨l,c⟩,hx⟩:∃x,L[j]? = some x:=⟨_,zTZ (by have:=H.out; omega)⟩;have hat:=zEv _ j (l,c) (zRZ (k:=k) hx);obtain ⟨r,hc,hr,_⟩:=hf.cell hat.1;have hr:FI S wr r l:=hr;have hle:=zEf L (j+1);have htt:=zGU hx;simp only at htt;have hb1:l.length+(k+zAF (L.take j))≤16777216:=by omega
   have HMS:Hid (∀w2,Only (fun b=>r.ownBlock=some b) wr w2→FI S w2 r (zAi (k+zAF (L.take j)) l.length)→FC S 52 2 w2 (.slice (some ⟨g,0,none⟩) n cap) n ((zBB (mkTo k L j)).set (j*2) (.inl (zAi (k+zAF (L.take j)) l.length)))):=zTY (fun w2 ho2 f2=>by
    refine FC.turned hf (by decide) hat.1 ?_ ho2 (fun _=>f2);obtain ⟨vs,g1,g2,_⟩:=hf;refine ⟨vs,g1,?_⟩;have h3:=g1.cellAt (j*2) (by omega);rw [hc] at h3;exact h3.symm)
   have HAT:=zTY hat.2;have HST:Hid (∀(l':List Int) (q:Int),((zBB (mkTo k L j)).set (j*2) (.inl l')).set (j*2+1) (.inr q)=zBB ((mkTo k L j).set j (l',q))):=zTY (fun l' q=>zOG _ _ _ _);have HSS:Hid ((mkTo k L j).set j (zAi (k+zAF (L.take j)) l.length,((k+zAF (L.take j)+l.length:Nat):Int))=mkTo k L (j+1)):=zTY (zON hx);have HTT:Hid (k+zAF (L.take j)+l.length+1=k+zAF (L.take (j+1))):=zTY (by omega);clear hat hx htt hle;generalize k+zAF (L.take j)=q at *;go_wp2_with fail
   refine (zD5 hr q hb1).mono ?_;rintro e w2 ⟨rfl,f2,o2⟩;have hf2:=HMS.out w2 o2 f2;have ho2:=ho.trans (o2.mono (fun b hb=>hr.2 b hb));have hat2:((zBB (mkTo k L j)).set (j*2) (.inl (zAi q l.length)))[j*2+1]? = some (.inr c):=by rw [List.getElem?_set_ne (by omega)]; exact HAT.out
   obtain ⟨y,hcy,_,hfz⟩:=hf2.cell hat2;have hst:=FC.stored hf2 (by decide) (q:=c) hat2 ((q+l.length:Nat):Int);rw [HST.out,HSS.out] at hst;have HF3:=zTY hst;have HO3:=zTY (ho2.setCell (j:=j*2+1) hg (.int .i64 ((q+l.length:Nat):Int)));clear hst hat2 hf hf2 hr f2 o2 hc ho;have hb3:q+l.length≤16777216:=by omega
   generalize hz:q+l.length=z at *;clear hz;go_wp2_with fail
   refine ⟨⟨j+1,by omega,by first | rfl | go_num,by rw [<-HTT.out]; rfl,HF3.out,HO3.out⟩,?_⟩;simp [intOf]; omega
  ·have hjn:j=n:=by omega
   subst hjn;rw [HTO.out] at hf;rw [HTL.out];go_wp2_with fail
   go_ret
   exact ⟨rfl,hf,ho⟩
theorem zED {S:Nat→Prop} {v:Value} {L:List Wtd} {w:World} {k:Nat} (h:FC S 52 2 w v L.length (zBB (mkW k L))) (hl:zAF L+k≤16777216) :
  Calls Tryz.prog 19 #[v,.int .i64 k] w fun e w'=>e=.returned (.int .i64 ((k+zCe L:Nat):Int))∧∃m,w'=w.drewN m:=by
 obtain ⟨a,cap,rfl,_⟩:=FC.form h;have hn0:L.length≤16777216:=by unfold zAF at hl; omega
 have HTL:Hid (zAF (L.take L.length)=zCe L):=zTY (by rw [List.take_length]; rfl);generalize hn:L.length=n at *;have H:=zTY hn;clear hn;go_enter Tryz.func19,Tryz.ntmps19
 go_wp2_with fail
 go_loopw [1,5] (fun q i wr=>∃j:Nat,j≤n∧i=.int .i64 j∧q=.int .i64 ((k+zAF (L.take j):Nat):Int)∧(∃m,wr=w.drewN m)) (fun _ i _=>n-(intOf i).toNat)
 case atStart=>exact ⟨0,Nat.zero_le _,rfl,by simp [zAF],dr0⟩
 case round =>
  obtain ⟨j,hj,rfl,rfl,m,hw⟩:=hrel;have h:FC S 52 2 wr (.slice a n cap) n (zBB (mkW k L)):=by rw [hw]; exact h.keep (fun _ _ _=>rfl)
  have HW:=zTY hw;clear hw;by_cases hlt:j<n
  ·obtain ⟨g,cap',hv,hg⟩:=h.head (by omega);simp only [Value.slice.injEq] at hv;obtain ⟨rfl,_,rfl⟩:=hv;obtain ⟨⟨l,c⟩,hx⟩:∃x,L[j]? = some x:=⟨_,zTZ (by have:=H.out; omega)⟩;have hat:=zEv _ j _ (zJ1 L k j (l,c) hx);obtain ⟨r,hc,hr,_⟩:=h.cell hat.1;obtain ⟨r',hc',hr',_⟩:=h.cell hat.2;have hr:=FI.any (show FI S wr r _ from hr);have hr':r'=.int .i64 ((k+zAF (L.take j)+l.length:Nat):Int):=hr';subst hr';have hle:=zEf L (j+1);have htt:=zGU hx;simp only at htt hr;have hb1:l.length+(k+zAF (L.take j))≤16777216:=by omega
   have HTT:Hid (k+zAF (L.take j)+l.length+1=k+zAF (L.take (j+1))):=zTY (by omega);clear hat hx htt hle;generalize k+zAF (L.take j)=q at *;go_wp2_with fail
   refine (zJk q l.length hr hb1).mono ?_;rintro e w2 ⟨rfl,m2,hw2⟩;have hc2:w2.cell? ⟨g,j*2+1,none⟩=some (.int .i64 ((q+l.length:Nat):Int)):=by rw [hw2]; exact hc'
   have HW2:=zTY hw2;have hb3:q+l.length≤16777216:=by omega
   clear hw2 hc hc' hr;generalize hz:q+l.length=z at *;clear hz;go_wp2_with fail
   refine ⟨⟨j+1,by omega,by first | rfl | go_num,by rw [<-HTT.out]; rfl,m+m2,by rw [HW2.out,HW.out]; simp⟩,?_⟩;simp [intOf]; omega
  ·have hjn:j=n:=by omega
   subst hjn;rw [HTL.out];go_wp2_with fail
   go_ret
   exact ⟨rfl,m,HW.out⟩
theorem zM9 {B:Nat} {w:World} {e:TypeId} {s n:Nat} {v:Value} {xs:List Value} (h:w.ownsRow B e s v n xs):(v=.slice none 0 0∧n=0)∨∃g cap,v=.slice (some ⟨g,0,none⟩) n cap:=by
 rcases h.2 with h | ⟨g,cap,cur,hv,_⟩
 ·exact .inl h
 ·exact .inr ⟨g,cap,hv⟩
theorem zIj {B:Nat} {w:World} {e:TypeId} {s n g cap:Nat} {xs:List Value} (h:w.ownsRow B e s (.slice (some ⟨g,0,none⟩) n cap) n xs):n≤cap∧cap≤maxLen:=by
 rcases h.2 with ⟨h',_⟩ | ⟨g',cap',cur,h',_,_,h1,h2,_⟩
 ·cases h'
 ·cases h';exact ⟨h1,h2⟩
abbrev El2:=List (Value × Wtd)
def zBD (E:El2):List Value:=E.flatMap fun e=>[e.1,.int .i64 e.2.2]
theorem zMk (E M:El2):zBD (E++M)=zBD E++zBD M:=by unfold zBD; rw [List.flatMap_append]
theorem zG2:∀E:El2,(zBD E).length=E.length*2
 | []=>rfl
 | e::E=>by
  have:=zG2 E;unfold zBD at *;simp only [List.flatMap_cons,List.length_append,List.length_cons,List.length_nil];omega
theorem zIN:∀{E:El2} {j:Nat} {e:Value × Wtd},E[j]? = some e→(zBD E)[j*2]? = some e.1∧(zBD E)[j*2+1]? = some (.int .i64 e.2.2)
 | [],_,_,h=>by simp at h
 | a::E,0,e,h=>by simp at h; subst h; simp [zBD]
 | a::E,j+1,e,h=>by
  have:=zIN (E:=E) (j:=j) (by simpa using h);rw [show (j+1)*2=j*2+1+1 by omega,show j*2+1+1+1=(j*2+1)+1+1 by omega];simpa [zBD] using this
theorem zDh:∀{E:El2} {j:Nat} {u:Value},(zBD E)[j]? = some u→∃e,E[j / 2]? = some e∧u=if j % 2=0 then e.1 else .int .i64 e.2.2
 | [],j,u,h=>by simp [zBD] at h
 | e::E,0,u,h=>⟨e,rfl,by simp [zBD] at h; simp [h]⟩
 | e::E,1,u,h=>⟨e,rfl,by simp [zBD] at h; simp [h]⟩
 | e::E,j+2,u,h=>by
  obtain ⟨f,h1,h2⟩:=zDh (E:=E) (j:=j) (by simpa [zBD] using h);exact ⟨f,by rw [show (j+2) / 2=j / 2+1 by omega]; simpa using h1,by rw [show (j+2) % 2=j % 2 by omega]; exact h2⟩
abbrev aW2 (v:Value) (E:El2):zAG:=fun F w=>w.ownsRow 0 52 2 v E.length (zBD E)∧∀b,v.ownBlock=some b→F b
theorem zQk (v:Value) (E:El2):zAg (aW2 v E):=fun _ _ _ h k=>⟨zA2 h.1 fun b hb=>k b (h.2 b hb) (h.1.lt b hb).2,h.2⟩
abbrev aFW (v:Value) (L:List Wtd):zAG:=fun F w=>FW F w v L
theorem zNK (v:Value) (L:List Wtd):zAg (aFW v L):=fun _ _ _ h k=>FC.keep h k
section
variable {A:Nat→Prop} {w0 w w1:World} {Ps:List zAG}
theorem HSx.freshW2 (h:HSx A w0 w Ps) (hw:w1=w.alloc (.cells #[] 52)):HSx A w0 w1 (Ps++[aW2 (.slice (some ⟨w.heap.size,0,none⟩) 0 0) []]):=by
 subst hw;refine h.add ((Below.refl _ _).alloc (zTd _) _) (zQk _ _) (F:=fun b=>b=w.heap.size) ⟨?_,fun b hb=>by simpa [Value.ownBlock] using hb.symm⟩ (fun b hb=>by subst hb; exact ⟨zTd _,by simp⟩);exact World.ownsRow_lit (base:=0) (e:=52) (size:=2) w #[] 0 (Nat.zero_le _) (by unfold maxLen; omega) rfl
theorem HSx.readW2 {v:Value} {E:El2} {Z:Zl} (h:HSx A w0 w Ps) (i j:Nat) (hi:Ps[i]? = some (aW2 v E)) (hj:Ps[j]? = some (aRr Z)) (hE:∀e∈E,(e.1,e.2.1)∈Z):RW Any w v (E.map Prod.snd):=by
 obtain ⟨F,hF,_⟩:=h.get i hi;obtain ⟨G,hG,_⟩:=h.get j hj;have h1:=hF.1;rcases zM9 h1 with ⟨rfl,h0⟩ | ⟨g,cap,rfl⟩
 ·have:=List.eq_nil_of_length_eq_zero h0;subst this;exact RL2.nil _ _ (by unfold maxLen; omega)
 ·obtain ⟨cur,ht⟩:=zAo h1 (b:=g) rfl;refine ⟨_,cap,by rw [List.length_map],by rw [List.length_map]; exact zIj h1,.inr ⟨g,0,rfl,trivial,⟨cur,(0,0),ht⟩,fun m x hx=>?_⟩⟩;rw [List.getElem?_map] at hx;obtain ⟨e,he,rfl⟩:=Option.map_eq_some_iff.1 hx;have hm:=(zTb he).1;obtain ⟨c1,c2⟩:=zIN he;exact ⟨e.1,.int .i64 e.2.2,by rw [Nat.zero_add,h1.cellAt (m*2) (by omega)]; exact c1,by rw [Nat.zero_add,h1.cellAt (m*2+1) (by omega)]; exact c2,(hG _ (hE e (zTa he))).any,rfl⟩
theorem HSx.shutW2 {v:Value} {E:El2} (h:HSx A w0 w Ps) (i j:Nat) (hij:i≠j) (hi:Ps[i]? = some (aW2 v E)) (hj:Ps[j]? = some (aRs (E.map fun e=>(e.1,e.2.1)))) :
  HSx A w0 w ((Ps.set i (aFW v (E.map Prod.snd))).set j zBd):=by
 refine h.join i j hij hi hj (zNK _ _) fun F G hF hG hd=>⟨zBD E,by have:=hF.1; simpa using this,by rw [zG2,zJr]; simp,fun b hb=>.inl (hF.2 b hb),fun m r x hr hx=>?_,fun m k r r' b hmk hr hr' hb=>?_⟩
 ·obtain ⟨e,he,rfl⟩:=zDh hr;obtain ⟨i1,i2⟩:=zEv (E.map Prod.snd) (m / 2) e.2 (by rw [List.getElem?_map,he]; rfl);by_cases hp:m % 2=0
  ·rw [show m / 2*2=m by omega] at i1;rw [i1] at hx;cases hx;rw [if_pos hp];exact FI.mono (hG.1 (e.1,e.2.1) (List.mem_map.2 ⟨e,zTa he,rfl⟩)) (fun b hb=>.inr hb)
  ·rw [show m / 2*2+1=m by omega] at i2;rw [i2] at hx;cases hx;rw [if_neg hp];exact rfl
 ·obtain ⟨e,he,rfl⟩:=zDh hr;obtain ⟨e',he',rfl⟩:=zDh hr';have hp:m % 2=0:=by
   by_cases hp:m % 2=0
   ·exact hp
   ·rw [if_neg hp] at hb; simp [Value.ownBlock] at hb
  rw [if_pos hp] at hb;by_cases hp':k % 2=0
  ·rw [if_pos hp'];have hne:m / 2≠k / 2:=by omega
   have hA:=hG.2;rw [List.map_map] at hA;have g1:(E.map (Prod.fst ∘ fun e:Value × Wtd=>(e.1,e.2.1)))[m / 2]? = some e.1:=by rw [List.getElem?_map,he]; rfl
   have g2:(E.map (Prod.fst ∘ fun e:Value × Wtd=>(e.1,e.2.1)))[k / 2]? = some e'.1:=by rw [List.getElem?_map,he']; rfl
   obtain ⟨l1,q1⟩:=zTb g1;obtain ⟨l2,q2⟩:=zTb g2;rcases Nat.lt_or_gt_of_ne hne with hlt | hlt
   ·have:=List.pairwise_iff_getElem.1 hA _ _ l1 l2 hlt;rw [q1,q2] at this;exact this b hb
   ·have:=List.pairwise_iff_getElem.1 hA _ _ l2 l1 hlt;rw [q1,q2] at this;exact this.symm b hb
  ·rw [if_neg hp']; simp [Value.ownBlock]
end
section
variable {w:World} {ops:Array Oper} {rest:List Oper} {o:Oper} {a:Act} {Q:Exit→Act→World→Prop}
theorem zSf {A:Nat→Prop} {W:World} {K:Act→World→Prop} {Ps:List zAG} (s x:Operand)
  (ho:o.op=.call { callee:=.builtin .append,args:=#[s,x],argTypes:=#[32,32] })
  {v r:Value} {E:El2} (l:List Int) {q:Int} (hs:a.eval s=v) (h:HSx A W w Ps) (i:Nat) (hi:Ps[i]? = some (aW2 v E)) (hnew:∀b,v.ownBlock=some b→W.heap.size≤b)
  {H:Nat} (hx:a.eval x=.slice (some ⟨H,0,none⟩) 1 1) (hc:w.cell? ⟨H,0,none⟩=some r) (hc2:w.cell? ⟨H,1,none⟩=some (.int .i64 q)) (h1:r.oneCell'=true) (hlen:E.length+1≤67108864)
  (k:∀v' w',HSx A W w' (Ps.set i (aW2 v' (E++[(r,(l,q))])))→(∀b,v'.ownBlock=some b→W.heap.size≤b)→K (a.put o.dst v') w'):o.wp Tryz.prog a w K Q:=by
 obtain ⟨F0,hf,_⟩:=HSx.get h i hi;refine zC8 s x Tryz.underlying32 zRR rfl (by decide) ho (base:=0) (news:=[r,.int .i64 q]) hs hf.1 (Nat.zero_le _) hx rfl ?_ (by intro u hu; simp at hu; rcases hu with rfl | rfl; exact h1; rfl) (by omega) (by decide) ?_
 ·intro j u hj
  match j,hj with
  | 0,hj=>simp at hj; subst hj; simpa [Addr.add] using hc
  | 1,hj=>simp at hj; subst hj; simpa [Addr.add] using hc2
 ·intro v' w' h2 h3 h4;refine k v' w' (h.upd i hi (zQk _ _) (zA1 h.bl h3 hnew) h3.size fun F hF _=>⟨fun b=>v'.ownBlock=some b,⟨?_,fun b hb=>hb⟩,fun b hb=>?_,fun b hl hb=>h3.block b hl (fun e=>hb (hF.2 b e.symm))⟩) (fun b hb=>?_)
  ·rw [List.length_append,zMk]; exact h2
  ·rcases h4 b hb with e | e
   ·exact .inl (hF.2 b e)
   ·exact .inr ⟨e,(h2.lt b hb).2⟩
  ·rcases h4 b hb with e | e
   ·exact hnew b e
   ·exact Nat.le_trans h.bl.size e
theorem zCT {A:Nat→Prop} {W:World} {Ps:List zAG} (hgd:o.guard=none) (s x:Operand)
  (ho:o.op=.call { callee:=.builtin .append,args:=#[s,x],argTypes:=#[32,32] })
  {v r:Value} {E:El2} (l:List Int) {q:Int} (hs:a.eval s=v) (h:HSx A W w Ps) (i:Nat) (hi:Ps[i]? = some (aW2 v E)) (hnew:∀b,v.ownBlock=some b→W.heap.size≤b)
  {H:Nat} (hx:a.eval x=.slice (some ⟨H,0,none⟩) 1 1) (hc:w.cell? ⟨H,0,none⟩=some r) (hc2:w.cell? ⟨H,1,none⟩=some (.int .i64 q)) (h1:r.oneCell'=true) (hlen:E.length+1≤67108864)
  (k:∀v' w',HSx A W w' (Ps.set i (aW2 v' (E++[(r,(l,q))])))→(∀b,v'.ownBlock=some b→W.heap.size≤b)→wpList Tryz.prog ops Q rest (a.put o.dst v') w'):wpList Tryz.prog ops Q (o::rest) a w :=
 wpList_plain hgd fun _ hK=>zSf s x ho l hs h i hi hnew hx hc hc2 h1 hlen fun v' w' h2 h3=>hK _ _ (k v' w' h2 h3)
end
theorem HS.newW2 {w0 w:World} {Ps:List zAG} {v:Value} {E:El2} (h:HS w0 w Ps) (i:Nat) (hi:Ps[i]? = some (aW2 v E)):∀b,v.ownBlock=some b→w0.heap.size≤b:=by
 obtain ⟨F,hF,hn⟩:=h.get i hi;exact fun b hb=>(hn b (hF.2 b hb)).1
theorem HS.FW {w0 w:World} {Ps:List zAG} {v:Value} {L:List Wtd} (h:HS w0 w Ps) (i:Nat) (hi:Ps[i]? = some (aFW v L)):FW (New w0 w) w v L:=let ⟨_,h1,h2⟩:=h.get i hi; FC.mono h1 h2
end Go.Proofs.YtallmimhfmaapaaGreatDoor
