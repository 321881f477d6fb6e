/- What came in as data reads as lists: numbers, lists of numbers, pairs. No condition. -/
import Derived.Test.YtallmimhfmaapaaGreatDoorCGBase
import Derived.ProofKit
import Derived.OpenShut
import Derived.ShutString
import Derived.ChangeOld
import Derived.Deep.SlicePairs
namespace Go.Proofs.YtallmimhfmaapaaGreatDoor
open Go.ChangeShapes Go.WideShapes Go.ChangeAt Go.RowKit Go.Deep
theorem own:ownKnob Tryz.prog.godebug=none:=by kernel_rfl
theorem zF3:laidOutB Tryz.prog=true:=by kernel_rfl
abbrev I64 (n:Int):Prop:=(Lit.int .i64 n).wf=true
def zMc (_:World) (r:Value) (n:Int):Prop:=r=.int .i64 n∧I64 n
abbrev RIW:=RL none Any zMc
abbrev RIIW:=RL none Any RIW
section
variable {H:Type} {enc:TypeId × Value→H} {w:World}
theorem zL5 {α:Type} [Inhabited α] {R:World→Value→α→Prop} {t e:TypeId} {v:Value} {d:DataW H} {p:List MemPlace}
  (ht:Tryz.prog.underlying t=some (.slice e)) (hc:Tryz.prog.cellsOf e=1) (hv:∃a n c,v=.slice a n c)
  (hR:∀(n:Nat) (r:Value) (x:DataW H × List MemPlace),DataW.trod enc Tryz.prog w 0 (fun _=>true) true n e [r]=some x→∃y,R w r y)
  (h:DataW.Trod enc Tryz.prog w 0 (fun _=>true) true t v d p):∃L:List α,RL none Any R w v L:=by
 obtain ⟨fuel,hf⟩:=h;obtain ⟨a0,n0,c0,rfl⟩:=hv;rcases open_slice1 ht hc hf with ⟨hcs,_⟩ | ⟨a,len,cap,m,n,V,D,Pl,hcs,_,hl,hm,hmm,_,hx⟩
 ·simp [Value.cells] at hcs;obtain ⟨rfl,rfl,rfl⟩:=hcs;exact ⟨[],RL.nil _ _ (by unfold maxLen; omega)⟩
 ·simp [Value.cells] at hcs;obtain ⟨rfl,rfl,rfl⟩:=hcs;have hlm:n0≤m:=by rw [hmm]; simpa using hl
  obtain ⟨Y,hY⟩:=choose_lt (α:=α) (p:=fun i y=>R w (V i) y) (fun i (hi:i<m)=>hR _ _ _ (hx i hi).2);refine ⟨(List.range n0).map Y,a,c0,by simp,⟨by simpa using hl,hm⟩,?_⟩;by_cases h0:n0=0
  ·left; simp [h0]
  ·right;obtain ⟨b,o,spot⟩:=a;have hspot:spot=none:=by simpa [Addr.add] using World.cell?_spot (hx 0 (by omega)).1
   subst hspot;refine ⟨b,o,rfl,trivial,trivial,fun j x hj=>?_⟩;have hjn:j<n0:=by
    rcases Nat.lt_or_ge j n0 with h | h
    ·exact h
    ·rw [List.getElem?_eq_none (by simpa using h)] at hj; cases hj
   refine ⟨V j,?_,?_⟩
   ·have:=(hx j (by omega)).1;rwa [add_plain] at this
   ·have:=hY j (by omega);simp [hjn] at hj;rwa [hj] at this
theorem zI4 (n:Nat) (r:Value) (x:DataW H × List MemPlace) (h:DataW.trod enc Tryz.prog w 0 (fun _=>true) true n 3 [r]=some x):∃y,zMc w r y:=by
 obtain ⟨y,h,_,hw⟩:=DataW.trod_int Tryz.underlying3 h;simp at h;exact ⟨y,h,hw⟩
theorem zHh {t e:TypeId} (ht:Tryz.prog.underlying t=some (.slice e)) (n:Nat) (r:Value) (x:DataW H × List MemPlace) (h:DataW.trod enc Tryz.prog w 0 (fun _=>true) true n t [r]=some x):∃a n c,r=.slice a n c:=by
 rcases DataW.trod_slice ht h with ⟨h0,_⟩ | ⟨a,len,cap,elems,rest,n,_,h0,_⟩
 ·simp at h0; exact ⟨_,_,_,h0⟩
 ·simp at h0; exact ⟨_,_,_,h0⟩
theorem zSZ {t:TypeId} {n:Nat} {r:Value} {x:DataW H × List MemPlace} (hr:∃a n c,r=.slice a n c) (h:DataW.trod enc Tryz.prog w 0 (fun _=>true) true n t [r]=some x) :
  DataW.Trod enc Tryz.prog w 0 (fun _=>true) true t r x.1 x.2:=by
 obtain ⟨a,m,c,rfl⟩:=hr;exact ⟨n,by simpa [Value.cells] using h⟩
theorem zEc {v:Value} {d:DataW H} {p:List MemPlace} (hv:∃a n c,v=.slice a n c) (h:DataW.Trod enc Tryz.prog w 0 (fun _=>true) true 23 v d p):∃L:List Int,RIW w v L :=
 zL5 (R:=zMc) Tryz.underlying23 (by kernel_rfl) hv zI4 h
theorem zH1 (n:Nat) (r:Value) (x:DataW H × List MemPlace) (h:DataW.trod enc Tryz.prog w 0 (fun _=>true) true n 23 [r]=some x):∃y,RIW w r y :=
 zEc (zHh Tryz.underlying23 n r x h) (zSZ (zHh Tryz.underlying23 n r x h) h)
theorem zH2 {v:Value} {d:DataW H} {p:List MemPlace} (hv:∃a n c,v=.slice a n c) (h:DataW.Trod enc Tryz.prog w 0 (fun _=>true) true 22 v d p):∃L:List (List Int),RIIW w v L :=
 zL5 (R:=RIW) Tryz.underlying22 (by kernel_rfl) hv zH1 h
end
theorem RIW.plain {w:World} {v:Value} {L:List Int} (h:RIW w v L):RI0 w v L:=RL.mono h (fun _ h=>h) (fun _ _ h=>h.1)
theorem RIW.wf {w:World} {v:Value} {L:List Int} (h:RIW w v L):∀x∈L,I64 x:=by
 intro x hx;obtain ⟨a,cap,_,_,h⟩:=h;rcases h with h | ⟨b,o,_,_,_,h⟩
 ·subst h; cases hx
 ·obtain ⟨j,hj⟩:=List.getElem?_of_mem hx;obtain ⟨_,_,h2⟩:=h j x hj;exact h2.2
theorem RIIW.plain {w:World} {v:Value} {L:List (List Int)} (h:RIIW w v L):RII0 w v L:=RL.mono h (fun _ h=>h) (fun _ _ h=>RIW.plain h)
theorem RIIW.wf {w:World} {v:Value} {L:List (List Int)} (h:RIIW w v L):∀l∈L,∀x∈l,I64 x:=by
 intro l hl;obtain ⟨a,cap,_,_,h⟩:=h;rcases h with h | ⟨b,o,_,_,_,h⟩
 ·subst h; cases hl
 ·obtain ⟨j,hj⟩:=List.getElem?_of_mem hl;obtain ⟨_,_,h2⟩:=h j l hj;exact RIW.wf h2
end Go.Proofs.YtallmimhfmaapaaGreatDoor
namespace Go.Proofs.YtallmimhfmaapaaGreatDoor
open Go.RowKit
set_option maxRecDepth 20000
set_option maxHeartbeats 8000000
def zBZ (n:Nat):List It:=List.replicate n (.inl [])
def zAC (L:List (List Int)):Nat:=L.length+(L.map List.length).sum
theorem zKo {f:List Int→Nat} {L:List (List Int)} {k:Nat} {l:List Int} (h:L[k]? = some l):((L.take (k+1)).map f).sum=((L.take k).map f).sum+f l:=by
 rw [zAE h]; simp
theorem zLM {f:List Int→Nat} (L:List (List Int)) (k:Nat):((L.take k).map f).sum≤(L.map f).sum:=by
 conv=>rhs; rw [<-List.take_append_drop k L]
 rw [List.map_append,List.sum_append];omega
theorem zKX {L:List (List Int)} {l:List Int} (h:l∈L):L.length+l.length≤zAC L:=by
 unfold zAC;have:l.length≤(L.map List.length).sum:=by
  induction L with
  | nil=>cases h
  | cons x L ih =>
   rcases List.mem_cons.1 h with rfl | h
   ·simp
   ·have:=ih h; simp; omega
 omega
theorem zLN {v:Value} {L:List (List Int)} {w:World} (h:RII0 w v L) (q:Int) (h0:0≤q) (h1:q≤1048576) :
  Calls Tryz.prog 6 #[v,.int .i64 q] w fun e w'=>(∃r:Int,e=.returned (.int .i64 r)∧(r<0∨(0≤r∧r+zAC L=q)))∧w=w':=by
 obtain ⟨a,cap,rfl⟩:=h.form;have hs:=h.small;unfold maxLen at hs;generalize hn:L.length=n at *;have H:=zTY hn;clear hn;by_cases hlt:q<n
 ·go_enter Tryz.func6,Tryz.ntmps6
  go_wp2_with fail
  go_ret
  exact ⟨⟨_,rfl,.inl (by omega)⟩,rfl⟩
 ·go_enter Tryz.func6,Tryz.ntmps6
  go_wp2_with fail
  go_loop [1,5] (fun r i=>∃(k:Nat) (t:Int),k≤n∧i=.int .i64 k∧r=.int .i64 t∧0≤t∧t≤1048576∧Hid (t+(n+((L.take k).map List.length).sum:Nat)=q)) (fun _ i=>n-(intOf i).toNat)
  case atStart=>exact ⟨0,_,Nat.zero_le _,rfl,rfl,by omega,by omega,zTY (by simp)⟩
  case round =>
   obtain ⟨k,t,hk,rfl,rfl,ht0,ht1,HT⟩:=hrel;by_cases hk':k<n
   ·obtain ⟨b,o,r,l,rfl,hc,hr,hx⟩:=h.at hk';go_wp2_with fail
    refine (zNO hr t ht0 ht1).mono ?_;rintro e w' ⟨rfl,rfl⟩;by_cases hn:t<l.length
    ·rw [szI,if_pos hn];go_wp2_with fail
     go_ret
     exact ⟨⟨_,rfl,.inl (by omega)⟩,rfl⟩
    ·rw [szI,if_neg hn];have g1:0≤t-(l.length:Int):=by omega
     have g2:t-(l.length:Int)≤1048576:=by omega
     have HT2:Hid (t-(l.length:Int)+(n+((L.take (k+1)).map List.length).sum:Nat)=q):=by
      refine zTY ?_;have:=HT.out;rw [zKo hx.out];omega
     generalize t-(l.length:Int)=t' at *;go_wp2_with fail
     go_round
     case rel=>exact ⟨k+1,t',by omega,by go_num,rfl,by omega,by omega,HT2⟩
     case measure=>simp [intOf]; omega
   ·go_wp2_with fail
    go_ret
    refine ⟨⟨t,rfl,.inr ⟨ht0,?_⟩⟩,rfl⟩;have:=HT.out;have e:=H.out;rw [List.take_of_length_le (by omega)] at this;unfold zAC;omega
theorem zDH {v:Value} {L:List (List Int)} {w:World} (h:RII0 w v L) (hl:zAC L≤16777216) :
  Calls Tryz.prog 8 #[v] w fun e w'=>∃u,e=.returned u∧FII (New w w') w' u L∧Below w.heap.size w w':=by
 obtain ⟨a,cap,rfl⟩:=h.form;obtain ⟨i0,hi,hz0,hz1,hz2⟩:=info_parts zCB;have hn0:L.length≤16777216:=by unfold zAC at hl; omega
 generalize hn:L.length=n at *;have H:Hid (L.length=n):=zTY hn;clear hn;go_enter Tryz.func8,Tryz.ntmps8
 go_wp2_with (at_make; refine wpList_make_full _ rfl _ _ 22 rfl w.heap.size 23 i0 (.slice none 0 0) 1 Tryz.underlying22 hi hz0 hz1 _ _ _ _ n rfl rfl rfl rfl ?hb ?hm ?hs ?_)
 case hb=>rw [hz2]; omega
 case hm=>unfold maxLen; omega
 case hs=>exact zTd _
 intro w1 hown hgr;have hb1:Below w.heap.size w w1:=(Below.refl _ w).grown hgr (zTd _) (by simp);have hf0:FC (New w w1) 23 1 w1 (.slice (some ⟨w.heap.size,0,none⟩) n n) n (zBZ n):=by
  simp only [toList_madeCells_one] at hown;refine FC.of_row hown (zTd _) (by simp [zBZ]) (fun j r x hr hx=>?_);have hj:j<n:=by
   rcases Nat.lt_or_ge j n with h | h
   ·exact h
   ·rw [List.getElem?_eq_none (by simpa using h)] at hr; cases hr
  simp [hj,zBZ] at hr hx;subst hr; subst hx;exact ⟨⟨World.ownsRow_nil _ _ _ _,fun b hb=>(by cases hb)⟩,rfl⟩
 clear hgr hi hz0 hz1 hz2 hown;go_wp2_with fail
 go_loopw [4] (fun i wr=>∃k:Nat,k≤n∧i=.int .i64 k∧FC (New w wr) 23 1 wr (.slice (some ⟨w.heap.size,0,none⟩) n n) n (zAc (L.take k)++zBZ (n-k))∧Below w.heap.size w wr)
  (fun i _=>n-(intOf i).toNat)
 case atStart=>exact ⟨0,Nat.zero_le _,rfl,by simpa [zAc] using hf0,hb1⟩
 case round =>
  obtain ⟨k,hk,rfl,hf,hb⟩:=hrel;by_cases hlt:k<n
  ·obtain ⟨b,o,r,l,rfl,hc,hr,hx⟩:=(h.below hb).at hlt;have hll:l.length≤16777216:=by have:=zKX (zTa hx.out); omega
   go_wp2_with fail
   refine (zCm hr hll).mono ?_;rintro e w2 ⟨u,rfl,f,b2⟩;obtain ⟨ua,uc,rfl⟩:=f.form;have hf2:=hf.below b2;have hlen:(zAc (L.take k)).length=k:=by have:=H.out; simp; omega
   have hat:(zAc (L.take k)++zBZ (n-k))[k]? = some (.inl []):=by
    rw [List.getElem?_append_right (by rw [hlen]; exact zTd _),hlen]; simp [zBZ,List.getElem?_replicate]; omega
   obtain ⟨y,hcy,_,hfz⟩:=hf2.cell hat;have hput:Hid (FC (New w w2) 23 1 (w2.setCell ⟨w.heap.size,k,none⟩ (.slice ua l.length uc)) (.slice (some ⟨w.heap.size,0,none⟩) n n) n (zAc (L.take (k+1))++zBZ (n-(k+1)))):=by
    refine zTY ?_;have hsz:=b2.size;have hsz':=hb.size;have p:=FC.put (hf2.mono (S':=New w w2) (fun b hb=>⟨hb.1,by have:=hb.2; omega⟩)) (by decide) (j:=k) (r:=.slice ua l.length uc) (l:=l) (by rw [List.length_append,hlen]; simp [zBZ]; omega) (f.mono (fun b hb=>⟨by have:=hb.1; omega,hb.2⟩))
     (fun i r' b hi hij hil hbu=>?_)
    ·rw [zAE hx.out];obtain ⟨m,hm⟩:∃m,n-k=m+1:=⟨n-k-1,by omega⟩;rw [hm,zBZ,List.replicate_succ,List.set_append_right _ _ (by omega),hlen] at p;rw [show n-(k+1)=m by omega];simpa [zAc,zBZ] using p
    ·intro hb';obtain ⟨x,hx'⟩:∃x,(zAc (L.take k)++zBZ (n-k))[i]? = some x:=⟨_,zTZ hil⟩;obtain ⟨y',h1,h2,_⟩:=hf.cell hx';have h3:=World.cell?_of_block (w:=wr) (w':=w2) (a:=⟨w.heap.size,i,none⟩) (b2.block w.heap.size (by
      obtain ⟨vs,g1,_⟩:=hf;exact (g1.lt w.heap.size rfl).2))
     rw [h3,h1] at hi;cases hi;have:=(h2.lt hb').1;have:=(f.2 b hbu).1;omega
   clear hat hf hf2 f hr hlen;go_wp2_with fail
   go_roundw
   case rel=>exact ⟨k+1,by omega,by go_num,hput.out.mono (fun b hb=>⟨hb.1,by rw [show (w2.setCell _ _).heap.size=w2.heap.size by simp [World.setCell]]; exact hb.2⟩),(hb.trans (b2.mono hb.size)).setCell (zTd _) _⟩
   case measure=>simp [intOf]; omega
  ·have hkn:k=n:=by omega
   subst hkn;go_wp2_with fail
   go_ret
   refine ⟨_,rfl,?_,hb⟩;have e:=H.out;unfold FII;rw [e];rw [List.take_of_length_le (by omega)] at hf;simpa [zBZ] using hf
theorem zJe {S S':Nat→Prop} {u v:Value} {L:List (List Int)} {w:World} (h:RII S w u L) (h':RII S' w v L) (hl:zAC L≤16777216) :
  Calls Tryz.prog 11 #[u,v] w fun e w'=>e=.returned (.bool true)∧∃m,w'=w.drewN m:=by
 obtain ⟨a,cap,rfl⟩:=h.form;obtain ⟨a',cap',rfl⟩:=h'.form;have hn0:L.length≤16777216:=by unfold zAC at hl; omega
 generalize hn:L.length=n at *;clear hn;go_enter Tryz.func11,Tryz.ntmps11
 go_wp2_with fail
 go_loopw [5] (fun i wr=>∃k m:Nat,k≤n∧i=.int .i64 k∧wr=w.drewN m) (fun i _=>n-(intOf i).toNat)
 case atStart=>exact ⟨0,0,Nat.zero_le _,rfl,rfl⟩
 case round =>
  obtain ⟨k,m,hk,rfl,hw⟩:=hrel;have h:RII S wr (.slice a n cap) L:=by rw [hw]; exact h.drewN m
  have h':RII S' wr (.slice a' n cap') L:=by rw [hw]; exact h'.drewN m
  have HW:=zTY hw;clear hw;by_cases hlt:k<n
  ·obtain ⟨b,o,r,l,rfl,hc,hr,hx⟩:=h.at hlt;obtain ⟨b',o',r',l',rfl,hc',hr',hx'⟩:=h'.at hlt;have e:l'=l:=by have:=hx.out.symm.trans hx'.out; simpa using this.symm
   subst e;have hll:l'.length≤16777216:=by have:=zKX (zTa hx.out); omega
   have b1:(k:Int)<(n:Int):=by omega
   go_wp2_with fail
   go_quiet ((go_at_call 12; exact Calls.quiet_of (zEM (hr.drewN _) (hr'.drewN _) hll)))
   go_wp2_with fail
   go_roundw
   case rel=>exact ⟨k+1,m+nq,by omega,by go_num,by rw [HW.out]; simp⟩
   case measure=>simp [intOf]; omega
  ·go_wp2_with fail
   go_ret
   exact ⟨rfl,m,HW.out⟩
def zBG (k:Nat):List (List Int)→List (List Int)
 | []=>[]
 | l::L=>zAi k l.length::zBG (k+l.length) L
theorem zLD (L:List (List Int)):∀(k j:Nat) (l:List Int),L[j]? = some l→zBG k (L.take (j+1))=zBG k (L.take j)++[zAi (k+((L.take j).map List.length).sum) l.length]:=by
 induction L with
 | nil=>intro k j l h; simp at h
 | cons x L ih =>
  intro k j l h;cases j with
  | zero=>simp at h; subst h; simp [zBG]
  | succ j =>
   simp at h;have:=ih (k+x.length) j l h;simp only [List.take_succ_cons,zBG,List.map_cons,List.sum_cons,List.cons_append];rw [this,Nat.add_assoc]
theorem zFD (L:List (List Int)):∀k,(zBG k L).length=L.length:=by
 induction L with
 | nil=>intro k; rfl
 | cons x L ih=>intro k; simp [zBG,ih]
theorem zI3 {S:Nat→Prop} {v:Value} {L:List (List Int)} {w:World} (h:FII S w v L) (k:Nat) (hl:zAC L+k≤16777216) :
  Calls Tryz.prog 16 #[v,.int .i64 k] w fun e w'=>e=.returned (.int .i64 ((k+(L.map List.length).sum:Nat):Int))∧FII S w' v (zBG k L)∧Only S w w':=by
 obtain ⟨a,cap,rfl⟩:=h.any.form;have hn0:L.length≤16777216:=by unfold zAC at hl; omega
 have hfin:FII S w (.slice a L.length cap) L↔FC S 23 1 w (.slice a L.length cap) L.length (zAc L):=Iff.rfl;rw [hfin] at h;clear hfin;have hpost:∀w',FC S 23 1 w' (.slice a L.length cap) L.length (zAc (zBG k L))→FII S w' (.slice a L.length cap) (zBG k L):=by
  intro w' h;unfold FII;rw [zFD];exact h
 have hpost:=zTY hpost;generalize hn:L.length=n at *;have H:=zTY hn;clear hn;go_enter Tryz.func16,Tryz.ntmps16
 go_wp2_with fail
 go_loopw [1,5] (fun q i wr=>∃j:Nat,j≤n∧i=.int .i64 j∧q=.int .i64 ((k+((L.take j).map List.length).sum:Nat):Int)∧FC S 23 1 wr (.slice a n cap) n (zAc (zBG k (L.take j)++L.drop j))∧Only S w wr) (fun _ i _=>n-(intOf i).toNat)
 case atStart=>exact ⟨0,Nat.zero_le _,rfl,by simp,by simpa [zBG] using h,Only.refl _ _⟩
 case round =>
  obtain ⟨j,hj,rfl,rfl,hf,ho⟩:=hrel;by_cases hlt:j<n
  ·obtain ⟨g,cap',hv,hg⟩:=hf.head (by omega);simp only [Value.slice.injEq] at hv;obtain ⟨rfl,_,rfl⟩:=hv;obtain ⟨l,hx⟩:∃l,L[j]? = some l:=⟨_,zTZ (by have:=H.out; omega)⟩;have hx:=zTY hx;have hml:(zBG k (L.take j)).length=j:=by rw [zFD]; have:=H.out; simp; omega
   have hat:(zAc (zBG k (L.take j)++L.drop j))[j]? = some (.inl l):=by
    simp only [zAc,List.getElem?_map];rw [List.getElem?_append_right (by rw [hml]; exact zTd _),hml];simp [hx.out]
   obtain ⟨r,hc,hr,hfz⟩:=hf.cell hat;have hr:FI S wr r l:=hr;obtain ⟨vs,h1,h2,h3⟩:∃vs,wr.ownsRow 0 23 1 (.slice (some ⟨g,0,none⟩) n cap) n vs∧vs[j]? = some r∧True:=by
    obtain ⟨vs,g1,g2,_⟩:=hf;refine ⟨vs,g1,?_,trivial⟩;have:=g1.cellAt j (by omega);rw [<-this,hc]
   have hsum:=zKo (f:=List.length) hx.out;have hle:=zLM (f:=List.length) L (j+1);have hb1:l.length+(k+((L.take j).map List.length).sum)≤16777216:=by unfold zAC at hl; omega
   have hturn:=zTY (fun (w':World) (l':List Int)=>FC.turned (w':=w') (l':=l') hf (by decide) (j:=j) (r:=r) (l:=l) hat ⟨vs,h1,h2⟩);have hown:=zTY (fun b (hb:r.ownBlock=some b)=>hr.2 b hb);have hstep:=zTY (zLD L k j l hx.out);have hsumH:=zTY hsum;have hdrop:=zTY (zAD hx.out);clear hsum hle h1 h2 hat hf;generalize hq:k+((L.take j).map List.length).sum=q at *;have HQ:=zTY hq;clear hq;have HM:=zTY hml;clear hml;go_wp2_with fail
   refine (zD5 hr q hb1).mono ?_;rintro e w2 ⟨rfl,f2,o2⟩;have hnew:=zTY (hturn.out w2 (zAi q l.length) o2 (fun _=>f2));have ho2:=zTY (ho.trans (o2.mono hown.out));clear f2 o2 hr;go_wp2_with fail
   go_roundw
   case rel =>
    refine ⟨j+1,by omega,by go_num,?_,?_,ho2.out⟩
    ·rw [hsumH.out];have:=HQ.out;go_num
    ·have e:=hnew.out;rw [hstep.out];have hm:=HM.out;rw [hdrop.out] at e;have e3:(zAc (zBG k (L.take j)++l::L.drop (j+1))).set j (.inl (zAi q l.length))=zAc ((zBG k (L.take j)++[zAi q l.length])++L.drop (j+1)):=by
      simp only [zAc,List.map_append,List.map_cons,List.map_nil];rw [List.set_append_right _ _ (by simp [hm])];simp [hm]
     rw [e3] at e;exact e
   case measure=>simp [intOf]; omega
  ·have hjn:j=n:=by omega
   subst hjn;have e:=H.out;go_wp2_with fail
   go_ret
   rw [List.take_of_length_le (by omega)] at hf ⊢;rw [List.drop_eq_nil_of_le (by omega),List.append_nil] at hf;exact ⟨rfl,hpost.out _ hf,ho⟩
theorem zEE {F:List (List Int)} {i:Nat} {l:List Int} (h:F[i]? = some l):(zAc F)[i]? = some (.inl l):=by simp [zAc,h]
theorem zLC {S:Nat→Prop} {v:Value} {L:List (List Int)} {w:World} (h:FII S w v L) (k:Nat) (hl:zAC L+k≤16777216) :
  Calls Tryz.prog 16 #[v,.int .i64 k] w fun e w'=>e=.returned (.int .i64 ((k+(L.map List.length).sum:Nat):Int))∧FII S w' v (zBG k L)∧Only S w w':=zI3 h k hl
end Go.Proofs.YtallmimhfmaapaaGreatDoor
