/- Plain lemmas of the seat: what it means that a slice value reads as a list, that it survives new memory, and that a slice of the call's own is such a one. No condition. -/
import Derived.Test.YtlgcdacpjcnjgaaGreatDoorRows
import Derived.WalkKit
import Derived.WalkSpells
import Derived.WalkLawsBesides
import Derived.BigQuiet
import Derived.Deep.QuietTactic
import Derived.Lib.Hide
import Derived.Laws.AppendOwnNone
namespace Go.Proofs.YtlgcdacpjcnjgaaGreatDoor
open Go.RowKit
set_option maxRecDepth 20000
abbrev zTE:=@List.getElem?_eq_getElem
abbrev zTF:=@List.mem_of_getElem?
abbrev zTH:=@World.block_lt_of_cell?
abbrev zTI:=@Nat.le_refl
theorem zTG {α:Type} {l:List α} {i:Nat} {a:α} (h:l[i]? = some a):∃h:i<l.length,l[i]=a:=List.getElem?_eq_some_iff.1 h
theorem zTD {p:Prop} (h:p):Hid p:=Lib.hid h
abbrev zAC (w w':World):Prop:=Below w.heap.size w w'
theorem zAC.step {a b c:World} (h:Below a.heap.size a b) (k:Below b.heap.size b c):Below a.heap.size a c :=
 h.trans (k.mono h.size)
def Tag:Option TypeId→World→Nat→Prop
 | none,_,_=>True
 | some e,w,b=>∃cur fz,w.heap[b]? = some (.cells cur e fz)
def RL {α:Type} (e:Option TypeId) (S:Nat→Prop) (R:World→Value→α→Prop) (w:World) (v:Value) (L:List α):Prop :=
 ∃a cap,v=.slice a L.length cap∧(L.length≤cap∧cap≤maxLen)∧(L=[]∨∃b o,a=some ⟨b,o,none⟩∧S b∧Tag e w b∧∀j x,L[j]? = some x→∃r,w.cell? ⟨b,o+j,none⟩=some r∧R w r x)
def RL2 {α:Type} (e:Option TypeId) (S:Nat→Prop) (R:World→Value→Value→α→Prop) (w:World) (v:Value) (L:List α):Prop :=
 ∃a cap,v=.slice a L.length cap∧(L.length≤cap∧cap≤maxLen)∧(L=[]∨∃b o,a=some ⟨b,o,none⟩∧S b∧Tag e w b ∧
  ∀j x,L[j]? = some x→∃r r',w.cell? ⟨b,o+j*2,none⟩=some r∧w.cell? ⟨b,o+j*2+1,none⟩=some r'∧R w r r' x)
theorem Tag.keep {e:Option TypeId} {w w':World} {b:Nat} (h:Tag e w b) (hb:b<w.heap.size→w'.heap[b]? = w.heap[b]?):Tag e w' b:=by
 cases e with
 | none=>trivial
 | some e =>
 obtain ⟨cur,fz,h⟩:=h;exact ⟨cur,fz,by rw [hb (Array.getElem?_eq_some_iff.1 h).1]; exact h⟩
def RInt (_:World) (r:Value) (n:Int):Prop:=r=.int .i64 n
abbrev RI (S:Nat→Prop):=RL (some 3) S RInt
abbrev RII (S:Nat→Prop):=RL (some 29) S (RI S)
abbrev Any:Nat→Prop:=fun _=>True
abbrev Bt (lo hi:Nat):Nat→Prop:=fun b=>lo≤b∧b<hi
abbrev New (w w':World):Nat→Prop:=Bt w.heap.size w'.heap.size
theorem RL.nil {α:Type} {e:Option TypeId} {S:Nat→Prop} {R:World→Value→α→Prop} {w:World} (a:Option Addr) (cap:Nat) (hc:cap≤maxLen):RL e S R w (.slice a 0 cap) ([]:List α) :=
 ⟨a,cap,rfl,⟨Nat.zero_le _,hc⟩,.inl rfl⟩
theorem RL2.nil {α:Type} {e:Option TypeId} {S:Nat→Prop} {R:World→Value→Value→α→Prop} {w:World} (a:Option Addr) (cap:Nat) (hc:cap≤maxLen):RL2 e S R w (.slice a 0 cap) ([]:List α) :=
 ⟨a,cap,rfl,⟨Nat.zero_le _,hc⟩,.inl rfl⟩
theorem RL.mono {α:Type} {e:Option TypeId} {S S':Nat→Prop} {R R':World→Value→α→Prop} {w:World} {v:Value} {L:List α} (h:RL e S R w v L)
  (hS:∀b,S b→S' b) (hR:∀r x,R w r x→R' w r x):RL e S' R' w v L:=by
 obtain ⟨a,cap,hv,hcap,h⟩:=h;refine ⟨a,cap,hv,hcap,?_⟩;rcases h with h | ⟨b,o,ha,hs,ht,h⟩
 ·exact .inl h
 ·exact .inr ⟨b,o,ha,hS b hs,ht,fun j x hx=>let ⟨r,h1,h2⟩:=h j x hx; ⟨r,h1,hR _ _ h2⟩⟩
theorem RL.keep {α:Type} {e:Option TypeId} {S:Nat→Prop} {R:World→Value→α→Prop} {w w':World} {v:Value} {L:List α} (h:RL e S R w v L)
  (hb:∀b,S b→b<w.heap.size→w'.heap[b]? = w.heap[b]?) (hR:∀r x,R w r x→R w' r x):RL e S R w' v L:=by
 obtain ⟨a,cap,hv,hcap,h⟩:=h;refine ⟨a,cap,hv,hcap,?_⟩;rcases h with h | ⟨b,o,ha,hs,ht,h⟩
 ·exact .inl h
 ·refine .inr ⟨b,o,ha,hs,ht.keep (hb b hs),fun j x hx=>?_⟩;obtain ⟨r,h1,h2⟩:=h j x hx;refine ⟨r,?_,hR _ _ h2⟩;have hlt:=zTH w _ h1;rw [World.cell?_of_block (w:=w) (hb b hs hlt)];exact h1
theorem RI.keep {S:Nat→Prop} {w w':World} {v:Value} {L:List Int} (h:RI S w v L)
  (hb:∀b,S b→b<w.heap.size→w'.heap[b]? = w.heap[b]?):RI S w' v L:=RL.keep h hb (fun _ _ h=>h)
theorem RII.keep {S:Nat→Prop} {w w':World} {v:Value} {L:List (List Int)} (h:RII S w v L)
  (hb:∀b,S b→b<w.heap.size→w'.heap[b]? = w.heap[b]?):RII S w' v L:=RL.keep h hb (fun _ _ h=>RI.keep h hb)
theorem RI.below {S:Nat→Prop} {w w':World} {v:Value} {L:List Int} (h:RI S w v L) (hb:Below w.heap.size w w'):RI S w' v L :=
 RI.keep h fun b _ hl=>hb.block b hl
theorem RII.below {S:Nat→Prop} {w w':World} {v:Value} {L:List (List Int)} (h:RII S w v L) (hb:Below w.heap.size w w'):RII S w' v L :=
 RII.keep h fun b _ hl=>hb.block b hl
theorem RI.drewN {S:Nat→Prop} {w:World} {v:Value} {L:List Int} (h:RI S w v L) (n:Nat):RI S (w.drewN n) v L :=
 RI.keep h fun _ _ _=>rfl
theorem RII.drewN {S:Nat→Prop} {w:World} {v:Value} {L:List (List Int)} (h:RII S w v L) (n:Nat):RII S (w.drewN n) v L :=
 RII.keep h fun _ _ _=>rfl
theorem RI.drew {S:Nat→Prop} {w:World} {v:Value} {L:List Int} (h:RI S w v L):RI S w.drew v L:=RI.keep h fun _ _ _=>rfl
theorem RII.drew {S:Nat→Prop} {w:World} {v:Value} {L:List (List Int)} (h:RII S w v L):RII S w.drew v L:=RII.keep h fun _ _ _=>rfl
theorem RL.old {α:Type} {e:Option TypeId} {S:Nat→Prop} {R R':World→Value→α→Prop} {w:World} {v:Value} {L:List α} (h:RL e S R w v L) (hR:∀r x,R w r x→R' w r x):RL e (Bt 0 w.heap.size) R' w v L:=by
 obtain ⟨a,cap,hv,hcap,h⟩:=h;refine ⟨a,cap,hv,hcap,?_⟩;rcases h with h | ⟨b,o,ha,hs,ht,h⟩
 ·exact .inl h
 ·by_cases hL:L=[]
  ·exact .inl hL
  ·obtain ⟨x,hx⟩:∃x,L[0]? = some x:=⟨L[0]'(List.length_pos_iff.2 hL),zTE _⟩;obtain ⟨r,h1,_⟩:=h 0 x hx;refine .inr ⟨b,o,ha,⟨Nat.zero_le _,zTH w _ h1⟩,ht,fun j x hx=>?_⟩;obtain ⟨r,h1,h2⟩:=h j x hx;exact ⟨r,h1,hR _ _ h2⟩
theorem RL2.old {α:Type} {e:Option TypeId} {S:Nat→Prop} {R R':World→Value→Value→α→Prop} {w:World} {v:Value} {L:List α} (h:RL2 e S R w v L) (hR:∀r r' x,R w r r' x→R' w r r' x):RL2 e (Bt 0 w.heap.size) R' w v L:=by
 obtain ⟨a,cap,hv,hcap,h⟩:=h;refine ⟨a,cap,hv,hcap,?_⟩;rcases h with h | ⟨b,o,ha,hs,ht,h⟩
 ·exact .inl h
 ·by_cases hL:L=[]
  ·exact .inl hL
  ·obtain ⟨x,hx⟩:∃x,L[0]? = some x:=⟨L[0]'(List.length_pos_iff.2 hL),zTE _⟩;obtain ⟨r,r',h1,_⟩:=h 0 x hx;refine .inr ⟨b,o,ha,⟨Nat.zero_le _,zTH w _ h1⟩,ht,fun j x hx=>?_⟩;obtain ⟨r,r',h1,h1',h2⟩:=h j x hx;exact ⟨r,r',h1,h1',hR _ _ _ h2⟩
theorem RI.old {S:Nat→Prop} {w:World} {v:Value} {L:List Int} (h:RI S w v L):RI (Bt 0 w.heap.size) w v L:=RL.old h (fun _ _ h=>h)
theorem RII.old {S:Nat→Prop} {w:World} {v:Value} {L:List (List Int)} (h:RII S w v L):RII (Bt 0 w.heap.size) w v L:=RL.old h (fun _ _ h=>RI.old h)
theorem RI.any {S:Nat→Prop} {w:World} {v:Value} {L:List Int} (h:RI S w v L):RI Any w v L:=RL.mono h (fun _ _=>trivial) (fun _ _ h=>h)
theorem RII.any {S:Nat→Prop} {w:World} {v:Value} {L:List (List Int)} (h:RII S w v L):RII Any w v L:=RL.mono h (fun _ _=>trivial) (fun _ _ h=>RI.any h)
theorem RL.atI {e:Option TypeId} {S:Nat→Prop} {w:World} {a:Option Addr} {n cap:Nat} {L:List Int} (h:RL e S RInt w (.slice a n cap) L) {j:Nat} (hj:j<n) :
  ∃b o x,a=some ⟨b,o,none⟩∧w.cell? ⟨b,o+j,none⟩=some (.int .i64 x)∧Hid (L[j]? = some x):=by
 obtain ⟨a',cap',hv,_,h⟩:=h;simp only [Value.slice.injEq] at hv;obtain ⟨rfl,rfl,rfl⟩:=hv;rcases h with h | ⟨b,o,ha,_,_,h⟩
 ·subst h; simp at hj
 ·obtain ⟨r,h1,h2⟩:=h j L[j] (by simp [hj]);exact ⟨b,o,L[j],ha,by rw [h1]; exact congrArg some h2,zTD (by simp [hj])⟩
theorem RI.at {S:Nat→Prop} {w:World} {a:Option Addr} {n cap:Nat} {L:List Int} (h:RI S w (.slice a n cap) L) {j:Nat} (hj:j<n) :
  ∃b o x,a=some ⟨b,o,none⟩∧w.cell? ⟨b,o+j,none⟩=some (.int .i64 x)∧Hid (L[j]? = some x):=RL.atI h hj
theorem RL.at1 {α:Type} {e:Option TypeId} {S:Nat→Prop} {R:World→Value→α→Prop} {w:World} {a:Option Addr} {n cap:Nat} {L:List α} (h:RL e S R w (.slice a n cap) L) {j:Nat} (hj:j<n) :
  ∃b o r l,a=some ⟨b,o,none⟩∧w.cell? ⟨b,o+j,none⟩=some r∧R w r l∧Hid (L[j]? = some l):=by
 obtain ⟨a',cap',hv,_,h⟩:=h;simp only [Value.slice.injEq] at hv;obtain ⟨rfl,rfl,rfl⟩:=hv;rcases h with h | ⟨b,o,ha,_,_,h⟩
 ·subst h; simp at hj
 ·obtain ⟨r,h1,h2⟩:=h j L[j] (by simp [hj]);exact ⟨b,o,r,L[j],ha,h1,h2,zTD (by simp [hj])⟩
theorem RII.at {S:Nat→Prop} {w:World} {a:Option Addr} {n cap:Nat} {L:List (List Int)} (h:RII S w (.slice a n cap) L) {j:Nat} (hj:j<n) :
  ∃b o r l,a=some ⟨b,o,none⟩∧w.cell? ⟨b,o+j,none⟩=some r∧RI S w r l∧Hid (L[j]? = some l):=RL.at1 h hj
abbrev RI0:=RL none Any RInt
abbrev RII0:=RL none Any RI0
theorem RI0.below {w w':World} {v:Value} {L:List Int} (h:RI0 w v L) (hb:Below w.heap.size w w'):RI0 w' v L :=
 RL.keep h (fun b _ hl=>hb.block b hl) (fun _ _ h=>h)
theorem RII0.below {w w':World} {v:Value} {L:List (List Int)} (h:RII0 w v L) (hb:Below w.heap.size w w'):RII0 w' v L :=
 RL.keep h (fun b _ hl=>hb.block b hl) (fun _ _ h=>RI0.below h hb)
theorem RI0.at {w:World} {a:Option Addr} {n cap:Nat} {L:List Int} (h:RI0 w (.slice a n cap) L) {j:Nat} (hj:j<n) :
  ∃b o x,a=some ⟨b,o,none⟩∧w.cell? ⟨b,o+j,none⟩=some (.int .i64 x)∧Hid (L[j]? = some x):=RL.atI h hj
theorem RII0.at {w:World} {a:Option Addr} {n cap:Nat} {L:List (List Int)} (h:RII0 w (.slice a n cap) L) {j:Nat} (hj:j<n) :
  ∃b o r l,a=some ⟨b,o,none⟩∧w.cell? ⟨b,o+j,none⟩=some r∧RI0 w r l∧Hid (L[j]? = some l):=RL.at1 h hj
theorem RL.form {α:Type} {e:Option TypeId} {S:Nat→Prop} {R:World→Value→α→Prop} {w:World} {v:Value} {L:List α} (h:RL e S R w v L):∃a cap,v=.slice a L.length cap :=
 let ⟨a,cap,hv,_⟩:=h
 ⟨a,cap,hv⟩
theorem RL.small {α:Type} {e:Option TypeId} {S:Nat→Prop} {R:World→Value→α→Prop} {w:World} {v:Value} {L:List α} (h:RL e S R w v L):L.length≤maxLen :=
 let ⟨_,_,_,hc,_⟩:=h
 Nat.le_trans hc.1 hc.2
theorem RL2.small {α:Type} {e:Option TypeId} {S:Nat→Prop} {R:World→Value→Value→α→Prop} {w:World} {v:Value} {L:List α} (h:RL2 e S R w v L):L.length≤maxLen :=
 let ⟨_,_,_,hc,_⟩:=h
 Nat.le_trans hc.1 hc.2
theorem RL2.form {α:Type} {e:Option TypeId} {S:Nat→Prop} {R:World→Value→Value→α→Prop} {w:World} {v:Value} {L:List α} (h:RL2 e S R w v L):∃a cap,v=.slice a L.length cap :=
 let ⟨a,cap,hv,_⟩:=h
 ⟨a,cap,hv⟩
theorem RL2.mono {α:Type} {e:Option TypeId} {S S':Nat→Prop} {R R':World→Value→Value→α→Prop} {w:World} {v:Value} {L:List α} (h:RL2 e S R w v L)
  (hS:∀b,S b→S' b) (hR:∀r r' x,R w r r' x→R' w r r' x):RL2 e S' R' w v L:=by
 obtain ⟨a,cap,hv,hcap,h⟩:=h;refine ⟨a,cap,hv,hcap,?_⟩;rcases h with h | ⟨b,o,ha,hs,ht,h⟩
 ·exact .inl h
 ·exact .inr ⟨b,o,ha,hS b hs,ht,fun j x hx=>let ⟨r,r',h1,h1',h2⟩:=h j x hx; ⟨r,r',h1,h1',hR _ _ _ h2⟩⟩
theorem RL2.keep {α:Type} {e:Option TypeId} {S:Nat→Prop} {R:World→Value→Value→α→Prop} {w w':World} {v:Value} {L:List α} (h:RL2 e S R w v L)
  (hb:∀b,S b→b<w.heap.size→w'.heap[b]? = w.heap[b]?) (hR:∀r r' x,R w r r' x→R w' r r' x):RL2 e S R w' v L:=by
 obtain ⟨a,cap,hv,hcap,h⟩:=h;refine ⟨a,cap,hv,hcap,?_⟩;rcases h with h | ⟨b,o,ha,hs,ht,h⟩
 ·exact .inl h
 ·refine .inr ⟨b,o,ha,hs,ht.keep (hb b hs),fun j x hx=>?_⟩;obtain ⟨r,r',h1,h1',h2⟩:=h j x hx;have hlt:=zTH w _ h1;refine ⟨r,r',?_,?_,hR _ _ _ h2⟩
  ·rw [World.cell?_of_block (w:=w) (hb b hs hlt)]; exact h1
  ·rw [World.cell?_of_block (w:=w) (hb b hs hlt)]; exact h1'
theorem RL2.at {α:Type} {e:Option TypeId} {S:Nat→Prop} {R:World→Value→Value→α→Prop} {w:World} {a:Option Addr} {n cap:Nat} {L:List α} (h:RL2 e S R w (.slice a n cap) L) {j:Nat} (hj:j<n) :
  ∃b o r r' x,a=some ⟨b,o,none⟩∧w.cell? ⟨b,o+j*2,none⟩=some r∧w.cell? ⟨b,o+j*2+1,none⟩=some r'∧R w r r' x∧Hid (L[j]? = some x):=by
 obtain ⟨a',cap',hv,_,h⟩:=h;simp only [Value.slice.injEq] at hv;obtain ⟨rfl,rfl,rfl⟩:=hv;rcases h with h | ⟨b,o,ha,_,_,h⟩
 ·subst h; simp at hj
 ·obtain ⟨r,r',h1,h1',h2⟩:=h j L[j] (by simp [hj]);exact ⟨b,o,r,r',L[j],ha,h1,h1',h2,zTD (by simp [hj])⟩
theorem RL.of_own {α:Type} {e:TypeId} {S:Nat→Prop} {R:World→Value→α→Prop} {w:World} {B:Nat} {v:Value} {n:Nat} {xs:List Value} {L:List α}
  (h:w.ownsRow B e 1 v n xs) (hn:n=L.length) (hS:∀b,v.ownBlock=some b→B≤b→S b) (hR:∀(j:Nat) (x:α) (r:Value),L[j]? = some x→xs[j]? = some r→R w r x):RL (some e) S R w v L:=by
 subst hn;have hlen:=h.1;rcases h.2 with ⟨rfl,h0⟩ | ⟨g,cap,cur,hv,hb,hg,hc⟩
 ·have:L=[]:=List.eq_nil_of_length_eq_zero h0;subst this;exact RL.nil _ _ (by unfold maxLen; omega)
 ·subst hv;refine ⟨_,_,rfl,⟨hc.1,hc.2.1⟩,.inr ⟨g,0,rfl,hS g rfl hb,⟨cur,(0,0),hg⟩,fun j x hx=>?_⟩⟩;have hj:j<L.length:=by
   rcases Nat.lt_or_ge j L.length with h | h
   ·exact h
   ·rw [List.getElem?_eq_none h] at hx; cases hx
  have hjx:j<xs.length:=by rw [hlen]; omega
  refine ⟨xs[j],?_,hR j x _ hx (by simp [hjx])⟩;have:=h.cells (g:=g) rfl j xs[j] (by simp [hjx]);have hadd:(⟨g,0,none⟩:Addr).add j=⟨g,j,none⟩:=by unfold Addr.add; split <;> simp_all
  rw [hadd] at this;simpa using this
def FI (S:Nat→Prop) (w:World) (v:Value) (l:List Int):Prop:=w.ownsRow 0 3 1 v l.length (l.map (Value.int .i64))∧∀b,v.ownBlock=some b→S b
theorem FI.read {S:Nat→Prop} {w:World} {v:Value} {l:List Int} (h:FI S w v l):RI (fun b=>S b∧v.ownBlock=some b) w v l :=
 RL.of_own h.1 rfl (fun b h1 _=>⟨h.2 b h1,h1⟩) (fun j x r hx hr=>by simp [hx] at hr; exact hr.symm)
theorem FI.any {S:Nat→Prop} {w:World} {v:Value} {l:List Int} (h:FI S w v l):RI Any w v l:=RI.any h.read
theorem FI.reads {S:Nat→Prop} {w:World} {v:Value} {l:List Int} (h:FI S w v l):RI S w v l:=RL.mono h.read (fun _ h=>h.1) (fun _ _ h=>h)
theorem FI.of_row {w w':World} {B:Nat} {v:Value} {l:List Int} {n:Nat} {xs:List Value} (h:w'.ownsRow B 3 1 v n xs) (hB:w.heap.size≤B) (hn:n=l.length) (hx:xs=l.map (Value.int .i64)):FI (New w w') w' v l:=by
 subst hn;subst hx;refine ⟨?_,fun b hb=>?_⟩
 ·refine ⟨h.1,?_⟩;rcases h.2 with h | ⟨g,cap,cur,hv,_,r⟩
  ·exact .inl h
  ·exact .inr ⟨g,cap,cur,hv,Nat.zero_le _,r⟩
 ·obtain ⟨h1,h2⟩:=h.lt b hb;exact ⟨by omega,h2⟩
theorem FI.mono {S S':Nat→Prop} {w:World} {v:Value} {l:List Int} (h:FI S w v l) (hS:∀b,S b→S' b):FI S' w v l:=⟨h.1,fun b hb=>hS b (h.2 b hb)⟩
theorem zAk {B:Nat} {w w':World} {e:TypeId} {s n:Nat} {v:Value} {xs:List Value} (h:w.ownsRow B e s v n xs) (hb:∀b,v.ownBlock=some b→w'.heap[b]? = w.heap[b]?):w'.ownsRow B e s v n xs:=by
 refine ⟨h.1,?_⟩;rcases h.2 with h | ⟨g,cap,cur,hv,hg,hh,r⟩
 ·exact .inl h
 ·exact .inr ⟨g,cap,cur,hv,hg,by rw [hb g (by rw [hv]; rfl)]; exact hh,r⟩
theorem zE6 {B:Nat} {w w':World} {e:TypeId} {s n:Nat} {v:Value} {xs:List Value} (h:w.ownsRow B e s v n xs) (hb:Below w.heap.size w w'):w'.ownsRow B e s v n xs :=
 zAk h fun b hv=>hb.block b (h.lt b hv).2
theorem FI.keep {S:Nat→Prop} {w w':World} {v:Value} {l:List Int} (h:FI S w v l) (hb:∀b,v.ownBlock=some b→w'.heap[b]? = w.heap[b]?):FI S w' v l:=⟨zAk h.1 hb,h.2⟩
theorem FI.below {S:Nat→Prop} {w w':World} {v:Value} {l:List Int} (h:FI S w v l) (hb:Below w.heap.size w w'):FI S w' v l:=⟨zE6 h.1 hb,h.2⟩
theorem FI.form {S:Nat→Prop} {w:World} {v:Value} {l:List Int} (h:FI S w v l):∃a cap,v=.slice a l.length cap:=h.any.form
theorem FI.set {S:Nat→Prop} {w:World} {v:Value} {l:List Int} (h:FI S w v l) {g j:Nat} (x:Value) (hg:¬S g):FI S (w.setCell ⟨g,j,none⟩ x) v l :=
 h.keep fun b hb=>heap_setCell_other w ⟨g,j,none⟩ b x (fun e=>by have:=h.2 b hb; rw [e] at this; exact hg this)
theorem RI.set {S:Nat→Prop} {w:World} {v:Value} {l:List Int} (h:RI S w v l) {g j:Nat} (x:Value) (hg:¬S g):RI S (w.setCell ⟨g,j,none⟩ x) v l :=
 h.keep fun b hb _=>heap_setCell_other w ⟨g,j,none⟩ b x (fun e=>by rw [e] at hb; exact hg hb)
theorem zAM (w:World) (a:Addr) (x:Value):(w.setCell a x).heap.size=w.heap.size:=by simp [World.setCell]
structure Only (S:Nat→Prop) (w w':World):Prop where
 os:w'.os=w.os
 tape:w'.tape=w.tape
 output:w'.output=w.output
 size:w'.heap.size=w.heap.size
 block:∀b,¬S b→w'.heap[b]? = w.heap[b]?
theorem Only.refl (S:Nat→Prop) (w:World):Only S w w:=⟨rfl,rfl,rfl,rfl,fun _ _=>rfl⟩
theorem Only.trans {S:Nat→Prop} {a b c:World} (h:Only S a b) (k:Only S b c):Only S a c :=
 ⟨k.os.trans h.os,k.tape.trans h.tape,k.output.trans h.output,k.size.trans h.size,fun i hi=>(k.block i hi).trans (h.block i hi)⟩
theorem Only.mono {S S':Nat→Prop} {a b:World} (h:Only S a b) (hS:∀b,S b→S' b):Only S' a b:=⟨h.os,h.tape,h.output,h.size,fun i hi=>h.block i (fun hs=>hi (hS i hs))⟩
theorem Only.drewN {S:Nat→Prop} {a b:World} (h:Only S a b) (n:Nat):Only S a (b.drewN n):=⟨h.os,h.tape,h.output,h.size,h.block⟩
theorem Only.setCell {S:Nat→Prop} {a b:World} (h:Only S a b) {g j:Nat} (hg:S g) (u:Value):Only S a (b.setCell ⟨g,j,none⟩ u) :=
 h.trans ⟨rfl,rfl,rfl,by simp [World.setCell],fun i hi=>heap_setCell_other b ⟨g,j,none⟩ i u (fun e=>by subst e; exact hi hg)⟩
theorem Only.below {S:Nat→Prop} {B:Nat} {w w':World} (h:Only S w w') (hS:∀b,S b→B≤b):Below B w w' :=
 ⟨h.os,h.tape,h.output,by rw [h.size]; exact zTI _,fun b hb=>h.block b (fun hs=>by have:=hS b hs; omega)⟩
theorem Only.size_le {S:Nat→Prop} {w w':World} (h:Only S w w'):w.heap.size≤w'.heap.size:=by rw [h.size]; exact zTI _
theorem RI.only {S S':Nat→Prop} {w w':World} {v:Value} {L:List Int} (h:RI S w v L) (k:Only S' w w') (hd:∀b,S b→¬S' b):RI S w' v L:=RI.keep h fun b hs _=>k.block b (hd b hs)
theorem RII.only {S S':Nat→Prop} {w w':World} {v:Value} {L:List (List Int)} (h:RII S w v L) (k:Only S' w w') (hd:∀b,S b→¬S' b):RII S w' v L:=RII.keep h fun b hs _=>k.block b (hd b hs)
theorem FI.only {S S':Nat→Prop} {w w':World} {v:Value} {L:List Int} (h:FI S w v L) (k:Only S' w w') (hd:∀b,S b→¬S' b):FI S w' v L:=FI.keep h fun b hs=>k.block b (hd b (h.2 b hs))
theorem zBp {B B':Nat} {w:World} {e:TypeId} {s n:Nat} {v:Value} {xs:List Value} (h:w.ownsRow B e s v n xs) (hb:B'≤B):w.ownsRow B' e s v n xs:=by
 refine ⟨h.1,?_⟩;rcases h.2 with h | ⟨g,cap,cur,hv,hg,r⟩
 ·exact .inl h
 ·exact .inr ⟨g,cap,cur,hv,by omega,r⟩
theorem zAR {k:IntKind} {a b:Int} (h:a=b):Ending.returned (.int k a)=.returned (.int k b):=by rw [h]
theorem zAG {a b:Bool} (h:a=b):Ending.returned (.bool a)=.returned (.bool b):=by rw [h]
theorem zAP {α:Type} {L:List α} {k:Nat} {x:α} (h:L[k]? = some x):L.take (k+1)=L.take k++[x]:=by
 rw [List.take_add_one,h]; rfl
theorem zAK {α:Type} {L:List α} {k:Nat} {x:α} (h:L[k]? = some x):L.drop k=x::L.drop (k+1):=by
 have hk:k<L.length:=by
  rcases Nat.lt_or_ge k L.length with h' | h'
  ·exact h'
  ·rw [List.getElem?_eq_none h'] at h; cases h
 rw [zTE hk] at h;rw [List.drop_eq_getElem_cons hk];simp only [Option.some.injEq] at h;rw [h]
theorem zAY (w:World) (g j i:Nat) (x:Value) (h:i≠j):(w.setCell ⟨g,j,none⟩ x).cell? ⟨g,i,none⟩=w.cell? ⟨g,i,none⟩ :=
 World.cell?_setCell_other _ _ _ _ (fun e=>h (by injection e with _ e1 _; exact e1.symm))
theorem dr1 {w:World} {a:Nat}:∃m,w.drewN a=w.drewN m:=⟨a,rfl⟩
theorem dr2 {w:World} {a b:Nat}:∃m,(w.drewN a).drewN b=w.drewN m:=⟨a+b,by simp⟩
theorem dr3 {w:World} {a b c:Nat}:∃m,((w.drewN a).drewN b).drewN c=w.drewN m:=⟨a+b+c,by simp⟩
theorem dr0 {w:World}:∃m,w=w.drewN m:=⟨0,rfl⟩
theorem zB9 {w:World} {b o:Nat} {v:Value} (h:w.cell? ⟨b,o,none⟩=some v) (X:Obj):(w.alloc X).cell? ⟨b,o,none⟩=some v:=by
 have hlt:=zTH w _ h;rw [World.cell?_of_block (w:=w) (a:=⟨b,o,none⟩) (Below.heap_alloc w X b hlt)];exact h
theorem zAu {w w':World} (h:∃m,w'=w.drewN m):Below w.heap.size w w':=by
 obtain ⟨m,rfl⟩:=h;exact below_drewN (Below.refl _ w) m
theorem zA8:(Tryz.prog.info? 3).map (fun i=>(i.zero,i.size,i.bytes))=some (some (.int .i64 0),1,8):=by kernel_rfl
theorem zCN:(Tryz.prog.info? 29).map (fun i=>(i.zero,i.size,i.bytes))=some (some (.slice none 0 0),1,24):=by kernel_rfl
def zCZ (k:Nat) (n:Nat):List Int:=(List.range n).map fun i=>((k+i:Nat):Int)
theorem zIz (k n:Nat):(zCZ k n).length=n:=by simp [zCZ]
abbrev It:=List Int ⊕ Int
def zBj (S:Nat→Prop) (w:World) (r:Value):It→Prop
 | .inl l=>FI S w r l
 | .inr n=>r=.int .i64 n
def FC (S:Nat→Prop) (e:TypeId) (sz:Nat) (w:World) (v:Value) (n:Nat) (items:List It):Prop :=
 ∃vs,w.ownsRow 0 e sz v n vs∧vs.length=items.length∧(∀b,v.ownBlock=some b→S b) ∧
  (∀(j:Nat) (r:Value) (x:It),vs[j]? = some r→items[j]? = some x→zBj S w r x) ∧
  (∀(i j:Nat) (r r':Value) (b:Nat),i≠j→vs[i]? = some r→vs[j]? = some r'→r.ownBlock=some b→r'.ownBlock≠some b)
theorem zBj.keep {S:Nat→Prop} {w w':World} {r:Value} {x:It} (h:zBj S w r x) (hb:∀b,r.ownBlock=some b→w'.heap[b]? = w.heap[b]?):zBj S w' r x:=by
 cases x with
 | inl l=>exact FI.keep h hb
 | inr n=>exact h
theorem zBj.lt {S:Nat→Prop} {w:World} {r:Value} {x:It} (h:zBj S w r x) {b:Nat} (hb:r.ownBlock=some b):b<w.heap.size∧S b:=by
 cases x with
 | inl l=>exact ⟨(h.1.lt b hb).2,h.2 b hb⟩
 | inr n=>rw [show r=.int .i64 n from h] at hb; cases hb
theorem zBj.tag {S:Nat→Prop} {w:World} {r:Value} {x:It} (h:zBj S w r x) {b:Nat} (hb:r.ownBlock=some b):∃cur,w.heap[b]? = some (.cells cur 3 (0,0)):=by
 cases x with
 | inl l =>
  rcases h.1.2 with ⟨rfl,_⟩ | ⟨g,cap,cur,rfl,_,hg,_⟩
  ·cases hb
  ·simp [Value.ownBlock] at hb;subst hb;exact ⟨cur,hg⟩
 | inr n=>rw [show r=.int .i64 n from h] at hb; cases hb
theorem zA1 {w:World} {B:Nat} {e:TypeId} {sz n:Nat} {v:Value} {xs:List Value} (h:w.ownsRow B e sz v n xs) {b:Nat} (hb:v.ownBlock=some b):∃cur,w.heap[b]? = some (.cells cur e (0,0)):=by
 rcases h.2 with ⟨rfl,_⟩ | ⟨g,cap,cur,rfl,_,hg,_⟩
 ·cases hb
 ·simp [Value.ownBlock] at hb;subst hb;exact ⟨cur,hg⟩
section
variable {S:Nat→Prop} {e:TypeId} {sz:Nat} {w w':World} {v:Value} {n:Nat} {items:List It}
theorem FC.keep (h:FC S e sz w v n items) (hb:∀b,S b→b<w.heap.size→w'.heap[b]? = w.heap[b]?):FC S e sz w' v n items:=by
 obtain ⟨vs,h1,h2,h3,h4,h5⟩:=h;exact ⟨vs,zAk h1 (fun b hv=>hb b (h3 b hv) (h1.lt b hv).2),h2,h3,fun j r x hr hx=>(h4 j r x hr hx).keep fun b hv=>hb b ((h4 j r x hr hx).lt hv).2 ((h4 j r x hr hx).lt hv).1,h5⟩
theorem FC.below (h:FC S e sz w v n items) (hb:Below w.heap.size w w'):FC S e sz w' v n items:=h.keep fun b _ hl=>hb.block b hl
theorem FC.only {S':Nat→Prop} (h:FC S e sz w v n items) (k:Only S' w w') (hd:∀b,S b→¬S' b):FC S e sz w' v n items:=h.keep fun b hs _=>k.block b (hd b hs)
theorem FC.mono {S':Nat→Prop} (h:FC S e sz w v n items) (hS:∀b,S b→S' b):FC S' e sz w v n items:=by
 obtain ⟨vs,h1,h2,h3,h4,h5⟩:=h;refine ⟨vs,h1,h2,fun b hb=>hS b (h3 b hb),fun j r x hr hx=>?_,h5⟩;have:=h4 j r x hr hx;cases x with
 | inl l=>exact FI.mono this hS
 | inr n=>exact this
theorem FC.len (h:FC S e sz w v n items):items.length=n*sz:=by
 obtain ⟨vs,h1,h2,_⟩:=h;rw [<-h2]; exact h1.1
theorem FC.form (h:FC S e sz w v n items):∃a cap,v=.slice a n cap∧n≤cap:=by
 obtain ⟨vs,h1,_⟩:=h;rcases h1.2 with ⟨rfl,rfl⟩ | ⟨g,cap,cur,rfl,_,_,h,_⟩
 ·exact ⟨_,_,rfl,zTI _⟩
 ·exact ⟨_,_,rfl,h⟩
theorem FC.nil (S:Nat→Prop) (e:TypeId) (sz:Nat) (w:World):FC S e sz w (.slice none 0 0) 0 [] :=
 ⟨[],World.ownsRow_nil _ _ _ _,rfl,fun b hb=>(by cases hb),fun j r x hr _=>(by simp at hr),fun i j r r' b _ hr=>(by simp at hr)⟩
theorem FC.of_row {B:Nat} {xs:List Value} (h:w'.ownsRow B e sz v n xs) (hB:w.heap.size≤B) (hl:xs.length=items.length)
  (hx:∀(j:Nat) (r:Value) (x:It),xs[j]? = some r→items[j]? = some x→zBj (New w w') w' r x∧r.ownBlock=none):FC (New w w') e sz w' v n items:=by
 refine ⟨xs,zBp h (Nat.zero_le _),hl,fun b hb=>?_,fun j r x hr hx'=>(hx j r x hr hx').1,fun i j r r' b _ hr _ hb=>?_⟩
 ·have:=h.lt b hb; exact ⟨by omega,this.2⟩
 ·have hi:i<items.length:=by
   rcases Nat.lt_or_ge i items.length with h | h
   ·exact h
   ·rw [List.getElem?_eq_none (by omega)] at hr; cases hr
  have:=(hx i r items[i] hr (by simp [hi])).2;rw [this] at hb; cases hb
theorem FC.cell {g cap:Nat} (h:FC S e sz w (.slice (some ⟨g,0,none⟩) n cap) n items) {j:Nat} {x:It} (hj:items[j]? = some x) :
  ∃r,w.cell? ⟨g,j,none⟩=some r∧zBj S w r x∧w.frozen? ⟨g,j,none⟩=false:=by
 obtain ⟨vs,h1,h2,h3,h4,_⟩:=h;have hl:j<items.length:=by
  rcases Nat.lt_or_ge j items.length with h | h
  ·exact h
  ·rw [List.getElem?_eq_none h] at hj; cases hj
 have hv:j<vs.length:=by omega
 have hc:=h1.cellAt j (by rw [<-h1.1]; exact hv);rw [zTE hv] at hc;exact ⟨vs[j],hc,h4 j _ x (by simp [hv]) hj,h1.frozenAt j⟩
theorem FC.head (h:FC S e sz w v n items) (hn:0<n):∃g cap,v=.slice (some ⟨g,0,none⟩) n cap∧S g:=by
 obtain ⟨vs,h1,_,h3,_⟩:=h;rcases h1.2 with ⟨rfl,rfl⟩ | ⟨g,cap,cur,rfl,_⟩
 ·omega
 ·exact ⟨g,cap,rfl,h3 g rfl⟩
theorem FC.turned (h:FC S e sz w v n items) (he:e≠3) {j:Nat} {r:Value} {l l':List Int} (hx:items[j]? = some (.inl l)) (hcell:∃vs,w.ownsRow 0 e sz v n vs∧vs[j]? = some r)
  (ho:Only (fun b=>r.ownBlock=some b) w w') (hr:FI S w r l→FI S w' r l'):FC S e sz w' v n (items.set j (.inl l')):=by
 obtain ⟨vs,h1,h2,h3,h4,h5⟩:=h;obtain ⟨vs',h1',hr'⟩:=hcell;have e1:vs'=vs:=by
  rcases h1.2 with ⟨hv,hn⟩ | ⟨g,cap,cur,hv,_,hg,_,_,_,ht⟩
  ·have z1:vs=[]:=List.eq_nil_of_length_eq_zero (by rw [h1.1,hn]; simp);have z2:vs'=[]:=List.eq_nil_of_length_eq_zero (by rw [h1'.1,hn]; simp);rw [z1,z2]
  ·rcases h1'.2 with ⟨hv',hn'⟩ | ⟨g',cap',cur',hv',_,hg',_,_,_,ht'⟩
   ·rw [hv'] at hv; cases hv
   ·rw [hv'] at hv;simp only [Value.slice.injEq,Option.some.injEq,Addr.mk.injEq,and_true,true_and] at hv;obtain ⟨e1,e2⟩:=hv;subst e1;rw [hg'] at hg;simp only [Option.some.injEq,Obj.cells.injEq,and_true] at hg;rw [<-ht,<-ht',hg]
 subst e1;have hfi:FI S w r l:=h4 j r _ hr' hx;have hjl:j<items.length:=by
  rcases Nat.lt_or_ge j items.length with h | h
  ·exact h
  ·rw [List.getElem?_eq_none h] at hx; cases hx
 have outer:∀b,v.ownBlock=some b→w'.heap[b]? = w.heap[b]?:=fun b hb=>ho.block b (fun hb'=>by
  obtain ⟨c1,t1⟩:=zA1 h1 hb;obtain ⟨c2,t2⟩:=zBj.tag (x:=.inl l) hfi hb';rw [t1] at t2;simp only [Option.some.injEq,Obj.cells.injEq] at t2;exact he t2.2.1)
 refine ⟨vs',zAk h1 outer,by simpa using h2,h3,fun i r1 x hr1 hx1=>?_,h5⟩;by_cases hij:i=j
 ·subst hij;rw [hr'] at hr1;cases hr1;simp [hjl] at hx1;subst hx1;exact hr hfi
 ·rw [List.getElem?_set_ne (by omega)] at hx1;exact (h4 i r1 x hr1 hx1).keep fun b hb=>ho.block b (fun hb'=>h5 i j r1 r b hij hr1 hr' hb hb')
theorem FC.stored {g cap:Nat} (h:FC S e sz w (.slice (some ⟨g,0,none⟩) n cap) n items) (he:e≠3) {j:Nat} {q:Int} (hx:items[j]? = some (.inr q)) (q':Int) :
  FC S e sz (w.setCell ⟨g,j,none⟩ (.int .i64 q')) (.slice (some ⟨g,0,none⟩) n cap) n (items.set j (.inr q')):=by
 obtain ⟨vs,h1,h2,h3,h4,h5⟩:=h;have hst:=h1.stored j (.int .i64 q');have hjl:j<items.length:=by
  rcases Nat.lt_or_ge j items.length with h | h
  ·exact h
  ·rw [List.getElem?_eq_none h] at hx; cases hx
 have hq:vs[j]? = some (.int .i64 q):=by
  have hv:j<vs.length:=by omega
  have:=h4 j vs[j] (.inr q) (by simp [hv]) hx;rw [zTE hv];exact congrArg some this
 refine ⟨vs.set j (.int .i64 q'),hst.1,by simpa using h2,h3,fun i r1 x hr1 hx1=>?_,fun i k r r' b hik hr hr' hb=>?_⟩
 ·by_cases hij:i=j
  ·subst hij;have hv:i<vs.length:=by omega
   simp [hjl] at hx1;simp [hv] at hr1;subst hx1;exact hr1.symm
  ·rw [List.getElem?_set_ne (by omega)] at hx1 hr1;refine (h4 i r1 x hr1 hx1).keep fun b hb=>?_;refine heap_setCell_other w ⟨g,j,none⟩ b _ (fun e1=>?_);obtain ⟨c1,t1⟩:=zA1 h1 (b:=g) rfl;obtain ⟨c2,t2⟩:=(h4 i r1 x hr1 hx1).tag hb;subst e1;rw [t1] at t2;simp only [Option.some.injEq,Obj.cells.injEq] at t2;exact he t2.2.1
 ·have nb:∀(i:Nat) (r:Value) (b:Nat),(vs.set j (.int .i64 q'))[i]? = some r→r.ownBlock=some b→vs[i]? = some r:=by
   intro i r b h1 h2;by_cases hij:i=j
   ·subst hij;have hv:i<vs.length:=by omega
    simp [hv] at h1;subst h1;cases h2
   ·rwa [List.getElem?_set_ne (by omega)] at h1
  intro hb';exact h5 i k r r' b hik (nb i r b hr hb) (nb k r' b hr' hb') hb hb'
theorem FC.put {g cap:Nat} (h:FC S e sz w (.slice (some ⟨g,0,none⟩) n cap) n items) (he:e≠3) {j:Nat} {r:Value} {l:List Int} (hj:j<items.length) (hr:FI S w r l)
  (hd:∀(i:Nat) (r':Value) (b:Nat),w.cell? ⟨g,i,none⟩=some r'→i≠j→i<items.length→r.ownBlock=some b→r'.ownBlock≠some b) :
  FC S e sz (w.setCell ⟨g,j,none⟩ r) (.slice (some ⟨g,0,none⟩) n cap) n (items.set j (.inl l)):=by
 obtain ⟨vs,h1,h2,h3,h4,h5⟩:=h;have hst:=h1.stored j r;have hd':∀(i:Nat) (r':Value) (b:Nat),vs[i]? = some r'→i≠j→r.ownBlock=some b→r'.ownBlock≠some b:=by
  intro i r' b hi hij hb;have hv:i<vs.length:=by
   rcases Nat.lt_or_ge i vs.length with h | h
   ·exact h
   ·rw [List.getElem?_eq_none h] at hi; cases hi
  refine hd i r' b ?_ hij (by omega) hb;rw [h1.cellAt i (by rw [<-h1.1]; exact hv)];exact hi
 have gkeep:∀(b:Nat) (c:Array Value),w.heap[b]? = some (Obj.cells c 3 (0,0))→(w.setCell ⟨g,j,none⟩ r).heap[b]? = w.heap[b]?:=fun b c t2=>by
  refine heap_setCell_other w ⟨g,j,none⟩ b _ (fun e1=>?_);obtain ⟨c1,t1⟩:=zA1 h1 (b:=g) rfl;subst e1;rw [t1] at t2;simp only [Option.some.injEq,Obj.cells.injEq] at t2;exact he t2.2.1
 refine ⟨vs.set j r,hst.1,by simpa using h2,h3,fun i r1 x hr1 hx1=>?_,fun i k r1 r2 b hik hr1 hr2 hb=>?_⟩
 ·by_cases hij:i=j
  ·subst hij;have hv:i<vs.length:=by omega
   simp [hj] at hx1;simp [hv] at hr1;subst hx1;subst hr1;exact zBj.keep (x:=.inl l) hr (fun b hb=>let ⟨c,t⟩:=zBj.tag (x:=.inl l) hr hb; gkeep b c t)
  ·rw [List.getElem?_set_ne (by omega)] at hx1 hr1;exact (h4 i r1 x hr1 hx1).keep fun b hb=>let ⟨c,t⟩:=(h4 i r1 x hr1 hx1).tag hb; gkeep b c t
 ·have hv:j<vs.length:=by omega
  by_cases hij:i=j
  ·subst hij;simp [hv] at hr1;subst hr1;rw [List.getElem?_set_ne (by omega)] at hr2;exact hd' k r2 b hr2 (by omega) hb
  ·rw [List.getElem?_set_ne (by omega)] at hr1;by_cases hkj:k=j
   ·subst hkj;simp [hv] at hr2;subst hr2;exact fun hb2=>hd' i r1 b hr1 hij hb2 hb
   ·rw [List.getElem?_set_ne (by omega)] at hr2;exact h5 i k r1 r2 b hik hr1 hr2 hb
end
abbrev zDz (L:List (List Int)):List It:=L.map .inl
abbrev FII (S:Nat→Prop) (w:World) (v:Value) (L:List (List Int)):Prop:=FC S 29 1 w v L.length (zDz L)
theorem FII.read {S:Nat→Prop} {w:World} {v:Value} {L:List (List Int)} (h:FII S w v L):RII S w v L:=by
 obtain ⟨vs,h1,h2,h3,h4,_⟩:=h;refine RL.of_own h1 rfl (fun b hb _=>h3 b hb) (fun j x r hx hr=>?_);exact FI.reads (h4 j r (.inl x) hr (by simp [hx]))
theorem FII.below {S:Nat→Prop} {w w':World} {v:Value} {L:List (List Int)} (h:FII S w v L) (hb:Below w.heap.size w w'):FII S w' v L:=FC.below h hb
theorem FII.only {S S':Nat→Prop} {w w':World} {v:Value} {L:List (List Int)} (h:FII S w v L) (k:Only S' w w') (hd:∀b,S b→¬S' b):FII S w' v L:=FC.only h k hd
theorem FII.any {S:Nat→Prop} {w:World} {v:Value} {L:List (List Int)} (h:FII S w v L):RII Any w v L:=RII.any h.read
end Go.Proofs.YtlgcdacpjcnjgaaGreatDoor
namespace Go.Proofs.YtlgcdacpjcnjgaaGreatDoor
open Go.RowKit
set_option maxRecDepth 20000
set_option maxHeartbeats 8000000
structure GW (w:World) where
 wd:World
 le:Below w.heap.size w wd
instance (w:World):Nonempty (GW w):=⟨⟨w,Below.refl _ _⟩⟩
theorem GW.cell {w:World} (x:GW w) {b o:Nat} {v:Value} (h:w.cell? ⟨b,o,none⟩=some v):x.wd.cell? ⟨b,o,none⟩=some v :=
 (x.le.cell (p:=⟨b,o,none⟩) (zTH w _ h)).trans h
theorem Calls.grow {f:FuncId} {args:Array Value} {w:World} {v:Value} (x:GW w)
  (h:Calls Tryz.prog f args x.wd fun e w'=>e=.returned v∧Below x.wd.heap.size x.wd w'):Calls Tryz.prog f args x.wd fun e w''=>e=.returned v∧∃y:GW w,w''=y.wd :=
 h.mono fun _ w' ⟨he,hb⟩=>⟨he,⟨w',zAC.step x.le hb⟩,rfl⟩
theorem Calls.grow_of {f:FuncId} {args:Array Value} {w:World} {v v':Value} (x:GW w)
  (h:Calls Tryz.prog f args x.wd fun e w'=>e=.returned v∧Below x.wd.heap.size x.wd w') (hv:v=v'):Calls Tryz.prog f args x.wd fun e w''=>e=.returned v'∧∃y:GW w,w''=y.wd:=by
 subst hv; exact Calls.grow x h
theorem Calls.quietly {f:FuncId} {args:Array Value} {w:World} {v:Value}
  (h:Calls Tryz.prog f args w fun e w'=>e=.returned v∧∃m,w'=w.drewN m):Calls Tryz.prog f args w fun e w'=>e=.returned v∧Below w.heap.size w w' :=
 h.mono fun _ _ ⟨he,hm⟩=>⟨he,zAu hm⟩
theorem zBT {id:Nat} {Q:Exit→Act→World→Prop} {a:Act} {w:World} {l:List Oper} (hm:Tryz.prog.follows .mixedOrders=true) (hB:Region.lexB .any l.toArray=true)
  (h:wpQuiet Tryz.prog l.toArray (fun w'=>∃x:GW w,w'=x.wd) (fun a'=>∀w',Below w.heap.size w w'→Q .normal a' w') l a):(Code.region id l.toArray true).wp Tryz.prog Q a w:=by
 refine wp_region_quiet (C:=fun w'=>∃x:GW w,w'=x.wd) hm hB ⟨⟨w.drew,(Below.refl _ w).drew⟩,rfl⟩ ?_;have:(fun a'=>∀w',Below w.heap.size w w'→Q .normal a' w')=(fun a'=>∀w',(∃x:GW w,w'=x.wd)→Q .normal a' w'):=by
  funext a';refine propext ⟨fun h w' hx=>?_,fun h w' hb=>h w' ⟨⟨w',hb⟩,rfl⟩⟩;obtain ⟨x,rfl⟩:=hx;exact h _ x.le
 rw [this] at h;simpa using h
def cmpL:List Int→List Int→Int
 | x::xs,y::ys=>if x<y then -1 else if y<x then 1 else cmpL xs ys
 | _,_=>0
def cmpW (l l':List Int):Int:=if l.length=l'.length then cmpL l l' else if l.length<l'.length then -1 else 1
theorem zKG:∀{l l':List Int},l.length=l'.length→(cmpL l l'=0↔l=l')
 | [],[],_=>by simp [cmpL]
 | [],_::_,h=>by simp at h
 | _::_,[],h=>by simp at h
 | x::xs,y::ys,h=>by
  have ih:=zKG (l:=xs) (l':=ys) (by simpa using h);unfold cmpL;by_cases h1:x<y
  ·simp [h1]; intro h; omega
  ·by_cases h2:y<x
   ·simp [h1,h2]; intro h; omega
   ·have:x=y:=by omega
    subst this;simp [ih]
theorem zCR {l l':List Int}:cmpW l l'=0↔l=l':=by
 unfold cmpW;by_cases h:l.length=l'.length
 ·rw [if_pos h]; exact zKG h
 ·rw [if_neg h];constructor
  ·intro h2; split at h2 <;> omega
  ·intro h2; subst h2; exact absurd rfl h
def eqL (l l':List Int):Bool:=decide (l=l')
theorem zGy (l l':List Int):(cmpW l l' == 0)=eqL l l':=by
 rw [Bool.eq_iff_iff];simp [eqL,zCR]
theorem zDS {S S':Nat→Prop} {u v:Value} {l l':List Int} {w:World} (h:RI S w u l) (h':RI S' w v l') (hl:l.length≤16777216) (_hl':l'.length≤16777216) :
  Calls Tryz.prog 135 #[u,v] w fun e w'=>e=.returned (.int .i64 (cmpW l l'))∧∃m,w'=w.drewN m:=by
 obtain ⟨a,cap,rfl⟩:=h.form;obtain ⟨a',cap',rfl⟩:=h'.form;generalize hr:cmpW l l'=r;have R:=zTD hr;clear hr;by_cases hlen:l.length=l'.length
 ·have R2:Hid (cmpL l l'=r):=by have:=R.out; rw [cmpW,if_pos hlen] at this; exact zTD this
  clear R;rw [<-hlen] at h' ⊢;generalize hn:l.length=n at *;have H:=zTD hn;have H':=zTD hlen;clear hn hlen;go_enter Tryz.func135,Tryz.ntmps135
  go_wp2_with fail
  go_loopw [5] (fun i wr=>∃k:Nat,k≤n∧i=.int .i64 k∧(∃m,wr=w.drewN m)∧Hid (cmpL (l.drop k) (l'.drop k)=r)) (fun i _=>n-(intOf i).toNat)
  case atStart=>exact ⟨0,Nat.zero_le _,rfl,dr0,R2⟩
  case round =>
   obtain ⟨k,hk,rfl,⟨m,hw⟩,HR⟩:=hrel;subst hw;by_cases hlt:k<n
   ·obtain ⟨b,o,x,rfl,hc,hx⟩:=h.at hlt;obtain ⟨b',o',y,rfl,hc',hy⟩:=h'.at hlt;have b1:(k:Int)<(n:Int):=by omega
    have HR2:Hid ((if x<y then -1 else if y<x then 1 else cmpL (l.drop (k+1)) (l'.drop (k+1)))=r):=by
     have:=HR.out;rw [zAK hx.out,zAK hy.out,cmpL] at this;exact zTD this
    by_cases h1:x<y
    ·have h1':decide (x<y)=true:=by simpa using h1
     go_wp2_with fail
     go_quiet (fail)
     go_wp2_with fail
     go_ret
     exact ⟨zAR (by have:=HR2.out; rw [if_pos (by omega)] at this; exact this),(by first | exact dr1 | exact dr2 | exact dr3)⟩
    ·have h1':decide (x<y)=false:=by simpa using h1
     go_wp2_with fail
     go_quiet (fail)
     go_wp2_with fail
     by_cases h2:y<x
     ·have h2':decide (y<x)=true:=by simpa using h2
      go_quiet (fail)
      go_wp2_with fail
      go_ret
      exact ⟨zAR (by have:=HR2.out; rw [if_neg (by omega),if_pos (by omega)] at this; exact this),(by first | exact dr1 | exact dr2 | exact dr3)⟩
     ·have h2':decide (y<x)=false:=by simpa using h2
      go_quiet (fail)
      go_wp2_with fail
      go_roundw
      case rel=>exact ⟨k+1,by omega,by go_num,(by first | exact dr1 | exact dr2 | exact dr3),by have:=HR2.out; rw [if_neg (by omega),if_neg (by omega)] at this; exact zTD this⟩
      case measure=>simp [intOf]; omega
   ·go_wp2_with fail
    go_ret
    refine ⟨zAR ?_,m,rfl⟩;have:=HR.out;rw [List.drop_eq_nil_of_le (by have:=H.out; omega)] at this;rw [<-this];simp [cmpL]
 ·have hne:((l.length:Int) == (l'.length:Int))=false:=by simp; omega
  have R2:Hid ((if l.length<l'.length then (-1:Int) else 1)=r):=by have:=R.out; rw [cmpW,if_neg hlen] at this; exact zTD this
  clear R;generalize l.length=n at *;generalize l'.length=n' at *;by_cases h1:n<n'
  ·go_enter Tryz.func135,Tryz.ntmps135
   go_wp2_with fail
   go_ret
   exact ⟨zAR (by have:=R2.out; rw [if_pos (by omega)] at this; exact this),0,rfl⟩
  ·go_enter Tryz.func135,Tryz.ntmps135
   go_wp2_with fail
   go_ret
   exact ⟨zAR (by have:=R2.out; rw [if_neg (by omega)] at this; exact this),0,rfl⟩
theorem zCl {S S':Nat→Prop} {u v:Value} {l l':List Int} {w:World} (h:RI S w u l) (h':RI S' w v l') (hl:l.length≤16777216) (hl':l'.length≤16777216) :
  Calls Tryz.prog 75 #[u,v] w fun e w'=>e=.returned (.bool (eqL l l'))∧∃m,w'=w.drewN m:=by
 have E:=zTD (zGy l l');go_enter Tryz.func75,Tryz.ntmps75
 go_wp2_with fail
 refine (zDS h h' hl hl').mono ?_;generalize cmpW l l'=r at *;rintro e w' ⟨rfl,hw⟩;go_wp2_with fail
 go_ret
 exact ⟨zAG E.out,hw⟩
theorem zSN {l l':List Int} {k:Nat} {x y:Int} (hx:l[k]? = some x) (hy:l'[k]? = some y) (h:x≠y):eqL l l'=false:=by
 unfold eqL;rw [decide_eq_false_iff_not];intro e;subst e;rw [hx] at hy;exact h (by simpa using hy)
theorem zQa {l l':List Int} {n:Nat} (hl:l.length=n) (hl':l'.length=n) (h:∀j,j<n→l[j]? = l'[j]?):eqL l l'=true:=by
 unfold eqL;rw [decide_eq_true_eq];refine List.ext_getElem? fun j=>?_;rcases Nat.lt_or_ge j n with hj | hj
 ·exact h j hj
 ·rw [List.getElem?_eq_none (by omega),List.getElem?_eq_none (by omega)]
theorem zQb {l l':List Int} (h:l.length≠l'.length):eqL l l'=false:=by
 unfold eqL;rw [decide_eq_false_iff_not];intro e;subst e;exact h rfl
theorem zJw {S S':Nat→Prop} {u v:Value} {l l':List Int} {w:World} (h:RI S w u l) (h':RI S' w v l') (hl:l.length≤16777216) (_hl':l'.length≤16777216) :
  Calls Tryz.prog 89 #[u,v] w fun e w'=>e=.returned (.bool (eqL l l'))∧∃m,w'=w.drewN m:=by
 obtain ⟨a,cap,rfl⟩:=h.form;obtain ⟨a',cap',rfl⟩:=h'.form;by_cases hlen:l.length=l'.length
 ·generalize hr:eqL l l'=r;have R:=zTD hr;clear hr;rw [<-hlen] at h' ⊢;generalize hn:l.length=n at *;have H:=zTD hn;have H':=zTD hlen;clear hn hlen;go_enter Tryz.func89,Tryz.ntmps89
  go_wp2_with fail
  go_loopw [13] (fun i wr=>∃k:Nat,k≤n∧i=.int .i64 k∧(∃m,wr=w.drewN m)∧Hid (∀j,j<k→l[j]? = l'[j]?)) (fun i _=>n-(intOf i).toNat)
  case atStart=>exact ⟨0,Nat.zero_le _,rfl,dr0,zTD (by intro j hj; omega)⟩
  case round =>
   obtain ⟨k,hk,rfl,⟨m,hw⟩,HR⟩:=hrel;subst hw;by_cases hlt:k<n
   ·obtain ⟨b,o,x,rfl,hc,hx⟩:=h.at hlt;obtain ⟨b',o',y,rfl,hc',hy⟩:=h'.at hlt;have b1:(k:Int)<(n:Int):=by omega
    by_cases h1:x=y
    ·subst h1;go_wp2_with fail
     go_quiet (fail)
     go_wp2_with fail
     go_roundw
     case rel =>
      refine ⟨k+1,by omega,by go_num,(by first | exact dr1 | exact dr2 | exact dr3),zTD ?_⟩;intro j hj;rcases Nat.lt_or_ge j k with h | h
      ·exact HR.out j h
      ·have:j=k:=by omega
       subst this;rw [hx.out,hy.out]
     case measure=>simp [intOf]; omega
    ·have h1':(x != y)=true:=by simpa using h1
     have E:=zTD (zSN hx.out hy.out h1);clear h1;go_wp2_with fail
     go_quiet (fail)
     go_wp2_with fail
     go_ret
     exact ⟨zAG (by rw [<-R.out,E.out]),(by first | exact dr1 | exact dr2 | exact dr3)⟩
   ·go_wp2_with fail
    go_ret
    refine ⟨zAG ?_,m,rfl⟩;rw [<-R.out,zQa H.out H'.out.symm (fun j hj=>HR.out j (by omega))]
 ·have hne:((l.length:Int) != (l'.length:Int))=true:=by simp; omega
  have E:=zTD (zQb hlen);generalize eqL l l'=r at *;generalize l.length=n at *;generalize l'.length=n' at *;go_enter Tryz.func89,Tryz.ntmps89
  go_wp2_with fail
  go_ret
  exact ⟨zAG E.out.symm,0,rfl⟩
def cmp3 (x y:Int):Int:=if x<y then -1 else if y<x then 1 else 0
def lexC:List Int→List Int→Int
 | [],[]=>0
 | [],_::_=>-1
 | _::_,[]=>1
 | x::xs,y::ys=>if x<y then -1 else if y<x then 1 else lexC xs ys
theorem zHe:∀{l l':List Int},l.length=l'.length→lexC l l'=cmpL l l'
 | [],[],_=>rfl
 | [],_::_,h=>by simp at h
 | _::_,[],h=>by simp at h
 | x::xs,y::ys,h=>by
  unfold lexC cmpL;rw [zHe (by simpa using h)]
theorem zOU (n m:Nat):cmp3 n m=if n=m then 0 else if n<m then -1 else 1:=by
 unfold cmp3;by_cases h:n=m
 ·subst h; simp
 ·by_cases h2:n<m
  ·rw [if_pos (by omega),if_neg h,if_pos h2]
  ·rw [if_neg (by omega),if_pos (by omega),if_neg h,if_neg h2]
theorem zHd (x:Int) (w:World) :
  Calls Tryz.prog 173 #[.int .i64 x] w fun e w'=>e=.returned (.bool false)∧w'=w:=by
 go_enter Tryz.func173,Tryz.ntmps173
 go_wp2
 go_ret
 exact ⟨zAG (by simp),rfl⟩
theorem zGI (x y:Int) (w:World) :
  Calls Tryz.prog 194 #[.int .i64 x,.int .i64 y] w fun e w'=>e=.returned (.int .i64 (cmp3 x y))∧w'=w:=by
 have H1:Hid (x<y→cmp3 x y = -1):=zTD (fun h=>by unfold cmp3; rw [if_pos h]);have H2:Hid (¬x<y→y<x→cmp3 x y=1):=zTD (fun h h2=>by unfold cmp3; rw [if_neg h,if_pos h2]);have H3:Hid (¬x<y→¬y<x→cmp3 x y=0):=zTD (fun h h2=>by unfold cmp3; rw [if_neg h,if_neg h2]);go_enter Tryz.func194,Tryz.ntmps194
 go_wp2_with fail
 refine (zHd x w).mono ?_;rintro e w2 ⟨rfl,rfl⟩;go_wp2_with fail
 refine (zHd y w2).mono ?_;rintro e w3 ⟨rfl,rfl⟩;by_cases h1:x<y
 ·have e0:=zTD (H1.out h1);go_wp2_with fail
  go_ret
  exact ⟨zAR e0.out.symm,rfl⟩
 ·by_cases h2:y<x
  ·have e0:=zTD (H2.out (by omega) (by omega));go_wp2_with fail
   go_ret
   exact ⟨zAR e0.out.symm,rfl⟩
  ·have e0:=zTD (H3.out (by omega) (by omega));go_wp2_with fail
   go_ret
   exact ⟨zAR e0.out.symm,rfl⟩
theorem zIA {S S':Nat→Prop} {u v:Value} {l l':List Int} {w:World} (h:RI S w u l) (h':RI S' w v l') (hl:l.length≤16777216) (_hl':l'.length≤16777216) :
  Calls Tryz.prog 195 #[u,v] w fun e w'=>e=.returned (.int .i64 (lexC l l'))∧w=w':=by
 obtain ⟨a,cap,rfl⟩:=h.form;obtain ⟨a',cap',rfl⟩:=h'.form;have HR:Hid (lexC (l.drop 0) (l'.drop 0)=lexC l l'):=zTD (by simp);generalize lexC l l'=res at *;generalize hn:l.length=n at *;have HN:=zTD hn;clear hn;generalize hm:l'.length=m at *;have HM:=zTD hm;clear hm;go_enter Tryz.func195,Tryz.ntmps195
 go_wp2_with fail
 go_loop [11] (fun j=>∃(k:Nat),k≤n∧j=.int .i64 k∧Hid (k≤m∧lexC (l.drop k) (l'.drop k)=res)) (fun j=>n-(intOf j).toNat)
 case atStart=>exact ⟨0,Nat.zero_le _,rfl,zTD ⟨Nat.zero_le _,HR.out⟩⟩
 case round =>
  obtain ⟨k,hk,rfl,HK⟩:=hrel;by_cases hlt:k<n
  ·obtain ⟨b,o,x,rfl,hc,hx⟩:=h.at hlt;by_cases hlt2:k<m
   ·obtain ⟨b',o',y,rfl,hc',hy⟩:=h'.at hlt2;have HS:Hid ((x<y→res = -1)∧(¬x<y→y<x→res=1)∧(¬x<y→¬y<x→lexC (l.drop (k+1)) (l'.drop (k+1))=res)):=zTD (by
     have:=HK.out.2;rw [zAK hx.out,zAK hy.out] at this;unfold lexC at this;refine ⟨fun h=>?_,fun h h2=>?_,fun h h2=>?_⟩
     ·rw [if_pos h] at this; exact this.symm
     ·rw [if_neg h,if_pos h2] at this; exact this.symm
     ·rw [if_neg h,if_neg h2] at this; exact this)
    go_wp2_with fail
    refine (zGI x y w).mono ?_;rintro e w2 ⟨rfl,rfl⟩;have H1:Hid (x<y→cmp3 x y = -1):=zTD (fun h=>by unfold cmp3; rw [if_pos h]);have H2:Hid (¬x<y→y<x→cmp3 x y=1):=zTD (fun h h2=>by unfold cmp3; rw [if_neg h,if_pos h2]);have H3:Hid (¬x<y→¬y<x→cmp3 x y=0):=zTD (fun h h2=>by unfold cmp3; rw [if_neg h,if_neg h2]);by_cases h1:x<y
    ·have e0:=zTD (HS.out.1 h1);rw [H1.out h1];go_wp2_with fail
     go_ret
     exact ⟨zAR e0.out.symm,rfl⟩
    ·by_cases h2:y<x
     ·have e0:=zTD (HS.out.2.1 (by omega) (by omega));rw [H2.out (by omega) (by omega)];go_wp2_with fail
      go_ret
      exact ⟨zAR e0.out.symm,rfl⟩
     ·have e0:=zTD (HS.out.2.2 (by omega) (by omega));rw [H3.out (by omega) (by omega)];go_wp2_with fail
      go_round
      case rel=>exact ⟨k+1,by omega,by go_num,zTD ⟨by omega,e0.out⟩⟩
      case measure=>simp [intOf]; omega
   ·have e0:Hid (res=1):=zTD (by
     have:=HK.out.2;have he:l'.drop k=[]:=List.drop_of_length_le (by have:=HM.out; omega);rw [zAK hx.out,he] at this;exact this.symm)
    have hge:(m:Int)≤(k:Int):=by omega
    go_wp2_with fail
    go_ret
    exact ⟨zAR e0.out.symm,rfl⟩
  ·have hkn:k=n:=by omega
   have HK1:=HK.out.1;have he:l.drop k=[]:=List.drop_of_length_le (by have:=HN.out; omega);by_cases hnm:n<m
   ·have e0:Hid (res = -1):=zTD (by
     have:=HK.out.2;obtain ⟨y,hy⟩:∃y,l'[k]? = some y:=⟨_,zTE (by have:=HM.out; omega)⟩;rw [he,zAK hy] at this;exact this.symm)
    clear he;go_wp2_with fail
    go_ret
    exact ⟨zAR e0.out.symm,rfl⟩
   ·have e0:Hid (res=0):=zTD (by
     have:=HK.out.2;have he2:l'.drop k=[]:=List.drop_of_length_le (by have:=HM.out; omega);rw [he,he2] at this;exact this.symm)
    clear he;go_wp2_with fail
    go_ret
    exact ⟨zAR e0.out.symm,rfl⟩
theorem zSL {w:World} {g:Nat} {x y:Int} (h:RI Any w (.slice (some ⟨g,0,none⟩) 2 2) [x,y]) :
  Calls Tryz.prog 193 #[.slice (some ⟨g,0,none⟩) 2 2] w fun e w'=>e=.returned (.int .i64 (if x=0 then y else x))∧w=w':=by
 obtain ⟨b,o,x',e,hc,hx⟩:=RI.at h (j:=0) (by omega);obtain ⟨b',o',y',e',hc',hy⟩:=RI.at h (j:=1) (by omega);simp only [Option.some.injEq,Addr.mk.injEq,and_true] at e e';obtain ⟨rfl,rfl⟩:=e;obtain ⟨rfl,rfl⟩:=e';have h1:=hx.out;have h2:=hy.out;simp at h1 h2;subst h1; subst h2;clear hx hy h;have HX:Hid (x=0→(if x=0 then y else x)=y):=zTD (fun h=>if_pos h);have HY:Hid (¬x=0→(if x=0 then y else x)=x):=zTD (fun h=>if_neg h);generalize (if x=0 then y else x)=res at *;go_enter Tryz.func193,Tryz.ntmps193
 go_wp2_with fail
 go_loop [8] (fun j=>∃(k:Nat),k≤2∧j=.int .i64 k∧Hid (0<k→x=0)∧Hid (1<k→y=0)) (fun j=>2-(intOf j).toNat)
 case atStart=>exact ⟨0,by omega,rfl,zTD (by omega),zTD (by omega)⟩
 case round =>
  obtain ⟨k,hk,rfl,HK,HL⟩:=hrel
  match k,hk,HK,HL with
  | 0,_,_,_ =>
   by_cases h0:x=0
   ·have H0:=zTD h0;subst h0;go_wp2_with fail
    go_round
    case rel=>exact ⟨1,by omega,by go_num,zTD (fun _=>by first | exact H0.out | trivial),zTD (by omega)⟩
    case measure=>simp [intOf]
   ·have e0:Hid (res=x):=zTD (HY.out h0);go_wp2_with fail
    go_ret
    exact ⟨zAR e0.out.symm,rfl⟩
  | 1,_,HK,_ =>
   have e0:Hid (res=y):=zTD (HX.out (HK.out (by omega)));by_cases h0:y=0
   ·have H0:=zTD h0;subst h0;go_wp2_with fail
    go_round
    case rel=>exact ⟨2,by omega,by go_num,zTD (fun _=>HK.out (by omega)),zTD (fun _=>by first | exact H0.out | trivial)⟩
    case measure=>simp [intOf]
   ·go_wp2_with fail
    go_ret
    exact ⟨zAR e0.out.symm,rfl⟩
  | 2,_,HK,HL =>
   have e0:Hid (res=0):=zTD (by rw [HX.out (HK.out (by omega))]; exact HL.out (by omega));go_wp2_with fail
   go_ret
   exact ⟨zAR e0.out.symm,rfl⟩
  | k+3,hk,_,_=>omega
theorem zQK (l l':List Int):(if cmp3 l.length l'.length=0 then lexC l l' else cmp3 l.length l'.length)=cmpW l l':=by
 unfold cmpW;rw [zOU];by_cases h:l.length=l'.length
 ·rw [if_pos h,if_pos h]; simp [zHe h]
 ·rw [if_neg h,if_neg h];by_cases h2:l.length<l'.length
  ·rw [if_pos h2]; simp
  ·rw [if_neg h2]; simp
def gtL:List Int→List Int→Bool
 | x::xs,y::ys=>if x=y then gtL xs ys else decide (y<x)
 | _,_=>false
theorem zKV:∀a:List Int,gtL a a=false
 | []=>rfl
 | x::xs=>by unfold gtL; rw [if_pos rfl]; exact zKV xs
theorem zHY:∀{a b:List Int},a.length=b.length→a≠b→gtL a b=true∨gtL b a=true
 | [],[],_,h=>absurd rfl h
 | [],_::_,h,_=>by simp at h
 | _::_,[],h,_=>by simp at h
 | x::xs,y::ys,h,hn=>by
  unfold gtL;by_cases e:x=y
  ·subst e;rw [if_pos rfl,if_pos rfl];exact zHY (by simpa using h) (fun e=>hn (by rw [e]))
  ·rw [if_neg e,if_neg (fun e'=>e e'.symm)];simp only [decide_eq_true_eq];omega
theorem zHZ:∀{a b d:List Int},gtL a b=true→gtL b d=true→gtL a d=true
 | [],_,_,h,_=>by simp [gtL] at h
 | _::_,[],_,h,_=>by simp [gtL] at h
 | _::_,_::_,[],_,h=>by simp [gtL] at h
 | x::xs,y::ys,z::zs,h,k=>by
  unfold gtL at h k ⊢;by_cases e:x=y
  ·subst e;rw [if_pos rfl] at h;by_cases e2:x=z
   ·rw [if_pos e2] at k ⊢; exact zHZ h k
   ·rw [if_neg e2] at k ⊢; exact k
  ·rw [if_neg e] at h;have h:=of_decide_eq_true h;by_cases e2:y=z
   ·subst e2;rw [if_neg e]; simpa using h
   ·rw [if_neg e2] at k;have k:=of_decide_eq_true k;rw [if_neg (by omega)]; simp; omega
def putV (v:List Int):List (List Int)→List (List Int)
 | []=>[v]
 | x::l=>if x=v then x::l else if gtL v x=true then v::x::l else x::putV v l
end Go.Proofs.YtlgcdacpjcnjgaaGreatDoor
