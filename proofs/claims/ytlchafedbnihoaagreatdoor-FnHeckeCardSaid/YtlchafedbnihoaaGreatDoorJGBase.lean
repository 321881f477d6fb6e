/- Plain lemmas of the seat: what it means that a slice value reads as a list, that it survives new memory, and that a slice of the call's own is such a one. No condition. -/
import Derived.Test.YtlchafedbnihoaaGreatDoorRows
import Derived.WalkKit
import Derived.WalkSpells
import Derived.WalkLawsBesides
import Derived.BigQuiet
import Derived.Deep.QuietTactic
import Derived.Lib.Hide
import Derived.Laws.AppendOwnNone
namespace Go.Proofs.YtlchafedbnihoaaGreatDoor
open Go.RowKit
set_option maxRecDepth 20000
abbrev zNh:=@List.getElem?_eq_getElem
abbrev zNi:=@List.mem_of_getElem?
abbrev zNk:=@World.block_lt_of_cell?
abbrev zNl:=@Nat.le_refl
theorem zNj {α:Type} {l:List α} {i:Nat} {a:α} (h:l[i]? = some a):∃h:i<l.length,l[i]=a:=List.getElem?_eq_some_iff.1 h
theorem zNg {p:Prop} (h:p):Hid p:=Lib.hid h
abbrev zAA (w w':World):Prop:=Below w.heap.size w w'
theorem zAA.step {a b c:World} (h:Below a.heap.size a b) (k:Below b.heap.size b c):Below a.heap.size a c :=
 h.trans (k.mono h.size)
def Tag:Option TypeId→World→Nat→Prop
 | none,_,_=>True
 | some e,w,b=>∃cur fz,w.heap[b]? = some (.cells cur e fz)
def RL {α:Type} (e:Option TypeId) (S:Nat→Prop) (R:World→Value→α→Prop) (w:World) (v:Value) (L:List α):Prop :=
 ∃a cap,v=.slice a L.length cap∧(L.length≤cap∧cap≤maxLen)∧(L=[]∨∃b o,a=some ⟨b,o,none⟩∧S b∧Tag e w b∧∀j x,L[j]? = some x→∃r,w.cell? ⟨b,o+j,none⟩=some r∧R w r x)
def RL2 {α:Type} (e:Option TypeId) (S:Nat→Prop) (R:World→Value→Value→α→Prop) (w:World) (v:Value) (L:List α):Prop :=
 ∃a cap,v=.slice a L.length cap∧(L.length≤cap∧cap≤maxLen)∧(L=[]∨∃b o,a=some ⟨b,o,none⟩∧S b∧Tag e w b ∧
  ∀j x,L[j]? = some x→∃r r',w.cell? ⟨b,o+j*2,none⟩=some r∧w.cell? ⟨b,o+j*2+1,none⟩=some r'∧R w r r' x)
theorem Tag.keep {e:Option TypeId} {w w':World} {b:Nat} (h:Tag e w b) (hb:b<w.heap.size→w'.heap[b]? = w.heap[b]?):Tag e w' b:=by
 cases e with
 | none=>trivial
 | some e =>
 obtain ⟨cur,fz,h⟩:=h;exact ⟨cur,fz,by rw [hb (Array.getElem?_eq_some_iff.1 h).1]; exact h⟩
def RInt (_:World) (r:Value) (n:Int):Prop:=r=.int .i64 n
abbrev RI (S:Nat→Prop):=RL (some 3) S RInt
abbrev RII (S:Nat→Prop):=RL (some 33) S (RI S)
abbrev Any:Nat→Prop:=fun _=>True
abbrev Bt (lo hi:Nat):Nat→Prop:=fun b=>lo≤b∧b<hi
abbrev New (w w':World):Nat→Prop:=Bt w.heap.size w'.heap.size
theorem RL.nil {α:Type} {e:Option TypeId} {S:Nat→Prop} {R:World→Value→α→Prop} {w:World} (a:Option Addr) (cap:Nat) (hc:cap≤maxLen):RL e S R w (.slice a 0 cap) ([]:List α) :=
 ⟨a,cap,rfl,⟨Nat.zero_le _,hc⟩,.inl rfl⟩
theorem RL2.nil {α:Type} {e:Option TypeId} {S:Nat→Prop} {R:World→Value→Value→α→Prop} {w:World} (a:Option Addr) (cap:Nat) (hc:cap≤maxLen):RL2 e S R w (.slice a 0 cap) ([]:List α) :=
 ⟨a,cap,rfl,⟨Nat.zero_le _,hc⟩,.inl rfl⟩
theorem RL.mono {α:Type} {e:Option TypeId} {S S':Nat→Prop} {R R':World→Value→α→Prop} {w:World} {v:Value} {L:List α} (h:RL e S R w v L)
  (hS:∀b,S b→S' b) (hR:∀r x,R w r x→R' w r x):RL e S' R' w v L:=by
 obtain ⟨a,cap,hv,hcap,h⟩:=h;refine ⟨a,cap,hv,hcap,?_⟩;rcases h with h | ⟨b,o,ha,hs,ht,h⟩
 ·exact .inl h
 ·exact .inr ⟨b,o,ha,hS b hs,ht,fun j x hx=>let ⟨r,h1,h2⟩:=h j x hx; ⟨r,h1,hR _ _ h2⟩⟩
theorem RL.keep {α:Type} {e:Option TypeId} {S:Nat→Prop} {R:World→Value→α→Prop} {w w':World} {v:Value} {L:List α} (h:RL e S R w v L)
  (hb:∀b,S b→b<w.heap.size→w'.heap[b]? = w.heap[b]?) (hR:∀r x,R w r x→R w' r x):RL e S R w' v L:=by
 obtain ⟨a,cap,hv,hcap,h⟩:=h;refine ⟨a,cap,hv,hcap,?_⟩;rcases h with h | ⟨b,o,ha,hs,ht,h⟩
 ·exact .inl h
 ·refine .inr ⟨b,o,ha,hs,ht.keep (hb b hs),fun j x hx=>?_⟩;obtain ⟨r,h1,h2⟩:=h j x hx;refine ⟨r,?_,hR _ _ h2⟩;have hlt:=zNk w _ h1;rw [World.cell?_of_block (w:=w) (hb b hs hlt)];exact h1
theorem RI.keep {S:Nat→Prop} {w w':World} {v:Value} {L:List Int} (h:RI S w v L)
  (hb:∀b,S b→b<w.heap.size→w'.heap[b]? = w.heap[b]?):RI S w' v L:=RL.keep h hb (fun _ _ h=>h)
theorem RII.keep {S:Nat→Prop} {w w':World} {v:Value} {L:List (List Int)} (h:RII S w v L)
  (hb:∀b,S b→b<w.heap.size→w'.heap[b]? = w.heap[b]?):RII S w' v L:=RL.keep h hb (fun _ _ h=>RI.keep h hb)
theorem RI.below {S:Nat→Prop} {w w':World} {v:Value} {L:List Int} (h:RI S w v L) (hb:Below w.heap.size w w'):RI S w' v L :=
 RI.keep h fun b _ hl=>hb.block b hl
theorem RII.below {S:Nat→Prop} {w w':World} {v:Value} {L:List (List Int)} (h:RII S w v L) (hb:Below w.heap.size w w'):RII S w' v L :=
 RII.keep h fun b _ hl=>hb.block b hl
theorem RI.drewN {S:Nat→Prop} {w:World} {v:Value} {L:List Int} (h:RI S w v L) (n:Nat):RI S (w.drewN n) v L :=
 RI.keep h fun _ _ _=>rfl
theorem RII.drewN {S:Nat→Prop} {w:World} {v:Value} {L:List (List Int)} (h:RII S w v L) (n:Nat):RII S (w.drewN n) v L :=
 RII.keep h fun _ _ _=>rfl
theorem RI.drew {S:Nat→Prop} {w:World} {v:Value} {L:List Int} (h:RI S w v L):RI S w.drew v L:=RI.keep h fun _ _ _=>rfl
theorem RII.drew {S:Nat→Prop} {w:World} {v:Value} {L:List (List Int)} (h:RII S w v L):RII S w.drew v L:=RII.keep h fun _ _ _=>rfl
theorem RL.old {α:Type} {e:Option TypeId} {S:Nat→Prop} {R R':World→Value→α→Prop} {w:World} {v:Value} {L:List α} (h:RL e S R w v L) (hR:∀r x,R w r x→R' w r x):RL e (Bt 0 w.heap.size) R' w v L:=by
 obtain ⟨a,cap,hv,hcap,h⟩:=h;refine ⟨a,cap,hv,hcap,?_⟩;rcases h with h | ⟨b,o,ha,hs,ht,h⟩
 ·exact .inl h
 ·by_cases hL:L=[]
  ·exact .inl hL
  ·obtain ⟨x,hx⟩:∃x,L[0]? = some x:=⟨L[0]'(List.length_pos_iff.2 hL),zNh _⟩;obtain ⟨r,h1,_⟩:=h 0 x hx;refine .inr ⟨b,o,ha,⟨Nat.zero_le _,zNk w _ h1⟩,ht,fun j x hx=>?_⟩;obtain ⟨r,h1,h2⟩:=h j x hx;exact ⟨r,h1,hR _ _ h2⟩
theorem RL2.old {α:Type} {e:Option TypeId} {S:Nat→Prop} {R R':World→Value→Value→α→Prop} {w:World} {v:Value} {L:List α} (h:RL2 e S R w v L) (hR:∀r r' x,R w r r' x→R' w r r' x):RL2 e (Bt 0 w.heap.size) R' w v L:=by
 obtain ⟨a,cap,hv,hcap,h⟩:=h;refine ⟨a,cap,hv,hcap,?_⟩;rcases h with h | ⟨b,o,ha,hs,ht,h⟩
 ·exact .inl h
 ·by_cases hL:L=[]
  ·exact .inl hL
  ·obtain ⟨x,hx⟩:∃x,L[0]? = some x:=⟨L[0]'(List.length_pos_iff.2 hL),zNh _⟩;obtain ⟨r,r',h1,_⟩:=h 0 x hx;refine .inr ⟨b,o,ha,⟨Nat.zero_le _,zNk w _ h1⟩,ht,fun j x hx=>?_⟩;obtain ⟨r,r',h1,h1',h2⟩:=h j x hx;exact ⟨r,r',h1,h1',hR _ _ _ h2⟩
theorem RI.old {S:Nat→Prop} {w:World} {v:Value} {L:List Int} (h:RI S w v L):RI (Bt 0 w.heap.size) w v L:=RL.old h (fun _ _ h=>h)
theorem RII.old {S:Nat→Prop} {w:World} {v:Value} {L:List (List Int)} (h:RII S w v L):RII (Bt 0 w.heap.size) w v L:=RL.old h (fun _ _ h=>RI.old h)
theorem RI.any {S:Nat→Prop} {w:World} {v:Value} {L:List Int} (h:RI S w v L):RI Any w v L:=RL.mono h (fun _ _=>trivial) (fun _ _ h=>h)
theorem RII.any {S:Nat→Prop} {w:World} {v:Value} {L:List (List Int)} (h:RII S w v L):RII Any w v L:=RL.mono h (fun _ _=>trivial) (fun _ _ h=>RI.any h)
theorem RL.atI {e:Option TypeId} {S:Nat→Prop} {w:World} {a:Option Addr} {n cap:Nat} {L:List Int} (h:RL e S RInt w (.slice a n cap) L) {j:Nat} (hj:j<n) :
  ∃b o x,a=some ⟨b,o,none⟩∧w.cell? ⟨b,o+j,none⟩=some (.int .i64 x)∧Hid (L[j]? = some x):=by
 obtain ⟨a',cap',hv,_,h⟩:=h;simp only [Value.slice.injEq] at hv;obtain ⟨rfl,rfl,rfl⟩:=hv;rcases h with h | ⟨b,o,ha,_,_,h⟩
 ·subst h; simp at hj
 ·obtain ⟨r,h1,h2⟩:=h j L[j] (by simp [hj]);exact ⟨b,o,L[j],ha,by rw [h1]; exact congrArg some h2,zNg (by simp [hj])⟩
theorem RI.at {S:Nat→Prop} {w:World} {a:Option Addr} {n cap:Nat} {L:List Int} (h:RI S w (.slice a n cap) L) {j:Nat} (hj:j<n) :
  ∃b o x,a=some ⟨b,o,none⟩∧w.cell? ⟨b,o+j,none⟩=some (.int .i64 x)∧Hid (L[j]? = some x):=RL.atI h hj
theorem RL.at1 {α:Type} {e:Option TypeId} {S:Nat→Prop} {R:World→Value→α→Prop} {w:World} {a:Option Addr} {n cap:Nat} {L:List α} (h:RL e S R w (.slice a n cap) L) {j:Nat} (hj:j<n) :
  ∃b o r l,a=some ⟨b,o,none⟩∧w.cell? ⟨b,o+j,none⟩=some r∧R w r l∧Hid (L[j]? = some l):=by
 obtain ⟨a',cap',hv,_,h⟩:=h;simp only [Value.slice.injEq] at hv;obtain ⟨rfl,rfl,rfl⟩:=hv;rcases h with h | ⟨b,o,ha,_,_,h⟩
 ·subst h; simp at hj
 ·obtain ⟨r,h1,h2⟩:=h j L[j] (by simp [hj]);exact ⟨b,o,r,L[j],ha,h1,h2,zNg (by simp [hj])⟩
theorem RII.at {S:Nat→Prop} {w:World} {a:Option Addr} {n cap:Nat} {L:List (List Int)} (h:RII S w (.slice a n cap) L) {j:Nat} (hj:j<n) :
  ∃b o r l,a=some ⟨b,o,none⟩∧w.cell? ⟨b,o+j,none⟩=some r∧RI S w r l∧Hid (L[j]? = some l):=RL.at1 h hj
abbrev RI0:=RL none Any RInt
abbrev RII0:=RL none Any RI0
theorem RI0.below {w w':World} {v:Value} {L:List Int} (h:RI0 w v L) (hb:Below w.heap.size w w'):RI0 w' v L :=
 RL.keep h (fun b _ hl=>hb.block b hl) (fun _ _ h=>h)
theorem RII0.below {w w':World} {v:Value} {L:List (List Int)} (h:RII0 w v L) (hb:Below w.heap.size w w'):RII0 w' v L :=
 RL.keep h (fun b _ hl=>hb.block b hl) (fun _ _ h=>RI0.below h hb)
theorem RI0.at {w:World} {a:Option Addr} {n cap:Nat} {L:List Int} (h:RI0 w (.slice a n cap) L) {j:Nat} (hj:j<n) :
  ∃b o x,a=some ⟨b,o,none⟩∧w.cell? ⟨b,o+j,none⟩=some (.int .i64 x)∧Hid (L[j]? = some x):=RL.atI h hj
theorem RII0.at {w:World} {a:Option Addr} {n cap:Nat} {L:List (List Int)} (h:RII0 w (.slice a n cap) L) {j:Nat} (hj:j<n) :
  ∃b o r l,a=some ⟨b,o,none⟩∧w.cell? ⟨b,o+j,none⟩=some r∧RI0 w r l∧Hid (L[j]? = some l):=RL.at1 h hj
theorem RL.form {α:Type} {e:Option TypeId} {S:Nat→Prop} {R:World→Value→α→Prop} {w:World} {v:Value} {L:List α} (h:RL e S R w v L):∃a cap,v=.slice a L.length cap :=
 let ⟨a,cap,hv,_⟩:=h
 ⟨a,cap,hv⟩
theorem RL.small {α:Type} {e:Option TypeId} {S:Nat→Prop} {R:World→Value→α→Prop} {w:World} {v:Value} {L:List α} (h:RL e S R w v L):L.length≤maxLen :=
 let ⟨_,_,_,hc,_⟩:=h
 Nat.le_trans hc.1 hc.2
theorem RL2.small {α:Type} {e:Option TypeId} {S:Nat→Prop} {R:World→Value→Value→α→Prop} {w:World} {v:Value} {L:List α} (h:RL2 e S R w v L):L.length≤maxLen :=
 let ⟨_,_,_,hc,_⟩:=h
 Nat.le_trans hc.1 hc.2
theorem RL2.form {α:Type} {e:Option TypeId} {S:Nat→Prop} {R:World→Value→Value→α→Prop} {w:World} {v:Value} {L:List α} (h:RL2 e S R w v L):∃a cap,v=.slice a L.length cap :=
 let ⟨a,cap,hv,_⟩:=h
 ⟨a,cap,hv⟩
theorem RL2.mono {α:Type} {e:Option TypeId} {S S':Nat→Prop} {R R':World→Value→Value→α→Prop} {w:World} {v:Value} {L:List α} (h:RL2 e S R w v L)
  (hS:∀b,S b→S' b) (hR:∀r r' x,R w r r' x→R' w r r' x):RL2 e S' R' w v L:=by
 obtain ⟨a,cap,hv,hcap,h⟩:=h;refine ⟨a,cap,hv,hcap,?_⟩;rcases h with h | ⟨b,o,ha,hs,ht,h⟩
 ·exact .inl h
 ·exact .inr ⟨b,o,ha,hS b hs,ht,fun j x hx=>let ⟨r,r',h1,h1',h2⟩:=h j x hx; ⟨r,r',h1,h1',hR _ _ _ h2⟩⟩
theorem RL2.keep {α:Type} {e:Option TypeId} {S:Nat→Prop} {R:World→Value→Value→α→Prop} {w w':World} {v:Value} {L:List α} (h:RL2 e S R w v L)
  (hb:∀b,S b→b<w.heap.size→w'.heap[b]? = w.heap[b]?) (hR:∀r r' x,R w r r' x→R w' r r' x):RL2 e S R w' v L:=by
 obtain ⟨a,cap,hv,hcap,h⟩:=h;refine ⟨a,cap,hv,hcap,?_⟩;rcases h with h | ⟨b,o,ha,hs,ht,h⟩
 ·exact .inl h
 ·refine .inr ⟨b,o,ha,hs,ht.keep (hb b hs),fun j x hx=>?_⟩;obtain ⟨r,r',h1,h1',h2⟩:=h j x hx;have hlt:=zNk w _ h1;refine ⟨r,r',?_,?_,hR _ _ _ h2⟩
  ·rw [World.cell?_of_block (w:=w) (hb b hs hlt)]; exact h1
  ·rw [World.cell?_of_block (w:=w) (hb b hs hlt)]; exact h1'
theorem RL2.at {α:Type} {e:Option TypeId} {S:Nat→Prop} {R:World→Value→Value→α→Prop} {w:World} {a:Option Addr} {n cap:Nat} {L:List α} (h:RL2 e S R w (.slice a n cap) L) {j:Nat} (hj:j<n) :
  ∃b o r r' x,a=some ⟨b,o,none⟩∧w.cell? ⟨b,o+j*2,none⟩=some r∧w.cell? ⟨b,o+j*2+1,none⟩=some r'∧R w r r' x∧Hid (L[j]? = some x):=by
 obtain ⟨a',cap',hv,_,h⟩:=h;simp only [Value.slice.injEq] at hv;obtain ⟨rfl,rfl,rfl⟩:=hv;rcases h with h | ⟨b,o,ha,_,_,h⟩
 ·subst h; simp at hj
 ·obtain ⟨r,r',h1,h1',h2⟩:=h j L[j] (by simp [hj]);exact ⟨b,o,r,r',L[j],ha,h1,h1',h2,zNg (by simp [hj])⟩
theorem RL.of_own {α:Type} {e:TypeId} {S:Nat→Prop} {R:World→Value→α→Prop} {w:World} {B:Nat} {v:Value} {n:Nat} {xs:List Value} {L:List α}
  (h:w.ownsRow B e 1 v n xs) (hn:n=L.length) (hS:∀b,v.ownBlock=some b→B≤b→S b) (hR:∀(j:Nat) (x:α) (r:Value),L[j]? = some x→xs[j]? = some r→R w r x):RL (some e) S R w v L:=by
 subst hn;have hlen:=h.1;rcases h.2 with ⟨rfl,h0⟩ | ⟨g,cap,cur,hv,hb,hg,hc⟩
 ·have:L=[]:=List.eq_nil_of_length_eq_zero h0;subst this;exact RL.nil _ _ (by unfold maxLen; omega)
 ·subst hv;refine ⟨_,_,rfl,⟨hc.1,hc.2.1⟩,.inr ⟨g,0,rfl,hS g rfl hb,⟨cur,(0,0),hg⟩,fun j x hx=>?_⟩⟩;have hj:j<L.length:=by
   rcases Nat.lt_or_ge j L.length with h | h
   ·exact h
   ·rw [List.getElem?_eq_none h] at hx; cases hx
  have hjx:j<xs.length:=by rw [hlen]; omega
  refine ⟨xs[j],?_,hR j x _ hx (by simp [hjx])⟩;have:=h.cells (g:=g) rfl j xs[j] (by simp [hjx]);have hadd:(⟨g,0,none⟩:Addr).add j=⟨g,j,none⟩:=by unfold Addr.add; split <;> simp_all
  rw [hadd] at this;simpa using this
def FI (S:Nat→Prop) (w:World) (v:Value) (l:List Int):Prop:=w.ownsRow 0 3 1 v l.length (l.map (Value.int .i64))∧∀b,v.ownBlock=some b→S b
theorem FI.read {S:Nat→Prop} {w:World} {v:Value} {l:List Int} (h:FI S w v l):RI (fun b=>S b∧v.ownBlock=some b) w v l :=
 RL.of_own h.1 rfl (fun b h1 _=>⟨h.2 b h1,h1⟩) (fun j x r hx hr=>by simp [hx] at hr; exact hr.symm)
theorem FI.any {S:Nat→Prop} {w:World} {v:Value} {l:List Int} (h:FI S w v l):RI Any w v l:=RI.any h.read
theorem FI.reads {S:Nat→Prop} {w:World} {v:Value} {l:List Int} (h:FI S w v l):RI S w v l:=RL.mono h.read (fun _ h=>h.1) (fun _ _ h=>h)
theorem FI.of_row {w w':World} {B:Nat} {v:Value} {l:List Int} {n:Nat} {xs:List Value} (h:w'.ownsRow B 3 1 v n xs) (hB:w.heap.size≤B) (hn:n=l.length) (hx:xs=l.map (Value.int .i64)):FI (New w w') w' v l:=by
 subst hn;subst hx;refine ⟨?_,fun b hb=>?_⟩
 ·refine ⟨h.1,?_⟩;rcases h.2 with h | ⟨g,cap,cur,hv,_,r⟩
  ·exact .inl h
  ·exact .inr ⟨g,cap,cur,hv,Nat.zero_le _,r⟩
 ·obtain ⟨h1,h2⟩:=h.lt b hb;exact ⟨by omega,h2⟩
theorem FI.mono {S S':Nat→Prop} {w:World} {v:Value} {l:List Int} (h:FI S w v l) (hS:∀b,S b→S' b):FI S' w v l:=⟨h.1,fun b hb=>hS b (h.2 b hb)⟩
theorem zA4 {B:Nat} {w w':World} {e:TypeId} {s n:Nat} {v:Value} {xs:List Value} (h:w.ownsRow B e s v n xs) (hb:∀b,v.ownBlock=some b→w'.heap[b]? = w.heap[b]?):w'.ownsRow B e s v n xs:=by
 refine ⟨h.1,?_⟩;rcases h.2 with h | ⟨g,cap,cur,hv,hg,hh,r⟩
 ·exact .inl h
 ·exact .inr ⟨g,cap,cur,hv,hg,by rw [hb g (by rw [hv]; rfl)]; exact hh,r⟩
theorem zCe {B:Nat} {w w':World} {e:TypeId} {s n:Nat} {v:Value} {xs:List Value} (h:w.ownsRow B e s v n xs) (hb:Below w.heap.size w w'):w'.ownsRow B e s v n xs :=
 zA4 h fun b hv=>hb.block b (h.lt b hv).2
theorem FI.keep {S:Nat→Prop} {w w':World} {v:Value} {l:List Int} (h:FI S w v l) (hb:∀b,v.ownBlock=some b→w'.heap[b]? = w.heap[b]?):FI S w' v l:=⟨zA4 h.1 hb,h.2⟩
theorem FI.below {S:Nat→Prop} {w w':World} {v:Value} {l:List Int} (h:FI S w v l) (hb:Below w.heap.size w w'):FI S w' v l:=⟨zCe h.1 hb,h.2⟩
theorem FI.form {S:Nat→Prop} {w:World} {v:Value} {l:List Int} (h:FI S w v l):∃a cap,v=.slice a l.length cap:=h.any.form
theorem FI.set {S:Nat→Prop} {w:World} {v:Value} {l:List Int} (h:FI S w v l) {g j:Nat} (x:Value) (hg:¬S g):FI S (w.setCell ⟨g,j,none⟩ x) v l :=
 h.keep fun b hb=>heap_setCell_other w ⟨g,j,none⟩ b x (fun e=>by have:=h.2 b hb; rw [e] at this; exact hg this)
theorem RI.set {S:Nat→Prop} {w:World} {v:Value} {l:List Int} (h:RI S w v l) {g j:Nat} (x:Value) (hg:¬S g):RI S (w.setCell ⟨g,j,none⟩ x) v l :=
 h.keep fun b hb _=>heap_setCell_other w ⟨g,j,none⟩ b x (fun e=>by rw [e] at hb; exact hg hb)
theorem zAw (w:World) (a:Addr) (x:Value):(w.setCell a x).heap.size=w.heap.size:=by simp [World.setCell]
structure Only (S:Nat→Prop) (w w':World):Prop where
 os:w'.os=w.os
 tape:w'.tape=w.tape
 output:w'.output=w.output
 size:w'.heap.size=w.heap.size
 block:∀b,¬S b→w'.heap[b]? = w.heap[b]?
theorem Only.refl (S:Nat→Prop) (w:World):Only S w w:=⟨rfl,rfl,rfl,rfl,fun _ _=>rfl⟩
theorem Only.trans {S:Nat→Prop} {a b c:World} (h:Only S a b) (k:Only S b c):Only S a c :=
 ⟨k.os.trans h.os,k.tape.trans h.tape,k.output.trans h.output,k.size.trans h.size,fun i hi=>(k.block i hi).trans (h.block i hi)⟩
theorem Only.mono {S S':Nat→Prop} {a b:World} (h:Only S a b) (hS:∀b,S b→S' b):Only S' a b:=⟨h.os,h.tape,h.output,h.size,fun i hi=>h.block i (fun hs=>hi (hS i hs))⟩
theorem Only.drewN {S:Nat→Prop} {a b:World} (h:Only S a b) (n:Nat):Only S a (b.drewN n):=⟨h.os,h.tape,h.output,h.size,h.block⟩
theorem Only.setCell {S:Nat→Prop} {a b:World} (h:Only S a b) {g j:Nat} (hg:S g) (u:Value):Only S a (b.setCell ⟨g,j,none⟩ u) :=
 h.trans ⟨rfl,rfl,rfl,by simp [World.setCell],fun i hi=>heap_setCell_other b ⟨g,j,none⟩ i u (fun e=>by subst e; exact hi hg)⟩
theorem Only.below {S:Nat→Prop} {B:Nat} {w w':World} (h:Only S w w') (hS:∀b,S b→B≤b):Below B w w' :=
 ⟨h.os,h.tape,h.output,by rw [h.size]; exact zNl _,fun b hb=>h.block b (fun hs=>by have:=hS b hs; omega)⟩
theorem RI.only {S S':Nat→Prop} {w w':World} {v:Value} {L:List Int} (h:RI S w v L) (k:Only S' w w') (hd:∀b,S b→¬S' b):RI S w' v L:=RI.keep h fun b hs _=>k.block b (hd b hs)
theorem RII.only {S S':Nat→Prop} {w w':World} {v:Value} {L:List (List Int)} (h:RII S w v L) (k:Only S' w w') (hd:∀b,S b→¬S' b):RII S w' v L:=RII.keep h fun b hs _=>k.block b (hd b hs)
theorem FI.only {S S':Nat→Prop} {w w':World} {v:Value} {L:List Int} (h:FI S w v L) (k:Only S' w w') (hd:∀b,S b→¬S' b):FI S w' v L:=FI.keep h fun b hs=>k.block b (hd b (h.2 b hs))
theorem zBp {B B':Nat} {w:World} {e:TypeId} {s n:Nat} {v:Value} {xs:List Value} (h:w.ownsRow B e s v n xs) (hb:B'≤B):w.ownsRow B' e s v n xs:=by
 refine ⟨h.1,?_⟩;rcases h.2 with h | ⟨g,cap,cur,hv,hg,r⟩
 ·exact .inl h
 ·exact .inr ⟨g,cap,cur,hv,by omega,r⟩
theorem zAg {k:IntKind} {a b:Int} (h:a=b):Ending.returned (.int k a)=.returned (.int k b):=by rw [h]
theorem zAB {a b:Bool} (h:a=b):Ending.returned (.bool a)=.returned (.bool b):=by rw [h]
theorem zAV {α:Type} {L:List α} {k:Nat} {x:α} (h:L[k]? = some x):L.take (k+1)=L.take k++[x]:=by
 rw [List.take_add_one,h]; rfl
theorem zAJ {α:Type} {L:List α} {k:Nat} {x:α} (h:L[k]? = some x):L.drop k=x::L.drop (k+1):=by
 have hk:k<L.length:=by
  rcases Nat.lt_or_ge k L.length with h' | h'
  ·exact h'
  ·rw [List.getElem?_eq_none h'] at h; cases h
 rw [zNh hk] at h;rw [List.drop_eq_getElem_cons hk];simp only [Option.some.injEq] at h;rw [h]
theorem dr1 {w:World} {a:Nat}:∃m,w.drewN a=w.drewN m:=⟨a,rfl⟩
theorem dr2 {w:World} {a b:Nat}:∃m,(w.drewN a).drewN b=w.drewN m:=⟨a+b,by simp⟩
theorem dr3 {w:World} {a b c:Nat}:∃m,((w.drewN a).drewN b).drewN c=w.drewN m:=⟨a+b+c,by simp⟩
theorem dr0 {w:World}:∃m,w=w.drewN m:=⟨0,rfl⟩
theorem zAT {w:World} {b o:Nat} {v:Value} (h:w.cell? ⟨b,o,none⟩=some v) (X:Obj):(w.alloc X).cell? ⟨b,o,none⟩=some v:=by
 have hlt:=zNk w _ h;rw [World.cell?_of_block (w:=w) (a:=⟨b,o,none⟩) (Below.heap_alloc w X b hlt)];exact h
theorem zAc {w w':World} (h:∃m,w'=w.drewN m):Below w.heap.size w w':=by
 obtain ⟨m,rfl⟩:=h;exact below_drewN (Below.refl _ w) m
theorem zBK:(Tryz.prog.info? 3).map (fun i=>(i.zero,i.size,i.bytes))=some (some (.int .i64 0),1,8):=by kernel_rfl
theorem zG6:(Tryz.prog.info? 33).map (fun i=>(i.zero,i.size,i.bytes))=some (some (.slice none 0 0),1,24):=by kernel_rfl
def zNZ (k:Nat) (n:Nat):List Int:=(List.range n).map fun i=>((k+i:Nat):Int)
abbrev It:=List Int ⊕ Int
def zBZ (S:Nat→Prop) (w:World) (r:Value):It→Prop
 | .inl l=>FI S w r l
 | .inr n=>r=.int .i64 n
def FC (S:Nat→Prop) (e:TypeId) (sz:Nat) (w:World) (v:Value) (n:Nat) (items:List It):Prop :=
 ∃vs,w.ownsRow 0 e sz v n vs∧vs.length=items.length∧(∀b,v.ownBlock=some b→S b) ∧
  (∀(j:Nat) (r:Value) (x:It),vs[j]? = some r→items[j]? = some x→zBZ S w r x) ∧
  (∀(i j:Nat) (r r':Value) (b:Nat),i≠j→vs[i]? = some r→vs[j]? = some r'→r.ownBlock=some b→r'.ownBlock≠some b)
theorem zBZ.keep {S:Nat→Prop} {w w':World} {r:Value} {x:It} (h:zBZ S w r x) (hb:∀b,r.ownBlock=some b→w'.heap[b]? = w.heap[b]?):zBZ S w' r x:=by
 cases x with
 | inl l=>exact FI.keep h hb
 | inr n=>exact h
theorem zBZ.lt {S:Nat→Prop} {w:World} {r:Value} {x:It} (h:zBZ S w r x) {b:Nat} (hb:r.ownBlock=some b):b<w.heap.size∧S b:=by
 cases x with
 | inl l=>exact ⟨(h.1.lt b hb).2,h.2 b hb⟩
 | inr n=>rw [show r=.int .i64 n from h] at hb; cases hb
theorem zBZ.tag {S:Nat→Prop} {w:World} {r:Value} {x:It} (h:zBZ S w r x) {b:Nat} (hb:r.ownBlock=some b):∃cur,w.heap[b]? = some (.cells cur 3 (0,0)):=by
 cases x with
 | inl l =>
  rcases h.1.2 with ⟨rfl,_⟩ | ⟨g,cap,cur,rfl,_,hg,_⟩
  ·cases hb
  ·simp [Value.ownBlock] at hb;subst hb;exact ⟨cur,hg⟩
 | inr n=>rw [show r=.int .i64 n from h] at hb; cases hb
theorem zAt {w:World} {B:Nat} {e:TypeId} {sz n:Nat} {v:Value} {xs:List Value} (h:w.ownsRow B e sz v n xs) {b:Nat} (hb:v.ownBlock=some b):∃cur,w.heap[b]? = some (.cells cur e (0,0)):=by
 rcases h.2 with ⟨rfl,_⟩ | ⟨g,cap,cur,rfl,_,hg,_⟩
 ·cases hb
 ·simp [Value.ownBlock] at hb;subst hb;exact ⟨cur,hg⟩
section
variable {S:Nat→Prop} {e:TypeId} {sz:Nat} {w w':World} {v:Value} {n:Nat} {items:List It}
theorem FC.keep (h:FC S e sz w v n items) (hb:∀b,S b→b<w.heap.size→w'.heap[b]? = w.heap[b]?):FC S e sz w' v n items:=by
 obtain ⟨vs,h1,h2,h3,h4,h5⟩:=h;exact ⟨vs,zA4 h1 (fun b hv=>hb b (h3 b hv) (h1.lt b hv).2),h2,h3,fun j r x hr hx=>(h4 j r x hr hx).keep fun b hv=>hb b ((h4 j r x hr hx).lt hv).2 ((h4 j r x hr hx).lt hv).1,h5⟩
theorem FC.below (h:FC S e sz w v n items) (hb:Below w.heap.size w w'):FC S e sz w' v n items:=h.keep fun b _ hl=>hb.block b hl
theorem FC.only {S':Nat→Prop} (h:FC S e sz w v n items) (k:Only S' w w') (hd:∀b,S b→¬S' b):FC S e sz w' v n items:=h.keep fun b hs _=>k.block b (hd b hs)
theorem FC.mono {S':Nat→Prop} (h:FC S e sz w v n items) (hS:∀b,S b→S' b):FC S' e sz w v n items:=by
 obtain ⟨vs,h1,h2,h3,h4,h5⟩:=h;refine ⟨vs,h1,h2,fun b hb=>hS b (h3 b hb),fun j r x hr hx=>?_,h5⟩;have:=h4 j r x hr hx;cases x with
 | inl l=>exact FI.mono this hS
 | inr n=>exact this
theorem FC.len (h:FC S e sz w v n items):items.length=n*sz:=by
 obtain ⟨vs,h1,h2,_⟩:=h;rw [<-h2]; exact h1.1
theorem FC.form (h:FC S e sz w v n items):∃a cap,v=.slice a n cap∧n≤cap:=by
 obtain ⟨vs,h1,_⟩:=h;rcases h1.2 with ⟨rfl,rfl⟩ | ⟨g,cap,cur,rfl,_,_,h,_⟩
 ·exact ⟨_,_,rfl,zNl _⟩
 ·exact ⟨_,_,rfl,h⟩
theorem FC.nil (S:Nat→Prop) (e:TypeId) (sz:Nat) (w:World):FC S e sz w (.slice none 0 0) 0 [] :=
 ⟨[],World.ownsRow_nil _ _ _ _,rfl,fun b hb=>(by cases hb),fun j r x hr _=>(by simp at hr),fun i j r r' b _ hr=>(by simp at hr)⟩
theorem FC.of_row {B:Nat} {xs:List Value} (h:w'.ownsRow B e sz v n xs) (hB:w.heap.size≤B) (hl:xs.length=items.length)
  (hx:∀(j:Nat) (r:Value) (x:It),xs[j]? = some r→items[j]? = some x→zBZ (New w w') w' r x∧r.ownBlock=none):FC (New w w') e sz w' v n items:=by
 refine ⟨xs,zBp h (Nat.zero_le _),hl,fun b hb=>?_,fun j r x hr hx'=>(hx j r x hr hx').1,fun i j r r' b _ hr _ hb=>?_⟩
 ·have:=h.lt b hb; exact ⟨by omega,this.2⟩
 ·have hi:i<items.length:=by
   rcases Nat.lt_or_ge i items.length with h | h
   ·exact h
   ·rw [List.getElem?_eq_none (by omega)] at hr; cases hr
  have:=(hx i r items[i] hr (by simp [hi])).2;rw [this] at hb; cases hb
theorem FC.cell {g cap:Nat} (h:FC S e sz w (.slice (some ⟨g,0,none⟩) n cap) n items) {j:Nat} {x:It} (hj:items[j]? = some x) :
  ∃r,w.cell? ⟨g,j,none⟩=some r∧zBZ S w r x∧w.frozen? ⟨g,j,none⟩=false:=by
 obtain ⟨vs,h1,h2,h3,h4,_⟩:=h;have hl:j<items.length:=by
  rcases Nat.lt_or_ge j items.length with h | h
  ·exact h
  ·rw [List.getElem?_eq_none h] at hj; cases hj
 have hv:j<vs.length:=by omega
 have hc:=h1.cellAt j (by rw [<-h1.1]; exact hv);rw [zNh hv] at hc;exact ⟨vs[j],hc,h4 j _ x (by simp [hv]) hj,h1.frozenAt j⟩
theorem FC.head (h:FC S e sz w v n items) (hn:0<n):∃g cap,v=.slice (some ⟨g,0,none⟩) n cap∧S g:=by
 obtain ⟨vs,h1,_,h3,_⟩:=h;rcases h1.2 with ⟨rfl,rfl⟩ | ⟨g,cap,cur,rfl,_⟩
 ·omega
 ·exact ⟨g,cap,rfl,h3 g rfl⟩
theorem FC.turned (h:FC S e sz w v n items) (he:e≠3) {j:Nat} {r:Value} {l l':List Int} (hx:items[j]? = some (.inl l)) (hcell:∃vs,w.ownsRow 0 e sz v n vs∧vs[j]? = some r)
  (ho:Only (fun b=>r.ownBlock=some b) w w') (hr:FI S w r l→FI S w' r l'):FC S e sz w' v n (items.set j (.inl l')):=by
 obtain ⟨vs,h1,h2,h3,h4,h5⟩:=h;obtain ⟨vs',h1',hr'⟩:=hcell;have e1:vs'=vs:=by
  rcases h1.2 with ⟨hv,hn⟩ | ⟨g,cap,cur,hv,_,hg,_,_,_,ht⟩
  ·have z1:vs=[]:=List.eq_nil_of_length_eq_zero (by rw [h1.1,hn]; simp);have z2:vs'=[]:=List.eq_nil_of_length_eq_zero (by rw [h1'.1,hn]; simp);rw [z1,z2]
  ·rcases h1'.2 with ⟨hv',hn'⟩ | ⟨g',cap',cur',hv',_,hg',_,_,_,ht'⟩
   ·rw [hv'] at hv; cases hv
   ·rw [hv'] at hv;simp only [Value.slice.injEq,Option.some.injEq,Addr.mk.injEq,and_true,true_and] at hv;obtain ⟨e1,e2⟩:=hv;subst e1;rw [hg'] at hg;simp only [Option.some.injEq,Obj.cells.injEq,and_true] at hg;rw [<-ht,<-ht',hg]
 subst e1;have hfi:FI S w r l:=h4 j r _ hr' hx;have hjl:j<items.length:=by
  rcases Nat.lt_or_ge j items.length with h | h
  ·exact h
  ·rw [List.getElem?_eq_none h] at hx; cases hx
 have outer:∀b,v.ownBlock=some b→w'.heap[b]? = w.heap[b]?:=fun b hb=>ho.block b (fun hb'=>by
  obtain ⟨c1,t1⟩:=zAt h1 hb;obtain ⟨c2,t2⟩:=zBZ.tag (x:=.inl l) hfi hb';rw [t1] at t2;simp only [Option.some.injEq,Obj.cells.injEq] at t2;exact he t2.2.1)
 refine ⟨vs',zA4 h1 outer,by simpa using h2,h3,fun i r1 x hr1 hx1=>?_,h5⟩;by_cases hij:i=j
 ·subst hij;rw [hr'] at hr1;cases hr1;simp [hjl] at hx1;subst hx1;exact hr hfi
 ·rw [List.getElem?_set_ne (by omega)] at hx1;exact (h4 i r1 x hr1 hx1).keep fun b hb=>ho.block b (fun hb'=>h5 i j r1 r b hij hr1 hr' hb hb')
theorem FC.stored {g cap:Nat} (h:FC S e sz w (.slice (some ⟨g,0,none⟩) n cap) n items) (he:e≠3) {j:Nat} {q:Int} (hx:items[j]? = some (.inr q)) (q':Int) :
  FC S e sz (w.setCell ⟨g,j,none⟩ (.int .i64 q')) (.slice (some ⟨g,0,none⟩) n cap) n (items.set j (.inr q')):=by
 obtain ⟨vs,h1,h2,h3,h4,h5⟩:=h;have hst:=h1.stored j (.int .i64 q');have hjl:j<items.length:=by
  rcases Nat.lt_or_ge j items.length with h | h
  ·exact h
  ·rw [List.getElem?_eq_none h] at hx; cases hx
 have hq:vs[j]? = some (.int .i64 q):=by
  have hv:j<vs.length:=by omega
  have:=h4 j vs[j] (.inr q) (by simp [hv]) hx;rw [zNh hv];exact congrArg some this
 refine ⟨vs.set j (.int .i64 q'),hst.1,by simpa using h2,h3,fun i r1 x hr1 hx1=>?_,fun i k r r' b hik hr hr' hb=>?_⟩
 ·by_cases hij:i=j
  ·subst hij;have hv:i<vs.length:=by omega
   simp [hjl] at hx1;simp [hv] at hr1;subst hx1;exact hr1.symm
  ·rw [List.getElem?_set_ne (by omega)] at hx1 hr1;refine (h4 i r1 x hr1 hx1).keep fun b hb=>?_;refine heap_setCell_other w ⟨g,j,none⟩ b _ (fun e1=>?_);obtain ⟨c1,t1⟩:=zAt h1 (b:=g) rfl;obtain ⟨c2,t2⟩:=(h4 i r1 x hr1 hx1).tag hb;subst e1;rw [t1] at t2;simp only [Option.some.injEq,Obj.cells.injEq] at t2;exact he t2.2.1
 ·have nb:∀(i:Nat) (r:Value) (b:Nat),(vs.set j (.int .i64 q'))[i]? = some r→r.ownBlock=some b→vs[i]? = some r:=by
   intro i r b h1 h2;by_cases hij:i=j
   ·subst hij;have hv:i<vs.length:=by omega
    simp [hv] at h1;subst h1;cases h2
   ·rwa [List.getElem?_set_ne (by omega)] at h1
  intro hb';exact h5 i k r r' b hik (nb i r b hr hb) (nb k r' b hr' hb') hb hb'
theorem FC.put {g cap:Nat} (h:FC S e sz w (.slice (some ⟨g,0,none⟩) n cap) n items) (he:e≠3) {j:Nat} {r:Value} {l:List Int} (hj:j<items.length) (hr:FI S w r l)
  (hd:∀(i:Nat) (r':Value) (b:Nat),w.cell? ⟨g,i,none⟩=some r'→i≠j→i<items.length→r.ownBlock=some b→r'.ownBlock≠some b) :
  FC S e sz (w.setCell ⟨g,j,none⟩ r) (.slice (some ⟨g,0,none⟩) n cap) n (items.set j (.inl l)):=by
 obtain ⟨vs,h1,h2,h3,h4,h5⟩:=h;have hst:=h1.stored j r;have hd':∀(i:Nat) (r':Value) (b:Nat),vs[i]? = some r'→i≠j→r.ownBlock=some b→r'.ownBlock≠some b:=by
  intro i r' b hi hij hb;have hv:i<vs.length:=by
   rcases Nat.lt_or_ge i vs.length with h | h
   ·exact h
   ·rw [List.getElem?_eq_none h] at hi; cases hi
  refine hd i r' b ?_ hij (by omega) hb;rw [h1.cellAt i (by rw [<-h1.1]; exact hv)];exact hi
 have gkeep:∀(b:Nat) (c:Array Value),w.heap[b]? = some (Obj.cells c 3 (0,0))→(w.setCell ⟨g,j,none⟩ r).heap[b]? = w.heap[b]?:=fun b c t2=>by
  refine heap_setCell_other w ⟨g,j,none⟩ b _ (fun e1=>?_);obtain ⟨c1,t1⟩:=zAt h1 (b:=g) rfl;subst e1;rw [t1] at t2;simp only [Option.some.injEq,Obj.cells.injEq] at t2;exact he t2.2.1
 refine ⟨vs.set j r,hst.1,by simpa using h2,h3,fun i r1 x hr1 hx1=>?_,fun i k r1 r2 b hik hr1 hr2 hb=>?_⟩
 ·by_cases hij:i=j
  ·subst hij;have hv:i<vs.length:=by omega
   simp [hj] at hx1;simp [hv] at hr1;subst hx1;subst hr1;exact zBZ.keep (x:=.inl l) hr (fun b hb=>let ⟨c,t⟩:=zBZ.tag (x:=.inl l) hr hb; gkeep b c t)
  ·rw [List.getElem?_set_ne (by omega)] at hx1 hr1;exact (h4 i r1 x hr1 hx1).keep fun b hb=>let ⟨c,t⟩:=(h4 i r1 x hr1 hx1).tag hb; gkeep b c t
 ·have hv:j<vs.length:=by omega
  by_cases hij:i=j
  ·subst hij;simp [hv] at hr1;subst hr1;rw [List.getElem?_set_ne (by omega)] at hr2;exact hd' k r2 b hr2 (by omega) hb
  ·rw [List.getElem?_set_ne (by omega)] at hr1;by_cases hkj:k=j
   ·subst hkj;simp [hv] at hr2;subst hr2;exact fun hb2=>hd' i r1 b hr1 hij hb2 hb
   ·rw [List.getElem?_set_ne (by omega)] at hr2;exact h5 i k r1 r2 b hik hr1 hr2 hb
end
abbrev zAf (L:List (List Int)):List It:=L.map .inl
abbrev FII (S:Nat→Prop) (w:World) (v:Value) (L:List (List Int)):Prop:=FC S 33 1 w v L.length (zAf L)
theorem FII.read {S:Nat→Prop} {w:World} {v:Value} {L:List (List Int)} (h:FII S w v L):RII S w v L:=by
 obtain ⟨vs,h1,h2,h3,h4,_⟩:=h;refine RL.of_own h1 rfl (fun b hb _=>h3 b hb) (fun j x r hx hr=>?_);exact FI.reads (h4 j r (.inl x) hr (by simp [hx]))
theorem FII.below {S:Nat→Prop} {w w':World} {v:Value} {L:List (List Int)} (h:FII S w v L) (hb:Below w.heap.size w w'):FII S w' v L:=FC.below h hb
theorem FII.only {S S':Nat→Prop} {w w':World} {v:Value} {L:List (List Int)} (h:FII S w v L) (k:Only S' w w') (hd:∀b,S b→¬S' b):FII S w' v L:=FC.only h k hd
theorem FII.any {S:Nat→Prop} {w:World} {v:Value} {L:List (List Int)} (h:FII S w v L):RII Any w v L:=RII.any h.read
end Go.Proofs.YtlchafedbnihoaaGreatDoor
