/- Words from the left and from the right: descents, and when a letter may change sides. Plain. No condition. -/
import Derived.Test.YtlchafedbnihoaaGreatDoorJGFin
namespace Go.Proofs.YtlchafedbnihoaaGreatDoor
set_option maxRecDepth 20000
namespace Cox
variable {n:Nat} {c:Nat→Nat→Int}
theorem Eqv.inv (h:Car n c):∀{w:List Nat},Lets n w→Eqv n c (w.reverse++w) []
 | [],_=>Eqv.refl _
 | i::w,hw=>by
  have hi:i<n:=hw i (by simp);have ih:=Eqv.inv h (w:=w) (fun j hj=>hw j (by simp [hj]));have h1:Eqv n c (w.reverse++([i,i]++w)) (w.reverse++([]++w)):=(Eqv.refl _).app ((Eqv.two h hi).app (Eqv.refl w));have e1:(i::w).reverse++(i::w)=w.reverse++([i,i]++w):=by simp
  rw [e1];exact h1.trans ih
theorem Eqv.inv' (h:Car n c) {w:List Nat} (hw:Lets n w):Eqv n c (w++w.reverse) []:=by
 have:=Eqv.inv h (lets_rev hw);rwa [List.reverse_reverse] at this
theorem Eqv.rev (h:Car n c) {w w':List Nat} (hw:Lets n w) (hw':Lets n w') (he:Eqv n c w w'):Eqv n c w.reverse w'.reverse:=by
 have h1:Eqv n c (w.reverse++(w'++w'.reverse)) (w.reverse++[]):=(Eqv.refl _).app (Eqv.inv' h hw');have h2:Eqv n c (w.reverse++(w++w'.reverse)) (w.reverse++(w'++w'.reverse)):=(Eqv.refl _).app (he.app (Eqv.refl _));have h3:Eqv n c ((w.reverse++w)++w'.reverse) ([]++w'.reverse):=(Eqv.inv h hw).app (Eqv.refl _);rw [List.append_nil] at h1;rw [List.append_assoc] at h3;exact h1.symm.trans (h2.symm.trans h3)
theorem Eqv.cons {w w':List Nat} (s:Nat) (he:Eqv n c w w'):Eqv n c (s::w) (s::w'):=(Eqv.refl [s]).app he
theorem Eqv.snoc {w w':List Nat} (s:Nat) (he:Eqv n c w w'):Eqv n c (w++[s]) (w'++[s]):=he.app (Eqv.refl [s])
theorem Eqv.dbl (h:Car n c) {s:Nat} (hs:s<n) (w:List Nat):Eqv n c (s::s::w) w:=(Eqv.two h hs).app (Eqv.refl w)
theorem Eqv.dbr (h:Car n c) {s:Nat} (hs:s<n) (w:List Nat):Eqv n c ((w++[s])++[s]) w:=by
 have:=(Eqv.refl (n:=n) (c:=c) w).app (Eqv.two h hs);simpa using this
theorem lets_cons' {s:Nat} {w:List Nat} (hs:s<n) (hw:Lets n w):Lets n (s::w):=fun j hj=>by
 rcases List.mem_cons.1 hj with rfl | hj
 ·exact hs
 ·exact hw j hj
theorem lets_snoc {s:Nat} {w:List Nat} (hs:s<n) (hw:Lets n w):Lets n (w++[s]):=zHA hw (lets_cons' hs (fun j hj=>by simp at hj))
def Ld (c:Nat→Nat→Int) (s:Nat) (w:List Nat):Prop:=aW c w one s<0
instance (c:Nat→Nat→Int) (s:Nat) (w:List Nat):Decidable (Ld c s w):=inferInstanceAs (Decidable (_<_))
def Rd (c:Nat→Nat→Int) (s:Nat) (w:List Nat):Prop:=Ld c s w.reverse
instance (c:Nat→Nat→Int) (s:Nat) (w:List Nat):Decidable (Rd c s w):=inferInstanceAs (Decidable (_<_))
theorem Ld.eqv {w w':List Nat} (s:Nat) (he:Eqv n c w w'):Ld c s w↔Ld c s w':=by unfold Ld; rw [he.m]
theorem Rd.eqv (h:Car n c) {w w':List Nat} (hw:Lets n w) (hw':Lets n w') (s:Nat) (he:Eqv n c w w'):Rd c s w↔Rd c s w':=Ld.eqv s (he.rev h hw hw')
theorem Ld.flip (h:Car n c) {s:Nat} (hs:s<n) {w:List Nat} (hw:Lets n w):Ld c s (s::w)↔¬Ld c s w:=by
 have h0:=(image_step h hw hs).1;have e:aW c (s::w) one s=aW c w one s-aW c w one s*c s s:=rfl;rw [h.diag s hs] at e;unfold Ld;omega
theorem Rd.flip (h:Car n c) {s:Nat} (hs:s<n) {w:List Nat} (hw:Lets n w):Rd c s (w++[s])↔¬Rd c s w:=by
 unfold Rd;rw [List.reverse_append];exact Ld.flip h hs (lets_rev hw)
theorem zFO (h:Car n c) {s:Nat} (hs:s<n) {w:List Nat} (hw:Lets n w):(Ld c s w→NegA n c w.reverse s)∧(¬Ld c s w→PosA n c w.reverse s):=by
 unfold Ld;have h0:=(image_step h hw hs).1;rw [zFW h hw hs] at h0 ⊢;rcases coh h (lets_rev hw) hs with hp | hn
 ·have:=(zBz hp.2).1;exact ⟨fun h1=>by omega,fun _=>hp⟩
 ·refine ⟨fun _=>hn,fun h1=>?_⟩;have hneg:Pos n (fun k=>-1*aR n (tr c) w.reverse (e s) k+0*0):=fun k hk=>by have:=hn.2 k hk; show 0≤-1*_+0*0; omega
  obtain ⟨h2,_⟩:=zBz hneg;rw [dotN_comm,zBk one (aR n (tr c) w.reverse (e s)) (fun _=>0) (-1) 0 n,dotN_comm] at h2;exact absurd (show dotN (aR n (tr c) w.reverse (e s)) one n=0 by omega) h0
theorem zHO (hs:0<n) {w:List Nat} {s:Nat} (h:Car n c) (hs:s<n) (hw:Lets n w) (hp:PosA n c w s) (hn:NegA n c w s):False:=by
 have hb:=zCP h (e s) (e s) hw;rw [zC1 hs hs,h.diag s hs] at hb;have h0:∀k,k<n→aR n (tr c) w (e s) k=0:=fun k hk=>by have:=hp.2 k hk; have:=hn.2 k hk; omega
 unfold bil at hb;rw [zDy h0] at hb;omega
theorem zEO (h:Car n c) {y:List Nat} {s k:Nat} (hy:Lets n y) (hs:s<n) (hk:k<n) (hp:PosA n c y s) (hn:NegA n c (k::y) s) :
  Eqv n c (y++[s]) (k::y)∧aR n c y (e s)=e k∧aR n (tr c) y (e s)=e k:=by
 have hr:=zBw hp.1 hn.1 (fun j hj=>by rw [zCq hj _ hy,zEP hs hj]);have hx:=zBw (c:=tr c) hp.2 hn.2 (fun j hj=>by rw [zCq hj _ hy,zEP hs hj]);have hb:=zCP h (e s) (e s) hy;rw [hr,hx,zDw,zC1 hk hk,zC1 hs hs,h.diag k hk,h.diag s hs] at hb;have p1:=hp.1 k hk;generalize aR n c y (e s) k=a at *;generalize aR n (tr c) y (e s) k=b at *;have hab:b*a=1:=by omega
 have ha:a=1:=Int.eq_one_of_mul_eq_one_left p1 hab;have hb1:b=1:=by rw [ha] at hab; omega
 subst ha; subst hb1;have h1:aR n c y (e s)=e k:=by rw [hr]; funext j; simp
 have h2:aR n (tr c) y (e s)=e k:=by rw [hx]; funext j; simp
 exact ⟨comm h hy hs hk h1 h2,h1,h2⟩
theorem zEj {w w':List Nat} {s:Nat} (he:Eqv n c w w') (hn:NegA n c w s):NegA n c w' s:=by
 unfold NegA at *;rw [<-he.r,<-he.x]; exact hn
theorem zHK {w:List Nat} {s:Nat} (h:Car n c) (hs:s<n):(PosA n c w s→NegA n c (w++[s]) s)∧(NegA n c w s→PosA n c (w++[s]) s):=by
 have hsub:∀(d:Nat→Nat→Int),Car n d→aR n d (w++[s]) (e s)=fun k=>- aR n d w (e s) k:=by
  intro d hd;rw [zA3];show aR n d w (sR n d s (e s))=_;have:sR n d s (e s)=fun k=>(-1)*e s k+0*e s k:=by
   funext k;unfold sR;rw [dotN_e _ _ _ hs,hd.diag s hs];omega
  rw [this,zDF];funext k;omega
 unfold PosA NegA;rw [hsub c h,hsub (tr c) h.tr];refine ⟨fun hh=>⟨fun k hk=>?_,fun k hk=>?_⟩,fun hh=>⟨fun k hk=>?_,fun k hk=>?_⟩⟩
 ·have:=hh.1 k hk; show -_≤_; omega
 ·have:=hh.2 k hk; show -_≤_; omega
 ·have:=hh.1 k hk; show _≤-_; omega
 ·have:=hh.2 k hk; show _≤-_; omega
theorem side (h:Car n c) {s t:Nat} (hs:s<n) (ht:t<n) {w:List Nat} (hw:Lets n w):(Ld c s (w++[t])↔Ld c s w)∨(Eqv n c (s::w) (w++[t])∧(Ld c s w↔Rd c t w)):=by
 have hr:=lets_rev hw;have hwt:=lets_snoc ht hw;have er:(w++[t]).reverse=t::w.reverse:=by simp
 obtain ⟨a1,a2⟩:=zFO h hs hw;obtain ⟨b1,b2⟩:=zFO h hs hwt;rw [er] at b1 b2;have rt:=zFO h ht hr;rw [List.reverse_reverse] at rt;have back:Eqv n c (w.reverse++[s]) (t::w.reverse)→Eqv n c (s::w) (w++[t]):=fun he=>by
  have:=he.rev h (lets_snoc hs hr) (lets_cons' ht hr);simpa using this
 -- the root that the word takes to a letter's
 have root:Eqv n c (s::w) (w++[t])→(NegA n c w.reverse s→NegA n c w t)∧(PosA n c w.reverse s→PosA n c w t):=fun he=>by
  have key:Eqv n c (w.reverse++[s]) (t::w.reverse):=by
   have:=he.rev h (lets_cons' hs hw) hwt;simpa using this
  exact ⟨fun hn=>by
   rcases coh h hw ht with hp | hq
   ·exfalso
    -- then the letter from the right makes it longer, from the left shorter
    have h1:=(zHK (w:=w) h ht).1 hp;have h2:NegA n c (s::w) t:=zEj he.symm h1;obtain ⟨_,h3,h4⟩:=zEO h hw ht hs hp h2;have h5:aR n c w.reverse (e s)=e t:=by rw [<-h3,<-zA3,(Eqv.inv h hw).r]; rfl
    have:=hn.1 t ht;rw [h5] at this;simp [e] at this
   ·exact hq,fun hp=>by
   rcases coh h hw ht with hq | hn
   ·exact hq
   ·exfalso;have h1:=(zHK (w:=w.reverse) h hs).1 hp;have h2:NegA n c (t::w.reverse) s:=zEj key h1;obtain ⟨_,h3,h4⟩:=zEO h hr hs ht hp h2;have h5:aR n c w (e t)=e s:=by rw [<-h3,<-zA3,(Eqv.inv' h hw).r]; rfl
    have:=hn.1 s hs;rw [h5] at this;simp [e] at this⟩
 have fin:Eqv n c (s::w) (w++[t])→(Ld c s w↔Rd c t w):=fun he=>by
  obtain ⟨r1,r2⟩:=root he;constructor
  ·intro hl;exact Decidable.byContradiction fun hn=>zHO (by omega) h ht hw (rt.2 hn) (r1 (a1 hl))
  ·intro hl;exact Decidable.byContradiction fun hn=>zHO (by omega) h ht hw (r2 (a2 hn)) (rt.1 hl)
 by_cases p:Ld c s w <;> by_cases q:Ld c s (w++[t])
 ·exact .inl ⟨fun _=>p,fun _=>q⟩
 ·refine .inr ?_;have h1:PosA n c (t::w.reverse) s:=b2 q;have h2:NegA n c (t::t::w.reverse) s:=zEj (Eqv.dbl h ht _).symm (a1 p);obtain ⟨h3,_,_⟩:=zEO h (lets_cons' ht hr) hs ht h1 h2;have h4:Eqv n c (t::(w.reverse++[s])) (w.reverse):=h3.trans (Eqv.dbl h ht _);have h5:Eqv n c (w.reverse++[s]) (t::w.reverse):=(Eqv.dbl h ht _).symm.trans (h4.cons t);exact ⟨back h5,fin (back h5)⟩
 ·refine .inr ?_;obtain ⟨h3,_,_⟩:=zEO h hr hs ht (a2 p) (b1 q);exact ⟨back h3,fin (back h3)⟩
 ·exact .inl ⟨fun x=>absurd x q,fun x=>absurd x p⟩
theorem zGi (h:Car n c) {s t:Nat} (hs:s<n) (ht:t<n) {w:List Nat} (hw:Lets n w) :
  ((Ld c s (w++[t])↔Ld c s w)∧(Rd c t (s::w)↔Rd c t w))∨(Eqv n c (s::w) (w++[t])∧(Ld c s w↔Rd c t w)∧(Ld c s (w++[t])↔¬Ld c s w)∧(Rd c t (s::w)↔¬Rd c t w)):=by
 have meet:Eqv n c (s::w) (w++[t])→(Ld c s (w++[t])↔¬Ld c s w)∧(Rd c t (s::w)↔¬Rd c t w):=fun he =>
  ⟨(Ld.eqv s he).symm.trans (Ld.flip h hs hw),(Rd.eqv h (lets_cons' hs hw) (lets_snoc ht hw) t he).trans (Rd.flip h ht hw)⟩
 rcases side h hs ht hw with h1 | ⟨h1,h2⟩
 ·rcases side h ht hs (lets_rev hw) with h3 | ⟨h3,h4⟩
  ·refine .inl ⟨h1,?_⟩;unfold Rd;simpa using h3
  ·have h5:Eqv n c (s::w) (w++[t]):=by
    have:=h3.rev h (lets_cons' ht (lets_rev hw)) (lets_snoc hs (lets_rev hw));simpa using this.symm
   have:=(meet h5).1;have hh:=h1.symm.trans this;by_cases q:Ld c s w
   ·exact absurd q (hh.1 q)
   ·exact absurd (hh.2 q) q
 ·exact .inr ⟨h1,h2,meet h1⟩
end Cox
end Go.Proofs.YtlchafedbnihoaaGreatDoor
namespace Go.Proofs.YtlchafedbnihoaaGreatDoor
set_option maxRecDepth 20000
namespace Cox
variable {n:Nat} {c:Nat→Nat→Int}
theorem exch_left (h:Car n c) {s:Nat} (hs:s<n) {w:List Nat} (hw:Lets n w) (hl:Ld c s w):∃w',Lets n w'∧w'.length+1=w.length∧w'.Sublist w∧Eqv n c (s::w) w':=by
 obtain ⟨x,a1,a2,a3,a4⟩:=zD0 h hs (lets_rev hw) ((zFO h hs hw).1 hl);refine ⟨x.reverse,lets_rev a1,by simp at a2 ⊢; omega,by have:=List.reverse_sublist.2 a3; simpa using this,?_⟩;have:=a4.rev h (lets_snoc hs (lets_rev hw)) a1;simpa using this
def Rdd (n:Nat) (c:Nat→Nat→Int) (w:List Nat):Prop:=Lets n w∧∀w',Lets n w'→Eqv n c w w'→w.length≤w'.length
theorem Rdd.rev (h:Car n c) {w:List Nat} (hr:Rdd n c w):Rdd n c w.reverse:=⟨lets_rev hr.1,fun w' hw' he=>by
 have:=hr.2 w'.reverse (lets_rev hw') (by have:=he.rev h (lets_rev hr.1) hw'; rwa [List.reverse_reverse] at this);simpa using this⟩
theorem Rdd.cons (h:Car n c) {s:Nat} {w:List Nat} (hr:Rdd n c (s::w)):s<n∧Rdd n c w∧¬Ld c s w:=by
 have hs:s<n:=hr.1 s (by simp);have hw:Lets n w:=fun j hj=>hr.1 j (by simp [hj]);refine ⟨hs,⟨hw,fun w' hw' he=>?_⟩,fun hl=>?_⟩
 ·have:=hr.2 (s::w') (lets_cons' hs hw') (he.cons s);simpa using this
 ·obtain ⟨w',a1,a2,_,a4⟩:=exch_left h hs hw hl;have:=hr.2 w' a1 a4;simp at this;omega
theorem Rdd.snoc (h:Car n c) {s:Nat} {w:List Nat} (hr:Rdd n c (w++[s])):s<n∧Rdd n c w∧¬Rd c s w:=by
 have h1:Rdd n c (s::w.reverse):=by have:=hr.rev h; simpa using this
 obtain ⟨a1,a2,a3⟩:=h1.cons h;exact ⟨a1,by have:=a2.rev h; simpa using this,a3⟩
theorem Rdd.up (h:Car n c) {s:Nat} {w:List Nat} (hs:s<n) (hr:Rdd n c w) (hl:¬Ld c s w):Rdd n c (s::w):=⟨lets_cons' hs hr.1,fun w' hw' he=>by
 have h1:Ld c s w':=(Ld.eqv s he).1 ((Ld.flip h hs hr.1).2 hl);obtain ⟨x,a1,a2,_,a4⟩:=exch_left h hs hw' h1;have:=hr.2 x a1 ((Eqv.dbl h hs w).symm.trans ((he.cons s).trans a4));simp;omega⟩
theorem zFE:∀(N:Nat) (w:List Nat),w.length≤N→Lets n w→∃x,Rdd n c x∧Eqv n c w x∧x.length≤w.length
 | N,w,hN,hw=>by
  by_cases hr:Rdd n c w
  ·exact ⟨w,hr,Eqv.refl w,zNl _⟩
  ·have:∃w',Lets n w'∧Eqv n c w w'∧w'.length<w.length:=by
    refine Classical.byContradiction fun hn=>hr ⟨hw,fun w' hw' he=>?_⟩;exact Nat.le_of_not_lt fun hl=>hn ⟨w',hw',he,hl⟩
   obtain ⟨w',a1,a2,a3⟩:=this;cases N with
   | zero=>omega
   | succ N =>
    obtain ⟨x,b1,b2,b3⟩:=zFE N w' (by omega) a1;exact ⟨x,b1,a2.trans b2,by omega⟩
theorem Rdd.nil:Rdd n c []:=⟨fun j hj=>by simp at hj,fun w' _ _=>Nat.zero_le _⟩
theorem Rdd.len {w w':List Nat} (h:Rdd n c w) (h':Rdd n c w') (he:Eqv n c w w'):w.length=w'.length:=Nat.le_antisymm (h.2 w' h'.1 he) (h'.2 w h.1 he.symm)
theorem faithful (h:Car n c) {w w':List Nat} (hw:Lets n w) (hw':Lets n w') (he:∀k,k<n→aW c w one k=aW c w' one k):Eqv n c w w':=by
 have h1:∀k,k<n→aW c (w'.reverse++w) one k=1:=fun k hk=>by
  rw [zB9,zGk h he (lets_rev hw') k hk,zDt h one hw'];rfl
 obtain ⟨x,b1,b2,_⟩:=zFE (c:=c) _ (w'.reverse++w) (zNl _) (zHA (lets_rev hw') hw);cases x with
 | nil =>
  have h2:Eqv n c (w'++(w'.reverse++w)) (w'++[]):=(Eqv.refl w').app b2;have h3:Eqv n c ((w'++w'.reverse)++w) ([]++w):=(Eqv.inv' h hw').app (Eqv.refl w);rw [List.append_nil] at h2;rw [List.append_assoc] at h3;exact h3.symm.trans h2
 | cons s y =>
  obtain ⟨hs,hy,hn⟩:=b1.cons h;have h4:Ld c s (w'.reverse++w):=(Ld.eqv s b2).2 ((Ld.flip h hs hy.1).2 hn);unfold Ld at h4;rw [h1 s hs] at h4;omega
def sh (r:Nat→Int):Nat→Int
 | 0=>0
 | k+1=>r k
theorem sh_zero' {r:Nat→Int} (h:∀k,r k=0) (k:Nat):sh r k=0:=by
 cases k with
 | zero=>rfl
 | succ k=>exact h k
def shN:Nat→(Nat→Int)→(Nat→Int)
 | 0,r=>r
 | m+1,r=>shN m (sh r)
abbrev Fw:=List Nat→Nat→Int
def Inv (n:Nat) (c:Nat→Nat→Int) (f:Fw):Prop:=∀w w',Lets n w→Lets n w'→Eqv n c w w'→f w=f w'
def EqL (n:Nat) (f g:Fw):Prop:=∀w,Lets n w→f w=g w
theorem EqL.refl (f:Fw):EqL n f f:=fun _ _=>rfl
theorem EqL.symm {f g:Fw} (h:EqL n f g):EqL n g f:=fun w hw=>(h w hw).symm
theorem EqL.trans {f g k:Fw} (h:EqL n f g) (h':EqL n g k):EqL n f k:=fun w hw=>(h w hw).trans (h' w hw)
def lop (c:Nat→Nat→Int) (s:Nat) (f:Fw):Fw:=fun w k=>if Ld c s w then f (s::w) k+(sh (f w) k-f w k) else sh (f (s::w)) k
def rop (c:Nat→Nat→Int) (t:Nat) (f:Fw):Fw:=fun w k=>if Rd c t w then f (w++[t]) k+(sh (f w) k-f w k) else sh (f (w++[t])) k
section
variable {s t:Nat} {f g:Fw} {w:List Nat}
theorem lop_yes (a:Ld c s w):lop c s f w=fun k=>f (s::w) k+(sh (f w) k-f w k):=funext fun k=>by unfold lop; rw [if_pos a]
theorem lop_no (a:¬Ld c s w):lop c s f w=sh (f (s::w)):=funext fun k=>by unfold lop; rw [if_neg a]
theorem rop_yes (a:Rd c t w):rop c t f w=fun k=>f (w++[t]) k+(sh (f w) k-f w k):=funext fun k=>by unfold rop; rw [if_pos a]
theorem rop_no (a:¬Rd c t w):rop c t f w=sh (f (w++[t])):=funext fun k=>by unfold rop; rw [if_neg a]
theorem Inv.lop (hs:s<n) (hf:Inv n c f):Inv n c (lop c s f):=fun w w' hw hw' he=>by
 have e:=Ld.eqv s he;have e1:=hf w w' hw hw' he;have e2:=hf _ _ (lets_cons' hs hw) (lets_cons' hs hw') (he.cons s);by_cases a:Ld c s w
 ·rw [lop_yes a,lop_yes (e.1 a),e1,e2]
 ·rw [lop_no a,lop_no (mt e.2 a),e2]
theorem Inv.rop (h:Car n c) (ht:t<n) (hf:Inv n c f):Inv n c (rop c t f):=fun w w' hw hw' he=>by
 have e:=Rd.eqv h hw hw' t he;have e1:=hf w w' hw hw' he;have e2:=hf _ _ (lets_snoc ht hw) (lets_snoc ht hw') (he.snoc t);by_cases a:Rd c t w
 ·rw [rop_yes a,rop_yes (e.1 a),e1,e2]
 ·rw [rop_no a,rop_no (mt e.2 a),e2]
theorem lop_congr (hs:s<n) (h:EqL n f g):EqL n (lop c s f) (lop c s g):=fun w hw=>by
 unfold Cox.lop; rw [h w hw,h _ (lets_cons' hs hw)]
theorem rop_congr (ht:t<n) (h:EqL n f g):EqL n (rop c t f) (rop c t g):=fun w hw=>by
 unfold Cox.rop; rw [h w hw,h _ (lets_snoc ht hw)]
theorem zMD (h:Car n c) (hs:s<n) (ht:t<n) (hf:Inv n c f):EqL n (lop c s (rop c t f)) (rop c t (lop c s f)):=fun w hw=>by
 have hx:s::w++[t]=s::(w++[t]):=rfl;funext k;rcases zGi h hs ht hw with ⟨e1,e2⟩ | ⟨e1,e2,e3,e4⟩
 ·by_cases a:Ld c s w <;> by_cases b:Rd c t w
  ·rw [lop_yes a,rop_yes b,rop_yes b,rop_yes (e2.2 b),lop_yes a,lop_yes (e1.2 a),hx];rcases k with _ | _ | k <;> simp only [sh] <;> omega
  ·rw [lop_yes a,rop_no b,rop_no b,rop_no (mt e2.1 b),lop_yes (e1.2 a),hx];rcases k with _ | _ | k <;> simp only [sh] <;> omega
  ·rw [lop_no a,rop_yes b,rop_yes (e2.2 b),lop_no a,lop_no (mt e1.1 a),hx];rcases k with _ | _ | k <;> simp only [sh] <;> omega
  ·rw [lop_no a,rop_no b,rop_no (mt e2.1 b),lop_no (mt e1.1 a),hx]
 ·have f1:f (s::w)=f (w++[t]):=hf _ _ (lets_cons' hs hw) (lets_snoc ht hw) e1;have f2:f (s::(w++[t]))=f w:=hf _ _ (lets_cons' hs (lets_snoc ht hw)) hw ((e1.symm.cons s).trans (Eqv.dbl h hs w));by_cases a:Ld c s w
  ·have b:=e2.1 a;rw [lop_yes a,rop_yes b,rop_yes b,rop_no (fun x=>e4.1 x b),lop_yes a,lop_no (fun x=>e3.1 x a),hx,f1,f2]
  ·have b:=mt e2.2 a;rw [lop_no a,rop_no b,rop_yes (e4.2 b),lop_yes (e3.2 a),hx,f1,f2]
end
def lops (c:Nat→Nat→Int):List Nat→Fw→Fw
 | [],f=>f
 | s::w,f=>lop c s (lops c w f)
def rops (c:Nat→Nat→Int):List Nat→Fw→Fw
 | [],f=>f
 | t::w,f=>rops c w (rop c t f)
theorem lets_parts {s:Nat} {w:List Nat} (h:Lets n (s::w)):s<n∧Lets n w:=⟨h s (by simp),fun j hj=>h j (by simp [hj])⟩
theorem Inv.lops {f:Fw} (hf:Inv n c f):∀{w:List Nat},Lets n w→Inv n c (lops c w f)
 | [],_=>hf
 | _::_,hw=>Inv.lop (lets_parts hw).1 (Inv.lops hf (lets_parts hw).2)
theorem Inv.rops (h:Car n c):∀{w:List Nat} {f:Fw},Inv n c f→Lets n w→Inv n c (rops c w f)
 | [],_,hf,_=>hf
 | t::w,f,hf,hw=>show Inv n c (Cox.rops c w (Cox.rop c t f)) from Inv.rops h (w:=w) (f:=Cox.rop c t f) (Inv.rop h (lets_parts hw).1 hf) (lets_parts hw).2
theorem lops_congr {f g:Fw} (h:EqL n f g):∀{w:List Nat},Lets n w→EqL n (lops c w f) (lops c w g)
 | [],_=>h
 | _::_,hw=>lop_congr (lets_parts hw).1 (lops_congr h (lets_parts hw).2)
theorem rops_congr:∀{w:List Nat} {f g:Fw},EqL n f g→Lets n w→EqL n (rops c w f) (rops c w g)
 | [],_,_,h,_=>h
 | t::w,f,g,h,hw=>show EqL n (rops c w (rop c t f)) (rops c w (rop c t g)) from rops_congr (w:=w) (rop_congr (lets_parts hw).1 h) (lets_parts hw).2
theorem zHD (f:Fw) (x:List Nat):∀w,lops c (w++x) f=lops c w (lops c x f)
 | []=>rfl
 | s::w=>by show lop c s (lops c (w++x) f)=_; rw [zHD f x w]; rfl
theorem zHC (h:Car n c) {s:Nat} (hs:s<n):∀{x:List Nat} {f:Fw},Inv n c f→Lets n x→EqL n (lop c s (rops c x f)) (rops c x (lop c s f))
 | [],_,_,_=>EqL.refl _
 | t::x,f,hf,hx=>by
  obtain ⟨ht,hx⟩:=lets_parts hx;exact (zHC h hs (hf.rop h ht) hx).trans (rops_congr (zMD h hs ht hf) hx)
theorem lops_rops (h:Car n c):∀{w:List Nat} {x:List Nat} {f:Fw},Inv n c f→Lets n w→Lets n x→EqL n (lops c w (rops c x f)) (rops c x (lops c w f))
 | [],_,_,_,_,_=>EqL.refl _
 | s::w,x,f,hf,hw,hx=>by
  obtain ⟨hs,hw⟩:=lets_parts hw;exact (lop_congr hs (lops_rops h hf hw hx)).trans (zHC h hs (hf.lops hw) hx)
theorem nil_lets:Lets n []:=fun j hj=>by simp at hj
theorem lops_nil (h:Car n c):∀(m:Nat) {w:List Nat} {f:Fw},w.length=m→Rdd n c w→lops c w f []=shN w.length (f w.reverse)
 | m,w,f,hm,hr=>by
  rcases List.eq_nil_or_concat w with rfl | ⟨v,t,rfl⟩
  ·rfl
  ·rw [List.concat_eq_append] at hr hm ⊢;obtain ⟨ht,hv,hd⟩:=hr.snoc h;cases m with
   | zero=>simp at hm
   | succ m =>
    have hvl:v.length=m:=by simpa using hm
    rw [zHD];have ih:=lops_nil h m (w:=v) (f:=lops c [t] f) hvl hv;rw [ih];show shN v.length (lop c t f v.reverse)=_;rw [lop_no hd];have e1:(v++[t]).length=v.length+1:=by simp
    have e2:(v++[t]).reverse=t::v.reverse:=by simp
    rw [e1,e2];rfl
theorem rops_app (x:List Nat):∀(w:List Nat) (f:Fw),rops c (w++x) f=rops c x (rops c w f)
 | [],_=>rfl
 | t::w,f=>by show rops c (w++x) (rop c t f)=_; rw [rops_app x w]; rfl
end Cox
end Go.Proofs.YtlchafedbnihoaaGreatDoor
namespace Go.Proofs.YtlchafedbnihoaaGreatDoor
open Go.RowKit
open Cox (Eqv Rdd Ld)
set_option maxRecDepth 20000
theorem zCd {c:List (List Int)} (hc:CartanP c):∀{w:List Int},Lets c.length w→w.length≤30→(zAs c w).length=c.length∧∀k,k<c.length→num (zAs c w) k=Cox.aW (ent c) (toN w) Cox.one k
 | [],_,_=>⟨by simp [zAs,act],fun k hk=>by simp [zAs,act,num,toN,Cox.aW,Cox.one,hk]⟩
 | i::w,hw,hl=>by
  obtain ⟨h1,h2⟩:=zCd hc (w:=w) (fun x hx=>hw x (by simp [hx])) (by simp at hl; omega);have hi:=hw i (by simp);have hlw:Cox.Lets c.length (toN w):=fun j hj=>by
   obtain ⟨x,hx,rfl⟩:=List.mem_map.1 hj;have:=hw x (by simp [hx]); omega
  refine ⟨by show (refl c i.toNat (zAs c w)).length=_; rw [zBJ,h1],fun k hk=>?_⟩;exact zCN hc h1 hlw (by simp [toN]; simp at hl; omega) h2 (by omega) hk
theorem zAu {n:Nat} {w:List Int} (h:Lets n w):Cox.Lets n (toN w):=fun j hj=>by
 obtain ⟨x,hx,rfl⟩:=List.mem_map.1 hj;have:=h x hx; omega
def toI (w:List Nat):List Int:=w.map Int.ofNat
theorem zHk {n:Nat} {w:List Nat} (h:Cox.Lets n w):Lets n (toI w):=fun x hx=>by
 obtain ⟨i,hi,rfl⟩:=List.mem_map.1 hx;have:=h i hi;exact ⟨Int.natCast_nonneg i,by show (i:Int)<n; omega⟩
theorem zIp:∀w:List Nat,toN (toI w)=w
 | []=>rfl
 | i::w=>by show (Int.ofNat i).toNat::toN (toI w)=i::w; rw [zIp w]; rfl
def zAX (c:List (List Int)) (x:List Int) (w:List Nat):Prop:=∀k,k<c.length→Cox.aW (ent c) (toN x) Cox.one k=Cox.aW (ent c) w Cox.one k
instance (c:List (List Int)) (x:List Int) (w:List Nat):Decidable (zAX c x w):=by unfold zAX; infer_instance
theorem zA5 {c:List (List Int)} (hc:CartanP c) {x:List Int} {w:List Nat} (hx:Lets c.length x) (hw:Cox.Lets c.length w):zAX c x w↔Eqv c.length (ent c) (toN x) w :=
 ⟨fun h=>Cox.faithful hc.car (zAu hx) hw h,fun h k _=>by rw [h.m]⟩
structure Nice (c:List (List Int)) (x:List Int):Prop where
 lets:Lets c.length x
 len:x.length≤28
 nrm:zAQ c x=x
theorem zFK {c:List (List Int)} (hc:CartanP c) {x y:List Int} (hx:Lets c.length x) (hy:Lets c.length y) (lx:x.length≤30) (ly:y.length≤30) (h:zAX c x (toN y)):zAQ c x=zAQ c y:=by
 obtain ⟨a1,a2⟩:=zCd hc hx lx;obtain ⟨b1,b2⟩:=zCd hc hy ly;unfold zAQ;rw [zFz a1 b1 fun k hk=>by rw [a2 k hk,b2 k hk,h k hk]]
theorem Nice.red {c:List (List Int)} (hc:CartanP c) {x:List Int} (h:Nice c x):Rdd c.length (ent c) (toN x):=⟨zAu h.lets,fun w' hw' he=>by
 by_cases hl:w'.length≤30
 ·have h1:=zFK hc h.lets (zHk hw') (by have:=h.len; omega) (by simpa [toI] using hl) (by rw [zIp]; exact (zA5 hc h.lets hw').2 he);have h2:=zB6 hc (zHk hw') (by simpa [toI] using hl);rw [<-h1,h.nrm] at h2;simpa [toN,toI] using h2
 ·have:=h.len;simp [toN]; omega⟩
theorem Nice.same {c:List (List Int)} (hc:CartanP c) {x y:List Int} (h:Nice c x) (h':Nice c y):zAX c x (toN y)↔x=y :=
 ⟨fun e=>by have:=zFK hc h.lets h'.lets (by have:=h.len; omega) (by have:=h'.len; omega) e; rwa [h.nrm,h'.nrm] at this,fun e=>by rw [e]; exact fun _ _=>rfl⟩
theorem zC8 {c:List (List Int)} (hc:CartanP c) {x:List Int} (hx:Lets c.length x) (hl:x.length≤28):Nice c (zAQ c x)∧Eqv c.length (ent c) (toN (zAQ c x)) (toN x):=by
 have h1:=zB6 hc hx (by omega);have h2:=zFV hc hx (by omega);have h3:zAs c (zAQ c x)=zAs c x:=zHN hc _ (zB5 hc hx (by omega)) (by omega);refine ⟨⟨h2,by omega,by unfold zAQ at h3 ⊢; rw [h3]⟩,(zA5 hc h2 (zAu hx)).1 fun k hk=>?_⟩;rw [<-(zCd hc h2 (by omega)).2 k hk,<-(zCd hc hx (by omega)).2 k hk,h3]
theorem zGR {c:List (List Int)} (hc:CartanP c) {x:List Int} (h:Nice c x) (hl:x.length≤27) {i:Int} (hi:0≤i∧i<c.length) :
  Nice c (zAQ c (i::x))∧Eqv c.length (ent c) (toN (zAQ c (i::x))) (i.toNat::toN x)∧(x.length<(zAQ c (i::x)).length↔¬Ld (ent c) i.toNat (toN x)):=by
 obtain ⟨h1,h2⟩:=zC8 hc (show Lets c.length (i::x) from fun y hy=>by
  rcases List.mem_cons.1 hy with rfl | hy
  ·exact hi
  ·exact h.lets y hy) (by simp; omega)
 have hs:i.toNat<c.length:=by omega
 have hr:=h.red hc;have hr2:=h1.red hc;refine ⟨h1,h2,⟨fun hlt hd=>?_,fun hd=>?_⟩⟩
 ·obtain ⟨x',a1,a2,_,a4⟩:=Cox.exch_left hc.car hs hr.1 hd;have:=hr2.2 x' a1 (h2.trans a4);simp [toN] at this a2;omega
 ·have h3:=hr.up hc.car hs hd;have:=h3.len hr2 h2.symm;simp [toN] at this;omega
end Go.Proofs.YtlchafedbnihoaaGreatDoor
