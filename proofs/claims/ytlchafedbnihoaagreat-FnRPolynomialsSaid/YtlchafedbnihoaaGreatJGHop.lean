/- Words from the left and from the right: descents, and when a letter may change sides. Plain. No condition. -/
import Derived.Test.YtlchafedbnihoaaGreatJGFin
namespace Go.Proofs.YtlchafedbnihoaaGreat
set_option maxRecDepth 20000
namespace Cox
variable {n:Nat} {c:Nat→Nat→Int}
theorem Eqv.inv (h:Car n c):∀{w:List Nat},Lets n w→Eqv n c (w.reverse++w) []
 | [],_=>Eqv.refl _
 | i::w,hw=>by
  have hi:i<n:=hw i (by simp);have ih:=Eqv.inv h (w:=w) (fun j hj=>hw j (by simp [hj]));have h1:Eqv n c (w.reverse++([i,i]++w)) (w.reverse++([]++w)):=(Eqv.refl _).app ((Eqv.two h hi).app (Eqv.refl w));have e1:(i::w).reverse++(i::w)=w.reverse++([i,i]++w):=by simp
  rw [e1];exact h1.trans ih
theorem Eqv.inv' (h:Car n c) {w:List Nat} (hw:Lets n w):Eqv n c (w++w.reverse) []:=by
 have:=Eqv.inv h (lets_rev hw);rwa [List.reverse_reverse] at this
theorem Eqv.rev (h:Car n c) {w w':List Nat} (hw:Lets n w) (hw':Lets n w') (he:Eqv n c w w'):Eqv n c w.reverse w'.reverse:=by
 have h1:Eqv n c (w.reverse++(w'++w'.reverse)) (w.reverse++[]):=(Eqv.refl _).app (Eqv.inv' h hw');have h2:Eqv n c (w.reverse++(w++w'.reverse)) (w.reverse++(w'++w'.reverse)):=(Eqv.refl _).app (he.app (Eqv.refl _));have h3:Eqv n c ((w.reverse++w)++w'.reverse) ([]++w'.reverse):=(Eqv.inv h hw).app (Eqv.refl _);rw [List.append_nil] at h1;rw [List.append_assoc] at h3;exact h1.symm.trans (h2.symm.trans h3)
theorem Eqv.cons {w w':List Nat} (s:Nat) (he:Eqv n c w w'):Eqv n c (s::w) (s::w'):=(Eqv.refl [s]).app he
theorem Eqv.snoc {w w':List Nat} (s:Nat) (he:Eqv n c w w'):Eqv n c (w++[s]) (w'++[s]):=he.app (Eqv.refl [s])
theorem Eqv.dbl (h:Car n c) {s:Nat} (hs:s<n) (w:List Nat):Eqv n c (s::s::w) w:=(Eqv.two h hs).app (Eqv.refl w)
theorem Eqv.dbr (h:Car n c) {s:Nat} (hs:s<n) (w:List Nat):Eqv n c ((w++[s])++[s]) w:=by
 have:=(Eqv.refl (n:=n) (c:=c) w).app (Eqv.two h hs);simpa using this
theorem lets_cons' {s:Nat} {w:List Nat} (hs:s<n) (hw:Lets n w):Lets n (s::w):=fun j hj=>by
 rcases List.mem_cons.1 hj with rfl | hj
 ·exact hs
 ·exact hw j hj
theorem lets_snoc {s:Nat} {w:List Nat} (hs:s<n) (hw:Lets n w):Lets n (w++[s]):=lets_app hw (lets_cons' hs (fun j hj=>by simp at hj))
def Ld (c:Nat→Nat→Int) (s:Nat) (w:List Nat):Prop:=aW c w one s<0
instance (c:Nat→Nat→Int) (s:Nat) (w:List Nat):Decidable (Ld c s w):=inferInstanceAs (Decidable (_<_))
def Rd (c:Nat→Nat→Int) (s:Nat) (w:List Nat):Prop:=Ld c s w.reverse
instance (c:Nat→Nat→Int) (s:Nat) (w:List Nat):Decidable (Rd c s w):=inferInstanceAs (Decidable (_<_))
theorem Ld.eqv {w w':List Nat} (s:Nat) (he:Eqv n c w w'):Ld c s w↔Ld c s w':=by unfold Ld; rw [he.m]
theorem Rd.eqv (h:Car n c) {w w':List Nat} (hw:Lets n w) (hw':Lets n w') (s:Nat) (he:Eqv n c w w'):Rd c s w↔Rd c s w':=Ld.eqv s (he.rev h hw hw')
theorem Ld.flip (h:Car n c) {s:Nat} (hs:s<n) {w:List Nat} (hw:Lets n w):Ld c s (s::w)↔¬Ld c s w:=by
 have h0:=(image_step h hw hs).1;have e:aW c (s::w) one s=aW c w one s-aW c w one s*c s s:=rfl;rw [h.diag s hs] at e;unfold Ld;omega
theorem Rd.flip (h:Car n c) {s:Nat} (hs:s<n) {w:List Nat} (hw:Lets n w):Rd c s (w++[s])↔¬Rd c s w:=by
 unfold Rd;rw [List.reverse_append];exact Ld.flip h hs (lets_rev hw)
theorem zGS (h:Car n c) {s:Nat} (hs:s<n) {w:List Nat} (hw:Lets n w):(Ld c s w→NegA n c w.reverse s)∧(¬Ld c s w→PosA n c w.reverse s):=by
 unfold Ld;have h0:=(image_step h hw hs).1;rw [zC2 h hw hs] at h0 ⊢;rcases coh h (lets_rev hw) hs with hp | hn
 ·have:=(zBW hp.2).1;exact ⟨fun h1=>by omega,fun _=>hp⟩
 ·refine ⟨fun _=>hn,fun h1=>?_⟩;have hneg:Pos n (fun k=>-1*aR n (tr c) w.reverse (e s) k+0*0):=fun k hk=>by have:=hn.2 k hk; show 0≤-1*_+0*0; omega
  obtain ⟨h2,_⟩:=zBW hneg;rw [dotN_comm,zCE one (aR n (tr c) w.reverse (e s)) (fun _=>0) (-1) 0 n,dotN_comm] at h2;exact absurd (show dotN (aR n (tr c) w.reverse (e s)) one n=0 by omega) h0
theorem zIo (hs:0<n) {w:List Nat} {s:Nat} (h:Car n c) (hs:s<n) (hw:Lets n w) (hp:PosA n c w s) (hn:NegA n c w s):False:=by
 have hb:=zCP h (e s) (e s) hw;rw [zCx hs hs,h.diag s hs] at hb;have h0:∀k,k<n→aR n (tr c) w (e s) k=0:=fun k hk=>by have:=hp.2 k hk; have:=hn.2 k hk; omega
 unfold bil at hb;rw [zDt h0] at hb;omega
theorem zFP (h:Car n c) {y:List Nat} {s k:Nat} (hy:Lets n y) (hs:s<n) (hk:k<n) (hp:PosA n c y s) (hn:NegA n c (k::y) s) :
  Eqv n c (y++[s]) (k::y)∧aR n c y (e s)=e k∧aR n (tr c) y (e s)=e k:=by
 have hr:=zBp hp.1 hn.1 (fun j hj=>by rw [zCv hj _ hy,zDu hs hj]);have hx:=zBp (c:=tr c) hp.2 hn.2 (fun j hj=>by rw [zCv hj _ hy,zDu hs hj]);have hb:=zCP h (e s) (e s) hy;rw [hr,hx,zDo,zCx hk hk,zCx hs hs,h.diag k hk,h.diag s hs] at hb;have p1:=hp.1 k hk;generalize aR n c y (e s) k=a at *;generalize aR n (tr c) y (e s) k=b at *;have hab:b*a=1:=by omega
 have ha:a=1:=Int.eq_one_of_mul_eq_one_left p1 hab;have hb1:b=1:=by rw [ha] at hab; omega
 subst ha; subst hb1;have h1:aR n c y (e s)=e k:=by rw [hr]; funext j; simp
 have h2:aR n (tr c) y (e s)=e k:=by rw [hx]; funext j; simp
 exact ⟨comm h hy hs hk h1 h2,h1,h2⟩
theorem zFs {w w':List Nat} {s:Nat} (he:Eqv n c w w') (hn:NegA n c w s):NegA n c w' s:=by
 unfold NegA at *;rw [<-he.r,<-he.x]; exact hn
theorem zIj {w:List Nat} {s:Nat} (h:Car n c) (hs:s<n):(PosA n c w s→NegA n c (w++[s]) s)∧(NegA n c w s→PosA n c (w++[s]) s):=by
 have hsub:∀(d:Nat→Nat→Int),Car n d→aR n d (w++[s]) (e s)=fun k=>- aR n d w (e s) k:=by
  intro d hd;rw [zA2];show aR n d w (sR n d s (e s))=_;have:sR n d s (e s)=fun k=>(-1)*e s k+0*e s k:=by
   funext k;unfold sR;rw [dotN_e _ _ _ hs,hd.diag s hs];omega
  rw [this,zDe];funext k;omega
 unfold PosA NegA;rw [hsub c h,hsub (tr c) h.tr];refine ⟨fun hh=>⟨fun k hk=>?_,fun k hk=>?_⟩,fun hh=>⟨fun k hk=>?_,fun k hk=>?_⟩⟩
 ·have:=hh.1 k hk; show -_≤_; omega
 ·have:=hh.2 k hk; show -_≤_; omega
 ·have:=hh.1 k hk; show _≤-_; omega
 ·have:=hh.2 k hk; show _≤-_; omega
theorem side (h:Car n c) {s t:Nat} (hs:s<n) (ht:t<n) {w:List Nat} (hw:Lets n w):(Ld c s (w++[t])↔Ld c s w)∨(Eqv n c (s::w) (w++[t])∧(Ld c s w↔Rd c t w)):=by
 have hr:=lets_rev hw;have hwt:=lets_snoc ht hw;have er:(w++[t]).reverse=t::w.reverse:=by simp
 obtain ⟨a1,a2⟩:=zGS h hs hw;obtain ⟨b1,b2⟩:=zGS h hs hwt;rw [er] at b1 b2;have rt:=zGS h ht hr;rw [List.reverse_reverse] at rt;have back:Eqv n c (w.reverse++[s]) (t::w.reverse)→Eqv n c (s::w) (w++[t]):=fun he=>by
  have:=he.rev h (lets_snoc hs hr) (lets_cons' ht hr);simpa using this
 -- the root that the word takes to a letter's
 have root:Eqv n c (s::w) (w++[t])→(NegA n c w.reverse s→NegA n c w t)∧(PosA n c w.reverse s→PosA n c w t):=fun he=>by
  have key:Eqv n c (w.reverse++[s]) (t::w.reverse):=by
   have:=he.rev h (lets_cons' hs hw) hwt;simpa using this
  exact ⟨fun hn=>by
   rcases coh h hw ht with hp | hq
   ·exfalso
    -- then the letter from the right makes it longer, from the left shorter
    have h1:=(zIj (w:=w) h ht).1 hp;have h2:NegA n c (s::w) t:=zFs he.symm h1;obtain ⟨_,h3,h4⟩:=zFP h hw ht hs hp h2;have h5:aR n c w.reverse (e s)=e t:=by rw [<-h3,<-zA2,(Eqv.inv h hw).r]; rfl
    have:=hn.1 t ht;rw [h5] at this;simp [e] at this
   ·exact hq,fun hp=>by
   rcases coh h hw ht with hq | hn
   ·exact hq
   ·exfalso;have h1:=(zIj (w:=w.reverse) h hs).1 hp;have h2:NegA n c (t::w.reverse) s:=zFs key h1;obtain ⟨_,h3,h4⟩:=zFP h hr hs ht hp h2;have h5:aR n c w (e t)=e s:=by rw [<-h3,<-zA2,(Eqv.inv' h hw).r]; rfl
    have:=hn.1 s hs;rw [h5] at this;simp [e] at this⟩
 have fin:Eqv n c (s::w) (w++[t])→(Ld c s w↔Rd c t w):=fun he=>by
  obtain ⟨r1,r2⟩:=root he;constructor
  ·intro hl;exact Decidable.byContradiction fun hn=>zIo (by omega) h ht hw (rt.2 hn) (r1 (a1 hl))
  ·intro hl;exact Decidable.byContradiction fun hn=>zIo (by omega) h ht hw (r2 (a2 hn)) (rt.1 hl)
 by_cases p:Ld c s w <;> by_cases q:Ld c s (w++[t])
 ·exact .inl ⟨fun _=>p,fun _=>q⟩
 ·refine .inr ?_;have h1:PosA n c (t::w.reverse) s:=b2 q;have h2:NegA n c (t::t::w.reverse) s:=zFs (Eqv.dbl h ht _).symm (a1 p);obtain ⟨h3,_,_⟩:=zFP h (lets_cons' ht hr) hs ht h1 h2;have h4:Eqv n c (t::(w.reverse++[s])) (w.reverse):=h3.trans (Eqv.dbl h ht _);have h5:Eqv n c (w.reverse++[s]) (t::w.reverse):=(Eqv.dbl h ht _).symm.trans (h4.cons t);exact ⟨back h5,fin (back h5)⟩
 ·refine .inr ?_;obtain ⟨h3,_,_⟩:=zFP h hr hs ht (a2 p) (b1 q);exact ⟨back h3,fin (back h3)⟩
 ·exact .inl ⟨fun x=>absurd x q,fun x=>absurd x p⟩
theorem zFb (h:Car n c) {s t:Nat} (hs:s<n) (ht:t<n) {w:List Nat} (hw:Lets n w) :
  ((Ld c s (w++[t])↔Ld c s w)∧(Rd c t (s::w)↔Rd c t w))∨(Eqv n c (s::w) (w++[t])∧(Ld c s w↔Rd c t w)∧(Ld c s (w++[t])↔¬Ld c s w)∧(Rd c t (s::w)↔¬Rd c t w)):=by
 have meet:Eqv n c (s::w) (w++[t])→(Ld c s (w++[t])↔¬Ld c s w)∧(Rd c t (s::w)↔¬Rd c t w):=fun he =>
  ⟨(Ld.eqv s he).symm.trans (Ld.flip h hs hw),(Rd.eqv h (lets_cons' hs hw) (lets_snoc ht hw) t he).trans (Rd.flip h ht hw)⟩
 rcases side h hs ht hw with h1 | ⟨h1,h2⟩
 ·rcases side h ht hs (lets_rev hw) with h3 | ⟨h3,h4⟩
  ·refine .inl ⟨h1,?_⟩;unfold Rd;simpa using h3
  ·have h5:Eqv n c (s::w) (w++[t]):=by
    have:=h3.rev h (lets_cons' ht (lets_rev hw)) (lets_snoc hs (lets_rev hw));simpa using this.symm
   have:=(meet h5).1;have hh:=h1.symm.trans this;by_cases q:Ld c s w
   ·exact absurd q (hh.1 q)
   ·exact absurd (hh.2 q) q
 ·exact .inr ⟨h1,h2,meet h1⟩
end Cox
end Go.Proofs.YtlchafedbnihoaaGreat
namespace Go.Proofs.YtlchafedbnihoaaGreat
set_option maxRecDepth 20000
namespace Cox
variable {n:Nat} {c:Nat→Nat→Int}
theorem exch_left (h:Car n c) {s:Nat} (hs:s<n) {w:List Nat} (hw:Lets n w) (hl:Ld c s w):∃w',Lets n w'∧w'.length+1=w.length∧w'.Sublist w∧Eqv n c (s::w) w':=by
 obtain ⟨x,a1,a2,a3,a4⟩:=zCF h hs (lets_rev hw) ((zGS h hs hw).1 hl);refine ⟨x.reverse,lets_rev a1,by simp at a2 ⊢; omega,by have:=List.reverse_sublist.2 a3; simpa using this,?_⟩;have:=a4.rev h (lets_snoc hs (lets_rev hw)) a1;simpa using this
def Rdd (n:Nat) (c:Nat→Nat→Int) (w:List Nat):Prop:=Lets n w∧∀w',Lets n w'→Eqv n c w w'→w.length≤w'.length
theorem Rdd.rev (h:Car n c) {w:List Nat} (hr:Rdd n c w):Rdd n c w.reverse:=⟨lets_rev hr.1,fun w' hw' he=>by
 have:=hr.2 w'.reverse (lets_rev hw') (by have:=he.rev h (lets_rev hr.1) hw'; rwa [List.reverse_reverse] at this);simpa using this⟩
theorem Rdd.cons (h:Car n c) {s:Nat} {w:List Nat} (hr:Rdd n c (s::w)):s<n∧Rdd n c w∧¬Ld c s w:=by
 have hs:s<n:=hr.1 s (by simp);have hw:Lets n w:=fun j hj=>hr.1 j (by simp [hj]);refine ⟨hs,⟨hw,fun w' hw' he=>?_⟩,fun hl=>?_⟩
 ·have:=hr.2 (s::w') (lets_cons' hs hw') (he.cons s);simpa using this
 ·obtain ⟨w',a1,a2,_,a4⟩:=exch_left h hs hw hl;have:=hr.2 w' a1 a4;simp at this;omega
theorem Rdd.snoc (h:Car n c) {s:Nat} {w:List Nat} (hr:Rdd n c (w++[s])):s<n∧Rdd n c w∧¬Rd c s w:=by
 have h1:Rdd n c (s::w.reverse):=by have:=hr.rev h; simpa using this
 obtain ⟨a1,a2,a3⟩:=h1.cons h;exact ⟨a1,by have:=a2.rev h; simpa using this,a3⟩
theorem Rdd.up (h:Car n c) {s:Nat} {w:List Nat} (hs:s<n) (hr:Rdd n c w) (hl:¬Ld c s w):Rdd n c (s::w):=⟨lets_cons' hs hr.1,fun w' hw' he=>by
 have h1:Ld c s w':=(Ld.eqv s he).1 ((Ld.flip h hs hr.1).2 hl);obtain ⟨x,a1,a2,_,a4⟩:=exch_left h hs hw' h1;have:=hr.2 x a1 ((Eqv.dbl h hs w).symm.trans ((he.cons s).trans a4));simp;omega⟩
theorem exists_red:∀(N:Nat) (w:List Nat),w.length≤N→Lets n w→∃x,Rdd n c x∧Eqv n c w x∧x.length≤w.length
 | N,w,hN,hw=>by
  by_cases hr:Rdd n c w
  ·exact ⟨w,hr,Eqv.refl w,zQd _⟩
  ·have:∃w',Lets n w'∧Eqv n c w w'∧w'.length<w.length:=by
    refine Classical.byContradiction fun hn=>hr ⟨hw,fun w' hw' he=>?_⟩;exact Nat.le_of_not_lt fun hl=>hn ⟨w',hw',he,hl⟩
   obtain ⟨w',a1,a2,a3⟩:=this;cases N with
   | zero=>omega
   | succ N =>
    obtain ⟨x,b1,b2,b3⟩:=exists_red N w' (by omega) a1;exact ⟨x,b1,a2.trans b2,by omega⟩
theorem Rdd.nil:Rdd n c []:=⟨fun j hj=>by simp at hj,fun w' _ _=>Nat.zero_le _⟩
theorem Rdd.len {w w':List Nat} (h:Rdd n c w) (h':Rdd n c w') (he:Eqv n c w w'):w.length=w'.length:=Nat.le_antisymm (h.2 w' h'.1 he) (h'.2 w h.1 he.symm)
theorem faithful (h:Car n c) {w w':List Nat} (hw:Lets n w) (hw':Lets n w') (he:∀k,k<n→aW c w one k=aW c w' one k):Eqv n c w w':=by
 have h1:∀k,k<n→aW c (w'.reverse++w) one k=1:=fun k hk=>by
  rw [aW_append,aW_congr h he (lets_rev hw') k hk,zCW h one hw'];rfl
 obtain ⟨x,b1,b2,_⟩:=exists_red (c:=c) _ (w'.reverse++w) (zQd _) (lets_app (lets_rev hw') hw);cases x with
 | nil =>
  have h2:Eqv n c (w'++(w'.reverse++w)) (w'++[]):=(Eqv.refl w').app b2;have h3:Eqv n c ((w'++w'.reverse)++w) ([]++w):=(Eqv.inv' h hw').app (Eqv.refl w);rw [List.append_nil] at h2;rw [List.append_assoc] at h3;exact h3.symm.trans h2
 | cons s y =>
  obtain ⟨hs,hy,hn⟩:=b1.cons h;have h4:Ld c s (w'.reverse++w):=(Ld.eqv s b2).2 ((Ld.flip h hs hy.1).2 hn);unfold Ld at h4;rw [h1 s hs] at h4;omega
def sh (r:Nat→Int):Nat→Int
 | 0=>0
 | k+1=>r k
theorem sh_zero' {r:Nat→Int} (h:∀k,r k=0) (k:Nat):sh r k=0:=by
 cases k with
 | zero=>rfl
 | succ k=>exact h k
theorem zMA {r r':Nat→Int} (h:sh r=sh r'):r=r':=funext fun k=>congrFun h (k+1)
def shN:Nat→(Nat→Int)→(Nat→Int)
 | 0,r=>r
 | m+1,r=>shN m (sh r)
theorem zJ9:∀{m:Nat} {r r':Nat→Int},shN m r=shN m r'→r=r'
 | 0,_,_,h=>h
 | m+1,_,_,h=>zMA (zJ9 (m:=m) h)
abbrev Fw:=List Nat→Nat→Int
def Inv (n:Nat) (c:Nat→Nat→Int) (f:Fw):Prop:=∀w w',Lets n w→Lets n w'→Eqv n c w w'→f w=f w'
def EqL (n:Nat) (f g:Fw):Prop:=∀w,Lets n w→f w=g w
theorem EqL.refl (f:Fw):EqL n f f:=fun _ _=>rfl
theorem EqL.symm {f g:Fw} (h:EqL n f g):EqL n g f:=fun w hw=>(h w hw).symm
theorem EqL.trans {f g k:Fw} (h:EqL n f g) (h':EqL n g k):EqL n f k:=fun w hw=>(h w hw).trans (h' w hw)
def lop (c:Nat→Nat→Int) (s:Nat) (f:Fw):Fw:=fun w k=>if Ld c s w then f (s::w) k+(sh (f w) k-f w k) else sh (f (s::w)) k
def rop (c:Nat→Nat→Int) (t:Nat) (f:Fw):Fw:=fun w k=>if Rd c t w then f (w++[t]) k+(sh (f w) k-f w k) else sh (f (w++[t])) k
def dop (c:Nat→Nat→Int) (s:Nat) (f:Fw):Fw:=fun w k=>if Ld c s w then f (s::w) k else sh (f (s::w)) k+(sh (f w) k-f w k)
def eop (c:Nat→Nat→Int) (t:Nat) (f:Fw):Fw:=fun w k=>if Rd c t w then f (w++[t]) k else sh (f (w++[t])) k+(sh (f w) k-f w k)
section
variable {s t:Nat} {f g:Fw} {w:List Nat}
theorem lop_yes (a:Ld c s w):lop c s f w=fun k=>f (s::w) k+(sh (f w) k-f w k):=funext fun k=>by unfold lop; rw [if_pos a]
theorem lop_no (a:¬Ld c s w):lop c s f w=sh (f (s::w)):=funext fun k=>by unfold lop; rw [if_neg a]
theorem rop_yes (a:Rd c t w):rop c t f w=fun k=>f (w++[t]) k+(sh (f w) k-f w k):=funext fun k=>by unfold rop; rw [if_pos a]
theorem rop_no (a:¬Rd c t w):rop c t f w=sh (f (w++[t])):=funext fun k=>by unfold rop; rw [if_neg a]
theorem dop_yes (a:Ld c s w):dop c s f w=f (s::w):=funext fun k=>by unfold dop; rw [if_pos a]
theorem dop_no (a:¬Ld c s w):dop c s f w=fun k=>sh (f (s::w)) k+(sh (f w) k-f w k):=funext fun k=>by unfold dop; rw [if_neg a]
theorem zBu (a:Rd c t w):eop c t f w=f (w++[t]):=funext fun k=>by unfold eop; rw [if_pos a]
theorem zB7 (a:¬Rd c t w):eop c t f w=fun k=>sh (f (w++[t])) k+(sh (f w) k-f w k):=funext fun k=>by unfold eop; rw [if_neg a]
theorem Inv.lop (hs:s<n) (hf:Inv n c f):Inv n c (lop c s f):=fun w w' hw hw' he=>by
 have e:=Ld.eqv s he;have e1:=hf w w' hw hw' he;have e2:=hf _ _ (lets_cons' hs hw) (lets_cons' hs hw') (he.cons s);by_cases a:Ld c s w
 ·rw [lop_yes a,lop_yes (e.1 a),e1,e2]
 ·rw [lop_no a,lop_no (mt e.2 a),e2]
theorem Inv.dop (hs:s<n) (hf:Inv n c f):Inv n c (dop c s f):=fun w w' hw hw' he=>by
 have e:=Ld.eqv s he;have e1:=hf w w' hw hw' he;have e2:=hf _ _ (lets_cons' hs hw) (lets_cons' hs hw') (he.cons s);by_cases a:Ld c s w
 ·rw [dop_yes a,dop_yes (e.1 a),e2]
 ·rw [dop_no a,dop_no (mt e.2 a),e1,e2]
theorem Inv.rop (h:Car n c) (ht:t<n) (hf:Inv n c f):Inv n c (rop c t f):=fun w w' hw hw' he=>by
 have e:=Rd.eqv h hw hw' t he;have e1:=hf w w' hw hw' he;have e2:=hf _ _ (lets_snoc ht hw) (lets_snoc ht hw') (he.snoc t);by_cases a:Rd c t w
 ·rw [rop_yes a,rop_yes (e.1 a),e1,e2]
 ·rw [rop_no a,rop_no (mt e.2 a),e2]
theorem Inv.eop (h:Car n c) (ht:t<n) (hf:Inv n c f):Inv n c (eop c t f):=fun w w' hw hw' he=>by
 have e:=Rd.eqv h hw hw' t he;have e1:=hf w w' hw hw' he;have e2:=hf _ _ (lets_snoc ht hw) (lets_snoc ht hw') (he.snoc t);by_cases a:Rd c t w
 ·rw [zBu a,zBu (e.1 a),e2]
 ·rw [zB7 a,zB7 (mt e.2 a),e1,e2]
theorem zE8 (hs:s<n) (h:EqL n f g):EqL n (lop c s f) (lop c s g):=fun w hw=>by
 unfold Cox.lop; rw [h w hw,h _ (lets_cons' hs hw)]
theorem zLC (hs:s<n) (h:EqL n f g):EqL n (dop c s f) (dop c s g):=fun w hw=>by
 unfold Cox.dop; rw [h w hw,h _ (lets_cons' hs hw)]
theorem rop_congr (ht:t<n) (h:EqL n f g):EqL n (rop c t f) (rop c t g):=fun w hw=>by
 unfold Cox.rop; rw [h w hw,h _ (lets_snoc ht hw)]
theorem zLF (ht:t<n) (h:EqL n f g):EqL n (eop c t f) (eop c t g):=fun w hw=>by
 unfold Cox.eop; rw [h w hw,h _ (lets_snoc ht hw)]
theorem zOR (h:Car n c) (hs:s<n) (ht:t<n) (hf:Inv n c f):EqL n (lop c s (rop c t f)) (rop c t (lop c s f)):=fun w hw=>by
 have hx:s::w++[t]=s::(w++[t]):=rfl;funext k;rcases zFb h hs ht hw with ⟨e1,e2⟩ | ⟨e1,e2,e3,e4⟩
 ·by_cases a:Ld c s w <;> by_cases b:Rd c t w
  ·rw [lop_yes a,rop_yes b,rop_yes b,rop_yes (e2.2 b),lop_yes a,lop_yes (e1.2 a),hx];rcases k with _ | _ | k <;> simp only [sh] <;> omega
  ·rw [lop_yes a,rop_no b,rop_no b,rop_no (mt e2.1 b),lop_yes (e1.2 a),hx];rcases k with _ | _ | k <;> simp only [sh] <;> omega
  ·rw [lop_no a,rop_yes b,rop_yes (e2.2 b),lop_no a,lop_no (mt e1.1 a),hx];rcases k with _ | _ | k <;> simp only [sh] <;> omega
  ·rw [lop_no a,rop_no b,rop_no (mt e2.1 b),lop_no (mt e1.1 a),hx]
 ·have f1:f (s::w)=f (w++[t]):=hf _ _ (lets_cons' hs hw) (lets_snoc ht hw) e1;have f2:f (s::(w++[t]))=f w:=hf _ _ (lets_cons' hs (lets_snoc ht hw)) hw ((e1.symm.cons s).trans (Eqv.dbl h hs w));by_cases a:Ld c s w
  ·have b:=e2.1 a;rw [lop_yes a,rop_yes b,rop_yes b,rop_no (fun x=>e4.1 x b),lop_yes a,lop_no (fun x=>e3.1 x a),hx,f1,f2]
  ·have b:=mt e2.2 a;rw [lop_no a,rop_no b,rop_yes (e4.2 b),lop_yes (e3.2 a),hx,f1,f2]
theorem zOB (h:Car n c) (hs:s<n) (ht:t<n) (hf:Inv n c f):EqL n (dop c s (eop c t f)) (eop c t (dop c s f)):=fun w hw=>by
 have hx:s::w++[t]=s::(w++[t]):=rfl;funext k;rcases zFb h hs ht hw with ⟨e1,e2⟩ | ⟨e1,e2,e3,e4⟩
 ·by_cases a:Ld c s w <;> by_cases b:Rd c t w
  ·rw [dop_yes a,zBu b,zBu (e2.2 b),dop_yes (e1.2 a),hx]
  ·rw [dop_yes a,zB7 b,zB7 (mt e2.1 b),dop_yes a,dop_yes (e1.2 a),hx]
  ·rw [dop_no a,zBu b,zBu b,zBu (e2.2 b),dop_no (mt e1.1 a),hx]
  ·rw [dop_no a,zB7 b,zB7 b,zB7 (mt e2.1 b),dop_no (mt e1.1 a),dop_no a,hx];rcases k with _ | _ | k <;> simp only [sh] <;> omega
 ·have f1:f (s::w)=f (w++[t]):=hf _ _ (lets_cons' hs hw) (lets_snoc ht hw) e1;have f2:f (s::(w++[t]))=f w:=hf _ _ (lets_cons' hs (lets_snoc ht hw)) hw ((e1.symm.cons s).trans (Eqv.dbl h hs w));by_cases a:Ld c s w
  ·have b:=e2.1 a;rw [dop_yes a,zBu b,zB7 (fun x=>e4.1 x b),dop_no (fun x=>e3.1 x a),hx,f1,f2]
  ·have b:=mt e2.2 a;rw [dop_no a,zB7 b,zB7 b,zBu (e4.2 b),dop_yes (e3.2 a),dop_no a,hx,f1,f2]
end
def lops (c:Nat→Nat→Int):List Nat→Fw→Fw
 | [],f=>f
 | s::w,f=>lop c s (lops c w f)
def rops (c:Nat→Nat→Int):List Nat→Fw→Fw
 | [],f=>f
 | t::w,f=>rops c w (rop c t f)
def dops (c:Nat→Nat→Int):List Nat→Fw→Fw
 | [],f=>f
 | s::w,f=>dop c s (dops c w f)
def eops (c:Nat→Nat→Int):List Nat→Fw→Fw
 | [],f=>f
 | t::w,f=>eops c w (eop c t f)
theorem lets_parts {s:Nat} {w:List Nat} (h:Lets n (s::w)):s<n∧Lets n w:=⟨h s (by simp),fun j hj=>h j (by simp [hj])⟩
theorem Inv.lops {f:Fw} (hf:Inv n c f):∀{w:List Nat},Lets n w→Inv n c (lops c w f)
 | [],_=>hf
 | _::_,hw=>Inv.lop (lets_parts hw).1 (Inv.lops hf (lets_parts hw).2)
theorem Inv.dops {f:Fw} (hf:Inv n c f):∀{w:List Nat},Lets n w→Inv n c (dops c w f)
 | [],_=>hf
 | _::_,hw=>Inv.dop (lets_parts hw).1 (Inv.dops hf (lets_parts hw).2)
theorem Inv.rops (h:Car n c):∀{w:List Nat} {f:Fw},Inv n c f→Lets n w→Inv n c (rops c w f)
 | [],_,hf,_=>hf
 | t::w,f,hf,hw=>show Inv n c (Cox.rops c w (Cox.rop c t f)) from Inv.rops h (w:=w) (f:=Cox.rop c t f) (Inv.rop h (lets_parts hw).1 hf) (lets_parts hw).2
theorem Inv.eops (h:Car n c):∀{w:List Nat} {f:Fw},Inv n c f→Lets n w→Inv n c (eops c w f)
 | [],_,hf,_=>hf
 | t::w,f,hf,hw=>show Inv n c (Cox.eops c w (Cox.eop c t f)) from Inv.eops h (w:=w) (f:=Cox.eop c t f) (Inv.eop h (lets_parts hw).1 hf) (lets_parts hw).2
theorem zGU {f g:Fw} (h:EqL n f g):∀{w:List Nat},Lets n w→EqL n (lops c w f) (lops c w g)
 | [],_=>h
 | _::_,hw=>zE8 (lets_parts hw).1 (zGU h (lets_parts hw).2)
theorem zGi:∀{w:List Nat} {f g:Fw},EqL n f g→Lets n w→EqL n (rops c w f) (rops c w g)
 | [],_,_,h,_=>h
 | t::w,f,g,h,hw=>show EqL n (rops c w (rop c t f)) (rops c w (rop c t g)) from zGi (w:=w) (rop_congr (lets_parts hw).1 h) (lets_parts hw).2
theorem zDV:∀{w:List Nat} {f g:Fw},EqL n f g→Lets n w→EqL n (eops c w f) (eops c w g)
 | [],_,_,h,_=>h
 | t::w,f,g,h,hw=>show EqL n (eops c w (eop c t f)) (eops c w (eop c t g)) from zDV (w:=w) (zLF (lets_parts hw).1 h) (lets_parts hw).2
theorem zFy (f:Fw) (x:List Nat):∀w,lops c (w++x) f=lops c w (lops c x f)
 | []=>rfl
 | s::w=>by show lop c s (lops c (w++x) f)=_; rw [zFy f x w]; rfl
theorem zIE (f:Fw) (x:List Nat):∀w,dops c (w++x) f=dops c w (dops c x f)
 | []=>rfl
 | s::w=>by show dop c s (dops c (w++x) f)=_; rw [zIE f x w]; rfl
theorem zIX (h:Car n c) {s:Nat} (hs:s<n):∀{x:List Nat} {f:Fw},Inv n c f→Lets n x→EqL n (lop c s (rops c x f)) (rops c x (lop c s f))
 | [],_,_,_=>EqL.refl _
 | t::x,f,hf,hx=>by
  obtain ⟨ht,hx⟩:=lets_parts hx;exact (zIX h hs (hf.rop h ht) hx).trans (zGi (zOR h hs ht hf) hx)
theorem zE9 (h:Car n c):∀{w:List Nat} {x:List Nat} {f:Fw},Inv n c f→Lets n w→Lets n x→EqL n (lops c w (rops c x f)) (rops c x (lops c w f))
 | [],_,_,_,_,_=>EqL.refl _
 | s::w,x,f,hf,hw,hx=>by
  obtain ⟨hs,hw⟩:=lets_parts hw;exact (zE8 hs (zE9 h hf hw hx)).trans (zIX h hs (hf.lops hw) hx)
theorem zID (h:Car n c) {s:Nat} (hs:s<n):∀{x:List Nat} {f:Fw},Inv n c f→Lets n x→EqL n (dop c s (eops c x f)) (eops c x (dop c s f))
 | [],_,_,_=>EqL.refl _
 | t::x,f,hf,hx=>by
  obtain ⟨ht,hx⟩:=lets_parts hx;exact (zID h hs (hf.eop h ht) hx).trans (zDV (zOB h hs ht hf) hx)
theorem nil_lets:Lets n []:=fun j hj=>by simp at hj
theorem zFz (h:Car n c):∀(m:Nat) {w:List Nat} {f:Fw},w.length=m→Rdd n c w→lops c w f []=shN w.length (f w.reverse)
 | m,w,f,hm,hr=>by
  rcases List.eq_nil_or_concat w with rfl | ⟨v,t,rfl⟩
  ·rfl
  ·rw [List.concat_eq_append] at hr hm ⊢;obtain ⟨ht,hv,hd⟩:=hr.snoc h;cases m with
   | zero=>simp at hm
   | succ m =>
    have hvl:v.length=m:=by simpa using hm
    rw [zFy];have ih:=zFz h m (w:=v) (f:=lops c [t] f) hvl hv;rw [ih];show shN v.length (lop c t f v.reverse)=_;rw [lop_no hd];have e1:(v++[t]).length=v.length+1:=by simp
    have e2:(v++[t]).reverse=t::v.reverse:=by simp
    rw [e1,e2];rfl
theorem rops_app (x:List Nat):∀(w:List Nat) (f:Fw),rops c (w++x) f=rops c x (rops c w f)
 | [],_=>rfl
 | t::w,f=>by show rops c (w++x) (rop c t f)=_; rw [rops_app x w]; rfl
theorem zF9 (h:Car n c):∀{w:List Nat} {f:Fw},Rdd n c w→rops c w f []=shN w.length (f w.reverse)
 | [],_,_=>rfl
 | t::w,f,hr=>by
  obtain ⟨ht,hw,hd⟩:=hr.cons h;show rops c w (rop c t f) []=shN w.length (sh (f (t::w).reverse));rw [zF9 h hw,rop_no (by unfold Rd; rwa [List.reverse_reverse]),List.reverse_cons]
theorem lops_same (h:Car n c) {w w':List Nat} {f:Fw} (hf:Inv n c f) (hr:Rdd n c w) (hr':Rdd n c w') (he:Eqv n c w w'):EqL n (lops c w f) (lops c w' f):=fun y hy=>by
 obtain ⟨x,a1,a2,_⟩:=exists_red (c:=c) _ y (zQd _) hy;rw [hf.lops hr.1 y x hy a1.1 a2,hf.lops hr'.1 y x hy a1.1 a2];have k1:=zF9 h (f:=lops c w f) (a1.rev h);have k2:=zF9 h (f:=lops c w' f) (a1.rev h);rw [List.reverse_reverse] at k1 k2;refine zJ9 (m:=x.reverse.length) ?_;rw [<-k1,<-k2,<-zE9 h hf hr.1 (a1.rev h).1 [] nil_lets,<-zE9 h hf hr'.1 (a1.rev h).1 [] nil_lets,zFz h _ rfl hr,zFz h _ rfl hr',hr.len hr' he,
  hf.rops h (a1.rev h).1 _ _ (lets_rev hr.1) (lets_rev hr'.1) (he.rev h hr.1 hr'.1)]
end Cox
end Go.Proofs.YtlchafedbnihoaaGreat
namespace Go.Proofs.YtlchafedbnihoaaGreat
set_option maxRecDepth 20000
namespace Cox
variable {n:Nat} {c:Nat→Nat→Int}
open Classical in
noncomputable def d0 (n:Nat) (c:Nat→Nat→Int):Fw:=fun w k=>if Eqv n c w []∧k=0 then 1 else 0
theorem d0_yes {w:List Nat} (he:Eqv n c w []) (k:Nat):d0 n c w k=if k=0 then 1 else 0:=by
 unfold d0;by_cases hk:k=0
 ·rw [if_pos ⟨he,hk⟩,if_pos hk]
 ·rw [if_neg (fun x=>hk x.2),if_neg hk]
theorem d0_no {w:List Nat} (he:¬Eqv n c w []) (k:Nat):d0 n c w k=0:=if_neg fun x=>he x.1
theorem d0_inv:Inv n c (d0 n c):=fun w w' _ _ he=>funext fun k=>by
 by_cases h:Eqv n c w []
 ·rw [d0_yes h,d0_yes (he.symm.trans h)]
 ·rw [d0_no h,d0_no (fun x=>h (he.trans x))]
theorem zG3 {r:Nat→Int} (h:∀k,r k=0) (k:Nat):sh r k=0:=by
 cases k with
 | zero=>rfl
 | succ k=>exact h k
theorem zIB {w:List Nat} (he:¬Eqv n c w []) (k:Nat):sh (d0 n c w) k=0:=zG3 (d0_no he) k
theorem zPb (h:Car n c) {s:Nat} (hs:s<n):EqL n (dop c s (d0 n c)) (eop c s (d0 n c)):=fun w hw=>by
 funext k;have e1:Eqv n c (s::w) []↔Eqv n c (w++[s]) []:=by
  constructor
  ·intro a;have:Eqv n c w [s]:=(Eqv.dbl h hs w).symm.trans (a.cons s);exact (this.snoc s).trans (Eqv.two h hs)
  ·intro a;have:Eqv n c w [s]:=(Eqv.dbr h hs w).symm.trans (a.snoc s);exact (this.cons s).trans (Eqv.two h hs)
 have e2:d0 n c (s::w)=d0 n c (w++[s]):=funext fun k=>by
  by_cases a:Eqv n c (s::w) []
  ·rw [d0_yes a,d0_yes (e1.1 a)]
  ·rw [d0_no a,d0_no (mt e1.2 a)]
 by_cases b:Eqv n c (s::w) []
 ·have h1:Eqv n c w [s]:=(Eqv.dbl h hs w).symm.trans (b.cons s);have l0:¬Ld c s []:=by unfold Ld; show ¬(1:Int)<0; omega
  have l1:Ld c s [s]:=(Ld.flip h hs nil_lets).2 l0;have hl:Ld c s w:=(Ld.eqv s h1).2 l1;have hr:Rd c s w:=(Rd.eqv h hw (lets_cons' hs nil_lets) s h1).2 l1;rw [dop_yes hl,zBu hr,e2]
 ·have b':=mt e1.2 b;have z1:=zIB (n:=n) (c:=c) b k;have z2:=zIB (n:=n) (c:=c) b' k;have z3:=d0_no (n:=n) (c:=c) b k;by_cases u:Eqv n c w []
  ·have l0:¬Ld c s []:=by unfold Ld; show ¬(1:Int)<0; omega
   have hl:¬Ld c s w:=mt (Ld.eqv s u).1 l0;have hr:¬Rd c s w:=mt (Rd.eqv h hw nil_lets s u).1 l0;rw [dop_no hl,zB7 hr,e2]
  ·have z4:=zIB (n:=n) (c:=c) u k;have z5:=d0_no (n:=n) (c:=c) u k;have z6:=d0_no (n:=n) (c:=c) b' k;unfold dop eop;rw [z1,z2,z3,z4,z5,z6];by_cases p:Ld c s w <;> by_cases q:Rd c s w <;> simp only [p,q,if_true,if_false] <;> rfl
theorem zHH (h:Car n c):∀{v:List Nat},Lets n v→EqL n (dops c v (d0 n c)) (eops c v (d0 n c))
 | [],_=>EqL.refl _
 | s::v,hv=>by
  obtain ⟨hs,hv⟩:=lets_parts hv;exact (zLC hs (zHH h hv)).trans ((zID h hs d0_inv hv).trans (zDV (zPb h hs) hv))
def rv (f:Fw):Fw:=fun w=>f w.reverse
theorem zP3 (s:Nat) (f:Fw):rv (dop c s f)=eop c s (rv f):=funext fun w=>funext fun k=>by
 have e:rv f (w++[s])=f (s::w.reverse):=by unfold rv; rw [List.reverse_append]; rfl
 show dop c s f w.reverse k=_;by_cases a:Ld c s w.reverse
 ·have b:Rd c s w:=a;rw [dop_yes a,zBu b,e]
 ·have b:¬Rd c s w:=a;rw [dop_no a,zB7 b,e];rfl
theorem zJ6:∀(v:List Nat) (f:Fw),rv (dops c v.reverse f)=eops c v (rv f)
 | [],_=>rfl
 | s::v,f=>by
  rw [List.reverse_cons,zIE,zJ6 v];show eops c v (rv (dop c s f))=eops c v (eop c s (rv f));rw [zP3]
theorem zQU (h:Car n c):EqL n (rv (d0 n c)) (d0 n c):=fun w hw=>funext fun k=>by
 have e:Eqv n c w.reverse []↔Eqv n c w []:=⟨fun a=>by have:=a.rev h (lets_rev hw) nil_lets; rwa [List.reverse_reverse] at this,fun a=>a.rev h hw nil_lets⟩;unfold rv;by_cases a:Eqv n c w []
 ·rw [d0_yes a,d0_yes (e.2 a)]
 ·rw [d0_no a,d0_no (mt e.1 a)]
theorem dops_rev (h:Car n c) {v:List Nat} (hv:Lets n v) {w:List Nat} (hw:Lets n w):dops c v.reverse (d0 n c) w.reverse=dops c v (d0 n c) w:=by
 have h1:=congrFun (zJ6 (c:=c) v (d0 n c)) w;rw [zHH h hv w hw,<-zDV (zQU h) hv w hw,<-h1];rfl
def ep (f:Fw):Fw:=fun w k=>if w.length % 2=0 then f w k else-f w k
def ns (r:Nat→Int):Nat→Int:=fun k=>- sh r k
def nsN:Nat→(Nat→Int)→(Nat→Int)
 | 0,r=>r
 | m+1,r=>nsN m (ns r)
theorem Inv.ep (h:Car n c) {f:Fw} (hf:Inv n c f):Inv n c (ep f):=fun w w' hw hw' he=>by
 have:=parity h hw hw' (fun k _=>by rw [he.m]);have e:=hf w w' hw hw' he;funext k;unfold Cox.ep;rw [e];by_cases p:w.length % 2=0
 ·rw [if_pos p,if_pos (by omega)]
 ·rw [if_neg p,if_neg (by omega)]
theorem zMc {f g:Fw} (h:EqL n f g):EqL n (ep f) (ep g):=fun w hw=>by unfold Cox.ep; rw [h w hw]
theorem zLG (f:Fw):ep (ep f)=f:=funext fun w=>funext fun k=>by
 unfold ep;by_cases p:w.length % 2=0
 ·rw [if_pos p,if_pos p]
 ·rw [if_neg p,if_neg p]; omega
theorem ep_d0 (h:Car n c):EqL n (ep (d0 n c)) (d0 n c):=fun w hw=>funext fun k=>by
 unfold ep;by_cases a:Eqv n c w []
 ·have:=parity h hw nil_lets (fun k _=>by rw [a.m]);rw [if_pos (by simpa using this)]
 ·rw [d0_no a]; simp
theorem zOP (h:Car n c) {s:Nat} (hs:s<n) {f:Fw} (hf:Inv n c f):EqL n (lop c s (ep (dop c s f))) (fun w=>ns (ep f w)):=fun w hw=>by
 have f2:f (s::s::w)=f w:=hf _ _ (lets_cons' hs (lets_cons' hs hw)) hw (Eqv.dbl h hs w);have fl:=Ld.flip h hs hw;funext k;by_cases a:Ld c s w
 ·have b:=fun x=>fl.1 x a;rw [lop_yes a];unfold ep ns;rw [dop_yes a,dop_no b,f2];by_cases p:w.length % 2=0
  ·have q:¬(s::w).length % 2=0:=by simp; omega
   simp only [p,q,if_true,if_false];rcases k with _ | _ | k <;> simp only [sh] <;> omega
  ·have q:(s::w).length % 2=0:=by simp; omega
   simp only [p,q,if_true,if_false];rcases k with _ | _ | k <;> simp only [sh] <;> omega
 ·have b:=fl.2 a;rw [lop_no a];unfold ep ns;rw [dop_yes b,f2];by_cases p:w.length % 2=0
  ·have q:¬(s::w).length % 2=0:=by simp; omega
   simp only [p,q,if_true,if_false];rcases k with _ | _ | k <;> simp only [sh] <;> omega
  ·have q:(s::w).length % 2=0:=by simp; omega
   simp only [p,q,if_true,if_false];rcases k with _ | _ | k <;> simp only [sh] <;> omega
theorem zPn (s:Nat) (f:Fw):lop c s (fun w=>ns (f w))=fun w=>ns (lop c s f w):=funext fun w=>by
 by_cases a:Ld c s w
 ·rw [lop_yes a,lop_yes a];funext k;rcases k with _ | _ | k <;> simp only [sh,ns] <;> omega
 ·rw [lop_no a,lop_no a];funext k;cases k <;> rfl
theorem zMw (w:List Nat) (f:Fw):lops c w (fun w=>ns (f w))=fun x=>ns (lops c w f x):=by
 induction w with
 | nil=>rfl
 | cons s w ih=>show lop c s (lops c w _)=_; rw [ih,zPn]; rfl
theorem zLp:∀(m:Nat) (r:Nat→Int),nsN m (ns r)=ns (nsN m r)
 | 0,_=>rfl
 | m+1,r=>zLp m (ns r)
theorem lops_dops (h:Car n c):∀{v:List Nat} {f:Fw},Inv n c f→Lets n v→EqL n (lops c v.reverse (ep (dops c v f))) (fun w=>nsN v.length (ep f w))
 | [],_,_,_=>EqL.refl _
 | s::v,f,hf,hv=>by
  obtain ⟨hs,hv⟩:=lets_parts hv;intro w hw;rw [List.reverse_cons,zFy];have h1:=zGU (c:=c) (zOP h hs (hf.dops hv)) (lets_rev hv) w hw;show lops c v.reverse (lop c s (ep (dop c s (dops c v f)))) w=_;rw [h1,zMw];show ns (lops c v.reverse (ep (dops c v f)) w)=nsN v.length (ns (ep f w));rw [lops_dops h hf hv w hw,zLp]
theorem zOQ (h:Car n c) {s:Nat} (hs:s<n) {f g:Fw} (hf:Inv n c f) (hg:Inv n c g) (he:EqL n (lop c s f) (lop c s g)):EqL n f g:=fun w hw=>by
 have two:∀{f:Fw},Inv n c f→∀k,sh (f w) k=lop c s (lop c s f) w k-(sh (lop c s f w) k-lop c s f w k):=fun {f} hf k=>by
  have f2:f (s::s::w)=f w:=hf _ _ (lets_cons' hs (lets_cons' hs hw)) hw (Eqv.dbl h hs w);have fl:=Ld.flip h hs hw;by_cases a:Ld c s w
  ·have b:=fun x=>fl.1 x a;rw [lop_yes (f:=lop c s f) a,lop_no b,lop_yes a,f2];rcases k with _ | _ | k <;> simp only [sh] <;> omega
  ·have b:=fl.2 a;rw [lop_no (f:=lop c s f) a,lop_yes b,lop_no a,f2];rcases k with _ | _ | k <;> simp only [sh] <;> omega
 refine zMA (funext fun k=>?_);rw [two hf,two hg,he w hw,zE8 hs he w hw]
theorem zIY (h:Car n c) {f g:Fw}:∀{v:List Nat},Inv n c f→Inv n c g→Lets n v→EqL n (lops c v f) (lops c v g)→EqL n f g
 | [],_,_,_,he=>he
 | _::_,hf,hg,hv,he=>by
  obtain ⟨hs,hv⟩:=lets_parts hv;exact zIY h hf hg hv (zOQ h hs (hf.lops hv) (hg.lops hv) he)
theorem dops_same (h:Car n c) {v v':List Nat} (hr:Rdd n c v) (hr':Rdd n c v') (he:Eqv n c v v'):EqL n (dops c v (d0 n c)) (dops c v' (d0 n c)):=by
 have i1:=(d0_inv (n:=n) (c:=c)).dops hr.1;have i2:=(d0_inv (n:=n) (c:=c)).dops hr'.1;have h1:=lops_dops h d0_inv hr.1;have h2:=lops_dops h d0_inv hr'.1;rw [<-hr.len hr' he] at h2;have h3:=lops_same h (i2.ep h) (hr'.rev h) (hr.rev h) (he.symm.rev h hr'.1 hr.1);have h4:=zIY h (i1.ep h) (i2.ep h) (lets_rev hr.1) (h1.trans (h2.symm.trans h3));have h5:=zMc h4;rwa [zLG,zLG] at h5
def rz (r:Nat→Int) (j:Int):Int:=if j<0 then 0 else r j.toNat
theorem zNg (r:Nat→Int) (j:Int):rz (sh r) j=rz r (j-1):=by
 unfold rz;by_cases h:j<0
 ·rw [if_pos h,if_pos (by omega)]
 ·rw [if_neg h];by_cases h2:j=0
  ·subst h2; rfl
  ·rw [if_neg (by omega)];obtain ⟨k,rfl⟩:∃k:Nat,j=(k:Int)+1:=⟨(j-1).toNat,by omega⟩;have e1:((k:Int)+1).toNat=k+1:=by omega
   have e2:((k:Int)+1-1).toNat=k:=by omega
   rw [e1,e2]; rfl
theorem zL8 {s:Nat} {f:Fw} {w:List Nat} (a:¬Ld c s w) (j:Int):rz (dop c s f w) j=rz (f (s::w)) (j-1)+rz (f w) (j-1)-rz (f w) j:=by
 rw [<-zNg,<-zNg,dop_no a];unfold rz;by_cases h:j<0
 ·rw [if_pos h,if_pos h,if_pos h,if_pos h]; rfl
 ·rw [if_neg h,if_neg h,if_neg h,if_neg h];show sh (f (s::w)) j.toNat+(sh (f w) j.toNat-f w j.toNat)=_;omega
def Mir (r:Nat→Int) (N:Int):Prop:=∀j,rz r (N-j)=if N % 2=0 then rz r j else-rz r j
theorem zM4 {A B R:Nat→Int} {p q:Int} (hR:∀j,rz R j=rz A (j-1)+rz B (j-1)-rz B j) (hA:Mir A (p-(q+1))) (hB:Mir B (p-q)):Mir R (p+1-q):=fun j=>by
 have e1:=hA (j-1);have e2:=hB j;have e3:=hB (j-1);rw [hR,hR,show p+1-q-j-1=p-(q+1)-(j-1) by omega,e1,show p-(q+1)-(j-1)=p-q-j by omega,e2,show p+1-q-j=p-q-(j-1) by omega,e3];by_cases m:(p+1-q) % 2=0
 ·rw [if_pos (by omega),if_neg (by omega),if_neg (by omega),if_pos m]; omega
 ·rw [if_neg (by omega),if_pos (by omega),if_pos (by omega),if_neg m]; omega
theorem dops_mir (h:Car n c):∀{v u:List Nat},Lets n v→Rdd n c u→Mir (dops c v (d0 n c) u) ((v.length:Int)-u.length)
 | [],u,_,hu=>by
  intro j;show rz (d0 n c u) _=if _ then rz (d0 n c u) j else-rz (d0 n c u) j
  by_cases a:Eqv n c u []
  ·have:u.length=0:=by have:=hu.2 [] nil_lets a; simpa using this
   rw [this];have e:((([]:List Nat).length:Int)-((0:Nat):Int)) % 2=0:=by simp
   rw [if_pos e];unfold rz;simp only [d0_yes a,List.length_nil];by_cases h1:j<0
   ·rw [if_pos h1]; split
    ·rfl
    ·rw [if_neg (by omega)]
   ·rw [if_neg h1];by_cases h2:j=0
    ·subst h2; rfl
    ·rw [if_pos (by omega),if_neg (by omega)]
  ·unfold rz;simp only [d0_no a];simp
 | s::v,u,hv,hu=>by
  obtain ⟨hs,hv⟩:=lets_parts hv;have hi:=(d0_inv (n:=n) (c:=c)).dops hv;by_cases a:Ld c s u
  ·obtain ⟨x,a1,a2,_,a4⟩:=exch_left h hs hu.1 a;have hx:Rdd n c x:=⟨a1,fun w' hw' he=>by
    have:=hu.2 (s::w') (lets_cons' hs hw') ((Eqv.dbl h hs u).symm.trans ((a4.trans he).cons s));simp at this; omega⟩
   have ih:=dops_mir h hv hx;have e:((s::v).length:Int)-u.length=v.length-x.length:=by simp; omega
   rw [e];show Mir (dop c s (dops c v (d0 n c)) u) _;rw [dop_yes a,hi _ _ (lets_cons' hs hu.1) a1 a4];exact ih
  ·have hx:Rdd n c (s::u):=hu.up h hs a;have i1:=dops_mir h hv hx;have i2:=dops_mir h hv hu;have e:((s::v).length:Int)-u.length=v.length+1-u.length:=by simp
   have e2:(v.length:Int)-((s::u).length:Nat)=v.length-(u.length+1):=by simp
   rw [e];rw [e2] at i1;exact zM4 (zL8 a) i1 i2
theorem dops_deg (h:Car n c):∀{v u:List Nat},Lets n v→Rdd n c u →
  (¬Part n c (aW c u one) v→∀k,dops c v (d0 n c) u k=0)∧(Part n c (aW c u one) v→u.length≤v.length∧∀k,v.length≤k+u.length→dops c v (d0 n c) u k=if k+u.length=v.length then 1 else 0)
 | [],u,_,hu=>by
  have key:Part n c (aW c u one) []↔Eqv n c u []:=by
   constructor
   ·rintro ⟨x,hx,he⟩;have:x=[]:=List.sublist_nil.1 hx;subst this;exact faithful h hu.1 nil_lets (fun k hk=>(he k hk).symm)
   ·intro a;exact ⟨[],List.Sublist.refl _,fun k _=>by rw [a.m]⟩
  rw [key];refine ⟨fun a k=>d0_no a k,fun a=>?_⟩;have:u.length=0:=by have:=hu.2 [] nil_lets a; simpa using this
  refine ⟨by simp [this],fun k _=>?_⟩;show d0 n c u k=_;rw [d0_yes a,this];rfl
 | s::v,u,hv,hu=>by
  obtain ⟨hs,hv⟩:=lets_parts hv;have hi:=(d0_inv (n:=n) (c:=c)).dops hv;have e0:dops c (s::v) (d0 n c) u=dop c s (dops c v (d0 n c)) u:=rfl;rw [e0];by_cases a:Ld c s u
  ·obtain ⟨x,a1,a2,_,a4⟩:=exch_left h hs hu.1 a;have hx:Rdd n c x:=⟨a1,fun w' hw' he=>by
    have:=hu.2 (s::w') (lets_cons' hs hw') ((Eqv.dbl h hs u).symm.trans ((a4.trans he).cons s));simp at this; omega⟩
   have ih:=dops_deg h hv hx;have e1:Part n c (aW c u one) (s::v)↔Part n c (aW c x one) v:=by
    rw [part_down h hs hv a,<-a4.m];exact Iff.rfl
   rw [dop_yes a,hi _ _ (lets_cons' hs hu.1) a1 a4,e1];refine ⟨ih.1,fun b=>⟨by have:=(ih.2 b).1; simp; omega,fun k hk=>?_⟩⟩;rw [(ih.2 b).2 k (by simp at hk; omega)];by_cases q:k+x.length=v.length
   ·rw [if_pos q,if_pos (by simp; omega)]
   ·rw [if_neg q,if_neg (by simp; omega)]
  ·have hx:Rdd n c (s::u):=hu.up h hs a;have i1:=dops_deg h hv hx;have i2:=dops_deg h hv hu;have hpos:0<aW c u one s:=by
    have:=(image_step h hu.1 hs).1;unfold Ld at a; omega
   obtain ⟨p1,p2⟩:=part_up h hs hv hpos;have p3:Part n c (aW c (s::u) one) v→Part n c (aW c u one) v:=p2;rw [dop_no a,p1];refine ⟨fun b k=>?_,fun b=>⟨by have:=(i2.2 b).1; simp; omega,fun k hk=>?_⟩⟩
   ·have z1:=i1.1 (mt p3 b);have z2:=i2.1 b;show sh (dops c v (d0 n c) (s::u)) k+(sh (dops c v (d0 n c) u) k-dops c v (d0 n c) u k)=0;rw [zG3 z1,zG3 z2,z2]; rfl
   ·obtain ⟨y1,y2⟩:=i2.2 b;have z:∀k,v.length<k+u.length→sh (dops c v (d0 n c) (s::u)) k=0:=fun k hk=>by
     cases k with
     | zero=>rfl
     | succ k =>
      show dops c v (d0 n c) (s::u) k=0;by_cases b1:Part n c (aW c (s::u) one) v
      ·rw [(i1.2 b1).2 k (by simp; omega),if_neg (by simp; omega)]
      ·exact i1.1 b1 k
    simp only [List.length_cons] at hk ⊢;show sh (dops c v (d0 n c) (s::u)) k+(sh (dops c v (d0 n c) u) k-dops c v (d0 n c) u k)=_;rw [z k (by omega),y2 k (by omega),if_neg (show ¬k+u.length=v.length by omega)];cases k with
    | zero=>omega
    | succ k =>
     show 0+(dops c v (d0 n c) u k-0)=_;rw [y2 k (by omega)];by_cases q:k+u.length=v.length
     ·rw [if_pos q,if_pos (by omega)]; rfl
     ·rw [if_neg q,if_neg (by omega)]; rfl
end Cox
end Go.Proofs.YtlchafedbnihoaaGreat
namespace Go.Proofs.YtlchafedbnihoaaGreat
open Go.RowKit
open Cox (Eqv Rdd Ld)
set_option maxRecDepth 20000
theorem zBx {c:List (List Int)} (hc:CartanP c):∀{w:List Int},Lets c.length w→w.length≤30→(zAC c w).length=c.length∧∀k,k<c.length→num (zAC c w) k=Cox.aW (ent c) (toN w) Cox.one k
 | [],_,_=>⟨by simp [zAC,act],fun k hk=>by simp [zAC,act,num,toN,Cox.aW,Cox.one,hk]⟩
 | i::w,hw,hl=>by
  obtain ⟨h1,h2⟩:=zBx hc (w:=w) (fun x hx=>hw x (by simp [hx])) (by simp at hl; omega);have hi:=hw i (by simp);have hlw:Cox.Lets c.length (toN w):=fun j hj=>by
   obtain ⟨x,hx,rfl⟩:=List.mem_map.1 hj;have:=hw x (by simp [hx]); omega
  refine ⟨by show (refl c i.toNat (zAC c w)).length=_; rw [zA9,h1],fun k hk=>?_⟩;exact zBr hc h1 hlw (by simp [toN]; simp at hl; omega) h2 (by omega) hk
theorem zAx {n:Nat} {w:List Int} (h:Lets n w):Cox.Lets n (toN w):=fun j hj=>by
 obtain ⟨x,hx,rfl⟩:=List.mem_map.1 hj;have:=h x hx; omega
def toI (w:List Nat):List Int:=w.map Int.ofNat
theorem zJA {n:Nat} {w:List Nat} (h:Cox.Lets n w):Lets n (toI w):=fun x hx=>by
 obtain ⟨i,hi,rfl⟩:=List.mem_map.1 hx;have:=h i hi;exact ⟨Int.natCast_nonneg i,by show (i:Int)<n; omega⟩
theorem zKI:∀w:List Nat,toN (toI w)=w
 | []=>rfl
 | i::w=>by show (Int.ofNat i).toNat::toN (toI w)=i::w; rw [zKI w]; rfl
def zAp (c:List (List Int)) (x:List Int) (w:List Nat):Prop:=∀k,k<c.length→Cox.aW (ent c) (toN x) Cox.one k=Cox.aW (ent c) w Cox.one k
instance (c:List (List Int)) (x:List Int) (w:List Nat):Decidable (zAp c x w):=by unfold zAp; infer_instance
theorem same_eqv {c:List (List Int)} (hc:CartanP c) {x:List Int} {w:List Nat} (hx:Lets c.length x) (hw:Cox.Lets c.length w):zAp c x w↔Eqv c.length (ent c) (toN x) w :=
 ⟨fun h=>Cox.faithful hc.car (zAx hx) hw h,fun h k _=>by rw [h.m]⟩
structure Nice (c:List (List Int)) (x:List Int):Prop where
 lets:Lets c.length x
 len:x.length≤28
 nrm:zAB c x=x
theorem zGN {c:List (List Int)} (hc:CartanP c) {x y:List Int} (hx:Lets c.length x) (hy:Lets c.length y) (lx:x.length≤30) (ly:y.length≤30) (h:zAp c x (toN y)):zAB c x=zAB c y:=by
 obtain ⟨a1,a2⟩:=zBx hc hx lx;obtain ⟨b1,b2⟩:=zBx hc hy ly;unfold zAB;rw [zC9 a1 b1 fun k hk=>by rw [a2 k hk,b2 k hk,h k hk]]
theorem Nice.red {c:List (List Int)} (hc:CartanP c) {x:List Int} (h:Nice c x):Rdd c.length (ent c) (toN x):=⟨zAx h.lets,fun w' hw' he=>by
 by_cases hl:w'.length≤30
 ·have h1:=zGN hc h.lets (zJA hw') (by have:=h.len; omega) (by simpa [toI] using hl) (by rw [zKI]; exact (same_eqv hc h.lets hw').2 he);have h2:=zAj hc (zJA hw') (by simpa [toI] using hl);rw [<-h1,h.nrm] at h2;simpa [toN,toI] using h2
 ·have:=h.len;simp [toN]; omega⟩
theorem Nice.same {c:List (List Int)} (hc:CartanP c) {x y:List Int} (h:Nice c x) (h':Nice c y):zAp c x (toN y)↔x=y :=
 ⟨fun e=>by have:=zGN hc h.lets h'.lets (by have:=h.len; omega) (by have:=h'.len; omega) e; rwa [h.nrm,h'.nrm] at this,fun e=>by rw [e]; exact fun _ _=>rfl⟩
theorem zBo {c:List (List Int)} (hc:CartanP c) {x:List Int} (hx:Lets c.length x) (hl:x.length≤28):Nice c (zAB c x)∧Eqv c.length (ent c) (toN (zAB c x)) (toN x):=by
 have h1:=zAj hc hx (by omega);have h2:=zDX hc hx (by omega);have h3:zAC c (zAB c x)=zAC c x:=zBH hc _ (zAV hc hx (by omega)) (by omega);refine ⟨⟨h2,by omega,by unfold zAB at h3 ⊢; rw [h3]⟩,(same_eqv hc h2 (zAx hx)).1 fun k hk=>?_⟩;rw [<-(zBx hc h2 (by omega)).2 k hk,<-(zBx hc hx (by omega)).2 k hk,h3]
theorem zHX {c:List (List Int)} (hc:CartanP c) {x:List Int} (h:Nice c x) (hl:x.length≤27) {i:Int} (hi:0≤i∧i<c.length) :
  Nice c (zAB c (i::x))∧Eqv c.length (ent c) (toN (zAB c (i::x))) (i.toNat::toN x)∧(x.length<(zAB c (i::x)).length↔¬Ld (ent c) i.toNat (toN x)):=by
 obtain ⟨h1,h2⟩:=zBo hc (show Lets c.length (i::x) from fun y hy=>by
  rcases List.mem_cons.1 hy with rfl | hy
  ·exact hi
  ·exact h.lets y hy) (by simp; omega)
 have hs:i.toNat<c.length:=by omega
 have hr:=h.red hc;have hr2:=h1.red hc;refine ⟨h1,h2,⟨fun hlt hd=>?_,fun hd=>?_⟩⟩
 ·obtain ⟨x',a1,a2,_,a4⟩:=Cox.exch_left hc.car hs hr.1 hd;have:=hr2.2 x' a1 (h2.trans a4);simp [toN] at this a2;omega
 ·have h3:=hr.up hc.car hs hd;have:=h3.len hr2 h2.symm;simp [toN] at this;omega
end Go.Proofs.YtlchafedbnihoaaGreat
