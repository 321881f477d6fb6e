/- Words from the left and from the right: descents, and when a letter may change sides. Plain. No condition. -/
import Derived.Test.YtlchafedbnihoaaJGFin
namespace Go.Proofs.Ytlchafedbnihoaa
set_option maxRecDepth 20000
namespace Cox
variable {n:Nat} {c:Nat→Nat→Int}
theorem Eqv.inv (h:Car n c):∀{w:List Nat},Lets n w→Eqv n c (w.reverse++w) []
 | [],_=>Eqv.refl _
 | i::w,hw=>by
  have hi:i<n:=hw i (by simp);have ih:=Eqv.inv h (w:=w) (fun j hj=>hw j (by simp [hj]));have h1:Eqv n c (w.reverse++([i,i]++w)) (w.reverse++([]++w)):=(Eqv.refl _).app ((Eqv.two h hi).app (Eqv.refl w));have e1:(i::w).reverse++(i::w)=w.reverse++([i,i]++w):=by simp
  rw [e1];exact h1.trans ih
theorem Eqv.inv' (h:Car n c) {w:List Nat} (hw:Lets n w):Eqv n c (w++w.reverse) []:=by
 have:=Eqv.inv h (lets_rev hw);rwa [List.reverse_reverse] at this
theorem Eqv.rev (h:Car n c) {w w':List Nat} (hw:Lets n w) (hw':Lets n w') (he:Eqv n c w w'):Eqv n c w.reverse w'.reverse:=by
 have h1:Eqv n c (w.reverse++(w'++w'.reverse)) (w.reverse++[]):=(Eqv.refl _).app (Eqv.inv' h hw');have h2:Eqv n c (w.reverse++(w++w'.reverse)) (w.reverse++(w'++w'.reverse)):=(Eqv.refl _).app (he.app (Eqv.refl _));have h3:Eqv n c ((w.reverse++w)++w'.reverse) ([]++w'.reverse):=(Eqv.inv h hw).app (Eqv.refl _);rw [List.append_nil] at h1;rw [List.append_assoc] at h3;exact h1.symm.trans (h2.symm.trans h3)
theorem Eqv.cons {w w':List Nat} (s:Nat) (he:Eqv n c w w'):Eqv n c (s::w) (s::w'):=(Eqv.refl [s]).app he
theorem Eqv.snoc {w w':List Nat} (s:Nat) (he:Eqv n c w w'):Eqv n c (w++[s]) (w'++[s]):=he.app (Eqv.refl [s])
theorem Eqv.dbl (h:Car n c) {s:Nat} (hs:s<n) (w:List Nat):Eqv n c (s::s::w) w:=(Eqv.two h hs).app (Eqv.refl w)
theorem lets_cons' {s:Nat} {w:List Nat} (hs:s<n) (hw:Lets n w):Lets n (s::w):=fun j hj=>by
 rcases List.mem_cons.1 hj with rfl | hj
 ·exact hs
 ·exact hw j hj
theorem zAS {s:Nat} {w:List Nat} (hs:s<n) (hw:Lets n w):Lets n (w++[s]):=zB7 hw (lets_cons' hs (fun j hj=>by simp at hj))
def Ld (c:Nat→Nat→Int) (s:Nat) (w:List Nat):Prop:=aW c w one s<0
instance (c:Nat→Nat→Int) (s:Nat) (w:List Nat):Decidable (Ld c s w):=inferInstanceAs (Decidable (_<_))
def Rd (c:Nat→Nat→Int) (s:Nat) (w:List Nat):Prop:=Ld c s w.reverse
instance (c:Nat→Nat→Int) (s:Nat) (w:List Nat):Decidable (Rd c s w):=inferInstanceAs (Decidable (_<_))
theorem Ld.eqv {w w':List Nat} (s:Nat) (he:Eqv n c w w'):Ld c s w↔Ld c s w':=by unfold Ld; rw [he.m]
theorem Rd.eqv (h:Car n c) {w w':List Nat} (hw:Lets n w) (hw':Lets n w') (s:Nat) (he:Eqv n c w w'):Rd c s w↔Rd c s w':=Ld.eqv s (he.rev h hw hw')
theorem Ld.flip (h:Car n c) {s:Nat} (hs:s<n) {w:List Nat} (hw:Lets n w):Ld c s (s::w)↔¬Ld c s w:=by
 have h0:=(image_step h hw hs).1;have e:aW c (s::w) one s=aW c w one s-aW c w one s*c s s:=rfl;rw [h.diag s hs] at e;unfold Ld;omega
theorem Rd.flip (h:Car n c) {s:Nat} (hs:s<n) {w:List Nat} (hw:Lets n w):Rd c s (w++[s])↔¬Rd c s w:=by
 unfold Rd;rw [List.reverse_append];exact Ld.flip h hs (lets_rev hw)
theorem zBK (h:Car n c) {s:Nat} (hs:s<n) {w:List Nat} (hw:Lets n w):(Ld c s w→NegA n c w.reverse s)∧(¬Ld c s w→PosA n c w.reverse s):=by
 unfold Ld;have h0:=(image_step h hw hs).1;rw [zCh h hw hs] at h0 ⊢;rcases coh h (lets_rev hw) hs with hp | hn
 ·have:=(zA9 hp.2).1;exact ⟨fun h1=>by omega,fun _=>hp⟩
 ·refine ⟨fun _=>hn,fun h1=>?_⟩;have hneg:Pos n (fun k=>-1*aR n (tr c) w.reverse (e s) k+0*0):=fun k hk=>by have:=hn.2 k hk; show 0≤-1*_+0*0; omega
  obtain ⟨h2,_⟩:=zA9 hneg;rw [dotN_comm,zA5 one (aR n (tr c) w.reverse (e s)) (fun _=>0) (-1) 0 n,dotN_comm] at h2;exact absurd (show dotN (aR n (tr c) w.reverse (e s)) one n=0 by omega) h0
theorem zDe (hs:0<n) {w:List Nat} {s:Nat} (h:Car n c) (hs:s<n) (hw:Lets n w) (hp:PosA n c w s) (hn:NegA n c w s):False:=by
 have hb:=zBf h (e s) (e s) hw;rw [zCC hs hs,h.diag s hs] at hb;have h0:∀k,k<n→aR n (tr c) w (e s) k=0:=fun k hk=>by have:=hp.2 k hk; have:=hn.2 k hk; omega
 unfold bil at hb;rw [zCv h0] at hb;omega
theorem zDC (h:Car n c) {y:List Nat} {s k:Nat} (hy:Lets n y) (hs:s<n) (hk:k<n) (hp:PosA n c y s) (hn:NegA n c (k::y) s) :
  Eqv n c (y++[s]) (k::y)∧aR n c y (e s)=e k∧aR n (tr c) y (e s)=e k:=by
 have hr:=zBH hp.1 hn.1 (fun j hj=>by rw [zBZ hj _ hy,zBu hs hj]);have hx:=zBH (c:=tr c) hp.2 hn.2 (fun j hj=>by rw [zBZ hj _ hy,zBu hs hj]);have hb:=zBf h (e s) (e s) hy;rw [hr,hx,zCs,zCC hk hk,zCC hs hs,h.diag k hk,h.diag s hs] at hb;have p1:=hp.1 k hk;generalize aR n c y (e s) k=a at *;generalize aR n (tr c) y (e s) k=b at *;have hab:b*a=1:=by omega
 have ha:a=1:=Int.eq_one_of_mul_eq_one_left p1 hab;have hb1:b=1:=by rw [ha] at hab; omega
 subst ha; subst hb1;have h1:aR n c y (e s)=e k:=by rw [hr]; funext j; simp
 have h2:aR n (tr c) y (e s)=e k:=by rw [hx]; funext j; simp
 exact ⟨comm h hy hs hk h1 h2,h1,h2⟩
theorem zDV {w w':List Nat} {s:Nat} (he:Eqv n c w w') (hn:NegA n c w s):NegA n c w' s:=by
 unfold NegA at *;rw [<-he.r,<-he.x]; exact hn
theorem zE1 {w:List Nat} {s:Nat} (h:Car n c) (hs:s<n):(PosA n c w s→NegA n c (w++[s]) s)∧(NegA n c w s→PosA n c (w++[s]) s):=by
 have hsub:∀(d:Nat→Nat→Int),Car n d→aR n d (w++[s]) (e s)=fun k=>- aR n d w (e s) k:=by
  intro d hd;rw [zAU];show aR n d w (sR n d s (e s))=_;have:sR n d s (e s)=fun k=>(-1)*e s k+0*e s k:=by
   funext k;unfold sR;rw [dotN_e _ _ _ hs,hd.diag s hs];omega
  rw [this,zBq];funext k;omega
 unfold PosA NegA;rw [hsub c h,hsub (tr c) h.tr];refine ⟨fun hh=>⟨fun k hk=>?_,fun k hk=>?_⟩,fun hh=>⟨fun k hk=>?_,fun k hk=>?_⟩⟩
 ·have:=hh.1 k hk; show -_≤_; omega
 ·have:=hh.2 k hk; show -_≤_; omega
 ·have:=hh.1 k hk; show _≤-_; omega
 ·have:=hh.2 k hk; show _≤-_; omega
theorem side (h:Car n c) {s t:Nat} (hs:s<n) (ht:t<n) {w:List Nat} (hw:Lets n w):(Ld c s (w++[t])↔Ld c s w)∨(Eqv n c (s::w) (w++[t])∧(Ld c s w↔Rd c t w)):=by
 have hr:=lets_rev hw;have hwt:=zAS ht hw;have er:(w++[t]).reverse=t::w.reverse:=by simp
 obtain ⟨a1,a2⟩:=zBK h hs hw;obtain ⟨b1,b2⟩:=zBK h hs hwt;rw [er] at b1 b2;have rt:=zBK h ht hr;rw [List.reverse_reverse] at rt;have back:Eqv n c (w.reverse++[s]) (t::w.reverse)→Eqv n c (s::w) (w++[t]):=fun he=>by
  have:=he.rev h (zAS hs hr) (lets_cons' ht hr);simpa using this
 -- the root that the word takes to a letter's
 have root:Eqv n c (s::w) (w++[t])→(NegA n c w.reverse s→NegA n c w t)∧(PosA n c w.reverse s→PosA n c w t):=fun he=>by
  have key:Eqv n c (w.reverse++[s]) (t::w.reverse):=by
   have:=he.rev h (lets_cons' hs hw) hwt;simpa using this
  exact ⟨fun hn=>by
   rcases coh h hw ht with hp | hq
   ·exfalso
    -- then the letter from the right makes it longer, from the left shorter
    have h1:=(zE1 (w:=w) h ht).1 hp;have h2:NegA n c (s::w) t:=zDV he.symm h1;obtain ⟨_,h3,h4⟩:=zDC h hw ht hs hp h2;have h5:aR n c w.reverse (e s)=e t:=by rw [<-h3,<-zAU,(Eqv.inv h hw).r]; rfl
    have:=hn.1 t ht;rw [h5] at this;simp [e] at this
   ·exact hq,fun hp=>by
   rcases coh h hw ht with hq | hn
   ·exact hq
   ·exfalso;have h1:=(zE1 (w:=w.reverse) h hs).1 hp;have h2:NegA n c (t::w.reverse) s:=zDV key h1;obtain ⟨_,h3,h4⟩:=zDC h hr hs ht hp h2;have h5:aR n c w (e t)=e s:=by rw [<-h3,<-zAU,(Eqv.inv' h hw).r]; rfl
    have:=hn.1 s hs;rw [h5] at this;simp [e] at this⟩
 have fin:Eqv n c (s::w) (w++[t])→(Ld c s w↔Rd c t w):=fun he=>by
  obtain ⟨r1,r2⟩:=root he;constructor
  ·intro hl;exact Decidable.byContradiction fun hn=>zDe (by omega) h ht hw (rt.2 hn) (r1 (a1 hl))
  ·intro hl;exact Decidable.byContradiction fun hn=>zDe (by omega) h ht hw (r2 (a2 hn)) (rt.1 hl)
 by_cases p:Ld c s w <;> by_cases q:Ld c s (w++[t])
 ·exact .inl ⟨fun _=>p,fun _=>q⟩
 ·refine .inr ?_;have h1:PosA n c (t::w.reverse) s:=b2 q;have h2:NegA n c (t::t::w.reverse) s:=zDV (Eqv.dbl h ht _).symm (a1 p);obtain ⟨h3,_,_⟩:=zDC h (lets_cons' ht hr) hs ht h1 h2;have h4:Eqv n c (t::(w.reverse++[s])) (w.reverse):=h3.trans (Eqv.dbl h ht _);have h5:Eqv n c (w.reverse++[s]) (t::w.reverse):=(Eqv.dbl h ht _).symm.trans (h4.cons t);exact ⟨back h5,fin (back h5)⟩
 ·refine .inr ?_;obtain ⟨h3,_,_⟩:=zDC h hr hs ht (a2 p) (b1 q);exact ⟨back h3,fin (back h3)⟩
 ·exact .inl ⟨fun x=>absurd x q,fun x=>absurd x p⟩
theorem zBx (h:Car n c) {s t:Nat} (hs:s<n) (ht:t<n) {w:List Nat} (hw:Lets n w) :
  ((Ld c s (w++[t])↔Ld c s w)∧(Rd c t (s::w)↔Rd c t w))∨(Eqv n c (s::w) (w++[t])∧(Ld c s w↔Rd c t w)∧(Ld c s (w++[t])↔¬Ld c s w)∧(Rd c t (s::w)↔¬Rd c t w)):=by
 have meet:Eqv n c (s::w) (w++[t])→(Ld c s (w++[t])↔¬Ld c s w)∧(Rd c t (s::w)↔¬Rd c t w):=fun he =>
  ⟨(Ld.eqv s he).symm.trans (Ld.flip h hs hw),(Rd.eqv h (lets_cons' hs hw) (zAS ht hw) t he).trans (Rd.flip h ht hw)⟩
 rcases side h hs ht hw with h1 | ⟨h1,h2⟩
 ·rcases side h ht hs (lets_rev hw) with h3 | ⟨h3,h4⟩
  ·refine .inl ⟨h1,?_⟩;unfold Rd;simpa using h3
  ·have h5:Eqv n c (s::w) (w++[t]):=by
    have:=h3.rev h (lets_cons' ht (lets_rev hw)) (zAS hs (lets_rev hw));simpa using this.symm
   have:=(meet h5).1;have hh:=h1.symm.trans this;by_cases q:Ld c s w
   ·exact absurd q (hh.1 q)
   ·exact absurd (hh.2 q) q
 ·exact .inr ⟨h1,h2,meet h1⟩
end Cox
end Go.Proofs.Ytlchafedbnihoaa
namespace Go.Proofs.Ytlchafedbnihoaa
set_option maxRecDepth 20000
namespace Cox
variable {n:Nat} {c:Nat→Nat→Int}
theorem exch_left (h:Car n c) {s:Nat} (hs:s<n) {w:List Nat} (hw:Lets n w) (hl:Ld c s w):∃w',Lets n w'∧w'.length+1=w.length∧w'.Sublist w∧Eqv n c (s::w) w':=by
 obtain ⟨x,a1,a2,a3,a4⟩:=zB5 h hs (lets_rev hw) ((zBK h hs hw).1 hl);refine ⟨x.reverse,lets_rev a1,by simp at a2 ⊢; omega,by have:=List.reverse_sublist.2 a3; simpa using this,?_⟩;have:=a4.rev h (zAS hs (lets_rev hw)) a1;simpa using this
def Rdd (n:Nat) (c:Nat→Nat→Int) (w:List Nat):Prop:=Lets n w∧∀w',Lets n w'→Eqv n c w w'→w.length≤w'.length
theorem Rdd.rev (h:Car n c) {w:List Nat} (hr:Rdd n c w):Rdd n c w.reverse:=⟨lets_rev hr.1,fun w' hw' he=>by
 have:=hr.2 w'.reverse (lets_rev hw') (by have:=he.rev h (lets_rev hr.1) hw'; rwa [List.reverse_reverse] at this);simpa using this⟩
theorem Rdd.cons (h:Car n c) {s:Nat} {w:List Nat} (hr:Rdd n c (s::w)):s<n∧Rdd n c w∧¬Ld c s w:=by
 have hs:s<n:=hr.1 s (by simp);have hw:Lets n w:=fun j hj=>hr.1 j (by simp [hj]);refine ⟨hs,⟨hw,fun w' hw' he=>?_⟩,fun hl=>?_⟩
 ·have:=hr.2 (s::w') (lets_cons' hs hw') (he.cons s);simpa using this
 ·obtain ⟨w',a1,a2,_,a4⟩:=exch_left h hs hw hl;have:=hr.2 w' a1 a4;simp at this;omega
theorem Rdd.snoc (h:Car n c) {s:Nat} {w:List Nat} (hr:Rdd n c (w++[s])):s<n∧Rdd n c w∧¬Rd c s w:=by
 have h1:Rdd n c (s::w.reverse):=by have:=hr.rev h; simpa using this
 obtain ⟨a1,a2,a3⟩:=h1.cons h;exact ⟨a1,by have:=a2.rev h; simpa using this,a3⟩
theorem Rdd.up (h:Car n c) {s:Nat} {w:List Nat} (hs:s<n) (hr:Rdd n c w) (hl:¬Ld c s w):Rdd n c (s::w):=⟨lets_cons' hs hr.1,fun w' hw' he=>by
 have h1:Ld c s w':=(Ld.eqv s he).1 ((Ld.flip h hs hr.1).2 hl);obtain ⟨x,a1,a2,_,a4⟩:=exch_left h hs hw' h1;have:=hr.2 x a1 ((Eqv.dbl h hs w).symm.trans ((he.cons s).trans a4));simp;omega⟩
theorem zBv:∀(N:Nat) (w:List Nat),w.length≤N→Lets n w→∃x,Rdd n c x∧Eqv n c w x∧x.length≤w.length
 | N,w,hN,hw=>by
  by_cases hr:Rdd n c w
  ·exact ⟨w,hr,Eqv.refl w,zJm _⟩
  ·have:∃w',Lets n w'∧Eqv n c w w'∧w'.length<w.length:=by
    refine Classical.byContradiction fun hn=>hr ⟨hw,fun w' hw' he=>?_⟩;exact Nat.le_of_not_lt fun hl=>hn ⟨w',hw',he,hl⟩
   obtain ⟨w',a1,a2,a3⟩:=this;cases N with
   | zero=>omega
   | succ N =>
    obtain ⟨x,b1,b2,b3⟩:=zBv N w' (by omega) a1;exact ⟨x,b1,a2.trans b2,by omega⟩
theorem Rdd.nil:Rdd n c []:=⟨fun j hj=>by simp at hj,fun w' _ _=>Nat.zero_le _⟩
theorem Rdd.len {w w':List Nat} (h:Rdd n c w) (h':Rdd n c w') (he:Eqv n c w w'):w.length=w'.length:=Nat.le_antisymm (h.2 w' h'.1 he) (h'.2 w h.1 he.symm)
theorem faithful (h:Car n c) {w w':List Nat} (hw:Lets n w) (hw':Lets n w') (he:∀k,k<n→aW c w one k=aW c w' one k):Eqv n c w w':=by
 have h1:∀k,k<n→aW c (w'.reverse++w) one k=1:=fun k hk=>by
  rw [zBC,zDQ h he (lets_rev hw') k hk,zB2 h one hw'];rfl
 obtain ⟨x,b1,b2,_⟩:=zBv (c:=c) _ (w'.reverse++w) (zJm _) (zB7 (lets_rev hw') hw);cases x with
 | nil =>
  have h2:Eqv n c (w'++(w'.reverse++w)) (w'++[]):=(Eqv.refl w').app b2;have h3:Eqv n c ((w'++w'.reverse)++w) ([]++w):=(Eqv.inv' h hw').app (Eqv.refl w);rw [List.append_nil] at h2;rw [List.append_assoc] at h3;exact h3.symm.trans h2
 | cons s y =>
  obtain ⟨hs,hy,hn⟩:=b1.cons h;have h4:Ld c s (w'.reverse++w):=(Ld.eqv s b2).2 ((Ld.flip h hs hy.1).2 hn);unfold Ld at h4;rw [h1 s hs] at h4;omega
def sh (r:Nat→Int):Nat→Int
 | 0=>0
 | k+1=>r k
theorem zG9 {r r':Nat→Int} (h:sh r=sh r'):r=r':=funext fun k=>congrFun h (k+1)
def shN:Nat→(Nat→Int)→(Nat→Int)
 | 0,r=>r
 | m+1,r=>shN m (sh r)
theorem zFz:∀{m:Nat} {r r':Nat→Int},shN m r=shN m r'→r=r'
 | 0,_,_,h=>h
 | m+1,_,_,h=>zG9 (zFz (m:=m) h)
abbrev Fw:=List Nat→Nat→Int
def Inv (n:Nat) (c:Nat→Nat→Int) (f:Fw):Prop:=∀w w',Lets n w→Lets n w'→Eqv n c w w'→f w=f w'
def EqL (n:Nat) (f g:Fw):Prop:=∀w,Lets n w→f w=g w
theorem EqL.refl (f:Fw):EqL n f f:=fun _ _=>rfl
theorem EqL.symm {f g:Fw} (h:EqL n f g):EqL n g f:=fun w hw=>(h w hw).symm
theorem EqL.trans {f g k:Fw} (h:EqL n f g) (h':EqL n g k):EqL n f k:=fun w hw=>(h w hw).trans (h' w hw)
def lop (c:Nat→Nat→Int) (s:Nat) (f:Fw):Fw:=fun w k=>if Ld c s w then f (s::w) k+(sh (f w) k-f w k) else sh (f (s::w)) k
def rop (c:Nat→Nat→Int) (t:Nat) (f:Fw):Fw:=fun w k=>if Rd c t w then f (w++[t]) k+(sh (f w) k-f w k) else sh (f (w++[t])) k
def dop (c:Nat→Nat→Int) (s:Nat) (f:Fw):Fw:=fun w k=>if Ld c s w then f (s::w) k else sh (f (s::w)) k+(sh (f w) k-f w k)
section
variable {s t:Nat} {f g:Fw} {w:List Nat}
theorem zAd (a:Ld c s w):lop c s f w=fun k=>f (s::w) k+(sh (f w) k-f w k):=funext fun k=>by unfold lop; rw [if_pos a]
theorem zAk (a:¬Ld c s w):lop c s f w=sh (f (s::w)):=funext fun k=>by unfold lop; rw [if_neg a]
theorem zBA (a:Rd c t w):rop c t f w=fun k=>f (w++[t]) k+(sh (f w) k-f w k):=funext fun k=>by unfold rop; rw [if_pos a]
theorem zBM (a:¬Rd c t w):rop c t f w=sh (f (w++[t])):=funext fun k=>by unfold rop; rw [if_neg a]
theorem zCQ (a:Ld c s w):dop c s f w=f (s::w):=funext fun k=>by unfold dop; rw [if_pos a]
theorem zDq (a:¬Ld c s w):dop c s f w=fun k=>sh (f (s::w)) k+(sh (f w) k-f w k):=funext fun k=>by unfold dop; rw [if_neg a]
theorem Inv.lop (hs:s<n) (hf:Inv n c f):Inv n c (lop c s f):=fun w w' hw hw' he=>by
 have e:=Ld.eqv s he;have e1:=hf w w' hw hw' he;have e2:=hf _ _ (lets_cons' hs hw) (lets_cons' hs hw') (he.cons s);by_cases a:Ld c s w
 ·rw [zAd a,zAd (e.1 a),e1,e2]
 ·rw [zAk a,zAk (mt e.2 a),e2]
theorem Inv.dop (hs:s<n) (hf:Inv n c f):Inv n c (dop c s f):=fun w w' hw hw' he=>by
 have e:=Ld.eqv s he;have e1:=hf w w' hw hw' he;have e2:=hf _ _ (lets_cons' hs hw) (lets_cons' hs hw') (he.cons s);by_cases a:Ld c s w
 ·rw [zCQ a,zCQ (e.1 a),e2]
 ·rw [zDq a,zDq (mt e.2 a),e1,e2]
theorem Inv.rop (h:Car n c) (ht:t<n) (hf:Inv n c f):Inv n c (rop c t f):=fun w w' hw hw' he=>by
 have e:=Rd.eqv h hw hw' t he;have e1:=hf w w' hw hw' he;have e2:=hf _ _ (zAS ht hw) (zAS ht hw') (he.snoc t);by_cases a:Rd c t w
 ·rw [zBA a,zBA (e.1 a),e1,e2]
 ·rw [zBM a,zBM (mt e.2 a),e2]
theorem zC0 (hs:s<n) (h:EqL n f g):EqL n (lop c s f) (lop c s g):=fun w hw=>by
 unfold Cox.lop; rw [h w hw,h _ (lets_cons' hs hw)]
theorem zG7 (ht:t<n) (h:EqL n f g):EqL n (rop c t f) (rop c t g):=fun w hw=>by
 unfold Cox.rop; rw [h w hw,h _ (zAS ht hw)]
theorem zIS (h:Car n c) (hs:s<n) (ht:t<n) (hf:Inv n c f):EqL n (lop c s (rop c t f)) (rop c t (lop c s f)):=fun w hw=>by
 have hx:s::w++[t]=s::(w++[t]):=rfl;funext k;rcases zBx h hs ht hw with ⟨e1,e2⟩ | ⟨e1,e2,e3,e4⟩
 ·by_cases a:Ld c s w <;> by_cases b:Rd c t w
  ·rw [zAd a,zBA b,zBA b,zBA (e2.2 b),zAd a,zAd (e1.2 a),hx];rcases k with _ | _ | k <;> simp only [sh] <;> omega
  ·rw [zAd a,zBM b,zBM b,zBM (mt e2.1 b),zAd (e1.2 a),hx];rcases k with _ | _ | k <;> simp only [sh] <;> omega
  ·rw [zAk a,zBA b,zBA (e2.2 b),zAk a,zAk (mt e1.1 a),hx];rcases k with _ | _ | k <;> simp only [sh] <;> omega
  ·rw [zAk a,zBM b,zBM (mt e2.1 b),zAk (mt e1.1 a),hx]
 ·have f1:f (s::w)=f (w++[t]):=hf _ _ (lets_cons' hs hw) (zAS ht hw) e1;have f2:f (s::(w++[t]))=f w:=hf _ _ (lets_cons' hs (zAS ht hw)) hw ((e1.symm.cons s).trans (Eqv.dbl h hs w));by_cases a:Ld c s w
  ·have b:=e2.1 a;rw [zAd a,zBA b,zBA b,zBM (fun x=>e4.1 x b),zAd a,zAk (fun x=>e3.1 x a),hx,f1,f2]
  ·have b:=mt e2.2 a;rw [zAk a,zBM b,zBA (e4.2 b),zAd (e3.2 a),hx,f1,f2]
end
def lops (c:Nat→Nat→Int):List Nat→Fw→Fw
 | [],f=>f
 | s::w,f=>lop c s (lops c w f)
def rops (c:Nat→Nat→Int):List Nat→Fw→Fw
 | [],f=>f
 | t::w,f=>rops c w (rop c t f)
def dops (c:Nat→Nat→Int):List Nat→Fw→Fw
 | [],f=>f
 | s::w,f=>dop c s (dops c w f)
theorem zAI {s:Nat} {w:List Nat} (h:Lets n (s::w)):s<n∧Lets n w:=⟨h s (by simp),fun j hj=>h j (by simp [hj])⟩
theorem Inv.lops {f:Fw} (hf:Inv n c f):∀{w:List Nat},Lets n w→Inv n c (lops c w f)
 | [],_=>hf
 | _::_,hw=>Inv.lop (zAI hw).1 (Inv.lops hf (zAI hw).2)
theorem Inv.dops {f:Fw} (hf:Inv n c f):∀{w:List Nat},Lets n w→Inv n c (dops c w f)
 | [],_=>hf
 | _::_,hw=>Inv.dop (zAI hw).1 (Inv.dops hf (zAI hw).2)
theorem Inv.rops (h:Car n c):∀{w:List Nat} {f:Fw},Inv n c f→Lets n w→Inv n c (rops c w f)
 | [],_,hf,_=>hf
 | t::w,f,hf,hw=>show Inv n c (Cox.rops c w (Cox.rop c t f)) from Inv.rops h (w:=w) (f:=Cox.rop c t f) (Inv.rop h (zAI hw).1 hf) (zAI hw).2
theorem zDv {f g:Fw} (h:EqL n f g):∀{w:List Nat},Lets n w→EqL n (lops c w f) (lops c w g)
 | [],_=>h
 | _::_,hw=>zC0 (zAI hw).1 (zDv h (zAI hw).2)
theorem zD1:∀{w:List Nat} {f g:Fw},EqL n f g→Lets n w→EqL n (rops c w f) (rops c w g)
 | [],_,_,h,_=>h
 | t::w,f,g,h,hw=>show EqL n (rops c w (rop c t f)) (rops c w (rop c t g)) from zD1 (w:=w) (zG7 (zAI hw).1 h) (zAI hw).2
theorem zDZ (f:Fw) (x:List Nat):∀w,lops c (w++x) f=lops c w (lops c x f)
 | []=>rfl
 | s::w=>by show lop c s (lops c (w++x) f)=_; rw [zDZ f x w]; rfl
theorem zEu (h:Car n c) {s:Nat} (hs:s<n):∀{x:List Nat} {f:Fw},Inv n c f→Lets n x→EqL n (lop c s (rops c x f)) (rops c x (lop c s f))
 | [],_,_,_=>EqL.refl _
 | t::x,f,hf,hx=>by
  obtain ⟨ht,hx⟩:=zAI hx;exact (zEu h hs (hf.rop h ht) hx).trans (zD1 (zIS h hs ht hf) hx)
theorem zC2 (h:Car n c):∀{w:List Nat} {x:List Nat} {f:Fw},Inv n c f→Lets n w→Lets n x→EqL n (lops c w (rops c x f)) (rops c x (lops c w f))
 | [],_,_,_,_,_=>EqL.refl _
 | s::w,x,f,hf,hw,hx=>by
  obtain ⟨hs,hw⟩:=zAI hw;exact (zC0 hs (zC2 h hf hw hx)).trans (zEu h hs (hf.lops hw) hx)
theorem zB8:Lets n []:=fun j hj=>by simp at hj
theorem zDa (h:Car n c):∀(m:Nat) {w:List Nat} {f:Fw},w.length=m→Rdd n c w→lops c w f []=shN w.length (f w.reverse)
 | m,w,f,hm,hr=>by
  rcases List.eq_nil_or_concat w with rfl | ⟨v,t,rfl⟩
  ·rfl
  ·rw [List.concat_eq_append] at hr hm ⊢;obtain ⟨ht,hv,hd⟩:=hr.snoc h;cases m with
   | zero=>simp at hm
   | succ m =>
    have hvl:v.length=m:=by simpa using hm
    rw [zDZ];have ih:=zDa h m (w:=v) (f:=lops c [t] f) hvl hv;rw [ih];show shN v.length (lop c t f v.reverse)=_;rw [zAk hd];have e1:(v++[t]).length=v.length+1:=by simp
    have e2:(v++[t]).reverse=t::v.reverse:=by simp
    rw [e1,e2];rfl
theorem zDh (h:Car n c):∀{w:List Nat} {f:Fw},Rdd n c w→rops c w f []=shN w.length (f w.reverse)
 | [],_,_=>rfl
 | t::w,f,hr=>by
  obtain ⟨ht,hw,hd⟩:=hr.cons h;show rops c w (rop c t f) []=shN w.length (sh (f (t::w).reverse));rw [zDh h hw,zBM (by unfold Rd; rwa [List.reverse_reverse]),List.reverse_cons]
theorem zGq (h:Car n c) {w w':List Nat} {f:Fw} (hf:Inv n c f) (hr:Rdd n c w) (hr':Rdd n c w') (he:Eqv n c w w'):EqL n (lops c w f) (lops c w' f):=fun y hy=>by
 obtain ⟨x,a1,a2,_⟩:=zBv (c:=c) _ y (zJm _) hy;rw [hf.lops hr.1 y x hy a1.1 a2,hf.lops hr'.1 y x hy a1.1 a2];have k1:=zDh h (f:=lops c w f) (a1.rev h);have k2:=zDh h (f:=lops c w' f) (a1.rev h);rw [List.reverse_reverse] at k1 k2;refine zFz (m:=x.reverse.length) ?_;rw [<-k1,<-k2,<-zC2 h hf hr.1 (a1.rev h).1 [] zB8,<-zC2 h hf hr'.1 (a1.rev h).1 [] zB8,zDa h _ rfl hr,zDa h _ rfl hr',hr.len hr' he,
  hf.rops h (a1.rev h).1 _ _ (lets_rev hr.1) (lets_rev hr'.1) (he.rev h hr.1 hr'.1)]
end Cox
end Go.Proofs.Ytlchafedbnihoaa
namespace Go.Proofs.Ytlchafedbnihoaa
set_option maxRecDepth 20000
namespace Cox
variable {n:Nat} {c:Nat→Nat→Int}
open Classical in
noncomputable def d0 (n:Nat) (c:Nat→Nat→Int):Fw:=fun w k=>if Eqv n c w []∧k=0 then 1 else 0
theorem zEi {w:List Nat} (he:Eqv n c w []) (k:Nat):d0 n c w k=if k=0 then 1 else 0:=by
 unfold d0;by_cases hk:k=0
 ·rw [if_pos ⟨he,hk⟩,if_pos hk]
 ·rw [if_neg (fun x=>hk x.2),if_neg hk]
theorem zGE {w:List Nat} (he:¬Eqv n c w []) (k:Nat):d0 n c w k=0:=if_neg fun x=>he x.1
theorem zCu:Inv n c (d0 n c):=fun w w' _ _ he=>funext fun k=>by
 by_cases h:Eqv n c w []
 ·rw [zEi h,zEi (he.symm.trans h)]
 ·rw [zGE h,zGE (fun x=>h (he.trans x))]
theorem zF0 {r:Nat→Int} (h:∀k,r k=0) (k:Nat):sh r k=0:=by
 cases k with
 | zero=>rfl
 | succ k=>exact h k
def rv (f:Fw):Fw:=fun w=>f w.reverse
def ep (f:Fw):Fw:=fun w k=>if w.length % 2=0 then f w k else-f w k
def ns (r:Nat→Int):Nat→Int:=fun k=>- sh r k
def nsN:Nat→(Nat→Int)→(Nat→Int)
 | 0,r=>r
 | m+1,r=>nsN m (ns r)
theorem Inv.ep (h:Car n c) {f:Fw} (hf:Inv n c f):Inv n c (ep f):=fun w w' hw hw' he=>by
 have:=parity h hw hw' (fun k _=>by rw [he.m]);have e:=hf w w' hw hw' he;funext k;unfold Cox.ep;rw [e];by_cases p:w.length % 2=0
 ·rw [if_pos p,if_pos (by omega)]
 ·rw [if_neg p,if_neg (by omega)]
theorem zHX {f g:Fw} (h:EqL n f g):EqL n (ep f) (ep g):=fun w hw=>by unfold Cox.ep; rw [h w hw]
theorem zGk (f:Fw):ep (ep f)=f:=funext fun w=>funext fun k=>by
 unfold ep;by_cases p:w.length % 2=0
 ·rw [if_pos p,if_pos p]
 ·rw [if_neg p,if_neg p]; omega
theorem zIQ (h:Car n c) {s:Nat} (hs:s<n) {f:Fw} (hf:Inv n c f):EqL n (lop c s (ep (dop c s f))) (fun w=>ns (ep f w)):=fun w hw=>by
 have f2:f (s::s::w)=f w:=hf _ _ (lets_cons' hs (lets_cons' hs hw)) hw (Eqv.dbl h hs w);have fl:=Ld.flip h hs hw;funext k;by_cases a:Ld c s w
 ·have b:=fun x=>fl.1 x a;rw [zAd a];unfold ep ns;rw [zCQ a,zDq b,f2];by_cases p:w.length % 2=0
  ·have q:¬(s::w).length % 2=0:=by simp; omega
   simp only [p,q,if_true,if_false];rcases k with _ | _ | k <;> simp only [sh] <;> omega
  ·have q:(s::w).length % 2=0:=by simp; omega
   simp only [p,q,if_true,if_false];rcases k with _ | _ | k <;> simp only [sh] <;> omega
 ·have b:=fl.2 a;rw [zAk a];unfold ep ns;rw [zCQ b,f2];by_cases p:w.length % 2=0
  ·have q:¬(s::w).length % 2=0:=by simp; omega
   simp only [p,q,if_true,if_false];rcases k with _ | _ | k <;> simp only [sh] <;> omega
  ·have q:(s::w).length % 2=0:=by simp; omega
   simp only [p,q,if_true,if_false];rcases k with _ | _ | k <;> simp only [sh] <;> omega
theorem zJL (s:Nat) (f:Fw):lop c s (fun w=>ns (f w))=fun w=>ns (lop c s f w):=funext fun w=>by
 by_cases a:Ld c s w
 ·rw [zAd a,zAd a];funext k;rcases k with _ | _ | k <;> simp only [sh,ns] <;> omega
 ·rw [zAk a,zAk a];funext k;cases k <;> rfl
theorem zHb (w:List Nat) (f:Fw):lops c w (fun w=>ns (f w))=fun x=>ns (lops c w f x):=by
 induction w with
 | nil=>rfl
 | cons s w ih=>show lop c s (lops c w _)=_; rw [ih,zJL]; rfl
theorem zGw:∀(m:Nat) (r:Nat→Int),nsN m (ns r)=ns (nsN m r)
 | 0,_=>rfl
 | m+1,r=>zGw m (ns r)
theorem zC1 (h:Car n c):∀{v:List Nat} {f:Fw},Inv n c f→Lets n v→EqL n (lops c v.reverse (ep (dops c v f))) (fun w=>nsN v.length (ep f w))
 | [],_,_,_=>EqL.refl _
 | s::v,f,hf,hv=>by
  obtain ⟨hs,hv⟩:=zAI hv;intro w hw;rw [List.reverse_cons,zDZ];have h1:=zDv (c:=c) (zIQ h hs (hf.dops hv)) (lets_rev hv) w hw;show lops c v.reverse (lop c s (ep (dop c s (dops c v f)))) w=_;rw [h1,zHb];show ns (lops c v.reverse (ep (dops c v f)) w)=nsN v.length (ns (ep f w));rw [zC1 h hf hv w hw,zGw]
theorem zIR (h:Car n c) {s:Nat} (hs:s<n) {f g:Fw} (hf:Inv n c f) (hg:Inv n c g) (he:EqL n (lop c s f) (lop c s g)):EqL n f g:=fun w hw=>by
 have two:∀{f:Fw},Inv n c f→∀k,sh (f w) k=lop c s (lop c s f) w k-(sh (lop c s f w) k-lop c s f w k):=fun {f} hf k=>by
  have f2:f (s::s::w)=f w:=hf _ _ (lets_cons' hs (lets_cons' hs hw)) hw (Eqv.dbl h hs w);have fl:=Ld.flip h hs hw;by_cases a:Ld c s w
  ·have b:=fun x=>fl.1 x a;rw [zAd (f:=lop c s f) a,zAk b,zAd a,f2];rcases k with _ | _ | k <;> simp only [sh] <;> omega
  ·have b:=fl.2 a;rw [zAk (f:=lop c s f) a,zAd b,zAk a,f2];rcases k with _ | _ | k <;> simp only [sh] <;> omega
 refine zG9 (funext fun k=>?_);rw [two hf,two hg,he w hw,zC0 hs he w hw]
theorem zEv (h:Car n c) {f g:Fw}:∀{v:List Nat},Inv n c f→Inv n c g→Lets n v→EqL n (lops c v f) (lops c v g)→EqL n f g
 | [],_,_,_,he=>he
 | _::_,hf,hg,hv,he=>by
  obtain ⟨hs,hv⟩:=zAI hv;exact zEv h hf hg hv (zIR h hs (hf.lops hv) (hg.lops hv) he)
theorem zGi (h:Car n c) {v v':List Nat} (hr:Rdd n c v) (hr':Rdd n c v') (he:Eqv n c v v'):EqL n (dops c v (d0 n c)) (dops c v' (d0 n c)):=by
 have i1:=(zCu (n:=n) (c:=c)).dops hr.1;have i2:=(zCu (n:=n) (c:=c)).dops hr'.1;have h1:=zC1 h zCu hr.1;have h2:=zC1 h zCu hr'.1;rw [<-hr.len hr' he] at h2;have h3:=zGq h (i2.ep h) (hr'.rev h) (hr.rev h) (he.symm.rev h hr'.1 hr.1);have h4:=zEv h (i1.ep h) (i2.ep h) (lets_rev hr.1) (h1.trans (h2.symm.trans h3));have h5:=zHX h4;rwa [zGk,zGk] at h5
def rz (r:Nat→Int) (j:Int):Int:=if j<0 then 0 else r j.toNat
theorem zB3 (h:Car n c):∀{v u:List Nat},Lets n v→Rdd n c u →
  (¬Part n c (aW c u one) v→∀k,dops c v (d0 n c) u k=0)∧(Part n c (aW c u one) v→u.length≤v.length∧∀k,v.length≤k+u.length→dops c v (d0 n c) u k=if k+u.length=v.length then 1 else 0)
 | [],u,_,hu=>by
  have key:Part n c (aW c u one) []↔Eqv n c u []:=by
   constructor
   ·rintro ⟨x,hx,he⟩;have:x=[]:=List.sublist_nil.1 hx;subst this;exact faithful h hu.1 zB8 (fun k hk=>(he k hk).symm)
   ·intro a;exact ⟨[],List.Sublist.refl _,fun k _=>by rw [a.m]⟩
  rw [key];refine ⟨fun a k=>zGE a k,fun a=>?_⟩;have:u.length=0:=by have:=hu.2 [] zB8 a; simpa using this
  refine ⟨by simp [this],fun k _=>?_⟩;show d0 n c u k=_;rw [zEi a,this];rfl
 | s::v,u,hv,hu=>by
  obtain ⟨hs,hv⟩:=zAI hv;have hi:=(zCu (n:=n) (c:=c)).dops hv;have e0:dops c (s::v) (d0 n c) u=dop c s (dops c v (d0 n c)) u:=rfl;rw [e0];by_cases a:Ld c s u
  ·obtain ⟨x,a1,a2,_,a4⟩:=exch_left h hs hu.1 a;have hx:Rdd n c x:=⟨a1,fun w' hw' he=>by
    have:=hu.2 (s::w') (lets_cons' hs hw') ((Eqv.dbl h hs u).symm.trans ((a4.trans he).cons s));simp at this; omega⟩
   have ih:=zB3 h hv hx;have e1:Part n c (aW c u one) (s::v)↔Part n c (aW c x one) v:=by
    rw [part_down h hs hv a,<-a4.m];exact Iff.rfl
   rw [zCQ a,hi _ _ (lets_cons' hs hu.1) a1 a4,e1];refine ⟨ih.1,fun b=>⟨by have:=(ih.2 b).1; simp; omega,fun k hk=>?_⟩⟩;rw [(ih.2 b).2 k (by simp at hk; omega)];by_cases q:k+x.length=v.length
   ·rw [if_pos q,if_pos (by simp; omega)]
   ·rw [if_neg q,if_neg (by simp; omega)]
  ·have hx:Rdd n c (s::u):=hu.up h hs a;have i1:=zB3 h hv hx;have i2:=zB3 h hv hu;have hpos:0<aW c u one s:=by
    have:=(image_step h hu.1 hs).1;unfold Ld at a; omega
   obtain ⟨p1,p2⟩:=part_up h hs hv hpos;have p3:Part n c (aW c (s::u) one) v→Part n c (aW c u one) v:=p2;rw [zDq a,p1];refine ⟨fun b k=>?_,fun b=>⟨by have:=(i2.2 b).1; simp; omega,fun k hk=>?_⟩⟩
   ·have z1:=i1.1 (mt p3 b);have z2:=i2.1 b;show sh (dops c v (d0 n c) (s::u)) k+(sh (dops c v (d0 n c) u) k-dops c v (d0 n c) u k)=0;rw [zF0 z1,zF0 z2,z2]; rfl
   ·obtain ⟨y1,y2⟩:=i2.2 b;have z:∀k,v.length<k+u.length→sh (dops c v (d0 n c) (s::u)) k=0:=fun k hk=>by
     cases k with
     | zero=>rfl
     | succ k =>
      show dops c v (d0 n c) (s::u) k=0;by_cases b1:Part n c (aW c (s::u) one) v
      ·rw [(i1.2 b1).2 k (by simp; omega),if_neg (by simp; omega)]
      ·exact i1.1 b1 k
    simp only [List.length_cons] at hk ⊢;show sh (dops c v (d0 n c) (s::u)) k+(sh (dops c v (d0 n c) u) k-dops c v (d0 n c) u k)=_;rw [z k (by omega),y2 k (by omega),if_neg (show ¬k+u.length=v.length by omega)];cases k with
    | zero=>omega
    | succ k =>
     show 0+(dops c v (d0 n c) u k-0)=_;rw [y2 k (by omega)];by_cases q:k+u.length=v.length
     ·rw [if_pos q,if_pos (by omega)]; rfl
     ·rw [if_neg q,if_neg (by omega)]; rfl
theorem zEQ (h:Car n c) {v v' u:List Nat} (hu:Lets n u) (hr:Rdd n c v) (hr':Rdd n c v') (he:Eqv n c v v'):Part n c (aW c u one) v↔Part n c (aW c u one) v':=by
 obtain ⟨x,hx,hxe,_⟩:=zBv (c:=c) _ u (zJm _) hu;have e:aW c u one=aW c x one:=hxe.m one;rw [e];have key:∀{v v':List Nat},Rdd n c v→Rdd n c v'→Eqv n c v v'→Part n c (aW c x one) v→Part n c (aW c x one) v':=fun {v v'} hr hr' he hp=>by
  refine Classical.byContradiction fun hn=>?_;obtain ⟨y1,y2⟩:=(zB3 h hr.1 hx).2 hp;have h1:=y2 (v.length-x.length) (by omega);rw [if_pos (by omega),zGi h hr hr' he x hx.1,(zB3 h hr'.1 hx).1 hn] at h1;omega
 exact ⟨key hr hr' he,key hr' hr he.symm⟩
end Cox
end Go.Proofs.Ytlchafedbnihoaa
