/- The products of heights divide the products of pairings: all matrices of finite type with at most 16 positive roots, all weights up to 4. -/
import Derived.Test.YtphbichgpcicnaaGreatDoorJGRtI
import Derived.Test.YtphbichgpcicnaaGreatDoorJGWor
namespace Go.Proofs.YtphbichgpcicnaaGreatDoor
set_option maxRecDepth 20000
def zGl:Nat→Nat→Nat→Nat
 | 0,_,p=>p
 | f+1,a,p=>zGl f (a / 256) (p*(a % 256))
def goW (m den:Nat):List Nat→Nat→Bool
 | [],a=>Nat.beq (zGl m a 1 % den) 0
 | col::cs,a=>goW m den cs (a+col) && (goW m den cs (a+2*col) && (goW m den cs (a+3*col) && (goW m den cs (a+4*col) && goW m den cs (a+5*col))))
def colQ (Q:List (Nat × Nat)) (i:Nat):Nat:=Q.foldr (fun p a=>a*256+dg p.2 i) 0
def denW (n:Nat) (Q:List (Nat × Nat)):Nat:=Q.foldr (fun p a=>sumN (dg p.2) n*a) 1
def chkW (c:List (List Int)) (Q:List (Nat × Nat)):Bool:=decide (16<Q.length) || (decide (0<denW c.length Q) && (decide (denW c.length Q≤4000000) && goW Q.length (denW c.length Q) ((List.range c.length).map (colQ Q)) 0))
abbrev zDA (c:List (List Int)):Bool:=chkW c (zBd c)
theorem zVN:(Fin.L1++Fin.L2++Fin.L3).all zDA=true:=by decide +kernel
theorem zVG:((Fin.L4.drop 0).take 37).all zDA=true:=by decide +kernel
theorem zVH:((Fin.L4.drop 37).take 37).all zDA=true:=by decide +kernel
theorem zVI:((Fin.L4.drop 74).take 37).all zDA=true:=by decide +kernel
theorem zVJ:((Fin.L4.drop 111).take 37).all zDA=true:=by decide +kernel
theorem zVK:((Fin.L4.drop 148).take 37).all zDA=true:=by decide +kernel
theorem zVL:((Fin.L4.drop 185).take 37).all zDA=true:=by decide +kernel
theorem zVM:((Fin.L4.drop 222)).all zDA=true:=by decide +kernel
theorem zDx {α:Type} {p:α→Bool} {l:List α} {k m k':Nat} (h1:((l.drop k).take m).all p=true) (h2:(l.drop k').all p=true) (hk:k'=k+m):(l.drop k).all p=true:=by
 subst hk;rw [<-List.take_append_drop m (l.drop k),List.all_append,h1,List.drop_drop,h2]; rfl
theorem zRC:(Fin.L1++Fin.L2++Fin.L3++Fin.L4).all zDA=true:=by
 have h6:=zVM;have h5:=zDx zVL h6 rfl;have h4:=zDx zVK h5 rfl;have h3:=zDx zVJ h4 rfl;have h2:=zDx zVI h3 rfl;have h1:=zDx zVH h2 rfl;have h0:=zDx zVG h1 rfl;rw [List.drop_zero] at h0;rw [List.all_append,zVN,h0];rfl
open Go.RowKit
def zAB (l:List Nat):Nat:=l.foldr (· * ·) 1
def zFS (l:List Nat):Nat:=l.foldr (fun d a=>a*256+d) 0
def lin (xs ds:List Nat):Nat:=(List.zipWith (· * ·) xs ds).foldr (· + ·) 0
theorem zAa (x:Nat) (l:List Nat):zAB (x::l)=x*zAB l:=rfl
theorem zFT (l:List Nat) (x:Nat):zAB (l++[x])=zAB l*x:=by
 induction l with
 | nil=>simp [zAB]
 | cons y l ih=>rw [List.cons_append,zAa,zAa,ih,Nat.mul_assoc]
theorem zPb {l:List Nat} (h:∀x∈l,0<x):0<zAB l:=by
 induction l with
 | nil=>simp [zAB]
 | cons y l ih=>rw [zAa]; exact Nat.mul_pos (h y (List.mem_cons_self ..)) (ih fun x hx=>h x (List.mem_cons_of_mem _ hx))
theorem zH8 {l m:List Nat} (h:l.Perm m):zAB l=zAB m:=by
 induction h with
 | nil=>rfl
 | cons x _ ih=>rw [zAa,zAa,ih]
 | swap x y l=>rw [zAa,zAa,zAa,zAa,Nat.mul_left_comm]
 | trans _ _ ih1 ih2=>rw [ih1,ih2]
theorem zGI {l:List Nat} (h:0<zAB l):∀x∈l,0<x:=by
 induction l with
 | nil=>intro x hx; cases hx
 | cons y l ih =>
  rw [zAa] at h;intro x hx;rcases List.mem_cons.1 hx with rfl | hx
  ·exact Nat.pos_of_ne_zero fun e=>by rw [e] at h; simp at h
  ·exact ih (Nat.pos_of_ne_zero fun e=>by rw [e] at h; simp at h) x hx
theorem zDd {l:List Nat} (h:∀x∈l,0<x) (k:Nat):zAB (l.take k)≤zAB l:=by
 induction l generalizing k with
 | nil=>simp
 | cons y l ih =>
  cases k with
  | zero =>
   exact zPb h
  | succ k =>
   rw [List.take_succ_cons,zAa,zAa];exact Nat.mul_le_mul_left _ (ih (fun x hx=>h x (List.mem_cons_of_mem _ hx)) k)
theorem zPa {α:Type} {f g:α→Nat} {l:List α} (h:∀x∈l,f x≤5*g x):zAB (l.map f)≤5 ^ l.length*zAB (l.map g):=by
 induction l with
 | nil=>simp [zAB]
 | cons y l ih =>
  simp only [List.map_cons,zAa,List.length_cons,Nat.pow_succ];have h1:=h y (List.mem_cons_self ..);have h2:=ih (fun x hx=>h x (List.mem_cons_of_mem _ hx))
  calc f y*zAB (l.map f)≤(5*g y)*(5 ^ l.length*zAB (l.map g)):=Nat.mul_le_mul h1 h2
   _=5 ^ l.length*5*(g y*zAB (l.map g)):=by
    rw [Nat.mul_comm (5 ^ l.length) 5,Nat.mul_assoc,Nat.mul_assoc,Nat.mul_left_comm (g y)]
theorem zH7:∀(D:List Nat) (p:Nat),(∀d∈D,d<256)→zGl D.length (zFS D) p=p*zAB D
 | [],p,_=>by simp [zGl,zAB]
 | d::D,p,h=>by
  have hd:=h d (List.mem_cons_self ..);have e:zFS (d::D)=zFS D*256+d:=rfl;rw [List.length_cons,zGl,e,show (zFS D*256+d) / 256=zFS D by omega,show (zFS D*256+d) % 256=d by omega,zH7 D (p*d) (fun x hx=>h x (List.mem_cons_of_mem _ hx)),zAa,Nat.mul_assoc]
theorem zDz {m den:Nat}:∀{cs:List Nat} {a:Nat},goW m den cs a=true→∀xs:List Nat,xs.length=cs.length→(∀x∈xs,1≤x∧x≤5)→zGl m (a+lin xs cs) 1 % den=0
 | [],a,h,xs,hl,_=>by
  have hx:xs=[]:=List.eq_nil_of_length_eq_zero hl;subst hx;simp only [goW] at h;exact Nat.eq_of_beq_eq_true h
 | col::cs,a,h,xs,hl,hx=>by
  cases xs with
  | nil=>simp at hl
  | cons x xs =>
   simp only [goW,Bool.and_eq_true] at h;obtain ⟨h1,h2,h3,h4,h5⟩:=h;have hl':xs.length=cs.length:=by simpa using hl
   have hx':∀y∈xs,1≤y∧y≤5:=fun y hy=>hx y (List.mem_cons_of_mem _ hy);have e:a+lin (x::xs) (col::cs)=a+x*col+lin xs cs:=by
    show a+(x*col+lin xs cs)=_;omega
   rw [e];obtain ⟨g1,g2⟩:=hx x (List.mem_cons_self ..);rcases (show x=1∨x=2∨x=3∨x=4∨x=5 by omega) with rfl | rfl | rfl | rfl | rfl
   ·rw [Nat.one_mul]; exact zDz h1 xs hl' hx'
   ·exact zDz h2 xs hl' hx'
   ·exact zDz h3 xs hl' hx'
   ·exact zDz h4 xs hl' hx'
   ·exact zDz h5 xs hl' hx'
theorem zMb {ι:Type} (f g:ι→Nat):∀(xs:List Nat) (is:List ι),lin xs (is.map fun i=>f i*256+g i)=lin xs (is.map f)*256+lin xs (is.map g)
 | [],is=>by simp [lin]
 | x::xs,[]=>by simp [lin]
 | x::xs,i::is=>by
  have ih:=zMb f g xs is;have e:∀h:ι→Nat,lin (x::xs) ((i::is).map h)=x*h i+lin xs (is.map h):=fun h=>rfl;rw [e,e,e,ih,Nat.mul_add,Nat.add_mul,<-Nat.mul_assoc];omega
theorem zKd {ι:Type}:∀(xs:List Nat) (is:List ι),lin xs (is.map fun _=>0)=0
 | [],is=>by simp [lin]
 | x::xs,[]=>by simp [lin]
 | x::xs,i::is=>by
  have ih:=zKd xs is;show x*0+lin xs (is.map fun _=>0)=0;rw [ih]; rfl
theorem zKc (is:List Nat) (xs:List Nat):∀Q:List (Nat × Nat),lin xs (is.map (colQ Q))=zFS (Q.map fun p=>lin xs (is.map (dg p.2)))
 | []=>zKd xs is
 | p::Q=>by
  have e:is.map (colQ (p::Q))=is.map fun i=>colQ Q i*256+dg p.2 i:=rfl;rw [e,zMb,zKc is xs Q];rfl
theorem zPC:∀(xs ds:List Nat),(∀x∈xs,x≤5)→lin xs ds≤5*ds.foldr (· + ·) 0
 | [],ds,_=>by simp [lin]
 | x::xs,[],_=>by simp [lin]
 | x::xs,d::ds,h=>by
  have ih:=zPC xs ds (fun y hy=>h y (List.mem_cons_of_mem _ hy));have hx:=h x (List.mem_cons_self ..);have:x*d≤5*d:=Nat.mul_le_mul_right _ hx;show x*d+lin xs ds≤5*(d+ds.foldr (· + ·) 0);omega
theorem zPB:∀(xs ds:List Nat),xs.length=ds.length→(∀x∈xs,1≤x)→ds.foldr (· + ·) 0≤lin xs ds
 | [],[],_,_=>by simp [lin]
 | [],_::_,h,_=>by simp at h
 | x::xs,[],h,_=>by simp at h
 | x::xs,d::ds,hl,h=>by
  have ih:=zPB xs ds (by simpa using hl) (fun y hy=>h y (List.mem_cons_of_mem _ hy));have hx:=h x (List.mem_cons_self ..);have:1*d≤x*d:=Nat.mul_le_mul_right _ hx;show d+ds.foldr (· + ·) 0≤x*d+lin xs ds;omega
theorem zGP (f:Nat→Nat):∀n,((List.range n).map f).foldr (· + ·) 0=sumN f n
 | 0=>rfl
 | n+1=>by
  have e:∀(l:List Nat) (a:Nat),l.foldr (· + ·) a=l.foldr (· + ·) 0+a:=fun l a=>by
   induction l with
   | nil=>simp
   | cons y l ih=>simp only [List.foldr_cons]; rw [ih]; omega
  rw [List.range_succ,List.map_append,List.foldr_append,e,zGP f n];simp [sumN]
theorem zDa {x:Int} (h:-1000000≤x∧x≤1000000):wrap64 x=x:=by unfold wrap64; omega
theorem zK0:∀(v:List Int) (ds:List Nat) (s:Int),v.length=ds.length→(∀x∈v,0≤x∧x≤4)→(∀d∈ds,d≤12)→0≤s→s+48*v.length≤100000 →
  zAb v (ds.map fun d:Nat=>(d:Int)) s+sumL (ds.map fun d:Nat=>(d:Int))=s+(lin (v.map fun x=>(x+1).toNat) ds:Nat)
 | [],[],s,_,_,_,_,_=>by simp [zAb,sumL,lin]
 | [],_::_,s,h,_,_,_,_=>by simp at h
 | x::v,[],s,h,_,_,_,_=>by simp at h
 | x::v,d::ds,s,hl,hv,hd,h0,h1=>by
  obtain ⟨x0,x1⟩:=hv x (List.mem_cons_self ..);have d1:=hd d (List.mem_cons_self ..);have p0:0≤x*(d:Int):=Int.mul_nonneg x0 (by omega);have p1:x*(d:Int)≤4*12:=Int.mul_le_mul x1 (by omega) (by omega) (by omega);simp only [List.length_cons,Int.natCast_add] at h1;have ih:=zK0 v ds (s+x*d) (by simpa using hl) (fun y hy=>hv y (List.mem_cons_of_mem _ hy)) (fun y hy=>hd y (List.mem_cons_of_mem _ hy)) (by omega) (by omega);rw [List.map_cons,zAb,zDa (x:=x*(d:Int)) (by omega),zDa (x:=s+x*(d:Int)) (by omega),zBm];have e:(lin ((x::v).map fun x=>(x+1).toNat) (d::ds):Nat)=(x+1).toNat*d+lin (v.map fun x=>(x+1).toNat) ds:=rfl;rw [e,Int.natCast_add,Int.natCast_mul,show (((x+1).toNat:Nat):Int)=x+1 by omega,Int.add_mul];omega
theorem zMI {b n i:Nat} (h:sumN (dg b) n≤12) (hi:i<n):dg b i≤12:=by
 induction n with
 | zero=>omega
 | succ n ih =>
  simp only [sumN] at h;rcases Nat.lt_or_ge i n with h2 | h2
  ·exact ih (by omega) h2
  ·have:i=n:=by omega
   subst this; omega
section
variable {c:List (List Int)}
def smL (c:List (List Int)) (v:List Int):Prop:=v.length=c.length∧∀x∈v,0≤x∧x≤4
def topF (v r:List Int):Nat:=(zAb v r 0+htR r).toNat
def botF (r:List Int):Nat:=(htR r).toNat
theorem zHG (h:FinP c):((zAT c).map (zAZ c)).Perm ((prsL c).map Prod.snd):=by
 have hQ:=h.rq;obtain ⟨h1,h2⟩:=zCP hQ h.cart;have hp:(zAT c).Perm ((prsL c).map Prod.fst):=(List.perm_ext_iff_of_nodup h1.nodup hQ.nd).2 h2;have h3:=hp.map (zAZ c);rw [List.map_map] at h3;have e:(prsL c).map (zAZ c ∘ Prod.fst)=(prsL c).map Prod.snd:=List.map_congr_left fun q hq=>zHK hQ h.cart hq;rwa [e] at h3
theorem zIV (h:FinP c):corR c=(zAT c).map (zAZ c):=by
 unfold corR;rw [if_pos];unfold finB;rw [h.isC,h.pos]; rfl
theorem zGr (h:FinP c) {v:List Int} (hv:smL c v) {p:Nat × Nat} (hp:p∈zBd c) :
  topF v (zAM c.length p.2)=lin (v.map fun x=>(x+1).toNat) ((List.range c.length).map (dg p.2))∧zAb v (zAM c.length p.2) 0+htR (zAM c.length p.2)=(topF v (zAM c.length p.2):Int)∧sumN (dg p.2) c.length≤12:=by
 have hm:(zAM c.length p.1,zAM c.length p.2)∈prsL c:=List.mem_map_of_mem hp;have h12:=(h.rq.ht _ hm).2;have h12:sumN (dg p.2) c.length≤12:=by
  have:htR (zAM c.length p.2)≤12:=h12;rw [zEr] at this; omega
 have h4:=h.cart.le;have e:zAM c.length p.2=((List.range c.length).map (dg p.2)).map fun d:Nat=>(d:Int):=by unfold zAM; rw [List.map_map]; rfl
 have hl:=zK0 v ((List.range c.length).map (dg p.2)) 0 (by rw [hv.1]; simp) hv.2 (fun d hd=>by
  obtain ⟨i,hi,rfl⟩:=List.mem_map.1 hd;exact zMI h12 (List.mem_range.1 hi)) (by omega) (by rw [hv.1]; omega)
 rw [<-e] at hl;have hl2:zAb v (zAM c.length p.2) 0+htR (zAM c.length p.2)=(lin (v.map fun x=>(x+1).toNat) ((List.range c.length).map (dg p.2)):Nat):=by unfold htR; rw [hl]; omega
 unfold topF;rw [hl2];exact ⟨by omega,by omega,h12⟩
def wdT (c:List (List Int)) (v:List Int):List Nat:=(corR c).map (topF v)
def wdB (c:List (List Int)):List Nat:=(corR c).map botF
theorem zND (h:FinP c) {v:List Int} (hv:smL c v) (h16:(corR c).length≤16) :
  zAB (wdB c) ∣ zAB (wdT c v)∧0<zAB (wdB c)∧zAB (wdB c)≤4000000∧zAB (wdT c v)≤1000000000000000000 ∧
   ∀r∈corR c,r.length=c.length∧zAb v r 0+htR r=(topF v r:Int)∧htR r=(botF r:Int)∧0<botF r∧botF r≤12∧0<topF v r∧topF v r≤60:=by
 have hp:=zHG h;rw [<-zIV h] at hp;have hlen:(zBd c).length=(corR c).length:=by rw [hp.length_eq,List.length_map]; simp [prsL]
 have hT:zAB (wdT c v)=zAB ((zBd c).map fun p=>lin (v.map fun x=>(x+1).toNat) ((List.range c.length).map (dg p.2))):=by
  have:=zH8 (hp.map (topF v));unfold wdT;rw [this];unfold prsL;rw [List.map_map,List.map_map];refine congrArg zAB (List.map_congr_left fun p hp=>(zGr h hv hp).1)
 have hB:zAB (wdB c)=denW c.length (zBd c):=by
  have:=zH8 (hp.map botF);unfold wdB;rw [this];unfold prsL denW;rw [List.map_map,List.map_map];have e:∀Q:List (Nat × Nat),zAB (Q.map (botF ∘ Prod.snd ∘ fun p=>(zAM c.length p.1,zAM c.length p.2)))=Q.foldr (fun p a=>sumN (dg p.2) c.length*a) 1:=fun Q=>by
   induction Q with
   | nil=>rfl
   | cons p Q ih =>
    rw [List.map_cons,zAa,ih,List.foldr_cons];have:botF (zAM c.length p.2)=sumN (dg p.2) c.length:=by unfold botF; rw [zEr]; omega
    show botF (zAM c.length p.2)*_=_;rw [this]
  exact e _
 have hchk:=h.all zRC;unfold zDA chkW at hchk;rw [Bool.or_eq_true,Bool.and_eq_true,Bool.and_eq_true,decide_eq_true_eq,decide_eq_true_eq,decide_eq_true_eq] at hchk;rcases hchk with hchk | ⟨hd1,hd2,hgo⟩
 ·omega
 have hxs:∀x∈v.map fun x=>(x+1).toNat,1≤x∧x≤5:=fun x hx=>by
  obtain ⟨y,hy,rfl⟩:=List.mem_map.1 hx;have:=hv.2 y hy;omega
 have hdv:=zDz hgo (v.map fun x=>(x+1).toNat) (by simp [hv.1]) hxs;rw [Nat.zero_add,zKc] at hdv;have hdig:∀p∈zBd c,lin (v.map fun x=>(x+1).toNat) ((List.range c.length).map (dg p.2))≤5*sumN (dg p.2) c.length:=fun p _=>by
  have:=zPC (v.map fun x=>(x+1).toNat) ((List.range c.length).map (dg p.2)) (fun x hx=>(hxs x hx).2);rwa [zGP] at this
 have hdig2:∀p∈zBd c,sumN (dg p.2) c.length≤lin (v.map fun x=>(x+1).toNat) ((List.range c.length).map (dg p.2)):=fun p _=>by
  have:=zPB (v.map fun x=>(x+1).toNat) ((List.range c.length).map (dg p.2)) (by simp [hv.1]) (fun x hx=>(hxs x hx).1);rwa [zGP] at this
 have hpk:=zH7 ((zBd c).map fun p=>lin (v.map fun x=>(x+1).toNat) ((List.range c.length).map (dg p.2))) 1 (fun d hd=>by
  obtain ⟨p,hp,rfl⟩:=List.mem_map.1 hd;have h1:=hdig p hp;have h2:=(zGr h hv hp).2.2;omega)
 rw [List.length_map] at hpk;rw [hpk,Nat.one_mul,<-hT] at hdv;have hpos:0<zAB (wdB c):=by rw [hB]; exact hd1
 refine ⟨by rw [hB]; exact Nat.dvd_of_mod_eq_zero hdv,hpos,by rw [hB]; exact hd2,?_,fun r hr=>?_⟩
 ·have h5:=zPa (f:=fun p:Nat × Nat=>lin (v.map fun x=>(x+1).toNat) ((List.range c.length).map (dg p.2))) (g:=fun p=>sumN (dg p.2) c.length) hdig;have hB2:zAB ((zBd c).map fun p=>sumN (dg p.2) c.length)=denW c.length (zBd c):=by
   unfold denW;have e:∀Q:List (Nat × Nat),zAB (Q.map fun p=>sumN (dg p.2) c.length)=Q.foldr (fun p a=>sumN (dg p.2) c.length*a) 1:=fun Q=>by
    induction Q with
    | nil=>rfl
    | cons p Q ih=>rw [List.map_cons,zAa,ih,List.foldr_cons]
   exact e _
  rw [<-hT,hB2] at h5;have h6:5 ^ (zBd c).length≤5 ^ 16:=Nat.pow_le_pow_right (by omega) (by omega);have h7:=Nat.mul_le_mul h6 hd2;have h8:5 ^ 16*4000000≤1000000000000000000:=by decide
  omega
 ·obtain ⟨q,hq,rfl⟩:=List.mem_map.1 (hp.mem_iff.1 hr);obtain ⟨p,hp',rfl⟩:=List.mem_map.1 hq;obtain ⟨t1,t2,t3⟩:=zGr h hv hp';have hb:htR (zAM c.length p.2)=(botF (zAM c.length p.2):Int):=by unfold botF; rw [zEr]; omega
  have hb2:botF (zAM c.length p.2)=sumN (dg p.2) c.length:=by unfold botF; rw [zEr]; omega
  have hbp:0<botF (zAM c.length p.2):=zGI hpos _ (List.mem_map_of_mem hr);have g1:=hdig p hp';have g2:=hdig2 p hp';refine ⟨zBM _ _,t2,hb,hbp,by rw [hb2]; exact t3,?_,?_⟩
  ·show 0<topF v (zAM c.length p.2);rw [t1]; omega
  ·show topF v (zAM c.length p.2)≤60;rw [t1]; omega
end
structure WS (T B:List Nat) (k up down:Nat):Prop where
 eq:up*zAB (B.take k)=down*zAB (T.take k)
 pu:0<up
 pd:0<down
 lu:up≤zAB (T.take k)
 ld:down≤zAB (B.take k)
theorem WS.start (T B:List Nat):WS T B 0 1 1:=⟨by simp [zAB],by omega,by omega,by simp [zAB],by simp [zAB]⟩
theorem WS.step {T B:List Nat} {k up down a b:Nat} (h:WS T B k up down) (ha:T[k]? = some a) (hb:B[k]? = some b) (pa:0<a) (pb:0<b) :
  WS T B (k+1) (up*a / Nat.gcd (up*a) (down*b)) (down*b / Nat.gcd (up*a) (down*b))∧up*a≤zAB (T.take (k+1))∧down*b≤zAB (B.take (k+1))∧0<Nat.gcd (up*a) (down*b):=by
 have eT:zAB (T.take (k+1))=zAB (T.take k)*a:=by rw [zAG ha,zFT]
 have eB:zAB (B.take (k+1))=zAB (B.take k)*b:=by rw [zAG hb,zFT]
 have pua:0<up*a:=Nat.mul_pos h.pu pa;have pdb:0<down*b:=Nat.mul_pos h.pd pb;have hg:0<Nat.gcd (up*a) (down*b):=Nat.gcd_pos_of_pos_left _ pua;obtain ⟨x,hx⟩:=Nat.gcd_dvd_left (up*a) (down*b);obtain ⟨y,hy⟩:=Nat.gcd_dvd_right (up*a) (down*b);generalize hgg:Nat.gcd (up*a) (down*b)=g at *;have ex:up*a / g=x:=by rw [hx]; exact Nat.mul_div_cancel_left _ hg
 have ey:down*b / g=y:=by rw [hy]; exact Nat.mul_div_cancel_left _ hg
 have l1:up*a≤zAB (T.take (k+1)):=by rw [eT]; exact Nat.mul_le_mul_right _ h.lu
 have l2:down*b≤zAB (B.take (k+1)):=by rw [eB]; exact Nat.mul_le_mul_right _ h.ld
 have px:0<x:=Nat.pos_of_ne_zero fun e=>by rw [e,Nat.mul_zero] at hx; omega
 have py:0<y:=Nat.pos_of_ne_zero fun e=>by rw [e,Nat.mul_zero] at hy; omega
 rw [ex,ey];refine ⟨⟨?_,px,py,?_,?_⟩,l1,l2,hg⟩
 ·have h1:g*(x*zAB (B.take (k+1)))=g*(y*zAB (T.take (k+1))):=by
   rw [<-Nat.mul_assoc,<-Nat.mul_assoc,<-hx,<-hy,eT,eB]
   calc up*a*(zAB (B.take k)*b)=(up*zAB (B.take k))*(a*b):=Nat.mul_mul_mul_comm ..
    _=(down*zAB (T.take k))*(a*b):=by rw [h.eq]
    _=down*b*(zAB (T.take k)*a):=by
      rw [Nat.mul_comm a b]; exact Nat.mul_mul_mul_comm ..
  exact Nat.eq_of_mul_eq_mul_left hg h1
 ·have:x≤up*a:=by rw [hx]; exact Nat.le_mul_of_pos_left _ hg
  omega
 ·have:y≤down*b:=by rw [hy]; exact Nat.le_mul_of_pos_left _ hg
  omega
theorem WS.fin {T B:List Nat} {k up down:Nat} (h:WS T B k up down) (hT:T.length≤k) (hB:B.length≤k) (hd:zAB B ∣ zAB T) (hp:0<zAB B):up / down=zAB T / zAB B:=by
 have e:=h.eq;rw [List.take_of_length_le hT,List.take_of_length_le hB] at e;obtain ⟨q,hq⟩:=hd;rw [hq,Nat.mul_div_cancel_left _ hp];rw [hq,<-Nat.mul_assoc,Nat.mul_comm down,Nat.mul_assoc,Nat.mul_comm up] at e;have e2:=Nat.eq_of_mul_eq_mul_left hp e;rw [e2];exact Nat.mul_div_cancel_left _ h.pd
structure WI (x0:Nat) (B0:List Nat) (k x:Nat) (bs:List Nat):Prop where
 len:bs.length=B0.length
 eq:x*zAB B0=x0*zAB bs
 cop:∀(j b:Nat),j<k→bs[j]? = some b→Nat.Coprime x b
 px:0<x
 lx:x≤x0
 pb:∀b∈bs,0<b∧b≤12
 dv:zAB bs ∣ zAB B0
theorem WI.start {x0:Nat} {B0:List Nat} (hx:0<x0) (hb:∀b∈B0,0<b∧b≤12):WI x0 B0 0 x0 B0:=⟨rfl,rfl,fun j b hj=>by omega,hx,zWK _,hb,Nat.dvd_refl _⟩
theorem zPc {l:List Nat} {k a b:Nat} (h:l[k]? = some a):zAB (l.set k b)*a=zAB l*b:=by
 induction l generalizing k with
 | nil=>simp at h
 | cons y l ih =>
  cases k with
  | zero =>
   simp only [List.getElem?_cons_zero,Option.some.injEq] at h;subst h;rw [List.set_cons_zero,zAa,zAa,Nat.mul_right_comm,Nat.mul_comm b y,Nat.mul_right_comm]
  | succ k =>
   rw [List.set_cons_succ,zAa,zAa,Nat.mul_assoc,Nat.mul_assoc,ih (by simpa using h)]
theorem WI.step {x0 k x b:Nat} {B0 bs:List Nat} (h:WI x0 B0 k x bs) (hb:bs[k]? = some b):WI x0 B0 (k+1) (x / Nat.gcd x b) (bs.set k (b / Nat.gcd x b))∧0<Nat.gcd x b:=by
 have hg:0<Nat.gcd x b:=Nat.gcd_pos_of_pos_left _ h.px;have pb:=h.pb b (zWH hb);have hk:=(zWI hb).1;have hcop:Nat.Coprime (x / Nat.gcd x b) (b / Nat.gcd x b):=Nat.coprime_div_gcd_div_gcd hg;obtain ⟨y,hy⟩:=Nat.gcd_dvd_left x b;obtain ⟨z,hz⟩:=Nat.gcd_dvd_right x b;generalize hgg:Nat.gcd x b=g at *;have ey:x / g=y:=by rw [hy]; exact Nat.mul_div_cancel_left _ hg
 have ez:b / g=z:=by rw [hz]; exact Nat.mul_div_cancel_left _ hg
 rw [ey,ez] at hcop ⊢;have py:0<y:=Nat.pos_of_ne_zero fun e=>by rw [e,Nat.mul_zero] at hy; have:=h.px; omega
 have pz:0<z:=Nat.pos_of_ne_zero fun e=>by rw [e,Nat.mul_zero] at hz; omega
 have ly:y≤x:=by rw [hy]; exact Nat.le_mul_of_pos_left _ hg
 have lz:z≤b:=by rw [hz]; exact Nat.le_mul_of_pos_left _ hg
 have hset:g*zAB (bs.set k z)=zAB bs:=by
  have:=zPc (b:=z) hb;rw [hz,<-Nat.mul_assoc,Nat.mul_comm (zAB (bs.set k z))] at this;exact Nat.eq_of_mul_eq_mul_right pz this
 refine ⟨⟨by rw [List.length_set]; exact h.len,?_,fun j b' hj hb'=>?_,py,Nat.le_trans ly h.lx,fun b' hb'=>?_,?_⟩,hg⟩
 ·have h1:g*(y*zAB B0)=g*(x0*zAB (bs.set k z)):=by
   rw [<-Nat.mul_assoc,<-hy,Nat.mul_left_comm,hset]; exact h.eq
  exact Nat.eq_of_mul_eq_mul_left hg h1
 ·rcases Nat.lt_or_ge j k with hjk | hjk
  ·rw [List.getElem?_set_ne (by omega)] at hb';have:=h.cop j b' hjk hb';rw [hy] at this;exact Nat.Coprime.coprime_mul_left this
  ·have:j=k:=by omega
   subst this;rw [List.getElem?_set_self hk] at hb';simp only [Option.some.injEq] at hb';subst hb';exact hcop
 ·rcases List.mem_or_eq_of_mem_set hb' with hb' | rfl
  ·exact h.pb b' hb'
  ·exact ⟨pz,by omega⟩
 ·exact Nat.dvd_trans ⟨g,by rw [<-hset,Nat.mul_comm]⟩ h.dv
structure WO (T B:List Nat) (i P:Nat) (bs:List Nat):Prop where
 len:bs.length=B.length
 eq:P*zAB B=zAB (T.take i)*zAB bs
 cop:Nat.Coprime P (zAB bs)
 pP:0<P
 pb:∀b∈bs,0<b∧b≤12
 dv:zAB bs ∣ zAB B
theorem WO.start {T B:List Nat} (hb:∀b∈B,0<b∧b≤12):WO T B 0 1 B:=⟨rfl,by simp [zAB],Nat.coprime_one_left _,by omega,hb,Nat.dvd_refl _⟩
theorem zKH {x:Nat}:∀{l:List Nat},(∀b∈l,Nat.Coprime x b)→Nat.Coprime x (zAB l)
 | [],_=>Nat.coprime_one_right _
 | b::l,h=>by rw [zAa]; exact Nat.Coprime.mul_right (h b (List.mem_cons_self ..)) (zKH fun y hy=>h y (List.mem_cons_of_mem _ hy))
theorem WO.le {T B bs:List Nat} {i P:Nat} (h:WO T B i P bs) (hB:0<zAB B):P≤zAB (T.take i):=by
 have h1:zAB bs≤zAB B:=Nat.le_of_dvd hB h.dv;have h2:P*zAB B≤zAB (T.take i)*zAB B:=by rw [h.eq]; exact Nat.mul_le_mul_left _ h1
 exact Nat.le_of_mul_le_mul_right h2 hB
theorem WO.step {T B bs bs':List Nat} {i P x0 x k:Nat} (h:WO T B i P bs) (hx:T[i]? = some x0) (hB:0<zAB B) (hw:WI x0 bs k x bs') (hk:bs'.length≤k):WO T B (i+1) (P*x) bs'∧P*x≤zAB (T.take (i+1)):=by
 have eT:zAB (T.take (i+1))=zAB (T.take i)*x0:=by rw [zAG hx,zFT]
 have hbs:0<zAB bs:=Nat.pos_of_dvd_of_pos h.dv hB;have hc:Nat.Coprime x (zAB bs'):=zKH fun b hb=>by
  obtain ⟨j,hj⟩:=List.getElem?_of_mem hb;exact hw.cop j b (by have:=(zWI hj).1; omega) hj
 have hc2:Nat.Coprime P (zAB bs'):=Nat.Coprime.coprime_dvd_right hw.dv h.cop;have key:P*x*zAB B=zAB (T.take (i+1))*zAB bs':=by
  have h1:zAB bs*(P*x*zAB B)=zAB bs*(zAB (T.take (i+1))*zAB bs'):=by
   rw [eT]
   calc zAB bs*(P*x*zAB B)=(P*zAB B)*(x*zAB bs):=by rw [Nat.mul_right_comm P x,Nat.mul_comm (zAB bs),Nat.mul_assoc]
    _=(zAB (T.take i)*zAB bs)*(x0*zAB bs'):=by rw [h.eq,hw.eq]
    _=zAB bs*(zAB (T.take i)*x0*zAB bs'):=by
      rw [Nat.mul_comm (zAB (T.take i)) (zAB bs),Nat.mul_assoc,Nat.mul_assoc]
  exact Nat.eq_of_mul_eq_mul_left hbs h1
 have hw2:WO T B (i+1) (P*x) bs':=⟨hw.len.trans h.len,key,Nat.Coprime.mul_left hc2 hc,Nat.mul_pos h.pP hw.px,hw.pb,Nat.dvd_trans hw.dv h.dv⟩;exact ⟨hw2,hw2.le hB⟩
theorem WO.fin {T B bs:List Nat} {i P:Nat} (h:WO T B i P bs) (hT:T.length≤i) (hd:zAB B ∣ zAB T) (hB:0<zAB B):P=zAB T / zAB B:=by
 have e:=h.eq;rw [List.take_of_length_le hT] at e;obtain ⟨q,hq⟩:=hd;rw [hq,Nat.mul_assoc,Nat.mul_comm P] at e;have e2:=Nat.eq_of_mul_eq_mul_left hB e;have h1:zAB bs ∣ P:=⟨q,by rw [e2,Nat.mul_comm]⟩;have h2:zAB bs=1:=h.cop.symm.eq_one_of_dvd h1;rw [hq,Nat.mul_div_cancel_left _ hB,e2,h2,Nat.mul_one]
end Go.Proofs.YtphbichgpcicnaaGreatDoor
namespace Go.Proofs.YtphbichgpcicnaaGreatDoor
open Go.RowKit
set_option maxRecDepth 20000
set_option maxHeartbeats 8000000
theorem zHB:∀v:List Int,(∀x∈v,0≤x∧x≤4)→addW v (List.replicate v.length 1)=v.map fun x=>x+1
 | [],_=>rfl
 | x::v,h=>by
  have hx:=h x (List.mem_cons_self ..);rw [List.length_cons,List.replicate_succ,addW,zDa (by omega),zHB v (fun y hy=>h y (List.mem_cons_of_mem _ hy))];rfl
theorem zJL:∀(v:List Int) (ds:List Nat) (s:Int),v.length=ds.length→(∀x∈v,0≤x∧x≤4)→(∀d∈ds,d≤12)→0≤s→s+60*v.length≤100000 →
  zAb (v.map fun x=>x+1) (ds.map fun d:Nat=>(d:Int)) s=s+(lin (v.map fun x=>(x+1).toNat) ds:Nat)
 | [],[],s,_,_,_,_,_=>by simp [zAb,lin]
 | [],_::_,s,h,_,_,_,_=>by simp at h
 | x::v,[],s,h,_,_,_,_=>by simp at h
 | x::v,d::ds,s,hl,hv,hd,h0,h1=>by
  obtain ⟨x0,x1⟩:=hv x (List.mem_cons_self ..);have d1:=hd d (List.mem_cons_self ..);have p0:0≤(x+1)*(d:Int):=Int.mul_nonneg (by omega) (by omega);have p1:(x+1)*(d:Int)≤5*12:=Int.mul_le_mul (by omega) (by omega) (by omega) (by omega);simp only [List.length_cons,Int.natCast_add] at h1;have ih:=zJL v ds (s+(x+1)*d) (by simpa using hl) (fun y hy=>hv y (List.mem_cons_of_mem _ hy)) (fun y hy=>hd y (List.mem_cons_of_mem _ hy)) (by omega) (by omega);rw [List.map_cons,List.map_cons,zAb,zDa (x:=(x+1)*(d:Int)) (by omega),zDa (x:=s+(x+1)*(d:Int)) (by omega),ih];have e:(lin ((x::v).map fun x=>(x+1).toNat) (d::ds):Nat)=(x+1).toNat*d+lin (v.map fun x=>(x+1).toNat) ds:=rfl;rw [e,Int.natCast_add,Int.natCast_mul,show (((x+1).toNat:Nat):Int)=x+1 by omega];omega
theorem zUq {c:List (List Int)} (h:FinP c) {v:List Int} (hv:smL c v) {r:List Int} (hr:r∈corR c):zAb (addW v (rho c)) r 0=(topF v r:Int):=by
 have hp:=zHG h;rw [<-zIV h] at hp;obtain ⟨q,hq,rfl⟩:=List.mem_map.1 (hp.mem_iff.1 hr);obtain ⟨p,hp',rfl⟩:=List.mem_map.1 hq;obtain ⟨t1,_,t3⟩:=zGr h hv hp';have h4:=h.cart.le;have er:rho c=List.replicate v.length 1:=by unfold rho; rw [h.isC,hv.1]; rfl
 have e:zAM c.length p.2=((List.range c.length).map (dg p.2)).map fun d:Nat=>(d:Int):=by unfold zAM; rw [List.map_map]; rfl
 show zAb (addW v (rho c)) (zAM c.length p.2) 0=(topF v (zAM c.length p.2):Int);rw [t1,er,zHB v hv.2,e,zJL v ((List.range c.length).map (dg p.2)) 0 (by rw [hv.1]; simp) hv.2 (fun d hd=>by
  obtain ⟨i,hi,rfl⟩:=List.mem_map.1 hd;exact zMI t3 (List.mem_range.1 hi)) (by omega) (by rw [hv.1]; omega)]
 omega
def wdOk (c:List (List Int)) (v:List Int):Bool:=finB c && (decide (v.length=c.length) && sm4 v) && decide ((corR c).length≤16)
def wdR (c:List (List Int)) (v:List Int):Int:=if wdOk c v=true then ((zAB (wdT c v) / zAB (wdB c):Nat):Int) else 0
theorem zSl {c:List (List Int)} {v:List Int} (h1:v.length=c.length) (h2:sm4 v=true):smL c v:=by
 refine ⟨h1,fun x hx=>?_⟩;unfold sm4 at h2;have:=List.all_eq_true.1 h2 x hx;simpa using this
theorem zI3 {c:List (List Int)} (h:FinP c) {r:List Int} (hr:r∈corR c):SmI 100000 r:=by
 have hp:=zHG h;rw [<-zIV h] at hp;obtain ⟨q,hq,rfl⟩:=List.mem_map.1 (hp.mem_iff.1 hr);exact fun x hx=>by have:=(zJN h.rq hq).2 x hx; omega
def WdC (c:List (List Int)) (v:List Int) (w:World) (e:Ending) (w':World):Prop:=e=.returned (.tuple #[.int .i64 (wdR c v),.bool (wdOk c v)])∧Below w.heap.size w w'
theorem zSO {S S':Nat→Prop} {u v:Value} {c:List (List Int)} {l:List Int} {w:World} (h:RII S w u c) (h':RI S' w v l) (hl:total c≤16777216) (hl':l.length≤16777216) :
  Calls Tryz.prog 21 #[u,v] w (WdC c l w):=by
 have HRES:Hid (WdC c l w=fun e w'=>e=.returned (.tuple #[.int .i64 (wdR c l),.bool (wdOk c l)])∧Below w.heap.size w w'):=zWF rfl;have hP:=zB8 h hl;have HSM:=zWF (fun (w1:World) (b1:Below w.heap.size w w1)=>zLu (h.below b1) (h'.below b1) hl hl');have hL9:(corR c).length≤1000:=by have:=zCs c; unfold total at this; omega
 have mixed:Tryz.prog.follows .mixedOrders=true:=by kernel_rfl
 have h0:=h;have h0':=h';obtain ⟨au,cu,rfl⟩:=h.form;obtain ⟨av,cv,rfl⟩:=h'.form;by_cases hok:wdOk c l=true
 ·have hok2:=hok;unfold wdOk at hok2;rw [Bool.and_eq_true,Bool.and_eq_true,Bool.and_eq_true,decide_eq_true_eq,decide_eq_true_eq] at hok2;obtain ⟨⟨hfb,hlen,hs4⟩,h16⟩:=hok2;have hf:=zCB hfb;have hsm:=zSl hlen hs4;obtain ⟨hdv,hpb,hb4,ht18,hel⟩:=zND hf hsm h16;have HTR:=zWF (fun (r:List Int) (hr:r∈corR c)=>zUq hf hsm hr);have HEL:=zWF hel;have HFIN:=zWF (fun (k up down:Nat) (hw:WS (wdT c l) (wdB c) k up down) (hk:(corR c).length≤k)=>hw.fin (by unfold wdT; rw [List.length_map]; exact hk) (by unfold wdB; rw [List.length_map]; exact hk) hdv hpb);have HT:Hid (∀k,zAB ((wdT c l).take k)≤1000000000000000000):=zWF (fun k=>Nat.le_trans (zDd (fun x hx=>by
   obtain ⟨r,hr,rfl⟩:=List.mem_map.1 hx;exact (hel r hr).2.2.2.2.2.1) k) ht18)
  have HB:Hid (∀k,zAB ((wdB c).take k)≤4000000):=zWF (fun k=>Nat.le_trans (zDd (zGI hpb) k) hb4);have HTK:=zWF (fun (k:Nat) (r:List Int) (hr:(corR c)[k]? = some r)=>(by unfold wdT; rw [List.getElem?_map,hr]; rfl:(wdT c l)[k]? = some (topF l r)));have HBK:=zWF (fun (k:Nat) (r:List Int) (hr:(corR c)[k]? = some r)=>(by unfold wdB; rw [List.getElem?_map,hr]; rfl:(wdB c)[k]? = some (botF r)));have HWR:Hid (wdR c l=((zAB (wdT c l) / zAB (wdB c):Nat):Int)):=zWF (by unfold wdR; rw [if_pos hok]);have HOK:=zWF hok;have HR4:Hid (∀r∈corR c,r.length≤4):=zWF (fun r hr=>by rw [(hel r hr).1]; exact hf.cart.le);have HAL:Hid ((addW l (rho c)).length≤4):=zWF (by
   have er:rho c=List.replicate l.length 1:=by unfold rho; rw [hf.isC,hlen]; rfl
   rw [er,zHB l hsm.2,List.length_map,hlen]; exact hf.cart.le)
  have HRH:=zWF (fun (w1:World) (b1:Below w.heap.size w w1)=>zPg (h0.below b1) hl);have HRL:Hid ((rho c).length≤16777216):=zWF (by
   have:rho c=List.replicate c.length 1:=by unfold rho; rw [hf.isC]; rfl
   rw [this,List.length_replicate]; have:=hf.cart.le; omega)
  have HSML:Hid (∀r∈corR c,SmI 100000 r):=zWF (fun r hr=>zI3 hf hr);have HW0:Hid (WS (wdT c l) (wdB c) 0 1 1):=zWF (WS.start _ _);have HSMT:Hid ((sm4 l && (finB c && decide (l.length=c.length)))=true):=zWF (by rw [hs4,hfb,decide_eq_true hlen]; rfl);rw [hfb] at hP;clear hok hfb hs4 hf hsm hdv hpb hb4 ht18 hel hlen;generalize corR c=L at *;generalize wdT c l=T at *;generalize wdB c=B at *;generalize hlv:l.length=nv at *;have HLV:=zWF hlv;clear hlv;generalize c.length=nc at *;go_enter Tryz.func21,Tryz.ntmps21
  go_wp2_with fail
  refine hP.mono ?_;rintro e w1 ⟨r1,rfl,f1,b1⟩;have hs:=(HS.nil (Below.refl _ w)).addF b1 f1;have hs:HS w w1 [aF r1 L]:=hs;have hcall:=HSM.out w1 hs.bl;rw [HSMT.out] at hcall;clear hP f1 b1;obtain ⟨a1,c1,rfl⟩:=(hs.F 0 rfl).read.form;generalize hm:L.length=m at *;have HM:=zWF hm;clear hm;go_wp2_with fail
  refine hcall.mono ?_;rintro e w2 ⟨rfl,b2⟩;have hs:=hs.below b2;have hs:HS w w2 [aF (.slice a1 m c1) L]:=hs;have i16:¬(16:Int)<(m:Int):=by omega
  clear hcall b2;go_wp2_with fail
  go_loopw [8,9,10] (fun uu dd kk wr=>∃(k up down:Nat),k≤m∧kk=.int .i64 k∧uu=.int .i64 up∧dd=.int .i64 down∧HS w wr [aF (.slice a1 m c1) L]∧Hid (WS T B k up down)) (fun _ _ kk _=>m-(intOf kk).toNat)
  case atStart=>exact ⟨0,1,1,Nat.zero_le _,rfl,rfl,rfl,hs,HW0⟩
  case round =>
   clear hs;obtain ⟨k,up,down,hk,rfl,rfl,rfl,hs,HW⟩:=hrel;by_cases hkm:k<m
   ·have i1:(k:Int)<(m:Int):=by omega
    have hread:RII _ wr (.slice a1 m c1) L:=(hs.F 0 rfl).read;obtain ⟨b3,o3,r3,x,rfl,hc3,hr3,hx⟩:=RII.at hread hkm;have hxm:=zWH hx.out;obtain ⟨e1,e2,e3,e4,e5,e6,e7⟩:=HEL.out x hxm;have hst:=HW.out.step (HTK.out k x hx.out) (HBK.out k x hx.out) e6 e4;have HX4:=zWF (HR4.out x hxm);have HTRX:=zWF (HTR.out x hxm);have HE3:=zWF e3;have HBX:Hid (SmI 100000 x):=zWF (HSML.out x hxm);have hsd:=hs.drew;have hsd:HS w wr.drew [aF (.slice (some ⟨b3,o3,none⟩) m c1) L]:=hsd;have HSD:=zWF hsd;have HXK:=zWF hx.out;obtain ⟨hst1,hst2,hst3,hst4⟩:=hst;have HWN:=zWF hst1;have hTk:=HT.out (k+1);have hBk:=HB.out (k+1);have gup:Nat.gcd (up*topF l x) (down*botF x)≤up*topF l x:=Nat.gcd_le_left _ (Nat.mul_pos HW.out.pu e6);have gdn:Nat.gcd (up*topF l x) (down*botF x)≤down*botF x:=Nat.gcd_le_right _ (Nat.mul_pos HW.out.pd e4)
    have hu4:up*topF l x≤1000000000000000000:=by omega
    have hd4:down*botF x≤4000000:=by omega
    clear hst1 hst2 hst3 hTk hBk;have l0:=zWJ wr _ hc3;have l0d:b3<wr.drew.heap.size:=l0;have hc3d:wr.drew.cell? ⟨b3,o3+k,none⟩=some r3:=hc3;have hr3d:RI _ wr.drew r3 x:=hr3.drew;obtain ⟨ax,cx,rfl⟩:=hr3.form;clear hs hread hr3 hx hxm e1 e2 e3 e4 e5 e6 e7;generalize hnx:x.length=nx at *;generalize topF l x=tx at *;generalize botF x=bx at *;go_wp2_with fail
    go_region_held3 (fun w'=>w'.cell? ⟨b3,o3+k,none⟩=some (.slice ax nx cx)) (first | go_keep | exact (b4.cell l0d).trans hc3d | exact (b5.cell (Nat.lt_of_lt_of_le l0d b4.size)).trans ((b4.cell l0d).trans hc3d) | exact ((b5.cell (Nat.lt_of_lt_of_le l0d b4.size)).trans ((b4.cell l0d).trans hc3d))) (first
     | (go_at_call 54; refine (HRH.out wr.drew HSD.out.bl).mono ?_; rintro e w4 ⟨r4,rfl,f4,b4⟩)
     | (go_at_call 53; refine (zIS (h0'.below (zAA.step HSD.out.bl b4)) f4.reads (by rw [HLV.out]; exact hl') HRL.out).mono ?_; rintro e w5 ⟨r5,rfl,f5,b5⟩)
     | (go_at_call 25; refine (zEf f5.reads ((hr3d.below b4).below b5) (by have:=HAL.out; omega) (by have:=HX4.out; omega)).mono ?_; rintro e w6 ⟨rfl,m6,rfl⟩; rw [HTRX.out]))
    have hs9:=(hsd.below (zAA.step b4 b5)).drewN m6;have hr9:=(hr3d.below (zAA.step b4 b5)).drewN m6;generalize w5.drewN m6=w9 at *;have hh:=zBL hr9 HBX.out (by have:=HX4.out; omega);rw [HE3.out] at hh;clear b4 b5 f4 f5 hsd hr3d hc3d l0d l0;obtain ⟨p,hp⟩:∃p,p=up*tx:=⟨_,rfl⟩;obtain ⟨q,hq⟩:∃q,q=down*bx:=⟨_,rfl⟩;have ep:(up:Int)*(tx:Int)=(p:Int):=by rw [hp]; simp
    have eq:(down:Int)*(bx:Int)=(q:Int):=by rw [hq]; simp
    rw [<-hp,<-hq] at HWN gup gdn hst4;rw [<-hp] at hu4;rw [<-hq] at hd4;have hw0:IntKind.i64.wrap ((up:Int)*(tx:Int))=(p:Int):=by rw [ep]; exact IntWalk.i64_in _ (by omega)
    have hw1:IntKind.i64.wrap ((down:Int)*(bx:Int))=(q:Int):=by rw [eq]; exact IntWalk.i64_in _ (by omega)
    have hcg:=zWF (fun (wv:World)=>zNh (w:=wv) (x:=p) (y:=q) (by omega) (by omega));obtain ⟨g,hg⟩:∃g,g=Nat.gcd p q:=⟨_,rfl⟩;rw [<-hg] at HWN gup gdn hst4 hcg;obtain ⟨p1,hp1⟩:∃p1,p1=p / g:=⟨_,rfl⟩;obtain ⟨q1,hq1⟩:∃q1,q1=q / g:=⟨_,rfl⟩;have lp1:p1≤p:=by rw [hp1]; exact Nat.div_le_self _ _
    have lq1:q1≤q:=by rw [hq1]; exact Nat.div_le_self _ _
    have hd0:(p:Int).tdiv (g:Int)=(p1:Int):=by rw [hp1]; exact (Int.ofNat_tdiv p g).symm
    have hd1:(q:Int).tdiv (g:Int)=(q1:Int):=by rw [hq1]; exact (Int.ofNat_tdiv q g).symm
    rw [<-hp1,<-hq1] at HWN;have f2:((g:Int) == 0)=false:=by simp; omega
    have f3:(g:Int)≠0:=by omega
    clear hp hq ep eq hg hp1 hq1 gup gdn hst4;go_wp2_with fail
    refine hh.mono ?_;rintro e w10 ⟨rfl,m10,rfl⟩;have hs10:=hs9.drewN m10;generalize w9.drewN m10=w11 at *;have hcg2:=hcg.out w11;clear hs9 hr9 hh hcg;go_wp2_with fail
    refine hcg2.mono ?_;rintro e w12 ⟨rfl,m12,rfl⟩;have hs12:=hs10.drewN m12;have hs12:HS w _ [aF (.slice (some ⟨b3,o3,none⟩) m c1) L]:=hs12;generalize w11.drewN m12=w13 at *;clear hs10 hcg2;go_wp2_with fail
    go_roundw
    case rel=>exact ⟨k+1,p1,q1,by omega,by go_num,rfl,rfl,hs12,HWN⟩
    case measure=>simp [intOf]; omega
   ·have i1:¬(k:Int)<(m:Int):=by omega
    have hfin:=HFIN.out k up down HW.out (by omega);have hpd:=HW.out.pd;have hup:=HW.out.lu;have hTk:=HT.out k;obtain ⟨r,hr⟩:∃r,r=up / down:=⟨_,rfl⟩;have lr:r≤up:=by rw [hr]; exact Nat.div_le_self _ _
    have hd0:(up:Int).tdiv (down:Int)=(r:Int):=by rw [hr]; exact (Int.ofNat_tdiv up down).symm
    have f2:((down:Int) == 0)=false:=by simp; omega
    have f3:(down:Int)≠0:=by omega
    have HWR2:Hid (wdR c l=(r:Int)):=zWF (by rw [HWR.out,hr,hfin]);clear hfin hr;go_wp2_with fail
    go_ret2
    rw [HRES.out];exact ⟨by rw [HWR2.out,HOK.out]; rfl,hs.bl⟩
 ·have HOK:Hid (wdOk c l=false):=zWF (by simpa using hok);have HWR:Hid (wdR c l=0):=zWF (by unfold wdR; rw [if_neg hok]);cases hfb:finB c with
  | false =>
   rw [hfb] at hP;clear hok hfb HSM;go_enter Tryz.func21,Tryz.ntmps21
   go_wp2_with fail
   refine hP.mono ?_;rintro e w1 ⟨r1,rfl,f1,b1⟩;go_wp2_with fail
   go_ret2
   rw [HRES.out];exact ⟨by rw [HWR.out,HOK.out]; rfl,b1⟩
  | true =>
   rw [hfb] at hP;have HSM2:Hid (∀w1:World,Below w.heap.size w w1→Calls Tryz.prog 52 #[.slice au c.length cu,.slice av l.length cv] w1 fun e w'=>e=.returned (.bool (decide (l.length=c.length) && sm4 l))∧Below w1.heap.size w1 w'):=zWF (fun w1 b1=>by
    have h:=HSM.out w1 b1;rw [hfb,Bool.true_and,Bool.and_comm] at h;exact h)
   cases hsm:(decide (l.length=c.length) && sm4 l) with
   | false =>
    rw [hsm] at HSM2;clear hok hfb HSM hsm;generalize c.length=nc at *;generalize l.length=nv at *;go_enter Tryz.func21,Tryz.ntmps21
    go_wp2_with fail
    refine hP.mono ?_;rintro e w1 ⟨r1,rfl,f1,b1⟩;have hcall:=HSM2.out w1 b1;go_wp2_with fail
    refine hcall.mono ?_;rintro e w2 ⟨rfl,b2⟩;have b12:=zAA.step b1 b2;clear hcall;go_wp2_with fail
    go_ret2
    rw [HRES.out];exact ⟨by rw [HWR.out,HOK.out]; rfl,b12⟩
   | true =>
    have h16:16<(corR c).length:=by
     rcases Nat.lt_or_ge 16 (corR c).length with h | h
     ·exact h
     ·exfalso;apply hok;rw [Bool.and_eq_true,decide_eq_true_eq] at hsm;unfold wdOk;rw [hfb,decide_eq_true hsm.1,hsm.2,decide_eq_true h]; rfl
    rw [hsm] at HSM2;clear hok hfb HSM hsm;generalize corR c=L at *;generalize hm:L.length=m at *;have HM:=zWF hm;clear hm;generalize c.length=nc at *;generalize l.length=nv at *;go_enter Tryz.func21,Tryz.ntmps21
    go_wp2_with fail
    refine hP.mono ?_;rintro e w1 ⟨r1,rfl,f1,b1⟩;obtain ⟨a1,c1,rfl⟩:=f1.read.form;rw [HM.out];have hcall:=HSM2.out w1 b1;go_wp2_with fail
    refine hcall.mono ?_;rintro e w2 ⟨rfl,b2⟩;have b12:=zAA.step b1 b2;have i16:(16:Int)<(m:Int):=by omega
    clear hcall;go_wp2_with fail
    go_ret2
    rw [HRES.out];exact ⟨by rw [HWR.out,HOK.out]; rfl,b12⟩
def pgs (v:List Int) (L:List (List Int)):List Int:=L.map fun r=>zAb v r 0
def okP (ps:List Int):Bool:=ps.all fun n=>decide (0≤n∧n≤1)
def anP (ps:List Int):Bool:=ps.any fun n=>decide (n=1)
def mnB (c:List (List Int)) (v:List Int):Bool:=finB c && isW c v && (okP (pgs v (corR c)) && anP (pgs v (corR c)))
theorem zKu {ps:List Int} {k:Nat} {x:Int} (h:ps[k]? = some x):okP (ps.take (k+1))=(okP (ps.take k) && decide (0≤x∧x≤1)):=by rw [zAG h]; simp [okP]
theorem zJ5 {ps:List Int} {k:Nat} {x:Int} (h:ps[k]? = some x):anP (ps.take (k+1))=(anP (ps.take k) || decide (x=1)):=by rw [zAG h]; simp [anP]
theorem zPR {ps:List Int} {k:Nat} {x:Int} (h:ps[k]? = some x) (hx:¬(0≤x∧x≤1)):okP ps=false:=by
 unfold okP;rw [List.all_eq_false];exact ⟨x,zWH h,by simpa using hx⟩
theorem zTv {S S':Nat→Prop} {u v:Value} {c:List (List Int)} {l:List Int} {w:World} (h:RII S w u c) (h':RI S' w v l) (hl:total c≤16777216) (hl':l.length≤16777216) :
  Calls Tryz.prog 27 #[u,v] w fun e w'=>e=.returned (.bool (mnB c l))∧Below w.heap.size w w':=by
 have HR:Hid (mnB c l=(finB c && isW c l && (okP (pgs l (corR c)) && anP (pgs l (corR c))))):=zWF rfl;have hP:=zB8 h hl;have HT:=zWF (zCs c);have HRL:Hid (∀x∈corR c,x.length≤16777216):=zWF (fun x hx=>by have:=zPj hx; have:=HT.out; omega);have HWT:=zWF (fun (w1:World) (b1:Below w.heap.size w w1)=>zF6 (h.below b1) (h'.below b1) hl hl');have h0':=h';obtain ⟨au,cu,rfl⟩:=h.form;obtain ⟨av,cv,rfl⟩:=h'.form;generalize hlv:l.length=nv at *;have HLV:=zWF hlv;clear hlv;have hL9:(corR c).length≤1000:=by have:=HT.out; unfold total at this; omega
 generalize corR c=L at *;have HP0:Hid (okP ((pgs l L).take 0)=true∧anP ((pgs l L).take 0)=false):=zWF ⟨rfl,rfl⟩;have HPS:=zWF (fun (k:Nat) (x:List Int) (hx:L[k]? = some x)=>(by unfold pgs; rw [List.getElem?_map,hx]; rfl:(pgs l L)[k]? = some (zAb l x 0)));have HPE:Hid (∀k,L.length≤k→(pgs l L).take k=pgs l L):=zWF (fun k hk=>List.take_of_length_le (by unfold pgs; rw [List.length_map]; exact hk));go_enter Tryz.func27,Tryz.ntmps27
 go_wp2_with fail
 refine hP.mono ?_;rintro e w1 ⟨r1,rfl,f1,b1⟩;have hs:=(HS.nil (Below.refl _ w)).addF b1 f1;have hs:HS w w1 [aF r1 L]:=hs;clear hP f1 b1;cases hF:finB c with
 | false =>
  obtain ⟨a1,c1,rfl⟩:=(hs.F 0 rfl).read.form;generalize L.length=m at *;have e0:Hid (mnB c l=false):=zWF (by rw [HR.out,hF]; rfl);have b1:=hs.bl;clear hF hs;go_wp2_with fail
  refine wp_loop_rounds 1 ?_;rw [rounds_succ];by_cases h0m:0<m
  ·have i1:(0:Int)<(m:Int):=by omega
   go_wp2_with fail
   go_ret
   exact ⟨zAD e0.out.symm,b1⟩
  ·have i1:¬(0:Int)<(m:Int):=by omega
   go_wp2_with fail
   go_ret
   exact ⟨zAD e0.out.symm,b1⟩
 | true =>
  have HR2:Hid (mnB c l=(isW c l && (okP (pgs l L) && anP (pgs l L)))):=zWF (by rw [HR.out,hF]; rfl);obtain ⟨a1,c1,rfl⟩:=(hs.F 0 rfl).read.form;generalize hm:L.length=m at *;have HM:=zWF hm;clear hF hm;go_wp2_with fail
  go_loopw [7,8] (fun zz kk wr=>∃k:Nat,k≤m∧kk=.int .i64 k∧zz=.bool (!(anP ((pgs l L).take k)))∧HS w wr [aF (.slice a1 m c1) L]∧Hid (okP ((pgs l L).take k)=true)) (fun _ kk _=>m-(intOf kk).toNat)
  case atStart=>exact ⟨0,Nat.zero_le _,rfl,by rw [HP0.out.2]; rfl,hs,zWF HP0.out.1⟩
  case round =>
   clear hs;obtain ⟨k,hk,rfl,rfl,hs,HOK⟩:=hrel;generalize hz:anP ((pgs l L).take k)=z at *;have HZ:=zWF hz;clear hz;by_cases hkm:k<m
   ·have i1:(k:Int)<(m:Int):=by omega
    have hread:RII _ wr (.slice a1 m c1) L:=(hs.F 0 rfl).read;obtain ⟨b3,o3,r3,x,rfl,hc3,hr3,hx⟩:=RII.at hread hkm;have hx2:=HPS.out k x hx.out;have H1:=zWF (zKu hx2);have H2:=zWF (zJ5 hx2);have H3:=zWF (zPR hx2);have hv:=h0'.below hs.bl;have hcall:=zEf hv hr3 (by rw [HLV.out]; exact hl') (HRL.out x (zWH hx.out));clear hx2 hx hread;generalize zAb l x 0=n at *;go_wp2_with fail
    refine hcall.mono ?_;rintro e w3 ⟨rfl,m3,rfl⟩;have hs:=hs.drewN m3;have hs:HS w (wr.drewN m3) [aF (.slice (some ⟨b3,o3,none⟩) m c1) L]:=hs;generalize wr.drewN m3=w4 at *;have b1:=hs.bl;clear hcall hc3 hr3 hv;by_cases hn0:n<0
    ·have e0:Hid (mnB c l=false):=zWF (by rw [HR2.out,H3.out (by omega)]; cases isW c l <;> rfl);go_wp2_with fail
     go_ret
     exact ⟨zAD e0.out.symm,b1⟩
    ·by_cases hn1:1<n
     ·have e0:Hid (mnB c l=false):=zWF (by rw [HR2.out,H3.out (by omega)]; cases isW c l <;> rfl);go_wp2_with fail
      go_ret
      exact ⟨zAD e0.out.symm,b1⟩
     ·rcases (show n=0∨n=1 by omega) with rfl | rfl
      ·have HO2:Hid (okP ((pgs l L).take (k+1))=true):=zWF (by rw [H1.out,HOK.out]; rfl);have HA2:Hid (anP ((pgs l L).take (k+1))=z):=zWF (by rw [H2.out,HZ.out]; simp);cases z;all_goals
        go_wp2_with fail
        go_roundw
        case rel=>exact ⟨k+1,by omega,by go_num,by rw [HA2.out]; rfl,hs,HO2⟩
        case measure=>simp [intOf]; omega
      ·have HO2:Hid (okP ((pgs l L).take (k+1))=true):=zWF (by rw [H1.out,HOK.out]; rfl);have HA2:Hid (anP ((pgs l L).take (k+1))=true):=zWF (by rw [H2.out]; simp);cases z;all_goals
        go_wp2_with fail
        go_roundw
        case rel=>exact ⟨k+1,by omega,by go_num,by rw [HA2.out]; rfl,hs,HO2⟩
        case measure=>simp [intOf]; omega
   ·have i1:¬(k:Int)<(m:Int):=by omega
    have HFIN:Hid (mnB c l=(isW c l && z)):=zWF (by
     have h1:=HOK.out;have h2:=HZ.out;rw [HPE.out k (by omega)] at h1 h2;rw [HR2.out,h1,h2]; rfl)
    have hcall:=HWT.out wr hs.bl;have b1:=hs.bl;generalize isW c l=q at *;clear hs;go_wp2_with fail
    refine hcall.mono ?_;rintro e w3 ⟨rfl,m3,rfl⟩;have b3:=below_drewN b1 m3;clear hcall b1;cases q <;> cases z;all_goals
     go_wp2_with fail
     go_ret
     exact ⟨zAD (by rw [HFIN.out]; rfl),b3⟩
theorem zTu {S S':Nat→Prop} {u v:Value} {c:List (List Int)} {l:List Int} {w:World} (h:RII S w u c) (h':RI S' w v l) (hl:total c≤16777216) (hl':l.length≤16777216) :
  Calls Tryz.prog 26 #[u,v] w fun e w'=>e=.returned (.bool (mnB c l))∧Below w.heap.size w w':=by
 have HR:Hid (mnB c l=(finB c && isW c l && (okP (pgs l (corR c)) && anP (pgs l (corR c))))):=zWF rfl;have hP:=zB7 h hl;have HT:=zWF (zCs c);have HRL:Hid (∀x∈corR c,x.length≤16777216):=zWF (fun x hx=>by have:=zPj hx; have:=HT.out; omega);have HWT:=zWF (fun (w1:World) (b1:Below w.heap.size w w1)=>zEI (h.below b1) (h'.below b1) hl hl');have h0':=h';obtain ⟨au,cu,rfl⟩:=h.form;obtain ⟨av,cv,rfl⟩:=h'.form;generalize hlv:l.length=nv at *;have HLV:=zWF hlv;clear hlv;have hL9:(corR c).length≤1000:=by have:=HT.out; unfold total at this; omega
 generalize corR c=L at *;have HP0:Hid (okP ((pgs l L).take 0)=true∧anP ((pgs l L).take 0)=false):=zWF ⟨rfl,rfl⟩;have HPS:=zWF (fun (k:Nat) (x:List Int) (hx:L[k]? = some x)=>(by unfold pgs; rw [List.getElem?_map,hx]; rfl:(pgs l L)[k]? = some (zAb l x 0)));have HPE:Hid (∀k,L.length≤k→(pgs l L).take k=pgs l L):=zWF (fun k hk=>List.take_of_length_le (by unfold pgs; rw [List.length_map]; exact hk));go_enter Tryz.func26,Tryz.ntmps26
 go_wp2_with fail
 refine hP.mono ?_;rintro e w1 ⟨r1,rfl,f1,b1⟩;have hs:=(HS.nil (Below.refl _ w)).addF b1 f1;have hs:HS w w1 [aF r1 L]:=hs;clear hP f1 b1;cases hF:finB c with
 | false =>
  have e0:Hid (mnB c l=false):=zWF (by rw [HR.out,hF]; rfl);have b1:=hs.bl;clear hF hs;go_wp2_with fail
  go_ret
  exact ⟨zAD e0.out.symm,b1⟩
 | true =>
  have HR2:Hid (mnB c l=(isW c l && (okP (pgs l L) && anP (pgs l L)))):=zWF (by rw [HR.out,hF]; rfl);obtain ⟨a1,c1,rfl⟩:=(hs.F 0 rfl).read.form;generalize hm:L.length=m at *;have HM:=zWF hm;have hcall:=HWT.out w1 hs.bl;clear hF hm;generalize isW c l=q at *;go_wp2_with fail
  refine hcall.mono ?_;rintro e w3 ⟨rfl,m3,rfl⟩;have hs:=hs.drewN m3;have hs:HS w (w1.drewN m3) [aF (.slice a1 m c1) L]:=hs;generalize w1.drewN m3=w4 at *;clear hcall;cases q with
  | false =>
   have e0:Hid (mnB c l=false):=zWF (by rw [HR2.out]; rfl);have b1:=hs.bl;clear hs;go_wp2_with fail
   go_ret
   exact ⟨zAD e0.out.symm,b1⟩
  | true =>
   go_wp2_with fail
   go_loopw [7,26] (fun zz kk wr=>∃k:Nat,k≤m∧kk=.int .i64 k∧zz=.bool (anP ((pgs l L).take k))∧HS w wr [aF (.slice a1 m c1) L]∧Hid (okP ((pgs l L).take k)=true)) (fun _ kk _=>m-(intOf kk).toNat)
   case atStart=>exact ⟨0,Nat.zero_le _,rfl,by rw [HP0.out.2],hs,zWF HP0.out.1⟩
   case round =>
    clear hs;obtain ⟨k,hk,rfl,rfl,hs,HOK⟩:=hrel;generalize hz:anP ((pgs l L).take k)=z at *;have HZ:=zWF hz;clear hz;by_cases hkm:k<m
    ·have i1:(k:Int)<(m:Int):=by omega
     have hread:RII _ wr (.slice a1 m c1) L:=(hs.F 0 rfl).read;obtain ⟨b3,o3,r3,x,rfl,hc3,hr3,hx⟩:=RII.at hread hkm;have hx2:=HPS.out k x hx.out;have H1:=zWF (zKu hx2);have H2:=zWF (zJ5 hx2);have H3:=zWF (zPR hx2);have hv:=h0'.below hs.bl;have hcall:=zDG hv hr3 (by rw [HLV.out]; exact hl') (HRL.out x (zWH hx.out));clear hx2 hx hread;generalize zAb l x 0=n at *;go_wp2_with fail
     refine hcall.mono ?_;rintro e w3 ⟨rfl,m3,rfl⟩;have hs:=hs.drewN m3;have hs:HS w (wr.drewN m3) [aF (.slice (some ⟨b3,o3,none⟩) m c1) L]:=hs;generalize wr.drewN m3=w4 at *;have b1:=hs.bl;clear hcall hc3 hr3 hv;by_cases hn0:n<0
     ·have e0:Hid (mnB c l=false):=zWF (by rw [HR2.out,H3.out (by omega)]; rfl);go_wp2_with fail
      go_ret
      exact ⟨zAD e0.out.symm,b1⟩
     ·by_cases hn1:1<n
      ·have e0:Hid (mnB c l=false):=zWF (by rw [HR2.out,H3.out (by omega)]; rfl);go_wp2_with fail
       go_ret
       exact ⟨zAD e0.out.symm,b1⟩
      ·rcases (show n=0∨n=1 by omega) with rfl | rfl
       ·have HO2:Hid (okP ((pgs l L).take (k+1))=true):=zWF (by rw [H1.out,HOK.out]; rfl);have HA2:Hid (anP ((pgs l L).take (k+1))=z):=zWF (by rw [H2.out,HZ.out]; simp);cases z;all_goals
         go_wp2_with fail
         go_roundw
         case rel=>exact ⟨k+1,by omega,by go_num,by rw [HA2.out],hs,HO2⟩
         case measure=>simp [intOf]; omega
       ·have HO2:Hid (okP ((pgs l L).take (k+1))=true):=zWF (by rw [H1.out,HOK.out]; rfl);have HA2:Hid (anP ((pgs l L).take (k+1))=true):=zWF (by rw [H2.out]; simp);cases z;all_goals
         go_wp2_with fail
         go_roundw
         case rel=>exact ⟨k+1,by omega,by go_num,by rw [HA2.out],hs,HO2⟩
         case measure=>simp [intOf]; omega
    ·have i1:¬(k:Int)<(m:Int):=by omega
     have HFIN:Hid (mnB c l=z):=zWF (by
      have h1:=HOK.out;have h2:=HZ.out;rw [HPE.out k (by omega)] at h1 h2;rw [HR2.out,h1,h2]; rfl)
     have b1:=hs.bl;clear hs;go_wp2_with fail
     go_ret
     exact ⟨zAD HFIN.out.symm,b1⟩
theorem zNl (P:List Nat) (x:Nat):zAL (P++[x])=zAL P++[(x:Int)]:=by unfold zAL; simp
theorem zHv {P:List Nat} {k x:Nat} (h:P[k]? = some x):zAL (P.take k)++[(x:Int)]=zAL (P.take (k+1)):=by rw [zAG h,zNl]
theorem zCL (P:List Nat):(zAL P).length=P.length:=by simp [zAL]
theorem zKX {P:List Nat} {k x:Nat} (h:P[k]? = some x):(zAL P)[k]? = some (x:Int):=by simp [zAL,h]
theorem zO6 (P:List Nat) (k x:Nat):(zAL P).set k (x:Int)=zAL (P.set k x):=by unfold zAL; rw [List.map_set]
theorem zSN {S S':Nat→Prop} {u v:Value} {c:List (List Int)} {l:List Int} {w:World} (h:RII S w u c) (h':RI S' w v l) (hl:total c≤16777216) (hl':l.length≤16777216) :
  Calls Tryz.prog 18 #[u,v] w (WdC c l w):=by
 have HRES:Hid (WdC c l w=fun e w'=>e=.returned (.tuple #[.int .i64 (wdR c l),.bool (wdOk c l)])∧Below w.heap.size w w'):=zWF rfl;have hP:=zB7 h hl;have HSM:=zWF (fun (w1:World) (b1:Below w.heap.size w w1)=>zGz (h.below b1) (h'.below b1) hl hl');have mixed:Tryz.prog.follows .mixedOrders=true:=by kernel_rfl
 have h0:=h;have h0':=h';obtain ⟨au,cu,rfl⟩:=h.form;obtain ⟨av,cv,rfl⟩:=h'.form;by_cases hok:wdOk c l=true
 ·have hok2:=hok;unfold wdOk at hok2;rw [Bool.and_eq_true,Bool.and_eq_true,Bool.and_eq_true,decide_eq_true_eq,decide_eq_true_eq] at hok2;obtain ⟨⟨hfb,hlen,hs4⟩,h16⟩:=hok2;have hf:=zCB hfb;have hsm:=zSl hlen hs4;obtain ⟨hdv,hpb,hb4,ht18,hel⟩:=zND hf hsm h16;have HEL:=zWF hel;have HSMT:Hid (∀w1:World,Below w.heap.size w w1→Calls Tryz.prog 49 #[.slice au c.length cu,.slice av l.length cv] w1 fun e w'=>e=.returned (.bool true)∧∃m,w'=w1.drewN m):=zWF (fun w1 b1=>by
   have:=HSM.out w1 b1;rw [decide_eq_true hlen,hs4] at this;exact this)
  have HFIN:=zWF (fun (i P:Nat) (bs:List Nat) (hw:WO (wdT c l) (wdB c) i P bs) (hk:(corR c).length≤i)=>hw.fin (by unfold wdT; rw [List.length_map]; exact hk) hdv hpb);have HSTP:=zWF (fun (bs bs':List Nat) (i P x0 x k:Nat) (h:WO (wdT c l) (wdB c) i P bs) (hx:(wdT c l)[i]? = some x0) (hw:WI x0 bs k x bs') (hk:bs'.length≤k)=>h.step hx hpb hw hk);have HT:Hid (∀k,zAB ((wdT c l).take k)≤1000000000000000000):=zWF (fun k=>Nat.le_trans (zDd (fun x hx=>by
   obtain ⟨r,hr,rfl⟩:=List.mem_map.1 hx;exact (hel r hr).2.2.2.2.2.1) k) ht18)
  have HTK:=zWF (fun (k:Nat) (r:List Int) (hr:(corR c)[k]? = some r)=>(by unfold wdT; rw [List.getElem?_map,hr]; rfl:(wdT c l)[k]? = some (topF l r)));have HBK:=zWF (fun (k:Nat) (r:List Int) (hr:(corR c)[k]? = some r)=>(by unfold wdB; rw [List.getElem?_map,hr]; rfl:(wdB c)[k]? = some (botF r)));have HTL:Hid ((wdT c l).length=(corR c).length):=zWF (by unfold wdT; rw [List.length_map]);have HBL:Hid ((wdB c).length=(corR c).length):=zWF (by unfold wdB; rw [List.length_map]);have HTB:Hid (∀x∈wdT c l,0<x∧x≤60):=zWF (fun x hx=>by
   obtain ⟨r,hr,rfl⟩:=List.mem_map.1 hx;exact (hel r hr).2.2.2.2.2)
  have HWO0:Hid (WO (wdT c l) (wdB c) 0 1 (wdB c)):=zWF (WO.start (fun b hb=>by
   obtain ⟨r,hr,rfl⟩:=List.mem_map.1 hb;exact ⟨(hel r hr).2.2.2.1,(hel r hr).2.2.2.2.1⟩))
  have HWR:Hid (wdR c l=((zAB (wdT c l) / zAB (wdB c):Nat):Int)):=zWF (by unfold wdR; rw [if_pos hok]);have HOK:=zWF hok;have HSML:Hid (∀r∈corR c,SmI 100000 r):=zWF (fun r hr=>zI3 hf hr);have HR4:Hid (∀r∈corR c,r.length≤4):=zWF (fun r hr=>by rw [(hel r hr).1]; exact hf.cart.le);rw [hfb] at hP;clear hok hfb hs4 hf hsm hdv hpb hb4 ht18 hel hlen HSM;generalize corR c=L at *;generalize wdT c l=T at *;generalize wdB c=B at *;generalize hlv:l.length=nv at *;have HLV:=zWF hlv;clear hlv;generalize c.length=nc at *;generalize hm:L.length=m at *;have HM:=zWF hm;clear hm;go_enter Tryz.func18,Tryz.ntmps18
  go_wp2_with fail
  refine hP.mono ?_;rintro e w1 ⟨r1,rfl,f1,b1⟩;have hs:=(HS.nil (Below.refl _ w)).addF b1 f1;have hs:HS w w1 [aF r1 L]:=hs;have hcall:=HSMT.out w1 b1;obtain ⟨a1,c1,rfl⟩:=(hs.F 0 rfl).read.form;rw [HM.out] at hs ⊢;obtain ⟨Z,hZ,hs⟩:=hs.openF 0 rfl;have hs:HS w w1 [aV 28 (.slice a1 m c1) (Z.map Prod.fst),aRs Z]:=hs;have HZ:=zWF hZ;have HZL:Hid (Z.length=m):=zWF (by rw [<-HM.out,<-hZ,List.length_map]);obtain ⟨_,hhead⟩:=hs.formV 0 rfl;have HHD:Hid (0<m→∃g,a1=some ⟨g,0,none⟩):=zWF (fun h=>by
   obtain ⟨g,c9,e⟩:=hhead (by rw [List.length_map,HZL.out]; exact h);simp only [Value.slice.injEq] at e;exact ⟨g,e.1⟩)
  clear hP f1 b1 hZ hhead;go_wp2_with fail
  refine hcall.mono ?_;rintro e w2 ⟨rfl,m2,rfl⟩;have hs:=hs.drewN m2;have hs:HS w _ [aV 28 (.slice a1 m c1) (Z.map Prod.fst),aRs Z]:=hs;generalize w1.drewN m2=w2 at *;have i16:¬(16:Int)<(m:Int):=by omega
  clear hcall;obtain ⟨w3,hw3⟩:∃w3,w3=w2.alloc (.cells #[] 3):=⟨_,rfl⟩;have fe:=zAR (Below.refl _ w2) hw3;have hs3:=hs.addI fe.2 fe.1;obtain ⟨w4,hw4⟩:∃w4,w4=w3.alloc (.cells #[] 3):=⟨_,rfl⟩;have fe4:=zAR (Below.refl _ w3) hw4;have hs4:=hs3.addI fe4.2 fe4.1;have HW4:=zWF (show w4=(w2.alloc (.cells #[] 3)).alloc (.cells #[] 3) by rw [hw4,hw3]);have hs4:HS w w4 [aV 28 (.slice a1 m c1) (Z.map Prod.fst),aRs Z,aI (.slice (some ⟨w2.heap.size,0,none⟩) 0 0) (zAL (T.take 0)),aI (.slice (some ⟨w3.heap.size,0,none⟩) 0 0) (zAL (B.take 0))]:=hs4;have hz3:w3.heap.size=w2.heap.size+1:=by rw [hw3]; simp
  rw [hz3] at hs4;clear hw3 hw4 fe fe4 hs3 hs hz3;go_wp2_with fail
  rw [<-HW4.out];go_loopw [8,9,39] (fun va vb kk wr=>∃(k:Nat) (va' vb':Value),va'=va∧vb'=vb∧k≤m∧kk=.int .i64 k∧HS w wr [aV 28 (.slice a1 m c1) (Z.map Prod.fst),aRs Z,aI va' (zAL (T.take k)),aI vb' (zAL (B.take k))]) (fun _ _ kk _=>m-(intOf kk).toNat)
  case atStart=>exact ⟨0,_,_,rfl,rfl,Nat.zero_le _,rfl,hs4⟩
  case round =>
   clear hs4;obtain ⟨k,va,vb,rfl,rfl,hk,rfl,hs⟩:=hrel;by_cases hkm:k<m
   ·have i1:(k:Int)<(m:Int):=by omega
    have i2:(0:Int)≤(k:Int):=by omega
    obtain ⟨gq,rfl⟩:=HHD.out (by omega);obtain ⟨z,hz⟩:∃z,Z[k]? = some z:=⟨Z[k]'(by rw [HZL.out]; exact hkm),zWG _⟩;obtain ⟨r3,x⟩:=z;have hxL:L[k]? = some x:=by rw [<-HZ.out,List.getElem?_map,hz]; rfl
    have hc3:=(hs.cellV 0 rfl (j:=k) (r:=r3) (by simp [hz])).1;have hr3:RI _ wr r3 x:=hs.rowS 1 rfl (zWH hz);have HZM:=zWF (zWH hz);have hxm:=zWH hxL;obtain ⟨e1,e2,e3,e4,e5,e6,e7⟩:=HEL.out x hxm;have HSA:=zWF (zHv (HTK.out k x hxL));have HSB:=zWF (zHv (HBK.out k x hxL));have HX4:=zWF (HR4.out x hxm);have HBX:=zWF (HSML.out x hxm);have hp1:=zDG (h0'.below hs.bl) hr3 (by rw [HLV.out]; exact hl') (by have:=HX4.out; omega);have HH:Hid (∀(S9:Nat→Prop) (wv:World),RI S9 wv r3 x→Calls Tryz.prog 50 #[r3] wv fun e w'=>e=.returned (.int .i64 (botF x:Int))∧∃m,w'=wv.drewN m):=zWF (fun S9 wv hr=>by
     have:=zCT hr HBX.out (by have:=HX4.out; omega);rw [e3] at this;exact this)
    have hr5:=zWF (fun m5=>hr3.drewN m5);rw [e3] at e2;have hwp:IntKind.i64.wrap (zAb l x 0+(botF x:Int))=(topF l x:Int):=by rw [e2]; exact IntWalk.i64_in _ (by omega)
    clear hr3 hz hxL hxm e1 e2 e3 e4 e5 e6 e7;generalize zAb l x 0=pa at *;generalize topF l x=tx at *;generalize botF x=bx at *;go_wp2_with fail
    refine hp1.mono ?_;rintro e w5 ⟨rfl,m5,rfl⟩;have hh1:=HH.out _ _ (hr5.out m5);clear hp1;go_wp2_with fail
    refine hh1.mono ?_;rintro e w6 ⟨rfl,m6,rfl⟩;have hs6:=(hs.drewN m5).drewN m6;generalize (wr.drewN m5).drewN m6=w6 at *;clear hh1 hs hr5 hc3;obtain ⟨w7,hw7⟩:∃w7,w7=w6.alloc (.cells #[.int .i64 tx] 3):=⟨_,rfl⟩;have hs7:=hs6.alloc (.cells #[.int .i64 tx] 3);rw [<-hw7] at hs7;have hc7:w7.cell? ⟨w6.heap.size,0,none⟩=some (.int .i64 tx):=by rw [hw7]; go_simp
    have HW7:=zWF hw7;have HLA:Hid ((zAL (T.take k)).length+1≤67108864):=zWF (by rw [zCL,List.length_take]; omega);have HLB:Hid ((zAL (B.take k)).length+1≤67108864):=zWF (by rw [zCL,List.length_take]; omega);clear hw7 hs6;go_wp2_with (at_builtin; go_must (rw [<-HW7.out]; refine zBY rfl _ _ rfl rfl hs7 2 rfl rfl hc7 HLA.out ?_))
    intro v8 w8 hs8;have hs8:HS w w8 [aV 28 (.slice (some ⟨gq,0,none⟩) m c1) (Z.map Prod.fst),aRs Z,aI v8 (zAL (T.take (k+1))),aI vb (zAL (B.take k))]:=by rw [<-HSA.out]; exact hs8
    have hh2:=HH.out _ _ (hs8.rowS 1 rfl HZM.out:RI _ w8 r3 x);clear hs7;go_wp2_with fail
    refine hh2.mono ?_;rintro e w9 ⟨rfl,m9,rfl⟩;have hs9:=hs8.drewN m9;generalize w8.drewN m9=w9 at *;clear hh2 hs8;obtain ⟨w7,hw7⟩:∃w7,w7=w9.alloc (.cells #[.int .i64 bx] 3):=⟨_,rfl⟩;have hs7:=hs9.alloc (.cells #[.int .i64 bx] 3);rw [<-hw7] at hs7;have hc7:w7.cell? ⟨w9.heap.size,0,none⟩=some (.int .i64 bx):=by rw [hw7]; go_simp
    have HW7:=zWF hw7;clear hw7 hs9;go_wp2_with (at_builtin; go_must (rw [<-HW7.out]; refine zBY rfl _ _ rfl rfl hs7 3 rfl rfl hc7 HLB.out ?_))
    intro v10 w10 hs10;have hs10:HS w w10 [aV 28 (.slice (some ⟨gq,0,none⟩) m c1) (Z.map Prod.fst),aRs Z,aI v8 (zAL (T.take (k+1))),aI v10 (zAL (B.take (k+1)))]:=by rw [<-HSB.out]; exact hs10
    clear hs7;go_wp2_with fail
    go_roundw
    case rel=>exact ⟨k+1,_,_,rfl,rfl,by omega,by go_num,hs10⟩
    case measure=>simp [intOf]; omega
   ·have i1:¬(k:Int)<(m:Int):=by omega
    have e:k=m:=by omega
    have hs:=hs.pick [2,3] (by decide);rw [e] at hs;have HTT:Hid (T.take m=T):=zWF (List.take_of_length_le (by rw [HTL.out]; exact zWK _));have HBT:Hid (B.take m=B):=zWF (List.take_of_length_le (by rw [HBL.out]; exact zWK _));rw [HTT.out,HBT.out] at hs;have hs:HS w wr [aI va (zAL T),aI vb (zAL B)]:=hs;obtain ⟨aa,ca,rfl⟩:=hs.formI 0 rfl;obtain ⟨ab,cb,rfl⟩:=hs.formI 1 rfl;have HTN:Hid ((zAL T).length=m):=zWF (by rw [zCL,HTL.out]);have HBN:Hid ((zAL B).length=m):=zWF (by rw [zCL,HBL.out]);rw [HTN.out,HBN.out] at hs ⊢;clear e;go_wp2_with fail
    go_loopw [12,60] (fun pp ii wr=>∃(i P:Nat) (bs:List Nat),i≤m∧ii=.int .i64 i∧pp=.int .i64 P∧HS w wr [aI (.slice aa m ca) (zAL T),aI (.slice ab m cb) (zAL bs)]∧Hid (WO T B i P bs)) (fun _ ii _=>m-(intOf ii).toNat)
    case atStart=>exact ⟨0,1,B,Nat.zero_le _,rfl,rfl,hs,HWO0⟩
    case round =>
     clear hs;obtain ⟨i,P,bs,hi,rfl,rfl,hs,HW⟩:=hrel;by_cases him:i<m
     ·have i1:(i:Int)<(m:Int):=by omega
      have i2:(0:Int)≤(i:Int):=by omega
      obtain ⟨x0,hx0⟩:∃x0,T[i]? = some x0:=⟨T[i]'(by rw [HTL.out]; exact him),zWG _⟩;have hx0b:=HTB.out x0 (zWH hx0);obtain ⟨g1,cap1,e1,_,_⟩:=hs.headI 0 rfl (by rw [HTN.out]; omega);simp only [Value.slice.injEq] at e1;obtain ⟨rfl,y1,y2⟩:=e1;clear y1 y2;obtain ⟨d1,_⟩:=hs.cellI 0 rfl HTN.out (zKX hx0);have HX0:=zWF hx0;have HBSN:Hid (bs.length=m):=zWF (by rw [HW.out.len,HBL.out]);have HWI0:Hid (WI x0 bs 0 x0 bs):=zWF (WI.start hx0b.1 HW.out.pb);clear hx0;go_wp2_with fail
      go_loopw [14,66] (fun xx kk wr=>∃(k x:Nat) (bs':List Nat),k≤m∧kk=.int .i64 k∧xx=.int .i64 x∧HS w wr [aI (.slice (some ⟨g1,0,none⟩) m ca) (zAL T),aI (.slice ab m cb) (zAL bs')]∧Hid (WI x0 bs k x bs')) (fun _ kk _=>m-(intOf kk).toNat)
      case atStart=>exact ⟨0,x0,bs,Nat.zero_le _,rfl,rfl,hs,HWI0⟩
      case round =>
       clear hs d1;obtain ⟨k,x,bs',hk,rfl,rfl,hs,HI⟩:=hrel;have HBSN':Hid ((zAL bs').length=m):=zWF (by rw [zCL,HI.out.len,HBSN.out]);by_cases hkm:k<m
       ·have j1:(k:Int)<(m:Int):=by omega
        have j2:(0:Int)≤(k:Int):=by omega
        have hbl:k<bs'.length:=by have:=HBSN'.out; rw [zCL] at this; omega
        obtain ⟨b,hb⟩:∃b,bs'[k]? = some b:=⟨bs'[k],zWG _⟩;have hbb:=HI.out.pb b (zWH hb);obtain ⟨hst,hg0⟩:=HI.out.step hb;have hlx:=HI.out.lx;obtain ⟨g2,cap2,e2,_,_⟩:=hs.headI 1 rfl (by rw [HBSN'.out]; omega);simp only [Value.slice.injEq] at e2;obtain ⟨rfl,y1,y2⟩:=e2;clear y1 y2;have HBV:=zWF (zKX hb);obtain ⟨d2,z2⟩:=hs.cellI 1 rfl HBSN'.out HBV.out;have hcg:=zNg (w:=wr) (x:=x) (y:=b) (by omega) (by omega);obtain ⟨g,hg⟩:∃g,g=Nat.gcd x b:=⟨_,rfl⟩;rw [<-hg] at hst hg0 hcg;obtain ⟨x1,hx1⟩:∃x1,x1=x / g:=⟨_,rfl⟩;obtain ⟨b1,hb1⟩:∃b1,b1=b / g:=⟨_,rfl⟩;have lx1:x1≤x:=by rw [hx1]; exact Nat.div_le_self _ _
        have lb1:b1≤b:=by rw [hb1]; exact Nat.div_le_self _ _
        have hd0:(x:Int).tdiv (g:Int)=(x1:Int):=by rw [hx1]; exact (Int.ofNat_tdiv x g).symm
        have hd1:(b:Int).tdiv (g:Int)=(b1:Int):=by rw [hb1]; exact (Int.ofNat_tdiv b g).symm
        rw [<-hx1,<-hb1] at hst;have HST:=zWF hst;have f2:((g:Int) == 0)=false:=by simp; omega
        have f3:(g:Int)≠0:=by omega
        clear hst hb hg hx1 hb1 hbl;go_wp2_with fail
        refine hcg.mono ?_;rintro e w5 ⟨rfl,m5,rfl⟩;have hs5:=hs.drewN m5;generalize wr.drewN m5=w5 at *;obtain ⟨d2,z2⟩:=HS.cellI hs5 1 rfl HBSN'.out HBV.out;have hs9:=HS.putI hs5 1 rfl HBSN'.out k (b1:Int);rw [zO6] at hs9;have hs9:HS w _ [aI (.slice (some ⟨g1,0,none⟩) m ca) (zAL T),aI (.slice (some ⟨g2,0,none⟩) m cb) (zAL (bs'.set k b1))]:=hs9;clear hs hcg hs5;go_wp2_with fail
        go_roundw
        case rel=>exact ⟨k+1,x1,_,by omega,by go_num,rfl,hs9,HST⟩
        case measure=>simp [intOf]; omega
       ·have j1:¬(k:Int)<(m:Int):=by omega
        obtain ⟨hwo,hle⟩:=HSTP.out _ _ _ _ _ _ _ HW.out HX0.out HI.out (by have:=HBSN'.out; rw [zCL] at this; omega);have hTk:=HT.out (i+1);obtain ⟨q,hq⟩:∃q,q=P*x:=⟨_,rfl⟩;rw [<-hq] at hwo hle;have HWO:=zWF hwo;have ep:(P:Int)*(x:Int)=(q:Int):=by rw [hq]; simp
        have hw0:IntKind.i64.wrap ((P:Int)*(x:Int))=(q:Int):=by rw [ep]; exact IntWalk.i64_in _ (by omega)
        clear hwo hTk hq ep;go_wp2_with fail
        go_roundw
        case rel=>exact ⟨i+1,q,_,by omega,by go_num,rfl,hs,HWO⟩
        case measure=>simp [intOf]; omega
     ·have i1:¬(i:Int)<(m:Int):=by omega
      have hfin:=HFIN.out i P bs HW.out (by omega);have HWR2:Hid (wdR c l=(P:Int)):=zWF (by rw [HWR.out,hfin]);clear hfin;go_wp2_with fail
      go_ret2
      rw [HRES.out];exact ⟨by rw [HWR2.out,HOK.out]; rfl,hs.bl⟩
 ·have HOK:Hid (wdOk c l=false):=zWF (by simpa using hok);have HWR:Hid (wdR c l=0):=zWF (by unfold wdR; rw [if_neg hok]);cases hfb:finB c with
  | false =>
   rw [hfb] at hP;clear hok hfb HSM;go_enter Tryz.func18,Tryz.ntmps18
   go_wp2_with fail
   refine hP.mono ?_;rintro e w1 ⟨r1,rfl,f1,b1⟩;go_wp2_with fail
   go_ret2
   rw [HRES.out];exact ⟨by rw [HWR.out,HOK.out]; rfl,b1⟩
  | true =>
   rw [hfb] at hP;cases hsm:(decide (l.length=c.length) && sm4 l) with
   | false =>
    rw [hsm] at HSM;clear hok hfb hsm;generalize c.length=nc at *;generalize l.length=nv at *;go_enter Tryz.func18,Tryz.ntmps18
    go_wp2_with fail
    refine hP.mono ?_;rintro e w1 ⟨r1,rfl,f1,b1⟩;have hcall:=HSM.out w1 b1;go_wp2_with fail
    refine hcall.mono ?_;rintro e w2 ⟨rfl,m2,rfl⟩;have b12:=below_drewN b1 m2;clear hcall;go_wp2_with fail
    go_ret2
    rw [HRES.out];exact ⟨by rw [HWR.out,HOK.out]; rfl,b12⟩
   | true =>
    have h16:16<(corR c).length:=by
     rcases Nat.lt_or_ge 16 (corR c).length with h | h
     ·exact h
     ·exfalso;apply hok;rw [Bool.and_eq_true,decide_eq_true_eq] at hsm;unfold wdOk;rw [hfb,decide_eq_true hsm.1,hsm.2,decide_eq_true h]; rfl
    rw [hsm] at HSM;clear hok hfb hsm;generalize corR c=L at *;generalize hm:L.length=m at *;have HM:=zWF hm;clear hm;generalize c.length=nc at *;generalize l.length=nv at *;go_enter Tryz.func18,Tryz.ntmps18
    go_wp2_with fail
    refine hP.mono ?_;rintro e w1 ⟨r1,rfl,f1,b1⟩;obtain ⟨a1,c1,rfl⟩:=f1.read.form;rw [HM.out];have hcall:=HSM.out w1 b1;go_wp2_with fail
    refine hcall.mono ?_;rintro e w2 ⟨rfl,m2,rfl⟩;have b12:=below_drewN b1 m2;have i16:(16:Int)<(m:Int):=by omega
    clear hcall;go_wp2_with fail
    go_ret2
    rw [HRES.out];exact ⟨by rw [HWR.out,HOK.out]; rfl,b12⟩
theorem zQN {S S':Nat→Prop} {u v:Value} {c:List (List Int)} {l:List Int} {w:World} (h:RII S w u c) (h':RI S' w v l) (hl:total c≤16777216) (hl':l.length≤16777216) :
  Calls Tryz.prog 21 #[u,v] w fun e w'=>e=.returned (.tuple #[.int .i64 (wdR c l),.bool (wdOk c l)])∧Below w.heap.size w w':=zSO h h' hl hl'
theorem zJi {S S':Nat→Prop} {u v:Value} {c:List (List Int)} {l:List Int} {w:World} (h:RII S w u c) (h':RI S' w v l) (hl:total c≤16777216) (hl':l.length≤16777216) :
  Calls Tryz.prog 18 #[u,v] w fun e w'=>e=.returned (.tuple #[.int .i64 (wdR c l),.bool (wdOk c l)])∧Below w.heap.size w w':=zSN h h' hl hl'
end Go.Proofs.YtphbichgpcicnaaGreatDoor
