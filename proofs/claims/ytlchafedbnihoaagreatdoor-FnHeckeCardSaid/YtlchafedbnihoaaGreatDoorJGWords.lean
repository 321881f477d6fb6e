/- Comparisons of lists of numbers, the reference's. Condition: at most 2^24 numbers. -/
import Derived.Test.YtlchafedbnihoaaGreatDoorJGBase
namespace Go.Proofs.YtlchafedbnihoaaGreatDoor
open Go.RowKit
set_option maxRecDepth 20000
set_option maxHeartbeats 16000000
def cmpL:List Int→List Int→Int
 | x::xs,y::ys=>if x<y then -1 else if y<x then 1 else cmpL xs ys
 | _,_=>0
def cmpW (l l':List Int):Int:=if l.length=l'.length then cmpL l l' else if l.length<l'.length then -1 else 1
theorem zH7:∀{l l':List Int},l.length=l'.length→(cmpL l l'=0↔l=l')
 | [],[],_=>by simp [cmpL]
 | [],_::_,h=>by simp at h
 | _::_,[],h=>by simp at h
 | x::xs,y::ys,h=>by
  have ih:=zH7 (l:=xs) (l':=ys) (by simpa using h);unfold cmpL;by_cases h1:x<y
  ·simp [h1]; intro h; omega
  ·by_cases h2:y<x
   ·simp [h1,h2]; intro h; omega
   ·have:x=y:=by omega
    subst this;simp [ih]
theorem zCA {l l':List Int}:cmpW l l'=0↔l=l':=by
 unfold cmpW;by_cases h:l.length=l'.length
 ·rw [if_pos h]; exact zH7 h
 ·rw [if_neg h];constructor
  ·intro h2; split at h2 <;> omega
  ·intro h2; subst h2; exact absurd rfl h
def eqL (l l':List Int):Bool:=decide (l=l')
theorem zIE (l l':List Int):(cmpW l l' == 0)=eqL l l':=by
 rw [Bool.eq_iff_iff];simp [eqL,zCA]
theorem zBd {S S':Nat→Prop} {u v:Value} {l l':List Int} {w:World} (h:RI S w u l) (h':RI S' w v l') (hl:l.length≤16777216) (_hl':l'.length≤16777216) :
  Calls Tryz.prog 44 #[u,v] w fun e w'=>e=.returned (.int .i64 (cmpW l l'))∧∃m,w'=w.drewN m:=by
 obtain ⟨a,cap,rfl⟩:=h.form;obtain ⟨a',cap',rfl⟩:=h'.form;generalize hr:cmpW l l'=r;have R:=zNg hr;clear hr;by_cases hlen:l.length=l'.length
 ·have R2:Hid (cmpL l l'=r):=by have:=R.out; rw [cmpW,if_pos hlen] at this; exact zNg this
  clear R;rw [<-hlen] at h' ⊢;generalize hn:l.length=n at *;have H:=zNg hn;have H':=zNg hlen;clear hn hlen;go_enter Tryz.func44,Tryz.ntmps44
  go_wp2_with fail
  go_loopw [5] (fun i wr=>∃k:Nat,k≤n∧i=.int .i64 k∧(∃m,wr=w.drewN m)∧Hid (cmpL (l.drop k) (l'.drop k)=r)) (fun i _=>n-(intOf i).toNat)
  case atStart=>exact ⟨0,Nat.zero_le _,rfl,dr0,R2⟩
  case round =>
   obtain ⟨k,hk,rfl,⟨m,hw⟩,HR⟩:=hrel;subst hw;by_cases hlt:k<n
   ·obtain ⟨b,o,x,rfl,hc,hx⟩:=h.at hlt;obtain ⟨b',o',y,rfl,hc',hy⟩:=h'.at hlt;have b1:(k:Int)<(n:Int):=by omega
    have HR2:Hid ((if x<y then -1 else if y<x then 1 else cmpL (l.drop (k+1)) (l'.drop (k+1)))=r):=by
     have:=HR.out;rw [zAJ hx.out,zAJ hy.out,cmpL] at this;exact zNg this
    by_cases h1:x<y
    ·have h1':decide (x<y)=true:=by simpa using h1
     go_wp2_with fail
     go_quiet (fail)
     go_wp2_with fail
     go_ret
     exact ⟨zAg (by have:=HR2.out; rw [if_pos (by omega)] at this; exact this),(by first | exact dr1 | exact dr2 | exact dr3)⟩
    ·have h1':decide (x<y)=false:=by simpa using h1
     go_wp2_with fail
     go_quiet (fail)
     go_wp2_with fail
     by_cases h2:y<x
     ·have h2':decide (y<x)=true:=by simpa using h2
      go_quiet (fail)
      go_wp2_with fail
      go_ret
      exact ⟨zAg (by have:=HR2.out; rw [if_neg (by omega),if_pos (by omega)] at this; exact this),(by first | exact dr1 | exact dr2 | exact dr3)⟩
     ·have h2':decide (y<x)=false:=by simpa using h2
      go_quiet (fail)
      go_wp2_with fail
      go_roundw
      case rel=>exact ⟨k+1,by omega,by go_num,(by first | exact dr1 | exact dr2 | exact dr3),by have:=HR2.out; rw [if_neg (by omega),if_neg (by omega)] at this; exact zNg this⟩
      case measure=>simp [intOf]; omega
   ·go_wp2_with fail
    go_ret
    refine ⟨zAg ?_,m,rfl⟩;have:=HR.out;rw [List.drop_eq_nil_of_le (by have:=H.out; omega)] at this;rw [<-this];simp [cmpL]
 ·have hne:((l.length:Int) == (l'.length:Int))=false:=by simp; omega
  have R2:Hid ((if l.length<l'.length then (-1:Int) else 1)=r):=by have:=R.out; rw [cmpW,if_neg hlen] at this; exact zNg this
  clear R;generalize l.length=n at *;generalize l'.length=n' at *;by_cases h1:n<n'
  ·go_enter Tryz.func44,Tryz.ntmps44
   go_wp2_with fail
   go_ret
   exact ⟨zAg (by have:=R2.out; rw [if_pos (by omega)] at this; exact this),0,rfl⟩
  ·go_enter Tryz.func44,Tryz.ntmps44
   go_wp2_with fail
   go_ret
   exact ⟨zAg (by have:=R2.out; rw [if_neg (by omega)] at this; exact this),0,rfl⟩
theorem zBv {S S':Nat→Prop} {u v:Value} {l l':List Int} {w:World} (h:RI S w u l) (h':RI S' w v l') (hl:l.length≤16777216) (hl':l'.length≤16777216) :
  Calls Tryz.prog 37 #[u,v] w fun e w'=>e=.returned (.bool (eqL l l'))∧∃m,w'=w.drewN m:=by
 have E:=zNg (zIE l l');go_enter Tryz.func37,Tryz.ntmps37
 go_wp2_with fail
 refine (zBd h h' hl hl').mono ?_;generalize cmpW l l'=r at *;rintro e w' ⟨rfl,hw⟩;go_wp2_with fail
 go_ret
 exact ⟨zAB E.out,hw⟩
theorem zNC {l l':List Int} {k:Nat} {x y:Int} (hx:l[k]? = some x) (hy:l'[k]? = some y) (h:x≠y):eqL l l'=false:=by
 unfold eqL;rw [decide_eq_false_iff_not];intro e;subst e;rw [hx] at hy;exact h (by simpa using hy)
theorem zL3 {l l':List Int} {n:Nat} (hl:l.length=n) (hl':l'.length=n) (h:∀j,j<n→l[j]? = l'[j]?):eqL l l'=true:=by
 unfold eqL;rw [decide_eq_true_eq];refine List.ext_getElem? fun j=>?_;rcases Nat.lt_or_ge j n with hj | hj
 ·exact h j hj
 ·rw [List.getElem?_eq_none (by omega),List.getElem?_eq_none (by omega)]
theorem zL4 {l l':List Int} (h:l.length≠l'.length):eqL l l'=false:=by
 unfold eqL;rw [decide_eq_false_iff_not];intro e;subst e;exact h rfl
theorem zDD {S S':Nat→Prop} {u v:Value} {l l':List Int} {w:World} (h:RI S w u l) (h':RI S' w v l') (hl:l.length≤16777216) (_hl':l'.length≤16777216) :
  Calls Tryz.prog 73 #[u,v] w fun e w'=>e=.returned (.bool (eqL l l'))∧∃m,w'=w.drewN m:=by
 obtain ⟨a,cap,rfl⟩:=h.form;obtain ⟨a',cap',rfl⟩:=h'.form;by_cases hlen:l.length=l'.length
 ·generalize hr:eqL l l'=r;have R:=zNg hr;clear hr;rw [<-hlen] at h' ⊢;generalize hn:l.length=n at *;have H:=zNg hn;have H':=zNg hlen;clear hn hlen;go_enter Tryz.func73,Tryz.ntmps73
  go_wp2_with fail
  go_loopw [13] (fun i wr=>∃k:Nat,k≤n∧i=.int .i64 k∧(∃m,wr=w.drewN m)∧Hid (∀j,j<k→l[j]? = l'[j]?)) (fun i _=>n-(intOf i).toNat)
  case atStart=>exact ⟨0,Nat.zero_le _,rfl,dr0,zNg (by intro j hj; omega)⟩
  case round =>
   obtain ⟨k,hk,rfl,⟨m,hw⟩,HR⟩:=hrel;subst hw;by_cases hlt:k<n
   ·obtain ⟨b,o,x,rfl,hc,hx⟩:=h.at hlt;obtain ⟨b',o',y,rfl,hc',hy⟩:=h'.at hlt;have b1:(k:Int)<(n:Int):=by omega
    by_cases h1:x=y
    ·subst h1;go_wp2_with fail
     go_quiet (fail)
     go_wp2_with fail
     go_roundw
     case rel =>
      refine ⟨k+1,by omega,by go_num,(by first | exact dr1 | exact dr2 | exact dr3),zNg ?_⟩;intro j hj;rcases Nat.lt_or_ge j k with h | h
      ·exact HR.out j h
      ·have:j=k:=by omega
       subst this;rw [hx.out,hy.out]
     case measure=>simp [intOf]; omega
    ·have h1':(x != y)=true:=by simpa using h1
     have E:=zNg (zNC hx.out hy.out h1);clear h1;go_wp2_with fail
     go_quiet (fail)
     go_wp2_with fail
     go_ret
     exact ⟨zAB (by rw [<-R.out,E.out]),(by first | exact dr1 | exact dr2 | exact dr3)⟩
   ·go_wp2_with fail
    go_ret
    refine ⟨zAB ?_,m,rfl⟩;rw [<-R.out,zL3 H.out H'.out.symm (fun j hj=>HR.out j (by omega))]
 ·have hne:((l.length:Int) != (l'.length:Int))=true:=by simp; omega
  have E:=zNg (zL4 hlen);generalize eqL l l'=r at *;generalize l.length=n at *;generalize l'.length=n' at *;go_enter Tryz.func73,Tryz.ntmps73
  go_wp2_with fail
  go_ret
  exact ⟨zAB E.out.symm,0,rfl⟩
def cmp3 (x y:Int):Int:=if x<y then -1 else if y<x then 1 else 0
def lexC:List Int→List Int→Int
 | [],[]=>0
 | [],_::_=>-1
 | _::_,[]=>1
 | x::xs,y::ys=>if x<y then -1 else if y<x then 1 else lexC xs ys
theorem zGN:∀{l l':List Int},l.length=l'.length→lexC l l'=cmpL l l'
 | [],[],_=>rfl
 | [],_::_,h=>by simp at h
 | _::_,[],h=>by simp at h
 | x::xs,y::ys,h=>by
  unfold lexC cmpL;rw [zGN (by simpa using h)]
theorem zKp (n m:Nat):cmp3 n m=if n=m then 0 else if n<m then -1 else 1:=by
 unfold cmp3;by_cases h:n=m
 ·subst h; simp
 ·by_cases h2:n<m
  ·rw [if_pos (by omega),if_neg h,if_pos h2]
  ·rw [if_neg (by omega),if_pos (by omega),if_neg h,if_neg h2]
theorem zGJ (x:Int) (w:World) :
  Calls Tryz.prog 116 #[.int .i64 x] w fun e w'=>e=.returned (.bool false)∧w'=w:=by
 go_enter Tryz.func116,Tryz.ntmps116
 go_wp2
 go_ret
 exact ⟨zAB (by simp),rfl⟩
theorem zFC (x y:Int) (w:World) :
  Calls Tryz.prog 85 #[.int .i64 x,.int .i64 y] w fun e w'=>e=.returned (.int .i64 (cmp3 x y))∧w'=w:=by
 have H1:Hid (x<y→cmp3 x y = -1):=zNg (fun h=>by unfold cmp3; rw [if_pos h]);have H2:Hid (¬x<y→y<x→cmp3 x y=1):=zNg (fun h h2=>by unfold cmp3; rw [if_neg h,if_pos h2]);have H3:Hid (¬x<y→¬y<x→cmp3 x y=0):=zNg (fun h h2=>by unfold cmp3; rw [if_neg h,if_neg h2]);go_enter Tryz.func85,Tryz.ntmps85
 go_wp2_with fail
 refine (zGJ x w).mono ?_;rintro e w2 ⟨rfl,rfl⟩;go_wp2_with fail
 refine (zGJ y w2).mono ?_;rintro e w3 ⟨rfl,rfl⟩;by_cases h1:x<y
 ·have e0:=zNg (H1.out h1);go_wp2_with fail
  go_ret
  exact ⟨zAg e0.out.symm,rfl⟩
 ·by_cases h2:y<x
  ·have e0:=zNg (H2.out (by omega) (by omega));go_wp2_with fail
   go_ret
   exact ⟨zAg e0.out.symm,rfl⟩
  ·have e0:=zNg (H3.out (by omega) (by omega));go_wp2_with fail
   go_ret
   exact ⟨zAg e0.out.symm,rfl⟩
theorem zGe {S S':Nat→Prop} {u v:Value} {l l':List Int} {w:World} (h:RI S w u l) (h':RI S' w v l') (hl:l.length≤16777216) (_hl':l'.length≤16777216) :
  Calls Tryz.prog 86 #[u,v] w fun e w'=>e=.returned (.int .i64 (lexC l l'))∧w=w':=by
 obtain ⟨a,cap,rfl⟩:=h.form;obtain ⟨a',cap',rfl⟩:=h'.form;have HR:Hid (lexC (l.drop 0) (l'.drop 0)=lexC l l'):=zNg (by simp);generalize lexC l l'=res at *;generalize hn:l.length=n at *;have HN:=zNg hn;clear hn;generalize hm:l'.length=m at *;have HM:=zNg hm;clear hm;go_enter Tryz.func86,Tryz.ntmps86
 go_wp2_with fail
 go_loop [11] (fun j=>∃(k:Nat),k≤n∧j=.int .i64 k∧Hid (k≤m∧lexC (l.drop k) (l'.drop k)=res)) (fun j=>n-(intOf j).toNat)
 case atStart=>exact ⟨0,Nat.zero_le _,rfl,zNg ⟨Nat.zero_le _,HR.out⟩⟩
 case round =>
  obtain ⟨k,hk,rfl,HK⟩:=hrel;by_cases hlt:k<n
  ·obtain ⟨b,o,x,rfl,hc,hx⟩:=h.at hlt;by_cases hlt2:k<m
   ·obtain ⟨b',o',y,rfl,hc',hy⟩:=h'.at hlt2;have HS:Hid ((x<y→res = -1)∧(¬x<y→y<x→res=1)∧(¬x<y→¬y<x→lexC (l.drop (k+1)) (l'.drop (k+1))=res)):=zNg (by
     have:=HK.out.2;rw [zAJ hx.out,zAJ hy.out] at this;unfold lexC at this;refine ⟨fun h=>?_,fun h h2=>?_,fun h h2=>?_⟩
     ·rw [if_pos h] at this; exact this.symm
     ·rw [if_neg h,if_pos h2] at this; exact this.symm
     ·rw [if_neg h,if_neg h2] at this; exact this)
    go_wp2_with fail
    refine (zFC x y w).mono ?_;rintro e w2 ⟨rfl,rfl⟩;have H1:Hid (x<y→cmp3 x y = -1):=zNg (fun h=>by unfold cmp3; rw [if_pos h]);have H2:Hid (¬x<y→y<x→cmp3 x y=1):=zNg (fun h h2=>by unfold cmp3; rw [if_neg h,if_pos h2]);have H3:Hid (¬x<y→¬y<x→cmp3 x y=0):=zNg (fun h h2=>by unfold cmp3; rw [if_neg h,if_neg h2]);by_cases h1:x<y
    ·have e0:=zNg (HS.out.1 h1);rw [H1.out h1];go_wp2_with fail
     go_ret
     exact ⟨zAg e0.out.symm,rfl⟩
    ·by_cases h2:y<x
     ·have e0:=zNg (HS.out.2.1 (by omega) (by omega));rw [H2.out (by omega) (by omega)];go_wp2_with fail
      go_ret
      exact ⟨zAg e0.out.symm,rfl⟩
     ·have e0:=zNg (HS.out.2.2 (by omega) (by omega));rw [H3.out (by omega) (by omega)];go_wp2_with fail
      go_round
      case rel=>exact ⟨k+1,by omega,by go_num,zNg ⟨by omega,e0.out⟩⟩
      case measure=>simp [intOf]; omega
   ·have e0:Hid (res=1):=zNg (by
     have:=HK.out.2;have he:l'.drop k=[]:=List.drop_of_length_le (by have:=HM.out; omega);rw [zAJ hx.out,he] at this;exact this.symm)
    have hge:(m:Int)≤(k:Int):=by omega
    go_wp2_with fail
    go_ret
    exact ⟨zAg e0.out.symm,rfl⟩
  ·have hkn:k=n:=by omega
   have HK1:=HK.out.1;have he:l.drop k=[]:=List.drop_of_length_le (by have:=HN.out; omega);by_cases hnm:n<m
   ·have e0:Hid (res = -1):=zNg (by
     have:=HK.out.2;obtain ⟨y,hy⟩:∃y,l'[k]? = some y:=⟨_,zNh (by have:=HM.out; omega)⟩;rw [he,zAJ hy] at this;exact this.symm)
    clear he;go_wp2_with fail
    go_ret
    exact ⟨zAg e0.out.symm,rfl⟩
   ·have e0:Hid (res=0):=zNg (by
     have:=HK.out.2;have he2:l'.drop k=[]:=List.drop_of_length_le (by have:=HM.out; omega);rw [he,he2] at this;exact this.symm)
    clear he;go_wp2_with fail
    go_ret
    exact ⟨zAg e0.out.symm,rfl⟩
theorem zM8 {w:World} {g:Nat} {x y:Int} (h:RI Any w (.slice (some ⟨g,0,none⟩) 2 2) [x,y]) :
  Calls Tryz.prog 84 #[.slice (some ⟨g,0,none⟩) 2 2] w fun e w'=>e=.returned (.int .i64 (if x=0 then y else x))∧w=w':=by
 obtain ⟨b,o,x',e,hc,hx⟩:=RI.at h (j:=0) (by omega);obtain ⟨b',o',y',e',hc',hy⟩:=RI.at h (j:=1) (by omega);simp only [Option.some.injEq,Addr.mk.injEq,and_true] at e e';obtain ⟨rfl,rfl⟩:=e;obtain ⟨rfl,rfl⟩:=e';have h1:=hx.out;have h2:=hy.out;simp at h1 h2;subst h1; subst h2;clear hx hy h;have HX:Hid (x=0→(if x=0 then y else x)=y):=zNg (fun h=>if_pos h);have HY:Hid (¬x=0→(if x=0 then y else x)=x):=zNg (fun h=>if_neg h);generalize (if x=0 then y else x)=res at *;go_enter Tryz.func84,Tryz.ntmps84
 go_wp2_with fail
 go_loop [8] (fun j=>∃(k:Nat),k≤2∧j=.int .i64 k∧Hid (0<k→x=0)∧Hid (1<k→y=0)) (fun j=>2-(intOf j).toNat)
 case atStart=>exact ⟨0,by omega,rfl,zNg (by omega),zNg (by omega)⟩
 case round =>
  obtain ⟨k,hk,rfl,HK,HL⟩:=hrel
  match k,hk,HK,HL with
  | 0,_,_,_ =>
   by_cases h0:x=0
   ·have H0:=zNg h0;subst h0;go_wp2_with fail
    go_round
    case rel=>exact ⟨1,by omega,by go_num,zNg (fun _=>by first | exact H0.out | trivial),zNg (by omega)⟩
    case measure=>simp [intOf]
   ·have e0:Hid (res=x):=zNg (HY.out h0);go_wp2_with fail
    go_ret
    exact ⟨zAg e0.out.symm,rfl⟩
  | 1,_,HK,_ =>
   have e0:Hid (res=y):=zNg (HX.out (HK.out (by omega)));by_cases h0:y=0
   ·have H0:=zNg h0;subst h0;go_wp2_with fail
    go_round
    case rel=>exact ⟨2,by omega,by go_num,zNg (fun _=>HK.out (by omega)),zNg (fun _=>by first | exact H0.out | trivial)⟩
    case measure=>simp [intOf]
   ·go_wp2_with fail
    go_ret
    exact ⟨zAg e0.out.symm,rfl⟩
  | 2,_,HK,HL =>
   have e0:Hid (res=0):=zNg (by rw [HX.out (HK.out (by omega))]; exact HL.out (by omega));go_wp2_with fail
   go_ret
   exact ⟨zAg e0.out.symm,rfl⟩
  | k+3,hk,_,_=>omega
theorem zLu (l l':List Int):(if cmp3 l.length l'.length=0 then lexC l l' else cmp3 l.length l'.length)=cmpW l l':=by
 unfold cmpW;rw [zKp];by_cases h:l.length=l'.length
 ·rw [if_pos h,if_pos h]; simp [zGN h]
 ·rw [if_neg h,if_neg h];by_cases h2:l.length<l'.length
  ·rw [if_pos h2]; simp
  ·rw [if_neg h2]; simp
theorem zB3 {S S':Nat→Prop} {u v:Value} {l l':List Int} {w:World} (h:RI S w u l) (h':RI S' w v l') (hl:l.length≤16777216) (hl':l'.length≤16777216) :
  Calls Tryz.prog 41 #[u,v] w fun e w'=>e=.returned (.int .i64 (cmpW l l'))∧Below w.heap.size w w':=by
 have HR:=zNg (zLu l l');obtain ⟨a,cap,rfl⟩:=h.form;obtain ⟨a',cap',rfl⟩:=h'.form;have HL:=zNg hl;have HL':=zNg hl';generalize hn:l.length=n at *;generalize hm:l'.length=m at *;have HN:=zNg hn;have HM:=zNg hm;clear hn hm;go_enter Tryz.func41,Tryz.ntmps41
 go_wp2_with fail
 refine (zFC n m w).mono ?_;rintro e w2 ⟨rfl,rfl⟩;generalize cmp3 n m=x at *;go_wp2_with fail
 refine (zGe h h' (by rw [HN.out]; exact HL.out) (by rw [HM.out]; exact HL'.out)).mono ?_;rintro e w3 ⟨rfl,rfl⟩;generalize lexC l l'=y at *;go_wp2_with fail
 have bb:=(Below.refl w2.heap.size w2).alloc (zNl _) (.cells #[.int .i64 x,.int .i64 y] 3);have h2:RI Any (w2.alloc (.cells #[.int .i64 x,.int .i64 y] 3)) (.slice (some ⟨w2.heap.size,0,none⟩) 2 2) [x,y] :=
  ⟨_,2,rfl,⟨zNl _,by unfold maxLen; omega⟩,.inr ⟨_,0,rfl,trivial,⟨_,(0,0),heap_alloc_new w2 _⟩,fun j z hj=>by
   match j,hj with
   | 0,hj=>simp at hj; subst hj; exact ⟨_,by go_simp,rfl⟩
   | 1,hj=>simp at hj; subst hj; exact ⟨_,by go_simp,rfl⟩⟩⟩
 refine (zM8 h2).mono ?_;rintro e w4 ⟨rfl,rfl⟩;rw [HR.out];go_wp2_with fail
 go_ret
 exact ⟨rfl,bb⟩
def gtL:List Int→List Int→Bool
 | x::xs,y::ys=>if x=y then gtL xs ys else decide (y<x)
 | _,_=>false
def putV (v:List Int):List (List Int)→List (List Int)
 | []=>[v]
 | x::l=>if x=v then x::l else if gtL v x=true then v::x::l else x::putV v l
structure GW (w:World) where
 wd:World
 le:Below w.heap.size w wd
instance (w:World):Nonempty (GW w):=⟨⟨w,Below.refl _ _⟩⟩
theorem GW.cell {w:World} (x:GW w) {b o:Nat} {v:Value} (h:w.cell? ⟨b,o,none⟩=some v):x.wd.cell? ⟨b,o,none⟩=some v :=
 (x.le.cell (p:=⟨b,o,none⟩) (zNk w _ h)).trans h
theorem Calls.grow {f:FuncId} {args:Array Value} {w:World} {v:Value} (x:GW w)
  (h:Calls Tryz.prog f args x.wd fun e w'=>e=.returned v∧Below x.wd.heap.size x.wd w'):Calls Tryz.prog f args x.wd fun e w''=>e=.returned v∧∃y:GW w,w''=y.wd :=
 h.mono fun _ w' ⟨he,hb⟩=>⟨he,⟨w',zAA.step x.le hb⟩,rfl⟩
theorem Calls.grow_of {f:FuncId} {args:Array Value} {w:World} {v v':Value} (x:GW w)
  (h:Calls Tryz.prog f args x.wd fun e w'=>e=.returned v∧Below x.wd.heap.size x.wd w') (hv:v=v'):Calls Tryz.prog f args x.wd fun e w''=>e=.returned v'∧∃y:GW w,w''=y.wd:=by
 subst hv; exact Calls.grow x h
theorem Calls.quietly {f:FuncId} {args:Array Value} {w:World} {v:Value}
  (h:Calls Tryz.prog f args w fun e w'=>e=.returned v∧∃m,w'=w.drewN m):Calls Tryz.prog f args w fun e w'=>e=.returned v∧Below w.heap.size w w' :=
 h.mono fun _ _ ⟨he,hm⟩=>⟨he,zAc hm⟩
theorem zAK {id:Nat} {Q:Exit→Act→World→Prop} {a:Act} {w:World} {l:List Oper} (hm:Tryz.prog.follows .mixedOrders=true) (hB:Region.lexB .any l.toArray=true)
  (h:wpQuiet Tryz.prog l.toArray (fun w'=>∃x:GW w,w'=x.wd) (fun a'=>∀w',Below w.heap.size w w'→Q .normal a' w') l a):(Code.region id l.toArray true).wp Tryz.prog Q a w:=by
 refine wp_region_quiet (C:=fun w'=>∃x:GW w,w'=x.wd) hm hB ⟨⟨w.drew,(Below.refl _ w).drew⟩,rfl⟩ ?_;have:(fun a'=>∀w',Below w.heap.size w w'→Q .normal a' w')=(fun a'=>∀w',(∃x:GW w,w'=x.wd)→Q .normal a' w'):=by
  funext a';refine propext ⟨fun h w' hx=>?_,fun h w' hb=>h w' ⟨⟨w',hb⟩,rfl⟩⟩;obtain ⟨x,rfl⟩:=hx;exact h _ x.le
 rw [this] at h;simpa using h
end Go.Proofs.YtlchafedbnihoaaGreatDoor
