/- Comparisons of lists of numbers, the reference's. Condition: at most 2^24 numbers. -/
import Derived.Test.YtphbichgpcicnaaGreatDoorJGBase
namespace Go.Proofs.YtphbichgpcicnaaGreatDoor
open Go.RowKit
set_option maxRecDepth 20000
set_option maxHeartbeats 8000000
def cmpL:List Int→List Int→Int
 | x::xs,y::ys=>if x<y then -1 else if y<x then 1 else cmpL xs ys
 | _,_=>0
def cmpW (l l':List Int):Int:=if l.length=l'.length then cmpL l l' else if l.length<l'.length then -1 else 1
theorem zME:∀{l l':List Int},l.length=l'.length→(cmpL l l'=0↔l=l')
 | [],[],_=>by simp [cmpL]
 | [],_::_,h=>by simp at h
 | _::_,[],h=>by simp at h
 | x::xs,y::ys,h=>by
  have ih:=zME (l:=xs) (l':=ys) (by simpa using h);unfold cmpL;by_cases h1:x<y
  ·simp [h1]; intro h; omega
  ·by_cases h2:y<x
   ·simp [h1,h2]; intro h; omega
   ·have:x=y:=by omega
    subst this;simp [ih]
theorem zEp {l l':List Int}:cmpW l l'=0↔l=l':=by
 unfold cmpW;by_cases h:l.length=l'.length
 ·rw [if_pos h]; exact zME h
 ·rw [if_neg h];constructor
  ·intro h2; split at h2 <;> omega
  ·intro h2; subst h2; exact absurd rfl h
def eqL (l l':List Int):Bool:=decide (l=l')
theorem zIa (l l':List Int):(cmpW l l' == 0)=eqL l l':=by
 rw [Bool.eq_iff_iff];simp [eqL,zEp]
theorem zHE {S S':Nat→Prop} {u v:Value} {l l':List Int} {w:World} (h:RI S w u l) (h':RI S' w v l') (hl:l.length≤16777216) (_hl':l'.length≤16777216) :
  Calls Tryz.prog 168 #[u,v] w fun e w'=>e=.returned (.int .i64 (cmpW l l'))∧∃m,w'=w.drewN m:=by
 obtain ⟨a,cap,rfl⟩:=h.form;obtain ⟨a',cap',rfl⟩:=h'.form;generalize hr:cmpW l l'=r;have R:=zWF hr;clear hr;by_cases hlen:l.length=l'.length
 ·have R2:Hid (cmpL l l'=r):=by have:=R.out; rw [cmpW,if_pos hlen] at this; exact zWF this
  clear R;rw [<-hlen] at h' ⊢;generalize hn:l.length=n at *;have H:=zWF hn;have H':=zWF hlen;clear hn hlen;go_enter Tryz.func168,Tryz.ntmps168
  go_wp2_with fail
  go_loopw [5] (fun i wr=>∃k:Nat,k≤n∧i=.int .i64 k∧(∃m,wr=w.drewN m)∧Hid (cmpL (l.drop k) (l'.drop k)=r)) (fun i _=>n-(intOf i).toNat)
  case atStart=>exact ⟨0,Nat.zero_le _,rfl,dr0,R2⟩
  case round =>
   obtain ⟨k,hk,rfl,⟨m,hw⟩,HR⟩:=hrel;subst hw;by_cases hlt:k<n
   ·obtain ⟨b,o,x,rfl,hc,hx⟩:=h.at hlt;obtain ⟨b',o',y,rfl,hc',hy⟩:=h'.at hlt;have b1:(k:Int)<(n:Int):=by omega
    have HR2:Hid ((if x<y then -1 else if y<x then 1 else cmpL (l.drop (k+1)) (l'.drop (k+1)))=r):=by
     have:=HR.out;rw [zAC hx.out,zAC hy.out,cmpL] at this;exact zWF this
    by_cases h1:x<y
    ·have h1':decide (x<y)=true:=by simpa using h1
     go_wp2_with fail
     go_quiet (fail)
     go_wp2_with fail
     go_ret
     exact ⟨zAP (by have:=HR2.out; rw [if_pos (by omega)] at this; exact this),(by first | exact dr1 | exact dr2 | exact dr3)⟩
    ·have h1':decide (x<y)=false:=by simpa using h1
     go_wp2_with fail
     go_quiet (fail)
     go_wp2_with fail
     by_cases h2:y<x
     ·have h2':decide (y<x)=true:=by simpa using h2
      go_quiet (fail)
      go_wp2_with fail
      go_ret
      exact ⟨zAP (by have:=HR2.out; rw [if_neg (by omega),if_pos (by omega)] at this; exact this),(by first | exact dr1 | exact dr2 | exact dr3)⟩
     ·have h2':decide (y<x)=false:=by simpa using h2
      go_quiet (fail)
      go_wp2_with fail
      go_roundw
      case rel=>exact ⟨k+1,by omega,by go_num,(by first | exact dr1 | exact dr2 | exact dr3),by have:=HR2.out; rw [if_neg (by omega),if_neg (by omega)] at this; exact zWF this⟩
      case measure=>simp [intOf]; omega
   ·go_wp2_with fail
    go_ret
    refine ⟨zAP ?_,m,rfl⟩;have:=HR.out;rw [List.drop_eq_nil_of_le (by have:=H.out; omega)] at this;rw [<-this];simp [cmpL]
 ·have hne:((l.length:Int) == (l'.length:Int))=false:=by simp; omega
  have R2:Hid ((if l.length<l'.length then (-1:Int) else 1)=r):=by have:=R.out; rw [cmpW,if_neg hlen] at this; exact zWF this
  clear R;generalize l.length=n at *;generalize l'.length=n' at *;by_cases h1:n<n'
  ·go_enter Tryz.func168,Tryz.ntmps168
   go_wp2_with fail
   go_ret
   exact ⟨zAP (by have:=R2.out; rw [if_pos (by omega)] at this; exact this),0,rfl⟩
  ·go_enter Tryz.func168,Tryz.ntmps168
   go_wp2_with fail
   go_ret
   exact ⟨zAP (by have:=R2.out; rw [if_neg (by omega)] at this; exact this),0,rfl⟩
theorem zIb {S S':Nat→Prop} {u v:Value} {l l':List Int} {w:World} (h:RI S w u l) (h':RI S' w v l') (hl:l.length≤16777216) (hl':l'.length≤16777216) :
  Calls Tryz.prog 123 #[u,v] w fun e w'=>e=.returned (.bool (eqL l l'))∧∃m,w'=w.drewN m:=by
 have E:=zWF (zIa l l');go_enter Tryz.func123,Tryz.ntmps123
 go_wp2_with fail
 refine (zHE h h' hl hl').mono ?_;generalize cmpW l l'=r at *;rintro e w' ⟨rfl,hw⟩;go_wp2_with fail
 go_ret
 exact ⟨zAD E.out,hw⟩
theorem zVT {l l':List Int} {k:Nat} {x y:Int} (hx:l[k]? = some x) (hy:l'[k]? = some y) (h:x≠y):eqL l l'=false:=by
 unfold eqL;rw [decide_eq_false_iff_not];intro e;subst e;rw [hx] at hy;exact h (by simpa using hy)
theorem zTX {l l':List Int} {n:Nat} (hl:l.length=n) (hl':l'.length=n) (h:∀j,j<n→l[j]? = l'[j]?):eqL l l'=true:=by
 unfold eqL;rw [decide_eq_true_eq];refine List.ext_getElem? fun j=>?_;rcases Nat.lt_or_ge j n with hj | hj
 ·exact h j hj
 ·rw [List.getElem?_eq_none (by omega),List.getElem?_eq_none (by omega)]
theorem zTY {l l':List Int} (h:l.length≠l'.length):eqL l l'=false:=by
 unfold eqL;rw [decide_eq_false_iff_not];intro e;subst e;exact h rfl
theorem zLs {S S':Nat→Prop} {u v:Value} {l l':List Int} {w:World} (h:RI S w u l) (h':RI S' w v l') (hl:l.length≤16777216) (_hl':l'.length≤16777216) :
  Calls Tryz.prog 105 #[u,v] w fun e w'=>e=.returned (.bool (eqL l l'))∧∃m,w'=w.drewN m:=by
 obtain ⟨a,cap,rfl⟩:=h.form;obtain ⟨a',cap',rfl⟩:=h'.form;by_cases hlen:l.length=l'.length
 ·generalize hr:eqL l l'=r;have R:=zWF hr;clear hr;rw [<-hlen] at h' ⊢;generalize hn:l.length=n at *;have H:=zWF hn;have H':=zWF hlen;clear hn hlen;go_enter Tryz.func105,Tryz.ntmps105
  go_wp2_with fail
  go_loopw [13] (fun i wr=>∃k:Nat,k≤n∧i=.int .i64 k∧(∃m,wr=w.drewN m)∧Hid (∀j,j<k→l[j]? = l'[j]?)) (fun i _=>n-(intOf i).toNat)
  case atStart=>exact ⟨0,Nat.zero_le _,rfl,dr0,zWF (by intro j hj; omega)⟩
  case round =>
   obtain ⟨k,hk,rfl,⟨m,hw⟩,HR⟩:=hrel;subst hw;by_cases hlt:k<n
   ·obtain ⟨b,o,x,rfl,hc,hx⟩:=h.at hlt;obtain ⟨b',o',y,rfl,hc',hy⟩:=h'.at hlt;have b1:(k:Int)<(n:Int):=by omega
    by_cases h1:x=y
    ·subst h1;go_wp2_with fail
     go_quiet (fail)
     go_wp2_with fail
     go_roundw
     case rel =>
      refine ⟨k+1,by omega,by go_num,(by first | exact dr1 | exact dr2 | exact dr3),zWF ?_⟩;intro j hj;rcases Nat.lt_or_ge j k with h | h
      ·exact HR.out j h
      ·have:j=k:=by omega
       subst this;rw [hx.out,hy.out]
     case measure=>simp [intOf]; omega
    ·have h1':(x != y)=true:=by simpa using h1
     have E:=zWF (zVT hx.out hy.out h1);clear h1;go_wp2_with fail
     go_quiet (fail)
     go_wp2_with fail
     go_ret
     exact ⟨zAD (by rw [<-R.out,E.out]),(by first | exact dr1 | exact dr2 | exact dr3)⟩
   ·go_wp2_with fail
    go_ret
    refine ⟨zAD ?_,m,rfl⟩;rw [<-R.out,zTX H.out H'.out.symm (fun j hj=>HR.out j (by omega))]
 ·have hne:((l.length:Int) != (l'.length:Int))=true:=by simp; omega
  have E:=zWF (zTY hlen);generalize eqL l l'=r at *;generalize l.length=n at *;generalize l'.length=n' at *;go_enter Tryz.func105,Tryz.ntmps105
  go_wp2_with fail
  go_ret
  exact ⟨zAD E.out.symm,0,rfl⟩
def cmp3 (x y:Int):Int:=if x<y then -1 else if y<x then 1 else 0
def lexC:List Int→List Int→Int
 | [],[]=>0
 | [],_::_=>-1
 | _::_,[]=>1
 | x::xs,y::ys=>if x<y then -1 else if y<x then 1 else lexC xs ys
theorem zJC (x:Int) (w:World) :
  Calls Tryz.prog 136 #[.int .i64 x] w fun e w'=>e=.returned (.bool false)∧w'=w:=by
 go_enter Tryz.func136,Tryz.ntmps136
 go_wp2
 go_ret
 exact ⟨zAD (by simp),rfl⟩
theorem zE8 (x y:Int) (w:World) :
  Calls Tryz.prog 99 #[.int .i64 x,.int .i64 y] w fun e w'=>e=.returned (.int .i64 (cmp3 x y))∧w'=w:=by
 have H1:Hid (x<y→cmp3 x y = -1):=zWF (fun h=>by unfold cmp3; rw [if_pos h]);have H2:Hid (¬x<y→y<x→cmp3 x y=1):=zWF (fun h h2=>by unfold cmp3; rw [if_neg h,if_pos h2]);have H3:Hid (¬x<y→¬y<x→cmp3 x y=0):=zWF (fun h h2=>by unfold cmp3; rw [if_neg h,if_neg h2]);go_enter Tryz.func99,Tryz.ntmps99
 go_wp2_with fail
 refine (zJC x w).mono ?_;rintro e w2 ⟨rfl,rfl⟩;go_wp2_with fail
 refine (zJC y w2).mono ?_;rintro e w3 ⟨rfl,rfl⟩;by_cases h1:x<y
 ·have e0:=zWF (H1.out h1);go_wp2_with fail
  go_ret
  exact ⟨zAP e0.out.symm,rfl⟩
 ·by_cases h2:y<x
  ·have e0:=zWF (H2.out (by omega) (by omega));go_wp2_with fail
   go_ret
   exact ⟨zAP e0.out.symm,rfl⟩
  ·have e0:=zWF (H3.out (by omega) (by omega));go_wp2_with fail
   go_ret
   exact ⟨zAP e0.out.symm,rfl⟩
theorem zFe {S S':Nat→Prop} {u v:Value} {l l':List Int} {w:World} (h:RI S w u l) (h':RI S' w v l') (hl:l.length≤16777216) (_hl':l'.length≤16777216) :
  Calls Tryz.prog 116 #[u,v] w fun e w'=>e=.returned (.int .i64 (lexC l l'))∧w=w':=by
 obtain ⟨a,cap,rfl⟩:=h.form;obtain ⟨a',cap',rfl⟩:=h'.form;have HR:Hid (lexC (l.drop 0) (l'.drop 0)=lexC l l'):=zWF (by simp);generalize lexC l l'=res at *;generalize hn:l.length=n at *;have HN:=zWF hn;clear hn;generalize hm:l'.length=m at *;have HM:=zWF hm;clear hm;go_enter Tryz.func116,Tryz.ntmps116
 go_wp2_with fail
 go_loop [11] (fun j=>∃(k:Nat),k≤n∧j=.int .i64 k∧Hid (k≤m∧lexC (l.drop k) (l'.drop k)=res)) (fun j=>n-(intOf j).toNat)
 case atStart=>exact ⟨0,Nat.zero_le _,rfl,zWF ⟨Nat.zero_le _,HR.out⟩⟩
 case round =>
  obtain ⟨k,hk,rfl,HK⟩:=hrel;by_cases hlt:k<n
  ·obtain ⟨b,o,x,rfl,hc,hx⟩:=h.at hlt;by_cases hlt2:k<m
   ·obtain ⟨b',o',y,rfl,hc',hy⟩:=h'.at hlt2;have HS:Hid ((x<y→res = -1)∧(¬x<y→y<x→res=1)∧(¬x<y→¬y<x→lexC (l.drop (k+1)) (l'.drop (k+1))=res)):=zWF (by
     have:=HK.out.2;rw [zAC hx.out,zAC hy.out] at this;unfold lexC at this;refine ⟨fun h=>?_,fun h h2=>?_,fun h h2=>?_⟩
     ·rw [if_pos h] at this; exact this.symm
     ·rw [if_neg h,if_pos h2] at this; exact this.symm
     ·rw [if_neg h,if_neg h2] at this; exact this)
    go_wp2_with fail
    refine (zE8 x y w).mono ?_;rintro e w2 ⟨rfl,rfl⟩;have H1:Hid (x<y→cmp3 x y = -1):=zWF (fun h=>by unfold cmp3; rw [if_pos h]);have H2:Hid (¬x<y→y<x→cmp3 x y=1):=zWF (fun h h2=>by unfold cmp3; rw [if_neg h,if_pos h2]);have H3:Hid (¬x<y→¬y<x→cmp3 x y=0):=zWF (fun h h2=>by unfold cmp3; rw [if_neg h,if_neg h2]);by_cases h1:x<y
    ·have e0:=zWF (HS.out.1 h1);rw [H1.out h1];go_wp2_with fail
     go_ret
     exact ⟨zAP e0.out.symm,rfl⟩
    ·by_cases h2:y<x
     ·have e0:=zWF (HS.out.2.1 (by omega) (by omega));rw [H2.out (by omega) (by omega)];go_wp2_with fail
      go_ret
      exact ⟨zAP e0.out.symm,rfl⟩
     ·have e0:=zWF (HS.out.2.2 (by omega) (by omega));rw [H3.out (by omega) (by omega)];go_wp2_with fail
      go_round
      case rel=>exact ⟨k+1,by omega,by go_num,zWF ⟨by omega,e0.out⟩⟩
      case measure=>simp [intOf]; omega
   ·have e0:Hid (res=1):=zWF (by
     have:=HK.out.2;have he:l'.drop k=[]:=List.drop_of_length_le (by have:=HM.out; omega);rw [zAC hx.out,he] at this;exact this.symm)
    have hge:(m:Int)≤(k:Int):=by omega
    go_wp2_with fail
    go_ret
    exact ⟨zAP e0.out.symm,rfl⟩
  ·have hkn:k=n:=by omega
   have HK1:=HK.out.1;have he:l.drop k=[]:=List.drop_of_length_le (by have:=HN.out; omega);by_cases hnm:n<m
   ·have e0:Hid (res = -1):=zWF (by
     have:=HK.out.2;obtain ⟨y,hy⟩:∃y,l'[k]? = some y:=⟨_,zWG (by have:=HM.out; omega)⟩;rw [he,zAC hy] at this;exact this.symm)
    clear he;go_wp2_with fail
    go_ret
    exact ⟨zAP e0.out.symm,rfl⟩
   ·have e0:Hid (res=0):=zWF (by
     have:=HK.out.2;have he2:l'.drop k=[]:=List.drop_of_length_le (by have:=HM.out; omega);rw [he,he2] at this;exact this.symm)
    clear he;go_wp2_with fail
    go_ret
    exact ⟨zAP e0.out.symm,rfl⟩
theorem zVO {w:World} {g:Nat} {x y:Int} (h:RI Any w (.slice (some ⟨g,0,none⟩) 2 2) [x,y]) :
  Calls Tryz.prog 115 #[.slice (some ⟨g,0,none⟩) 2 2] w fun e w'=>e=.returned (.int .i64 (if x=0 then y else x))∧w=w':=by
 obtain ⟨b,o,x',e,hc,hx⟩:=RI.at h (j:=0) (by omega);obtain ⟨b',o',y',e',hc',hy⟩:=RI.at h (j:=1) (by omega);simp only [Option.some.injEq,Addr.mk.injEq,and_true] at e e';obtain ⟨rfl,rfl⟩:=e;obtain ⟨rfl,rfl⟩:=e';have h1:=hx.out;have h2:=hy.out;simp at h1 h2;subst h1; subst h2;clear hx hy h;have HX:Hid (x=0→(if x=0 then y else x)=y):=zWF (fun h=>if_pos h);have HY:Hid (¬x=0→(if x=0 then y else x)=x):=zWF (fun h=>if_neg h);generalize (if x=0 then y else x)=res at *;go_enter Tryz.func115,Tryz.ntmps115
 go_wp2_with fail
 go_loop [8] (fun j=>∃(k:Nat),k≤2∧j=.int .i64 k∧Hid (0<k→x=0)∧Hid (1<k→y=0)) (fun j=>2-(intOf j).toNat)
 case atStart=>exact ⟨0,by omega,rfl,zWF (by omega),zWF (by omega)⟩
 case round =>
  obtain ⟨k,hk,rfl,HK,HL⟩:=hrel
  match k,hk,HK,HL with
  | 0,_,_,_ =>
   by_cases h0:x=0
   ·have H0:=zWF h0;subst h0;go_wp2_with fail
    go_round
    case rel=>exact ⟨1,by omega,by go_num,zWF (fun _=>by first | exact H0.out | trivial),zWF (by omega)⟩
    case measure=>simp [intOf]
   ·have e0:Hid (res=x):=zWF (HY.out h0);go_wp2_with fail
    go_ret
    exact ⟨zAP e0.out.symm,rfl⟩
  | 1,_,HK,_ =>
   have e0:Hid (res=y):=zWF (HX.out (HK.out (by omega)));by_cases h0:y=0
   ·have H0:=zWF h0;subst h0;go_wp2_with fail
    go_round
    case rel=>exact ⟨2,by omega,by go_num,zWF (fun _=>HK.out (by omega)),zWF (fun _=>by first | exact H0.out | trivial)⟩
    case measure=>simp [intOf]
   ·go_wp2_with fail
    go_ret
    exact ⟨zAP e0.out.symm,rfl⟩
  | 2,_,HK,HL =>
   have e0:Hid (res=0):=zWF (by rw [HX.out (HK.out (by omega))]; exact HL.out (by omega));go_wp2_with fail
   go_ret
   exact ⟨zAP e0.out.symm,rfl⟩
  | k+3,hk,_,_=>omega
end Go.Proofs.YtphbichgpcicnaaGreatDoor
