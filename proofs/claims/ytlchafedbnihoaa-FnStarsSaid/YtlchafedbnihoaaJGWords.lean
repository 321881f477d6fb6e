/- Comparisons of lists of numbers, the reference's. Condition: at most 2^24 numbers. -/
import Derived.Test.YtlchafedbnihoaaJGBase
namespace Go.Proofs.Ytlchafedbnihoaa
open Go.RowKit
set_option maxRecDepth 20000
set_option maxHeartbeats 8000000
def cmpL:List Int→List Int→Int
 | x::xs,y::ys=>if x<y then -1 else if y<x then 1 else cmpL xs ys
 | _,_=>0
def cmpW (l l':List Int):Int:=if l.length=l'.length then cmpL l l' else if l.length<l'.length then -1 else 1
theorem zFg:∀{l l':List Int},l.length=l'.length→(cmpL l l'=0↔l=l')
 | [],[],_=>by simp [cmpL]
 | [],_::_,h=>by simp at h
 | _::_,[],h=>by simp at h
 | x::xs,y::ys,h=>by
  have ih:=zFg (l:=xs) (l':=ys) (by simpa using h);unfold cmpL;by_cases h1:x<y
  ·simp [h1]; intro h; omega
  ·by_cases h2:y<x
   ·simp [h1,h2]; intro h; omega
   ·have:x=y:=by omega
    subst this;simp [ih]
theorem zFh {l l':List Int}:cmpW l l'=0↔l=l':=by
 unfold cmpW;by_cases h:l.length=l'.length
 ·rw [if_pos h]; exact zFg h
 ·rw [if_neg h];constructor
  ·intro h2; split at h2 <;> omega
  ·intro h2; subst h2; exact absurd rfl h
def eqL (l l':List Int):Bool:=decide (l=l')
theorem zFn (l l':List Int):(cmpW l l' == 0)=eqL l l':=by
 rw [Bool.eq_iff_iff];simp [eqL,zFh]
theorem zDU {S S':Nat→Prop} {u v:Value} {l l':List Int} {w:World} (h:RI S w u l) (h':RI S' w v l') (hl:l.length≤16777216) (_hl':l'.length≤16777216) :
  Calls Try.prog 70 #[u,v] w fun e w'=>e=.returned (.int .i64 (cmpW l l'))∧∃m,w'=w.drewN m:=by
 obtain ⟨a,cap,rfl⟩:=h.form;obtain ⟨a',cap',rfl⟩:=h'.form;generalize hr:cmpW l l'=r;have R:=zJh hr;clear hr;by_cases hlen:l.length=l'.length
 ·have R2:Hid (cmpL l l'=r):=by have:=R.out; rw [cmpW,if_pos hlen] at this; exact zJh this
  clear R;rw [<-hlen] at h' ⊢;generalize hn:l.length=n at *;have H:=zJh hn;have H':=zJh hlen;clear hn hlen;go_enter Try.func70,Try.ntmps70
  go_wp2_with fail
  go_loopw [5] (fun i wr=>∃k:Nat,k≤n∧i=.int .i64 k∧(∃m,wr=w.drewN m)∧Hid (cmpL (l.drop k) (l'.drop k)=r)) (fun i _=>n-(intOf i).toNat)
  case atStart=>exact ⟨0,Nat.zero_le _,rfl,dr0,R2⟩
  case round =>
   obtain ⟨k,hk,rfl,⟨m,hw⟩,HR⟩:=hrel;subst hw;by_cases hlt:k<n
   ·obtain ⟨b,o,x,rfl,hc,hx⟩:=h.at hlt;obtain ⟨b',o',y,rfl,hc',hy⟩:=h'.at hlt;have b1:(k:Int)<(n:Int):=by omega
    have HR2:Hid ((if x<y then -1 else if y<x then 1 else cmpL (l.drop (k+1)) (l'.drop (k+1)))=r):=by
     have:=HR.out;rw [zAM hx.out,zAM hy.out,cmpL] at this;exact zJh this
    by_cases h1:x<y
    ·have h1':decide (x<y)=true:=by simpa using h1
     go_wp2_with fail
     go_quiet (fail)
     go_wp2_with fail
     go_ret
     exact ⟨zAi (by have:=HR2.out; rw [if_pos (by omega)] at this; exact this),(by first | exact dr1 | exact dr2 | exact dr3)⟩
    ·have h1':decide (x<y)=false:=by simpa using h1
     go_wp2_with fail
     go_quiet (fail)
     go_wp2_with fail
     by_cases h2:y<x
     ·have h2':decide (y<x)=true:=by simpa using h2
      go_quiet (fail)
      go_wp2_with fail
      go_ret
      exact ⟨zAi (by have:=HR2.out; rw [if_neg (by omega),if_pos (by omega)] at this; exact this),(by first | exact dr1 | exact dr2 | exact dr3)⟩
     ·have h2':decide (y<x)=false:=by simpa using h2
      go_quiet (fail)
      go_wp2_with fail
      go_roundw
      case rel=>exact ⟨k+1,by omega,by go_num,(by first | exact dr1 | exact dr2 | exact dr3),by have:=HR2.out; rw [if_neg (by omega),if_neg (by omega)] at this; exact zJh this⟩
      case measure=>simp [intOf]; omega
   ·go_wp2_with fail
    go_ret
    refine ⟨zAi ?_,m,rfl⟩;have:=HR.out;rw [List.drop_eq_nil_of_le (by have:=H.out; omega)] at this;rw [<-this];simp [cmpL]
 ·have hne:((l.length:Int) == (l'.length:Int))=false:=by simp; omega
  have R2:Hid ((if l.length<l'.length then (-1:Int) else 1)=r):=by have:=R.out; rw [cmpW,if_neg hlen] at this; exact zJh this
  clear R;generalize l.length=n at *;generalize l'.length=n' at *;by_cases h1:n<n'
  ·go_enter Try.func70,Try.ntmps70
   go_wp2_with fail
   go_ret
   exact ⟨zAi (by have:=R2.out; rw [if_pos (by omega)] at this; exact this),0,rfl⟩
  ·go_enter Try.func70,Try.ntmps70
   go_wp2_with fail
   go_ret
   exact ⟨zAi (by have:=R2.out; rw [if_neg (by omega)] at this; exact this),0,rfl⟩
theorem zBh {S S':Nat→Prop} {u v:Value} {l l':List Int} {w:World} (h:RI S w u l) (h':RI S' w v l') (hl:l.length≤16777216) (hl':l'.length≤16777216) :
  Calls Try.prog 46 #[u,v] w fun e w'=>e=.returned (.bool (eqL l l'))∧∃m,w'=w.drewN m:=by
 have E:=zJh (zFn l l');go_enter Try.func46,Try.ntmps46
 go_wp2_with fail
 refine (zDU h h' hl hl').mono ?_;generalize cmpW l l'=r at *;rintro e w' ⟨rfl,hw⟩;go_wp2_with fail
 go_ret
 exact ⟨zAD E.out,hw⟩
theorem zJG {l l':List Int} {k:Nat} {x y:Int} (hx:l[k]? = some x) (hy:l'[k]? = some y) (h:x≠y):eqL l l'=false:=by
 unfold eqL;rw [decide_eq_false_iff_not];intro e;subst e;rw [hx] at hy;exact h (by simpa using hy)
theorem zII {l l':List Int} {n:Nat} (hl:l.length=n) (hl':l'.length=n) (h:∀j,j<n→l[j]? = l'[j]?):eqL l l'=true:=by
 unfold eqL;rw [decide_eq_true_eq];refine List.ext_getElem? fun j=>?_;rcases Nat.lt_or_ge j n with hj | hj
 ·exact h j hj
 ·rw [List.getElem?_eq_none (by omega),List.getElem?_eq_none (by omega)]
theorem zIJ {l l':List Int} (h:l.length≠l'.length):eqL l l'=false:=by
 unfold eqL;rw [decide_eq_false_iff_not];intro e;subst e;exact h rfl
theorem zDP {S S':Nat→Prop} {u v:Value} {l l':List Int} {w:World} (h:RI S w u l) (h':RI S' w v l') (hl:l.length≤16777216) (_hl':l'.length≤16777216) :
  Calls Try.prog 68 #[u,v] w fun e w'=>e=.returned (.bool (eqL l l'))∧∃m,w'=w.drewN m:=by
 obtain ⟨a,cap,rfl⟩:=h.form;obtain ⟨a',cap',rfl⟩:=h'.form;by_cases hlen:l.length=l'.length
 ·generalize hr:eqL l l'=r;have R:=zJh hr;clear hr;rw [<-hlen] at h' ⊢;generalize hn:l.length=n at *;have H:=zJh hn;have H':=zJh hlen;clear hn hlen;go_enter Try.func68,Try.ntmps68
  go_wp2_with fail
  go_loopw [13] (fun i wr=>∃k:Nat,k≤n∧i=.int .i64 k∧(∃m,wr=w.drewN m)∧Hid (∀j,j<k→l[j]? = l'[j]?)) (fun i _=>n-(intOf i).toNat)
  case atStart=>exact ⟨0,Nat.zero_le _,rfl,dr0,zJh (by intro j hj; omega)⟩
  case round =>
   obtain ⟨k,hk,rfl,⟨m,hw⟩,HR⟩:=hrel;subst hw;by_cases hlt:k<n
   ·obtain ⟨b,o,x,rfl,hc,hx⟩:=h.at hlt;obtain ⟨b',o',y,rfl,hc',hy⟩:=h'.at hlt;have b1:(k:Int)<(n:Int):=by omega
    by_cases h1:x=y
    ·subst h1;go_wp2_with fail
     go_quiet (fail)
     go_wp2_with fail
     go_roundw
     case rel =>
      refine ⟨k+1,by omega,by go_num,(by first | exact dr1 | exact dr2 | exact dr3),zJh ?_⟩;intro j hj;rcases Nat.lt_or_ge j k with h | h
      ·exact HR.out j h
      ·have:j=k:=by omega
       subst this;rw [hx.out,hy.out]
     case measure=>simp [intOf]; omega
    ·have h1':(x != y)=true:=by simpa using h1
     have E:=zJh (zJG hx.out hy.out h1);clear h1;go_wp2_with fail
     go_quiet (fail)
     go_wp2_with fail
     go_ret
     exact ⟨zAD (by rw [<-R.out,E.out]),(by first | exact dr1 | exact dr2 | exact dr3)⟩
   ·go_wp2_with fail
    go_ret
    refine ⟨zAD ?_,m,rfl⟩;rw [<-R.out,zII H.out H'.out.symm (fun j hj=>HR.out j (by omega))]
 ·have hne:((l.length:Int) != (l'.length:Int))=true:=by simp; omega
  have E:=zJh (zIJ hlen);generalize eqL l l'=r at *;generalize l.length=n at *;generalize l'.length=n' at *;go_enter Try.func68,Try.ntmps68
  go_wp2_with fail
  go_ret
  exact ⟨zAD E.out.symm,0,rfl⟩
def gtL:List Int→List Int→Bool
 | x::xs,y::ys=>if x=y then gtL xs ys else decide (y<x)
 | _,_=>false
def putV (v:List Int):List (List Int)→List (List Int)
 | []=>[v]
 | x::l=>if x=v then x::l else if gtL v x=true then v::x::l else x::putV v l
end Go.Proofs.Ytlchafedbnihoaa
