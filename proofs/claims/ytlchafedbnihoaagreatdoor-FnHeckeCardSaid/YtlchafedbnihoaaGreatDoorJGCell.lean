/- The coefficient of a word in a list of terms. Condition: sizes up to 2^24. -/
import Derived.Test.YtlchafedbnihoaaGreatDoorJLawTerm
import Derived.Test.YtlchafedbnihoaaGreatDoorJGWords
import Derived.Test.YtlchafedbnihoaaGreatDoorJGCart
namespace Go.Proofs.YtlchafedbnihoaaGreatDoor
open Go.RowKit
set_option maxRecDepth 20000
set_option maxHeartbeats 16000000
def zAW (l:List Int):List Trm→List Int
 | []=>[]
 | x::xs=>if eqL x.1 l then x.2 else zAW l xs
theorem zCQ (l:List Int):∀(L:List Trm),(zAW l L).length≤zAD L
 | []=>by simp [zAW]
 | x::xs=>by
  have ih:=zCQ l xs;unfold zAW;have h2:=zA6 (L:=x::xs) (x:=x) (by simp);have h3:zAD (x::xs)=zAD xs+1+x.1.length+x.2.length:=by simp [zAD,zAF]; omega
  split <;> omega
theorem zAo {w:World} {e:TypeId}:Below w.heap.size w (w.alloc (.cells #[] e)):=(Below.refl _ w).alloc (zNl _) _
theorem FI.fresh0 (w:World):FI (New w (w.alloc (.cells #[] 3))) (w.alloc (.cells #[] 3)) (.slice (some ⟨w.heap.size,0,none⟩) 0 0) []:=by
 have:=World.ownsRow_lit (base:=w.heap.size) (e:=3) (size:=1) w #[] 0 (zNl _) (by unfold maxLen; omega) rfl;exact FI.of_row this (zNl _) rfl rfl
theorem zCj {S S':Nat→Prop} {v u:Value} {L:List Trm} {l:List Int} {w:World} (h:RT S w v L) (h':RI S' w u l) (hl:zAD L≤16777216) (hl':l.length≤16777216) :
  Calls Tryz.prog 32 #[v,u] w fun e w'=>∃r,e=.returned r∧FI (New w w') w' r (zAW l L)∧Below w.heap.size w w':=by
 obtain ⟨a,cap,rfl⟩:=h.form;have hn0:L.length≤16777216:=by unfold zAD at hl; omega
 generalize hr:zAW l L=r;have R:Hid (zAW l (L.drop 0)=r):=zNg hr;clear hr;generalize hn:L.length=n at *;have H:=zNg hn;clear hn;go_enter Tryz.func32,Tryz.ntmps32
 go_wp2_with fail
 go_loopw [5] (fun i wr=>∃(k:Nat),k≤n∧i=.int .i64 k∧(∃m,wr=w.drewN m)∧Hid (zAW l (L.drop k)=r)) (fun i _=>n-(intOf i).toNat)
 case atStart=>exact ⟨0,Nat.zero_le _,rfl,dr0,R⟩
 case round =>
  obtain ⟨k,hk,rfl,⟨m,hw⟩,HR⟩:=hrel;subst hw;by_cases hlt:k<n
  ·obtain ⟨b,o,r1,r2,x,rfl,hc,hc',⟨hr1,hr2⟩,hx⟩:=h.at hlt;obtain ⟨l1,p⟩:=x;have hll:l1.length≤16777216:=by have:=zA6 (zNi hx.out); simp at this; omega
   have hlp:p.length≤16777216:=by have:=zA6 (zNi hx.out); simp at this; omega
   have HR2:Hid ((if eqL l1 l then p else zAW l (L.drop (k+1)))=r):=by
    have:=HR.out;rw [zAJ hx.out,zAW] at this;exact zNg this
   go_wp2_with fail
   refine (zBv (hr1.drewN m) (h'.drewN m) hll hl').mono ?_;rintro e w' ⟨rfl,m2,hw2⟩;have hm:∃m3,w'=w.drewN m3:=by rw [hw2]; exact dr2
   clear hw2;obtain ⟨m3,rfl⟩:=hm;cases hq:eqL l1 l
   ·go_wp2_with fail
    go_roundw
    case rel=>exact ⟨k+1,by omega,by go_num,(by first | exact dr1 | exact dr2 | exact dr3),by have:=HR2.out; rw [hq] at this; exact zNg (by simpa using this)⟩
    case measure=>simp [intOf]; omega
   ·have e2:p=r:=by have:=HR2.out; rw [hq] at this; simpa using this
    subst e2;obtain ⟨a2,c2,rfl⟩:=hr2.form;have hc2:=zAT (show (w.drewN m3).cell? _=_ from hc') (.cells #[] 3);go_wp2_with (at_builtin; go_must (refine zAG rfl _ _ rfl rfl (FI.fresh0 (w.drewN m3)) zAo rfl ((hr2.drewN m3).below zAo) ?_ ?_))
    ·simp; omega
    ·intro v' w2 f2 b2 _;have b3:Below w.heap.size w w2:=zAA.step (below_drewN (Below.refl _ w) m3) b2;go_wp2_with fail
     go_ret
     exact ⟨_,rfl,by first | exact f2.mono (fun _ h=>h) | (rw [List.nil_append] at f2; exact f2.mono (fun _ h=>h)),b3⟩
  ·go_wp2_with fail
   go_ret
   have e:r=[]:=by
    have:=HR.out;rw [List.drop_eq_nil_of_le (by have:=H.out; omega)] at this;exact this.symm
   subst e;exact ⟨_,rfl,FI.fresh0 (w.drewN m),below_drewN (Below.refl _ w) m |>.alloc (by simp) _⟩
theorem zCR {S S':Nat→Prop} {u v:Value} {l l':List Int} {w:World} (h:RI S w u l) (h':RI S' w v l') (hl:l.length≤16777216) (hl':l'.length≤16777216) :
  Calls Tryz.prog 74 #[u,v] w fun e w'=>e=.returned (.bool (eqL l l'))∧∃m,w'=w.drewN m:=by
 go_enter Tryz.func74,Tryz.ntmps74
 go_wp2_with fail
 refine (zDD h h' hl hl').mono ?_;rintro e w' ⟨rfl,hw⟩;go_wp2_with fail
 go_ret
 exact ⟨rfl,hw⟩
theorem zCi {S S':Nat→Prop} {v u:Value} {L:List Trm} {l:List Int} {w:World} (h:RT S w v L) (h':RI S' w u l) (hl:zAD L≤16777216) (hl':l.length≤16777216) :
  Calls Tryz.prog 31 #[v,u] w fun e w'=>∃r,e=.returned r∧FI (New w w') w' r (zAW l L)∧Below w.heap.size w w':=by
 obtain ⟨a,cap,rfl⟩:=h.form;have hn0:L.length≤16777216:=by unfold zAD at hl; omega
 generalize hr:zAW l L=r;have R:Hid (zAW l (L.drop 0)=r):=zNg hr;clear hr;generalize hn:L.length=n at *;have H:=zNg hn;clear hn;go_enter Tryz.func31,Tryz.ntmps31
 go_wp2_with fail
 go_loopw [9] (fun i wr=>∃(k:Nat),k≤n∧i=.int .i64 k∧Below w.heap.size w wr∧Hid (zAW l (L.drop k)=r)) (fun i _=>n-(intOf i).toNat)
 case atStart=>exact ⟨0,Nat.zero_le _,rfl,Below.refl _ _,R⟩
 case round =>
  obtain ⟨k,hk,rfl,hb,HR⟩:=hrel;by_cases hlt:k<n
  ·obtain ⟨b,o,r1,r2,x,rfl,hc,hc',⟨hr1,hr2⟩,hx⟩:=(h.below hb).at hlt;obtain ⟨l1,p⟩:=x;obtain ⟨a1,c1,rfl⟩:=hr1.form;obtain ⟨a2,c2,rfl⟩:=hr2.form;have hll:l1.length≤16777216:=by have:=zA6 (zNi hx.out); simp at this; omega
   have hlp:p.length≤16777216:=by have:=zA6 (zNi hx.out); simp at this; omega
   have HR2:Hid ((if eqL l1 l then p else zAW l (L.drop (k+1)))=r):=by
    have:=HR.out;rw [zAJ hx.out,zAW] at this;exact zNg this
   go_wp2_with fail
   have bb:=(Below.refl wr.heap.size wr).alloc (zNl _) (.cells #[.slice a1 l1.length c1,.slice a2 p.length c2] 39);have hb2:=zAA.step hb bb;refine (zCR (hr1.below bb) (h'.below hb2) hll hl').mono ?_;rintro e w' ⟨rfl,hw'⟩;have hcw:w'.cell? ⟨wr.heap.size,1,none⟩=some (.slice a2 p.length c2):=by obtain ⟨m,rfl⟩:=hw'; go_simp
   have hbq:=zAc hw';have hb3:Below w.heap.size w w':=zAA.step hb2 hbq;have hr3:=(hr2.below bb).below hbq;clear hw';cases hq:eqL l1 l
   ·go_wp2_with fail
    go_roundw
    case rel=>exact ⟨k+1,by omega,by go_num,hb3,by have:=HR2.out; rw [hq] at this; exact zNg (by simpa using this)⟩
    case measure=>simp [intOf]; omega
   ·have e2:p=r:=by have:=HR2.out; rw [hq] at this; simpa using this
    subst e2;have hcw2:=zAT hcw (.cells #[] 3);go_wp2_with (at_builtin; go_must (refine zAG rfl _ _ rfl rfl (FI.fresh0 w') zAo rfl (hr3.below zAo) ?_ ?_))
    ·simp; omega
    ·intro v' w2 f2 b2 _;have b3:Below w.heap.size w w2:=zAA.step hb3 b2;have hsz:=hb3.size;go_wp2_with fail
     go_ret
     exact ⟨_,rfl,by first | exact f2.mono (fun _ h=>⟨Nat.le_trans hsz h.1,h.2⟩) | (rw [List.nil_append] at f2; exact f2.mono (fun _ h=>⟨Nat.le_trans hsz h.1,h.2⟩)),b3⟩
  ·go_wp2_with fail
   go_ret
   have e:r=[]:=by
    have:=HR.out;rw [List.drop_eq_nil_of_le (by have:=H.out; omega)] at this;exact this.symm
   subst e;have hsz:=hb.size;exact ⟨_,rfl,(FI.fresh0 wr).mono (fun _ h=>⟨Nat.le_trans hsz h.1,h.2⟩),hb.alloc hb.size _⟩
theorem zHx {S:Nat→Prop} {v:Value} {L:List Trm} {w:World} (h:RT S w v L) (hl:zAD L≤16777216) :
  Calls Tryz.prog 35 #[v] w fun e w'=>∃r,e=.returned r∧FI (New w w') w' r (zAW [] L)∧Below w.heap.size w w':=by
 go_enter Tryz.func35,Tryz.ntmps35
 go_wp2_with fail
 refine (zCj (h.below zAo) (FI.fresh0 w).any hl (by simp)).mono ?_;rintro e w' ⟨r,rfl,f,hb⟩;go_wp2_with fail
 go_ret
 exact ⟨_,rfl,f.mono (fun _ h=>⟨by have:=h.1; simp at this; omega,h.2⟩),zAA.step zAo hb⟩
theorem zCa {S:Nat→Prop} {v:Value} {L:List Trm} {w:World} (h:RT S w v L) (hl:zAD L≤16777216) :
  Calls Tryz.prog 12 #[v] w fun e w'=>∃r,e=.returned r∧FI (New w w') w' r (zAW [] L)∧Below w.heap.size w w':=by
 go_enter Tryz.func12,Tryz.ntmps12
 go_wp2_with fail
 refine (zCi h (RL.nil (S:=Any) none 0 (by unfold maxLen; omega)) hl (by simp)).mono ?_;rintro e w' ⟨r,rfl,f,hb⟩;go_wp2_with fail
 go_ret
 exact ⟨_,rfl,f,hb⟩
end Go.Proofs.YtlchafedbnihoaaGreatDoor
