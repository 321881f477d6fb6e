/- The coefficient of a word in a list of terms. Condition: sizes up to 2^24. -/
import Derived.Test.YtphbichgpcicnaaGreatDoorJGWords
import Derived.Test.YtphbichgpcicnaaGreatDoorJGCart
namespace Go.Proofs.YtphbichgpcicnaaGreatDoor
open Go.RowKit
set_option maxRecDepth 20000
set_option maxHeartbeats 8000000
theorem zAO {w:World} {e:TypeId}:Below w.heap.size w (w.alloc (.cells #[] e)):=(Below.refl _ w).alloc (zWK _) _
theorem FI.fresh0 (w:World):FI (New w (w.alloc (.cells #[] 3))) (w.alloc (.cells #[] 3)) (.slice (some ⟨w.heap.size,0,none⟩) 0 0) []:=by
 have:=World.ownsRow_lit (base:=w.heap.size) (e:=3) (size:=1) w #[] 0 (zWK _) (by unfold maxLen; omega) rfl;exact FI.of_row this (zWK _) rfl rfl
def hasI (x:Int):List Int→Bool
 | []=>false
 | y::ys=>if y=x then true else hasI x ys
def zBD (x:Int):List Int→Nat→Int
 | [],_=>-1
 | y::ys,k=>if y=x then (k:Int) else zBD x ys (k+1)
theorem zFc (x:Int):∀(l:List Int) (k:Nat),decide (0≤zBD x l k)=hasI x l
 | [],k=>by simp [zBD,hasI]
 | y::ys,k=>by
  unfold zBD hasI;by_cases h:y=x
  ·simp [h]
  ·simp [h,zFc x ys (k+1)]
theorem zLt {S:Nat→Prop} {v:Value} {l:List Int} {w:World} (h:RI S w v l) (q:Int) (hl:l.length≤16777216) :
  Calls Tryz.prog 227 #[v,.int .i64 q] w fun e w'=>e=.returned (.int .i64 (zBD q l 0))∧w=w':=by
 obtain ⟨a,cap,rfl⟩:=h.form;generalize hr:zBD q l 0=r;have R:Hid (zBD q (l.drop 0) 0=r):=zWF hr;clear hr;generalize hn:l.length=n at *;have H:=zWF hn;clear hn;go_enter Tryz.func227,Tryz.ntmps227
 go_wp2_with fail
 go_loop [8] (fun i=>∃k:Nat,k≤n∧i=.int .i64 k∧Hid (zBD q (l.drop k) k=r)) (fun i=>n-(intOf i).toNat)
 case atStart=>exact ⟨0,Nat.zero_le _,rfl,R⟩
 case round =>
  obtain ⟨k,hk,rfl,HR⟩:=hrel;by_cases hlt:k<n
  ·obtain ⟨b,o,x,rfl,hc,hx⟩:=h.at hlt;have HR2:Hid ((if x=q then (k:Int) else zBD q (l.drop (k+1)) (k+1))=r):=by
    have:=HR.out;rw [zAC hx.out,zBD] at this;exact zWF this
   by_cases h1:x=q
   ·subst h1;go_wp2_with fail
    go_ret
    exact ⟨zAP (by have:=HR2.out; simpa using this),rfl⟩
   ·have h1':(q == x)=false:=by simp; omega
    have HR3:Hid (zBD q (l.drop (k+1)) (k+1)=r):=by have:=HR2.out; rw [if_neg h1] at this; exact zWF this
    clear h1;go_wp2_with fail
    go_round
    case rel=>exact ⟨k+1,by omega,by go_num,HR3⟩
    case measure=>simp [intOf]; omega
  ·go_wp2_with fail
   go_ret
   refine ⟨zAP ?_,rfl⟩;have:=HR.out;rw [List.drop_eq_nil_of_le (by have:=H.out; omega)] at this;exact this
theorem zIl {S:Nat→Prop} {v:Value} {l:List Int} {w:World} (h:RI S w v l) (q:Int) (hl:l.length≤16777216) :
  Calls Tryz.prog 219 #[v,.int .i64 q] w fun e w'=>e=.returned (.bool (hasI q l))∧w=w':=by
 have E:=zWF (zFc q l 0);go_enter Tryz.func219,Tryz.ntmps219
 go_wp2_with fail
 refine (zLt h q hl).mono ?_;generalize zBD q l 0=r at *;rintro e w' ⟨rfl,rfl⟩;go_wp2_with fail
 go_ret
 exact ⟨zAD E.out,rfl⟩
end Go.Proofs.YtphbichgpcicnaaGreatDoor
