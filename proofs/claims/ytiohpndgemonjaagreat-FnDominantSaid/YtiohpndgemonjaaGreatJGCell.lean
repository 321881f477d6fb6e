/- The coefficient of a word in a list of terms. Condition: sizes up to 2^24. -/
import Derived.Test.YtiohpndgemonjaaGreatJGWords
import Derived.Test.YtiohpndgemonjaaGreatJGCart
namespace Go.Proofs.YtiohpndgemonjaaGreat
open Go.RowKit
set_option maxRecDepth 20000
set_option maxHeartbeats 8000000
theorem zAI {w:World} {e:TypeId}:Below w.heap.size w (w.alloc (.cells #[] e)):=(Below.refl _ w).alloc (zQj _) _
theorem FI.fresh0 (w:World):FI (New w (w.alloc (.cells #[] 3))) (w.alloc (.cells #[] 3)) (.slice (some ⟨w.heap.size,0,none⟩) 0 0) []:=by
 have:=World.ownsRow_lit (base:=w.heap.size) (e:=3) (size:=1) w #[] 0 (zQj _) (by unfold maxLen; omega) rfl;exact FI.of_row this (zQj _) rfl rfl
def hasI (x:Int):List Int→Bool
 | []=>false
 | y::ys=>if y=x then true else hasI x ys
theorem zJ1 {S:Nat→Prop} {v:Value} {l:List Int} {w:World} (h:RI S w v l) (q:Int) (hl:l.length≤16777216) :
  Calls Tryz.prog 153 #[v,.int .i64 q] w fun e w'=>e=.returned (.bool (hasI q l))∧w=w':=by
 obtain ⟨a,cap,rfl⟩:=h.form;generalize hr:hasI q l=r;have R:Hid (hasI q (l.drop 0)=r):=zQe hr;clear hr;generalize hn:l.length=n at *;have H:=zQe hn;clear hn;go_enter Tryz.func153,Tryz.ntmps153
 go_wp2_with fail
 go_loop [5] (fun i=>∃k:Nat,k≤n∧i=.int .i64 k∧Hid (hasI q (l.drop k)=r)) (fun i=>n-(intOf i).toNat)
 case atStart=>exact ⟨0,Nat.zero_le _,rfl,R⟩
 case round =>
  obtain ⟨k,hk,rfl,HR⟩:=hrel;by_cases hlt:k<n
  ·obtain ⟨b,o,x,rfl,hc,hx⟩:=h.at hlt;have HR2:Hid ((if x=q then true else hasI q (l.drop (k+1)))=r):=by
    have:=HR.out;rw [zAC hx.out,hasI] at this;exact zQe this
   by_cases h1:x=q
   ·subst h1;go_wp2_with fail
    go_ret
    exact ⟨zAB (by have:=HR2.out; simpa using this),rfl⟩
   ·have h1':(x == q)=false:=by simp; omega
    have HR3:Hid (hasI q (l.drop (k+1))=r):=by have:=HR2.out; rw [if_neg h1] at this; exact zQe this
    clear h1;go_wp2_with fail
    go_round
    case rel=>exact ⟨k+1,by omega,by go_num,HR3⟩
    case measure=>simp [intOf]; omega
  ·go_wp2_with fail
   go_ret
   refine ⟨zAB ?_,rfl⟩;have:=HR.out;rw [List.drop_eq_nil_of_le (by have:=H.out; omega)] at this;exact this
end Go.Proofs.YtiohpndgemonjaaGreat
