/- The first negative number of a list, and whether there is none. Condition: at most 2^24 numbers. -/
import Derived.Test.YtphbichgpcicnaaGreatDoorJGCart
namespace Go.Proofs.YtphbichgpcicnaaGreatDoor
open Go.RowKit
set_option maxRecDepth 20000
set_option maxHeartbeats 8000000
def zA0:List Int→Nat→Int
 | [],_=>-1
 | x::xs,k=>if x<0 then (k:Int) else zA0 xs (k+1)
def zHO (l:List Int):Int:=zA0 l 0
def dom:List Int→Bool
 | []=>true
 | x::xs=>if x<0 then false else dom xs
theorem zED:∀(l:List Int) (k:Nat),decide (zA0 l k<0)=dom l
 | [],k=>by simp [zA0,dom]
 | x::xs,k=>by
  unfold zA0 dom;by_cases h:x<0
  ·simp [h]
  ·simp [h,zED xs (k+1)]
theorem zHN {S:Nat→Prop} {v:Value} {l:List Int} {w:World} (h:RI S w v l) (hl:l.length≤16777216) :
  Calls Tryz.prog 142 #[v] w fun e w'=>e=.returned (.int .i64 (zHO l))∧w=w':=by
 obtain ⟨a,cap,rfl⟩:=h.form;generalize hr:zHO l=r;have R:Hid (zA0 (l.drop 0) 0=r):=zWF hr;clear hr;generalize hn:l.length=n at *;have H:=zWF hn;clear hn;go_enter Tryz.func142,Tryz.ntmps142
 go_wp2_with fail
 go_loop [7] (fun i=>∃k:Nat,k≤n∧i=.int .i64 k∧Hid (zA0 (l.drop k) k=r)) (fun i=>n-(intOf i).toNat)
 case atStart=>exact ⟨0,Nat.zero_le _,rfl,R⟩
 case round =>
  obtain ⟨k,hk,rfl,HR⟩:=hrel;by_cases hlt:k<n
  ·obtain ⟨b,o,x,rfl,hc,hx⟩:=h.at hlt;have HR2:Hid ((if x<0 then (k:Int) else zA0 (l.drop (k+1)) (k+1))=r):=by
    have:=HR.out;rw [zAC hx.out,zA0] at this;exact zWF this
   by_cases h1:x<0
   ·go_wp2_with fail
    go_ret
    exact ⟨zAP (by have:=HR2.out; rw [if_pos (by omega)] at this; exact this),rfl⟩
   ·go_wp2_with fail
    go_round
    case rel=>exact ⟨k+1,by omega,by go_num,by have:=HR2.out; rw [if_neg (by omega)] at this; exact zWF this⟩
    case measure=>simp [intOf]; omega
  ·go_wp2_with fail
   go_ret
   refine ⟨zAP ?_,rfl⟩;have:=HR.out;rw [List.drop_eq_nil_of_le (by have:=H.out; omega)] at this;exact this
theorem zEt {S:Nat→Prop} {v:Value} {l:List Int} {w:World} (h:RI S w v l) (hl:l.length≤16777216) :
  Calls Tryz.prog 127 #[v] w fun e w'=>e=.returned (.bool (dom l))∧w=w':=by
 have E:=zWF (zED l 0);go_enter Tryz.func127,Tryz.ntmps127
 go_wp2_with fail
 refine (zHN h hl).mono ?_;unfold zHO;generalize zA0 l 0=r at *;rintro e w' ⟨rfl,rfl⟩;go_wp2_with fail
 go_ret
 exact ⟨zAD E.out,rfl⟩
theorem FI.fresh (w:World) {w1:World} (h:w1=w.alloc (.cells #[] 3)):FI (New w w1) w1 (.slice (some ⟨w.heap.size,0,none⟩) 0 0) []:=by
 subst h;exact FI.of_row (World.ownsRow_lit (base:=w.heap.size) (e:=3) (size:=1) w #[] 0 (zWK _) (by unfold maxLen; omega) rfl) (zWK _) rfl rfl
end Go.Proofs.YtphbichgpcicnaaGreatDoor
