/- The first negative number of a list, and whether there is none. Condition: at most 2^24 numbers. -/
import Derived.Test.YtallmimhfmaapaaGreatDoorCGBase
namespace Go.Proofs.YtallmimhfmaapaaGreatDoor
open Go.RowKit
set_option maxRecDepth 20000
set_option maxHeartbeats 8000000
def zAv:List Int→Nat→Int
 | [],_=>-1
 | x::xs,k=>if x<0 then (k:Int) else zAv xs (k+1)
def zGh (l:List Int):Int:=zAv l 0
def dom:List Int→Bool
 | []=>true
 | x::xs=>if x<0 then false else dom xs
theorem zD1:∀(l:List Int) (k:Nat),decide (zAv l k<0)=dom l
 | [],k=>by simp [zAv,dom]
 | x::xs,k=>by
  unfold zAv dom;by_cases h:x<0
  ·simp [h]
  ·simp [h,zD1 xs (k+1)]
theorem zGg {S:Nat→Prop} {v:Value} {l:List Int} {w:World} (h:RI S w v l) (hl:l.length≤16777216) :
  Calls Tryz.prog 110 #[v] w fun e w'=>e=.returned (.int .i64 (zGh l))∧w=w':=by
 obtain ⟨a,cap,rfl⟩:=h.form;generalize hr:zGh l=r;have R:Hid (zAv (l.drop 0) 0=r):=zTY hr;clear hr;generalize hn:l.length=n at *;have H:=zTY hn;clear hn;go_enter Tryz.func110,Tryz.ntmps110
 go_wp2_with fail
 go_loop [7] (fun i=>∃k:Nat,k≤n∧i=.int .i64 k∧Hid (zAv (l.drop k) k=r)) (fun i=>n-(intOf i).toNat)
 case atStart=>exact ⟨0,Nat.zero_le _,rfl,R⟩
 case round =>
  obtain ⟨k,hk,rfl,HR⟩:=hrel;by_cases hlt:k<n
  ·obtain ⟨b,o,x,rfl,hc,hx⟩:=h.at hlt;have HR2:Hid ((if x<0 then (k:Int) else zAv (l.drop (k+1)) (k+1))=r):=by
    have:=HR.out;rw [zAD hx.out,zAv] at this;exact zTY this
   by_cases h1:x<0
   ·go_wp2_with fail
    go_ret
    exact ⟨zAT (by have:=HR2.out; rw [if_pos (by omega)] at this; exact this),rfl⟩
   ·go_wp2_with fail
    go_round
    case rel=>exact ⟨k+1,by omega,by go_num,by have:=HR2.out; rw [if_neg (by omega)] at this; exact zTY this⟩
    case measure=>simp [intOf]; omega
  ·go_wp2_with fail
   go_ret
   refine ⟨zAT ?_,rfl⟩;have:=HR.out;rw [List.drop_eq_nil_of_le (by have:=H.out; omega)] at this;exact this
theorem zEZ {S:Nat→Prop} {v:Value} {l:List Int} {w:World} (h:RI S w v l) (hl:l.length≤16777216) :
  Calls Tryz.prog 72 #[v] w fun e w'=>e=.returned (.bool (dom l))∧w=w':=by
 have E:=zTY (zD1 l 0);go_enter Tryz.func72,Tryz.ntmps72
 go_wp2_with fail
 refine (zGg h hl).mono ?_;unfold zGh;generalize zAv l 0=r at *;rintro e w' ⟨rfl,rfl⟩;go_wp2_with fail
 go_ret
 exact ⟨zAB E.out,rfl⟩
theorem zHz {S:Nat→Prop} {v:Value} {l:List Int} {w:World} (h:RI S w v l) (hl:l.length≤16777216) :
  Calls Tryz.prog 59 #[v] w fun e w'=>e=.returned (.bool (dom l))∧w=w':=by
 obtain ⟨a,cap,rfl⟩:=h.form;generalize hr:dom l=r;have R:Hid (dom (l.drop 0)=r):=zTY hr;clear hr;generalize hn:l.length=n at *;have H:=zTY hn;clear hn;go_enter Tryz.func59,Tryz.ntmps59
 go_wp2_with fail
 go_loop [3] (fun i=>∃k:Nat,k≤n∧i=.int .i64 k∧Hid (dom (l.drop k)=r)) (fun i=>n-(intOf i).toNat)
 case atStart=>exact ⟨0,Nat.zero_le _,rfl,R⟩
 case round =>
  obtain ⟨k,hk,rfl,HR⟩:=hrel;by_cases hlt:k<n
  ·obtain ⟨b,o,x,rfl,hc,hx⟩:=h.at hlt;have HR2:Hid ((if x<0 then false else dom (l.drop (k+1)))=r):=by
    have:=HR.out;rw [zAD hx.out,dom] at this;exact zTY this
   by_cases h1:x<0
   ·go_wp2_with fail
    go_ret
    exact ⟨zAB (by have:=HR2.out; rw [if_pos (by omega)] at this; exact this),rfl⟩
   ·go_wp2_with fail
    go_round
    case rel=>exact ⟨k+1,by omega,by go_num,by have:=HR2.out; rw [if_neg (by omega)] at this; exact zTY this⟩
    case measure=>simp [intOf]; omega
  ·go_wp2_with fail
   go_ret
   refine ⟨zAB ?_,rfl⟩;have:=HR.out;rw [List.drop_eq_nil_of_le (by have:=H.out; omega)] at this;exact this
end Go.Proofs.YtallmimhfmaapaaGreatDoor
