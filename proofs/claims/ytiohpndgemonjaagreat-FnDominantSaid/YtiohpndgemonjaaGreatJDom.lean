/- The first negative number of a list, and whether there is none. Condition: at most 2^24 numbers. -/
import Derived.Test.YtiohpndgemonjaaGreatJGBase
namespace Go.Proofs.YtiohpndgemonjaaGreat
open Go.RowKit
set_option maxRecDepth 20000
set_option maxHeartbeats 8000000
def zAo:List Int→Nat→Int
 | [],_=>-1
 | x::xs,k=>if x<0 then (k:Int) else zAo xs (k+1)
def zFk (l:List Int):Int:=zAo l 0
def dom:List Int→Bool
 | []=>true
 | x::xs=>if x<0 then false else dom xs
theorem zDO:∀(l:List Int) (k:Nat),decide (zAo l k<0)=dom l
 | [],k=>by simp [zAo,dom]
 | x::xs,k=>by
  unfold zAo dom;by_cases h:x<0
  ·simp [h]
  ·simp [h,zDO xs (k+1)]
theorem zFj {S:Nat→Prop} {v:Value} {l:List Int} {w:World} (h:RI S w v l) (hl:l.length≤16777216) :
  Calls Tryz.prog 41 #[v] w fun e w'=>e=.returned (.int .i64 (zFk l))∧w=w':=by
 obtain ⟨a,cap,rfl⟩:=h.form;generalize hr:zFk l=r;have R:Hid (zAo (l.drop 0) 0=r):=zQe hr;clear hr;generalize hn:l.length=n at *;have H:=zQe hn;clear hn;go_enter Tryz.func41,Tryz.ntmps41
 go_wp2_with fail
 go_loop [7] (fun i=>∃k:Nat,k≤n∧i=.int .i64 k∧Hid (zAo (l.drop k) k=r)) (fun i=>n-(intOf i).toNat)
 case atStart=>exact ⟨0,Nat.zero_le _,rfl,R⟩
 case round =>
  obtain ⟨k,hk,rfl,HR⟩:=hrel;by_cases hlt:k<n
  ·obtain ⟨b,o,x,rfl,hc,hx⟩:=h.at hlt;have HR2:Hid ((if x<0 then (k:Int) else zAo (l.drop (k+1)) (k+1))=r):=by
    have:=HR.out;rw [zAC hx.out,zAo] at this;exact zQe this
   by_cases h1:x<0
   ·go_wp2_with fail
    go_ret
    exact ⟨zAQ (by have:=HR2.out; rw [if_pos (by omega)] at this; exact this),rfl⟩
   ·go_wp2_with fail
    go_round
    case rel=>exact ⟨k+1,by omega,by go_num,by have:=HR2.out; rw [if_neg (by omega)] at this; exact zQe this⟩
    case measure=>simp [intOf]; omega
  ·go_wp2_with fail
   go_ret
   refine ⟨zAQ ?_,rfl⟩;have:=HR.out;rw [List.drop_eq_nil_of_le (by have:=H.out; omega)] at this;exact this
theorem zBB {S:Nat→Prop} {v:Value} {l:List Int} {w:World} (h:RI S w v l) (hl:l.length≤16777216) :
  Calls Tryz.prog 9 #[v] w fun e w'=>e=.returned (.bool (dom l))∧w=w':=by
 have E:=zQe (zDO l 0);go_enter Tryz.func9,Tryz.ntmps9
 go_wp2_with fail
 refine (zFj h hl).mono ?_;unfold zFk;generalize zAo l 0=r at *;rintro e w' ⟨rfl,rfl⟩;go_wp2_with fail
 go_ret
 exact ⟨zAB E.out,rfl⟩
theorem zCb {S:Nat→Prop} {v:Value} {l:List Int} {w:World} (h:RI S w v l) (hl:l.length≤16777216) :
  Calls Tryz.prog 33 #[v] w fun e w'=>e=.returned (.bool (dom l))∧w=w':=by
 obtain ⟨a,cap,rfl⟩:=h.form;generalize hr:dom l=r;have R:Hid (dom (l.drop 0)=r):=zQe hr;clear hr;generalize hn:l.length=n at *;have H:=zQe hn;clear hn;go_enter Tryz.func33,Tryz.ntmps33
 go_wp2_with fail
 go_loop [3] (fun i=>∃k:Nat,k≤n∧i=.int .i64 k∧Hid (dom (l.drop k)=r)) (fun i=>n-(intOf i).toNat)
 case atStart=>exact ⟨0,Nat.zero_le _,rfl,R⟩
 case round =>
  obtain ⟨k,hk,rfl,HR⟩:=hrel;by_cases hlt:k<n
  ·obtain ⟨b,o,x,rfl,hc,hx⟩:=h.at hlt;have HR2:Hid ((if x<0 then false else dom (l.drop (k+1)))=r):=by
    have:=HR.out;rw [zAC hx.out,dom] at this;exact zQe this
   by_cases h1:x<0
   ·go_wp2_with fail
    go_ret
    exact ⟨zAB (by have:=HR2.out; rw [if_pos (by omega)] at this; exact this),rfl⟩
   ·go_wp2_with fail
    go_round
    case rel=>exact ⟨k+1,by omega,by go_num,by have:=HR2.out; rw [if_neg (by omega)] at this; exact zQe this⟩
    case measure=>simp [intOf]; omega
  ·go_wp2_with fail
   go_ret
   refine ⟨zAB ?_,rfl⟩;have:=HR.out;rw [List.drop_eq_nil_of_le (by have:=H.out; omega)] at this;exact this
end Go.Proofs.YtiohpndgemonjaaGreat
