/- The sum of all counts of a character, and the count of a weight. Condition: sizes up to 2^24. -/
import Derived.Test.YtallmimhfmaapaaGreatDoorCGOWt
namespace Go.Proofs.YtallmimhfmaapaaGreatDoor
open Go.RowKit
set_option maxRecDepth 20000
set_option maxHeartbeats 8000000
def zAY (l:List Int):List Wtd→Int
 | []=>0
 | x::xs=>if eqL x.1 l then x.2 else zAY l xs
theorem zGG {S S':Nat→Prop} {v u:Value} {L:List Wtd} {l:List Int} {w:World} (h:RW S w v L) (h':RI S' w u l) (hl:zAF L≤16777216) (hl':l.length≤16777216) :
  Calls Tryz.prog 24 #[v,u] w fun e w'=>e=.returned (.int .i64 (zAY l L))∧∃m,w'=w.drewN m:=by
 obtain ⟨a,cap,rfl⟩:=h.form;have hn0:L.length≤16777216:=by unfold zAF at hl; omega
 generalize hr:zAY l L=r;have R:Hid (zAY l (L.drop 0)=r):=zTY hr;clear hr;generalize hn:L.length=n at *;have H:=zTY hn;clear hn;go_enter Tryz.func24,Tryz.ntmps24
 go_wp2_with fail
 go_loopw [5] (fun i wr=>∃(k:Nat),k≤n∧i=.int .i64 k∧(∃m,wr=w.drewN m)∧Hid (zAY l (L.drop k)=r)) (fun i _=>n-(intOf i).toNat)
 case atStart=>exact ⟨0,Nat.zero_le _,rfl,dr0,R⟩
 case round =>
  obtain ⟨k,hk,rfl,⟨m,hw⟩,HR⟩:=hrel;subst hw;by_cases hlt:k<n
  ·obtain ⟨b,o,r1,r2,x,rfl,hc,hc',⟨hr1,rfl⟩,hx⟩:=h.at hlt;obtain ⟨l1,c⟩:=x;have hll:l1.length≤16777216:=by have:=zK0 (zTa hx.out); simp at this; omega
   have HR2:Hid ((if eqL l1 l then c else zAY l (L.drop (k+1)))=r):=by
    have:=HR.out;rw [zAD hx.out,zAY] at this;exact zTY this
   go_wp2_with fail
   refine (zCL (hr1.drewN m) (h'.drewN m) hll hl').mono ?_;rintro e w' ⟨rfl,m2,rfl⟩;cases hq:eqL l1 l
   ·go_wp2_with fail
    go_roundw
    case rel=>exact ⟨k+1,by omega,by go_num,(by first | exact dr1 | exact dr2 | exact dr3),by have:=HR2.out; rw [hq] at this; exact zTY (by simpa using this)⟩
    case measure=>simp [intOf]; omega
   ·go_wp2_with fail
    go_ret
    exact ⟨zAT (by have:=HR2.out; rw [hq] at this; simpa using this),(by first | exact dr1 | exact dr2 | exact dr3)⟩
  ·go_wp2_with fail
   go_ret
   refine ⟨zAT ?_,m,rfl⟩;have:=HR.out;rw [List.drop_eq_nil_of_le (by have:=H.out; omega)] at this;exact this
theorem zK4 {S S':Nat→Prop} {v u:Value} {L:List Wtd} {l:List Int} {w:World} (h:RW S w v L) (h':RI S' w u l) (hl:zAF L≤16777216) (hl':l.length≤16777216) :
  Calls Tryz.prog 26 #[v,u] w fun e w'=>e=.returned (.int .i64 (zAY l L))∧Below w.heap.size w w':=by
 obtain ⟨a,cap,rfl⟩:=h.form;have hn0:L.length≤16777216:=by unfold zAF at hl; omega
 generalize hr:zAY l L=r;have R:Hid (zAY l (L.drop 0)=r):=zTY hr;clear hr;generalize hn:L.length=n at *;have H:=zTY hn;clear hn;go_enter Tryz.func26,Tryz.ntmps26
 go_wp2_with fail
 go_loopw [9] (fun i wr=>∃(k:Nat),k≤n∧i=.int .i64 k∧Hid (zAY l (L.drop k)=r)∧Below w.heap.size w wr) (fun i _=>n-(intOf i).toNat)
 case atStart=>exact ⟨0,Nat.zero_le _,rfl,R,Below.refl _ _⟩
 case round =>
  obtain ⟨k,hk,rfl,HR,hb⟩:=hrel;by_cases hlt:k<n
  ·obtain ⟨b,o,r1,r2,x,rfl,hc,hc',⟨hr1,rfl⟩,hx⟩:=(h.below hb).at hlt;obtain ⟨l1,c⟩:=x;obtain ⟨a1,c1,rfl⟩:=hr1.form;have hll:l1.length≤16777216:=by have:=zK0 (zTa hx.out); simp at this; omega
   have HR2:Hid ((if eqL l1 l then c else zAY l (L.drop (k+1)))=r):=by
    have:=HR.out;rw [zAD hx.out,zAY] at this;exact zTY this
   go_wp2_with fail
   have hb2:=hb.alloc hb.size (.cells #[.slice a1 l1.length c1,.int .i64 c] 52);refine (zLH (hr1.below ((Below.refl _ wr).alloc (zTd _) _)) (h'.below hb2) hll hl').mono ?_;rintro e w' ⟨rfl,m2,rfl⟩;cases hq:eqL l1 l
   ·go_wp2_with fail
    go_roundw
    case rel=>exact ⟨k+1,by omega,by go_num,by have:=HR2.out; rw [hq] at this; exact zTY (by simpa using this),below_drewN hb2 _⟩
    case measure=>simp [intOf]; omega
   ·go_wp2_with fail
    go_ret
    exact ⟨zAT (by have:=HR2.out; rw [hq] at this; simpa using this),below_drewN hb2 _⟩
  ·go_wp2_with fail
   go_ret
   refine ⟨zAT ?_,hb⟩;have:=HR.out;rw [List.drop_eq_nil_of_le (by have:=H.out; omega)] at this;exact this
end Go.Proofs.YtallmimhfmaapaaGreatDoor
