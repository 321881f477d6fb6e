/- The sum of all counts of a character, and the count of a weight. Condition: sizes up to 2^24. -/
import Derived.Test.YtphbichgpcicnaaGreatDoorJGOWt
namespace Go.Proofs.YtphbichgpcicnaaGreatDoor
open Go.RowKit
set_option maxRecDepth 20000
set_option maxHeartbeats 8000000
def zDI:List Wtd→Int→Int
 | [],s=>s
 | x::xs,s=>zDI xs (wrap64 (s+x.2))
theorem zFk {S:Nat→Prop} {v:Value} {L:List Wtd} {w:World} (h:RW S w v L) (hl:zB2 L≤16777216) :
  Calls Tryz.prog 19 #[v] w fun e w'=>e=.returned (.int .i64 (zDI L 0))∧Below w.heap.size w w':=by
 obtain ⟨a,cap,rfl⟩:=h.form;have hl:L.length≤16777216:=by unfold zB2 at hl; omega
 generalize hr:zDI L 0=r;have R:Hid (zDI (L.drop 0) 0=r):=zWF hr;clear hr;generalize hn:L.length=n at *;have H:=zWF hn;clear hn;go_enter Tryz.func19,Tryz.ntmps19
 go_wp2_with fail
 go_loopw [3,8] (fun s i wr=>∃(k:Nat) (t:Int),k≤n∧i=.int .i64 k∧s=.int .i64 t∧Hid (zDI (L.drop k) t=r)∧Below w.heap.size w wr) (fun _ i _=>n-(intOf i).toNat)
 case atStart=>exact ⟨0,0,Nat.zero_le _,rfl,rfl,R,Below.refl _ _⟩
 case round =>
  obtain ⟨k,t,hk,rfl,rfl,HR,hb⟩:=hrel;by_cases hlt:k<n
  ·obtain ⟨b,o,r1,r2,x,rfl,hc,hc',⟨hr1,rfl⟩,hx⟩:=(h.below hb).at hlt;obtain ⟨l,c⟩:=x;obtain ⟨a1,c1,rfl⟩:=hr1.form;go_wp2_with fail
   go_roundw
   case rel=>exact ⟨k+1,_,by omega,by go_num,rfl,by have:=HR.out; rw [zAC hx.out,zDI] at this; exact zWF this,hb.alloc hb.size _⟩
   case measure=>simp [intOf]; omega
  ·go_wp2_with fail
   go_ret
   refine ⟨zAP ?_,hb⟩;have:=HR.out;rw [List.drop_eq_nil_of_le (by have:=H.out; omega)] at this;exact this
def zAn (l:List Int):List Wtd→Int
 | []=>0
 | x::xs=>if eqL x.1 l then x.2 else zAn l xs
theorem zLk {S S':Nat→Prop} {v u:Value} {L:List Wtd} {l:List Int} {w:World} (h:RW S w v L) (h':RI S' w u l) (hl:zB2 L≤16777216) (hl':l.length≤16777216) :
  Calls Tryz.prog 48 #[v,u] w fun e w'=>e=.returned (.int .i64 (zAn l L))∧Below w.heap.size w w':=by
 obtain ⟨a,cap,rfl⟩:=h.form;have hn0:L.length≤16777216:=by unfold zB2 at hl; omega
 generalize hr:zAn l L=r;have R:Hid (zAn l (L.drop 0)=r):=zWF hr;clear hr;generalize hn:L.length=n at *;have H:=zWF hn;clear hn;go_enter Tryz.func48,Tryz.ntmps48
 go_wp2_with fail
 go_loopw [9] (fun i wr=>∃(k:Nat),k≤n∧i=.int .i64 k∧Hid (zAn l (L.drop k)=r)∧Below w.heap.size w wr) (fun i _=>n-(intOf i).toNat)
 case atStart=>exact ⟨0,Nat.zero_le _,rfl,R,Below.refl _ _⟩
 case round =>
  obtain ⟨k,hk,rfl,HR,hb⟩:=hrel;by_cases hlt:k<n
  ·obtain ⟨b,o,r1,r2,x,rfl,hc,hc',⟨hr1,rfl⟩,hx⟩:=(h.below hb).at hlt;obtain ⟨l1,c⟩:=x;obtain ⟨a1,c1,rfl⟩:=hr1.form;have hll:l1.length≤16777216:=by have:=zVs (zWH hx.out); simp at this; omega
   have HR2:Hid ((if eqL l1 l then c else zAn l (L.drop (k+1)))=r):=by
    have:=HR.out;rw [zAC hx.out,zAn] at this;exact zWF this
   go_wp2_with fail
   have hb2:=hb.alloc hb.size (.cells #[.slice a1 l1.length c1,.int .i64 c] 63);refine (zLs (hr1.below ((Below.refl _ wr).alloc (zWK _) _)) (h'.below hb2) hll hl').mono ?_;rintro e w' ⟨rfl,m2,rfl⟩;cases hq:eqL l1 l
   ·go_wp2_with fail
    go_roundw
    case rel=>exact ⟨k+1,by omega,by go_num,by have:=HR2.out; rw [hq] at this; exact zWF (by simpa using this),below_drewN hb2 _⟩
    case measure=>simp [intOf]; omega
   ·go_wp2_with fail
    go_ret
    exact ⟨zAP (by have:=HR2.out; rw [hq] at this; simpa using this),below_drewN hb2 _⟩
  ·go_wp2_with fail
   go_ret
   refine ⟨zAP ?_,hb⟩;have:=HR.out;rw [List.drop_eq_nil_of_le (by have:=H.out; omega)] at this;exact this
end Go.Proofs.YtphbichgpcicnaaGreatDoor
