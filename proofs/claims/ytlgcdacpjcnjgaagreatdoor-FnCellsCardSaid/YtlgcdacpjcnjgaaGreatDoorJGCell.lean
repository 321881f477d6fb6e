/- The coefficient of a word in a list of terms. Condition: sizes up to 2^24. -/
import Derived.Test.YtlgcdacpjcnjgaaGreatDoorJLawTerm
import Derived.Test.YtlgcdacpjcnjgaaGreatDoorJGCart
namespace Go.Proofs.YtlgcdacpjcnjgaaGreatDoor
open Go.RowKit
set_option maxRecDepth 20000
set_option maxHeartbeats 8000000
theorem zAm {w:World} {e:TypeId}:Below w.heap.size w (w.alloc (.cells #[] e)):=(Below.refl _ w).alloc (zTI _) _
theorem FI.fresh0 (w:World):FI (New w (w.alloc (.cells #[] 3))) (w.alloc (.cells #[] 3)) (.slice (some ⟨w.heap.size,0,none⟩) 0 0) []:=by
 have:=World.ownsRow_lit (base:=w.heap.size) (e:=3) (size:=1) w #[] 0 (zTI _) (by unfold maxLen; omega) rfl;exact FI.of_row this (zTI _) rfl rfl
def hasI (x:Int):List Int→Bool
 | []=>false
 | y::ys=>if y=x then true else hasI x ys
def zBG (x:Int):List Int→Nat→Int
 | [],_=>-1
 | y::ys,k=>if y=x then (k:Int) else zBG x ys (k+1)
def zAq (x:Int):List (List Int)→Nat→Int
 | [],_=>-1
 | l::L,k=>if hasI x l then (k:Int) else zAq x L (k+1)
theorem zEc (x:Int):∀(l:List Int) (k:Nat),decide (0≤zBG x l k)=hasI x l
 | [],k=>by simp [zBG,hasI]
 | y::ys,k=>by
  unfold zBG hasI;by_cases h:y=x
  ·simp [h]
  ·simp [h,zEc x ys (k+1)]
theorem zJx {S:Nat→Prop} {v:Value} {l:List Int} {w:World} (h:RI S w v l) (q:Int) (hl:l.length≤16777216) :
  Calls Tryz.prog 82 #[v,.int .i64 q] w fun e w'=>e=.returned (.int .i64 (zBG q l 0))∧w=w':=by
 obtain ⟨a,cap,rfl⟩:=h.form;generalize hr:zBG q l 0=r;have R:Hid (zBG q (l.drop 0) 0=r):=zTD hr;clear hr;generalize hn:l.length=n at *;have H:=zTD hn;clear hn;go_enter Tryz.func82,Tryz.ntmps82
 go_wp2_with fail
 go_loop [8] (fun i=>∃k:Nat,k≤n∧i=.int .i64 k∧Hid (zBG q (l.drop k) k=r)) (fun i=>n-(intOf i).toNat)
 case atStart=>exact ⟨0,Nat.zero_le _,rfl,R⟩
 case round =>
  obtain ⟨k,hk,rfl,HR⟩:=hrel;by_cases hlt:k<n
  ·obtain ⟨b,o,x,rfl,hc,hx⟩:=h.at hlt;have HR2:Hid ((if x=q then (k:Int) else zBG q (l.drop (k+1)) (k+1))=r):=by
    have:=HR.out;rw [zAK hx.out,zBG] at this;exact zTD this
   by_cases h1:x=q
   ·subst h1;go_wp2_with fail
    go_ret
    exact ⟨zAR (by have:=HR2.out; simpa using this),rfl⟩
   ·have h1':(q == x)=false:=by simp; omega
    have HR3:Hid (zBG q (l.drop (k+1)) (k+1)=r):=by have:=HR2.out; rw [if_neg h1] at this; exact zTD this
    clear h1;go_wp2_with fail
    go_round
    case rel=>exact ⟨k+1,by omega,by go_num,HR3⟩
    case measure=>simp [intOf]; omega
  ·go_wp2_with fail
   go_ret
   refine ⟨zAR ?_,rfl⟩;have:=HR.out;rw [List.drop_eq_nil_of_le (by have:=H.out; omega)] at this;exact this
theorem zD5 {S:Nat→Prop} {v:Value} {l:List Int} {w:World} (h:RI S w v l) (q:Int) (hl:l.length≤16777216) :
  Calls Tryz.prog 46 #[v,.int .i64 q] w fun e w'=>e=.returned (.bool (hasI q l))∧w=w':=by
 have E:=zTD (zEc q l 0);go_enter Tryz.func46,Tryz.ntmps46
 go_wp2_with fail
 refine (zJx h q hl).mono ?_;generalize zBG q l 0=r at *;rintro e w' ⟨rfl,rfl⟩;go_wp2_with fail
 go_ret
 exact ⟨zAG E.out,rfl⟩
theorem zFU {S:Nat→Prop} {v:Value} {l:List Int} {w:World} (h:RI S w v l) (q:Int) (hl:l.length≤16777216) :
  Calls Tryz.prog 57 #[v,.int .i64 q] w fun e w'=>e=.returned (.bool (hasI q l))∧w=w':=by
 obtain ⟨a,cap,rfl⟩:=h.form;generalize hr:hasI q l=r;have R:Hid (hasI q (l.drop 0)=r):=zTD hr;clear hr;generalize hn:l.length=n at *;have H:=zTD hn;clear hn;go_enter Tryz.func57,Tryz.ntmps57
 go_wp2_with fail
 go_loop [5] (fun i=>∃k:Nat,k≤n∧i=.int .i64 k∧Hid (hasI q (l.drop k)=r)) (fun i=>n-(intOf i).toNat)
 case atStart=>exact ⟨0,Nat.zero_le _,rfl,R⟩
 case round =>
  obtain ⟨k,hk,rfl,HR⟩:=hrel;by_cases hlt:k<n
  ·obtain ⟨b,o,x,rfl,hc,hx⟩:=h.at hlt;have HR2:Hid ((if x=q then true else hasI q (l.drop (k+1)))=r):=by
    have:=HR.out;rw [zAK hx.out,hasI] at this;exact zTD this
   by_cases h1:x=q
   ·subst h1;go_wp2_with fail
    go_ret
    exact ⟨zAG (by have:=HR2.out; simpa using this),rfl⟩
   ·have h1':(x == q)=false:=by simp; omega
    have HR3:Hid (hasI q (l.drop (k+1))=r):=by have:=HR2.out; rw [if_neg h1] at this; exact zTD this
    clear h1;go_wp2_with fail
    go_round
    case rel=>exact ⟨k+1,by omega,by go_num,HR3⟩
    case measure=>simp [intOf]; omega
  ·go_wp2_with fail
   go_ret
   refine ⟨zAG ?_,rfl⟩;have:=HR.out;rw [List.drop_eq_nil_of_le (by have:=H.out; omega)] at this;exact this
theorem zGG {S:Nat→Prop} {v:Value} {L:List (List Int)} {q:Int} {w:World} (h:RII S w v L) (hl:total L≤16777216) :
  Calls Tryz.prog 21 #[v,.int .i64 q] w fun e w'=>e=.returned (.int .i64 (zAq q L 0))∧w=w':=by
 obtain ⟨a,cap,rfl⟩:=h.form;have hn0:L.length≤16777216:=by unfold total at hl; omega
 generalize hr:zAq q L 0=r;have R:Hid (zAq q (L.drop 0) 0=r):=zTD hr;clear hr;generalize hn:L.length=n at *;have H:=zTD hn;clear hn;go_enter Tryz.func21,Tryz.ntmps21
 go_wp2_with fail
 go_loop [5] (fun i=>∃k:Nat,k≤n∧i=.int .i64 k∧Hid (zAq q (L.drop k) k=r)) (fun i=>n-(intOf i).toNat)
 case atStart=>exact ⟨0,Nat.zero_le _,rfl,R⟩
 case round =>
  obtain ⟨k,hk,rfl,HR⟩:=hrel;by_cases hlt:k<n
  ·obtain ⟨b,o,r1,l,rfl,hc,hr1,hx⟩:=h.at hlt;have hll:l.length≤16777216:=by have:=zNJ (zTF hx.out); omega
   have HR2:Hid ((if hasI q l then (k:Int) else zAq q (L.drop (k+1)) (k+1))=r):=by
    have:=HR.out;rw [zAK hx.out,zAq] at this;exact zTD this
   go_wp2_with fail
   refine (zFU hr1 q hll).mono ?_;rintro e w' ⟨rfl,rfl⟩;cases hq:hasI q l
   ·go_wp2_with fail
    go_round
    case rel=>exact ⟨k+1,by omega,by go_num,by have:=HR2.out; rw [hq] at this; exact zTD (by simpa using this)⟩
    case measure=>simp [intOf]; omega
   ·go_wp2_with fail
    go_ret
    exact ⟨zAR (by have:=HR2.out; rw [hq] at this; simpa using this),rfl⟩
  ·go_wp2_with fail
   go_ret
   refine ⟨zAR ?_,rfl⟩;have:=HR.out;rw [List.drop_eq_nil_of_le (by have:=H.out; omega)] at this;exact this
theorem zL4 {S:Nat→Prop} {v:Value} {l:List Int} {w:World} (h:RI S w v l) (q:Int) {g:Nat} (hg:w.cell? ⟨g,0,none⟩=some (.int .i64 q)) (hl:l.length≤16777216) :
  Calls Tryz.prog 45 #[v,.pointer (some ⟨g,0,none⟩)] w fun e w'=>e=.returned (.bool (hasI q l))∧w=w':=by
 go_enter Tryz.func45,Tryz.ntmps45
 go_wp2_with fail
 refine (zD5 h q hl).mono ?_;rintro e w' ⟨rfl,rfl⟩;go_wp2_with fail
 go_ret
 exact ⟨rfl,rfl⟩
theorem zH8 {S:Nat→Prop} {v:Value} {L:List (List Int)} {w:World} (h:RII S w v L) (q:Int) {g:Nat} (hg:w.cell? ⟨g,0,none⟩=some (.int .i64 q)) (hl:total L≤16777216) :
  Calls Tryz.prog 44 #[v,.func (.func 45) #[] #[.pointer (some ⟨g,0,none⟩)]] w fun e w'=>e=.returned (.int .i64 (zAq q L 0))∧w=w':=by
 obtain ⟨a,cap,rfl⟩:=h.form;have hn0:L.length≤16777216:=by unfold total at hl; omega
 generalize hr:zAq q L 0=r;have R:Hid (zAq q (L.drop 0) 0=r):=zTD hr;clear hr;generalize hn:L.length=n at *;have H:=zTD hn;clear hn;go_enter Tryz.func44,Tryz.ntmps44
 go_wp2_with fail
 go_loop [8] (fun i=>∃k:Nat,k≤n∧i=.int .i64 k∧Hid (zAq q (L.drop k) k=r)) (fun i=>n-(intOf i).toNat)
 case atStart=>exact ⟨0,Nat.zero_le _,rfl,R⟩
 case round =>
  obtain ⟨k,hk,rfl,HR⟩:=hrel;by_cases hlt:k<n
  ·obtain ⟨b,o,r1,l,rfl,hc,hr1,hx⟩:=h.at hlt;have hll:l.length≤16777216:=by have:=zNJ (zTF hx.out); omega
   have HR2:Hid ((if hasI q l then (k:Int) else zAq q (L.drop (k+1)) (k+1))=r):=by
    have:=HR.out;rw [zAK hx.out,zAq] at this;exact zTD this
   go_wp2_with fail
   refine (zL4 hr1 q hg hll).mono ?_;rintro e w' ⟨rfl,rfl⟩;cases hq:hasI q l
   ·go_wp2_with fail
    go_round
    case rel=>exact ⟨k+1,by omega,by go_num,by have:=HR2.out; rw [hq] at this; exact zTD (by simpa using this)⟩
    case measure=>simp [intOf]; omega
   ·go_wp2_with fail
    go_ret
    exact ⟨zAR (by have:=HR2.out; rw [hq] at this; simpa using this),rfl⟩
  ·go_wp2_with fail
   go_ret
   refine ⟨zAR ?_,rfl⟩;have:=HR.out;rw [List.drop_eq_nil_of_le (by have:=H.out; omega)] at this;exact this
theorem zGF {S:Nat→Prop} {v:Value} {L:List (List Int)} {q:Int} {w:World} (h:RII S w v L) (hl:total L≤16777216) :
  Calls Tryz.prog 14 #[v,.int .i64 q] w fun e w'=>e=.returned (.int .i64 (zAq q L 0))∧Below w.heap.size w w':=by
 have bb:=(Below.refl w.heap.size w).alloc (zTI _) (.cells #[.int .i64 q] 3);have hc:(w.alloc (.cells #[.int .i64 q] 3)).cell? ⟨w.heap.size,0,none⟩=some (.int .i64 q):=by go_simp
 go_enter Tryz.func14,Tryz.ntmps14
 go_wp2_with fail
 refine (zH8 (h.below bb) q hc hl).mono ?_;rintro e w' ⟨rfl,rfl⟩;go_wp2_with fail
 go_ret
 exact ⟨rfl,bb⟩
end Go.Proofs.YtlgcdacpjcnjgaaGreatDoor
