/- The points whose number is 0. Condition: sizes up to 2^24. -/
import Derived.Test.YtiohpndgemonjaaGreatJGCart
import Derived.Test.YtiohpndgemonjaaGreatJDom
namespace Go.Proofs.YtiohpndgemonjaaGreat
open Go.RowKit
set_option maxRecDepth 20000
set_option maxHeartbeats 8000000
def zAH:List Int→Nat→List Int
 | [],_=>[]
 | x::xs,k=>if x=0 then (k:Int)::zAH xs (k+1) else zAH xs (k+1)
def stab (c:List (List Int)) (v:List Int):List Int:=if isW c v then (if dom v then zAH v 0 else []) else []
def zB8 (c:List (List Int)) (v:List Int):Bool:=if isW c v then dom v else false
theorem zEz:∀(l:List Int) (k:Nat),(zAH l k).length≤l.length
 | [],k=>by simp [zAH]
 | x::xs,k=>by
  have:=zEz xs (k+1);unfold zAH;split <;> simp <;> omega
theorem zKQ (c:List (List Int)) (v:List Int):(stab c v).length≤v.length:=by
 have:=zEz v 0;unfold stab;split <;> try split
 all_goals simp
 exact this
theorem FI.fresh (w:World) {w1:World} (h:w1=w.alloc (.cells #[] 3)):FI (New w w1) w1 (.slice (some ⟨w.heap.size,0,none⟩) 0 0) []:=by
 subst h;exact FI.of_row (World.ownsRow_lit (base:=w.heap.size) (e:=3) (size:=1) w #[] 0 (zQj _) (by unfold maxLen; omega) rfl) (zQj _) rfl rfl
theorem zFv {S S':Nat→Prop} {u v:Value} {c:List (List Int)} {l:List Int} {w:World} (h:RII S w u c) (h':RI S' w v l) (hl:total c≤16777216) (hl':l.length≤16777216) :
  Calls Tryz.prog 29 #[u,v] w fun e w'=>∃r,e=.returned (.tuple #[r,.bool (zB8 c l)])∧FI (New w w') w' r (stab c l)∧Below w.heap.size w w':=by
 have R1:Hid (stab c l=if isW c l then (if dom l then zAH l 0 else []) else []):=zQe rfl;have R2:Hid (zB8 c l=if isW c l then dom l else false):=zQe rfl;generalize stab c l=res at *;generalize zB8 c l=ok at *;go_enter Tryz.func29,Tryz.ntmps29
 go_wp2_with fail
 obtain ⟨w1,hw1⟩:∃w1,w1=w.alloc (.cells #[] 3):=⟨_,rfl⟩;have b1:Below w.heap.size w w1:=by rw [hw1]; exact (Below.refl _ w).alloc (zQj _) _
 have f1:=FI.fresh w hw1;rw [<-hw1];clear hw1;refine (zCO (h.below b1) (h'.below b1) hl hl').mono ?_;rintro e w2 ⟨rfl,hw2⟩;have b2:=zAO hw2;have b3:=zAA.step b1 b2;have f2:=f1.grow b2;clear hw2 f1 b1 b2;cases hW:isW c l
 ·go_wp2_with fail
  go_ret2
  exact ⟨_,by rw [R2.out,hW]; rfl,by rw [R1.out,hW]; exact f2,b3⟩
 ·go_wp2_with fail
  refine (zCb (h'.below b3) hl').mono ?_;rintro e w' ⟨rfl,rfl⟩;cases hD:dom l
  ·go_wp2_with fail
   go_ret2
   exact ⟨_,by rw [R2.out,hW,hD]; rfl,by rw [R1.out,hW,hD]; exact f2,b3⟩
  ·have R3:Hid (zAH (l.drop 0) 0=res):=zQe (by rw [R1.out,hW,hD]; simp);have R4:Hid (true=ok):=zQe (by rw [R2.out,hW,hD]; rfl);clear R1 R2;obtain ⟨a',cap',rfl⟩:=h'.form;have h2:=h'.below b3;generalize hn:l.length=n at *;have H:=zQe hn;clear hn;go_wp2_with fail
   go_loopw [6,7] (fun q i wr=>∃(k:Nat) (acc:List Int),k≤n∧i=.int .i64 k∧FI (New w wr) wr q acc∧acc.length≤k∧Below w.heap.size w wr∧Hid (acc++zAH (l.drop k) k=res)) (fun _ i _=>n-(intOf i).toNat)
   case atStart=>exact ⟨0,[],Nat.zero_le _,rfl,f2,Nat.zero_le _,b3,R3⟩
   case round =>
    obtain ⟨k,acc,hk,rfl,hf,hal,hb,HR⟩:=hrel;by_cases hlt:k<n
    ·obtain ⟨b,o,x,rfl,hc,hx⟩:=(h'.below hb).at hlt;have HR2:Hid (acc++(if x=0 then (k:Int)::zAH (l.drop (k+1)) (k+1) else zAH (l.drop (k+1)) (k+1))=res):=by
      have:=HR.out;rw [zAC hx.out,zAH] at this;exact zQe this
     by_cases h0:x=0
     ·have e0:(x == 0)=true:=by simp [h0]
      have HR3:Hid ((acc++[(k:Int)])++zAH (l.drop (k+1)) (k+1)=res):=by have:=HR2.out; rw [if_pos h0] at this; exact zQe (by simpa using this)
      clear h0;have bb:=(Below.refl wr.heap.size wr).alloc (zQj _) (.cells #[.int .i64 k] 3);go_wp2_with (at_builtin; go_must (refine zAE (W:=w) rfl _ _ rfl rfl (hf.grow bb) (zAA.step hb bb) rfl (RI.one wr k) ?_ ?_))
      ·simp; omega
      ·intro v' w2 f3 b4 _;go_wp2_with fail
       go_roundw
       case rel=>exact ⟨k+1,acc++[(k:Int)],by omega,by go_num,f3,by simp; omega,b4,HR3⟩
       case measure=>simp [intOf]; omega
     ·have e0:(x == 0)=false:=by simp [h0]
      have HR3:Hid (acc++zAH (l.drop (k+1)) (k+1)=res):=by have:=HR2.out; rw [if_neg h0] at this; exact zQe this
      clear h0;go_wp2_with fail
      go_roundw
      case rel=>exact ⟨k+1,acc,by omega,by go_num,hf,by omega,hb,HR3⟩
      case measure=>simp [intOf]; omega
    ·go_wp2_with fail
     go_ret2
     have e:acc=res:=by
      have:=HR.out;rw [List.drop_eq_nil_of_le (by have:=H.out; omega)] at this;simpa [zAH] using this
     subst e;exact ⟨_,by rw [<-R4.out]; rfl,hf,hb⟩
theorem zDT {S S':Nat→Prop} {u v:Value} {c:List (List Int)} {l:List Int} {w:World} (h:RII S w u c) (h':RI S' w v l) (hl:total c≤16777216) (hl':l.length≤16777216) :
  Calls Tryz.prog 14 #[u,v] w fun e w'=>∃r,e=.returned (.tuple #[r,.bool (zB8 c l)])∧FI (New w w') w' r (stab c l)∧Below w.heap.size w w':=by
 have R1:Hid (stab c l=if isW c l then (if dom l then zAH l 0 else []) else []):=zQe rfl;have R2:Hid (zB8 c l=if isW c l then dom l else false):=zQe rfl;generalize stab c l=res at *;generalize zB8 c l=ok at *;go_enter Tryz.func14,Tryz.ntmps14
 go_wp2_with fail
 refine (zCN h h' hl hl').mono ?_;rintro e w2 ⟨rfl,hw2⟩;have b3:=zAO hw2;clear hw2;have f2:=(FI.fresh w2 rfl).mono (S':=New w (w2.alloc (.cells #[] 3))) (fun b hb=>⟨by have:=hb.1; have:=b3.size; omega,hb.2⟩);have b4:=b3.alloc b3.size (.cells #[] 3);cases hW:isW c l
 ·go_wp2_with fail
  go_ret2
  exact ⟨_,by rw [R2.out,hW]; rfl,by rw [R1.out,hW]; exact f2,b4⟩
 ·go_wp2_with fail
  refine (zBB (h'.below b3) hl').mono ?_;rintro e w' ⟨rfl,rfl⟩;cases hD:dom l
  ·go_wp2_with fail
   go_ret2
   exact ⟨_,by rw [R2.out,hW,hD]; rfl,by rw [R1.out,hW,hD]; exact f2,b4⟩
  ·have R3:Hid (zAH (l.drop 0) 0=res):=zQe (by rw [R1.out,hW,hD]; simp);have R4:Hid (true=ok):=zQe (by rw [R2.out,hW,hD]; rfl);clear R1 R2;obtain ⟨a',cap',rfl⟩:=h'.form;have h2:=h'.below b3;generalize hn:l.length=n at *;have H:=zQe hn;clear hn;go_wp2_with fail
   go_loopw [6,22] (fun q i wr=>∃(k:Nat) (acc:List Int),k≤n∧i=.int .i64 k∧FI (New w wr) wr q acc∧acc.length≤k∧Below w.heap.size w wr∧Hid (acc++zAH (l.drop k) k=res)) (fun _ i _=>n-(intOf i).toNat)
   case atStart=>exact ⟨0,[],Nat.zero_le _,rfl,f2,Nat.zero_le _,b4,R3⟩
   case round =>
    obtain ⟨k,acc,hk,rfl,hf,hal,hb,HR⟩:=hrel;by_cases hlt:k<n
    ·obtain ⟨b,o,x,rfl,hc,hx⟩:=(h'.below hb).at hlt;have HR2:Hid (acc++(if x=0 then (k:Int)::zAH (l.drop (k+1)) (k+1) else zAH (l.drop (k+1)) (k+1))=res):=by
      have:=HR.out;rw [zAC hx.out,zAH] at this;exact zQe this
     by_cases h0:x=0
     ·have e0:(x == 0)=true:=by simp [h0]
      have HR3:Hid ((acc++[(k:Int)])++zAH (l.drop (k+1)) (k+1)=res):=by have:=HR2.out; rw [if_pos h0] at this; exact zQe (by simpa using this)
      clear h0;have bb:=(Below.refl wr.heap.size wr).alloc (zQj _) (.cells #[.int .i64 k] 3);go_wp2_with (at_builtin; go_must (refine zAE (W:=w) rfl _ _ rfl rfl (hf.grow bb) (zAA.step hb bb) rfl (RI.one wr k) ?_ ?_))
      ·simp; omega
      ·intro v' w2 f3 b4 _;go_wp2_with fail
       go_roundw
       case rel=>exact ⟨k+1,acc++[(k:Int)],by omega,by go_num,f3,by simp; omega,b4,HR3⟩
       case measure=>simp [intOf]; omega
     ·have e0:(x == 0)=false:=by simp [h0]
      have HR3:Hid (acc++zAH (l.drop (k+1)) (k+1)=res):=by have:=HR2.out; rw [if_neg h0] at this; exact zQe this
      clear h0;go_wp2_with fail
      go_roundw
      case rel=>exact ⟨k+1,acc,by omega,by go_num,hf,by omega,hb,HR3⟩
      case measure=>simp [intOf]; omega
    ·go_wp2_with fail
     go_ret2
     have e:acc=res:=by
      have:=HR.out;rw [List.drop_eq_nil_of_le (by have:=H.out; omega)] at this;simpa [zAH] using this
     subst e;exact ⟨_,by rw [<-R4.out]; rfl,hf,hb⟩
end Go.Proofs.YtiohpndgemonjaaGreat
