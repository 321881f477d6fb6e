/- Small weights; greatest common divisors of natural numbers: by both. Condition: sizes up to 2^24, numbers below 2^62. -/
import Derived.Test.YtiohpndgemonjaaGreatJGRtS
namespace Go.Proofs.YtiohpndgemonjaaGreat
open Go.RowKit
set_option maxRecDepth 20000
set_option maxHeartbeats 8000000
def sm4 (v:List Int):Bool:=v.all fun x=>decide (0≤x∧x≤4)
theorem zI8 {v:List Int} {k:Nat} {x:Int} (h:v[k]? = some x):sm4 (v.take (k+1))=(sm4 (v.take k) && decide (0≤x∧x≤4)):=by rw [zAP h]; simp [sm4]
theorem zMV {v:List Int} {k:Nat} {x:Int} (h:v[k]? = some x) (hx:¬(0≤x∧x≤4)):sm4 v=false:=by
 unfold sm4;rw [List.all_eq_false];exact ⟨x,zQg h,by simpa using hx⟩
theorem zJc {S S':Nat→Prop} {u v:Value} {c:List (List Int)} {l:List Int} {w:World} (h:RII S w u c) (h':RI S' w v l) (hl:total c≤16777216) (hl':l.length≤16777216) :
  Calls Tryz.prog 61 #[u,v] w fun e w'=>e=.returned (.bool (sm4 l && (finB c && decide (l.length=c.length))))∧Below w.heap.size w w':=by
 have hF:=zQe (fun (w1:World) (b1:Below w.heap.size w w1)=>zBr (h.below b1) hl);have h0':=h';obtain ⟨au,cu,rfl⟩:=h.form;obtain ⟨av,cv,rfl⟩:=h'.form;have HS:=zQe (fun (k:Nat) (x:Int) (hx:l[k]? = some x)=>zI8 hx);have HN:=zQe (fun (k:Nat) (x:Int) (hx:l[k]? = some x) (h:¬(0≤x∧x≤4))=>zMV hx h);have HE:Hid (∀k,l.length≤k→l.take k=l):=zQe (fun k hk=>List.take_of_length_le hk);have H0:Hid (sm4 (l.take 0)=true):=zQe rfl;generalize hlv:l.length=nv at *;generalize hlc:c.length=nc at *;clear hlv hlc;generalize hz:(sm4 l && (finB c && decide (nv=nc)))=z;have HZ:=zQe hz;clear hz;go_enter Tryz.func61,Tryz.ntmps61
 go_wp2_with fail
 go_loop [5] (fun kk=>∃k:Nat,k≤nv∧kk=.int .i64 k∧Hid (sm4 (l.take k)=true)) (fun kk=>nv-(intOf kk).toNat)
 case atStart=>exact ⟨0,Nat.zero_le _,rfl,H0⟩
 case round =>
  obtain ⟨k,hk,rfl,HK⟩:=hrel;by_cases hlt:k<nv
  ·have i1:(k:Int)<(nv:Int):=by omega
   obtain ⟨b,o,x,rfl,hc,hx⟩:=h0'.at hlt;have H1:=zQe (HS.out k x hx.out);have H2:=zQe (HN.out k x hx.out);clear hx;go_wp2_with fail
   refine (zBF _ _ _ _).mono ?_;rintro e w' ⟨rfl,rfl⟩;by_cases hxx:0≤x∧x≤4
   ·have HX:Hid (inR x 0 4=true):=zQe (zBU hxx);have HK2:Hid (sm4 (l.take (k+1))=true):=zQe (by rw [H1.out,HK.out,decide_eq_true hxx]; rfl);rw [HX.out];go_wp2_with fail
    go_round
    case rel=>exact ⟨k+1,by omega,by go_num,HK2⟩
    case measure=>simp [intOf]; omega
   ·have HX:Hid (inR x 0 4=false):=zQe (zIU hxx);have e0:Hid (z=false):=zQe (by rw [<-HZ.out,H2.out hxx]; rfl);rw [HX.out];go_wp2_with fail
    go_ret
    exact ⟨zAB e0.out.symm,Below.refl _ _⟩
  ·have i1:¬(k:Int)<(nv:Int):=by omega
   have hs:=HK.out;rw [HE.out k (by omega)] at hs;have hcall:=hF.out w (Below.refl _ _);have HR:Hid (z=(finB c && decide (nv=nc))):=zQe (by rw [<-HZ.out,hs]; rfl);clear hs;generalize finB c=q at *;go_wp2_with fail
   refine hcall.mono ?_;rintro e w2 ⟨rfl,b2⟩;cases q with
   | false =>
    go_wp2_with fail
    go_ret
    exact ⟨zAB (by rw [HR.out]; rfl),b2⟩
   | true =>
    by_cases hn:nv=nc
    ·have f1:((nv:Int) == (nc:Int))=true:=by simp [hn]
     have e0:Hid ((true && decide (nv=nc))=true):=zQe (by rw [decide_eq_true hn]; rfl);subst hn;go_wp2_with fail
     go_ret
     exact ⟨zAB (by rw [HR.out,e0.out]),b2⟩
    ·have f1:((nv:Int) == (nc:Int))=false:=by simp; omega
     have f2:¬(nv:Int)=(nc:Int):=by omega
     have e0:Hid ((true && decide (nv=nc))=false):=zQe (by rw [decide_eq_false hn]; rfl);go_wp2_with fail
     go_ret
     exact ⟨zAB (by rw [HR.out,e0.out]),b2⟩
theorem zJW {S S':Nat→Prop} {u v:Value} {c:List (List Int)} {l:List Int} {w:World} (h:RII S w u c) (h':RI S' w v l) (hl:total c≤16777216) (hl':l.length≤16777216) :
  Calls Tryz.prog 56 #[u,v] w fun e w'=>e=.returned (.bool (decide (l.length=c.length) && sm4 l))∧∃m,w'=w.drewN m:=by
 have h0':=h';obtain ⟨au,cu,rfl⟩:=h.form;obtain ⟨av,cv,rfl⟩:=h'.form;have hc8:c.length≤16777216:=by unfold total at hl; omega
 have HS:=zQe (fun (k:Nat) (x:Int) (hx:l[k]? = some x)=>zI8 hx);have HN:=zQe (fun (k:Nat) (x:Int) (hx:l[k]? = some x) (h:¬(0≤x∧x≤4))=>zMV hx h);have HE:Hid (∀k,l.length≤k→l.take k=l):=zQe (fun k hk=>List.take_of_length_le hk);have H0:Hid (sm4 (l.take 0)=true):=zQe rfl;generalize hlv:l.length=nv at *;generalize hlc:c.length=nc at *;clear hlv hlc;go_enter Tryz.func56,Tryz.ntmps56
 by_cases hn:nv=nc
 ·have e1:Hid (decide (nv=nc)=true):=zQe (decide_eq_true hn);have f1:((nv:Int) != (nc:Int))=false:=by simp [hn]
  subst hn;go_wp2_with fail
  go_loop [14] (fun kk=>∃k:Nat,k≤nv∧kk=.int .i64 k∧Hid (sm4 (l.take k)=true)) (fun kk=>nv-(intOf kk).toNat)
  case atStart=>exact ⟨0,Nat.zero_le _,rfl,H0⟩
  case round =>
   obtain ⟨k,hk,rfl,HK⟩:=hrel;by_cases hlt:k<nv
   ·have i1:(k:Int)<(nv:Int):=by omega
    obtain ⟨b,o,x,rfl,hc,hx⟩:=h0'.at hlt;have H1:=zQe (HS.out k x hx.out);have H2:=zQe (HN.out k x hx.out);clear hx;by_cases hx0:x<0
    ·have e0:Hid ((decide (nv=nv) && sm4 l)=false):=zQe (by rw [H2.out (by omega)]; simp);go_wp2_with fail
     go_ret
     exact ⟨zAB e0.out.symm,dr0⟩
    ·by_cases hx4:4<x
     ·have e0:Hid ((decide (nv=nv) && sm4 l)=false):=zQe (by rw [H2.out (by omega)]; simp);go_wp2_with fail
      go_ret
      exact ⟨zAB e0.out.symm,dr0⟩
     ·have HK2:Hid (sm4 (l.take (k+1))=true):=zQe (by rw [H1.out,HK.out,decide_eq_true (by omega)]; rfl);go_wp2_with fail
      go_round
      case rel=>exact ⟨k+1,by omega,by go_num,HK2⟩
      case measure=>simp [intOf]; omega
   ·have i1:¬(k:Int)<(nv:Int):=by omega
    have hs:=HK.out;rw [HE.out k (by omega)] at hs;have e0:Hid ((decide (nv=nv) && sm4 l)=true):=zQe (by rw [hs]; simp);clear hs;go_wp2_with fail
    go_ret
    exact ⟨zAB e0.out.symm,dr0⟩
 ·have f1:((nv:Int) != (nc:Int))=true:=by simp; omega
  have e0:Hid ((decide (nv=nc) && sm4 l)=false):=zQe (by rw [decide_eq_false hn]; rfl);go_wp2_with fail
  go_ret
  exact ⟨zAB e0.out.symm,dr0⟩
end Go.Proofs.YtiohpndgemonjaaGreat
